/- ForwardKnown, walked. -/
import Derived.Test.YthlohgldcnicbaaApp
import Derived.Test.YthlohgldcnicbaaMisc
import Derived.Test.YthlohgldcnicbaaMid
import Derived.Test.YthlohgldcnicbaaArgs
import Derived.BigQuiet
set_option linter.unusedVariables false
namespace Go.Proofs.Ythlohgldcnicbaa
open Go.RowKit Go.Deep Go.BigFrame
attribute [local go_sem ↓] Go.wp_at_zero Go.wp_at_succ
/-- The forwards of the row. -/
def kF (i : Nat) : Fw := ⟨6, 2001 + (i : Int), 167772161, 80⟩
def kL (n : Nat) : List Fw := (List.range n).map kF
theorem kL_len (n : Nat) : (kL n).length = n := by simp [kL]
theorem kL_succ (n : Nat) : kL (n + 1) = kL n ++ [kF n] := by simp [kL, List.range_succ]
theorem kL_ok (n : Nat) (h : n ≤ 65) : ∀ f ∈ kL n, f.Ok := by
  intro f hf
  simp only [kL, List.mem_map, List.mem_range] at hf
  obtain ⟨i, hi, rfl⟩ := hf
  unfold Fw.Ok kF
  refine ⟨rfl, ?_, rfl, rfl⟩
  show (decide ((0 : Int) ≤ 2001 + (i : Int)) && decide (2001 + (i : Int) ≤ 65535)) = true
  simp
  omega
theorem kL_may : mayF cfg0 ((kL 65).drop 1) = true := by kernel_rfl
theorem kL_long : mayF cfg0 (kL 65) = false := may_long (by rw [kL_len]; decide)
theorem kL_one : mayF cfg0 ((kL 65).take 1) = true := by kernel_rfl
theorem kL_srt : Srt ((kL 65).drop 1) ((kL 65).drop 1) := ⟨List.Perm.refl _, by decide +kernel⟩
def kX : Tup := ⟨6, 167772161, 0, 80, 0⟩
def kY : Tup := ⟨6, 7, 0, 2002, 0⟩
theorem kL_out : outT ((kL 65).drop 1) kX 7 = kY := by kernel_rfl
theorem kL_outs : (outO ((kL 65).drop 1) kX).isSome = true := by kernel_rfl
def xK : Tup := ⟨6, 0, 1, 0, 2⟩
def eF (p : Int) : Fw := ⟨17, p, 167772160, 1⟩
def zF : Fw := ⟨6, 1, 167772160, 0⟩
theorem e999 : mayF cfg0 [eF 999] = true := by kernel_rfl
theorem e1000 : mayF cfg0 [eF 1000] = false := by kernel_rfl
theorem e2000 : mayF cfg0 [eF 2000] = false := by kernel_rfl
theorem e2001 : mayF cfg0 [eF 2001] = true := by kernel_rfl
theorem e0 : mayF cfg0 [eF 0] = false := by kernel_rfl
theorem ez : mayF cfg0 [zF] = false := by kernel_rfl
theorem enil : mayF cfg0 [] = true := by kernel_rfl
theorem cfgz_ok : cfgz.Ok := by unfold Cfg.Ok cfgz; decide
theorem ins5 : insF cfgz 5 = true := by kernel_rfl
theorem may1v (f : Fw) (hf : f.Ok) (b : Bool) (hm : mayF cfg0 [f] = b) (Z : World) : Calls Try.prog 7 #[cfg0.val, .slice (some ⟨Z.heap.size, 0, none⟩) 1 1] (Z.alloc (.cells f.arr 37)) fun e w' => e = .returned (.bool b) ∧ Below Z.heap.size Z w' := by
  have h := may_any cfg0_ok (some ⟨Z.heap.size, 0, none⟩) 1 1 [f] (Z.alloc (.cells f.arr 37)) rfl (fws_one (heap_alloc_new _ _)) (by intro g hg; simp at hg; rw [hg]; exact hf) (by decide)
  rw [hm] at h
  exact h.mono fun e w' ⟨a1, a2⟩ => ⟨a1, ((Below.refl _ _).alloc (Nat.le_refl _) _).trans (a2.mono (by simp))⟩
theorem store44 (w : World) (c c' : Tup) : (Instr.storeAt 44 (.pointer (some ⟨w.heap.size, 0, none⟩)) c'.val).run Try.prog (w.alloc (.cells c.arr 44)) = .ok () (w.alloc (.cells c'.arr 44)) :=
  run_storeAt_new w 44 c.arr c'.arr (by kernel_rfl) rfl (by simp [Tup.arr, Value.oneCell'])
def zT : Tup := ⟨0, 0, 0, 0, 0⟩
set_option maxHeartbeats 32000000
set_option maxRecDepth 100000
/-- The closure of the row. -/
theorem edge_any (p : Int) (hp : (Lit.int .u16 p).wf = true) (b : Bool) (hb : mayF cfg0 [eF p] = b) (w : World) (q : Nat) (hq : w.heap[q]? = some (.cells cfg0.arr 29 (0, 0))) :
    Calls Try.prog 23 #[.int .u16 p, .pointer (some ⟨q, 0, none⟩)] w fun e w' => e = .returned (.bool b) ∧ Below w.heap.size w w' := by
  have c0 : w.cell? ⟨q, 0, none⟩ = some (.int .u32 167772160) := cell_of hq 0
  have HLD := Lib.hid (load29 hq)
  have HM := Lib.hid (fun Z => may1v (eF p) (by unfold Fw.Ok eF; exact ⟨rfl, hp, rfl, rfl⟩) b hb Z)
  unfold Cfg.val Cfg.arr cfg0 at HLD
  unfold Cfg.val Cfg.arr cfg0 Fw.arr eF at HM
  clear hq hb hp
  go_enter Try.func23, Try.ntmps23
  go_wp2_with (refine wpList_load_at _ 29 _ rfl rfl _ (by exact HLD.out) ?_)
  refine (HM.out w).mono ?_
  rintro e w1 ⟨rfl, hw1⟩
  go_wp2_with fail
  go_ret
  exact ⟨rfl, hw1⟩
theorem known_row (w : World) : Calls Try.prog 5 #[] w fun e w' => e = .returned (.bool true) ∧ Below w.heap.size w w' := by
  have HF := Lib.hid (find_nil 6 80 w)
  have HWK := Lib.hid wakes_any
  have HCF := Lib.hid config_any
  unfold Fw.val Fw.arr Fw.zero at HF
  go_enter Try.func5, Try.ntmps5
  go_wp2_with fail
  refine HF.out.mono ?_
  rintro e w1 ⟨rfl, hb1⟩
  obtain ⟨q, hq⟩ : ∃ q, w1.heap.size = q := ⟨_, rfl⟩
  have H1 := Lib.hid (And.intro hb1 hq)
  clear hb1 hq
  go_upto_region 4 with (fail)
  refine wp_name fun X hX => ?_
  have hX' : X = (w1.alloc (.cells Fw.zero.arr 37)).alloc (.cells xK.arr 44) := hX
  have hbX : Below w.heap.size w X := by rw [hX']; exact (H1.out.1.alloc H1.out.1.size _).alloc (by have := H1.out.1.size; simp; omega) _
  have hx : X.heap[q + 1]? = some (.cells xK.arr 44 (0, 0)) := by
    rw [hX', ← H1.out.2]
    have := heap_alloc_new (w1.alloc (.cells Fw.zero.arr 37)) (.cells xK.arr 44)
    rwa [World.size_alloc] at this
  rw [H1.out.2]
  have HX := Lib.hid (And.intro hbX hx)
  as_aux_lemma =>
  have x0 : X.cell? ⟨q + 1, 0, none⟩ = some (.int .u8 6) := cell_of (hx) 0
  have x1 : X.cell? ⟨q + 1, 1, none⟩ = some (.int .u32 0) := cell_of (hx) 1
  have x2 : X.cell? ⟨q + 1, 2, none⟩ = some (.int .u32 1) := cell_of (hx) 2
  have x3 : X.cell? ⟨q + 1, 3, none⟩ = some (.int .u16 0) := cell_of (hx) 3
  have x4 : X.cell? ⟨q + 1, 4, none⟩ = some (.int .u16 2) := cell_of (hx) 4
  clear hX hX' hbX hx
  have HI := Lib.hid (fun W => inward_nil xK W)
  have HO := Lib.hid (fun W => outward_nil xK 9 W)
  have E := tup_neq xK xK
  simp only [decide_true, Bool.not_true] at E
  unfold Tup.val Tup.arr xK at HI HO E
  go_wp2_with fail
  refine (HI.out X).mono ?_
  rintro e U ⟨rfl, hU⟩
  obtain ⟨p5, hp5⟩ : ∃ p5, U.heap.size = p5 := ⟨_, rfl⟩
  have HU := Lib.hid (And.intro hU hp5)
  clear hU hp5 x0 x1 x2 x3 x4
  go_upto_region 5 with (fail)
  refine wp_name fun U1 hU1 => ?_
  have hU1' : U1 = U.alloc (.cells xK.arr 44) := hU1
  have hb1 : Below X.heap.size X U1 := by rw [hU1']; exact HU.out.1.trans ((bel_alloc _ _).mono HU.out.1.size)
  have hy : U1.heap[p5]? = some (.cells xK.arr 44 (0, 0)) := by rw [hU1', ← HU.out.2]; exact heap_alloc_new U _
  rw [HU.out.2]
  have hx := (hb1.block _ (Array.getElem?_eq_some_iff.1 HX.out.2).1).trans HX.out.2
  have HU1 := Lib.hid (And.intro hb1 (And.intro hx hy))
  have x0 : U1.cell? ⟨q + 1, 0, none⟩ = some (.int .u8 6) := cell_of (hx) 0
  have x1 : U1.cell? ⟨q + 1, 1, none⟩ = some (.int .u32 0) := cell_of (hx) 1
  have x2 : U1.cell? ⟨q + 1, 2, none⟩ = some (.int .u32 1) := cell_of (hx) 2
  have x3 : U1.cell? ⟨q + 1, 3, none⟩ = some (.int .u16 0) := cell_of (hx) 3
  have x4 : U1.cell? ⟨q + 1, 4, none⟩ = some (.int .u16 2) := cell_of (hx) 4
  clear hU1 hU1' hb1 hx hy
  go_wp2_with fail
  refine (HO.out U1).mono ?_
  rintro e V ⟨rfl, hV⟩
  obtain ⟨p7, hp7⟩ : ∃ p7, V.heap.size = p7 := ⟨_, rfl⟩
  have HV := Lib.hid (And.intro hV hp7)
  clear hV hp7 x0 x1 x2 x3 x4
  go_upto_region 6 with (fail)
  refine wp_name fun V1 hV1 => ?_
  have hV1' : V1 = V.alloc (.cells xK.arr 44) := hV1
  have hb1 : Below U1.heap.size U1 V1 := by rw [hV1']; exact HV.out.1.trans ((bel_alloc _ _).mono HV.out.1.size)
  have hz : V1.heap[p7]? = some (.cells xK.arr 44 (0, 0)) := by rw [hV1', ← HV.out.2]; exact heap_alloc_new V _
  rw [HV.out.2]
  have hx := (hb1.block _ (Array.getElem?_eq_some_iff.1 HU1.out.2.1).1).trans HU1.out.2.1
  have hy := (hb1.block _ (Array.getElem?_eq_some_iff.1 HU1.out.2.2).1).trans HU1.out.2.2
  have HV1 := Lib.hid (HX.out.1.trans ((HU1.out.1.trans (hb1.mono HU1.out.1.size)).mono HX.out.1.size))
  have x0 : V1.cell? ⟨q + 1, 0, none⟩ = some (.int .u8 6) := cell_of (hx) 0
  have x1 : V1.cell? ⟨q + 1, 1, none⟩ = some (.int .u32 0) := cell_of (hx) 1
  have x2 : V1.cell? ⟨q + 1, 2, none⟩ = some (.int .u32 1) := cell_of (hx) 2
  have x3 : V1.cell? ⟨q + 1, 3, none⟩ = some (.int .u16 0) := cell_of (hx) 3
  have x4 : V1.cell? ⟨q + 1, 4, none⟩ = some (.int .u16 2) := cell_of (hx) 4
  have y0 : V1.cell? ⟨p5, 0, none⟩ = some (.int .u8 6) := cell_of (hy) 0
  have y1 : V1.cell? ⟨p5, 1, none⟩ = some (.int .u32 0) := cell_of (hy) 1
  have y2 : V1.cell? ⟨p5, 2, none⟩ = some (.int .u32 1) := cell_of (hy) 2
  have y3 : V1.cell? ⟨p5, 3, none⟩ = some (.int .u16 0) := cell_of (hy) 3
  have y4 : V1.cell? ⟨p5, 4, none⟩ = some (.int .u16 2) := cell_of (hy) 4
  have z0 : V1.cell? ⟨p7, 0, none⟩ = some (.int .u8 6) := cell_of (hz) 0
  have z1 : V1.cell? ⟨p7, 1, none⟩ = some (.int .u32 0) := cell_of (hz) 1
  have z2 : V1.cell? ⟨p7, 2, none⟩ = some (.int .u32 1) := cell_of (hz) 2
  have z3 : V1.cell? ⟨p7, 3, none⟩ = some (.int .u16 0) := cell_of (hz) 3
  have z4 : V1.cell? ⟨p7, 4, none⟩ = some (.int .u16 2) := cell_of (hz) 4
  clear hV1 hV1' hb1 hx hy hz
  have HA := Lib.hid (all_nil V1)
  go_wp2_with fail
  refine HA.out.mono ?_
  rintro e V2 ⟨rfl, rfl⟩
  clear x0 x1 x2 x3 x4 y0 y1 y2 y3 y4 z0 z1 z2 z3 z4
  go_wp2_with fail
  refine (HCF.out _).mono ?_
  rintro e X1 ⟨rfl, hb1⟩
  have HST := Lib.hid (store29 X1 cfgz cfg0)
  unfold Cfg.val Cfg.arr cfg0 cfgz at HST
  unfold Cfg.val Cfg.arr cfg0
  have HB1 := Lib.hid (HV1.out.trans (hb1.mono HV1.out.size))
  clear hb1 E
  go_upto_region 9 with (refine wpList_store_at _ 29 _ _ rfl rfl _ (by exact HST.out) ?_)
  refine wp_name fun Y hY => ?_
  obtain ⟨y, hy⟩ : ∃ y, X1.heap.size = y := ⟨_, rfl⟩
  have hY' : Y = X1.alloc (.cells cfg0.arr 29) := hY
  have hwY : Below w.heap.size w Y := by rw [hY']; exact HB1.out.alloc HB1.out.size _
  have hcY : Y.heap[y]? = some (.cells cfg0.arr 29 (0, 0)) := by rw [hY', ← hy]; exact heap_alloc_new X1 _
  have HY := Lib.hid (And.intro hwY hcY)
  rw [hy]
  clear hY hY' hwY hcY hy HST HF H1 HX HI HO HU HU1 HV HV1 HA HB1
  as_aux_lemma =>
  go_wp2_with fail
  go_loopw [10, 11] (fun v10 v11 wr => ∃ (i : Nat) (A : Option Addr) (c : Nat), v11 = .int .i64 i ∧ v10 = .slice A i c ∧ i ≤ 65 ∧ wr.ownsRow Y.heap.size 37 4 (.slice A i c) i (row (kL i)) ∧ Below Y.heap.size Y wr) (fun _ v11 _ => 65 - (intOf v11).toNat)
  case atStart => exact ⟨0, none, 0, rfl, rfl, by omega, own_nil37 _ _, Below.refl _ _⟩
  case round =>
    obtain ⟨i, A, c, rfl, rfl, hi, ho, hb⟩ := hrel
    have HR := Lib.hid (And.intro ho hb)
    clear ho hb
    by_cases hlt : i ≤ 64
    · obtain ⟨v1, w1, a1, o1, g1⟩ := app37 (wr.alloc (.cells (kF i).arr 37)) Y.heap.size (.slice A i c) i (kL i) (row_below HR.out.1 (bel_alloc _ _)) (some ⟨wr.heap.size, 0, none⟩) 1 1 [kF i] rfl (fws_one (heap_alloc_new _ _)) (by rw [World.size_alloc]; have := HR.out.2.size; omega) (by omega)
      have hb1 : Below Y.heap.size Y w1 := grown_bel (HR.out.2.trans ((bel_alloc _ _).mono HR.out.2.size)) g1 (fun k e => (HR.out.1.lt k e).1)
      rw [← kL_succ] at o1
      obtain ⟨A1, c1, rfl⟩ := own_len o1
      have HA1 := Lib.hid a1
      unfold kF Fw.arr at HA1
      have HO1 := Lib.hid (And.intro o1 hb1)
      have hcv : (2001 + (i : Int)) % 65536 = 2001 + (i : Int) := by omega
      clear a1 o1 g1 hb1
      go_wp2_with (at_builtin; refine Lib.wpList_append_run _ rfl _ _ 27 27 rfl _ _ rfl rfl _ _ (by exact HA1.out _) ?_)
      go_roundw
      case rel => exact ⟨i + 1, A1, c1, by simp, rfl, by omega, HO1.out.1, HO1.out.2⟩
      case measure => simp [intOf]; omega
    · obtain rfl : i = 65 := by omega
      as_aux_lemma =>
      have hcp := own_capK HR.out.1
      have HCP := Lib.hid hcp
      obtain ⟨ga, rfl⟩ : ∃ ga, A = some ⟨ga, 0, none⟩ := by
        rcases HR.out.1.2 with ⟨_, h0⟩ | ⟨g, cap, cur, h0, _⟩
        · exact absurd h0 (by decide)
        · injection h0 with h0 _ _
          exact ⟨g, h0⟩
      have HCUT : Hid (cutA (some ⟨ga, 0, none⟩) 1 c = some ⟨ga, 4, none⟩) := Lib.hid (by unfold cutA; rw [if_neg (by omega)]; rfl)
      have hfs : FwsAt wr (some ⟨ga, 0, none⟩) (kL 65) := FwsAt.own (B := Y.heap.size) (c := c) (by rw [kL_len]; exact HR.out.1)
      have HFS := Lib.hid hfs
      have HLD : Hid (∀ Z, Below Y.heap.size Y Z → (Instr.loadAt 29 (.pointer (some ⟨y, 0, none⟩))).run Try.prog Z = .ok cfg0.val Z) := Lib.hid (fun Z hZ => load29 ((hZ.block _ (Array.getElem?_eq_some_iff.1 HY.out.2).1).trans HY.out.2))
      have HNEW : Hid (∀ k, Calls Try.prog 9 #[cfg0.val, .slice (some ⟨ga, 4, none⟩) 64 (c - 1)] (wr.drewN k) fun e w' => ∃ g b nn, e = .returned (.tuple #[.pointer (some ⟨g, 0, none⟩), .int .i64 0]) ∧ Tb w' g b nn ((kL 65).drop 1) ∧ Below (wr.drewN k).heap.size (wr.drewN k) w') := Lib.hid (fun k =>
        new_yes cfg0_ok (some ⟨ga, 4, none⟩) 64 (c - 1) ((kL 65).drop 1) (wr.drewN k) (by rw [List.length_drop, kL_len]) (by have h1 := hfs.from 1 (c := c) (by rw [kL_len]; exact HCP.out); rw [HCUT.out] at h1; exact h1.below (below_drewN (Below.refl _ _) k)) (fun f hf => kL_ok 65 (by decide) f (List.mem_of_mem_drop hf)) (by decide) kL_may)
      have HLW : Hid (∀ W, (∃ k, W = wr.drewN k) → (Instr.loadAt 29 (.pointer (some ⟨y, 0, none⟩))).run Try.prog W = .ok cfg0.val W) := Lib.hid (fun W hW => by
        obtain ⟨k, rfl⟩ := hW
        exact HLD.out _ (below_drewN HR.out.2 k))
      unfold Cfg.val Cfg.arr cfg0 at HLD HNEW HLW
      clear hfs
      go_upto_region 16 with (fail)
      refine wp_region_mid 3 _ (by kernel_rfl) (by kernel_rfl) rfl ?_
      simp only [List.take_succ_cons, List.take_zero, List.drop_succ_cons, List.drop_zero]
      refine wpQuiet_load 29 _ rfl rfl _ (by exact HLW.out) ?_
      simp only [Act.put, List.setIfInBounds_toArray, List.set_cons_succ, List.set_cons_zero]
      repeat (go_big_quiet_step (fail))
      refine wpQuiet_nil ?_
      rintro _ ⟨nq, rfl⟩
      go_wp2_with fail
      refine (HNEW.out nq).mono ?_
      rintro e V ⟨g, b, nn, rfl, hT, hV⟩
      go_wp2_with fail
      repeat (go_big_quiet_step (fail))
      refine wpQuiet_nil ?_
      rintro _ ⟨nq2, rfl⟩
      obtain ⟨Z, hZZ⟩ : ∃ Z, V.drewN nq2 = Z := ⟨_, rfl⟩
      have hZb : Below Y.heap.size Y Z := by
        rw [← hZZ]
        exact below_drewN ((below_drewN HR.out.2 nq).trans (hV.mono (by simpa using HR.out.2.size))) nq2
      have hTZ : Tb Z g b nn ((kL 65).drop 1) := by
        rw [← hZZ]
        exact hT.below (below_drewN (Below.refl V.heap.size V) nq2)
      have hfZ : FwsAt Z (some ⟨ga, 0, none⟩) (kL 65) := by
        rw [← hZZ]
        exact ((HFS.out.below (below_drewN (Below.refl _ _) nq)).below hV).below (below_drewN (Below.refl V.heap.size V) nq2)
      rw [hZZ]
      have HZ := Lib.hid hZb
      have HFZ := Lib.hid hfZ
      have HOUT : Hid (Calls Try.prog 19 #[.pointer (some ⟨g, 0, none⟩), kX.val, .int .u32 7] Z fun e w' => e = .returned (.tuple #[kY.val, .bool true]) ∧ Below Z.heap.size Z w') := Lib.hid (by
        have := outward_any hTZ kL_srt kX 7
        rwa [kL_out, kL_outs] at this)
      unfold Tup.val Tup.arr kX kY at HOUT
      clear hZZ hT hV hZb hTZ hfZ HNEW HLW HFS
      as_aux_lemma =>
      have HMA : Hid (∀ W, FwsAt W (some ⟨ga, 0, none⟩) (kL 65) → Calls Try.prog 7 #[cfg0.val, .slice (some ⟨ga, 0, none⟩) 65 c] W fun e w' => e = .returned (.bool false) ∧ Below W.heap.size W w') := Lib.hid (fun W hW => by
        have := may_any cfg0_ok (some ⟨ga, 0, none⟩) 65 c (kL 65) W (kL_len 65) hW (kL_ok 65 (by decide)) (by decide)
        rwa [kL_long] at this)
      have HMB : Hid (∀ W, FwsAt W (some ⟨ga, 0, none⟩) (kL 65) → Calls Try.prog 7 #[cfg0.val, .slice (some ⟨ga, 0, none⟩) 1 c] W fun e w' => e = .returned (.bool true) ∧ Below W.heap.size W w') := Lib.hid (fun W hW => by
        have := may_any cfg0_ok (some ⟨ga, 0, none⟩) 1 c ((kL 65).take 1) W (by rw [List.length_take, kL_len]; rfl) (hW.took 1) (fun f hf => kL_ok 65 (by decide) f (List.mem_of_mem_take hf)) (by decide)
        rwa [kL_one] at this)
      have HEDGE : Hid (∀ p b, (Lit.int .u16 p).wf = true → mayF cfg0 [eF p] = b → ∀ W, Below Y.heap.size Y W → Calls Try.prog 23 #[.int .u16 p, .pointer (some ⟨y, 0, none⟩)] W fun e w' => e = .returned (.bool b) ∧ Below W.heap.size W w') := Lib.hid (fun p b h1 h2 W hW => edge_any p h1 b h2 W y ((hW.block _ (Array.getElem?_eq_some_iff.1 HY.out.2).1).trans HY.out.2))
      have HMZ := Lib.hid (fun Z => may1v zF (by unfold Fw.Ok zF; exact ⟨rfl, rfl, rfl, rfl⟩) false ez Z)
      have HMN : Hid (∀ W, Calls Try.prog 7 #[cfg0.val, .slice none 0 0] W fun e w' => e = .returned (.bool true) ∧ Below W.heap.size W w') := Lib.hid (fun W => by
        have := may_any cfg0_ok none 0 0 [] W rfl (fun i f hf => by simp at hf) (fun f hf => by cases hf) (by decide)
        rwa [enil] at this)
      have HIN : Hid (∀ W, Calls Try.prog 14 #[cfgz.val, .int .u32 5] W fun e w' => e = .returned (.bool true) ∧ Below W.heap.size W w') := Lib.hid (fun W => by
        have := inside_any cfgz_ok (a := 5) rfl W
        rwa [ins5] at this)
      unfold Cfg.val Cfg.arr cfg0 at HMA HMB HMN
      unfold Cfg.val Cfg.arr cfg0 Fw.arr zF at HMZ
      unfold Cfg.val Cfg.arr cfgz at HIN
      as_aux_lemma =>
      go_wp2_with fail
      refine HOUT.out.mono ?_
      rintro e Z1 ⟨rfl, hz⟩
      obtain ⟨p16, hp16⟩ : ∃ p16, Z1.heap.size = p16 := ⟨_, rfl⟩
      have HP := Lib.hid (And.intro hz hp16)
      as_aux_lemma =>
      have hl1 := HLD.out (Z1.alloc (.cells kY.arr 44)) ((HZ.out.trans (hz.mono HZ.out.size)).trans ((bel_alloc _ _).mono (HZ.out.trans (hz.mono HZ.out.size)).size))
      have HL1 := Lib.hid hl1
      unfold Tup.arr kY at HL1
      clear hz hp16 hl1
      go_upto_region 18 with (fail)
      dsimp only [List.append]
      go_wp2_with (refine wpList_load_at _ 29 _ rfl rfl _ (by exact HL1.out) ?_)
      refine calls_name fun Z2 hZ2 => ?_
      have hZ2' : Z2 = Z1.alloc (.cells kY.arr 44) := hZ2
      have hb2 : Below Z.heap.size Z Z2 := by rw [hZ2']; exact HP.out.1.alloc HP.out.1.size _
      have hh2 : Z2.heap[p16]? = some (.cells kY.arr 44 (0, 0)) := by rw [hZ2', ← HP.out.2]; exact heap_alloc_new Z1 _
      try rw [HP.out.2]
      have HZ2 := Lib.hid (And.intro (HZ.out.trans (hb2.mono HZ.out.size)) (And.intro (HFZ.out.below hb2) hh2))
      clear hZ2 hZ2' hb2 hh2
      as_aux_lemma =>
      refine (HMA.out Z2 HZ2.out.2.1).mono ?_
      rintro e Z3 ⟨rfl, hz⟩
      have hh3 := (hz.block _ (Array.getElem?_eq_some_iff.1 HZ2.out.2.2).1).trans HZ2.out.2.2
      have o0 : Z3.cell? ⟨p16, 0, none⟩ = some (.int .u8 6) := cell_of (hh3) 0
      have o1 : Z3.cell? ⟨p16, 1, none⟩ = some (.int .u32 7) := cell_of (hh3) 1
      have o2 : Z3.cell? ⟨p16, 2, none⟩ = some (.int .u32 0) := cell_of (hh3) 2
      have o3 : Z3.cell? ⟨p16, 3, none⟩ = some (.int .u16 2002) := cell_of (hh3) 3
      have o4 : Z3.cell? ⟨p16, 4, none⟩ = some (.int .u16 0) := cell_of (hh3) 4
      have HZ3 := Lib.hid (And.intro (HZ2.out.1.trans (hz.mono HZ2.out.1.size)) (HZ2.out.2.1.below hz))
      have HG := Lib.hid HZ3.out.1
      clear hz hh3
      go_wp2_with (refine wpList_load_at _ 29 _ rfl rfl _ (by exact HLD.out _ HG.out) ?_)
      as_aux_lemma =>
      refine (HMB.out Z3 HZ3.out.2).mono ?_
      rintro e Z4 ⟨rfl, hz⟩
      have HG := Lib.hid (HG.out.trans (hz.mono HG.out.size))
      clear hz o0 o1 o2 o3 o4
      as_aux_lemma =>
      go_wp2_with fail
      refine (HEDGE.out 999 true rfl e999 Z4 HG.out).mono ?_
      rintro e Z5 ⟨rfl, hz⟩
      have HG := Lib.hid (HG.out.trans (hz.mono HG.out.size))
      clear hz
      as_aux_lemma =>
      go_wp2_with fail
      refine (HEDGE.out 1000 false rfl e1000 Z5 HG.out).mono ?_
      rintro e Z6 ⟨rfl, hz⟩
      have HG := Lib.hid (HG.out.trans (hz.mono HG.out.size))
      clear hz
      as_aux_lemma =>
      go_wp2_with fail
      refine (HEDGE.out 2000 false rfl e2000 Z6 HG.out).mono ?_
      rintro e Z7 ⟨rfl, hz⟩
      have HG := Lib.hid (HG.out.trans (hz.mono HG.out.size))
      clear hz
      as_aux_lemma =>
      go_wp2_with fail
      refine (HEDGE.out 2001 true rfl e2001 Z7 HG.out).mono ?_
      rintro e Z8 ⟨rfl, hz⟩
      have HG := Lib.hid (HG.out.trans (hz.mono HG.out.size))
      clear hz
      as_aux_lemma =>
      go_wp2_with fail
      refine (HEDGE.out 0 false rfl e0 Z8 HG.out).mono ?_
      rintro e Z9 ⟨rfl, hz⟩
      have HG := Lib.hid (HG.out.trans (hz.mono HG.out.size))
      clear hz
      have hc9 := (HG.out.block _ (Array.getElem?_eq_some_iff.1 HY.out.2).1).trans HY.out.2
      have c0 : Z9.cell? ⟨y, 0, none⟩ = some (.int .u32 167772160) := cell_of hc9 0
      clear hc9
      go_wp2_with (refine wpList_load_at _ 29 _ rfl rfl _ (by exact HLD.out _ HG.out) ?_)
      clear c0
      as_aux_lemma =>
      refine (HMZ.out Z9).mono ?_
      rintro e Z10 ⟨rfl, hz⟩
      have HG := Lib.hid (HG.out.trans (hz.mono HG.out.size))
      clear hz
      go_wp2_with (refine wpList_load_at _ 29 _ rfl rfl _ (by exact HLD.out _ HG.out) ?_)
      as_aux_lemma =>
      refine (HMN.out Z10).mono ?_
      rintro e Z11 ⟨rfl, hz⟩
      have HG := Lib.hid (HG.out.trans (hz.mono HG.out.size))
      clear hz
      go_wp2_with fail
      refine (HIN.out Z11).mono ?_
      rintro e Z12 ⟨rfl, hz⟩
      have HG := Lib.hid (HG.out.trans (hz.mono HG.out.size))
      clear hz
      go_wp2_with fail
      refine (HWK.out Z12).mono ?_
      rintro e Z13 ⟨rfl, hz⟩
      have HG := Lib.hid (HG.out.trans (hz.mono HG.out.size))
      clear hz
      go_wp2_with fail
      go_ret
      exact ⟨rfl, HY.out.1.trans (HG.out.mono HY.out.1.size)⟩
end Go.Proofs.Ythlohgldcnicbaa
