/- ForwardLess, walked. -/
import Derived.Test.YthlohgldcnicbaaApp
import Derived.Test.YthlohgldcnicbaaMisc
import Derived.Test.YthlohgldcnicbaaLessLaw
import Derived.Test.YthlohgldcnicbaaOrd2
import Derived.Test.YthlohgldcnicbaaMid
import Derived.BigQuiet
set_option linter.unusedVariables false
namespace Go.Proofs.Ythlohgldcnicbaa
open Go.RowKit Go.Deep Go.BigFrame
attribute [local go_sem ↓] Go.wp_at_zero Go.wp_at_succ
structure LsW (w : World) (q : Nat) (c : Cfg) (A : Option Addr) (l : List Fw) (W : World) : Prop where
  bel : Below w.heap.size w W
  cfg : W.heap[q]? = some (.cells c.arr 29 (0, 0))
  src : FwsAt W A l
theorem kept_heap {W W' : World} {k : Nat} {o : Obj} (h : W.heap[k]? = some o) (hb : Below W.heap.size W W') : W'.heap[k]? = some o := (hb.block _ (Array.getElem?_eq_some_iff.1 h).1).trans h
theorem LsW.below {w W W' : World} {q : Nat} {c : Cfg} {A : Option Addr} {l : List Fw} (h : LsW w q c A l W) (hb : Below W.heap.size W W') : LsW w q c A l W' :=
  ⟨h.bel.trans (hb.mono h.bel.size), kept_heap h.cfg hb, h.src.below hb⟩
theorem inC {B : Nat} {w0 w' : World} (h : Below B w0 w') (hs : B ≤ w'.heap.size) : ∃ W : ClsW (InB B w0), w' = W.val := ⟨⟨w', h, hs⟩, rfl⟩
theorem put4 {U Y : World} {k : Nat} {z0 z1 z2 z3 v0 v1 v2 v3 : Value} (h : Y.heap[k]? = some (.cells #[z0, z1, z2, z3] 37 (0, 0))) (hb : Below U.heap.size U Y) (hk : U.heap.size ≤ k) :
    Below U.heap.size U ((((Y.setCell ⟨k, 0, none⟩ v0).setCell ⟨k, 1, none⟩ v1).setCell ⟨k, 2, none⟩ v2).setCell ⟨k, 3, none⟩ v3) ∧
    ((((Y.setCell ⟨k, 0, none⟩ v0).setCell ⟨k, 1, none⟩ v1).setCell ⟨k, 2, none⟩ v2).setCell ⟨k, 3, none⟩ v3).heap[k]? = some (.cells #[v0, v1, v2, v3] 37 (0, 0)) :=
  ⟨(((hb.setCell hk _).setCell hk _).setCell hk _).setCell hk _, heap_set (heap_set (heap_set (heap_set h _) _) _) _⟩
theorem bel_drew0 (U : World) : Below U.heap.size U U.drew := (Below.refl _ _).drew
set_option maxHeartbeats 32000000
set_option maxRecDepth 100000
theorem less_walk (c : Cfg) (hc : c.Ok) (A : Option Addr) (n cp : Nat) (L : List Fw) (k8 : Int) (hk8 : (Lit.int .u8 k8).wf = true) (w : World) (hn : L.length = n) (hfs : FwsAt w A L) (hok : ∀ f ∈ L, f.Ok) (hcp : n ≤ cp) (hmx : cp ≤ maxLen) :
    Calls Try.prog 3 #[c.val, .slice A n cp, .int .u8 k8] w fun e w' => e = .returned (.bool true) ∧ Below w.heap.size w w' := by
  have HWK := Lib.hid wakes_any
  obtain ⟨m, hm⟩ : ∃ m : Nat, min (n : Int) 60 = m := ⟨min n 60, by omega⟩
  have hmn : m ≤ n ∧ m ≤ 60 := by omega
  obtain ⟨l, hl⟩ : ∃ l, L.take m = l := ⟨_, rfl⟩
  have hll : l.length = m := by rw [← hl, List.length_take]; omega
  have hlf : FwsAt w A l := by rw [← hl]; exact hfs.took m
  have hlo : ∀ f ∈ l, f.Ok := fun f hf => hok f (List.mem_of_mem_take (by rw [hl]; exact hf))
  obtain ⟨q, hq⟩ : ∃ q, w.heap.size = q := ⟨_, rfl⟩
  have hkb : 0 ≤ k8 ∧ k8 ≤ 255 := by
    simp [Lit.wf, IntKind.min, IntKind.max, IntKind.signed, IntKind.bits] at hk8
    omega
  have HL := Lib.hid (And.intro hll (And.intro hlo (And.intro hc hkb)))
  have hmc : m ≤ cp := by omega
  have hm0 : m ≤ 60 := hmn.2
  have HLF := Lib.hid (And.intro hlf hq)
  clear hc hn hfs hok hl hll hlf hlo hq hmn hk8 hkb
  unfold Cfg.val Cfg.arr
  go_enter Try.func3, Try.ntmps3
  go_upto_region 2 with (fail)
  refine wp_name fun W hW => ?_
  have hW' : W = w.alloc (.cells c.arr 29) := hW
  have hB : Below w.heap.size w W := by rw [hW']; exact (Below.refl _ _).alloc (Nat.le_refl _) _
  have hg : W.heap[q]? = some (.cells c.arr 29 (0, 0)) := by rw [hW', ← HLF.out.2]; exact heap_alloc_new w _
  have HW : Hid (LsW w q c A l W) := Lib.hid ⟨hB, hg, HLF.out.1.below hB⟩
  have HLD := Lib.hid (load29 hg)
  unfold Cfg.val Cfg.arr at HLD
  rw [HLF.out.2]
  clear hW hW' hB hg HLF hm
  by_cases hmay : mayF c l = true
  case neg =>
    have hmay' : mayF c l = false := by simpa using hmay
    have HMY := Lib.hid (may_any HL.out.2.2.1 A m cp l W HL.out.1 HW.out.src HL.out.2.1 (by omega))
    rw [hmay'] at HMY
    unfold Cfg.val Cfg.arr at HMY
    clear hmay hmay'
    as_aux_lemma =>
      go_wp2_with (refine wpList_load_at _ 29 _ rfl rfl _ (by exact HLD.out) ?_)
      refine HMY.out.mono ?_
      rintro e U ⟨rfl, hU⟩
      have HU := Lib.hid (HW.out.below hU)
      clear hU
      go_wp2_with fail
      refine (HWK.out U).mono ?_
      rintro e U2 ⟨rfl, hU2⟩
      have HU2 := Lib.hid (HU.out.below hU2)
      clear hU2
      go_wp2_with fail
      go_ret
      exact ⟨rfl, HU2.out.bel⟩
  case pos =>
    have HMY := Lib.hid (may_any HL.out.2.2.1 A m cp l W HL.out.1 HW.out.src HL.out.2.1 (by omega))
    rw [hmay] at HMY
    unfold Cfg.val Cfg.arr at HMY
    have HM := Lib.hid hmay
    clear hmay
    by_cases hz : m = 0
    · subst hz
      as_aux_lemma =>
        go_wp2_with (refine wpList_load_at _ 29 _ rfl rfl _ (by exact HLD.out) ?_)
        refine HMY.out.mono ?_
        rintro e U ⟨rfl, hU⟩
        have HU := Lib.hid (HW.out.below hU)
        clear hU
        go_wp2_with fail
        refine (HWK.out U).mono ?_
        rintro e U2 ⟨rfl, hU2⟩
        have HU2 := Lib.hid (HU.out.below hU2)
        clear hU2
        go_wp2_with fail
        go_ret
        exact ⟨rfl, HU2.out.bel⟩
    · obtain ⟨k, hk⟩ : ∃ k : Nat, k8 % (m : Int) = k := ⟨(k8 % (m : Int)).toNat, by have := Int.emod_nonneg k8 (show (m : Int) ≠ 0 by omega); omega⟩
      have hkm : k < m := by have := Int.emod_lt_of_pos k8 (show (0 : Int) < m by omega); omega
      have hkb := HL.out.2.2.2
      have h1 : 1 ≤ m := by omega
      have hz2 : ((m : Int) == 0) = false := by simpa using hz
      as_aux_lemma =>
        go_wp2_with (refine wpList_load_at _ 29 _ rfl rfl _ (by exact HLD.out) ?_)
        refine HMY.out.mono ?_
        rintro e U0 ⟨rfl, hU0⟩
        have HU0 := Lib.hid (HW.out.below hU0)
        clear hU0 HW HLD HMY
        go_upto_region 5 with (fail)
        rw [hk]
        clear hk hz hz2 hkb
        obtain ⟨U, hU⟩ : ∃ U, U0.drew = U := ⟨_, rfl⟩
        have HU : Hid (LsW w q c A l U) := Lib.hid (by rw [← hU]; exact HU0.out.below (bel_drew0 _))
        obtain ⟨v1, w1, a1, o1, g1⟩ := app37 U U.heap.size (.slice none 0 0) 0 [] (own_nil37 _ _) A k cp (l.take k) (by rw [List.length_take, HL.out.1]; omega) (HU.out.src.took k) (Nat.le_refl _) (by omega)
        rw [Nat.zero_add, List.nil_append] at o1
        have hb1 : Below U.heap.size U w1 := grown_bel (Below.refl _ _) g1 (fun j e => by cases e)
        obtain ⟨A1, c1, rfl⟩ := own_len o1
        obtain ⟨v2, w2, a2, o2, g2⟩ := app37 w1 U.heap.size (.slice A1 k c1) k (l.take k) o1 (cutA A (k + 1) cp) (m - (k + 1)) (cp - (k + 1)) (l.drop (k + 1)) (by rw [List.length_drop, HL.out.1]) ((HU.out.src.below hb1).from (k + 1) (by rw [HL.out.1]; exact hmc)) hb1.size (by omega)
        have hb2 : Below U.heap.size U w2 := grown_bel hb1 g2 (fun j e => (o1.lt j e).1)
        rw [show k + (m - (k + 1)) = m - 1 by omega] at o2
        obtain ⟨A2, c2, rfl⟩ := own_len o2
        have HA1 := Lib.hid a1
        have HA2 := Lib.hid a2
        have HB1 := Lib.hid hb1
        have HU2 : Hid (LsW w q c A l w2 ∧ w2.ownsRow U.heap.size 37 4 (.slice A2 (m - 1) c2) (m - 1) (row (lessL l k)) ∧ Below U.heap.size U w2) := Lib.hid ⟨HU.out.below hb2, o2, hb2⟩
        have hsl1 := fun W => run_slice_hi A m cp k (by omega) W
        have hsl2 : ∀ W, (Instr.slice 27 (.slice A m cp) (some (.int .i64 ((k : Int) + 1))) none none).run Try.prog W = .ok (.slice (cutA A (k + 1) cp) (m - (k + 1)) (cp - (k + 1))) W := fun W => run_slice_lo A m cp (k + 1) (by omega) W
        have hwr : IntKind.i64.wrap ((k : Int) + 1) = (k : Int) + 1 := IntWalk.i64_in _ (by omega)
        have hne : Nonempty (ClsW (InB U.heap.size U)) := ⟨⟨U, Below.refl _ _, Nat.le_refl _⟩⟩
        clear a1 a2 hb1 hb2 o1 o2 g1 g2
        refine wp_region_plan (fun w' => ∃ W : ClsW (InB U.heap.size U), w' = W.val) (.step [0, 1, 2, 4, 5, 6, 7] 3 (.step [] 8 (.fin [9]))) (by kernel_rfl) (by kernel_rfl) (by rw [hU]; exact inC (Below.refl _ _) (Nat.le_refl _)) ?_
        rw [hU]
        refine plan_step [_, _, _, _, _, _, _] [_] rfl rfl ?_
        repeat (go_big_quiet_step (fail))
        refine wpQuiet_nil ?_
        go_wp2_with (at_builtin; refine Lib.wpList_append_run _ rfl _ _ 27 27 rfl _ _ rfl rfl _ _ (by exact HA1.out _) ?_)
        refine Lib.hid ⟨inC HB1.out HB1.out.size, ?_⟩
        refine plan_step [] [_] rfl rfl ?_
        refine wpQuiet_nil ?_
        go_wp2_with (at_builtin; refine Lib.wpList_append_run _ rfl _ _ 27 27 rfl _ _ rfl rfl _ _ (by exact HA2.out _) ?_)
        refine Lib.hid ⟨inC HU2.out.2.2 HU2.out.2.2.size, ?_⟩
        refine plan_fin [_] rfl ?_
        try simp only [Act.put, List.setIfInBounds_toArray, List.set_cons_succ, List.set_cons_zero]
        repeat (go_big_quiet_step (fail))
        refine wpQuiet_nil ?_
        clear hwr hsl1 hsl2
        go_upto_region 6 with (fail)
        as_aux_lemma =>
        obtain ⟨X, hX⟩ : ∃ X, w2.drew = X := ⟨_, rfl⟩
        have HX : Hid (LsW w q c A l X ∧ X.ownsRow 0 37 4 (.slice A2 (m - 1) c2) (m - 1) (row (lessL l k))) := Lib.hid (by rw [← hX]; exact ⟨HU2.out.1.below (bel_drew0 _), own_up (row_below HU2.out.2.1 (bel_drew0 _))⟩)
        clear HU HU2 HA1 HA2 HB1 hne hU
        obtain ⟨v1, w3, a1, o1, g1⟩ := app37 X X.heap.size (.slice none 0 0) 0 [] (own_nil37 _ _) (cutA A k cp) (m - k) (cp - k) (l.drop k) (by rw [List.length_drop, HL.out.1]) (HX.out.1.src.from k (by rw [HL.out.1]; exact hmc)) (Nat.le_refl _) (by omega)
        rw [Nat.zero_add, List.nil_append] at o1
        have hb1 : Below X.heap.size X w3 := grown_bel (Below.refl _ _) g1 (fun j e => by cases e)
        obtain ⟨A3, c3, rfl⟩ := own_len o1
        obtain ⟨v2, w4, a2, o2, g2⟩ := app37 w3 X.heap.size (.slice A3 (m - k) c3) (m - k) (l.drop k) o1 A k cp (l.take k) (by rw [List.length_take, HL.out.1]; omega) ((HX.out.1.src.below hb1).took k) hb1.size (by omega)
        have hb2 : Below X.heap.size X w4 := grown_bel hb1 g2 (fun j e => (o1.lt j e).1)
        rw [show m - k + k = m by omega] at o2
        obtain ⟨A4, c4, rfl⟩ := own_len o2
        have HA1 := Lib.hid a1
        have HA2 := Lib.hid a2
        have HB1 := Lib.hid hb1
        have HB2 := Lib.hid hb2
        have HT : Hid (LsW w q c A l w4 ∧ FwsAt w4 A2 (lessL l k) ∧ FwsAt w4 A4 (turnL l k)) := Lib.hid ⟨HX.out.1.below hb2, (FwsAt.own (B := 0) (c := c2) (by rw [less_len (by rw [HL.out.1]; exact hkm), HL.out.1]; exact HX.out.2)).below hb2, FwsAt.own (B := X.heap.size) (c := c4) (by rw [turn_len, HL.out.1]; exact o2)⟩
        have hsl1 := fun W => run_slice_hi A m cp k (by omega) W
        have hsl2 := fun W => run_slice_lo A m cp k (by omega) W
        have hne : Nonempty (ClsW (InB X.heap.size X)) := ⟨⟨X, Below.refl _ _, Nat.le_refl _⟩⟩
        clear a1 a2 hb1 hb2 o1 o2 g1 g2
        refine wp_region_plan (fun w' => ∃ W : ClsW (InB X.heap.size X), w' = W.val) (.step [0, 1, 2, 4, 5, 6] 3 (.step [] 7 (.fin [8]))) (by kernel_rfl) (by kernel_rfl) (by rw [hX]; exact inC (Below.refl _ _) (Nat.le_refl _)) ?_
        rw [hX]
        refine plan_step [_, _, _, _, _, _] [_] rfl rfl ?_
        repeat (go_big_quiet_step (fail))
        refine wpQuiet_nil ?_
        go_wp2_with (at_builtin; refine Lib.wpList_append_run _ rfl _ _ 27 27 rfl _ _ rfl rfl _ _ (by exact HA1.out _) ?_)
        refine Lib.hid ⟨inC HB1.out HB1.out.size, ?_⟩
        refine plan_step [] [_] rfl rfl ?_
        refine wpQuiet_nil ?_
        go_wp2_with (at_builtin; refine Lib.wpList_append_run _ rfl _ _ 27 27 rfl _ _ rfl rfl _ _ (by exact HA2.out _) ?_)
        refine Lib.hid ⟨inC HB2.out HB2.out.size, ?_⟩
        refine plan_fin [_] rfl ?_
        try simp only [Act.put, List.setIfInBounds_toArray, List.set_cons_succ, List.set_cons_zero]
        repeat (go_big_quiet_step (fail))
        refine wpQuiet_nil ?_
        clear hsl1 hsl2 hne HA1 HA2 HB1 HB2 HX hX
        have HLD : Hid (∀ W, LsW w q c A l W → (Instr.loadAt 29 (.pointer (some ⟨q, 0, none⟩))).run Try.prog W = .ok c.val W) := Lib.hid (fun W hW => load29 hW.cfg)
        have HN1 : Hid (∀ W, FwsAt W A2 (lessL l k) → Calls Try.prog 9 #[c.val, .slice A2 (m - 1) c2] W fun e w' => ∃ g b nn, e = .returned (.tuple #[.pointer (some ⟨g, 0, none⟩), .int .i64 0]) ∧ Tb w' g b nn (lessL l k) ∧ Below W.heap.size W w') := Lib.hid (fun W hW =>
          new_yes HL.out.2.2.1 A2 (m - 1) c2 (lessL l k) W (by rw [less_len (by rw [HL.out.1]; exact hkm), HL.out.1]) hW (fun f hf => HL.out.2.1 f ((less_sub l k).subset hf)) (by omega) (may_sub (less_sub l k) HM.out))
        have HN2 : Hid (∀ W, FwsAt W A4 (turnL l k) → Calls Try.prog 9 #[c.val, .slice A4 m c4] W fun e w' => ∃ g b nn, e = .returned (.tuple #[.pointer (some ⟨g, 0, none⟩), .int .i64 0]) ∧ Tb w' g b nn (turnL l k) ∧ Below W.heap.size W w') := Lib.hid (fun W hW =>
          new_yes HL.out.2.2.1 A4 m c4 (turnL l k) W (by rw [turn_len, HL.out.1]) hW (fun f hf => HL.out.2.1 f ((turn_perm l k).subset hf)) (by omega) (may_perm (turn_perm l k) HM.out))
        have HN3 : Hid (∀ W, FwsAt W A l → Calls Try.prog 9 #[c.val, .slice A m cp] W fun e w' => ∃ g b nn, e = .returned (.tuple #[.pointer (some ⟨g, 0, none⟩), .int .i64 0]) ∧ Tb w' g b nn l ∧ Below W.heap.size W w') := Lib.hid (fun W hW =>
          new_yes HL.out.2.2.1 A m cp l W HL.out.1 hW HL.out.2.1 (by omega) HM.out)
        unfold Cfg.val Cfg.arr at HLD HN1 HN2 HN3
        go_wp2_with (refine wpList_load_at _ 29 _ rfl rfl _ (by exact HLD.out _ HT.out.1) ?_)
        refine (HN1.out w4 HT.out.2.1).mono ?_
        rintro e Z1 ⟨g1, b1, nn1, rfl, ht, hz⟩
        have H1 : Hid (LsW w q c A l Z1 ∧ FwsAt Z1 A4 (turnL l k) ∧ Tb Z1 g1 b1 nn1 (lessL l k)) := Lib.hid ⟨HT.out.1.below hz, HT.out.2.2.below hz, ht⟩
        clear ht hz HT HN1
        as_aux_lemma =>
        go_wp2_with (refine wpList_load_at _ 29 _ rfl rfl _ (by exact HLD.out _ H1.out.1) ?_)
        refine (HN2.out Z1 H1.out.2.1).mono ?_
        rintro e Z2 ⟨g2, b2, nn2, rfl, ht, hz⟩
        have H2 : Hid (LsW w q c A l Z2 ∧ Tb Z2 g1 b1 nn1 (lessL l k) ∧ Tb Z2 g2 b2 nn2 (turnL l k)) := Lib.hid ⟨H1.out.1.below hz, H1.out.2.2.below hz, ht⟩
        clear ht hz H1 HN2
        as_aux_lemma =>
        go_wp2_with (refine wpList_load_at _ 29 _ rfl rfl _ (by exact HLD.out _ H2.out.1) ?_)
        refine (HN3.out Z2 H2.out.1.src).mono ?_
        rintro e Z3 ⟨g3, b3, nn3, rfl, ht, hz⟩
        have H3 : Hid (LsW w q c A l Z3 ∧ Tb Z3 g1 b1 nn1 (lessL l k) ∧ Tb Z3 g2 b2 nn2 (turnL l k) ∧ Tb Z3 g3 b3 nn3 l) := Lib.hid ⟨H2.out.1.below hz, H2.out.2.1.below hz, H2.out.2.2.below hz, ht⟩
        clear ht hz H2 HN3
        go_upto_region 10 with (fail)
        obtain ⟨f, hf⟩ : ∃ f, l[k]? = some f := ⟨_, List.getElem?_eq_getElem (by rw [HL.out.1]; exact hkm)⟩
        obtain ⟨sb, so, rfl, _⟩ := H3.out.1.src k f hf
        have HF := Lib.hid hf
        clear hf
        go_cut [97] (fun v97 wx => v97 = .bool false ∧ Hid (Below Z3.heap.size Z3 wx))
        case first =>
          as_aux_lemma =>
          obtain ⟨X, hX⟩ : ∃ X, Z3.drew = X := ⟨_, rfl⟩
          have HX : Hid (LsW w q c (some ⟨sb, so, none⟩) l X) := Lib.hid (by rw [← hX]; exact H3.out.1.below (bel_drew0 _))
          have HXB : Hid (Below Z3.heap.size Z3 X) := Lib.hid (by rw [← hX]; exact bel_drew0 _)
          obtain ⟨b2, o2, e2, hsb, l0, l1, l2, l3⟩ := HX.out.src k f HF.out
          cases e2
          have hlF : ∀ g ∈ l ++ [f], g.Ok := fun g hg => by
            rcases List.mem_append.1 hg with h | h
            · exact HL.out.2.1 g h
            · simp at h; subst h; exact HL.out.2.1 g (List.mem_of_getElem? HF.out)
          have hlen : (l ++ [f]).length = m + 1 := by rw [List.length_append, HL.out.1]; rfl
          obtain ⟨v1, w1, a1, o1, g1⟩ := app37 X X.heap.size (.slice none 0 0) 0 [] (own_nil37 _ _) (some ⟨sb, so, none⟩) m cp l HL.out.1 HX.out.src (Nat.le_refl _) (by omega)
          rw [Nat.zero_add, List.nil_append] at o1
          have hb1 : Below X.heap.size X w1 := grown_bel (Below.refl _ _) g1 (fun j e => by cases e)
          obtain ⟨A1, c1, rfl⟩ := own_len o1
          obtain ⟨v2, w2, a2, o2, g2⟩ := app37 (w1.alloc (.cells f.arr 37)) X.heap.size (.slice A1 m c1) m l (row_below o1 (bel_alloc _ _)) (some ⟨w1.heap.size, 0, none⟩) 1 1 [f] rfl (fws_one (heap_alloc_new _ _)) (by rw [World.size_alloc]; have := hb1.size; omega) (by omega)
          have hb1a : Below X.heap.size X (w1.alloc (.cells f.arr 37)) := hb1.trans ((bel_alloc _ _).mono hb1.size)
          have hb2 : Below X.heap.size X w2 := grown_bel hb1a g2 (fun j e => (o1.lt j e).1)
          obtain ⟨A2', c2', rfl⟩ := own_len o2
          have HMA : Hid (Calls Try.prog 7 #[c.val, .slice A2' (m + 1) c2'] w2 fun e w' => e = .returned (.bool false) ∧ Below w2.heap.size w2 w') := Lib.hid (by
            have := may_any HL.out.2.2.1 A2' (m + 1) c2' (l ++ [f]) w2 hlen (FwsAt.own (B := X.heap.size) (c := c2') (by rw [hlen]; exact o2)) hlF (by omega)
            rwa [twice_no HF.out] at this)
          have hba : Below X.heap.size X (X.alloc (.cells f.arr 37)) := bel_alloc _ _
          obtain ⟨v3, w3, a3, o3, g3⟩ := app37 (X.alloc (.cells f.arr 37)) X.heap.size (.slice none 0 0) 0 [] (own_nil37 _ _) (some ⟨sb, so, none⟩) m cp l HL.out.1 (HX.out.src.below hba) hba.size (by omega)
          rw [Nat.zero_add, List.nil_append] at o3
          have hb3 : Below X.heap.size X w3 := grown_bel hba g3 (fun j e => by cases e)
          obtain ⟨A3', c3', rfl⟩ := own_len o3
          have hx3 : w3.heap[X.heap.size]? = some (.cells f.arr 37 (0, 0)) := by
            rw [g3.block X.heap.size (by simp) (by simp [Value.ownBlock])]
            exact heap_alloc_new X _
          obtain ⟨v4, w4, a4, o4, g4⟩ := app37 w3 X.heap.size (.slice A3' m c3') m l o3 (some ⟨X.heap.size, 0, none⟩) 1 1 [f] rfl (fws_one hx3) hb3.size (by omega)
          have hb4 : Below X.heap.size X w4 := grown_bel hb3 g4 (fun j e => (o3.lt j e).1)
          obtain ⟨A4', c4', rfl⟩ := own_len o4
          have HMB : Hid (Calls Try.prog 7 #[c.val, .slice A4' (m + 1) c4'] w4 fun e w' => e = .returned (.bool false) ∧ Below w4.heap.size w4 w') := Lib.hid (by
            have := may_any HL.out.2.2.1 A4' (m + 1) c4' (l ++ [f]) w4 hlen (FwsAt.own (B := X.heap.size) (c := c4') (by rw [hlen]; exact o4)) hlF (by omega)
            rwa [twice_no HF.out] at this)
          have hne : Nonempty (ClsW (InB X.heap.size X)) := ⟨⟨X, Below.refl _ _, Nat.le_refl _⟩⟩
          have k0 : ∀ W : ClsW (InB X.heap.size X), W.val.cell? ⟨sb, so + k * 4, none⟩ = some (.int .u8 f.proto) := fun W => class_cell W l0 hsb
          have k1 : ∀ W : ClsW (InB X.heap.size X), W.val.cell? ⟨sb, so + k * 4 + 1, none⟩ = some (.int .u16 f.port) := fun W => class_cell W l1 hsb
          have k2 : ∀ W : ClsW (InB X.heap.size X), W.val.cell? ⟨sb, so + k * 4 + 2, none⟩ = some (.int .u32 f.addr) := fun W => class_cell W l2 hsb
          have k3 : ∀ W : ClsW (InB X.heap.size X), W.val.cell? ⟨sb, so + k * 4 + 3, none⟩ = some (.int .u16 f.dest) := fun W => class_cell W l3 hsb
          have HLX : Hid (∀ Y : World, (∃ W : ClsW (InB X.heap.size X), Y = W.val) → (Instr.loadAt 29 (.pointer (some ⟨q, 0, none⟩))).run Try.prog Y = .ok c.val Y) := Lib.hid (fun Y hY => by
            obtain ⟨W, rfl⟩ := hY
            exact load29 ((W.2.1.block _ (Array.getElem?_eq_some_iff.1 HX.out.cfg).1).trans HX.out.cfg))
          have HA1 := Lib.hid a1
          have HA2 := Lib.hid a2
          have HA3 := Lib.hid a3
          have HA4 := Lib.hid a4
          have HB1 := Lib.hid hb1
          have HB1A := Lib.hid hb1a
          have HB2 := Lib.hid hb2
          have HBA := Lib.hid hba
          have HB3 := Lib.hid hb3
          have HB4 := Lib.hid hb4
          unfold Cfg.val Cfg.arr at HMA HMB HLX
          unfold Fw.arr at HA2 HA3 HB1A HBA
          clear a1 a2 a3 a4 o1 o2 o3 o4 g1 g2 g3 g4 hb1 hb1a hb2 hba hb3 hb4 hlF hlen hx3 hsb l0 l1 l2 l3
          refine wp_region_plan (fun w' => ∃ W : ClsW (InB X.heap.size X), w' = W.val) (.both [0, 1, 2, 3, 4, 5, 6, 7, 8, 9, 10, 11, 12, 14, 15, 16, 17] 13 (.step [] 18 (.step [] 19 (.step [] 20 (.fin [21])))) 18 (.step [] 13 (.step [] 19 (.step [] 20 (.fin [21]))))) (by kernel_rfl) (by kernel_rfl) (by rw [hX]; exact inC (Below.refl _ _) (Nat.le_refl _)) ?_
          rw [hX]
          refine plan_both [_, _, _, _, _, _, _, _, _, _, _, _, _, _, _, _, _] [_] [_] rfl rfl rfl ?_
          repeat (first | (refine wpQuiet_load 29 _ rfl (by rfl) _ (by exact HLX.out) ?_; try simp only [Act.put, List.setIfInBounds_toArray, List.set_cons_succ, List.set_cons_zero]) | go_big_quiet_step (fail))
          refine wpQuiet_nil ?_
          refine Lib.hid ⟨?_, ?_⟩
          · as_aux_lemma =>
            go_wp2_with (at_builtin; refine wpList_append_runG _ (by rfl) _ _ 27 27 rfl _ _ rfl rfl _ _ (by exact HA1.out _) ?_)
            refine Lib.hid ⟨inC HB1.out HB1.out.size, ?_⟩
            refine plan_step [] [_] rfl rfl ?_
            try simp only [Act.put, List.setIfInBounds_toArray, List.set_cons_succ, List.set_cons_zero]
            refine wpQuiet_nil ?_
            go_wp2_with fail
            refine Lib.hid ⟨inC HB1A.out HB1A.out.size, ?_⟩
            refine plan_step [] [_] rfl rfl ?_
            try simp only [Act.put, List.setIfInBounds_toArray, List.set_cons_succ, List.set_cons_zero]
            refine wpQuiet_nil ?_
            go_wp2_with (at_builtin; refine wpList_append_runG _ (by rfl) _ _ 27 27 rfl _ _ rfl rfl _ _ (by exact HA2.out _) ?_)
            refine Lib.hid ⟨inC HB2.out HB2.out.size, ?_⟩
            refine plan_step [] [_] rfl rfl ?_
            try simp only [Act.put, List.setIfInBounds_toArray, List.set_cons_succ, List.set_cons_zero]
            refine wpQuiet_nil ?_
            go_wp2_with fail
            refine HMA.out.mono ?_
            rintro e V ⟨rfl, hV⟩
            have HV : Hid (Below X.heap.size X V) := Lib.hid (HB2.out.trans (hV.mono HB2.out.size))
            clear hV
            go_wp2_with fail
            refine Lib.hid ⟨inC HV.out HV.out.size, ?_⟩
            refine plan_fin [_] rfl ?_
            try simp only [Act.put, List.setIfInBounds_toArray, List.set_cons_succ, List.set_cons_zero]
            repeat (go_big_quiet_step (fail))
            refine wpQuiet_nil ?_
            go_wp2_with fail
            go_meet
            case rel => exact ⟨rfl, Lib.hid (HXB.out.trans (HV.out.mono HXB.out.size))⟩
          · as_aux_lemma =>
            go_wp2_with fail
            refine Lib.hid ⟨inC HBA.out HBA.out.size, ?_⟩
            refine plan_step [] [_] rfl rfl ?_
            try simp only [Act.put, List.setIfInBounds_toArray, List.set_cons_succ, List.set_cons_zero]
            refine wpQuiet_nil ?_
            go_wp2_with (at_builtin; refine wpList_append_runG _ (by rfl) _ _ 27 27 rfl _ _ rfl rfl _ _ (by exact HA3.out _) ?_)
            refine Lib.hid ⟨inC HB3.out HB3.out.size, ?_⟩
            refine plan_step [] [_] rfl rfl ?_
            try simp only [Act.put, List.setIfInBounds_toArray, List.set_cons_succ, List.set_cons_zero]
            refine wpQuiet_nil ?_
            go_wp2_with (at_builtin; refine wpList_append_runG _ (by rfl) _ _ 27 27 rfl _ _ rfl rfl _ _ (by exact HA4.out _) ?_)
            refine Lib.hid ⟨inC HB4.out HB4.out.size, ?_⟩
            refine plan_step [] [_] rfl rfl ?_
            try simp only [Act.put, List.setIfInBounds_toArray, List.set_cons_succ, List.set_cons_zero]
            refine wpQuiet_nil ?_
            go_wp2_with fail
            refine HMB.out.mono ?_
            rintro e V ⟨rfl, hV⟩
            have HV : Hid (Below X.heap.size X V) := Lib.hid (HB4.out.trans (hV.mono HB4.out.size))
            clear hV
            go_wp2_with fail
            refine Lib.hid ⟨inC HV.out HV.out.size, ?_⟩
            refine plan_fin [_] rfl ?_
            try simp only [Act.put, List.setIfInBounds_toArray, List.set_cons_succ, List.set_cons_zero]
            repeat (go_big_quiet_step (fail))
            refine wpQuiet_nil ?_
            go_wp2_with fail
            go_meet
            case rel => exact ⟨rfl, Lib.hid (HXB.out.trans (HV.out.mono HXB.out.size))⟩
        case rest =>
          obtain ⟨rfl, hbc⟩ := hcut
          have HC : Hid (LsW w q c (some ⟨sb, so, none⟩) l wc ∧ Tb wc g1 b1 nn1 (lessL l k) ∧ Tb wc g2 b2 nn2 (turnL l k) ∧ Tb wc g3 b3 nn3 l) := Lib.hid ⟨H3.out.1.below hbc.out, H3.out.2.1.below hbc.out, H3.out.2.2.1.below hbc.out, H3.out.2.2.2.below hbc.out⟩
          clear hbc H3 HLD
          go_wp2_with fail
          go_loopw [16] (fun v16 wr => ∃ i : Nat, v16 = .int .i64 i ∧ i ≤ m ∧ Hid (LsW w q c (some ⟨sb, so, none⟩) l wr ∧ Tb wr g1 b1 nn1 (lessL l k) ∧ Tb wr g2 b2 nn2 (turnL l k) ∧ Tb wr g3 b3 nn3 l)) (fun v16 _ => m - (intOf v16).toNat)
          case atStart => exact ⟨0, rfl, Nat.zero_le _, HC⟩
          case round =>
            obtain ⟨i, rfl, hi, HR⟩ := hrel
            by_cases hlt : i < m
            · obtain ⟨h, hh⟩ : ∃ h, l[i]? = some h := ⟨_, List.getElem?_eq_getElem (by rw [HL.out.1]; exact hlt)⟩
              have HH := Lib.hid hh
              clear hh HC
              by_cases hik : i = k
              · obtain rfl : k = i := hik.symm
                as_aux_lemma =>
                have HF1 : Hid (∀ W, Tb W g1 b1 nn1 (lessL l k) → Calls Try.prog 10 #[.pointer (some ⟨g1, 0, none⟩), .int .u8 h.proto, .int .u16 h.port] W fun e w' => e = .returned (.tuple #[(Fw.val Fw.zero), .bool false]) ∧ Below W.heap.size W w') := Lib.hid (fun W hW => by
                  have := find_any hW h.proto h.port ⟨(HL.out.2.1 h (List.mem_of_getElem? HH.out)).1, (HL.out.2.1 h (List.mem_of_getElem? HH.out)).2.1⟩
                  have e1 : findD (lessL l k) ⟨h.proto, h.port⟩ = none := less_gone HM.out HH.out
                  unfold getF at this
                  rw [e1] at this
                  exact this)
                have HF2 : Hid (∀ W, Tb W g2 b2 nn2 (turnL l k) → Calls Try.prog 10 #[.pointer (some ⟨g2, 0, none⟩), .int .u8 h.proto, .int .u16 h.port] W fun e w' => e = .returned (.tuple #[h.val, .bool true]) ∧ Below W.heap.size W w') := Lib.hid (fun W hW => by
                  have := find_any hW h.proto h.port ⟨(HL.out.2.1 h (List.mem_of_getElem? HH.out)).1, (HL.out.2.1 h (List.mem_of_getElem? HH.out)).2.1⟩
                  have e1 : findD (turnL l k) ⟨h.proto, h.port⟩ = some h := turn_find HM.out HH.out
                  unfold getF at this
                  rw [e1] at this
                  exact this)

                go_upto_region 15 with (fail)
                refine wp_name fun Q hQ => ?_
                have HQ := HR
                rw [← hQ] at HQ
                clear hQ
                go_cut [17, 18] (fun va vb wx => ∃ p : Nat, va = .pointer (some ⟨p, 0, none⟩) ∧ vb = .bool false ∧ Hid (Below Q.heap.size Q wx ∧ wx.heap[p]? = some (.cells (Fw.arr Fw.zero) 37 (0, 0)) ∧ Q.heap.size ≤ p))
                case first =>
                  as_aux_lemma =>
                  obtain ⟨X, hX⟩ : ∃ X, Q.drew = X := ⟨_, rfl⟩
                  have HXB : Hid (Below Q.heap.size Q X ∧ Q.heap.size = X.heap.size) := Lib.hid (by rw [← hX]; exact ⟨bel_drew0 _, rfl⟩)
                  have HXT : Hid (Tb X g1 b1 nn1 (lessL l k) ∧ FwsAt X (some ⟨sb, so, none⟩) l) := Lib.hid (by rw [← hX]; exact ⟨HQ.out.2.1.below (bel_drew0 _), HQ.out.1.src.below (bel_drew0 _)⟩)
                  obtain ⟨b2, o2, e2, hsb, l0, l1, l2, l3⟩ := HXT.out.2 k h HH.out
                  cases e2
                  have hne : Nonempty (ClsW (InB X.heap.size X)) := ⟨⟨X, Below.refl _ _, Nat.le_refl _⟩⟩
                  have k0 : ∀ W : ClsW (InB X.heap.size X), W.val.cell? ⟨sb, so + k * 4, none⟩ = some (.int .u8 h.proto) := fun W => class_cell W l0 hsb
                  have k1 : ∀ W : ClsW (InB X.heap.size X), W.val.cell? ⟨sb, so + k * 4 + 1, none⟩ = some (.int .u16 h.port) := fun W => class_cell W l1 hsb
                  have HC1 := Lib.hid (HF1.out X HXT.out.1)
                  have HBA : Hid (Below X.heap.size X (X.alloc (.cells #[.int .u8 0, .int .u16 0, .int .u32 0, .int .u16 0] 37))) := Lib.hid (bel_alloc _ _)
                  have HC2 := Lib.hid (HF1.out (X.alloc (.cells #[.int .u8 0, .int .u16 0, .int .u32 0, .int .u16 0] 37)) (HXT.out.1.below HBA.out))
                  have HZH : Hid ((X.alloc (.cells #[.int .u8 0, .int .u16 0, .int .u32 0, .int .u16 0] 37)).heap[X.heap.size]? = some (.cells #[.int .u8 0, .int .u16 0, .int .u32 0, .int .u16 0] 37 (0, 0))) := Lib.hid (heap_alloc_new X _)
                  clear l0 l1 l2 l3 hsb
                  unfold Fw.val Fw.arr at HC1 HC2
                  refine wp_region_plan (fun w' => ∃ W : ClsW (InB X.heap.size X), w' = W.val) (.both [0, 1, 2, 3, 4, 5, 6, 7, 8, 9, 10] 11 (.step [12, 13, 14] 15 (.step [] 16 (.fin [17]))) 15 (.step [] 11 (.step [12, 13, 14] 16 (.fin [17])))) (by kernel_rfl) (by kernel_rfl) (by rw [hX]; exact inC (Below.refl _ _) (Nat.le_refl _)) ?_
                  rw [hX]
                  refine plan_both [_, _, _, _, _, _, _, _, _, _, _] [_] [_] rfl rfl rfl ?_
                  repeat (go_big_quiet_step (fail))
                  refine wpQuiet_nil ?_
                  refine Lib.hid ⟨?_, ?_⟩
                  · as_aux_lemma =>
                    go_wp2_with fail
                    refine HC1.out.mono ?_
                    rintro e V ⟨rfl, hV⟩
                    have HV := Lib.hid hV
                    clear hV
                    go_wp2_with fail
                    refine Lib.hid ⟨inC HV.out HV.out.size, ?_⟩
                    refine plan_step [_, _, _] [_] rfl rfl ?_
                    try simp only [Act.put, List.setIfInBounds_toArray, List.set_cons_succ, List.set_cons_zero]
                    repeat (go_big_quiet_step (fail))
                    refine wpQuiet_nil ?_
                    go_wp2_with fail
                    refine Lib.hid ⟨inC (HV.out.trans ((bel_alloc _ _).mono HV.out.size)) (by rw [World.size_alloc]; have := HV.out.size; omega), ?_⟩
                    refine plan_step [] [_] rfl rfl ?_
                    try simp only [Act.put, List.setIfInBounds_toArray, List.set_cons_succ, List.set_cons_zero]
                    refine wpQuiet_nil ?_
                    go_wp2_with fail
                    have HVA : Hid (Below X.heap.size X (V.alloc (.cells (Fw.arr Fw.zero) 37)) ∧ (V.alloc (.cells (Fw.arr Fw.zero) 37)).heap[V.heap.size]? = some (.cells (Fw.arr Fw.zero) 37 (0, 0))) := Lib.hid ⟨HV.out.trans ((bel_alloc _ _).mono HV.out.size), heap_alloc_new _ _⟩
                    refine Lib.hid ⟨inC HVA.out.1 HVA.out.1.size, ?_⟩
                    refine plan_fin [_] rfl ?_
                    try simp only [Act.put, List.setIfInBounds_toArray, List.set_cons_succ, List.set_cons_zero]
                    repeat (go_big_quiet_step (fail))
                    refine wpQuiet_nil ?_
                    go_wp2_with fail
                    go_meet
                    case rel => exact ⟨V.heap.size, rfl, rfl, Lib.hid ⟨HXB.out.1.trans (HVA.out.1.mono HXB.out.1.size), HVA.out.2, by rw [HXB.out.2]; exact HV.out.size⟩⟩
                  · as_aux_lemma =>
                    go_wp2_with fail
                    refine Lib.hid ⟨inC HBA.out HBA.out.size, ?_⟩
                    refine plan_step [] [_] rfl rfl ?_
                    try simp only [Act.put, List.setIfInBounds_toArray, List.set_cons_succ, List.set_cons_zero]
                    refine wpQuiet_nil ?_
                    go_wp2_with fail
                    refine HC2.out.mono ?_
                    rintro e V ⟨rfl, hV⟩
                    have HV : Hid (Below X.heap.size X V) := Lib.hid (HBA.out.trans (hV.mono HBA.out.size))
                    have hzv : V.heap[X.heap.size]? = some (.cells #[.int .u8 0, .int .u16 0, .int .u32 0, .int .u16 0] 37 (0, 0)) := (hV.block _ (by simp)).trans HZH.out
                    have HZV := Lib.hid hzv
                    have f0 : V.frozen? ⟨X.heap.size, 0, none⟩ = false := free_of hzv 0
                    have f1 : V.frozen? ⟨X.heap.size, 1, none⟩ = false := free_of hzv 1
                    have f2 : V.frozen? ⟨X.heap.size, 2, none⟩ = false := free_of hzv 2
                    have f3 : V.frozen? ⟨X.heap.size, 3, none⟩ = false := free_of hzv 3
                    have z0 : V.cell? ⟨X.heap.size, 0, none⟩ = some (.int .u8 0) := cell_of hzv 0
                    have z1 : V.cell? ⟨X.heap.size, 1, none⟩ = some (.int .u16 0) := cell_of hzv 1
                    have z2 : V.cell? ⟨X.heap.size, 2, none⟩ = some (.int .u32 0) := cell_of hzv 2
                    have z3 : V.cell? ⟨X.heap.size, 3, none⟩ = some (.int .u16 0) := cell_of hzv 3
                    clear hV hzv
                    go_wp2_with fail
                    refine Lib.hid ⟨inC HV.out HV.out.size, ?_⟩
                    refine plan_step [_, _, _] [_] rfl rfl ?_
                    try simp only [Act.put, List.setIfInBounds_toArray, List.set_cons_succ, List.set_cons_zero]
                    repeat (go_big_quiet_step (fail))
                    refine wpQuiet_nil ?_
                    go_wp2_with fail
                    have HP := Lib.hid (put4 (v0 := .int .u8 (Fw.proto Fw.zero)) (v1 := .int .u16 (Fw.port Fw.zero)) (v2 := .int .u32 (Fw.addr Fw.zero)) (v3 := .int .u16 (Fw.dest Fw.zero)) HZV.out HV.out (Nat.le_refl _))
                    refine Lib.hid ⟨inC HP.out.1 HP.out.1.size, ?_⟩
                    refine plan_fin [_] rfl ?_
                    try simp only [Act.put, List.setIfInBounds_toArray, List.set_cons_succ, List.set_cons_zero]
                    repeat (go_big_quiet_step (fail))
                    refine wpQuiet_nil ?_
                    go_wp2_with fail
                    go_meet
                    case rel => exact ⟨X.heap.size, rfl, rfl, Lib.hid ⟨HXB.out.1.trans (HP.out.1.mono HXB.out.1.size), HP.out.2, by rw [HXB.out.2]; exact Nat.le_refl _⟩⟩
                case rest =>

                  obtain ⟨pa, rfl, rfl, hba⟩ := hcut
                  have HR2 : Hid (LsW w q c (some ⟨sb, so, none⟩) l wc ∧ Tb wc g1 b1 nn1 (lessL l k) ∧ Tb wc g2 b2 nn2 (turnL l k) ∧ Tb wc g3 b3 nn3 l) := Lib.hid ⟨HQ.out.1.below hba.out.1, HQ.out.2.1.below hba.out.1, HQ.out.2.2.1.below hba.out.1, HQ.out.2.2.2.below hba.out.1⟩
                  have HPA := Lib.hid hba.out.2.1
                  obtain ⟨wa, hwa⟩ : ∃ wa, wa = wc := ⟨_, rfl⟩
                  rw [← hwa] at HR2 HPA ⊢
                  clear hba hwa HQ HR HF1
                  go_upto_region 16 with (fail)
                  refine wp_name fun Q hQ => ?_
                  have HQ := HR2
                  rw [← hQ] at HQ HPA
                  have HPQ := HPA
                  clear hQ
                  go_cut [19, 20] (fun va vb wx => ∃ p : Nat, va = .pointer (some ⟨p, 0, none⟩) ∧ vb = .bool true ∧ Hid (Below Q.heap.size Q wx ∧ wx.heap[p]? = some (.cells (Fw.arr h) 37 (0, 0)) ∧ Q.heap.size ≤ p))
                  case first =>
                    as_aux_lemma =>
                    obtain ⟨X, hX⟩ : ∃ X, Q.drew = X := ⟨_, rfl⟩
                    have HXB : Hid (Below Q.heap.size Q X ∧ Q.heap.size = X.heap.size) := Lib.hid (by rw [← hX]; exact ⟨bel_drew0 _, rfl⟩)
                    have HXT : Hid (Tb X g2 b2 nn2 (turnL l k) ∧ FwsAt X (some ⟨sb, so, none⟩) l) := Lib.hid (by rw [← hX]; exact ⟨HQ.out.2.2.1.below (bel_drew0 _), HQ.out.1.src.below (bel_drew0 _)⟩)
                    obtain ⟨b2, o2, e2, hsb, l0, l1, l2, l3⟩ := HXT.out.2 k h HH.out
                    cases e2
                    have hne : Nonempty (ClsW (InB X.heap.size X)) := ⟨⟨X, Below.refl _ _, Nat.le_refl _⟩⟩
                    have k0 : ∀ W : ClsW (InB X.heap.size X), W.val.cell? ⟨sb, so + k * 4, none⟩ = some (.int .u8 h.proto) := fun W => class_cell W l0 hsb
                    have k1 : ∀ W : ClsW (InB X.heap.size X), W.val.cell? ⟨sb, so + k * 4 + 1, none⟩ = some (.int .u16 h.port) := fun W => class_cell W l1 hsb
                    have HC1 := Lib.hid (HF2.out X HXT.out.1)
                    have HBA : Hid (Below X.heap.size X (X.alloc (.cells #[.int .u8 0, .int .u16 0, .int .u32 0, .int .u16 0] 37))) := Lib.hid (bel_alloc _ _)
                    have HC2 := Lib.hid (HF2.out (X.alloc (.cells #[.int .u8 0, .int .u16 0, .int .u32 0, .int .u16 0] 37)) (HXT.out.1.below HBA.out))
                    have HZH : Hid ((X.alloc (.cells #[.int .u8 0, .int .u16 0, .int .u32 0, .int .u16 0] 37)).heap[X.heap.size]? = some (.cells #[.int .u8 0, .int .u16 0, .int .u32 0, .int .u16 0] 37 (0, 0))) := Lib.hid (heap_alloc_new X _)
                    clear l0 l1 l2 l3 hsb
                    unfold Fw.val Fw.arr at HC1 HC2
                    refine wp_region_plan (fun w' => ∃ W : ClsW (InB X.heap.size X), w' = W.val) (.both [0, 1, 2, 3, 4, 5, 6, 7, 8, 9, 10] 11 (.step [12, 13, 14] 15 (.step [] 16 (.fin [17]))) 15 (.step [] 11 (.step [12, 13, 14] 16 (.fin [17])))) (by kernel_rfl) (by kernel_rfl) (by rw [hX]; exact inC (Below.refl _ _) (Nat.le_refl _)) ?_
                    rw [hX]
                    refine plan_both [_, _, _, _, _, _, _, _, _, _, _] [_] [_] rfl rfl rfl ?_
                    repeat (go_big_quiet_step (fail))
                    refine wpQuiet_nil ?_
                    refine Lib.hid ⟨?_, ?_⟩
                    · as_aux_lemma =>
                      go_wp2_with fail
                      refine HC1.out.mono ?_
                      rintro e V ⟨rfl, hV⟩
                      have HV := Lib.hid hV
                      clear hV
                      go_wp2_with fail
                      refine Lib.hid ⟨inC HV.out HV.out.size, ?_⟩
                      refine plan_step [_, _, _] [_] rfl rfl ?_
                      try simp only [Act.put, List.setIfInBounds_toArray, List.set_cons_succ, List.set_cons_zero]
                      repeat (go_big_quiet_step (fail))
                      refine wpQuiet_nil ?_
                      go_wp2_with fail
                      refine Lib.hid ⟨inC (HV.out.trans ((bel_alloc _ _).mono HV.out.size)) (by rw [World.size_alloc]; have := HV.out.size; omega), ?_⟩
                      refine plan_step [] [_] rfl rfl ?_
                      try simp only [Act.put, List.setIfInBounds_toArray, List.set_cons_succ, List.set_cons_zero]
                      refine wpQuiet_nil ?_
                      go_wp2_with fail
                      have HVA : Hid (Below X.heap.size X (V.alloc (.cells (Fw.arr h) 37)) ∧ (V.alloc (.cells (Fw.arr h) 37)).heap[V.heap.size]? = some (.cells (Fw.arr h) 37 (0, 0))) := Lib.hid ⟨HV.out.trans ((bel_alloc _ _).mono HV.out.size), heap_alloc_new _ _⟩
                      refine Lib.hid ⟨inC HVA.out.1 HVA.out.1.size, ?_⟩
                      refine plan_fin [_] rfl ?_
                      try simp only [Act.put, List.setIfInBounds_toArray, List.set_cons_succ, List.set_cons_zero]
                      repeat (go_big_quiet_step (fail))
                      refine wpQuiet_nil ?_
                      go_wp2_with fail
                      go_meet
                      case rel => exact ⟨V.heap.size, rfl, rfl, Lib.hid ⟨HXB.out.1.trans (HVA.out.1.mono HXB.out.1.size), HVA.out.2, by rw [HXB.out.2]; exact HV.out.size⟩⟩
                    · as_aux_lemma =>
                      go_wp2_with fail
                      refine Lib.hid ⟨inC HBA.out HBA.out.size, ?_⟩
                      refine plan_step [] [_] rfl rfl ?_
                      try simp only [Act.put, List.setIfInBounds_toArray, List.set_cons_succ, List.set_cons_zero]
                      refine wpQuiet_nil ?_
                      go_wp2_with fail
                      refine HC2.out.mono ?_
                      rintro e V ⟨rfl, hV⟩
                      have HV : Hid (Below X.heap.size X V) := Lib.hid (HBA.out.trans (hV.mono HBA.out.size))
                      have hzv : V.heap[X.heap.size]? = some (.cells #[.int .u8 0, .int .u16 0, .int .u32 0, .int .u16 0] 37 (0, 0)) := (hV.block _ (by simp)).trans HZH.out
                      have HZV := Lib.hid hzv
                      have f0 : V.frozen? ⟨X.heap.size, 0, none⟩ = false := free_of hzv 0
                      have f1 : V.frozen? ⟨X.heap.size, 1, none⟩ = false := free_of hzv 1
                      have f2 : V.frozen? ⟨X.heap.size, 2, none⟩ = false := free_of hzv 2
                      have f3 : V.frozen? ⟨X.heap.size, 3, none⟩ = false := free_of hzv 3
                      have z0 : V.cell? ⟨X.heap.size, 0, none⟩ = some (.int .u8 0) := cell_of hzv 0
                      have z1 : V.cell? ⟨X.heap.size, 1, none⟩ = some (.int .u16 0) := cell_of hzv 1
                      have z2 : V.cell? ⟨X.heap.size, 2, none⟩ = some (.int .u32 0) := cell_of hzv 2
                      have z3 : V.cell? ⟨X.heap.size, 3, none⟩ = some (.int .u16 0) := cell_of hzv 3
                      clear hV hzv
                      go_wp2_with fail
                      refine Lib.hid ⟨inC HV.out HV.out.size, ?_⟩
                      refine plan_step [_, _, _] [_] rfl rfl ?_
                      try simp only [Act.put, List.setIfInBounds_toArray, List.set_cons_succ, List.set_cons_zero]
                      repeat (go_big_quiet_step (fail))
                      refine wpQuiet_nil ?_
                      go_wp2_with fail
                      have HP := Lib.hid (put4 (v0 := .int .u8 (Fw.proto h)) (v1 := .int .u16 (Fw.port h)) (v2 := .int .u32 (Fw.addr h)) (v3 := .int .u16 (Fw.dest h)) HZV.out HV.out (Nat.le_refl _))
                      refine Lib.hid ⟨inC HP.out.1 HP.out.1.size, ?_⟩
                      refine plan_fin [_] rfl ?_
                      try simp only [Act.put, List.setIfInBounds_toArray, List.set_cons_succ, List.set_cons_zero]
                      repeat (go_big_quiet_step (fail))
                      refine wpQuiet_nil ?_
                      go_wp2_with fail
                      go_meet
                      case rel => exact ⟨X.heap.size, rfl, rfl, Lib.hid ⟨HXB.out.1.trans (HP.out.1.mono HXB.out.1.size), HP.out.2, by rw [HXB.out.2]; exact Nat.le_refl _⟩⟩
                  case rest =>
                    obtain ⟨pb, rfl, rfl, hbb⟩ := hcut
                    have HR3 : Hid (LsW w q c (some ⟨sb, so, none⟩) l wc ∧ Tb wc g1 b1 nn1 (lessL l k) ∧ Tb wc g2 b2 nn2 (turnL l k) ∧ Tb wc g3 b3 nn3 l) := Lib.hid ⟨HQ.out.1.below hbb.out.1, HQ.out.2.1.below hbb.out.1, HQ.out.2.2.1.below hbb.out.1, HQ.out.2.2.2.below hbb.out.1⟩
                    have hpb := hbb.out.2.1
                    have hpa := kept_heap HPQ.out hbb.out.1
                    obtain ⟨b4, o4, e4, hsb, l0, l1, l2, l3⟩ := HR3.out.1.src k h HH.out
                    cases e4
                    have a0 : wc.cell? ⟨pa, 0, none⟩ = some (.int .u8 (Fw.proto Fw.zero)) := cell_of hpa 0
                    have a1 : wc.cell? ⟨pa, 1, none⟩ = some (.int .u16 (Fw.port Fw.zero)) := cell_of hpa 1
                    have a2 : wc.cell? ⟨pa, 2, none⟩ = some (.int .u32 (Fw.addr Fw.zero)) := cell_of hpa 2
                    have a3 : wc.cell? ⟨pa, 3, none⟩ = some (.int .u16 (Fw.dest Fw.zero)) := cell_of hpa 3
                    have c0 : wc.cell? ⟨pb, 0, none⟩ = some (.int .u8 h.proto) := cell_of hpb 0
                    have c1 : wc.cell? ⟨pb, 1, none⟩ = some (.int .u16 h.port) := cell_of hpb 1
                    have c2 : wc.cell? ⟨pb, 2, none⟩ = some (.int .u32 h.addr) := cell_of hpb 2
                    have c3 : wc.cell? ⟨pb, 3, none⟩ = some (.int .u16 h.dest) := cell_of hpb 3
                    have E1 := fw_neq h h
                    simp only [decide_true, Bool.not_true, Fw.val, Fw.arr] at E1
                    have t1 : ((k : Int) != (k : Int)) = false := by simp
                    clear hbb hpb hpa hsb HPQ HQ HR2 HF2
                    go_upto_region 17 with (fail)
                    go_quiet (fail)
                    go_wp2_with fail
                    go_roundw
                    case rel => exact ⟨k + 1, by simp, by omega, Lib.hid ⟨HR3.out.1.below (below_drewN (Below.refl _ _) _), HR3.out.2.1.below (below_drewN (Below.refl _ _) _), HR3.out.2.2.1.below (below_drewN (Below.refl _ _) _), HR3.out.2.2.2.below (below_drewN (Below.refl _ _) _)⟩⟩
                    case measure => simp [intOf]; omega
              · as_aux_lemma =>
                have HF1 : Hid (∀ W, Tb W g1 b1 nn1 (lessL l k) → Calls Try.prog 10 #[.pointer (some ⟨g1, 0, none⟩), .int .u8 h.proto, .int .u16 h.port] W fun e w' => e = .returned (.tuple #[(Fw.val h), .bool true]) ∧ Below W.heap.size W w') := Lib.hid (fun W hW => by
                  have := find_any hW h.proto h.port ⟨(HL.out.2.1 h (List.mem_of_getElem? HH.out)).1, (HL.out.2.1 h (List.mem_of_getElem? HH.out)).2.1⟩
                  have e1 : findD (lessL l k) ⟨h.proto, h.port⟩ = some h := less_find HM.out HH.out hik
                  unfold getF at this
                  rw [e1] at this
                  exact this)
                have HF2 : Hid (∀ W, Tb W g2 b2 nn2 (turnL l k) → Calls Try.prog 10 #[.pointer (some ⟨g2, 0, none⟩), .int .u8 h.proto, .int .u16 h.port] W fun e w' => e = .returned (.tuple #[h.val, .bool true]) ∧ Below W.heap.size W w') := Lib.hid (fun W hW => by
                  have := find_any hW h.proto h.port ⟨(HL.out.2.1 h (List.mem_of_getElem? HH.out)).1, (HL.out.2.1 h (List.mem_of_getElem? HH.out)).2.1⟩
                  have e1 : findD (turnL l k) ⟨h.proto, h.port⟩ = some h := turn_find HM.out HH.out
                  unfold getF at this
                  rw [e1] at this
                  exact this)

                go_upto_region 15 with (fail)
                refine wp_name fun Q hQ => ?_
                have HQ := HR
                rw [← hQ] at HQ
                clear hQ
                go_cut [17, 18] (fun va vb wx => ∃ p : Nat, va = .pointer (some ⟨p, 0, none⟩) ∧ vb = .bool true ∧ Hid (Below Q.heap.size Q wx ∧ wx.heap[p]? = some (.cells (Fw.arr h) 37 (0, 0)) ∧ Q.heap.size ≤ p))
                case first =>
                  as_aux_lemma =>
                  obtain ⟨X, hX⟩ : ∃ X, Q.drew = X := ⟨_, rfl⟩
                  have HXB : Hid (Below Q.heap.size Q X ∧ Q.heap.size = X.heap.size) := Lib.hid (by rw [← hX]; exact ⟨bel_drew0 _, rfl⟩)
                  have HXT : Hid (Tb X g1 b1 nn1 (lessL l k) ∧ FwsAt X (some ⟨sb, so, none⟩) l) := Lib.hid (by rw [← hX]; exact ⟨HQ.out.2.1.below (bel_drew0 _), HQ.out.1.src.below (bel_drew0 _)⟩)
                  obtain ⟨b2, o2, e2, hsb, l0, l1, l2, l3⟩ := HXT.out.2 i h HH.out
                  cases e2
                  have hne : Nonempty (ClsW (InB X.heap.size X)) := ⟨⟨X, Below.refl _ _, Nat.le_refl _⟩⟩
                  have k0 : ∀ W : ClsW (InB X.heap.size X), W.val.cell? ⟨sb, so + i * 4, none⟩ = some (.int .u8 h.proto) := fun W => class_cell W l0 hsb
                  have k1 : ∀ W : ClsW (InB X.heap.size X), W.val.cell? ⟨sb, so + i * 4 + 1, none⟩ = some (.int .u16 h.port) := fun W => class_cell W l1 hsb
                  have HC1 := Lib.hid (HF1.out X HXT.out.1)
                  have HBA : Hid (Below X.heap.size X (X.alloc (.cells #[.int .u8 0, .int .u16 0, .int .u32 0, .int .u16 0] 37))) := Lib.hid (bel_alloc _ _)
                  have HC2 := Lib.hid (HF1.out (X.alloc (.cells #[.int .u8 0, .int .u16 0, .int .u32 0, .int .u16 0] 37)) (HXT.out.1.below HBA.out))
                  have HZH : Hid ((X.alloc (.cells #[.int .u8 0, .int .u16 0, .int .u32 0, .int .u16 0] 37)).heap[X.heap.size]? = some (.cells #[.int .u8 0, .int .u16 0, .int .u32 0, .int .u16 0] 37 (0, 0))) := Lib.hid (heap_alloc_new X _)
                  clear l0 l1 l2 l3 hsb
                  unfold Fw.val Fw.arr at HC1 HC2
                  refine wp_region_plan (fun w' => ∃ W : ClsW (InB X.heap.size X), w' = W.val) (.both [0, 1, 2, 3, 4, 5, 6, 7, 8, 9, 10] 11 (.step [12, 13, 14] 15 (.step [] 16 (.fin [17]))) 15 (.step [] 11 (.step [12, 13, 14] 16 (.fin [17])))) (by kernel_rfl) (by kernel_rfl) (by rw [hX]; exact inC (Below.refl _ _) (Nat.le_refl _)) ?_
                  rw [hX]
                  refine plan_both [_, _, _, _, _, _, _, _, _, _, _] [_] [_] rfl rfl rfl ?_
                  repeat (go_big_quiet_step (fail))
                  refine wpQuiet_nil ?_
                  refine Lib.hid ⟨?_, ?_⟩
                  · as_aux_lemma =>
                    go_wp2_with fail
                    refine HC1.out.mono ?_
                    rintro e V ⟨rfl, hV⟩
                    have HV := Lib.hid hV
                    clear hV
                    go_wp2_with fail
                    refine Lib.hid ⟨inC HV.out HV.out.size, ?_⟩
                    refine plan_step [_, _, _] [_] rfl rfl ?_
                    try simp only [Act.put, List.setIfInBounds_toArray, List.set_cons_succ, List.set_cons_zero]
                    repeat (go_big_quiet_step (fail))
                    refine wpQuiet_nil ?_
                    go_wp2_with fail
                    refine Lib.hid ⟨inC (HV.out.trans ((bel_alloc _ _).mono HV.out.size)) (by rw [World.size_alloc]; have := HV.out.size; omega), ?_⟩
                    refine plan_step [] [_] rfl rfl ?_
                    try simp only [Act.put, List.setIfInBounds_toArray, List.set_cons_succ, List.set_cons_zero]
                    refine wpQuiet_nil ?_
                    go_wp2_with fail
                    have HVA : Hid (Below X.heap.size X (V.alloc (.cells (Fw.arr h) 37)) ∧ (V.alloc (.cells (Fw.arr h) 37)).heap[V.heap.size]? = some (.cells (Fw.arr h) 37 (0, 0))) := Lib.hid ⟨HV.out.trans ((bel_alloc _ _).mono HV.out.size), heap_alloc_new _ _⟩
                    refine Lib.hid ⟨inC HVA.out.1 HVA.out.1.size, ?_⟩
                    refine plan_fin [_] rfl ?_
                    try simp only [Act.put, List.setIfInBounds_toArray, List.set_cons_succ, List.set_cons_zero]
                    repeat (go_big_quiet_step (fail))
                    refine wpQuiet_nil ?_
                    go_wp2_with fail
                    go_meet
                    case rel => exact ⟨V.heap.size, rfl, rfl, Lib.hid ⟨HXB.out.1.trans (HVA.out.1.mono HXB.out.1.size), HVA.out.2, by rw [HXB.out.2]; exact HV.out.size⟩⟩
                  · as_aux_lemma =>
                    go_wp2_with fail
                    refine Lib.hid ⟨inC HBA.out HBA.out.size, ?_⟩
                    refine plan_step [] [_] rfl rfl ?_
                    try simp only [Act.put, List.setIfInBounds_toArray, List.set_cons_succ, List.set_cons_zero]
                    refine wpQuiet_nil ?_
                    go_wp2_with fail
                    refine HC2.out.mono ?_
                    rintro e V ⟨rfl, hV⟩
                    have HV : Hid (Below X.heap.size X V) := Lib.hid (HBA.out.trans (hV.mono HBA.out.size))
                    have hzv : V.heap[X.heap.size]? = some (.cells #[.int .u8 0, .int .u16 0, .int .u32 0, .int .u16 0] 37 (0, 0)) := (hV.block _ (by simp)).trans HZH.out
                    have HZV := Lib.hid hzv
                    have f0 : V.frozen? ⟨X.heap.size, 0, none⟩ = false := free_of hzv 0
                    have f1 : V.frozen? ⟨X.heap.size, 1, none⟩ = false := free_of hzv 1
                    have f2 : V.frozen? ⟨X.heap.size, 2, none⟩ = false := free_of hzv 2
                    have f3 : V.frozen? ⟨X.heap.size, 3, none⟩ = false := free_of hzv 3
                    have z0 : V.cell? ⟨X.heap.size, 0, none⟩ = some (.int .u8 0) := cell_of hzv 0
                    have z1 : V.cell? ⟨X.heap.size, 1, none⟩ = some (.int .u16 0) := cell_of hzv 1
                    have z2 : V.cell? ⟨X.heap.size, 2, none⟩ = some (.int .u32 0) := cell_of hzv 2
                    have z3 : V.cell? ⟨X.heap.size, 3, none⟩ = some (.int .u16 0) := cell_of hzv 3
                    clear hV hzv
                    go_wp2_with fail
                    refine Lib.hid ⟨inC HV.out HV.out.size, ?_⟩
                    refine plan_step [_, _, _] [_] rfl rfl ?_
                    try simp only [Act.put, List.setIfInBounds_toArray, List.set_cons_succ, List.set_cons_zero]
                    repeat (go_big_quiet_step (fail))
                    refine wpQuiet_nil ?_
                    go_wp2_with fail
                    have HP := Lib.hid (put4 (v0 := .int .u8 (Fw.proto h)) (v1 := .int .u16 (Fw.port h)) (v2 := .int .u32 (Fw.addr h)) (v3 := .int .u16 (Fw.dest h)) HZV.out HV.out (Nat.le_refl _))
                    refine Lib.hid ⟨inC HP.out.1 HP.out.1.size, ?_⟩
                    refine plan_fin [_] rfl ?_
                    try simp only [Act.put, List.setIfInBounds_toArray, List.set_cons_succ, List.set_cons_zero]
                    repeat (go_big_quiet_step (fail))
                    refine wpQuiet_nil ?_
                    go_wp2_with fail
                    go_meet
                    case rel => exact ⟨X.heap.size, rfl, rfl, Lib.hid ⟨HXB.out.1.trans (HP.out.1.mono HXB.out.1.size), HP.out.2, by rw [HXB.out.2]; exact Nat.le_refl _⟩⟩
                case rest =>

                  obtain ⟨pa, rfl, rfl, hba⟩ := hcut
                  have HR2 : Hid (LsW w q c (some ⟨sb, so, none⟩) l wc ∧ Tb wc g1 b1 nn1 (lessL l k) ∧ Tb wc g2 b2 nn2 (turnL l k) ∧ Tb wc g3 b3 nn3 l) := Lib.hid ⟨HQ.out.1.below hba.out.1, HQ.out.2.1.below hba.out.1, HQ.out.2.2.1.below hba.out.1, HQ.out.2.2.2.below hba.out.1⟩
                  have HPA := Lib.hid hba.out.2.1
                  obtain ⟨wa, hwa⟩ : ∃ wa, wa = wc := ⟨_, rfl⟩
                  rw [← hwa] at HR2 HPA ⊢
                  clear hba hwa HQ HR HF1
                  go_upto_region 16 with (fail)
                  refine wp_name fun Q hQ => ?_
                  have HQ := HR2
                  rw [← hQ] at HQ HPA
                  have HPQ := HPA
                  clear hQ
                  go_cut [19, 20] (fun va vb wx => ∃ p : Nat, va = .pointer (some ⟨p, 0, none⟩) ∧ vb = .bool true ∧ Hid (Below Q.heap.size Q wx ∧ wx.heap[p]? = some (.cells (Fw.arr h) 37 (0, 0)) ∧ Q.heap.size ≤ p))
                  case first =>
                    as_aux_lemma =>
                    obtain ⟨X, hX⟩ : ∃ X, Q.drew = X := ⟨_, rfl⟩
                    have HXB : Hid (Below Q.heap.size Q X ∧ Q.heap.size = X.heap.size) := Lib.hid (by rw [← hX]; exact ⟨bel_drew0 _, rfl⟩)
                    have HXT : Hid (Tb X g2 b2 nn2 (turnL l k) ∧ FwsAt X (some ⟨sb, so, none⟩) l) := Lib.hid (by rw [← hX]; exact ⟨HQ.out.2.2.1.below (bel_drew0 _), HQ.out.1.src.below (bel_drew0 _)⟩)
                    obtain ⟨b2, o2, e2, hsb, l0, l1, l2, l3⟩ := HXT.out.2 i h HH.out
                    cases e2
                    have hne : Nonempty (ClsW (InB X.heap.size X)) := ⟨⟨X, Below.refl _ _, Nat.le_refl _⟩⟩
                    have k0 : ∀ W : ClsW (InB X.heap.size X), W.val.cell? ⟨sb, so + i * 4, none⟩ = some (.int .u8 h.proto) := fun W => class_cell W l0 hsb
                    have k1 : ∀ W : ClsW (InB X.heap.size X), W.val.cell? ⟨sb, so + i * 4 + 1, none⟩ = some (.int .u16 h.port) := fun W => class_cell W l1 hsb
                    have HC1 := Lib.hid (HF2.out X HXT.out.1)
                    have HBA : Hid (Below X.heap.size X (X.alloc (.cells #[.int .u8 0, .int .u16 0, .int .u32 0, .int .u16 0] 37))) := Lib.hid (bel_alloc _ _)
                    have HC2 := Lib.hid (HF2.out (X.alloc (.cells #[.int .u8 0, .int .u16 0, .int .u32 0, .int .u16 0] 37)) (HXT.out.1.below HBA.out))
                    have HZH : Hid ((X.alloc (.cells #[.int .u8 0, .int .u16 0, .int .u32 0, .int .u16 0] 37)).heap[X.heap.size]? = some (.cells #[.int .u8 0, .int .u16 0, .int .u32 0, .int .u16 0] 37 (0, 0))) := Lib.hid (heap_alloc_new X _)
                    clear l0 l1 l2 l3 hsb
                    unfold Fw.val Fw.arr at HC1 HC2
                    refine wp_region_plan (fun w' => ∃ W : ClsW (InB X.heap.size X), w' = W.val) (.both [0, 1, 2, 3, 4, 5, 6, 7, 8, 9, 10] 11 (.step [12, 13, 14] 15 (.step [] 16 (.fin [17]))) 15 (.step [] 11 (.step [12, 13, 14] 16 (.fin [17])))) (by kernel_rfl) (by kernel_rfl) (by rw [hX]; exact inC (Below.refl _ _) (Nat.le_refl _)) ?_
                    rw [hX]
                    refine plan_both [_, _, _, _, _, _, _, _, _, _, _] [_] [_] rfl rfl rfl ?_
                    repeat (go_big_quiet_step (fail))
                    refine wpQuiet_nil ?_
                    refine Lib.hid ⟨?_, ?_⟩
                    · as_aux_lemma =>
                      go_wp2_with fail
                      refine HC1.out.mono ?_
                      rintro e V ⟨rfl, hV⟩
                      have HV := Lib.hid hV
                      clear hV
                      go_wp2_with fail
                      refine Lib.hid ⟨inC HV.out HV.out.size, ?_⟩
                      refine plan_step [_, _, _] [_] rfl rfl ?_
                      try simp only [Act.put, List.setIfInBounds_toArray, List.set_cons_succ, List.set_cons_zero]
                      repeat (go_big_quiet_step (fail))
                      refine wpQuiet_nil ?_
                      go_wp2_with fail
                      refine Lib.hid ⟨inC (HV.out.trans ((bel_alloc _ _).mono HV.out.size)) (by rw [World.size_alloc]; have := HV.out.size; omega), ?_⟩
                      refine plan_step [] [_] rfl rfl ?_
                      try simp only [Act.put, List.setIfInBounds_toArray, List.set_cons_succ, List.set_cons_zero]
                      refine wpQuiet_nil ?_
                      go_wp2_with fail
                      have HVA : Hid (Below X.heap.size X (V.alloc (.cells (Fw.arr h) 37)) ∧ (V.alloc (.cells (Fw.arr h) 37)).heap[V.heap.size]? = some (.cells (Fw.arr h) 37 (0, 0))) := Lib.hid ⟨HV.out.trans ((bel_alloc _ _).mono HV.out.size), heap_alloc_new _ _⟩
                      refine Lib.hid ⟨inC HVA.out.1 HVA.out.1.size, ?_⟩
                      refine plan_fin [_] rfl ?_
                      try simp only [Act.put, List.setIfInBounds_toArray, List.set_cons_succ, List.set_cons_zero]
                      repeat (go_big_quiet_step (fail))
                      refine wpQuiet_nil ?_
                      go_wp2_with fail
                      go_meet
                      case rel => exact ⟨V.heap.size, rfl, rfl, Lib.hid ⟨HXB.out.1.trans (HVA.out.1.mono HXB.out.1.size), HVA.out.2, by rw [HXB.out.2]; exact HV.out.size⟩⟩
                    · as_aux_lemma =>
                      go_wp2_with fail
                      refine Lib.hid ⟨inC HBA.out HBA.out.size, ?_⟩
                      refine plan_step [] [_] rfl rfl ?_
                      try simp only [Act.put, List.setIfInBounds_toArray, List.set_cons_succ, List.set_cons_zero]
                      refine wpQuiet_nil ?_
                      go_wp2_with fail
                      refine HC2.out.mono ?_
                      rintro e V ⟨rfl, hV⟩
                      have HV : Hid (Below X.heap.size X V) := Lib.hid (HBA.out.trans (hV.mono HBA.out.size))
                      have hzv : V.heap[X.heap.size]? = some (.cells #[.int .u8 0, .int .u16 0, .int .u32 0, .int .u16 0] 37 (0, 0)) := (hV.block _ (by simp)).trans HZH.out
                      have HZV := Lib.hid hzv
                      have f0 : V.frozen? ⟨X.heap.size, 0, none⟩ = false := free_of hzv 0
                      have f1 : V.frozen? ⟨X.heap.size, 1, none⟩ = false := free_of hzv 1
                      have f2 : V.frozen? ⟨X.heap.size, 2, none⟩ = false := free_of hzv 2
                      have f3 : V.frozen? ⟨X.heap.size, 3, none⟩ = false := free_of hzv 3
                      have z0 : V.cell? ⟨X.heap.size, 0, none⟩ = some (.int .u8 0) := cell_of hzv 0
                      have z1 : V.cell? ⟨X.heap.size, 1, none⟩ = some (.int .u16 0) := cell_of hzv 1
                      have z2 : V.cell? ⟨X.heap.size, 2, none⟩ = some (.int .u32 0) := cell_of hzv 2
                      have z3 : V.cell? ⟨X.heap.size, 3, none⟩ = some (.int .u16 0) := cell_of hzv 3
                      clear hV hzv
                      go_wp2_with fail
                      refine Lib.hid ⟨inC HV.out HV.out.size, ?_⟩
                      refine plan_step [_, _, _] [_] rfl rfl ?_
                      try simp only [Act.put, List.setIfInBounds_toArray, List.set_cons_succ, List.set_cons_zero]
                      repeat (go_big_quiet_step (fail))
                      refine wpQuiet_nil ?_
                      go_wp2_with fail
                      have HP := Lib.hid (put4 (v0 := .int .u8 (Fw.proto h)) (v1 := .int .u16 (Fw.port h)) (v2 := .int .u32 (Fw.addr h)) (v3 := .int .u16 (Fw.dest h)) HZV.out HV.out (Nat.le_refl _))
                      refine Lib.hid ⟨inC HP.out.1 HP.out.1.size, ?_⟩
                      refine plan_fin [_] rfl ?_
                      try simp only [Act.put, List.setIfInBounds_toArray, List.set_cons_succ, List.set_cons_zero]
                      repeat (go_big_quiet_step (fail))
                      refine wpQuiet_nil ?_
                      go_wp2_with fail
                      go_meet
                      case rel => exact ⟨X.heap.size, rfl, rfl, Lib.hid ⟨HXB.out.1.trans (HP.out.1.mono HXB.out.1.size), HP.out.2, by rw [HXB.out.2]; exact Nat.le_refl _⟩⟩
                  case rest =>
                    obtain ⟨pb, rfl, rfl, hbb⟩ := hcut
                    have HR3 : Hid (LsW w q c (some ⟨sb, so, none⟩) l wc ∧ Tb wc g1 b1 nn1 (lessL l k) ∧ Tb wc g2 b2 nn2 (turnL l k) ∧ Tb wc g3 b3 nn3 l) := Lib.hid ⟨HQ.out.1.below hbb.out.1, HQ.out.2.1.below hbb.out.1, HQ.out.2.2.1.below hbb.out.1, HQ.out.2.2.2.below hbb.out.1⟩
                    have hpb := hbb.out.2.1
                    have hpa := kept_heap HPQ.out hbb.out.1
                    obtain ⟨b4, o4, e4, hsb, l0, l1, l2, l3⟩ := HR3.out.1.src i h HH.out
                    cases e4
                    have a0 : wc.cell? ⟨pa, 0, none⟩ = some (.int .u8 (Fw.proto h)) := cell_of hpa 0
                    have a1 : wc.cell? ⟨pa, 1, none⟩ = some (.int .u16 (Fw.port h)) := cell_of hpa 1
                    have a2 : wc.cell? ⟨pa, 2, none⟩ = some (.int .u32 (Fw.addr h)) := cell_of hpa 2
                    have a3 : wc.cell? ⟨pa, 3, none⟩ = some (.int .u16 (Fw.dest h)) := cell_of hpa 3
                    have c0 : wc.cell? ⟨pb, 0, none⟩ = some (.int .u8 h.proto) := cell_of hpb 0
                    have c1 : wc.cell? ⟨pb, 1, none⟩ = some (.int .u16 h.port) := cell_of hpb 1
                    have c2 : wc.cell? ⟨pb, 2, none⟩ = some (.int .u32 h.addr) := cell_of hpb 2
                    have c3 : wc.cell? ⟨pb, 3, none⟩ = some (.int .u16 h.dest) := cell_of hpb 3
                    have E1 := fw_neq h h
                    simp only [decide_true, Bool.not_true, Fw.val, Fw.arr] at E1
                    have t1 : ((i : Int) != (k : Int)) = true := by simp; omega
                    clear hbb hpb hpa hsb HPQ HQ HR2 HF2
                    go_upto_region 17 with (fail)
                    go_quiet (fail)
                    go_wp2_with fail
                    go_roundw
                    case rel => exact ⟨i + 1, by simp, by omega, Lib.hid ⟨HR3.out.1.below (below_drewN (Below.refl _ _) _), HR3.out.2.1.below (below_drewN (Below.refl _ _) _), HR3.out.2.2.1.below (below_drewN (Below.refl _ _) _), HR3.out.2.2.2.below (below_drewN (Below.refl _ _) _)⟩⟩
                    case measure => simp [intOf]; omega
            · as_aux_lemma =>
                clear HC
                go_wp2_with fail
                refine (all_any HR.out.2.2.1).mono ?_
                rintro e V1 ⟨A5, c5, S5, rfl, hS5, ho5, hb5⟩
                obtain ⟨n5, hn5⟩ : ∃ n5, S5.length = n5 := ⟨_, rfl⟩
                have H5 := Lib.hid (And.intro hS5 (And.intro (FwsAt.own (B := wr.heap.size) (c := c5) ho5) (And.intro hn5 (And.intro (HR.out.2.2.2.below hb5) (And.intro (HR.out.2.1.below hb5) (HR.out.1.below hb5))))))
                rw [hn5]
                clear hS5 ho5 hb5 hn5
                go_wp2_with fail
                refine (all_any H5.out.2.2.2.1).mono ?_
                rintro e V2 ⟨A6, c6, S6, rfl, hS6, ho6, hb6⟩
                obtain rfl : S5 = S6 := turn_srt H5.out.1 hS6
                have H6 := Lib.hid (And.intro (H5.out.2.1.below hb6) (And.intro (FwsAt.own (B := V1.heap.size) (c := c6) ho6) (And.intro (H5.out.2.2.2.2.1.below hb6) (H5.out.2.2.2.2.2.below hb6))))
                have hl5 : n5 ≤ 64 := by
                  have h1 := H5.out.1.perm.length_eq
                  rw [H5.out.2.2.1, turn_len, HL.out.1] at h1
                  omega
                rw [H5.out.2.2.1]
                clear hS6 ho6 hb6
                go_wp2_with fail
                refine (same_any A5 A6 c5 c6 n5 S5 H5.out.2.2.1 (by omega) H6.out.1 H6.out.2.1).mono ?_
                rintro e V3 ⟨rfl, hb65⟩
                have H65 := Lib.hid (And.intro (H6.out.2.2.1.below hb65) (H6.out.2.2.2.below hb65))
                clear hb65
                go_wp2_with fail
                refine (all_any H65.out.1).mono ?_
                rintro e V4 ⟨A7, c7, S7, rfl, hS7, ho7, hb7⟩
                obtain ⟨r, hr⟩ : ∃ r, S7.length = r := ⟨_, rfl⟩
                have hrm : r + 1 ≤ m ∧ m ≤ r + 1 := by
                  have h1 := hS7.perm.length_eq
                  rw [hr, less_len (by rw [HL.out.1]; exact hkm), HL.out.1] at h1
                  omega
                obtain ⟨hr1, hr2⟩ := hrm
                have H7 := Lib.hid (H65.out.2.below hb7)
                have tr : ((r : Int) == (m : Int) - 1) = true := by simp; omega
                rw [hr]
                clear hS7 ho7 hb7 hr
                go_wp2_with fail
                refine (HWK.out V4).mono ?_
                rintro e V5 ⟨rfl, hb8⟩
                have H8 := Lib.hid (H7.out.below hb8)
                clear hb8
                go_wp2_with fail
                go_ret
                exact ⟨rfl, H8.out.bel⟩
end Go.Proofs.Ythlohgldcnicbaa
