/- ForwardBack, walked. -/
import Derived.Test.YthlohgldcnicbaaBackLaw
import Derived.Test.YthlohgldcnicbaaMid
import Derived.BigQuiet
set_option linter.unusedVariables false
namespace Go.Proofs.Ythlohgldcnicbaa
open Go.RowKit Go.Deep Go.BigFrame
attribute [local go_sem ↓] Go.wp_at_zero Go.wp_at_succ
theorem FwsAt.take {w : World} {A : Option Addr} {L : List Fw} (h : FwsAt w A L) (m : Nat) : FwsAt w A (L.take m) := fun i f hf => h i f (by
  rcases Nat.lt_or_ge i m with r | r
  · rwa [List.getElem?_take_of_lt r] at hf
  · rw [List.getElem?_eq_none (by rw [List.length_take]; omega)] at hf; cases hf)
/-- What holds in every world of the walk. -/
structure BkW (w : World) (q g b nn : Nat) (c : Cfg) (x : Tup) (l : List Fw) (W : World) : Prop where
  bel : Below w.heap.size w W
  cfg : W.heap[q]? = some (.cells c.arr 29 (0, 0))
  tup : W.heap[q + 1]? = some (.cells x.arr 44 (0, 0))
  tb : Tb W g b nn l
theorem row_stays {W W' : World} {k : Nat} {o : Obj} (h : W.heap[k]? = some o) (hb : Below W.heap.size W W') : W'.heap[k]? = some o := (hb.block _ (Array.getElem?_eq_some_iff.1 h).1).trans h
theorem BkW.below {w W W' : World} {q g b nn : Nat} {c : Cfg} {x : Tup} {l : List Fw} (h : BkW w q g b nn c x l W) (hb : Below W.heap.size W W') : BkW w q g b nn c x l W' :=
  ⟨h.bel.trans (hb.mono h.bel.size), row_stays h.cfg hb, row_stays h.tup hb, h.tb.below hb⟩
theorem bel_drew {U X : World} (h : Below U.heap.size U X) : Below U.drew.heap.size U.drew X := ⟨h.os, h.tape, h.output, h.size, h.block⟩
theorem un_drew {U X : World} (h : Below U.drew.heap.size U.drew X) : Below U.heap.size U X := ⟨h.os, h.tape, h.output, h.size, h.block⟩
theorem put5 {U Y : World} {k : Nat} {z0 z1 z2 z3 z4 v0 v1 v2 v3 v4 : Value} (h : Y.heap[k]? = some (.cells #[z0, z1, z2, z3, z4] 44 (0, 0))) (hb : Below U.heap.size U Y) (hk : U.heap.size ≤ k) :
    Below U.heap.size U (((((Y.setCell ⟨k, 0, none⟩ v0).setCell ⟨k, 1, none⟩ v1).setCell ⟨k, 2, none⟩ v2).setCell ⟨k, 3, none⟩ v3).setCell ⟨k, 4, none⟩ v4) ∧
    (((((Y.setCell ⟨k, 0, none⟩ v0).setCell ⟨k, 1, none⟩ v1).setCell ⟨k, 2, none⟩ v2).setCell ⟨k, 3, none⟩ v3).setCell ⟨k, 4, none⟩ v4).heap[k]? = some (.cells #[v0, v1, v2, v3, v4] 44 (0, 0)) :=
  ⟨((((hb.setCell hk _).setCell hk _).setCell hk _).setCell hk _).setCell hk _, heap_set (heap_set (heap_set (heap_set (heap_set h _) _) _) _) _⟩
theorem alloc_bel (W : World) (o : Obj) : Below W.heap.size W (W.alloc o) := (Below.refl _ _).alloc (Nat.le_refl _) _
set_option maxHeartbeats 32000000
set_option maxRecDepth 100000
theorem back_walk (c : Cfg) (hc : c.Ok) (A : Option Addr) (n cp : Nat) (L : List Fw) (x : Tup) (hx : x.Ok) (w : World) (hn : L.length = n) (hfs : FwsAt w A L) (hok : ∀ f ∈ L, f.Ok) (hcp : n ≤ cp) (hmx : cp ≤ maxLen) :
    Calls Try.prog 6 #[c.val, .slice A n cp, x.val] w fun e w' => e = .returned (.bool true) ∧ Below w.heap.size w w' := by
  have HWK := Lib.hid wakes_any
  obtain ⟨m, hm⟩ : ∃ m : Nat, min (n : Int) 70 = m := ⟨min n 70, by omega⟩
  have hmn : m ≤ n ∧ m ≤ 70 := by omega
  obtain ⟨l, hl⟩ : ∃ l, L.take m = l := ⟨_, rfl⟩
  have hll : l.length = m := by rw [← hl, List.length_take]; omega
  have hlf : FwsAt w A l := by rw [← hl]; exact hfs.take m
  have hlo : ∀ f ∈ l, f.Ok := fun f hf => hok f (List.mem_of_mem_take (by rw [hl]; exact hf))
  obtain ⟨q, hq⟩ : ∃ q, w.heap.size = q := ⟨_, rfl⟩
  have HL := Lib.hid (And.intro hll (And.intro hlf (And.intro hlo hq)))
  have HC := Lib.hid (And.intro hc hx)
  have hmc : m ≤ cp := by omega
  have hm0 : m ≤ 70 := hmn.2
  clear hc hx hn hfs hok hl hll hlf hlo hq hmn
  unfold Cfg.val Cfg.arr Tup.val Tup.arr
  go_enter Try.func6, Try.ntmps6
  go_upto_region 1 with (fail)
  refine wp_name fun W hW => ?_
  have hW' : W = (w.alloc (.cells c.arr 29)).alloc (.cells x.arr 44) := hW
  have hB : Below w.heap.size w W := by rw [hW']; exact ((Below.refl _ _).alloc (Nat.le_refl _) _).alloc (by simp) _
  have hs : W.heap.size = q + 2 := by rw [hW', ← HL.out.2.2.2]; simp
  have hg : W.heap[q]? = some (.cells c.arr 29 (0, 0)) := by rw [hW', ← HL.out.2.2.2, Below.heap_alloc _ _ _ (by simp)]; exact heap_alloc_new w _
  have hx : W.heap[q + 1]? = some (.cells x.arr 44 (0, 0)) := by
    rw [hW', ← HL.out.2.2.2]
    have := heap_alloc_new (w.alloc (.cells c.arr 29)) (.cells x.arr 44)
    rwa [World.size_alloc] at this
  have HW := Lib.hid (And.intro hB (And.intro hg (And.intro hx hs)))
  have HLD : Hid (∀ X : World, (∃ k, X = W.drewN k) → (Instr.loadAt 29 (.pointer (some ⟨q, 0, none⟩))).run Try.prog X = .ok c.val X) := Lib.hid (fun (X : World) (hX : ∃ k, X = W.drewN k) => by obtain ⟨k, rfl⟩ := hX; exact load29 (W := W.drewN k) hg)
  unfold Cfg.val Cfg.arr at HLD
  rw [HL.out.2.2.2]
  clear hW hW' hB hs hg hx
  by_cases hmay : mayF c l = true
  · have HNEW := Lib.hid (fun k => new_yes HC.out.1 A m cp l (W.drewN k) HL.out.1 (HL.out.2.1.below (below_drewN HW.out.1 k)) HL.out.2.2.1 (by omega) hmay)
    unfold Cfg.val Cfg.arr at HNEW
    have HM := Lib.hid hmay
    clear hmay
    as_aux_lemma =>
      refine wp_region_mid 6 _ (by kernel_rfl) (by kernel_rfl) rfl ?_
      simp only [List.take_succ_cons, List.take_zero, List.drop_succ_cons, List.drop_zero]
      refine wpQuiet_load 29 _ rfl rfl _ (by exact HLD.out) ?_
      simp only [Act.put, List.setIfInBounds_toArray, List.set_cons_succ, List.set_cons_zero]
      repeat (go_big_quiet_step (fail))
      refine wpQuiet_nil ?_
      rintro _ ⟨nq, rfl⟩
      go_wp2_with fail
      refine (HNEW.out nq).mono ?_
      rintro e V ⟨g, b, nn, rfl, hT, hV⟩
      go_wp2_with fail
      repeat (go_big_quiet_step (fail))
      refine wpQuiet_nil ?_
      rintro _ ⟨nq2, rfl⟩
      obtain ⟨Z, hZZ⟩ : ∃ Z, V.drewN nq2 = Z := ⟨_, rfl⟩
      have hZ : BkW w q g b nn c x l Z := by
        rw [← hZZ]
        have hb := below_drewN (Below.refl V.heap.size V) nq2
        have hv := below_drewN (Below.refl W.heap.size W) nq
        have hr : Below W.heap.size W (V.drewN nq2) := hv.trans ((hV.trans (hb.mono hV.size)).mono (by simp))
        exact ⟨HW.out.1.trans (hr.mono HW.out.1.size), row_stays HW.out.2.1 hr, row_stays HW.out.2.2.1 hr, hT.below hb⟩
      rw [hZZ]
      clear hZZ hT hV
      obtain ⟨S, hS⟩ := srt_exists hZ.tb.ok
      have hc := HC.out.1
      have hx := HC.out.2
      have hmay := HM.out
      have hlo := HL.out.2.2.1
      clear HL HC HW HLD HNEW HM
      cases hf : findD l ⟨x.proto, x.dp⟩ with
      | none =>
        as_aux_lemma =>
          have HI : Hid (∀ W, Tb W g b nn l → Calls Try.prog 17 #[.pointer (some ⟨g, 0, none⟩), x.val] W fun e w' => e = .returned (.tuple #[x.val, .bool false]) ∧ Below W.heap.size W w') := Lib.hid (fun W hW => by
            have := inward_any hW x hx
            unfold getF at this
            rw [hf] at this
            exact this)
          have HF : Hid (∀ W, Tb W g b nn l → Calls Try.prog 10 #[.pointer (some ⟨g, 0, none⟩), .int .u8 x.proto, .int .u16 x.dp] W fun e w' => e = .returned (.tuple #[Fw.zero.val, .bool false]) ∧ Below W.heap.size W w') := Lib.hid (fun W hW => by
            have := find_any hW x.proto x.dp ⟨hx.1, hx.2.2.2.2⟩
            unfold getF at this
            rw [hf] at this
            exact this)
          have HZ := Lib.hid hZ
          have hxz := hZ.tup
          have E1 := tup_eql x x
          have E2 := fw_eql Fw.zero Fw.zero
          simp only [decide_true, Tup.val, Tup.arr] at E1
          simp only [decide_true, Fw.val, Fw.arr, Fw.zero] at E2
          have x0 : Z.cell? ⟨q + 1, 0, none⟩ = some (.int .u8 x.proto) := cell_of hxz 0
          have x1 : Z.cell? ⟨q + 1, 1, none⟩ = some (.int .u32 x.src) := cell_of hxz 1
          have x2 : Z.cell? ⟨q + 1, 2, none⟩ = some (.int .u32 x.dst) := cell_of hxz 2
          have x3 : Z.cell? ⟨q + 1, 3, none⟩ = some (.int .u16 x.sp) := cell_of hxz 3
          have x4 : Z.cell? ⟨q + 1, 4, none⟩ = some (.int .u16 x.dp) := cell_of hxz 4
          clear hZ hmay hlo hS hf hc hx hxz
          unfold Fw.zero Tup.val Tup.arr at *
          unfold Fw.val Fw.arr at *
          go_wp2_with fail
          refine (HI.out _ HZ.out.tb).mono ?_
          rintro e U ⟨rfl, hU⟩
          have HU := Lib.hid (HZ.out.below hU)
          clear hU x0 x1 x2 x3 x4
          obtain ⟨p9, hp9⟩ : ∃ p9, U.heap.size = p9 := ⟨_, rfl⟩
          have hxu := HU.out.tup
          have x0 : U.cell? ⟨q + 1, 0, none⟩ = some (.int .u8 x.proto) := cell_of hxu 0
          have x1 : U.cell? ⟨q + 1, 1, none⟩ = some (.int .u32 x.src) := cell_of hxu 1
          have x2 : U.cell? ⟨q + 1, 2, none⟩ = some (.int .u32 x.dst) := cell_of hxu 2
          have x3 : U.cell? ⟨q + 1, 3, none⟩ = some (.int .u16 x.sp) := cell_of hxu 3
          have x4 : U.cell? ⟨q + 1, 4, none⟩ = some (.int .u16 x.dp) := cell_of hxu 4
          clear hxu
          go_upto_region 5 with (fail)
          refine wp_name fun U1 hU1 => ?_
          have hU1' : U1 = U.alloc (.cells x.arr 44) := hU1
          have hb1 : Below U.heap.size U U1 := by rw [hU1']; exact alloc_bel _ _
          have hi1 : U1.heap[p9]? = some (.cells x.arr 44 (0, 0)) := by rw [hU1', ← hp9]; exact heap_alloc_new U _
          have HU1 := Lib.hid (And.intro (HU.out.below hb1) hi1)
          try rw [hp9]
          clear hU1 hU1' hb1 hi1 x0 x1 x2 x3 x4 hp9
          have hxu := HU1.out.1.tup
          have x0 : U1.cell? ⟨q + 1, 0, none⟩ = some (.int .u8 x.proto) := cell_of hxu 0
          have x1 : U1.cell? ⟨q + 1, 1, none⟩ = some (.int .u32 x.src) := cell_of hxu 1
          have x2 : U1.cell? ⟨q + 1, 2, none⟩ = some (.int .u32 x.dst) := cell_of hxu 2
          have x3 : U1.cell? ⟨q + 1, 3, none⟩ = some (.int .u16 x.sp) := cell_of hxu 3
          have x4 : U1.cell? ⟨q + 1, 4, none⟩ = some (.int .u16 x.dp) := cell_of hxu 4
          clear hxu
          go_wp2_with fail
          refine (HF.out _ HU1.out.1.tb).mono ?_
          rintro e U2 ⟨rfl, hU2⟩
          have HU2 := Lib.hid (And.intro (HU1.out.1.below hU2) (row_stays HU1.out.2 hU2))
          clear hU2 x0 x1 x2 x3 x4
          obtain ⟨p11, hp11⟩ : ∃ p11, U2.heap.size = p11 := ⟨_, rfl⟩
          go_upto_region 6 with (fail)
          refine wp_name fun U3 hU3 => ?_
          have hU3' : U3 = U2.alloc (.cells Fw.zero.arr 37) := hU3
          have hb3 : Below U2.heap.size U2 U3 := by rw [hU3']; exact alloc_bel _ _
          have hf3 : U3.heap[p11]? = some (.cells Fw.zero.arr 37 (0, 0)) := by rw [hU3', ← hp11]; exact heap_alloc_new U2 _
          have HU3 := Lib.hid (And.intro (HU2.out.1.below hb3) (And.intro (row_stays HU2.out.2 hb3) hf3))
          try rw [hp11]
          clear hU3 hU3' hb3 hf3 hp11
          have hxu := HU3.out.1.tup
          have hiu := HU3.out.2.1
          have hfu := HU3.out.2.2
          have x0 : U3.cell? ⟨q + 1, 0, none⟩ = some (.int .u8 x.proto) := cell_of hxu 0
          have x1 : U3.cell? ⟨q + 1, 1, none⟩ = some (.int .u32 x.src) := cell_of hxu 1
          have x2 : U3.cell? ⟨q + 1, 2, none⟩ = some (.int .u32 x.dst) := cell_of hxu 2
          have x3 : U3.cell? ⟨q + 1, 3, none⟩ = some (.int .u16 x.sp) := cell_of hxu 3
          have x4 : U3.cell? ⟨q + 1, 4, none⟩ = some (.int .u16 x.dp) := cell_of hxu 4
          have i0 : U3.cell? ⟨p9, 0, none⟩ = some (.int .u8 x.proto) := cell_of hiu 0
          have i1 : U3.cell? ⟨p9, 1, none⟩ = some (.int .u32 x.src) := cell_of hiu 1
          have i2 : U3.cell? ⟨p9, 2, none⟩ = some (.int .u32 x.dst) := cell_of hiu 2
          have i3 : U3.cell? ⟨p9, 3, none⟩ = some (.int .u16 x.sp) := cell_of hiu 3
          have i4 : U3.cell? ⟨p9, 4, none⟩ = some (.int .u16 x.dp) := cell_of hiu 4
          have f0 : U3.cell? ⟨p11, 0, none⟩ = some (.int .u8 0) := cell_of hfu 0
          have f1 : U3.cell? ⟨p11, 1, none⟩ = some (.int .u16 0) := cell_of hfu 1
          have f2 : U3.cell? ⟨p11, 2, none⟩ = some (.int .u32 0) := cell_of hfu 2
          have f3 : U3.cell? ⟨p11, 3, none⟩ = some (.int .u16 0) := cell_of hfu 3
          clear hxu hiu hfu
          go_wp2_with fail
          refine (HWK.out _).mono ?_
          rintro e U4 ⟨rfl, hU4⟩
          go_wp2_with fail
          go_ret
          exact ⟨rfl, (HU3.out.1.below hU4).bel⟩
      | some f =>
        as_aux_lemma =>
          obtain ⟨li, lp, lq, lo, lr, lx, r, l1, l2, l3⟩ := back_law hmay hlo hS hf
          have HI : Hid (∀ W, Tb W g b nn l → Calls Try.prog 17 #[.pointer (some ⟨g, 0, none⟩), x.val] W fun e w' => e = .returned (.tuple #[(backIn x f).val, .bool true]) ∧ Below W.heap.size W w') := Lib.hid (fun W hW => by
            have := inward_any hW x hx
            unfold getF at this
            rw [hf] at this
            exact this)
          have HF : Hid (∀ W, Tb W g b nn l → Calls Try.prog 10 #[.pointer (some ⟨g, 0, none⟩), .int .u8 x.proto, .int .u16 x.dp] W fun e w' => e = .returned (.tuple #[f.val, .bool true]) ∧ Below W.heap.size W w') := Lib.hid (fun W hW => by
            have := find_any hW x.proto x.dp ⟨hx.1, hx.2.2.2.2⟩
            unfold getF at this
            rw [hf] at this
            exact this)
          have HNS : Hid (∀ W, Calls Try.prog 14 #[c.val, .int .u32 f.addr] W fun e w' => e = .returned (.bool true) ∧ Below W.heap.size W w') := Lib.hid (fun W => by
            have := inside_any hc lo.2.2.1 W
            rwa [li] at this)
          have HREV : Hid (∀ W, Calls Try.prog 24 #[(backIn x f).val] W fun e w' => e = .returned (Tup.mk x.proto f.addr x.src f.dest x.sp).val ∧ Below W.heap.size W w') := Lib.hid (fun W => by
            have := reverse_any (backIn x f) W
            rwa [lr] at this)
          have HREX : Hid (∀ W, Calls Try.prog 24 #[x.val] W fun e w' => e = .returned (Tup.mk x.proto x.dst x.src x.dp x.sp).val ∧ Below W.heap.size W w') := Lib.hid (fun W => by
            have := reverse_any x W
            rwa [lx] at this)
          have HOUT : Hid (∀ W, Tb W g b nn l → Calls Try.prog 19 #[.pointer (some ⟨g, 0, none⟩), (Tup.mk x.proto f.addr x.src f.dest x.sp).val, .int .u32 x.dst] W fun e w' => e = .returned (.tuple #[(backOut x r).val, .bool true]) ∧ Below W.heap.size W w') := Lib.hid (fun W hW => by
            have := outward_any hW hS ⟨x.proto, f.addr, x.src, f.dest, x.sp⟩ x.dst
            rw [l2, l1] at this
            exact this)
          have HALL : Hid (∀ W, Tb W g b nn l → Calls Try.prog 12 #[.pointer (some ⟨g, 0, none⟩)] W fun e w' => ∃ A c, e = .returned (.slice A S.length c) ∧ FwsAt w' A S ∧ Below W.heap.size W w') := Lib.hid (fun W hW => (all_any hW).mono fun e w' ⟨A, c, S', a1, a2, a3, a4⟩ => by
            obtain rfl := a2.uniq hS
            exact ⟨A, c, a1, FwsAt.own a3, a4⟩)
          have HWK := Lib.hid wakes_any
          have HL := Lib.hid l3
          have HZ := Lib.hid hZ
          have HK := Lib.hid (And.intro lp lq)
          have hSl : S.length ≤ 64 := by rw [hS.perm.length_eq]; exact hZ.tb.len
          obtain ⟨n3, hn3⟩ : ∃ n3, S.length = n3 := ⟨_, rfl⟩
          rw [hn3] at HALL hSl
          have HN3 := Lib.hid hn3
          have hxz := hZ.tup
          have x0 : Z.cell? ⟨q + 1, 0, none⟩ = some (.int .u8 x.proto) := cell_of hxz 0
          have x1 : Z.cell? ⟨q + 1, 1, none⟩ = some (.int .u32 x.src) := cell_of hxz 1
          have x2 : Z.cell? ⟨q + 1, 2, none⟩ = some (.int .u32 x.dst) := cell_of hxz 2
          have x3 : Z.cell? ⟨q + 1, 3, none⟩ = some (.int .u16 x.sp) := cell_of hxz 3
          have x4 : Z.cell? ⟨q + 1, 4, none⟩ = some (.int .u16 x.dp) := cell_of hxz 4
          clear hZ hmay hlo hS hf li lp lq lo lr lx l1 l2 l3 hc hx hxz hn3
          unfold Tup.val backIn backOut Tup.arr at *
          unfold Fw.val Fw.arr Cfg.val Cfg.arr at *
          go_wp2_with fail
          refine (HI.out _ HZ.out.tb).mono ?_
          rintro e U ⟨rfl, hU⟩
          have HU := Lib.hid (HZ.out.below hU)
          clear hU x0 x1 x2 x3 x4
          obtain ⟨p9, hp9⟩ : ∃ p9, U.heap.size = p9 := ⟨_, rfl⟩
          have hxu := HU.out.tup
          have x0 : U.cell? ⟨q + 1, 0, none⟩ = some (.int .u8 x.proto) := cell_of hxu 0
          have x1 : U.cell? ⟨q + 1, 1, none⟩ = some (.int .u32 x.src) := cell_of hxu 1
          have x2 : U.cell? ⟨q + 1, 2, none⟩ = some (.int .u32 x.dst) := cell_of hxu 2
          have x3 : U.cell? ⟨q + 1, 3, none⟩ = some (.int .u16 x.sp) := cell_of hxu 3
          have x4 : U.cell? ⟨q + 1, 4, none⟩ = some (.int .u16 x.dp) := cell_of hxu 4
          clear hxu
          go_upto_region 5 with (fail)
          refine wp_name fun U1 hU1 => ?_
          have hU1' : U1 = U.alloc (.cells (backIn x f).arr 44) := hU1
          have hb1 : Below U.heap.size U U1 := by rw [hU1']; exact alloc_bel _ _
          have hi1 : U1.heap[p9]? = some (.cells (backIn x f).arr 44 (0, 0)) := by rw [hU1', ← hp9]; exact heap_alloc_new U _
          have HU1 := Lib.hid (And.intro (HU.out.below hb1) hi1)
          try rw [hp9]
          clear hU1 hU1' hb1 hi1 x0 x1 x2 x3 x4 hp9
          have hxu := HU1.out.1.tup
          have x0 : U1.cell? ⟨q + 1, 0, none⟩ = some (.int .u8 x.proto) := cell_of hxu 0
          have x1 : U1.cell? ⟨q + 1, 1, none⟩ = some (.int .u32 x.src) := cell_of hxu 1
          have x2 : U1.cell? ⟨q + 1, 2, none⟩ = some (.int .u32 x.dst) := cell_of hxu 2
          have x3 : U1.cell? ⟨q + 1, 3, none⟩ = some (.int .u16 x.sp) := cell_of hxu 3
          have x4 : U1.cell? ⟨q + 1, 4, none⟩ = some (.int .u16 x.dp) := cell_of hxu 4
          clear hxu
          go_wp2_with fail
          refine (HF.out _ HU1.out.1.tb).mono ?_
          rintro e U2 ⟨rfl, hU2⟩
          have HU2 := Lib.hid (And.intro (HU1.out.1.below hU2) (row_stays HU1.out.2 hU2))
          clear hU2 x0 x1 x2 x3 x4
          obtain ⟨p11, hp11⟩ : ∃ p11, U2.heap.size = p11 := ⟨_, rfl⟩
          go_upto_region 6 with (fail)
          refine wp_name fun U3 hU3 => ?_
          have hU3' : U3 = U2.alloc (.cells f.arr 37) := hU3
          have hb3 : Below U2.heap.size U2 U3 := by rw [hU3']; exact alloc_bel _ _
          have hf3 : U3.heap[p11]? = some (.cells f.arr 37 (0, 0)) := by rw [hU3', ← hp11]; exact heap_alloc_new U2 _
          have HU3 := Lib.hid (And.intro (HU2.out.1.below hb3) (And.intro (row_stays HU2.out.2 hb3) hf3))
          try rw [hp11]
          clear hU3 hU3' hb3 hf3 hp11
          have hxu := HU3.out.1.tup
          have hiu := HU3.out.2.1
          have hfu := HU3.out.2.2
          have x0 : U3.cell? ⟨q + 1, 0, none⟩ = some (.int .u8 x.proto) := cell_of hxu 0
          have x1 : U3.cell? ⟨q + 1, 1, none⟩ = some (.int .u32 x.src) := cell_of hxu 1
          have x2 : U3.cell? ⟨q + 1, 2, none⟩ = some (.int .u32 x.dst) := cell_of hxu 2
          have x3 : U3.cell? ⟨q + 1, 3, none⟩ = some (.int .u16 x.sp) := cell_of hxu 3
          have x4 : U3.cell? ⟨q + 1, 4, none⟩ = some (.int .u16 x.dp) := cell_of hxu 4
          have i0 : U3.cell? ⟨p9, 0, none⟩ = some (.int .u8 x.proto) := cell_of hiu 0
          have i1 : U3.cell? ⟨p9, 1, none⟩ = some (.int .u32 x.src) := cell_of hiu 1
          have i2 : U3.cell? ⟨p9, 2, none⟩ = some (.int .u32 f.addr) := cell_of hiu 2
          have i3 : U3.cell? ⟨p9, 3, none⟩ = some (.int .u16 x.sp) := cell_of hiu 3
          have i4 : U3.cell? ⟨p9, 4, none⟩ = some (.int .u16 f.dest) := cell_of hiu 4
          have f0 : U3.cell? ⟨p11, 0, none⟩ = some (.int .u8 f.proto) := cell_of hfu 0
          have f1 : U3.cell? ⟨p11, 1, none⟩ = some (.int .u16 f.port) := cell_of hfu 1
          have f2 : U3.cell? ⟨p11, 2, none⟩ = some (.int .u32 f.addr) := cell_of hfu 2
          have f3 : U3.cell? ⟨p11, 3, none⟩ = some (.int .u16 f.dest) := cell_of hfu 3
          clear hxu hiu hfu
          have HLD := Lib.hid (load29 HU3.out.1.cfg)
          unfold Cfg.val Cfg.arr at HLD
          have e1 := HK.out.1
          have e2 := HK.out.2
          go_wp2_with (refine wpList_load_at _ 29 _ rfl rfl _ (by exact HLD.out) ?_)
          refine (HNS.out _).mono ?_
          rintro e U4 ⟨rfl, hU4⟩
          have HU4 := Lib.hid (And.intro (HU3.out.1.below hU4) (And.intro (row_stays HU3.out.2.1 hU4) (row_stays HU3.out.2.2 hU4)))
          clear hU4 e1 e2 x0 x1 x2 x3 x4 i0 i1 i2 i3 i4 f0 f1 f2 f3
          have hxu := HU4.out.1.tup
          have hiu := HU4.out.2.1
          have hfu := HU4.out.2.2
          have x0 : U4.cell? ⟨q + 1, 0, none⟩ = some (.int .u8 x.proto) := cell_of hxu 0
          have x1 : U4.cell? ⟨q + 1, 1, none⟩ = some (.int .u32 x.src) := cell_of hxu 1
          have x2 : U4.cell? ⟨q + 1, 2, none⟩ = some (.int .u32 x.dst) := cell_of hxu 2
          have x3 : U4.cell? ⟨q + 1, 3, none⟩ = some (.int .u16 x.sp) := cell_of hxu 3
          have x4 : U4.cell? ⟨q + 1, 4, none⟩ = some (.int .u16 x.dp) := cell_of hxu 4
          have i0 : U4.cell? ⟨p9, 0, none⟩ = some (.int .u8 x.proto) := cell_of hiu 0
          have i1 : U4.cell? ⟨p9, 1, none⟩ = some (.int .u32 x.src) := cell_of hiu 1
          have i2 : U4.cell? ⟨p9, 2, none⟩ = some (.int .u32 f.addr) := cell_of hiu 2
          have i3 : U4.cell? ⟨p9, 3, none⟩ = some (.int .u16 x.sp) := cell_of hiu 3
          have i4 : U4.cell? ⟨p9, 4, none⟩ = some (.int .u16 f.dest) := cell_of hiu 4
          have f0 : U4.cell? ⟨p11, 0, none⟩ = some (.int .u8 f.proto) := cell_of hfu 0
          have f1 : U4.cell? ⟨p11, 1, none⟩ = some (.int .u16 f.port) := cell_of hfu 1
          have f2 : U4.cell? ⟨p11, 2, none⟩ = some (.int .u32 f.addr) := cell_of hfu 2
          have f3 : U4.cell? ⟨p11, 3, none⟩ = some (.int .u16 f.dest) := cell_of hfu 3
          clear hxu hiu hfu
          have e1 := HK.out.1
          have e2 := HK.out.2
          go_upto_region 12 with (fail)
          clear e1 e2 f0 f1 f2 f3 x0 x1 x3 x4
          have FX : Hid (∀ Y, Below U4.drew.heap.size U4.drew Y → Y.cell? ⟨q + 1, 2, none⟩ = some (.int .u32 x.dst)) := Lib.hid (fun Y hY => cell_of (row_stays (W := U4.drew) HU4.out.1.tup hY) 2)
          have FT : Hid (∀ Y, Below U4.drew.heap.size U4.drew Y → Tb Y g b nn l) := Lib.hid (fun Y hY => (HU4.out.1.tb.below ((Below.refl _ _).drew)).below hY)
          have FA : Hid (∀ Y, Below U4.drew.heap.size U4.drew Y → (Y.alloc (.cells #[.int .u8 0, .int .u32 0, .int .u32 0, .int .u16 0, .int .u16 0] 44)).cell? ⟨q + 1, 2, none⟩ = some (.int .u32 x.dst)) := Lib.hid (fun Y hY => cell_of (row_stays (row_stays (W := U4.drew) HU4.out.1.tup hY) (alloc_bel _ _)) 2)
          have FB : Hid (∀ Y, Below U4.drew.heap.size U4.drew Y → Below U4.drew.heap.size U4.drew (Y.alloc (.cells #[.int .u8 0, .int .u32 0, .int .u32 0, .int .u16 0, .int .u16 0] 44))) := Lib.hid (fun Y hY => hY.alloc hY.size _)
          have ZC : Hid (∀ (Y : World) (k : Nat), Y.heap[k]? = some (.cells #[.int .u8 0, .int .u32 0, .int .u32 0, .int .u16 0, .int .u16 0] 44 (0, 0)) → Y.cell? ⟨k, 0, none⟩ = some (.int .u8 0) ∧ Y.cell? ⟨k, 1, none⟩ = some (.int .u32 0) ∧ Y.cell? ⟨k, 2, none⟩ = some (.int .u32 0) ∧ Y.cell? ⟨k, 3, none⟩ = some (.int .u16 0) ∧ Y.cell? ⟨k, 4, none⟩ = some (.int .u16 0) ∧ (∀ i, Y.frozen? ⟨k, i, none⟩ = false)) :=
            Lib.hid (fun Y k h => ⟨cell_of h 0, cell_of h 1, cell_of h 2, cell_of h 3, cell_of h 4, fun i => free_of h i⟩)
          have HKP : Hid (∀ X, Below U4.heap.size U4 X → (X.cell? ⟨q + 1, 2, none⟩ = some (.int .u32 x.dst) ∧ X.cell? ⟨p9, 0, none⟩ = some (.int .u8 x.proto) ∧ X.cell? ⟨p9, 1, none⟩ = some (.int .u32 x.src) ∧ X.cell? ⟨p9, 2, none⟩ = some (.int .u32 f.addr) ∧ X.cell? ⟨p9, 3, none⟩ = some (.int .u16 x.sp) ∧ X.cell? ⟨p9, 4, none⟩ = some (.int .u16 f.dest))) := Lib.hid (fun X hX => by
            have h1 := row_stays HU4.out.1.tup hX
            have h2 := row_stays HU4.out.2.1 hX
            exact ⟨cell_of h1 2, cell_of h2 0, cell_of h2 1, cell_of h2 2, cell_of h2 3, cell_of h2 4⟩)
          go_cut [13, 14] (fun v13 v14 wx => ∃ p13, v13 = .pointer (some ⟨p13, 0, none⟩) ∧ v14 = .bool true ∧ Below U4.heap.size U4 wx ∧ wx.heap[p13]? = some (.cells (backOut x r).arr 44 (0, 0)))
          case first =>
            go_region_held3 (fun w' => w'.cell? ⟨q + 1, 2, none⟩ = some (.int .u32 x.dst) ∧ w'.cell? ⟨p9, 0, none⟩ = some (.int .u8 x.proto) ∧ w'.cell? ⟨p9, 1, none⟩ = some (.int .u32 x.src) ∧ w'.cell? ⟨p9, 2, none⟩ = some (.int .u32 f.addr) ∧ w'.cell? ⟨p9, 3, none⟩ = some (.int .u16 x.sp) ∧ w'.cell? ⟨p9, 4, none⟩ = some (.int .u16 f.dest))
              (first | (refine HKP.out _ ?_; repeat (first | exact (Below.refl _ _) | assumption | (refine Below.drew ?_) | (refine Below.alloc ?_ (by first | omega | (simp; done) | (simp; omega)) _) | (refine Below.setCell ?_ (by first | omega | (simp; done) | (simp; omega)) _))) | go_keep)
              (first
              | (go_at_call 24; first
                  | ((with_reducible refine (HREV.out U4.drew).mono ?_); rintro e Y ⟨rfl, hY⟩; have y2 := FX.out Y hY; have y3 := FA.out Y hY; have hUY := un_drew hY; have hsY := hUY.size)
                  | ((with_reducible refine (HREV.out (U4.alloc (.cells #[.int .u8 0, .int .u32 0, .int .u32 0, .int .u16 0, .int .u16 0] 44)).drew).mono ?_); rintro e Y ⟨rfl, hY'⟩; have hY := bel_drew ((alloc_bel U4 _).drew.trans (hY'.mono (alloc_bel U4 _).size)); have y2 := FX.out Y hY; have y3 := FA.out Y hY; have hUY := un_drew hY; have hsY := hUY.size; have zk := row_stays (W := (U4.alloc (.cells #[.int .u8 0, .int .u32 0, .int .u32 0, .int .u16 0, .int .u16 0] 44)).drew) (heap_alloc_new U4 _) hY'))
              | (go_at_call 19; first
                  | ((with_reducible refine (HOUT.out Y (FT.out Y hY)).mono ?_); rintro e Y2 ⟨rfl, hY2⟩; have hUZ := un_drew (hY.trans (hY2.mono hY.size)); have hsZ := hUZ.size; have hsY2 := hY2.size; have zz := row_stays zk hY2; obtain ⟨z0, z1, z2, z3, z4, z5⟩ := ZC.out _ _ zz)
                  | ((with_reducible refine (HOUT.out Y (FT.out Y hY)).mono ?_); rintro e Y2 ⟨rfl, hY2⟩; have hUZ := un_drew (hY.trans (hY2.mono hY.size)); have hsZ := hUZ.size; have hsY2 := hY2.size)
                  | ((with_reducible refine (HOUT.out (Y.alloc (.cells #[.int .u8 0, .int .u32 0, .int .u32 0, .int .u16 0, .int .u16 0] 44)) (FT.out _ (FB.out Y hY))).mono ?_); rintro e Y2 ⟨rfl, hY2⟩; have hUZ := un_drew ((FB.out Y hY).trans (hY2.mono (FB.out Y hY).size)); have hsZ := hUZ.size; have hsY2 := hY2.size; have zz := row_stays (heap_alloc_new Y _) hY2; obtain ⟨z0, z1, z2, z3, z4, z5⟩ := ZC.out _ _ zz)))
            all_goals
              go_wp2_with fail
              go_meet
              case rel =>
                first
                  | exact ⟨_, rfl, rfl, hUZ.alloc hUZ.size _, heap_alloc_new Y2 _⟩
                  | exact ⟨_, rfl, rfl, (put5 zz hUZ hsY).1, (put5 zz hUZ hsY).2⟩
                  | exact ⟨_, rfl, rfl, (put5 zz hUZ (Nat.le_refl _)).1, (put5 zz hUZ (Nat.le_refl _)).2⟩
          case rest =>
            obtain ⟨p13, rfl, rfl, hb, ho⟩ := hcut
            have HX := Lib.hid (And.intro (HU4.out.1.below hb) (And.intro (row_stays HU4.out.2.2 hb) ho))
            clear hb ho i0 i1 i2 i3 i4 x2 FX FT FA FB ZC HKP
            go_wp2_with fail
            refine (HALL.out _ HX.out.1.tb).mono ?_
            rintro e V4 ⟨A3, c3, rfl, hfs, hV4⟩
            have HV4 := Lib.hid (And.intro (HX.out.1.below hV4) (And.intro (row_stays HX.out.2.1 hV4) (And.intro (row_stays HX.out.2.2 hV4) hfs)))
            clear hfs hV4
            go_wp2_with fail
            go_loopw [15, 17] (fun v15 v17 wr => ∃ (k : Nat) (B : Bool), v17 = .int .i64 k ∧ v15 = .bool B ∧ B = aloneB f (S.take k) ∧ k ≤ n3 ∧ Below V4.heap.size V4 wr) (fun _ v17 _ => n3 - (intOf v17).toNat)
            case atStart => exact ⟨0, true, rfl, rfl, rfl, Nat.zero_le _, Below.refl _ _⟩
            case round =>
              obtain ⟨k, B, rfl, rfl, hB, hk, hbr⟩ := hrel
              have HR := Lib.hid (And.intro hB hbr)
              clear hB hbr
              by_cases hlt : k < n3
              · obtain ⟨y, hy⟩ : ∃ y, S[k]? = some y := ⟨S[k]'(by have := HN3.out; omega), List.getElem?_eq_getElem _⟩
                obtain ⟨yb, yo, rfl, hyl, hya⟩ := (HV4.out.2.2.2.below HR.out.2) k y hy
                obtain ⟨k0, k1, k2, k3⟩ := hya
                have hfu := row_stays HV4.out.2.1 HR.out.2
                have f0 : wr.cell? ⟨p11, 0, none⟩ = some (.int .u8 f.proto) := cell_of hfu 0
                have f1 : wr.cell? ⟨p11, 1, none⟩ = some (.int .u16 f.port) := cell_of hfu 1
                have f2 : wr.cell? ⟨p11, 2, none⟩ = some (.int .u32 f.addr) := cell_of hfu 2
                have f3 : wr.cell? ⟨p11, 3, none⟩ = some (.int .u16 f.dest) := cell_of hfu 3
                have HY := Lib.hid hy
                have HS := Lib.hid (alone_succ (f := f) hy)
                clear hfu hy hyl
                by_cases h1 : y.proto = f.proto
                · have s1 : (y.proto == f.proto) = true := by simpa using h1
                  by_cases h2 : y.addr = f.addr
                  · have s2 : (y.addr == f.addr) = true := by simpa using h2
                    by_cases h3 : y.dest = f.dest
                    · have s3 : (y.dest == f.dest) = true := by simpa using h3
                      by_cases h4 : y.port = f.port
                      · have s4 : (y.port != f.port) = false := by simpa using h4
                        have ht : twin f y = false := by unfold twin; rw [s1, s2, s3, s4]; rfl
                        as_aux_lemma =>
                          have hn : aloneB f (S.take (k + 1)) = B := by rw [HS.out, ← HR.out.1, ht]; simp
                          have HN := Lib.hid hn
                          clear ht hn h1
                          go_wp2_with fail
                          go_quiet (fail)
                          go_wp2_with fail
                          go_roundw
                          case rel => exact ⟨k + 1, B, by simp, rfl, HN.out.symm, by omega, HR.out.2.trans (below_drewN (Below.refl _ _) _ |>.mono HR.out.2.size)⟩
                          case measure => simp [intOf]; omega
                      · have s4 : (y.port != f.port) = true := by simpa using h4
                        have ht : twin f y = true := by unfold twin; rw [s1, s2, s3, s4]; rfl
                        as_aux_lemma =>
                          have hn : aloneB f (S.take (k + 1)) = false := by rw [HS.out, ht]; simp
                          have HN := Lib.hid hn
                          clear ht hn h1
                          go_wp2_with fail
                          go_quiet (fail)
                          go_wp2_with fail
                          go_roundw
                          case rel => exact ⟨k + 1, false, by simp, rfl, HN.out.symm, by omega, HR.out.2.trans (below_drewN (Below.refl _ _) _ |>.mono HR.out.2.size)⟩
                          case measure => simp [intOf]; omega
                    · have s3 : (y.dest == f.dest) = false := by simpa using h3
                      have ht : twin f y = false := by unfold twin; rw [s1, s2, s3]; rfl
                      as_aux_lemma =>
                        have hn : aloneB f (S.take (k + 1)) = B := by rw [HS.out, ← HR.out.1, ht]; simp
                        have HN := Lib.hid hn
                        clear ht hn h1
                        go_wp2_with fail
                        go_quiet (fail)
                        go_wp2_with fail
                        go_roundw
                        case rel => exact ⟨k + 1, B, by simp, rfl, HN.out.symm, by omega, HR.out.2.trans (below_drewN (Below.refl _ _) _ |>.mono HR.out.2.size)⟩
                        case measure => simp [intOf]; omega
                  · have s2 : (y.addr == f.addr) = false := by simpa using h2
                    have ht : twin f y = false := by unfold twin; rw [s1, s2]; rfl
                    as_aux_lemma =>
                      have hn : aloneB f (S.take (k + 1)) = B := by rw [HS.out, ← HR.out.1, ht]; simp
                      have HN := Lib.hid hn
                      clear ht hn h1
                      go_wp2_with fail
                      go_quiet (fail)
                      go_wp2_with fail
                      go_roundw
                      case rel => exact ⟨k + 1, B, by simp, rfl, HN.out.symm, by omega, HR.out.2.trans (below_drewN (Below.refl _ _) _ |>.mono HR.out.2.size)⟩
                      case measure => simp [intOf]; omega
                · have s1 : (y.proto == f.proto) = false := by simpa using h1
                  have ht : twin f y = false := by unfold twin; rw [s1]; rfl
                  as_aux_lemma =>
                    have hn : aloneB f (S.take (k + 1)) = B := by rw [HS.out, ← HR.out.1, ht]; simp
                    have HN := Lib.hid hn
                    clear ht hn h1
                    go_wp2_with fail
                    go_quiet (fail)
                    go_wp2_with fail
                    go_roundw
                    case rel => exact ⟨k + 1, B, by simp, rfl, HN.out.symm, by omega, HR.out.2.trans (below_drewN (Below.refl _ _) _ |>.mono HR.out.2.size)⟩
                    case measure => simp [intOf]; omega
              · obtain rfl : k = n3 := by omega
                have hS2 : S.take k = S := List.take_of_length_le (by have := HN3.out; omega)
                have hBS : B = aloneB f S := by rw [← hS2]; exact HR.out.1
                have hxu := row_stays HV4.out.1.tup HR.out.2
                have hou := row_stays HV4.out.2.2.1 HR.out.2
                have x0 : wr.cell? ⟨q + 1, 0, none⟩ = some (.int .u8 x.proto) := cell_of hxu 0
                have x1 : wr.cell? ⟨q + 1, 1, none⟩ = some (.int .u32 x.src) := cell_of hxu 1
                have x2 : wr.cell? ⟨q + 1, 2, none⟩ = some (.int .u32 x.dst) := cell_of hxu 2
                have x3 : wr.cell? ⟨q + 1, 3, none⟩ = some (.int .u16 x.sp) := cell_of hxu 3
                have x4 : wr.cell? ⟨q + 1, 4, none⟩ = some (.int .u16 x.dp) := cell_of hxu 4
                have o0 : wr.cell? ⟨p13, 0, none⟩ = some (.int .u8 x.proto) := cell_of hou 0
                have o1 : wr.cell? ⟨p13, 1, none⟩ = some (.int .u32 x.dst) := cell_of hou 1
                have o2 : wr.cell? ⟨p13, 2, none⟩ = some (.int .u32 x.src) := cell_of hou 2
                have o3 : wr.cell? ⟨p13, 3, none⟩ = some (.int .u16 r.port) := cell_of hou 3
                have o4 : wr.cell? ⟨p13, 4, none⟩ = some (.int .u16 x.sp) := cell_of hou 4
                have HE := Lib.hid (And.intro hxu hou)
                have HBS := Lib.hid hBS
                clear hxu hou hBS hS2
                cases B with
                | false =>
                  as_aux_lemma =>
                    go_wp2_with fail
                    refine wp_region_class (InB wr.heap.size wr) (by kernel_rfl) (by kernel_rfl) ⟨(Below.refl _ _).drew, Nat.le_refl _⟩ fun _ => ?_
                    repeat (go_big_quiet_step ((go_at_call 8; exact class_below (HWK.out _))))
                    refine wpQuiet_nil ?_
                    rintro _ ⟨W5, rfl⟩
                    go_wp2_with fail
                    go_ret
                    exact ⟨rfl, (HV4.out.1.below HR.out.2).bel.trans (W5.2.1.mono (HV4.out.1.below HR.out.2).bel.size)⟩
                | true =>
                  have hr : r.port = x.dp := HL.out HBS.out.symm
                  rw [hr] at o3
                  have E := tup_eql ⟨x.proto, x.dst, x.src, x.dp, x.sp⟩ ⟨x.proto, x.dst, x.src, x.dp, x.sp⟩
                  simp only [decide_true, Tup.val, Tup.arr] at E
                  as_aux_lemma =>
                    go_wp2_with fail
                    have wx0 := fun W : ClsW (InB wr.heap.size wr) => class_cell W (p := ⟨q + 1, 0, none⟩) (v := .int .u8 x.proto) x0 (Array.getElem?_eq_some_iff.1 HE.out.1).1
                    have wx1 := fun W : ClsW (InB wr.heap.size wr) => class_cell W (p := ⟨q + 1, 1, none⟩) (v := .int .u32 x.src) x1 (Array.getElem?_eq_some_iff.1 HE.out.1).1
                    have wx2 := fun W : ClsW (InB wr.heap.size wr) => class_cell W (p := ⟨q + 1, 2, none⟩) (v := .int .u32 x.dst) x2 (Array.getElem?_eq_some_iff.1 HE.out.1).1
                    have wx3 := fun W : ClsW (InB wr.heap.size wr) => class_cell W (p := ⟨q + 1, 3, none⟩) (v := .int .u16 x.sp) x3 (Array.getElem?_eq_some_iff.1 HE.out.1).1
                    have wx4 := fun W : ClsW (InB wr.heap.size wr) => class_cell W (p := ⟨q + 1, 4, none⟩) (v := .int .u16 x.dp) x4 (Array.getElem?_eq_some_iff.1 HE.out.1).1
                    have wo0 := fun W : ClsW (InB wr.heap.size wr) => class_cell W (p := ⟨p13, 0, none⟩) (v := .int .u8 x.proto) o0 (Array.getElem?_eq_some_iff.1 HE.out.2).1
                    have wo1 := fun W : ClsW (InB wr.heap.size wr) => class_cell W (p := ⟨p13, 1, none⟩) (v := .int .u32 x.dst) o1 (Array.getElem?_eq_some_iff.1 HE.out.2).1
                    have wo2 := fun W : ClsW (InB wr.heap.size wr) => class_cell W (p := ⟨p13, 2, none⟩) (v := .int .u32 x.src) o2 (Array.getElem?_eq_some_iff.1 HE.out.2).1
                    have wo3 := fun W : ClsW (InB wr.heap.size wr) => class_cell W (p := ⟨p13, 3, none⟩) (v := .int .u16 x.dp) o3 (Array.getElem?_eq_some_iff.1 HE.out.2).1
                    have wo4 := fun W : ClsW (InB wr.heap.size wr) => class_cell W (p := ⟨p13, 4, none⟩) (v := .int .u16 x.sp) o4 (Array.getElem?_eq_some_iff.1 HE.out.2).1
                    clear x0 x1 x2 x3 x4 o0 o1 o2 o3 o4
                    refine wp_region_class (InB wr.heap.size wr) (by kernel_rfl) (by kernel_rfl) ⟨(Below.refl _ _).drew, Nat.le_refl _⟩ fun _ => ?_
                    repeat (go_big_quiet_step ((first | (go_at_call 8; exact class_below (HWK.out _)) | (go_at_call 24; exact class_below (HREX.out _)))))
                    refine wpQuiet_nil ?_
                    rintro _ ⟨W5, rfl⟩
                    go_wp2_with fail
                    go_ret
                    exact ⟨rfl, (HV4.out.1.below HR.out.2).bel.trans (W5.2.1.mono (HV4.out.1.below HR.out.2).bel.size)⟩
  · have hmay : mayF c l = false := by simpa using hmay
    have HNEW := Lib.hid (fun k => new_no HC.out.1 A m cp l (W.drewN k) HL.out.1 (HL.out.2.1.below (below_drewN HW.out.1 k)) HL.out.2.2.1 (by omega) hmay)
    unfold Cfg.val Cfg.arr at HNEW
    clear hmay
    as_aux_lemma =>
      refine wp_region_mid 6 _ (by kernel_rfl) (by kernel_rfl) rfl ?_
      simp only [List.take_succ_cons, List.take_zero, List.drop_succ_cons, List.drop_zero]
      refine wpQuiet_load 29 _ rfl rfl _ (by exact HLD.out) ?_
      simp only [Act.put, List.setIfInBounds_toArray, List.set_cons_succ, List.set_cons_zero]
      repeat (go_big_quiet_step (fail))
      refine wpQuiet_nil ?_
      rintro _ ⟨nq, rfl⟩
      go_wp2_with fail
      refine (HNEW.out nq).mono ?_
      rintro e V ⟨rfl, hV⟩
      go_wp2_with fail
      repeat (go_big_quiet_step (fail))
      refine wpQuiet_nil ?_
      rintro _ ⟨nq2, rfl⟩
      have HV := Lib.hid ((below_drewN HW.out.1 nq).trans (hV.mono (by have := HW.out.1.size; simpa using this)))
      clear hV
      go_wp2_with fail
      refine (HWK.out _).mono ?_
      rintro e V2 ⟨rfl, hV2⟩
      go_wp2_with fail
      go_ret
      exact ⟨rfl, (below_drewN HV.out nq2).trans (hV2.mono (by have := HV.out.size; simpa using this))⟩
end Go.Proofs.Ythlohgldcnicbaa
