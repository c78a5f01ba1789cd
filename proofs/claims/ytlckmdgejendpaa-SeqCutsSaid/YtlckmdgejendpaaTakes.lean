/- The walk of SeqTakes. -/
import Derived.Test.YtlckmdgejendpaaRound
import Derived.Test.YtlckmdgejendpaaKnown
import Derived.Lib.AppendZeros
set_option linter.unusedVariables false
namespace Go.Proofs.Ytlckmdgejendpaa
open Go.RowKit Go.Deep Go.BigFrame
attribute [local go_sem ↓] Go.wp_at_zero Go.wp_at_succ

theorem grown_trans {a b c : World} {row : Option Nat} (h : a.grownBy b row) (k : b.grownBy c row) : a.grownBy c row :=
  ⟨k.os.trans h.os, k.tape.trans h.tape, k.output.trans h.output, Nat.le_trans h.size k.size, fun i hi hr => (k.block i (Nat.lt_of_lt_of_le hi h.size) hr).trans (h.block i hi hr)⟩
theorem grown_setCell (w : World) (g i : Nat) (u : Value) : w.grownBy (w.setCell ⟨g, i, none⟩ u) (some g) :=
  ⟨rfl, rfl, rfl, by simp [World.setCell], fun k _ hk => Below.heap_setCell w ⟨g, i, none⟩ u k (fun e => hk (by rw [e]))⟩

/-- An owned row of one-cell elements: one of its cells. -/
theorem own_at {w : World} {base : Nat} {e : TypeId} {ao : Option Addr} {n cap : Nat} {xs : List Value} (h : w.ownsRow base e 1 (.slice ao n cap) n xs) {i : Nat} (hi : i < n) :
    ∃ g, ao = some ⟨g, 0, none⟩ ∧ base ≤ g ∧ g < w.heap.size ∧ n ≤ cap ∧ cap ≤ maxLen ∧ w.cell? ⟨g, i, none⟩ = some (xs.getD i undef) ∧ w.frozen? ⟨g, i, none⟩ = false ∧
      ∀ u, (w.setCell ⟨g, i, none⟩ u).ownsRow base e 1 (.slice ao n cap) n (xs.set i u) := by
  rcases h.2 with ⟨h0, h1⟩ | ⟨g, cap', cur, hv, hb, hg, hn, hc, hs, ht⟩
  · omega
  · injection hv with h1 h2 h3
    subst h1; subst h3
    have hx := h.1
    refine ⟨g, rfl, hb, (Array.getElem?_eq_some_iff.1 hg).1, hn, hc, ?_, ?_, fun u => ⟨by simp [hx], .inr ⟨g, cap, cur.setIfInBounds i u, rfl, hb, ?_, hn, hc, by simp [hs], ?_⟩⟩⟩
    · rw [cell_of_row _ _ i _ e (0, 0) hg, ← ht]
      simp only [List.getD, List.getElem?_take, Nat.mul_one, if_pos hi]
      rw [Array.getElem?_toList, Array.getElem?_eq_getElem (by omega)]
      rfl
    · simp [World.frozen?, hg]
    · simp [World.setCell, Array.getElem?_modify, hg]
    · rw [← ht]
      simp [List.take_set]

/-- Appending a slice of bytes, nil or not, to a row of the call's own. -/
theorem run_append_byt {w : World} (base : Nat) (v : Value) (n : Nat) (xs : List Value) (hown : w.ownsRow base 5 1 v n xs) (A : Option Addr) (m c : Nat) (ys : List Int) (hy : ys.length = m) (hb : Byt w (.slice A m c) ys)
    (hsm : n + m ≤ 1000000) (hbase : base ≤ w.heap.size) :
    ∃ v' w', (Builtin.append_ #[23, 23] 23 #[v, .slice A m c]).run Try.prog w = .ok v' w' ∧ w'.ownsRow base 5 1 v' (n + m) (xs ++ ys.map (.int .u8)) ∧ w.grownBy w' v.ownBlock := by
  obtain ⟨i0, hi, hz0, hz1, hz2⟩ := info_parts info5
  subst hy
  obtain ⟨A', c', hv, h1, h2, h3⟩ := hb
  cases hv
  cases A with
  | none =>
    have h0 : ys.length = 0 := by
      rcases Nat.eq_zero_or_pos ys.length with h | h
      · exact h
      · obtain ⟨b, o, h', _⟩ := h3 h; cases h'
    obtain rfl : ys = [] := List.eq_nil_of_length_eq_zero h0
    refine ⟨v, w, ?_, by simpa using hown, ⟨rfl, rfl, rfl, Nat.le_refl _, fun _ _ _ => rfl⟩⟩
    rcases hown.2 with ⟨rfl, rfl⟩ | ⟨g, cap, cur, rfl, _, _, hnc, _⟩
    · simp [Builtin.append_, run_underlying Try.underlying23, sizeOf, typeInfo, hi, Builtin.lenOf, Builtin.firstCells]
    · simp [Builtin.append_, run_underlying Try.underlying23, sizeOf, typeInfo, hi, Builtin.lenOf, Builtin.firstCells, hnc, storeCells]
  | some ad =>
    obtain ⟨v', w', hr, ho, hg, _⟩ := run_append_own (P := Try.prog) w base 23 23 5 i0 (.int .u8 0) 1 1 Try.underlying23 hi hz0 hz1 hz2 rfl (by decide) v n xs hown ad ys.length c (ys.map (.int .u8)) (by simp)
      (fun j u hu => by
        have hj : j < ys.length := by
          rcases Nat.lt_or_ge j ys.length with h | h
          · exact h
          · rw [List.getElem?_eq_none (by simpa using h)] at hu; cases hu
        obtain ⟨b, o, hab, _, hc⟩ := h3 (by omega)
        cases hab
        rw [Go.WideShapes.add_plain, hc j hj]
        rw [List.getElem?_map, List.getElem?_eq_getElem hj] at hu
        simp only [List.getD, List.getElem?_eq_getElem hj]
        exact hu)
      (fun u hu => by obtain ⟨x, _, rfl⟩ := List.mem_map.1 hu; rfl) (by unfold maxLen; omega) (by omega) hbase
    exact ⟨v', w', hr, ho, hg⟩

theorem Byt.other {w w' : World} {base : Nat} {v : Value} {xs : List Int} {g : Nat} (h : w.ownsRow base 5 1 v xs.length (xs.map (.int .u8))) (hg : w.grownBy w' (some g)) (hne : v.ownBlock ≠ some g) : Byt w' v xs :=
  Byt.of_own (h.kept hg (.inr hne))
theorem Byt.grown {w w' : World} {v : Value} {xs : List Int} {row : Option Nat} (h : Byt w v xs) (hg : w.grownBy w' row) (hne : ∀ b, v.ownBlock = some b → row ≠ some b) : Byt w' v xs := by
  obtain ⟨A, c, rfl, h1, h2, h3⟩ := h
  refine ⟨A, c, rfl, h1, h2, fun hp => ?_⟩
  obtain ⟨b, o, rfl, hl, hc⟩ := h3 hp
  exact ⟨b, o, rfl, Nat.lt_of_lt_of_le hl hg.size, fun i hi => (World.cell?_of_block (a := ⟨b, o + i, none⟩) (hg.block b hl (fun e => hne b rfl e.symm))).trans (hc i hi)⟩

theorem cut_cells_u8 {xs : List Int} : ∀ u ∈ xs.map (Value.int .u8), ∃ x, u = .int .u8 x := by
  intro u hu; obtain ⟨x, _, rfl⟩ := List.mem_map.1 hu; exact ⟨x, rfl⟩

/-- What the loop over the part that was cut out keeps. -/
def TakesRel (w5 wr : World) (B : Nat) (A1 : Option Addr) (m c : Nat) : Prop :=
  ∃ cs, wr.ownsRow B 5 1 (.slice A1 m c) m cs ∧ (∀ u ∈ cs, ∃ x, u = Value.int .u8 x) ∧ w5.grownBy wr (Value.slice A1 m c).ownBlock

set_option maxHeartbeats 2400000 in
set_option maxRecDepth 100000 in
theorem takes_walk (a b l : Int) (v : Value) (n : Int) (xs : List Int) (w : World) (hb : Byt w v xs) (hx : ∀ x ∈ xs, 0 ≤ x ∧ x ≤ 255)
    (a0 : 0 ≤ a) (a1 : a ≤ 4294967295) (b0 : 0 ≤ b) (b1 : b ≤ 4294967295) (l0 : 0 ≤ l) (l1 : l ≤ 4294967295) (n0 : -9223372036854775808 ≤ n) (n1 : n ≤ 9223372036854775807) :
    Calls Try.prog 4 #[.agg #[.int .u32 a, .int .u32 b, .int .u32 l, v], .int .i64 n] w fun e w' => e = .returned (.bool true) ∧ Below w.heap.size w w' := by
  obtain ⟨A, c, rfl, hc1, hc2, hb3⟩ := hb
  have Hb := Lib.hid (show Byt w (.slice A xs.length c) xs from ⟨A, c, rfl, hc1, hc2, hb3⟩)
  have Hx := Lib.hid hx
  obtain ⟨N, hN⟩ : ∃ N, xs.length = N := ⟨_, rfl⟩
  rw [hN] at Hb hc1 ⊢
  unfold maxLen at hc2
  clear hb3 hx hN
  obtain ⟨k, hk, hkN, hk5⟩ : ∃ k : Nat, (if (3000 : Int) < (N : Int) then (3000 : Int) else (N : Int)) = (k : Int) ∧ k ≤ N ∧ k ≤ 3000 := ⟨min N 3000, by split <;> omega, by omega, by omega⟩
  have hrun := run_append_byt (w := (w.alloc (Obj.cells #[Value.int IntKind.u32 a, Value.int IntKind.u32 b, Value.int IntKind.u32 l, Value.slice A k c] 33)).alloc (Obj.cells #[] 5)) (w.heap.size + 1) (.slice (some ⟨w.heap.size + 1, 0, none⟩) 0 0) 0 []
    (by simpa using World.ownsRow_made (base := w.heap.size + 1) (e := 5) (size := 1) (w.alloc (Obj.cells #[Value.int IntKind.u32 a, Value.int IntKind.u32 b, Value.int IntKind.u32 l, Value.slice A k c] 33)) #[] 0 (by simp) (by simp [maxLen]) (by simp))
    A k c (xs.take k) (by obtain ⟨A', c', hv, _⟩ := (Hb.out.cut k hkN); injection hv with _ h2 _; exact h2.symm)
    (((Hb.out.cut k hkN).below ((Below.refl _ _).alloc (Nat.le_refl _) _)).below ((Below.refl _ _).alloc (Nat.le_refl _) _)) (by omega) (by simp)
  obtain ⟨vo, W3, hrun, hown3, hg3⟩ := hrun
  rw [Nat.zero_add, List.nil_append] at hown3
  have hB3 : Below (w.heap.size + 1) (w.alloc (Obj.cells #[Value.int IntKind.u32 a, Value.int IntKind.u32 b, Value.int IntKind.u32 l, Value.slice A k c] 33)) W3 :=
    ((Below.refl _ _).alloc (by simp) _).grown hg3 (by simp) (fun k hk => by simp [Value.ownBlock] at hk; omega)
  have c0 := (hB3.cell (p := ⟨w.heap.size, 0, none⟩) (by simp)).trans (show _ = some (.int .u32 a) by go_simp)
  have c1 := (hB3.cell (p := ⟨w.heap.size, 1, none⟩) (by simp)).trans (show _ = some (.int .u32 b) by go_simp)
  have c2 := (hB3.cell (p := ⟨w.heap.size, 2, none⟩) (by simp)).trans (show _ = some (.int .u32 l) by go_simp)
  have c3 := (hB3.cell (p := ⟨w.heap.size, 3, none⟩) (by simp)).trans (show _ = some (.slice A k c) by go_simp)
  have HS3 : Hid (w.heap.size + 1 ≤ W3.heap.size) := by have := hB3.size; simp at this; exact this
  have HB3 := Lib.hid hB3
  have HOWN := Lib.hid hown3
  have HD3 := Lib.hid ((((Hb.out.cut k hkN).below ((Below.refl _ _).alloc (Nat.le_refl _) _))).below (hB3.mono (by simp)))
  have HRUN := Lib.hid hrun
  clear hown3 hg3 hB3 hrun
  have hlen : (xs.take k).length = k := by obtain ⟨A', c', hv, _⟩ := (Hb.out.cut k hkN); injection hv with _ h2 _; exact h2.symm
  obtain ⟨ys, hys⟩ : ∃ ys, ys = xs.take k := ⟨_, rfl⟩
  rw [← hys] at HOWN HD3 hlen
  have Hr : Hid (∀ x ∈ ys, 0 ≤ x ∧ x ≤ 255) := by intro x hx; rw [hys] at hx; exact Hx.out x (List.mem_of_mem_take hx)
  have HL := Lib.hid hlen
  have HY := Lib.hid (Byt.of_own (xs := ys) (by rw [hlen]; exact HOWN.out))
  obtain ⟨Ao, co, rfl⟩ := own_len HOWN.out
  clear hys hlen
  go_enter Try.func4, Try.ntmps4
  go_wp2_with (at_builtin; refine Lib.wpList_append_run _ rfl _ _ 23 23 rfl _ _ rfl rfl _ _ (by exact HRUN.out) ?_)
  (with_reducible refine (cut_n a b l Ao co ys k _ HL.out HY.out a0 a1 b0 b1 l0 l1).mono ?_)
  obtain ⟨m, hm⟩ : ∃ m, (cutBs a ys b l).length = m := ⟨_, rfl⟩
  have HM := Lib.hid hm
  rintro e w4 ⟨v1, rfl, hown1, hb4⟩
  rw [hm] at hown1
  clear hm
  obtain ⟨A1, c1', rfl⟩ := own_len hown1
  have HO1 := Lib.hid hown1
  have HB4 := Lib.hid hb4
  have d0 := (hb4.cell (p := ⟨w.heap.size, 0, none⟩) (Nat.lt_of_lt_of_le (Nat.lt_succ_self _) HS3.out)).trans c0
  have d1 := (hb4.cell (p := ⟨w.heap.size, 1, none⟩) (Nat.lt_of_lt_of_le (Nat.lt_succ_self _) HS3.out)).trans c1
  have d2 := (hb4.cell (p := ⟨w.heap.size, 2, none⟩) (Nat.lt_of_lt_of_le (Nat.lt_succ_self _) HS3.out)).trans c2
  have d3 := (hb4.cell (p := ⟨w.heap.size, 3, none⟩) (Nat.lt_of_lt_of_le (Nat.lt_succ_self _) HS3.out)).trans c3
  have HC0 := Lib.hid c0
  have HC1 := Lib.hid c1
  have HC2 := Lib.hid c2
  have HC3 := Lib.hid c3
  clear hown1 hb4 c0 c1 c2 c3
  go_wp2_with fail
  (with_reducible refine (rcut_n a b l A c ys k _ HL.out (HD3.out.below HB4.out) (by omega) a0 a1 b0 b1 l0 l1).mono ?_)
  rintro e w5 ⟨v2, rfl, hown2, hb5⟩
  have HO2 := Lib.hid (Byt.of_own hown2)
  have HB5 := Lib.hid (HB4.out.trans (hb5.mono HB4.out.size))
  have HOB := Lib.hid (HO1.out.kept (w' := w5) (row := none) ⟨hb5.os, hb5.tape, hb5.output, hb5.size, fun k hk _ => hb5.block k hk⟩ (by rcases h : (Value.slice A1 m c1').ownBlock with _ | g <;> simp))
  clear hown2 hb5 d0 d1 d2 d3
  have q1 := eqB_self (cutBs a ys b l)
  go_wp2_with fail
  (with_reducible refine (equal_any _ _ (cutBs a ys b l) _ _ (Byt.of_own (by rw [HM.out]; exact HOB.out)) HO2.out (cutBs_mem _ _ _ _ Hr.out) (cutBs_mem _ _ _ _ Hr.out)).mono ?_)
  rw [q1]
  rintro e w6 ⟨rfl, rfl⟩
  clear q1
  have hm9 : m ≤ 3000 := by
    have : (cutBs a ys b l).length ≤ k := by
      unfold cutBs; split
      · simp
      · rw [List.length_drop, List.length_take]; have := HL.out; omega
    have := HM.out; omega
  have HU : Hid (∀ u ∈ (cutBs a ys b l).map (Value.int .u8), ∃ x, u = Value.int .u8 x) := cut_cells_u8
  go_wp2_with fail
  go_loopw [57] (fun i wr => ∃ j : Nat, j ≤ m ∧ i = .int .i64 j ∧ TakesRel w5 wr W3.heap.size A1 m c1') (fun i _ => m - (intOf i).toNat)
  case atStart => exact ⟨0, Nat.zero_le _, rfl, ⟨_, HOB.out, HU.out, World.grownBy.refl _ _⟩⟩
  case round =>
    obtain ⟨j, hj, rfl, hrl⟩ := hrel
    have HR := Lib.hid hrl
    clear hrl
    by_cases hlt : j < m
    · obtain ⟨cs, ho, hu, hg⟩ := HR.out
      obtain ⟨g, rfl, hbg, hgl, hmc, hcm, hcell, hfr, hset⟩ := own_at ho hlt
      unfold maxLen at hcm
      obtain ⟨x, hx⟩ := hu (cs.getD j undef) (by
        have h1 := ho.1
        simp only [List.getD, List.getElem?_eq_getElem (show j < cs.length by omega), Option.getD_some]
        exact List.getElem_mem _)
      rw [hx] at hcell
      have HHG := Lib.hid hg
      have HHU := Lib.hid hu
      have HST := Lib.hid hset
      have HG2 := Lib.hid (grown_setCell wr g j)
      clear ho hu hg hset hx
      go_wp2
      go_roundw
      case rel =>
        exact ⟨j + 1, by omega, by go_num, ⟨_, HST.out _, fun u hu => by
          rcases List.mem_or_eq_of_mem_set hu with h | h
          · exact HHU.out u h
          · exact ⟨_, h⟩, grown_trans HHG.out (HG2.out _)⟩⟩
      case measure => simp [intOf]; omega
    · obtain rfl : j = m := by omega
      obtain ⟨cs, ho, hu, hg⟩ := HR.out
      have hBr : Below W3.heap.size W3 wr := HB5.out.grown hg HB5.out.size (fun k hk => (HO1.out.lt k hk).1)
      have HBr := Lib.hid hBr
      have HYr := Lib.hid (HY.out.below hBr)
      have HDr := Lib.hid (HD3.out.below hBr)
      have e0 := (hBr.cell (p := ⟨w.heap.size, 0, none⟩) (Nat.lt_of_lt_of_le (Nat.lt_succ_self _) HS3.out)).trans HC0.out
      have e1 := (hBr.cell (p := ⟨w.heap.size, 1, none⟩) (Nat.lt_of_lt_of_le (Nat.lt_succ_self _) HS3.out)).trans HC1.out
      have e2 := (hBr.cell (p := ⟨w.heap.size, 2, none⟩) (Nat.lt_of_lt_of_le (Nat.lt_succ_self _) HS3.out)).trans HC2.out
      have e3 := (hBr.cell (p := ⟨w.heap.size, 3, none⟩) (Nat.lt_of_lt_of_le (Nat.lt_succ_self _) HS3.out)).trans HC3.out
      have hlt3 : w.heap.size < wr.heap.size := Nat.lt_of_lt_of_le (Nat.lt_of_lt_of_le (Nat.lt_succ_self _) HS3.out) hBr.size
      have HE0 := Lib.hid e0
      have HE1 := Lib.hid e1
      have HE2 := Lib.hid e2
      have HE3 := Lib.hid e3
      clear ho hu hg hBr e0 e1 e2 e3
      go_wp2_with fail
      refine wp_region_class (InB wr.heap.size wr) (by kernel_rfl) (by kernel_rfl) ⟨(Below.refl _ _).drew, by simp⟩ fun _ => ?_
      have f0 := fun W : ClsW (InB wr.heap.size wr) => class_cell W HE0.out hlt3
      have f1 := fun W : ClsW (InB wr.heap.size wr) => class_cell W HE1.out hlt3
      have f2 := fun W : ClsW (InB wr.heap.size wr) => class_cell W HE2.out hlt3
      have f3 := fun W : ClsW (InB wr.heap.size wr) => class_cell W HE3.out hlt3
      have HEQ : Hid (∀ W : ClsW (InB wr.heap.size wr), Calls Try.prog 17 #[.slice Ao k co, .slice A k c] W.val fun e w' => e = .returned (.bool true) ∧ W.val = w') := by
        intro W
        have := equal_any _ _ ys ys _ (HYr.out.below W.2.1) (HDr.out.below W.2.1) Hr.out Hr.out
        rw [eqB_self] at this
        exact this
      repeat (go_big_quiet_step ((first
        | (go_at_call 10; exact class_below (awake_any _))
        | (go_at_call 17; exact class_same (HEQ.out _))
        | (go_at_call 11; exact class_below (accept_any _ _ _ _ _ (by omega) (by omega)))
        | (go_at_call 18; exact class_same (raccept_any _ _ _ _ _ (by omega) (by omega) (by omega) (by omega) (by omega) (by omega) (by omega) (by omega))))))
      refine wpQuiet_nil ?_
      rintro _ ⟨W, rfl⟩
      obtain ⟨w9, hb9⟩ := W
      have H9 := Lib.hid hb9.1
      dsimp only
      clear f0 f1 f2 f3 hb9
      go_wp2
      go_ret
      refine ⟨rfl, ?_⟩
      have h3 : Below w.heap.size w W3 := ((Below.refl _ _).alloc (Nat.le_refl _) _).trans (HB3.out.mono (by omega))
      have h4 := h3.trans (HBr.out.mono h3.size)
      exact h4.trans (H9.out.mono h4.size)

theorem takes_row (a b l : Int) (v : Value) (n : Int) (w : World) (hp : (∃ xs, Byt w v xs ∧ ∀ x ∈ xs, 0 ≤ x ∧ x ≤ 255) ∧ (Lit.int .u32 a).wf = true ∧ (Lit.int .u32 b).wf = true ∧ (Lit.int .u32 l).wf = true) (w2 : (Lit.int .i64 n).wf = true) :
    Calls Try.prog 4 #[.agg #[.int .u32 a, .int .u32 b, .int .u32 l, v], .int .i64 n] w fun e w' => e = .returned (.bool true) ∧ Below w.heap.size w w' := by
  obtain ⟨⟨xs, hb, hx⟩, ha, hb', hl⟩ := hp
  exact takes_walk a b l v n xs w hb hx (bd_u32 ha).1 (bd_u32 ha).2 (bd_u32 hb').1 (bd_u32 hb').2 (bd_u32 hl).1 (bd_u32 hl).2 (bd_i64 w2).1 (bd_i64 w2).2
end Go.Proofs.Ytlckmdgejendpaa
