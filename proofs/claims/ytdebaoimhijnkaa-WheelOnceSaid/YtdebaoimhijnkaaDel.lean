/- slices.IndexFunc, slices.DeleteFunc of alarms, by id. -/
import Derived.Test.YtdebaoimhijnkaaWh
set_option linter.unusedVariables false
namespace Go.Proofs.Ytdebaoimhijnkaa
open Go.RowKit Go.Deep Go.BigFrame
attribute [local go_sem ↓] Go.wp_at_zero Go.wp_at_succ
set_option maxHeartbeats 1600000
set_option maxRecDepth 100000
theorem closure37 (a : Al) (id : Int) (q : Nat) (b : Bool) (hb : (a.id == id) = b) (w : World) (hq : w.cell? ⟨q, 0, none⟩ = some (.int .u64 id)) :
    Calls Try.prog 37 #[a.val, .pointer (some ⟨q, 0, none⟩)] w fun e w' => e = .returned (.bool b) ∧ Below w.heap.size w w' := by
  have hB : Below w.heap.size w (w.alloc (.cells a.arr 66)) := bel_alloc _ _
  have HB := Lib.hid hB
  have HQ := Lib.hid hb
  have hq2 : ∀ o, (w.alloc o).cell? ⟨q, 0, none⟩ = some (.int .u64 id) := fun o => Lib.cell?_alloc_some _ hq
  clear hB hb hq
  unfold Al.val Al.arr
  go_enter Try.func37, Try.ntmps37
  go_wp2_with fail
  go_ret
  exact ⟨by rw [← HQ.out]; rfl, HB.out⟩
theorem index_any (A : Option Addr) (c : Nat) (L : List Al) (n i : Nat) (a : Al) (id : Int) (q : Nat) (w : World) (hn : L.length = n) (h : AlsAt 66 w A L) (hm : n ≤ 90000)
    (hq : w.cell? ⟨q, 0, none⟩ = some (.int .u64 id)) (ha : L[i]? = some a) (hid : a.id = id) (hno : ∀ j z, j < i → L[j]? = some z → z.id ≠ id) :
    Calls Try.prog 44 #[.slice A n c, .func (.func 37) #[] #[.pointer (some ⟨q, 0, none⟩)]] w fun e w' => e = .returned (.int .i64 i) ∧ Below w.heap.size w w' := by
  have hin : i < n := by rw [← hn]; exact (List.getElem?_eq_some_iff.1 ha).1
  obtain ⟨b, o, rfl, _⟩ := h.2 i a ha
  have HL := Lib.hid (And.intro hn (And.intro h (And.intro ha (And.intro hid hno))))
  have hql : q < w.heap.size := by
    have := hq
    unfold World.cell? at this
    cases hx : w.heap[q]? with
    | none => simp [hx] at this
    | some o => exact (Array.getElem?_eq_some_iff.1 hx).1
  have HQ := Lib.hid (And.intro hq hql)
  clear hn h ha hid hno hq hql
  go_enter Try.func44, Try.ntmps44
  go_wp2_with fail
  go_loopw [8] (fun v8 wr => ∃ k : Nat, v8 = .int .i64 k ∧ k ≤ i ∧ Hid (Below w.heap.size w wr)) (fun v8 _ => i - (intOf v8).toNat)
  case atStart => exact ⟨0, rfl, Nat.zero_le _, Lib.hid (Below.refl _ _)⟩
  case round =>
    obtain ⟨k, rfl, hk, hb⟩ := hrel
    obtain ⟨z, hz⟩ : ∃ z, L[k]? = some z := ⟨_, List.getElem?_eq_getElem (by rw [HL.out.1]; omega)⟩
    obtain ⟨b2, o2, e2, k0, k1⟩ := (HL.out.2.1.below hb.out).2 k z hz
    cases e2
    have HC := fun (y : Bool) (hy : (z.id == id) = y) => Lib.hid (closure37 z id q y hy wr ((hb.out.cell (p := ⟨q, 0, none⟩) HQ.out.2).trans HQ.out.1))
    have hkn : k < n := by omega
    by_cases hlt : k < i
    · have HC2 := HC false (by simpa using HL.out.2.2.2.2 k z hlt hz)
      clear hz HC
      unfold Al.val Al.arr at HC2
      go_wp2_with fail
      refine HC2.out.mono ?_
      rintro e w2 ⟨rfl, hw2⟩
      have HW2 := Lib.hid (hb.out.trans (hw2.mono hb.out.size))
      clear hw2 k0 k1
      go_wp2_with fail
      go_roundw
      case rel => exact ⟨k + 1, by simp, by omega, HW2⟩
      case measure => simp [intOf]; omega
    · obtain rfl : i = k := by omega
      have hza : z = a := by have h1 := HL.out.2.2.1; rw [hz] at h1; injection h1
      have HC2 := HC true (by rw [hza, HL.out.2.2.2.1]; simp)
      clear hz HC hza
      unfold Al.val Al.arr at HC2
      go_wp2_with fail
      refine HC2.out.mono ?_
      rintro e w2 ⟨rfl, hw2⟩
      have HW2 := Lib.hid (hb.out.trans (hw2.mono hb.out.size))
      clear hw2 k0 k1
      go_wp2_with fail
      go_ret
      exact ⟨rfl, HW2.out⟩
theorem own_put {w : World} {B g cap n p : Nat} {M : List Al} {a : Al} (h : w.ownsRow B 66 2 (.slice (some ⟨g, 0, none⟩) n cap) n (row M)) (hM : M.length = n) (hp : p < n) :
    ((w.setCell ⟨g, p * 2, none⟩ (.int .u64 a.id)).setCell ⟨g, p * 2 + 1, none⟩ (.int .u64 a.t)).ownsRow B 66 2 (.slice (some ⟨g, 0, none⟩) n cap) n (row (M.set p a)) := by
  rcases h.2 with ⟨h3, _⟩ | ⟨g', cap', cur, h3, hb, hg, q1, q2, q3, q4⟩
  · cases h3
  · injection h3 with h3 _ h3'
    injection h3 with h3
    injection h3 with h3
    subst h3 h3'
    have e1 := heap_set (i := p * 2 + 1) (heap_set (i := p * 2) hg (.int .u64 a.id)) (.int .u64 a.t)
    refine ⟨by rw [row_len, List.length_set, hM], .inr ⟨g, cap, _, rfl, hb, e1, q1, q2, by simpa using q3, ?_⟩⟩
    have hcap : n * 2 ≤ cur.size := by rw [q3]; exact Nat.mul_le_mul_right 2 q1
    apply List.ext_getElem?
    intro t
    by_cases ht : t < n * 2
    · have hd : t / 2 < M.length := by omega
      have hr := row_at (M.set p a) (t / 2) _ (List.getElem?_eq_getElem (by simpa using hd)) (t % 2) (by omega)
      rw [show t / 2 * 2 + t % 2 = t by omega] at hr
      rw [List.getElem?_take_of_lt ht, Array.getElem?_toList, hr]
      have hr0 := row_at M (t / 2) _ (List.getElem?_eq_getElem hd) (t % 2) (by omega)
      rw [show t / 2 * 2 + t % 2 = t by omega, ← q4, List.getElem?_take_of_lt ht, Array.getElem?_toList] at hr0
      rw [List.getElem_set]
      by_cases e : p = t / 2
      · rw [if_pos e]
        rcases (show t = p * 2 ∨ t = p * 2 + 1 by omega) with q | q
        · subst q
          rw [Array.getElem?_setIfInBounds_ne (by omega), Array.getElem?_setIfInBounds_self_of_lt (by omega), show p * 2 % 2 = 0 by omega]
          rfl
        · subst q
          rw [Array.getElem?_setIfInBounds_self_of_lt (by simp; omega), show (p * 2 + 1) % 2 = 1 by omega]
          rfl
      · rw [if_neg e, Array.getElem?_setIfInBounds_ne (by omega), Array.getElem?_setIfInBounds_ne (by omega), hr0]
    · rw [List.getElem?_eq_none (by rw [List.length_take]; omega), List.getElem?_eq_none (by rw [row_len, List.length_set]; omega)]
/-- The row while it is shifted. -/
def shiftL (L : List Al) (i j : Nat) : List Al := (L.eraseIdx i).take (j - 1) ++ L.drop (j - 1)
theorem shift_len {L : List Al} {i j : Nat} (hi : i < L.length) (hj1 : i < j) (hj : j ≤ L.length) : (shiftL L i j).length = L.length := by
  unfold shiftL
  rw [List.length_append, List.length_take, List.length_drop, List.length_eraseIdx, if_pos hi]
  omega
theorem shift_at {L : List Al} {i j : Nat} (hi : i < L.length) (hj1 : i < j) (hj : j < L.length) : (shiftL L i j)[j]? = L[j]? := by
  unfold shiftL
  have h1 : ((L.eraseIdx i).take (j - 1)).length = j - 1 := by rw [List.length_take, List.length_eraseIdx, if_pos hi]; omega
  rw [List.getElem?_append_right (by omega), h1, List.getElem?_drop, show j - 1 + (j - (j - 1)) = j by omega]
theorem shift_step {L : List Al} {i j : Nat} {a : Al} (hi : i < L.length) (hj1 : i < j) (ha : L[j]? = some a) : (shiftL L i j).set (j - 1) a = shiftL L i (j + 1) := by
  have hj : j < L.length := (List.getElem?_eq_some_iff.1 ha).1
  apply List.ext_getElem?
  intro t
  have hle : (L.eraseIdx i).length = L.length - 1 := by rw [List.length_eraseIdx, if_pos hi]
  have h1 : ((L.eraseIdx i).take (j - 1)).length = j - 1 := by rw [List.length_take, hle]; omega
  have h2 : ((L.eraseIdx i).take (j + 1 - 1)).length = j := by rw [List.length_take, hle]; omega
  rw [List.getElem?_set]
  have hls := shift_len hi hj1 (by omega : j ≤ L.length)
  unfold shiftL at *
  by_cases e : j - 1 = t
  · subst e
    rw [if_pos rfl, if_pos (by omega), List.getElem?_append_left (by omega), List.getElem?_take_of_lt (by omega), List.getElem?_eraseIdx, if_neg (by omega), show j - 1 + 1 = j by omega, ha]
  · rw [if_neg e]
    by_cases h3 : t < j - 1
    · rw [List.getElem?_append_left (by omega), List.getElem?_append_left (by omega), List.getElem?_take_of_lt h3, List.getElem?_take_of_lt (by omega)]
    · rw [List.getElem?_append_right (by omega), List.getElem?_append_right (by omega), h1, h2, List.getElem?_drop, List.getElem?_drop]
      congr 1
      omega
theorem shift_end {L : List Al} {i : Nat} (hi : i < L.length) : (shiftL L i L.length).take (L.length - 1) = L.eraseIdx i := by
  unfold shiftL
  have hle : (L.eraseIdx i).length = L.length - 1 := by rw [List.length_eraseIdx, if_pos hi]
  rw [List.take_append_of_le_length (by rw [List.length_take]; omega), List.take_take, Nat.min_self, List.take_of_length_le (by omega)]
theorem shift_start {L : List Al} {i : Nat} (hi : i < L.length) : shiftL L i (i + 1) = L := by
  unfold shiftL
  rw [Nat.add_sub_cancel, List.eraseIdx_eq_take_drop_succ, List.take_left' (by rw [List.length_take]; omega), List.take_append_drop]
def zero66 : List Value := [.int .u64 0, .int .u64 0]
theorem zero_66 (w : World) : (zeroValue 66).run Try.prog w = .ok (.agg #[.int .u64 0, .int .u64 0]) w := by kernel_rfl
theorem run_clear_al (w : World) (ty : TypeId) (b o c : Nat) (hc : ∀ j, j < 2 → (w.cell? ⟨b, o + j, none⟩).isSome = true) (hf : ∀ j, j < 2 → w.frozen? ⟨b, o + j, none⟩ = false) :
    (Builtin.clear_ #[50] ty #[.slice (some ⟨b, o, none⟩) 1 c]).run Try.prog w = .ok (.tuple #[]) (w.setCells b o zero66) := by
  have hst := run_storeCells_cells (P := Try.prog) b o zero66 0 w (by simpa [zero66] using hc) (by simpa [zero66] using hf) (by intro v hv; simp [zero66] at hv; subst hv; rfl)
  simp only [Nat.add_zero] at hst
  have hzc : (Builtin.zeroCells #[.int .u64 0, .int .u64 0] 1).toList = zero66 := by kernel_rfl
  simp [Builtin.clear_, run_underlying Try.underlying50, Value.cells, hzc, hst]
theorem row_take (L : List Al) (i : Nat) (hi : i ≤ L.length) : row (L.take i) = (row L).take (i * 2) := by
  have h : row L = row (L.take i) ++ row (L.drop i) := by rw [← row_append, List.take_append_drop]
  rw [h, List.take_left' (by rw [row_len, List.length_take]; congr 1; omega)]
/-- The row cut by its last place, which is cleared. -/
theorem own_cut {w : World} {B g cap n : Nat} {M : List Al} (h : w.ownsRow B 66 2 (.slice (some ⟨g, 0, none⟩) n cap) n (row M)) (hM : M.length = n) (hn : 1 ≤ n) :
    (w.setCells g ((n - 1) * 2) zero66).ownsRow B 66 2 (.slice (some ⟨g, 0, none⟩) (n - 1) cap) (n - 1) (row (M.take (n - 1))) := by
  rcases h.2 with ⟨h3, _⟩ | ⟨g', cap', cur, h3, hb, hg, q1, q2, q3, q4⟩
  · cases h3
  · injection h3 with h3 _ h3'
    injection h3 with h3
    injection h3 with h3
    subst h3 h3'
    obtain ⟨cur2, c1, c2, c3⟩ := heap_setCells zero66 ((n - 1) * 2) hg
    refine ⟨by rw [row_len, List.length_take, hM]; congr 1; omega, .inr ⟨g, cap, cur2, rfl, hb, c1, by omega, q2, by rw [c2, q3], ?_⟩⟩
    rw [row_take M (n - 1) (by omega), ← q4]
    apply List.ext_getElem?
    intro t
    by_cases ht : t < (n - 1) * 2
    · rw [List.getElem?_take_of_lt ht, List.getElem?_take_of_lt ht, List.getElem?_take_of_lt (by omega), Array.getElem?_toList, Array.getElem?_toList, c3 t, if_neg (by omega)]
    · rw [List.getElem?_eq_none (by rw [List.length_take]; omega), List.getElem?_eq_none (by rw [List.length_take]; omega)]
theorem delfunc_any (B cap g : Nat) (L : List Al) (n i : Nat) (a : Al) (id : Int) (q : Nat) (w : World) (hn : L.length = n) (h : w.ownsRow B 66 2 (.slice (some ⟨g, 0, none⟩) n cap) n (row L)) (hm : n ≤ 90000)
    (hq : w.heap[q]? = some (.cells #[.int .u64 id] 23 (0, 0))) (ha : L[i]? = some a) (hid : a.id = id) (hno : ∀ j z, j ≠ i → L[j]? = some z → z.id ≠ id) (hB : B ≤ w.heap.size) :
    Calls Try.prog 36 #[.slice (some ⟨g, 0, none⟩) n cap, .func (.func 37) #[] #[.pointer (some ⟨q, 0, none⟩)]] w fun e w' => e = .returned (.slice (some ⟨g, 0, none⟩) (n - 1) cap) ∧
      w'.ownsRow B 66 2 (.slice (some ⟨g, 0, none⟩) (n - 1) cap) (n - 1) (row (L.eraseIdx i)) ∧ w.grownBy w' (some g) := by
  have hin : i < n := by rw [← hn]; exact (List.getElem?_eq_some_iff.1 ha).1
  have hI := index_any (some ⟨g, 0, none⟩) cap L n i a id q w hn (AlsAt.own (B := B) (c := cap) (by rw [hn]; exact h)) hm (cell_of hq 0) ha hid (fun j z hj hz => hno j z (by omega) hz)
  have HI := Lib.hid hI
  have hqg : q ≠ g := by
    rintro rfl
    rcases h.2 with ⟨h3, _⟩ | ⟨g', cap', cur, h3, hb, hg, _⟩
    · cases h3
    · injection h3 with h3
      injection h3 with h3
      injection h3 with h3
      subst h3
      rw [hq] at hg
      cases hg
  have HL := Lib.hid (And.intro hn (And.intro h (And.intro ha (And.intro hno (And.intro hq hqg)))))
  have hcap : n ≤ cap := own_cap h
  clear hI hn h ha hid hno hq hqg
  go_enter Try.func36, Try.ntmps36
  go_wp2_with fail
  refine HI.out.mono ?_
  rintro e W0 ⟨rfl, hW0⟩
  have HW0 : Hid (W0.ownsRow B 66 2 (.slice (some ⟨g, 0, none⟩) n cap) n (row L) ∧ w.grownBy W0 (some g)) := Lib.hid ⟨row_below HL.out.2.1 hW0, grown_below hW0⟩
  clear hW0
  have ht1 : ((i : Int) == -1) = false := by simp
  go_wp2_with fail
  clear ht1
  go_loopw [5, 6] (fun v5 v6 wr => ∃ j : Nat, v6 = .int .i64 j ∧ v5 = .int .i64 ((j : Int) - 1) ∧ i < j ∧ j ≤ n ∧ Hid (wr.ownsRow B 66 2 (.slice (some ⟨g, 0, none⟩) n cap) n (row (shiftL L i j)) ∧ w.grownBy wr (some g))) (fun _ v6 _ => n - (intOf v6).toNat)
  case atStart => exact ⟨i + 1, rfl, by simp, Nat.lt_succ_self i, hin, by rw [shift_start (by rw [HL.out.1]; exact hin)]; exact HW0⟩
  case round =>
    obtain ⟨j, rfl, rfl, hij, hj, hR⟩ := hrel
    by_cases hlt : j < n
    · obtain ⟨z, hz⟩ : ∃ z, L[j]? = some z := ⟨_, List.getElem?_eq_getElem (by rw [HL.out.1]; omega)⟩
      have hzs : (shiftL L i j)[j]? = some z := by rw [shift_at (by rw [HL.out.1]; exact hin) hij (by rw [HL.out.1]; exact hlt)]; exact hz
      have hsl : (shiftL L i j).length = n := by rw [shift_len (by rw [HL.out.1]; exact hin) hij (by rw [HL.out.1]; exact hj), HL.out.1]
      obtain ⟨b2, o2, e2, k0, k1⟩ := (AlsAt.own (B := B) (c := cap) (by rw [hsl]; exact hR.out.1)).2 j z hzs
      cases e2
      simp only [Nat.zero_add] at k0 k1
      obtain ⟨p, hp⟩ : ∃ p : Nat, (j : Int) - 1 = p := ⟨j - 1, by omega⟩
      have hpj : p + 1 = j := by omega
      have HZ := Lib.hid (And.intro hz hsl)
      clear hz hzs hsl
      go_upto_region 8 with (fail)
      refine wp_name fun X hX => ?_
      have hX' : X = wr.alloc (.cells z.arr 66) := hX
      have hbX : Below wr.heap.size wr X := by rw [hX']; exact bel_alloc _ _
      have hxv : X.heap[wr.heap.size]? = some (.cells z.arr 66 (0, 0)) := by rw [hX']; exact heap_alloc_new _ _
      have hqX : X.heap[q]? = some (.cells #[.int .u64 id] 23 (0, 0)) := by
        have hql := (Array.getElem?_eq_some_iff.1 HL.out.2.2.2.2.1).1
        rw [hbX.block _ (Nat.lt_of_lt_of_le hql hR.out.2.size), hR.out.2.block q hql (by simpa using HL.out.2.2.2.2.2)]
        exact HL.out.2.2.2.2.1
      obtain ⟨v, hv⟩ : ∃ v, wr.heap.size = v := ⟨_, rfl⟩
      rw [hv] at hxv hbX ⊢
      have HC := Lib.hid (closure37 z id q false (by simpa using HL.out.2.2.2.1 j z (by omega) HZ.out.1) X (cell_of hqX 0))
      unfold Al.val Al.arr at HC
      have x0 : X.cell? ⟨v, 0, none⟩ = some (.int .u64 z.id) := cell_of hxv 0
      have x1 : X.cell? ⟨v, 1, none⟩ = some (.int .u64 z.t) := cell_of hxv 1
      have HX := Lib.hid (And.intro hbX (And.intro hxv hv))
      clear hX hX' hbX hxv hqX hv k0 k1
      go_wp2_with fail
      refine HC.out.mono ?_
      rintro e Y ⟨rfl, hY⟩
      have hvY := (hY.block _ (Array.getElem?_eq_some_iff.1 HX.out.2.1).1).trans HX.out.2.1
      have x2 : Y.cell? ⟨v, 0, none⟩ = some (.int .u64 z.id) := cell_of hvY 0
      have x3 : Y.cell? ⟨v, 1, none⟩ = some (.int .u64 z.t) := cell_of hvY 1
      have hown : Y.ownsRow B 66 2 (.slice (some ⟨g, 0, none⟩) n cap) n (row (shiftL L i j)) := row_below (row_below hR.out.1 (by rw [HX.out.2.2]; exact HX.out.1)) hY
      have hgr : w.grownBy Y (some g) := grown_then (grown_then hR.out.2 HX.out.1 (by rw [← HX.out.2.2]; exact hR.out.2.size)) hY (Nat.le_trans hR.out.2.size HX.out.1.size)
      have hcY : ∀ t, t < n * 2 → (Y.cell? ⟨g, t, none⟩).isSome = true ∧ Y.frozen? ⟨g, t, none⟩ = false := by
        intro t ht
        rcases hown.2 with ⟨h3, _⟩ | ⟨g', cap', cur, h3, hb, hg, q1, q2, q3, q4⟩
        · cases h3
        · injection h3 with h3 _ h3'
          injection h3 with h3
          injection h3 with h3
          subst h3 h3'
          have : t < cur.size := by rw [q3]; exact Nat.lt_of_lt_of_le ht (Nat.mul_le_mul_right 2 q1)
          exact ⟨by rw [cell_of hg, Array.getElem?_eq_getElem this]; rfl, free_of hg _⟩
      obtain ⟨s0, f0⟩ := hcY (p * 2) (by omega)
      obtain ⟨s1, f1⟩ := hcY (p * 2 + 1) (by omega)
      obtain ⟨y0, hy0⟩ := Option.isSome_iff_exists.1 s0
      obtain ⟨y1, hy1⟩ := Option.isSome_iff_exists.1 s1
      have HO := Lib.hid (And.intro (own_put (p := p) (a := z) hown HZ.out.2 (by omega)) (grown_trans hgr (grown_trans (grown_setCell Y g (p * 2) (.int .u64 z.id)) (grown_setCell _ g (p * 2 + 1) (.int .u64 z.t)))))
      rw [hp]
      have HP := Lib.hid hp
      clear hY hvY hown hgr hcY s0 s1 x0 x1 hp
      go_wp2_with fail
      go_roundw
      case rel =>
        refine ⟨j + 1, by simp, by simp; omega, by omega, by omega, Lib.hid ⟨?_, HO.out.2⟩⟩
        have := HO.out.1
        rw [show p = j - 1 by omega, shift_step (by rw [HL.out.1]; exact hin) hij HZ.out.1] at this
        rw [show p = j - 1 by omega]
        exact this
      case measure => simp [intOf]; omega
    · obtain rfl : j = n := by omega
      obtain ⟨p, hp⟩ : ∃ p : Nat, (j : Int) - 1 = p := ⟨j - 1, by omega⟩
      have hpj : p = j - 1 := by omega
      have hsl : (shiftL L i j).length = j := by rw [shift_len (by rw [HL.out.1]; exact hin) hij (by rw [HL.out.1]; exact Nat.le_refl _), HL.out.1]
      have hown := hR.out.1
      have hcY : ∀ t, t < j * 2 → (wr.cell? ⟨g, t, none⟩).isSome = true ∧ wr.frozen? ⟨g, t, none⟩ = false := by
        intro t ht
        rcases hown.2 with ⟨h3, _⟩ | ⟨g', cap', cur, h3, hb, hg, q1, q2, q3, q4⟩
        · cases h3
        · injection h3 with h3 _ h3'
          injection h3 with h3
          injection h3 with h3
          subst h3 h3'
          have : t < cur.size := by rw [q3]; exact Nat.lt_of_lt_of_le ht (Nat.mul_le_mul_right 2 q1)
          exact ⟨by rw [cell_of hg, Array.getElem?_eq_getElem this]; rfl, free_of hg _⟩
      have hcl := fun ty => run_clear_al wr ty g (p * 2) (cap - p) (fun t ht => (hcY (p * 2 + t) (by omega)).1) (fun t ht => (hcY (p * 2 + t) (by omega)).2)
      have hlo : ∀ W, (Instr.slice 50 (.slice (some ⟨g, 0, none⟩) j cap) (some (.int .i64 (p : Int))) none none).run Try.prog W = .ok (.slice (some ⟨g, p * 2, none⟩) 1 (cap - p)) W := fun W => by
        have := run_slice_lo50 (some ⟨g, 0, none⟩) j cap p (by omega) W
        unfold cutA at this
        rw [if_neg (by omega), show j - p = 1 by omega] at this
        simpa [add_at] using this
      have hhi := fun W => run_slice_hi50 (some ⟨g, 0, none⟩) j cap p (by omega) W
      have HO := Lib.hid (And.intro (own_cut hown hsl (by omega)) (grown_trans hR.out.2 (grown_setCells zero66 (p * 2) wr g)))
      rw [hp]
      have HPJ := Lib.hid hpj
      clear hp hsl hown hcY hpj
      go_wp2_with fail
      go_ret
      have hpj := HPJ.out
      obtain ⟨h1, h2⟩ := HO.out
      have he := shift_end (L := L) (i := i) (by rw [HL.out.1]; exact hin)
      rw [HL.out.1] at he
      rw [he] at h1
      subst hpj
      exact ⟨rfl, h1, h2⟩
end Go.Proofs.Ytdebaoimhijnkaa
