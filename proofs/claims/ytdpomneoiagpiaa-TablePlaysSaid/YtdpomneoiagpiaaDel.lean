/- slices.Delete and slices.Clone at flows. -/
import Derived.Test.YtdpomneoiagpiaaFlow
import Derived.Lib.SliceRun
import Derived.Lib.BufferMore
set_option linter.unusedVariables false
namespace Go.Proofs.Ytdpomneoiagpiaa
open Go.RowKit Go.Deep Go.BigFrame
attribute [local go_sem ↓] Go.wp_at_zero Go.wp_at_succ
theorem heap_setCells : ∀ (vs : List Value) (o : Nat) {w : World} {b : Nat} {cur : Array Value} {ty : TypeId} {fr : Nat × Nat}, w.heap[b]? = some (.cells cur ty fr) →
    ∃ cur' : Array Value, (w.setCells b o vs).heap[b]? = some (.cells cur' ty fr) ∧ cur'.size = cur.size ∧ ∀ j, cur'[j]? = if o ≤ j ∧ j < o + vs.length ∧ j < cur.size then vs[j - o]? else cur[j]?
  | [], o, w, b, cur, ty, fr, h => ⟨cur, h, rfl, fun j => by rw [if_neg (by simp; omega)]⟩
  | v :: r, o, w, b, cur, ty, fr, h => by
    obtain ⟨cur', h1, h2, h3⟩ := heap_setCells r (o + 1) (heap_set (i := o) h v)
    refine ⟨cur', h1, by rw [h2]; simp, fun j => ?_⟩
    rw [h3 j]
    simp only [Array.size_setIfInBounds, List.length_cons]
    by_cases c1 : o + 1 ≤ j ∧ j < o + 1 + r.length ∧ j < cur.size
    · rw [if_pos c1, if_pos ⟨by omega, by omega, c1.2.2⟩, show j - o = (j - (o + 1)) + 1 by omega]
      rfl
    · rw [if_neg c1]
      by_cases e : o = j
      · subst e
        by_cases hs : o < cur.size
        · rw [Array.getElem?_setIfInBounds_self_of_lt hs, if_pos ⟨Nat.le_refl _, by omega, hs⟩]
          simp
        · rw [if_neg (by omega), Array.getElem?_eq_none (by simp; omega), Array.getElem?_eq_none (by omega)]
      · rw [Array.getElem?_setIfInBounds_ne e, if_neg (by omega)]
theorem grown_setCells : ∀ (vs : List Value) (o : Nat) (w : World) (b : Nat), w.grownBy (w.setCells b o vs) (some b)
  | [], o, w, b => World.grownBy.refl _ _
  | v :: r, o, w, b => grown_trans (grown_setCell w b o v) (grown_setCells r (o + 1) _ b)
theorem row_take (L : List Fl) (i : Nat) (hi : i ≤ L.length) : row (L.take i) = (row L).take (i * 12) := by
  have h : row L = row (L.take i) ++ row (L.drop i) := by rw [← row_append, List.take_append_drop]
  rw [h, List.take_left' (by rw [row_len, List.length_take]; congr 1; omega)]
theorem row_drop (L : List Fl) (i : Nat) (hi : i ≤ L.length) : row (L.drop i) = (row L).drop (i * 12) := by
  have h : row L = row (L.take i) ++ row (L.drop i) := by rw [← row_append, List.take_append_drop]
  rw [h, List.drop_left' (by rw [row_len, List.length_take]; congr 1; omega)]
theorem row_erase (L : List Fl) (i : Nat) (hi : i < L.length) : row (L.eraseIdx i) = (row L).take (i * 12) ++ (row L).drop ((i + 1) * 12) := by
  rw [List.eraseIdx_eq_take_drop_succ, row_append, row_take L i (by omega), row_drop L (i + 1) (by omega)]
theorem info38 : (Try.prog.info? 38).map (fun i => (i.zero, i.size, i.bytes)) = some (some (.agg #[.int .u64 0, .int .u8 0, .int .u32 0, .int .u32 0, .int .u16 0, .int .u16 0, .int .u8 0, .int .u32 0, .int .u32 0, .int .u16 0, .int .u16 0, .bool false]), 12, 48) := by kernel_rfl
def zero38 : List Value := [.int .u64 0, .int .u8 0, .int .u32 0, .int .u32 0, .int .u16 0, .int .u16 0, .int .u8 0, .int .u32 0, .int .u32 0, .int .u16 0, .int .u16 0, .bool false]
theorem zero_38 (w : World) : (zeroValue 38).run Try.prog w = .ok (.agg #[.int .u64 0, .int .u8 0, .int .u32 0, .int .u32 0, .int .u16 0, .int .u16 0, .int .u8 0, .int .u32 0, .int .u32 0, .int .u16 0, .int .u16 0, .bool false]) w := by kernel_rfl
theorem one_row (L : List Fl) : ∀ u ∈ row L, u.oneCell' = true := by
  intro u hu
  simp only [row, List.mem_flatMap] at hu
  obtain ⟨f, _, hf⟩ := hu
  simp [Fl.cells, Fl.arr] at hf
  rcases hf with rfl | rfl | rfl | rfl | rfl | rfl | rfl | rfl | rfl | rfl | rfl | rfl <;> rfl
theorem zero38_one : ∀ v ∈ zero38, v.oneCell' = true := by
  intro v hv
  have : zero38.all (fun v => v.oneCell') = true := by kernel_rfl
  exact List.all_eq_true.1 this v hv
theorem run_clear_flow (w : World) (ty : TypeId) (b o c : Nat) (hc : ∀ j, j < 12 → (w.cell? ⟨b, o + j, none⟩).isSome = true) (hf : ∀ j, j < 12 → w.frozen? ⟨b, o + j, none⟩ = false) :
    (Builtin.clear_ #[50] ty #[.slice (some ⟨b, o, none⟩) 1 c]).run Try.prog w = .ok (.tuple #[]) (w.setCells b o zero38) := by
  have hst := run_storeCells_cells (P := Try.prog) b o zero38 0 w (by simpa [zero38] using hc) (by simpa [zero38] using hf) (by exact fun v hv => zero38_one v hv)
  simp only [Nat.add_zero] at hst
  have hzc : (Builtin.zeroCells #[.int .u64 0, .int .u8 0, .int .u32 0, .int .u32 0, .int .u16 0, .int .u16 0, .int .u8 0, .int .u32 0, .int .u32 0, .int .u16 0, .int .u16 0, .bool false] 1).toList = zero38 := by kernel_rfl
  simp [Builtin.clear_, run_underlying Try.underlying50, Value.cells, hzc, hst]

theorem del_cells (R : List Value) (cur cur1 cur2 : Array Value) (n i : Nat) (hn : R.length = n * 12) (hi : i < n) (q4 : cur.toList.take (n * 12) = R) (hs : n * 12 ≤ cur.size)
    (c13 : ∀ j : Nat, cur1[j]? = if 0 + i * 12 ≤ j ∧ j < 0 + i * 12 + (R.drop ((i + 1) * 12)).length ∧ j < cur.size then (R.drop ((i + 1) * 12))[j - (0 + i * 12)]? else cur[j]?)
    (c23 : ∀ j : Nat, cur2[j]? = if (n - 1) * 12 ≤ j ∧ j < (n - 1) * 12 + zero38.length ∧ j < cur1.size then zero38[j - (n - 1) * 12]? else cur1[j]?) : cur2.toList.take ((n - 1) * 12) = R.take (i * 12) ++ R.drop ((i + 1) * 12) := by
  have hd : (R.drop ((i + 1) * 12)).length = n * 12 - (i + 1) * 12 := by rw [List.length_drop, hn]
  have ht : (R.take (i * 12)).length = i * 12 := by rw [List.length_take, hn]; omega
  apply List.ext_getElem?
  intro j
  by_cases hj : j < (n - 1) * 12
  · rw [List.getElem?_take_of_lt hj, Array.getElem?_toList, c23 j, if_neg (by omega), c13 j, hd]
    by_cases hj2 : j < i * 12
    · rw [if_neg (by omega), List.getElem?_append_left (by rw [ht]; exact hj2), List.getElem?_take_of_lt hj2, ← q4, List.getElem?_take_of_lt (by omega), Array.getElem?_toList]
    · rw [if_pos (by omega), List.getElem?_append_right (by rw [ht]; omega), ht, Nat.zero_add]
  · have e1 : (cur2.toList.take ((n - 1) * 12)).length ≤ j := by rw [List.length_take]; omega
    have e2 : (R.take (i * 12) ++ R.drop ((i + 1) * 12)).length ≤ j := by rw [List.length_append, ht, hd]; omega
    rw [List.getElem?_eq_none e1, List.getElem?_eq_none e2]
set_option maxHeartbeats 3200000 in
theorem delete_any (B g cap : Nat) (L : List Fl) (n i : Nat) (w : World) (hn : L.length = n) (hi : i < n) (h : w.ownsRow B 38 12 (.slice (some ⟨g, 0, none⟩) n cap) n (row L)) (hm : n ≤ 100000) :
    Calls Try.prog 39 #[.slice (some ⟨g, 0, none⟩) n cap, .int .i64 i, .int .i64 ((i : Int) + 1)] w fun e w' => e = .returned (.slice (some ⟨g, 0, none⟩) (n - 1) cap) ∧
      w'.ownsRow B 38 12 (.slice (some ⟨g, 0, none⟩) (n - 1) cap) (n - 1) (row (L.eraseIdx i)) ∧ w.grownBy w' (some g) := by
  obtain ⟨hl, h2⟩ := h
  rcases h2 with ⟨h3, _⟩ | ⟨g', cap', cur, h3, hb, hg, q1, q2, q3, q4⟩
  · cases h3
  · injection h3 with h3 _ h3'
    injection h3 with h3
    injection h3 with h3
    subst h3 h3'
    obtain ⟨i0, hi0, hz0, hz1, hz2⟩ := info_parts info38
    obtain ⟨news, hnews⟩ : ∃ news, news = (row L).drop ((i + 1) * 12) := ⟨_, rfl⟩
    have hnl : news.length = (n - (i + 1)) * 12 := by rw [hnews, List.length_drop, row_len, hn]; omega
    have hcell : ∀ j, j < n * 12 → w.cell? ⟨g, j, none⟩ = (row L)[j]? := by
      intro j hj
      rw [cell_of hg, ← q4, List.getElem?_take_of_lt hj, Array.getElem?_toList]
    obtain ⟨A, hA, hsrc⟩ : ∃ A : Addr, (if cap = i + 1 then (some ⟨g, 0, none⟩ : Option Addr) else some ⟨g, (i + 1) * 12, none⟩) = some A ∧ Hid (∀ t u, news[t]? = some u → w.drew.cell? (A.add t) = some u) := by
      by_cases hc : cap = i + 1
      · refine ⟨⟨g, 0, none⟩, by simp [hc], Lib.hid fun t u hu => ?_⟩
        have : news.length = 0 := by rw [hnl]; omega
        rw [List.length_eq_zero_iff.1 this] at hu
        simp at hu
      · refine ⟨⟨g, (i + 1) * 12, none⟩, by simp [hc], Lib.hid fun t u hu => ?_⟩
        have ht := (List.getElem?_eq_some_iff.1 hu).1
        rw [Addr.add_lit]
        show w.cell? _ = _
        rw [hcell _ (by omega), ← hu, hnews, List.getElem?_drop]
    have s1 : Hid (news.length = (n - (i + 1)) * 12) := Lib.hid hnl
    have s2 : Hid (∀ u ∈ news, u.oneCell' = true) := Lib.hid (fun u hu => one_row L u (by rw [hnews] at hu; exact List.mem_of_mem_drop hu))
    have hsome : ∀ j, j < n * 12 → (w.cell? ⟨g, j, none⟩).isSome = true := by
      intro j hj
      rw [hcell j hj, List.getElem?_eq_getElem (by rw [row_len, hn]; exact hj)]
      rfl
    have s3 : Hid (∀ t, t < news.length → (w.drew.cell? ⟨g, 0 + i * 12 + t, none⟩).isSome = true ∧ w.drew.frozen? ⟨g, 0 + i * 12 + t, none⟩ = false) := Lib.hid (fun t ht => ⟨hsome _ (by rw [hnl] at ht; omega), free_of (w := w) hg _⟩)
    obtain ⟨W1, hW1⟩ : ∃ W1, W1 = w.drew.setCells g (0 + i * 12) news := ⟨_, rfl⟩
    obtain ⟨cur1, c11, c12, c13⟩ := heap_setCells (w := w.drew) news (0 + i * 12) hg
    rw [← hW1] at c11
    have hg1 : w.grownBy W1 (some g) := by rw [hW1]; exact grown_trans (grown_drew (World.grownBy.refl _ _)) (grown_setCells _ _ _ _)
    have hsz : n * 12 ≤ cur1.size := by rw [c12, q3]; exact Nat.mul_le_mul_right 12 q1
    have hcl : ∀ ty, (Builtin.clear_ #[50] ty #[.slice (some ⟨g, (n - 1) * 12, none⟩) 1 (cap - (n - 1))]).run Try.prog W1 = .ok (.tuple #[]) (W1.setCells g ((n - 1) * 12) zero38) := fun ty =>
      run_clear_flow W1 ty g ((n - 1) * 12) _ (fun j hj => by rw [cell_of c11, Array.getElem?_eq_getElem (by omega)]; rfl) (fun j hj => free_of c11 _)
    obtain ⟨cur2, c21, c22, c23⟩ := heap_setCells zero38 ((n - 1) * 12) c11
    have hfin : (W1.setCells g ((n - 1) * 12) zero38).ownsRow B 38 12 (.slice (some ⟨g, 0, none⟩) (n - 1) cap) (n - 1) (row (L.eraseIdx i)) := by
      have hel : (L.eraseIdx i).length = n - 1 := by rw [List.length_eraseIdx, if_pos (by omega), hn]
      refine ⟨by rw [row_len, hel], Or.inr ⟨g, cap, cur2, rfl, hb, c21, by omega, q2, by rw [c22, c12, q3], ?_⟩⟩
      rw [row_erase L i (by omega)]
      rw [hnews] at c13
      exact del_cells (row L) cur cur1 cur2 n i (by rw [row_len, hn]) hi q4 (by rw [q3]; exact Nat.mul_le_mul_right 12 q1) c13 c23
    have HFIN := Lib.hid hfin
    have HGF := Lib.hid (grown_trans hg1 (grown_setCells zero38 ((n - 1) * 12) W1 g))
    have HW1 := Lib.hid hW1
    have hcap : n ≤ cap := q1
    have hic : i ≤ cap := by omega
    have hjc : i + 1 ≤ cap := by omega
    have hj0 : (0 : Int) ≤ (i : Int) + 1 := by omega
    have hj1 : (i : Int) + 1 ≤ (n : Int) := by omega
    have hsum : i + (n - (i + 1)) = n - 1 := by omega
    have hsub : n - (n - 1) = 1 := by omega
    have hnc : n - 1 ≤ n := by omega
    have hnb : ¬ cap = n - 1 := by omega
    have hn1 : ((n : Int) - 1) = ((n - 1 : Nat) : Int) := by omega
    clear hW1 hfin c11 c12 c13 c21 c22 c23 hg1 hsz hsome hcell hnl hnews q4 q3 q1 hg hl
    go_enter Try.func39, Try.ntmps39
    go_wp2_with fail
    go_region_law (refine step_append_room rfl (.tmp 22) (.tmp 25) 50 rfl 38 i0 12 Try.underlying50 hi0 hz1 g 0 i cap (by simp [Act.eval, Act.put]) A (n - (i + 1)) (cap - (i + 1)) news (by simp [Act.eval, Act.put]) s1.out hsrc.out s2.out (by omega) s3.out ?_; rw [← HW1.out])
    all_goals
      go_wp2_with fail
      go_ret
      exact ⟨rfl, HFIN.out, HGF.out⟩
theorem FlAt.at {w : World} {b o : Nat} {f : Fl} (h : FlAt w b o f) : ∀ r, r < 12 → w.cell? ⟨b, o + r, none⟩ = f.arr[r]?
  | 0, _ => h.k0
  | 1, _ => h.k1
  | 2, _ => h.k2
  | 3, _ => h.k3
  | 4, _ => h.k4
  | 5, _ => h.k5
  | 6, _ => h.k6
  | 7, _ => h.k7
  | 8, _ => h.k8
  | 9, _ => h.k9
  | 10, _ => h.k10
  | 11, _ => h.k11
  | r + 12, h => by omega
theorem FlsAt.cell {w : World} {A : Addr} {L : List Fl} (h : FlsAt w (some A) L) (j : Nat) (u : Value) (hu : (row L)[j]? = some u) : w.cell? (A.add j) = some u := by
  have hj := (List.getElem?_eq_some_iff.1 hu).1
  rw [row_len] at hj
  have hd : j / 12 < L.length := by omega
  obtain ⟨b, o, e, hl, ha⟩ := h (j / 12) _ (List.getElem?_eq_getElem hd)
  injection e with e
  subst e
  have h1 := ha.at (j % 12) (by omega)
  rw [← row_at L (j / 12) _ (List.getElem?_eq_getElem hd) (j % 12) (by omega), show j / 12 * 12 + j % 12 = j by omega, hu] at h1
  rw [Go.WideShapes.add_plain, ← h1]
  congr 2
  omega
theorem run_append_flows {w : World} (B : Nat) (v : Value) (n : Nat) (M : List Fl) (hown : w.ownsRow B 38 12 v n (row M)) (A : Option Addr) (m c : Nat) (L : List Fl) (hL : L.length = m) (h : FlsAt w A L) (hsm : n + m ≤ 100000) (hB : B ≤ w.heap.size) :
    ∃ v' w', (Builtin.append_ #[50, 50] 50 #[v, .slice A m c]).run Try.prog w = .ok v' w' ∧ w'.ownsRow B 38 12 v' (n + m) (row (M ++ L)) ∧ w.grownBy w' v.ownBlock := by
  obtain ⟨i0, hi, hz0, hz1, hz2⟩ := info_parts info38
  subst hL
  rw [row_append]
  cases A with
  | none =>
    have h0 : L.length = 0 := by
      rcases Nat.eq_zero_or_pos L.length with h' | h'
      · exact h'
      · obtain ⟨b, o, h', _⟩ := h 0 _ (List.getElem?_eq_getElem h'); cases h'
    obtain rfl : L = [] := List.eq_nil_of_length_eq_zero h0
    refine ⟨v, w, ?_, by simpa [row] using hown, ⟨rfl, rfl, rfl, Nat.le_refl _, fun _ _ _ => rfl⟩⟩
    rcases hown.2 with ⟨rfl, rfl⟩ | ⟨g, cap, cur, rfl, _, _, hnc, _⟩
    · simp [Builtin.append_, run_underlying Try.underlying50, sizeOf, typeInfo, hi, Builtin.lenOf, Builtin.firstCells]
    · simp [Builtin.append_, run_underlying Try.underlying50, sizeOf, typeInfo, hi, Builtin.lenOf, Builtin.firstCells, hnc, storeCells]
  | some ad =>
    obtain ⟨v', w', hr, ho, hg, _⟩ := run_append_own (P := Try.prog) w B 50 50 38 i0 _ 12 48 Try.underlying50 hi hz0 hz1 hz2 rfl (by decide) v n (row M) hown ad L.length c (row L) (row_len L)
      (fun j u hu => h.cell j u hu) (one_row L) (by unfold maxLen; omega) (by omega) hB
    exact ⟨v', w', hr, ho, hg⟩
/-- One flow more. -/
theorem run_push_flow {w : World} (B : Nat) (v : Value) (n : Nat) (M : List Fl) (hown : w.ownsRow B 38 12 v n (row M)) (f : Fl) (hsm : n ≤ 99999) (hB : B ≤ w.heap.size) :
    ∃ v' w', (Builtin.append_ #[50, 50] 50 #[v, .slice (some ⟨w.heap.size, 0, none⟩) 1 1]).run Try.prog (w.alloc (.cells f.arr 38)) = .ok v' w' ∧ w'.ownsRow B 38 12 v' (n + 1) (row (M ++ [f])) ∧ (w.alloc (.cells f.arr 38)).grownBy w' v.ownBlock := by
  refine run_append_flows (w := w.alloc (.cells f.arr 38)) B v n M (hown.alloc _) _ 1 1 [f] rfl ?_ (by omega) (by simp; omega)
  intro i g hg
  have hi := (List.getElem?_eq_some_iff.1 hg).1
  obtain rfl : i = 0 := by simpa using hi
  simp at hg
  subst hg
  have hh := heap_alloc_new w (Obj.cells f.arr 38)
  exact ⟨w.heap.size, 0, rfl, by simp, ⟨cell_of hh 0, cell_of hh 1, cell_of hh 2, cell_of hh 3, cell_of hh 4, cell_of hh 5, cell_of hh 6, cell_of hh 7, cell_of hh 8, cell_of hh 9, cell_of hh 10, cell_of hh 11⟩⟩
set_option maxHeartbeats 800000 in
theorem clone_any (B c : Nat) (A : Option Addr) (L : List Fl) (n : Nat) (w : World) (hn : L.length = n) (h : w.ownsRow B 38 12 (.slice A n c) n (row L)) (hm : n ≤ 90000) :
    Calls Try.prog 44 #[.slice A n c] w fun e w' => ∃ v, e = .returned v ∧ w'.ownsRow w.heap.size 38 12 v n (row L) ∧ Below w.heap.size w w' := by
  rcases h.2 with ⟨h3, h4⟩ | ⟨g, cap, cur, h3, hb, hg, q1, q2, q3, q4⟩
  · injection h3 with h3 h3' h3''
    subst h3 h3' h3''
    obtain rfl : L = [] := List.eq_nil_of_length_eq_zero hn
    have he := fun W => Lib.run_eql_slice_nil_nil (P := Try.prog) W (t := 50) (e := 38) 0 0 Try.underlying50
    clear h
    go_enter Try.func44, Try.ntmps44
    go_wp2
    go_ret
    exact ⟨_, rfl, World.ownsRow_nil _ _ _ _, Below.refl _ _⟩
  · injection h3 with h3 _ h3'
    subst h3 h3'
    obtain ⟨Xa, hXa⟩ : ∃ Xa, Xa = w.alloc (Obj.cells #[] 38) := ⟨_, rfl⟩
    have hB1 : Below w.heap.size w Xa := by rw [hXa]; exact (Below.refl _ _).alloc (Nat.le_refl _) _
    have hown0 : Xa.ownsRow w.heap.size 38 12 (.slice (some ⟨w.heap.size, 0, none⟩) 0 0) 0 (row []) := ⟨rfl, Or.inr ⟨w.heap.size, 0, #[], rfl, Nat.le_refl _, by rw [hXa]; exact heap_alloc_new w _, Nat.le_refl _, by simp [maxLen], rfl, rfl⟩⟩
    have hf : FlsAt Xa (some ⟨g, 0, none⟩) L := (FlsAt.own (B := B) (c := c) (by rw [hn]; exact h)).below hB1
    obtain ⟨v', w', hr, ho, hg'⟩ := run_append_flows (w := Xa) w.heap.size _ 0 [] hown0 (some ⟨g, 0, none⟩) n c L hn hf (by omega) hB1.size
    rw [Nat.zero_add, List.nil_append] at ho
    have HB := Lib.hid (hB1.grown hg' hB1.size (fun k hk => by simp [Value.ownBlock] at hk; omega))
    rw [hXa] at hr
    have HR := Lib.hid hr
    have HO := Lib.hid ho
    have he := fun W => Lib.run_eql_slice_some_nil (P := Try.prog) W (t := 50) (e := 38) ⟨g, 0, none⟩ n c Try.underlying50
    clear hr ho hg' hf hown0 hB1 hXa h hg q1 q3 q4
    go_enter Try.func44, Try.ntmps44
    go_wp2_with (at_builtin; refine Lib.wpList_append_run _ rfl _ _ 50 50 rfl _ _ rfl rfl _ _ (by exact HR.out) ?_)
    go_ret
    exact ⟨_, rfl, HO.out, HB.out⟩
end Go.Proofs.Ytdpomneoiagpiaa
