/- slices.SortFunc of alarms: by instants, then ids. -/
import Derived.Test.YtdebaoimhijnkaaLay
import Derived.Deep.RegionHeld3
set_option linter.unusedVariables false
namespace Go.Proofs.Ytdebaoimhijnkaa
open Go.RowKit Go.Deep Go.BigFrame
attribute [local go_sem ↓] Go.wp_at_zero Go.wp_at_succ
def cmpI (a b : Int) : Int := if a < b then -1 else if b < a then 1 else 0
def cf (f g : Al) : Int := if cmpI f.t g.t ≠ 0 then cmpI f.t g.t else cmpI f.id g.id
set_option maxHeartbeats 800000
theorem nan64 (a : Int) (w : World) : Calls Try.prog 40 #[.int .u64 a] w fun e w' => e = .returned (.bool false) ∧ w = w' := by
  go_enter Try.func40, Try.ntmps40
  go_wp2
  go_ret
  exact ⟨rfl, rfl⟩
theorem cmp64 (a b : Int) (w : World) : Calls Try.prog 31 #[.int .u64 a, .int .u64 b] w fun e w' => e = .returned (.int .i64 (cmpI a b)) ∧ w = w' := by
  have HN := Lib.hid nan64
  by_cases h1 : a < b
  · have e1 : cmpI a b = -1 := by unfold cmpI; rw [if_pos h1]
    rw [e1]
    clear e1
    go_enter Try.func31, Try.ntmps31
    go_wp2_with (go_at_call 40; refine (HN.out _ _).mono ?_; rintro e w' ⟨rfl, rfl⟩)
    go_ret
    exact ⟨rfl, rfl⟩
  · by_cases h2 : b < a
    · have e1 : cmpI a b = 1 := by unfold cmpI; rw [if_neg h1, if_pos h2]
      rw [e1]
      clear e1
      go_enter Try.func31, Try.ntmps31
      go_wp2_with (go_at_call 40; refine (HN.out _ _).mono ?_; rintro e w' ⟨rfl, rfl⟩)
      go_ret
      exact ⟨rfl, rfl⟩
    · have e1 : cmpI a b = 0 := by unfold cmpI; rw [if_neg h1, if_neg h2]
      rw [e1]
      clear e1
      go_enter Try.func31, Try.ntmps31
      go_wp2_with (go_at_call 40; refine (HN.out _ _).mono ?_; rintro e w' ⟨rfl, rfl⟩)
      go_ret
      exact ⟨rfl, rfl⟩
theorem or2 (a b : Int) (g : Nat) (w : World) (h0 : w.cell? ⟨g, 0, none⟩ = some (.int .i64 a)) (h1 : w.cell? ⟨g, 1, none⟩ = some (.int .i64 b)) :
    Calls Try.prog 30 #[.slice (some ⟨g, 0, none⟩) 2 2] w fun e w' => e = .returned (.int .i64 (if a ≠ 0 then a else b)) ∧ w = w' := by
  by_cases ha : a = 0
  · subst ha
    rw [if_neg (by simp)]
    by_cases hb : b = 0
    · subst hb
      go_enter Try.func30, Try.ntmps30
      go_wp2_with fail
      refine wp_loop_rounds 3 ?_
      rw [rounds_succ]
      go_wp2
      rw [rounds_succ]
      go_wp2
      rw [rounds_succ]
      go_wp2
      go_ret
      exact ⟨rfl, rfl⟩
    · have t : (b != 0) = true := by simpa using hb
      go_enter Try.func30, Try.ntmps30
      go_wp2_with fail
      refine wp_loop_rounds 2 ?_
      rw [rounds_succ]
      go_wp2
      rw [rounds_succ]
      go_wp2
      go_ret
      exact ⟨rfl, rfl⟩
  · rw [if_pos ha]
    have t : (a != 0) = true := by simpa using ha
    go_enter Try.func30, Try.ntmps30
    go_wp2_with fail
    refine wp_loop_rounds 1 ?_
    rw [rounds_succ]
    go_wp2
    go_ret
    exact ⟨rfl, rfl⟩
open Go.Sort in
theorem closure29 (f g : Al) (w : World) :
    Calls Try.prog 29 #[f.val, g.val] w fun e w' => e = .returned (.int .i64 (cf f g)) ∧ ∃ q os', w' = grow (w.drewN q) os' := by
  obtain ⟨c1, hc1⟩ : ∃ c1, cmpI f.t g.t = c1 := ⟨_, rfl⟩
  obtain ⟨c2, hc2⟩ : ∃ c2, cmpI f.id g.id = c2 := ⟨_, rfl⟩
  have H8 := Lib.hid (fun W => cmp64 f.t g.t W)
  have H16 := Lib.hid (fun W => cmp64 f.id g.id W)
  have e1 : cf f g = if c1 ≠ 0 then c1 else c2 := by unfold cf; rw [hc1, hc2]
  rw [hc1] at H8
  rw [hc2] at H16
  obtain ⟨R, hR⟩ : ∃ R, (if c1 ≠ 0 then c1 else c2) = R := ⟨_, rfl⟩
  have HOR := Lib.hid (or2 c1 c2)
  rw [e1]
  rw [hR] at HOR ⊢
  clear hc1 hc2 e1 hR
  unfold Al.val Al.arr
  go_enter Try.func29, Try.ntmps29
  go_wp2_with fail
  refine wp_name fun W hW => ?_
  have hf : W.heap[w.heap.size]? = some (.cells f.arr 66 (0, 0)) := by
    rw [hW, Below.heap_alloc _ _ _ (by simp)]
    exact heap_alloc_new w _
  have hg : W.heap[w.heap.size + 1]? = some (.cells g.arr 66 (0, 0)) := by
    rw [hW]
    have := heap_alloc_new (w.alloc (.cells f.arr 66)) (.cells g.arr 66)
    rwa [World.size_alloc] at this
  have f0 : W.cell? ⟨w.heap.size, 0, none⟩ = some (.int .u64 f.id) := cell_of hf 0
  have f1 : W.cell? ⟨w.heap.size, 1, none⟩ = some (.int .u64 f.t) := cell_of hf 1
  have g0 : W.cell? ⟨w.heap.size + 1, 0, none⟩ = some (.int .u64 g.id) := cell_of hg 0
  have g1 : W.cell? ⟨w.heap.size + 1, 1, none⟩ = some (.int .u64 g.t) := cell_of hg 1
  have HW := Lib.hid hW
  clear hf hg hW
  go_region_held3 (fun w' => w'.cell? ⟨w.heap.size, 0, none⟩ = some (.int .u64 f.id) ∧ w'.cell? ⟨w.heap.size, 1, none⟩ = some (.int .u64 f.t) ∧ w'.cell? ⟨w.heap.size + 1, 0, none⟩ = some (.int .u64 g.id) ∧ w'.cell? ⟨w.heap.size + 1, 1, none⟩ = some (.int .u64 g.t)) (go_keep)
    (first
      | (go_at_call 31; with_reducible refine (H8.out _).mono ?_; rintro e w' ⟨rfl, rfl⟩)
      | (go_at_call 31; with_reducible refine (H16.out _).mono ?_; rintro e w' ⟨rfl, rfl⟩)
      | (go_at_call 30; refine (HOR.out _ _ (cell_of (heap_alloc_new _ _) 0) (cell_of (heap_alloc_new _ _) 1)).mono ?_; rintro e w' ⟨rfl, rfl⟩))
  go_wp2_with fail
  go_ret
  exact ⟨rfl, 1, _, by rw [HW.out, alloc_eq_grow, alloc_eq_grow, alloc_eq_grow, grow_grow, grow_grow]; rfl⟩
/-- An alarm lies ahead of another. -/
def ltF (f g : Al) : Prop := f.t < g.t ∨ f.t = g.t ∧ f.id < g.id
instance (f g : Al) : Decidable (ltF f g) := by unfold ltF; infer_instance
theorem ltOf_cf (f g : Al) : Go.Proofs.ltOf cf f g = decide (ltF f g) := by
  have e : (cf f g < 0) ↔ ltF f g := by
    unfold cf cmpI ltF
    constructor
    · intro h
      split at h <;> split at h <;> first | omega | (split at h <;> omega) | (exfalso; simp_all; done) | (simp_all; omega)
    · intro h
      rcases h with h | ⟨h1, h2⟩
      · simp [h]
      · simp [h1, h2]
  unfold Go.Proofs.ltOf
  simp only [e]
theorem swo_cf : Go.Sort.SWO (Go.Proofs.ltOf cf) where
  irrefl x := by rw [ltOf_cf, decide_eq_false_iff_not]; unfold ltF; omega
  trans x y z h1 h2 := by rw [ltOf_cf, decide_eq_true_eq] at *; unfold ltF at *; omega
  ntrans x y z h1 h2 := by rw [ltOf_cf, decide_eq_false_iff_not] at *; unfold ltF at *; omega
open Go.Sort in
theorem holds_own {w : World} {B g cap n : Nat} {ss : List Al} (hn : ss.length = n) (h : w.ownsRow B 66 2 (.slice (some ⟨g, 0, none⟩) n cap) n (row ss)) : HoldsK Al.cells 2 w g 0 ss.toArray := by
  subst hn
  intro j hj
  have hj' : j < ss.length * 2 := by simpa using hj
  have hd : j / 2 < ss.length := by omega
  rcases h.2 with ⟨h3, h4⟩ | ⟨g', cap', cur, h3, hb, hg, q1, q2, q3, q4⟩
  · cases h3
  · injection h3 with h3 _ h3'
    injection h3 with h3
    injection h3 with h3
    subst h3 h3'
    refine ⟨?_, free_of hg _⟩
    have hr := row_at ss (j / 2) _ (List.getElem?_eq_getElem hd) (j % 2) (by omega)
    rw [show j / 2 * 2 + j % 2 = j by omega] at hr
    rw [Nat.zero_add, cell_of hg, get_flatK _ _ _ j (by simpa using hj'), ← Array.getElem?_toList, ← List.getElem?_take_of_lt hj', q4, hr]
    have e1 : (ss.toArray)[j / 2]! = ss[j / 2] := by simp [hd]
    rw [e1]
    have h4 : j % 2 < 2 := by omega
    rw [List.getElem!_eq_getElem?_getD]
    simp only [Al.cells, Array.getElem?_toList, id]
    rw [Array.getElem?_eq_getElem (by simpa [Al.arr] using h4)]
    rfl
open Go.Sort in
theorem own_sorted {w : World} {B g cap n m : Nat} {ss : List Al} {d' : Array Al} {os : Array Obj} (hn : ss.length = n) (h : w.ownsRow B 66 2 (.slice (some ⟨g, 0, none⟩) n cap) n (row ss)) (hd : d'.size = n) :
    (sortWorldK Al.cells 2 w g 0 m d' os).ownsRow B 66 2 (.slice (some ⟨g, 0, none⟩) n cap) n (row d'.toList) ∧ Below B w (sortWorldK Al.cells 2 w g 0 m d' os) := by
  subst hn
  rcases h.2 with ⟨h3, h4⟩ | ⟨g', cap', cur, h3, hb, hg, q1, q2, q3, q4⟩
  · cases h3
  · injection h3 with h3 _ h3'
    injection h3 with h3
    injection h3 with h3
    subst h3 h3'
    have hgl : g < w.heap.size := (Array.getElem?_eq_some_iff.1 hg).1
    have hp : (putRowK Al.cells 2 (Go.Sort.ahead w m) g 0 d').heap[g]? = some (.cells (putCells id 0 (flatK Al.cells 2 d') cur) 66 (0, 0)) := by
      unfold putRowK putRow mapBlock
      simp only [Array.getElem?_modify, if_true]
      rw [show (Go.Sort.ahead w m).heap[g]? = w.heap[g]? from rfl, hg]
      rfl
    have hs : (sortWorldK Al.cells 2 w g 0 m d' os).heap[g]? = some (.cells (putCells id 0 (flatK Al.cells 2 d') cur) 66 (0, 0)) := by
      unfold sortWorldK grow
      show ((putRowK Al.cells 2 (Go.Sort.ahead w m) g 0 d').heap ++ os)[g]? = _
      rw [Array.getElem?_append_left (Array.getElem?_eq_some_iff.1 hp).1]
      exact hp
    have hsz : (putRowK Al.cells 2 (Go.Sort.ahead w m) g 0 d').heap.size = w.heap.size := by
      unfold putRowK putRow mapBlock
      simp [Go.Sort.ahead]
    have hrl : (row d'.toList).length = ss.length * 2 := by rw [row_len, Array.length_toList, hd]
    refine ⟨⟨hrl, .inr ⟨g, cap, _, rfl, hb, hs, q1, q2, by simp [putCells, q3], ?_⟩⟩, ⟨rfl, rfl, rfl, ?_, fun k hk => ?_⟩⟩
    · apply List.ext_getElem?
      intro t
      by_cases ht : t < ss.length * 2
      · have hcur : t < cur.size := by rw [q3]; exact Nat.lt_of_lt_of_le ht (Nat.mul_le_mul_right 2 q1)
        rw [List.getElem?_take_of_lt ht, Array.getElem?_toList]
        unfold putCells
        rw [Array.getElem?_mapIdx, Array.getElem?_eq_getElem hcur]
        simp only [Option.map_some, size_flatK, hd]
        rw [if_pos ⟨Nat.zero_le _, by omega⟩, Nat.sub_zero, get_flatK _ _ _ t (by rw [hd]; exact ht)]
        have hdl : t / 2 < d'.toList.length := by rw [Array.length_toList, hd]; omega
        have hr := row_at d'.toList (t / 2) _ (List.getElem?_eq_getElem hdl) (t % 2) (by omega)
        rw [show t / 2 * 2 + t % 2 = t by omega] at hr
        rw [hr]
        have e1 : d'[t / 2]! = d'.toList[t / 2] := by
          rw [getElem!_pos d' (t / 2) (by rw [hd]; omega)]
          simp
        rw [e1]
        have h4 : t % 2 < 2 := by omega
        rw [List.getElem!_eq_getElem?_getD]
        simp only [Al.cells, Array.getElem?_toList, id]
        rw [Array.getElem?_eq_getElem (by simpa [Al.arr] using h4)]
        rfl
      · rw [List.getElem?_eq_none (by rw [List.length_take]; omega), List.getElem?_eq_none (by omega)]
    · unfold sortWorldK grow
      show w.heap.size ≤ ((putRowK Al.cells 2 (Go.Sort.ahead w m) g 0 d').heap ++ os).size
      rw [Array.size_append, hsz]
      omega
    · unfold sortWorldK grow
      show ((putRowK Al.cells 2 (Go.Sort.ahead w m) g 0 d').heap ++ os)[k]? = w.heap[k]?
      rw [Array.getElem?_append_left (by rw [hsz]; omega)]
      unfold putRowK putRow mapBlock
      simp only [Array.getElem?_modify, if_neg (show ¬ g = k by omega)]
      rfl
/-- In order. -/
structure Srt (L S : List Al) : Prop where
  perm : S.Perm L
  srt : S.Pairwise ltF
theorem ltF_irrefl (f : Al) : ¬ ltF f f := by unfold ltF; omega
theorem ltF_asymm {f g : Al} (h : ltF f g) : ¬ ltF g f := by unfold ltF at *; omega
theorem ltF_trans {f g k : Al} (h : ltF f g) (h2 : ltF g k) : ltF f k := by unfold ltF at *; omega
theorem ltF_tri {f g : Al} (h : f.id ≠ g.id) : ltF f g ∨ ltF g f := by
  unfold ltF
  omega
theorem Srt.uniq {L S T : List Al} (h : Srt L S) (k : Srt L T) : S = T :=
  List.Perm.eq_of_pairwise (le := ltF) (fun a b _ _ h1 h2 => absurd h2 (ltF_asymm h1)) h.srt k.srt (h.perm.trans k.perm.symm)
theorem Srt.als {L S : List Al} (h : Srt L S) (hL : Als L) : Als S :=
  ⟨fun f hf => hL.1 f (h.perm.subset hf), (h.perm.pairwise_iff (fun {a b} q => q.symm)).2 hL.2⟩
open Go.Sort in
theorem sort_any {w : World} {B g cap n : Nat} {ss : List Al} (hn : ss.length = n) (h : w.ownsRow B 66 2 (.slice (some ⟨g, 0, none⟩) n cap) n (row ss)) (hs : Als ss) (hB : n ≤ 100000) :
    Calls Try.prog 28 #[.slice (some ⟨g, 0, none⟩) n cap, .func (.func 29) #[] #[]] w fun e w' => e = .returned (.tuple #[]) ∧ ∃ S, Srt ss S ∧ w'.ownsRow B 66 2 (.slice (some ⟨g, 0, none⟩) n cap) n (row S) ∧ Below B w w' := by
  have hg : g < w.heap.size := (row_lt h rfl).1
  have hcon := AnyQ.slices_SortFunc Try.sortAl 2 Try.isAgg66 Try.sizeOf66 Al.cells Al.len (fun x v hv => one_row [x] v (by simpa [row] using hv)) cf swo_cf 29 #[] g 0 cap ss.toArray w (enters_of Try.func29 (by kernel_rfl) rfl)
    (fun m os dk hdk x y => closure29 x y _) (holds_own hn h) hg (by simp; omega)
  change Calls Try.prog 28 _ _ _ at hcon
  rw [show ss.toArray.size = n from by simpa using hn] at hcon
  refine hcon.mono ?_
  rintro e w' ⟨rfl, d', m, os, hp, hsrt, rfl⟩
  obtain ⟨p1, p2, p3⟩ := hp
  have hdn : d'.size = n := by rw [p1]; simpa using hn
  obtain ⟨ho, hb⟩ := own_sorted (m := m) (os := os) hn h hdn
  have hperm : d'.toList.Perm ss := by
    have e1 : (d'.extract 0 n).toList = d'.toList := by rw [← hdn]; simp
    have e2 : (ss.toArray.extract 0 n).toList = ss := by rw [← hn]; simp
    rw [e1, e2] at p3
    exact p3
  refine ⟨rfl, d'.toList, ⟨hperm, ?_⟩, ho, hb⟩
  have hdis : d'.toList.Pairwise (fun f g => f.id ≠ g.id) := (hperm.pairwise_iff (fun {a b} q => q.symm)).2 hs.2
  rw [List.pairwise_iff_getElem] at hdis ⊢
  intro i j hi hj hij
  have h1 := hsrt i j (Nat.zero_le _) hij (by rw [← hdn]; simpa using hj)
  rw [ltOf_cf, decide_eq_false_iff_not] at h1
  rw [getElem!_pos d' j (by simpa using hj), getElem!_pos d' i (by simpa using hi)] at h1
  rcases ltF_tri (hdis i j hi hj hij) with q | q
  · exact q
  · exact absurd (by simpa using q) h1
end Go.Proofs.Ytdebaoimhijnkaa
