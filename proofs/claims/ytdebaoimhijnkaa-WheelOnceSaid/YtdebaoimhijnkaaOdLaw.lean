/- The plain laws of WheelOrder. -/
import Derived.Test.YtdebaoimhijnkaaArgs
set_option linter.unusedVariables false
namespace Go.Proofs.Ytdebaoimhijnkaa
open Go.RowKit Go.Deep Go.BigFrame
theorem set_permG {s : WS} {M : List Al} (hs : s.L.Perm M) {id : Int} (hm : ∀ a ∈ M, a.id ≠ id) (t : Int) : (setS s id t).L.Perm (M ++ [⟨id, t⟩]) := by
  show (insL (dropA s.L id) ⟨id, t⟩).Perm _
  have e : dropA s.L id = s.L := by
    unfold dropA
    rw [List.filter_eq_self]
    intro a ha
    simpa using hm a (hs.subset ha)
  rw [e]
  refine (ins_perm _ _).trans ?_
  exact (hs.cons _).trans (List.perm_append_comm (l₁ := [(⟨id, t⟩ : Al)]))
/-- From the end. -/
def alr (ts : List Int) (m i : Nat) : List Al := (List.range i).map fun (j : Nat) => (⟨((m - 1 - j : Nat) : Int), ts.getD (m - 1 - j) 0⟩ : Al)
theorem alr_succ (ts : List Int) (m i : Nat) : alr ts m (i + 1) = alr ts m i ++ [⟨((m - 1 - i : Nat) : Int), ts.getD (m - 1 - i) 0⟩] := by
  unfold alr
  rw [List.range_succ, List.map_append]
  rfl
theorem alr_mem {ts : List Int} {m i : Nat} {a : Al} : a ∈ alr ts m i ↔ ∃ j : Nat, j < i ∧ a = ⟨((m - 1 - j : Nat) : Int), ts.getD (m - 1 - j) 0⟩ := by
  unfold alr
  rw [List.mem_map]
  constructor
  · rintro ⟨j, hj, rfl⟩
    exact ⟨j, List.mem_range.1 hj, rfl⟩
  · rintro ⟨j, hj, rfl⟩
    exact ⟨j, List.mem_range.2 hj, rfl⟩
theorem alr_new {ts : List Int} {m i : Nat} (hi : i < m) : ∀ a ∈ alr ts m i, a.id ≠ ((m - 1 - i : Nat) : Int) := fun a ha => by
  obtain ⟨j, hj, rfl⟩ := alr_mem.1 ha
  simp
  omega
theorem al_ne {ts : List Int} {i : Nat} : ∀ a ∈ al ts i, a.id ≠ (i : Int) := fun a ha => by
  obtain ⟨j, hj, rfl⟩ := al_mem.1 ha
  simp
  omega
theorem both_same {s t : WS} (hs : s.Ok) (ht : t.Ok) {ts : List Int} {m : Nat} (p : s.L.Perm (al ts m)) (q : t.L.Perm (alr ts m m)) : s.L = t.L := by
  refine same_srt hs.srt ht.srt (List.Perm.refl _) ?_
  refine (List.perm_ext_iff_of_nodup ht.als.nodup hs.als.nodup).2 fun a => ?_
  rw [p.mem_iff, q.mem_iff, al_mem, alr_mem]
  constructor
  · rintro ⟨j, hj, rfl⟩
    exact ⟨m - 1 - j, by omega, rfl⟩
  · rintro ⟨j, hj, rfl⟩
    refine ⟨m - 1 - j, by omega, ?_⟩
    rw [show m - 1 - (m - 1 - j) = j by omega]
theorem drop_drop (L : List Al) (id : Int) : dropA (dropA L id) id = dropA L id := by
  unfold dropA
  rw [List.filter_filter]
  simp
/-- What is still to come behind an instant. -/
def lateL (L : List Al) (t : Int) : List Al := L.filter fun a => decide (t < a.t)
theorem late_late (L : List Al) {t u : Int} (h : t ≤ u) : ((lateL L t).filter fun a => decide (u < a.t)) = lateL L u := by
  unfold lateL
  rw [List.filter_filter]
  refine List.filter_congr fun a _ => ?_
  by_cases q : u < a.t
  · simp [q]; omega
  · simp [q]
theorem late_start {L : List Al} {t : Int} (h : ∀ a ∈ L, t < a.t) : lateL L t = L := by
  unfold lateL
  rw [List.filter_eq_self]
  intro a ha
  simpa using h a ha
theorem late_end {L : List Al} {t : Int} (h : ∀ a ∈ L, a.t ≤ t) : lateL L t = [] := by
  unfold lateL
  rw [List.filter_eq_nil_iff]
  intro a ha
  have := h a ha
  simp
  omega
/-- What a Tick tells, with one alarm more. -/
theorem win_ins {S C : List Al} {id g lo hi : Int} (hp : C.Perm (⟨id, g⟩ :: S)) (hn : ∀ a ∈ S, a.id ≠ id) :
    (id ∈ (dueL (lateL C lo) hi).map Al.id ↔ (lo < g ∧ g ≤ hi)) ∧ (¬ (lo < g ∧ g ≤ hi) → (dueL (lateL C lo) hi).length = (dueL (lateL S lo) hi).length) := by
  constructor
  · rw [List.mem_map]
    constructor
    · rintro ⟨a, ha, hid⟩
      unfold dueL lateL at ha
      rw [List.mem_filter, List.mem_filter] at ha
      rcases List.mem_cons.1 (hp.mem_iff.1 ha.1.1) with rfl | hs
      · have h1 := ha.1.2
        have h2 := ha.2
        simp at h1 h2
        exact ⟨h1, h2⟩
      · exact absurd hid (hn a hs)
    · rintro ⟨h1, h2⟩
      refine ⟨⟨id, g⟩, ?_, rfl⟩
      unfold dueL lateL
      rw [List.mem_filter, List.mem_filter]
      exact ⟨⟨hp.mem_iff.2 List.mem_cons_self, by simpa using h1⟩, by simpa using h2⟩
  · intro h
    have : (dueL (lateL C lo) hi).Perm (dueL (lateL (⟨id, g⟩ :: S) lo) hi) := (hp.filter _).filter _
    rw [this.length_eq]
    unfold dueL lateL
    rw [List.filter_filter, List.filter_filter, List.filter_cons_of_neg]
    simp
    omega
end Go.Proofs.Ytdebaoimhijnkaa
