/- The plain laws of Tick. -/
import Derived.Test.YtdebaoimhijnkaaSet
set_option linter.unusedVariables false
namespace Go.Proofs.Ytdebaoimhijnkaa
open Go.RowKit Go.Deep Go.BigFrame
/-- What is due. -/
def dueL (L : List Al) (now : Int) : List Al := L.filter fun a => decide (a.t ≤ now)
/-- What is due, in the first lists. -/
def dueK (L : List Al) (now : Int) (k : Nat) : List Al := L.filter fun a => decide (a.t ≤ now) && decide (slotOf a < k)
theorem dueK_zero (L : List Al) (now : Int) : dueK L now 0 = [] := by
  unfold dueK
  rw [List.filter_eq_nil_iff]
  intro a _
  simp
theorem dueK_succ (L : List Al) (now : Int) (k : Nat) : (dueK L now k ++ dueL (atSlot L k) now).Perm (dueK L now (k + 1)) := by
  unfold dueK dueL atSlot
  induction L with
  | nil => exact List.Perm.refl _
  | cons a r ih =>
    by_cases h1 : a.t ≤ now
    · rcases Nat.lt_trichotomy (slotOf a) k with h2 | h2 | h2
      · rw [List.filter_cons_of_pos (by simp [h1, h2]), List.filter_cons_of_neg (a := a) (l := r) (p := fun a : Al => decide (slotOf a = k)) (by simp; omega), List.filter_cons_of_pos (p := fun a : Al => decide (a.t ≤ now) && decide (slotOf a < k + 1)) (by simp [h1]; omega)]
        exact ih.cons a
      · rw [List.filter_cons_of_neg (p := fun a : Al => decide (a.t ≤ now) && decide (slotOf a < k)) (by simp; omega), List.filter_cons_of_pos (a := a) (l := r) (p := fun a : Al => decide (slotOf a = k)) (by simpa using h2), List.filter_cons_of_pos (p := fun a : Al => decide (a.t ≤ now)) (by simpa using h1), List.filter_cons_of_pos (p := fun a : Al => decide (a.t ≤ now) && decide (slotOf a < k + 1)) (by simp [h1]; omega)]
        exact List.perm_middle.trans (ih.cons a)
      · rw [List.filter_cons_of_neg (p := fun a : Al => decide (a.t ≤ now) && decide (slotOf a < k)) (by simp; omega), List.filter_cons_of_neg (a := a) (l := r) (p := fun a : Al => decide (slotOf a = k)) (by simp; omega), List.filter_cons_of_neg (p := fun a : Al => decide (a.t ≤ now) && decide (slotOf a < k + 1)) (by simp; omega)]
        exact ih
    · rw [List.filter_cons_of_neg (p := fun a : Al => decide (a.t ≤ now) && decide (slotOf a < k)) (by simp [h1]), List.filter_cons_of_neg (p := fun a : Al => decide (a.t ≤ now) && decide (slotOf a < k + 1)) (by simp [h1])]
      by_cases h2 : slotOf a = k
      · rw [List.filter_cons_of_pos (a := a) (l := r) (p := fun a : Al => decide (slotOf a = k)) (by simpa using h2), List.filter_cons_of_neg (p := fun a : Al => decide (a.t ≤ now)) (by simpa using h1)]
        exact ih
      · rw [List.filter_cons_of_neg (a := a) (l := r) (p := fun a : Al => decide (slotOf a = k)) (by simpa using h2)]
        exact ih
theorem dueK_all {L : List Al} (now : Int) (h : ∀ a ∈ L, 0 ≤ a.t) : dueK L now 64 = dueL L now := by
  unfold dueK dueL
  refine List.filter_congr fun a ha => ?_
  have := slot_lt a (h a ha)
  simp [this]
theorem due_perm {L M : List Al} (h : L.Perm M) (now : Int) : (dueL L now).Perm (dueL M now) := h.filter _
theorem due_sub (L : List Al) (now : Int) : (dueL L now).Sublist L := List.filter_sublist
def tickS (s : WS) (now : Int) : WS := ⟨now, s.L.filter fun a => decide (now < a.t)⟩
/-- All of a list taken away. -/
def dropAll (L T : List Al) : List Al := T.foldl (fun L a => dropA L a.id) L
theorem dropAll_eq : ∀ (T L : List Al), dropAll L T = L.filter fun a => decide (∀ z ∈ T, a.id ≠ z.id)
  | [], L => by
    unfold dropAll
    symm
    simp only [List.foldl_nil]
    rw [List.filter_eq_self]
    intro a _
    simp
  | z :: r, L => by
    have := dropAll_eq r (dropA L z.id)
    unfold dropAll at this ⊢
    rw [List.foldl_cons, this]
    unfold dropA
    rw [List.filter_filter]
    congr 1
    funext a
    simp
    exact Bool.and_comm _ _
theorem drop_due {L : List Al} (hd : L.Pairwise (fun a b => a.id ≠ b.id)) (now : Int) : dropAll L (dueL L now) = L.filter fun a => decide (now < a.t) := by
  rw [dropAll_eq]
  refine List.filter_congr fun a ha => ?_
  rw [decide_eq_decide]
  constructor
  · intro h
    by_cases q : a.t ≤ now
    · exact absurd rfl (h a (by unfold dueL; rw [List.mem_filter]; exact ⟨ha, by simpa using q⟩))
    · omega
  · intro h z hz e
    unfold dueL at hz
    rw [List.mem_filter] at hz
    have h1 := findA_mem hd ha
    rw [e, findA_mem hd hz.1] at h1
    injection h1 with h1
    subst h1
    have := hz.2
    simp at this
    omega
theorem dropAll_sub : ∀ (T L : List Al), (dropAll L T).Sublist L := fun T L => by
  rw [dropAll_eq]
  exact List.filter_sublist
theorem dropAll_take {L T : List Al} {j : Nat} {a : Al} (h : T[j]? = some a) : dropAll L (T.take (j + 1)) = dropA (dropAll L (T.take j)) a.id := by
  unfold dropAll
  rw [List.take_add_one, h, List.foldl_append]
  rfl
theorem takeOk {s : WS} (h : s.Ok) (T : List Al) : (⟨s.now, dropAll s.L T⟩ : WS).Ok :=
  ⟨⟨fun a ha => h.als.1 a ((dropAll_sub _ _).subset ha), h.als.2.sublist (dropAll_sub _ _)⟩, h.srt.sublist (dropAll_sub _ _), h.now0, h.nowM, fun a ha => h.tM a ((dropAll_sub _ _).subset ha)⟩
theorem tickS_ok {s : WS} (h : s.Ok) {now : Int} (h0 : s.now ≤ now) (hM : now ≤ 1099511627776) : (tickS s now).Ok :=
  ⟨⟨fun a ha => h.als.1 a (List.filter_sublist.subset ha), h.als.2.sublist List.filter_sublist⟩, h.srt.sublist List.filter_sublist, Int.le_trans h.now0 h0, hM, fun a ha => h.tM a (List.filter_sublist.subset ha)⟩
theorem due_srt {s : WS} (h : s.Ok) (now : Int) {D T : List Al} (hD : D.Perm (dueL s.L now)) (hT : Srt D T) : T = dueL s.L now :=
  Srt.uniq (L := dueL s.L now) ⟨hT.perm.trans hD, hT.srt⟩ ⟨List.Perm.refl _, h.srt.sublist (due_sub _ _)⟩
/-- The clock is set. -/
theorem Wh.setNow {w : World} {g b nn : Nat} {s : WS} (h : Wh w g b nn s) {now : Int} (h0 : s.now ≤ now) (hM : now ≤ 1099511627776) : Wh (w.setCell ⟨g, 0, none⟩ (.int .u64 now)) g b nn ⟨now, s.L⟩ := by
  obtain ⟨cs, q1, q2, q3, q4, q5⟩ := h.heap
  have hT : Turns (Two g b) w (w.setCell ⟨g, 0, none⟩ (.int .u64 now)) := Turns.step (Turns.refl _ w) (grown_setCell _ _ _ _) (fun j e => by injection e with e; exact .inl (.inl e.symm))
  have hap := h.apart hT
  refine ⟨⟨_, heap_set q1 _, by simpa using q2, ?_, ?_, fun k hk => ?_⟩, h.map.keptE ((grown_setCell w g 0 (.int .u64 now)).block b h.blt (by simpa using (fun e => h.gb e.symm))), ⟨h.ok.als, h.ok.srt, Int.le_trans h.ok.now0 h0, hM, h.ok.tM⟩, h.len⟩
  · rw [Array.getElem?_setIfInBounds_self_of_lt (by omega)]
  · rw [Array.getElem?_setIfInBounds_ne (by decide)]
    exact q4
  · rw [Array.getElem?_setIfInBounds_ne (by omega)]
    exact (q5 k hk).keptE hT.size hap
/-- A row of another type is not touched by a wheel. -/
theorem own_turns {w w' : World} {g b nn : Nat} {s : WS} {B e z n c m : Nat} {A : Option Addr} {xs : List Value} (h : Wh w g b nn s) (hT : Turns (Two g b) w w') (he : e ≠ 54) (ho : w.ownsRow B e z (.slice A n c) m xs) : w'.ownsRow B e z (.slice A n c) m xs := by
  refine row_keptE ho fun j ej => ?_
  obtain ⟨hl, cs, fr, hc⟩ := row_lt ho ej
  obtain ⟨cg, h1, _⟩ := h.heap
  obtain ⟨es, ck, h2⟩ := h.map.isMap
  refine hT.block j hl ?_
  rintro (q | q)
  · subst q
    rw [h1] at hc
    injection hc with hc
    injection hc with _ hc _
    exact he hc.symm
  · subst q
    rw [h2] at hc
    cases hc
/-- A wheel stays where a row of instants or ids grows. -/
theorem Wh.grown {w w' : World} {g b nn : Nat} {s : WS} {B e z n : Nat} {v : Value} {xs : List Value} (h : Wh w g b nn s) (ho : w.ownsRow B e z v n xs) (he : e ≠ 54) (he2 : e ≠ 66) (hg : w.grownBy w' v.ownBlock) : Wh w' g b nn s := by
  obtain ⟨A, c, rfl⟩ := own_len ho
  have key : ∀ k, k < w.heap.size → (∀ cs fr, w.heap[k]? = some (.cells cs e fr) → False) → w'.heap[k]? = w.heap[k]? := by
    intro k hk hne
    refine hg.block k hk ?_
    intro q
    obtain ⟨j, hj⟩ : ∃ j, A = some ⟨j, 0, none⟩ ∧ k = j := by
      rcases ho.2 with ⟨h0, _⟩ | ⟨r, cap, cur, h0, _⟩
      · injection h0 with h0 _ _
        subst h0
        simp [Value.ownBlock] at q
      · injection h0 with h0 _ _
        subst h0
        simp [Value.ownBlock] at q
        exact ⟨r, rfl, q⟩
    obtain ⟨hl, cs, fr, hc⟩ := row_lt ho hj.1
    rw [hj.2] at hne
    exact hne cs fr hc
  obtain ⟨cg, h1, _⟩ := h.heap
  obtain ⟨es, ck, h2⟩ := h.map.isMap
  refine h.keptE hg.size (key g h.glt fun cs fr hc => ?_) (key b h.blt fun cs fr hc => ?_) (fun k hk ⟨cs2, fr2, hc2⟩ => key k hk fun cs fr hc => ?_)
  · rw [h1] at hc
    injection hc with hc
    injection hc with _ hc _
    exact he hc.symm
  · rw [h2] at hc
    cases hc
  · rw [hc2] at hc
    injection hc with hc
    injection hc with _ hc _
    exact he2 hc.symm
end Go.Proofs.Ytdebaoimhijnkaa
