/- The plain laws of ForwardLess. -/
import Derived.Test.YthlohgldcnicbaaBackLaw
set_option linter.unusedVariables false
namespace Go.Proofs.Ythlohgldcnicbaa
open Go.RowKit Go.Deep Go.BigFrame
theorem may_parts {c : Cfg} {L : List Fw} : mayF c L = true ↔ L.length ≤ 64 ∧ (∀ f ∈ L, fwOk c f = true) ∧ L.Pairwise (fun f g => f.door ≠ g.door) := by
  unfold mayF disB
  simp only [Bool.and_eq_true, decide_eq_true_eq, List.all_eq_true, and_assoc]
theorem may_sub {c : Cfg} {L M : List Fw} (h : M.Sublist L) (hm : mayF c L = true) : mayF c M = true := by
  rw [may_parts] at *
  exact ⟨Nat.le_trans h.length_le hm.1, fun f hf => hm.2.1 f (h.subset hf), hm.2.2.sublist h⟩
theorem may_perm {c : Cfg} {L M : List Fw} (h : M.Perm L) (hm : mayF c L = true) : mayF c M = true := by
  rw [may_parts] at *
  exact ⟨by rw [h.length_eq]; exact hm.1, fun f hf => hm.2.1 f (h.subset hf), (h.pairwise_iff (fun {a b} q => q.symm)).2 hm.2.2⟩
/-- A list with number k taken away. -/
def lessL (L : List Fw) (k : Nat) : List Fw := L.take k ++ L.drop (k + 1)
/-- A list turned. -/
def turnL (L : List Fw) (k : Nat) : List Fw := L.drop k ++ L.take k
theorem less_sub (L : List Fw) (k : Nat) : (lessL L k).Sublist L := by
  have h : (L.take k ++ L.drop (k + 1)).Sublist (L.take k ++ L.drop k) := by
    refine List.Sublist.append (List.Sublist.refl _) ?_
    rw [← List.drop_drop]
    exact List.drop_sublist _ _
  rw [List.take_append_drop] at h
  exact h
theorem turn_perm (L : List Fw) (k : Nat) : (turnL L k).Perm L := by
  have h : (L.drop k ++ L.take k).Perm (L.take k ++ L.drop k) := List.perm_append_comm
  rwa [List.take_append_drop] at h
theorem less_len {L : List Fw} {k : Nat} (hk : k < L.length) : (lessL L k).length = L.length - 1 := by
  unfold lessL
  rw [List.length_append, List.length_take, List.length_drop]
  omega
theorem turn_len (L : List Fw) (k : Nat) : (turnL L k).length = L.length := (turn_perm L k).length_eq
theorem find_mem {L : List Fw} (hd : L.Pairwise (fun f g => f.door ≠ g.door)) {f : Fw} (hf : f ∈ L) : findD L f.door = some f := by
  obtain ⟨k, hk⟩ := List.getElem?_of_mem hf
  refine findD_hit hk rfl fun j g hj hg e => ?_
  rw [List.pairwise_iff_getElem] at hd
  obtain ⟨h1, e1⟩ := List.getElem?_eq_some_iff.1 hk
  obtain ⟨h2, e2⟩ := List.getElem?_eq_some_iff.1 hg
  have := hd j k h2 h1 hj
  rw [e1, e2] at this
  exact this e
theorem less_mem {L : List Fw} {k i : Nat} {f : Fw} (hf : L[i]? = some f) (h : i ≠ k) : f ∈ lessL L k := by
  unfold lessL
  rw [List.mem_append]
  rcases Nat.lt_or_ge i k with r | r
  · left
    exact List.mem_of_getElem? (i := i) (by rw [List.getElem?_take_of_lt r]; exact hf)
  · right
    refine List.mem_of_getElem? (i := i - (k + 1)) ?_
    rw [List.getElem?_drop, show k + 1 + (i - (k + 1)) = i by omega]
    exact hf
theorem less_find {c : Cfg} {L : List Fw} {k i : Nat} {f : Fw} (hm : mayF c L = true) (hf : L[i]? = some f) (h : i ≠ k) : findD (lessL L k) f.door = some f :=
  find_mem (may_parts.1 (may_sub (less_sub L k) hm)).2.2 (less_mem hf h)
theorem less_gone {c : Cfg} {L : List Fw} {k : Nat} {f : Fw} (hm : mayF c L = true) (hf : L[k]? = some f) : findD (lessL L k) f.door = none := by
  have hd := (may_parts.1 hm).2.2
  rw [List.pairwise_iff_getElem] at hd
  obtain ⟨h1, e1⟩ := List.getElem?_eq_some_iff.1 hf
  unfold findD
  rw [List.find?_eq_none]
  intro g hg
  unfold lessL at hg
  rw [List.mem_append] at hg
  rcases hg with hg | hg
  · obtain ⟨j, hj⟩ := List.getElem?_of_mem hg
    rcases Nat.lt_or_ge j k with r | r
    · rw [List.getElem?_take_of_lt r] at hj
      obtain ⟨h2, e2⟩ := List.getElem?_eq_some_iff.1 hj
      have := hd j k h2 h1 r
      rw [e1, e2] at this
      simpa using this
    · rw [List.getElem?_eq_none (by rw [List.length_take]; omega)] at hj
      cases hj
  · obtain ⟨j, hj⟩ := List.getElem?_of_mem hg
    rw [List.getElem?_drop] at hj
    obtain ⟨h2, e2⟩ := List.getElem?_eq_some_iff.1 hj
    have := hd k (k + 1 + j) h1 h2 (by omega)
    rw [e1, e2] at this
    simpa using fun e => this e.symm
theorem turn_find {c : Cfg} {L : List Fw} {k i : Nat} {f : Fw} (hm : mayF c L = true) (hf : L[i]? = some f) : findD (turnL L k) f.door = some f :=
  find_mem (may_parts.1 (may_perm (turn_perm L k) hm)).2.2 ((turn_perm L k).mem_iff.2 (List.mem_of_getElem? hf))
theorem twice_no {c : Cfg} {L : List Fw} {k : Nat} {f : Fw} (hf : L[k]? = some f) : mayF c (L ++ [f]) = false := by
  cases h : mayF c (L ++ [f]) with
  | false => rfl
  | true =>
    have hd := (may_parts.1 h).2.2
    rw [List.pairwise_append] at hd
    exact absurd rfl (hd.2.2 f (List.mem_of_getElem? hf) f (by simp))
theorem turn_srt {L S T : List Fw} {k : Nat} (h : Srt (turnL L k) S) (h' : Srt L T) : S = T :=
  Srt.uniq (L := L) ⟨h.perm.trans (turn_perm L k), h.srt⟩ h'
end Go.Proofs.Ythlohgldcnicbaa
