/- A region that draws its order, where two operations that write may come in either order: a plan with two ways. -/
import Derived.Test.YtdebaoimhijnkaaOrd
set_option linter.unusedVariables false
namespace Go.Proofs.Ytdebaoimhijnkaa
open Go Go.RowKit
/-- The prover's plan: what is quiet, then one that writes, or either of two. -/
inductive Plan where
  | fin (q : List Nat)
  | step (q : List Nat) (n : Nat) (p : Plan)
  | both (q : List Nat) (n1 : Nat) (p1 : Plan) (n2 : Nat) (p2 : Plan)
def Plan.size : Plan → Nat
  | .fin q => q.length
  | .step q _ p => q.length + (p.size + 1)
  | .both q _ p1 _ _ => q.length + (p1.size + 1)
section
variable {P : Program} {ops : Array Oper} {md : Region.Mode} {S : World → Prop}
def markL : List Nat → Array Bool → Array Bool
  | [], l => l
  | i :: q, l => markL q (l.setIfInBounds i true)
def quietB (md : Region.Mode) (ops : Array Oper) : List Nat → Array Bool → Bool
  | [], _ => true
  | i :: q, l => plainAt ops i && Region.free md ops l i && (Region.ready md ops l).contains i && quietB md ops q (l.setIfInBounds i true)
def planB (md : Region.Mode) (ops : Array Oper) : Plan → Array Bool → Bool
  | .fin q, l => quietB md ops q l && (Region.ready md ops (markL q l)).isEmpty
  | .step q n p, l => quietB md ops q l && decide (Region.ready md ops (markL q l) = [n]) && planB md ops p ((markL q l).setIfInBounds n true)
  | .both q n1 p1 n2 p2, l => quietB md ops q l && decide (Region.ready md ops (markL q l) = [n1, n2]) && decide (p1.size = p2.size) && planB md ops p1 ((markL q l).setIfInBounds n1 true) && planB md ops p2 ((markL q l).setIfInBounds n2 true)
def wpPlan (P : Program) (l : List Oper) (S : World → Prop) (N : Act → World → Prop) : Plan → Act → World → Prop
  | .fin q, a, w => wpQuiet P l.toArray S (fun a' => N a' w) (pickL l q) a
  | .step q n p, a, w => wpQuiet P l.toArray S (fun a' => wpList P l.toArray (Exit.then (fun a2 w2 => Hid (S w2 ∧ wpPlan P l S N p a2 w2)) (only N)) (pickL l [n]) a' w) (pickL l q) a
  | .both q n1 p1 n2 p2, a, w => wpQuiet P l.toArray S (fun a' => Hid (wpList P l.toArray (Exit.then (fun a2 w2 => Hid (S w2 ∧ wpPlan P l S N p1 a2 w2)) (only N)) (pickL l [n1]) a' w ∧
      wpList P l.toArray (Exit.then (fun a2 w2 => Hid (S w2 ∧ wpPlan P l S N p2 a2 w2)) (only N)) (pickL l [n2]) a' w)) (pickL l q) a
theorem held_of_quiet {l : List Oper} {N : Act → World → Prop} {K : Act → Prop} {g : Nat} {w : World} (hsel : Region.noSelect l.toArray = true) (hS : S w) : ∀ (q : List Nat) (listed : Array Bool) (a : Act), quietB md l.toArray q listed = true →
    (∀ a', K a' → wpAnyH P md l.toArray (only N) S g (markL q listed) a' w) → wpQuiet P l.toArray S K (pickL l q) a → wpAnyH P md l.toArray (only N) S (q.length + g) listed a w
  | [], listed, a, _, hK, h => by
    simpa [markL] using hK a h
  | i :: q, listed, a, hB, hK, h => by
    simp only [quietB, Bool.and_eq_true] at hB
    obtain ⟨⟨⟨h1, h2⟩, h3⟩, h4⟩ := hB
    unfold plainAt at h1
    split at h1
    · rename_i o ho
      have hi : l[i]? = some o := by simpa using ho
      have e : pickL l (i :: q) = o :: pickL l q := by simp [pickL, hi]
      rw [e] at h
      have hq : qOp P l.toArray S i (fun a' => wpQuiet P l.toArray S K (pickL l q) a') a := by
        unfold qOp
        simp only [ho]
        unfold wpQuiet at h
        split
        · rename_i hw
          simp only [hw, if_true] at h
          exact h
        · rename_i hw
          simp only [hw] at h
          exact h
      obtain ⟨v, hy, hK2⟩ := yields_of_q ho h1 hq
      have hrec := held_of_quiet hsel hS q _ _ h4 hK hK2
      rw [show (i :: q).length + g = (q.length + g) + 1 by simp; omega]
      exact wpAnyH_take ho hsel h2 h3 (fun _ _ _ q => q) hy hS hrec
    · cases h1
theorem wpOp_of_one {l : List Oper} {N : Act → World → Prop} {n : Nat} {a : Act} {w : World} {K : Act → World → Prop}
    (h : wpList P l.toArray (Exit.then (fun a2 w2 => Hid (K a2 w2)) (only N)) (pickL l [n]) a w) : wpOp P l.toArray (only N) n K a w := by
  unfold wpOp
  cases hn : l[n]? with
  | none =>
    have e : pickL l [n] = [] := by simp [pickL, hn]
    rw [e] at h
    have h'' : Hid (K a w) := h
    simpa [hn] using h''.out
  | some o =>
    have e : pickL l [n] = [o] := by simp [pickL, hn]
    rw [e] at h
    simp only [List.getElem?_toArray, hn]
    unfold wpList at h
    split
    · rename_i hw
      rw [if_pos hw] at h
      rcases h with h | ⟨_, a2, w2, h2⟩
      · exact .inl (Oper.wp_mono (fun a2 w2 q => q.out) (wp_thenN h))
      · exact h2.elim
    · rename_i hw
      rw [if_neg hw] at h
      have h'' : Hid (K (a.put o.dst undef) w) := h
      exact h''.out
theorem held_of_plan {l : List Oper} {N : Act → World → Prop} (hsel : Region.noSelect l.toArray = true) : ∀ (p : Plan) (listed : Array Bool) (a : Act) (w : World), planB md l.toArray p listed = true → S w → wpPlan P l S N p a w →
    wpAnyH P md l.toArray (only N) S p.size listed a w
  | .fin q, listed, a, w, hB, hS, h => by
    simp only [planB, Bool.and_eq_true] at hB
    exact held_of_quiet (g := 0) hsel hS q listed a hB.1 (fun a' h' => wpAnyH_done (by simpa using hB.2) h' _) h
  | .step q n p, listed, a, w, hB, hS, h => by
    simp only [planB, Bool.and_eq_true, decide_eq_true_eq] at hB
    refine held_of_quiet hsel hS q listed a hB.1.1 (fun a' h' => ?_) h
    refine wpAnyH_all hB.1.2 (by simp) fun j hj => ?_
    obtain rfl : j = n := by simpa using hj
    exact wpOp_mono (fun a' w' k => ⟨k.1, held_of_plan hsel p _ a' w' hB.2 k.1 k.2⟩) (wpOp_of_one h')
  | .both q n1 p1 n2 p2, listed, a, w, hB, hS, h => by
    simp only [planB, Bool.and_eq_true, decide_eq_true_eq] at hB
    obtain ⟨⟨⟨⟨b1, b2⟩, b3⟩, b4⟩, b5⟩ := hB
    refine held_of_quiet hsel hS q listed a b1 (fun a' h' => ?_) h
    refine wpAnyH_all b2 (by simp) fun j hj => ?_
    have hj' : j = n1 ∨ j = n2 := by simpa using hj
    rcases hj' with rfl | rfl
    · exact wpOp_mono (fun a' w' k => ⟨k.1, held_of_plan hsel p1 _ a' w' b4 k.1 k.2⟩) (wpOp_of_one h'.out.1)
    · have hs : ∀ a' w', S w' ∧ wpPlan P l S N p2 a' w' → S w' ∧ wpAnyH P md l.toArray (only N) S p1.size ((markL q listed).setIfInBounds j true) a' w' := fun a' w' k => by
        have := held_of_plan hsel p2 _ a' w' b5 k.1 k.2
        rw [← b3] at this
        exact ⟨k.1, this⟩
      exact wpOp_mono hs (wpOp_of_one h'.out.2)
theorem wp_region_plan {id : Nat} {Q : Exit → Act → World → Prop} {a : Act} {w : World} {l : List Oper} (S : World → Prop) (p : Plan) (hm : P.follows .mixedOrders = true)
    (hB : (Region.noSelect l.toArray && decide (p.size = l.toArray.size) && planB .any l.toArray p (Array.replicate l.toArray.size false)) = true) (hS : S w.drew)
    (h : wpPlan P l S (fun a w => Q .normal a w) p a w.drew) : (Code.region id l.toArray true).wp P Q a w := by
  simp only [Bool.and_eq_true, decide_eq_true_eq] at hB
  have hh := held_of_plan (md := .any) hB.1.1 p _ a w.drew hB.2 hS h
  rw [hB.1.2] at hh
  refine wp_region_any hm (wpAny_monoQ (fun e a w q => ?_) _ _ _ _ (wpAny_of_held _ _ _ _ hh))
  cases e <;> first | exact q | exact q.elim
theorem plan_fin {l : List Oper} {N : Act → World → Prop} {q : List Nat} {a : Act} {w : World} (qs : List Oper) (hq : pickL l q = qs) (h : wpQuiet P l.toArray S (fun a' => N a' w) qs a) : wpPlan P l S N (.fin q) a w := by
  subst hq
  exact h
theorem plan_step {l : List Oper} {N : Act → World → Prop} {q : List Nat} {n : Nat} {p : Plan} {a : Act} {w : World} (qs os : List Oper) (hq : pickL l q = qs) (ho : pickL l [n] = os)
    (h : wpQuiet P l.toArray S (fun a' => wpList P l.toArray (Exit.then (fun a2 w2 => Hid (S w2 ∧ wpPlan P l S N p a2 w2)) (only N)) os a' w) qs a) : wpPlan P l S N (.step q n p) a w := by
  subst hq ho
  exact h
theorem plan_both {l : List Oper} {N : Act → World → Prop} {q : List Nat} {n1 n2 : Nat} {p1 p2 : Plan} {a : Act} {w : World} (qs o1 o2 : List Oper) (hq : pickL l q = qs) (h1 : pickL l [n1] = o1) (h2 : pickL l [n2] = o2)
    (h : wpQuiet P l.toArray S (fun a' => Hid (wpList P l.toArray (Exit.then (fun a2 w2 => Hid (S w2 ∧ wpPlan P l S N p1 a2 w2)) (only N)) o1 a' w ∧
      wpList P l.toArray (Exit.then (fun a2 w2 => Hid (S w2 ∧ wpPlan P l S N p2 a2 w2)) (only N)) o2 a' w)) qs a) : wpPlan P l S N (.both q n1 p1 n2 p2) a w := by
  subst hq h1 h2
  exact h
end
end Go.Proofs.Ytdebaoimhijnkaa
