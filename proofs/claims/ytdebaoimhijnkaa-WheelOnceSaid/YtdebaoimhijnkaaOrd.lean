/- A region that draws its order: what only reads is taken in an order of the prover's; the operations that write stand in a chain: one walk. -/
import Derived.OrdersHeld
import Derived.Deep.Quiet
import Derived.KernelRfl
import Derived.Lib.Hide
import Derived.Below
set_option linter.unusedVariables false
namespace Go.Proofs.Ytdebaoimhijnkaa
open Go Go.RowKit

section
variable {P : Program} {ops : Array Oper} {md : Region.Mode} {S : World → Prop}
/-- An operation that is no call. -/
def plainOp : Op → Bool
  | .move _ | .assign _ | .pick _ _ _ | .build _ _ | .load _ _ | .binOp _ _ _ _ _ | .unOp _ _ _ | .convert _ _ _ | .slice _ _ _ _ _ | .fieldAddr _ _ _ | .field _ _ _ | .indexAddr _ _ _ | .index _ _ _ | .extract _ _ | .nilCheck _ => true
  | _ => false
theorem andThen_value {s : Sem Value} {n : Next} {w w' : World} (h : ((do pure (Next.value (← s)) : Sem Next)).run P w = .ok n w') : ∃ u, n = .value u := by
  simp only [Sem.run_bind, Sem.run_pure] at h
  generalize s.run P w = r at h
  cases r with
  | ok v w2 => simp [Result.andThen] at h; exact ⟨v, h.1.symm⟩
  | halt x w2 => simp [Result.andThen] at h
theorem nil_value {P : Program} {o : Oper} {x : Operand} (ho : o.op = .nilCheck x) {e : Operand → Value} {n : Next} {w w' : World} (hh : (execOp e o).run P w = .ok n w') : ∃ u, n = .value u := by
  unfold execOp at hh
  simp only [ho] at hh
  generalize e x = v at hh
  have hrp : ∀ {α : Type} (z : α) (w2 : World), (runtimePanic RuntimeError.nilDeref : Sem α).run P w ≠ .ok z w2 := by
    intro α z w2 h
    simp [runtimePanic, Sem.run_bind] at h
  split at hh
  · exact absurd hh (hrp _ _)
  · exact absurd hh (hrp _ _)
  · exact absurd hh (hrp _ _)
  · split at hh
    · exact absurd hh (hrp _ _)
    · simp [Sem.run_bind, Result.andThen, unsupported] at hh
      split at hh
      · split at hh
        · injection hh with hh _
          exact ⟨_, hh.symm⟩
        · cases hh
      · cases hh
    · simp [Sem.run_pure] at hh
      exact ⟨_, hh.1.symm⟩
  · simp [Sem.run_pure] at hh
    exact ⟨_, hh.1.symm⟩
theorem plain_value {o : Oper} (h : plainOp o.op = true) {e : Operand → Value} {n : Next} {w w' : World} (hh : (execOp e o).run P w = .ok n w') : ∃ u, n = .value u := by
  have hh0 := hh
  unfold execOp at hh
  cases ho : o.op <;> rw [ho] at h <;> simp only [plainOp, Bool.false_eq_true] at h <;> simp only [ho] at hh
  case nilCheck x => exact nil_value ho hh0
  case move => simp [Sem.run_pure] at hh; exact ⟨_, hh.1.symm⟩
  case assign => simp [Sem.run_pure] at hh; exact ⟨_, hh.1.symm⟩
  case pick c x y =>
    simp only [Sem.run_bind] at hh
    generalize (asBool (e c)).run P w = r at hh
    cases r with
    | ok v w2 => simp [Result.andThen] at hh; exact ⟨_, hh.1.symm⟩
    | halt x w2 => simp [Result.andThen] at hh
  all_goals exact andThen_value hh
/-- What is quiet, and no call, yields its value in every world of the class. -/
theorem yields_of_q {i : Nat} {o : Oper} {a : Act} {K : Act → Prop} (hi : ops[i]? = some o) (hp : plainOp o.op = true) (h : qOp P ops S i K a) : ∃ v, YieldsIf P ops S o v a ∧ K (a.put o.dst v) := by
  unfold qOp at h
  simp only [hi] at h
  split at h
  · rename_i hw
    obtain ⟨v, h1, h2⟩ := h
    by_cases hv : ∀ w, S w → (execOp a.eval o).run P w = .ok (.value v) w
    · exact ⟨v, .inl ⟨hw, hv⟩, h2⟩
    · exfalso
      apply hv
      intro w hw'
      have h3 := h1 w hw'
      unfold Oper.quietAt at h3
      generalize hr : (execOp a.eval o).run P w = r at h3
      cases r with
      | ok n w' =>
        obtain ⟨u, rfl⟩ := plain_value hp hr
        simp only [Oper.quietUpon] at h3
        rw [h3.1, h3.2]
      | halt x w' => simp [Oper.quietUpon] at h3
  · rename_i hw
    exact ⟨undef, .inr ⟨by simpa using hw, rfl⟩, h⟩
/-- Whatever ends otherwise than normally is barred. -/
def only (N : Act → World → Prop) : Exit → Act → World → Prop
  | .normal, a, w => N a w
  | _, _, _ => False
theorem wp_monoQ {o : Oper} {a : Act} {w : World} {K : Act → World → Prop} {Q0 Q : Exit → Act → World → Prop} (hQ : ∀ e a w, Q0 e a w → Q e a w) (h : o.wp P a w K Q0) : o.wp P a w K Q := by
  unfold Oper.wp at *
  generalize (execOp a.eval o).run P w = r at *
  cases r with
  | ok n w' =>
    cases n <;> simp only [Oper.upon] at h ⊢
    case enter f args =>
      refine h.mono fun e w'' hh => ?_
      cases e
      · exact hh
      · exact hQ _ _ _ hh
      · obtain ⟨a2, w2, h2⟩ := hh
        exact ⟨a2, w2, hQ _ _ _ h2⟩
    all_goals first | exact h | exact hQ _ _ _ h
  | halt x w' => cases x <;> first | exact h | exact hQ _ _ _ h
theorem wpOp_monoQ {i : Nat} {a : Act} {w : World} {K : Act → World → Prop} {Q0 Q : Exit → Act → World → Prop} (hQ : ∀ e a w, Q0 e a w → Q e a w) (h : wpOp P ops Q0 i K a w) : wpOp P ops Q i K a w := by
  unfold wpOp at *
  split
  · rename_i ho; simpa [ho] using h
  · rename_i o ho
    simp only [ho] at h
    split
    · rename_i hw
      simp only [hw, if_true] at h
      rcases h with h | ⟨h1, a2, w2, h2⟩
      · exact .inl (wp_monoQ hQ h)
      · exact .inr ⟨h1, a2, w2, hQ _ _ _ h2⟩
    · rename_i hw
      simpa [hw] using h
theorem wpAny_monoQ {Q0 Q : Exit → Act → World → Prop} (hQ : ∀ e a w, Q0 e a w → Q e a w) : ∀ (f : Nat) (listed : Array Bool) (a : Act) (w : World), wpAny P md ops Q0 f listed a w → wpAny P md ops Q f listed a w
  | 0, _, _, _, h => ⟨h.1, hQ _ _ _ h.2⟩
  | f + 1, _, _, _, h => ⟨fun h0 => hQ _ _ _ (h.1 h0), fun i hi => wpOp_monoQ hQ (wpOp_mono (fun a' w' h' => wpAny_monoQ hQ f _ a' w' h') (h.2 i hi))⟩
def plainAt (ops : Array Oper) (i : Nat) : Bool := match ops[i]? with | some o => plainOp o.op | none => false
/-- The prover's order serves: what is quiet may come up and is free; what writes comes up alone. -/
def ordB (md : Region.Mode) (ops : Array Oper) : List (Nat × Bool) → Array Bool → Bool
  | [], listed => (Region.ready md ops listed).isEmpty
  | (i, true) :: r, listed => plainAt ops i && Region.free md ops listed i && (Region.ready md ops listed).contains i && ordB md ops r (listed.setIfInBounds i true)
  | (i, false) :: r, listed => decide (Region.ready md ops listed = [i]) && ordB md ops r (listed.setIfInBounds i true)
def wpOrd (P : Program) (ops : Array Oper) (S : World → Prop) (N : Act → World → Prop) : List (Nat × Bool) → Act → World → Prop
  | [], a, w => N a w
  | (i, true) :: r, a, w => qOp P ops S i (fun a' => wpOrd P ops S N r a' w) a
  | (i, false) :: r, a, w => wpOp P ops (only N) i (fun a' w' => S w' ∧ wpOrd P ops S N r a' w') a w
theorem held_of_ord {N : Act → World → Prop} (hsel : Region.noSelect ops = true) : ∀ (st : List (Nat × Bool)) (listed : Array Bool) (a : Act) (w : World), ordB md ops st listed = true → S w → wpOrd P ops S N st a w →
    wpAnyH P md ops (only N) S st.length listed a w
  | [], listed, a, w, hB, hS, h => wpAnyH_done (by simpa [ordB] using hB) h _
  | (i, true) :: r, listed, a, w, hB, hS, h => by
    simp only [ordB, Bool.and_eq_true] at hB
    obtain ⟨⟨⟨h1, h2⟩, h3⟩, h4⟩ := hB
    unfold plainAt at h1
    split at h1
    · rename_i o ho
      obtain ⟨v, hy, hK⟩ := yields_of_q ho h1 h
      exact wpAnyH_take ho hsel h2 h3 (fun _ _ _ q => q) hy hS (held_of_ord hsel r _ _ w h4 hS hK)
    · cases h1
  | (i, false) :: r, listed, a, w, hB, hS, h => by
    simp only [ordB, Bool.and_eq_true, decide_eq_true_eq] at hB
    refine wpAnyH_all hB.1 (by simp) fun j hj => ?_
    obtain rfl : j = i := by simpa using hj
    exact wpOp_mono (fun a' w' q => ⟨q.1, held_of_ord hsel r _ a' w' hB.2 q.1 q.2⟩) h
def pickL (l : List Oper) (is : List Nat) : List Oper := is.filterMap fun i => l[i]?
/-- By blocks: what is quiet, then one that writes; and so on; what is quiet at the end. -/
def wpBlks (P : Program) (l : List Oper) (S : World → Prop) (N : Act → World → Prop) (fin : List Nat) : List (List Nat × Nat) → Act → World → Prop
  | [], a, w => wpQuiet P l.toArray S (fun a' => N a' w) (pickL l fin) a
  | (q, n) :: r, a, w => wpQuiet P l.toArray S (fun a' => wpList P l.toArray (Exit.then (fun a2 w2 => Hid (S w2 ∧ wpBlks P l S N fin r a2 w2)) (only N)) (pickL l [n]) a' w) (pickL l q) a
def stepsOf (fin : List Nat) : List (List Nat × Nat) → List (Nat × Bool)
  | [] => fin.map fun i => (i, true)
  | (q, n) :: r => (q.map fun i => (i, true)) ++ (n, false) :: stepsOf fin r
theorem ord_of_quiet {l : List Oper} {N : Act → World → Prop} {K : Act → Prop} {rest : List (Nat × Bool)} {w : World} (hK : ∀ a, K a → wpOrd P l.toArray S N rest a w) : ∀ (q : List Nat) (a : Act), wpQuiet P l.toArray S K (pickL l q) a →
    wpOrd P l.toArray S N ((q.map fun i => (i, true)) ++ rest) a w
  | [], a, h => hK a h
  | i :: q, a, h => by
    simp only [List.map_cons, List.cons_append, wpOrd]
    unfold qOp
    cases hi : l[i]? with
    | none =>
      have e : pickL l (i :: q) = pickL l q := by simp [pickL, hi]
      rw [e] at h
      simpa [hi] using ord_of_quiet hK q a h
    | some o =>
      have e : pickL l (i :: q) = o :: pickL l q := by simp [pickL, hi]
      rw [e] at h
      unfold wpQuiet at h
      simp only [List.getElem?_toArray, hi]
      split
      · rename_i hw
        simp only [hw, if_true] at h
        exact Oper.quiet_mono (fun a' h' => ord_of_quiet hK q a' h') h
      · rename_i hw
        simp only [hw] at h
        exact ord_of_quiet hK q _ h
theorem wp_thenN {o : Oper} {a : Act} {w : World} {K : Act → World → Prop} {Q : Exit → Act → World → Prop} (h : o.wp P a w (fun a' w' => Exit.then K Q .normal a' w') (Exit.then K Q)) : o.wp P a w K Q := by
  unfold Oper.wp at *
  generalize (execOp a.eval o).run P w = r at *
  cases r with
  | ok n w' =>
    cases n <;> simp only [Oper.upon] at h ⊢
    case enter f args =>
      refine h.mono fun e w'' hh => ?_
      cases e <;> exact hh
    all_goals exact h
  | halt x w' => cases x <;> exact h
theorem ord_of_blks {l : List Oper} {N : Act → World → Prop} {fin : List Nat} : ∀ (bs : List (List Nat × Nat)) (a : Act) (w : World), wpBlks P l S N fin bs a w → wpOrd P l.toArray S N (stepsOf fin bs) a w
  | [], a, w, h => by
    have := ord_of_quiet (rest := []) (N := N) (w := w) (fun a' h' => h') fin a h
    simpa [stepsOf] using this
  | (q, n) :: r, a, w, h => by
    refine ord_of_quiet (K := _) (fun a' h' => ?_) q a h
    simp only [wpOrd]
    unfold wpOp
    cases hn : l[n]? with
    | none =>
      have e : pickL l [n] = [] := by simp [pickL, hn]
      rw [e] at h'
      have h'' : Hid (S w ∧ wpBlks P l S N fin r a' w) := h'
      simpa [hn] using And.intro h''.out.1 (ord_of_blks r a' w h''.out.2)
    | some o =>
      have e : pickL l [n] = [o] := by simp [pickL, hn]
      rw [e] at h'
      simp only [List.getElem?_toArray, hn]
      unfold wpList at h'
      split
      · rename_i hw
        rw [if_pos hw] at h'
        rcases h' with h' | ⟨_, a2, w2, h2⟩
        · exact .inl (Oper.wp_mono (fun a2 w2 q => ⟨q.out.1, ord_of_blks r a2 w2 q.out.2⟩) (wp_thenN h'))
        · exact h2.elim
      · rename_i hw
        rw [if_neg hw] at h'
        have h'' : Hid (S w ∧ wpBlks P l S N fin r (a'.put o.dst undef) w) := h'
        exact ⟨h''.out.1, ord_of_blks r _ w h''.out.2⟩
theorem wp_region_ord {id : Nat} {Q : Exit → Act → World → Prop} {a : Act} {w : World} {l : List Oper} (S : World → Prop) (bs : List (List Nat × Nat)) (fin : List Nat) (hm : P.follows .mixedOrders = true)
    (hB : (Region.noSelect l.toArray && decide ((stepsOf fin bs).length = l.toArray.size) && ordB .any l.toArray (stepsOf fin bs) (Array.replicate l.toArray.size false)) = true) (hS : S w.drew)
    (h : wpBlks P l S (fun a w => Q .normal a w) fin bs a w.drew) : (Code.region id l.toArray true).wp P Q a w := by
  simp only [Bool.and_eq_true, decide_eq_true_eq] at hB
  have hh := held_of_ord (md := .any) hB.1.1 (stepsOf fin bs) _ a w.drew hB.2 hS (ord_of_blks bs a _ h)
  rw [hB.1.2] at hh
  refine wp_region_any hm (wpAny_monoQ (fun e a w q => ?_) _ _ _ _ (wpAny_of_held _ _ _ _ hh))
  cases e <;> first | exact q | exact q.elim
end
end Go.Proofs.Ytdebaoimhijnkaa
