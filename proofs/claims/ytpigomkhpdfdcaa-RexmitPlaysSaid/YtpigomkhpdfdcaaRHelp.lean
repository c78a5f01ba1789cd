/- Small laws for the reference's loops. -/
import Derived.Test.YtpigomkhpdfdcaaRTick0
set_option linter.unusedVariables false
namespace Go.Proofs.Ytpigomkhpdfdcaa
open Go.RowKit Go.Deep Go.BigFrame
/-- Bytes do not lie in a block that holds no byte. -/
theorem Byt.offG {w : World} {A : Option Addr} {n c : Nat} {xs : List Int} (hy : Byt w (.slice A n c) xs) {k : Nat} {cs : Array Value} {ty : TypeId} (h : w.heap[k]? = some (.cells cs ty (0, 0))) (hv : ∀ (i : Nat) x, cs[i]? ≠ some (.int .u8 x)) :
    ∀ b, (Value.slice A n c).ownBlock = some b → 0 < n → b ≠ k := by
  intro b hbl hp e
  subst e
  obtain ⟨A', c', hv', _, _, h3⟩ := hy
  injection hv' with q1 q2 q3
  subst q1 q2
  obtain ⟨b', o', rfl, hl, hc⟩ := h3 hp
  simp [Value.ownBlock] at hbl
  subst hbl
  have h0 := hc 0 hp
  rw [cell_of h] at h0
  exact hv _ _ h0
/-- One byte more. -/
theorem take_one (ws : List Int) (a k i : Nat) (h0 : a + k ≤ i) (h1 : i ≤ a + k) (h : i < ws.length) : (ws.drop a).take k ++ [ws.getD i 0] = (ws.drop a).take (k + 1) := by
  obtain rfl : i = a + k := by omega
  rw [List.take_succ_eq_append_getElem (by rw [List.length_drop]; omega)]
  congr 1
  simp [List.getD, List.getElem?_eq_getElem h]
theorem grown_new2 {a b c : World} {r r2 : Option Nat} (h : a.grownBy b r) (k : b.grownBy c r2) (hr : ∀ k, r2 = some k → a.heap.size ≤ k) : a.grownBy c r :=
  ⟨k.os.trans h.os, k.tape.trans h.tape, k.output.trans h.output, Nat.le_trans h.size k.size, fun i hi hne => (k.block i (Nat.lt_of_lt_of_le hi h.size) (fun q => by have := hr _ q.symm; omega)).trans (h.block i hi hne)⟩
end Go.Proofs.Ytpigomkhpdfdcaa
