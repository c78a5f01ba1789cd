/- Slices of a slice of bytes, in one name. -/
import Derived.Test.YtpigomkhpdfdcaaKeepBuf
set_option linter.unusedVariables false
namespace Go.Proofs.Ytpigomkhpdfdcaa
open Go.RowKit Go.Deep
/-- The address behind k elements of a slice whose capacity is c. -/
def cutA (A : Option Addr) (k c : Nat) : Option Addr := if c = k then A else A.map (·.add k)
theorem size5 : ∀ w : World, (sizeOf 5).run Try.prog w = .ok 1 w := fun w => by kernel_rfl
theorem elem34 : Try.prog.elem 34 = 5 := by kernel_rfl
theorem under34 : Try.prog.underlying 34 = some (.slice (Try.prog.elem 34)) := by rw [elem34]; exact Try.underlying34
theorem run_slice_hi (A : Option Addr) (m c k : Nat) (hk : k ≤ c) (w : World) : (Instr.slice 34 (.slice A m c) none (some (.int .i64 (k : Int))) none).run Try.prog w = .ok (.slice A k c) w := by
  rw [run_slice_h w 34 A m c under34 .i64 (k : Int) (by omega) (by omega), elem34, size5]
  simp only [Result.andThen, sliced, Int.toNat_natCast, Nat.zero_mul, Nat.sub_zero]
  congr 2
  split
  · rfl
  · cases A <;> simp [Addr.add]
theorem run_slice_lo (A : Option Addr) (m c k : Nat) (hk : k ≤ m) (w : World) : (Instr.slice 34 (.slice A m c) (some (.int .i64 (k : Int))) none none).run Try.prog w = .ok (.slice (cutA A k c) (m - k) (c - k)) w := by
  rw [run_slice_l w 34 A m c under34 .i64 (k : Int) (by omega) (by omega), elem34, size5]
  simp only [Result.andThen, sliced, Int.toNat_natCast, Nat.mul_one]
  rfl
theorem Byt.from {w : World} {A : Option Addr} {n c : Nat} {xs : List Int} (h : Byt w (.slice A n c) xs) (k : Nat) (hk : k ≤ n) : Byt w (.slice (cutA A k c) (n - k) (c - k)) (xs.drop k) := by
  obtain ⟨A', c', hv, h1, h2, h3⟩ := h
  injection hv with e1 e2 e3
  subst e1 e2 e3
  refine ⟨cutA A k c, c - k, by rw [List.length_drop], by rw [List.length_drop]; omega, by omega, ?_⟩
  rw [List.length_drop]
  intro hp
  obtain ⟨b, o, rfl, hl, hc⟩ := h3 (by omega)
  have hne : ¬ c = k := by omega
  refine ⟨b, o + k, by unfold cutA; rw [if_neg hne]; simp [Go.WideShapes.add_plain], hl, fun i hi => ?_⟩
  rw [show o + k + i = o + (k + i) from by omega, hc (k + i) (by omega)]
  simp [List.getD, List.getElem?_drop]
theorem Byt.len_eq {w : World} {A : Option Addr} {n c : Nat} {xs : List Int} (h : Byt w (.slice A n c) xs) : n = xs.length ∧ n ≤ c ∧ c ≤ maxLen := by
  obtain ⟨A', c', hv, h1, h2, h3⟩ := h
  injection hv with e1 e2 e3
  subst e1 e2 e3
  exact ⟨rfl, h1, h2⟩
theorem Byt.get {w : World} {A : Option Addr} {n c : Nat} {xs : List Int} (h : Byt w (.slice A n c) xs) {i : Nat} (hi : i < n) : ∃ b o, A = some ⟨b, o, none⟩ ∧ b < w.heap.size ∧ w.cell? ⟨b, o + i, none⟩ = some (.int .u8 (xs.getD i 0)) := by
  obtain ⟨A', c', hv, h1, h2, h3⟩ := h
  injection hv with e1 e2 e3
  subst e1 e2 e3
  obtain ⟨b, o, rfl, hl, hc⟩ := h3 (by omega)
  exact ⟨b, o, rfl, hl, hc i hi⟩
theorem getD_byte {xs : List Int} (h : ∀ x ∈ xs, 0 ≤ x ∧ x ≤ 255) (i : Nat) : 0 ≤ xs.getD i 0 ∧ xs.getD i 0 ≤ 255 := by
  rcases Nat.lt_or_ge i xs.length with hi | hi
  · simp only [List.getD, List.getElem?_eq_getElem hi]
    exact h _ (List.getElem_mem hi)
  · simp [List.getD, List.getElem?_eq_none hi]
end Go.Proofs.Ytpigomkhpdfdcaa
