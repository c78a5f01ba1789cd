/- The closure of awake; pieces in memory, looked at. -/
import Derived.Test.YtpigomkhpdfdcaaNil
import Derived.Lib.SlBytesConst
set_option linter.unusedVariables false
namespace Go.Proofs.Ytpigomkhpdfdcaa
open Go.RowKit Go.Deep Go.BigFrame
attribute [local go_sem ↓] Go.wp_at_zero Go.wp_at_succ
set_option maxHeartbeats 800000 in
theorem is_eq (a : Int) (A : Option Addr) (n k : Nat) (xs : List Int) (σ : ByteArray) (w : World) (hb : Byt w (.slice A n k) xs) (hs : strOfNums xs = σ) :
    Calls Try.prog 39 #[.agg #[.int .u32 a, .slice A n k], .int .u32 a, .string σ] w fun e w' => e = .returned (.bool true) ∧ Below w.heap.size w w' := by
  have hb2 := hb.below ((Below.refl _ _).alloc (Nat.le_refl _) (Obj.cells #[.int .u32 a, .slice A n k] 38))
  have h1 := hb2.str
  rw [hs] at h1
  clear hb hs hb2
  go_enter Try.func39, Try.ntmps39
  go_wp2
  go_ret
  exact ⟨rfl, (Below.refl _ _).alloc (Nat.le_refl _) _⟩

/-- A piece of a row, looked at. -/
theorem Pcs.at {w : World} {B : Nat} {una : Int} {xs : List Int} {A : Option Addr} {n k : Nat} {ps : List (Nat × Nat)} (h : Pcs w B una xs (.slice A n k) ps) {i : Nat} {p : Nat × Nat} (hi : ps[i]? = some p) :
    ∃ g A' k', A = some ⟨g, 0, none⟩ ∧ B ≤ g ∧ g < w.heap.size ∧ w.cell? ⟨g, 2 * i, none⟩ = some (.int .u32 (addU una p.1)) ∧ w.cell? ⟨g, 2 * i + 1, none⟩ = some (.slice A' (p.2 - p.1) k') ∧
      w.ownsRow B 5 1 (.slice A' (p.2 - p.1) k') (p.2 - p.1) ((seg xs p.1 p.2).map (.int .u8)) := by
  obtain ⟨cells, h1, h2⟩ := h
  obtain ⟨A', k', a, b, c⟩ := h2 i p hi
  have hlt := (List.getElem?_eq_some_iff.1 hi).1
  rcases h1.2 with ⟨h3, h4⟩ | ⟨g, cap, cur, h3, hb, hg, r⟩
  · omega
  · injection h3 with h3 _ _
    subst h3
    refine ⟨g, A', k', rfl, hb, (Array.getElem?_eq_some_iff.1 hg).1, ?_, ?_, c⟩
    · have := h1.cells (g := g) rfl _ _ a; rw [Go.WideShapes.add_plain] at this; simpa using this
    · have := h1.cells (g := g) rfl _ _ b; rw [Go.WideShapes.add_plain] at this; simpa using this
theorem own_byt {w : World} {B n : Nat} {v : Value} {xs : List Int} (h : w.ownsRow B 5 1 v n (xs.map (.int .u8))) : Byt w v xs := by
  have : xs.length = n := by have := h.1; simpa using this
  subst this
  exact Byt.of_own h
theorem Pcs.len {w : World} {B : Nat} {una : Int} {xs : List Int} {v : Value} {ps : List (Nat × Nat)} (h : Pcs w B una xs v ps) : ∃ A k, v = .slice A ps.length k := by
  obtain ⟨cells, h1, _⟩ := h
  exact own_len h1
end Go.Proofs.Ytpigomkhpdfdcaa
