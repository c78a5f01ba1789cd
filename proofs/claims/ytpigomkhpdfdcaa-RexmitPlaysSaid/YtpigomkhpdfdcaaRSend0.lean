/- The reference's pieces. -/
import Derived.Test.YtpigomkhpdfdcaaRHelp
import Derived.StillTailTactics
import Derived.Outline
import Derived.Deep.RegionLaw
import Derived.Deep.CutRange
set_option linter.unusedVariables false
namespace Go.Proofs.Ytpigomkhpdfdcaa
open Go.RowKit Go.Deep Go.BigFrame
attribute [local go_sem ↓] Go.wp_at_zero Go.wp_at_succ
/-- The reference's pieces in memory, from block B on: the places (from, up to) in the bytes. -/
def RPcs (w : World) (B : Nat) (una : Int) (xs : List Int) (v : Value) (ps : List (Nat × Nat)) : Prop :=
  ∃ cells, w.ownsRow B 79 2 v ps.length cells ∧ ∀ i p, ps[i]? = some p → ∃ A k, cells[2 * i]? = some (Value.int .u32 (addU una p.1)) ∧ cells[2 * i + 1]? = some (Value.slice A (p.2 - p.1) k) ∧
    w.ownsRow B 5 1 (.slice A (p.2 - p.1) k) (p.2 - p.1) ((seg xs p.1 p.2).map (.int .u8))
theorem RPcs.nil (w : World) (B : Nat) (una : Int) (xs : List Int) : RPcs w B una xs (.slice none 0 0) [] :=
  ⟨[], World.ownsRow_nil _ _ _ _, fun i p h => by simp at h⟩
theorem RPcs.kept {w w' : World} {B : Nat} {una : Int} {xs : List Int} {v : Value} {ps : List (Nat × Nat)} (h : RPcs w B una xs v ps) {row : Option Nat} (hg : w.grownBy w' row) (hr : ∀ k, row = some k → k < B) : RPcs w' B una xs v ps := by
  obtain ⟨cells, h1, h2⟩ := h
  refine ⟨cells, kept_row h1 hg hr, fun i p hp => ?_⟩
  obtain ⟨A, k, a, b, c⟩ := h2 i p hp
  exact ⟨A, k, a, b, kept_row c hg hr⟩
theorem info79 : (Try.prog.info? 79).map (fun i => (i.zero, i.size, i.bytes)) = some (some (.agg #[.int .u32 0, .slice none 0 0]), 2, 32) := by kernel_rfl
theorem run_append_rpiece {w : World} (B : Nat) (v : Value) (n : Nat) (cells : List Value) (hown : w.ownsRow B 79 2 v n cells) (x y : Value) (hx : x.oneCell' = true) (hy : y.oneCell' = true) (hn : n ≤ 600000) (hB : B ≤ w.heap.size) :
    ∃ v' w', (Builtin.append_ #[72, 72] 72 #[v, .slice (some ⟨w.heap.size, 0, none⟩) 1 1]).run Try.prog (w.alloc (.cells #[x, y] 79)) = .ok v' w' ∧ w'.ownsRow B 79 2 v' (n + 1) (cells ++ [x, y]) ∧ (w.alloc (.cells #[x, y] 79)).grownBy w' v.ownBlock := by
  obtain ⟨i0, hi, hz0, hz1, hz2⟩ := info_parts info79
  obtain ⟨v', w', hr, ho, hg, _⟩ := run_append_own (P := Try.prog) (w.alloc (.cells #[x, y] 79)) B 72 72 79 i0 (.agg #[.int .u32 0, .slice none 0 0]) 2 32 Try.underlying72 hi hz0 hz1 hz2 rfl (by decide) v n cells (hown.alloc _) ⟨w.heap.size, 0, none⟩ 1 1 [x, y] (by simp)
    (cell_two_new w x y 79) (fun u hu => by simp at hu; rcases hu with rfl | rfl <;> assumption) (by unfold maxLen; omega) (by omega) (by simp; omega)
  exact ⟨v', w', hr, ho, hg⟩
theorem RPcs.push {w w3 : World} {B : Nat} {una : Int} {xs : List Int} {v v' : Value} {ps : List (Nat × Nat)} {cells : List Value} {F T : Nat} {A : Option Addr} {k : Nat}
    (h1 : w.ownsRow B 79 2 v ps.length cells)
    (h2 : ∀ i p, ps[i]? = some p → ∃ A k, cells[2 * i]? = some (Value.int .u32 (addU una p.1)) ∧ cells[2 * i + 1]? = some (Value.slice A (p.2 - p.1) k) ∧ w.ownsRow B 5 1 (.slice A (p.2 - p.1) k) (p.2 - p.1) ((seg xs p.1 p.2).map (.int .u8)))
    (hp : w.ownsRow B 5 1 (.slice A (T - F) k) (T - F) ((seg xs F T).map (.int .u8)))
    (h3 : w3.ownsRow B 79 2 v' (ps.length + 1) (cells ++ [.int .u32 (addU una F), .slice A (T - F) k]))
    (hg : (w.alloc (.cells #[.int .u32 (addU una F), .slice A (T - F) k] 79)).grownBy w3 v.ownBlock) : RPcs w3 B una xs v' (ps ++ [(F, T)]) := by
  have hkeep : ∀ {v0 : Value} {n0 : Nat} {zs : List Value}, w.ownsRow B 5 1 v0 n0 zs → w3.ownsRow B 5 1 v0 n0 zs := fun h => (h.alloc _).kept hg (own_ne h h1 (by decide))
  have hcl : cells.length = ps.length * 2 := h1.1
  refine ⟨cells ++ [.int .u32 (addU una F), .slice A (T - F) k], by simpa using h3, fun i p hi => ?_⟩
  by_cases hlt : i < ps.length
  · rw [List.getElem?_append_left hlt] at hi
    obtain ⟨A', k', a, b, c⟩ := h2 i p hi
    exact ⟨A', k', by rw [List.getElem?_append_left (by omega)]; exact a, by rw [List.getElem?_append_left (by omega)]; exact b, hkeep c⟩
  · have hi' : i = ps.length := by
      have := (List.getElem?_eq_some_iff.1 hi).1
      simp at this; omega
    subst hi'
    simp at hi
    subst hi
    refine ⟨A, k, ?_, ?_, hkeep hp⟩
    · rw [List.getElem?_append_right (by omega), show 2 * ps.length - cells.length = 0 from by omega]; rfl
    · rw [List.getElem?_append_right (by omega), show 2 * ps.length + 1 - cells.length = 1 from by omega]; rfl
theorem RPcs.lower {w : World} {B B' : Nat} {una : Int} {xs : List Int} {v : Value} {ps : List (Nat × Nat)} (h : RPcs w B una xs v ps) (hB : B' ≤ B) : RPcs w B' una xs v ps := by
  obtain ⟨cells, h1, h2⟩ := h
  refine ⟨cells, h1.lower hB, fun i p hp => ?_⟩
  obtain ⟨A, k, a, b, c⟩ := h2 i p hp
  exact ⟨A, k, a, b, c.lower hB⟩
theorem rround_push {W0 w1 : World} {B g : Nat} {una : Int} {xs : List Int} {S T : Nat} {u : Value} {acc : List (Nat × Nat)} {A1 : Option Addr} {k1 : Nat} (hB : B ≤ W0.heap.size) (hgB : g < B) (hpc : RPcs W0 B una xs u acc) (hacc : acc.length ≤ 600000)
    (hg1 : W0.grownBy w1 (some g)) (hown : w1.ownsRow W0.heap.size 5 1 (.slice A1 (T - S) k1) (T - S) ((seg xs S T).map (.int .u8))) :
    ∃ v2 w2, (Builtin.append_ #[72, 72] 72 #[u, .slice (some ⟨w1.heap.size, 0, none⟩) 1 1]).run Try.prog (w1.alloc (.cells #[.int .u32 (addU una S), .slice A1 (T - S) k1] 79)) = .ok v2 w2 ∧ w1.grownBy w2 u.ownBlock ∧ (∀ k, u.ownBlock = some k → B ≤ k) ∧ RPcs w2 B una xs v2 (acc ++ [(S, T)]) := by
  obtain ⟨cells, q1, q2⟩ := hpc.kept hg1 (by intro k hk; cases hk; exact hgB)
  have hs := hg1.size
  obtain ⟨v2, w2, hr2, hown2, hg2⟩ := run_append_rpiece B u acc.length cells q1 (.int .u32 (addU una S)) (.slice A1 (T - S) k1) rfl rfl (by omega) (by omega)
  have hrow : ∀ k, u.ownBlock = some k → B ≤ k := fun k hk => (q1.lt k hk).1
  exact ⟨v2, w2, hr2, grown_trans (World.grownBy_alloc _ _ _) hg2, hrow, RPcs.push q1 q2 (hown.lower hB) hown2 hg2⟩

end Go.Proofs.Ytpigomkhpdfdcaa
