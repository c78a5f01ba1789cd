/- The reference's New. -/
import Derived.Test.YtpigomkhpdfdcaaRAck
set_option linter.unusedVariables false
namespace Go.Proofs.Ytpigomkhpdfdcaa
open Go.RowKit Go.Deep Go.BigFrame
set_option maxHeartbeats 800000 in
theorem rnew_yes (una win rto : Int) (tries : Nat) (w : World) (u0 : 0 ≤ una) (u1 : una ≤ 4294967295) (h : newOk win rto tries = true) :
    Calls Try.prog 28 #[.int .u32 una, .int .u32 win, .int .u64 rto, .int .i64 tries] w fun e w' => e = .returned (.tuple #[.pointer (some ⟨w.heap.size, 0, none⟩), .int .i64 0]) ∧
      Rb w' w.heap.size none 0 una [] 0 (newSt una win rto tries) ∧ Below w.heap.size w w' := by
  have hmk : ∀ W : World, W.heap[w.heap.size]? = some (.cells (rcells una [] 0 (newSt una win rto tries) none 0) 83 (0, 0)) → Rb W w.heap.size none 0 una [] 0 (newSt una win rto tries) := fun W hh =>
    { heap := hh, byt := ⟨none, 0, rfl, Nat.le_refl _, by simp [maxLen], fun h => by simp at h⟩, data := rfl, una := by show una = addU una 0; unfold addU; omega, at0 := u0, at1 := u1, le := Nat.le_refl _, n := by simp }
  have HMK := Lib.hid hmk
  unfold newOk at h
  obtain ⟨h1, h2, h3, h4, h5⟩ := of_decide_eq_true h
  clear h hmk
  go_enter Try.func28, Try.ntmps28
  go_wp2
  go_ret2
  exact ⟨rfl, HMK.out _ (heap_alloc_new w _), (Below.refl _ _).alloc (Nat.le_refl _) _⟩
set_option maxHeartbeats 1600000 in
theorem rnew_no (una win rto tries : Int) (w : World) (h : newOk win rto tries = false) :
    Calls Try.prog 28 #[.int .u32 una, .int .u32 win, .int .u64 rto, .int .i64 tries] w fun e w' => e = .returned (.tuple #[.pointer none, .int .i64 1]) ∧ w = w' := by
  unfold newOk at h
  have h := of_decide_eq_false h
  by_cases h1 : rto < 1
  · clear h
    go_enter Try.func28, Try.ntmps28
    go_wp2
    go_ret2
    exact ⟨rfl, rfl⟩
  · have g1 : decide (rto < 1) = false := decide_eq_false h1
    by_cases h2 : 1073741824 < rto
    · clear h
      go_enter Try.func28, Try.ntmps28
      go_wp2
      go_ret2
      exact ⟨rfl, rfl⟩
    · have g2 : decide (1073741824 < rto) = false := decide_eq_false h2
      by_cases h3 : tries < 1
      · clear h
        go_enter Try.func28, Try.ntmps28
        go_wp2
        go_ret2
        exact ⟨rfl, rfl⟩
      · have g3 : decide (tries < 1) = false := decide_eq_false h3
        by_cases h4 : 10 < tries
        · clear h
          go_enter Try.func28, Try.ntmps28
          go_wp2
          go_ret2
          exact ⟨rfl, rfl⟩
        · have g4 : decide (10 < tries) = false := decide_eq_false h4
          have h5 : 1073741824 < win := by omega
          clear h
          go_enter Try.func28, Try.ntmps28
          go_wp2
          go_ret2
          exact ⟨rfl, rfl⟩
end Go.Proofs.Ytpigomkhpdfdcaa
