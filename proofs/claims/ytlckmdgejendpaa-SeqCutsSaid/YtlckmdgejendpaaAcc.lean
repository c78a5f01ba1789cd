/- Accept, of the program and of the reference. -/
import Derived.Test.YtlckmdgejendpaaMath
set_option linter.unusedVariables false
namespace Go.Proofs.Ytlckmdgejendpaa
open Go.RowKit

set_option maxHeartbeats 400000 in
theorem in_any (x f l : Int) (p q : Addr) (w : World) (hp : w.cell? p = some (.int .u32 f)) (hq : w.cell? q = some (.int .u32 l)) :
    Calls Try.prog 23 #[.int .u32 x, .pointer (some p), .pointer (some q)] w fun e w' => e = .returned (.bool (withB x f l)) ∧ w = w' := by
  go_enter Try.func23, Try.ntmps23
  go_wp2_with (go_at_call 14; refine (within_any _ _ _ _).mono ?_; rintro e w' ⟨rfl, rfl⟩)
  go_ret
  exact ⟨rfl, rfl⟩

theorem accB_le {p n next win : Int} (h : n ≤ 0) : accB p n next win = (decide (p = next) || withB p next win) := if_pos h
theorem accB_gt {p n next win : Int} (h : 0 < n) : accB p n next win = (withB p next win || withB (addU p (n - 1)) next win) := if_neg (by omega)

set_option maxHeartbeats 800000 in
theorem accept_any (p n next win : Int) (w : World) (hn0 : -9223372036854775808 ≤ n) (hn1 : n ≤ 9223372036854775807) :
    Calls Try.prog 11 #[.int .u32 p, .int .i64 n, .int .u32 next, .int .u32 win] w fun e w' => e = .returned (.bool (accB p n next win)) ∧ Below w.heap.size w w' := by
  by_cases h : n ≤ 0
  · by_cases h2 : p = next
    · subst h2
      go_enter Try.func11, Try.ntmps11
      go_wp2_with (go_at_call 23; refine (in_any _ p win _ _ _ (by go_simp) (by go_simp)).mono ?_; rintro e w' ⟨rfl, rfl⟩)
      go_ret
      exact ⟨ret_bool (by rw [accB_le (by omega)]; simp), ((Below.refl _ _).alloc (Nat.le_refl _) _).alloc (by simp) _⟩
    · have h3 : (p == next) = false := by simpa using h2
      go_enter Try.func11, Try.ntmps11
      go_wp2_with (go_at_call 23; refine (in_any _ next win _ _ _ (by go_simp) (by go_simp)).mono ?_; rintro e w' ⟨rfl, rfl⟩)
      go_ret
      exact ⟨ret_bool (by rw [accB_le (by omega)]; simp [h2]), ((Below.refl _ _).alloc (Nat.le_refl _) _).alloc (by simp) _⟩
  · have h' : 0 < n := by omega
    by_cases h2 : withB p next win = true
    all_goals
      go_enter Try.func11, Try.ntmps11
      go_wp2_with (first | (go_at_call 23; refine (in_any _ next win _ _ _ (by go_simp) (by go_simp)).mono ?_; rintro e w' ⟨rfl, rfl⟩) | (go_at_call 15; refine (add_any _ _ _).mono ?_; rintro e w' ⟨rfl, rfl⟩))
      go_ret
      exact ⟨ret_bool (by rw [accB_gt (by omega)]; simp [h2]), ((Below.refl _ _).alloc (Nat.le_refl _) _).alloc (by simp) _⟩

theorem win0 (x f : Int) : withB x f 0 = false := by
  unfold withB; simp; omega

set_option maxHeartbeats 800000 in
theorem raccept_any (p n next win : Int) (w : World) (hn0 : -9223372036854775808 ≤ n) (hn1 : n ≤ 9223372036854775807) (ha0 : 0 ≤ p) (ha1 : p ≤ 4294967295) (hb0 : 0 ≤ next) (hb1 : next ≤ 4294967295) (hc0 : 0 ≤ win) (hc1 : win ≤ 4294967295) :
    Calls Try.prog 18 #[.int .u32 p, .int .i64 n, .int .u32 next, .int .u32 win] w fun e w' => e = .returned (.bool (accB p n next win)) ∧ w = w' := by
  have hbd := addU_bd p (n - 1)
  by_cases h : n ≤ 0
  · by_cases h2 : p = next
    · subst h2
      go_enter Try.func18, Try.ntmps18
      go_wp2_with (go_at_call 22; refine (rwithin_any _ _ _ _ (by omega) (by omega) (by omega) (by omega) (by omega) (by omega)).mono ?_; rintro e w' ⟨rfl, rfl⟩)
      go_ret
      exact ⟨ret_bool (by rw [accB_le (by omega)]; simp), rfl⟩
    · have h3 : (p == next) = false := by simpa using h2
      by_cases h4 : win = 0
      · subst h4
        have h5 := win0 p next
        go_enter Try.func18, Try.ntmps18
        go_wp2_with (go_at_call 22; refine (rwithin_any _ _ _ _ (by omega) (by omega) (by omega) (by omega) (by omega) (by omega)).mono ?_; rintro e w' ⟨rfl, rfl⟩)
        go_ret
        exact ⟨ret_bool (by rw [accB_le (by omega)]; simp [h2, h5]), rfl⟩
      · have h6 : 0 < win := by omega
        go_enter Try.func18, Try.ntmps18
        go_wp2_with (go_at_call 22; refine (rwithin_any _ _ _ _ (by omega) (by omega) (by omega) (by omega) (by omega) (by omega)).mono ?_; rintro e w' ⟨rfl, rfl⟩)
        go_ret
        exact ⟨ret_bool (by rw [accB_le (by omega)]; simp [h2]), rfl⟩
  · have h' : 0 < n := by omega
    by_cases h4 : win = 0
    · subst h4
      have h5 := win0 p next
      have h7 := win0 (addU p (n-1)) next
      go_enter Try.func18, Try.ntmps18
      go_wp2_with (first | (go_at_call 22; refine (rwithin_any _ _ _ _ (by omega) (by omega) (by omega) (by omega) (by omega) (by omega)).mono ?_; rintro e w' ⟨rfl, rfl⟩) | (go_at_call 20; refine (radd_any _ _ _ (by omega) (by omega)).mono ?_; rintro e w' ⟨rfl, rfl⟩))
      go_ret
      exact ⟨ret_bool (by rw [accB_gt (by omega)]; simp [h5, h7]), rfl⟩
    · have h6 : 0 < win := by omega
      by_cases h2 : withB p next win = true
      all_goals
        go_enter Try.func18, Try.ntmps18
        go_wp2_with (first | (go_at_call 22; refine (rwithin_any _ _ _ _ (by omega) (by omega) (by omega) (by omega) (by omega) (by omega)).mono ?_; rintro e w' ⟨rfl, rfl⟩) | (go_at_call 20; refine (radd_any _ _ _ (by omega) (by omega)).mono ?_; rintro e w' ⟨rfl, rfl⟩))
        go_ret
        exact ⟨ret_bool (by rw [accB_gt (by omega)]; simp [h2]), rfl⟩
end Go.Proofs.Ytlckmdgejendpaa
