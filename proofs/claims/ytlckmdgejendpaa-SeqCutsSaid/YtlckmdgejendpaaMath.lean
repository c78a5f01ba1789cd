/- Plain arithmetic of sequence numbers: what the calls of packages seq and culvertref01 come to. -/
import Derived.Test.YtlckmdgejendpaaRows
import Derived.WalkKit
import Derived.WalkSpells
import Derived.WalkLawsBesides
set_option linter.unusedVariables false
namespace Go.Proofs.Ytlckmdgejendpaa
open Go.RowKit

def addU (a n : Int) : Int := (a + n) % 4294967296
def ahd (a b : Int) : Int := (b - a + 2147483648) % 4294967296 - 2147483648
def lessB (a b : Int) : Bool := decide (0 < ahd a b)
def withB (x f l : Int) : Bool := decide ((x - f) % 4294967296 < l)
def laterU (a b : Int) : Int := if lessB a b = true then b else a
def accB (p n next win : Int) : Bool :=
  if n ≤ 0 then decide (p = next) || withB p next win else withB p next win || withB (addU p (n - 1)) next win

theorem ret_int {k : IntKind} {a b : Int} (h : a = b) : Ending.returned (.int k a) = .returned (.int k b) := by rw [h]
theorem ret_bool {a b : Bool} (h : a = b) : Ending.returned (.bool a) = .returned (.bool b) := by rw [h]

theorem addU_bd (a n : Int) : 0 ≤ addU a n ∧ addU a n ≤ 4294967295 := by unfold addU; omega
theorem ahd_bd (a b : Int) : -2147483648 ≤ ahd a b ∧ ahd a b ≤ 2147483647 := by unfold ahd; omega

theorem tmod_round (a : Int) : a.tmod 4294967296 = if 0 ≤ a then a % 4294967296 else -((-a) % 4294967296) := by
  split
  · exact Int.tmod_eq_emod_of_nonneg ‹_›
  · have h : a.tmod 4294967296 = -((-a).tmod 4294967296) := by rw [Int.neg_tmod]; omega
    rw [h, Int.tmod_eq_emod_of_nonneg (by omega)]

theorem modNeg (a : Int) (h : a.tmod 4294967296 < 0) : wrap64 (a.tmod 4294967296 + 4294967296) = a % 4294967296 := by
  rw [tmod_round] at h ⊢; unfold wrap64; split at h <;> omega
theorem modPos (a : Int) (h : 0 ≤ a.tmod 4294967296) : a.tmod 4294967296 = a % 4294967296 := by
  rw [tmod_round] at h ⊢; split at h <;> omega

set_option maxHeartbeats 400000 in
theorem add_any (a n : Int) (w : World) :
    Calls Try.prog 15 #[.int .u32 a, .int .i64 n] w fun e w' => e = .returned (.int .u32 (addU a n)) ∧ w = w' := by
  go_enter Try.func15, Try.ntmps15
  go_wp2
  go_ret
  exact ⟨ret_int (by unfold addU; omega), rfl⟩

set_option maxHeartbeats 400000 in
theorem ahead_any (a b : Int) (w : World) :
    Calls Try.prog 12 #[.int .u32 a, .int .u32 b] w fun e w' => e = .returned (.int .i32 (ahd a b)) ∧ w = w' := by
  go_enter Try.func12, Try.ntmps12
  go_wp2
  go_ret
  exact ⟨ret_int (by unfold ahd wrap32; omega), rfl⟩

set_option maxHeartbeats 400000 in
theorem less_any (a b : Int) (w : World) :
    Calls Try.prog 13 #[.int .u32 a, .int .u32 b] w fun e w' => e = .returned (.bool (lessB a b)) ∧ w = w' := by
  go_enter Try.func13, Try.ntmps13
  go_wp2_with (go_at_call 12; refine (ahead_any _ _ _).mono ?_; rintro e w' ⟨rfl, rfl⟩)
  go_ret
  exact ⟨ret_bool (by simp [lessB]), rfl⟩

set_option maxHeartbeats 400000 in
theorem within_any (a b c : Int) (w : World) :
    Calls Try.prog 14 #[.int .u32 a, .int .u32 b, .int .u32 c] w fun e w' => e = .returned (.bool (withB a b c)) ∧ w = w' := by
  go_enter Try.func14, Try.ntmps14
  go_wp2
  go_ret
  exact ⟨ret_bool (by simp [withB]), rfl⟩

set_option maxHeartbeats 400000 in
theorem later_any (a b : Int) (w : World) :
    Calls Try.prog 21 #[.int .u32 a, .int .u32 b] w fun e w' => e = .returned (.int .u32 (laterU a b)) ∧ w = w' := by
  by_cases h : lessB a b = true
  all_goals
    go_enter Try.func21, Try.ntmps21
    go_wp2_with (go_at_call 13; refine (less_any _ _ _).mono ?_; rintro e w' ⟨rfl, rfl⟩)
    go_ret
    exact ⟨ret_int (by simp [laterU, h]), rfl⟩

set_option maxHeartbeats 400000 in
theorem mod_any (a : Int) (w : World) :
    Calls Try.prog 24 #[.int .i64 a] w fun e w' => e = .returned (.int .i64 (a % 4294967296)) ∧ w = w' := by
  go_enter Try.func24, Try.ntmps24
  go_wp2
  all_goals go_ret
  · exact ⟨ret_int (modNeg a ‹_›), rfl⟩
  · exact ⟨ret_int (modPos a ‹_›), rfl⟩

set_option maxHeartbeats 400000 in
theorem radd_any (a n : Int) (w : World) (h0 : 0 ≤ a) (h1 : a ≤ 4294967295) :
    Calls Try.prog 20 #[.int .u32 a, .int .i64 n] w fun e w' => e = .returned (.int .u32 (addU a n)) ∧ w = w' := by
  go_enter Try.func20, Try.ntmps20
  go_wp2_with (go_at_call 24; refine (mod_any _ _).mono ?_; rintro e w' ⟨rfl, rfl⟩)
  go_ret
  exact ⟨ret_int (by rw [tmod_round]; unfold addU wrap64; split <;> omega), rfl⟩

set_option maxHeartbeats 400000 in
theorem rahead_any (a b : Int) (w : World) (ha0 : 0 ≤ a) (ha1 : a ≤ 4294967295) (hb0 : 0 ≤ b) (hb1 : b ≤ 4294967295) :
    Calls Try.prog 19 #[.int .u32 a, .int .u32 b] w fun e w' => e = .returned (.int .i32 (ahd a b)) ∧ w = w' := by
  go_enter Try.func19, Try.ntmps19
  go_wp2_with (go_at_call 24; refine (mod_any _ _).mono ?_; rintro e w' ⟨rfl, rfl⟩)
  all_goals go_ret
  all_goals exact ⟨ret_int (by unfold ahd; (try unfold wrap32); (try unfold wrap64); omega), rfl⟩

set_option maxHeartbeats 400000 in
theorem rwithin_any (a b c : Int) (w : World) (ha0 : 0 ≤ a) (ha1 : a ≤ 4294967295) (hb0 : 0 ≤ b) (hb1 : b ≤ 4294967295) (hc0 : 0 ≤ c) (hc1 : c ≤ 4294967295) :
    Calls Try.prog 22 #[.int .u32 a, .int .u32 b, .int .u32 c] w fun e w' => e = .returned (.bool (withB a b c)) ∧ w = w' := by
  go_enter Try.func22, Try.ntmps22
  go_wp2_with (go_at_call 24; refine (mod_any _ _).mono ?_; rintro e w' ⟨rfl, rfl⟩)
  go_ret
  exact ⟨ret_bool (by simp [withB]), rfl⟩

end Go.Proofs.Ytlckmdgejendpaa
