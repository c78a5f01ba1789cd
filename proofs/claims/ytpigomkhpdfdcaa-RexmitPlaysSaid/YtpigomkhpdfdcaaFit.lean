/- fit. -/
import Derived.Test.YtpigomkhpdfdcaaAwake
set_option linter.unusedVariables false
namespace Go.Proofs.Ytpigomkhpdfdcaa
open Go.RowKit Go.Deep Go.BigFrame
attribute [local go_sem ↓] Go.wp_at_zero Go.wp_at_succ
def fitW (win : Int) : Int := win % 70000
def fitR (rto : Int) : Int := 1 + rto % 50
def fitT (tries : Int) : Nat := (1 + (tries % 18446744073709551616) % 10).toNat
theorem fit_tries (tries : Int) : wrap64 (1 + wrap64 ((IntKind.u64.wrap tries).tmod 10)) = (fitT tries : Int) := by
  have hw : IntKind.u64.wrap tries = tries % 18446744073709551616 := by simp [IntKind.wrap, IntKind.signed, IntKind.bits]
  rw [hw, Int.tmod_eq_emod_of_nonneg (by omega)]
  unfold fitT wrap64
  omega
set_option maxHeartbeats 1600000 in
theorem fit_any (una win rto tries : Int) (w : World) (w0 : 0 ≤ win) (w1 : win ≤ 4294967295) (r0 : 0 ≤ rto) (r1 : rto ≤ 18446744073709551615) :
    Calls Try.prog 9 #[.agg #[.int .u32 una, .int .u32 win, .int .u64 rto, .int .i64 tries]] w fun e w' => e = .returned (.agg #[.int .u32 una, .int .u32 (fitW win), .int .u64 (fitR rto), .int .i64 (fitT tries)]) ∧ Below w.heap.size w w' := by
  go_enter Try.func9, Try.ntmps9
  go_wp2
  refine bodyPost_ret (v := .agg #[.int .u32 una, .int .u32 (win % 70000), .int .u64 (1 + rto % 50), .int .i64 (wrap64 (1 + wrap64 ((IntKind.u64.wrap tries).tmod 10)))]) (by simp [results, Try.results9, go_sem]) rfl ⟨by rw [fit_tries]; rfl, ((Below.refl _ _).alloc (Nat.le_refl _) _).alloc (by simp) _⟩
theorem fit_bd (win rto tries : Int) : 0 ≤ fitW win ∧ fitW win < 70000 ∧ 1 ≤ fitR rto ∧ fitR rto ≤ 50 ∧ 1 ≤ fitT tries ∧ fitT tries ≤ 10 := by
  unfold fitW fitR fitT; omega
end Go.Proofs.Ytpigomkhpdfdcaa
