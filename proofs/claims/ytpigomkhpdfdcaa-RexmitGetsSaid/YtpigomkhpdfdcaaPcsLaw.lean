/- Plain laws of how bytes are parted into pieces. -/
import Derived.Test.YtpigomkhpdfdcaaSend
set_option linter.unusedVariables false
namespace Go.Proofs.Ytpigomkhpdfdcaa
theorem pcsOf_length (m : Nat) (hm : 1 ≤ m) (n : Nat) : ∀ (f S : Nat), n - S ≤ f → (pcsOf m S n).length = (n - S + m - 1) / m
  | 0, S, h => by
    rw [pcsOf_stop m S n (by omega), show n - S = 0 from by omega]
    simp
    exact (Nat.div_eq_of_lt (by omega)).symm
  | f + 1, S, h => by
    by_cases hs : S < n
    · rw [pcsOf_step m S n hm hs, List.length_cons, pcsOf_length m hm n f _ (by omega), Nat.div_eq_sub_div (a := n - S + m - 1) (by omega) (by omega)]
      by_cases h2 : S + m ≤ n
      · rw [Nat.min_eq_left h2]
        congr 2
        omega
      · rw [Nat.min_eq_right (by omega), Nat.div_eq_of_lt (show n - n + m - 1 < m by omega), Nat.div_eq_of_lt (show n - S + m - 1 - m < m by omega)]
    · rw [pcsOf_stop m S n hs, show n - S = 0 from by omega]
      simp
      exact (Nat.div_eq_of_lt (by omega)).symm
theorem seg_next (xs : List Int) (S T : Nat) (h : S ≤ T) : xs.take S ++ seg xs S T = xs.take T := by
  unfold seg
  conv => rhs; rw [← List.take_append_drop S (xs.take T)]
  rw [List.take_take, Nat.min_eq_left h]
end Go.Proofs.Ytpigomkhpdfdcaa
