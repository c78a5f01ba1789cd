/- Two tuples compared, as an equation for the walk. -/
import Derived.Test.YtdpomneoiagpiaaRTab
set_option linter.unusedVariables false
namespace Go.Proofs.Ytdpomneoiagpiaa
open Go.RowKit Go.Deep Go.BigFrame
theorem tup_eql (t t' : Tup) (W : World) : (binOp .eql 33 t.val t'.val).run Try.prog W = Result.ok (.bool (decide (t = t'))) W := by
  obtain ⟨a, b, c, d, e⟩ := t
  obtain ⟨p, q, r, s, u⟩ := t'
  unfold Tup.val
  by_cases h1 : a = p
  · by_cases h2 : b = q
    · by_cases h3 : c = r
      · by_cases h4 : d = s
        · by_cases h5 : e = u
          · subst h1 h2 h3 h4 h5
            go_simp
          · go_simp
        · go_simp
      · go_simp
    · go_simp
  · go_simp
theorem tup_neq (t t' : Tup) (W : World) : (binOp .neq 33 t.val t'.val).run Try.prog W = Result.ok (.bool (!decide (t = t'))) W := by
  obtain ⟨a, b, c, d, e⟩ := t
  obtain ⟨p, q, r, s, u⟩ := t'
  unfold Tup.val
  by_cases h1 : a = p
  · by_cases h2 : b = q
    · by_cases h3 : c = r
      · by_cases h4 : d = s
        · by_cases h5 : e = u
          · subst h1 h2 h3 h4 h5
            go_simp
          · go_simp
        · go_simp
      · go_simp
    · go_simp
  · go_simp
end Go.Proofs.Ytdpomneoiagpiaa
