/- same, of equal flows. -/
import Derived.Test.YtdpomneoiagpiaaRRdy
set_option linter.unusedVariables false
namespace Go.Proofs.Ytdpomneoiagpiaa
open Go.RowKit Go.Deep Go.BigFrame
attribute [local go_sem ↓] Go.wp_at_zero Go.wp_at_succ
theorem fl_neq (f : Fl) (W : World) : (binOp .neq 38 f.val f.val).run Try.prog W = Result.ok (.bool false) W := by
  unfold Fl.val Fl.arr
  go_simp
set_option maxHeartbeats 1600000
theorem same_any {w : World} (A A2 : Option Addr) (c c2 n : Nat) (L : List Fl) (hn : L.length = n) (hm : n ≤ 100000) (h1 : FlsAt w A L) (h2 : FlsAt w A2 L) :
    Calls Try.prog 31 #[.slice A n c, .slice A2 n c2] w fun e w' => e = .returned (.bool true) ∧ Below w.heap.size w w' := by
  have H1 := Lib.hid h1
  have H2 := Lib.hid h2
  have HN := Lib.hid hn
  clear h1 h2 hn
  go_enter Try.func31, Try.ntmps31
  go_wp2_with fail
  go_loopw [13] (fun v13 wr => ∃ k : Nat, v13 = .int .i64 k ∧ k ≤ n ∧ Below w.heap.size w wr) (fun v13 _ => n - (intOf v13).toNat)
  case atStart => exact ⟨0, rfl, Nat.zero_le _, Below.refl _ _⟩
  case round =>
    obtain ⟨k, rfl, hk, hb⟩ := hrel
    have HB := Lib.hid hb
    clear hb
    by_cases hlt : k < n
    · obtain ⟨f, hf⟩ : ∃ f, L[k]? = some f := ⟨L[k]'(by have := HN.out; omega), List.getElem?_eq_getElem _⟩
      obtain ⟨b, o, rfl, hl, ha⟩ := (H1.out.below HB.out) k f hf
      obtain ⟨k0, k1, k2, k3, k4, k5, k6, k7, k8, k9, k10, k11⟩ := ha
      obtain ⟨b2, o2, rfl, hl2, ha2⟩ := (H2.out.below HB.out) k f hf
      obtain ⟨m0, m1, m2, m3, m4, m5, m6, m7, m8, m9, m10, m11⟩ := ha2
      have E := fl_neq f
      unfold Fl.val Fl.arr at E
      clear hf
      go_wp2_with fail
      go_quiet (fail)
      go_wp2_with fail
      go_roundw
      case rel => exact ⟨k + 1, by simp, by omega, HB.out.trans (below_drewN (Below.refl _ _) _)⟩
      case measure => simp [intOf]; omega
    · obtain rfl : k = n := by omega
      go_wp2_with fail
      go_ret
      exact ⟨rfl, HB.out⟩
end Go.Proofs.Ytdpomneoiagpiaa
