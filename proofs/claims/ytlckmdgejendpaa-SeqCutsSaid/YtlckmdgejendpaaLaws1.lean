/- The walks of SeqKnown, SeqNumbers, SeqPlaces. -/
import Derived.Test.YtlckmdgejendpaaAwake
import Derived.OpenShut
set_option linter.unusedVariables false
namespace Go.Proofs.Ytlckmdgejendpaa
open Go.RowKit Go.Deep

theorem bd_u32 {a : Int} (h : (Lit.int .u32 a).wf = true) : 0 ≤ a ∧ a ≤ 4294967295 := by
  simp [Lit.wf, IntKind.min, IntKind.max, IntKind.signed, IntKind.bits] at h; omega
theorem bd_u64 {a : Int} (h : (Lit.int .u64 a).wf = true) : 0 ≤ a ∧ a ≤ 18446744073709551615 := by
  simp [Lit.wf, IntKind.min, IntKind.max, IntKind.signed, IntKind.bits] at h; omega
theorem bd_i64 {a : Int} (h : (Lit.int .i64 a).wf = true) : -9223372036854775808 ≤ a ∧ a ≤ 9223372036854775807 := by
  simp [Lit.wf, IntKind.min, IntKind.max, IntKind.signed, IntKind.bits] at h; omega

set_option maxHeartbeats 800000 in
theorem numbers_walk (a b n : Int) (w : World) (w0 : (Lit.int .u32 a).wf = true) (w1 : (Lit.int .u32 b).wf = true) (w2 : (Lit.int .i64 n).wf = true) :
    Calls Try.prog 6 #[.int .u32 a, .int .u32 b, .int .i64 n] w fun e w' => e = .returned (.bool true) ∧ Below w.heap.size w w' := by
  have ba := bd_u32 w0
  have bb := bd_u32 w1
  clear w0 w1 w2
  have hu := addU_bd a n
  by_cases h : 0 < ahd a b
  all_goals
    have hl : lessB a b = decide (0 < ahd a b) := rfl
    have hl2 : laterU a b = if 0 < ahd a b then b else a := by simp [laterU, lessB]
    have hd : decide (0 < ahd a b) = decide (0 < ahd a b) := rfl
    simp only [h, decide_true, decide_false, if_true, if_false] at hl hl2
    try (have hd2 : decide (0 < ahd a b) = false := decide_eq_false h)
    clear hd
    go_enter Try.func6, Try.ntmps6
    go_wp2_with (first
      | (go_at_call 19; refine (rahead_any _ _ _ (by omega) (by omega) (by omega) (by omega)).mono ?_; rintro e w' ⟨rfl, rfl⟩)
      | (go_at_call 10; refine (awake_any _).mono ?_; rintro e w1 ⟨rfl, hb1⟩)
      | (go_at_call 15; refine (add_any _ _ _).mono ?_; rintro e w' ⟨rfl, rfl⟩)
      | (go_at_call 20; refine (radd_any _ _ _ (by omega) (by omega)).mono ?_; rintro e w' ⟨rfl, rfl⟩)
      | (go_at_call 12; refine (ahead_any _ _ _).mono ?_; rintro e w' ⟨rfl, rfl⟩)
      | (go_at_call 13; refine (less_any _ _ _).mono ?_; rintro e w' ⟨rfl, rfl⟩)
      | (go_at_call 21; refine (later_any _ _ _).mono ?_; rintro e w' ⟨rfl, rfl⟩)
      | (go_at_call 14; refine (within_any _ _ _ _).mono ?_; rintro e w' ⟨rfl, rfl⟩)
      | (go_at_call 22; refine (rwithin_any _ _ _ _ (by omega) (by omega) (by omega) (by omega) (by omega) (by omega)).mono ?_; rintro e w' ⟨rfl, rfl⟩))
    go_ret
    exact ⟨rfl, by assumption⟩

theorem places_facts (P D L A B : Int) (hP : 0 ≤ P) (hA : P % 4294967296 = A) (hB : (P + D) % 4294967296 = B) (hD0 : 0 ≤ D) (hD1 : D ≤ 2147483647) (hL0 : 0 ≤ L) (hL1 : L ≤ 2147483647) :
    ahd A B = D ∧ (0 < D → ahd B A = -D) ∧ lessB A B = decide (0 < D) ∧ lessB B A = false ∧ laterU A B = B ∧ laterU B A = B ∧ withB B A L = decide (D < L) ∧ (0 < D → withB A B L = false) ∧ addU A D = B ∧ addU B (-D) = A := by
  have h1 : ahd A B = D := by unfold ahd; omega
  have h2 : 0 < D → ahd B A = -D := by intro h; unfold ahd; omega
  have h3 : lessB A B = decide (0 < D) := by unfold lessB; rw [h1]
  have h4 : lessB B A = false := by
    unfold lessB; apply decide_eq_false; unfold ahd; omega
  refine ⟨h1, h2, h3, h4, ?_, ?_, ?_, ?_, ?_, ?_⟩
  · unfold laterU; rw [h3]; split
    · rfl
    · rename_i h; simp at h; omega
  · unfold laterU; rw [h4]; simp
  · unfold withB; congr 1; rw [show (B - A) % 4294967296 = D from by omega]
  · intro h; unfold withB; apply decide_eq_false; omega
  · unfold addU; omega
  · unfold addU; omega

set_option maxHeartbeats 800000 in
theorem places_walk (a b n : Int) (w : World) (w0 : (Lit.int .u64 a).wf = true) (w1 : (Lit.int .u32 b).wf = true) (w2 : (Lit.int .u32 n).wf = true) :
    Calls Try.prog 7 #[.int .u64 a, .int .u32 b, .int .u32 n] w fun e w' => e = .returned (.bool true) ∧ Below w.heap.size w w' := by
  have ba := bd_u64 w0
  have bb := bd_u32 w1
  have bn := bd_u32 w2
  clear w0 w1 w2
  obtain ⟨P, hP⟩ : ∃ P, a % 4611686018427387904 = P := ⟨_, rfl⟩
  obtain ⟨D, hD⟩ : ∃ D, b % 2147483648 = D := ⟨_, rfl⟩
  obtain ⟨L, hL⟩ : ∃ L, n % 2147483648 = L := ⟨_, rfl⟩
  have hP0 : 0 ≤ P := by omega
  have hP1 : P ≤ 4611686018427387903 := by omega
  have hD0 : 0 ≤ D := by omega
  have hD1 : D ≤ 2147483647 := by omega
  have hL0 : 0 ≤ L := by omega
  have hL1 : L ≤ 2147483647 := by omega
  obtain ⟨A, hA⟩ : ∃ A, P % 4294967296 = A := ⟨_, rfl⟩
  obtain ⟨B, hB⟩ : ∃ B, (P + D) % 4294967296 = B := ⟨_, rfl⟩
  obtain ⟨f1, f2, f3, f4, f5, f6, f7, f8, f9, f10⟩ := places_facts P D L A B hP0 hA hB hD0 hD1 hL0 hL1
  by_cases h : 0 < D
  · have g2 := f2 h
    have g8 := f8 h
    simp only [h, decide_true] at f3
    clear f2 f8
    go_enter Try.func7, Try.ntmps7
    go_wp2_with (first
      | (go_at_call 10; refine (awake_any _).mono ?_; rintro e w1 ⟨rfl, hb1⟩)
      | (go_at_call 15; refine (add_any _ _ _).mono ?_; rintro e w' ⟨rfl, rfl⟩)
      | (go_at_call 12; refine (ahead_any _ _ _).mono ?_; rintro e w' ⟨rfl, rfl⟩)
      | (go_at_call 13; refine (less_any _ _ _).mono ?_; rintro e w' ⟨rfl, rfl⟩)
      | (go_at_call 21; refine (later_any _ _ _).mono ?_; rintro e w' ⟨rfl, rfl⟩)
      | (go_at_call 14; refine (within_any _ _ _ _).mono ?_; rintro e w' ⟨rfl, rfl⟩))
    go_ret
    exact ⟨rfl, hb1⟩
  · have hD3 : (D == 0) = true := by simp; omega
    have hD4 : D ≤ 0 := by omega
    have g3 : decide (0 < D) = false := decide_eq_false h
    rw [g3] at f3
    clear f2 f8
    go_enter Try.func7, Try.ntmps7
    go_wp2_with (first
      | (go_at_call 10; refine (awake_any _).mono ?_; rintro e w1 ⟨rfl, hb1⟩)
      | (go_at_call 15; refine (add_any _ _ _).mono ?_; rintro e w' ⟨rfl, rfl⟩)
      | (go_at_call 12; refine (ahead_any _ _ _).mono ?_; rintro e w' ⟨rfl, rfl⟩)
      | (go_at_call 13; refine (less_any _ _ _).mono ?_; rintro e w' ⟨rfl, rfl⟩)
      | (go_at_call 21; refine (later_any _ _ _).mono ?_; rintro e w' ⟨rfl, rfl⟩)
      | (go_at_call 14; refine (within_any _ _ _ _).mono ?_; rintro e w' ⟨rfl, rfl⟩))
    go_ret
    exact ⟨rfl, hb1⟩

end Go.Proofs.Ytlckmdgejendpaa
