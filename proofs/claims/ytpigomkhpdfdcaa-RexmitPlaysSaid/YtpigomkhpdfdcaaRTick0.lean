/- The reference's Tick, where nothing is told. -/
import Derived.Test.YtpigomkhpdfdcaaRNew
set_option linter.unusedVariables false
namespace Go.Proofs.Ytpigomkhpdfdcaa
open Go.RowKit Go.Deep Go.BigFrame
attribute [local go_sem ↓] Go.wp_at_zero Go.wp_at_succ
set_option maxHeartbeats 1600000 in
theorem rtick_arg (g : Nat) (mss now : Int) (w : World) (h : mayB mss = false) :
    Calls Try.prog 35 #[.pointer (some ⟨g, 0, none⟩), .int .i64 mss, .int .u64 now] w fun e w' => e = .returned (.tuple #[.agg #[.int .u32 0, .slice none 0 0], .bool false, .int .i64 1]) ∧ Below w.heap.size w w' := by
  unfold mayB at h
  have h := of_decide_eq_false h
  by_cases h1 : mss < 1
  · have t1 : decide (mss < 1) = true := decide_eq_true h1
    clear h
    go_enter Try.func35, Try.ntmps35
    go_wp2
    refine bodyPost_ret (v := .tuple #[.agg #[.int .u32 0, .slice none 0 0], .bool false, .int .i64 1]) (by simp [results, Try.results35, go_sem]) rfl ⟨rfl, ?_⟩
    repeat (first | exact Below.refl _ _ | exact (Below.refl _ _).alloc (Nat.le_refl _) _ | refine Below.setCell ?_ (by simp) _)
  · have t1 : decide (mss < 1) = false := decide_eq_false h1
    have t2 : decide (1500 < mss) = true := decide_eq_true (by omega)
    clear h
    go_enter Try.func35, Try.ntmps35
    go_wp2
    refine bodyPost_ret (v := .tuple #[.agg #[.int .u32 0, .slice none 0 0], .bool false, .int .i64 1]) (by simp [results, Try.results35, go_sem]) rfl ⟨rfl, ?_⟩
    repeat (first | exact Below.refl _ _ | exact (Below.refl _ _).alloc (Nat.le_refl _) _ | refine Below.setCell ?_ (by simp) _)
theorem may_facts {mss : Int} (h : mayB mss = true) : decide (mss < 1) = false ∧ decide (1500 < mss) = false := by
  unfold mayB at h
  have h := of_decide_eq_true h
  exact ⟨decide_eq_false (by omega), decide_eq_false (by omega)⟩
set_option maxHeartbeats 1600000 in
theorem rtick_later (g c a : Nat) (A : Option Addr) (AT : Int) (ws : List Int) (s : St) (mss now : Int) (w : World) (hb : Rb w g A c AT ws a s) (h : mayB mss = true) (hl : s.data.length = 0 ∨ now < s.alarm) :
    Calls Try.prog 35 #[.pointer (some ⟨g, 0, none⟩), .int .i64 mss, .int .u64 now] w fun e w' => e = .returned (.tuple #[.agg #[.int .u32 0, .slice none 0 0], .bool false, .int .i64 0]) ∧ Below w.heap.size w w' := by
  obtain ⟨t1, t2⟩ := may_facts h
  have HL := Lib.hid (fun o => rleft_any g c a A AT ws s (w.alloc o) (hb.below ((Below.refl _ _).alloc (Nat.le_refl _) _)))
  have c8 := fun o => (((Below.refl w.heap.size w).alloc (Nat.le_refl _) o).cell (p := ⟨g, 8, none⟩) hb.lt).trans hb.c8
  obtain ⟨n, hn⟩ : ∃ n, s.data.length = n := ⟨_, rfl⟩
  rw [hn] at HL hl
  clear hb hn h
  by_cases h0 : n = 0
  · subst h0
    clear hl
    go_enter Try.func35, Try.ntmps35
    go_wp2_with (go_at_call 38; refine (HL.out _).mono ?_; rintro e w' ⟨rfl, nq, rfl⟩)
    refine bodyPost_ret (v := .tuple #[.agg #[.int .u32 0, .slice none 0 0], .bool false, .int .i64 0]) (by simp [results, Try.results35, go_sem]) rfl ⟨rfl, ?_⟩
    repeat (first | exact Below.refl _ _ | exact (Below.refl _ _).alloc (Nat.le_refl _) _ | refine Below.setCell ?_ (by simp) _ | refine below_drewN ?_ _)
  · have hz : ((n : Int) == 0) = false := by simp; omega
    have hl2 : now < s.alarm := by omega
    clear hl h0
    go_enter Try.func35, Try.ntmps35
    go_wp2_with (go_at_call 38; refine (HL.out _).mono ?_; rintro e w' ⟨rfl, nq, rfl⟩)
    refine bodyPost_ret (v := .tuple #[.agg #[.int .u32 0, .slice none 0 0], .bool false, .int .i64 0]) (by simp [results, Try.results35, go_sem]) rfl ⟨rfl, ?_⟩
    repeat (first | exact Below.refl _ _ | exact (Below.refl _ _).alloc (Nat.le_refl _) _ | refine Below.setCell ?_ (by simp) _ | refine below_drewN ?_ _)
set_option maxHeartbeats 1600000 in
theorem rtick_full (g c a : Nat) (A : Option Addr) (AT : Int) (ws : List Int) (s : St) (mss now : Int) (w : World) (hb : Rb w g A c AT ws a s) (h : mayB mss = true) (hl : 0 < s.data.length) (ha : s.alarm ≤ now) (ht : s.count = s.tries) :
    Calls Try.prog 35 #[.pointer (some ⟨g, 0, none⟩), .int .i64 mss, .int .u64 now] w fun e w' => e = .returned (.tuple #[.agg #[.int .u32 0, .slice none 0 0], .bool false, .int .i64 7]) ∧ Below w.heap.size w w' := by
  obtain ⟨t1, t2⟩ := may_facts h
  have HL := Lib.hid (fun o => rleft_any g c a A AT ws s (w.alloc o) (hb.below ((Below.refl _ _).alloc (Nat.le_refl _) _)))
  have c8 := fun o => (((Below.refl w.heap.size w).alloc (Nat.le_refl _) o).cell (p := ⟨g, 8, none⟩) hb.lt).trans hb.c8
  have c9 := fun o => (((Below.refl w.heap.size w).alloc (Nat.le_refl _) o).cell (p := ⟨g, 9, none⟩) hb.lt).trans hb.c9
  have c6 := fun o => (((Below.refl w.heap.size w).alloc (Nat.le_refl _) o).cell (p := ⟨g, 6, none⟩) hb.lt).trans hb.c6
  rw [ht] at c9
  obtain ⟨n, hn⟩ : ∃ n, s.data.length = n := ⟨_, rfl⟩
  rw [hn] at HL hl
  have hz : ((n : Int) == 0) = false := by simp; omega
  clear hb hn h ht
  go_enter Try.func35, Try.ntmps35
  go_wp2_with (go_at_call 38; refine (HL.out _).mono ?_; rintro e w' ⟨rfl, nq, rfl⟩)
  go_quiet (fail)
  go_wp2
  refine bodyPost_ret (v := .tuple #[.agg #[.int .u32 0, .slice none 0 0], .bool false, .int .i64 7]) (by simp [results, Try.results35, go_sem]) rfl ⟨rfl, ?_⟩
  repeat (first | exact Below.refl _ _ | exact (Below.refl _ _).alloc (Nat.le_refl _) _ | refine Below.setCell ?_ (by simp) _ | refine below_drewN ?_ _)
end Go.Proofs.Ytpigomkhpdfdcaa
