/- The small calls of a buffer once more, as a quiet region asks for them. -/
import Derived.Test.YtpigomkhpdfdcaaActs
set_option linter.unusedVariables false
namespace Go.Proofs.Ytpigomkhpdfdcaa
open Go.RowKit Go.Deep Go.BigFrame
section
variable (g c : Nat) (A : Option Addr) (s : St) (w : World)
set_option maxHeartbeats 400000 in
theorem nxt_d (hb : Buf w g A c s) (ho : s.Ok) :
    Calls Try.prog 19 #[.pointer (some ⟨g, 0, none⟩)] w fun e w' => e = .returned (.int .u32 (addU s.una s.sent)) ∧ ∃ n, w' = w.drewN n := by
  have c1 := hb.c1
  have c2 := hb.c2
  have HC := Lib.hid hb.c4
  have r0 := ho.rto0
  clear hb ho
  go_enter Try.func19, Try.ntmps19
  go_wp2_with (go_at_call 40; refine (none_any _ _ _ HC.out r0).mono ?_; rintro e w' ⟨rfl, rfl⟩)
  go_quiet ((go_at_call 16; exact Calls.quiet_of_same ((add_any _ _ _).mono fun e w' h => ⟨h.1, h.2.symm⟩)))
  go_wp2
  go_ret
  exact ⟨rfl, _, rfl⟩
set_option maxHeartbeats 400000 in
theorem end_d (hb : Buf w g A c s) (ho : s.Ok) :
    Calls Try.prog 20 #[.pointer (some ⟨g, 0, none⟩)] w fun e w' => e = .returned (.int .u32 (addU s.una s.data.length)) ∧ ∃ n, w' = w.drewN n := by
  have c1 := hb.c1
  have c2 := hb.c0
  have HC := Lib.hid hb.c4
  have r0 := ho.rto0
  clear hb ho
  obtain ⟨n, hn⟩ : ∃ n, s.data.length = n := ⟨_, rfl⟩
  rw [hn] at c2 ⊢
  clear hn
  go_enter Try.func20, Try.ntmps20
  go_wp2_with (go_at_call 40; refine (none_any _ _ _ HC.out r0).mono ?_; rintro e w' ⟨rfl, rfl⟩)
  go_quiet ((go_at_call 16; exact Calls.quiet_of_same ((add_any _ _ _).mono fun e w' h => ⟨h.1, h.2.symm⟩)))
  go_wp2
  go_ret
  exact ⟨rfl, _, rfl⟩
end
theorem Buf.drewN {w : World} {g c : Nat} {A : Option Addr} {s : St} (h : Buf w g A c s) (n : Nat) : Buf (w.drewN n) g A c s := h.below (below_drewN (Below.refl _ _) n)
section
variable {g c : Nat} {A : Option Addr} {s : St} {w : World}
theorem una_q (hb : Buf w g A c s) (ho : s.Ok) {u : Int} (hu : s.una = u) (n : Nat) : Calls Try.prog 17 #[.pointer (some ⟨g, 0, none⟩)] (w.drewN n) fun e w'' => e = .returned (.int .u32 u) ∧ ∃ m, w'' = w.drewN m := by
  subst hu
  exact Calls.quiet_of_same ((una_any g c A s _ (hb.drewN n) ho).mono fun e w' h => ⟨h.1, h.2.symm⟩)
theorem window_q (hb : Buf w g A c s) (ho : s.Ok) {u : Int} (hu : s.win = u) (n : Nat) : Calls Try.prog 24 #[.pointer (some ⟨g, 0, none⟩)] (w.drewN n) fun e w'' => e = .returned (.int .u32 u) ∧ ∃ m, w'' = w.drewN m := by
  subst hu
  exact Calls.quiet_of_same ((window_any g c A s _ (hb.drewN n) ho).mono fun e w' h => ⟨h.1, h.2.symm⟩)
theorem nxt_q (hb : Buf w g A c s) (ho : s.Ok) {u : Int} (hu : addU s.una s.sent = u) (n : Nat) : Calls Try.prog 19 #[.pointer (some ⟨g, 0, none⟩)] (w.drewN n) fun e w'' => e = .returned (.int .u32 u) ∧ ∃ m, w'' = w.drewN m := by
  subst hu
  exact Calls.quiet_of (nxt_d g c A s _ (hb.drewN n) ho)
theorem end_q (hb : Buf w g A c s) (ho : s.Ok) {u : Int} (hu : addU s.una s.data.length = u) (n : Nat) : Calls Try.prog 20 #[.pointer (some ⟨g, 0, none⟩)] (w.drewN n) fun e w'' => e = .returned (.int .u32 u) ∧ ∃ m, w'' = w.drewN m := by
  subst hu
  exact Calls.quiet_of (end_d g c A s _ (hb.drewN n) ho)
end
theorem add_q (a n : Int) (w : World) (k : Nat) : Calls Try.prog 16 #[.int .u32 a, .int .i64 n] (w.drewN k) fun e w'' => e = .returned (.int .u32 (addU a n)) ∧ ∃ m, w'' = w.drewN m :=
  Calls.quiet_of_same ((add_any _ _ _).mono fun e w' h => ⟨h.1, h.2.symm⟩)
theorem ahead_q (a b : Int) (w : World) (k : Nat) {u : Int} (hu : ahd a b = u) : Calls Try.prog 22 #[.int .u32 a, .int .u32 b] (w.drewN k) fun e w'' => e = .returned (.int .i32 u) ∧ ∃ m, w'' = w.drewN m := by
  subst hu
  exact Calls.quiet_of_same ((ahead_any _ _ _).mono fun e w' h => ⟨h.1, h.2.symm⟩)
theorem within_q (a b c : Int) (w : World) (k : Nat) {u : Bool} (hu : withB a b c = u) : Calls Try.prog 23 #[.int .u32 a, .int .u32 b, .int .u32 c] (w.drewN k) fun e w'' => e = .returned (.bool u) ∧ ∃ m, w'' = w.drewN m := by
  subst hu
  exact Calls.quiet_of_same ((within_any _ _ _ _).mono fun e w' h => ⟨h.1, h.2.symm⟩)
theorem addU_addU (a m n : Int) : addU (addU a m) n = addU a (m + n) := by unfold addU; omega
end Go.Proofs.Ytpigomkhpdfdcaa
