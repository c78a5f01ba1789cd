/- The buffer's calls: Clone, New, what is asked, Write. -/
import Derived.Test.YtpigomkhpdfdcaaBuf
import Derived.Lib.BufferMore
set_option linter.unusedVariables false
namespace Go.Proofs.Ytpigomkhpdfdcaa
open Go.RowKit Go.Deep Go.BigFrame
attribute [local go_sem ↓] Go.wp_at_zero Go.wp_at_succ

set_option maxHeartbeats 800000 in
theorem clone_any (A : Option Addr) (n c : Nat) (xs : List Int) (w : World) (hn : xs.length = n) (hb : Byt w (.slice A n c) xs) (hsm : n ≤ 500000) :
    Calls Try.prog 41 #[.slice A n c] w fun e w' => ∃ v, e = .returned v ∧ w'.ownsRow w.heap.size 5 1 v n (xs.map (.int .u8)) ∧ Below w.heap.size w w' := by
  cases A with
  | none =>
    have h0 : xs.length = 0 := by
      rcases Nat.eq_zero_or_pos xs.length with h | h
      · exact h
      · obtain ⟨A', c', hv, _, _, h3⟩ := hb
        injection hv with e1 e2 e3
        subst e1
        obtain ⟨b, o, h', _⟩ := h3 h; cases h'
    obtain rfl : xs = [] := List.eq_nil_of_length_eq_zero h0
    have hn0 : n = 0 := by simpa using hn.symm
    subst hn0
    have he := fun W => Lib.run_eql_slice_nil_nil (P := Try.prog) W (t := 34) (e := 5) 0 c Try.underlying34
    clear hb hn h0
    go_enter Try.func41, Try.ntmps41
    go_wp2
    go_ret
    exact ⟨_, rfl, World.ownsRow_nil _ _ _ _, Below.refl _ _⟩
  | some ad =>
    have he := fun W => Lib.run_eql_slice_some_nil (P := Try.prog) W (t := 34) (e := 5) ad n c Try.underlying34
    obtain ⟨v', w', hr, ho, hg⟩ := run_append_byt (w := w.alloc (Obj.cells #[] 5)) w.heap.size (.slice (some ⟨w.heap.size, 0, none⟩) 0 0) 0 []
      (World.ownsRow_made (base := w.heap.size) (e := 5) (size := 1) w #[] 0 (by simp) (by simp [maxLen]) (by simp)) (some ad) n c xs hn (hb.below ((Below.refl _ _).alloc (Nat.le_refl _) _)) (by omega) (by simp)
    rw [Nat.zero_add, List.nil_append] at ho
    have HB := Lib.hid (show Below w.heap.size w w' from ((Below.refl _ _).alloc (Nat.le_refl _) _).grown hg (by simp) (fun k hk => by simp [Value.ownBlock] at hk; omega))
    have HR := Lib.hid hr
    have HO := Lib.hid ho
    clear hr ho hg hb hn
    go_enter Try.func41, Try.ntmps41
    go_wp2_with (at_builtin; refine Lib.wpList_append_run _ rfl _ _ 34 34 rfl _ _ rfl rfl _ _ (by exact HR.out) ?_)
    go_ret
    exact ⟨_, rfl, HO.out, HB.out⟩

def newOk (win rto tries : Int) : Bool := decide (1 ≤ rto ∧ rto ≤ 1073741824 ∧ 1 ≤ tries ∧ tries ≤ 10 ∧ win ≤ 1073741824)
def newSt (una win rto : Int) (tries : Nat) : St := { data := [], una := una, sent := 0, win := win, rto := rto, tries := tries, wait := rto, count := 0, alarm := 0 }
theorem newSt_ok (una win rto : Int) (tries : Nat) (h0 : 0 ≤ una) (h1 : una ≤ 4294967295) (h2 : 0 ≤ win) (h : newOk win rto tries = true) : (newSt una win rto tries).Ok := by
  unfold newOk at h
  have h := of_decide_eq_true h
  refine ⟨?_, ?_, ?_, ?_, ?_, ?_, ?_, ?_, ?_, ?_, ?_, ?_, ?_, ?_, ?_⟩ <;> simp [newSt] <;> omega
set_option maxHeartbeats 800000 in
theorem new_yes (una win rto : Int) (tries : Nat) (w : World) (h : newOk win rto tries = true) :
    Calls Try.prog 10 #[.int .u32 una, .int .u32 win, .int .u64 rto, .int .i64 tries] w fun e w' => e = .returned (.tuple #[.pointer (some ⟨w.heap.size, 0, none⟩), .int .i64 0]) ∧
      w'.heap[w.heap.size]? = some (.cells ((newSt una win rto tries).cells none 0) 67 (0, 0)) ∧ Below w.heap.size w w' := by
  unfold newOk at h
  obtain ⟨h1, h2, h3, h4, h5⟩ := of_decide_eq_true h
  clear h
  go_enter Try.func10, Try.ntmps10
  go_wp2
  go_ret2
  exact ⟨rfl, heap_alloc_new w _, (Below.refl _ _).alloc (Nat.le_refl _) _⟩
set_option maxHeartbeats 1600000 in
theorem new_no (una win rto tries : Int) (w : World) (h : newOk win rto tries = false) :
    Calls Try.prog 10 #[.int .u32 una, .int .u32 win, .int .u64 rto, .int .i64 tries] w fun e w' => e = .returned (.tuple #[.pointer none, .int .i64 1]) ∧ w = w' := by
  unfold newOk at h
  have h := of_decide_eq_false h
  by_cases h1 : rto < 1
  · clear h
    go_enter Try.func10, Try.ntmps10
    go_wp2
    go_ret2
    exact ⟨rfl, rfl⟩
  · have g1 : decide (rto < 1) = false := decide_eq_false h1
    by_cases h2 : 1073741824 < rto
    · clear h
      go_enter Try.func10, Try.ntmps10
      go_wp2
      go_ret2
      exact ⟨rfl, rfl⟩
    · have g2 : decide (1073741824 < rto) = false := decide_eq_false h2
      by_cases h3 : tries < 1
      · clear h
        go_enter Try.func10, Try.ntmps10
        go_wp2
        go_ret2
        exact ⟨rfl, rfl⟩
      · have g3 : decide (tries < 1) = false := decide_eq_false h3
        by_cases h4 : 10 < tries
        · clear h
          go_enter Try.func10, Try.ntmps10
          go_wp2
          go_ret2
          exact ⟨rfl, rfl⟩
        · have g4 : decide (10 < tries) = false := decide_eq_false h4
          have h5 : 1073741824 < win := by omega
          clear h
          go_enter Try.func10, Try.ntmps10
          go_wp2
          go_ret2
          exact ⟨rfl, rfl⟩

section
variable (g c : Nat) (A : Option Addr) (s : St) (w : World)
set_option maxHeartbeats 400000 in
theorem una_any (hb : Buf w g A c s) (ho : s.Ok) :
    Calls Try.prog 17 #[.pointer (some ⟨g, 0, none⟩)] w fun e w' => e = .returned (.int .u32 s.una) ∧ w = w' := by
  have c1 := hb.c1
  have HC := Lib.hid hb.c4
  have r0 := ho.rto0
  clear hb ho
  go_enter Try.func17, Try.ntmps17
  go_wp2_with (go_at_call 40; refine (none_any _ _ _ HC.out r0).mono ?_; rintro e w' ⟨rfl, rfl⟩)
  go_ret
  exact ⟨rfl, rfl⟩
set_option maxHeartbeats 400000 in
theorem window_any (hb : Buf w g A c s) (ho : s.Ok) :
    Calls Try.prog 24 #[.pointer (some ⟨g, 0, none⟩)] w fun e w' => e = .returned (.int .u32 s.win) ∧ w = w' := by
  have c1 := hb.c3
  have HC := Lib.hid hb.c4
  have r0 := ho.rto0
  clear hb ho
  go_enter Try.func24, Try.ntmps24
  go_wp2_with (go_at_call 40; refine (none_any _ _ _ HC.out r0).mono ?_; rintro e w' ⟨rfl, rfl⟩)
  go_ret
  exact ⟨rfl, rfl⟩
set_option maxHeartbeats 400000 in
theorem nxt_any (hb : Buf w g A c s) (ho : s.Ok) :
    Calls Try.prog 19 #[.pointer (some ⟨g, 0, none⟩)] w fun e w' => e = .returned (.int .u32 (addU s.una s.sent)) ∧ w.grownBy w' none := by
  have c1 := hb.c1
  have c2 := hb.c2
  have HC := Lib.hid hb.c4
  have r0 := ho.rto0
  clear hb ho
  go_enter Try.func19, Try.ntmps19
  go_wp2_with (go_at_call 40; refine (none_any _ _ _ HC.out r0).mono ?_; rintro e w' ⟨rfl, rfl⟩)
  go_quiet ((go_at_call 16; exact Calls.quiet_of_same ((add_any _ _ _).mono fun e w' h => ⟨h.1, h.2.symm⟩)))
  go_wp2
  go_ret
  exact ⟨rfl, ⟨rfl, rfl, rfl, Nat.le_refl _, fun _ _ _ => rfl⟩⟩
set_option maxHeartbeats 400000 in
theorem end_any (hb : Buf w g A c s) (ho : s.Ok) :
    Calls Try.prog 20 #[.pointer (some ⟨g, 0, none⟩)] w fun e w' => e = .returned (.int .u32 (addU s.una s.data.length)) ∧ w.grownBy w' none := by
  have c1 := hb.c1
  have c2 := hb.c0
  have HC := Lib.hid hb.c4
  have r0 := ho.rto0
  clear hb ho
  obtain ⟨n, hn⟩ : ∃ n, s.data.length = n := ⟨_, rfl⟩
  rw [hn] at c2 ⊢
  clear hn
  go_enter Try.func20, Try.ntmps20
  go_wp2_with (go_at_call 40; refine (none_any _ _ _ HC.out r0).mono ?_; rintro e w' ⟨rfl, rfl⟩)
  go_quiet ((go_at_call 16; exact Calls.quiet_of_same ((add_any _ _ _).mono fun e w' h => ⟨h.1, h.2.symm⟩)))
  go_wp2
  go_ret
  exact ⟨rfl, ⟨rfl, rfl, rfl, Nat.le_refl _, fun _ _ _ => rfl⟩⟩
set_option maxHeartbeats 400000 in
theorem alarm_some (hb : Buf w g A c s) (ho : s.Ok) (h : 0 < s.data.length) :
    Calls Try.prog 13 #[.pointer (some ⟨g, 0, none⟩)] w fun e w' => e = .returned (.tuple #[.int .u64 s.alarm, .bool true]) ∧ w = w' := by
  have c1 := hb.c8
  have c2 := hb.c0
  have HC := Lib.hid hb.c4
  have r0 := ho.rto0
  clear hb ho
  obtain ⟨n, hn⟩ : ∃ n, s.data.length = n := ⟨_, rfl⟩
  rw [hn] at c2 h
  clear hn
  have h0 : ((n : Int) == 0) = false := by simp; omega
  go_enter Try.func13, Try.ntmps13
  go_wp2_with (go_at_call 40; refine (none_any _ _ _ HC.out r0).mono ?_; rintro e w' ⟨rfl, rfl⟩)
  go_ret2
  exact ⟨rfl, rfl⟩
set_option maxHeartbeats 400000 in
theorem alarm_none (hb : Buf w g A c s) (ho : s.Ok) (h : s.data.length = 0) :
    Calls Try.prog 13 #[.pointer (some ⟨g, 0, none⟩)] w fun e w' => e = .returned (.tuple #[.int .u64 0, .bool false]) ∧ w = w' := by
  have c2 := hb.c0
  have HC := Lib.hid hb.c4
  have r0 := ho.rto0
  rw [h] at c2
  clear hb ho h
  go_enter Try.func13, Try.ntmps13
  go_wp2_with (go_at_call 40; refine (none_any _ _ _ HC.out r0).mono ?_; rintro e w' ⟨rfl, rfl⟩)
  go_ret2
  exact ⟨rfl, rfl⟩
end
end Go.Proofs.Ytpigomkhpdfdcaa
