/- awake. -/
import Derived.Test.YtdpomneoiagpiaaTabs
set_option linter.unusedVariables false
namespace Go.Proofs.Ytdpomneoiagpiaa
open Go.RowKit Go.Deep Go.BigFrame
attribute [local go_sem ↓] Go.wp_at_zero Go.wp_at_succ
section
variable {w0 w : World} {g b1 b2 N : Nat} {s s' : TS}
theorem tab_addE (h : Tab w0 w g b1 b2 N s) (i o : Tup) (hoi : i.Ok) (hoo : o.Ok) (hl : s.last < 1000000) (hN : N < 1000000) {n m e0 : Int} (h1 : addN s i o = n) (h2 : addW s i o = m) (h3 : addE s i o = e0) (h4 : addS s i o = s') :
    Calls Try.prog 10 #[.pointer (some ⟨g, 0, none⟩), i.val, o.val] w fun e w' => e = .returned (.tuple #[.int .u64 n, .int .u64 m, .int .i64 e0]) ∧ Tab w0 w' g b1 b2 (N + 1) s' ∧ Apart b1 b2 w w' := by
  rw [← h1, ← h2, ← h3, ← h4]
  exact tab_add h i o hoi hoo hl hN
theorem tab_touchE (h : Tab w0 w g b1 b2 N s) (id : Int) {e0 : Int} (h3 : atE s id = e0) (h4 : touchS s id = s') :
    Calls Try.prog 12 #[.pointer (some ⟨g, 0, none⟩), .int .u64 id] w fun e w' => e = .returned (.int .i64 e0) ∧ Tab w0 w' g b1 b2 N s' ∧ Apart b1 b2 w w' := by
  rw [← h3, ← h4]
  exact tab_touch h id
theorem tab_readyE (h : Tab w0 w g b1 b2 N s) (id : Int) {e0 : Int} (h3 : atE s id = e0) (h4 : readyS s id = s') :
    Calls Try.prog 17 #[.pointer (some ⟨g, 0, none⟩), .int .u64 id] w fun e w' => e = .returned (.int .i64 e0) ∧ Tab w0 w' g b1 b2 N s' ∧ Apart b1 b2 w w' := by
  rw [← h3, ← h4]
  exact tab_ready h id
theorem tab_dropE (h : Tab w0 w g b1 b2 N s) (id : Int) {e0 : Int} (h3 : atE s id = e0) (h4 : dropS s id = s') :
    Calls Try.prog 18 #[.pointer (some ⟨g, 0, none⟩), .int .u64 id] w fun e w' => e = .returned (.int .i64 e0) ∧ Tab w0 w' g b1 b2 N s' ∧ Apart b1 b2 w w' := by
  rw [← h3, ← h4]
  exact tab_drop h id
theorem tab_leadE (h : Tab w0 w g b1 b2 N s) (id : Int) (hid : (Lit.int .u64 id).wf = true) (o : Tup) (hoo : o.Ok) (hN : N < 1000000) {e0 : Int} (h3 : leadE s id o = e0) (h4 : leadS s id o = s') :
    Calls Try.prog 15 #[.pointer (some ⟨g, 0, none⟩), .int .u64 id, o.val] w fun e w' => e = .returned (.int .i64 e0) ∧ Tab w0 w' g b1 b2 (N + 1) s' ∧ Apart b1 b2 w w' := by
  rw [← h3, ← h4]
  exact tab_lead h id hid o hoo hN
end
theorem of_ok {n : Int} (h0 : 0 ≤ n) (h1 : n ≤ 4294967295) : (Tup.of n).Ok := by
  refine ⟨show (Lit.int .u8 0).wf = true by decide, ?_, show (Lit.int .u32 0).wf = true by decide, show (Lit.int .u16 0).wf = true by decide, show (Lit.int .u16 0).wf = true by decide⟩
  show (decide ((0 : Int) ≤ n) && decide (n ≤ 4294967295)) = true
  simp [h0, h1]
set_option maxHeartbeats 3200000 in
theorem awake_any (w : World) : Calls Try.prog 9 #[] w fun e w' => e = .returned (.bool true) ∧ Below w.heap.size w w' := by
  have HNEW := Lib.hid (tab_new 2 w w (by decide) (by decide) (Below.refl _ _))
  have HOF := Lib.hid of_any
  go_enter Try.func9, Try.ntmps9
  go_wp2_with fail
  refine HNEW.out.mono ?_
  rintro e W ⟨g, b1, b2, rfl, hT, -⟩
  have HT := Lib.hid hT
  clear hT
  go_wp2_with fail
  refine (HOF.out 1 _).mono ?_
  rintro e W1 ⟨rfl, hb⟩
  have HT := Lib.hid (HT.out.below hb)
  clear hb
  go_wp2_with fail
  refine (HOF.out 0 _).mono ?_
  rintro e W2 ⟨rfl, hb⟩
  have HT := Lib.hid (HT.out.below hb)
  clear hb
  have HC := Lib.hid (tab_addE (s' := (⟨2, [⟨1, .of 1, .of 0, true⟩], 1⟩ : TS)) (n := 1) (m := 0) (e0 := 0) HT.out (.of 1) (.of 0) (of_ok (by decide) (by decide)) (of_ok (by decide) (by decide)) (by decide) (by decide) rfl rfl rfl rfl)
  go_wp2_with fail
  refine HC.out.mono ?_
  rintro e W ⟨rfl, hT, -⟩
  clear HT HC
  have HT := Lib.hid hT
  clear hT
  go_wp2_with fail
  refine (HOF.out 2 _).mono ?_
  rintro e W1 ⟨rfl, hb⟩
  have HT := Lib.hid (HT.out.below hb)
  clear hb
  go_wp2_with fail
  refine (HOF.out 0 _).mono ?_
  rintro e W2 ⟨rfl, hb⟩
  have HT := Lib.hid (HT.out.below hb)
  clear hb
  have HC := Lib.hid (tab_addE (s' := (⟨2, [⟨1, .of 1, .of 0, true⟩, ⟨2, .of 2, .of 0, true⟩], 2⟩ : TS)) (n := 2) (m := 0) (e0 := 0) HT.out (.of 2) (.of 0) (of_ok (by decide) (by decide)) (of_ok (by decide) (by decide)) (by decide) (by decide) rfl rfl rfl rfl)
  go_wp2_with fail
  refine HC.out.mono ?_
  rintro e W ⟨rfl, hT, -⟩
  clear HT HC
  have HT := Lib.hid hT
  clear hT
  go_wp2_with fail
  refine (HOF.out 1 _).mono ?_
  rintro e W1 ⟨rfl, hb⟩
  have HT := Lib.hid (HT.out.below hb)
  clear hb
  go_wp2_with fail
  refine (HOF.out 0 _).mono ?_
  rintro e W2 ⟨rfl, hb⟩
  have HT := Lib.hid (HT.out.below hb)
  clear hb
  have HC := Lib.hid (tab_addE (s' := (⟨2, [⟨1, .of 1, .of 0, true⟩, ⟨2, .of 2, .of 0, true⟩], 2⟩ : TS)) (n := 0) (m := 0) (e0 := 9) HT.out (.of 1) (.of 0) (of_ok (by decide) (by decide)) (of_ok (by decide) (by decide)) (by decide) (by decide) rfl rfl rfl rfl)
  go_wp2_with fail
  refine HC.out.mono ?_
  rintro e W ⟨rfl, hT, -⟩
  clear HT HC
  have HT := Lib.hid hT
  clear hT
  have HC := Lib.hid (tab_touchE (s' := (⟨2, [⟨2, .of 2, .of 0, true⟩, ⟨1, .of 1, .of 0, true⟩], 2⟩ : TS)) (e0 := 0) HT.out 1 rfl rfl)
  go_wp2_with fail
  refine HC.out.mono ?_
  rintro e W ⟨rfl, hT, -⟩
  clear HT HC
  have HT := Lib.hid hT
  clear hT
  go_wp2_with fail
  refine (HOF.out 3 _).mono ?_
  rintro e W1 ⟨rfl, hb⟩
  have HT := Lib.hid (HT.out.below hb)
  clear hb
  go_wp2_with fail
  refine (HOF.out 0 _).mono ?_
  rintro e W2 ⟨rfl, hb⟩
  have HT := Lib.hid (HT.out.below hb)
  clear hb
  have HC := Lib.hid (tab_addE (s' := (⟨2, [⟨1, .of 1, .of 0, true⟩, ⟨3, .of 3, .of 0, true⟩], 3⟩ : TS)) (n := 3) (m := 2) (e0 := 0) HT.out (.of 3) (.of 0) (of_ok (by decide) (by decide)) (of_ok (by decide) (by decide)) (by decide) (by decide) rfl rfl rfl rfl)
  go_wp2_with fail
  refine HC.out.mono ?_
  rintro e W ⟨rfl, hT, -⟩
  clear HT HC
  have HT := Lib.hid hT
  clear hT
  have HC := Lib.hid (tab_readyE (s' := (⟨2, [⟨1, .of 1, .of 0, false⟩, ⟨3, .of 3, .of 0, true⟩], 3⟩ : TS)) (e0 := 0) HT.out 1 rfl rfl)
  go_wp2_with fail
  refine HC.out.mono ?_
  rintro e W ⟨rfl, hT, -⟩
  clear HT HC
  have HT := Lib.hid hT
  clear hT
  have HC := Lib.hid (tab_readyE (s' := (⟨2, [⟨1, .of 1, .of 0, false⟩, ⟨3, .of 3, .of 0, false⟩], 3⟩ : TS)) (e0 := 0) HT.out 3 rfl rfl)
  go_wp2_with fail
  refine HC.out.mono ?_
  rintro e W ⟨rfl, hT, -⟩
  clear HT HC
  have HT := Lib.hid hT
  clear hT
  go_wp2_with fail
  refine (HOF.out 2 _).mono ?_
  rintro e W1 ⟨rfl, hb⟩
  have HT := Lib.hid (HT.out.below hb)
  clear hb
  go_wp2_with fail
  refine (HOF.out 0 _).mono ?_
  rintro e W2 ⟨rfl, hb⟩
  have HT := Lib.hid (HT.out.below hb)
  clear hb
  have HC := Lib.hid (tab_addE (s' := (⟨2, [⟨1, .of 1, .of 0, false⟩, ⟨3, .of 3, .of 0, false⟩], 3⟩ : TS)) (n := 0) (m := 0) (e0 := 7) HT.out (.of 2) (.of 0) (of_ok (by decide) (by decide)) (of_ok (by decide) (by decide)) (by decide) (by decide) rfl rfl rfl rfl)
  go_wp2_with fail
  refine HC.out.mono ?_
  rintro e W ⟨rfl, hT, -⟩
  clear HT HC
  have HT := Lib.hid hT
  clear hT
  go_wp2_with fail
  go_ret
  exact ⟨rfl, HT.out.bel⟩
end Go.Proofs.Ytdpomneoiagpiaa
