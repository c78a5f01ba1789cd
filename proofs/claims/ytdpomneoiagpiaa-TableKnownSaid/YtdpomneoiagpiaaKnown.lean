/- TableKnown, walked. -/
import Derived.Test.YtdpomneoiagpiaaNil
set_option linter.unusedVariables false
namespace Go.Proofs.Ytdpomneoiagpiaa
open Go.RowKit Go.Deep Go.BigFrame
attribute [local go_sem ↓] Go.wp_at_zero Go.wp_at_succ
set_option maxHeartbeats 6400000 in
set_option maxRecDepth 100000 in
theorem known_walk (w : World) : Calls Try.prog 7 #[] w fun e w' => e = .returned (.bool true) ∧ Below w.heap.size w w' := by
  have HNEW := Lib.hid (fun W => tab_new 3 w W (by decide) (by decide))
  have HN0 := Lib.hid (fun W => new_no 0 W (.inl (by decide)))
  have HN1 := Lib.hid (fun W => new_no 1025 W (.inr (by decide)))
  have HOF := Lib.hid of_any
  have HAW := Lib.hid awake_any
  go_enter Try.func7, Try.ntmps7
  go_wp2_with fail
  refine (HAW.out _).mono ?_
  rintro e W ⟨rfl, hb⟩
  have HB := Lib.hid hb
  clear hb
  go_wp2_with fail
  refine (HN0.out _).mono ?_
  rintro e W1 ⟨rfl, rfl⟩
  go_wp2_with fail
  refine (HN1.out _).mono ?_
  rintro e W1 ⟨rfl, rfl⟩
  go_wp2_with fail
  refine (HNEW.out _ HB.out).mono ?_
  rintro e W ⟨g, b1, b2, rfl, hT, -⟩
  have HT := Lib.hid hT
  clear hT HNEW HN0 HN1 HB
  go_wp2_with fail
  refine (HOF.out 0 _).mono ?_
  rintro e W1 ⟨rfl, hb⟩
  have HT := Lib.hid (HT.out.below hb)
  clear hb
  go_wp2_with fail
  refine (HOF.out 5 _).mono ?_
  rintro e W1 ⟨rfl, hb⟩
  have HT := Lib.hid (HT.out.below hb)
  clear hb
  have HC := Lib.hid (tab_addE (s' := (⟨3, [], 0⟩ : TS)) (n := 0) (m := 0) (e0 := 1) HT.out (.of 0) (.of 5) (of_ok (by decide) (by decide)) (of_ok (by decide) (by decide)) (by decide) (by decide) rfl rfl rfl rfl)
  go_wp2_with fail
  refine HC.out.mono ?_
  rintro e W ⟨rfl, hT, -⟩
  clear HT HC
  have HT := Lib.hid hT
  clear hT
  go_wp2_with fail
  refine (HOF.out 1 _).mono ?_
  rintro e W1 ⟨rfl, hb⟩
  have HT := Lib.hid (HT.out.below hb)
  clear hb
  go_wp2_with fail
  refine (HOF.out 5 _).mono ?_
  rintro e W1 ⟨rfl, hb⟩
  have HT := Lib.hid (HT.out.below hb)
  clear hb
  have HC := Lib.hid (tab_addE (s' := (⟨3, [⟨1, .of 1, .of 5, true⟩], 1⟩ : TS)) (n := 1) (m := 0) (e0 := 0) HT.out (.of 1) (.of 5) (of_ok (by decide) (by decide)) (of_ok (by decide) (by decide)) (by decide) (by decide) rfl rfl rfl rfl)
  go_wp2_with fail
  refine HC.out.mono ?_
  rintro e W ⟨rfl, hT, -⟩
  clear HT HC
  have HT := Lib.hid hT
  clear hT
  go_wp2_with fail
  refine (HOF.out 2 _).mono ?_
  rintro e W1 ⟨rfl, hb⟩
  have HT := Lib.hid (HT.out.below hb)
  clear hb
  go_wp2_with fail
  refine (HOF.out 5 _).mono ?_
  rintro e W1 ⟨rfl, hb⟩
  have HT := Lib.hid (HT.out.below hb)
  clear hb
  have HC := Lib.hid (tab_addE (s' := (⟨3, [⟨1, .of 1, .of 5, true⟩], 1⟩ : TS)) (n := 0) (m := 0) (e0 := 9) HT.out (.of 2) (.of 5) (of_ok (by decide) (by decide)) (of_ok (by decide) (by decide)) (by decide) (by decide) rfl rfl rfl rfl)
  go_wp2_with fail
  refine HC.out.mono ?_
  rintro e W ⟨rfl, hT, -⟩
  clear HT HC
  have HT := Lib.hid hT
  clear hT
  go_wp2_with fail
  refine (HOF.out 2 _).mono ?_
  rintro e W1 ⟨rfl, hb⟩
  have HT := Lib.hid (HT.out.below hb)
  clear hb
  go_wp2_with fail
  refine (HOF.out 0 _).mono ?_
  rintro e W1 ⟨rfl, hb⟩
  have HT := Lib.hid (HT.out.below hb)
  clear hb
  have HC := Lib.hid (tab_addE (s' := (⟨3, [⟨1, .of 1, .of 5, true⟩, ⟨2, .of 2, .of 0, true⟩], 2⟩ : TS)) (n := 2) (m := 0) (e0 := 0) HT.out (.of 2) (.of 0) (of_ok (by decide) (by decide)) (of_ok (by decide) (by decide)) (by decide) (by decide) rfl rfl rfl rfl)
  go_wp2_with fail
  refine HC.out.mono ?_
  rintro e W ⟨rfl, hT, -⟩
  clear HT HC
  have HT := Lib.hid hT
  clear hT
  go_wp2_with fail
  refine (HOF.out 5 _).mono ?_
  rintro e W1 ⟨rfl, hb⟩
  have HT := Lib.hid (HT.out.below hb)
  clear hb
  have HC := Lib.hid (tab_leadE (s' := (⟨3, [⟨1, .of 1, .of 5, true⟩, ⟨2, .of 2, .of 0, true⟩], 2⟩ : TS)) (e0 := 9) HT.out 2 (by decide) (.of 5) (of_ok (by decide) (by decide)) (by decide) rfl rfl)
  go_wp2_with fail
  refine HC.out.mono ?_
  rintro e W ⟨rfl, hT, -⟩
  clear HT HC
  have HT := Lib.hid hT
  clear hT
  go_wp2_with fail
  refine (HOF.out 6 _).mono ?_
  rintro e W1 ⟨rfl, hb⟩
  have HT := Lib.hid (HT.out.below hb)
  clear hb
  have HC := Lib.hid (tab_leadE (s' := (⟨3, [⟨1, .of 1, .of 5, true⟩, ⟨2, .of 2, .of 6, true⟩], 2⟩ : TS)) (e0 := 0) HT.out 2 (by decide) (.of 6) (of_ok (by decide) (by decide)) (by decide) rfl rfl)
  go_wp2_with fail
  refine HC.out.mono ?_
  rintro e W ⟨rfl, hT, -⟩
  clear HT HC
  have HT := Lib.hid hT
  clear hT
  go_wp2_with fail
  refine (HOF.out 0 _).mono ?_
  rintro e W1 ⟨rfl, hb⟩
  have HT := Lib.hid (HT.out.below hb)
  clear hb
  have HC := Lib.hid (tab_leadE (s' := (⟨3, [⟨1, .of 1, .of 0, true⟩, ⟨2, .of 2, .of 6, true⟩], 2⟩ : TS)) (e0 := 0) HT.out 1 (by decide) (.of 0) (of_ok (by decide) (by decide)) (by decide) rfl rfl)
  go_wp2_with fail
  refine HC.out.mono ?_
  rintro e W ⟨rfl, hT, -⟩
  clear HT HC
  have HT := Lib.hid hT
  clear hT
  go_wp2_with fail
  refine (HOF.out 5 _).mono ?_
  rintro e W1 ⟨rfl, hb⟩
  have HT := Lib.hid (HT.out.below hb)
  clear hb
  have HC := Lib.hid (tab_leadE (s' := (⟨3, [⟨1, .of 1, .of 0, true⟩, ⟨2, .of 2, .of 5, true⟩], 2⟩ : TS)) (e0 := 0) HT.out 2 (by decide) (.of 5) (of_ok (by decide) (by decide)) (by decide) rfl rfl)
  go_wp2_with fail
  refine HC.out.mono ?_
  rintro e W ⟨rfl, hT, -⟩
  clear HT HC
  have HT := Lib.hid hT
  clear hT
  go_wp2_with fail
  refine (HOF.out 6 _).mono ?_
  rintro e W1 ⟨rfl, hb⟩
  have HT := Lib.hid (HT.out.below hb)
  clear hb
  have HC := Lib.hid (tab_outer HT.out (.of 6) (of_ok (by decide) (by decide)))
  rw [show outF ((⟨3, [⟨1, .of 1, .of 0, true⟩, ⟨2, .of 2, .of 5, true⟩], 2⟩ : TS)).L (.of 6) = 0 from rfl, show ((0 : Int) != 0) = false from rfl] at HC
  go_wp2_with fail
  refine HC.out.mono ?_
  rintro e W ⟨rfl, hb⟩
  have HT := Lib.hid (HT.out.below hb)
  clear hb HC
  go_wp2_with fail
  refine (HOF.out 0 _).mono ?_
  rintro e W1 ⟨rfl, hb⟩
  have HT := Lib.hid (HT.out.below hb)
  clear hb
  have HC := Lib.hid (tab_outer HT.out (.of 0) (of_ok (by decide) (by decide)))
  rw [show outF ((⟨3, [⟨1, .of 1, .of 0, true⟩, ⟨2, .of 2, .of 5, true⟩], 2⟩ : TS)).L (.of 0) = 0 from rfl, show ((0 : Int) != 0) = false from rfl] at HC
  go_wp2_with fail
  refine HC.out.mono ?_
  rintro e W ⟨rfl, hb⟩
  have HT := Lib.hid (HT.out.below hb)
  clear hb HC
  go_wp2_with fail
  refine (HOF.out 0 _).mono ?_
  rintro e W1 ⟨rfl, hb⟩
  have HT := Lib.hid (HT.out.below hb)
  clear hb
  have HC := Lib.hid (tab_inner HT.out (.of 0) (of_ok (by decide) (by decide)))
  rw [show innF ((⟨3, [⟨1, .of 1, .of 0, true⟩, ⟨2, .of 2, .of 5, true⟩], 2⟩ : TS)).L (.of 0) = 0 from rfl, show ((0 : Int) != 0) = false from rfl] at HC
  go_wp2_with fail
  refine HC.out.mono ?_
  rintro e W ⟨rfl, hb⟩
  have HT := Lib.hid (HT.out.below hb)
  clear hb HC
  go_wp2_with fail
  refine (HOF.out 1 _).mono ?_
  rintro e W1 ⟨rfl, hb⟩
  have HT := Lib.hid (HT.out.below hb)
  clear hb
  go_wp2_with fail
  refine (HOF.out 1 _).mono ?_
  rintro e W1 ⟨rfl, hb⟩
  have HT := Lib.hid (HT.out.below hb)
  clear hb
  go_wp2_with fail
  refine (add_nil (.of 1) (.of 1) _).mono ?_
  rintro e W ⟨rfl, hb⟩
  have HT := Lib.hid (HT.out.below hb)
  clear hb
  go_wp2_with fail
  refine (flow_nil 1 _).mono ?_
  rintro e W ⟨rfl, hb⟩
  have HT := Lib.hid (HT.out.below hb)
  clear hb
  unfold Fl.val Fl.arr Fl.none Tup.zero
  have HC := Lib.hid (fun W' (hb : Below W.heap.size W W') => tab_dropE (s' := (⟨3, [⟨1, .of 1, .of 0, true⟩, ⟨2, .of 2, .of 5, true⟩], 2⟩ : TS)) (e0 := 6) (HT.out.below hb) 9 rfl rfl)
  go_wp2_with fail
  refine (HC.out _ ((Below.refl _ _).alloc (Nat.le_refl _) _)).mono ?_
  rintro e W2 ⟨rfl, hT, -⟩
  clear HT HC
  have HT := Lib.hid hT
  clear hT
  go_wp2_with fail
  refine (HOF.out 1 _).mono ?_
  rintro e W1 ⟨rfl, hb⟩
  have HT := Lib.hid (HT.out.below hb)
  clear hb
  go_wp2_with fail
  refine (lead_nil 1 (.of 1) _).mono ?_
  rintro e W3 ⟨rfl, hb⟩
  have HT := Lib.hid (HT.out.below hb)
  clear hb
  go_wp2_with fail
  refine (len_nil _).mono ?_
  rintro e W4 ⟨rfl, rfl⟩
  go_wp2_with fail
  refine (all_nil _).mono ?_
  rintro e W4 ⟨rfl, rfl⟩
  go_wp2_with fail
  refine (copy_nil _).mono ?_
  rintro e W4 ⟨rfl, rfl⟩
  go_wp2_with fail
  refine (drop_zero _ 1 _ (by go_simp) (by simp)).mono ?_
  rintro e W5 ⟨rfl, hb⟩
  go_wp2_with fail
  go_ret
  exact ⟨rfl, HT.out.bel.trans (((Below.refl _ _).alloc HT.out.bel.size _).trans (hb.mono (by have := HT.out.bel.size; simp; omega)))⟩
end Go.Proofs.Ytdpomneoiagpiaa
