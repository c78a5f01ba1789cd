/- WheelKnown, walked. -/
import Derived.Test.YtdebaoimhijnkaaNils
set_option linter.unusedVariables false
namespace Go.Proofs.Ytdebaoimhijnkaa
open Go.RowKit Go.Deep Go.BigFrame
attribute [local go_sem ↓] Go.wp_at_zero Go.wp_at_succ
set_option maxHeartbeats 16000000
set_option maxRecDepth 100000
theorem known_row (w : World) : Calls Try.prog 4 #[] w fun e w' => e = .returned (.bool true) ∧ Below w.heap.size w w' := by
  have hz := zero54
  have hsz := z54_size
  go_enter Try.func4, Try.ntmps4
  go_upto_region 3 with (fail)
  refine wp_name fun X hX => ?_
  have hbX : Below w.heap.size w X := by rw [hX]; exact bel_alloc _ _
  have hn2 : Nn X (some ⟨w.heap.size, 0, none⟩) := .inr ⟨w.heap.size, rfl, by rw [hX, cell_of (heap_alloc_new w _)]; kernel_rfl⟩
  obtain ⟨q, hq⟩ : ∃ q, w.heap.size = q := ⟨_, rfl⟩
  rw [hq] at hn2
  have H2 := Lib.hid hn2
  have H1 : Hid (Nn X none) := Lib.hid (.inl rfl)
  have HB := Lib.hid hbX
  rw [hq]
  clear hX hbX hn2 hz hsz hq
  go_wp2_with (first
    | (go_at_call 13; refine (ntick_any H1.out _).mono ?_; rintro e w' ⟨rfl, rfl⟩)
    | (go_at_call 19; refine (nat_any H2.out _).mono ?_; rintro e w' ⟨rfl, rfl⟩)
    | (go_at_call 17; refine (nnext_any H2.out).mono ?_; rintro e w' ⟨rfl, rfl⟩)
    | (go_at_call 9; refine (nset_any H1.out _ _).mono ?_; rintro e w' ⟨rfl, rfl⟩)
    | (go_at_call 11; refine (nstop_any H2.out _).mono ?_; rintro e w' ⟨rfl, rfl⟩)
    | (go_at_call 21; with_reducible refine (nnow_any H1.out).mono ?_; rintro e w' ⟨rfl, rfl⟩)
    | (go_at_call 21; refine (nnow_any H2.out).mono ?_; rintro e w' ⟨rfl, rfl⟩)
    | (go_at_call 22; with_reducible refine (nlen_any H1.out).mono ?_; rintro e w' ⟨rfl, rfl⟩)
    | (go_at_call 22; refine (nlen_any H2.out).mono ?_; rintro e w' ⟨rfl, rfl⟩)
    | (go_at_call 16; refine (ncopy_any H2.out).mono ?_; rintro e w' ⟨rfl, rfl⟩))
  refine (new_any X).mono ?_
  rintro e X0 ⟨g, b, rfl, hw, hb, h1, h2⟩
  have HG : Hid (w.heap.size ≤ g ∧ w.heap.size ≤ b) := Lib.hid ⟨Nat.le_trans HB.out.size h1, Nat.le_trans HB.out.size h2⟩
  have HW : Hid (Wh X0 g b 0 ⟨0, []⟩ ∧ Below w.heap.size w X0) := Lib.hid ⟨hw, HB.out.trans (hb.mono HB.out.size)⟩
  clear hw hb h1 h2
  go_wp2_with fail
  refine (set_arg HW.out.1 1 1099511627777 (by decide)).mono ?_
  rintro e Z ⟨rfl, rfl⟩
  go_wp2_with fail
  refine (set_ok (s := ⟨0, []⟩) HW.out.1 1 1099511627776 (by decide) (by decide) (by decide) (by decide)).mono ?_
  rintro e X1 ⟨rfl, hw, ht⟩
  have hE : setS ⟨0, []⟩ 1 1099511627776 = ⟨0, [⟨1, 1099511627776⟩]⟩ := by kernel_rfl
  rw [hE] at hw
  have HW : Hid (Wh X1 g b 1 ⟨0, [⟨1, 1099511627776⟩]⟩ ∧ Below w.heap.size w X1) := Lib.hid ⟨hw, below_turns HW.out.2 ht HG.out.1 HG.out.2⟩
  clear hw ht hE
  go_wp2_with fail
  refine (set_ok (s := ⟨0, [⟨1, 1099511627776⟩]⟩) HW.out.1 2 64 (by decide) (by decide) (by decide) (by decide)).mono ?_
  rintro e X2 ⟨rfl, hw, ht⟩
  have hE : setS ⟨0, [⟨1, 1099511627776⟩]⟩ 2 64 = ⟨0, [⟨2, 64⟩, ⟨1, 1099511627776⟩]⟩ := by kernel_rfl
  rw [hE] at hw
  have HW : Hid (Wh X2 g b 2 ⟨0, [⟨2, 64⟩, ⟨1, 1099511627776⟩]⟩ ∧ Below w.heap.size w X2) := Lib.hid ⟨hw, below_turns HW.out.2 ht HG.out.1 HG.out.2⟩
  clear hw ht hE
  go_wp2_with fail
  refine (set_ok (s := ⟨0, [⟨2, 64⟩, ⟨1, 1099511627776⟩]⟩) HW.out.1 3 128 (by decide) (by decide) (by decide) (by decide)).mono ?_
  rintro e X3 ⟨rfl, hw, ht⟩
  have hE : setS ⟨0, [⟨2, 64⟩, ⟨1, 1099511627776⟩]⟩ 3 128 = ⟨0, [⟨2, 64⟩, ⟨3, 128⟩, ⟨1, 1099511627776⟩]⟩ := by kernel_rfl
  rw [hE] at hw
  have HW : Hid (Wh X3 g b 3 ⟨0, [⟨2, 64⟩, ⟨3, 128⟩, ⟨1, 1099511627776⟩]⟩ ∧ Below w.heap.size w X3) := Lib.hid ⟨hw, below_turns HW.out.2 ht HG.out.1 HG.out.2⟩
  clear hw ht hE
  go_wp2_with fail
  refine (set_ok (s := ⟨0, [⟨2, 64⟩, ⟨3, 128⟩, ⟨1, 1099511627776⟩]⟩) HW.out.1 4 0 (by decide) (by decide) (by decide) (by decide)).mono ?_
  rintro e X4 ⟨rfl, hw, ht⟩
  have hE : setS ⟨0, [⟨2, 64⟩, ⟨3, 128⟩, ⟨1, 1099511627776⟩]⟩ 4 0 = ⟨0, [⟨4, 0⟩, ⟨2, 64⟩, ⟨3, 128⟩, ⟨1, 1099511627776⟩]⟩ := by kernel_rfl
  rw [hE] at hw
  have HW : Hid (Wh X4 g b 4 ⟨0, [⟨4, 0⟩, ⟨2, 64⟩, ⟨3, 128⟩, ⟨1, 1099511627776⟩]⟩ ∧ Below w.heap.size w X4) := Lib.hid ⟨hw, below_turns HW.out.2 ht HG.out.1 HG.out.2⟩
  clear hw ht hE
  go_wp2_with fail
  refine (tick_arg HW.out.1 1099511627777 (.inr (by decide))).mono ?_
  rintro e Z ⟨rfl, rfl⟩
  go_wp2_with fail
  refine calls_name fun X6 hY => ?_
  have hbY : Below X4.heap.size X4 X6 := by rw [hY]; exact bel_alloc _ _
  have hidY : ∀ W, Turns (Two g b) X6 W → UsAt W (some ⟨X4.heap.size, 0, none⟩) [4] := fun W hW => us_new (arr := #[.int .u64 4]) (by kernel_rfl) HW.out.1.glt HW.out.1.blt (by rw [hY] at hW; exact hW)
  have HY := Lib.hid (And.intro hbY hidY)
  clear hY hbY hidY
  refine (told_any (s := ⟨0, [⟨4, 0⟩, ⟨2, 64⟩, ⟨3, 128⟩, ⟨1, 1099511627776⟩]⟩) (HW.out.1.below HY.out.1) 0 (by decide) (by decide) (by decide) [4] (by kernel_rfl) (some ⟨X4.heap.size, 0, none⟩) 1 1 rfl HY.out.2).mono ?_
  rintro e X5 ⟨rfl, hw, ht⟩
  have hE : tickS ⟨0, [⟨4, 0⟩, ⟨2, 64⟩, ⟨3, 128⟩, ⟨1, 1099511627776⟩]⟩ 0 = ⟨0, [⟨2, 64⟩, ⟨3, 128⟩, ⟨1, 1099511627776⟩]⟩ := by kernel_rfl
  rw [hE] at hw
  have HW : Hid (Wh X5 g b 4 ⟨0, [⟨2, 64⟩, ⟨3, 128⟩, ⟨1, 1099511627776⟩]⟩ ∧ Below w.heap.size w X5) := Lib.hid ⟨hw, below_turns (HW.out.2.trans (HY.out.1.mono HW.out.2.size)) ht HG.out.1 HG.out.2⟩
  clear hw ht hE HY
  go_wp2_with fail
  refine calls_name fun X8 hY => ?_
  have hbY : Below X5.heap.size X5 X8 := by rw [hY]; exact bel_alloc _ _
  have hidY : ∀ W, Turns (Two g b) X8 W → UsAt W (some ⟨X5.heap.size, 0, none⟩) [2] := fun W hW => us_new (arr := #[.int .u64 2]) (by kernel_rfl) HW.out.1.glt HW.out.1.blt (by rw [hY] at hW; exact hW)
  have HY := Lib.hid (And.intro hbY hidY)
  clear hY hbY hidY
  refine (told_any (s := ⟨0, [⟨2, 64⟩, ⟨3, 128⟩, ⟨1, 1099511627776⟩]⟩) (HW.out.1.below HY.out.1) 64 (by decide) (by decide) (by decide) [2] (by kernel_rfl) (some ⟨X5.heap.size, 0, none⟩) 1 1 rfl HY.out.2).mono ?_
  rintro e X7 ⟨rfl, hw, ht⟩
  have hE : tickS ⟨0, [⟨2, 64⟩, ⟨3, 128⟩, ⟨1, 1099511627776⟩]⟩ 64 = ⟨64, [⟨3, 128⟩, ⟨1, 1099511627776⟩]⟩ := by kernel_rfl
  rw [hE] at hw
  have HW : Hid (Wh X7 g b 4 ⟨64, [⟨3, 128⟩, ⟨1, 1099511627776⟩]⟩ ∧ Below w.heap.size w X7) := Lib.hid ⟨hw, below_turns (HW.out.2.trans (HY.out.1.mono HW.out.2.size)) ht HG.out.1 HG.out.2⟩
  clear hw ht hE HY
  go_wp2_with fail
  refine (set_ok (s := ⟨64, [⟨3, 128⟩, ⟨1, 1099511627776⟩]⟩) HW.out.1 3 64 (by decide) (by decide) (by decide) (by decide)).mono ?_
  rintro e X9 ⟨rfl, hw, ht⟩
  have hE : setS ⟨64, [⟨3, 128⟩, ⟨1, 1099511627776⟩]⟩ 3 64 = ⟨64, [⟨3, 64⟩, ⟨1, 1099511627776⟩]⟩ := by kernel_rfl
  rw [hE] at hw
  have HW : Hid (Wh X9 g b 5 ⟨64, [⟨3, 64⟩, ⟨1, 1099511627776⟩]⟩ ∧ Below w.heap.size w X9) := Lib.hid ⟨hw, below_turns HW.out.2 ht HG.out.1 HG.out.2⟩
  clear hw ht hE
  go_wp2_with fail
  refine calls_name fun X11 hY => ?_
  have hbY : Below X9.heap.size X9 X11 := by rw [hY]; exact bel_alloc _ _
  have hidY : ∀ W, Turns (Two g b) X11 W → UsAt W (some ⟨X9.heap.size, 0, none⟩) [3] := fun W hW => us_new (arr := #[.int .u64 3]) (by kernel_rfl) HW.out.1.glt HW.out.1.blt (by rw [hY] at hW; exact hW)
  have HY := Lib.hid (And.intro hbY hidY)
  clear hY hbY hidY
  refine (told_any (s := ⟨64, [⟨3, 64⟩, ⟨1, 1099511627776⟩]⟩) (HW.out.1.below HY.out.1) 64 (by decide) (by decide) (by decide) [3] (by kernel_rfl) (some ⟨X9.heap.size, 0, none⟩) 1 1 rfl HY.out.2).mono ?_
  rintro e X10 ⟨rfl, hw, ht⟩
  have hE : tickS ⟨64, [⟨3, 64⟩, ⟨1, 1099511627776⟩]⟩ 64 = ⟨64, [⟨1, 1099511627776⟩]⟩ := by kernel_rfl
  rw [hE] at hw
  have HW : Hid (Wh X10 g b 5 ⟨64, [⟨1, 1099511627776⟩]⟩ ∧ Below w.heap.size w X10) := Lib.hid ⟨hw, below_turns (HW.out.2.trans (HY.out.1.mono HW.out.2.size)) ht HG.out.1 HG.out.2⟩
  clear hw ht hE HY
  go_wp2_with fail
  refine calls_name fun X13 hY => ?_
  have hbY : Below X10.heap.size X10 X13 := by rw [hY]; exact bel_alloc _ _
  have hidY : ∀ W, Turns (Two g b) X13 W → UsAt W (some ⟨X10.heap.size, 0, none⟩) [1] := fun W hW => us_new (arr := #[.int .u64 1]) (by kernel_rfl) HW.out.1.glt HW.out.1.blt (by rw [hY] at hW; exact hW)
  have HY := Lib.hid (And.intro hbY hidY)
  clear hY hbY hidY
  refine (told_any (s := ⟨64, [⟨1, 1099511627776⟩]⟩) (HW.out.1.below HY.out.1) 1099511627776 (by decide) (by decide) (by decide) [1] (by kernel_rfl) (some ⟨X10.heap.size, 0, none⟩) 1 1 rfl HY.out.2).mono ?_
  rintro e X12 ⟨rfl, hw, ht⟩
  have hE : tickS ⟨64, [⟨1, 1099511627776⟩]⟩ 1099511627776 = ⟨1099511627776, []⟩ := by kernel_rfl
  rw [hE] at hw
  have HW : Hid (Wh X12 g b 5 ⟨1099511627776, []⟩ ∧ Below w.heap.size w X12) := Lib.hid ⟨hw, below_turns (HW.out.2.trans (HY.out.1.mono HW.out.2.size)) ht HG.out.1 HG.out.2⟩
  clear hw ht hE HY
  have HE := Lib.hid (len_any HW.out.1)
  simp only [List.length_nil] at HE
  go_wp2_with fail
  refine HE.out.mono ?_
  rintro e Z ⟨rfl, rfl⟩
  clear HE
  go_wp2_with fail
  refine (set_ok (s := ⟨1099511627776, []⟩) HW.out.1 1 0 (by decide) (by decide) (by decide) (by decide)).mono ?_
  rintro e X14 ⟨rfl, hw, ht⟩
  have hE : setS ⟨1099511627776, []⟩ 1 0 = ⟨1099511627776, [⟨1, 0⟩]⟩ := by kernel_rfl
  rw [hE] at hw
  have HW : Hid (Wh X14 g b 6 ⟨1099511627776, [⟨1, 0⟩]⟩ ∧ Below w.heap.size w X14) := Lib.hid ⟨hw, below_turns HW.out.2 ht HG.out.1 HG.out.2⟩
  clear hw ht hE
  go_wp2_with fail
  refine calls_name fun X16 hY => ?_
  have hbY : Below X14.heap.size X14 X16 := by rw [hY]; exact bel_alloc _ _
  have hidY : ∀ W, Turns (Two g b) X16 W → UsAt W (some ⟨X14.heap.size, 0, none⟩) [1] := fun W hW => us_new (arr := #[.int .u64 1]) (by kernel_rfl) HW.out.1.glt HW.out.1.blt (by rw [hY] at hW; exact hW)
  have HY := Lib.hid (And.intro hbY hidY)
  clear hY hbY hidY
  refine (told_any (s := ⟨1099511627776, [⟨1, 0⟩]⟩) (HW.out.1.below HY.out.1) 1099511627776 (by decide) (by decide) (by decide) [1] (by kernel_rfl) (some ⟨X14.heap.size, 0, none⟩) 1 1 rfl HY.out.2).mono ?_
  rintro e X15 ⟨rfl, hw, ht⟩
  have hE : tickS ⟨1099511627776, [⟨1, 0⟩]⟩ 1099511627776 = ⟨1099511627776, []⟩ := by kernel_rfl
  rw [hE] at hw
  have HW : Hid (Wh X15 g b 6 ⟨1099511627776, []⟩ ∧ Below w.heap.size w X15) := Lib.hid ⟨hw, below_turns (HW.out.2.trans (HY.out.1.mono HW.out.2.size)) ht HG.out.1 HG.out.2⟩
  clear hw ht hE HY
  go_wp2_with fail
  refine (wakes_any _).mono ?_
  rintro e Z ⟨rfl, hz⟩
  have HZ := Lib.hid (HW.out.2.trans (hz.mono HW.out.2.size))
  clear hz
  go_wp2_with fail
  go_ret
  exact ⟨rfl, HZ.out⟩
end Go.Proofs.Ytdebaoimhijnkaa
