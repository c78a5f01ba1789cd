/- told; the chapter's rows. -/
import Derived.Test.YtdebaoimhijnkaaRef3
import Derived.Test.YtdebaoimhijnkaaCopy
set_option linter.unusedVariables false
namespace Go.Proofs.Ytdebaoimhijnkaa
open Go.RowKit Go.Deep Go.BigFrame
attribute [local go_sem ↓] Go.wp_at_zero Go.wp_at_succ
set_option maxHeartbeats 3200000
set_option maxRecDepth 100000
theorem told_any {w : World} {g b nn : Nat} {s : WS} (h : Wh w g b nn s) (now : Int) (h0 : s.now ≤ now) (hM : now ≤ 1099511627776) (hnn : nn ≤ 900) (ids : List Int) (he : (dueL s.L now).map Al.id = ids) (A : Option Addr) (n c : Nat) (hn : ids.length = n)
    (hids : ∀ W, Turns (Two g b) w W → UsAt W A ids) :
    Calls Try.prog 24 #[.pointer (some ⟨g, 0, none⟩), .int .u64 now, .slice A n c] w fun e w' => e = .returned (.bool true) ∧ Wh w' g b nn (tickS s now) ∧ Turns (Two g b) w w' := by
  have HT := Lib.hid (tick_ok h now h0 hM hnn)
  have hlen : (dueL s.L now).length = n := by rw [← hn, ← he, List.length_map]
  rw [hlen, he] at HT
  have hln : n ≤ 900 := by rw [← hlen]; exact Nat.le_trans (due_sub _ _).length_le (Nat.le_trans h.len hnn)
  have HI := Lib.hid (And.intro hids hn)
  clear h h0 hM hids hlen hn he
  go_enter Try.func24, Try.ntmps24
  go_wp2_with fail
  refine HT.out.mono ?_
  rintro e W ⟨A1, c1, rfl, ho, hw, ht⟩
  have HW := Lib.hid (And.intro hw ht)
  have HS := Lib.hid (same_any A1 A c1 c n ids HI.out.2 (by omega) (UsAt.own (B := w.heap.size) (c := c1) (by rw [HI.out.2]; exact ho)) (HI.out.1 W ht))
  clear ho hw ht
  go_wp2_with fail
  refine HS.out.mono ?_
  rintro e V ⟨rfl, hV⟩
  have HV := Lib.hid hV
  clear hV
  go_wp2_with fail
  go_ret
  exact ⟨rfl, HW.out.1.below HV.out, HW.out.2.below HV.out⟩
theorem below_turns {w W W' : World} {g b : Nat} (h : Below w.heap.size w W) (ht : Turns (Two g b) W W') (hg : w.heap.size ≤ g) (hb : w.heap.size ≤ b) : Below w.heap.size w W' :=
  ⟨ht.os.trans h.os, ht.tape.trans h.tape, ht.output.trans h.output, Nat.le_trans h.size ht.size, fun k hk => (ht.block k (Nat.lt_of_lt_of_le hk h.size) (by rintro (e | e) <;> omega)).trans (h.block k hk)⟩
/-- Constants in a row, just made. -/
theorem us_new {X W : World} {g b : Nat} {arr : Array Value} {ids : List Int} (ha : arr.toList = rowU ids) (hg : g < X.heap.size) (hb : b < X.heap.size) (ht : Turns (Two g b) (X.alloc (.cells arr 23)) W) : UsAt W (some ⟨X.heap.size, 0, none⟩) ids := by
  have h1 : W.heap[X.heap.size]? = some (.cells arr 23 (0, 0)) := (ht.block _ (by simp) (by rintro (e | e) <;> omega)).trans (heap_alloc_new _ _)
  intro i x hx
  refine ⟨X.heap.size, 0, rfl, (Array.getElem?_eq_some_iff.1 h1).1, ?_⟩
  rw [cell_of h1, Nat.zero_add, ← Array.getElem?_toList, ha]
  simp [rowU, hx]
theorem us_nil (W : World) (A : Option Addr) : UsAt W A [] := fun i x h => by simp at h
theorem wakes_any (w : World) : Calls Try.prog 23 #[] w fun e w' => e = .returned (.bool true) ∧ Below w.heap.size w w' := by
  go_enter Try.func23, Try.ntmps23
  go_wp2_with fail
  refine (new_any w).mono ?_
  rintro e X0 ⟨g, b, rfl, hw, hb, h1, h2⟩
  have HG := Lib.hid (And.intro h1 h2)
  have HW := Lib.hid (And.intro hw hb)
  clear hw hb h1 h2
  go_wp2_with fail
  refine (set_ok (s := ⟨0, []⟩) HW.out.1 3 5 (by decide) (by decide) (by decide) (by decide)).mono ?_
  rintro e X1 ⟨rfl, hw, ht⟩
  have hE : setS ⟨0, []⟩ 3 5 = ⟨0, [⟨3, 5⟩]⟩ := by kernel_rfl
  rw [hE] at hw
  have HW : Hid (Wh X1 g b 1 ⟨0, [⟨3, 5⟩]⟩ ∧ Below w.heap.size w X1) := Lib.hid ⟨hw, below_turns HW.out.2 ht HG.out.1 HG.out.2⟩
  clear hw ht hE
  go_wp2_with fail
  refine (set_ok (s := ⟨0, [⟨3, 5⟩]⟩) HW.out.1 1 9 (by decide) (by decide) (by decide) (by decide)).mono ?_
  rintro e X2 ⟨rfl, hw, ht⟩
  have hE : setS ⟨0, [⟨3, 5⟩]⟩ 1 9 = ⟨0, [⟨3, 5⟩, ⟨1, 9⟩]⟩ := by kernel_rfl
  rw [hE] at hw
  have HW : Hid (Wh X2 g b 2 ⟨0, [⟨3, 5⟩, ⟨1, 9⟩]⟩ ∧ Below w.heap.size w X2) := Lib.hid ⟨hw, below_turns HW.out.2 ht HG.out.1 HG.out.2⟩
  clear hw ht hE
  go_wp2_with fail
  refine (set_ok (s := ⟨0, [⟨3, 5⟩, ⟨1, 9⟩]⟩) HW.out.1 2 5 (by decide) (by decide) (by decide) (by decide)).mono ?_
  rintro e X3 ⟨rfl, hw, ht⟩
  have hE : setS ⟨0, [⟨3, 5⟩, ⟨1, 9⟩]⟩ 2 5 = ⟨0, [⟨2, 5⟩, ⟨3, 5⟩, ⟨1, 9⟩]⟩ := by kernel_rfl
  rw [hE] at hw
  have HW : Hid (Wh X3 g b 3 ⟨0, [⟨2, 5⟩, ⟨3, 5⟩, ⟨1, 9⟩]⟩ ∧ Below w.heap.size w X3) := Lib.hid ⟨hw, below_turns HW.out.2 ht HG.out.1 HG.out.2⟩
  clear hw ht hE
  have hn : nextF ⟨0, [⟨2, 5⟩, ⟨3, 5⟩, ⟨1, 9⟩]⟩ = 5 := by kernel_rfl
  have HX := Lib.hid (next_any HW.out.1 (by decide))
  rw [hn] at HX
  simp only [List.isEmpty_cons, Bool.not_false] at HX
  clear hn
  go_wp2_with fail
  refine HX.out.mono ?_
  rintro e X4 ⟨rfl, hb⟩
  have HW := Lib.hid (And.intro (HW.out.1.below hb) (HW.out.2.trans (hb.mono HW.out.2.size)))
  clear hb HX
  go_wp2_with fail
  refine (told_any (s := ⟨0, [⟨2, 5⟩, ⟨3, 5⟩, ⟨1, 9⟩]⟩) HW.out.1 4 (by decide) (by decide) (by decide) [] (by kernel_rfl) none 0 0 rfl (fun W _ => us_nil W _)).mono ?_
  rintro e X5 ⟨rfl, hw, ht⟩
  have hE : tickS ⟨0, [⟨2, 5⟩, ⟨3, 5⟩, ⟨1, 9⟩]⟩ 4 = ⟨4, [⟨2, 5⟩, ⟨3, 5⟩, ⟨1, 9⟩]⟩ := by kernel_rfl
  rw [hE] at hw
  have HW : Hid (Wh X5 g b 3 ⟨4, [⟨2, 5⟩, ⟨3, 5⟩, ⟨1, 9⟩]⟩ ∧ Below w.heap.size w X5) := Lib.hid ⟨hw, below_turns HW.out.2 ht HG.out.1 HG.out.2⟩
  clear hw ht hE
  go_wp2_with fail
  refine calls_name fun X7 hY => ?_
  have hbY : Below X5.heap.size X5 X7 := by rw [hY]; exact bel_alloc _ _
  have hidY : ∀ W, Turns (Two g b) X7 W → UsAt W (some ⟨X5.heap.size, 0, none⟩) [2, 3] := fun W hW => us_new (arr := #[.int .u64 2, .int .u64 3]) (by kernel_rfl) HW.out.1.glt HW.out.1.blt (by rw [hY] at hW; exact hW)
  have HY := Lib.hid (And.intro hbY hidY)
  clear hY hbY hidY
  refine (told_any (s := ⟨4, [⟨2, 5⟩, ⟨3, 5⟩, ⟨1, 9⟩]⟩) (HW.out.1.below HY.out.1) 5 (by decide) (by decide) (by decide) [2, 3] (by kernel_rfl) (some ⟨X5.heap.size, 0, none⟩) 2 2 rfl HY.out.2).mono ?_
  rintro e X6 ⟨rfl, hw, ht⟩
  have hE : tickS ⟨4, [⟨2, 5⟩, ⟨3, 5⟩, ⟨1, 9⟩]⟩ 5 = ⟨5, [⟨1, 9⟩]⟩ := by kernel_rfl
  rw [hE] at hw
  have HW : Hid (Wh X6 g b 3 ⟨5, [⟨1, 9⟩]⟩ ∧ Below w.heap.size w X6) := Lib.hid ⟨hw, below_turns (HW.out.2.trans (HY.out.1.mono HW.out.2.size)) ht HG.out.1 HG.out.2⟩
  clear hw ht hE HY
  go_wp2_with fail
  refine (set_ok (s := ⟨5, [⟨1, 9⟩]⟩) HW.out.1 1 7 (by decide) (by decide) (by decide) (by decide)).mono ?_
  rintro e X8 ⟨rfl, hw, ht⟩
  have hE : setS ⟨5, [⟨1, 9⟩]⟩ 1 7 = ⟨5, [⟨1, 7⟩]⟩ := by kernel_rfl
  rw [hE] at hw
  have HW : Hid (Wh X8 g b 4 ⟨5, [⟨1, 7⟩]⟩ ∧ Below w.heap.size w X8) := Lib.hid ⟨hw, below_turns HW.out.2 ht HG.out.1 HG.out.2⟩
  clear hw ht hE
  go_wp2_with fail
  refine calls_name fun X10 hY => ?_
  have hbY : Below X8.heap.size X8 X10 := by rw [hY]; exact bel_alloc _ _
  have hidY : ∀ W, Turns (Two g b) X10 W → UsAt W (some ⟨X8.heap.size, 0, none⟩) [1] := fun W hW => us_new (arr := #[.int .u64 1]) (by kernel_rfl) HW.out.1.glt HW.out.1.blt (by rw [hY] at hW; exact hW)
  have HY := Lib.hid (And.intro hbY hidY)
  clear hY hbY hidY
  refine (told_any (s := ⟨5, [⟨1, 7⟩]⟩) (HW.out.1.below HY.out.1) 8 (by decide) (by decide) (by decide) [1] (by kernel_rfl) (some ⟨X8.heap.size, 0, none⟩) 1 1 rfl HY.out.2).mono ?_
  rintro e X9 ⟨rfl, hw, ht⟩
  have hE : tickS ⟨5, [⟨1, 7⟩]⟩ 8 = ⟨8, []⟩ := by kernel_rfl
  rw [hE] at hw
  have HW : Hid (Wh X9 g b 4 ⟨8, []⟩ ∧ Below w.heap.size w X9) := Lib.hid ⟨hw, below_turns (HW.out.2.trans (HY.out.1.mono HW.out.2.size)) ht HG.out.1 HG.out.2⟩
  clear hw ht hE HY
  go_wp2_with fail
  refine (stop_any HW.out.1 1 (by decide) (by decide)).mono ?_
  rintro e X11 ⟨rfl, hw, ht⟩
  have hE : takeS ⟨8, []⟩ 1 = ⟨8, []⟩ := by kernel_rfl
  rw [hE] at hw
  have HW := Lib.hid (And.intro hw (below_turns HW.out.2 ht HG.out.1 HG.out.2))
  rw [show (if (findA ([] : List Al) 1).isSome then (0 : Int) else 6) = 6 from by kernel_rfl]
  clear hw ht hE
  go_wp2_with fail
  refine (tick_arg HW.out.1 7 (.inl (by decide))).mono ?_
  rintro e Z ⟨rfl, rfl⟩
  go_wp2_with fail
  refine (set_ok (s := ⟨8, []⟩) HW.out.1 9 2 (by decide) (by decide) (by decide) (by decide)).mono ?_
  rintro e X12 ⟨rfl, hw, ht⟩
  have hE : setS ⟨8, []⟩ 9 2 = ⟨8, [⟨9, 2⟩]⟩ := by kernel_rfl
  rw [hE] at hw
  have HW : Hid (Wh X12 g b 5 ⟨8, [⟨9, 2⟩]⟩ ∧ Below w.heap.size w X12) := Lib.hid ⟨hw, below_turns HW.out.2 ht HG.out.1 HG.out.2⟩
  clear hw ht hE
  go_wp2_with fail
  refine calls_name fun X14 hY => ?_
  have hbY : Below X12.heap.size X12 X14 := by rw [hY]; exact bel_alloc _ _
  have hidY : ∀ W, Turns (Two g b) X14 W → UsAt W (some ⟨X12.heap.size, 0, none⟩) [9] := fun W hW => us_new (arr := #[.int .u64 9]) (by kernel_rfl) HW.out.1.glt HW.out.1.blt (by rw [hY] at hW; exact hW)
  have HY := Lib.hid (And.intro hbY hidY)
  clear hY hbY hidY
  refine (told_any (s := ⟨8, [⟨9, 2⟩]⟩) (HW.out.1.below HY.out.1) 8 (by decide) (by decide) (by decide) [9] (by kernel_rfl) (some ⟨X12.heap.size, 0, none⟩) 1 1 rfl HY.out.2).mono ?_
  rintro e X13 ⟨rfl, hw, ht⟩
  have hE : tickS ⟨8, [⟨9, 2⟩]⟩ 8 = ⟨8, []⟩ := by kernel_rfl
  rw [hE] at hw
  have HW : Hid (Wh X13 g b 5 ⟨8, []⟩ ∧ Below w.heap.size w X13) := Lib.hid ⟨hw, below_turns (HW.out.2.trans (HY.out.1.mono HW.out.2.size)) ht HG.out.1 HG.out.2⟩
  clear hw ht hE HY
  go_wp2_with fail
  go_ret
  exact ⟨rfl, HW.out.2⟩
end Go.Proofs.Ytdebaoimhijnkaa
