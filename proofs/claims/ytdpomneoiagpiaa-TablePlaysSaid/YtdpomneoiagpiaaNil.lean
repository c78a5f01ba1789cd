/- No table. -/
import Derived.Test.YtdpomneoiagpiaaAwk
set_option linter.unusedVariables false
namespace Go.Proofs.Ytdpomneoiagpiaa
open Go.RowKit Go.Deep Go.BigFrame
attribute [local go_sem ↓] Go.wp_at_zero Go.wp_at_succ
set_option maxHeartbeats 800000
theorem at_nil40 (id : Int) (p : Addr) (w : World) :
    Calls Try.prog 37 #[.pointer none, .int .u64 id, .func (.func 40) #[] #[.pointer (some p)]] w fun e w' => e = .returned (.int .i64 2) ∧ Below w.heap.size w w' := by
  go_enter Try.func37, Try.ntmps37
  go_wp2_with (go_at_call 32; refine (none_nil _).mono ?_; rintro e w' ⟨rfl, rfl⟩)
  go_ret
  exact ⟨rfl, (Below.refl _ _).alloc (Nat.le_refl _) _⟩
theorem at_nil41 (id : Int) (p p2 p3 : Addr) (w : World) :
    Calls Try.prog 37 #[.pointer none, .int .u64 id, .func (.func 41) #[] #[.pointer (some p), .pointer (some p2), .pointer (some p3)]] w fun e w' => e = .returned (.int .i64 2) ∧ Below w.heap.size w w' := by
  go_enter Try.func37, Try.ntmps37
  go_wp2_with (go_at_call 32; refine (none_nil _).mono ?_; rintro e w' ⟨rfl, rfl⟩)
  go_ret
  exact ⟨rfl, (Below.refl _ _).alloc (Nat.le_refl _) _⟩
theorem at_zero43 (g : Nat) (id : Int) (p : Addr) (w : World) (hc : w.cell? ⟨g, 0, none⟩ = some (.int .i64 0)) (hg : g < w.heap.size) :
    Calls Try.prog 37 #[.pointer (some ⟨g, 0, none⟩), .int .u64 id, .func (.func 43) #[] #[.pointer (some p)]] w fun e w' => e = .returned (.int .i64 2) ∧ Below w.heap.size w w' := by
  have HN := Lib.hid (fun o => none_zero g (w.alloc o) ((((Below.refl w.heap.size w).alloc (Nat.le_refl _) o).cell (p := ⟨g, 0, none⟩) hg).trans hc))
  clear hc
  go_enter Try.func37, Try.ntmps37
  go_wp2_with fail
  refine (HN.out _).mono ?_
  rintro e w' ⟨rfl, rfl⟩
  go_wp2_with fail
  go_ret
  exact ⟨rfl, (Below.refl _ _).alloc (Nat.le_refl _) _⟩
theorem drop_zero (g : Nat) (id : Int) (w : World) (hc : w.cell? ⟨g, 0, none⟩ = some (.int .i64 0)) (hg : g < w.heap.size) :
    Calls Try.prog 18 #[.pointer (some ⟨g, 0, none⟩), .int .u64 id] w fun e w' => e = .returned (.int .i64 2) ∧ Below w.heap.size w w' := by
  have hB := fun o => (Below.refl w.heap.size w).alloc (Nat.le_refl _) o
  have HC := Lib.hid (fun o p => at_zero43 g id p (w.alloc o) (((hB o).cell (p := ⟨g, 0, none⟩) hg).trans hc) (by simp; omega))
  clear hc
  go_enter Try.func18, Try.ntmps18
  go_wp2_with fail
  refine (HC.out _ _).mono ?_
  rintro e w' ⟨rfl, hb⟩
  go_wp2_with fail
  go_ret
  exact ⟨rfl, (hB (Obj.cells #[.pointer (some ⟨g, 0, none⟩)] 22)).trans (hb.mono (by simp))⟩
theorem add_nil (i o : Tup) (w : World) : Calls Try.prog 10 #[.pointer none, i.val, o.val] w fun e w' => e = .returned (.tuple #[.int .u64 0, .int .u64 0, .int .i64 2]) ∧ Below w.heap.size w w' := by
  unfold Tup.val
  go_enter Try.func10, Try.ntmps10
  go_wp2_with (go_at_call 32; refine (none_nil _).mono ?_; rintro e w' ⟨rfl, rfl⟩)
  go_ret3
  refine ⟨rfl, ?_⟩
  repeat (first | exact Below.refl _ _ | exact (Below.refl _ _).alloc (Nat.le_refl _) _ | refine Below.setCell ?_ (by simp) _ | refine Below.alloc ?_ (by simp) _)
theorem len_nil (w : World) : Calls Try.prog 14 #[.pointer none] w fun e w' => e = .returned (.int .i64 0) ∧ w = w' := by
  go_enter Try.func14, Try.ntmps14
  go_wp2_with (go_at_call 32; refine (none_nil _).mono ?_; rintro e w' ⟨rfl, rfl⟩)
  go_ret
  exact ⟨rfl, rfl⟩
theorem all_nil (w : World) : Calls Try.prog 19 #[.pointer none] w fun e w' => e = .returned (.slice none 0 0) ∧ w = w' := by
  go_enter Try.func19, Try.ntmps19
  go_wp2_with (go_at_call 32; refine (none_nil _).mono ?_; rintro e w' ⟨rfl, rfl⟩)
  go_ret
  exact ⟨rfl, rfl⟩
theorem copy_nil (w : World) : Calls Try.prog 27 #[.pointer none] w fun e w' => e = .returned (.pointer none) ∧ w = w' := by
  go_enter Try.func27, Try.ntmps27
  go_wp2_with (go_at_call 32; refine (none_nil _).mono ?_; rintro e w' ⟨rfl, rfl⟩)
  go_ret
  exact ⟨rfl, rfl⟩
theorem lead_nil (id : Int) (o : Tup) (w : World) : Calls Try.prog 15 #[.pointer none, .int .u64 id, o.val] w fun e w' => e = .returned (.int .i64 2) ∧ Below w.heap.size w w' := by
  have HC := Lib.hid (fun p p2 p3 W => at_nil41 id p p2 p3 W)
  unfold Tup.val
  go_enter Try.func15, Try.ntmps15
  go_wp2_with fail
  refine (HC.out _ _ _ _).mono ?_
  rintro e w' ⟨rfl, hb⟩
  go_wp2_with fail
  go_ret
  exact ⟨rfl, ((((Below.refl _ _).alloc (Nat.le_refl _) _).alloc (by simp) _).alloc (by simp; omega) _).trans (hb.mono (by simp; omega))⟩
theorem flow_nil (id : Int) (w : World) : Calls Try.prog 13 #[.pointer none, .int .u64 id] w fun e w' => e = .returned (.tuple #[Fl.none.val, .bool false]) ∧ Below w.heap.size w w' := by
  have hB := fun o => (Below.refl w.heap.size w).alloc (Nat.le_refl _) o
  have HC := Lib.hid (fun p W => at_nil40 id p W)
  go_enter Try.func13, Try.ntmps13
  go_wp2_with fail
  refine (HC.out _ _).mono ?_
  rintro e w' ⟨rfl, hb⟩
  have HBB := Lib.hid hb
  have hh : w'.heap[w.heap.size]? = some (.cells Fl.none.arr 38 (0, 0)) := (hb.block _ (by simp)).trans (heap_alloc_new w _)
  have u0 : w'.cell? ⟨w.heap.size, 0, .none⟩ = some (.int .u64 0) := cell_of hh 0
  have u1 : w'.cell? ⟨w.heap.size, 1, .none⟩ = some (.int .u8 0) := cell_of hh 1
  have u2 : w'.cell? ⟨w.heap.size, 2, .none⟩ = some (.int .u32 0) := cell_of hh 2
  have u3 : w'.cell? ⟨w.heap.size, 3, .none⟩ = some (.int .u32 0) := cell_of hh 3
  have u4 : w'.cell? ⟨w.heap.size, 4, .none⟩ = some (.int .u16 0) := cell_of hh 4
  have u5 : w'.cell? ⟨w.heap.size, 5, .none⟩ = some (.int .u16 0) := cell_of hh 5
  have u6 : w'.cell? ⟨w.heap.size, 6, .none⟩ = some (.int .u8 0) := cell_of hh 6
  have u7 : w'.cell? ⟨w.heap.size, 7, .none⟩ = some (.int .u32 0) := cell_of hh 7
  have u8 : w'.cell? ⟨w.heap.size, 8, .none⟩ = some (.int .u32 0) := cell_of hh 8
  have u9 : w'.cell? ⟨w.heap.size, 9, .none⟩ = some (.int .u16 0) := cell_of hh 9
  have u10 : w'.cell? ⟨w.heap.size, 10, .none⟩ = some (.int .u16 0) := cell_of hh 10
  have u11 : w'.cell? ⟨w.heap.size, 11, .none⟩ = some (.bool false) := cell_of hh 11
  have hf : ∀ i, w'.frozen? ⟨w.heap.size, i, .none⟩ = false := fun i => free_of hh i
  have HH := Lib.hid hh
  clear hh hb
  go_wp2_with fail
  refine post_name fun W hW => ?_
  have hW' : W = w'.setCells w.heap.size 0 Fl.none.cells := hW
  clear hW
  have hh2 : W.heap[w.heap.size]? = some (.cells Fl.none.arr 38 (0, 0)) := by rw [hW']; exact store12 HH.out rfl Fl.none
  refine bodyPost_ret (res13 hh2 _ false rfl rfl) rfl ⟨rfl, ?_⟩
  rw [hW']
  exact grown_bel ((hB _).trans (HBB.out.mono (by simp))) (grown_setCells _ _ _ _) (by rintro k e; cases e; exact Nat.le_refl _)
end Go.Proofs.Ytdpomneoiagpiaa
