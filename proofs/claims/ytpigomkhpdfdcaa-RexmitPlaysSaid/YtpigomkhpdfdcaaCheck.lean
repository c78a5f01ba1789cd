/- RexmitTrue's function value: what a piece tells is what was written. -/
import Derived.Test.YtpigomkhpdfdcaaFar
import Derived.Test.YtpigomkhpdfdcaaSlc
set_option linter.unusedVariables false
namespace Go.Proofs.Ytpigomkhpdfdcaa
open Go.RowKit Go.Deep Go.BigFrame
attribute [local go_sem ↓] Go.wp_at_zero Go.wp_at_succ

set_option maxHeartbeats 1600000 in
set_option maxRecDepth 100000 in
theorem check_ok (bx b7 b8 b9 : Nat) (AT sq : Int) (a p t L n cw cd most : Nat) (Ad Aw : Option Addr) (ws ps : List Int) (w : World)
    (cx : w.cell? ⟨bx, 0, none⟩ = some (.int .u32 AT)) (c7 : w.cell? ⟨b7, 0, none⟩ = some (.slice Aw n cw)) (c8 : w.cell? ⟨b8, 0, none⟩ = some (.int .i64 a))
    (h9 : w.heap[b9]? = some (.cells #[.int .i64 t] 3 (0, 0))) (hw : Byt w (.slice Aw n cw) ws) (hp : Byt w (.slice Ad L cd) ps) (hsq : ahd AT sq = p)
    (h1 : a ≤ p) (h2 : p + L ≤ n) (h3 : 0 < L) (h4 : L ≤ most) (h5 : n ≤ 1000000) (h6 : t ≤ 1000000) (hps : ps = (ws.drop p).take L) :
    Calls Try.prog 21 #[.agg #[.int .u32 sq, .slice Ad L cd], .int .i64 most, .pointer (some ⟨bx, 0, none⟩), .pointer (some ⟨b8, 0, none⟩), .pointer (some ⟨b7, 0, none⟩), .pointer (some ⟨b9, 0, none⟩)] w fun e w' =>
      e = .returned (.bool true) ∧ w.grownBy w' (some b9) ∧ w'.heap[b9]? = some (.cells #[.int .i64 (max t (p + L) : Nat)] 3 (0, 0)) := by
  have HB : ∀ o, Below w.heap.size w (w.alloc o) := fun o => (Below.refl _ _).alloc (Nat.le_refl _) o
  have lx := World.block_lt_of_cell? w _ cx
  have l7 := World.block_lt_of_cell? w _ c7
  have l8 := World.block_lt_of_cell? w _ c8
  have l9 : b9 < w.heap.size := (Array.getElem?_eq_some_iff.1 h9).1
  have ex := fun o => ((HB o).cell lx).trans cx
  have e7 := fun o => ((HB o).cell l7).trans c7
  have e8 := fun o => ((HB o).cell l8).trans c8
  have g9 := fun o => ((HB o).block b9 l9).trans h9
  have e9 : ∀ o, (w.alloc o).cell? ⟨b9, 0, none⟩ = some (.int .i64 t) := fun o => cell_of (g9 o) 0
  have f9 := fun o => free_of (g9 o) 0
  obtain ⟨M, hM⟩ : ∃ M : Nat, (if (t : Int) < (p : Int) + (L : Int) then (p : Int) + (L : Int) else (t : Int)) = (M : Int) := ⟨max t (p + L), by split <;> omega⟩
  have hMx : max t (p + L) = M := by split at hM <;> omega
  rw [hMx]
  obtain ⟨bw, ow, rfl, hlw, -⟩ := hw.get (i := p) (by omega)
  obtain ⟨bd, od, rfl, hld, -⟩ := hp.get (i := 0) h3
  have HWc : Hid (∀ i, i < n → w.cell? ⟨bw, ow + i, none⟩ = some (.int .u8 (ws.getD i 0))) := Lib.hid (fun i hi => by obtain ⟨b, o, e, _, hc⟩ := hw.get hi; cases e; exact hc)
  have HPc : Hid (∀ i, i < L → w.cell? ⟨bd, od + i, none⟩ = some (.int .u8 (ws.getD (p + i) 0))) := Lib.hid (fun i hi => by
    obtain ⟨b, o, e, _, hc⟩ := hp.get hi
    cases e
    rw [hc, hps]
    simp [List.getD, hi])
  have HG9 := Lib.hid h9
  have HSQ := Lib.hid hsq
  have t1 : decide (p < a) = false := decide_eq_false (by omega)
  have t2 : decide ((n : Int) < (p : Int) + (L : Int)) = false := decide_eq_false (by omega)
  have t3 : ((L : Int) == 0) = false := by simp; omega
  have t4 : decide (most < L) = false := decide_eq_false (by omega)
  clear hMx cx c7 c8 h9 hw hp hps g9 hsq l7 l8 lx
  go_enter Try.func21, Try.ntmps21
  go_wp2_with (go_at_call 22; refine (ahead_any _ _ _).mono ?_; rw [HSQ.out]; rintro e w' ⟨rfl, rfl⟩)
  go_loop [47] (fun v47 => ∃ i : Nat, i ≤ L ∧ v47 = .int .i64 i) (fun v47 => L - (intOf v47).toNat)
  case atStart => exact ⟨0, by omega, rfl⟩
  case round =>
    obtain ⟨i, hi, rfl⟩ := hrel
    by_cases hlt : i < L
    · obtain ⟨v, hv⟩ : ∃ v, ws.getD (p + i) 0 = v := ⟨_, rfl⟩
      have k1 := fun o => ((HB o).cell (p := ⟨bw, ow + (p + i), none⟩) hlw).trans (HWc.out (p + i) (by omega))
      have k2 := fun o => ((HB o).cell (p := ⟨bd, od + i, none⟩) hld).trans (HPc.out i hlt)
      rw [hv] at k1 k2
      clear hv
      go_wp2_with fail
      go_round
      case rel => exact ⟨i + 1, by omega, by go_num⟩
      case measure => simp [intOf]; omega
    · obtain rfl : L = i := by omega
      go_wp2_with fail
      go_ret
      refine ⟨rfl, grown_alloc (grown_setCell _ _ _ _), ?_⟩
      exact (((Below.refl _ _).alloc (Nat.le_refl _) _).block b9 (by simpa [World.setCell] using l9)).trans (heap_set HG9.out _)
end Go.Proofs.Ytpigomkhpdfdcaa
