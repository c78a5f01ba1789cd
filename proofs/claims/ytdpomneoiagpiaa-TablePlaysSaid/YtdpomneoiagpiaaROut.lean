/- The reference's Outer. -/
import Derived.Test.YtdpomneoiagpiaaTupEq
set_option linter.unusedVariables false
namespace Go.Proofs.Ytdpomneoiagpiaa
open Go.RowKit Go.Deep Go.BigFrame
attribute [local go_sem ↓] Go.wp_at_zero Go.wp_at_succ
set_option maxHeartbeats 1600000
theorem router_any {w : World} {h c : Nat} {A : Option Addr} {s : TS} (r : Rt w h A c s) (ho : s.Ok) (x : Tup) (hx : x.Ok) :
    Calls Try.prog 29 #[.pointer (some ⟨h, 0, none⟩), x.val] w fun e w' => e = .returned (.tuple #[.int .u64 (outF s.L x), .bool (outF s.L x != 0)]) ∧ Below w.heap.size w w' := by
  have R := Lib.hid r
  have HO := Lib.hid ho
  have hm : s.L.length ≤ 1024 := Nat.le_trans ho.len ho.most2
  obtain ⟨n, hn⟩ : ∃ n, s.L.length = n := ⟨_, rfl⟩
  have HN := Lib.hid hn
  rw [hn] at hm
  obtain ⟨z, hz⟩ : ∃ z, decide (x = Tup.zero) = z := ⟨_, rfl⟩
  have HZ := Lib.hid hz
  have hneq := fun W => tup_neq x Tup.zero W
  rw [hz] at hneq
  have HNQ := Lib.hid hneq
  clear r ho hn hz hneq
  unfold Tup.val
  go_enter Try.func29, Try.ntmps29
  go_wp2_with fail
  refine wp_name fun W0 hW0 => ?_
  have hB0 : Below w.heap.size w W0 := by rw [hW0]; exact ((Below.refl _ _).alloc (Nat.le_refl _) _).alloc (by simp) _
  have hb0 : W0.heap[w.heap.size]? = some (.cells #[.int .u8 x.proto, .int .u32 x.src, .int .u32 x.dst, .int .u16 x.sp, .int .u16 x.dp] 33 (0, 0)) := by rw [hW0]; exact ((Below.refl (w.alloc (.cells #[.int .u8 x.proto, .int .u32 x.src, .int .u32 x.dst, .int .u16 x.sp, .int .u16 x.dp] 33)).heap.size _).alloc (Nat.le_refl _) _).block w.heap.size (by simp) |>.trans (heap_alloc_new w _)
  have hz0 : W0.heap[w.heap.size + 1]? = some (.cells #[.int .u8 0, .int .u32 0, .int .u32 0, .int .u16 0, .int .u16 0] 33 (0, 0)) := by
    rw [hW0]
    have := heap_alloc_new (w.alloc (.cells #[.int .u8 x.proto, .int .u32 x.src, .int .u32 x.dst, .int .u16 x.sp, .int .u16 x.dp] 33)) (.cells #[.int .u8 0, .int .u32 0, .int .u32 0, .int .u16 0, .int .u16 0] 33)
    simpa using this
  have HB := Lib.hid (And.intro hB0 (And.intro hb0 (And.intro hz0 (R.out.below hB0))))
  clear hB0 hb0 hz0 hW0
  go_loopw [7] (fun v7 wr => ∃ k : Nat, v7 = .int .i64 k ∧ k ≤ n ∧ Below W0.heap.size W0 wr ∧ ∀ j g, j < k → s.L[j]? = some g → x ≠ Tup.zero → g.out ≠ x) (fun v7 _ => n - (intOf v7).toNat)
  case atStart => exact ⟨0, rfl, Nat.zero_le _, Below.refl _ _, fun j g hj => by omega⟩
  case round =>
    obtain ⟨k, rfl, hk, hb, hnot⟩ := hrel
    have HNOT := Lib.hid hnot
    have HBW := Lib.hid hb
    have hr := HB.out.2.2.2.below hb
    have c0 := hr.c0
    rw [HN.out] at c0
    have hh := (hb.block _ (Array.getElem?_eq_some_iff.1 HB.out.2.1).1).trans HB.out.2.1
    have hh2 := (hb.block _ (Array.getElem?_eq_some_iff.1 HB.out.2.2.1).1).trans HB.out.2.2.1
    have b0 : wr.cell? ⟨w.heap.size, 0, none⟩ = some (.int .u8 x.proto) := cell_of hh 0
    have b1 : wr.cell? ⟨w.heap.size, 1, none⟩ = some (.int .u32 x.src) := cell_of hh 1
    have b2 : wr.cell? ⟨w.heap.size, 2, none⟩ = some (.int .u32 x.dst) := cell_of hh 2
    have b3 : wr.cell? ⟨w.heap.size, 3, none⟩ = some (.int .u16 x.sp) := cell_of hh 3
    have b4 : wr.cell? ⟨w.heap.size, 4, none⟩ = some (.int .u16 x.dp) := cell_of hh 4
    have z0 : wr.cell? ⟨w.heap.size + 1, 0, none⟩ = some (.int .u8 0) := cell_of hh2 0
    have z1 : wr.cell? ⟨w.heap.size + 1, 1, none⟩ = some (.int .u32 0) := cell_of hh2 1
    have z2 : wr.cell? ⟨w.heap.size + 1, 2, none⟩ = some (.int .u32 0) := cell_of hh2 2
    have z3 : wr.cell? ⟨w.heap.size + 1, 3, none⟩ = some (.int .u16 0) := cell_of hh2 3
    have z4 : wr.cell? ⟨w.heap.size + 1, 4, none⟩ = some (.int .u16 0) := cell_of hh2 4
    have HR := Lib.hid hr
    have E1 : ∀ W, (binOp .neq 33 (.agg #[.int .u8 x.proto, .int .u32 x.src, .int .u32 x.dst, .int .u16 x.sp, .int .u16 x.dp]) (.agg #[.int .u8 0, .int .u32 0, .int .u32 0, .int .u16 0, .int .u16 0])).run Try.prog W = Result.ok (.bool (!z)) W := HNQ.out
    clear hnot hb hr hh hh2
    by_cases hlt : k < n
    · obtain ⟨f, hf⟩ : ∃ f, s.L[k]? = some f := ⟨s.L[k]'(by have := HN.out; omega), List.getElem?_eq_getElem _⟩
      obtain ⟨b, o, rfl, hl, ha⟩ := HR.out.fls k f hf
      obtain ⟨k0, k1, k2, k3, k4, k5, k6, k7, k8, k9, k10, k11⟩ := ha
      have HF := Lib.hid hf
      obtain ⟨y, hy⟩ : ∃ y, decide (f.out = x) = y := ⟨_, rfl⟩
      have hyq := fun W => tup_eql f.out x W
      rw [hy] at hyq
      have E2 : ∀ W, (binOp .eql 33 (.agg #[.int .u8 f.out.proto, .int .u32 f.out.src, .int .u32 f.out.dst, .int .u16 f.out.sp, .int .u16 f.out.dp]) (.agg #[.int .u8 x.proto, .int .u32 x.src, .int .u32 x.dst, .int .u16 x.sp, .int .u16 x.dp])).run Try.prog W = Result.ok (.bool y) W := hyq
      have HY := Lib.hid hy
      clear hf hyq hy
      cases z with
      | true =>
        go_wp2_with fail
        go_quiet (fail)
        go_wp2_with fail
        go_roundw
        case rel => exact ⟨k + 1, by simp, by omega, HBW.out.trans (below_drewN (Below.refl _ _) _), fun j g hj hg hne => absurd (of_decide_eq_true HZ.out) hne⟩
        case measure => simp [intOf]; omega
      | false =>
        have hzz : x ≠ Tup.zero := of_decide_eq_false HZ.out
        have HZZ := Lib.hid hzz
        clear hzz
        cases y with
        | true =>
          go_wp2_with fail
          go_quiet (fail)
          go_wp2_with fail
          go_ret2
          have hfx : f.out = x := of_decide_eq_true HY.out
          have h0 : outF s.L x = f.id := by rw [← hfx]; exact outF_mem HO.out.outn (List.mem_of_getElem? HF.out) (by rw [hfx]; exact HZZ.out)
          have h1 := (HO.out.ids f (List.mem_of_getElem? HF.out)).1
          have h2 : (f.id != 0) = true := by simp; omega
          rw [h0, h2]
          exact ⟨rfl, HB.out.1.trans ((below_drewN HBW.out _).mono HB.out.1.size)⟩
        | false =>
          go_wp2_with fail
          go_quiet (fail)
          go_wp2_with fail
          go_roundw
          case rel =>
            refine ⟨k + 1, by simp, by omega, HBW.out.trans (below_drewN (Below.refl _ _) _), fun j g hj hg hne => ?_⟩
            by_cases e : j < k
            · exact HNOT.out j g e hg hne
            · obtain rfl : j = k := by omega
              rw [HF.out] at hg
              cases hg
              exact of_decide_eq_false HY.out
          case measure => simp [intOf]; omega
    · obtain rfl : k = n := by omega
      go_wp2_with fail
      go_ret2
      have h0 : outF s.L x = 0 := outF_none fun hne f hf => by
        obtain ⟨j, hj, e⟩ := List.getElem_of_mem hf
        exact HNOT.out j f (by have := HN.out; omega) (by rw [List.getElem?_eq_getElem hj, e]) hne
      rw [h0]
      exact ⟨rfl, HB.out.1.trans (HBW.out.mono HB.out.1.size)⟩
end Go.Proofs.Ytdpomneoiagpiaa
