/- The reference's Lead. -/
import Derived.Test.YtdpomneoiagpiaaRRdy
set_option linter.unusedVariables false
namespace Go.Proofs.Ytdpomneoiagpiaa
open Go.RowKit Go.Deep Go.BigFrame
attribute [local go_sem ↓] Go.wp_at_zero Go.wp_at_succ
theorem rlead_fin {w V Y : World} {h c ba k : Nat} {s : TS} {f : Fl} {o : Tup} {cur : Array Value} (r : Rt w h (some ⟨ba, 0, none⟩) c s) (hf : s.L[k]? = some f) (hbc : w.heap[ba]? = some (.cells cur 62 (0, 0))) (hbh : ba ≠ h) (hb : Below w.heap.size w V)
    (hY : Y = V.drew.setCells ba (k * 12 + 6) o.cells) : Rt Y h (some ⟨ba, 0, none⟩) c (modS s k (outTo o)) ∧ Turns (RBlk h (some ⟨ba, 0, none⟩)) w Y := by
  have hbl := (Array.getElem?_eq_some_iff.1 hbc).1
  have hVb : V.drew.heap[ba]? = some (.cells cur 62 (0, 0)) := (hb.block _ hbl).trans hbc
  obtain ⟨cur', hYb, hcs, hcc⟩ := heap_setCells o.cells (k * 12 + 6) hVb
  have hg : V.drew.grownBy Y (some ba) := by rw [hY]; exact grown_setCells _ _ _ _
  rw [← hY] at hYb
  have hml : (modS s k (outTo o)).L.length = s.L.length := List.length_modify ..
  obtain ⟨hsz, hcr⟩ := own_cur62 r.own rfl hbc
  have hkl := (List.getElem?_eq_some_iff.1 hf).1
  have h5 : o.cells.length = 5 := rfl
  refine ⟨⟨?_, ?_⟩, (Turns.below hb).drew.step hg (by rintro k' e; cases e; exact .inl (.inr rfl))⟩
  · rw [hg.block _ (Nat.lt_of_lt_of_le r.lt hb.size) (by simpa using hbh.symm), show V.drew.heap[h]? = V.heap[h]? from rfl, hb.block _ r.lt, r.heap]
    unfold rcells
    rw [hml]
    rfl
  · rw [hml]
    refine own_modify62 (outTo o) r.own hf rfl hbc hYb hcs fun j hj => ?_
    rw [hcc j, h5]
    by_cases hj2 : k * 12 ≤ j ∧ j < k * 12 + 12
    · rw [if_pos hj2, out_arr o f (j - k * 12) (by omega)]
      by_cases hj3 : 6 ≤ j - k * 12 ∧ j - k * 12 < 11
      · rw [if_pos hj3, if_pos (by omega), show j - (k * 12 + 6) = j - k * 12 - 6 by omega]
      · rw [if_neg hj3, if_neg (by omega), ← hcr k f hf (j - k * 12) (by omega)]
        congr 1
        omega
    · rw [if_neg hj2, if_neg (by omega)]
set_option maxHeartbeats 1600000
theorem rlead_any {w : World} {h c : Nat} {A : Option Addr} {s : TS} (r : Rt w h A c s) (ho : s.Ok) (id : Int) (o : Tup) (hoo : o.Ok) :
    Calls Try.prog 23 #[.pointer (some ⟨h, 0, none⟩), .int .u64 id, o.val] w fun e w' => e = .returned (.int .i64 (leadE s id o)) ∧ Rt w' h A c (leadS s id o) ∧ Turns (RBlk h A) w w' := by
  have hB : ∀ o, Below w.heap.size w (w.alloc o) := fun o => (Below.refl w.heap.size w).alloc (Nat.le_refl _) o
  have R := Lib.hid r
  have HAT := Lib.hid (fun W (hW : Below w.heap.size w W) => rat_any (r.below hW) ho id)
  have HOU := Lib.hid (fun W (hW : Below w.heap.size w W) => router_any (r.below hW) ho o hoo)
  obtain ⟨W0, hW0⟩ : ∃ W0, W0 = w.alloc (.cells #[.int .u8 o.proto, .int .u32 o.src, .int .u32 o.dst, .int .u16 o.sp, .int .u16 o.dp] 33) := ⟨_, rfl⟩
  have hB0 : Below w.heap.size w W0 := by rw [hW0]; exact hB _
  have hh : W0.heap[w.heap.size]? = some (.cells #[.int .u8 o.proto, .int .u32 o.src, .int .u32 o.dst, .int .u16 o.sp, .int .u16 o.dp] 33 (0, 0)) := by rw [hW0]; exact heap_alloc_new w _
  have u0 : W0.cell? ⟨w.heap.size, 0, none⟩ = some (.int .u8 o.proto) := cell_of hh 0
  have u1 : W0.cell? ⟨w.heap.size, 1, none⟩ = some (.int .u32 o.src) := cell_of hh 1
  have u2 : W0.cell? ⟨w.heap.size, 2, none⟩ = some (.int .u32 o.dst) := cell_of hh 2
  have u3 : W0.cell? ⟨w.heap.size, 3, none⟩ = some (.int .u16 o.sp) := cell_of hh 3
  have u4 : W0.cell? ⟨w.heap.size, 4, none⟩ = some (.int .u16 o.dp) := cell_of hh 4
  have HW := Lib.hid (And.intro hB0 hh)
  have HW0 := Lib.hid hW0
  unfold Tup.val at *
  cases hk : findK s.L id with
  | none =>
    have e1 : leadE s id o = 6 := by unfold leadE; rw [hk]
    have e2 : leadS s id o = s := by unfold leadS; rw [hk]
    rw [e1, e2]
    rw [find_none hk] at HAT
    clear r ho hk e1 e2 hB0 hh hW0
    go_enter Try.func23, Try.ntmps23
    go_wp2_with fail
    refine (HAT.out _ (hB _)).mono ?_
    rintro e w' ⟨rfl, hw'⟩
    subst hw'
    go_wp2_with fail
    go_ret
    exact ⟨rfl, R.out.below (hB _), Turns.below (hB _)⟩
  | some k =>
    obtain ⟨f, hf, hid, hix, hkl⟩ := find_hit hk
    obtain ⟨OF, hOF⟩ : ∃ OF, outF s.L o = OF := ⟨_, rfl⟩
    have e1 : leadE s id o = if OF ≠ 0 ∧ OF ≠ id then 9 else 0 := by unfold leadE; rw [hk, hOF]
    have e2 : leadS s id o = if OF ≠ 0 ∧ OF ≠ id then s else modS s k (outTo o) := by unfold leadS; rw [hk, hOF]; rfl
    rw [hix] at HAT
    rw [hOF] at HOU
    obtain ⟨ba, cur, rfl, hbl, hat, hbc, hbh⟩ := r.at hf
    have hlm : s.L.length ≤ 1024 := Nat.le_trans ho.len ho.most2
    obtain ⟨n, hn⟩ : ∃ n, s.L.length = n := ⟨_, rfl⟩
    rw [hn] at hlm hkl
    have HN := Lib.hid hn
    have hk0 : ¬ ((k : Int) < 0) := by omega
    have HF := Lib.hid hf
    have HF2 := Lib.hid (And.intro hbc hbh)
    have HAL := Lib.hid hat
    clear r ho hk hid hix hf hat hbc hbl hbh hn hOF
    by_cases hz : OF = 0
    · rw [e1, e2, if_neg (fun q => q.1 hz), if_neg (fun q => q.1 hz)]
      have t1 : (OF != 0) = false := by simpa using hz
      clear e1 e2 hz
      clear hB0 hh hW0
      go_enter Try.func23, Try.ntmps23
      go_wp2_with fail
      refine (HAT.out _ (hB _)).mono ?_
      rintro e w' ⟨rfl, hw'⟩
      obtain rfl : w' = W0 := hw'.symm.trans HW0.out.symm
      clear hw'
      go_wp2_with fail
      refine (HOU.out w' HW.out.1).mono ?_
      rintro e V ⟨rfl, hb⟩
      have hbV : Below w.heap.size w V := HW.out.1.trans (hb.mono HW.out.1.size)
      have hoV : V.heap[w.heap.size]? = some (.cells #[.int .u8 o.proto, .int .u32 o.src, .int .u32 o.dst, .int .u16 o.sp, .int .u16 o.dp] 33 (0, 0)) := (hb.block _ (Array.getElem?_eq_some_iff.1 HW.out.2).1).trans HW.out.2
      have hrV := R.out.below hbV
      have c0 := hrV.c0
      rw [HN.out] at c0
      have v0 : V.cell? ⟨w.heap.size, 0, none⟩ = some (.int .u8 o.proto) := cell_of hoV 0
      have v1 : V.cell? ⟨w.heap.size, 1, none⟩ = some (.int .u32 o.src) := cell_of hoV 1
      have v2 : V.cell? ⟨w.heap.size, 2, none⟩ = some (.int .u32 o.dst) := cell_of hoV 2
      have v3 : V.cell? ⟨w.heap.size, 3, none⟩ = some (.int .u16 o.sp) := cell_of hoV 3
      have v4 : V.cell? ⟨w.heap.size, 4, none⟩ = some (.int .u16 o.dp) := cell_of hoV 4
      have hbcV : V.heap[ba]? = some (.cells cur 62 (0, 0)) := (hbV.block _ (Array.getElem?_eq_some_iff.1 HF2.out.1).1).trans HF2.out.1
      have hfV : ∀ i, V.frozen? ⟨ba, i, none⟩ = false := fun i => free_of hbcV i
      have haV := HAL.out.below hbV (Array.getElem?_eq_some_iff.1 HF2.out.1).1
      obtain ⟨y0, y1, y2, y3, y4, y5, y6, y7, y8, y9, y10, y11⟩ := haV
      have HV := Lib.hid (And.intro hbV (And.intro hrV (And.intro hbcV hoV)))
      clear hb hbV hoV hrV hbcV u0 u1 u2 u3 u4
      go_wp2_with fail
      refine wp_region_tail 8 (by kernel_rfl) (by kernel_rfl) ?_
      simp only [List.take_succ_cons, List.take_zero, List.drop_succ_cons, List.drop_zero]
      repeat still_step
      refine wpStill_nil ?_
      go_wp2_with fail
      go_ret
      obtain ⟨hbV, hrV, hbcV, hfV⟩ := HV.out
      have hfin := rlead_fin (o := o) R.out HF.out HF2.out.1 HF2.out.2 hbV rfl
      exact ⟨rfl, hfin⟩
    · have t1 : (OF != 0) = true := by simpa using hz
      by_cases hz2 : OF = id
      · rw [e1, e2, if_neg (fun q => q.2 hz2), if_neg (fun q => q.2 hz2)]
        have t2 : (OF != id) = false := by simpa using hz2
        clear e1 e2 hz hz2
        clear hB0 hh hW0
        go_enter Try.func23, Try.ntmps23
        go_wp2_with fail
        refine (HAT.out _ (hB _)).mono ?_
        rintro e w' ⟨rfl, hw'⟩
        obtain rfl : w' = W0 := hw'.symm.trans HW0.out.symm
        clear hw'
        go_wp2_with fail
        refine (HOU.out w' HW.out.1).mono ?_
        rintro e V ⟨rfl, hb⟩
        have hbV : Below w.heap.size w V := HW.out.1.trans (hb.mono HW.out.1.size)
        have hoV : V.heap[w.heap.size]? = some (.cells #[.int .u8 o.proto, .int .u32 o.src, .int .u32 o.dst, .int .u16 o.sp, .int .u16 o.dp] 33 (0, 0)) := (hb.block _ (Array.getElem?_eq_some_iff.1 HW.out.2).1).trans HW.out.2
        have hrV := R.out.below hbV
        have c0 := hrV.c0
        rw [HN.out] at c0
        have v0 : V.cell? ⟨w.heap.size, 0, none⟩ = some (.int .u8 o.proto) := cell_of hoV 0
        have v1 : V.cell? ⟨w.heap.size, 1, none⟩ = some (.int .u32 o.src) := cell_of hoV 1
        have v2 : V.cell? ⟨w.heap.size, 2, none⟩ = some (.int .u32 o.dst) := cell_of hoV 2
        have v3 : V.cell? ⟨w.heap.size, 3, none⟩ = some (.int .u16 o.sp) := cell_of hoV 3
        have v4 : V.cell? ⟨w.heap.size, 4, none⟩ = some (.int .u16 o.dp) := cell_of hoV 4
        have hbcV : V.heap[ba]? = some (.cells cur 62 (0, 0)) := (hbV.block _ (Array.getElem?_eq_some_iff.1 HF2.out.1).1).trans HF2.out.1
        have hfV : ∀ i, V.frozen? ⟨ba, i, none⟩ = false := fun i => free_of hbcV i
        have haV := HAL.out.below hbV (Array.getElem?_eq_some_iff.1 HF2.out.1).1
        obtain ⟨y0, y1, y2, y3, y4, y5, y6, y7, y8, y9, y10, y11⟩ := haV
        have HV := Lib.hid (And.intro hbV (And.intro hrV (And.intro hbcV hoV)))
        clear hb hbV hoV hrV hbcV u0 u1 u2 u3 u4
        go_wp2_with fail
        refine wp_region_tail 8 (by kernel_rfl) (by kernel_rfl) ?_
        simp only [List.take_succ_cons, List.take_zero, List.drop_succ_cons, List.drop_zero]
        repeat still_step
        refine wpStill_nil ?_
        go_wp2_with fail
        go_ret
        obtain ⟨hbV, hrV, hbcV, hfV⟩ := HV.out
        have hfin := rlead_fin (o := o) R.out HF.out HF2.out.1 HF2.out.2 hbV rfl
        exact ⟨rfl, hfin⟩
      · rw [e1, e2, if_pos ⟨hz, hz2⟩, if_pos ⟨hz, hz2⟩]
        have t2 : (OF != id) = true := by simpa using hz2
        clear e1 e2 hz hz2
        clear hB0 hh hW0
        go_enter Try.func23, Try.ntmps23
        go_wp2_with fail
        refine (HAT.out _ (hB _)).mono ?_
        rintro e w' ⟨rfl, hw'⟩
        obtain rfl : w' = W0 := hw'.symm.trans HW0.out.symm
        clear hw'
        go_wp2_with fail
        refine (HOU.out w' HW.out.1).mono ?_
        rintro e V ⟨rfl, hb⟩
        have hbV : Below w.heap.size w V := HW.out.1.trans (hb.mono HW.out.1.size)
        have hoV : V.heap[w.heap.size]? = some (.cells #[.int .u8 o.proto, .int .u32 o.src, .int .u32 o.dst, .int .u16 o.sp, .int .u16 o.dp] 33 (0, 0)) := (hb.block _ (Array.getElem?_eq_some_iff.1 HW.out.2).1).trans HW.out.2
        have hrV := R.out.below hbV
        have c0 := hrV.c0
        rw [HN.out] at c0
        have v0 : V.cell? ⟨w.heap.size, 0, none⟩ = some (.int .u8 o.proto) := cell_of hoV 0
        have v1 : V.cell? ⟨w.heap.size, 1, none⟩ = some (.int .u32 o.src) := cell_of hoV 1
        have v2 : V.cell? ⟨w.heap.size, 2, none⟩ = some (.int .u32 o.dst) := cell_of hoV 2
        have v3 : V.cell? ⟨w.heap.size, 3, none⟩ = some (.int .u16 o.sp) := cell_of hoV 3
        have v4 : V.cell? ⟨w.heap.size, 4, none⟩ = some (.int .u16 o.dp) := cell_of hoV 4
        have hbcV : V.heap[ba]? = some (.cells cur 62 (0, 0)) := (hbV.block _ (Array.getElem?_eq_some_iff.1 HF2.out.1).1).trans HF2.out.1
        have hfV : ∀ i, V.frozen? ⟨ba, i, none⟩ = false := fun i => free_of hbcV i
        have haV := HAL.out.below hbV (Array.getElem?_eq_some_iff.1 HF2.out.1).1
        obtain ⟨y0, y1, y2, y3, y4, y5, y6, y7, y8, y9, y10, y11⟩ := haV
        have HV := Lib.hid (And.intro hbV (And.intro hrV (And.intro hbcV hoV)))
        clear hb hbV hoV hrV hbcV u0 u1 u2 u3 u4
        go_wp2_with fail
        go_ret
        exact ⟨rfl, R.out.below HV.out.1, Turns.below HV.out.1⟩
end Go.Proofs.Ytdpomneoiagpiaa
