/- The reference's small calls. -/
import Derived.Test.YtdpomneoiagpiaaRTab
set_option linter.unusedVariables false
namespace Go.Proofs.Ytdpomneoiagpiaa
open Go.RowKit Go.Deep Go.BigFrame
attribute [local go_sem ↓] Go.wp_at_zero Go.wp_at_succ
set_option maxHeartbeats 1600000
theorem rinner_any {w : World} {h c : Nat} {A : Option Addr} {s : TS} (r : Rt w h A c s) (ho : s.Ok) (x : Tup) (hx : x.Ok) :
    Calls Try.prog 28 #[.pointer (some ⟨h, 0, none⟩), x.val] w fun e w' => e = .returned (.tuple #[.int .u64 (innF s.L x), .bool (innF s.L x != 0)]) ∧ Below w.heap.size w w' := by
  have R := Lib.hid r
  have HO := Lib.hid ho
  have hm : s.L.length ≤ 1024 := Nat.le_trans ho.len ho.most2
  obtain ⟨n, hn⟩ : ∃ n, s.L.length = n := ⟨_, rfl⟩
  have HN := Lib.hid hn
  rw [hn] at hm
  clear r ho hn
  unfold Tup.val
  go_enter Try.func28, Try.ntmps28
  go_wp2_with fail
  refine wp_name fun W0 hW0 => ?_
  have hB0 : Below w.heap.size w W0 := by rw [hW0]; exact (Below.refl _ _).alloc (Nat.le_refl _) _
  have hb0 : W0.heap[w.heap.size]? = some (.cells #[.int .u8 x.proto, .int .u32 x.src, .int .u32 x.dst, .int .u16 x.sp, .int .u16 x.dp] 33 (0, 0)) := by rw [hW0]; exact heap_alloc_new w _
  have HB := Lib.hid (And.intro hB0 (And.intro hb0 (R.out.below hB0)))
  clear hB0 hb0 hW0
  go_loopw [6] (fun v6 wr => ∃ k : Nat, v6 = .int .i64 k ∧ k ≤ n ∧ Below W0.heap.size W0 wr ∧ ∀ j g, j < k → s.L[j]? = some g → g.inn ≠ x) (fun v6 _ => n - (intOf v6).toNat)
  case atStart => exact ⟨0, rfl, Nat.zero_le _, Below.refl _ _, fun j g hj => by omega⟩
  case round =>
    obtain ⟨k, rfl, hk, hb, hnot⟩ := hrel
    have HNOT := Lib.hid hnot
    have HBW := Lib.hid hb
    have hr := HB.out.2.2.below hb
    have c0 := hr.c0
    rw [HN.out] at c0
    have hh := (hb.block _ (Array.getElem?_eq_some_iff.1 HB.out.2.1).1).trans HB.out.2.1
    have b0 : wr.cell? ⟨w.heap.size, 0, none⟩ = some (.int .u8 x.proto) := cell_of hh 0
    have b1 : wr.cell? ⟨w.heap.size, 1, none⟩ = some (.int .u32 x.src) := cell_of hh 1
    have b2 : wr.cell? ⟨w.heap.size, 2, none⟩ = some (.int .u32 x.dst) := cell_of hh 2
    have b3 : wr.cell? ⟨w.heap.size, 3, none⟩ = some (.int .u16 x.sp) := cell_of hh 3
    have b4 : wr.cell? ⟨w.heap.size, 4, none⟩ = some (.int .u16 x.dp) := cell_of hh 4
    have HR := Lib.hid hr
    clear hnot hb hr hh
    by_cases hlt : k < n
    · obtain ⟨f, hf⟩ : ∃ f, s.L[k]? = some f := ⟨s.L[k]'(by have := HN.out; omega), List.getElem?_eq_getElem _⟩
      obtain ⟨b, o, rfl, hl, ha⟩ := HR.out.fls k f hf
      obtain ⟨k0, k1, k2, k3, k4, k5, k6, k7, k8, k9, k10, k11⟩ := ha
      have HF := Lib.hid hf
      clear hf
      by_cases e : f.inn = x
      · have HE := Lib.hid e
        rw [e] at k1 k2 k3 k4 k5
        clear e
        go_wp2_with fail
        go_quiet (fail)
        go_wp2_with fail
        go_ret2
        have h0 : innF s.L x = f.id := by rw [← HE.out]; exact innF_mem HO.out.innn (List.mem_of_getElem? HF.out)
        have h1 := (HO.out.ids f (List.mem_of_getElem? HF.out)).1
        have h2 : (f.id != 0) = true := by simp; omega
        rw [h0, h2]
        exact ⟨rfl, HB.out.1.trans ((below_drewN HBW.out _).mono HB.out.1.size)⟩
      · have HE := Lib.hid e
        have hne : ¬ (f.inn.proto = x.proto ∧ f.inn.src = x.src ∧ f.inn.dst = x.dst ∧ f.inn.sp = x.sp ∧ f.inn.dp = x.dp) := fun ⟨q1, q2, q3, q4, q5⟩ => e (by cases hfi : f.inn; rw [hfi] at q1 q2 q3 q4 q5; cases x; simp at q1 q2 q3 q4 q5 ⊢; exact ⟨q1, q2, q3, q4, q5⟩)
        clear e
        by_cases q1 : f.inn.proto = x.proto
        · by_cases q2 : f.inn.src = x.src
          · by_cases q3 : f.inn.dst = x.dst
            · by_cases q4 : f.inn.sp = x.sp
              · by_cases q5 : f.inn.dp = x.dp
                · exact absurd ⟨q1, q2, q3, q4, q5⟩ hne
                · clear hne
                  rw [q1] at k1
                  rw [q2] at k2
                  rw [q3] at k3
                  rw [q4] at k4
                  clear q1 q2 q3 q4
                  go_wp2_with fail
                  go_quiet (fail)
                  go_wp2_with fail
                  go_roundw
                  case rel =>
                    refine ⟨k + 1, by simp, by omega, HBW.out.trans (below_drewN (Below.refl _ _) _), fun j g hj hg => ?_⟩
                    by_cases e : j < k
                    · exact HNOT.out j g e hg
                    · obtain rfl : j = k := by omega
                      rw [HF.out] at hg
                      cases hg
                      exact HE.out
                  case measure => simp [intOf]; omega
              · clear hne
                rw [q1] at k1
                rw [q2] at k2
                rw [q3] at k3
                clear q1 q2 q3
                go_wp2_with fail
                go_quiet (fail)
                go_wp2_with fail
                go_roundw
                case rel =>
                  refine ⟨k + 1, by simp, by omega, HBW.out.trans (below_drewN (Below.refl _ _) _), fun j g hj hg => ?_⟩
                  by_cases e : j < k
                  · exact HNOT.out j g e hg
                  · obtain rfl : j = k := by omega
                    rw [HF.out] at hg
                    cases hg
                    exact HE.out
                case measure => simp [intOf]; omega
            · clear hne
              rw [q1] at k1
              rw [q2] at k2
              clear q1 q2
              go_wp2_with fail
              go_quiet (fail)
              go_wp2_with fail
              go_roundw
              case rel =>
                refine ⟨k + 1, by simp, by omega, HBW.out.trans (below_drewN (Below.refl _ _) _), fun j g hj hg => ?_⟩
                by_cases e : j < k
                · exact HNOT.out j g e hg
                · obtain rfl : j = k := by omega
                  rw [HF.out] at hg
                  cases hg
                  exact HE.out
              case measure => simp [intOf]; omega
          · clear hne
            rw [q1] at k1
            clear q1
            go_wp2_with fail
            go_quiet (fail)
            go_wp2_with fail
            go_roundw
            case rel =>
              refine ⟨k + 1, by simp, by omega, HBW.out.trans (below_drewN (Below.refl _ _) _), fun j g hj hg => ?_⟩
              by_cases e : j < k
              · exact HNOT.out j g e hg
              · obtain rfl : j = k := by omega
                rw [HF.out] at hg
                cases hg
                exact HE.out
            case measure => simp [intOf]; omega
        · clear hne
          go_wp2_with fail
          go_quiet (fail)
          go_wp2_with fail
          go_roundw
          case rel =>
            refine ⟨k + 1, by simp, by omega, HBW.out.trans (below_drewN (Below.refl _ _) _), fun j g hj hg => ?_⟩
            by_cases e : j < k
            · exact HNOT.out j g e hg
            · obtain rfl : j = k := by omega
              rw [HF.out] at hg
              cases hg
              exact HE.out
          case measure => simp [intOf]; omega
    · obtain rfl : k = n := by omega
      go_wp2_with fail
      go_ret2
      have h0 : innF s.L x = 0 := innF_none fun f hf => by
        obtain ⟨j, hj, e⟩ := List.getElem_of_mem hf
        exact HNOT.out j f (by have := HN.out; omega) (by rw [List.getElem?_eq_getElem hj, e])
      rw [h0]
      exact ⟨rfl, HB.out.1.trans (HBW.out.mono HB.out.1.size)⟩
end Go.Proofs.Ytdpomneoiagpiaa
