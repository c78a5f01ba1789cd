/- The reference's Flow. -/
import Derived.Test.YtdpomneoiagpiaaRDrop
set_option linter.unusedVariables false
namespace Go.Proofs.Ytdpomneoiagpiaa
open Go.RowKit Go.Deep Go.BigFrame
attribute [local go_sem ↓] Go.wp_at_zero Go.wp_at_succ
theorem store12r {w : World} {q : Nat} {cs : Array Value} (hq : w.heap[q]? = some (.cells cs 62 (0, 0))) (hs : cs.size = 12) (f : Fl) : (w.setCells q 0 f.cells).heap[q]? = some (.cells f.arr 62 (0, 0)) := by
  obtain ⟨cur', h1, h2, h3⟩ := heap_setCells f.cells 0 hq
  have e : cur' = f.arr := by
    obtain ⟨a, ha⟩ : ∃ a, f.arr = a := ⟨_, rfl⟩
    have hz : a.size = 12 := by rw [← ha]; rfl
    have hl : f.cells = a.toList := by rw [← ha]; rfl
    rw [hl] at h3
    rw [ha]
    clear ha hl h1
    apply Array.ext_getElem?
    intro j
    rw [h3 j]
    by_cases hj : j < 12
    · rw [if_pos ⟨Nat.zero_le _, by rw [Array.length_toList]; omega, by omega⟩, Nat.sub_zero, Array.getElem?_toList]
    · rw [if_neg (by rw [Array.length_toList]; omega), Array.getElem?_eq_none (by omega), Array.getElem?_eq_none (by omega)]
  rw [h1, e]
/-- What the result's cells hold. -/
theorem res30 {f : Fl} {W : World} {q : Nat} (hh : W.heap[q]? = some (.cells f.arr 62 (0, 0))) (t : Array Value) (b : Bool) (h4 : t.getD 4 undef = .pointer (some ⟨q, 0, none⟩)) (h5 : t.getD 5 undef = .bool b) :
    (results Try.f30 t).run Try.prog W = .ok (.tuple #[f.val, .bool b]) W := by
  have u0 : W.cell? ⟨q, 0, .none⟩ = some (.int .u64 f.id) := cell_of hh 0
  have u1 : W.cell? ⟨q, 1, .none⟩ = some (.int .u8 f.inn.proto) := cell_of hh 1
  have u2 : W.cell? ⟨q, 2, .none⟩ = some (.int .u32 f.inn.src) := cell_of hh 2
  have u3 : W.cell? ⟨q, 3, .none⟩ = some (.int .u32 f.inn.dst) := cell_of hh 3
  have u4 : W.cell? ⟨q, 4, .none⟩ = some (.int .u16 f.inn.sp) := cell_of hh 4
  have u5 : W.cell? ⟨q, 5, .none⟩ = some (.int .u16 f.inn.dp) := cell_of hh 5
  have u6 : W.cell? ⟨q, 6, .none⟩ = some (.int .u8 f.out.proto) := cell_of hh 6
  have u7 : W.cell? ⟨q, 7, .none⟩ = some (.int .u32 f.out.src) := cell_of hh 7
  have u8 : W.cell? ⟨q, 8, .none⟩ = some (.int .u32 f.out.dst) := cell_of hh 8
  have u9 : W.cell? ⟨q, 9, .none⟩ = some (.int .u16 f.out.sp) := cell_of hh 9
  have u10 : W.cell? ⟨q, 10, .none⟩ = some (.int .u16 f.out.dp) := cell_of hh 10
  have u11 : W.cell? ⟨q, 11, .none⟩ = some (.bool f.emb) := cell_of hh 11
  simp only [Array.getD_eq_getD_getElem?] at h4 h5
  simp [results, Try.results30, go_sem, h4, h5, u0, u1, u2, u3, u4, u5, u6, u7, u8, u9, u10, u11]
  rfl
set_option maxHeartbeats 1600000
theorem rflow_any {w : World} {h c : Nat} {A : Option Addr} {s : TS} (r : Rt w h A c s) (ho : s.Ok) (id : Int) :
    Calls Try.prog 30 #[.pointer (some ⟨h, 0, none⟩), .int .u64 id] w fun e w' => e = .returned (.tuple #[(flowF s id).val, .bool (findK s.L id).isSome]) ∧ Below w.heap.size w w' := by
  have hB : ∀ o, Below w.heap.size w (w.alloc o) := fun o => (Below.refl w.heap.size w).alloc (Nat.le_refl _) o
  have R := Lib.hid (fun o => r.below (hB o))
  have HAT := Lib.hid (fun W (hW : Below w.heap.size w W) => rat_any (r.below hW) ho id)
  obtain ⟨W0, hW0⟩ : ∃ W0, W0 = w.alloc (.cells Fl.none.arr 62) := ⟨_, rfl⟩
  have hB0 : Below w.heap.size w W0 := by rw [hW0]; exact hB _
  have hh : W0.heap[w.heap.size]? = some (.cells Fl.none.arr 62 (0, 0)) := by rw [hW0]; exact heap_alloc_new w _
  have HW := Lib.hid (And.intro hB0 hh)
  have u0 : W0.cell? ⟨w.heap.size, 0, .none⟩ = some (.int .u64 0) := cell_of hh 0
  have u1 : W0.cell? ⟨w.heap.size, 1, .none⟩ = some (.int .u8 0) := cell_of hh 1
  have u2 : W0.cell? ⟨w.heap.size, 2, .none⟩ = some (.int .u32 0) := cell_of hh 2
  have u3 : W0.cell? ⟨w.heap.size, 3, .none⟩ = some (.int .u32 0) := cell_of hh 3
  have u4 : W0.cell? ⟨w.heap.size, 4, .none⟩ = some (.int .u16 0) := cell_of hh 4
  have u5 : W0.cell? ⟨w.heap.size, 5, .none⟩ = some (.int .u16 0) := cell_of hh 5
  have u6 : W0.cell? ⟨w.heap.size, 6, .none⟩ = some (.int .u8 0) := cell_of hh 6
  have u7 : W0.cell? ⟨w.heap.size, 7, .none⟩ = some (.int .u32 0) := cell_of hh 7
  have u8 : W0.cell? ⟨w.heap.size, 8, .none⟩ = some (.int .u32 0) := cell_of hh 8
  have u9 : W0.cell? ⟨w.heap.size, 9, .none⟩ = some (.int .u16 0) := cell_of hh 9
  have u10 : W0.cell? ⟨w.heap.size, 10, .none⟩ = some (.int .u16 0) := cell_of hh 10
  have u11 : W0.cell? ⟨w.heap.size, 11, .none⟩ = some (.bool false) := cell_of hh 11
  have hf : ∀ i, W0.frozen? ⟨w.heap.size, i, .none⟩ = false := fun i => free_of hh i
  have HW0 := Lib.hid hW0
  cases hk : findK s.L id with
  | none =>
    have e1 : flowF s id = Fl.none := by unfold flowF; rw [hk]
    rw [e1]
    rw [find_none hk] at HAT
    clear r ho hk e1 hB0 hh hW0
    go_enter Try.func30, Try.ntmps30
    go_wp2_with fail
    refine (HAT.out _ (hB _)).mono ?_
    rintro e w' ⟨rfl, hw'⟩
    obtain rfl : w' = W0 := hw'.symm.trans HW0.out.symm
    clear hw'
    go_wp2_with fail
    refine post_name fun W hW => ?_
    have hW' : W = w'.setCells w.heap.size 0 Fl.none.cells := hW
    clear hW
    have hh2 : W.heap[w.heap.size]? = some (.cells Fl.none.arr 62 (0, 0)) := by rw [hW']; exact store12r HW.out.2 rfl Fl.none
    refine bodyPost_ret (res30 hh2 _ false rfl rfl) rfl ⟨rfl, ?_⟩
    rw [hW']
    exact grown_bel HW.out.1 (grown_setCells _ _ _ _) (by rintro k e; cases e; exact Nat.le_refl _)
  | some k =>
    obtain ⟨f, hfk, hid, hix, hkl⟩ := find_hit hk
    have e1 : flowF s id = f := by unfold flowF; rw [hk]; simp [hfk]
    rw [e1]
    rw [hix] at HAT
    have hr0 := r.below hB0
    obtain ⟨b, o, rfl, hbl, hat⟩ := hr0.fls k f hfk
    obtain ⟨k0, k1, k2, k3, k4, k5, k6, k7, k8, k9, k10, k11⟩ := hat
    have c0 := hr0.c0
    have hlm : s.L.length ≤ 1024 := Nat.le_trans ho.len ho.most2
    obtain ⟨n, hn⟩ : ∃ n, s.L.length = n := ⟨_, rfl⟩
    rw [hn] at c0 hlm hkl
    have hk0 : ¬ ((k : Int) < 0) := by omega
    have nb : ¬ b = w.heap.size := by
      intro e
      subst e
      obtain ⟨b', o', e', hl', _⟩ := r.fls k f hfk
      injection e' with e'
      injection e' with e'
      omega
    clear r ho hk hid hix e1 hB0 hh hW0 hr0 hfk hn
    go_enter Try.func30, Try.ntmps30
    go_wp2_with fail
    refine (HAT.out _ (hB _)).mono ?_
    rintro e w' ⟨rfl, hw'⟩
    obtain rfl : w' = W0 := hw'.symm.trans HW0.out.symm
    clear hw'
    go_wp2_with fail
    refine post_name fun W hW => ?_
    have hW' : W = w'.setCells w.heap.size 0 f.cells := hW
    clear hW
    have hh2 : W.heap[w.heap.size]? = some (.cells f.arr 62 (0, 0)) := by rw [hW']; exact store12r HW.out.2 rfl f
    refine bodyPost_ret (res30 hh2 _ true rfl rfl) rfl ⟨rfl, ?_⟩
    rw [hW']
    exact grown_bel HW.out.1 (grown_setCells _ _ _ _) (by rintro k e; cases e; exact Nat.le_refl _)
end Go.Proofs.Ytdpomneoiagpiaa
