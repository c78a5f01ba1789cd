/- Copy. -/
import Derived.Test.YtdpomneoiagpiaaMClone
import Derived.Deep.RegionHeld3
set_option linter.unusedVariables false
namespace Go.Proofs.Ytdpomneoiagpiaa
open Go.RowKit Go.Deep Go.BigFrame
attribute [local go_sem ↓] Go.wp_at_zero Go.wp_at_succ
set_option maxHeartbeats 800000
theorem copy_any {w : World} {g c b1 b2 N : Nat} {A : Option Addr} {s : TS} (h : Tb w g A c b1 b2 N s) (ho : s.Ok) :
    Calls Try.prog 27 #[.pointer (some ⟨g, 0, none⟩)] w fun e w' => ∃ g' A' c' b1' b2', e = .returned (.pointer (some ⟨g', 0, none⟩)) ∧ Tb w' g' A' c' b1' b2' N s ∧ Below w.heap.size w w' ∧ ∀ k, Blk g' A' b1' b2' k → w.heap.size ≤ k := by
  have HN := Lib.hid (none_any g s.most w h.c0 (by have := ho.most1; omega))
  have H := Lib.hid h
  obtain ⟨n, hn⟩ : ∃ n, s.L.length = n := ⟨_, rfl⟩
  have HNN := Lib.hid hn
  have HC := Lib.hid (fun W (hW : Below w.heap.size w W) => clone_any 0 c A s.L s.L.length W rfl (h.below hW).own (by have := ho.len; have := ho.most2; omega))
  have HM1 := Lib.hid (fun W (hW : Below w.heap.size w W) => mclone_any (h.below hW).inn)
  have HM2 := Lib.hid (fun W (hW : Below w.heap.size w W) => mclone_any (h.below hW).out)
  have HCL : Hid (∀ W, Below w.heap.size w W → W.cell? ⟨g, 0, none⟩ = some (.int .i64 s.most) ∧ W.cell? ⟨g, 1, none⟩ = some (.slice A n c) ∧ W.cell? ⟨g, 2, none⟩ = some (.map (some b1)) ∧ W.cell? ⟨g, 3, none⟩ = some (.map (some b2)) ∧ W.cell? ⟨g, 4, none⟩ = some (.int .u64 s.last)) :=
    Lib.hid (fun W hW => ⟨(h.below hW).c0, by rw [← hn]; exact (h.below hW).c1, (h.below hW).c2, (h.below hW).c3, (h.below hW).c4⟩)
  rw [hn] at HC
  obtain ⟨d0, d1, d2, d3, d4⟩ := HCL.out w (Below.refl _ _)
  have hgl := h.lt
  clear h ho hn
  go_enter Try.func27, Try.ntmps27
  go_wp2_with (go_at_call 32; refine HN.out.mono ?_; rintro e w' ⟨rfl, rfl⟩)
  go_region_held3 (fun w' => w'.cell? ⟨g, 0, none⟩ = some (.int .i64 s.most) ∧ w'.cell? ⟨g, 1, none⟩ = some (.slice A n c) ∧ w'.cell? ⟨g, 2, none⟩ = some (.map (some b1)) ∧ w'.cell? ⟨g, 3, none⟩ = some (.map (some b2)) ∧ w'.cell? ⟨g, 4, none⟩ = some (.int .u64 s.last)) (go_keep)
    (first
      | (go_at_call 44; refine (HC.out w.drew (Below.refl _ _).drew).mono ?_; rintro e V1 ⟨v, rfl, ho1, hb1⟩; obtain ⟨A', c', rfl⟩ := own_len ho1; have hV1 : Below w.heap.size w V1 := (Below.refl _ _).drew.trans hb1; obtain ⟨x0, x1, x2, x3, x4⟩ := HCL.out V1 hV1)
      | (go_at_call 47; with_reducible refine (HM1.out _ hV1).mono ?_; rintro e V2 ⟨rfl, hm1, hb2⟩; have hV2 : Below w.heap.size w V2 := hV1.trans (hb2.mono hV1.size); obtain ⟨y0, y1, y2, y3, y4⟩ := HCL.out V2 hV2)
      | (go_at_call 47; with_reducible refine (HM2.out _ hV2).mono ?_; rintro e V3 ⟨rfl, hm2, hb3⟩; have hV3 : Below w.heap.size w V3 := hV2.trans (hb3.mono hV2.size); obtain ⟨z0, z1, z2, z3, z4⟩ := HCL.out V3 hV3))
  go_wp2_with fail
  go_ret
  have hlt1 := hm1.lt
  have hlt2 := hm2.lt
  have e1 : ∀ o, ((V3.alloc o)).heap[V1.heap.size]? = V2.heap[V1.heap.size]? := fun o => (((Below.refl V3.heap.size V3).alloc (Nat.le_refl _) o).block _ (by have := hb3.size; omega)).trans (hb3.block _ hlt1)
  have hB3 := hV3.trans ((Below.refl V3.heap.size V3).alloc (Nat.le_refl _) (.cells (tcells s A' c' V1.heap.size V2.heap.size) 72) |>.mono hV3.size)
  have hs1 := hV1.size
  have hs2 := hb2.size
  have hs3 := hb3.size
  have hor : ∀ k, A' = some ⟨k, 0, none⟩ → w.heap.size ≤ k := fun k hk => by
    rcases ho1.2 with ⟨q, _⟩ | ⟨gg, cap, cur, q1, q2, _⟩
    · injection q with q
      rw [q] at hk
      cases hk
    · injection q1 with q1
      rw [q1] at hk
      injection hk with hk
      injection hk with hk
      subst hk
      exact q2
  refine ⟨V3.heap.size, A', c', V1.heap.size, V2.heap.size, rfl, { heap := ?_, own := ?_, inn := hm1.keptE (e1 _), out := hm2.keptE (((Below.refl V3.heap.size V3).alloc (Nat.le_refl _) _).block _ hlt2), ne := by omega, nN := H.out.nN }, ?_, ?_⟩
  · rw [heap_alloc_new V3]
    unfold tcells
    rw [HNN.out]
  · rw [HNN.out]
    refine row_keptE (B := 0) ⟨ho1.1, by
      rcases ho1.2 with q | ⟨gg, cap, cur, q1, q2, q3⟩
      · exact .inl q
      · exact .inr ⟨gg, cap, cur, q1, Nat.zero_le _, q3⟩⟩ (fun i hi => ?_)
    have hl := (row_lt ho1 hi).1
    exact (((Below.refl V3.heap.size V3).alloc (Nat.le_refl _) _).block _ (by omega)).trans ((hb3.block _ (by omega)).trans (hb2.block _ hl))
  · exact hV3.trans ((Below.refl V3.heap.size V3).alloc (Nat.le_refl _) _ |>.mono hV3.size)
  · intro k hk
    rcases hk with rfl | rfl | rfl | hk
    · omega
    · exact hs1
    · omega
    · exact hor k hk
end Go.Proofs.Ytdpomneoiagpiaa
