/- The reference's Write. -/
import Derived.Test.YtpigomkhpdfdcaaRef
set_option linter.unusedVariables false
namespace Go.Proofs.Ytpigomkhpdfdcaa
open Go.RowKit Go.Deep Go.BigFrame
attribute [local go_sem ↓] Go.wp_at_zero Go.wp_at_succ
theorem Rb.stored {w w2 : World} {g c a : Nat} {A : Option Addr} {AT : Int} {ws : List Int} {s : St} (h : Rb w g A c AT ws a s) {A2 : Option Addr} {k2 m : Nat} {ys : List Int} (hy : ys.length = m) (hB : Below w.heap.size w w2)
    (ho : w2.ownsRow w.heap.size 5 1 (.slice A2 (ws.length + m) k2) (ws.length + m) (ws.map (.int .u8) ++ ys.map (.int .u8))) (hn : ws.length + m ≤ 500000) :
    Rb (w2.setCell ⟨g, 0, none⟩ (.slice A2 (ws.length + m) k2)) g A2 k2 AT (ws ++ ys) a { s with data := s.data ++ ys } := by
  have hl : (ws ++ ys).length = ws.length + m := by rw [List.length_append, hy]
  exact {
    heap := by
      rw [heap_set (i := 0) ((hB.block g h.lt).trans h.heap) (.slice A2 (ws.length + m) k2)]
      unfold rcells
      rw [hl]
      rfl
    byt := by
      have hb : Byt w2 (.slice A2 (ws ++ ys).length k2) (ws ++ ys) := Byt.of_own (base := w.heap.size) (by rw [hl, List.map_append]; exact ho)
      refine hb.keep (grown_setCell _ _ _ _) ?_
      intro b hb' hp e
      have := (ho.lt b (by rw [hl] at hb'; exact hb')).1
      have := h.lt
      omega
    data := by show s.data ++ ys = _; rw [h.data, List.drop_append_of_le_length h.le]
    una := h.una, at0 := h.at0, at1 := h.at1
    le := by rw [hl]; have := h.le; omega
    n := by rw [hl]; exact hn }

set_option maxHeartbeats 1600000 in
theorem rwrite_more (g c a : Nat) (A : Option Addr) (AT : Int) (ws : List Int) (s : St) (w : World) (B : Option Addr) (m c2 : Nat) (ys : List Int) (now : Int) (hb : Rb w g A c AT ws a s) (ho : s.Ok) (hm : ys.length = m) (hy : Byt w (.slice B m c2) ys) (hl : s.data.length + m ≤ 16384)
    (h0 : 0 ≤ now) (h1 : now ≤ 1125899906842624) (hyb : ∀ x ∈ ys, 0 ≤ x ∧ x ≤ 255) (hnn : ws.length + m ≤ 500000) (hc : 0 < s.data.length) :
    Calls Try.prog 29 #[.pointer (some ⟨g, 0, none⟩), .slice B m c2, .int .u64 now] w fun e w' => e = .returned (.int .i64 0) ∧ w.grownBy w' (some g) ∧ ∃ A' c', Rb w' g A' c' AT (ws ++ ys) a ({ s with data := s.data ++ ys }) ∧ ∀ b, blk A' = some b → w.heap.size ≤ b ∧ b < w'.heap.size := by
  have HL := Lib.hid (fun z => rleft_any g c a A AT ws s (w.drewN z) (hb.below (below_drewN (Below.refl _ _) z)))
  have HL0 := Lib.hid (rleft_any g c a A AT ws s w hb)
  have HB := Lib.hid hb
  have HO := Lib.hid ho
  have HY := Lib.hid hy
  have HM := Lib.hid hm
  have HYB := Lib.hid hyb
  have c0 := hb.c0
  obtain ⟨n, hn⟩ : ∃ n, ws.length = n := ⟨_, rfl⟩
  obtain ⟨l, hl2⟩ : ∃ l, s.data.length = l := ⟨_, rfl⟩
  rw [hl2] at HL HL0 hl hc
  rw [hn] at c0 hnn
  have HN := Lib.hid hn
  have HLL := Lib.hid hl2
  have hz : ((l : Int) == 0) = false := by simp; omega
  clear hb ho hy hm hyb hn hl2
  go_enter Try.func29, Try.ntmps29
  go_wp2_with fail
  refine HL0.out.mono ?_
  rintro e w1 ⟨rfl, n1, rfl⟩
  go_wp2_with fail
  refine (HL.out n1).mono ?_
  rintro e w1 ⟨rfl, n2, rfl⟩
  go_wp2_with fail
  obtain ⟨W, hW⟩ : ∃ W, W = w.drewN (n1 + n2) := ⟨_, rfl⟩
  have hBW : Below w.heap.size w W := by rw [hW]; exact below_drewN (Below.refl _ _) _
  have hWs : W.heap.size = w.heap.size := by rw [hW]; rfl
  have HRW : Hid (Rb W g A c AT ws a s) := Lib.hid (HB.out.below hBW)
  have HYW : Hid (Byt W (.slice B m c2) ys) := Lib.hid (HY.out.below hBW)
  have HBW := Lib.hid hBW
  have HWS := Lib.hid hWs
  have HBY : Hid (Byt W (.slice A n c) ws) := Lib.hid (by have := HRW.out.byt; rw [HN.out] at this; exact this)
  (try rw [← hW])
  (with_reducible refine (own_any A n c ws _ HN.out HBY.out (by omega)).mono ?_)
  rintro e w3 ⟨v3, rfl, hown3, hb3⟩
  obtain ⟨v4, w4, hr, ho4, hg4, hat4⟩ := run_append_bytF (w := w3) W.heap.size v3 n _ hown3 B m c2 ys HM.out (HYW.out.below hb3) (by omega) hb3.size
  have hB4 : Below W.heap.size W w4 := hb3.grown hg4 hb3.size (fun k hk => (hown3.lt k hk).1)
  obtain ⟨A4, k4, hv4⟩ := own_len ho4
  subst hv4
  have hcell4 := (hB4.block g HRW.out.lt).trans HRW.out.heap
  have d0 : w4.cell? ⟨g, 0, none⟩ = some (.slice A ws.length c) := cell_of hcell4 0
  have f0 := free_of hcell4 0
  have hst := HRW.out.stored HM.out hB4 (by rw [HN.out]; exact ho4) (by rw [HN.out]; exact hnn)
  rw [HN.out] at hst d0
  have HST := Lib.hid hst
  have hgg : w.grownBy (w4.setCell ⟨g, 0, none⟩ (.slice A4 (n + m) k4)) (some g) := grown_set (grown_trans (grown_below HBW.out) (grown_below hB4))
  have HGG := Lib.hid hgg
  have HFAR : Hid (∀ b, blk A4 = some b → w.heap.size ≤ b ∧ b < w4.heap.size) := Lib.hid (fun b hb => by have := ho4.lt b (blk_own hb); rw [HWS.out] at this; exact this)
  have HR := Lib.hid hr
  clear hW hBW hWs hown3 hb3 hr ho4 hg4 hat4 hB4 hcell4 hst hgg
  go_wp2_with (at_builtin; refine Lib.wpList_append_run _ rfl _ _ 34 34 rfl _ _ rfl rfl _ _ (by exact HR.out) ?_)
  go_ret
  exact ⟨rfl, HGG.out, A4, k4, HST.out, fun b hb => by have := HFAR.out b hb; simpa [World.setCell] using this⟩

set_option maxHeartbeats 1600000 in
theorem rwrite_nil (g c a : Nat) (A : Option Addr) (AT : Int) (ws : List Int) (s : St) (w : World) (B : Option Addr) (m c2 : Nat) (ys : List Int) (now : Int) (hb : Rb w g A c AT ws a s) (ho : s.Ok) (hm : ys.length = m) (hy : Byt w (.slice B m c2) ys) (hl : s.data.length + m ≤ 16384)
    (h0 : 0 ≤ now) (h1 : now ≤ 1125899906842624) (hyb : ∀ x ∈ ys, 0 ≤ x ∧ x ≤ 255) (hnn : ws.length + m ≤ 500000) (hc : s.data.length ≤ 0) (hm0 : m ≤ 0) :
    Calls Try.prog 29 #[.pointer (some ⟨g, 0, none⟩), .slice B m c2, .int .u64 now] w fun e w' => e = .returned (.int .i64 0) ∧ w.grownBy w' (some g) ∧ ∃ A' c', Rb w' g A' c' AT (ws ++ ys) a ({ s with data := s.data ++ ys }) ∧ ∀ b, blk A' = some b → w.heap.size ≤ b ∧ b < w'.heap.size := by
  have HL := Lib.hid (fun z => rleft_any g c a A AT ws s (w.drewN z) (hb.below (below_drewN (Below.refl _ _) z)))
  have HL0 := Lib.hid (rleft_any g c a A AT ws s w hb)
  have HB := Lib.hid hb
  have HO := Lib.hid ho
  have HY := Lib.hid hy
  have HM := Lib.hid hm
  have HYB := Lib.hid hyb
  have c0 := hb.c0
  obtain ⟨n, hn⟩ : ∃ n, ws.length = n := ⟨_, rfl⟩
  obtain ⟨l, hl2⟩ : ∃ l, s.data.length = l := ⟨_, rfl⟩
  rw [hl2] at HL HL0 hl hc
  rw [hn] at c0 hnn
  have HN := Lib.hid hn
  have HLL := Lib.hid hl2
  have hz : ((l : Int) == 0) = true := by simp; omega
  have hz2 : decide (0 < m) = false := decide_eq_false (by omega)
  have hz3 : decide ((0 : Int) < (m : Int)) = false := decide_eq_false (by omega)
  clear hb ho hy hm hyb hn hl2
  go_enter Try.func29, Try.ntmps29
  go_wp2_with fail
  refine HL0.out.mono ?_
  rintro e w1 ⟨rfl, n1, rfl⟩
  go_wp2_with fail
  refine (HL.out n1).mono ?_
  rintro e w1 ⟨rfl, n2, rfl⟩
  go_wp2_with fail
  obtain ⟨W, hW⟩ : ∃ W, W = w.drewN (n1 + n2) := ⟨_, rfl⟩
  have hBW : Below w.heap.size w W := by rw [hW]; exact below_drewN (Below.refl _ _) _
  have hWs : W.heap.size = w.heap.size := by rw [hW]; rfl
  have HRW : Hid (Rb W g A c AT ws a s) := Lib.hid (HB.out.below hBW)
  have HYW : Hid (Byt W (.slice B m c2) ys) := Lib.hid (HY.out.below hBW)
  have HBW := Lib.hid hBW
  have HWS := Lib.hid hWs
  have HBY : Hid (Byt W (.slice A n c) ws) := Lib.hid (by have := HRW.out.byt; rw [HN.out] at this; exact this)
  (try rw [← hW])
  (with_reducible refine (own_any A n c ws _ HN.out HBY.out (by omega)).mono ?_)
  rintro e w3 ⟨v3, rfl, hown3, hb3⟩
  obtain ⟨v4, w4, hr, ho4, hg4, hat4⟩ := run_append_bytF (w := w3) W.heap.size v3 n _ hown3 B m c2 ys HM.out (HYW.out.below hb3) (by omega) hb3.size
  have hB4 : Below W.heap.size W w4 := hb3.grown hg4 hb3.size (fun k hk => (hown3.lt k hk).1)
  obtain ⟨A4, k4, hv4⟩ := own_len ho4
  subst hv4
  have hcell4 := (hB4.block g HRW.out.lt).trans HRW.out.heap
  have d0 : w4.cell? ⟨g, 0, none⟩ = some (.slice A ws.length c) := cell_of hcell4 0
  have f0 := free_of hcell4 0
  have hst := HRW.out.stored HM.out hB4 (by rw [HN.out]; exact ho4) (by rw [HN.out]; exact hnn)
  rw [HN.out] at hst d0
  have HST := Lib.hid hst
  have hgg : w.grownBy (w4.setCell ⟨g, 0, none⟩ (.slice A4 (n + m) k4)) (some g) := grown_set (grown_trans (grown_below HBW.out) (grown_below hB4))
  have HGG := Lib.hid hgg
  have HFAR : Hid (∀ b, blk A4 = some b → w.heap.size ≤ b ∧ b < w4.heap.size) := Lib.hid (fun b hb => by have := ho4.lt b (blk_own hb); rw [HWS.out] at this; exact this)
  have HR := Lib.hid hr
  clear hW hBW hWs hown3 hb3 hr ho4 hg4 hat4 hB4 hcell4 hst hgg
  go_wp2_with (at_builtin; refine Lib.wpList_append_run _ rfl _ _ 34 34 rfl _ _ rfl rfl _ _ (by exact HR.out) ?_)
  have HL4 := Lib.hid (rleft_any g k4 a A4 AT (ws ++ ys) { s with data := s.data ++ ys } _ HST.out)
  rw [show ({ s with data := s.data ++ ys } : St).data.length = m by show (s.data ++ ys).length = m; rw [List.length_append, HLL.out, HM.out]; omega] at HL4
  refine HL4.out.mono ?_
  rintro e w5 ⟨rfl, n5, rfl⟩
  go_wp2_with fail
  go_ret
  exact ⟨rfl, grown_drewN HGG.out, A4, k4, HST.out.below (below_drewN (Below.refl _ _) _), fun b hb => by have := HFAR.out b hb; simpa [World.setCell] using this⟩

set_option maxHeartbeats 1600000 in
theorem rwrite_first (g c a : Nat) (A : Option Addr) (AT : Int) (ws : List Int) (s : St) (w : World) (B : Option Addr) (m c2 : Nat) (ys : List Int) (now : Int) (hb : Rb w g A c AT ws a s) (ho : s.Ok) (hm : ys.length = m) (hy : Byt w (.slice B m c2) ys) (hl : s.data.length + m ≤ 16384)
    (h0 : 0 ≤ now) (h1 : now ≤ 1125899906842624) (hyb : ∀ x ∈ ys, 0 ≤ x ∧ x ≤ 255) (hnn : ws.length + m ≤ 500000) (hc : s.data.length ≤ 0) (hm0 : 0 < m) :
    Calls Try.prog 29 #[.pointer (some ⟨g, 0, none⟩), .slice B m c2, .int .u64 now] w fun e w' => e = .returned (.int .i64 0) ∧ w.grownBy w' (some g) ∧ ∃ A' c', Rb w' g A' c' AT (ws ++ ys) a ({ s with data := s.data ++ ys, wait := s.rto, count := 0, alarm := now + s.rto }) ∧ ∀ b, blk A' = some b → w.heap.size ≤ b ∧ b < w'.heap.size := by
  have HL := Lib.hid (fun z => rleft_any g c a A AT ws s (w.drewN z) (hb.below (below_drewN (Below.refl _ _) z)))
  have HL0 := Lib.hid (rleft_any g c a A AT ws s w hb)
  have HB := Lib.hid hb
  have HO := Lib.hid ho
  have HY := Lib.hid hy
  have HM := Lib.hid hm
  have HYB := Lib.hid hyb
  have c0 := hb.c0
  obtain ⟨n, hn⟩ : ∃ n, ws.length = n := ⟨_, rfl⟩
  obtain ⟨l, hl2⟩ : ∃ l, s.data.length = l := ⟨_, rfl⟩
  rw [hl2] at HL HL0 hl hc
  rw [hn] at c0 hnn
  have HN := Lib.hid hn
  have HLL := Lib.hid hl2
  have hz : ((l : Int) == 0) = true := by simp; omega
  have hz2 : decide (0 < m) = true := decide_eq_true (by omega)
  have hz3 : decide ((0 : Int) < (m : Int)) = true := decide_eq_true (by omega)
  clear hb ho hy hm hyb hn hl2
  go_enter Try.func29, Try.ntmps29
  go_wp2_with fail
  refine HL0.out.mono ?_
  rintro e w1 ⟨rfl, n1, rfl⟩
  go_wp2_with fail
  refine (HL.out n1).mono ?_
  rintro e w1 ⟨rfl, n2, rfl⟩
  go_wp2_with fail
  obtain ⟨W, hW⟩ : ∃ W, W = w.drewN (n1 + n2) := ⟨_, rfl⟩
  have hBW : Below w.heap.size w W := by rw [hW]; exact below_drewN (Below.refl _ _) _
  have hWs : W.heap.size = w.heap.size := by rw [hW]; rfl
  have HRW : Hid (Rb W g A c AT ws a s) := Lib.hid (HB.out.below hBW)
  have HYW : Hid (Byt W (.slice B m c2) ys) := Lib.hid (HY.out.below hBW)
  have HBW := Lib.hid hBW
  have HWS := Lib.hid hWs
  have HBY : Hid (Byt W (.slice A n c) ws) := Lib.hid (by have := HRW.out.byt; rw [HN.out] at this; exact this)
  (try rw [← hW])
  (with_reducible refine (own_any A n c ws _ HN.out HBY.out (by omega)).mono ?_)
  rintro e w3 ⟨v3, rfl, hown3, hb3⟩
  obtain ⟨v4, w4, hr, ho4, hg4, hat4⟩ := run_append_bytF (w := w3) W.heap.size v3 n _ hown3 B m c2 ys HM.out (HYW.out.below hb3) (by omega) hb3.size
  have hB4 : Below W.heap.size W w4 := hb3.grown hg4 hb3.size (fun k hk => (hown3.lt k hk).1)
  obtain ⟨A4, k4, hv4⟩ := own_len ho4
  subst hv4
  have hcell4 := (hB4.block g HRW.out.lt).trans HRW.out.heap
  have d0 : w4.cell? ⟨g, 0, none⟩ = some (.slice A ws.length c) := cell_of hcell4 0
  have f0 := free_of hcell4 0
  have hst := HRW.out.stored HM.out hB4 (by rw [HN.out]; exact ho4) (by rw [HN.out]; exact hnn)
  rw [HN.out] at hst d0
  have HST := Lib.hid hst
  have hgg : w.grownBy (w4.setCell ⟨g, 0, none⟩ (.slice A4 (n + m) k4)) (some g) := grown_set (grown_trans (grown_below HBW.out) (grown_below hB4))
  have HGG := Lib.hid hgg
  have HFAR : Hid (∀ b, blk A4 = some b → w.heap.size ≤ b ∧ b < w4.heap.size) := Lib.hid (fun b hb => by have := ho4.lt b (blk_own hb); rw [HWS.out] at this; exact this)
  have HR := Lib.hid hr
  clear hW hBW hWs hown3 hb3 hr ho4 hg4 hat4 hB4 hcell4 hst hgg
  go_wp2_with (at_builtin; refine Lib.wpList_append_run _ rfl _ _ 34 34 rfl _ _ rfl rfl _ _ (by exact HR.out) ?_)
  have HL4 := Lib.hid (rleft_any g k4 a A4 AT (ws ++ ys) { s with data := s.data ++ ys } _ HST.out)
  rw [show ({ s with data := s.data ++ ys } : St).data.length = m by show (s.data ++ ys).length = m; rw [List.length_append, HLL.out, HM.out]; omega] at HL4
  refine HL4.out.mono ?_
  rintro e w5 ⟨rfl, n5, rfl⟩
  go_wp2_with fail
  refine (ranew_any g k4 a A4 AT (ws ++ ys) { s with data := s.data ++ ys } _ now (HST.out.below (below_drewN (Below.refl _ _) _)) (HO.out.more (by rw [HLL.out, HM.out]; exact hl) HYB.out) h0 h1).mono ?_
  rintro e w6 ⟨rfl, hg6, hh6⟩
  have HG6 := Lib.hid hg6
  have HH6 := Lib.hid hh6
  clear hg6 hh6
  go_wp2_with fail
  go_ret
  have hb5 := HST.out.below (below_drewN (Below.refl _ _) n5)
  refine ⟨rfl, grown_trans (grown_drewN HGG.out) HG6.out, A4, k4, { hb5 with heap := HH6.out, byt := hb5.byt.keep HG6.out ?_ }, fun b hb => ?_⟩
  · intro b hb' hp e
    have := HFAR.out b (own_blk hb')
    have := HB.out.lt
    omega
  · have h1 := HFAR.out b hb
    have h2 := HG6.out.size
    simp [World.setCell] at h2
    omega

theorem rwrite_ok (g c a : Nat) (A : Option Addr) (AT : Int) (ws : List Int) (s : St) (w : World) (B : Option Addr) (m c2 : Nat) (ys : List Int) (now : Int) (hb : Rb w g A c AT ws a s) (ho : s.Ok) (hm : ys.length = m) (hy : Byt w (.slice B m c2) ys) (hl : s.data.length + m ≤ 16384)
    (h0 : 0 ≤ now) (h1 : now ≤ 1125899906842624) (hyb : ∀ x ∈ ys, 0 ≤ x ∧ x ≤ 255) (hnn : ws.length + m ≤ 500000) :
    Calls Try.prog 29 #[.pointer (some ⟨g, 0, none⟩), .slice B m c2, .int .u64 now] w fun e w' => e = .returned (.int .i64 0) ∧ w.grownBy w' (some g) ∧ ∃ A' c', Rb w' g A' c' AT (ws ++ ys) a (writeSt s ys now) ∧ ∀ b, blk A' = some b → w.heap.size ≤ b ∧ b < w'.heap.size := by
  unfold writeSt
  rw [hm]
  by_cases h2 : s.data.length = 0
  · by_cases h3 : 0 < m
    · rw [if_pos ⟨h2, h3⟩]
      exact rwrite_first g c a A AT ws s w B m c2 ys now hb ho hm hy hl h0 h1 hyb hnn (by omega) h3
    · rw [if_neg (fun h => h3 h.2)]
      exact rwrite_nil g c a A AT ws s w B m c2 ys now hb ho hm hy hl h0 h1 hyb hnn (by omega) (by omega)
  · rw [if_neg (fun h => h2 h.1)]
    exact rwrite_more g c a A AT ws s w B m c2 ys now hb ho hm hy hl h0 h1 hyb hnn (by omega)
end Go.Proofs.Ytpigomkhpdfdcaa
