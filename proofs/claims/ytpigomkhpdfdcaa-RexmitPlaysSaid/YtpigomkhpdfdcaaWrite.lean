/- Write. -/
import Derived.Test.YtpigomkhpdfdcaaMeth
set_option linter.unusedVariables false
namespace Go.Proofs.Ytpigomkhpdfdcaa
open Go.RowKit Go.Deep Go.BigFrame
attribute [local go_sem ↓] Go.wp_at_zero Go.wp_at_succ

def writeSt (s : St) (ys : List Int) (now : Int) : St :=
  if s.data.length = 0 ∧ 0 < ys.length then { s with data := s.data ++ ys, wait := s.rto, count := 0, alarm := now + s.rto }
  else { s with data := s.data ++ ys }
theorem St.Ok.more {s : St} (ho : s.Ok) {ys : List Int} (hl : s.data.length + ys.length ≤ 16384) (hy : ∀ x ∈ ys, 0 ≤ x ∧ x ≤ 255) : ({ s with data := s.data ++ ys } : St).Ok := by
  have hb : ∀ x ∈ s.data ++ ys, 0 ≤ x ∧ x ≤ 255 := by
    intro x hx
    rcases List.mem_append.1 hx with h | h
    · exact ho.byte x h
    · exact hy x h
  have hs := ho.sent
  exact ⟨by simpa using hl, hb, ho.una0, ho.una1, by simp; omega, ho.win0, ho.win1, ho.rto0, ho.rto1, ho.tries0, ho.tries1, ho.count, ho.wait, ho.alarm0, ho.alarm1⟩
theorem writeSt_ok (s : St) (ys : List Int) (now : Int) (ho : s.Ok) (hl : s.data.length + ys.length ≤ 16384) (hy : ∀ x ∈ ys, 0 ≤ x ∧ x ≤ 255) (h0 : 0 ≤ now) (h1 : now ≤ 1125899906842624) : (writeSt s ys now).Ok := by
  have hb : ∀ x ∈ s.data ++ ys, 0 ≤ x ∧ x ≤ 255 := by
    intro x hx
    rcases List.mem_append.1 hx with h | h
    · exact ho.byte x h
    · exact hy x h
  have r0 := ho.rto0
  have r1 := ho.rto1
  have hs := ho.sent
  unfold writeSt
  split
  · exact ⟨by simpa using hl, hb, ho.una0, ho.una1, by simp; omega, ho.win0, ho.win1, r0, r1, ho.tries0, ho.tries1, by simp, by simp, by simp; omega, by simp; omega⟩
  · exact ⟨by simpa using hl, hb, ho.una0, ho.una1, by simp; omega, ho.win0, ho.win1, r0, r1, ho.tries0, ho.tries1, ho.count, ho.wait, ho.alarm0, ho.alarm1⟩

set_option maxHeartbeats 800000 in
theorem write_long (g c : Nat) (A : Option Addr) (s : St) (B : Option Addr) (m c2 : Nat) (ys : List Int) (now : Int) (w : World) (hb : Buf w g A c s) (ho : s.Ok) (hm : ys.length = m) (hy : Byt w (.slice B m c2) ys) (hl : ¬ s.data.length + m ≤ 16384) (hmm : m ≤ 1000000) :
    Calls Try.prog 12 #[.pointer (some ⟨g, 0, none⟩), .slice B m c2, .int .u64 now] w fun e w' => e = .returned (.int .i64 3) ∧ w = w' := by
  have c2 := hb.c0
  have HC := Lib.hid hb.c4
  have r0 := ho.rto0
  have l0 := ho.len
  clear hb ho hy
  obtain ⟨n, hn⟩ : ∃ n, s.data.length = n := ⟨_, rfl⟩
  rw [hn] at c2 hl l0
  clear hn hm
  go_enter Try.func12, Try.ntmps12
  go_wp2_with (go_at_call 40; refine (none_any _ _ _ HC.out r0).mono ?_; rintro e w' ⟨rfl, rfl⟩)
  go_ret
  exact ⟨rfl, rfl⟩

set_option maxHeartbeats 1600000 in
theorem write_more (g c : Nat) (A : Option Addr) (s : St) (B : Option Addr) (m c2 : Nat) (ys : List Int) (now : Int) (w : World) (hb : Buf w g A c s) (ho : s.Ok) (hm : ys.length = m) (hy : Byt w (.slice B m c2) ys) (hl : s.data.length + m ≤ 16384)
    (h0 : 0 ≤ now) (h1 : now ≤ 1125899906842624) (hcase : 0 < s.data.length) :
    Calls Try.prog 12 #[.pointer (some ⟨g, 0, none⟩), .slice B m c2, .int .u64 now] w fun e w' => e = .returned (.int .i64 0) ∧ w.grownBy w' (some g) ∧ ∃ A' c', Buf w' g A' c' ({ s with data := s.data ++ ys }) := by
  have c0 := hb.c0
  have HC := Lib.hid hb.c4
  have r0 := ho.rto0
  have l0 := ho.len
  have HB := Lib.hid hb
  have HO := Lib.hid ho
  have HY := Lib.hid hy
  have HM := Lib.hid hm
  obtain ⟨n, hn⟩ : ∃ n, s.data.length = n := ⟨_, rfl⟩
  have HN := Lib.hid hn
  have HD : Hid (Byt w (.slice A n c) s.data) := by rw [← hn]; exact hb.2
  rw [hn] at c0 hl l0 hcase
  clear hb ho hy hm hn
  have hz : ((n : Int) == 0) = false := by simp; omega
  go_enter Try.func12, Try.ntmps12
  go_wp2_with (go_at_call 40; refine (none_any _ _ _ HC.out r0).mono ?_; rintro e w' ⟨rfl, rfl⟩)
  (with_reducible refine (clone_any A n c s.data _ HN.out HD.out (by omega)).mono ?_)
  rintro e w1 ⟨v1, rfl, hown1, hb1⟩
  obtain ⟨v2, w2, hr, ho2, hg2⟩ := run_append_byt (w := w1) w.heap.size v1 n _ hown1 B m c2 ys HM.out (HY.out.below hb1) (by omega) hb1.size
  have hB2 : Below w.heap.size w w2 := hb1.grown hg2 hb1.size (fun k hk => (hown1.lt k hk).1)
  obtain ⟨A2, k2, rfl⟩ := own_len ho2
  have hcell2 := (hB2.block g HB.out.lt).trans HB.out.1
  have d0 := cell_of hcell2 0
  have f0 := free_of hcell2 0
  have HH2 := Lib.hid hcell2
  have HB2 := Lib.hid hB2
  have HR := Lib.hid hr
  have HO2 := Lib.hid ho2
  clear hown1 hb1 hr ho2 hg2 hB2 hcell2
  have d0 : w2.cell? ⟨g, 0, none⟩ = some (.slice A s.data.length c) := d0
  go_wp2_with (at_builtin; refine Lib.wpList_append_run _ rfl _ _ 34 34 rfl _ _ rfl rfl _ _ (by exact HR.out) ?_)
  have HS : Hid (({ s with data := s.data ++ ys } : St).data.length = n + m) := by show (s.data ++ ys).length = n + m; rw [List.length_append, HN.out, HM.out]
  have hh3 : (w2.setCell ⟨g, 0, none⟩ (.slice A2 (n + m) k2)).heap[g]? = some (.cells (({ s with data := s.data ++ ys } : St).cells A2 k2) 67 (0, 0)) := by
    have h := heap_set (i := 0) HH2.out (.slice A2 (n + m) k2)
    rw [h]
    unfold St.cells
    rw [HS.out]
    rfl
  have hg3 : w.grownBy (w2.setCell ⟨g, 0, none⟩ (.slice A2 (n + m) k2)) (some g) := grown_set (grown_below HB2.out)
  have hbuf3 : Buf (w2.setCell ⟨g, 0, none⟩ (.slice A2 (n + m) k2)) g A2 k2 { s with data := s.data ++ ys } := by
    refine ⟨hh3, ?_⟩
    rw [HS.out]
    have hby : Byt w2 (.slice A2 (n + m) k2) (s.data ++ ys) := by
      refine Byt.of_own (base := w.heap.size) ?_
      rw [List.length_append, HN.out, HM.out, List.map_append]
      exact HO2.out
    refine hby.keep (grown_setCell _ _ _ _) ?_
    intro b hb hp e
    have := (HO2.out.lt b hb).1
    have := HB.out.lt
    omega
  go_ret
  exact ⟨rfl, hg3, A2, k2, hbuf3⟩

set_option maxHeartbeats 1600000 in
theorem write_nil (g c : Nat) (A : Option Addr) (s : St) (B : Option Addr) (m c2 : Nat) (ys : List Int) (now : Int) (w : World) (hb : Buf w g A c s) (ho : s.Ok) (hm : ys.length = m) (hy : Byt w (.slice B m c2) ys) (hl : s.data.length + m ≤ 16384)
    (h0 : 0 ≤ now) (h1 : now ≤ 1125899906842624) (hcase : s.data.length ≤ 0) (hm0 : m ≤ 0) :
    Calls Try.prog 12 #[.pointer (some ⟨g, 0, none⟩), .slice B m c2, .int .u64 now] w fun e w' => e = .returned (.int .i64 0) ∧ w.grownBy w' (some g) ∧ ∃ A' c', Buf w' g A' c' ({ s with data := s.data ++ ys }) := by
  have c0 := hb.c0
  have HC := Lib.hid hb.c4
  have r0 := ho.rto0
  have l0 := ho.len
  have HB := Lib.hid hb
  have HO := Lib.hid ho
  have HY := Lib.hid hy
  have HM := Lib.hid hm
  obtain ⟨n, hn⟩ : ∃ n, s.data.length = n := ⟨_, rfl⟩
  have HN := Lib.hid hn
  have HD : Hid (Byt w (.slice A n c) s.data) := by rw [← hn]; exact hb.2
  rw [hn] at c0 hl l0 hcase
  clear hb ho hy hm hn
  have hz : ((n : Int) == 0) = true := by simp; omega
  go_enter Try.func12, Try.ntmps12
  go_wp2_with (go_at_call 40; refine (none_any _ _ _ HC.out r0).mono ?_; rintro e w' ⟨rfl, rfl⟩)
  (with_reducible refine (clone_any A n c s.data _ HN.out HD.out (by omega)).mono ?_)
  rintro e w1 ⟨v1, rfl, hown1, hb1⟩
  obtain ⟨v2, w2, hr, ho2, hg2⟩ := run_append_byt (w := w1) w.heap.size v1 n _ hown1 B m c2 ys HM.out (HY.out.below hb1) (by omega) hb1.size
  have hB2 : Below w.heap.size w w2 := hb1.grown hg2 hb1.size (fun k hk => (hown1.lt k hk).1)
  obtain ⟨A2, k2, rfl⟩ := own_len ho2
  have hcell2 := (hB2.block g HB.out.lt).trans HB.out.1
  have d0 := cell_of hcell2 0
  have f0 := free_of hcell2 0
  have HH2 := Lib.hid hcell2
  have HB2 := Lib.hid hB2
  have HR := Lib.hid hr
  have HO2 := Lib.hid ho2
  clear hown1 hb1 hr ho2 hg2 hB2 hcell2
  have d0 : w2.cell? ⟨g, 0, none⟩ = some (.slice A s.data.length c) := d0
  go_wp2_with (at_builtin; refine Lib.wpList_append_run _ rfl _ _ 34 34 rfl _ _ rfl rfl _ _ (by exact HR.out) ?_)
  have HS : Hid (({ s with data := s.data ++ ys } : St).data.length = n + m) := by show (s.data ++ ys).length = n + m; rw [List.length_append, HN.out, HM.out]
  have hh3 : (w2.setCell ⟨g, 0, none⟩ (.slice A2 (n + m) k2)).heap[g]? = some (.cells (({ s with data := s.data ++ ys } : St).cells A2 k2) 67 (0, 0)) := by
    have h := heap_set (i := 0) HH2.out (.slice A2 (n + m) k2)
    rw [h]
    unfold St.cells
    rw [HS.out]
    rfl
  have hg3 : w.grownBy (w2.setCell ⟨g, 0, none⟩ (.slice A2 (n + m) k2)) (some g) := grown_set (grown_below HB2.out)
  have hbuf3 : Buf (w2.setCell ⟨g, 0, none⟩ (.slice A2 (n + m) k2)) g A2 k2 { s with data := s.data ++ ys } := by
    refine ⟨hh3, ?_⟩
    rw [HS.out]
    have hby : Byt w2 (.slice A2 (n + m) k2) (s.data ++ ys) := by
      refine Byt.of_own (base := w.heap.size) ?_
      rw [List.length_append, HN.out, HM.out, List.map_append]
      exact HO2.out
    refine hby.keep (grown_setCell _ _ _ _) ?_
    intro b hb hp e
    have := (HO2.out.lt b hb).1
    have := HB.out.lt
    omega
  go_ret
  exact ⟨rfl, hg3, A2, k2, hbuf3⟩

set_option maxHeartbeats 1600000 in
theorem write_first (g c : Nat) (A : Option Addr) (s : St) (B : Option Addr) (m c2 : Nat) (ys : List Int) (now : Int) (w : World) (hb : Buf w g A c s) (ho : s.Ok) (hm : ys.length = m) (hy : Byt w (.slice B m c2) ys) (hl : s.data.length + m ≤ 16384)
    (h0 : 0 ≤ now) (h1 : now ≤ 1125899906842624) (hcase : s.data.length ≤ 0) (hm0 : 0 < m) (hby : ∀ x ∈ ys, 0 ≤ x ∧ x ≤ 255) :
    Calls Try.prog 12 #[.pointer (some ⟨g, 0, none⟩), .slice B m c2, .int .u64 now] w fun e w' => e = .returned (.int .i64 0) ∧ w.grownBy w' (some g) ∧ ∃ A' c', Buf w' g A' c' ({ s with data := s.data ++ ys, wait := s.rto, count := 0, alarm := now + s.rto }) := by
  have c0 := hb.c0
  have HC := Lib.hid hb.c4
  have r0 := ho.rto0
  have l0 := ho.len
  have HB := Lib.hid hb
  have HO := Lib.hid ho
  have HY := Lib.hid hy
  have HM := Lib.hid hm
  obtain ⟨n, hn⟩ : ∃ n, s.data.length = n := ⟨_, rfl⟩
  have HN := Lib.hid hn
  have HD : Hid (Byt w (.slice A n c) s.data) := by rw [← hn]; exact hb.2
  rw [hn] at c0 hl l0 hcase
  clear hb ho hy hm hn
  have hz : ((n : Int) == 0) = true := by simp; omega
  go_enter Try.func12, Try.ntmps12
  go_wp2_with (go_at_call 40; refine (none_any _ _ _ HC.out r0).mono ?_; rintro e w' ⟨rfl, rfl⟩)
  (with_reducible refine (clone_any A n c s.data _ HN.out HD.out (by omega)).mono ?_)
  rintro e w1 ⟨v1, rfl, hown1, hb1⟩
  obtain ⟨v2, w2, hr, ho2, hg2⟩ := run_append_byt (w := w1) w.heap.size v1 n _ hown1 B m c2 ys HM.out (HY.out.below hb1) (by omega) hb1.size
  have hB2 : Below w.heap.size w w2 := hb1.grown hg2 hb1.size (fun k hk => (hown1.lt k hk).1)
  obtain ⟨A2, k2, rfl⟩ := own_len ho2
  have hcell2 := (hB2.block g HB.out.lt).trans HB.out.1
  have d0 := cell_of hcell2 0
  have f0 := free_of hcell2 0
  have HH2 := Lib.hid hcell2
  have HB2 := Lib.hid hB2
  have HR := Lib.hid hr
  have HO2 := Lib.hid ho2
  clear hown1 hb1 hr ho2 hg2 hB2 hcell2
  have d0 : w2.cell? ⟨g, 0, none⟩ = some (.slice A s.data.length c) := d0
  go_wp2_with (at_builtin; refine Lib.wpList_append_run _ rfl _ _ 34 34 rfl _ _ rfl rfl _ _ (by exact HR.out) ?_)
  have HS : Hid (({ s with data := s.data ++ ys } : St).data.length = n + m) := by show (s.data ++ ys).length = n + m; rw [List.length_append, HN.out, HM.out]
  have hh3 : (w2.setCell ⟨g, 0, none⟩ (.slice A2 (n + m) k2)).heap[g]? = some (.cells (({ s with data := s.data ++ ys } : St).cells A2 k2) 67 (0, 0)) := by
    have h := heap_set (i := 0) HH2.out (.slice A2 (n + m) k2)
    rw [h]
    unfold St.cells
    rw [HS.out]
    rfl
  have hg3 : w.grownBy (w2.setCell ⟨g, 0, none⟩ (.slice A2 (n + m) k2)) (some g) := grown_set (grown_below HB2.out)
  have hbuf3 : Buf (w2.setCell ⟨g, 0, none⟩ (.slice A2 (n + m) k2)) g A2 k2 { s with data := s.data ++ ys } := by
    refine ⟨hh3, ?_⟩
    rw [HS.out]
    have hby : Byt w2 (.slice A2 (n + m) k2) (s.data ++ ys) := by
      refine Byt.of_own (base := w.heap.size) ?_
      rw [List.length_append, HN.out, HM.out, List.map_append]
      exact HO2.out
    refine hby.keep (grown_setCell _ _ _ _) ?_
    intro b hb hp e
    have := (HO2.out.lt b hb).1
    have := HB.out.lt
    omega
  have HN2 : ({ s with data := s.data ++ ys } : St).Ok := HO.out.more (by rw [HN.out, HM.out]; exact hl) hby
  (with_reducible refine (anew_any g k2 A2 { s with data := s.data ++ ys } now _ hbuf3 HN2 h0 h1).mono ?_)
  rintro e w4 ⟨rfl, hg4, hc4⟩
  have HG4 := Lib.hid (grown_trans hg3 hg4)
  have HB4 := Lib.hid (hbuf3.upd (s' := { s with data := s.data ++ ys, wait := s.rto, count := 0, alarm := now + s.rto }) hg4 rfl hc4)
  clear hg3 hg4 hc4 hh3 hbuf3
  go_wp2
  go_ret
  exact ⟨rfl, HG4.out, A2, k2, HB4.out⟩

theorem write_ok (g c : Nat) (A : Option Addr) (s : St) (B : Option Addr) (m c2 : Nat) (ys : List Int) (now : Int) (w : World) (hb : Buf w g A c s) (ho : s.Ok) (hm : ys.length = m) (hy : Byt w (.slice B m c2) ys) (hl : s.data.length + m ≤ 16384)
    (h0 : 0 ≤ now) (h1 : now ≤ 1125899906842624) (hby : ∀ x ∈ ys, 0 ≤ x ∧ x ≤ 255) :
    Calls Try.prog 12 #[.pointer (some ⟨g, 0, none⟩), .slice B m c2, .int .u64 now] w fun e w' => e = .returned (.int .i64 0) ∧ w.grownBy w' (some g) ∧ ∃ A' c', Buf w' g A' c' (writeSt s ys now) := by
  unfold writeSt
  rw [hm]
  by_cases h2 : s.data.length = 0
  · by_cases h3 : 0 < m
    · rw [if_pos ⟨h2, h3⟩]
      exact write_first g c A s B m c2 ys now w hb ho hm hy hl h0 h1 (by omega) h3 hby
    · rw [if_neg (fun h => h3 h.2)]
      exact write_nil g c A s B m c2 ys now w hb ho hm hy hl h0 h1 (by omega) (by omega)
  · rw [if_neg (fun h => h2 h.1)]
    exact write_more g c A s B m c2 ys now w hb ho hm hy hl h0 h1 (by omega)

end Go.Proofs.Ytpigomkhpdfdcaa
