/- Write and Acked once more, with where the buffer's bytes lie. -/
import Derived.Test.YtpigomkhpdfdcaaKeepBuf
import Derived.Maps.AppendAt
set_option linter.unusedVariables false
namespace Go.Proofs.Ytpigomkhpdfdcaa
open Go.RowKit Go.Deep Go.BigFrame
/-- The block of an address. -/
def blk (A : Option Addr) : Option Nat := A.map (·.block)
theorem blk_own {A : Option Addr} {n c b : Nat} (h : blk A = some b) : (Value.slice A n c).ownBlock = some b := by
  cases A with
  | none => cases h
  | some x => simpa [blk, Value.ownBlock] using h
theorem own_blk {A : Option Addr} {n c b : Nat} (h : (Value.slice A n c).ownBlock = some b) : blk A = some b := by
  cases A with
  | none => simp [Value.ownBlock] at h
  | some x => simpa [blk, Value.ownBlock] using h

/-- Appending bytes, with where the new row lies. -/
theorem run_append_bytF {w : World} (base : Nat) (v : Value) (n : Nat) (xs : List Value) (hown : w.ownsRow base 5 1 v n xs) (A : Option Addr) (m c : Nat) (ys : List Int) (hy : ys.length = m) (hb : Byt w (.slice A m c) ys)
    (hsm : n + m ≤ 1000000) (hbase : base ≤ w.heap.size) :
    ∃ v' w', (Builtin.append_ #[34, 34] 34 #[v, .slice A m c]).run Try.prog w = .ok v' w' ∧ w'.ownsRow base 5 1 v' (n + m) (xs ++ ys.map (.int .u8)) ∧ w.grownBy w' v.ownBlock ∧ (v'.ownBlock = v.ownBlock ∨ v'.ownBlock = some w.heap.size) := by
  obtain ⟨i0, hi, hz0, hz1, hz2⟩ := info_parts info5
  subst hy
  obtain ⟨A', c', hv, h1, h2, h3⟩ := hb
  cases hv
  cases A with
  | none =>
    have h0 : ys.length = 0 := by
      rcases Nat.eq_zero_or_pos ys.length with h | h
      · exact h
      · obtain ⟨b, o, h', _⟩ := h3 h; cases h'
    obtain rfl : ys = [] := List.eq_nil_of_length_eq_zero h0
    refine ⟨v, w, ?_, by simpa using hown, ⟨rfl, rfl, rfl, Nat.le_refl _, fun _ _ _ => rfl⟩, .inl rfl⟩
    rcases hown.2 with ⟨rfl, rfl⟩ | ⟨g, cap, cur, rfl, _, _, hnc, _⟩
    · simp [Builtin.append_, run_underlying Try.underlying34, sizeOf, typeInfo, hi, Builtin.lenOf, Builtin.firstCells]
    · simp [Builtin.append_, run_underlying Try.underlying34, sizeOf, typeInfo, hi, Builtin.lenOf, Builtin.firstCells, hnc, storeCells]
  | some ad =>
    obtain ⟨v', w', hr, ho, hg, _, hat⟩ := run_append_own_at (P := Try.prog) w base 34 34 5 i0 (.int .u8 0) 1 1 Try.underlying34 hi hz0 hz1 hz2 rfl (by decide) v n xs hown ad ys.length c (ys.map (.int .u8)) (by simp)
      (fun j u hu => by
        have hj : j < ys.length := by
          rcases Nat.lt_or_ge j ys.length with h | h
          · exact h
          · rw [List.getElem?_eq_none (by simpa using h)] at hu; cases hu
        obtain ⟨b, o, hab, _, hc⟩ := h3 (by omega)
        cases hab
        rw [Go.WideShapes.add_plain, hc j hj]
        rw [List.getElem?_map, List.getElem?_eq_getElem hj] at hu
        simp only [List.getD, List.getElem?_eq_getElem hj]
        exact hu)
      (fun u hu => by obtain ⟨x, _, rfl⟩ := List.mem_map.1 hu; rfl) (by unfold maxLen; omega) (by omega) hbase
    exact ⟨v', w', hr, ho, hg, hat⟩

set_option maxHeartbeats 1600000 in
theorem write_moreF (g c : Nat) (A : Option Addr) (s : St) (B : Option Addr) (m c2 : Nat) (ys : List Int) (now : Int) (w : World) (hb : Buf w g A c s) (ho : s.Ok) (hm : ys.length = m) (hy : Byt w (.slice B m c2) ys) (hl : s.data.length + m ≤ 16384)
    (h0 : 0 ≤ now) (h1 : now ≤ 1125899906842624) (hcase : 0 < s.data.length) :
    Calls Try.prog 12 #[.pointer (some ⟨g, 0, none⟩), .slice B m c2, .int .u64 now] w fun e w' => e = .returned (.int .i64 0) ∧ w.grownBy w' (some g) ∧ ∃ A' c', Buf w' g A' c' ({ s with data := s.data ++ ys }) ∧ ∀ b, blk A' = some b → w.heap.size ≤ b ∧ b < w'.heap.size := by
  have c0 := hb.c0
  have HC := Lib.hid hb.c4
  have r0 := ho.rto0
  have l0 := ho.len
  have HB := Lib.hid hb
  have HO := Lib.hid ho
  have HY := Lib.hid hy
  have HM := Lib.hid hm
  obtain ⟨n, hn⟩ : ∃ n, s.data.length = n := ⟨_, rfl⟩
  have HN := Lib.hid hn
  have HD : Hid (Byt w (.slice A n c) s.data) := by rw [← hn]; exact hb.2
  rw [hn] at c0 hl l0 hcase
  clear hb ho hy hm hn
  have hz : ((n : Int) == 0) = false := by simp; omega
  go_enter Try.func12, Try.ntmps12
  go_wp2_with (go_at_call 40; refine (none_any _ _ _ HC.out r0).mono ?_; rintro e w' ⟨rfl, rfl⟩)
  (with_reducible refine (clone_any A n c s.data _ HN.out HD.out (by omega)).mono ?_)
  rintro e w1 ⟨v1, rfl, hown1, hb1⟩
  obtain ⟨v2, w2, hr, ho2, hg2⟩ := run_append_byt (w := w1) w.heap.size v1 n _ hown1 B m c2 ys HM.out (HY.out.below hb1) (by omega) hb1.size
  have hB2 : Below w.heap.size w w2 := hb1.grown hg2 hb1.size (fun k hk => (hown1.lt k hk).1)
  obtain ⟨A2, k2, rfl⟩ := own_len ho2
  have hcell2 := (hB2.block g HB.out.lt).trans HB.out.1
  have d0 := cell_of hcell2 0
  have f0 := free_of hcell2 0
  have HH2 := Lib.hid hcell2
  have HB2 := Lib.hid hB2
  have HR := Lib.hid hr
  have HO2 := Lib.hid ho2
  clear hown1 hb1 hr ho2 hg2 hB2 hcell2
  have d0 : w2.cell? ⟨g, 0, none⟩ = some (.slice A s.data.length c) := d0
  go_wp2_with (at_builtin; refine Lib.wpList_append_run _ rfl _ _ 34 34 rfl _ _ rfl rfl _ _ (by exact HR.out) ?_)
  have HS : Hid (({ s with data := s.data ++ ys } : St).data.length = n + m) := by show (s.data ++ ys).length = n + m; rw [List.length_append, HN.out, HM.out]
  have hh3 : (w2.setCell ⟨g, 0, none⟩ (.slice A2 (n + m) k2)).heap[g]? = some (.cells (({ s with data := s.data ++ ys } : St).cells A2 k2) 67 (0, 0)) := by
    have h := heap_set (i := 0) HH2.out (.slice A2 (n + m) k2)
    rw [h]
    unfold St.cells
    rw [HS.out]
    rfl
  have hg3 : w.grownBy (w2.setCell ⟨g, 0, none⟩ (.slice A2 (n + m) k2)) (some g) := grown_set (grown_below HB2.out)
  have hbuf3 : Buf (w2.setCell ⟨g, 0, none⟩ (.slice A2 (n + m) k2)) g A2 k2 { s with data := s.data ++ ys } := by
    refine ⟨hh3, ?_⟩
    rw [HS.out]
    have hby : Byt w2 (.slice A2 (n + m) k2) (s.data ++ ys) := by
      refine Byt.of_own (base := w.heap.size) ?_
      rw [List.length_append, HN.out, HM.out, List.map_append]
      exact HO2.out
    refine hby.keep (grown_setCell _ _ _ _) ?_
    intro b hb hp e
    have := (HO2.out.lt b hb).1
    have := HB.out.lt
    omega
  go_ret
  exact ⟨rfl, hg3, A2, k2, hbuf3, fun b hb => ⟨(HO2.out.lt b (blk_own hb)).1, by have := (HO2.out.lt b (blk_own hb)).2; simpa [World.setCell] using this⟩⟩

set_option maxHeartbeats 1600000 in
theorem write_nilF (g c : Nat) (A : Option Addr) (s : St) (B : Option Addr) (m c2 : Nat) (ys : List Int) (now : Int) (w : World) (hb : Buf w g A c s) (ho : s.Ok) (hm : ys.length = m) (hy : Byt w (.slice B m c2) ys) (hl : s.data.length + m ≤ 16384)
    (h0 : 0 ≤ now) (h1 : now ≤ 1125899906842624) (hcase : s.data.length ≤ 0) (hm0 : m ≤ 0) :
    Calls Try.prog 12 #[.pointer (some ⟨g, 0, none⟩), .slice B m c2, .int .u64 now] w fun e w' => e = .returned (.int .i64 0) ∧ w.grownBy w' (some g) ∧ ∃ A' c', Buf w' g A' c' ({ s with data := s.data ++ ys }) ∧ ∀ b, blk A' = some b → w.heap.size ≤ b ∧ b < w'.heap.size := by
  have c0 := hb.c0
  have HC := Lib.hid hb.c4
  have r0 := ho.rto0
  have l0 := ho.len
  have HB := Lib.hid hb
  have HO := Lib.hid ho
  have HY := Lib.hid hy
  have HM := Lib.hid hm
  obtain ⟨n, hn⟩ : ∃ n, s.data.length = n := ⟨_, rfl⟩
  have HN := Lib.hid hn
  have HD : Hid (Byt w (.slice A n c) s.data) := by rw [← hn]; exact hb.2
  rw [hn] at c0 hl l0 hcase
  clear hb ho hy hm hn
  have hz : ((n : Int) == 0) = true := by simp; omega
  go_enter Try.func12, Try.ntmps12
  go_wp2_with (go_at_call 40; refine (none_any _ _ _ HC.out r0).mono ?_; rintro e w' ⟨rfl, rfl⟩)
  (with_reducible refine (clone_any A n c s.data _ HN.out HD.out (by omega)).mono ?_)
  rintro e w1 ⟨v1, rfl, hown1, hb1⟩
  obtain ⟨v2, w2, hr, ho2, hg2⟩ := run_append_byt (w := w1) w.heap.size v1 n _ hown1 B m c2 ys HM.out (HY.out.below hb1) (by omega) hb1.size
  have hB2 : Below w.heap.size w w2 := hb1.grown hg2 hb1.size (fun k hk => (hown1.lt k hk).1)
  obtain ⟨A2, k2, rfl⟩ := own_len ho2
  have hcell2 := (hB2.block g HB.out.lt).trans HB.out.1
  have d0 := cell_of hcell2 0
  have f0 := free_of hcell2 0
  have HH2 := Lib.hid hcell2
  have HB2 := Lib.hid hB2
  have HR := Lib.hid hr
  have HO2 := Lib.hid ho2
  clear hown1 hb1 hr ho2 hg2 hB2 hcell2
  have d0 : w2.cell? ⟨g, 0, none⟩ = some (.slice A s.data.length c) := d0
  go_wp2_with (at_builtin; refine Lib.wpList_append_run _ rfl _ _ 34 34 rfl _ _ rfl rfl _ _ (by exact HR.out) ?_)
  have HS : Hid (({ s with data := s.data ++ ys } : St).data.length = n + m) := by show (s.data ++ ys).length = n + m; rw [List.length_append, HN.out, HM.out]
  have hh3 : (w2.setCell ⟨g, 0, none⟩ (.slice A2 (n + m) k2)).heap[g]? = some (.cells (({ s with data := s.data ++ ys } : St).cells A2 k2) 67 (0, 0)) := by
    have h := heap_set (i := 0) HH2.out (.slice A2 (n + m) k2)
    rw [h]
    unfold St.cells
    rw [HS.out]
    rfl
  have hg3 : w.grownBy (w2.setCell ⟨g, 0, none⟩ (.slice A2 (n + m) k2)) (some g) := grown_set (grown_below HB2.out)
  have hbuf3 : Buf (w2.setCell ⟨g, 0, none⟩ (.slice A2 (n + m) k2)) g A2 k2 { s with data := s.data ++ ys } := by
    refine ⟨hh3, ?_⟩
    rw [HS.out]
    have hby : Byt w2 (.slice A2 (n + m) k2) (s.data ++ ys) := by
      refine Byt.of_own (base := w.heap.size) ?_
      rw [List.length_append, HN.out, HM.out, List.map_append]
      exact HO2.out
    refine hby.keep (grown_setCell _ _ _ _) ?_
    intro b hb hp e
    have := (HO2.out.lt b hb).1
    have := HB.out.lt
    omega
  go_ret
  exact ⟨rfl, hg3, A2, k2, hbuf3, fun b hb => ⟨(HO2.out.lt b (blk_own hb)).1, by have := (HO2.out.lt b (blk_own hb)).2; simpa [World.setCell] using this⟩⟩

set_option maxHeartbeats 1600000 in
theorem write_firstF (g c : Nat) (A : Option Addr) (s : St) (B : Option Addr) (m c2 : Nat) (ys : List Int) (now : Int) (w : World) (hb : Buf w g A c s) (ho : s.Ok) (hm : ys.length = m) (hy : Byt w (.slice B m c2) ys) (hl : s.data.length + m ≤ 16384)
    (h0 : 0 ≤ now) (h1 : now ≤ 1125899906842624) (hcase : s.data.length ≤ 0) (hm0 : 0 < m) (hby : ∀ x ∈ ys, 0 ≤ x ∧ x ≤ 255) :
    Calls Try.prog 12 #[.pointer (some ⟨g, 0, none⟩), .slice B m c2, .int .u64 now] w fun e w' => e = .returned (.int .i64 0) ∧ w.grownBy w' (some g) ∧ ∃ A' c', Buf w' g A' c' ({ s with data := s.data ++ ys, wait := s.rto, count := 0, alarm := now + s.rto }) ∧ ∀ b, blk A' = some b → w.heap.size ≤ b ∧ b < w'.heap.size := by
  have c0 := hb.c0
  have HC := Lib.hid hb.c4
  have r0 := ho.rto0
  have l0 := ho.len
  have HB := Lib.hid hb
  have HO := Lib.hid ho
  have HY := Lib.hid hy
  have HM := Lib.hid hm
  obtain ⟨n, hn⟩ : ∃ n, s.data.length = n := ⟨_, rfl⟩
  have HN := Lib.hid hn
  have HD : Hid (Byt w (.slice A n c) s.data) := by rw [← hn]; exact hb.2
  rw [hn] at c0 hl l0 hcase
  clear hb ho hy hm hn
  have hz : ((n : Int) == 0) = true := by simp; omega
  go_enter Try.func12, Try.ntmps12
  go_wp2_with (go_at_call 40; refine (none_any _ _ _ HC.out r0).mono ?_; rintro e w' ⟨rfl, rfl⟩)
  (with_reducible refine (clone_any A n c s.data _ HN.out HD.out (by omega)).mono ?_)
  rintro e w1 ⟨v1, rfl, hown1, hb1⟩
  obtain ⟨v2, w2, hr, ho2, hg2⟩ := run_append_byt (w := w1) w.heap.size v1 n _ hown1 B m c2 ys HM.out (HY.out.below hb1) (by omega) hb1.size
  have hB2 : Below w.heap.size w w2 := hb1.grown hg2 hb1.size (fun k hk => (hown1.lt k hk).1)
  obtain ⟨A2, k2, rfl⟩ := own_len ho2
  have hcell2 := (hB2.block g HB.out.lt).trans HB.out.1
  have d0 := cell_of hcell2 0
  have f0 := free_of hcell2 0
  have HH2 := Lib.hid hcell2
  have HB2 := Lib.hid hB2
  have HR := Lib.hid hr
  have HO2 := Lib.hid ho2
  clear hown1 hb1 hr ho2 hg2 hB2 hcell2
  have d0 : w2.cell? ⟨g, 0, none⟩ = some (.slice A s.data.length c) := d0
  go_wp2_with (at_builtin; refine Lib.wpList_append_run _ rfl _ _ 34 34 rfl _ _ rfl rfl _ _ (by exact HR.out) ?_)
  have HS : Hid (({ s with data := s.data ++ ys } : St).data.length = n + m) := by show (s.data ++ ys).length = n + m; rw [List.length_append, HN.out, HM.out]
  have hh3 : (w2.setCell ⟨g, 0, none⟩ (.slice A2 (n + m) k2)).heap[g]? = some (.cells (({ s with data := s.data ++ ys } : St).cells A2 k2) 67 (0, 0)) := by
    have h := heap_set (i := 0) HH2.out (.slice A2 (n + m) k2)
    rw [h]
    unfold St.cells
    rw [HS.out]
    rfl
  have hg3 : w.grownBy (w2.setCell ⟨g, 0, none⟩ (.slice A2 (n + m) k2)) (some g) := grown_set (grown_below HB2.out)
  have hbuf3 : Buf (w2.setCell ⟨g, 0, none⟩ (.slice A2 (n + m) k2)) g A2 k2 { s with data := s.data ++ ys } := by
    refine ⟨hh3, ?_⟩
    rw [HS.out]
    have hby : Byt w2 (.slice A2 (n + m) k2) (s.data ++ ys) := by
      refine Byt.of_own (base := w.heap.size) ?_
      rw [List.length_append, HN.out, HM.out, List.map_append]
      exact HO2.out
    refine hby.keep (grown_setCell _ _ _ _) ?_
    intro b hb hp e
    have := (HO2.out.lt b hb).1
    have := HB.out.lt
    omega
  have HN2 : ({ s with data := s.data ++ ys } : St).Ok := HO.out.more (by rw [HN.out, HM.out]; exact hl) hby
  (with_reducible refine (anew_any g k2 A2 { s with data := s.data ++ ys } now _ hbuf3 HN2 h0 h1).mono ?_)
  rintro e w4 ⟨rfl, hg4, hc4⟩
  have HG4 := Lib.hid (grown_trans hg3 hg4)
  have HS4 : Hid (w2.heap.size ≤ w4.heap.size) := Lib.hid (by have := hg4.size; simpa [World.setCell] using this)
  have HB4 := Lib.hid (hbuf3.upd (s' := { s with data := s.data ++ ys, wait := s.rto, count := 0, alarm := now + s.rto }) hg4 rfl hc4)
  clear hg3 hg4 hc4 hh3 hbuf3
  go_wp2
  go_ret
  exact ⟨rfl, HG4.out, A2, k2, HB4.out, fun b hb => ⟨(HO2.out.lt b (blk_own hb)).1, Nat.lt_of_lt_of_le (HO2.out.lt b (blk_own hb)).2 (HS4.out)⟩⟩

theorem write_okF (g c : Nat) (A : Option Addr) (s : St) (B : Option Addr) (m c2 : Nat) (ys : List Int) (now : Int) (w : World) (hb : Buf w g A c s) (ho : s.Ok) (hm : ys.length = m) (hy : Byt w (.slice B m c2) ys) (hl : s.data.length + m ≤ 16384)
    (h0 : 0 ≤ now) (h1 : now ≤ 1125899906842624) (hby : ∀ x ∈ ys, 0 ≤ x ∧ x ≤ 255) :
    Calls Try.prog 12 #[.pointer (some ⟨g, 0, none⟩), .slice B m c2, .int .u64 now] w fun e w' => e = .returned (.int .i64 0) ∧ w.grownBy w' (some g) ∧ ∃ A' c', Buf w' g A' c' (writeSt s ys now) ∧ ∀ b, blk A' = some b → w.heap.size ≤ b ∧ b < w'.heap.size := by
  unfold writeSt
  rw [hm]
  by_cases h2 : s.data.length = 0
  · by_cases h3 : 0 < m
    · rw [if_pos ⟨h2, h3⟩]
      exact write_firstF g c A s B m c2 ys now w hb ho hm hy hl h0 h1 (by omega) h3 hby
    · rw [if_neg (fun h => h3 h.2)]
      exact write_nilF g c A s B m c2 ys now w hb ho hm hy hl h0 h1 (by omega) (by omega)
  · rw [if_neg (fun h => h2 h.1)]
    exact write_moreF g c A s B m c2 ys now w hb ho hm hy hl h0 h1 (by omega)

set_option maxHeartbeats 1600000 in
theorem acked_someF (g c : Nat) (A : Option Addr) (s : St) (k : Nat) (ack win now : Int) (w : World) (hb : Buf w g A c s) (ho : s.Ok) (hk0 : 0 < k) (hks : k ≤ s.sent) (hd : ahd s.una ack = k) (hw0 : 0 ≤ win) (hw : win ≤ 1073741824) (a0 : 0 ≤ ack) (a1 : ack ≤ 4294967295) (h0 : 0 ≤ now) (h1 : now ≤ 1125899906842624) (hcase : k < s.data.length) :
    Calls Try.prog 15 #[.pointer (some ⟨g, 0, none⟩), .int .u32 ack, .int .u32 win, .int .u64 now] w fun e w' => e = .returned (.tuple #[.int .i64 k, .int .i64 0]) ∧ w.grownBy w' (some g) ∧ ∃ A' c', Buf w' g A' c' (ackSt s k ack win now) ∧ blk A' = blk A := by
  have c0 := hb.c0
  have c1 := hb.c1
  have c2 := hb.c2
  have c3 := hb.c3
  have f0 := free_of hb.1 0
  have f1 := free_of hb.1 1
  have f2 := free_of hb.1 2
  have f3 := free_of hb.1 3
  have HC := Lib.hid hb.c4
  have r0 := ho.rto0
  have HB := Lib.hid hb
  have HO := Lib.hid ho
  have hsl := ho.sent
  have hl := ho.len
  obtain ⟨sent, hsent⟩ : ∃ sent, s.sent = sent := ⟨_, rfl⟩
  obtain ⟨una, huna⟩ : ∃ una, s.una = una := ⟨_, rfl⟩
  obtain ⟨n, hn⟩ : ∃ n, s.data.length = n := ⟨_, rfl⟩
  have HS := Lib.hid hsent
  have HN := Lib.hid hn
  rw [hsent] at c2 hks hsl
  rw [huna] at c1 hd
  rw [hn] at c0 hsl hl hcase
  have HD := Lib.hid hd
  have hbd := ahd_bd una ack
  rw [hd] at hbd
  obtain ⟨A', c', hv, hc1, hc2, h3⟩ := hb.2
  injection hv with e1 e2 e3
  subst e1
  have e3' : c' = c := e3.symm
  rw [hn] at hc1
  rw [e3'] at hc1 hc2
  obtain ⟨b, o, rfl, hlt, hcell⟩ := h3 (by omega)
  unfold maxLen at hc2
  have hcn : ¬ n = k := by omega
  have HCELL := Lib.hid hcell
  clear h3 e2 e3 hcell
  have i1 : (0 : Int) ≤ (k : Int) := by omega
  have i2 : (k : Int) ≤ (n : Int) := by omega
  have i3 : (n : Int) ≤ (c : Int) := by omega
  clear hb ho hsent huna hd hn
  go_enter Try.func15, Try.ntmps15
  go_wp2_with (first | (go_at_call 40; refine (none_any _ _ _ HC.out r0).mono ?_; rintro e w' ⟨rfl, rfl⟩) | (go_at_call 22; refine (ahead_any _ _ _).mono ?_; rw [HD.out]; rintro e w' ⟨rfl, rfl⟩))
  refine wp_region_tail 19 (by kernel_rfl) (by kernel_rfl) ?_
  simp only [List.take_succ_cons, List.take_zero, List.drop_succ_cons, List.drop_zero]
  repeat still_step
  refine wpStill_nil ?_
  go_wp2_with fail
  have e1 : ((sent : Int) - (k : Int)) = ((s.sent - k : Nat) : Int) := by rw [HS.out]; omega
  have hlen : (s.data.drop k).length = n - k := by rw [List.length_drop, HN.out]
  have hh := heap_set (i := 0) (heap_set (i := 2) (heap_set (i := 1) (heap_set (i := 3) HB.out.1 (.int .u32 win)) (.int .u32 ack)) (.int .i64 ((sent : Int) - (k : Int)))) (.slice (some ⟨b, o + k, none⟩) (n - k) (n - k))
  obtain ⟨s1, hs1⟩ : ∃ s1 : St, s1 = { s with data := s.data.drop k, una := ack, sent := s.sent - k, win := win } := ⟨_, rfl⟩
  have hok : s1.Ok := by
    have hl' := HO.out.len
    have hs' := HO.out.sent
    rw [hs1]
    exact { HO.out with len := by simp; omega, byte := fun x hx => HO.out.byte x (List.mem_of_mem_drop hx), una0 := a0, una1 := a1, sent := by simp; omega, win0 := hw0, win1 := hw }
  obtain ⟨W4, hW4⟩ : ∃ W4, W4 = ((((w.setCell { block := g, off := 3 } (Value.int IntKind.u32 win)).setCell { block := g, off := 1 } (Value.int IntKind.u32 ack)).setCell { block := g, off := 2 } (Value.int IntKind.i64 ((sent : Int) - (k : Int)))).setCell { block := g, off := 0 } (Value.slice (some ⟨b, o + k, none⟩) (n - k) (n - k))).drew := ⟨_, rfl⟩
  have hg4 : w.grownBy W4 (some g) := by rw [hW4]; exact grown_drew (grown_set (grown_set (grown_set (grown_setCell _ _ _ _))))
  have hby : Byt W4 (.slice (some ⟨b, o + k, none⟩) (n - k) (n - k)) (s.data.drop k) := by
    have hap := HB.out.apart b rfl (by rw [HN.out]; omega)
    refine ⟨some ⟨b, o + k, none⟩, n - k, by rw [hlen], by rw [hlen]; exact Nat.le_refl _, by unfold maxLen; omega, fun _ => ⟨b, o + k, rfl, Nat.lt_of_lt_of_le hlt hg4.size, fun i hi => ?_⟩⟩
    rw [hlen] at hi
    have h1 := (World.cell?_of_block (a := ⟨b, o + k + i, none⟩) (hg4.block b hlt (fun e => by injection e with e; exact hap e)))
    rw [h1, show o + k + i = o + (k + i) from by omega, HCELL.out (k + i) (by rw [HN.out]; omega)]
    simp [List.getD, List.getElem?_drop]
  have hb4 : Buf W4 g ((some ⟨b, o + k, none⟩)) (n - k) s1 := by
    refine ⟨?_, ?_⟩
    · rw [hW4]
      refine Eq.trans hh ?_
      rw [e1, hs1]
      unfold St.cells
      simp [hlen]
    · rw [hs1]
      show Byt W4 (.slice _ (s.data.drop k).length _) (s.data.drop k)
      rw [hlen]; exact hby
  rw [← hW4]
  have HG4 := Lib.hid hg4
  have HB4 := Lib.hid hb4
  clear hh hg4 hby hb4
  (with_reducible refine (anew_any g (n - k) (some ⟨b, o + k, none⟩) s1 now W4 HB4.out hok h0 h1).mono ?_)
  rintro e w5 ⟨rfl, hg5, hc5⟩
  have HG5 := Lib.hid (grown_trans HG4.out hg5)
  have HB5 : Hid (Buf w5 g ((some ⟨b, o + k, none⟩)) (n - k) (ackSt s k ack win now)) := by
    have := HB4.out.upd (s' := { s1 with wait := s1.rto, count := 0, alarm := now + s1.rto }) hg5 rfl hc5
    unfold ackSt
    rw [if_neg (by omega)]
    rw [hs1] at this
    exact this
  clear hg5 hc5 e1 hlen hs1 hW4
  go_wp2
  go_ret2
  exact ⟨rfl, HG5.out, _, _, HB5.out, rfl⟩

set_option maxHeartbeats 1600000 in
theorem acked_allF (g c : Nat) (A : Option Addr) (s : St) (k : Nat) (ack win now : Int) (w : World) (hb : Buf w g A c s) (ho : s.Ok) (hk0 : 0 < k) (hks : k ≤ s.sent) (hd : ahd s.una ack = k) (hw0 : 0 ≤ win) (hw : win ≤ 1073741824) (a0 : 0 ≤ ack) (a1 : ack ≤ 4294967295) (h0 : 0 ≤ now) (h1 : now ≤ 1125899906842624) (hcase : s.data.length ≤ k) :
    Calls Try.prog 15 #[.pointer (some ⟨g, 0, none⟩), .int .u32 ack, .int .u32 win, .int .u64 now] w fun e w' => e = .returned (.tuple #[.int .i64 k, .int .i64 0]) ∧ w.grownBy w' (some g) ∧ ∃ A' c', Buf w' g A' c' (ackSt s k ack win now) ∧ blk A' = blk A := by
  have c0 := hb.c0
  have c1 := hb.c1
  have c2 := hb.c2
  have c3 := hb.c3
  have f0 := free_of hb.1 0
  have f1 := free_of hb.1 1
  have f2 := free_of hb.1 2
  have f3 := free_of hb.1 3
  have HC := Lib.hid hb.c4
  have r0 := ho.rto0
  have HB := Lib.hid hb
  have HO := Lib.hid ho
  have hsl := ho.sent
  have hl := ho.len
  obtain ⟨sent, hsent⟩ : ∃ sent, s.sent = sent := ⟨_, rfl⟩
  obtain ⟨una, huna⟩ : ∃ una, s.una = una := ⟨_, rfl⟩
  obtain ⟨n, hn⟩ : ∃ n, s.data.length = n := ⟨_, rfl⟩
  have HS := Lib.hid hsent
  have HN := Lib.hid hn
  rw [hsent] at c2 hks hsl
  rw [huna] at c1 hd
  rw [hn] at c0 hsl hl hcase
  have HD := Lib.hid hd
  have hbd := ahd_bd una ack
  rw [hd] at hbd
  obtain ⟨A', c', hv, hc1, hc2, h3⟩ := hb.2
  injection hv with e1 e2 e3
  subst e1
  have e3' : c' = c := e3.symm
  rw [hn] at hc1
  rw [e3'] at hc1 hc2
  unfold maxLen at hc2
  clear h3 e2 e3
  obtain rfl : k = n := by omega
  have i1 : (0 : Int) ≤ (k : Int) := by omega
  have i2 : (k : Int) ≤ (k : Int) := by omega
  have i3 : (k : Int) ≤ (c : Int) := by omega
  clear hb ho hsent huna hd hn
  go_enter Try.func15, Try.ntmps15
  go_wp2_with (first | (go_at_call 40; refine (none_any _ _ _ HC.out r0).mono ?_; rintro e w' ⟨rfl, rfl⟩) | (go_at_call 22; refine (ahead_any _ _ _).mono ?_; rw [HD.out]; rintro e w' ⟨rfl, rfl⟩))
  refine wp_region_tail 19 (by kernel_rfl) (by kernel_rfl) ?_
  simp only [List.take_succ_cons, List.take_zero, List.drop_succ_cons, List.drop_zero]
  repeat still_step
  refine wpStill_nil ?_
  go_wp2_with fail
  have e1 : ((sent : Int) - (k : Int)) = ((s.sent - k : Nat) : Int) := by rw [HS.out]; omega
  have hlen : (s.data.drop k).length = 0 := by rw [List.length_drop, HN.out]; omega
  have hh := heap_set (i := 0) (heap_set (i := 2) (heap_set (i := 1) (heap_set (i := 3) HB.out.1 (.int .u32 win)) (.int .u32 ack)) (.int .i64 ((sent : Int) - (k : Int)))) (.slice A 0 0)
  obtain ⟨s1, hs1⟩ : ∃ s1 : St, s1 = { s with data := s.data.drop k, una := ack, sent := s.sent - k, win := win } := ⟨_, rfl⟩
  have hok : s1.Ok := by
    have hl' := HO.out.len
    have hs' := HO.out.sent
    rw [hs1]
    exact { HO.out with len := by simp; omega, byte := fun x hx => HO.out.byte x (List.mem_of_mem_drop hx), una0 := a0, una1 := a1, sent := by simp; omega, win0 := hw0, win1 := hw }
  obtain ⟨W4, hW4⟩ : ∃ W4, W4 = ((((w.setCell { block := g, off := 3 } (Value.int IntKind.u32 win)).setCell { block := g, off := 1 } (Value.int IntKind.u32 ack)).setCell { block := g, off := 2 } (Value.int IntKind.i64 ((sent : Int) - (k : Int)))).setCell { block := g, off := 0 } (Value.slice A 0 0)).drew := ⟨_, rfl⟩
  have hg4 : w.grownBy W4 (some g) := by rw [hW4]; exact grown_drew (grown_set (grown_set (grown_set (grown_setCell _ _ _ _))))
  have hby : Byt W4 (.slice A 0 0) (s.data.drop k) := by
    have : s.data.drop k = [] := List.drop_eq_nil_of_le (by rw [HN.out]; omega)
    rw [this]
    exact ⟨A, 0, rfl, by simp, by simp [maxLen], fun h => by simp at h⟩
  have hb4 : Buf W4 g (A) 0 s1 := by
    refine ⟨?_, ?_⟩
    · rw [hW4]
      refine Eq.trans hh ?_
      rw [e1, hs1]
      unfold St.cells
      simp [hlen]
    · rw [hs1]
      show Byt W4 (.slice _ (s.data.drop k).length _) (s.data.drop k)
      rw [hlen]; exact hby
  rw [← hW4]
  have HG4 := Lib.hid hg4
  have HB4 := Lib.hid hb4
  clear hh hg4 hby hb4
  (with_reducible refine (anew_any g 0 A s1 now W4 HB4.out hok h0 h1).mono ?_)
  rintro e w5 ⟨rfl, hg5, hc5⟩
  have HG5 := Lib.hid (grown_trans HG4.out hg5)
  have HB5 : Hid (Buf w5 g (A) 0 (ackSt s k ack win now)) := by
    have := HB4.out.upd (s' := { s1 with wait := s1.rto, count := 0, alarm := now + s1.rto }) hg5 rfl hc5
    unfold ackSt
    rw [if_neg (by omega)]
    rw [hs1] at this
    exact this
  clear hg5 hc5 e1 hlen hs1 hW4
  go_wp2
  go_ret2
  exact ⟨rfl, HG5.out, _, _, HB5.out, rfl⟩

theorem acked_posF (g c : Nat) (A : Option Addr) (s : St) (k : Nat) (ack win now : Int) (w : World) (hb : Buf w g A c s) (ho : s.Ok) (hks : k ≤ s.sent) (hd : ahd s.una ack = k) (hw0 : 0 ≤ win) (hw : win ≤ 1073741824) (a0 : 0 ≤ ack) (a1 : ack ≤ 4294967295) (h0 : 0 ≤ now) (h1 : now ≤ 1125899906842624) :
    Calls Try.prog 15 #[.pointer (some ⟨g, 0, none⟩), .int .u32 ack, .int .u32 win, .int .u64 now] w fun e w' => e = .returned (.tuple #[.int .i64 k, .int .i64 0]) ∧ w.grownBy w' (some g) ∧ ∃ A' c', Buf w' g A' c' (ackSt s k ack win now) ∧ blk A' = blk A := by
  rcases Nat.eq_zero_or_pos k with h | h
  · subst h
    refine (acked_zero g c A s ack win now w hb ho hd hw).mono fun e w' ⟨h1, h2, h3⟩ => ⟨h1, h2, A, c, ?_, rfl⟩
    unfold ackSt
    rw [if_pos rfl]
    exact h3
  · by_cases h2 : k < s.data.length
    · exact acked_someF g c A s k ack win now w hb ho h hks hd hw0 hw a0 a1 h0 h1 h2
    · exact acked_allF g c A s k ack win now w hb ho h hks hd hw0 hw a0 a1 h0 h1 (by omega)

end Go.Proofs.Ytpigomkhpdfdcaa
