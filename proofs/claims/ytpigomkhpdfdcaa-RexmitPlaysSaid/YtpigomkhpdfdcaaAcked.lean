/- Acked. -/
import Derived.Test.YtpigomkhpdfdcaaPiece
set_option linter.unusedVariables false
namespace Go.Proofs.Ytpigomkhpdfdcaa
open Go.RowKit Go.Deep Go.BigFrame
attribute [local go_sem ↓] Go.wp_at_zero Go.wp_at_succ

set_option maxHeartbeats 1600000 in
theorem acked_no (g c : Nat) (A : Option Addr) (s : St) (ack win now : Int) (w : World) (hb : Buf w g A c s) (ho : s.Ok) (h : ahd s.una ack < 0 ∨ (s.sent : Int) < ahd s.una ack ∨ 1073741824 < win) :
    Calls Try.prog 15 #[.pointer (some ⟨g, 0, none⟩), .int .u32 ack, .int .u32 win, .int .u64 now] w fun e w' => e = .returned (.tuple #[.int .i64 0, .int .i64 1]) ∧ w = w' := by
  have c1 := hb.c1
  have c2 := hb.c2
  have HC := Lib.hid hb.c4
  have r0 := ho.rto0
  have hbd := ahd_bd s.una ack
  obtain ⟨sent, hsent⟩ : ∃ sent, s.sent = sent := ⟨_, rfl⟩
  obtain ⟨una, huna⟩ : ∃ una, s.una = una := ⟨_, rfl⟩
  rw [hsent] at c2 h
  rw [huna] at c1 h hbd
  obtain ⟨d, hd⟩ : ∃ d, ahd una ack = d := ⟨_, rfl⟩
  have HD := Lib.hid hd
  rw [hd] at h hbd
  clear hb ho hsent huna hd
  by_cases g1 : d < 0
  · clear h
    go_enter Try.func15, Try.ntmps15
    go_wp2_with (first | (go_at_call 40; refine (none_any _ _ _ HC.out r0).mono ?_; rintro e w' ⟨rfl, rfl⟩) | (go_at_call 22; refine (ahead_any _ _ _).mono ?_; rw [HD.out]; rintro e w' ⟨rfl, rfl⟩))
    go_ret2
    exact ⟨rfl, rfl⟩
  · have k1 : decide (d < 0) = false := decide_eq_false g1
    by_cases g2 : (sent : Int) < d
    · clear h
      go_enter Try.func15, Try.ntmps15
      go_wp2_with (first | (go_at_call 40; refine (none_any _ _ _ HC.out r0).mono ?_; rintro e w' ⟨rfl, rfl⟩) | (go_at_call 22; refine (ahead_any _ _ _).mono ?_; rw [HD.out]; rintro e w' ⟨rfl, rfl⟩))
      go_ret2
      exact ⟨rfl, rfl⟩
    · have k2 : decide ((sent : Int) < d) = false := decide_eq_false g2
      have g3 : 1073741824 < win := by omega
      clear h
      go_enter Try.func15, Try.ntmps15
      go_wp2_with (first | (go_at_call 40; refine (none_any _ _ _ HC.out r0).mono ?_; rintro e w' ⟨rfl, rfl⟩) | (go_at_call 22; refine (ahead_any _ _ _).mono ?_; rw [HD.out]; rintro e w' ⟨rfl, rfl⟩))
      go_ret2
      exact ⟨rfl, rfl⟩

def ackSt (s : St) (k : Nat) (ack win now : Int) : St :=
  if k = 0 then { s with win := win } else { data := s.data.drop k, una := ack, sent := s.sent - k, win := win, rto := s.rto, tries := s.tries, wait := s.rto, count := 0, alarm := now + s.rto }
theorem ackSt_ok (s : St) (k : Nat) (ack win now : Int) (ho : s.Ok) (hk : k ≤ s.sent) (w0 : 0 ≤ win) (w1 : win ≤ 1073741824) (a0 : 0 ≤ ack) (a1 : ack ≤ 4294967295) (h0 : 0 ≤ now) (h1 : now ≤ 1125899906842624) : (ackSt s k ack win now).Ok := by
  have hl := ho.len
  have hs := ho.sent
  have r0 := ho.rto0
  have r1 := ho.rto1
  unfold ackSt
  split
  · exact { ho with win0 := w0, win1 := w1 }
  · exact ⟨by simp; omega, fun x hx => ho.byte x (List.mem_of_mem_drop hx), a0, a1, by simp; omega, w0, w1, r0, r1, ho.tries0, ho.tries1, by simp, by simp, by simp; omega, by simp; omega⟩

set_option maxHeartbeats 1600000 in
theorem acked_zero (g c : Nat) (A : Option Addr) (s : St) (ack win now : Int) (w : World) (hb : Buf w g A c s) (ho : s.Ok) (hd : ahd s.una ack = 0) (hw : win ≤ 1073741824) :
    Calls Try.prog 15 #[.pointer (some ⟨g, 0, none⟩), .int .u32 ack, .int .u32 win, .int .u64 now] w fun e w' => e = .returned (.tuple #[.int .i64 0, .int .i64 0]) ∧ w.grownBy w' (some g) ∧ Buf w' g A c { s with win := win } := by
  have c1 := hb.c1
  have c2 := hb.c2
  have c3 := hb.c3
  have f3 := free_of hb.1 3
  have HC := Lib.hid hb.c4
  have r0 := ho.rto0
  have HB := Lib.hid hb
  obtain ⟨sent, hsent⟩ : ∃ sent, s.sent = sent := ⟨_, rfl⟩
  obtain ⟨una, huna⟩ : ∃ una, s.una = una := ⟨_, rfl⟩
  rw [hsent] at c2
  rw [huna] at c1 hd
  have HD := Lib.hid hd
  clear hb ho hsent huna hd
  go_enter Try.func15, Try.ntmps15
  go_wp2_with (first | (go_at_call 40; refine (none_any _ _ _ HC.out r0).mono ?_; rintro e w' ⟨rfl, rfl⟩) | (go_at_call 22; refine (ahead_any _ _ _).mono ?_; rw [HD.out]; rintro e w' ⟨rfl, rfl⟩))
  go_ret2
  refine ⟨rfl, grown_setCell _ _ _ _, HB.out.upd (grown_setCell _ _ _ _) rfl ?_⟩
  exact heap_set HB.out.1 _

set_option maxHeartbeats 1600000 in
theorem acked_some (g c : Nat) (A : Option Addr) (s : St) (k : Nat) (ack win now : Int) (w : World) (hb : Buf w g A c s) (ho : s.Ok) (hk0 : 0 < k) (hks : k ≤ s.sent) (hd : ahd s.una ack = k) (hw0 : 0 ≤ win) (hw : win ≤ 1073741824) (a0 : 0 ≤ ack) (a1 : ack ≤ 4294967295) (h0 : 0 ≤ now) (h1 : now ≤ 1125899906842624) (hcase : k < s.data.length) :
    Calls Try.prog 15 #[.pointer (some ⟨g, 0, none⟩), .int .u32 ack, .int .u32 win, .int .u64 now] w fun e w' => e = .returned (.tuple #[.int .i64 k, .int .i64 0]) ∧ w.grownBy w' (some g) ∧ ∃ A' c', Buf w' g A' c' (ackSt s k ack win now) := by
  have c0 := hb.c0
  have c1 := hb.c1
  have c2 := hb.c2
  have c3 := hb.c3
  have f0 := free_of hb.1 0
  have f1 := free_of hb.1 1
  have f2 := free_of hb.1 2
  have f3 := free_of hb.1 3
  have HC := Lib.hid hb.c4
  have r0 := ho.rto0
  have HB := Lib.hid hb
  have HO := Lib.hid ho
  have hsl := ho.sent
  have hl := ho.len
  obtain ⟨sent, hsent⟩ : ∃ sent, s.sent = sent := ⟨_, rfl⟩
  obtain ⟨una, huna⟩ : ∃ una, s.una = una := ⟨_, rfl⟩
  obtain ⟨n, hn⟩ : ∃ n, s.data.length = n := ⟨_, rfl⟩
  have HS := Lib.hid hsent
  have HN := Lib.hid hn
  rw [hsent] at c2 hks hsl
  rw [huna] at c1 hd
  rw [hn] at c0 hsl hl hcase
  have HD := Lib.hid hd
  have hbd := ahd_bd una ack
  rw [hd] at hbd
  obtain ⟨A', c', hv, hc1, hc2, h3⟩ := hb.2
  injection hv with e1 e2 e3
  subst e1
  have e3' : c' = c := e3.symm
  rw [hn] at hc1
  rw [e3'] at hc1 hc2
  obtain ⟨b, o, rfl, hlt, hcell⟩ := h3 (by omega)
  unfold maxLen at hc2
  have hcn : ¬ n = k := by omega
  have HCELL := Lib.hid hcell
  clear h3 e2 e3 hcell
  have i1 : (0 : Int) ≤ (k : Int) := by omega
  have i2 : (k : Int) ≤ (n : Int) := by omega
  have i3 : (n : Int) ≤ (c : Int) := by omega
  clear hb ho hsent huna hd hn
  go_enter Try.func15, Try.ntmps15
  go_wp2_with (first | (go_at_call 40; refine (none_any _ _ _ HC.out r0).mono ?_; rintro e w' ⟨rfl, rfl⟩) | (go_at_call 22; refine (ahead_any _ _ _).mono ?_; rw [HD.out]; rintro e w' ⟨rfl, rfl⟩))
  refine wp_region_tail 19 (by kernel_rfl) (by kernel_rfl) ?_
  simp only [List.take_succ_cons, List.take_zero, List.drop_succ_cons, List.drop_zero]
  repeat still_step
  refine wpStill_nil ?_
  go_wp2_with fail
  have e1 : ((sent : Int) - (k : Int)) = ((s.sent - k : Nat) : Int) := by rw [HS.out]; omega
  have hlen : (s.data.drop k).length = n - k := by rw [List.length_drop, HN.out]
  have hh := heap_set (i := 0) (heap_set (i := 2) (heap_set (i := 1) (heap_set (i := 3) HB.out.1 (.int .u32 win)) (.int .u32 ack)) (.int .i64 ((sent : Int) - (k : Int)))) (.slice (some ⟨b, o + k, none⟩) (n - k) (n - k))
  obtain ⟨s1, hs1⟩ : ∃ s1 : St, s1 = { s with data := s.data.drop k, una := ack, sent := s.sent - k, win := win } := ⟨_, rfl⟩
  have hok : s1.Ok := by
    have hl' := HO.out.len
    have hs' := HO.out.sent
    rw [hs1]
    exact { HO.out with len := by simp; omega, byte := fun x hx => HO.out.byte x (List.mem_of_mem_drop hx), una0 := a0, una1 := a1, sent := by simp; omega, win0 := hw0, win1 := hw }
  obtain ⟨W4, hW4⟩ : ∃ W4, W4 = ((((w.setCell { block := g, off := 3 } (Value.int IntKind.u32 win)).setCell { block := g, off := 1 } (Value.int IntKind.u32 ack)).setCell { block := g, off := 2 } (Value.int IntKind.i64 ((sent : Int) - (k : Int)))).setCell { block := g, off := 0 } (Value.slice (some ⟨b, o + k, none⟩) (n - k) (n - k))).drew := ⟨_, rfl⟩
  have hg4 : w.grownBy W4 (some g) := by rw [hW4]; exact grown_drew (grown_set (grown_set (grown_set (grown_setCell _ _ _ _))))
  have hby : Byt W4 (.slice (some ⟨b, o + k, none⟩) (n - k) (n - k)) (s.data.drop k) := by
    have hap := HB.out.apart b rfl (by rw [HN.out]; omega)
    refine ⟨some ⟨b, o + k, none⟩, n - k, by rw [hlen], by rw [hlen]; exact Nat.le_refl _, by unfold maxLen; omega, fun _ => ⟨b, o + k, rfl, Nat.lt_of_lt_of_le hlt hg4.size, fun i hi => ?_⟩⟩
    rw [hlen] at hi
    have h1 := (World.cell?_of_block (a := ⟨b, o + k + i, none⟩) (hg4.block b hlt (fun e => by injection e with e; exact hap e)))
    rw [h1, show o + k + i = o + (k + i) from by omega, HCELL.out (k + i) (by rw [HN.out]; omega)]
    simp [List.getD, List.getElem?_drop]
  have hb4 : Buf W4 g ((some ⟨b, o + k, none⟩)) (n - k) s1 := by
    refine ⟨?_, ?_⟩
    · rw [hW4]
      refine Eq.trans hh ?_
      rw [e1, hs1]
      unfold St.cells
      simp [hlen]
    · rw [hs1]
      show Byt W4 (.slice _ (s.data.drop k).length _) (s.data.drop k)
      rw [hlen]; exact hby
  rw [← hW4]
  have HG4 := Lib.hid hg4
  have HB4 := Lib.hid hb4
  clear hh hg4 hby hb4
  (with_reducible refine (anew_any g (n - k) (some ⟨b, o + k, none⟩) s1 now W4 HB4.out hok h0 h1).mono ?_)
  rintro e w5 ⟨rfl, hg5, hc5⟩
  have HG5 := Lib.hid (grown_trans HG4.out hg5)
  have HB5 : Hid (Buf w5 g ((some ⟨b, o + k, none⟩)) (n - k) (ackSt s k ack win now)) := by
    have := HB4.out.upd (s' := { s1 with wait := s1.rto, count := 0, alarm := now + s1.rto }) hg5 rfl hc5
    unfold ackSt
    rw [if_neg (by omega)]
    rw [hs1] at this
    exact this
  clear hg5 hc5 e1 hlen hs1 hW4
  go_wp2
  go_ret2
  exact ⟨rfl, HG5.out, _, _, HB5.out⟩

set_option maxHeartbeats 1600000 in
theorem acked_all (g c : Nat) (A : Option Addr) (s : St) (k : Nat) (ack win now : Int) (w : World) (hb : Buf w g A c s) (ho : s.Ok) (hk0 : 0 < k) (hks : k ≤ s.sent) (hd : ahd s.una ack = k) (hw0 : 0 ≤ win) (hw : win ≤ 1073741824) (a0 : 0 ≤ ack) (a1 : ack ≤ 4294967295) (h0 : 0 ≤ now) (h1 : now ≤ 1125899906842624) (hcase : s.data.length ≤ k) :
    Calls Try.prog 15 #[.pointer (some ⟨g, 0, none⟩), .int .u32 ack, .int .u32 win, .int .u64 now] w fun e w' => e = .returned (.tuple #[.int .i64 k, .int .i64 0]) ∧ w.grownBy w' (some g) ∧ ∃ A' c', Buf w' g A' c' (ackSt s k ack win now) := by
  have c0 := hb.c0
  have c1 := hb.c1
  have c2 := hb.c2
  have c3 := hb.c3
  have f0 := free_of hb.1 0
  have f1 := free_of hb.1 1
  have f2 := free_of hb.1 2
  have f3 := free_of hb.1 3
  have HC := Lib.hid hb.c4
  have r0 := ho.rto0
  have HB := Lib.hid hb
  have HO := Lib.hid ho
  have hsl := ho.sent
  have hl := ho.len
  obtain ⟨sent, hsent⟩ : ∃ sent, s.sent = sent := ⟨_, rfl⟩
  obtain ⟨una, huna⟩ : ∃ una, s.una = una := ⟨_, rfl⟩
  obtain ⟨n, hn⟩ : ∃ n, s.data.length = n := ⟨_, rfl⟩
  have HS := Lib.hid hsent
  have HN := Lib.hid hn
  rw [hsent] at c2 hks hsl
  rw [huna] at c1 hd
  rw [hn] at c0 hsl hl hcase
  have HD := Lib.hid hd
  have hbd := ahd_bd una ack
  rw [hd] at hbd
  obtain ⟨A', c', hv, hc1, hc2, h3⟩ := hb.2
  injection hv with e1 e2 e3
  subst e1
  have e3' : c' = c := e3.symm
  rw [hn] at hc1
  rw [e3'] at hc1 hc2
  unfold maxLen at hc2
  clear h3 e2 e3
  obtain rfl : k = n := by omega
  have i1 : (0 : Int) ≤ (k : Int) := by omega
  have i2 : (k : Int) ≤ (k : Int) := by omega
  have i3 : (k : Int) ≤ (c : Int) := by omega
  clear hb ho hsent huna hd hn
  go_enter Try.func15, Try.ntmps15
  go_wp2_with (first | (go_at_call 40; refine (none_any _ _ _ HC.out r0).mono ?_; rintro e w' ⟨rfl, rfl⟩) | (go_at_call 22; refine (ahead_any _ _ _).mono ?_; rw [HD.out]; rintro e w' ⟨rfl, rfl⟩))
  refine wp_region_tail 19 (by kernel_rfl) (by kernel_rfl) ?_
  simp only [List.take_succ_cons, List.take_zero, List.drop_succ_cons, List.drop_zero]
  repeat still_step
  refine wpStill_nil ?_
  go_wp2_with fail
  have e1 : ((sent : Int) - (k : Int)) = ((s.sent - k : Nat) : Int) := by rw [HS.out]; omega
  have hlen : (s.data.drop k).length = 0 := by rw [List.length_drop, HN.out]; omega
  have hh := heap_set (i := 0) (heap_set (i := 2) (heap_set (i := 1) (heap_set (i := 3) HB.out.1 (.int .u32 win)) (.int .u32 ack)) (.int .i64 ((sent : Int) - (k : Int)))) (.slice A 0 0)
  obtain ⟨s1, hs1⟩ : ∃ s1 : St, s1 = { s with data := s.data.drop k, una := ack, sent := s.sent - k, win := win } := ⟨_, rfl⟩
  have hok : s1.Ok := by
    have hl' := HO.out.len
    have hs' := HO.out.sent
    rw [hs1]
    exact { HO.out with len := by simp; omega, byte := fun x hx => HO.out.byte x (List.mem_of_mem_drop hx), una0 := a0, una1 := a1, sent := by simp; omega, win0 := hw0, win1 := hw }
  obtain ⟨W4, hW4⟩ : ∃ W4, W4 = ((((w.setCell { block := g, off := 3 } (Value.int IntKind.u32 win)).setCell { block := g, off := 1 } (Value.int IntKind.u32 ack)).setCell { block := g, off := 2 } (Value.int IntKind.i64 ((sent : Int) - (k : Int)))).setCell { block := g, off := 0 } (Value.slice A 0 0)).drew := ⟨_, rfl⟩
  have hg4 : w.grownBy W4 (some g) := by rw [hW4]; exact grown_drew (grown_set (grown_set (grown_set (grown_setCell _ _ _ _))))
  have hby : Byt W4 (.slice A 0 0) (s.data.drop k) := by
    have : s.data.drop k = [] := List.drop_eq_nil_of_le (by rw [HN.out]; omega)
    rw [this]
    exact ⟨A, 0, rfl, by simp, by simp [maxLen], fun h => by simp at h⟩
  have hb4 : Buf W4 g (A) 0 s1 := by
    refine ⟨?_, ?_⟩
    · rw [hW4]
      refine Eq.trans hh ?_
      rw [e1, hs1]
      unfold St.cells
      simp [hlen]
    · rw [hs1]
      show Byt W4 (.slice _ (s.data.drop k).length _) (s.data.drop k)
      rw [hlen]; exact hby
  rw [← hW4]
  have HG4 := Lib.hid hg4
  have HB4 := Lib.hid hb4
  clear hh hg4 hby hb4
  (with_reducible refine (anew_any g 0 A s1 now W4 HB4.out hok h0 h1).mono ?_)
  rintro e w5 ⟨rfl, hg5, hc5⟩
  have HG5 := Lib.hid (grown_trans HG4.out hg5)
  have HB5 : Hid (Buf w5 g (A) 0 (ackSt s k ack win now)) := by
    have := HB4.out.upd (s' := { s1 with wait := s1.rto, count := 0, alarm := now + s1.rto }) hg5 rfl hc5
    unfold ackSt
    rw [if_neg (by omega)]
    rw [hs1] at this
    exact this
  clear hg5 hc5 e1 hlen hs1 hW4
  go_wp2
  go_ret2
  exact ⟨rfl, HG5.out, _, _, HB5.out⟩

theorem acked_pos (g c : Nat) (A : Option Addr) (s : St) (k : Nat) (ack win now : Int) (w : World) (hb : Buf w g A c s) (ho : s.Ok) (hks : k ≤ s.sent) (hd : ahd s.una ack = k) (hw0 : 0 ≤ win) (hw : win ≤ 1073741824) (a0 : 0 ≤ ack) (a1 : ack ≤ 4294967295) (h0 : 0 ≤ now) (h1 : now ≤ 1125899906842624) :
    Calls Try.prog 15 #[.pointer (some ⟨g, 0, none⟩), .int .u32 ack, .int .u32 win, .int .u64 now] w fun e w' => e = .returned (.tuple #[.int .i64 k, .int .i64 0]) ∧ w.grownBy w' (some g) ∧ ∃ A' c', Buf w' g A' c' (ackSt s k ack win now) := by
  rcases Nat.eq_zero_or_pos k with h | h
  · subst h
    refine (acked_zero g c A s ack win now w hb ho hd hw).mono fun e w' ⟨h1, h2, h3⟩ => ⟨h1, h2, A, c, ?_⟩
    unfold ackSt
    rw [if_pos rfl]
    exact h3
  · by_cases h2 : k < s.data.length
    · exact acked_some g c A s k ack win now w hb ho h hks hd hw0 hw a0 a1 h0 h1 h2
    · exact acked_all g c A s k ack win now w hb ho h hks hd hw0 hw a0 a1 h0 h1 (by omega)

end Go.Proofs.Ytpigomkhpdfdcaa
