/- Tick. -/
import Derived.Test.YtpigomkhpdfdcaaAcked
set_option linter.unusedVariables false
namespace Go.Proofs.Ytpigomkhpdfdcaa
open Go.RowKit Go.Deep Go.BigFrame
attribute [local go_sem ↓] Go.wp_at_zero Go.wp_at_succ

def nonePc : Value := .agg #[.int .u32 0, .slice none 0 0]

set_option maxHeartbeats 1600000 in
theorem tick_arg (g c : Nat) (A : Option Addr) (s : St) (mss now : Int) (w : World) (hb : Buf w g A c s) (ho : s.Ok) (h : mayB mss = false) :
    Calls Try.prog 14 #[.pointer (some ⟨g, 0, none⟩), .int .i64 mss, .int .u64 now] w fun e w' => e = .returned (.tuple #[.agg #[.int .u32 0, .slice none 0 0], .bool false, .int .i64 1]) ∧ Below w.heap.size w w' := by
  have HC := Lib.hid (fun W (hB : Below w.heap.size w W) => (hB.cell (p := ⟨g, 4, none⟩) hb.lt).trans hb.c4)
  have r0 := ho.rto0
  have hlt := hb.lt
  clear hb ho
  go_enter Try.func14, Try.ntmps14
  go_wp2_with (first | (go_at_call 40; refine (none_any _ _ _ (HC.out _ ((Below.refl _ _).alloc (Nat.le_refl _) _)) r0).mono ?_; rintro e w' ⟨rfl, rfl⟩) | (go_at_call 43; refine (may_any _ _).mono ?_; rw [h]; rintro e w' ⟨rfl, rfl⟩))
  refine bodyPost_ret (v := .tuple #[.agg #[.int .u32 0, .slice none 0 0], .bool false, .int .i64 1]) (by simp [results, Try.results14, go_sem]) rfl ⟨rfl, ?_⟩
  repeat (first | exact Below.refl _ _ | exact (Below.refl _ _).alloc (Nat.le_refl _) _ | refine Below.setCell ?_ (by simp) _)

set_option maxHeartbeats 1600000 in
theorem tick_later (g c : Nat) (A : Option Addr) (s : St) (mss now : Int) (w : World) (hb : Buf w g A c s) (ho : s.Ok) (h : mayB mss = true) (hl : s.data.length = 0 ∨ now < s.alarm) :
    Calls Try.prog 14 #[.pointer (some ⟨g, 0, none⟩), .int .i64 mss, .int .u64 now] w fun e w' => e = .returned (.tuple #[.agg #[.int .u32 0, .slice none 0 0], .bool false, .int .i64 0]) ∧ Below w.heap.size w w' := by
  have HC := Lib.hid (fun W (hB : Below w.heap.size w W) => (hB.cell (p := ⟨g, 4, none⟩) hb.lt).trans hb.c4)
  have r0 := ho.rto0
  have hlt := hb.lt
  have c0 := hb.c0
  have c8 := hb.c8
  obtain ⟨n, hn⟩ : ∃ n, s.data.length = n := ⟨_, rfl⟩
  rw [hn] at c0 hl
  clear hb ho hn
  by_cases h0 : n = 0
  · subst h0
    clear hl
    go_enter Try.func14, Try.ntmps14
    go_wp2_with (first | (go_at_call 40; refine (none_any _ _ _ (HC.out _ ((Below.refl _ _).alloc (Nat.le_refl _) _)) r0).mono ?_; rintro e w' ⟨rfl, rfl⟩) | (go_at_call 43; refine (may_any _ _).mono ?_; rw [h]; rintro e w' ⟨rfl, rfl⟩))
    refine bodyPost_ret (v := .tuple #[.agg #[.int .u32 0, .slice none 0 0], .bool false, .int .i64 0]) (by simp [results, Try.results14, go_sem]) rfl ⟨rfl, ?_⟩
    repeat (first | exact Below.refl _ _ | exact (Below.refl _ _).alloc (Nat.le_refl _) _ | refine Below.setCell ?_ (by simp) _)
  · have hz : ((n : Int) == 0) = false := by simp; omega
    have hl2 : now < s.alarm := by omega
    clear hl h0
    go_enter Try.func14, Try.ntmps14
    go_wp2_with (first | (go_at_call 40; refine (none_any _ _ _ (HC.out _ ((Below.refl _ _).alloc (Nat.le_refl _) _)) r0).mono ?_; rintro e w' ⟨rfl, rfl⟩) | (go_at_call 43; refine (may_any _ _).mono ?_; rw [h]; rintro e w' ⟨rfl, rfl⟩))
    refine bodyPost_ret (v := .tuple #[.agg #[.int .u32 0, .slice none 0 0], .bool false, .int .i64 0]) (by simp [results, Try.results14, go_sem]) rfl ⟨rfl, ?_⟩
    repeat (first | exact Below.refl _ _ | exact (Below.refl _ _).alloc (Nat.le_refl _) _ | refine Below.setCell ?_ (by simp) _)

set_option maxHeartbeats 1600000 in
theorem tick_full (g c : Nat) (A : Option Addr) (s : St) (mss now : Int) (w : World) (hb : Buf w g A c s) (ho : s.Ok) (h : mayB mss = true) (hl : 0 < s.data.length) (ha : s.alarm ≤ now) (ht : s.count = s.tries) :
    Calls Try.prog 14 #[.pointer (some ⟨g, 0, none⟩), .int .i64 mss, .int .u64 now] w fun e w' => e = .returned (.tuple #[.agg #[.int .u32 0, .slice none 0 0], .bool false, .int .i64 7]) ∧ Below w.heap.size w w' := by
  have HC := Lib.hid (fun W (hB : Below w.heap.size w W) => (hB.cell (p := ⟨g, 4, none⟩) hb.lt).trans hb.c4)
  have r0 := ho.rto0
  have hlt := hb.lt
  have c0 := hb.c0
  have c5 := hb.c5
  have c7 := hb.c7
  have c8 := hb.c8
  rw [ht] at c7
  obtain ⟨n, hn⟩ : ∃ n, s.data.length = n := ⟨_, rfl⟩
  rw [hn] at c0 hl
  have hz : ((n : Int) == 0) = false := by simp; omega
  clear hb ho hn ht
  go_enter Try.func14, Try.ntmps14
  go_wp2_with (first | (go_at_call 40; refine (none_any _ _ _ (HC.out _ ((Below.refl _ _).alloc (Nat.le_refl _) _)) r0).mono ?_; rintro e w' ⟨rfl, rfl⟩) | (go_at_call 43; refine (may_any _ _).mono ?_; rw [h]; rintro e w' ⟨rfl, rfl⟩))
  go_quiet (fail)
  go_wp2
  refine bodyPost_ret (v := .tuple #[.agg #[.int .u32 0, .slice none 0 0], .bool false, .int .i64 7]) (by simp [results, Try.results14, go_sem]) rfl ⟨rfl, ?_⟩
  exact ((below_drewN ((Below.refl _ _).alloc (Nat.le_refl _) _) _).setCell (Nat.le_refl _) _).setCell (Nat.le_refl _) _

/-- How many bytes Tick tells. -/
def tickTo (s : St) (mss : Int) : Nat := (max (min (min mss s.data.length) s.win) 1).toNat
def tickSt (s : St) (mss now : Int) : St := { s with count := s.count + 1, wait := s.wait * 2, alarm := now + s.wait * 2, sent := max s.sent (tickTo s mss) }

theorem tickTo_le (s : St) (mss : Int) (h1 : 1 ≤ mss) (hl : 0 < s.data.length) : tickTo s mss ≤ s.data.length := by unfold tickTo; omega
theorem wait_bd (s : St) (ho : s.Ok) : 0 ≤ s.wait ∧ s.wait ≤ 1099511627776 := by
  rw [ho.wait]
  have r0 := ho.rto0
  have r1 := ho.rto1
  have hc : s.count ≤ 10 := by have := ho.count; have := ho.tries1; omega
  have h2 : (2 : Int) ^ s.count ≤ 1024 := by
    have : ∀ n : Nat, n < 11 → (2 : Int) ^ n ≤ 1024 := by decide
    exact this _ (by omega)
  have h3 : (0 : Int) ≤ (2 : Int) ^ s.count := Int.pow_nonneg (by omega)
  refine ⟨Int.mul_nonneg (by omega) h3, ?_⟩
  have h4 : s.rto * 2 ^ s.count ≤ 1073741824 * 2 ^ s.count := Int.mul_le_mul_of_nonneg_right r1 h3
  omega
theorem tickSt_ok (s : St) (mss now : Int) (ho : s.Ok) (hm : 1 ≤ mss) (hl : 0 < s.data.length) (ht : s.count < s.tries) (h0 : 0 ≤ now) (h1 : now ≤ 1125899906842624) : (tickSt s mss now).Ok := by
  have wb := wait_bd s ho
  have tl := tickTo_le s mss hm hl
  have hs := ho.sent
  unfold tickSt
  exact { ho with sent := by simp; omega, count := by simp; omega, wait := by simp [ho.wait, Int.pow_succ, Int.mul_assoc], alarm0 := by simp; omega, alarm1 := by simp; omega }
theorem grown_set_new {a b : World} {r : Option Nat} {p : Addr} {u : Value} (h : a.grownBy b r) (hp : a.heap.size ≤ p.block) : a.grownBy (b.setCell p u) r :=
  ⟨h.os, h.tape, h.output, by simpa [World.setCell] using h.size, fun k hk hr => (Below.heap_setCell b p u k (by omega)).trans (h.block k hk hr)⟩
theorem grown_drewN {a b : World} {r : Option Nat} {n : Nat} (h : a.grownBy b r) : a.grownBy (b.drewN n) r := ⟨h.os, h.tape, h.output, h.size, h.block⟩

set_option maxHeartbeats 3200000 in
theorem tick_some (g c : Nat) (A : Option Addr) (s : St) (mss now : Int) (w : World) (hb : Buf w g A c s) (ho : s.Ok) (h : mayB mss = true) (hl : 0 < s.data.length) (ha : s.alarm ≤ now) (ht : s.count < s.tries) (h0 : 0 ≤ now) (h1 : now ≤ 1125899906842624) :
    Calls Try.prog 14 #[.pointer (some ⟨g, 0, none⟩), .int .i64 mss, .int .u64 now] w fun e w' => ∃ v, e = .returned (.tuple #[.agg #[.int .u32 s.una, v], .bool true, .int .i64 0]) ∧
      w'.ownsRow w.heap.size 5 1 v (tickTo s mss) ((s.data.take (tickTo s mss)).map (.int .u8)) ∧ w.grownBy w' (some g) ∧ Buf w' g A c (tickSt s mss now) := by
  have HC := Lib.hid (fun W (hB : Below w.heap.size w W) => (hB.cell (p := ⟨g, 4, none⟩) hb.lt).trans hb.c4)
  have r0 := ho.rto0
  have hlt := hb.lt
  have c0 := hb.c0
  have c2 := hb.c2
  have c3 := hb.c3
  have c5 := hb.c5
  have c6 := hb.c6
  have c7 := hb.c7
  have c8 := hb.c8
  have f2 := free_of hb.1 2
  have f6 := free_of hb.1 6
  have f7 := free_of hb.1 7
  have f8 := free_of hb.1 8
  have HB := Lib.hid hb
  have HO := Lib.hid ho
  have hm : 1 ≤ mss ∧ mss ≤ 1500 := of_decide_eq_true h
  have w0 := ho.win0
  have w1 := ho.win1
  have t1 := ho.tries1
  have l1 := ho.len
  have s1 := ho.sent
  have wb := wait_bd s ho
  have HOK := Lib.hid (tickSt_ok s mss now ho hm.1 hl ht h0 h1)
  obtain ⟨n, hn⟩ : ∃ n, s.data.length = n := ⟨_, rfl⟩
  obtain ⟨win, hwin⟩ : ∃ win, s.win = win := ⟨_, rfl⟩
  obtain ⟨sent, hsent⟩ : ∃ sent, s.sent = sent := ⟨_, rfl⟩
  obtain ⟨count, hcount⟩ : ∃ count, s.count = count := ⟨_, rfl⟩
  obtain ⟨tries, htries⟩ : ∃ tries, s.tries = tries := ⟨_, rfl⟩
  obtain ⟨wait, hwait⟩ : ∃ wait, s.wait = wait := ⟨_, rfl⟩
  rw [hn] at c0 hl l1 s1
  rw [hwin] at c3 w0 w1
  rw [hsent] at c2 s1
  rw [hcount] at c7 ht
  rw [htries] at c5 ht t1
  rw [hwait] at c6 wb
  have hz : ((n : Int) == 0) = false := by simp; omega
  have hct : ((count : Int) == (tries : Int)) = false := by simp; omega
  have HN := Lib.hid hn
  have HWIN := Lib.hid hwin
  have HSENT := Lib.hid hsent
  have HCOUNT := Lib.hid hcount
  have HWAIT := Lib.hid hwait
  obtain ⟨to, hto⟩ : ∃ to, tickTo s mss = to := ⟨_, rfl⟩
  have hto2 : ((to : Int)) = max (min (min mss n) win) 1 := by rw [← hto, tickTo, hn, hwin]; omega
  have HTO := Lib.hid hto
  have htn : to ≤ n := by omega
  have ht1 : 1 ≤ to := by omega
  obtain ⟨M1, hM1⟩ : ∃ M1, (if (n : Int) < mss then (n : Int) else mss) = M1 := ⟨_, rfl⟩
  obtain ⟨M2, hM2⟩ : ∃ M2, (if win < M1 then win else M1) = M2 := ⟨_, rfl⟩
  have hM3 : (if M2 < 1 then 1 else M2) = (to : Int) := by rw [hto2, ← hM2, ← hM1]; split <;> (split <;> (split <;> omega))
  obtain ⟨Q, hQ⟩ : ∃ Q, max sent to = Q := ⟨_, rfl⟩
  have hQ1 : (if sent < to then (to : Int) else (sent : Int)) = (Q : Int) := by rw [← hQ]; split <;> omega
  have hQ2 : (if (sent : Int) < (to : Int) then (to : Int) else (sent : Int)) = (Q : Int) := by rw [← hQ]; split <;> omega
  have HQ := Lib.hid hQ
  clear hQ
  clear hb ho hn hwin hsent hcount htries hwait hto hto2
  go_enter Try.func14, Try.ntmps14
  go_wp2_with (first | (go_at_call 40; refine (none_any _ _ _ (HC.out _ ((Below.refl _ _).alloc (Nat.le_refl _) _)) r0).mono ?_; rintro e w' ⟨rfl, rfl⟩) | (go_at_call 43; refine (may_any _ _).mono ?_; rw [h]; rintro e w' ⟨rfl, rfl⟩))
  go_quiet (fail)
  revert nq
  intro q1
  go_wp2
  go_quiet (fail)
  go_wp2_with fail
  obtain ⟨W, hW⟩ : ∃ W, W = (((((((w.alloc (Obj.cells #[Value.int IntKind.u32 0, Value.slice none 0 0] 38)).drewN q1).setCell { block := g, off := 7 } (Value.int IntKind.i64 ((count : Int) + 1))).setCell { block := g, off := 6 } (Value.int IntKind.u64 (wait * 2))).setCell
              { block := g, off := 8 } (Value.int IntKind.u64 (now + wait * 2))).drewN nq).setCell { block := g, off := 2 } (Value.int IntKind.i64 (Q : Int))) := ⟨_, rfl⟩
  rw [← hW]
  have hg : w.grownBy W (some g) := by rw [hW]; exact grown_set (grown_drewN (grown_set (grown_set (grown_set (grown_drewN (World.grownBy_alloc w _ _))))))
  have hh : W.heap[g]? = some (.cells ((tickSt s mss now).cells A c) 67 (0, 0)) := by
    have h := heap_set (i := 2) (heap_set (i := 8) (heap_set (i := 6) (heap_set (i := 7) (w := w.alloc (Obj.cells #[Value.int IntKind.u32 0, Value.slice none 0 0] 38)) ((Below.heap_alloc w _ g hlt).trans HB.out.1) (.int .i64 ((count : Int) + 1))) (.int .u64 (wait * 2))) (.int .u64 (now + wait * 2))) (.int .i64 (Q : Int))
    rw [hW]
    refine Eq.trans h ?_
    unfold tickSt St.cells
    rw [HTO.out]
    simp [HCOUNT.out, HWAIT.out, HSENT.out, HQ.out]
  have hbuf : Buf W g A c (tickSt s mss now) := HB.out.upd hg rfl hh
  have hne : ¬ w.heap.size = g := by omega
  have k0 : W.cell? ⟨w.heap.size, 0, none⟩ = some (.int .u32 0) := by rw [hW]; go_simp
  have k1 : W.cell? ⟨w.heap.size, 1, none⟩ = some (.slice none 0 0) := by rw [hW]; go_simp
  have k2 : W.frozen? ⟨w.heap.size, 0, none⟩ = false := by rw [hW]; go_simp
  have k3 : W.frozen? ⟨w.heap.size, 1, none⟩ = false := by rw [hW]; go_simp
  have hsz : w.heap.size < W.heap.size := World.block_lt_of_cell? W _ k0
  have HG := Lib.hid hg
  have HBUF := Lib.hid hbuf
  clear hW hg hh hbuf hM1 hM2 hM3 hQ1 hQ2
  have P : Calls Try.prog 44 #[.pointer (some ⟨g, 0, none⟩), .int .i64 0, .int .i64 to] W _ := piece_any g c A (tickSt s mss now) 0 to W HBUF.out HOK.out ht1 (by show to ≤ s.data.length; rw [HN.out]; exact htn)
  (with_reducible refine P.mono ?_)
  rintro e w5 ⟨v, rfl, hown, hb5⟩
  rw [Nat.sub_zero] at hown
  obtain ⟨A5, k5, rfl⟩ := own_len hown
  have n0 := (hb5.cell (p := ⟨w.heap.size, 0, none⟩) hsz).trans k0
  have n1 := (hb5.cell (p := ⟨w.heap.size, 1, none⟩) hsz).trans k1
  have n2 := (hb5.frozen (p := ⟨w.heap.size, 0, none⟩) hsz).trans k2
  have n3 := (hb5.frozen (p := ⟨w.heap.size, 1, none⟩) hsz).trans k3
  have HO5 := Lib.hid hown
  have HB5 := Lib.hid hb5
  have hsz5 : w.heap.size < w5.heap.size := Nat.lt_of_lt_of_le hsz hb5.size
  have HP := Lib.hid (show addU (tickSt s mss now).una ((0 : Nat) : Int) = s.una by unfold addU; have := HO.out.una0; have := HO.out.una1; show (s.una + _) % _ = _; omega)
  clear hown hb5 k0 k1 k2 k3 P
  go_wp2
  refine bodyPost_ret (v := .tuple #[.agg #[.int .u32 (addU (tickSt s mss now).una ((0 : Nat) : Int)), .slice A5 to k5], .bool true, .int .i64 0]) (by simp [results, Try.results14, go_sem, n0, n1]) rfl ?_
  rw [HP.out, HTO.out]
  refine ⟨_, rfl, ?_, ?_, ?_⟩
  · have hne : ∀ i, (Value.slice A5 to k5).ownBlock ≠ some (⟨w.heap.size, i, none⟩ : Addr).block := by
      intro i e
      have := (HO5.out.lt _ e).1
      simp at this
      omega
    have := (ownsRow_setCell_other (ownsRow_setCell_other HO5.out (hne 0) (.int .u32 (addU (tickSt s mss now).una ((0 : Nat) : Int)))) (hne 1) (.slice A5 to k5)).lower (base' := w.heap.size) (by omega)
    exact this
  · exact grown_set_new (grown_set_new (grown_trans HG.out (grown_below HB5.out)) (Nat.le_refl _)) (Nat.le_refl _)
  · refine HB.out.upd (grown_set_new (grown_set_new (grown_trans HG.out (grown_below HB5.out)) (Nat.le_refl _)) (Nat.le_refl _)) rfl ?_
    rw [Below.heap_setCell _ _ _ _ (fun e => hne e.symm), Below.heap_setCell _ _ _ _ (fun e => hne e.symm), HB5.out.block g HBUF.out.lt]
    exact HBUF.out.1
end Go.Proofs.Ytpigomkhpdfdcaa
