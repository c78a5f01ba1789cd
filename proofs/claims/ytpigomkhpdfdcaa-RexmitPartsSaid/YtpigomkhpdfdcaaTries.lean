/- The walk of RexmitTries. -/
import Derived.Test.YtpigomkhpdfdcaaFit
import Derived.Test.YtpigomkhpdfdcaaKnown
set_option linter.unusedVariables false
namespace Go.Proofs.Ytpigomkhpdfdcaa
open Go.RowKit Go.Deep Go.BigFrame
attribute [local go_sem ↓] Go.wp_at_zero Go.wp_at_succ

theorem wait_le {s : St} (ho : s.Ok) {R : Int} (h : s.rto = R) (hR : R ≤ 50) : R ≤ s.wait ∧ s.wait ≤ 51200 := by
  rw [ho.wait, h]
  have r0 := ho.rto0
  rw [h] at r0
  have hc : s.count ≤ 10 := by have := ho.count; have := ho.tries1; omega
  have h2 : (2 : Int) ^ s.count ≤ 1024 ∧ 1 ≤ (2 : Int) ^ s.count := by
    have : ∀ n : Nat, n < 11 → (2 : Int) ^ n ≤ 1024 ∧ 1 ≤ (2 : Int) ^ n := by decide
    exact this _ (by omega)
  have h4 : R * 2 ^ s.count ≤ 50 * 2 ^ s.count := Int.mul_le_mul_of_nonneg_right hR (by omega)
  have h5 : R * 1 ≤ R * 2 ^ s.count := Int.mul_le_mul_of_nonneg_left h2.2 (by omega)
  omega
/-- What the outer loop keeps. -/
def TrRel (WL : World) (g : Nat) (W R : Int) (T n : Nat) (v11 v9 : Value) (wr : World) : Prop :=
  ∃ (left : Nat) (start : Int) (s : St) (A : Option Addr) (c : Nat), v11 = .int .i64 left ∧ v9 = .int .u64 start ∧ left ≤ n ∧ 0 ≤ start ∧ start ≤ 70000 + (4 - (left : Int)) * 110000 ∧ s.data.length = left ∧ s.win = W ∧ s.rto = R ∧ s.tries = T ∧ s.wait = R ∧ s.count = 0 ∧
    s.alarm = start + R ∧ s.Ok ∧ Buf wr g A c s ∧ WL.grownBy wr (some g)
/-- What the inner loop keeps. -/
def TrIn (WL : World) (g : Nat) (W R start : Int) (T left : Nat) (v76 v12 v13 : Value) (wr : World) : Prop :=
  ∃ (i : Nat) (due wait : Int) (s : St) (A : Option Addr) (c : Nat), v76 = .int .i64 i ∧ v12 = .int .u64 due ∧ v13 = .int .u64 wait ∧ i ≤ T ∧ s.data.length = left ∧ s.win = W ∧ s.rto = R ∧ s.tries = T ∧ s.wait = wait ∧ s.count = i ∧
    s.alarm = due + wait ∧ due + R = start + wait ∧ (0 < i → 1 ≤ s.sent) ∧ s.Ok ∧ Buf wr g A c s ∧ WL.grownBy wr (some g)

set_option maxHeartbeats 6400000 in
set_option maxRecDepth 100000 in
theorem tries_walk (una win rto tries at_ by_ : Int) (w : World) (u0 : 0 ≤ una) (u1 : una ≤ 4294967295) (w0 : 0 ≤ win) (w1 : win ≤ 4294967295) (r0 : 0 ≤ rto) (r1 : rto ≤ 18446744073709551615)
    (a0 : 0 ≤ at_) (a1 : at_ ≤ 65535) (y0 : 0 ≤ by_) (y1 : by_ ≤ 255) :
    Calls Try.prog 3 #[.agg #[.int .u32 una, .int .u32 win, .int .u64 rto, .int .i64 tries], .int .u16 at_, .int .u8 by_] w fun e w' => e = .returned (.bool true) ∧ Below w.heap.size w w' := by
  have HF := Lib.hid (fun w => fit_any una win rto tries w w0 w1 r0 r1)
  obtain ⟨f1, f2, f3, f4, f5, f6⟩ := fit_bd win rto tries
  obtain ⟨W, hW⟩ : ∃ W, fitW win = W := ⟨_, rfl⟩
  obtain ⟨R, hR⟩ : ∃ R, fitR rto = R := ⟨_, rfl⟩
  obtain ⟨T, hT⟩ : ∃ T, fitT tries = T := ⟨_, rfl⟩
  rw [hW, hR, hT] at HF
  rw [hW] at f1 f2
  rw [hR] at f3 f4
  rw [hT] at f5 f6
  clear hW hR hT w0 w1 r0 r1
  obtain ⟨n, hn⟩ : ∃ n : Nat, 1 + by_ % 4 = n := ⟨(1 + by_ % 4).toNat, by omega⟩
  have hn1 : 1 ≤ n := by omega
  have hn4 : n ≤ 4 := by omega
  have hmk : ∀ w : World, (Instr.makeSlice 34 (.int .i64 n) (.int .i64 n)).run Try.prog w = .ok (.slice (some ⟨w.heap.size, 0, none⟩) n n) (w.alloc (.cells (madeCells #[.int .u8 0] n) 5)) :=
    fun w => run_make_row' (P := Try.prog) 34 5 (.int .u8 0) 1 Try.underlying34 info5 rfl .i64 .i64 n (by omega) (by omega) w
  go_enter Try.func3, Try.ntmps3
  go_wp2_with fail
  refine (HF.out _).mono ?_
  rintro e x1 ⟨rfl, hb⟩
  have HX1 := Lib.hid (((Below.refl w.heap.size w).alloc (Nat.le_refl _) (Obj.cells #[.int .u32 una, .int .u32 win, .int .u64 rto, .int .i64 tries] 25)).trans (hb.mono (by simp)))
  have hs1 : w.heap.size < x1.heap.size := by have := hb.size; simp at this; omega
  have c0 := (hb.cell (p := ⟨w.heap.size, 0, none⟩) (by simp)).trans (show _ = some (.int .u32 una) by go_simp)
  have c1 := (hb.cell (p := ⟨w.heap.size, 1, none⟩) (by simp)).trans (show _ = some (.int .u32 win) by go_simp)
  have c2 := (hb.cell (p := ⟨w.heap.size, 2, none⟩) (by simp)).trans (show _ = some (.int .u64 rto) by go_simp)
  have c3 := (hb.cell (p := ⟨w.heap.size, 3, none⟩) (by simp)).trans (show _ = some (.int .i64 tries) by go_simp)
  have d0 := (hb.frozen (p := ⟨w.heap.size, 0, none⟩) (by simp)).trans (show _ = false by go_simp)
  have d1 := (hb.frozen (p := ⟨w.heap.size, 1, none⟩) (by simp)).trans (show _ = false by go_simp)
  have d2 := (hb.frozen (p := ⟨w.heap.size, 2, none⟩) (by simp)).trans (show _ = false by go_simp)
  have d3 := (hb.frozen (p := ⟨w.heap.size, 3, none⟩) (by simp)).trans (show _ = false by go_simp)
  clear hb
  go_wp2_with fail
  obtain ⟨X2, hX2⟩ : ∃ X2, X2 = ((((x1.setCell ⟨w.heap.size, 0, none⟩ (.int .u32 una)).setCell ⟨w.heap.size, 1, none⟩ (.int .u32 W)).setCell ⟨w.heap.size, 2, none⟩ (.int .u64 R)).setCell ⟨w.heap.size, 3, none⟩ (.int .i64 T)) := ⟨_, rfl⟩
  rw [← hX2]
  have e1 : X2.cell? ⟨w.heap.size, 1, none⟩ = some (.int .u32 W) := by rw [hX2]; go_simp
  have e2 : X2.cell? ⟨w.heap.size, 2, none⟩ = some (.int .u64 R) := by rw [hX2]; go_simp
  have e3 : X2.cell? ⟨w.heap.size, 3, none⟩ = some (.int .i64 T) := by rw [hX2]; go_simp
  have HX2 : Hid (Below w.heap.size w X2) := Lib.hid (by rw [hX2]; exact (((HX1.out.setCell (Nat.le_refl _) _).setCell (Nat.le_refl _) _).setCell (Nat.le_refl _) _).setCell (Nat.le_refl _) _)
  have hs2 : w.heap.size < X2.heap.size := by rw [hX2]; simpa [World.setCell] using hs1
  clear hX2 c0 c1 c2 c3 d0 d1 d2 d3 HX1 hs1
  refine (new_yes una W R T _ (decide_eq_true ⟨f3, by omega, by omega, by omega, by omega⟩)).mono ?_
  rintro e x3 ⟨rfl, hh, hB⟩
  obtain ⟨g, hg⟩ : ∃ g, X2.heap.size = g := ⟨_, rfl⟩
  rw [hg] at hh hB hs2 ⊢
  have e1 := (hB.cell (p := ⟨w.heap.size, 1, none⟩) hs2).trans e1
  have e2 := (hB.cell (p := ⟨w.heap.size, 2, none⟩) hs2).trans e2
  have e3 := (hB.cell (p := ⟨w.heap.size, 3, none⟩) hs2).trans e3
  have HX3 : Hid (Below w.heap.size w x3) := Lib.hid (HX2.out.trans (hB.mono (Nat.le_of_lt hs2)))
  have HBUF3 : Hid (Buf x3 g none 0 (newSt una W R T)) := Lib.hid ⟨hh, none, 0, rfl, Nat.le_refl _, by simp [maxLen], fun h => by simp [newSt] at h⟩
  have HOK3 : Hid ((newSt una W R T).Ok) := Lib.hid (newSt_ok una W R T u0 u1 (by omega) (decide_eq_true ⟨f3, by omega, by omega, by omega, by omega⟩))
  have lt3 := HBUF3.out.lt
  clear hh hB hg HX2
  go_wp2_with fail
  refine (awake_any _).mono ?_
  rintro e x4 ⟨rfl, hb⟩
  have e1 := (hb.cell (p := ⟨w.heap.size, 1, none⟩) (Nat.lt_trans hs2 lt3)).trans e1
  have e2 := (hb.cell (p := ⟨w.heap.size, 2, none⟩) (Nat.lt_trans hs2 lt3)).trans e2
  have e3 := (hb.cell (p := ⟨w.heap.size, 3, none⟩) (Nat.lt_trans hs2 lt3)).trans e3
  have HX4 : Hid (Below w.heap.size w x4) := Lib.hid (HX3.out.trans (hb.mono HX3.out.size))
  have HBUF4 := Lib.hid (HBUF3.out.below hb)
  clear hb HX3 HBUF3
  have lt4 := HBUF4.out.lt
  go_wp2_with fail
  (with_reducible refine (write_ok g 0 none (newSt una W R T) _ n _ (List.replicate n 0) at_ _ (HBUF4.out.below ((Below.refl _ _).alloc (Nat.le_refl _) _)) HOK3.out (List.length_replicate ..) (Byt.made x4 n (by unfold maxLen; omega)) (by simp [newSt]; omega) a0 (by omega) (by intro x hx; obtain rfl := List.eq_of_mem_replicate hx; omega)).mono ?_)
  rintro e x5 ⟨rfl, hg, A5, c5, hb⟩
  have hst : writeSt (newSt una W R T) (List.replicate n 0) at_ = { data := List.replicate n 0, una := una, sent := 0, win := W, rto := R, tries := T, wait := R, count := 0, alarm := at_ + R } := by
    unfold writeSt newSt
    rw [if_pos ⟨rfl, by simp; omega⟩]
    simp
  have hok := writeSt_ok (newSt una W R T) (List.replicate n 0) at_ HOK3.out (by simp [newSt]; omega) (by intro x hx; obtain rfl := List.eq_of_mem_replicate hx; omega) a0 (by omega)
  rw [hst] at hb hok
  have hg5 : x4.grownBy x5 (some g) := grown_trans (grown_below ((Below.refl _ _).alloc (Nat.le_refl _) _)) hg
  have e1 := hg5.cell e1 (by simp; omega)
  have e2 := hg5.cell e2 (by simp; omega)
  have e3 := hg5.cell e3 (by simp; omega)
  have HX5 : Hid (Below w.heap.size w x5) := Lib.hid (HX4.out.trans ⟨hg5.os, hg5.tape, hg5.output, hg5.size, fun k hk => hg5.block k (Nat.lt_of_lt_of_le hk HX4.out.size) (by simp; omega)⟩)
  have HBUF5 := Lib.hid hb
  have HOK5 := Lib.hid hok
  have HE1 := Lib.hid e1
  have HE2 := Lib.hid e2
  have HE3 := Lib.hid e3
  clear hst hok hb hg hg5 HX4 HBUF4 HOK3 lt3 lt4 e1 e2 e3 hmk
  go_wp2_with fail
  go_loopw [11, 9] (fun v11 v9 wr => TrRel x5 g W R T n v11 v9 wr) (fun v11 _ _ => (intOf v11).toNat)
  case atStart => exact ⟨n, at_, _, A5, c5, rfl, rfl, Nat.le_refl _, a0, by omega, by simp, rfl, rfl, rfl, rfl, rfl, rfl, HOK5.out, HBUF5.out, World.grownBy.refl _ _⟩
  case round =>
    obtain ⟨left, start, s, A, c, rfl, rfl, l0, s0, s1, q1, q2, q3, q4, q5, q6, q7, ho, hb, hgr⟩ := hrel
    have HO := Lib.hid ho
    have HB := Lib.hid hb
    have HGR := Lib.hid hgr
    have e1 := hgr.cell HE1.out (by simp; omega)
    have e2 := hgr.cell HE2.out (by simp; omega)
    have e3 := hgr.cell HE3.out (by simp; omega)
    clear ho hb hgr
    by_cases hl : 0 < left
    · obtain ⟨wo, hwo⟩ : ∃ x, x = wr := ⟨_, rfl⟩
      subst hwo
      go_wp2_with fail
      go_loopw [76, 12, 13] (fun v76 v12 v13 w3 => TrIn wo g W R start T left v76 v12 v13 w3) (fun v76 _ _ _ => T - (intOf v76).toNat)
      case atStart => exact ⟨0, start, R, s, A, c, rfl, rfl, rfl, by omega, q1, q2, q3, q4, q5, q6, q7, by omega, by omega, HO.out, HB.out, World.grownBy.refl _ _⟩
      case round =>
        obtain ⟨i, due, wait, s', A', c', rfl, rfl, rfl, i0, p1, p2, p3, p4, p5, p6, p7, p8, p9, ho, hb, hgr⟩ := hrel
        obtain ⟨wl0, wl1⟩ := wait_le ho p3 f4
        rw [p5] at wl0 wl1
        have du0 : 0 ≤ due := by omega
        have du1 : due ≤ 1000000 := by omega
        have HO' := Lib.hid ho
        have HB' := Lib.hid hb
        have HGR' := Lib.hid hgr
        have e1 := hgr.cell e1 (by simp; omega)
        have e2 := hgr.cell e2 (by simp; omega)
        have e3 := hgr.cell e3 (by simp; omega)
        clear ho hb hgr
        by_cases hi : i < T
        · go_wp2_with fail
          (refine (alarm_some g c' A' s' _ HB'.out HO'.out (by omega)).mono ?_)
          rw [p7]
          rintro e w' ⟨rfl, rfl⟩
          go_wp2_with fail
          (refine (tick_later g c' A' s' 10 (due + wait - 1) _ HB'.out HO'.out (by decide) (.inr (by rw [p7]; omega))).mono ?_)
          rintro e w4 ⟨rfl, hB⟩
          have e1 := (hB.cell (p := ⟨w.heap.size, 1, none⟩) (by have := HB'.out.lt; show w.heap.size < _; omega)).trans e1
          have hB4 := HB'.out.below hB
          have HB4 := Lib.hid hB4
          have lt4 := hB4.lt
          have HBe := Lib.hid hB
          clear hB hB4
          go_wp2_with fail
          (refine (tick_some g c' A' s' 10 (due + wait) _ (HB4.out.below ((Below.refl _ _).alloc (Nat.le_refl _) _)) HO'.out (by decide) (by omega) (by rw [p7]; omega) (by omega) (by omega) (by omega)).mono ?_)
          rintro e w5 ⟨v5, rfl, ho5, hg5, hb5⟩
          obtain ⟨A6, k6, rfl⟩ := own_len ho5
          have e1 := hg5.cell (show (w4.alloc _).cell? ⟨w.heap.size, 1, none⟩ = _ from (((Below.refl w4.heap.size w4).alloc (Nat.le_refl _) _).cell (p := ⟨w.heap.size, 1, none⟩) (by show w.heap.size < _; omega)).trans e1) (by simp; omega)
          have lt5 := hb5.lt
          have e1o := fun o => (((Below.refl w5.heap.size w5).alloc (Nat.le_refl _) o).cell (p := ⟨w.heap.size, 1, none⟩) (by show w.heap.size < _; omega)).trans e1
          obtain ⟨Z, hZ⟩ : ∃ Z, tickTo s' 10 = Z := ⟨_, rfl⟩
          obtain ⟨M, hM⟩ : ∃ M, (if W < (left : Int) then W else (left : Int)) = M := ⟨_, rfl⟩
          have hMZ : (if 1 < M then M else 1) = (Z : Int) := by
            rw [← hZ, ← hM]
            unfold tickTo
            rw [p1, p2]
            split <;> split <;> omega
          rw [hZ] at *
          have HG5 := Lib.hid hg5
          have HB5 := Lib.hid hb5
          have HZ := Lib.hid hZ
          clear ho5 hg5 hb5 hZ
          go_wp2_with fail
          have htk : (tickSt s' 10 (due + wait)).Ok := tickSt_ok s' 10 (due + wait) HO'.out (by omega) (by omega) (by omega) (by omega) (by omega)
          refine ⟨⟨i + 1, due + wait, wait * 2, tickSt s' 10 (due + wait), A', c', by simp, rfl, rfl, by omega, p1, p2, p3, p4, by show s'.wait * 2 = wait * 2; rw [p5], by show s'.count + 1 = i + 1; rw [p6], by show due + wait + s'.wait * 2 = due + wait + wait * 2; rw [p5], by omega, fun _ => ?_, htk, HB5.out.below ((Below.refl _ _).alloc (Nat.le_refl _) _), ?_⟩, by simp [intOf]; omega⟩
          · show 1 ≤ max s'.sent (tickTo s' 10)
            unfold tickTo
            omega
          · exact grown_trans HGR'.out (grown_trans (grown_below HBe.out) (grown_trans (World.grownBy_alloc _ _ _) (grown_trans HG5.out (World.grownBy_alloc _ _ _))))
        · obtain rfl : T = i := by omega
          go_wp2_with fail
          (refine (tick_full g c' A' s' 10 (due + wait) _ HB'.out HO'.out (by decide) (by omega) (by rw [p7]; omega) (by omega)).mono ?_)
          rintro e w4 ⟨rfl, hB⟩
          go_wp2_with fail
          obtain ⟨X, hX⟩ : ∃ X, X = (w4.alloc (Obj.cells #[.int .u32 0, .slice none 0 0] 38)) := ⟨_, rfl⟩
          rw [← hX]
          have hB4 : Below wr.heap.size wr X.drew := by rw [hX]; exact hB.trans (((Below.refl w4.heap.size w4).alloc (Nat.le_refl _) (Obj.cells #[.int .u32 0, .slice none 0 0] 38)).drew.mono hB.size)
          have ltg := HB'.out.lt
          have eX : X.drew.cell? ⟨w.heap.size, 1, none⟩ = some (.int .u32 W) := (hB4.cell (p := ⟨w.heap.size, 1, none⟩) (by show w.heap.size < _; omega)).trans e1
          have HBX := Lib.hid (HB'.out.below hB4)
          have HGX := Lib.hid (grown_trans HGR'.out (grown_below (r := some g) hB4))
          have una0 := HO'.out.una0
          have una1 := HO'.out.una1
          have hadd := addU_bd s'.una 1
          have HD := Lib.hid (show ahd s'.una (addU s'.una 1) = (1 : Nat) by unfold ahd addU; omega)
          have HACK := Lib.hid (acked_pos g c' A' s' 1 (addU s'.una 1) W (due + wait + 3) X.drew HBX.out HO'.out (p9 (by omega)) HD.out f1 (by omega) hadd.1 hadd.2 (by omega) (by omega))
          clear hX hB hB4 una0 una1 hadd
          go_region_held3 (fun w' => w'.cell? ⟨w.heap.size, 1, none⟩ = some (.int .u32 W)) (go_keep)
            (first
              | (go_at_call 17; refine (una_any g c' A' s' _ HBX.out HO'.out).mono ?_; rintro e w' ⟨rfl, rfl⟩)
              | (go_at_call 16; refine (add_any _ _ _).mono ?_; rintro e w' ⟨rfl, rfl⟩)
              | (go_at_call 15; refine HACK.out.mono ?_; rintro e w5 ⟨rfl, hg5, A6, c6, hb5⟩; have HG5 := Lib.hid hg5; have HB5 := Lib.hid hb5; have eX := hg5.cell eX (by simp; omega); clear hg5 hb5))
          go_wp2_with fail
          have hA : ackSt s' 1 (addU s'.una 1) W (due + wait + 3) = { data := s'.data.drop 1, una := addU s'.una 1, sent := s'.sent - 1, win := W, rto := s'.rto, tries := s'.tries, wait := s'.rto, count := 0, alarm := due + wait + 3 + s'.rto } := rfl
          have hok := ackSt_ok s' 1 (addU s'.una 1) W (due + wait + 3) HO'.out (p9 (by omega)) f1 (by omega) (addU_bd s'.una 1).1 (addU_bd s'.una 1).2 (by omega) (by omega)
          have hb5 := HB5.out
          rw [hA] at hok hb5
          refine ⟨⟨left - 1, due + wait + 3, { data := s'.data.drop 1, una := addU s'.una 1, sent := s'.sent - 1, win := W, rto := s'.rto, tries := s'.tries, wait := s'.rto, count := 0, alarm := due + wait + 3 + s'.rto }, A6, c6, by rw [show ((left - 1 : Nat) : Int) = (left : Int) - 1 by omega], rfl, by omega, by omega, by omega, by simp; omega, rfl, p3, p4, p3, rfl, by rw [p3], hok, hb5, ?_⟩, by simp [intOf]; omega⟩
          exact grown_trans HGR.out (grown_trans HGX.out HG5.out)
    · obtain rfl : 0 = left := by omega
      go_wp2_with fail
      (refine (alarm_none g c A s _ HB.out HO.out q1).mono ?_)
      rintro e w' ⟨rfl, rfl⟩
      go_wp2_with fail
      (refine (tick_later g c A s 10 549755813888 _ HB.out HO.out (by decide) (.inl q1)).mono ?_)
      rintro e w6 ⟨rfl, hB⟩
      have HB6 := Lib.hid hB
      clear hB
      go_wp2_with fail
      go_ret
      have hgr := HGR.out
      refine ⟨rfl, HX5.out.trans ((show Below w.heap.size x5 _ from ⟨hgr.os, hgr.tape, hgr.output, hgr.size, fun k hk => hgr.block k (Nat.lt_of_lt_of_le hk HX5.out.size) (by simp; omega)⟩).trans ((HB6.out.trans ((Below.refl _ _).alloc (Nat.le_refl _) _ |>.mono HB6.out.size)).mono ?_))⟩
      exact Nat.le_trans HX5.out.size hgr.size
end Go.Proofs.Ytpigomkhpdfdcaa
