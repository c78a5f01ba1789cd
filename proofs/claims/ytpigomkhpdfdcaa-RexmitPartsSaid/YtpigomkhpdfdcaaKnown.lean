/- The walk of RexmitKnown. -/
import Derived.Test.YtpigomkhpdfdcaaAwake
set_option linter.unusedVariables false
namespace Go.Proofs.Ytpigomkhpdfdcaa
open Go.RowKit Go.Deep Go.BigFrame
attribute [local go_sem ↓] Go.wp_at_zero Go.wp_at_succ

theorem Byt.made (w : World) (n : Nat) (hm : n ≤ maxLen) : Byt (w.alloc (.cells (madeCells #[.int .u8 0] n) 5)) (.slice (some ⟨w.heap.size, 0, none⟩) n n) (List.replicate n 0) := by
  have h := Byt.const w (List.replicate n 0) n (0, 0) (by simp) hm
  have e : ((List.replicate n (0 : Int)).map (Value.int .u8)).toArray = madeCells #[.int .u8 0] n := by
    apply Array.ext'
    rw [toList_madeCells_one]
    simp
  rw [e] at h
  exact h
theorem make_big : ∃ MC : Array Value, (∀ w : World, (Instr.makeSlice 34 (.int .i64 16385) (.int .i64 16385)).run Try.prog w = .ok (.slice (some ⟨w.heap.size, 0, none⟩) 16385 16385) (w.alloc (.cells MC 5))) ∧
      ∀ w : World, Byt (w.alloc (.cells MC 5)) (.slice (some ⟨w.heap.size, 0, none⟩) 16385 16385) (List.replicate 16385 0) := by
  obtain ⟨n, hn2⟩ : ∃ n : Nat, n = 16385 := ⟨_, rfl⟩
  have hn : (n : Int) = 16385 := by omega
  refine ⟨madeCells #[.int .u8 0] n, fun w => ?_, fun w => ?_⟩
  · have h := run_make_row' (P := Try.prog) 34 5 (.int .u8 0) 1 Try.underlying34 info5 rfl .i64 .i64 n (by omega) (by omega) w
    rw [hn] at h
    rw [h, hn2]
  · have h := Byt.made w n (by unfold maxLen; omega)
    rw [hn2] at h ⊢
    exact h
def kn0 : St := { data := [], una := 4294967294, sent := 0, win := 0, rto := 1, tries := 1, wait := 1, count := 0, alarm := 0 }
def kn1 : St := { data := [97, 98, 99], una := 4294967294, sent := 0, win := 0, rto := 1, tries := 1, wait := 1, count := 0, alarm := 6 }
def kn2 : St := { kn1 with sent := 1, count := 1, wait := 2, alarm := 8 }
def kn3 : St := { data := [98, 99], una := 4294967295, sent := 0, win := 9, rto := 1, tries := 1, wait := 1, count := 0, alarm := 8 }
def kn4 : St := { kn3 with sent := 2 }

theorem kn0_ok : kn0.Ok := ⟨by decide, by decide, by decide, by decide, by decide, by decide, by decide, by decide, by decide, by decide, by decide, by decide, by decide, by decide, by decide⟩
theorem kn1_ok : kn1.Ok := ⟨by decide, by decide, by decide, by decide, by decide, by decide, by decide, by decide, by decide, by decide, by decide, by decide, by decide, by decide, by decide⟩
theorem kn2_ok : kn2.Ok := ⟨by decide, by decide, by decide, by decide, by decide, by decide, by decide, by decide, by decide, by decide, by decide, by decide, by decide, by decide, by decide⟩
theorem kn3_ok : kn3.Ok := ⟨by decide, by decide, by decide, by decide, by decide, by decide, by decide, by decide, by decide, by decide, by decide, by decide, by decide, by decide, by decide⟩
theorem kn4_ok : kn4.Ok := ⟨by decide, by decide, by decide, by decide, by decide, by decide, by decide, by decide, by decide, by decide, by decide, by decide, by decide, by decide, by decide⟩
theorem kn_e1 : writeSt kn0 [97, 98, 99] 5 = kn1 := rfl
theorem kn_e2 : sendSt kn1 = kn1 := rfl
theorem kn_p2 : pcsOf 1 kn1.sent (sendEnd kn1) = [] := rfl
theorem kn_e3 : tickSt kn1 2 6 = kn2 := rfl
theorem kn_t3 : tickTo kn1 2 = 1 := rfl
theorem kn_u3 : kn1.una = 4294967294 := rfl
theorem kn_e4 : ackSt kn2 1 4294967295 9 7 = kn3 := rfl
theorem kn_e5 : sendSt kn3 = kn4 := rfl
theorem kn_p5 : pcsOf 1460 kn3.sent (sendEnd kn3) = [(0, 2)] := by
  show pcsOf 1460 0 2 = _
  rw [pcsOf_step 1460 0 2 (by omega) (by omega), show min (0 + 1460) 2 = 2 from by omega, pcsOf_stop _ _ _ (by omega)]
theorem kn_n : addU kn4.una (kn4.sent : Int) = 1 := rfl

set_option maxHeartbeats 6400000 in
set_option maxRecDepth 100000 in
theorem known_walk (w : World) :
    Calls Try.prog 7 #[] w fun e w' => e = .returned (.bool true) ∧ Below w.heap.size w w' := by
  have kc := fun (w : World) (C : Array Value) (n c : Nat) => Lib.run_convert_bytes_const (P := Try.prog) w 34 5 C n c Try.underlying34 Try.underlying5
  obtain ⟨MC, kmk, hMB⟩ := make_big
  have HMB := Lib.hid hMB
  clear hMB
  go_enter Try.func7, Try.ntmps7
  go_wp2_with fail
  refine (awake_any _).mono ?_
  rintro e w1 ⟨rfl, hb⟩
  have HB1 := Lib.hid hb
  clear hb
  go_wp2_with fail
  refine (new_no 0 0 0 1 _ (by decide)).mono ?_
  rintro e w' ⟨rfl, rfl⟩
  go_wp2_with fail
  refine (new_no 0 0 1 11 _ (by decide)).mono ?_
  rintro e w' ⟨rfl, rfl⟩
  go_wp2_with fail
  refine (new_no 0 1073741825 1 1 _ (by decide)).mono ?_
  rintro e w' ⟨rfl, rfl⟩
  go_wp2_with fail
  refine (new_yes 4294967294 0 1 1 _ (by decide)).mono ?_
  rintro e w2 ⟨rfl, hh, hB⟩
  have HB2 := Lib.hid hB
  have HBUF2 : Hid (Buf w2 w1.heap.size none 0 kn0) := Lib.hid ⟨hh, none, 0, rfl, Nat.le_refl _, by simp [maxLen], fun h => by simp [kn0] at h⟩
  clear hh hB
  go_wp2_with fail
  refine (write_long w1.heap.size 0 none kn0 _ 16385 _ (List.replicate 16385 0) 0 _ (HBUF2.out.below ((Below.refl _ _).alloc (Nat.le_refl _) _)) kn0_ok (by simp) (HMB.out _) (by simp [kn0]) (by omega)).mono ?_
  rintro e w' ⟨rfl, rfl⟩
  have hbb := (Below.refl w2.heap.size w2).alloc (Nat.le_refl _) (Obj.cells MC 5)
  obtain ⟨W, hW⟩ : ∃ W, W = w2.alloc (Obj.cells MC 5) := ⟨_, rfl⟩
  rw [← hW] at hbb ⊢
  clear hW
  have HBB := Lib.hid hbb
  have HBUF2' := Lib.hid (HBUF2.out.below hbb)
  clear hbb
  go_wp2_with fail
  have HY : Hid (Byt (W.alloc (Obj.cells #[.int .u8 97, .int .u8 98, .int .u8 99] 5 (3, 4))) (.slice (some ⟨W.heap.size, 0, none⟩) 3 3) [97, 98, 99]) := Lib.hid (Byt.const _ [97, 98, 99] 3 (3, 4) rfl (by simp [maxLen]))
  (refine (write_ok w1.heap.size 0 none kn0 _ 3 _ [97, 98, 99] 5 _ (HBUF2'.out.below ((Below.refl _ _).alloc (Nat.le_refl _) _)) kn0_ok rfl HY.out (by decide) (by decide) (by decide) (by decide)).mono ?_)
  rintro e w3 ⟨rfl, hg, A3, c3, hb⟩
  rw [kn_e1] at hb
  have HBUF3 := Lib.hid hb
  have HG3 : Hid (w2.grownBy w3 (some w1.heap.size)) := Lib.hid (grown_trans (grown_below HBB.out) (grown_trans (grown_below (by repeat (first | exact Below.refl _ _ | (refine Below.setCell ?_ (by simp) _) | (refine Below.alloc ?_ (by simp) _) | (refine Below.drew ?_)))) hg))
  have lt3 := hb.lt
  clear hg hb HBUF2 HBUF2'
  go_wp2_with fail
  (refine (send_ok w1.heap.size c3 A3 kn1 1 _ HBUF3.out kn1_ok (by decide)).mono ?_)
  rintro e w4 ⟨v4, rfl, hg, hb, hp⟩
  rw [kn_e2] at hb
  rw [kn_p2] at hp
  have HBUF4 := Lib.hid hb
  have HG4 := Lib.hid hg
  have lt4 := hb.lt
  obtain ⟨A4, k4, rfl⟩ := hp.len
  clear hg hb hp HBUF3
  go_wp2_with fail
  (refine (tick_some w1.heap.size c3 A3 kn1 2 6 _ HBUF4.out kn1_ok (by decide) (by decide) (by decide) (by decide) (by decide) (by decide)).mono ?_)
  rintro e w5 ⟨v5, rfl, ho, hg, hb⟩
  rw [kn_u3]
  rw [kn_e3] at hb
  rw [kn_t3] at ho
  obtain ⟨A5, k5, rfl⟩ := own_len ho
  have HO5 := Lib.hid ho
  have HBUF5 := Lib.hid hb
  have HG5 := Lib.hid hg
  have lt5 := hb.lt
  clear hg hb ho HBUF4
  go_wp2_with fail
  (refine (acked_pos w1.heap.size c3 A3 kn2 1 4294967295 9 7 _ (HBUF5.out.below (by repeat (first | exact Below.refl _ _ | (refine Below.setCell ?_ (by simp) _) | (refine Below.alloc ?_ (by simp) _) | (refine Below.drew ?_)))) kn2_ok (by decide) (by decide) (by decide) (by decide) (by decide) (by decide) (by decide) (by decide)).mono ?_)
  rintro e w6 ⟨rfl, hg, A6, c6, hb⟩
  rw [kn_e4] at hb
  have HBUF6 := Lib.hid hb
  have HGB6 := Lib.hid hg
  have HG6 : Hid (w5.grownBy w6 (some w1.heap.size)) := Lib.hid (grown_trans (grown_below (by repeat (first | exact Below.refl _ _ | (refine Below.setCell ?_ (by simp) _) | (refine Below.alloc ?_ (by simp) _) | (refine Below.drew ?_)))) hg)
  have lt6 := hb.lt
  clear hg hb HBUF5
  go_wp2_with fail
  (refine (send_ok w1.heap.size c6 A6 kn3 1460 _ HBUF6.out kn3_ok (by decide)).mono ?_)
  rintro e w7 ⟨v7, rfl, hg, hb, hp⟩
  rw [kn_e5] at hb
  rw [kn_p5] at hp
  have HP7 := Lib.hid hp
  have HBUF7 := Lib.hid hb
  have HG7 := Lib.hid hg
  have lt7 := hb.lt
  obtain ⟨A7, k7, rfl⟩ := hp.len
  clear hg hb hp HBUF6
  go_wp2_with fail
  (refine (acked_no w1.heap.size c6 A6 kn4 2 9 7 _ HBUF7.out kn4_ok (by decide)).mono ?_)
  rintro e w' ⟨rfl, rfl⟩
  go_wp2_with fail
  (refine (send_arg w1.heap.size c6 A6 kn4 0 _ HBUF7.out kn4_ok (by decide)).mono ?_)
  rintro e w8 ⟨rfl, hb⟩
  have HB8 := Lib.hid hb
  have HBUF8 := Lib.hid (HBUF7.out.below hb)
  clear hb HBUF7
  go_wp2_with fail
  (refine (send_arg w1.heap.size c6 A6 kn4 1501 _ HBUF8.out kn4_ok (by decide)).mono ?_)
  rintro e w9 ⟨rfl, hb⟩
  have HB9 := Lib.hid hb
  have HBUF9 := Lib.hid (HBUF8.out.below hb)
  clear hb HBUF8
  go_wp2_with fail
  (refine (tick_nil0 1 0 _).mono ?_)
  rintro e w10 ⟨rfl, hb⟩
  have HB10 := Lib.hid hb
  have HBUF10 := Lib.hid (HBUF9.out.below hb)
  clear hb HBUF9
  go_wp2_with fail
  (refine (acked_nil0 0 0 0 _).mono ?_)
  rintro e w11 ⟨rfl, hb⟩
  have HB11 : Hid (Below w10.heap.size w10 w11) := Lib.hid (((Below.refl w10.heap.size w10).alloc (Nat.le_refl _) _).trans (hb.mono (by simp)))
  clear hb
  have HBUF11 := Lib.hid (HBUF10.out.below HB11.out)
  go_wp2_with fail
  (refine (alarm_nil0 _).mono ?_)
  rintro e w12 ⟨rfl, hb⟩
  have HB12 := Lib.hid hb
  have HBUF12 := Lib.hid (HBUF11.out.below hb)
  clear hb
  have B7 := (((HB8.out.trans (HB9.out.mono HB8.out.size)))).trans ((HB10.out.trans ((HB11.out.trans (HB12.out.mono HB11.out.size)).mono HB10.out.size)).mono (HB8.out.trans (HB9.out.mono HB8.out.size)).size)
  have G7 : w7.grownBy w12 (some w1.heap.size) := grown_below B7
  have G6 := grown_trans HG7.out G7
  have G5 := grown_trans HG6.out G6
  have s1 := HB1.out.size
  have GW : Hid (Below w.heap.size w w12) := Lib.hid (by
    have g1 := grown_trans HG3.out (grown_trans HG4.out (grown_trans HG5.out G5))
    have g0 := HB1.out.trans (HB2.out.mono s1)
    exact g0.trans ⟨g1.os, g1.tape, g1.output, g1.size, fun k hk => g1.block k (Nat.lt_of_lt_of_le hk g0.size) (by simp; omega)⟩)
  obtain ⟨gm, Am, km, rfl, _, lm, _, cm1, om⟩ := (HP7.out.kept G7 (by rintro k hk; cases hk; exact lt6)).at (i := 0) rfl
  have cm1 : w12.cell? ⟨gm, 1, none⟩ = some (.slice Am 2 km) := cm1
  have hu0 : (w5.alloc (Obj.cells #[Value.int IntKind.u32 4294967294, Value.slice A5 1 k5] 38)).cell? ⟨w5.heap.size, 0, none⟩ = some (.int .u32 4294967294) := by go_simp
  have hu1 : (w5.alloc (Obj.cells #[Value.int IntKind.u32 4294967294, Value.slice A5 1 k5] 38)).cell? ⟨w5.heap.size, 1, none⟩ = some (.slice A5 1 k5) := by go_simp
  have cu0 : w12.cell? ⟨w5.heap.size, 0, none⟩ = some (.int .u32 4294967294) := G6.cell (HGB6.out.cell hu0 (by simp; omega)) (by simp; omega)
  have cu1 : w12.cell? ⟨w5.heap.size, 1, none⟩ = some (.slice A5 1 k5) := G6.cell (HGB6.out.cell hu1 (by simp; omega)) (by simp; omega)
  have t1 := (show Byt w12 (.slice A5 1 k5) [97] from own_byt (xs := [97]) (kept_row HO5.out G5 (by rintro k hk; cases hk; exact lt4))).str
  have t2 := (show Byt w12 (.slice Am 2 km) [98, 99] from own_byt om).str
  rw [show strOfNums [97] = ⟨#[97]⟩ from rfl] at t1
  rw [show strOfNums [98, 99] = ⟨#[98, 99]⟩ from rfl] at t2
  clear om hu0 hu1 B7 G7 G6 G5 HG3 HG4 HG5 HG6 HG7 HGB6 HO5 HP7 HB1 HB2 HBB HB8 HB9 HB10 HB11 HB12 HBUF10 HBUF11 HY HMB kmk kc s1 lt3 lt4 lt5 lt6 lt7 lm
  go_wp2_with fail
  (refine (nxt_any w1.heap.size c6 A6 kn4 _ HBUF12.out kn4_ok).mono ?_)
  rw [kn_n]
  rintro e y0 ⟨rfl, hg⟩
  replace GW := Lib.hid (GW.out.trans (show Below w.heap.size w12 y0 from ⟨hg.os, hg.tape, hg.output, hg.size, fun k hk => hg.block k (Nat.lt_of_lt_of_le hk GW.out.size) (by simp)⟩))
  clear hg cm1 cu0 cu1 t1 t2 HBUF12
  go_wp2_with fail
  (refine (write_nil0 0 _).mono ?_)
  rintro e y1 ⟨rfl, hb⟩
  replace GW := Lib.hid (GW.out.trans (hb.mono GW.out.size))
  clear hb
  go_wp2_with fail
  (refine (una_nil0 _).mono ?_)
  rintro e y2 ⟨rfl, hb⟩
  replace GW := Lib.hid (GW.out.trans (hb.mono GW.out.size))
  clear hb
  go_wp2_with fail
  (refine (nxt_nil0 _).mono ?_)
  rintro e y3 ⟨rfl, hb⟩
  replace GW := Lib.hid (GW.out.trans (hb.mono GW.out.size))
  clear hb
  go_wp2_with fail
  (refine (window_nil0 _).mono ?_)
  rintro e y4 ⟨rfl, hb⟩
  replace GW := Lib.hid (GW.out.trans (hb.mono GW.out.size))
  clear hb
  go_wp2_with fail
  (refine (copy_nil0 _).mono ?_)
  rintro e y5 ⟨rfl, hb⟩
  replace GW := Lib.hid (GW.out.trans (hb.mono GW.out.size))
  clear hb
  go_wp2_with fail
  (refine (write_zero _ 0 _ (by go_simp)).mono ?_)
  rintro e y6 ⟨rfl, hb⟩
  replace GW := Lib.hid (GW.out.trans (((Below.refl y5.heap.size y5).alloc (Nat.le_refl _) _).trans (hb.mono (by simp)) |>.mono GW.out.size))
  clear hb
  go_wp2_with fail
  go_ret
  exact ⟨rfl, GW.out⟩
end Go.Proofs.Ytpigomkhpdfdcaa
