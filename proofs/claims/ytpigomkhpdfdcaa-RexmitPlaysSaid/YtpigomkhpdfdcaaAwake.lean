/- awake. -/
import Derived.Test.YtpigomkhpdfdcaaIs
set_option linter.unusedVariables false
namespace Go.Proofs.Ytpigomkhpdfdcaa
open Go.RowKit Go.Deep Go.BigFrame
attribute [local go_sem ↓] Go.wp_at_zero Go.wp_at_succ


def aw0 : St := { data := [], una := 100, sent := 0, win := 4, rto := 3, tries := 2, wait := 3, count := 0, alarm := 0 }
def aw1 : St := { data := [97, 98, 99, 100, 101, 102], una := 100, sent := 0, win := 4, rto := 3, tries := 2, wait := 3, count := 0, alarm := 3 }
def aw2 : St := { aw1 with sent := 4 }
def aw3 : St := { data := [99, 100, 101, 102], una := 102, sent := 2, win := 4, rto := 3, tries := 2, wait := 3, count := 0, alarm := 4 }
def aw4 : St := { aw3 with sent := 4 }
def aw5 : St := { aw4 with count := 1, wait := 6, alarm := 10 }
def aw6 : St := { aw4 with count := 2, wait := 12, alarm := 22 }
theorem aw0_ok : aw0.Ok := newSt_ok 100 4 3 2 (by decide) (by decide) (by decide) (by decide)

theorem aw1_ok : aw1.Ok := ⟨by decide, by decide, by decide, by decide, by decide, by decide, by decide, by decide, by decide, by decide, by decide, by decide, by decide, by decide, by decide⟩
theorem aw2_ok : aw2.Ok := ⟨by decide, by decide, by decide, by decide, by decide, by decide, by decide, by decide, by decide, by decide, by decide, by decide, by decide, by decide, by decide⟩
theorem aw3_ok : aw3.Ok := ⟨by decide, by decide, by decide, by decide, by decide, by decide, by decide, by decide, by decide, by decide, by decide, by decide, by decide, by decide, by decide⟩
theorem aw4_ok : aw4.Ok := ⟨by decide, by decide, by decide, by decide, by decide, by decide, by decide, by decide, by decide, by decide, by decide, by decide, by decide, by decide, by decide⟩
theorem aw5_ok : aw5.Ok := ⟨by decide, by decide, by decide, by decide, by decide, by decide, by decide, by decide, by decide, by decide, by decide, by decide, by decide, by decide, by decide⟩
theorem aw6_ok : aw6.Ok := ⟨by decide, by decide, by decide, by decide, by decide, by decide, by decide, by decide, by decide, by decide, by decide, by decide, by decide, by decide, by decide⟩
theorem aw_e1 : writeSt (newSt 100 4 3 2) [97, 98, 99, 100, 101, 102] 0 = aw1 := rfl
theorem aw_e2 : sendSt aw1 = aw2 := rfl
theorem aw_e3 : sendSt aw2 = aw2 := rfl
theorem aw_e4 : ackSt aw2 2 102 4 1 = aw3 := rfl
theorem aw_e5 : sendSt aw3 = aw4 := rfl
theorem aw_e6 : tickSt aw4 3 4 = aw5 := rfl
theorem aw_e7 : tickSt aw5 3 10 = aw6 := rfl
theorem aw_p1 : pcsOf 3 aw1.sent (sendEnd aw1) = [(0, 3), (3, 4)] := rfl
theorem aw_p2 : pcsOf 3 aw2.sent (sendEnd aw2) = [] := rfl
theorem aw_p3 : pcsOf 3 aw3.sent (sendEnd aw3) = [(2, 4)] := rfl
theorem aw_u4 : aw4.una = 102 := rfl
theorem aw_u5 : aw5.una = 102 := rfl
theorem aw_t6 : tickTo aw4 3 = 3 := rfl
theorem aw_t7 : tickTo aw5 3 = 3 := rfl

set_option maxHeartbeats 3200000 in
set_option maxRecDepth 100000 in
theorem awake_any (w : World) :
    Calls Try.prog 11 #[] w fun e w' => e = .returned (.bool true) ∧ Below w.heap.size w w' := by
  have kc := fun (w : World) (C : Array Value) (n c : Nat) => Lib.run_convert_bytes_const (P := Try.prog) w 34 5 C n c Try.underlying34 Try.underlying5
  go_enter Try.func11, Try.ntmps11
  go_wp2_with fail
  refine (new_yes 100 4 3 2 _ (by decide)).mono ?_
  rintro e w1 ⟨rfl, hh, hB⟩
  have HB1 := Lib.hid hB
  have HBUF1 : Hid (Buf w1 w.heap.size none 0 aw0) := Lib.hid ⟨hh, none, 0, rfl, Nat.le_refl _, by simp [maxLen], fun h => by simp [aw0] at h⟩
  clear hh hB
  go_wp2_with fail
  have HY : Hid (Byt (w1.alloc (Obj.cells #[.int .u8 97, .int .u8 98, .int .u8 99, .int .u8 100, .int .u8 101, .int .u8 102] 5 (6, 7))) (.slice (some ⟨w1.heap.size, 0, none⟩) 6 6) [97, 98, 99, 100, 101, 102]) := Lib.hid (Byt.const w1 [97, 98, 99, 100, 101, 102] 6 (6, 7) rfl (by simp [maxLen]))
  (with_reducible refine (write_ok w.heap.size 0 none aw0 _ 6 _ [97, 98, 99, 100, 101, 102] 0 _ (HBUF1.out.below (by repeat (first | exact Below.refl _ _ | (refine Below.setCell ?_ (by simp) _) | (refine Below.alloc ?_ (by simp) _) | (refine Below.drew ?_)))) aw0_ok rfl HY.out (by decide) (by decide) (by decide) (by decide)).mono ?_)
  rintro e w2 ⟨rfl, hg, A2, c2, hb⟩
  have hb : Buf w2 w.heap.size A2 c2 aw1 := hb
  have HBUF2 := Lib.hid hb
  have HG2 : Hid (w1.grownBy w2 (some w.heap.size)) := Lib.hid (grown_trans (grown_below (by repeat (first | exact Below.refl _ _ | (refine Below.setCell ?_ (by simp) _) | (refine Below.alloc ?_ (by simp) _) | (refine Below.drew ?_)))) hg)
  have lt2 := hb.lt
  clear hg hb HBUF1
  go_wp2_with fail
  (refine (send_ok w.heap.size c2 A2 aw1 3 _ (HBUF2.out.below (by repeat (first | exact Below.refl _ _ | (refine Below.setCell ?_ (by simp) _) | (refine Below.alloc ?_ (by simp) _) | (refine Below.drew ?_)))) aw1_ok (by decide)).mono ?_)
  rintro e w3 ⟨v3, rfl, hg, hb, hp⟩
  rw [aw_e2] at hb
  rw [aw_p1] at hp
  have HP3 := Lib.hid hp
  have HBUF3 := Lib.hid hb
  have HG3 : Hid (w2.grownBy w3 (some w.heap.size)) := Lib.hid (grown_trans (grown_below (by repeat (first | exact Below.refl _ _ | (refine Below.setCell ?_ (by simp) _) | (refine Below.alloc ?_ (by simp) _) | (refine Below.drew ?_)))) hg)
  obtain ⟨A3, k3, rfl⟩ := hp.len
  clear hg hb hp HBUF2
  go_wp2_with fail
  (refine (send_ok w.heap.size c2 A2 aw2 3 _ (HBUF3.out.below (by repeat (first | exact Below.refl _ _ | (refine Below.setCell ?_ (by simp) _) | (refine Below.alloc ?_ (by simp) _) | (refine Below.drew ?_)))) aw2_ok (by decide)).mono ?_)
  rintro e w4 ⟨v4, rfl, hg, hb, hp⟩
  rw [aw_e3] at hb
  rw [aw_p2] at hp
  have HBUF4 := Lib.hid hb
  have HG4 : Hid (w3.grownBy w4 (some w.heap.size)) := Lib.hid (grown_trans (grown_below (by repeat (first | exact Below.refl _ _ | (refine Below.setCell ?_ (by simp) _) | (refine Below.alloc ?_ (by simp) _) | (refine Below.drew ?_)))) hg)
  obtain ⟨A4, k4, rfl⟩ := hp.len
  clear hg hb hp HBUF3
  go_wp2_with fail
  (refine (acked_pos w.heap.size c2 A2 aw2 2 102 4 1 _ (HBUF4.out.below (by repeat (first | exact Below.refl _ _ | (refine Below.setCell ?_ (by simp) _) | (refine Below.alloc ?_ (by simp) _) | (refine Below.drew ?_)))) aw2_ok (by decide) (by decide) (by decide) (by decide) (by decide) (by decide) (by decide) (by decide)).mono ?_)
  rintro e w5 ⟨rfl, hg, A5, c5, hb⟩
  rw [aw_e4] at hb
  have HBUF5 := Lib.hid hb
  have lt5 := hb.lt
  have HG5 : Hid (w4.grownBy w5 (some w.heap.size)) := Lib.hid (grown_trans (grown_below (by repeat (first | exact Below.refl _ _ | (refine Below.setCell ?_ (by simp) _) | (refine Below.alloc ?_ (by simp) _) | (refine Below.drew ?_)))) hg)
  clear hg hb HBUF4
  go_wp2_with fail
  (refine (send_ok w.heap.size c5 A5 aw3 3 _ (HBUF5.out.below (by repeat (first | exact Below.refl _ _ | (refine Below.setCell ?_ (by simp) _) | (refine Below.alloc ?_ (by simp) _) | (refine Below.drew ?_)))) aw3_ok (by decide)).mono ?_)
  rintro e w6 ⟨v6, rfl, hg, hb, hp⟩
  rw [aw_e5] at hb
  rw [aw_p3] at hp
  have HP6 := Lib.hid hp
  have HBUF6 := Lib.hid hb
  have lt6 := hb.lt
  have HG6 : Hid (w5.grownBy w6 (some w.heap.size)) := Lib.hid (grown_trans (grown_below (by repeat (first | exact Below.refl _ _ | (refine Below.setCell ?_ (by simp) _) | (refine Below.alloc ?_ (by simp) _) | (refine Below.drew ?_)))) hg)
  obtain ⟨A6, k6, rfl⟩ := hp.len
  clear hg hb hp HBUF5
  go_wp2_with fail
  (with_reducible refine (tick_later w.heap.size c5 A5 aw4 3 3 _ (HBUF6.out.below (by repeat (first | exact Below.refl _ _ | (refine Below.setCell ?_ (by simp) _) | (refine Below.alloc ?_ (by simp) _) | (refine Below.drew ?_)))) aw4_ok (by decide) (by decide)).mono ?_)
  rintro e w7 ⟨rfl, hB⟩
  have HB7 := Lib.hid hB
  clear hB
  go_wp2_with fail
  have hB67 : Hid (Below w6.heap.size w6 w7) := Lib.hid (HB7.out.mono (by simp))
  (refine (tick_some w.heap.size c5 A5 aw4 3 4 _ ((HBUF6.out.below hB67.out).below (by repeat (first | exact Below.refl _ _ | (refine Below.setCell ?_ (by simp) _) | (refine Below.alloc ?_ (by simp) _) | (refine Below.drew ?_)))) aw4_ok (by decide) (by decide) (by decide) (by decide) (by decide) (by decide)).mono ?_)
  rintro e w8 ⟨v8, rfl, ho, hg, hb⟩
  rw [aw_u4]
  rw [aw_e6] at hb
  rw [aw_t6] at ho
  obtain ⟨A8, k8, rfl⟩ := own_len ho
  have HO8 := Lib.hid ho
  have HBUF8 := Lib.hid hb
  have lt8 := hb.lt
  have HG8 : Hid (w6.grownBy w8 (some w.heap.size)) := Lib.hid (grown_trans (grown_below (r := some w.heap.size) hB67.out) (grown_trans (grown_below (r := some w.heap.size) (by repeat (first | exact Below.refl _ _ | (refine Below.setCell ?_ (by simp) _) | (refine Below.alloc ?_ (by simp) _) | (refine Below.drew ?_)))) hg))
  clear hg hb ho HBUF6
  go_wp2_with fail
  (refine (tick_some w.heap.size c5 A5 aw5 3 10 _ (HBUF8.out.below (by repeat (first | exact Below.refl _ _ | (refine Below.setCell ?_ (by simp) _) | (refine Below.alloc ?_ (by simp) _) | (refine Below.drew ?_)))) aw5_ok (by decide) (by decide) (by decide) (by decide) (by decide) (by decide)).mono ?_)
  rintro e w9 ⟨v9, rfl, ho, hg, hb⟩
  rw [aw_u5]
  rw [aw_e7] at hb
  rw [aw_t7] at ho
  obtain ⟨A9, k9, rfl⟩ := own_len ho
  have HO9 := Lib.hid ho
  have HBUF9 := Lib.hid hb
  have lt9 := hb.lt
  have HGB9 := Lib.hid hg
  have HG9 : Hid (w8.grownBy w9 (some w.heap.size)) := Lib.hid (grown_trans (grown_below (by repeat (first | exact Below.refl _ _ | (refine Below.setCell ?_ (by simp) _) | (refine Below.alloc ?_ (by simp) _) | (refine Below.drew ?_)))) hg)
  clear hg hb ho HBUF8
  go_wp2_with fail
  (refine (tick_full w.heap.size c5 A5 aw6 3 22 _ (HBUF9.out.below (by repeat (first | exact Below.refl _ _ | (refine Below.setCell ?_ (by simp) _) | (refine Below.alloc ?_ (by simp) _) | (refine Below.drew ?_)))) aw6_ok (by decide) (by decide) (by decide) (by decide)).mono ?_)
  rintro e w10 ⟨rfl, hB⟩
  have HB10 := Lib.hid hB
  clear hB
  obtain ⟨Wf, hWf⟩ : ∃ Wf, Wf = w10.alloc (Obj.cells #[Value.int IntKind.u32 0, Value.slice none 0 0] 38) := ⟨_, rfl⟩
  have hBf : Below w10.heap.size w10 Wf := by rw [hWf]; repeat (first | exact Below.refl _ _ | (refine Below.setCell ?_ (by simp) _) | (refine Below.alloc ?_ (by simp) _) | (refine Below.drew ?_))
  have G9 : w9.grownBy Wf (some w.heap.size) := grown_trans (grown_below (((Below.refl w9.heap.size w9).alloc (Nat.le_refl _) _).trans (HB10.out.mono (by simp)))) (grown_below hBf)
  have G8 := grown_trans HG9.out G9
  have G6 := grown_trans HG8.out G8
  have G3 := grown_trans HG4.out (grown_trans HG5.out (grown_trans HG6.out G6))
  have GW : Hid (Below w.heap.size w Wf) := Lib.hid (by
    have g1 := grown_trans (grown_trans HG2.out HG3.out) G3
    exact HB1.out.trans ⟨g1.os, g1.tape, g1.output, g1.size, fun k hk => g1.block k (Nat.lt_of_lt_of_le hk HB1.out.size) (by simp; omega)⟩)
  have s67 := hB67.out.size
  have s910 : w9.heap.size + 1 ≤ w10.heap.size := by have := HB10.out.size; simpa using this
  have s10f := hBf.size
  obtain ⟨gx, Ax0, kx0, rfl, _, lx0, cx00, cx01, ox0⟩ := (HP3.out.kept G3 (by rintro k hk; cases hk; exact lt2)).at (i := 0) rfl
  obtain ⟨gx', Ax1, kx1, hgx, _, lx1, cx10, cx11, ox1⟩ := (HP3.out.kept G3 (by rintro k hk; cases hk; exact lt2)).at (i := 1) rfl
  injection hgx with hgx
  injection hgx with hgx
  subst hgx
  obtain ⟨gz, Az0, kz0, rfl, _, lz0, cz00, cz01, oz0⟩ := (HP6.out.kept G6 (by rintro k hk; cases hk; exact lt5)).at (i := 0) rfl
  have cx00 : Wf.cell? ⟨gx, 0, none⟩ = some (.int .u32 100) := cx00
  have cx01 : Wf.cell? ⟨gx, 1, none⟩ = some (.slice Ax0 3 kx0) := cx01
  have cx10 : Wf.cell? ⟨gx, 2, none⟩ = some (.int .u32 103) := cx10
  have cx11 : Wf.cell? ⟨gx, 3, none⟩ = some (.slice Ax1 1 kx1) := cx11
  have cz00 : Wf.cell? ⟨gz, 0, none⟩ = some (.int .u32 104) := cz00
  have cz01 : Wf.cell? ⟨gz, 1, none⟩ = some (.slice Az0 2 kz0) := cz01
  have hu0 : (w8.alloc (Obj.cells #[Value.int IntKind.u32 102, Value.slice A8 3 k8] 38)).cell? ⟨w8.heap.size, 0, none⟩ = some (.int .u32 102) := by go_simp
  have hu1 : (w8.alloc (Obj.cells #[Value.int IntKind.u32 102, Value.slice A8 3 k8] 38)).cell? ⟨w8.heap.size, 1, none⟩ = some (.slice A8 3 k8) := by go_simp
  have hv0 : (w9.alloc (Obj.cells #[Value.int IntKind.u32 102, Value.slice A9 3 k9] 38)).cell? ⟨w9.heap.size, 0, none⟩ = some (.int .u32 102) := by go_simp
  have hv1 : (w9.alloc (Obj.cells #[Value.int IntKind.u32 102, Value.slice A9 3 k9] 38)).cell? ⟨w9.heap.size, 1, none⟩ = some (.slice A9 3 k9) := by go_simp
  have cu00 : Wf.cell? ⟨w8.heap.size, 0, none⟩ = some (.int .u32 102) := G9.cell (HGB9.out.cell hu0 (by simp; omega)) (by simp; omega)
  have cu01 : Wf.cell? ⟨w8.heap.size, 1, none⟩ = some (.slice A8 3 k8) := G9.cell (HGB9.out.cell hu1 (by simp; omega)) (by simp; omega)
  have cv00 : Wf.cell? ⟨w9.heap.size, 0, none⟩ = some (.int .u32 102) := (hBf.cell (p := ⟨w9.heap.size, 0, none⟩) s910).trans ((HB10.out.cell (p := ⟨w9.heap.size, 0, none⟩) (by simp)).trans hv0)
  have cv01 : Wf.cell? ⟨w9.heap.size, 1, none⟩ = some (.slice A9 3 k9) := (hBf.cell (p := ⟨w9.heap.size, 1, none⟩) s910).trans ((HB10.out.cell (p := ⟨w9.heap.size, 1, none⟩) (by simp)).trans hv1)
  have lu0 : w8.heap.size < Wf.heap.size := by have := HGB9.out.size; simp at this; omega
  have lv0 : w9.heap.size < Wf.heap.size := by omega
  have BX0 := Lib.hid (show Byt Wf (.slice Ax0 3 kx0) [97, 98, 99] from own_byt ox0)
  have BX1 := Lib.hid (show Byt Wf (.slice Ax1 1 kx1) [100] from own_byt ox1)
  have BZ0 := Lib.hid (show Byt Wf (.slice Az0 2 kz0) [101, 102] from own_byt oz0)
  have BU0 := Lib.hid (show Byt Wf (.slice A8 3 k8) [99, 100, 101] from own_byt (xs := [99, 100, 101]) (kept_row HO8.out G8 (by rintro k hk; cases hk; simp; omega)))
  have BV0 := Lib.hid (show Byt Wf (.slice A9 3 k9) [99, 100, 101] from own_byt (xs := [99, 100, 101]) (kept_row HO9.out G9 (by rintro k hk; cases hk; simp; omega)))
  clear ox0 ox1 oz0 hu0 hu1 hv0 hv1 G9 G8 G6 G3 hBf HG2 HG3 HG4 HG5 HG6 HG8 HG9 HGB9 HO8 HO9 HP3 HP6 HBUF9 HB10 HB7 hB67 s67 s910 s10f lt2 lt5 lt6 lt8 lt9 HB1 HY
  subst hWf
  go_wp2_with fail
  refine (is_eq 100 _ _ _ [97, 98, 99] _ _ BX0.out rfl).mono ?_
  rintro e y0 ⟨rfl, hb⟩
  clear cx00 cx01 BX0
  replace cx10 := (hb.cell (p := ⟨gx, 2, none⟩) lx1).trans cx10
  replace cx11 := (hb.cell (p := ⟨gx, 3, none⟩) lx1).trans cx11
  replace BX1 := Lib.hid (BX1.out.below hb)
  replace cz00 := (hb.cell (p := ⟨gz, 0, none⟩) lz0).trans cz00
  replace cz01 := (hb.cell (p := ⟨gz, 1, none⟩) lz0).trans cz01
  replace BZ0 := Lib.hid (BZ0.out.below hb)
  replace cu00 := (hb.cell (p := ⟨w8.heap.size, 0, none⟩) lu0).trans cu00
  replace cu01 := (hb.cell (p := ⟨w8.heap.size, 1, none⟩) lu0).trans cu01
  replace BU0 := Lib.hid (BU0.out.below hb)
  replace cv00 := (hb.cell (p := ⟨w9.heap.size, 0, none⟩) lv0).trans cv00
  replace cv01 := (hb.cell (p := ⟨w9.heap.size, 1, none⟩) lv0).trans cv01
  replace BV0 := Lib.hid (BV0.out.below hb)
  replace lx1 := Nat.lt_of_lt_of_le lx1 hb.size
  replace lz0 := Nat.lt_of_lt_of_le lz0 hb.size
  replace lu0 := Nat.lt_of_lt_of_le lu0 hb.size
  replace lv0 := Nat.lt_of_lt_of_le lv0 hb.size
  replace GW := Lib.hid (GW.out.trans (hb.mono GW.out.size))
  clear hb
  go_wp2_with fail
  refine (is_eq 103 _ _ _ [100] _ _ BX1.out rfl).mono ?_
  rintro e y1 ⟨rfl, hb⟩
  clear cx10 cx11 BX1
  replace cz00 := (hb.cell (p := ⟨gz, 0, none⟩) lz0).trans cz00
  replace cz01 := (hb.cell (p := ⟨gz, 1, none⟩) lz0).trans cz01
  replace BZ0 := Lib.hid (BZ0.out.below hb)
  replace cu00 := (hb.cell (p := ⟨w8.heap.size, 0, none⟩) lu0).trans cu00
  replace cu01 := (hb.cell (p := ⟨w8.heap.size, 1, none⟩) lu0).trans cu01
  replace BU0 := Lib.hid (BU0.out.below hb)
  replace cv00 := (hb.cell (p := ⟨w9.heap.size, 0, none⟩) lv0).trans cv00
  replace cv01 := (hb.cell (p := ⟨w9.heap.size, 1, none⟩) lv0).trans cv01
  replace BV0 := Lib.hid (BV0.out.below hb)
  replace lz0 := Nat.lt_of_lt_of_le lz0 hb.size
  replace lu0 := Nat.lt_of_lt_of_le lu0 hb.size
  replace lv0 := Nat.lt_of_lt_of_le lv0 hb.size
  replace GW := Lib.hid (GW.out.trans (hb.mono GW.out.size))
  clear hb
  go_wp2_with fail
  refine (is_eq 104 _ _ _ [101, 102] _ _ BZ0.out rfl).mono ?_
  rintro e y2 ⟨rfl, hb⟩
  clear cz00 cz01 BZ0
  replace cu00 := (hb.cell (p := ⟨w8.heap.size, 0, none⟩) lu0).trans cu00
  replace cu01 := (hb.cell (p := ⟨w8.heap.size, 1, none⟩) lu0).trans cu01
  replace BU0 := Lib.hid (BU0.out.below hb)
  replace cv00 := (hb.cell (p := ⟨w9.heap.size, 0, none⟩) lv0).trans cv00
  replace cv01 := (hb.cell (p := ⟨w9.heap.size, 1, none⟩) lv0).trans cv01
  replace BV0 := Lib.hid (BV0.out.below hb)
  replace lu0 := Nat.lt_of_lt_of_le lu0 hb.size
  replace lv0 := Nat.lt_of_lt_of_le lv0 hb.size
  replace GW := Lib.hid (GW.out.trans (hb.mono GW.out.size))
  clear hb
  go_wp2_with fail
  refine (is_eq 102 _ _ _ [99, 100, 101] _ _ BU0.out rfl).mono ?_
  rintro e y3 ⟨rfl, hb⟩
  clear cu00 cu01 BU0
  replace cv00 := (hb.cell (p := ⟨w9.heap.size, 0, none⟩) lv0).trans cv00
  replace cv01 := (hb.cell (p := ⟨w9.heap.size, 1, none⟩) lv0).trans cv01
  replace BV0 := Lib.hid (BV0.out.below hb)
  replace lv0 := Nat.lt_of_lt_of_le lv0 hb.size
  replace GW := Lib.hid (GW.out.trans (hb.mono GW.out.size))
  clear hb
  go_wp2_with fail
  refine (is_eq 102 _ _ _ [99, 100, 101] _ _ BV0.out rfl).mono ?_
  rintro e y4 ⟨rfl, hb⟩
  clear cv00 cv01 BV0
  replace GW := Lib.hid (GW.out.trans (hb.mono GW.out.size))
  clear hb
  go_wp2_with fail
  go_ret
  exact ⟨rfl, GW.out⟩
end Go.Proofs.Ytpigomkhpdfdcaa
