/- The walk of RexmitGets. -/
import Derived.Test.YtpigomkhpdfdcaaGetsLaw
import Derived.Test.YtpigomkhpdfdcaaMid
import Derived.Test.YtpigomkhpdfdcaaSlc
import Derived.Deep.DeepCutAuto
import Derived.Deep.CutBlock
import Derived.BigQuiet
import Derived.IntWalk
set_option linter.unusedVariables false
namespace Go.Proofs.Ytpigomkhpdfdcaa
open Go.RowKit Go.Deep Go.BigFrame
attribute [local go_sem ↓] Go.wp_at_zero Go.wp_at_succ

theorem writeSt_facts2 (s : St) (ys : List Int) (now : Int) : (writeSt s ys now).data = s.data ++ ys ∧ (writeSt s ys now).una = s.una ∧ (writeSt s ys now).sent = s.sent ∧ (writeSt s ys now).win = s.win ∧ (writeSt s ys now).rto = s.rto ∧ (writeSt s ys now).tries = s.tries ∧
    (s.count = 0 → (writeSt s ys now).count = 0) ∧ (s.data.length = 0 → 0 < ys.length → (writeSt s ys now).alarm = now + s.rto) := by
  unfold writeSt
  split
  · exact ⟨rfl, rfl, rfl, rfl, rfl, rfl, fun _ => rfl, fun _ _ => rfl⟩
  · rename_i h; exact ⟨rfl, rfl, rfl, rfl, rfl, rfl, fun h => h, fun h1 h2 => absurd ⟨h1, h2⟩ h⟩
def GeRel (W0 : World) (BL bx g d : Nat) (AT W R : Int) (ys : List Int) (gk : Nat) (v64 v9 v10 v11 v12 : Value) (wr : World) : Prop :=
  ∃ (i a row k : Nat) (now : Int) (s : St) (A : Option Addr) (c : Nat), v64 = .int .i64 i ∧ v10 = .int .i64 k ∧ v11 = .int .i64 row ∧ v12 = .int .u64 now ∧ i + gk ≤ 4000 ∧ 4000 ≤ i + gk ∧ k ≤ 20 * i ∧ row ≤ 8 ∧ 0 ≤ now ∧ now ≤ 110000 * i ∧
    (d - a) * 10 + (9 - row) + i ≤ 610 ∧ (i = 0 → a < d → now = 0 ∧ s.alarm = R) ∧ (i = 0 → (d - a) * 10 + 9 ≤ 609) ∧ (1 ≤ i → a < d → s.alarm ≤ now) ∧ Ge W0 BL bx g d AT W R ys wr a v9 row s A c
/-- What the loop over the pieces keeps: q bytes are there. -/
def GeIn (w2 : World) (BL a sb N k0 row : Nat) (isb : Bool) (ys : List Int) (v0 : Value) (gj : Nat) (v96 v9 v10 : Value) (wx : World) : Prop :=
  ∃ (j q k : Nat), v96 = .int .i64 j ∧ v10 = .int .i64 k ∧ j + gj ≤ N ∧ N ≤ j + gj ∧ k ≤ k0 + j ∧ a ≤ q ∧ q ≤ sb ∧ wx.ownsRow BL 5 1 v9 q ((ys.take q).map (.int .u8)) ∧ w2.grownBy wx v0.ownBlock ∧
    (v9.ownBlock = v0.ownBlock ∨ ∀ b, v9.ownBlock = some b → w2.heap.size ≤ b) ∧ (isb = true → 8 ≤ row → N ≤ j → a < q)

set_option maxHeartbeats 20000000 in
set_option maxRecDepth 100000 in
theorem gets_walk (una win rto tries : Int) (A : Option Addr) (m c : Nat) (xs : List Int) (LA : Option Addr) (ln lc : Nat) (w : World) (u0 : 0 ≤ una) (u1 : una ≤ 4294967295) (w0 : 0 ≤ win) (w1 : win ≤ 4294967295) (r0 : 0 ≤ rto) (r1 : rto ≤ 18446744073709551615)
    (hm : xs.length = m) (hx : Byt w (.slice A m c) xs) (hxb : ∀ x ∈ xs, 0 ≤ x ∧ x ≤ 255) (hlost : Bools w LA ln) (hlc : ln ≤ lc) (hlm : lc ≤ maxLen) :
    Calls Try.prog 6 #[.agg #[.int .u32 una, .int .u32 win, .int .u64 rto, .int .i64 tries], .slice A m c, .slice LA ln lc] w fun e w' => e = .returned (.bool true) ∧ Below w.heap.size w w' := by
  have HF := Lib.hid (fun w => fit_any una win rto tries w w0 w1 r0 r1)
  obtain ⟨f1, f2, f3, f4, f5, f6⟩ := fit_bd win rto tries
  obtain ⟨W, hW⟩ : ∃ W, fitW win = W := ⟨_, rfl⟩
  obtain ⟨R, hR⟩ : ∃ R, fitR rto = R := ⟨_, rfl⟩
  obtain ⟨T, hT⟩ : ∃ T, fitT tries = T := ⟨_, rfl⟩
  rw [hW, hR, hT] at HF
  rw [hW] at f1 f2
  rw [hR] at f3 f4
  rw [hT] at f5 f6
  clear hW hR hT w0 w1 r0 r1
  obtain ⟨W2, hW2⟩ : ∃ W2, 1 + W % 9 = W2 := ⟨_, rfl⟩
  have w21 : 1 ≤ W2 := by omega
  have w22 : W2 ≤ 9 := by omega
  obtain ⟨d, hd⟩ : ∃ d : Nat, (if (60 : Int) < (m : Int) then (60 : Int) else (m : Int)) = (d : Int) := ⟨min m 60, by split <;> omega⟩
  have hdm : d ≤ m ∧ d ≤ 60 := by split at hd <;> omega
  obtain ⟨-, hmc, hcm⟩ := hx.len_eq
  unfold maxLen at hcm hlm
  obtain ⟨ys, hys⟩ : ∃ ys, xs.take d = ys := ⟨_, rfl⟩
  have hyl : ys.length = d := by rw [← hys, List.length_take]; omega
  have HY : Hid (Byt w (.slice A d c) ys) := Lib.hid (by rw [← hys]; exact hx.cut d hdm.1)
  have HYB : Hid (∀ x ∈ ys, 0 ≤ x ∧ x ≤ 255) := Lib.hid (by rw [← hys]; exact fun x hx => hxb x (List.mem_of_mem_take hx))
  have HYL := Lib.hid hyl
  have HLO := Lib.hid hlost
  have hsl := fun W => run_slice_hi A m c d (by omega) W
  clear hm hx hxb hys hyl hlost
  go_enter Try.func6, Try.ntmps6
  go_wp2_with fail
  refine (HF.out _).mono ?_
  rintro e x1 ⟨rfl, hb⟩
  have HX1 := Lib.hid (((Below.refl w.heap.size w).alloc (Nat.le_refl _) (Obj.cells #[.int .u32 una, .int .u32 win, .int .u64 rto, .int .i64 tries] 25)).trans (hb.mono (by simp)))
  have hs1 : w.heap.size < x1.heap.size := by have := hb.size; simp at this; omega
  have c0 := (hb.cell (p := ⟨w.heap.size, 0, none⟩) (by simp)).trans (show _ = some (.int .u32 una) by go_simp)
  have c1 := (hb.cell (p := ⟨w.heap.size, 1, none⟩) (by simp)).trans (show _ = some (.int .u32 win) by go_simp)
  have c2 := (hb.cell (p := ⟨w.heap.size, 2, none⟩) (by simp)).trans (show _ = some (.int .u64 rto) by go_simp)
  have c3 := (hb.cell (p := ⟨w.heap.size, 3, none⟩) (by simp)).trans (show _ = some (.int .i64 tries) by go_simp)
  have d0 := (hb.frozen (p := ⟨w.heap.size, 0, none⟩) (by simp)).trans (show _ = false by go_simp)
  have d1 := (hb.frozen (p := ⟨w.heap.size, 1, none⟩) (by simp)).trans (show _ = false by go_simp)
  have d2 := (hb.frozen (p := ⟨w.heap.size, 2, none⟩) (by simp)).trans (show _ = false by go_simp)
  have d3 := (hb.frozen (p := ⟨w.heap.size, 3, none⟩) (by simp)).trans (show _ = false by go_simp)
  clear hb
  go_upto_region 2 with (fail)
  obtain ⟨X1, hX1⟩ : ∃ X1, X1 = ((((x1.setCell ⟨w.heap.size, 0, none⟩ (.int .u32 una)).setCell ⟨w.heap.size, 1, none⟩ (.int .u32 W)).setCell ⟨w.heap.size, 2, none⟩ (.int .u64 R)).setCell ⟨w.heap.size, 3, none⟩ (.int .i64 T)) := ⟨_, rfl⟩
  rw [← hX1]
  have b0 : X1.cell? ⟨w.heap.size, 0, none⟩ = some (.int .u32 una) := by rw [hX1]; go_simp
  have b1 : X1.cell? ⟨w.heap.size, 1, none⟩ = some (.int .u32 W) := by rw [hX1]; go_simp
  have b2 : X1.cell? ⟨w.heap.size, 2, none⟩ = some (.int .u64 R) := by rw [hX1]; go_simp
  have b3 : X1.cell? ⟨w.heap.size, 3, none⟩ = some (.int .i64 T) := by rw [hX1]; go_simp
  have g1 : X1.frozen? ⟨w.heap.size, 1, none⟩ = false := by rw [hX1]; go_simp
  have g3 : X1.frozen? ⟨w.heap.size, 3, none⟩ = false := by rw [hX1]; go_simp
  have HX1' : Hid (Below w.heap.size w X1) := Lib.hid (by rw [hX1]; exact (((HX1.out.setCell (Nat.le_refl _) _).setCell (Nat.le_refl _) _).setCell (Nat.le_refl _) _).setCell (Nat.le_refl _) _)
  have hs1' : w.heap.size < X1.heap.size := by rw [hX1]; simp only [World.setCell, Array.size_modify]; omega
  clear hX1 c0 c1 c2 c3 d0 d1 d2 d3 HX1 hs1
  go_upto_region 5 with (fail)
  obtain ⟨X2, hX2⟩ : ∃ X2, X2 = ((X1.setCell ⟨w.heap.size, 1, none⟩ (.int .u32 W2)).setCell ⟨w.heap.size, 3, none⟩ (.int .i64 10)) := ⟨_, rfl⟩
  rw [← hX2]
  have e0 : X2.cell? ⟨w.heap.size, 0, none⟩ = some (.int .u32 una) := by rw [hX2]; go_simp
  have e1 : X2.cell? ⟨w.heap.size, 1, none⟩ = some (.int .u32 W2) := by rw [hX2]; go_simp
  have e2 : X2.cell? ⟨w.heap.size, 2, none⟩ = some (.int .u64 R) := by rw [hX2]; go_simp
  have e3 : X2.cell? ⟨w.heap.size, 3, none⟩ = some (.int .i64 (10 : Nat)) := by rw [hX2]; go_simp
  have HX2 : Hid (Below w.heap.size w X2) := Lib.hid (by rw [hX2]; exact (HX1'.out.setCell (Nat.le_refl _) _).setCell (Nat.le_refl _) _)
  have hs2 : w.heap.size < X2.heap.size := by rw [hX2]; simp only [World.setCell, Array.size_modify]; omega
  clear hX2 b0 b1 b2 b3 g1 g3 HX1' hs1' hW2 hd hsl
  go_wp2_with fail
  refine (new_yes una W2 R 10 _ (decide_eq_true ⟨f3, by omega, by omega, by omega, by omega⟩)).mono ?_
  rintro e x3 ⟨rfl, hh, hB⟩
  obtain ⟨g, hg⟩ : ∃ g, X2.heap.size = g := ⟨_, rfl⟩
  rw [hg] at hh hB hs2 ⊢
  replace e0 := (hB.cell (p := ⟨w.heap.size, 0, none⟩) hs2).trans e0
  replace e1 := (hB.cell (p := ⟨w.heap.size, 1, none⟩) hs2).trans e1
  have HX3 : Hid (Below w.heap.size w x3) := Lib.hid (HX2.out.trans (hB.mono (Nat.le_of_lt hs2)))
  have HBUF3 : Hid (Buf x3 g none 0 (newSt una W2 R 10)) := Lib.hid ⟨hh, none, 0, rfl, Nat.le_refl _, by simp [maxLen], fun h => by simp [newSt] at h⟩
  have HOK3 : Hid ((newSt una W2 R 10).Ok) := Lib.hid (newSt_ok una W2 R 10 u0 u1 (by omega) (decide_eq_true ⟨f3, by omega, by omega, by omega, by omega⟩))
  have lt3 := HBUF3.out.lt
  clear hh hB hg HX2 e2 e3
  go_wp2_with fail
  refine (awake_any _).mono ?_
  rintro e x4 ⟨rfl, hb⟩
  replace e0 := (hb.cell (p := ⟨w.heap.size, 0, none⟩) (Nat.lt_trans hs2 lt3)).trans e0
  replace e1 := (hb.cell (p := ⟨w.heap.size, 1, none⟩) (Nat.lt_trans hs2 lt3)).trans e1
  have HX4 : Hid (Below w.heap.size w x4) := Lib.hid (HX3.out.trans (hb.mono HX3.out.size))
  have HBUF4 := Lib.hid (HBUF3.out.below hb)
  clear hb HX3 HBUF3 lt3
  have lt4 := HBUF4.out.lt
  have HW := Lib.hid (write_okF g 0 none (newSt una W2 R 10) A d c ys 0 x4 HBUF4.out HOK3.out HYL.out (HY.out.below HX4.out) (by simp [newSt]; omega) (by decide) (by decide) HYB.out)
  have hwf := writeSt_facts2 (newSt una W2 R 10) ys 0
  have hwo := writeSt_ok (newSt una W2 R 10) ys 0 HOK3.out (by simp [newSt, HYL.out]; omega) HYB.out (by decide) (by decide)
  obtain ⟨s0, hs0⟩ : ∃ s0, writeSt (newSt una W2 R 10) ys 0 = s0 := ⟨_, rfl⟩
  rw [hs0] at HW hwf hwo
  have HWF := Lib.hid hwf
  have HWO := Lib.hid hwo
  clear hwf hwo hs0
  go_wp2_with fail
  refine HW.out.mono ?_
  rintro e x5 ⟨rfl, hg, A5, c5, hb, hfar⟩
  have HGE : Hid (Ge w x5.heap.size w.heap.size g d una W2 R ys x5 0 (.slice none 0 0) 0 s0 A5 c5) := Lib.hid {
    le := Nat.zero_le _, len := HYL.out, data := by rw [HWF.out.1]; rfl, una := by rw [HWF.out.2.1]; show una = addU una 0; unfold addU; omega
    win := HWF.out.2.2.2.1, rto := HWF.out.2.2.2.2.1, tries := HWF.out.2.2.2.2.2.1, count := HWF.out.2.2.2.2.2.2.1 rfl, ok := HWO.out, buf := hb
    own := World.ownsRow_nil _ _ _ _
    c0 := hg.cell e0 (by simp; omega), c1 := hg.cell e1 (by simp; omega)
    apart := fun b _ => by simp [Value.ownBlock]
    alt := fun b hb' => (hfar b hb').2
    bel := HX4.out.grown hg HX4.out.size (by intro k hk; cases hk; omega), lbl := Nat.le_refl _ }
  have HGB : Hid (GeB w x5.heap.size w.heap.size g) := Lib.hid ⟨Nat.le_refl _, hs2, hb.lt⟩
  have hal : 0 < d → s0.alarm = R := fun h => by have := HWF.out.2.2.2.2.2.2.2 rfl (by rw [HYL.out]; exact h); rw [this]; show (0 : Int) + R = R; omega
  have HAL := Lib.hid hal
  have lt5 := hb.lt
  clear hg hb hal hfar HW HX4 HBUF4 HOK3 HWF HWO e0 e1 lt4
  go_wp2_with fail
  go_loopg [64, 9, 10, 11, 12] 4000 (fun gk v64 v9 v10 v11 v12 wr => GeRel w x5.heap.size w.heap.size g d una W2 R ys gk v64 v9 v10 v11 v12 wr)
  case atStart => exact ⟨0, 0, 0, 0, 0, s0, A5, c5, rfl, rfl, rfl, rfl, by omega, by omega, by omega, by omega, by omega, by omega, by omega, fun _ h => ⟨rfl, HAL.out h⟩, fun _ => by omega, fun h _ => by omega, HGE.out⟩
  case round =>
    obtain ⟨i, a, row, k, now, s, A', c', rfl, rfl, rfl, rfl, i0, i1, k0, ro, n0, n1, phi, z0, z1, z2, hge⟩ := hrel
    have ad := hge.le
    by_cases hfin : a = d
    · as_aux_lemma =>
        subst hfin
        have HGE2 := Lib.hid hge
        have hdata : s.data = [] := by rw [hge.data]; exact List.drop_eq_nil_of_le (by rw [hge.len]; exact Nat.le_refl _)
        obtain ⟨Aw, cw, hvw⟩ := own_len hge.own
        subst hvw
        have hown := hge.own
        rw [List.take_of_length_le (by rw [hge.len]; exact Nat.le_refl _)] at hown
        have sa1 := (Byt.of_own (show wr.ownsRow x5.heap.size 5 1 (.slice Aw a cw) ys.length (ys.map (.int .u8)) by rw [hge.len]; exact hown)).str
        have sb1 := (HY.out.below hge.bel).str
        have HUNA := Lib.hid (una_any g c' A' s wr hge.buf hge.ok)
        rw [hge.una] at HUNA
        have HEND := Lib.hid (end_any g c' A' s wr hge.buf hge.ok)
        rw [hdata, hge.una, addU_addU] at HEND
        have hbd := addU_bd una a
        have hz : (a : Int) + (([] : List Int).length : Int) = (a : Int) := by simp
        rw [hz] at HEND
        have HBEL := Lib.hid hge.bel
        have hi2 : i < 4000 := by omega
        clear hge hdata hown hz z0 z1 z2
        go_wp2_with fail
        refine HUNA.out.mono ?_
        rintro e w' ⟨rfl, rfl⟩
        go_wp2_with fail
        refine HEND.out.mono ?_
        rintro e w' ⟨rfl, hg⟩
        have HB' : Hid (Below w.heap.size w w') := Lib.hid (HBEL.out.grown hg HBEL.out.size (by simp))
        clear hg
        go_wp2_with fail
        go_ret
        exact ⟨rfl, HB'.out⟩
    · have hne : ((a : Int) == (d : Int)) = false := by simp; omega
      have hi : i < 4000 := by omega
      obtain ⟨Aw, cw, hvw⟩ := own_len hge.own
      subst hvw
      obtain ⟨og, hog⟩ : ∃ og, og = gk := ⟨_, rfl⟩
      subst hog
      obtain ⟨wo, hwo⟩ : ∃ x, x = wr := ⟨_, rfl⟩
      subst hwo
      have HGR := Lib.hid hge
      have HZ := Lib.hid (And.intro z0 (And.intro z1 z2))
      have HS := Lib.hid (send_ok g c' A' s 4 wo hge.buf hge.ok (by decide))
      rw [hge.una, hge.data] at HS
      have hs4 := hge.ok.sent
      have hdl : s.data.length + a = d := by rw [hge.data, List.length_drop, hge.len]; omega
      obtain ⟨S0, hS0⟩ : ∃ S0, s.sent = S0 := ⟨_, rfl⟩
      obtain ⟨en, hen⟩ : ∃ en, sendEnd s = en := ⟨_, rfl⟩
      have hen1 : en ≤ s.data.length := by rw [← hen]; unfold sendEnd; omega
      have hen2 : (en : Int) ≤ W2 := by rw [← hen, ← hge.win]; unfold sendEnd; have := hge.ok.win0; omega
      rw [hS0, hen] at HS
      rw [hS0] at hs4
      have hpn : (pcsOf 4 S0 en).length ≤ 9 := Nat.le_trans (pcsOf_len 4 S0 en) (by omega)
      have hpin := pcsOf_in 4 en (by omega) (en - S0) S0 (Nat.le_refl _)
      have HPIN := Lib.hid hpin
      have HSS : Hid ((sendSt s).sent = max S0 en) := Lib.hid (by show max s.sent (sendEnd s) = _; rw [hS0, hen])
      have HSOK : Hid (sendSt s).Ok := Lib.hid (by
        have h := hge.ok
        have := h.sent
        exact { h with sent := by show max s.sent (sendEnd s) ≤ s.data.length; rw [hen, hS0]; omega })
      have hB5 := HGB.out.o3
      have hB6 := HGB.out.o2
      have hlbl := hge.lbl
      clear hpin hS0 hen hge z0 z1 z2
      go_wp2_with fail
      refine HS.out.mono ?_
      rintro e w1 ⟨v1, rfl, hg1, hb1, hp1⟩
      have HG1 := Lib.hid hg1
      have HB1 := Lib.hid hb1
      have HP1 := Lib.hid hp1
      obtain ⟨Ap, kp, hvp⟩ := hp1.len
      obtain ⟨N1, hN1⟩ : ∃ N1, (pcsOf 4 S0 en).length = N1 := ⟨_, rfl⟩
      rw [hN1] at hvp hpn
      have HN1 := Lib.hid hN1
      subst hvp
      have HS1 := Lib.hid hg1.size
      clear hg1 hb1 hp1 hN1 HS
      go_wp2_with fail
      by_cases hi0 : i = 0
      · as_aux_lemma =>
          obtain ⟨zz, za⟩ := HZ.out.1 hi0 (by omega)
          subst zz
          have HI0 := Lib.hid hi0
          clear hi0
          have HT := Lib.hid (tick_later g c' A' (sendSt s) 4 0 w1 HB1.out HSOK.out (by decide) (.inr (by show (0 : Int) < s.alarm; rw [za]; omega)))
          have HZA := Lib.hid za
          clear za
          refine HT.out.mono ?_
          rintro e w2 ⟨rfl, hb2⟩
          have HB2 := Lib.hid hb2
          clear hb2
          go_wp2_with fail
          obtain ⟨X, hX⟩ : ∃ X, X = w2.alloc (Obj.cells #[.int .u32 0, .slice none 0 0] 38) := ⟨_, rfl⟩
          rw [← hX]
          have hB12 : Below wo.heap.size w1 X := by rw [hX]; exact (HB2.out.mono HS1.out).alloc (Nat.le_trans HS1.out HB2.out.size) _
          have HM : Hid (Gm w x5.heap.size wo.heap.size w.heap.size g d una W2 R ys X a (.slice Aw a cw) row false (sendSt s) A' c' (pcsOf 4 S0 en) (.slice Ap N1 kp)) := Lib.hid (HGR.out.gm HGB.out HG1.out HB1.out hB12 HSOK.out rfl rfl rfl rfl rfl HGR.out.count
            (by
              have hb : Below w1.heap.size w1 X := by rw [hX]; exact HB2.out.alloc HB2.out.size _
              exact HP1.out.kept (row := none) (grown_below hb) (by simp))
            (fun p hp => by have := HPIN.out p hp; rw [HSS.out]; omega) (by rw [HN1.out]; omega) (fun h => by cases h))
          have hal2 : (sendSt s).alarm ≤ 0 + 102400 := by show s.alarm ≤ _; rw [HZA.out]; omega
          obtain ⟨s2, hs2'⟩ : ∃ s2, sendSt s = s2 := ⟨_, rfl⟩
          obtain ⟨ps, hps⟩ : ∃ ps, pcsOf 4 S0 en = ps := ⟨_, rfl⟩
          obtain ⟨Al, hAl⟩ : ∃ Al, Al = Ap := ⟨_, rfl⟩
          subst hAl
          obtain ⟨kl, hkl⟩ : ∃ kl, kl = kp := ⟨_, rfl⟩
          subst hkl
          rw [hs2', hps] at HM
          rw [hs2'] at hal2
          have HN := HN1
          rw [hps] at HN
          have HA2 : Hid (s2.alarm ≤ 0 + 102400) := Lib.hid hal2
          have hsb := HM.out.ok.sent
          have hph0 : (d - a) * 10 + 9 ≤ 609 := HZ.out.2.1 HI0.out
          have hi00 : i ≤ 0 := by have := HI0.out; omega
          clear hX hB12 hs2' hps hal2 hne hdl hs4 hen1 hen2
          as_aux_lemma =>
            go_loopg [96, 9, 10] N1 (fun gj v96 v9 v10 wx => GeIn X x5.heap.size a (a + s2.sent) N1 k row false ys (.slice Aw a cw) gj v96 v9 v10 wx)
            case atStart => exact ⟨0, a, k, rfl, rfl, by omega, by omega, by omega, Nat.le_refl _, by omega, HM.out.own, World.grownBy.refl _ _, .inl rfl, fun h => by cases h⟩
            case round =>
              obtain ⟨j, q, kk, rfl, rfl, j0, j1, kb, q0, q1, hown, hgr, hat, hlast⟩ := hrel
              obtain ⟨Av, cv, hvv⟩ := own_len hown
              subst hvv
              obtain ⟨p1, p2, p3, p4, p5⟩ := HM.out.at_ HGB.out hgr
              have HBW := Lib.hid p1
              have HPW := Lib.hid p2
              have HBE := Lib.hid p5
              have HOWN := Lib.hid hown
              have HGRW := Lib.hid hgr
              have HAT := Lib.hid hat
              have hqd : q ≤ d := by have := HM.out.data; have h1 := congrArg List.length this; rw [List.length_drop, HYL.out] at h1; have := HM.out.le; omega
              have d60 := hdm.2
              by_cases hj : j < N1
              · as_aux_lemma =>
                  obtain ⟨⟨F, T⟩, hp⟩ : ∃ p, ps[j]? = some p := ⟨ps[j]'(by have := HN.out; omega), List.getElem?_eq_getElem _⟩
                  have hin := HM.out.pin _ (List.mem_of_getElem? hp)
                  have hin1 : F < T := hin.1
                  have hin2 : T ≤ s2.sent := hin.2
                  have hF0 : false = true → N1 ≤ j + 1 → F = 0 := by
                    intro hb hl
                    obtain ⟨qs, to', e⟩ := HM.out.last hb
                    have hlen := HN.out
                    rw [e, List.length_append] at hlen
                    simp at hlen
                    rw [e, List.getElem?_append_right (by omega), show j - qs.length = 0 from by omega] at hp
                    simp at hp
                    exact hp.1.symm
                  obtain ⟨ga, Aa, ka, hga, ga0, ga1, y0, y1, y2⟩ := p2.at hp
                  subst hga
                  obtain ⟨L, hL⟩ : ∃ L, T - F = L := ⟨_, rfl⟩
                  obtain ⟨pf, hpf⟩ : ∃ pf, a + F = pf := ⟨_, rfl⟩
                  have hpi : (a : Int) + (F : Int) = (pf : Int) := by omega
                  have hL1 : 1 ≤ L := by omega
                  have hsd : s2.data.length + a = d := by rw [HM.out.data, List.length_drop, HYL.out]; have := HM.out.le; omega
                  have hpl : pf + L ≤ a + s2.sent := by omega
                  have hpd : pf + L ≤ d := by omega
                  simp only [hL, Nat.mul_comm 2 j, addU_addU, hpi] at y0 y1 y2
                  have hxs : seg (ys.drop a) F T = (ys.drop pf).take L := seg_drop2 ys a F T pf L (by omega) (by omega) (by omega)
                  rw [hxs] at y2
                  have hxl : ((ys.drop pf).take L).length = L := by rw [List.length_take, List.length_drop, HYL.out]; omega
                  have HBYp : Hid (Byt wr (.slice Aa L ka) ((ys.drop pf).take L)) := Lib.hid (Byt.of_own (by rw [hxl]; exact y2))
                  have HXL := Lib.hid hxl
                  have HLOw := Lib.hid (HLO.out.below HBE.out)
                  have HLAST := Lib.hid hF0
                  have hpfa : a ≤ pf := by omega
                  have hFa : F = 0 → pf = a := by omega
                  have HFA := Lib.hid hFa
                  clear hp hin hin1 hin2 hL hpf hpi hxs hxl y2 hF0 hFa p1 p2 p5 hown hgr hat hlast hsd
                  go_upto_region 23 with (fail)
                  obtain ⟨Y, hY⟩ : ∃ Y, Y = wr.alloc (Obj.cells #[.int .u32 (addU una pf), .slice Aa L ka] 38) := ⟨_, rfl⟩
                  obtain ⟨bt, hbt⟩ : ∃ bt, wr.heap.size = bt := ⟨_, rfl⟩
                  rw [← hY, hbt]
                  have hYB : Below wr.heap.size wr Y := by rw [hY]; exact (Below.refl _ _).alloc (Nat.le_refl _) _
                  have hYH : Y.heap[bt]? = some (.cells #[.int .u32 (addU una pf), .slice Aa L ka] 38 (0, 0)) := by rw [hY, ← hbt]; exact heap_alloc_new wr _
                  have T0 : Y.cell? ⟨bt, 0, none⟩ = some (.int .u32 (addU una pf)) := cell_of hYH 0
                  have T1 : Y.cell? ⟨bt, 1, none⟩ = some (.slice Aa L ka) := cell_of hYH 1
                  have CY : Y.cell? ⟨w.heap.size, 0, none⟩ = some (.int .u32 una) := (hYB.cell (World.block_lt_of_cell? wr _ p3)).trans p3
                  have HYB2 := Lib.hid hYB
                  have HLOY := Lib.hid (HLOw.out.below hYB)
                  have hYsz : Y.heap.size = bt + 1 := by rw [hY, ← hbt]; simp
                  clear hY hYB hYH hbt
                  go_cut [20] (fun v20 wx => ∃ G : Bool, v20 = .bool G ∧ (G = true → row < 8) ∧ Y = wx)
                  case first =>
                    by_cases hk : kk < ln
                    · obtain ⟨b, o, v, hla, hbl, hcell⟩ := HLOY.out kk hk
                      subst hla
                      have t1 : decide (kk < ln) = true := decide_eq_true hk
                      cases v with
                      | false =>
                        go_wp2_with fail
                        go_meet
                        case rel => exact ⟨false, rfl, (fun h => by cases h), rfl⟩
                      | true =>
                        by_cases h8 : row < 8
                        · have t2 : decide (row < 8) = true := decide_eq_true h8
                          have t3 : decide ((row : Int) < 8) = true := decide_eq_true (by omega)
                          go_wp2_with fail
                          go_meet
                          case rel => exact ⟨true, rfl, fun _ => h8, rfl⟩
                        · have t2 : decide (row < 8) = false := decide_eq_false h8
                          have t3 : decide ((row : Int) < 8) = false := decide_eq_false (by omega)
                          go_wp2_with fail
                          go_meet
                          case rel => exact ⟨false, rfl, (fun h => by cases h), rfl⟩
                    · have t1 : decide (kk < ln) = false := decide_eq_false hk
                      go_wp2_with fail
                      go_meet
                      case rel => exact ⟨false, rfl, (fun h => by cases h), rfl⟩
                  case rest =>
                    obtain ⟨G, hv20, hG, hYw⟩ := hcut
                    subst hYw
                    subst hv20
                    cases G with
                    | true =>
                      have h8 := hG rfl
                      clear hG
                      go_wp2_with fail
                      go_roundg (gk - 1)
                      case measure => omega
                      case rel => exact ⟨j + 1, q, kk + 1, by simp, by simp, by omega, by omega, by omega, q0, q1, kept_row HOWN.out (row := none) (grown_below HYB2.out) (by simp), grown_trans HGRW.out (grown_below HYB2.out), HAT.out, fun _ h => by omega⟩
                    | false =>
                      clear hG
                      as_aux_lemma =>
                        have HCUT := Lib.hid (fun z => cut_n (addU una pf) (addU una q) 1048576 Aa ka ((ys.drop pf).take L) L (Y.drewN z) HXL.out ((HBYp.out.below HYB2.out).below (below_drewN (Below.refl _ _) z)) (addU_bd _ _).1 (addU_bd _ _).2 (addU_bd _ _).1 (addU_bd _ _).2 (by decide) (by decide))
                        rw [gets_cut una ((ys.drop pf).take L) pf q L HXL.out (by omega) (by omega) (by omega)] at HCUT
                        go_wp2_with fail
                        refine wp_region_mid 9 _ (by kernel_rfl) (by kernel_rfl) rfl ?_
                        simp only [List.take_succ_cons, List.take_zero, List.drop_succ_cons, List.drop_zero]
                        repeat (go_big_quiet_step ((go_at_call 16; exact add_q _ _ _ _)))
                        refine wpQuiet_nil ?_
                        rintro _ ⟨nq, rfl⟩
                        go_wp2_with fail
                        refine (HCUT.out nq).mono ?_
                        rintro e w5 ⟨v5, rfl, ho5, hb5⟩
                        have hb5 : Below Y.heap.size Y w5 := (below_drewN (Below.refl _ _) nq).trans hb5
                        obtain ⟨Ac, kc, hvc⟩ := own_len ho5
                        obtain ⟨cs, hcs⟩ : ∃ cs, (if q < pf + L then ((ys.drop pf).take L).drop (q - pf) else []) = cs := ⟨_, rfl⟩
                        rw [hcs] at ho5 hvc
                        obtain ⟨l, hl⟩ : ∃ l, cs.length = l := ⟨_, rfl⟩
                        rw [hl] at ho5 hvc
                        subst hvc
                        have HCS := Lib.hid hcs
                        have hcl : l = if q < pf + L then L - (q - pf) else 0 := by
                          rw [← hl, ← hcs]
                          split
                          · rw [List.length_drop, HXL.out]
                          · rfl
                        have T0 := (hb5.cell (p := ⟨bt, 0, none⟩) (by show bt < _; omega)).trans T0
                        have T1 := (hb5.cell (p := ⟨bt, 1, none⟩) (by show bt < _; omega)).trans T1
                        have CY := (hb5.cell (World.block_lt_of_cell? Y _ CY)).trans CY
                        have HO5 : Hid (Byt w5 (.slice Ac l kc) cs) := Lib.hid (Byt.of_own (by rw [hl]; exact ho5))
                        have HB5 := Lib.hid (HYB2.out.trans (hb5.mono HYB2.out.size))
                        have HLL := Lib.hid hl
                        have HCL := Lib.hid hcl
                        clear hcs hl ho5 hb5 HCUT hcl
                        go_wp2_with fail
                        repeat (go_big_quiet_step (fail))
                        refine wpQuiet_nil ?_
                        rintro w6 ⟨nq2, hw6⟩
                        have T0 : w6.cell? ⟨bt, 0, none⟩ = some (.int .u32 (addU una pf)) := by rw [hw6]; exact T0
                        have CY : w6.cell? ⟨w.heap.size, 0, none⟩ = some (.int .u32 una) := by rw [hw6]; exact CY
                        have HB6 : Hid (Below wr.heap.size wr w6) := Lib.hid (by rw [hw6]; exact below_drewN HB5.out nq2)
                        have HO6 : Hid (Byt w6 (.slice Ac l kc) cs) := Lib.hid (by rw [hw6]; exact HO5.out.below (below_drewN (Below.refl _ _) nq2))
                        clear hw6
                        go_wp2_with fail
                        by_cases h1 : q < pf + L
                        · have hcl := HCL.out
                          rw [if_pos h1] at hcl
                          have t1 : decide (0 < l) = true := decide_eq_true (by omega)
                          have t2 : decide ((0 : Int) < (l : Int)) = true := decide_eq_true (by omega)
                          by_cases h2 : q < pf
                          · have HLS : Hid (lessB (addU una q) (addU una pf) = true) := Lib.hid (by rw [gets_less una q pf (by omega) (by omega)]; exact decide_eq_true h2)
                            clear hcl
                            go_quiet ((first | (go_at_call 16; exact add_q _ _ _ _) | (go_at_call 26; exact less_q _ _ _ _ HLS.out)))
                            go_wp2_with fail
                            go_roundg (gk - 1)
                            case measure => omega
                            case rel => exact ⟨j + 1, q, kk + 1, by simp, by simp, by omega, by omega, by omega, q0, q1, kept_row HOWN.out (row := none) (grown_below (below_drewN HB6.out _)) (by simp), grown_trans HGRW.out (grown_below (below_drewN HB6.out _)), HAT.out, fun hb _ hn => by have := HFA.out (HLAST.out (by first | exact hb | trivial) hn); omega⟩
                          · have HLS : Hid (lessB (addU una q) (addU una pf) = false) := Lib.hid (by rw [gets_less una q pf (by omega) (by omega)]; exact decide_eq_false h2)
                            have hql : q + l = pf + L := by omega
                            have hmore : ys.take q ++ cs = ys.take (pf + L) := by rw [← HCS.out, if_pos h1]; exact gets_more ys pf 0 L q (pf + L) (by omega) h1 (by omega) (by rw [HYL.out]; omega)
                            have HMO := Lib.hid hmore
                            clear hcl hmore
                            go_quiet ((first | (go_at_call 16; exact add_q _ _ _ _) | (go_at_call 26; exact less_q _ _ _ _ HLS.out)))
                            have hbs : x5.heap.size ≤ w6.heap.size := by have h1 := HM.out.lbl; have h2 := HM.out.lb; have h3 := HGRW.out.size; have h4 := HB6.out.size; omega
                            obtain ⟨v3, w3, hr, ho3, hg3, hat3⟩ := run_append_bytF (w := w6.drewN nq) x5.heap.size (.slice Av q cv) q _ (kept_row HOWN.out (row := none) (grown_below (below_drewN HB6.out _)) (by simp)) Ac l kc cs HLL.out (HO6.out.below (below_drewN (Below.refl _ _) _)) (by omega) hbs
                            rw [← List.map_append, HMO.out, hql] at ho3
                            obtain ⟨A3, k3, hv3⟩ := own_len ho3
                            subst hv3
                            have HR := Lib.hid hr
                            have HO3 := Lib.hid ho3
                            have HG3 : Hid (X.grownBy w3 (Value.slice Aw a cw).ownBlock) := Lib.hid (grown_new (grown_trans HGRW.out (grown_below (below_drewN HB6.out _))) hg3 HAT.out)
                            have HAT3 : Hid ((Value.slice A3 (pf + L) k3).ownBlock = (Value.slice Aw a cw).ownBlock ∨ ∀ b, (Value.slice A3 (pf + L) k3).ownBlock = some b → X.heap.size ≤ b) := Lib.hid (by
                              rcases hat3 with e | e
                              · rw [e]; exact HAT.out
                              · right
                                intro b hb
                                rw [e] at hb
                                cases hb
                                have h3 := HGRW.out.size
                                have h4 := HB6.out.size
                                show X.heap.size ≤ w6.heap.size
                                omega)
                            clear hr ho3 hg3 hat3 hbs hql
                            go_wp2_with (at_builtin; refine Lib.wpList_append_run _ rfl _ _ 34 34 rfl _ _ rfl rfl _ _ (by exact HR.out) ?_)
                            go_roundg (gk - 1)
                            case measure => omega
                            case rel => exact ⟨j + 1, pf + L, kk + 1, by simp, by simp, by omega, by omega, by omega, by omega, hpl, HO3.out, HG3.out, HAT3.out, fun _ _ _ => by omega⟩
                        · have hcl := HCL.out
                          rw [if_neg h1] at hcl
                          have t1 : decide (0 < l) = false := decide_eq_false (by omega)
                          have t2 : decide ((0 : Int) < (l : Int)) = false := decide_eq_false (by omega)
                          clear hcl
                          go_quiet (fail)
                          go_wp2_with fail
                          go_roundg (gk - 1)
                          case measure => omega
                          case rel => exact ⟨j + 1, q, kk + 1, by simp, by simp, by omega, by omega, by omega, q0, q1, kept_row HOWN.out (row := none) (grown_below (below_drewN HB6.out _)) (by simp), grown_trans HGRW.out (grown_below (below_drewN HB6.out _)), HAT.out, fun hb _ hn => by have := HFA.out (HLAST.out (by first | exact hb | trivial) hn); omega⟩
              · as_aux_lemma =>
                  have hjn : j = N1 := by omega
                  have hkq : q - a ≤ s2.sent := by omega
                  have hack : ahd s2.una (addU una q) = (q - a : Nat) := by rw [HM.out.una, gets_ahead una a q (by omega) (by omega)]; omega
                  have HACK := Lib.hid (fun z => acked_posF g c' A' s2 (q - a) (addU una q) W2 0 (wr.drewN z) (HBW.out.drewN z) HM.out.ok hkq hack (by omega) (by omega) (addU_bd una q).1 (addU_bd una q).2 (by omega) (by omega))
                  obtain ⟨kx, hkx⟩ : ∃ kx, q - a = kx := ⟨_, rfl⟩
                  have hkx1 : a + kx ≤ q := by omega
                  have hkx2 : q ≤ a + kx := by omega
                  have hla := hlast
                  have hrow8 : True := trivial
                  have HKX := Lib.hid hkx
                  obtain ⟨s6, hs6⟩ : ∃ s6, ackSt s2 (q - a) (addU una q) W2 0 = s6 := ⟨_, rfl⟩
                  have h61 : a < q → s6.alarm = 0 + R := by intro h; rw [← hs6]; unfold ackSt; rw [if_neg (by omega)]; show 0 + s2.rto = _; rw [HM.out.rto]
                  have h62 : ¬ a < q → s6.alarm = s2.alarm := by intro h; rw [← hs6]; unfold ackSt; rw [if_pos (by omega)]
                  have hal6 : s6.alarm ≤ 0 + 102400 := by
                    by_cases h : a < q
                    · rw [h61 h]; omega
                    · rw [h62 h]; exact HA2.out
                  have HS6 := Lib.hid hs6
                  have HA6 := Lib.hid hal6
                  rw [hs6, hkx] at HACK
                  have e0 := p3
                  have e1 := p4
                  have hN20 : j ≤ 19 := by have := HM.out.pn; have := HN.out; omega
                  clear hack hkx hs6 h61 h62 hal6 hla hlast p1 p2 p3 p4 p5 hown hgr hat hjn
                  go_wp2_with fail
                  refine wp_region_mid 9 _ (by kernel_rfl) (by kernel_rfl) rfl ?_
                  simp only [List.take_succ_cons, List.take_zero, List.drop_succ_cons, List.drop_zero]
                  repeat (go_big_quiet_step ((go_at_call 16; exact add_q _ _ _ _)))
                  refine wpQuiet_nil ?_
                  rintro _ ⟨nq, rfl⟩
                  go_wp2_with fail
                  refine (HACK.out nq).mono ?_
                  rintro e w5 ⟨rfl, hg5, A6, c6, hb6, hA6⟩
                  have HGE5 := Lib.hid (fun row' hrow => HM.out.acked (row' := row') HGB.out HGRW.out HAT.out HOWN.out q0 q1 (grown_trans (grown_drewN (World.grownBy.refl _ _)) hg5) (by rw [HS6.out]; exact hb6) hA6 (by omega) (by omega) (by omega) (by omega) hrow)
                  rw [HS6.out] at HGE5
                  clear hg5 hb6 hA6 HACK
                  go_wp2_with fail
                  repeat (go_big_quiet_step (fail))
                  refine wpQuiet_nil ?_
                  rintro _ ⟨nq2, rfl⟩
                  by_cases ha : a < q
                  · have t1 : decide (0 < kx) = true := decide_eq_true (by omega)
                    have t2 : decide ((0 : Int) < (kx : Int)) = true := decide_eq_true (by omega)
                    have HGE6 := Lib.hid ((HGE5.out 0 (by rw [if_pos ha])).move (below_drewN (Below.refl _ _) nq2))
                    obtain ⟨rw', hrw⟩ : ∃ r : Nat, r = 0 := ⟨_, rfl⟩
                    have hrw1 : rw' ≤ 8 ∧ (d - q) * 10 + (9 - rw') + (i + 1) ≤ 610 := by omega
                    rw [← hrw] at HGE6
                    have HRW : Hid ((rw' : Int) = 0) := Lib.hid (by rw [hrw] <;> rfl)
                    clear hrw
                    as_aux_lemma =>
                      have hd6 : s6.data.length + q = d := by rw [HGE6.out.data, List.length_drop, HYL.out]; omega
                      by_cases hqd : q < d
                      · have HAL6 := Lib.hid (alarm_some g c6 A6 s6 (w5.drewN nq2) HGE6.out.buf HGE6.out.ok (by omega))
                        obtain ⟨al, hal⟩ : ∃ al, s6.alarm = al := ⟨_, rfl⟩
                        have hal0 := HGE6.out.ok.alarm0
                        have hal1 := HA6.out
                        rw [hal] at HAL6 hal0 hal1
                        obtain ⟨now3, hn3⟩ : ∃ now3, (if 1 < al then al else 1) = now3 := ⟨_, rfl⟩
                        have hn4 : al ≤ now3 ∧ 0 ≤ now3 ∧ now3 ≤ 0 + 102401 := by rw [← hn3]; split <;> omega
                        have HAL := Lib.hid hal
                        clear hal hd6
                        go_wp2_with fail
                        refine HAL6.out.mono ?_
                        rintro e w' ⟨rfl, rfl⟩
                        go_wp2_with fail
                        go_roundg (og - 1)
                        case measure => omega
                        case rel => exact ⟨i + 1, q, rw', kk, now3, s6, A6, c6, by simp, rfl, by rw [HRW.out], rfl, by omega, by omega, by omega, hrw1.1, hn4.2.1, by omega, hrw1.2, fun h => by omega, fun h => by omega, fun _ _ => by rw [HAL.out]; exact hn4.1, HGE6.out⟩
                      · have HAL6 := Lib.hid (alarm_none g c6 A6 s6 (w5.drewN nq2) HGE6.out.buf HGE6.out.ok (by omega))
                        clear hd6
                        go_wp2_with fail
                        refine HAL6.out.mono ?_
                        rintro e w' ⟨rfl, rfl⟩
                        go_wp2_with fail
                        go_roundg (og - 1)
                        case measure => omega
                        case rel => exact ⟨i + 1, q, rw', kk, 0, s6, A6, c6, by simp, rfl, by rw [HRW.out], rfl, by omega, by omega, by omega, hrw1.1, by omega, by omega, hrw1.2, fun h => by omega, fun h => by omega, fun _ h => by omega, HGE6.out⟩
                  · have t1 : decide (0 < kx) = false := decide_eq_false (by omega)
                    have t2 : decide ((0 : Int) < (kx : Int)) = false := decide_eq_false (by omega)
                    have HGE6 := Lib.hid ((HGE5.out (row) (by rw [if_neg ha] <;> rfl)).move (below_drewN (Below.refl _ _) nq2))
                    obtain ⟨rw', hrw⟩ : ∃ r : Nat, r = row := ⟨_, rfl⟩
                    have hrw1 : rw' ≤ 8 ∧ (d - q) * 10 + (9 - rw') + (i + 1) ≤ 610 := by omega
                    rw [← hrw] at HGE6
                    have HRW : Hid ((rw' : Int) = (row : Int)) := Lib.hid (by rw [hrw] <;> rfl)
                    clear hrw
                    as_aux_lemma =>
                      have hd6 : s6.data.length + q = d := by rw [HGE6.out.data, List.length_drop, HYL.out]; omega
                      by_cases hqd : q < d
                      · have HAL6 := Lib.hid (alarm_some g c6 A6 s6 (w5.drewN nq2) HGE6.out.buf HGE6.out.ok (by omega))
                        obtain ⟨al, hal⟩ : ∃ al, s6.alarm = al := ⟨_, rfl⟩
                        have hal0 := HGE6.out.ok.alarm0
                        have hal1 := HA6.out
                        rw [hal] at HAL6 hal0 hal1
                        obtain ⟨now3, hn3⟩ : ∃ now3, (if 1 < al then al else 1) = now3 := ⟨_, rfl⟩
                        have hn4 : al ≤ now3 ∧ 0 ≤ now3 ∧ now3 ≤ 0 + 102401 := by rw [← hn3]; split <;> omega
                        have HAL := Lib.hid hal
                        clear hal hd6
                        go_wp2_with fail
                        refine HAL6.out.mono ?_
                        rintro e w' ⟨rfl, rfl⟩
                        go_wp2_with fail
                        go_roundg (og - 1)
                        case measure => omega
                        case rel => exact ⟨i + 1, q, rw', kk, now3, s6, A6, c6, by simp, rfl, by rw [HRW.out], rfl, by omega, by omega, by omega, hrw1.1, hn4.2.1, by omega, hrw1.2, fun h => by omega, fun h => by omega, fun _ _ => by rw [HAL.out]; exact hn4.1, HGE6.out⟩
                      · have HAL6 := Lib.hid (alarm_none g c6 A6 s6 (w5.drewN nq2) HGE6.out.buf HGE6.out.ok (by omega))
                        clear hd6
                        go_wp2_with fail
                        refine HAL6.out.mono ?_
                        rintro e w' ⟨rfl, rfl⟩
                        go_wp2_with fail
                        go_roundg (og - 1)
                        case measure => omega
                        case rel => exact ⟨i + 1, q, rw', kk, 0, s6, A6, c6, by simp, rfl, by rw [HRW.out], rfl, by omega, by omega, by omega, hrw1.1, by omega, by omega, hrw1.2, fun h => by omega, fun h => by omega, fun _ h => by omega, HGE6.out⟩
      · as_aux_lemma =>
          have hal := HZ.out.2.2 (by omega) (by omega)
          have hcnt := HGR.out.count
          have htr := HGR.out.tries
          have HT := Lib.hid (tick_some g c' A' (sendSt s) 4 now w1 HB1.out HSOK.out (by decide) (by show 0 < s.data.length; omega) hal (by show s.count < s.tries; omega) n0 (by omega))
          obtain ⟨tt, htt⟩ : ∃ tt, tickTo (sendSt s) 4 = tt := ⟨_, rfl⟩
          have htt1 : 1 ≤ tt := by rw [← htt]; unfold tickTo; omega
          have htt2 : tt ≤ s.data.length := by rw [← htt]; exact tickTo_le (sendSt s) 4 (by omega) (by show 0 < s.data.length; omega)
          have HTT := Lib.hid htt
          have HTOK := Lib.hid (tickSt_ok (sendSt s) 4 now HSOK.out (by omega) (by show 0 < s.data.length; omega) (by show s.count < s.tries; omega) n0 (by omega))
          rw [htt, show (sendSt s).una = addU una a from HGR.out.una] at HT
          have HCN := Lib.hid (And.intro hcnt htr)
          clear htt hal hcnt htr
          refine HT.out.mono ?_
          rintro e w2 ⟨v2, rfl, ho2, hg2, hb2⟩
          obtain ⟨At, kt, hvt⟩ := own_len ho2
          subst hvt
          have HO2 := Lib.hid ho2
          have HG2 := Lib.hid hg2
          have HB2 := Lib.hid hb2
          clear ho2 hg2 hb2
          go_upto_if 89 with (fail)
          obtain ⟨bt, hbt⟩ : ∃ bt, w2.heap.size = bt := ⟨_, rfl⟩
          obtain ⟨X1, hX1⟩ : ∃ X1, X1 = w2.alloc (Obj.cells #[.int .u32 (addU una a), .slice At tt kt] 38) := ⟨_, rfl⟩
          rw [← hX1, hbt]
          have hXH : X1.heap[bt]? = some (.cells #[.int .u32 (addU una a), .slice At tt kt] 38 (0, 0)) := by rw [hX1, ← hbt]; exact heap_alloc_new w2 _
          have T0 : X1.cell? ⟨bt, 0, none⟩ = some (.int .u32 (addU una a)) := cell_of hXH 0
          have T1 : X1.cell? ⟨bt, 1, none⟩ = some (.slice At tt kt) := cell_of hXH 1
          have hB2X : Below w2.heap.size w2 X1 := by rw [hX1]; exact (Below.refl _ _).alloc (Nat.le_refl _) _
          have hsz2 : w1.heap.size ≤ w2.heap.size := HG2.out.size
          have hu0 : addU (addU una a) ((0 : Nat) : Int) = addU una a := by rw [addU_addU]; simp
          have hseg : seg (ys.drop a) 0 tt = (ys.drop a).take tt := rfl
          have hown2 := HO2.out
          have hda : (sendSt s).data = ys.drop a := HGR.out.data
          rw [hda] at hown2
          have hpcX : Pcs X1 wo.heap.size (addU una a) (ys.drop a) (.slice Ap N1 kp) (pcsOf 4 S0 en) := (HP1.out.kept HG2.out (by intro k hk; cases hk; omega)).kept (row := none) (grown_below hB2X) (by simp)
          obtain ⟨v3, X, hr, hpX, hbX⟩ := pcs_append (w := X1) (B := wo.heap.size) (F := 0) (T := tt) (L := tt) (A := At) (k := kt) (u := addU una a) (by have := HS1.out; have := hB2X.size; omega) hpcX (by rw [HN1.out]; omega) hu0 rfl
            (by rw [hseg]; exact (kept_row hown2 (row := none) (grown_below hB2X) (by simp)).lower HS1.out)
          have HR := Lib.hid hr
          obtain ⟨Al, kl, hvl⟩ := hpX.len
          have hNl : (pcsOf 4 S0 en ++ [(0, tt)]).length = N1 + 1 := by rw [List.length_append, HN1.out]; rfl
          obtain ⟨N, hNN⟩ : ∃ N, N1 + 1 = N := ⟨_, rfl⟩
          rw [hNN] at hNl
          have hN9 : N ≤ 10 := by omega
          have hN8 : 1 ≤ N := by omega
          clear hNN
          rw [hNl] at hvl
          subst hvl
          have HM : Hid (Gm w x5.heap.size wo.heap.size w.heap.size g d una W2 R ys X a (.slice Aw a cw) row true (tickSt (sendSt s) 4 now) A' c' (pcsOf 4 S0 en ++ [(0, tt)]) (.slice Al N kl)) := Lib.hid (HGR.out.gm HGB.out (grown_trans HG1.out HG2.out) HB2.out ((hB2X.mono (Nat.le_trans HS1.out hsz2)).trans hbX) HTOK.out rfl rfl rfl rfl rfl (by show s.count + 1 = row + 1; rw [HCN.out.1]) hpX
            (fun p hp => by
              have e : (tickSt (sendSt s) 4 now).sent = max (max S0 en) tt := by show max (sendSt s).sent (tickTo (sendSt s) 4) = _; rw [HSS.out, HTT.out]
              rw [e]
              rcases List.mem_append.1 hp with h | h
              · have := HPIN.out p h; omega
              · simp at h; subst h; exact ⟨by show 0 < tt; omega, by show tt ≤ _; omega⟩) (by rw [hNl]; omega) (fun _ => ⟨_, tt, rfl⟩))
          have hal2 : (tickSt (sendSt s) 4 now).alarm ≤ now + 102400 := by
            have := wait_le2 HGR.out.ok HGR.out.rto (by omega)
            show now + s.wait * 2 ≤ _
            omega
          obtain ⟨s2, hs2'⟩ : ∃ s2, tickSt (sendSt s) 4 now = s2 := ⟨_, rfl⟩
          obtain ⟨ps, hps⟩ : ∃ ps, pcsOf 4 S0 en ++ [(0, tt)] = ps := ⟨_, rfl⟩
          rw [hs2', hps] at HM
          rw [hs2'] at hal2
          rw [hps] at hNl
          have HA2 : Hid (s2.alarm ≤ now + 102400) := Lib.hid hal2
          have hsb := HM.out.ok.sent
          clear hX1 hXH hB2X hu0 hseg hown2 hda hpcX hr hpX hbX hs2' hps hal2 hne hdl hs4 hen1 hen2 hbt hsz2 htt2
          go_wp2_with (at_builtin; refine Lib.wpList_append_run _ rfl _ _ 48 48 rfl _ _ rfl rfl _ _ (by exact HR.out) ?_)
          have HN := Lib.hid hNl
          clear hNl
          as_aux_lemma =>
            go_loopg [96, 9, 10] N (fun gj v96 v9 v10 wx => GeIn X x5.heap.size a (a + s2.sent) N k row true ys (.slice Aw a cw) gj v96 v9 v10 wx)
            case atStart => exact ⟨0, a, k, rfl, rfl, by omega, by omega, by omega, Nat.le_refl _, by omega, HM.out.own, World.grownBy.refl _ _, .inl rfl, fun _ _ h => by omega⟩
            case round =>
              obtain ⟨j, q, kk, rfl, rfl, j0, j1, kb, q0, q1, hown, hgr, hat, hlast⟩ := hrel
              obtain ⟨Av, cv, hvv⟩ := own_len hown
              subst hvv
              obtain ⟨p1, p2, p3, p4, p5⟩ := HM.out.at_ HGB.out hgr
              have HBW := Lib.hid p1
              have HPW := Lib.hid p2
              have HBE := Lib.hid p5
              have HOWN := Lib.hid hown
              have HGRW := Lib.hid hgr
              have HAT := Lib.hid hat
              have hqd : q ≤ d := by have := HM.out.data; have h1 := congrArg List.length this; rw [List.length_drop, HYL.out] at h1; have := HM.out.le; omega
              have d60 := hdm.2
              by_cases hj : j < N
              · as_aux_lemma =>
                  obtain ⟨⟨F, T⟩, hp⟩ : ∃ p, ps[j]? = some p := ⟨ps[j]'(by have := HN.out; omega), List.getElem?_eq_getElem _⟩
                  have hin := HM.out.pin _ (List.mem_of_getElem? hp)
                  have hin1 : F < T := hin.1
                  have hin2 : T ≤ s2.sent := hin.2
                  have hF0 : true = true → N ≤ j + 1 → F = 0 := by
                    intro hb hl
                    obtain ⟨qs, to', e⟩ := HM.out.last hb
                    have hlen := HN.out
                    rw [e, List.length_append] at hlen
                    simp at hlen
                    rw [e, List.getElem?_append_right (by omega), show j - qs.length = 0 from by omega] at hp
                    simp at hp
                    exact hp.1.symm
                  obtain ⟨ga, Aa, ka, hga, ga0, ga1, y0, y1, y2⟩ := p2.at hp
                  subst hga
                  obtain ⟨L, hL⟩ : ∃ L, T - F = L := ⟨_, rfl⟩
                  obtain ⟨pf, hpf⟩ : ∃ pf, a + F = pf := ⟨_, rfl⟩
                  have hpi : (a : Int) + (F : Int) = (pf : Int) := by omega
                  have hL1 : 1 ≤ L := by omega
                  have hsd : s2.data.length + a = d := by rw [HM.out.data, List.length_drop, HYL.out]; have := HM.out.le; omega
                  have hpl : pf + L ≤ a + s2.sent := by omega
                  have hpd : pf + L ≤ d := by omega
                  simp only [hL, Nat.mul_comm 2 j, addU_addU, hpi] at y0 y1 y2
                  have hxs : seg (ys.drop a) F T = (ys.drop pf).take L := seg_drop2 ys a F T pf L (by omega) (by omega) (by omega)
                  rw [hxs] at y2
                  have hxl : ((ys.drop pf).take L).length = L := by rw [List.length_take, List.length_drop, HYL.out]; omega
                  have HBYp : Hid (Byt wr (.slice Aa L ka) ((ys.drop pf).take L)) := Lib.hid (Byt.of_own (by rw [hxl]; exact y2))
                  have HXL := Lib.hid hxl
                  have HLOw := Lib.hid (HLO.out.below HBE.out)
                  have HLAST := Lib.hid hF0
                  have hpfa : a ≤ pf := by omega
                  have hFa : F = 0 → pf = a := by omega
                  have HFA := Lib.hid hFa
                  clear hp hin hin1 hin2 hL hpf hpi hxs hxl y2 hF0 hFa p1 p2 p5 hown hgr hat hlast hsd
                  go_upto_region 23 with (fail)
                  obtain ⟨Y, hY⟩ : ∃ Y, Y = wr.alloc (Obj.cells #[.int .u32 (addU una pf), .slice Aa L ka] 38) := ⟨_, rfl⟩
                  obtain ⟨bt, hbt⟩ : ∃ bt, wr.heap.size = bt := ⟨_, rfl⟩
                  rw [← hY, hbt]
                  have hYB : Below wr.heap.size wr Y := by rw [hY]; exact (Below.refl _ _).alloc (Nat.le_refl _) _
                  have hYH : Y.heap[bt]? = some (.cells #[.int .u32 (addU una pf), .slice Aa L ka] 38 (0, 0)) := by rw [hY, ← hbt]; exact heap_alloc_new wr _
                  have T0 : Y.cell? ⟨bt, 0, none⟩ = some (.int .u32 (addU una pf)) := cell_of hYH 0
                  have T1 : Y.cell? ⟨bt, 1, none⟩ = some (.slice Aa L ka) := cell_of hYH 1
                  have CY : Y.cell? ⟨w.heap.size, 0, none⟩ = some (.int .u32 una) := (hYB.cell (World.block_lt_of_cell? wr _ p3)).trans p3
                  have HYB2 := Lib.hid hYB
                  have HLOY := Lib.hid (HLOw.out.below hYB)
                  have hYsz : Y.heap.size = bt + 1 := by rw [hY, ← hbt]; simp
                  clear hY hYB hYH hbt
                  go_cut [20] (fun v20 wx => ∃ G : Bool, v20 = .bool G ∧ (G = true → row < 8) ∧ Y = wx)
                  case first =>
                    by_cases hk : kk < ln
                    · obtain ⟨b, o, v, hla, hbl, hcell⟩ := HLOY.out kk hk
                      subst hla
                      have t1 : decide (kk < ln) = true := decide_eq_true hk
                      cases v with
                      | false =>
                        go_wp2_with fail
                        go_meet
                        case rel => exact ⟨false, rfl, (fun h => by cases h), rfl⟩
                      | true =>
                        by_cases h8 : row < 8
                        · have t2 : decide (row < 8) = true := decide_eq_true h8
                          have t3 : decide ((row : Int) < 8) = true := decide_eq_true (by omega)
                          go_wp2_with fail
                          go_meet
                          case rel => exact ⟨true, rfl, fun _ => h8, rfl⟩
                        · have t2 : decide (row < 8) = false := decide_eq_false h8
                          have t3 : decide ((row : Int) < 8) = false := decide_eq_false (by omega)
                          go_wp2_with fail
                          go_meet
                          case rel => exact ⟨false, rfl, (fun h => by cases h), rfl⟩
                    · have t1 : decide (kk < ln) = false := decide_eq_false hk
                      go_wp2_with fail
                      go_meet
                      case rel => exact ⟨false, rfl, (fun h => by cases h), rfl⟩
                  case rest =>
                    obtain ⟨G, hv20, hG, hYw⟩ := hcut
                    subst hYw
                    subst hv20
                    cases G with
                    | true =>
                      have h8 := hG rfl
                      clear hG
                      go_wp2_with fail
                      go_roundg (gk - 1)
                      case measure => omega
                      case rel => exact ⟨j + 1, q, kk + 1, by simp, by simp, by omega, by omega, by omega, q0, q1, kept_row HOWN.out (row := none) (grown_below HYB2.out) (by simp), grown_trans HGRW.out (grown_below HYB2.out), HAT.out, fun _ h => by omega⟩
                    | false =>
                      clear hG
                      as_aux_lemma =>
                        have HCUT := Lib.hid (fun z => cut_n (addU una pf) (addU una q) 1048576 Aa ka ((ys.drop pf).take L) L (Y.drewN z) HXL.out ((HBYp.out.below HYB2.out).below (below_drewN (Below.refl _ _) z)) (addU_bd _ _).1 (addU_bd _ _).2 (addU_bd _ _).1 (addU_bd _ _).2 (by decide) (by decide))
                        rw [gets_cut una ((ys.drop pf).take L) pf q L HXL.out (by omega) (by omega) (by omega)] at HCUT
                        go_wp2_with fail
                        refine wp_region_mid 9 _ (by kernel_rfl) (by kernel_rfl) rfl ?_
                        simp only [List.take_succ_cons, List.take_zero, List.drop_succ_cons, List.drop_zero]
                        repeat (go_big_quiet_step ((go_at_call 16; exact add_q _ _ _ _)))
                        refine wpQuiet_nil ?_
                        rintro _ ⟨nq, rfl⟩
                        go_wp2_with fail
                        refine (HCUT.out nq).mono ?_
                        rintro e w5 ⟨v5, rfl, ho5, hb5⟩
                        have hb5 : Below Y.heap.size Y w5 := (below_drewN (Below.refl _ _) nq).trans hb5
                        obtain ⟨Ac, kc, hvc⟩ := own_len ho5
                        obtain ⟨cs, hcs⟩ : ∃ cs, (if q < pf + L then ((ys.drop pf).take L).drop (q - pf) else []) = cs := ⟨_, rfl⟩
                        rw [hcs] at ho5 hvc
                        obtain ⟨l, hl⟩ : ∃ l, cs.length = l := ⟨_, rfl⟩
                        rw [hl] at ho5 hvc
                        subst hvc
                        have HCS := Lib.hid hcs
                        have hcl : l = if q < pf + L then L - (q - pf) else 0 := by
                          rw [← hl, ← hcs]
                          split
                          · rw [List.length_drop, HXL.out]
                          · rfl
                        have T0 := (hb5.cell (p := ⟨bt, 0, none⟩) (by show bt < _; omega)).trans T0
                        have T1 := (hb5.cell (p := ⟨bt, 1, none⟩) (by show bt < _; omega)).trans T1
                        have CY := (hb5.cell (World.block_lt_of_cell? Y _ CY)).trans CY
                        have HO5 : Hid (Byt w5 (.slice Ac l kc) cs) := Lib.hid (Byt.of_own (by rw [hl]; exact ho5))
                        have HB5 := Lib.hid (HYB2.out.trans (hb5.mono HYB2.out.size))
                        have HLL := Lib.hid hl
                        have HCL := Lib.hid hcl
                        clear hcs hl ho5 hb5 HCUT hcl
                        go_wp2_with fail
                        repeat (go_big_quiet_step (fail))
                        refine wpQuiet_nil ?_
                        rintro w6 ⟨nq2, hw6⟩
                        have T0 : w6.cell? ⟨bt, 0, none⟩ = some (.int .u32 (addU una pf)) := by rw [hw6]; exact T0
                        have CY : w6.cell? ⟨w.heap.size, 0, none⟩ = some (.int .u32 una) := by rw [hw6]; exact CY
                        have HB6 : Hid (Below wr.heap.size wr w6) := Lib.hid (by rw [hw6]; exact below_drewN HB5.out nq2)
                        have HO6 : Hid (Byt w6 (.slice Ac l kc) cs) := Lib.hid (by rw [hw6]; exact HO5.out.below (below_drewN (Below.refl _ _) nq2))
                        clear hw6
                        go_wp2_with fail
                        by_cases h1 : q < pf + L
                        · have hcl := HCL.out
                          rw [if_pos h1] at hcl
                          have t1 : decide (0 < l) = true := decide_eq_true (by omega)
                          have t2 : decide ((0 : Int) < (l : Int)) = true := decide_eq_true (by omega)
                          by_cases h2 : q < pf
                          · have HLS : Hid (lessB (addU una q) (addU una pf) = true) := Lib.hid (by rw [gets_less una q pf (by omega) (by omega)]; exact decide_eq_true h2)
                            clear hcl
                            go_quiet ((first | (go_at_call 16; exact add_q _ _ _ _) | (go_at_call 26; exact less_q _ _ _ _ HLS.out)))
                            go_wp2_with fail
                            go_roundg (gk - 1)
                            case measure => omega
                            case rel => exact ⟨j + 1, q, kk + 1, by simp, by simp, by omega, by omega, by omega, q0, q1, kept_row HOWN.out (row := none) (grown_below (below_drewN HB6.out _)) (by simp), grown_trans HGRW.out (grown_below (below_drewN HB6.out _)), HAT.out, fun hb _ hn => by have := HFA.out (HLAST.out (by first | exact hb | trivial) hn); omega⟩
                          · have HLS : Hid (lessB (addU una q) (addU una pf) = false) := Lib.hid (by rw [gets_less una q pf (by omega) (by omega)]; exact decide_eq_false h2)
                            have hql : q + l = pf + L := by omega
                            have hmore : ys.take q ++ cs = ys.take (pf + L) := by rw [← HCS.out, if_pos h1]; exact gets_more ys pf 0 L q (pf + L) (by omega) h1 (by omega) (by rw [HYL.out]; omega)
                            have HMO := Lib.hid hmore
                            clear hcl hmore
                            go_quiet ((first | (go_at_call 16; exact add_q _ _ _ _) | (go_at_call 26; exact less_q _ _ _ _ HLS.out)))
                            have hbs : x5.heap.size ≤ w6.heap.size := by have h1 := HM.out.lbl; have h2 := HM.out.lb; have h3 := HGRW.out.size; have h4 := HB6.out.size; omega
                            obtain ⟨v3, w3, hr, ho3, hg3, hat3⟩ := run_append_bytF (w := w6.drewN nq) x5.heap.size (.slice Av q cv) q _ (kept_row HOWN.out (row := none) (grown_below (below_drewN HB6.out _)) (by simp)) Ac l kc cs HLL.out (HO6.out.below (below_drewN (Below.refl _ _) _)) (by omega) hbs
                            rw [← List.map_append, HMO.out, hql] at ho3
                            obtain ⟨A3, k3, hv3⟩ := own_len ho3
                            subst hv3
                            have HR := Lib.hid hr
                            have HO3 := Lib.hid ho3
                            have HG3 : Hid (X.grownBy w3 (Value.slice Aw a cw).ownBlock) := Lib.hid (grown_new (grown_trans HGRW.out (grown_below (below_drewN HB6.out _))) hg3 HAT.out)
                            have HAT3 : Hid ((Value.slice A3 (pf + L) k3).ownBlock = (Value.slice Aw a cw).ownBlock ∨ ∀ b, (Value.slice A3 (pf + L) k3).ownBlock = some b → X.heap.size ≤ b) := Lib.hid (by
                              rcases hat3 with e | e
                              · rw [e]; exact HAT.out
                              · right
                                intro b hb
                                rw [e] at hb
                                cases hb
                                have h3 := HGRW.out.size
                                have h4 := HB6.out.size
                                show X.heap.size ≤ w6.heap.size
                                omega)
                            clear hr ho3 hg3 hat3 hbs hql
                            go_wp2_with (at_builtin; refine Lib.wpList_append_run _ rfl _ _ 34 34 rfl _ _ rfl rfl _ _ (by exact HR.out) ?_)
                            go_roundg (gk - 1)
                            case measure => omega
                            case rel => exact ⟨j + 1, pf + L, kk + 1, by simp, by simp, by omega, by omega, by omega, by omega, hpl, HO3.out, HG3.out, HAT3.out, fun _ _ _ => by omega⟩
                        · have hcl := HCL.out
                          rw [if_neg h1] at hcl
                          have t1 : decide (0 < l) = false := decide_eq_false (by omega)
                          have t2 : decide ((0 : Int) < (l : Int)) = false := decide_eq_false (by omega)
                          clear hcl
                          go_quiet (fail)
                          go_wp2_with fail
                          go_roundg (gk - 1)
                          case measure => omega
                          case rel => exact ⟨j + 1, q, kk + 1, by simp, by simp, by omega, by omega, by omega, q0, q1, kept_row HOWN.out (row := none) (grown_below (below_drewN HB6.out _)) (by simp), grown_trans HGRW.out (grown_below (below_drewN HB6.out _)), HAT.out, fun hb _ hn => by have := HFA.out (HLAST.out (by first | exact hb | trivial) hn); omega⟩
              · as_aux_lemma =>
                  have hjn : j = N := by omega
                  have hkq : q - a ≤ s2.sent := by omega
                  have hack : ahd s2.una (addU una q) = (q - a : Nat) := by rw [HM.out.una, gets_ahead una a q (by omega) (by omega)]; omega
                  have HACK := Lib.hid (fun z => acked_posF g c' A' s2 (q - a) (addU una q) W2 now (wr.drewN z) (HBW.out.drewN z) HM.out.ok hkq hack (by omega) (by omega) (addU_bd una q).1 (addU_bd una q).2 (by omega) (by omega))
                  obtain ⟨kx, hkx⟩ : ∃ kx, q - a = kx := ⟨_, rfl⟩
                  have hkx1 : a + kx ≤ q := by omega
                  have hkx2 : q ≤ a + kx := by omega
                  have hla := hlast
                  have hrow8 : ¬ a < q → row < 8 := by intro h; rcases Nat.lt_or_ge row 8 with h1 | h1; exact h1; exact absurd (hla rfl h1 (by omega)) h
                  have HKX := Lib.hid hkx
                  obtain ⟨s6, hs6⟩ : ∃ s6, ackSt s2 (q - a) (addU una q) W2 now = s6 := ⟨_, rfl⟩
                  have h61 : a < q → s6.alarm = now + R := by intro h; rw [← hs6]; unfold ackSt; rw [if_neg (by omega)]; show now + s2.rto = _; rw [HM.out.rto]
                  have h62 : ¬ a < q → s6.alarm = s2.alarm := by intro h; rw [← hs6]; unfold ackSt; rw [if_pos (by omega)]
                  have hal6 : s6.alarm ≤ now + 102400 := by
                    by_cases h : a < q
                    · rw [h61 h]; omega
                    · rw [h62 h]; exact HA2.out
                  have HS6 := Lib.hid hs6
                  have HA6 := Lib.hid hal6
                  rw [hs6, hkx] at HACK
                  have e0 := p3
                  have e1 := p4
                  have hN20 : j ≤ 19 := by have := HM.out.pn; have := HN.out; omega
                  clear hack hkx hs6 h61 h62 hal6 hla hlast p1 p2 p3 p4 p5 hown hgr hat hjn
                  go_wp2_with fail
                  refine wp_region_mid 9 _ (by kernel_rfl) (by kernel_rfl) rfl ?_
                  simp only [List.take_succ_cons, List.take_zero, List.drop_succ_cons, List.drop_zero]
                  repeat (go_big_quiet_step ((go_at_call 16; exact add_q _ _ _ _)))
                  refine wpQuiet_nil ?_
                  rintro _ ⟨nq, rfl⟩
                  go_wp2_with fail
                  refine (HACK.out nq).mono ?_
                  rintro e w5 ⟨rfl, hg5, A6, c6, hb6, hA6⟩
                  have HGE5 := Lib.hid (fun row' hrow => HM.out.acked (row' := row') HGB.out HGRW.out HAT.out HOWN.out q0 q1 (grown_trans (grown_drewN (World.grownBy.refl _ _)) hg5) (by rw [HS6.out]; exact hb6) hA6 (by omega) (by omega) (by omega) (by omega) hrow)
                  rw [HS6.out] at HGE5
                  clear hg5 hb6 hA6 HACK
                  go_wp2_with fail
                  repeat (go_big_quiet_step (fail))
                  refine wpQuiet_nil ?_
                  rintro _ ⟨nq2, rfl⟩
                  by_cases ha : a < q
                  · have t1 : decide (0 < kx) = true := decide_eq_true (by omega)
                    have t2 : decide ((0 : Int) < (kx : Int)) = true := decide_eq_true (by omega)
                    have HGE6 := Lib.hid ((HGE5.out 0 (by rw [if_pos ha])).move (below_drewN (Below.refl _ _) nq2))
                    obtain ⟨rw', hrw⟩ : ∃ r : Nat, r = 0 := ⟨_, rfl⟩
                    have hrw1 : rw' ≤ 8 ∧ (d - q) * 10 + (9 - rw') + (i + 1) ≤ 610 := by omega
                    rw [← hrw] at HGE6
                    have HRW : Hid ((rw' : Int) = 0) := Lib.hid (by rw [hrw] <;> rfl)
                    clear hrw
                    as_aux_lemma =>
                      have hd6 : s6.data.length + q = d := by rw [HGE6.out.data, List.length_drop, HYL.out]; omega
                      by_cases hqd : q < d
                      · have HAL6 := Lib.hid (alarm_some g c6 A6 s6 (w5.drewN nq2) HGE6.out.buf HGE6.out.ok (by omega))
                        obtain ⟨al, hal⟩ : ∃ al, s6.alarm = al := ⟨_, rfl⟩
                        have hal0 := HGE6.out.ok.alarm0
                        have hal1 := HA6.out
                        rw [hal] at HAL6 hal0 hal1
                        obtain ⟨now3, hn3⟩ : ∃ now3, (if now + 1 < al then al else now + 1) = now3 := ⟨_, rfl⟩
                        have hn4 : al ≤ now3 ∧ 0 ≤ now3 ∧ now3 ≤ now + 102401 := by rw [← hn3]; split <;> omega
                        have HAL := Lib.hid hal
                        clear hal hd6
                        go_wp2_with fail
                        refine HAL6.out.mono ?_
                        rintro e w' ⟨rfl, rfl⟩
                        go_wp2_with fail
                        go_roundg (og - 1)
                        case measure => omega
                        case rel => exact ⟨i + 1, q, rw', kk, now3, s6, A6, c6, by simp, rfl, by rw [HRW.out], rfl, by omega, by omega, by omega, hrw1.1, hn4.2.1, by omega, hrw1.2, fun h => by omega, fun h => by omega, fun _ _ => by rw [HAL.out]; exact hn4.1, HGE6.out⟩
                      · have HAL6 := Lib.hid (alarm_none g c6 A6 s6 (w5.drewN nq2) HGE6.out.buf HGE6.out.ok (by omega))
                        clear hd6
                        go_wp2_with fail
                        refine HAL6.out.mono ?_
                        rintro e w' ⟨rfl, rfl⟩
                        go_wp2_with fail
                        go_roundg (og - 1)
                        case measure => omega
                        case rel => exact ⟨i + 1, q, rw', kk, now, s6, A6, c6, by simp, rfl, by rw [HRW.out], rfl, by omega, by omega, by omega, hrw1.1, by omega, by omega, hrw1.2, fun h => by omega, fun h => by omega, fun _ h => by omega, HGE6.out⟩
                  · have t1 : decide (0 < kx) = false := decide_eq_false (by omega)
                    have t2 : decide ((0 : Int) < (kx : Int)) = false := decide_eq_false (by omega)
                    have HGE6 := Lib.hid ((HGE5.out (row + 1) (by rw [if_neg ha] <;> rfl)).move (below_drewN (Below.refl _ _) nq2))
                    obtain ⟨rw', hrw⟩ : ∃ r : Nat, r = row + 1 := ⟨_, rfl⟩
                    have hrw1 : rw' ≤ 8 ∧ (d - q) * 10 + (9 - rw') + (i + 1) ≤ 610 := by omega
                    rw [← hrw] at HGE6
                    have HRW : Hid ((rw' : Int) = (row : Int) + 1) := Lib.hid (by rw [hrw] <;> rfl)
                    clear hrw
                    as_aux_lemma =>
                      have hd6 : s6.data.length + q = d := by rw [HGE6.out.data, List.length_drop, HYL.out]; omega
                      by_cases hqd : q < d
                      · have HAL6 := Lib.hid (alarm_some g c6 A6 s6 (w5.drewN nq2) HGE6.out.buf HGE6.out.ok (by omega))
                        obtain ⟨al, hal⟩ : ∃ al, s6.alarm = al := ⟨_, rfl⟩
                        have hal0 := HGE6.out.ok.alarm0
                        have hal1 := HA6.out
                        rw [hal] at HAL6 hal0 hal1
                        obtain ⟨now3, hn3⟩ : ∃ now3, (if now + 1 < al then al else now + 1) = now3 := ⟨_, rfl⟩
                        have hn4 : al ≤ now3 ∧ 0 ≤ now3 ∧ now3 ≤ now + 102401 := by rw [← hn3]; split <;> omega
                        have HAL := Lib.hid hal
                        clear hal hd6
                        go_wp2_with fail
                        refine HAL6.out.mono ?_
                        rintro e w' ⟨rfl, rfl⟩
                        go_wp2_with fail
                        go_roundg (og - 1)
                        case measure => omega
                        case rel => exact ⟨i + 1, q, rw', kk, now3, s6, A6, c6, by simp, rfl, by rw [HRW.out], rfl, by omega, by omega, by omega, hrw1.1, hn4.2.1, by omega, hrw1.2, fun h => by omega, fun h => by omega, fun _ _ => by rw [HAL.out]; exact hn4.1, HGE6.out⟩
                      · have HAL6 := Lib.hid (alarm_none g c6 A6 s6 (w5.drewN nq2) HGE6.out.buf HGE6.out.ok (by omega))
                        clear hd6
                        go_wp2_with fail
                        refine HAL6.out.mono ?_
                        rintro e w' ⟨rfl, rfl⟩
                        go_wp2_with fail
                        go_roundg (og - 1)
                        case measure => omega
                        case rel => exact ⟨i + 1, q, rw', kk, now, s6, A6, c6, by simp, rfl, by rw [HRW.out], rfl, by omega, by omega, by omega, hrw1.1, by omega, by omega, hrw1.2, fun h => by omega, fun h => by omega, fun _ h => by omega, HGE6.out⟩
end Go.Proofs.Ytpigomkhpdfdcaa
