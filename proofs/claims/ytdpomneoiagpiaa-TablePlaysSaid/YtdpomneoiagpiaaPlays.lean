/- TablePlays, walked. -/
import Derived.Test.YtdpomneoiagpiaaPlInv
import Derived.Test.YtdpomneoiagpiaaOneInv
import Derived.Deep.DeepCutAuto
import Derived.Deep.CutBlock
import Derived.Deep.RegionHeld3
set_option linter.unusedVariables false
namespace Go.Proofs.Ytdpomneoiagpiaa
open Go.RowKit Go.Deep Go.BigFrame
attribute [local go_sem ↓] Go.wp_at_zero Go.wp_at_succ
set_option maxHeartbeats 25600000 in
set_option maxRecDepth 100000 in
theorem plays_walk (most : Int) (A : Option Addr) (n c : Nat) (xs : List ActD) (w : World) (hx : Acts w A n xs) (h1 : n ≤ c) (h2 : c ≤ maxLen) :
    Calls Try.prog 6 #[.int .i64 most, .slice A n c] w fun e w' => e = .returned (.bool true) ∧ Below w.heap.size w w' := by
  have HAW := Lib.hid awake_any
  have HX := Lib.hid hx
  have hnm : n ≤ 9223372036854775807 := by unfold maxLen at h2; omega
  clear hx h2
  by_cases hm : most < 1 ∨ 1024 < most
  · have HN1 := Lib.hid (fun W => new_no most W hm)
    have HN2 := Lib.hid (fun W => rnew_no most W hm)
    have HTN := Lib.hid (fun W => touch_nil 1 W)
    have HLN := Lib.hid (fun W => len_nil W)
    clear hm
    as_aux_lemma =>
      go_enter Try.func6, Try.ntmps6
      go_wp2_with fail
      refine (HN1.out _).mono ?_
      rintro e W ⟨rfl, rfl⟩
      go_wp2_with fail
      refine (HN2.out _).mono ?_
      rintro e W ⟨rfl, rfl⟩
      go_wp2_with fail
      refine (HAW.out _).mono ?_
      rintro e W1 ⟨rfl, hb⟩
      have HB := Lib.hid hb
      clear hb
      go_wp2_with fail
      refine (HTN.out _).mono ?_
      rintro e W2 ⟨rfl, hb2⟩
      have HB2 := Lib.hid hb2
      clear hb2
      go_wp2_with fail
      refine (HLN.out _).mono ?_
      rintro e W3 ⟨rfl, rfl⟩
      go_wp2_with fail
      go_ret
      exact ⟨rfl, HB.out.trans (HB2.out.mono HB.out.size)⟩
  · obtain ⟨m, rfl, hm2, hm3⟩ : ∃ m : Nat, most = (m : Int) ∧ 1 ≤ m ∧ m ≤ 1024 := ⟨most.toNat, by omega, by omega, by omega⟩
    have HN1 := Lib.hid (tab_new m w w hm2 hm3 (Below.refl _ _))
    have HN2 := Lib.hid (fun W => rnew_yes m W hm2 hm3)
    clear hm
    go_enter Try.func6, Try.ntmps6
    go_wp2_with fail
    with_reducible refine HN1.out.mono ?_
    rintro e W ⟨g0, a1, a2, rfl, hT, hb, -, -⟩
    have HT := Lib.hid hT
    clear hT hb
    go_wp2_with fail
    refine (HN2.out W).mono ?_
    rintro e W1 ⟨rfl, hR, hb⟩
    have hsz := HT.out.bel.size
    have HP1 : Hid (PR w W1 g0 a1 a2 0 W.heap.size ⟨m, [], 0⟩ ⟨m, [], 0⟩) := Lib.hid ⟨HT.out.below hb, none, 0, hR, fun k hk => by
      rcases hk with rfl | hk
      · exact hsz
      · cases hk⟩
    obtain ⟨h, hh⟩ : ∃ h, W.heap.size = h := ⟨_, rfl⟩
    rw [hh] at HP1
    rw [hh]
    clear hR hb hsz hh HT HN1 HN2
    go_wp2_with fail
    refine (HAW.out _).mono ?_
    rintro e W2 ⟨rfl, hb⟩
    have HP2 := Lib.hid (HP1.out.below hb)
    clear hb HP1
    go_wp2_with fail
    go_loopw [5, 66] (fun v5 v66 wr => ∃ (i g d1 d2 N : Nat) (s : TS), v5 = .pointer (some ⟨g, 0, none⟩) ∧ v66 = .int .i64 i ∧ i ≤ n ∧ i ≤ 300 ∧ N ≤ i ∧ s.last ≤ i ∧ PR w wr g d1 d2 N h s s) (fun _ v66 _ => n - (intOf v66).toNat)
    case atStart => exact ⟨0, g0, a1, a2, 0, _, rfl, rfl, Nat.zero_le _, Nat.zero_le _, Nat.le_refl _, Nat.le_refl _, HP2.out⟩
    case round =>
      clear HP2 HAW
      obtain ⟨i, g, d1, d2, N, s, rfl, rfl, hin, hi3, hNi, hsl, hP⟩ := hrel
      have HP := Lib.hid hP
      have hbelR : Below w.heap.size w wr := hP.tab.bel
      clear hP
      by_cases hlt : i < n
      · obtain ⟨x, hx⟩ : ∃ x, xs[i]? = some x := ⟨xs[i]'(by have := HX.out.1; omega), List.getElem?_eq_getElem _⟩
        obtain ⟨hxo, b, o, rfl, hbl, hxa⟩ := HX.out.2 i x hx
        have HXO := Lib.hid hxo
        obtain ⟨k0, k1, k2, k3, k4, k5, k6, k7, k8, k9, k10, k11⟩ := hxa.below hbelR hbl
        rw [Nat.add_zero] at k0
        have HBR := Lib.hid hbelR
        clear hx hxo hxa hbelR
        by_cases hi : i = 300
        · subst hi
          go_wp2_with fail
          go_ret
          exact ⟨rfl, HBR.out.alloc HBR.out.size _⟩
        · have hi300 : ((i : Int) == 300) = false := by simp; omega
          obtain ⟨wh, hwh⟩ : ∃ wh, x.what = wh := ⟨_, rfl⟩
          rw [hwh] at k0
          clear hwh
          go_upto_block 2 with (fail)
          refine wp_name fun X hX => ?_
          obtain ⟨bo, hbo⟩ : ∃ bo, wr.heap.size = bo := ⟨_, rfl⟩
          have hXB : Below wr.heap.size wr X := by rw [hX]; exact (Below.refl _ _).alloc (Nat.le_refl _) _
          have hXh : X.heap[bo]? = some (.cells #[.int .i64 wh, .int .u64 x.id, .int .u8 x.a.proto, .int .u32 x.a.src, .int .u32 x.a.dst, .int .u16 x.a.sp, .int .u16 x.a.dp, .int .u8 x.b.proto, .int .u32 x.b.src, .int .u32 x.b.dst, .int .u16 x.b.sp, .int .u16 x.b.dp] 49 (0, 0)) := by rw [hX, ← hbo]; exact heap_alloc_new wr _
          have HPX := Lib.hid (HP.out.below hXB)
          have HXH := Lib.hid hXh
          have hbb : w.heap.size ≤ bo := by rw [← hbo]; exact HBR.out.size
          have HBO := Lib.hid hbb
          rw [hbo]
          clear hX hXB hbo k0 k1 k2 k3 k4 k5 k6 k7 k8 k9 k10 k11 hXh hbb
          go_cut [5] (fun v5 wx => ∃ (g' e1 e2 N' : Nat) (s' : TS), v5 = .pointer (some ⟨g', 0, none⟩) ∧ N' ≤ i + 1 ∧ s'.last ≤ i + 1 ∧ PR w wx g' e1 e2 N' h s' s' ∧ wx.heap[bo]? = some (.cells #[.int .i64 wh, .int .u64 x.id, .int .u8 x.a.proto, .int .u32 x.a.src, .int .u32 x.a.dst, .int .u16 x.a.sp, .int .u16 x.a.dp, .int .u8 x.b.proto, .int .u32 x.b.src, .int .u32 x.b.dst, .int .u16 x.b.sp, .int .u16 x.b.dp] 49 (0, 0)))
          case first =>
            by_cases h0 : wh = 0
            · subst h0
              as_aux_lemma =>
                obtain ⟨A, c, hr, hk⟩ := HPX.out.ref
                obtain ⟨nn, hnn⟩ : ∃ nn, addN s x.a x.b = nn := ⟨_, rfl⟩
                obtain ⟨wt, hwt⟩ : ∃ wt, addW s x.a x.b = wt := ⟨_, rfl⟩
                obtain ⟨ee, hee⟩ : ∃ ee, addE s x.a x.b = ee := ⟨_, rfl⟩
                have hok := HPX.out.tab.ok
                have HTT := Lib.hid (tab_addE HPX.out.tab x.a x.b HXO.out.a HXO.out.b (by omega) (by omega) hnn hwt hee rfl)
                have HRR := Lib.hid (fun V (ha : Apart d1 d2 X V) => radd_any (hr.apart ha) hok x.a x.b HXO.out.a HXO.out.b (by omega))
                rw [hnn, hwt, hee] at HRR
                have hlast : (addS s x.a x.b).last ≤ i + 1 := by
                  unfold addS
                  split
                  · unfold pushS
                    show s.last + 1 ≤ i + 1
                    omega
                  · omega
                have HR := Lib.hid (And.intro hr (And.intro hk hlast))
                unfold Tup.val at HTT HRR
                have k0 : X.cell? ⟨bo, 0, none⟩ = some (.int .i64 0) := cell_of HXH.out 0
                have k2 : X.cell? ⟨bo, 2, none⟩ = some (.int .u8 x.a.proto) := cell_of HXH.out 2
                have k3 : X.cell? ⟨bo, 3, none⟩ = some (.int .u32 x.a.src) := cell_of HXH.out 3
                have k4 : X.cell? ⟨bo, 4, none⟩ = some (.int .u32 x.a.dst) := cell_of HXH.out 4
                have k5 : X.cell? ⟨bo, 5, none⟩ = some (.int .u16 x.a.sp) := cell_of HXH.out 5
                have k6 : X.cell? ⟨bo, 6, none⟩ = some (.int .u16 x.a.dp) := cell_of HXH.out 6
                have k7 : X.cell? ⟨bo, 7, none⟩ = some (.int .u8 x.b.proto) := cell_of HXH.out 7
                have k8 : X.cell? ⟨bo, 8, none⟩ = some (.int .u32 x.b.src) := cell_of HXH.out 8
                have k9 : X.cell? ⟨bo, 9, none⟩ = some (.int .u32 x.b.dst) := cell_of HXH.out 9
                have k10 : X.cell? ⟨bo, 10, none⟩ = some (.int .u16 x.b.sp) := cell_of HXH.out 10
                have k11 : X.cell? ⟨bo, 11, none⟩ = some (.int .u16 x.b.dp) := cell_of HXH.out 11
                clear hr hk hee hok hnn hwt hlast
                go_wp2_with fail
                refine HTT.out.mono ?_
                rintro e V1 ⟨rfl, hT1, hA1⟩
                have hb1 := hA1.block bo _ HXH.out ⟨by decide, by decide⟩
                have p2 : V1.cell? ⟨bo, 2, none⟩ = some (.int .u8 x.a.proto) := cell_of hb1 2
                have p3 : V1.cell? ⟨bo, 3, none⟩ = some (.int .u32 x.a.src) := cell_of hb1 3
                have p4 : V1.cell? ⟨bo, 4, none⟩ = some (.int .u32 x.a.dst) := cell_of hb1 4
                have p5 : V1.cell? ⟨bo, 5, none⟩ = some (.int .u16 x.a.sp) := cell_of hb1 5
                have p6 : V1.cell? ⟨bo, 6, none⟩ = some (.int .u16 x.a.dp) := cell_of hb1 6
                have p7 : V1.cell? ⟨bo, 7, none⟩ = some (.int .u8 x.b.proto) := cell_of hb1 7
                have p8 : V1.cell? ⟨bo, 8, none⟩ = some (.int .u32 x.b.src) := cell_of hb1 8
                have p9 : V1.cell? ⟨bo, 9, none⟩ = some (.int .u32 x.b.dst) := cell_of hb1 9
                have p10 : V1.cell? ⟨bo, 10, none⟩ = some (.int .u16 x.b.sp) := cell_of hb1 10
                have p11 : V1.cell? ⟨bo, 11, none⟩ = some (.int .u16 x.b.dp) := cell_of hb1 11
                have HV1 := Lib.hid (And.intro hT1 (And.intro hA1 hb1))
                clear hT1 hA1 hb1
                go_wp2_with fail
                refine (HRR.out V1 HV1.out.2.1).mono ?_
                rintro e V2 ⟨rfl, A', c', hR2, hT2, hN2⟩
                have HV2 := Lib.hid (And.intro hR2 (And.intro hT2 hN2))
                clear hR2 hT2 hN2
                go_wp2_with fail
                go_meet
                case rel =>
                  obtain ⟨hT1, hA1, hb1⟩ := HV1.out
                  obtain ⟨hR2, hT2, hN2⟩ := HV2.out
                  exact ⟨g, d1, d2, _, addS s x.a x.b, rfl, Nat.succ_le_succ hNi, HR.out.2.2, PR.r hT1 (HR.out.1.apart hA1) HR.out.2.1 hR2 hT2 hN2, block_R (HR.out.1.apart hA1) hT2 hb1⟩
            · have b0 : (wh == 0) = false := by simpa using h0
              clear h0
              by_cases h1 : wh = 1
              · subst h1
                have k0 : X.cell? ⟨bo, 0, none⟩ = some (.int .i64 1) := cell_of HXH.out 0
                as_aux_lemma =>
                  obtain ⟨A, c, hr, hk⟩ := HPX.out.ref
                  obtain ⟨ee, hee⟩ : ∃ ee, leadE s x.id x.b = ee := ⟨_, rfl⟩
                  have hok := HPX.out.tab.ok
                  have HTT := Lib.hid (tab_lead (HPX.out.tab.below (Below.refl _ _).drew) x.id HXO.out.id x.b HXO.out.b (by omega))
                  have HRR := Lib.hid (fun V (ha : Apart d1 d2 X V) => rlead_any (hr.apart ha) hok x.id x.b HXO.out.b)
                  rw [hee] at HTT HRR
                  have HR := Lib.hid (And.intro hr hk)
                  unfold Tup.val at HTT HRR
                  have k1 : X.cell? ⟨bo, 1, none⟩ = some (.int .u64 x.id) := cell_of HXH.out 1
                  have k7 : X.cell? ⟨bo, 7, none⟩ = some (.int .u8 x.b.proto) := cell_of HXH.out 7
                  have k8 : X.cell? ⟨bo, 8, none⟩ = some (.int .u32 x.b.src) := cell_of HXH.out 8
                  have k9 : X.cell? ⟨bo, 9, none⟩ = some (.int .u32 x.b.dst) := cell_of HXH.out 9
                  have k10 : X.cell? ⟨bo, 10, none⟩ = some (.int .u16 x.b.sp) := cell_of HXH.out 10
                  have k11 : X.cell? ⟨bo, 11, none⟩ = some (.int .u16 x.b.dp) := cell_of HXH.out 11
                  clear hr hk hee hok
                  go_wp2_with fail
                  go_region_held3 (fun w' => w'.cell? ⟨bo, 1, none⟩ = some (.int .u64 x.id) ∧ w'.cell? ⟨bo, 7, none⟩ = some (.int .u8 x.b.proto) ∧ w'.cell? ⟨bo, 8, none⟩ = some (.int .u32 x.b.src) ∧ w'.cell? ⟨bo, 9, none⟩ = some (.int .u32 x.b.dst) ∧ w'.cell? ⟨bo, 10, none⟩ = some (.int .u16 x.b.sp) ∧ w'.cell? ⟨bo, 11, none⟩ = some (.int .u16 x.b.dp)) (go_keep)
                    (first
                      | (go_at_call 15; (first | (with_reducible refine HTT.out.mono ?_) | (refine HTT.out.mono ?_)); rintro e V1 ⟨rfl, hT1, hA1⟩; have hA1 : Apart d1 d2 X V1 := ⟨hA1.size, hA1.block⟩; have hb1 := hA1.block bo _ HXH.out ⟨by decide, by decide⟩; have p1 : V1.cell? ⟨bo, 1, none⟩ = some (.int .u64 x.id) := cell_of hb1 1; have p7 : V1.cell? ⟨bo, 7, none⟩ = some (.int .u8 x.b.proto) := cell_of hb1 7; have p8 : V1.cell? ⟨bo, 8, none⟩ = some (.int .u32 x.b.src) := cell_of hb1 8; have p9 : V1.cell? ⟨bo, 9, none⟩ = some (.int .u32 x.b.dst) := cell_of hb1 9; have p10 : V1.cell? ⟨bo, 10, none⟩ = some (.int .u16 x.b.sp) := cell_of hb1 10; have p11 : V1.cell? ⟨bo, 11, none⟩ = some (.int .u16 x.b.dp) := cell_of hb1 11)
                      | (go_at_call 23; (first | (with_reducible refine (HRR.out V1 hA1).mono ?_) | (refine (HRR.out V1 hA1).mono ?_)); rintro e V2 ⟨rfl, hR2, hT2⟩; have hb2 := block_R (HR.out.1.apart hA1) hT2 hb1; have q1 : V2.cell? ⟨bo, 1, none⟩ = some (.int .u64 x.id) := cell_of hb2 1; have q7 : V2.cell? ⟨bo, 7, none⟩ = some (.int .u8 x.b.proto) := cell_of hb2 7; have q8 : V2.cell? ⟨bo, 8, none⟩ = some (.int .u32 x.b.src) := cell_of hb2 8; have q9 : V2.cell? ⟨bo, 9, none⟩ = some (.int .u32 x.b.dst) := cell_of hb2 9; have q10 : V2.cell? ⟨bo, 10, none⟩ = some (.int .u16 x.b.sp) := cell_of hb2 10; have q11 : V2.cell? ⟨bo, 11, none⟩ = some (.int .u16 x.b.dp) := cell_of hb2 11))
                  go_wp2_with fail
                  go_meet
                  case rel =>
                    exact ⟨g, d1, d2, _, leadS s x.id x.b, rfl, Nat.succ_le_succ hNi, by rw [lead_last]; omega, PR.r hT1 (HR.out.1.apart hA1) HR.out.2 hR2 hT2 (fun k e => .inl e), hb2⟩
              · have b1 : (wh == 1) = false := by simpa using h1
                clear h1
                by_cases h2 : wh = 2
                · subst h2
                  have k0 : X.cell? ⟨bo, 0, none⟩ = some (.int .i64 2) := cell_of HXH.out 0
                  as_aux_lemma =>
                    obtain ⟨A, c, hr, hk⟩ := HPX.out.ref
                    obtain ⟨ee, hee⟩ : ∃ ee, atE s x.id = ee := ⟨_, rfl⟩
                    have hok := HPX.out.tab.ok
                    have HTT := Lib.hid (tab_touch (HPX.out.tab.below (Below.refl _ _).drew) x.id)
                    have HRR := Lib.hid (fun V (ha : Apart d1 d2 X V) => rtouch_any (hr.apart ha) hok x.id)
                    rw [hee] at HTT HRR
                    have HR := Lib.hid (And.intro hr hk)
                    have k1 : X.cell? ⟨bo, 1, none⟩ = some (.int .u64 x.id) := cell_of HXH.out 1
                    clear hr hk hee hok
                    go_wp2_with fail
                    go_region_held3 (fun w' => w'.cell? ⟨bo, 1, none⟩ = some (.int .u64 x.id)) (go_keep)
                      (first
                        | (go_at_call 12; (first | (with_reducible refine HTT.out.mono ?_) | (refine HTT.out.mono ?_)); rintro e V1 ⟨rfl, hT1, hA1⟩; have hA1 : Apart d1 d2 X V1 := ⟨hA1.size, hA1.block⟩; have hb1 := hA1.block bo _ HXH.out ⟨by decide, by decide⟩; have p1 : V1.cell? ⟨bo, 1, none⟩ = some (.int .u64 x.id) := cell_of hb1 1)
                        | (go_at_call 24; (first | (with_reducible refine (HRR.out V1 hA1).mono ?_) | (refine (HRR.out V1 hA1).mono ?_)); rintro e V2 ⟨rfl, A', c', hR2, hT2, hN2⟩; have hb2 := block_R (HR.out.1.apart hA1) hT2 hb1; have q1 : V2.cell? ⟨bo, 1, none⟩ = some (.int .u64 x.id) := cell_of hb2 1))
                    go_wp2_with fail
                    go_meet
                    case rel =>
                      exact ⟨g, d1, d2, _, touchS s x.id, rfl, by omega, by rw [touch_last]; omega, PR.r hT1 (HR.out.1.apart hA1) HR.out.2 hR2 hT2 hN2, hb2⟩
                · have b2 : (wh == 2) = false := by simpa using h2
                  clear h2
                  by_cases h3 : wh = 3
                  · subst h3
                    have k0 : X.cell? ⟨bo, 0, none⟩ = some (.int .i64 3) := cell_of HXH.out 0
                    as_aux_lemma =>
                      obtain ⟨A, c, hr, hk⟩ := HPX.out.ref
                      obtain ⟨ee, hee⟩ : ∃ ee, atE s x.id = ee := ⟨_, rfl⟩
                      have hok := HPX.out.tab.ok
                      have HTT := Lib.hid (tab_ready (HPX.out.tab.below (Below.refl _ _).drew) x.id)
                      have HRR := Lib.hid (fun V (ha : Apart d1 d2 X V) => rready_any (hr.apart ha) hok x.id)
                      rw [hee] at HTT HRR
                      have HR := Lib.hid (And.intro hr hk)
                      have k1 : X.cell? ⟨bo, 1, none⟩ = some (.int .u64 x.id) := cell_of HXH.out 1
                      clear hr hk hee hok
                      go_wp2_with fail
                      go_region_held3 (fun w' => w'.cell? ⟨bo, 1, none⟩ = some (.int .u64 x.id)) (go_keep)
                        (first
                          | (go_at_call 17; (first | (with_reducible refine HTT.out.mono ?_) | (refine HTT.out.mono ?_)); rintro e V1 ⟨rfl, hT1, hA1⟩; have hA1 : Apart d1 d2 X V1 := ⟨hA1.size, hA1.block⟩; have hb1 := hA1.block bo _ HXH.out ⟨by decide, by decide⟩; have p1 : V1.cell? ⟨bo, 1, none⟩ = some (.int .u64 x.id) := cell_of hb1 1)
                          | (go_at_call 25; (first | (with_reducible refine (HRR.out V1 hA1).mono ?_) | (refine (HRR.out V1 hA1).mono ?_)); rintro e V2 ⟨rfl, hR2, hT2⟩; have hb2 := block_R (HR.out.1.apart hA1) hT2 hb1; have q1 : V2.cell? ⟨bo, 1, none⟩ = some (.int .u64 x.id) := cell_of hb2 1))
                      go_wp2_with fail
                      go_meet
                      case rel =>
                        exact ⟨g, d1, d2, _, readyS s x.id, rfl, by omega, by rw [ready_last]; omega, PR.r hT1 (HR.out.1.apart hA1) HR.out.2 hR2 hT2 (fun k e => .inl e), hb2⟩
                  · have b3 : (wh == 3) = false := by simpa using h3
                    clear h3
                    by_cases h4 : wh = 4
                    · subst h4
                      have k0 : X.cell? ⟨bo, 0, none⟩ = some (.int .i64 4) := cell_of HXH.out 0
                      as_aux_lemma =>
                        obtain ⟨A, c, hr, hk⟩ := HPX.out.ref
                        obtain ⟨ee, hee⟩ : ∃ ee, atE s x.id = ee := ⟨_, rfl⟩
                        have hok := HPX.out.tab.ok
                        have HTT := Lib.hid (tab_drop (HPX.out.tab.below (Below.refl _ _).drew) x.id)
                        have HRR := Lib.hid (fun V (ha : Apart d1 d2 X V) => rdrop_any (hr.apart ha) hok x.id)
                        rw [hee] at HTT HRR
                        have HR := Lib.hid (And.intro hr hk)
                        have k1 : X.cell? ⟨bo, 1, none⟩ = some (.int .u64 x.id) := cell_of HXH.out 1
                        clear hr hk hee hok
                        go_wp2_with fail
                        go_region_held3 (fun w' => w'.cell? ⟨bo, 1, none⟩ = some (.int .u64 x.id)) (go_keep)
                          (first
                            | (go_at_call 18; (first | (with_reducible refine HTT.out.mono ?_) | (refine HTT.out.mono ?_)); rintro e V1 ⟨rfl, hT1, hA1⟩; have hA1 : Apart d1 d2 X V1 := ⟨hA1.size, hA1.block⟩; have hb1 := hA1.block bo _ HXH.out ⟨by decide, by decide⟩; have p1 : V1.cell? ⟨bo, 1, none⟩ = some (.int .u64 x.id) := cell_of hb1 1)
                            | (go_at_call 26; (first | (with_reducible refine (HRR.out V1 hA1).mono ?_) | (refine (HRR.out V1 hA1).mono ?_)); rintro e V2 ⟨rfl, A', c', hR2, hT2, hN2⟩; have hb2 := block_R (HR.out.1.apart hA1) hT2 hb1; have q1 : V2.cell? ⟨bo, 1, none⟩ = some (.int .u64 x.id) := cell_of hb2 1))
                        go_wp2_with fail
                        go_meet
                        case rel =>
                          exact ⟨g, d1, d2, _, dropS s x.id, rfl, by omega, by rw [drop_last]; omega, PR.r hT1 (HR.out.1.apart hA1) HR.out.2 hR2 hT2 hN2, hb2⟩
                    · have b4 : (wh == 4) = false := by simpa using h4
                      clear h4
                      by_cases h5 : wh = 5
                      · subst h5
                        as_aux_lemma =>
                          obtain ⟨A, c, ht, hkA⟩ := HPX.out.tab.tb
                          have hok := HPX.out.tab.ok
                          have HCP := Lib.hid (copy_any ht hok)
                          have HDR := Lib.hid (fun V (hV : Below X.heap.size X V) => drop_any (ht.below hV) hok x.id)
                          have HAD := Lib.hid (fun V (t : Tb V g A c d1 d2 N (dropS s x.id)) => old_add t (hok.dropS x.id) x.a x.b HXO.out.a HXO.out.b (by rw [drop_last]; omega) (by omega))
                          have HT := Lib.hid (And.intro ht hkA)
                          unfold Tup.val at HAD
                          have k0 : X.cell? ⟨bo, 0, none⟩ = some (.int .i64 5) := cell_of HXH.out 0
                          clear ht hkA hok
                          go_wp2_with fail
                          refine HCP.out.mono ?_
                          rintro e V ⟨g', A', c', e1, e2, rfl, hnew, hb, hk⟩
                          have hbV := (hb.block bo (Array.getElem?_eq_some_iff.1 HXH.out).1).trans HXH.out
                          have p1 : V.cell? ⟨bo, 1, none⟩ = some (.int .u64 x.id) := cell_of hbV 1
                          have HV := Lib.hid (And.intro hnew (And.intro hb (And.intro hk hbV)))
                          clear hnew hb hk hbV
                          go_wp2_with fail
                          refine (HDR.out V HV.out.2.1).mono ?_
                          rintro e V2 ⟨rfl, hold2, hT2⟩
                          have hA2 := Apart.turns (HT.out.1.below HV.out.2.1) hT2
                          have hb2 := hA2.block bo _ HV.out.2.2.2 ⟨by decide, by decide⟩
                          have q2 : V2.cell? ⟨bo, 2, none⟩ = some (.int .u8 x.a.proto) := cell_of hb2 2
                          have q3 : V2.cell? ⟨bo, 3, none⟩ = some (.int .u32 x.a.src) := cell_of hb2 3
                          have q4 : V2.cell? ⟨bo, 4, none⟩ = some (.int .u32 x.a.dst) := cell_of hb2 4
                          have q5 : V2.cell? ⟨bo, 5, none⟩ = some (.int .u16 x.a.sp) := cell_of hb2 5
                          have q6 : V2.cell? ⟨bo, 6, none⟩ = some (.int .u16 x.a.dp) := cell_of hb2 6
                          have q7 : V2.cell? ⟨bo, 7, none⟩ = some (.int .u8 x.b.proto) := cell_of hb2 7
                          have q8 : V2.cell? ⟨bo, 8, none⟩ = some (.int .u32 x.b.src) := cell_of hb2 8
                          have q9 : V2.cell? ⟨bo, 9, none⟩ = some (.int .u32 x.b.dst) := cell_of hb2 9
                          have q10 : V2.cell? ⟨bo, 10, none⟩ = some (.int .u16 x.b.sp) := cell_of hb2 10
                          have q11 : V2.cell? ⟨bo, 11, none⟩ = some (.int .u16 x.b.dp) := cell_of hb2 11
                          have HV2 := Lib.hid (And.intro hold2 (And.intro hT2 (And.intro hA2 hb2)))
                          clear hold2 hT2 hA2 hb2
                          go_wp2_with fail
                          refine (HAD.out V2 HV2.out.1).mono ?_
                          rintro e V3 ⟨⟨v, rfl⟩, hT3⟩
                          have HV3 := Lib.hid hT3
                          clear hT3
                          go_wp2_with fail
                          go_meet
                          case rel =>
                            obtain ⟨hnew, hb, hk, hbV⟩ := HV.out
                            obtain ⟨hold2, hT2, hA2, hb2⟩ := HV2.out
                            have hA3 := Apart.turns hold2 HV3.out
                            have hb3 := hA3.block bo _ hb2 ⟨by decide, by decide⟩
                            obtain ⟨A0, c0, hr, hkr⟩ := HPX.out.ref
                            exact ⟨g', e1, e2, N, s, rfl, by omega, by omega, ⟨HPX.out.copied HT.out.2 HT.out.1 hnew hb hk (hT2.trans HV3.out (fun i hi => .inl hi)), A0, c0, ((hr.below hb).apart hA2).apart hA3, hkr⟩, hb3⟩
                      · have b5 : (wh == 5) = false := by simpa using h5
                        clear h5
                        as_aux_lemma =>
                          have k0 : X.cell? ⟨bo, 0, none⟩ = some (.int .i64 wh) := cell_of HXH.out 0
                          go_wp2_with fail
                          go_meet
                          case rel => exact ⟨g, d1, d2, N, s, rfl, by omega, by omega, HPX.out, HXH.out⟩
          case rest =>
            as_aux_lemma =>
              obtain ⟨g', e1, e2, N', s', rfl, hN', hl', hP2, hbo2⟩ := hcut
              have HP2 := Lib.hid (And.intro hP2 hbo2)
              have hok := hP2.tab.ok
              obtain ⟨A2, c2, hr2, hkr2⟩ := hP2.ref
              have HIN := Lib.hid (fun W (hW : Below wc.heap.size wc W) => tab_inner (hP2.tab.below hW) x.a HXO.out.a)
              have HRI := Lib.hid (fun W (hW : Below wc.heap.size wc W) => rinner_any (hr2.below hW) hok x.a HXO.out.a)
              have HOU := Lib.hid (fun W (hW : Below wc.heap.size wc W) => tab_outer (hP2.tab.below hW) x.b HXO.out.b)
              have HRO := Lib.hid (fun W (hW : Below wc.heap.size wc W) => router_any (hr2.below hW) hok x.b HXO.out.b)
              have HFL := Lib.hid (fun W (hW : Below wc.heap.size wc W) => tab_flow (hP2.tab.below hW) x.id)
              have HRF := Lib.hid (fun W (hW : Below wc.heap.size wc W) => rflow_any (hr2.below hW) hok x.id)
              obtain ⟨f, hf⟩ : ∃ f, flowF s' x.id = f := ⟨_, rfl⟩
              obtain ⟨ff, hff⟩ : ∃ ff, (findK s'.L x.id).isSome = ff := ⟨_, rfl⟩
              obtain ⟨IN, hIN⟩ : ∃ IN, innF s'.L x.a = IN := ⟨_, rfl⟩
              obtain ⟨OU, hOU⟩ : ∃ OU, outF s'.L x.b = OU := ⟨_, rfl⟩
              obtain ⟨ib, hib⟩ : ∃ ib, (IN != 0) = ib := ⟨_, rfl⟩
              obtain ⟨ob, hob⟩ : ∃ ob, (OU != 0) = ob := ⟨_, rfl⟩
              obtain ⟨ln, hln⟩ : ∃ ln, s'.L.length = ln := ⟨_, rfl⟩
              rw [hIN, hib] at HIN HRI
              rw [hOU, hob] at HOU HRO
              rw [hf, hff] at HFL HRF
              have hlm : ln ≤ 1024 := by rw [← hln]; exact Nat.le_trans hok.len hok.most2
              have HLEN := Lib.hid (fun W (hW : Below wc.heap.size wc W) => tab_len (hP2.tab.below hW))
              have HALL := Lib.hid (fun W (hW : Below wc.heap.size wc W) => tab_all (hP2.tab.below hW))
              rw [hln] at HLEN HALL
              have HRT := Lib.hid (And.intro hr2 (And.intro hkr2 hln))
              unfold Tup.val at HIN HRI HOU HRO
              unfold Fl.val Fl.arr at HFL HRF
              have k1 : wc.cell? ⟨bo, 1, none⟩ = some (.int .u64 x.id) := cell_of HP2.out.2 1
              have k2 : wc.cell? ⟨bo, 2, none⟩ = some (.int .u8 x.a.proto) := cell_of HP2.out.2 2
              have k3 : wc.cell? ⟨bo, 3, none⟩ = some (.int .u32 x.a.src) := cell_of HP2.out.2 3
              have k4 : wc.cell? ⟨bo, 4, none⟩ = some (.int .u32 x.a.dst) := cell_of HP2.out.2 4
              have k5 : wc.cell? ⟨bo, 5, none⟩ = some (.int .u16 x.a.sp) := cell_of HP2.out.2 5
              have k6 : wc.cell? ⟨bo, 6, none⟩ = some (.int .u16 x.a.dp) := cell_of HP2.out.2 6
              have k7 : wc.cell? ⟨bo, 7, none⟩ = some (.int .u8 x.b.proto) := cell_of HP2.out.2 7
              have k8 : wc.cell? ⟨bo, 8, none⟩ = some (.int .u32 x.b.src) := cell_of HP2.out.2 8
              have k9 : wc.cell? ⟨bo, 9, none⟩ = some (.int .u32 x.b.dst) := cell_of HP2.out.2 9
              have k10 : wc.cell? ⟨bo, 10, none⟩ = some (.int .u16 x.b.sp) := cell_of HP2.out.2 10
              have k11 : wc.cell? ⟨bo, 11, none⟩ = some (.int .u16 x.b.dp) := cell_of HP2.out.2 11
              clear hP2 hbo2 hok hr2 hkr2 hf hff hIN hOU hib hob hln
              go_wp2_with fail
              refine (HIN.out _ (Below.refl wc.heap.size wc)).mono ?_
              rintro e V0 ⟨rfl, hb⟩
              have HS0 := Lib.hid ((Below.refl wc.heap.size wc).trans (hb.mono (Below.refl wc.heap.size wc).size))
              have hbo := (HS0.out.block bo (Array.getElem?_eq_some_iff.1 HP2.out.2).1).trans HP2.out.2
              have l1 : V0.cell? ⟨bo, 1, none⟩ = some (.int .u64 x.id) := cell_of hbo 1
              have l2 : V0.cell? ⟨bo, 2, none⟩ = some (.int .u8 x.a.proto) := cell_of hbo 2
              have l3 : V0.cell? ⟨bo, 3, none⟩ = some (.int .u32 x.a.src) := cell_of hbo 3
              have l4 : V0.cell? ⟨bo, 4, none⟩ = some (.int .u32 x.a.dst) := cell_of hbo 4
              have l5 : V0.cell? ⟨bo, 5, none⟩ = some (.int .u16 x.a.sp) := cell_of hbo 5
              have l6 : V0.cell? ⟨bo, 6, none⟩ = some (.int .u16 x.a.dp) := cell_of hbo 6
              have l7 : V0.cell? ⟨bo, 7, none⟩ = some (.int .u8 x.b.proto) := cell_of hbo 7
              have l8 : V0.cell? ⟨bo, 8, none⟩ = some (.int .u32 x.b.src) := cell_of hbo 8
              have l9 : V0.cell? ⟨bo, 9, none⟩ = some (.int .u32 x.b.dst) := cell_of hbo 9
              have l10 : V0.cell? ⟨bo, 10, none⟩ = some (.int .u16 x.b.sp) := cell_of hbo 10
              have l11 : V0.cell? ⟨bo, 11, none⟩ = some (.int .u16 x.b.dp) := cell_of hbo 11
              clear hb hbo k1 k2 k3 k4 k5 k6 k7 k8 k9 k10 k11
              go_wp2_with fail
              refine (HRI.out _ HS0.out).mono ?_
              rintro e V1 ⟨rfl, hb⟩
              have HS1 := Lib.hid (HS0.out.trans (hb.mono HS0.out.size))
              have hbo := (HS1.out.block bo (Array.getElem?_eq_some_iff.1 HP2.out.2).1).trans HP2.out.2
              have m1 : V1.cell? ⟨bo, 1, none⟩ = some (.int .u64 x.id) := cell_of hbo 1
              have m2 : V1.cell? ⟨bo, 2, none⟩ = some (.int .u8 x.a.proto) := cell_of hbo 2
              have m3 : V1.cell? ⟨bo, 3, none⟩ = some (.int .u32 x.a.src) := cell_of hbo 3
              have m4 : V1.cell? ⟨bo, 4, none⟩ = some (.int .u32 x.a.dst) := cell_of hbo 4
              have m5 : V1.cell? ⟨bo, 5, none⟩ = some (.int .u16 x.a.sp) := cell_of hbo 5
              have m6 : V1.cell? ⟨bo, 6, none⟩ = some (.int .u16 x.a.dp) := cell_of hbo 6
              have m7 : V1.cell? ⟨bo, 7, none⟩ = some (.int .u8 x.b.proto) := cell_of hbo 7
              have m8 : V1.cell? ⟨bo, 8, none⟩ = some (.int .u32 x.b.src) := cell_of hbo 8
              have m9 : V1.cell? ⟨bo, 9, none⟩ = some (.int .u32 x.b.dst) := cell_of hbo 9
              have m10 : V1.cell? ⟨bo, 10, none⟩ = some (.int .u16 x.b.sp) := cell_of hbo 10
              have m11 : V1.cell? ⟨bo, 11, none⟩ = some (.int .u16 x.b.dp) := cell_of hbo 11
              clear hb hbo l1 l2 l3 l4 l5 l6 l7 l8 l9 l10 l11
              go_wp2_with fail
              refine (HOU.out _ HS1.out).mono ?_
              rintro e V2 ⟨rfl, hb⟩
              have HS2 := Lib.hid (HS1.out.trans (hb.mono HS1.out.size))
              have hbo := (HS2.out.block bo (Array.getElem?_eq_some_iff.1 HP2.out.2).1).trans HP2.out.2
              have o1 : V2.cell? ⟨bo, 1, none⟩ = some (.int .u64 x.id) := cell_of hbo 1
              have o2 : V2.cell? ⟨bo, 2, none⟩ = some (.int .u8 x.a.proto) := cell_of hbo 2
              have o3 : V2.cell? ⟨bo, 3, none⟩ = some (.int .u32 x.a.src) := cell_of hbo 3
              have o4 : V2.cell? ⟨bo, 4, none⟩ = some (.int .u32 x.a.dst) := cell_of hbo 4
              have o5 : V2.cell? ⟨bo, 5, none⟩ = some (.int .u16 x.a.sp) := cell_of hbo 5
              have o6 : V2.cell? ⟨bo, 6, none⟩ = some (.int .u16 x.a.dp) := cell_of hbo 6
              have o7 : V2.cell? ⟨bo, 7, none⟩ = some (.int .u8 x.b.proto) := cell_of hbo 7
              have o8 : V2.cell? ⟨bo, 8, none⟩ = some (.int .u32 x.b.src) := cell_of hbo 8
              have o9 : V2.cell? ⟨bo, 9, none⟩ = some (.int .u32 x.b.dst) := cell_of hbo 9
              have o10 : V2.cell? ⟨bo, 10, none⟩ = some (.int .u16 x.b.sp) := cell_of hbo 10
              have o11 : V2.cell? ⟨bo, 11, none⟩ = some (.int .u16 x.b.dp) := cell_of hbo 11
              clear hb hbo m1 m2 m3 m4 m5 m6 m7 m8 m9 m10 m11
              go_wp2_with fail
              refine (HRO.out _ HS2.out).mono ?_
              rintro e V3 ⟨rfl, hb⟩
              have HS3 := Lib.hid (HS2.out.trans (hb.mono HS2.out.size))
              have hbo := (HS3.out.block bo (Array.getElem?_eq_some_iff.1 HP2.out.2).1).trans HP2.out.2
              have p1 : V3.cell? ⟨bo, 1, none⟩ = some (.int .u64 x.id) := cell_of hbo 1
              have p2 : V3.cell? ⟨bo, 2, none⟩ = some (.int .u8 x.a.proto) := cell_of hbo 2
              have p3 : V3.cell? ⟨bo, 3, none⟩ = some (.int .u32 x.a.src) := cell_of hbo 3
              have p4 : V3.cell? ⟨bo, 4, none⟩ = some (.int .u32 x.a.dst) := cell_of hbo 4
              have p5 : V3.cell? ⟨bo, 5, none⟩ = some (.int .u16 x.a.sp) := cell_of hbo 5
              have p6 : V3.cell? ⟨bo, 6, none⟩ = some (.int .u16 x.a.dp) := cell_of hbo 6
              have p7 : V3.cell? ⟨bo, 7, none⟩ = some (.int .u8 x.b.proto) := cell_of hbo 7
              have p8 : V3.cell? ⟨bo, 8, none⟩ = some (.int .u32 x.b.src) := cell_of hbo 8
              have p9 : V3.cell? ⟨bo, 9, none⟩ = some (.int .u32 x.b.dst) := cell_of hbo 9
              have p10 : V3.cell? ⟨bo, 10, none⟩ = some (.int .u16 x.b.sp) := cell_of hbo 10
              have p11 : V3.cell? ⟨bo, 11, none⟩ = some (.int .u16 x.b.dp) := cell_of hbo 11
              clear hb hbo o1 o2 o3 o4 o5 o6 o7 o8 o9 o10 o11
              go_wp2_with fail
              refine (HFL.out _ HS3.out).mono ?_
              rintro e V4 ⟨rfl, hb⟩
              have HS4 := Lib.hid (HS3.out.trans (hb.mono HS3.out.size))
              clear hb p1 p2 p3 p4 p5 p6 p7 p8 p9 p10 p11
              obtain ⟨q1, hqq1⟩ : ∃ q1, V4.heap.size = q1 := ⟨_, rfl⟩
              go_upto_region 39 with (fail)
              refine wp_name fun X4 hX4 => ?_
              have hB4 : Below wc.heap.size wc X4 := by rw [hX4]; exact HS4.out.alloc HS4.out.size _
              have hq1 : X4.heap[q1]? = some (.cells f.arr 38 (0, 0)) := by rw [hX4, ← hqq1]; exact heap_alloc_new V4 _
              have hbo := (hB4.block bo (Array.getElem?_eq_some_iff.1 HP2.out.2).1).trans HP2.out.2
              have r1 : X4.cell? ⟨bo, 1, none⟩ = some (.int .u64 x.id) := cell_of hbo 1
              have HX4 := Lib.hid (And.intro hB4 hq1)
              clear hB4 hq1 hbo hX4 hqq1
              go_wp2_with fail
              refine (HRF.out _ HX4.out.1).mono ?_
              rintro e V5 ⟨rfl, hb⟩
              have HS5 := Lib.hid (And.intro (HX4.out.1.trans (hb.mono HX4.out.1.size)) (And.intro trivial ((hb.block _ (Array.getElem?_eq_some_iff.1 HX4.out.2).1).trans HX4.out.2)))
              clear hb r1
              go_upto_region 40 with (fail)
              refine wp_name fun W hW => ?_
              have hBW : Below wc.heap.size wc W := by rw [hW]; exact HS5.out.1.alloc HS5.out.1.size _
              have hq2 : W.heap[V5.heap.size]? = some (.cells f.arr 62 (0, 0)) := by rw [hW]; exact heap_alloc_new V5 _
              have hq1 : W.heap[q1]? = some (.cells f.arr 38 (0, 0)) := by rw [hW]; exact (((Below.refl V5.heap.size V5).alloc (Nat.le_refl _) _).block _ (Array.getElem?_eq_some_iff.1 HS5.out.2.2).1).trans HS5.out.2.2
              obtain ⟨q2, hqq2⟩ : ∃ q2, V5.heap.size = q2 := ⟨_, rfl⟩
              rw [hqq2] at hq2
              rw [hqq2]
              have y0 : W.cell? ⟨q1, 0, none⟩ = some (.int .u64 f.id) := cell_of hq1 0
              have y1 : W.cell? ⟨q1, 1, none⟩ = some (.int .u8 f.inn.proto) := cell_of hq1 1
              have y2 : W.cell? ⟨q1, 2, none⟩ = some (.int .u32 f.inn.src) := cell_of hq1 2
              have y3 : W.cell? ⟨q1, 3, none⟩ = some (.int .u32 f.inn.dst) := cell_of hq1 3
              have y4 : W.cell? ⟨q1, 4, none⟩ = some (.int .u16 f.inn.sp) := cell_of hq1 4
              have y5 : W.cell? ⟨q1, 5, none⟩ = some (.int .u16 f.inn.dp) := cell_of hq1 5
              have y6 : W.cell? ⟨q1, 6, none⟩ = some (.int .u8 f.out.proto) := cell_of hq1 6
              have y7 : W.cell? ⟨q1, 7, none⟩ = some (.int .u32 f.out.src) := cell_of hq1 7
              have y8 : W.cell? ⟨q1, 8, none⟩ = some (.int .u32 f.out.dst) := cell_of hq1 8
              have y9 : W.cell? ⟨q1, 9, none⟩ = some (.int .u16 f.out.sp) := cell_of hq1 9
              have y10 : W.cell? ⟨q1, 10, none⟩ = some (.int .u16 f.out.dp) := cell_of hq1 10
              have y11 : W.cell? ⟨q1, 11, none⟩ = some (.bool f.emb) := cell_of hq1 11
              have z0 : W.cell? ⟨q2, 0, none⟩ = some (.int .u64 f.id) := cell_of hq2 0
              have z1 : W.cell? ⟨q2, 1, none⟩ = some (.int .u8 f.inn.proto) := cell_of hq2 1
              have z2 : W.cell? ⟨q2, 2, none⟩ = some (.int .u32 f.inn.src) := cell_of hq2 2
              have z3 : W.cell? ⟨q2, 3, none⟩ = some (.int .u32 f.inn.dst) := cell_of hq2 3
              have z4 : W.cell? ⟨q2, 4, none⟩ = some (.int .u16 f.inn.sp) := cell_of hq2 4
              have z5 : W.cell? ⟨q2, 5, none⟩ = some (.int .u16 f.inn.dp) := cell_of hq2 5
              have z6 : W.cell? ⟨q2, 6, none⟩ = some (.int .u8 f.out.proto) := cell_of hq2 6
              have z7 : W.cell? ⟨q2, 7, none⟩ = some (.int .u32 f.out.src) := cell_of hq2 7
              have z8 : W.cell? ⟨q2, 8, none⟩ = some (.int .u32 f.out.dst) := cell_of hq2 8
              have z9 : W.cell? ⟨q2, 9, none⟩ = some (.int .u16 f.out.sp) := cell_of hq2 9
              have z10 : W.cell? ⟨q2, 10, none⟩ = some (.int .u16 f.out.dp) := cell_of hq2 10
              have z11 : W.cell? ⟨q2, 11, none⟩ = some (.bool f.emb) := cell_of hq2 11
              have hrW := HRT.out.1.below hBW
              have c0 := hrW.c0
              rw [HRT.out.2.2] at c0
              have En : ∀ W, (binOp .neq 38 f.val f.val).run Try.prog W = Result.ok (.bool false) W := fl_neq0 f
              unfold Fl.val Fl.arr at En
              have HWW := Lib.hid (And.intro hBW (And.intro hq1 hq2))
              clear hBW hq1 hq2 hrW hW hqq2
              go_region_held3 (fun w' => w'.cell? ⟨h, 0, none⟩ = some (.slice A2 ln c2) ∧ w'.cell? ⟨q1, 0, none⟩ = some (.int .u64 f.id) ∧ w'.cell? ⟨q1, 1, none⟩ = some (.int .u8 f.inn.proto) ∧ w'.cell? ⟨q1, 2, none⟩ = some (.int .u32 f.inn.src) ∧ w'.cell? ⟨q1, 3, none⟩ = some (.int .u32 f.inn.dst) ∧ w'.cell? ⟨q1, 4, none⟩ = some (.int .u16 f.inn.sp) ∧ w'.cell? ⟨q1, 5, none⟩ = some (.int .u16 f.inn.dp) ∧ w'.cell? ⟨q1, 6, none⟩ = some (.int .u8 f.out.proto) ∧ w'.cell? ⟨q1, 7, none⟩ = some (.int .u32 f.out.src) ∧ w'.cell? ⟨q1, 8, none⟩ = some (.int .u32 f.out.dst) ∧ w'.cell? ⟨q1, 9, none⟩ = some (.int .u16 f.out.sp) ∧ w'.cell? ⟨q1, 10, none⟩ = some (.int .u16 f.out.dp) ∧ w'.cell? ⟨q1, 11, none⟩ = some (.bool f.emb) ∧ w'.cell? ⟨q2, 0, none⟩ = some (.int .u64 f.id) ∧ w'.cell? ⟨q2, 1, none⟩ = some (.int .u8 f.inn.proto) ∧ w'.cell? ⟨q2, 2, none⟩ = some (.int .u32 f.inn.src) ∧ w'.cell? ⟨q2, 3, none⟩ = some (.int .u32 f.inn.dst) ∧ w'.cell? ⟨q2, 4, none⟩ = some (.int .u16 f.inn.sp) ∧ w'.cell? ⟨q2, 5, none⟩ = some (.int .u16 f.inn.dp) ∧ w'.cell? ⟨q2, 6, none⟩ = some (.int .u8 f.out.proto) ∧ w'.cell? ⟨q2, 7, none⟩ = some (.int .u32 f.out.src) ∧ w'.cell? ⟨q2, 8, none⟩ = some (.int .u32 f.out.dst) ∧ w'.cell? ⟨q2, 9, none⟩ = some (.int .u16 f.out.sp) ∧ w'.cell? ⟨q2, 10, none⟩ = some (.int .u16 f.out.dp) ∧ w'.cell? ⟨q2, 11, none⟩ = some (.bool f.emb)) (go_keep)
                (first
                  | (go_at_call 14; refine (HLEN.out W.drew HWW.out.1.drew).mono ?_; rintro e V6 ⟨rfl, rfl⟩)
                  | (go_at_call 19; refine (HALL.out W.drew HWW.out.1.drew).mono ?_; rintro e V6 ⟨v, rfl, ho6, hb6⟩; obtain ⟨A3, c3, rfl⟩ := own_len ho6; have hB6 : Below W.heap.size W V6 := (Below.refl _ _).drew.trans hb6; have hB6' : Below wc.heap.size wc V6 := HWW.out.1.trans (hB6.mono HWW.out.1.size); have c6 : V6.cell? ⟨h, 0, none⟩ = some (.slice A2 ln c2) := by { have q := (HRT.out.1.below hB6').c0; rw [HRT.out.2.2] at q; exact q }; have r1 := (hB6.block _ (Array.getElem?_eq_some_iff.1 HWW.out.2.1).1).trans HWW.out.2.1; have r2 := (hB6.block _ (Array.getElem?_eq_some_iff.1 HWW.out.2.2).1).trans HWW.out.2.2; have a0 : V6.cell? ⟨q1, 0, none⟩ = some (.int .u64 f.id) := cell_of r1 0; have a1 : V6.cell? ⟨q1, 1, none⟩ = some (.int .u8 f.inn.proto) := cell_of r1 1; have a2 : V6.cell? ⟨q1, 2, none⟩ = some (.int .u32 f.inn.src) := cell_of r1 2; have a3 : V6.cell? ⟨q1, 3, none⟩ = some (.int .u32 f.inn.dst) := cell_of r1 3; have a4 : V6.cell? ⟨q1, 4, none⟩ = some (.int .u16 f.inn.sp) := cell_of r1 4; have a5 : V6.cell? ⟨q1, 5, none⟩ = some (.int .u16 f.inn.dp) := cell_of r1 5; have a6 : V6.cell? ⟨q1, 6, none⟩ = some (.int .u8 f.out.proto) := cell_of r1 6; have a7 : V6.cell? ⟨q1, 7, none⟩ = some (.int .u32 f.out.src) := cell_of r1 7; have a8 : V6.cell? ⟨q1, 8, none⟩ = some (.int .u32 f.out.dst) := cell_of r1 8; have a9 : V6.cell? ⟨q1, 9, none⟩ = some (.int .u16 f.out.sp) := cell_of r1 9; have a10 : V6.cell? ⟨q1, 10, none⟩ = some (.int .u16 f.out.dp) := cell_of r1 10; have a11 : V6.cell? ⟨q1, 11, none⟩ = some (.bool f.emb) := cell_of r1 11; have b0 : V6.cell? ⟨q2, 0, none⟩ = some (.int .u64 f.id) := cell_of r2 0; have b1 : V6.cell? ⟨q2, 1, none⟩ = some (.int .u8 f.inn.proto) := cell_of r2 1; have b2 : V6.cell? ⟨q2, 2, none⟩ = some (.int .u32 f.inn.src) := cell_of r2 2; have b3 : V6.cell? ⟨q2, 3, none⟩ = some (.int .u32 f.inn.dst) := cell_of r2 3; have b4 : V6.cell? ⟨q2, 4, none⟩ = some (.int .u16 f.inn.sp) := cell_of r2 4; have b5 : V6.cell? ⟨q2, 5, none⟩ = some (.int .u16 f.inn.dp) := cell_of r2 5; have b6 : V6.cell? ⟨q2, 6, none⟩ = some (.int .u8 f.out.proto) := cell_of r2 6; have b7 : V6.cell? ⟨q2, 7, none⟩ = some (.int .u32 f.out.src) := cell_of r2 7; have b8 : V6.cell? ⟨q2, 8, none⟩ = some (.int .u32 f.out.dst) := cell_of r2 8; have b9 : V6.cell? ⟨q2, 9, none⟩ = some (.int .u16 f.out.sp) := cell_of r2 9; have b10 : V6.cell? ⟨q2, 10, none⟩ = some (.int .u16 f.out.dp) := cell_of r2 10; have b11 : V6.cell? ⟨q2, 11, none⟩ = some (.bool f.emb) := cell_of r2 11; have HSM := Lib.hid (same_any A3 A2 c3 c2 ln s'.L HRT.out.2.2 (by omega) (FlsAt.own (by rw [HRT.out.2.2]; exact ho6)) (HRT.out.1.below hB6').fls))
                  | (go_at_call 31; refine HSM.out.mono ?_; rintro e V7 ⟨rfl, hb7⟩; have hB7 : Below W.heap.size W V7 := hB6.trans (hb7.mono hB6.size); have hB7' : Below wc.heap.size wc V7 := HWW.out.1.trans (hB7.mono HWW.out.1.size); have c7 : V7.cell? ⟨h, 0, none⟩ = some (.slice A2 ln c2) := by { have q := (HRT.out.1.below hB7').c0; rw [HRT.out.2.2] at q; exact q }; have s1 := (hB7.block _ (Array.getElem?_eq_some_iff.1 HWW.out.2.1).1).trans HWW.out.2.1; have s2 := (hB7.block _ (Array.getElem?_eq_some_iff.1 HWW.out.2.2).1).trans HWW.out.2.2; have d0 : V7.cell? ⟨q1, 0, none⟩ = some (.int .u64 f.id) := cell_of s1 0; have d1 : V7.cell? ⟨q1, 1, none⟩ = some (.int .u8 f.inn.proto) := cell_of s1 1; have d2 : V7.cell? ⟨q1, 2, none⟩ = some (.int .u32 f.inn.src) := cell_of s1 2; have d3 : V7.cell? ⟨q1, 3, none⟩ = some (.int .u32 f.inn.dst) := cell_of s1 3; have d4 : V7.cell? ⟨q1, 4, none⟩ = some (.int .u16 f.inn.sp) := cell_of s1 4; have d5 : V7.cell? ⟨q1, 5, none⟩ = some (.int .u16 f.inn.dp) := cell_of s1 5; have d6 : V7.cell? ⟨q1, 6, none⟩ = some (.int .u8 f.out.proto) := cell_of s1 6; have d7 : V7.cell? ⟨q1, 7, none⟩ = some (.int .u32 f.out.src) := cell_of s1 7; have d8 : V7.cell? ⟨q1, 8, none⟩ = some (.int .u32 f.out.dst) := cell_of s1 8; have d9 : V7.cell? ⟨q1, 9, none⟩ = some (.int .u16 f.out.sp) := cell_of s1 9; have d10 : V7.cell? ⟨q1, 10, none⟩ = some (.int .u16 f.out.dp) := cell_of s1 10; have d11 : V7.cell? ⟨q1, 11, none⟩ = some (.bool f.emb) := cell_of s1 11; have fz0 : V7.cell? ⟨q2, 0, none⟩ = some (.int .u64 f.id) := cell_of s2 0; have fz1 : V7.cell? ⟨q2, 1, none⟩ = some (.int .u8 f.inn.proto) := cell_of s2 1; have fz2 : V7.cell? ⟨q2, 2, none⟩ = some (.int .u32 f.inn.src) := cell_of s2 2; have fz3 : V7.cell? ⟨q2, 3, none⟩ = some (.int .u32 f.inn.dst) := cell_of s2 3; have fz4 : V7.cell? ⟨q2, 4, none⟩ = some (.int .u16 f.inn.sp) := cell_of s2 4; have fz5 : V7.cell? ⟨q2, 5, none⟩ = some (.int .u16 f.inn.dp) := cell_of s2 5; have fz6 : V7.cell? ⟨q2, 6, none⟩ = some (.int .u8 f.out.proto) := cell_of s2 6; have fz7 : V7.cell? ⟨q2, 7, none⟩ = some (.int .u32 f.out.src) := cell_of s2 7; have fz8 : V7.cell? ⟨q2, 8, none⟩ = some (.int .u32 f.out.dst) := cell_of s2 8; have fz9 : V7.cell? ⟨q2, 9, none⟩ = some (.int .u16 f.out.sp) := cell_of s2 9; have fz10 : V7.cell? ⟨q2, 10, none⟩ = some (.int .u16 f.out.dp) := cell_of s2 10; have fz11 : V7.cell? ⟨q2, 11, none⟩ = some (.bool f.emb) := cell_of s2 11))
              go_wp2_with fail
              go_roundw
              case rel => exact ⟨i + 1, g', e1, e2, N', s', rfl, by simp, by omega, by omega, hN', hl', HP2.out.1.below hB7'⟩
              case measure => simp [intOf]; omega
      · obtain rfl : i = n := by omega
        go_wp2_with fail
        go_ret
        exact ⟨rfl, hbelR⟩
end Go.Proofs.Ytdpomneoiagpiaa
