/- WheelOrder, walked. -/
import Derived.Test.YtdebaoimhijnkaaOdLaw
import Derived.Deep.DeepCutAuto
import Derived.Deep.CutBlock
set_option linter.unusedVariables false
namespace Go.Proofs.Ytdebaoimhijnkaa
open Go.RowKit Go.Deep Go.BigFrame
attribute [local go_sem ↓] Go.wp_at_zero Go.wp_at_succ
set_option maxHeartbeats 32000000
set_option maxRecDepth 100000
theorem order_walk (A : Option Addr) (n cp : Nat) (ts0 : List Int) (k8 ag : Int) (w : World) (hn : ts0.length = n) (hN : Nums .u16 w A ts0) (hwf : ∀ x ∈ ts0, (Lit.int .u16 x).wf = true) (hcp : n ≤ cp) (hmx : cp ≤ maxLen)
    (hk8 : (Lit.int .u8 k8).wf = true) (hag0 : (Lit.int .u16 ag).wf = true) :
    Calls Try.prog 6 #[.slice A n cp, .int .u8 k8, .int .u16 ag] w fun e w' => e = .returned (.bool true) ∧ Below w.heap.size w w' := by
  obtain ⟨m, hm⟩ : ∃ m : Nat, min (n : Int) 40 = m := ⟨min n 40, by omega⟩
  have hmn : m ≤ n ∧ m ≤ 40 := by omega
  obtain ⟨ts, hts⟩ : ∃ ts, ts0.take m = ts := ⟨_, rfl⟩
  have hl : ts.length = m := by rw [← hts, List.length_take]; omega
  have HT := Lib.hid (And.intro hl (And.intro (show Nums .u16 w A ts by rw [← hts]; exact hN.took m) (show ∀ x ∈ ts, (Lit.int .u16 x).wf = true from fun x hx => hwf x (List.mem_of_mem_take (by rw [hts]; exact hx)))))
  have hag := bd_u16 hag0
  have hkb := bd_u8 hk8
  have hm0 : m ≤ 40 := hmn.2
  have hmc : m ≤ cp := by omega
  clear hn hN hwf hts hl hmn hag0 hk8
  go_enter Try.func6, Try.ntmps6
  go_wp2_with fail
  clear hm
  refine (new_any w).mono ?_
  rintro e W1 ⟨g1, b1, rfl, hw1, hb1, p1, p2⟩
  have H1 := Lib.hid (And.intro hw1 (And.intro hb1 (And.intro p1 p2)))
  clear hw1 hb1 p1 p2
  go_wp2_with fail
  refine (new_any W1).mono ?_
  rintro e W2 ⟨g2, b2, rfl, hw2, hb2, p1, p2⟩
  have HG : Hid ((w.heap.size ≤ g1 ∧ w.heap.size ≤ b1) ∧ (w.heap.size ≤ g2 ∧ w.heap.size ≤ b2) ∧ g1 ≠ g2 ∧ b1 ≠ b2) := Lib.hid ⟨H1.out.2.2, ⟨Nat.le_trans H1.out.2.1.size p1, Nat.le_trans H1.out.2.1.size p2⟩, by have := H1.out.1.glt; omega, by have := H1.out.1.blt; omega⟩
  have H2 : Hid (Wh W2 g1 b1 0 ⟨0, []⟩ ∧ Wh W2 g2 b2 0 ⟨0, []⟩ ∧ Below w.heap.size w W2) := Lib.hid ⟨H1.out.1.below hb2, hw2, H1.out.2.1.trans (hb2.mono H1.out.2.1.size)⟩
  clear hw2 hb2 p1 p2 H1
  go_wp2_with fail
  go_loopw [9] (fun v9 wr => ∃ (i : Nat) (L1 L2 : List Al), v9 = .int .i64 i ∧ i ≤ m ∧ Hid (Wh wr g1 b1 i ⟨0, L1⟩ ∧ Wh wr g2 b2 i ⟨0, L2⟩ ∧ Below w.heap.size w wr ∧ L1.Perm (al ts i) ∧ L2.Perm (alr ts m i))) (fun v9 _ => m - (intOf v9).toNat)
  case atStart => exact ⟨0, [], [], rfl, Nat.zero_le _, Lib.hid ⟨H2.out.1, H2.out.2.1, H2.out.2.2, List.Perm.refl _, List.Perm.refl _⟩⟩
  case round =>
    obtain ⟨i, L1, L2, rfl, hi, hR⟩ := hrel
    by_cases hlt : i < m
    · as_aux_lemma =>
      obtain ⟨x, hx⟩ : ∃ x, ts[i]? = some x := ⟨_, List.getElem?_eq_getElem (by rw [HT.out.1]; exact hlt)⟩
      obtain ⟨q, hq⟩ : ∃ q : Nat, m - 1 - i = q := ⟨_, rfl⟩
      have hqm : q < m := by omega
      have hqe : (m : Int) - 1 - (i : Int) = (q : Int) := by omega
      obtain ⟨y, hy⟩ : ∃ y, ts[q]? = some y := ⟨_, List.getElem?_eq_getElem (by rw [HT.out.1]; exact hqm)⟩
      have hxb := bd_u16 (HT.out.2.2 x (List.mem_of_getElem? hx))
      have hyb := bd_u16 (HT.out.2.2 y (List.mem_of_getElem? hy))
      have hxd : ts.getD i 0 = x := by simp [List.getD, hx]
      have hyd : ts.getD q 0 = y := by simp [List.getD, hy]
      obtain ⟨b, o, rfl, hbl, c0⟩ := (HT.out.2.1.below hR.out.2.2.1) i x hx
      have hwi : (Lit.int .u64 (i : Int)).wf = true := wf64 (by omega) (by omega)
      have hwq : (Lit.int .u64 (q : Int)).wf = true := wf64 (by omega) (by omega)
      have HS := Lib.hid (set_ok (s := ⟨0, L1⟩) hR.out.1 (i : Int) x hwi hxb.1 (by omega) (by omega))
      have HXD := Lib.hid (And.intro hx (And.intro hxd (And.intro hy (And.intro hyd (And.intro hq hqe)))))
      clear hx hxd hy hyd hq hqe
      go_upto_region 7 with (fail)
      rw [HXD.out.2.2.2.2.2]
      go_wp2_with fail
      refine HS.out.mono ?_
      rintro e V ⟨rfl, hv, tv⟩
      have hV : Hid (Wh V g1 b1 (i + 1) (setS ⟨0, L1⟩ (i : Int) x) ∧ Wh V g2 b2 i ⟨0, L2⟩ ∧ Below w.heap.size w V ∧ (setS ⟨0, L1⟩ (i : Int) x).L.Perm (al ts (i + 1))) := Lib.hid ⟨hv, hR.out.2.1.other hR.out.1 (fun e => HG.out.2.2.1 e.symm) (fun e => HG.out.2.2.2 e.symm) tv, below_turns hR.out.2.2.1 tv HG.out.1.1 HG.out.1.2, by
        rw [al_succ, HXD.out.2.1]
        exact set_permG (s := ⟨0, L1⟩) hR.out.2.2.2.1 al_ne x⟩
      have d0 : V.cell? ⟨b, o + q, none⟩ = some (.int .u16 y) := by
        have := HT.out.2.1.below hV.out.2.2.1
        obtain ⟨b', o', e', _, c'⟩ := this q y HXD.out.2.2.1
        cases e'
        exact c'
      clear hv tv c0 HS
      have HS := Lib.hid (set_ok (s := ⟨0, L2⟩) hV.out.2.1 (q : Int) y hwq hyb.1 (by omega) (by omega))
      go_wp2_with fail
      refine HS.out.mono ?_
      rintro e Z ⟨rfl, hz, tz⟩
      have hZ : Hid (Wh Z g1 b1 (i + 1) (setS ⟨0, L1⟩ (i : Int) x) ∧ Wh Z g2 b2 (i + 1) (setS ⟨0, L2⟩ (q : Int) y) ∧ Below w.heap.size w Z ∧ (setS ⟨0, L1⟩ (i : Int) x).L.Perm (al ts (i + 1)) ∧ (setS ⟨0, L2⟩ (q : Int) y).L.Perm (alr ts m (i + 1))) := Lib.hid ⟨hV.out.1.other hV.out.2.1 HG.out.2.2.1 HG.out.2.2.2 tz, hz, below_turns hV.out.2.2.1 tz HG.out.2.1.1 HG.out.2.1.2, hV.out.2.2.2, by
        rw [alr_succ, HXD.out.2.2.2.2.1, HXD.out.2.2.2.1]
        refine set_permG (s := ⟨0, L2⟩) hR.out.2.2.2.2 ?_ y
        rw [← HXD.out.2.2.2.2.1]
        exact alr_new hlt⟩
      clear hz tz d0
      go_wp2_with fail
      go_roundw
      case rel => exact ⟨i + 1, _, _, by simp, by omega, hZ⟩
      case measure => simp [intOf]; omega
    · obtain rfl : i = m := by omega
      have hL : L1 = L2 := both_same (s := ⟨0, L1⟩) (t := ⟨0, L2⟩) hR.out.1.ok hR.out.2.1.ok hR.out.2.2.2.1 hR.out.2.2.2.2
      subst hL
      have hmem : ∀ a ∈ L1, ∃ j : Nat, j < i ∧ a = ⟨(j : Int), ts.getD j 0⟩ := fun a ha => al_mem.1 (hR.out.2.2.2.1.subset ha)
      have HM := Lib.hid hmem
      clear hmem
      by_cases hi0 : i = 0
      · subst hi0
        as_aux_lemma =>
        go_wp2_with fail
        refine (wakes_any wr).mono ?_
        rintro e Z ⟨rfl, hz⟩
        have HZ := Lib.hid (hR.out.2.2.1.trans (hz.mono hR.out.2.2.1.size))
        clear hz
        go_wp2_with fail
        go_ret
        exact ⟨rfl, HZ.out⟩
      · obtain ⟨k, hk⟩ : ∃ k : Nat, k8 % (i : Int) = k := ⟨(k8 % (i : Int)).toNat, by have := Int.emod_nonneg k8 (show (i : Int) ≠ 0 by omega); omega⟩
        have hki : k < i := by have := Int.emod_lt_of_pos k8 (show (0 : Int) < i by omega); omega
        have h1 : 1 ≤ i := by omega
        have hi1 : ((i : Int) == 0) = false := by simp; omega
        have hkw : IntKind.u64.wrap (k8 % (i : Int)) = (k : Int) := by rw [hk]; exact IntWalk.u64_in _ (by omega)
        have HKE := Lib.hid (And.intro hk hkw)
        have hkwf : (Lit.int .u64 (k : Int)).wf = true := wf64 (by omega) (by omega)
        obtain ⟨x0, hx0⟩ : ∃ x, ts[k]? = some x := ⟨_, List.getElem?_eq_getElem (by rw [HT.out.1]; exact hki)⟩
        have hfound : findA L1 (k : Int) = some ⟨(k : Int), x0⟩ := by
          have hin : (⟨(k : Int), x0⟩ : Al) ∈ L1 := by
            rw [hR.out.2.2.2.1.mem_iff, al_mem]
            exact ⟨k, hki, by simp [List.getD, hx0]⟩
          exact findA_mem hR.out.1.ok.als.2 hin
        obtain ⟨S, hS⟩ : ∃ S, dropA L1 (k : Int) = S := ⟨_, rfl⟩
        obtain ⟨C, hC⟩ : ∃ C, insL S ⟨(k : Int), ag⟩ = C := ⟨_, rfl⟩
        have hSS : dropA S (k : Int) = S := by rw [← hS, drop_drop]
        have HF : Hid (findA L1 (k : Int) = some ⟨(k : Int), x0⟩ ∧ dropA L1 (k : Int) = S ∧ insL S ⟨(k : Int), ag⟩ = C ∧ dropA S (k : Int) = S) := Lib.hid ⟨hfound, hS, hC, hSS⟩
        clear hk hkw hx0 hfound hS hC hSS
        go_upto_region 12 with (fail)
        first | rw [HKE.out.2] | rw [HKE.out.1]
        clear hi1
        as_aux_lemma =>
        go_wp2_with fail
        refine (copy_any hR.out.1).mono ?_
        rintro e V1 ⟨g3, b3, rfl, hw3, hb3, p3, p4⟩
        have HG3 : Hid ((w.heap.size ≤ g3 ∧ w.heap.size ≤ b3) ∧ g1 ≠ g3 ∧ b1 ≠ b3 ∧ g2 ≠ g3 ∧ b2 ≠ b3) := Lib.hid ⟨⟨Nat.le_trans hR.out.2.2.1.size p3, Nat.le_trans hR.out.2.2.1.size p4⟩, by have := hR.out.1.glt; omega, by have := hR.out.1.blt; omega, by have := hR.out.2.1.glt; omega, by have := hR.out.2.1.blt; omega⟩
        have HV1 : Hid (Wh V1 g1 b1 i ⟨0, L1⟩ ∧ Wh V1 g2 b2 i ⟨0, L1⟩ ∧ Wh V1 g3 b3 i ⟨0, L1⟩ ∧ Below w.heap.size w V1) := Lib.hid ⟨hR.out.1.below hb3, hR.out.2.1.below hb3, hw3, hR.out.2.2.1.trans (hb3.mono hR.out.2.2.1.size)⟩
        clear hw3 hb3 p3 p4 hR
        have HA := Lib.hid (stop_any HV1.out.1 (k : Int) hkwf (by omega))
        simp only [HF.out.1, Option.isSome_some, if_true] at HA
        go_wp2_with fail
        refine HA.out.mono ?_
        rintro e V2 ⟨rfl, h2, t2⟩
        have HV2 : Hid (Wh V2 g1 b1 i ⟨0, S⟩ ∧ Wh V2 g2 b2 i ⟨0, L1⟩ ∧ Wh V2 g3 b3 i ⟨0, L1⟩ ∧ Below w.heap.size w V2) := Lib.hid ⟨by have := h2; unfold takeS at this; rw [HF.out.2.1] at this; exact this, HV1.out.2.1.other HV1.out.1 (fun e => HG.out.2.2.1 e.symm) (fun e => HG.out.2.2.2 e.symm) t2, HV1.out.2.2.1.other HV1.out.1 (fun e => HG3.out.2.1 e.symm) (fun e => HG3.out.2.2.1 e.symm) t2, below_turns HV1.out.2.2.2 t2 HG.out.1.1 HG.out.1.2⟩
        clear h2 t2 HA HV1
        have HA := Lib.hid (stop_any HV2.out.2.1 (k : Int) hkwf (by omega))
        simp only [HF.out.1, Option.isSome_some, if_true] at HA
        go_wp2_with fail
        refine HA.out.mono ?_
        rintro e V3 ⟨rfl, h3, t3⟩
        have HV3 : Hid (Wh V3 g1 b1 i ⟨0, S⟩ ∧ Wh V3 g2 b2 i ⟨0, S⟩ ∧ Wh V3 g3 b3 i ⟨0, L1⟩ ∧ Below w.heap.size w V3) := Lib.hid ⟨HV2.out.1.other HV2.out.2.1 HG.out.2.2.1 HG.out.2.2.2 t3, by have := h3; unfold takeS at this; rw [HF.out.2.1] at this; exact this, HV2.out.2.2.1.other HV2.out.2.1 (fun e => HG3.out.2.2.2.1 e.symm) (fun e => HG3.out.2.2.2.2 e.symm) t3, below_turns HV2.out.2.2.2 t3 HG.out.2.1.1 HG.out.2.1.2⟩
        clear h3 t3 HA HV2
        have HA := Lib.hid (set_ok (s := ⟨0, L1⟩) HV3.out.2.2.1 (k : Int) ag hkwf hag.1 (by omega) (by omega))
        go_wp2_with fail
        refine HA.out.mono ?_
        rintro e V4 ⟨rfl, h4, t4⟩
        have HV4 : Hid (Wh V4 g1 b1 i ⟨0, S⟩ ∧ Wh V4 g2 b2 i ⟨0, S⟩ ∧ Wh V4 g3 b3 (i + 1) ⟨0, C⟩ ∧ Below w.heap.size w V4) := Lib.hid ⟨HV3.out.1.other HV3.out.2.2.1 HG3.out.2.1 HG3.out.2.2.1 t4, HV3.out.2.1.other HV3.out.2.2.1 HG3.out.2.2.2.1 HG3.out.2.2.2.2 t4, by have := h4; unfold setS at this; rw [HF.out.2.1, HF.out.2.2.1] at this; exact this, below_turns HV3.out.2.2.2 t4 HG3.out.1.1 HG3.out.1.2⟩
        clear h4 t4 HA HV3
        go_wp2_with fail
        refine (copy_any HV4.out.2.1).mono ?_
        rintro e V5 ⟨g4, b4, rfl, hw4, hb4, p3, p4⟩
        have HG4 : Hid ((w.heap.size ≤ g4 ∧ w.heap.size ≤ b4) ∧ g1 ≠ g4 ∧ b1 ≠ b4 ∧ g2 ≠ g4 ∧ b2 ≠ b4 ∧ g3 ≠ g4 ∧ b3 ≠ b4) := Lib.hid ⟨⟨Nat.le_trans HV4.out.2.2.2.size p3, Nat.le_trans HV4.out.2.2.2.size p4⟩, by have := HV4.out.1.glt; omega, by have := HV4.out.1.blt; omega, by have := HV4.out.2.1.glt; omega, by have := HV4.out.2.1.blt; omega, by have := HV4.out.2.2.1.glt; omega, by have := HV4.out.2.2.1.blt; omega⟩
        have HV5 : Hid (Wh V5 g1 b1 i ⟨0, S⟩ ∧ Wh V5 g2 b2 i ⟨0, S⟩ ∧ Wh V5 g3 b3 (i + 1) ⟨0, C⟩ ∧ Wh V5 g4 b4 i ⟨0, S⟩ ∧ Below w.heap.size w V5) := Lib.hid ⟨HV4.out.1.below hb4, HV4.out.2.1.below hb4, HV4.out.2.2.1.below hb4, hw4, HV4.out.2.2.2.trans (hb4.mono HV4.out.2.2.2.size)⟩
        clear hw4 hb4 p3 p4 HV4
        have HA := Lib.hid (set_ok (s := ⟨0, S⟩) HV5.out.2.2.2.1 (k : Int) ag hkwf hag.1 (by omega) (by omega))
        go_wp2_with fail
        refine HA.out.mono ?_
        rintro e V6 ⟨rfl, h6, t6⟩
        have HV6 : Hid (Wh V6 g1 b1 i ⟨0, S⟩ ∧ Wh V6 g2 b2 i ⟨0, S⟩ ∧ Wh V6 g3 b3 (i + 1) ⟨0, C⟩ ∧ Wh V6 g4 b4 (i + 1) ⟨0, C⟩ ∧ Below w.heap.size w V6) := Lib.hid ⟨HV5.out.1.other HV5.out.2.2.2.1 HG4.out.2.1 HG4.out.2.2.1 t6, HV5.out.2.1.other HV5.out.2.2.2.1 HG4.out.2.2.2.1 HG4.out.2.2.2.2.1 t6, HV5.out.2.2.1.other HV5.out.2.2.2.1 HG4.out.2.2.2.2.2.1 HG4.out.2.2.2.2.2.2 t6, by have := h6; unfold setS at this; rw [HF.out.2.2.2, HF.out.2.2.1] at this; exact this, below_turns HV5.out.2.2.2.2 t6 HG4.out.1.1 HG4.out.1.2⟩
        clear h6 t6 HA HV5
        have hSb : ∀ a ∈ S, 0 ≤ a.t ∧ a.t ≤ 65535 ∧ a.id ≠ (k : Int) := fun a ha => by
          rw [← HF.out.2.1] at ha
          obtain ⟨j, hj, rfl⟩ := HM.out a ((drop_sub _ _).subset ha)
          have h3 := bd_u16 (HT.out.2.2 (ts.getD j 0) (by
            rw [List.getD_eq_getElem?_getD, List.getElem?_eq_getElem (by rw [HT.out.1]; exact hj)]
            exact List.getElem_mem _))
          exact ⟨h3.1, h3.2, drop_no _ ha⟩
        have hCp : C.Perm (⟨(k : Int), ag⟩ :: S) := by rw [← HF.out.2.2.1]; exact ins_perm _ _
        have hCb : ∀ a ∈ C, 0 ≤ a.t ∧ a.t ≤ 65535 := fun a ha => by
          rcases List.mem_cons.1 (hCp.mem_iff.1 ha) with rfl | hs
          · exact hag
          · exact ⟨(hSb a hs).1, (hSb a hs).2.1⟩
        have HSB := Lib.hid (And.intro hSb (And.intro hCp hCb))
        clear hSb hCp hCb HF HM HKE
        go_wp2_with fail
        go_loopw [14] (fun v14 wr => ∃ (t nw : Int), v14 = .int .u64 t ∧ 0 ≤ t ∧ t ≤ 69632 ∧ t % 4096 = 0 ∧ 0 ≤ nw ∧ nw ≤ t ∧ Hid (Wh wr g1 b1 i ⟨nw, lateL S (t - 4096)⟩ ∧ Wh wr g2 b2 i ⟨nw, lateL S (t - 4096)⟩ ∧ Wh wr g3 b3 (i + 1) ⟨nw, lateL C (t - 4096)⟩ ∧ Wh wr g4 b4 (i + 1) ⟨nw, lateL C (t - 4096)⟩ ∧ Below w.heap.size w wr)) (fun v14 _ => (73728 - intOf v14).toNat)
        case atStart =>
          refine ⟨0, 0, rfl, by omega, by omega, by omega, by omega, by omega, Lib.hid ?_⟩
          rw [late_start (L := S) (fun a ha => by have := (HSB.out.1 a ha).1; omega), late_start (L := C) (fun a ha => by have := (HSB.out.2.2 a ha).1; omega)]
          exact HV6.out
        case round =>
          obtain ⟨t, nw, rfl, ht0, htM, ht4, hnw0, hnwt, hQ⟩ := hrel
          by_cases hle : t ≤ 65536
          · as_aux_lemma =>
            obtain ⟨X, hX⟩ : ∃ X, dueL (lateL S (t - 4096)) t = X := ⟨_, rfl⟩
            obtain ⟨U, hU⟩ : ∃ U, dueL (lateL C (t - 4096)) t = U := ⟨_, rfl⟩
            obtain ⟨p, hp⟩ : ∃ p, X.length = p := ⟨_, rfl⟩
            obtain ⟨q, hq⟩ : ∃ q, U.length = q := ⟨_, rfl⟩
            have hwin := win_ins (lo := t - 4096) (hi := t) HSB.out.2.1 (fun a ha => (HSB.out.1 a ha).2.2)
            rw [hU, hX, hp, hq] at hwin
            have HX := Lib.hid (And.intro hX (And.intro hU (And.intro hp (And.intro hq hwin))))
            have hpb : p ≤ 100 ∧ q ≤ 100 := by
              rw [← hp, ← hq, ← hX, ← hU]
              have h1 := hQ.out.1.len
              have h2 := hQ.out.2.2.1.len
              have h3 := (due_sub (lateL S (t - 4096)) t).length_le
              have h4 := (due_sub (lateL C (t - 4096)) t).length_le
              simp only at h1 h2
              omega
            have eS : (tickS ⟨nw, lateL S (t - 4096)⟩ t) = ⟨t, lateL S t⟩ := by unfold tickS; simp only; rw [late_late S (by omega)]
            have eC : (tickS ⟨nw, lateL C (t - 4096)⟩ t) = ⟨t, lateL C t⟩ := by unfold tickS; simp only; rw [late_late C (by omega)]
            have HE := Lib.hid (And.intro eS eC)
            clear hX hU hp hq hwin eS eC
            have HA := Lib.hid (tick_ok hQ.out.1 t hnwt (by omega) (by omega))
            simp only [HX.out.1, HX.out.2.2.1] at HA
            go_wp2_with fail
            refine HA.out.mono ?_
            rintro e V1 ⟨A1, c1, rfl, o1, h1, t1⟩
            rw [HE.out.1] at h1
            have HV1 : Hid (Wh V1 g1 b1 i ⟨t, lateL S t⟩ ∧ Wh V1 g2 b2 i ⟨nw, lateL S (t - 4096)⟩ ∧ Wh V1 g3 b3 (i + 1) ⟨nw, lateL C (t - 4096)⟩ ∧ Wh V1 g4 b4 (i + 1) ⟨nw, lateL C (t - 4096)⟩ ∧ Below w.heap.size w V1 ∧ V1.ownsRow 0 23 1 (.slice A1 p c1) p (rowU (X.map Al.id))) := Lib.hid ⟨h1, hQ.out.2.1.other hQ.out.1 (fun e => HG.out.2.2.1 e.symm) (fun e => HG.out.2.2.2 e.symm) t1, hQ.out.2.2.1.other hQ.out.1 (fun e => HG3.out.2.1 e.symm) (fun e => HG3.out.2.2.1 e.symm) t1, hQ.out.2.2.2.1.other hQ.out.1 (fun e => HG4.out.2.1 e.symm) (fun e => HG4.out.2.2.1 e.symm) t1, below_turns hQ.out.2.2.2.2 t1 HG.out.1.1 HG.out.1.2, own_up o1⟩
            clear o1 h1 t1 HA hQ
            have HA := Lib.hid (tick_ok HV1.out.2.1 t hnwt (by omega) (by omega))
            simp only [HX.out.1, HX.out.2.2.1] at HA
            go_wp2_with fail
            refine HA.out.mono ?_
            rintro e V2 ⟨A2, c2, rfl, o1, h1, t1⟩
            rw [HE.out.1] at h1
            have HV2 : Hid (Wh V2 g1 b1 i ⟨t, lateL S t⟩ ∧ Wh V2 g2 b2 i ⟨t, lateL S t⟩ ∧ Wh V2 g3 b3 (i + 1) ⟨nw, lateL C (t - 4096)⟩ ∧ Wh V2 g4 b4 (i + 1) ⟨nw, lateL C (t - 4096)⟩ ∧ Below w.heap.size w V2 ∧ V2.ownsRow 0 23 1 (.slice A1 p c1) p (rowU (X.map Al.id)) ∧ V2.ownsRow 0 23 1 (.slice A2 p c2) p (rowU (X.map Al.id))) := Lib.hid ⟨HV1.out.1.other HV1.out.2.1 HG.out.2.2.1 HG.out.2.2.2 t1, h1, HV1.out.2.2.1.other HV1.out.2.1 (fun e => HG3.out.2.2.2.1 e.symm) (fun e => HG3.out.2.2.2.2 e.symm) t1, HV1.out.2.2.2.1.other HV1.out.2.1 (fun e => HG4.out.2.2.2.1 e.symm) (fun e => HG4.out.2.2.2.2.1 e.symm) t1, below_turns HV1.out.2.2.2.2.1 t1 HG.out.2.1.1 HG.out.2.1.2, own_turns HV1.out.2.1 t1 (by decide) HV1.out.2.2.2.2.2, own_up o1⟩
            clear o1 h1 t1 HA HV1
            have HA := Lib.hid (tick_ok HV2.out.2.2.1 t hnwt (by omega) (by omega))
            simp only [HX.out.2.1, HX.out.2.2.2.1] at HA
            go_wp2_with fail
            refine HA.out.mono ?_
            rintro e V3 ⟨A3, c3, rfl, o1, h1, t1⟩
            rw [HE.out.2] at h1
            have HV3 : Hid (Wh V3 g1 b1 i ⟨t, lateL S t⟩ ∧ Wh V3 g2 b2 i ⟨t, lateL S t⟩ ∧ Wh V3 g3 b3 (i + 1) ⟨t, lateL C t⟩ ∧ Wh V3 g4 b4 (i + 1) ⟨nw, lateL C (t - 4096)⟩ ∧ Below w.heap.size w V3 ∧ V3.ownsRow 0 23 1 (.slice A1 p c1) p (rowU (X.map Al.id)) ∧ V3.ownsRow 0 23 1 (.slice A2 p c2) p (rowU (X.map Al.id)) ∧ V3.ownsRow 0 23 1 (.slice A3 q c3) q (rowU (U.map Al.id))) := Lib.hid ⟨HV2.out.1.other HV2.out.2.2.1 HG3.out.2.1 HG3.out.2.2.1 t1, HV2.out.2.1.other HV2.out.2.2.1 HG3.out.2.2.2.1 HG3.out.2.2.2.2 t1, h1, HV2.out.2.2.2.1.other HV2.out.2.2.1 (fun e => HG4.out.2.2.2.2.2.1 e.symm) (fun e => HG4.out.2.2.2.2.2.2 e.symm) t1, below_turns HV2.out.2.2.2.2.1 t1 HG3.out.1.1 HG3.out.1.2, own_turns HV2.out.2.2.1 t1 (by decide) HV2.out.2.2.2.2.2.1, own_turns HV2.out.2.2.1 t1 (by decide) HV2.out.2.2.2.2.2.2, own_up o1⟩
            clear o1 h1 t1 HA HV2
            have HA := Lib.hid (tick_ok HV3.out.2.2.2.1 t hnwt (by omega) (by omega))
            simp only [HX.out.2.1, HX.out.2.2.2.1] at HA
            go_wp2_with fail
            refine HA.out.mono ?_
            rintro e V4 ⟨A4, c4, rfl, o1, h1, t1⟩
            rw [HE.out.2] at h1
            have HV4 : Hid (Wh V4 g1 b1 i ⟨t, lateL S t⟩ ∧ Wh V4 g2 b2 i ⟨t, lateL S t⟩ ∧ Wh V4 g3 b3 (i + 1) ⟨t, lateL C t⟩ ∧ Wh V4 g4 b4 (i + 1) ⟨t, lateL C t⟩ ∧ Below w.heap.size w V4 ∧ V4.ownsRow 0 23 1 (.slice A1 p c1) p (rowU (X.map Al.id)) ∧ V4.ownsRow 0 23 1 (.slice A2 p c2) p (rowU (X.map Al.id)) ∧ V4.ownsRow 0 23 1 (.slice A3 q c3) q (rowU (U.map Al.id)) ∧ V4.ownsRow 0 23 1 (.slice A4 q c4) q (rowU (U.map Al.id))) := Lib.hid ⟨HV3.out.1.other HV3.out.2.2.2.1 HG4.out.2.1 HG4.out.2.2.1 t1, HV3.out.2.1.other HV3.out.2.2.2.1 HG4.out.2.2.2.1 HG4.out.2.2.2.2.1 t1, HV3.out.2.2.1.other HV3.out.2.2.2.1 HG4.out.2.2.2.2.2.1 HG4.out.2.2.2.2.2.2 t1, h1, below_turns HV3.out.2.2.2.2.1 t1 HG4.out.1.1 HG4.out.1.2, own_turns HV3.out.2.2.2.1 t1 (by decide) HV3.out.2.2.2.2.2.1, own_turns HV3.out.2.2.2.1 t1 (by decide) HV3.out.2.2.2.2.2.2.1, own_turns HV3.out.2.2.2.1 t1 (by decide) HV3.out.2.2.2.2.2.2.2, own_up o1⟩
            clear o1 h1 t1 HA HV3 HE
            obtain ⟨IX, hIX⟩ : ∃ I, X.map Al.id = I := ⟨_, rfl⟩
            obtain ⟨IU, hIU⟩ : ∃ I, U.map Al.id = I := ⟨_, rfl⟩
            have hxl : IX.length = p := by rw [← hIX, List.length_map, HX.out.2.2.1]
            have hul : IU.length = q := by rw [← hIU, List.length_map, HX.out.2.2.2.1]
            have HU : Hid (UsAt V4 A1 IX ∧ UsAt V4 A2 IX ∧ UsAt V4 A3 IU ∧ UsAt V4 A4 IU) := Lib.hid (by
              obtain ⟨_, _, _, _, _, o1, o2, o3, o4⟩ := HV4.out
              rw [hIX] at o1 o2
              rw [hIU] at o3 o4
              exact ⟨UsAt.own (B := 0) (c := c1) (by rw [hxl]; exact o1), UsAt.own (B := 0) (c := c2) (by rw [hxl]; exact o2), UsAt.own (B := 0) (c := c3) (by rw [hul]; exact o3), UsAt.own (B := 0) (c := c4) (by rw [hul]; exact o4)⟩)
            have HI := Lib.hid (And.intro hxl (And.intro hul hIU))
            have HS1 := Lib.hid (same_any A1 A2 c1 c2 p IX hxl (by omega) HU.out.1 HU.out.2.1)
            clear hIX hIU hxl hul
            go_wp2_with fail
            refine HS1.out.mono ?_
            rintro e V5 ⟨rfl, h5⟩
            have HV5 : Hid (Wh V5 g1 b1 i ⟨t, lateL S t⟩ ∧ Wh V5 g2 b2 i ⟨t, lateL S t⟩ ∧ Wh V5 g3 b3 (i + 1) ⟨t, lateL C t⟩ ∧ Wh V5 g4 b4 (i + 1) ⟨t, lateL C t⟩ ∧ Below w.heap.size w V5 ∧ UsAt V5 A3 IU ∧ UsAt V5 A4 IU) := Lib.hid ⟨HV4.out.1.below h5, HV4.out.2.1.below h5, HV4.out.2.2.1.below h5, HV4.out.2.2.2.1.below h5, HV4.out.2.2.2.2.1.trans (h5.mono HV4.out.2.2.2.2.1.size), HU.out.2.2.1.below h5, HU.out.2.2.2.below h5⟩
            clear h5 HS1 HU HV4
            have HS2 := Lib.hid (same_any A3 A4 c3 c4 q IU HI.out.2.1 (by omega) HV5.out.2.2.2.2.2.1 HV5.out.2.2.2.2.2.2)
            go_wp2_with fail
            refine HS2.out.mono ?_
            rintro e V6 ⟨rfl, h6⟩
            have HV6 : Hid (Wh V6 g1 b1 i ⟨t, lateL S t⟩ ∧ Wh V6 g2 b2 i ⟨t, lateL S t⟩ ∧ Wh V6 g3 b3 (i + 1) ⟨t, lateL C t⟩ ∧ Wh V6 g4 b4 (i + 1) ⟨t, lateL C t⟩ ∧ Below w.heap.size w V6 ∧ UsAt V6 A3 IU) := Lib.hid ⟨HV5.out.1.below h6, HV5.out.2.1.below h6, HV5.out.2.2.1.below h6, HV5.out.2.2.2.1.below h6, HV5.out.2.2.2.2.1.trans (h6.mono HV5.out.2.2.2.2.1.size), HV5.out.2.2.2.2.2.1.below h6⟩
            clear h6 HS2 HV5
            as_aux_lemma =>
            go_wp2_with fail
            go_loop [23, 24] (fun v23 v24 => ∃ (j : Nat) (hb : Bool), v24 = .int .i64 j ∧ v23 = .bool hb ∧ j ≤ q ∧ Hid (hb = true ↔ (k : Int) ∈ IU.take j)) (fun _ v24 => q - (intOf v24).toNat)
            case atStart => exact ⟨0, false, rfl, rfl, Nat.zero_le _, Lib.hid (by simp)⟩
            case round =>
              obtain ⟨j, hb, rfl, rfl, hj, hiff⟩ := hrel
              by_cases hlt : j < q
              · obtain ⟨x, hx⟩ : ∃ x, IU[j]? = some x := ⟨_, List.getElem?_eq_getElem (by rw [HI.out.2.1]; exact hlt)⟩
                obtain ⟨b, o, hA, _, k0⟩ := HV6.out.2.2.2.2.2 j x hx
                subst hA
                have hnext : ((k : Int) ∈ IU.take (j + 1)) ↔ ((k : Int) ∈ IU.take j ∨ (k : Int) = x) := by
                  rw [List.take_add_one, hx]
                  simp
                have HN := Lib.hid hnext
                clear hx hnext
                cases hb with
                | true =>
                  go_wp2_with fail
                  go_round
                  case rel => exact ⟨j + 1, true, by simp, rfl, by omega, Lib.hid (by rw [HN.out]; simp [hiff.out.1 rfl])⟩
                  case measure => simp [intOf]; omega
                | false =>
                  by_cases he : x = (k : Int)
                  · have t1 : (x == (k : Int)) = true := by simpa using he
                    have HEE := Lib.hid he
                    clear he
                    go_wp2_with fail
                    go_round
                    case rel => exact ⟨j + 1, true, by simp, rfl, by omega, Lib.hid (by rw [HN.out]; simp [HEE.out])⟩
                    case measure => simp [intOf]; omega
                  · have t1 : (x == (k : Int)) = false := by simpa using he
                    have HEE := Lib.hid he
                    clear he
                    go_wp2_with fail
                    go_round
                    case rel => exact ⟨j + 1, false, by simp, rfl, by omega, Lib.hid (by
                      rw [HN.out]
                      have h1 := hiff.out
                      simp only [Bool.false_eq_true, false_iff] at h1 ⊢
                      exact fun h => h.elim h1 (fun h => HEE.out h.symm))⟩
                    case measure => simp [intOf]; omega
              · obtain rfl : j = q := by omega
                have e1 : IU.take j = IU := List.take_of_length_le (by rw [HI.out.2.1]; exact Nat.le_refl _)
                have hfin : hb = true ↔ (t - 4096 < ag ∧ ag ≤ t) := by
                  have h1 := hiff.out
                  rw [e1, ← HI.out.2.2] at h1
                  exact h1.trans HX.out.2.2.2.2.1
                have hlen : ¬ (t - 4096 < ag ∧ ag ≤ t) → j = p := HX.out.2.2.2.2.2
                have HFIN := Lib.hid (And.intro hfin hlen)
                clear hiff e1 hfin hlen
                have HREL : Hid (Wh V6 g1 b1 i ⟨t, lateL S (t + 4096 - 4096)⟩ ∧ Wh V6 g2 b2 i ⟨t, lateL S (t + 4096 - 4096)⟩ ∧ Wh V6 g3 b3 (i + 1) ⟨t, lateL C (t + 4096 - 4096)⟩ ∧ Wh V6 g4 b4 (i + 1) ⟨t, lateL C (t + 4096 - 4096)⟩ ∧ Below w.heap.size w V6) := Lib.hid (by
                  rw [show t + 4096 - 4096 = t by omega]
                  exact ⟨HV6.out.1, HV6.out.2.1, HV6.out.2.2.1, HV6.out.2.2.2.1, HV6.out.2.2.2.2.1⟩)
                by_cases hag1 : ag ≤ t
                · by_cases ht00 : t = 0
                  · subst ht00
                    have h1 : hb = true := HFIN.out.1.2 ⟨by omega, by omega⟩
                    subst h1
                    clear HV6
                    go_wp2_with fail
                    all_goals
                      go_roundw
                      case rel => exact ⟨_, 0, rfl, by omega, by omega, by omega, by omega, by omega, HREL⟩
                      case measure => simp [intOf]
                  · have tz : (t == 0) = false := by simpa using ht00
                    have h4096 : 4096 ≤ t := by omega
                    by_cases hag2 : t - 4096 < ag
                    · have h1 : hb = true := HFIN.out.1.2 ⟨by omega, by omega⟩
                      subst h1
                      clear ht00 HV6
                      go_wp2_with fail
                      all_goals
                        go_roundw
                        case rel => exact ⟨_, t, rfl, by omega, by omega, by omega, by omega, by omega, HREL⟩
                        case measure => simp [intOf]; omega
                    · have h1 : hb = false := by
                        cases hb with
                        | false => rfl
                        | true => have := HFIN.out.1.1 rfl; omega
                      have h2 : j = p := HFIN.out.2 (by omega)
                      subst h1 h2
                      clear ht00 HV6
                      go_wp2_with fail
                      go_roundw
                      case rel => exact ⟨_, t, rfl, by omega, by omega, by omega, by omega, by omega, HREL⟩
                      case measure => simp [intOf]; omega
                · have h1 : hb = false := by
                    cases hb with
                    | false => rfl
                    | true => have := HFIN.out.1.1 rfl; omega
                  have h2 : j = p := HFIN.out.2 (by omega)
                  subst h1 h2
                  clear HV6
                  go_wp2_with fail
                  go_roundw
                  case rel => exact ⟨_, t, rfl, by omega, by omega, by omega, by omega, by omega, HREL⟩
                  case measure => simp [intOf]; omega
          · obtain rfl : t = 69632 := by omega
            as_aux_lemma =>
            have e1 : lateL S (69632 - 4096) = [] := late_end (fun a ha => by have := (HSB.out.1 a ha).2.1; omega)
            have e2 : lateL C (69632 - 4096) = [] := late_end (fun a ha => by have := (HSB.out.2.2 a ha).2; omega)
            have hQ2 := hQ.out
            rw [e1, e2] at hQ2
            have HL1 := Lib.hid (len_any hQ2.1)
            have HL3 := Lib.hid (len_any hQ2.2.2.1)
            simp only [List.length_nil] at HL1 HL3
            have HB := Lib.hid hQ2.2.2.2.2
            clear hQ2 e1 e2
            go_wp2_with fail
            refine HL1.out.mono ?_
            rintro e w' ⟨rfl, rfl⟩
            go_wp2_with fail
            refine HL3.out.mono ?_
            rintro e w' ⟨rfl, rfl⟩
            go_wp2_with fail
            refine (wakes_any _).mono ?_
            rintro e Z ⟨rfl, hz⟩
            have HZ := Lib.hid (HB.out.trans (hz.mono HB.out.size))
            clear hz
            go_wp2_with fail
            go_ret
            exact ⟨rfl, HZ.out⟩
end Go.Proofs.Ytdebaoimhijnkaa
