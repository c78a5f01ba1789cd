/- WheelOnce, walked. -/
import Derived.Test.YtdebaoimhijnkaaOnLaw
import Derived.Deep.DeepCutAuto
import Derived.Deep.CutBlock
set_option linter.unusedVariables false
namespace Go.Proofs.Ytdebaoimhijnkaa
open Go.RowKit Go.Deep Go.BigFrame
attribute [local go_sem ↓] Go.wp_at_zero Go.wp_at_succ
set_option maxHeartbeats 32000000
set_option maxRecDepth 100000
theorem once_walk (A0 A1 A2 : Option Addr) (n0 c0 n1 c1 n2 c2 : Nat) (I T S : List Int) (w : World)
    (hI : I.length = n0 ∧ Nums .u64 w A0 I ∧ (∀ x ∈ I, (Lit.int .u64 x).wf = true) ∧ n0 ≤ c0 ∧ c0 ≤ maxLen)
    (hT : T.length = n1 ∧ Nums .u64 w A1 T ∧ (∀ x ∈ T, (Lit.int .u64 x).wf = true) ∧ n1 ≤ c1 ∧ c1 ≤ maxLen)
    (hS : S.length = n2 ∧ Nums .u16 w A2 S ∧ (∀ x ∈ S, (Lit.int .u16 x).wf = true) ∧ n2 ≤ c2 ∧ c2 ≤ maxLen) :
    Calls Try.prog 5 #[.slice A0 n0 c0, .slice A1 n1 c1, .slice A2 n2 c2] w fun e w' => e = .returned (.bool true) ∧ Below w.heap.size w w' := by
  have hc0 : n0 ≤ 9223372036854775807 := by have := hI.2.2.2; unfold maxLen at this; omega
  have hc1 : n1 ≤ 9223372036854775807 := by have := hT.2.2.2; unfold maxLen at this; omega
  have hc2 : n2 ≤ 9223372036854775807 := by have := hS.2.2.2; unfold maxLen at this; omega
  have hcc0 := hI.2.2.2.1
  have hcc1 := hT.2.2.2.1
  have hcc2 := hS.2.2.2.1
  have HI := Lib.hid hI
  have HT := Lib.hid hT
  have HS := Lib.hid hS
  clear hI hT hS
  have hmm := @run_makeMap Try.prog
  go_enter Try.func5, Try.ntmps5
  go_wp2_with fail
  refine (new_any w).mono ?_
  rintro e W1 ⟨g1, b1, rfl, hw1, hb1, p1, p2⟩
  have H1 := Lib.hid (And.intro hw1 (And.intro hb1 (And.intro p1 p2)))
  clear hw1 hb1 p1 p2
  go_wp2_with fail
  refine (new_any W1).mono ?_
  rintro e W2 ⟨g2, b2, rfl, hw2, hb2, p1, p2⟩
  obtain ⟨b0, hb0⟩ : ∃ b0, W2.heap.size = b0 := ⟨_, rfl⟩
  have HG : Hid (OcG w g1 b1 g2 b2 b0) := Lib.hid ⟨H1.out.2.2.1, H1.out.2.2.2, Nat.le_trans H1.out.2.1.size p1, Nat.le_trans H1.out.2.1.size p2, by have := H1.out.2.1.size; have := hb2.size; omega, by have := H1.out.1.glt; omega, by have := H1.out.1.blt; omega, by have := (H1.out.1.below hb2).blt; omega, by have := hw2.blt; omega⟩
  have H2 : Hid (Oc w g1 b1 g2 b2 b0 0 0 0 ⟨0, []⟩ ⟨0, []⟩ [] (W2.alloc (.map #[] 0))) := Lib.hid ⟨(H1.out.2.1.trans (hb2.mono H1.out.2.1.size)).alloc (H1.out.2.1.trans (hb2.mono H1.out.2.1.size)).size _, (H1.out.1.below hb2).below (bel_alloc _ _), hw2.below (bel_alloc _ _), by rw [← hb0]; exact MapU.made W2⟩
  have HB0 := Lib.hid hb0
  clear hw2 hb2 p1 p2 H1 hb0
  go_upto_region 3 with (fail)
  rw [HB0.out]
  refine wp_name fun X hX => ?_
  rw [← hX] at H2
  clear hX
  clear hmm
  go_upto_block 0 with fail
  go_cut [10] (fun v10 wx => ∃ (i : Nat) (L : List Al), v10 = .int .i64 i ∧ i ≤ 60 ∧ Hid (Oc w g1 b1 g2 b2 b0 i i i ⟨0, L⟩ ⟨0, L⟩ L wx))
  case first =>
    go_wp2_with fail
    go_loopw [10] (fun v10 wr => ∃ (i : Nat) (L : List Al), v10 = .int .i64 i ∧ i ≤ n0 ∧ i ≤ n1 ∧ i ≤ 60 ∧ Hid (Oc w g1 b1 g2 b2 b0 i i i ⟨0, L⟩ ⟨0, L⟩ L wr)) (fun v10 _ => 60 - (intOf v10).toNat)
    case atStart => exact ⟨0, [], rfl, Nat.zero_le _, Nat.zero_le _, Nat.zero_le _, H2⟩
    case round =>
      obtain ⟨i, L, rfl, hi0, hi1, hi60, hR⟩ := hrel
      by_cases hlt : i < n0 ∧ i < n1 ∧ i < 60
      · obtain ⟨l0, l1, l2⟩ := hlt
        as_aux_lemma =>
        obtain ⟨id, hid⟩ : ∃ x, I[i]? = some x := ⟨_, List.getElem?_eq_getElem (by rw [HI.out.1]; exact l0)⟩
        obtain ⟨tv, htv⟩ : ∃ x, T[i]? = some x := ⟨_, List.getElem?_eq_getElem (by rw [HT.out.1]; exact l1)⟩
        have hidw := HI.out.2.2.1 id (List.mem_of_getElem? hid)
        have htw := HT.out.2.2.1 tv (List.mem_of_getElem? htv)
        obtain ⟨ba, oa, ea, hba, ca⟩ := (HI.out.2.1.below hR.out.bel) i id hid
        obtain ⟨bt, ot, et, hbt, ct⟩ := (HT.out.2.1.below hR.out.bel) i tv htv
        subst ea et
        obtain ⟨t, ht⟩ : ∃ t, tv.tmod 3000 = t := ⟨_, rfl⟩
        have htb : 0 ≤ t ∧ t < 3000 := by
          have := (bd_u64 htw).1
          rw [← ht, Int.tmod_eq_emod_of_nonneg this]
          omega
        have HID := Lib.hid (And.intro hid (And.intro hidw (wf64 (n := t) (by omega) (by omega))))
        have HTT := Lib.hid ht
        clear hid htv hidw htw hba hbt ht
        go_upto_region 7 with (fail)
        rw [HTT.out]
        go_wp2_with fail
        refine (set_ok (s := ⟨0, L⟩) hR.out.w1 id t HID.out.2.1 htb.1 (by omega) (by omega)).mono ?_
        rintro e V ⟨rfl, hv, hT⟩
        have HV := Lib.hid (hR.out.t1 HG.out hv hT)
        have cV : V.cell? ⟨ba, oa + i, none⟩ = some (.int .u64 id) := by
          obtain ⟨b', o', e', _, c'⟩ := (HI.out.2.1.below HV.out.bel) i id HID.out.1
          cases e'
          exact c'
        clear hv hT ca ct
        go_wp2_with fail
        refine (set_ok (s := ⟨0, L⟩) HV.out.w2 id t HID.out.2.1 htb.1 (by omega) (by omega)).mono ?_
        rintro e Z ⟨rfl, hz, hT⟩
        have HZ := Lib.hid (HV.out.t2 HG.out hz hT)
        have cZ : Z.cell? ⟨ba, oa + i, none⟩ = some (.int .u64 id) := by
          obtain ⟨b', o', e', _, c'⟩ := (HI.out.2.1.below HZ.out.bel) i id HID.out.1
          cases e'
          exact c'
        obtain ⟨R, hr, hm, hg⟩ := HZ.out.mp.set (s := ⟨0, L⟩) hR.out.w1.ok HID.out.2.1 HID.out.2.2 (by omega) (by unfold maxLen; omega)
        have HRR : Hid (Oc w g1 b1 g2 b2 b0 (i + 1) (i + 1) (i + 1) ⟨0, (setS ⟨0, L⟩ id t).L⟩ ⟨0, (setS ⟨0, L⟩ id t).L⟩ (setS ⟨0, L⟩ id t).L R) := Lib.hid (HZ.out.put HG.out hm hg)
        clear hm hg hz hT cV
        go_wp2_with fail
        go_roundw
        case rel => exact ⟨i + 1, _, by simp, by omega, by omega, by omega, HRR⟩
        case measure => simp [intOf]; omega
      · by_cases q0 : i < n0
        · by_cases q1 : i < n1
          · obtain rfl : i = 60 := by omega
            go_wp2_with fail
            go_meet
            case rel => exact ⟨60, L, rfl, by omega, hR⟩
          · obtain rfl : i = n1 := by omega
            go_wp2_with fail
            go_meet
            case rel => exact ⟨i, L, rfl, by omega, hR⟩
        · obtain rfl : i = n0 := by omega
          go_wp2_with fail
          go_meet
          case rel => exact ⟨i, L, rfl, by omega, hR⟩
  case rest =>
    obtain ⟨m, L, rfl, hm60, hX⟩ := hcut
    clear HI HT hc0 hc1 hcc0 hcc1
    have hmm := @run_makeMap Try.prog
    obtain ⟨b5, hb5⟩ : ∃ b5, wc.heap.size = b5 := ⟨_, rfl⟩
    have HB5 := Lib.hid hb5
    clear hb5
    go_upto_region 13 with (fail)
    clear hmm
    rw [HB5.out]
    refine wp_name fun Y hY => ?_
    have hbY : Below wc.heap.size wc Y := by rw [hY]; exact bel_alloc _ _
    have hi0 : ind [] = fun _ => 0 := by funext x; simp [ind]
    have HK : Hid (TkG w g1 b1 g2 b2 b0 b5 (b5 + 1)) := Lib.hid ⟨by have := hX.out.bel.size; rw [← HB5.out]; exact this, by have := hX.out.bel.size; rw [← HB5.out]; omega, by have := hX.out.w1.blt; rw [← HB5.out]; omega, by have := hX.out.w2.blt; rw [← HB5.out]; omega, by have := hX.out.mp.lt; rw [← HB5.out]; omega⟩
    have HT2 : Hid (Tk w g1 b1 g2 b2 b0 b5 m (b5 + 1) 0 0 L [] L 0 none Y) := Lib.hid ⟨hX.out.below hbY, World.ownsRow_nil _ _ _ _, by rw [hi0, hY, ← HB5.out]; exact MapC.made wc, rfl, rfl, fun a h => by cases h⟩
    clear hY hbY hi0 hX HB5
    go_upto_block 2 with fail
    go_cut [12, 13, 15] (fun v12 v13 v15 wx => ∃ (now : Int) (D K : List Al) (AT : Option Addr) (nT cT : Nat), v12 = .int .u64 now ∧ v13 = .slice AT nT cT ∧ 0 ≤ now ∧ now ≤ 9000 ∧ Hid (Tk w g1 b1 g2 b2 b0 b5 m (b5 + 1) nT cT L D K now AT wx ∧ (0 < n2 → ∀ a ∈ K, now < a.t) ∧ (n2 = 0 → D = [])))
    case first =>
      go_wp2_with fail
      go_loopw [12, 13, 15] (fun v12 v13 v15 wr => ∃ (i : Nat) (now : Int) (D K : List Al) (AT : Option Addr) (nT cT : Nat), v15 = .int .i64 i ∧ v12 = .int .u64 now ∧ v13 = .slice AT nT cT ∧ i ≤ n2 ∧ i ≤ 30 ∧ 0 ≤ now ∧ now ≤ 300 * (i : Int) ∧ Hid (Tk w g1 b1 g2 b2 b0 b5 m (b5 + 1) nT cT L D K now AT wr ∧ (0 < i → ∀ a ∈ K, now < a.t) ∧ (i = 0 → D = []))) (fun _ _ v15 _ => 30 - (intOf v15).toNat)
      case atStart => exact ⟨0, 0, [], L, none, 0, 0, rfl, rfl, rfl, Nat.zero_le _, Nat.zero_le _, by decide, by decide, Lib.hid ⟨HT2.out, fun h => absurd h (by decide), fun _ => rfl⟩⟩
      case round =>
        obtain ⟨i, now, D, K, AT, nT, cT, rfl, rfl, rfl, hin, hi30, hn0, hn1, hR⟩ := hrel
        by_cases hlt : i < n2 ∧ i < 30
        · obtain ⟨l0, l1⟩ := hlt
          as_aux_lemma =>
          obtain ⟨x, hx⟩ : ∃ x, S[i]? = some x := ⟨_, List.getElem?_eq_getElem (by rw [HS.out.1]; exact l0)⟩
          have hxw := HS.out.2.2.1 x (List.mem_of_getElem? hx)
          obtain ⟨bs, os, es, hbs, cs⟩ := (HS.out.2.1.below hR.out.1.oc.bel) i x hx
          subst es
          obtain ⟨y, hy⟩ : ∃ y, x.tmod 300 = y := ⟨_, rfl⟩
          have hyb : 0 ≤ y ∧ y < 300 := by
            have := (bd_u16 hxw).1
            rw [← hy, Int.tmod_eq_emod_of_nonneg this]
            omega
          have HY := Lib.hid (And.intro hy (And.intro (IntWalk.u64_in y (by omega)) (IntWalk.u64_in (now + y) (by omega))))
          clear hx hxw hbs hy
          go_upto_region 18 with (fail)
          rw [HY.out.1, HY.out.2.1, HY.out.2.2]
          clear HY cs
          obtain ⟨nw, hnw⟩ : ∃ z, now + y = z := ⟨_, rfl⟩
          rw [hnw]
          have hnw1 : now ≤ nw ∧ nw ≤ 300 * ((i : Int) + 1) := by omega
          obtain ⟨E, hE⟩ : ∃ E, dueL K nw = E := ⟨_, rfl⟩
          obtain ⟨K2, hK2⟩ : ∃ K2, (K.filter fun a => decide (nw < a.t)) = K2 := ⟨_, rfl⟩
          obtain ⟨nE, hnE⟩ : ∃ n, E.length = n := ⟨_, rfl⟩
          obtain ⟨bX, hbX⟩ : ∃ n, wr.heap.size = n := ⟨_, rfl⟩
          have HTK : Hid (Calls Try.prog 13 #[.pointer (some ⟨g1, 0, none⟩), .int .u64 nw] wr fun e w' => ∃ A c, e = .returned (.tuple #[.slice A nE c, .int .i64 0]) ∧ w'.ownsRow bX 23 1 (.slice A nE c) nE (rowU (E.map Al.id)) ∧ Wh w' g1 b1 m ⟨nw, K2⟩ ∧ Turns (Two g1 b1) wr w') := Lib.hid (by
            rw [← hnE, ← hE, ← hK2, ← hbX]
            exact tick_ok hR.out.1.oc.w1 nw hnw1.1 (by omega) (by omega))
          have hEK : E ++ K2 = K := by rw [← hE, ← hK2]; exact due_split hR.out.1.oc.w1.ok.srt nw
          have hsE : E.Pairwise ltF := by
            have h1 := hR.out.1.oc.w1.ok.srt
            have h2 : K.Pairwise ltF := h1
            rw [← hEK, List.pairwise_append] at h2
            exact h2.1
          have HE : Hid (E ++ K2 = K ∧ E.length = nE ∧ (∀ a ∈ E, a.t ≤ nw) ∧ (∀ a ∈ K2, nw < a.t) ∧ E.Pairwise ltF ∧ (0 < i → ∀ a ∈ E, now < a.t)) := Lib.hid ⟨hEK, hnE, fun a ha => by rw [← hE] at ha; simpa using (List.mem_filter.1 ha).2, fun a ha => by rw [← hK2] at ha; simpa using (List.mem_filter.1 ha).2, hsE, fun h a ha => hR.out.2.1 h a (by rw [← hEK]; exact List.mem_append_left _ ha)⟩
          have HLK : Hid (D ++ K = L ∧ Als L ∧ (∀ a ∈ D, a.t ≤ now) ∧ D.length = nT) := Lib.hid ⟨hR.out.1.cut, hR.out.1.oc.w2.ok.als, hR.out.1.early, hR.out.1.ln⟩
          have hbd : nT + nE ≤ 60 := by
            have h1 : L.length ≤ m := hR.out.1.oc.w2.len
            rw [← hR.out.1.cut, ← hEK, List.length_append, List.length_append, hR.out.1.ln, hnE] at h1
            omega
          clear hE hK2 hnE hEK hsE hnw
          go_wp2_with fail
          refine HTK.out.mono ?_
          rintro e V ⟨A3, c3, rfl, o3, hw, hT⟩
          have HV : Hid (Oc w g1 b1 g2 b2 b0 m m m ⟨nw, K2⟩ ⟨0, L⟩ L V ∧ V.ownsRow (b5 + 1) 23 1 (.slice AT nT cT) nT (rowU (D.map Al.id)) ∧ MapC V b5 nT (ind D) ∧ V.ownsRow bX 23 1 (.slice A3 nE c3) nE (rowU (E.map Al.id))) := Lib.hid ⟨hR.out.1.oc.t1 HG.out hw hT, own_turns hR.out.1.oc.w1 hT (by decide) hR.out.1.tl, hR.out.1.sn.turns hR.out.1.oc.w1 HK.out.k1 hT, o3⟩
          clear o3 hw hT HTK hR hbX
          go_upto_block 4 with fail
          go_wp2_with fail
          go_loopw [19] (fun v19 wq => ∃ j : Nat, v19 = .int .i64 j ∧ j ≤ nE ∧ Hid (Oc w g1 b1 g2 b2 b0 m m m ⟨nw, K2⟩ ⟨0, L⟩ L wq ∧ wq.ownsRow (b5 + 1) 23 1 (.slice AT nT cT) nT (rowU (D.map Al.id)) ∧ MapC wq b5 (nT + j) (ind (D ++ E.take j)) ∧ wq.ownsRow bX 23 1 (.slice A3 nE c3) nE (rowU (E.map Al.id)))) (fun v19 _ => nE - (intOf v19).toNat)
          case atStart => exact ⟨0, rfl, Nat.zero_le _, Lib.hid ⟨HV.out.1, HV.out.2.1, by simpa using HV.out.2.2.1, HV.out.2.2.2⟩⟩
          case round =>
            obtain ⟨j, rfl, hj, hQ⟩ := hrel
            by_cases hjn : j < nE
            · as_aux_lemma =>
              obtain ⟨a, ha⟩ : ∃ a, E[j]? = some a := ⟨_, List.getElem?_eq_getElem (by rw [HE.out.2.1]; exact hjn)⟩
              have hU : UsAt _ A3 (E.map Al.id) := UsAt.own (B := bX) (c := c3) (by rw [rowU_map, HE.out.2.1]; exact hQ.out.2.2.2)
              obtain ⟨bl, ol, el, hbl, cl⟩ := us_at hU ha
              subst el
              have haE := List.mem_of_getElem? ha
              have haL : a ∈ L := by rw [← HLK.out.1, ← HE.out.1]; exact List.mem_append_right _ (List.mem_append_left _ haE)
              have haw := (HLK.out.2.1.1 a haL).1
              have hfa := findA_mem HLK.out.2.1.2 haL
              have hat : atA L a.id = a.t := by unfold atA; rw [hfa]; rfl
              have hz : ind (D ++ E.take j) a.id = 0 := ind_new HLK.out.2.1.2 HLK.out.1 HE.out.1 ha
              have HM := hQ.out.1.mp.look haw
              rw [hat, hfa, Option.isSome_some] at HM
              have HN := hQ.out.2.2.1.look haw
              rw [hz] at HN
              have hle := HE.out.2.2.1 a haE
              have HA : Hid (E[j]? = some a ∧ (Lit.int .u64 a.id).wf = true) := Lib.hid ⟨ha, haw⟩
              have HU := Lib.hid hU
              obtain ⟨ai, at0⟩ := a
              dsimp only at HM HN cl hle HA
              clear ha haE haL haw hfa hat hz hU hbl
              rcases Nat.eq_zero_or_pos i with hi0 | hi0
              · have hi1 : ¬ 0 < i := by omega
                clear hi0
                go_upto_region 27 with (fail)
                by_cases hj0 : j = 0
                · as_aux_lemma =>
                  subst hj0
                  obtain ⟨X, hX⟩ : ∃ X, wr.drew = X := ⟨_, rfl⟩
                  have hbX : Below wr.heap.size wr X := by rw [← hX]; exact (Below.refl _ _).drew
                  have HX : Hid ({ wr with drawn := wr.drawn + 1 } = X ∧ Oc w g1 b1 g2 b2 b0 m m m ⟨nw, K2⟩ ⟨0, L⟩ L X ∧ X.ownsRow (b5 + 1) 23 1 (.slice AT nT cT) nT (rowU (D.map Al.id)) ∧ MapC X b5 (nT + 0) (ind (D ++ E.take (0))) ∧ X.ownsRow bX 23 1 (.slice (some ⟨bl, ol, none⟩) nE c3) nE (rowU (E.map Al.id))) := Lib.hid ⟨hX, hQ.out.1.below hbX, row_below hQ.out.2.1 hbX, hQ.out.2.2.1.below hbX, row_below hQ.out.2.2.2 hbX⟩
                  have hne : Nonempty (ClsW (InB X.heap.size X)) := ⟨⟨X, Below.refl _ _, Nat.le_refl _⟩⟩
                  clear hX hbX HM HN cl
                  refine wp_region_class (InB X.heap.size X) (by kernel_rfl) (by kernel_rfl) (by rw [HX.out.1]; exact ⟨Below.refl _ _, Nat.le_refl _⟩) fun _ => ?_
                  repeat (go_big_quiet_step (fail))
                  refine wpQuiet_nil ?_
                  rintro V2 ⟨⟨V', hV2⟩, eV⟩
                  have eV2 : V2 = V' := eV
                  clear eV
                  subst eV2
                  have hb2 : Below X.heap.size X V2 := hV2.1
                  have HV2 : Hid (Oc w g1 b1 g2 b2 b0 m m m ⟨nw, K2⟩ ⟨0, L⟩ L V2 ∧ V2.ownsRow (b5 + 1) 23 1 (.slice AT nT cT) nT (rowU (D.map Al.id)) ∧ MapC V2 b5 (nT + 0) (ind (D ++ E.take (0))) ∧ V2.ownsRow bX 23 1 (.slice (some ⟨bl, ol, none⟩) nE c3) nE (rowU (E.map Al.id))) := Lib.hid ⟨HX.out.2.1.below hb2, row_below HX.out.2.2.1 hb2, HX.out.2.2.2.1.below hb2, row_below HX.out.2.2.2.2 hb2⟩
                  have cl2 : V2.cell? ⟨bl, ol, none⟩ = some (.int .u64 ai) := by
                    obtain ⟨b', o', e', _, c'⟩ := us_at (UsAt.own (B := bX) (c := c3) (by rw [rowU_map, HE.out.2.1]; exact HV2.out.2.2.2)) HA.out.1
                    cases e'
                    exact c'
                  obtain ⟨R, hr, hm, hg⟩ := HV2.out.2.2.1.store HA.out.2 (x := 1) (by decide) (by unfold maxLen; omega)
                  have HRR : Hid (Oc w g1 b1 g2 b2 b0 m m m ⟨nw, K2⟩ ⟨0, L⟩ L R ∧ R.ownsRow (b5 + 1) 23 1 (.slice AT nT cT) nT (rowU (D.map Al.id)) ∧ MapC R b5 (nT + (0 + 1)) (ind (D ++ E.take ((0 + 1)))) ∧ R.ownsRow bX 23 1 (.slice (some ⟨bl, ol, none⟩) nE c3) nE (rowU (E.map Al.id))) := Lib.hid ⟨HV2.out.1.else hg HK.out.l5 (fun e => HK.out.k1 e.symm) (fun e => HK.out.k2 e.symm) HK.out.k0 (no_cells HV2.out.2.2.1.isMap), own_map HV2.out.2.1 HV2.out.2.2.1.isMap hg, by rw [← ind_step HA.out.1]; exact hm, own_map HV2.out.2.2.2 HV2.out.2.2.1.isMap hg⟩
                  clear hm hg hb2 hV2 hne
                  go_wp2_with fail
                  go_roundw
                  case rel =>
                    refine ⟨0 + 1, ?_, ?_, ?_⟩
                    · simp
                    · omega
                    · exact HRR
                  case measure => simp [intOf]; omega
                · as_aux_lemma =>
                  obtain ⟨k, rfl⟩ : ∃ k, j = k + 1 := ⟨j - 1, by omega⟩
                  obtain ⟨X, hX⟩ : ∃ X, wr.drew = X := ⟨_, rfl⟩
                  have hbX : Below wr.heap.size wr X := by rw [← hX]; exact (Below.refl _ _).drew
                  have HX : Hid ({ wr with drawn := wr.drawn + 1 } = X ∧ Oc w g1 b1 g2 b2 b0 m m m ⟨nw, K2⟩ ⟨0, L⟩ L X ∧ X.ownsRow (b5 + 1) 23 1 (.slice AT nT cT) nT (rowU (D.map Al.id)) ∧ MapC X b5 (nT + k + 1) (ind (D ++ E.take (k + 1))) ∧ X.ownsRow bX 23 1 (.slice (some ⟨bl, ol, none⟩) nE c3) nE (rowU (E.map Al.id))) := Lib.hid ⟨hX, hQ.out.1.below hbX, row_below hQ.out.2.1 hbX, hQ.out.2.2.1.below hbX, row_below hQ.out.2.2.2 hbX⟩
                  have hne : Nonempty (ClsW (InB X.heap.size X)) := ⟨⟨X, Below.refl _ _, Nat.le_refl _⟩⟩
                  clear hX hbX HM HN cl
                  obtain ⟨pp, hp⟩ : ∃ p, E[k]? = some p := ⟨_, List.getElem?_eq_getElem (by rw [HE.out.2.1]; omega)⟩
                  have hlt2 := srt_pair HE.out.2.2.2.2.1 hp HA.out.1
                  have hpL : pp ∈ L := by rw [← HLK.out.1, ← HE.out.1]; exact List.mem_append_right _ (List.mem_append_left _ (List.mem_of_getElem? hp))
                  have HLP : Hid (∀ Z : World, (∃ W : ClsW (InB X.heap.size X), Z = W.val) → (Instr.lookup 52 (.map (some b0)) (.int .u64 pp.id) false).run Try.prog Z = .ok (.int .u64 pp.t) Z) := Lib.hid (fun Z hZ => by
                    obtain ⟨W, rfl⟩ := hZ
                    have h1 := (HX.out.2.1.mp.below W.2.1).look1 (HLK.out.2.1.1 pp hpL).1
                    have h2 : atA L pp.id = pp.t := by unfold atA; rw [findA_mem HLK.out.2.1.2 hpL]; rfl
                    rw [h2] at h1
                    exact h1)
                  have hUX : UsAt X (some ⟨bl, ol, none⟩) (E.map Al.id) := UsAt.own (B := bX) (c := c3) (by rw [rowU_map, HE.out.2.1]; exact HX.out.2.2.2.2)
                  have x1 : ∀ Z : ClsW (InB X.heap.size X), Z.val.cell? ⟨bl, ol + k, none⟩ = some (.int .u64 pp.id) := fun Z => by
                    obtain ⟨b', o', e', hl', c'⟩ := us_at hUX hp
                    cases e'
                    exact class_cell Z c' hl'
                  have x2 : ∀ Z : ClsW (InB X.heap.size X), Z.val.cell? ⟨bl, ol + (k + 1), none⟩ = some (.int .u64 ai) := fun Z => by
                    obtain ⟨b', o', e', hl', c'⟩ := us_at hUX HA.out.1
                    cases e'
                    exact class_cell Z c' hl'
                  obtain ⟨pi, pt⟩ := pp
                  unfold ltF at hlt2
                  dsimp only at HLP x1 hlt2
                  clear hp hpL hUX
                  have hlt3 : pt ≤ at0 := by omega
                  by_cases hpe : pt = at0
                  · subst hpe
                    have hlt4 : pi < ai := by omega
                    clear hlt2
                    refine wp_region_class (InB X.heap.size X) (by kernel_rfl) (by kernel_rfl) (by rw [HX.out.1]; exact ⟨Below.refl _ _, Nat.le_refl _⟩) fun _ => ?_
                    repeat (first
                      | go_big_quiet_skip
                      | (refine wpQuiet_look 52 _ _ rfl (by rfl) _ (by exact HLP.out) ?_; try simp only [Act.put, List.setIfInBounds_toArray, List.set_cons_succ, List.set_cons_zero])
                      | go_big_quiet_step (fail))
                    refine wpQuiet_nil ?_
                    rintro V2 ⟨⟨V', hV2⟩, eV⟩
                    have eV2 : V2 = V' := eV
                    clear eV
                    subst eV2
                    have hb2 : Below X.heap.size X V2 := hV2.1
                    have HV2 : Hid (Oc w g1 b1 g2 b2 b0 m m m ⟨nw, K2⟩ ⟨0, L⟩ L V2 ∧ V2.ownsRow (b5 + 1) 23 1 (.slice AT nT cT) nT (rowU (D.map Al.id)) ∧ MapC V2 b5 (nT + k + 1) (ind (D ++ E.take (k + 1))) ∧ V2.ownsRow bX 23 1 (.slice (some ⟨bl, ol, none⟩) nE c3) nE (rowU (E.map Al.id))) := Lib.hid ⟨HX.out.2.1.below hb2, row_below HX.out.2.2.1 hb2, HX.out.2.2.2.1.below hb2, row_below HX.out.2.2.2.2 hb2⟩
                    have cl2 : V2.cell? ⟨bl, ol + (k + 1), none⟩ = some (.int .u64 ai) := by
                      obtain ⟨b', o', e', _, c'⟩ := us_at (UsAt.own (B := bX) (c := c3) (by rw [rowU_map, HE.out.2.1]; exact HV2.out.2.2.2)) HA.out.1
                      cases e'
                      exact c'
                    obtain ⟨R, hr, hm, hg⟩ := HV2.out.2.2.1.store HA.out.2 (x := 1) (by decide) (by unfold maxLen; omega)
                    have HRR : Hid (Oc w g1 b1 g2 b2 b0 m m m ⟨nw, K2⟩ ⟨0, L⟩ L R ∧ R.ownsRow (b5 + 1) 23 1 (.slice AT nT cT) nT (rowU (D.map Al.id)) ∧ MapC R b5 (nT + (k + 1 + 1)) (ind (D ++ E.take ((k + 1 + 1)))) ∧ R.ownsRow bX 23 1 (.slice (some ⟨bl, ol, none⟩) nE c3) nE (rowU (E.map Al.id))) := Lib.hid ⟨HV2.out.1.else hg HK.out.l5 (fun e => HK.out.k1 e.symm) (fun e => HK.out.k2 e.symm) HK.out.k0 (no_cells HV2.out.2.2.1.isMap), own_map HV2.out.2.1 HV2.out.2.2.1.isMap hg, by rw [← ind_step HA.out.1]; exact hm, own_map HV2.out.2.2.2 HV2.out.2.2.1.isMap hg⟩
                    clear x1 x2 hm hg hb2 hV2 hne
                    go_wp2_with fail
                    go_roundw
                    case rel =>
                      refine ⟨k + 1 + 1, ?_, ?_, ?_⟩
                      · simp
                      · omega
                      · exact HRR
                    case measure => simp [intOf]; omega
                  · have hlt4 : pt < at0 := by omega
                    have hpe2 : (pt == at0) = false := by simpa using hpe
                    have hng : ¬ at0 < pt := by omega
                    clear hlt2 hlt3 hlt4 hpe
                    refine wp_region_class (InB X.heap.size X) (by kernel_rfl) (by kernel_rfl) (by rw [HX.out.1]; exact ⟨Below.refl _ _, Nat.le_refl _⟩) fun _ => ?_
                    repeat (first
                      | go_big_quiet_skip
                      | (refine wpQuiet_look 52 _ _ rfl (by rfl) _ (by exact HLP.out) ?_; try simp only [Act.put, List.setIfInBounds_toArray, List.set_cons_succ, List.set_cons_zero])
                      | go_big_quiet_step (fail))
                    refine wpQuiet_nil ?_
                    rintro V2 ⟨⟨V', hV2⟩, eV⟩
                    have eV2 : V2 = V' := eV
                    clear eV
                    subst eV2
                    have hb2 : Below X.heap.size X V2 := hV2.1
                    have HV2 : Hid (Oc w g1 b1 g2 b2 b0 m m m ⟨nw, K2⟩ ⟨0, L⟩ L V2 ∧ V2.ownsRow (b5 + 1) 23 1 (.slice AT nT cT) nT (rowU (D.map Al.id)) ∧ MapC V2 b5 (nT + k + 1) (ind (D ++ E.take (k + 1))) ∧ V2.ownsRow bX 23 1 (.slice (some ⟨bl, ol, none⟩) nE c3) nE (rowU (E.map Al.id))) := Lib.hid ⟨HX.out.2.1.below hb2, row_below HX.out.2.2.1 hb2, HX.out.2.2.2.1.below hb2, row_below HX.out.2.2.2.2 hb2⟩
                    have cl2 : V2.cell? ⟨bl, ol + (k + 1), none⟩ = some (.int .u64 ai) := by
                      obtain ⟨b', o', e', _, c'⟩ := us_at (UsAt.own (B := bX) (c := c3) (by rw [rowU_map, HE.out.2.1]; exact HV2.out.2.2.2)) HA.out.1
                      cases e'
                      exact c'
                    obtain ⟨R, hr, hm, hg⟩ := HV2.out.2.2.1.store HA.out.2 (x := 1) (by decide) (by unfold maxLen; omega)
                    have HRR : Hid (Oc w g1 b1 g2 b2 b0 m m m ⟨nw, K2⟩ ⟨0, L⟩ L R ∧ R.ownsRow (b5 + 1) 23 1 (.slice AT nT cT) nT (rowU (D.map Al.id)) ∧ MapC R b5 (nT + (k + 1 + 1)) (ind (D ++ E.take ((k + 1 + 1)))) ∧ R.ownsRow bX 23 1 (.slice (some ⟨bl, ol, none⟩) nE c3) nE (rowU (E.map Al.id))) := Lib.hid ⟨HV2.out.1.else hg HK.out.l5 (fun e => HK.out.k1 e.symm) (fun e => HK.out.k2 e.symm) HK.out.k0 (no_cells HV2.out.2.2.1.isMap), own_map HV2.out.2.1 HV2.out.2.2.1.isMap hg, by rw [← ind_step HA.out.1]; exact hm, own_map HV2.out.2.2.2 HV2.out.2.2.1.isMap hg⟩
                    clear x1 x2 hm hg hb2 hV2 hne
                    go_wp2_with fail
                    go_roundw
                    case rel =>
                      refine ⟨k + 1 + 1, ?_, ?_, ?_⟩
                      · simp
                      · omega
                      · exact HRR
                    case measure => simp [intOf]; omega
              · have hlate := HE.out.2.2.2.2.2 hi0 _ (List.mem_of_getElem? HA.out.1)
                dsimp only at hlate
                go_upto_region 27 with (fail)
                by_cases hj0 : j = 0
                · as_aux_lemma =>
                  subst hj0
                  obtain ⟨X, hX⟩ : ∃ X, wr.drew = X := ⟨_, rfl⟩
                  have hbX : Below wr.heap.size wr X := by rw [← hX]; exact (Below.refl _ _).drew
                  have HX : Hid ({ wr with drawn := wr.drawn + 1 } = X ∧ Oc w g1 b1 g2 b2 b0 m m m ⟨nw, K2⟩ ⟨0, L⟩ L X ∧ X.ownsRow (b5 + 1) 23 1 (.slice AT nT cT) nT (rowU (D.map Al.id)) ∧ MapC X b5 (nT + 0) (ind (D ++ E.take (0))) ∧ X.ownsRow bX 23 1 (.slice (some ⟨bl, ol, none⟩) nE c3) nE (rowU (E.map Al.id))) := Lib.hid ⟨hX, hQ.out.1.below hbX, row_below hQ.out.2.1 hbX, hQ.out.2.2.1.below hbX, row_below hQ.out.2.2.2 hbX⟩
                  have hne : Nonempty (ClsW (InB X.heap.size X)) := ⟨⟨X, Below.refl _ _, Nat.le_refl _⟩⟩
                  clear hX hbX HM HN cl
                  refine wp_region_class (InB X.heap.size X) (by kernel_rfl) (by kernel_rfl) (by rw [HX.out.1]; exact ⟨Below.refl _ _, Nat.le_refl _⟩) fun _ => ?_
                  repeat (go_big_quiet_step (fail))
                  refine wpQuiet_nil ?_
                  rintro V2 ⟨⟨V', hV2⟩, eV⟩
                  have eV2 : V2 = V' := eV
                  clear eV
                  subst eV2
                  have hb2 : Below X.heap.size X V2 := hV2.1
                  have HV2 : Hid (Oc w g1 b1 g2 b2 b0 m m m ⟨nw, K2⟩ ⟨0, L⟩ L V2 ∧ V2.ownsRow (b5 + 1) 23 1 (.slice AT nT cT) nT (rowU (D.map Al.id)) ∧ MapC V2 b5 (nT + 0) (ind (D ++ E.take (0))) ∧ V2.ownsRow bX 23 1 (.slice (some ⟨bl, ol, none⟩) nE c3) nE (rowU (E.map Al.id))) := Lib.hid ⟨HX.out.2.1.below hb2, row_below HX.out.2.2.1 hb2, HX.out.2.2.2.1.below hb2, row_below HX.out.2.2.2.2 hb2⟩
                  have cl2 : V2.cell? ⟨bl, ol, none⟩ = some (.int .u64 ai) := by
                    obtain ⟨b', o', e', _, c'⟩ := us_at (UsAt.own (B := bX) (c := c3) (by rw [rowU_map, HE.out.2.1]; exact HV2.out.2.2.2)) HA.out.1
                    cases e'
                    exact c'
                  obtain ⟨R, hr, hm, hg⟩ := HV2.out.2.2.1.store HA.out.2 (x := 1) (by decide) (by unfold maxLen; omega)
                  have HRR : Hid (Oc w g1 b1 g2 b2 b0 m m m ⟨nw, K2⟩ ⟨0, L⟩ L R ∧ R.ownsRow (b5 + 1) 23 1 (.slice AT nT cT) nT (rowU (D.map Al.id)) ∧ MapC R b5 (nT + (0 + 1)) (ind (D ++ E.take ((0 + 1)))) ∧ R.ownsRow bX 23 1 (.slice (some ⟨bl, ol, none⟩) nE c3) nE (rowU (E.map Al.id))) := Lib.hid ⟨HV2.out.1.else hg HK.out.l5 (fun e => HK.out.k1 e.symm) (fun e => HK.out.k2 e.symm) HK.out.k0 (no_cells HV2.out.2.2.1.isMap), own_map HV2.out.2.1 HV2.out.2.2.1.isMap hg, by rw [← ind_step HA.out.1]; exact hm, own_map HV2.out.2.2.2 HV2.out.2.2.1.isMap hg⟩
                  clear hm hg hb2 hV2 hne
                  go_wp2_with fail
                  go_roundw
                  case rel =>
                    refine ⟨0 + 1, ?_, ?_, ?_⟩
                    · simp
                    · omega
                    · exact HRR
                  case measure => simp [intOf]; omega
                · as_aux_lemma =>
                  obtain ⟨k, rfl⟩ : ∃ k, j = k + 1 := ⟨j - 1, by omega⟩
                  obtain ⟨X, hX⟩ : ∃ X, wr.drew = X := ⟨_, rfl⟩
                  have hbX : Below wr.heap.size wr X := by rw [← hX]; exact (Below.refl _ _).drew
                  have HX : Hid ({ wr with drawn := wr.drawn + 1 } = X ∧ Oc w g1 b1 g2 b2 b0 m m m ⟨nw, K2⟩ ⟨0, L⟩ L X ∧ X.ownsRow (b5 + 1) 23 1 (.slice AT nT cT) nT (rowU (D.map Al.id)) ∧ MapC X b5 (nT + k + 1) (ind (D ++ E.take (k + 1))) ∧ X.ownsRow bX 23 1 (.slice (some ⟨bl, ol, none⟩) nE c3) nE (rowU (E.map Al.id))) := Lib.hid ⟨hX, hQ.out.1.below hbX, row_below hQ.out.2.1 hbX, hQ.out.2.2.1.below hbX, row_below hQ.out.2.2.2 hbX⟩
                  have hne : Nonempty (ClsW (InB X.heap.size X)) := ⟨⟨X, Below.refl _ _, Nat.le_refl _⟩⟩
                  clear hX hbX HM HN cl
                  obtain ⟨pp, hp⟩ : ∃ p, E[k]? = some p := ⟨_, List.getElem?_eq_getElem (by rw [HE.out.2.1]; omega)⟩
                  have hlt2 := srt_pair HE.out.2.2.2.2.1 hp HA.out.1
                  have hpL : pp ∈ L := by rw [← HLK.out.1, ← HE.out.1]; exact List.mem_append_right _ (List.mem_append_left _ (List.mem_of_getElem? hp))
                  have HLP : Hid (∀ Z : World, (∃ W : ClsW (InB X.heap.size X), Z = W.val) → (Instr.lookup 52 (.map (some b0)) (.int .u64 pp.id) false).run Try.prog Z = .ok (.int .u64 pp.t) Z) := Lib.hid (fun Z hZ => by
                    obtain ⟨W, rfl⟩ := hZ
                    have h1 := (HX.out.2.1.mp.below W.2.1).look1 (HLK.out.2.1.1 pp hpL).1
                    have h2 : atA L pp.id = pp.t := by unfold atA; rw [findA_mem HLK.out.2.1.2 hpL]; rfl
                    rw [h2] at h1
                    exact h1)
                  have hUX : UsAt X (some ⟨bl, ol, none⟩) (E.map Al.id) := UsAt.own (B := bX) (c := c3) (by rw [rowU_map, HE.out.2.1]; exact HX.out.2.2.2.2)
                  have x1 : ∀ Z : ClsW (InB X.heap.size X), Z.val.cell? ⟨bl, ol + k, none⟩ = some (.int .u64 pp.id) := fun Z => by
                    obtain ⟨b', o', e', hl', c'⟩ := us_at hUX hp
                    cases e'
                    exact class_cell Z c' hl'
                  have x2 : ∀ Z : ClsW (InB X.heap.size X), Z.val.cell? ⟨bl, ol + (k + 1), none⟩ = some (.int .u64 ai) := fun Z => by
                    obtain ⟨b', o', e', hl', c'⟩ := us_at hUX HA.out.1
                    cases e'
                    exact class_cell Z c' hl'
                  obtain ⟨pi, pt⟩ := pp
                  unfold ltF at hlt2
                  dsimp only at HLP x1 hlt2
                  clear hp hpL hUX
                  have hlt3 : pt ≤ at0 := by omega
                  by_cases hpe : pt = at0
                  · subst hpe
                    have hlt4 : pi < ai := by omega
                    clear hlt2
                    refine wp_region_class (InB X.heap.size X) (by kernel_rfl) (by kernel_rfl) (by rw [HX.out.1]; exact ⟨Below.refl _ _, Nat.le_refl _⟩) fun _ => ?_
                    repeat (first
                      | go_big_quiet_skip
                      | (refine wpQuiet_look 52 _ _ rfl (by rfl) _ (by exact HLP.out) ?_; try simp only [Act.put, List.setIfInBounds_toArray, List.set_cons_succ, List.set_cons_zero])
                      | go_big_quiet_step (fail))
                    refine wpQuiet_nil ?_
                    rintro V2 ⟨⟨V', hV2⟩, eV⟩
                    have eV2 : V2 = V' := eV
                    clear eV
                    subst eV2
                    have hb2 : Below X.heap.size X V2 := hV2.1
                    have HV2 : Hid (Oc w g1 b1 g2 b2 b0 m m m ⟨nw, K2⟩ ⟨0, L⟩ L V2 ∧ V2.ownsRow (b5 + 1) 23 1 (.slice AT nT cT) nT (rowU (D.map Al.id)) ∧ MapC V2 b5 (nT + k + 1) (ind (D ++ E.take (k + 1))) ∧ V2.ownsRow bX 23 1 (.slice (some ⟨bl, ol, none⟩) nE c3) nE (rowU (E.map Al.id))) := Lib.hid ⟨HX.out.2.1.below hb2, row_below HX.out.2.2.1 hb2, HX.out.2.2.2.1.below hb2, row_below HX.out.2.2.2.2 hb2⟩
                    have cl2 : V2.cell? ⟨bl, ol + (k + 1), none⟩ = some (.int .u64 ai) := by
                      obtain ⟨b', o', e', _, c'⟩ := us_at (UsAt.own (B := bX) (c := c3) (by rw [rowU_map, HE.out.2.1]; exact HV2.out.2.2.2)) HA.out.1
                      cases e'
                      exact c'
                    obtain ⟨R, hr, hm, hg⟩ := HV2.out.2.2.1.store HA.out.2 (x := 1) (by decide) (by unfold maxLen; omega)
                    have HRR : Hid (Oc w g1 b1 g2 b2 b0 m m m ⟨nw, K2⟩ ⟨0, L⟩ L R ∧ R.ownsRow (b5 + 1) 23 1 (.slice AT nT cT) nT (rowU (D.map Al.id)) ∧ MapC R b5 (nT + (k + 1 + 1)) (ind (D ++ E.take ((k + 1 + 1)))) ∧ R.ownsRow bX 23 1 (.slice (some ⟨bl, ol, none⟩) nE c3) nE (rowU (E.map Al.id))) := Lib.hid ⟨HV2.out.1.else hg HK.out.l5 (fun e => HK.out.k1 e.symm) (fun e => HK.out.k2 e.symm) HK.out.k0 (no_cells HV2.out.2.2.1.isMap), own_map HV2.out.2.1 HV2.out.2.2.1.isMap hg, by rw [← ind_step HA.out.1]; exact hm, own_map HV2.out.2.2.2 HV2.out.2.2.1.isMap hg⟩
                    clear x1 x2 hm hg hb2 hV2 hne
                    go_wp2_with fail
                    go_roundw
                    case rel =>
                      refine ⟨k + 1 + 1, ?_, ?_, ?_⟩
                      · simp
                      · omega
                      · exact HRR
                    case measure => simp [intOf]; omega
                  · have hlt4 : pt < at0 := by omega
                    have hpe2 : (pt == at0) = false := by simpa using hpe
                    have hng : ¬ at0 < pt := by omega
                    clear hlt2 hlt3 hlt4 hpe
                    refine wp_region_class (InB X.heap.size X) (by kernel_rfl) (by kernel_rfl) (by rw [HX.out.1]; exact ⟨Below.refl _ _, Nat.le_refl _⟩) fun _ => ?_
                    repeat (first
                      | go_big_quiet_skip
                      | (refine wpQuiet_look 52 _ _ rfl (by rfl) _ (by exact HLP.out) ?_; try simp only [Act.put, List.setIfInBounds_toArray, List.set_cons_succ, List.set_cons_zero])
                      | go_big_quiet_step (fail))
                    refine wpQuiet_nil ?_
                    rintro V2 ⟨⟨V', hV2⟩, eV⟩
                    have eV2 : V2 = V' := eV
                    clear eV
                    subst eV2
                    have hb2 : Below X.heap.size X V2 := hV2.1
                    have HV2 : Hid (Oc w g1 b1 g2 b2 b0 m m m ⟨nw, K2⟩ ⟨0, L⟩ L V2 ∧ V2.ownsRow (b5 + 1) 23 1 (.slice AT nT cT) nT (rowU (D.map Al.id)) ∧ MapC V2 b5 (nT + k + 1) (ind (D ++ E.take (k + 1))) ∧ V2.ownsRow bX 23 1 (.slice (some ⟨bl, ol, none⟩) nE c3) nE (rowU (E.map Al.id))) := Lib.hid ⟨HX.out.2.1.below hb2, row_below HX.out.2.2.1 hb2, HX.out.2.2.2.1.below hb2, row_below HX.out.2.2.2.2 hb2⟩
                    have cl2 : V2.cell? ⟨bl, ol + (k + 1), none⟩ = some (.int .u64 ai) := by
                      obtain ⟨b', o', e', _, c'⟩ := us_at (UsAt.own (B := bX) (c := c3) (by rw [rowU_map, HE.out.2.1]; exact HV2.out.2.2.2)) HA.out.1
                      cases e'
                      exact c'
                    obtain ⟨R, hr, hm, hg⟩ := HV2.out.2.2.1.store HA.out.2 (x := 1) (by decide) (by unfold maxLen; omega)
                    have HRR : Hid (Oc w g1 b1 g2 b2 b0 m m m ⟨nw, K2⟩ ⟨0, L⟩ L R ∧ R.ownsRow (b5 + 1) 23 1 (.slice AT nT cT) nT (rowU (D.map Al.id)) ∧ MapC R b5 (nT + (k + 1 + 1)) (ind (D ++ E.take ((k + 1 + 1)))) ∧ R.ownsRow bX 23 1 (.slice (some ⟨bl, ol, none⟩) nE c3) nE (rowU (E.map Al.id))) := Lib.hid ⟨HV2.out.1.else hg HK.out.l5 (fun e => HK.out.k1 e.symm) (fun e => HK.out.k2 e.symm) HK.out.k0 (no_cells HV2.out.2.2.1.isMap), own_map HV2.out.2.1 HV2.out.2.2.1.isMap hg, by rw [← ind_step HA.out.1]; exact hm, own_map HV2.out.2.2.2 HV2.out.2.2.1.isMap hg⟩
                    clear x1 x2 hm hg hb2 hV2 hne
                    go_wp2_with fail
                    go_roundw
                    case rel =>
                      refine ⟨k + 1 + 1, ?_, ?_, ?_⟩
                      · simp
                      · omega
                      · exact HRR
                    case measure => simp [intOf]; omega
            · obtain rfl : j = nE := by omega
              as_aux_lemma =>
              obtain ⟨v2, W9, a2, o2, gv⟩ := app23 wr (b5 + 1) (.slice AT nT cT) nT (D.map Al.id) hQ.out.2.1 A3 j c3 (E.map Al.id) (by rw [rowU_map, HE.out.2.1]) (UsAt.own (B := bX) (c := c3) (by rw [rowU_map, HE.out.2.1]; exact hQ.out.2.2.2)) hQ.out.2.2.1.lt (by omega)
              rw [← List.map_append] at o2
              obtain ⟨A4, c4, rfl⟩ := own_len o2
              have hsn := hQ.out.2.2.1.grown hQ.out.2.1 gv
              rw [List.take_of_length_le (by rw [HE.out.2.1]; exact Nat.le_refl _)] at hsn
              have HW : Hid (Tk w g1 b1 g2 b2 b0 b5 m (b5 + 1) (nT + j) c4 L (D ++ E) K2 nw A4 W9) := Lib.hid ⟨hQ.out.1.grown hQ.out.2.1 HK.out.lB gv, o2, hsn, by rw [List.length_append, HLK.out.2.2.2, HE.out.2.1], by rw [List.append_assoc, HE.out.1]; exact HLK.out.1, fun a ha => by
                rcases List.mem_append.1 ha with q | q
                · exact Int.le_trans (HLK.out.2.2.1 a q) hnw1.1
                · exact HE.out.2.2.1 a q⟩
              have HA2 := Lib.hid a2
              clear a2 o2 gv hQ hsn
              go_wp2_with (at_builtin; refine Lib.wpList_append_run _ rfl _ _ 37 37 rfl _ _ rfl rfl _ _ (by exact HA2.out _) ?_)
              go_roundw
              case rel => exact ⟨i + 1, nw, D ++ E, K2, A4, nT + j, c4, by simp, rfl, rfl, by omega, by omega, by omega, by omega, Lib.hid ⟨HW.out, fun _ => HE.out.2.2.2.1, fun h => absurd h (by omega)⟩⟩
              case measure => simp [intOf]; omega
        · by_cases q0 : i < n2
          · obtain rfl : i = 30 := by omega
            go_wp2_with fail
            go_meet
            case rel => exact ⟨now, D, K, AT, nT, cT, rfl, rfl, hn0, by omega, Lib.hid ⟨hR.out.1, fun _ => hR.out.2.1 (by decide), fun h => absurd h (by omega)⟩⟩
          · obtain rfl : i = n2 := by omega
            go_wp2_with fail
            go_meet
            case rel => exact ⟨now, D, K, AT, nT, cT, rfl, rfl, hn0, by omega, hR⟩
    case rest =>
      obtain ⟨now, D, K, AT, nT, cT, rfl, rfl, hn0, hn1, hF⟩ := hcut
      clear HT2 hcc2
      have hlen := hF.out.1.oc.w1.len
      obtain ⟨D0, hown, hsz, hfd, hall⟩ := hF.out.1.oc.mp.own
      have HD := Lib.hid (And.intro hsz (And.intro hfd hall))
      have HAL := Lib.hid (And.intro hF.out.1.oc.w2.ok.als (And.intro hF.out.1.cut (And.intro hF.out.1.early hF.out.1.oc.w2.len)))
      clear hsz hfd hall
      obtain ⟨rr, hrr⟩ : ∃ r, wc.heap.size = r := ⟨_, rfl⟩
      have HRR := Lib.hid hrr
      clear hrr
      go_upto_block 6 with (first
        | (at_range; refine wpList_range_own _ rfl _ 52 rfl 23 23 id_keyed Try.underlying52 _ b0 m _ rfl hown ?_; intro w0 hrg0 hg0 hs0)
        | fail)
      go_frame
      rw [HRR.out] at hrg0 hs0 ⊢
      have hb0 : Below wc.heap.size wc w0 := (Below.refl _ _).grown hg0 (Nat.le_refl _) (fun j e => by cases e)
      go_wp2_with fail
      go_loopw [22] (fun _ wr => ∃ (left : Lit → Bool) (cnt : Nat), wr.ranges Try.prog 23 uElem b0 rr m D0 left cnt ∧ Hid (Below wc.heap.size wc wr ∧ ∀ kl, left kl = true → Maps.has D0 kl = true))
        (fun _ wr => wr.rangeLeft b0 rr)
      case atStart => exact ⟨_, _, hrg0, Lib.hid ⟨hb0, fun kl h => h⟩⟩
      case round =>
        obtain ⟨left, cnt, hrg, hB⟩ := hrel
        go_wp2_with (first
          | (at_next; refine wpList_next_ranges _ rfl _ rfl 23 id_keyed uElem id (fun x : Int => Value.int .u64 x) (fun key kl hk => ⟨key, rfl⟩) (fun v y hv => by obtain ⟨c, rfl, _⟩ := uElem_inv hv; exact ⟨c, rfl⟩) b0 rr m _ _ _ rfl hrg ?_ ?_)
          | fail)
        · intro hc0 hl0
          obtain ⟨dd, hdd⟩ : ∃ d, dueL L now = d := ⟨_, rfl⟩
          obtain ⟨nD, hnD⟩ : ∃ n, dd.length = n := ⟨_, rfl⟩
          have HOC := Lib.hid (And.intro (hF.out.1.oc.below hB.out.1) (And.intro (row_below hF.out.1.tl hB.out.1) hF.out.1.ln))
          obtain ⟨bZ, hbZ⟩ : ∃ n, wr.heap.size = n := ⟨_, rfl⟩
          have HTK : Hid (Calls Try.prog 13 #[.pointer (some ⟨g2, 0, none⟩), .int .u64 now] wr fun e w' => ∃ A c, e = .returned (.tuple #[.slice A nD c, .int .i64 0]) ∧ w'.ownsRow bZ 23 1 (.slice A nD c) nD (rowU (dd.map Al.id)) ∧ Wh w' g2 b2 m (tickS ⟨0, L⟩ now) ∧ Turns (Two g2 b2) wr w') := Lib.hid (by
            rw [← hnD, ← hdd, ← hbZ]
            exact tick_ok HOC.out.1.w2 now hn0 (by omega) (by omega))
          have HDD := Lib.hid (And.intro hdd hnD)
          clear hdd hnD hbZ hc0 hl0
          go_wp2_with fail
          refine HTK.out.mono ?_
          rintro e V ⟨A5, c5, rfl, o5, hw, hT⟩
          have HV := Lib.hid (And.intro (HOC.out.1.t2 HG.out hw hT) (And.intro (own_turns HOC.out.1.w2 hT (by decide) HOC.out.2.1) o5))
          clear o5 hw hT HTK
          rcases Nat.eq_zero_or_pos n2 with hz2 | hz2
          · have hD0 := hF.out.2.2 hz2
            have hnT : nT = 0 := by rw [← HOC.out.2.2, hD0]; rfl
            have hkl : K.length = L.length := by rw [← hF.out.1.cut, hD0]; rfl
            have HSM := Lib.hid (same_any (w := V) none AT 0 cT 0 [] rfl (by omega) (us_nil _ _) (us_nil _ _))
            have hzz : (K.length : Int) = (L.length : Int) - ((0 : Nat) : Int) := by omega
            subst hz2 hnT
            clear hD0 hkl
            go_wp2_with fail
            refine HSM.out.mono ?_
            rintro e V2 ⟨rfl, hb2⟩
            have HV2 := Lib.hid (HV.out.1.below hb2)
            clear hb2 HSM
            have HLN := Lib.hid (len_any HV2.out.w1)
            have hml := fun ty => HV2.out.mp.len ty
            have hlb : L.length ≤ 60 := Nat.le_trans HAL.out.2.2.2 hm60
            try dsimp only at HLN
            obtain ⟨kn, hkn⟩ : ∃ k, K.length = k := ⟨_, rfl⟩
            obtain ⟨ln, hln2⟩ : ∃ k, L.length = k := ⟨_, rfl⟩
            rw [hkn, hln2] at hzz
            rw [hkn] at HLN
            rw [hln2] at hml hlb
            clear hkn hln2
            go_wp2_with fail
            refine HLN.out.mono ?_
            rintro e V3 ⟨rfl, rfl⟩
            go_wp2_with fail
            refine (wakes_any _).mono ?_
            rintro e Z ⟨rfl, hz⟩
            have HZ := Lib.hid (HV2.out.bel.trans (hz.mono HV2.out.bel.size))
            clear hz
            go_wp2_with fail
            go_ret
            exact ⟨rfl, HZ.out⟩
          · have hDD : dd = D := by rw [← HDD.out.1]; exact told_all hF.out.1.cut hF.out.1.early (hF.out.2.1 hz2)
            have hnn : nD = nT := by rw [← HDD.out.2, hDD]; exact HOC.out.2.2
            subst hDD hnn
            have hTL : dd.length + K.length = L.length := by rw [← hF.out.1.cut, List.length_append]
            have hLm := HAL.out.2.2.2
            have hln := HOC.out.2.2
            have HSM := Lib.hid (same_any (w := V) A5 AT c5 cT nD (dd.map Al.id) (by rw [rowU_map]; exact hln) (by omega) (UsAt.own (B := bZ) (c := c5) (by rw [rowU_map, hln]; exact HV.out.2.2)) (UsAt.own (B := b5 + 1) (c := cT) (by rw [rowU_map, hln]; exact HV.out.2.1)))
            have hzz : (K.length : Int) = (L.length : Int) - (nD : Int) := by omega
            go_wp2_with fail
            refine HSM.out.mono ?_
            rintro e V2 ⟨rfl, hb2⟩
            have HV2 := Lib.hid (HV.out.1.below hb2)
            clear hb2 HSM
            have HLN := Lib.hid (len_any HV2.out.w1)
            have hml := fun ty => HV2.out.mp.len ty
            have hlb : L.length ≤ 60 := Nat.le_trans HAL.out.2.2.2 hm60
            try dsimp only at HLN
            obtain ⟨kn, hkn⟩ : ∃ k, K.length = k := ⟨_, rfl⟩
            obtain ⟨ln, hln2⟩ : ∃ k, L.length = k := ⟨_, rfl⟩
            rw [hkn, hln2] at hzz
            rw [hkn] at HLN
            rw [hln2] at hml hlb
            clear hkn hln2
            go_wp2_with fail
            refine HLN.out.mono ?_
            rintro e V3 ⟨rfl, rfl⟩
            go_wp2_with fail
            refine (wakes_any _).mono ?_
            rintro e Z ⟨rfl, hz⟩
            have HZ := Lib.hid (HV2.out.bel.trans (hz.mono HV2.out.bel.size))
            clear hz
            go_wp2_with fail
            go_ret
            exact ⟨rfl, HZ.out⟩
        · intro x c kl yd yp w2 cnt2 hkey hlk hv hat hrg2 hlt hg2 hs2 hen
          obtain ⟨c', ec, ez⟩ := uElem_inv hv
          obtain rfl : c = c' := by injection ec
          obtain ⟨f, hf, hkf⟩ := HD.out.2.2 kl (hB.out.2 kl hlk)
          have hfw := HAL.out.1.1 f hf
          have hfa := findA_mem HAL.out.1.2 hf
          have hx : x = .int .u64 f.id := id_keyed.inj hkey (by rw [hkf]; exact id_key hfw.1)
          have hcf : c = f.t := by
            have h1 := hat (.lit (.bool false))
            have h2 : yd = .lit (.int .u64 c) := (Prod.mk.inj ez).1
            rw [hkf, (HD.out.2.1 _ hfw.1).2, hfa, h2] at h1
            injection h1 with h1
            injection h1 with _ h1
            exact h1.symm
          subst hx hcf
          try dsimp only [id] at hen ⊢
          have HB2 : Hid (Below wc.heap.size wc w2 ∧ ∀ z, (left z && !z.sameKey kl) = true → Maps.has D0 z = true) := Lib.hid ⟨hB.out.1.grown hg2 hB.out.1.size (fun j e => by injection e with e; rw [← e, ← HRR.out]; exact Nat.le_refl _), fun z hz => hB.out.2 z (by simp only [Bool.and_eq_true] at hz; exact hz.1)⟩
          have HN := (hF.out.1.sn.below HB2.out.1).look hfw.1
          have HAT := Lib.hid (at_any (hF.out.1.oc.w1.below HB2.out.1) f.id hfw.1)
          try dsimp only at HAT
          obtain ⟨fi, ft⟩ := f
          try dsimp only at HN HAT hen hfw
          have HOR := told_or HAL.out.1.2 HAL.out.2.1 hf
          clear hkey hlk hv hat hg2 hs2 ez ec hkf hfa
          rcases HOR with ⟨q1, q2, q3⟩ | ⟨q1, q2, q3⟩
          · try dsimp only at q2 q3
            have hft : ft ≤ now := HAL.out.2.2.1 _ q1
            rw [q2] at HN
            rw [q3, Option.isSome_none] at HAT
            clear q1 q2 q3 hf
            rcases Nat.eq_zero_or_pos n2 with hz2 | hz2
            · subst hz2
              go_wp2_with fail
              refine HAT.out.mono ?_
              rintro e w3 ⟨rfl, rfl⟩
              go_wp2_with fail
              go_roundw
              case rel => exact ⟨_, cnt2, hrg2, HB2⟩
              case measure => rw [hrg2.left_eq, hrg.left_eq]; exact hlt
            · go_wp2_with fail
              refine HAT.out.mono ?_
              rintro e w3 ⟨rfl, rfl⟩
              go_wp2_with fail
              go_roundw
              case rel => exact ⟨_, cnt2, hrg2, HB2⟩
              case measure => rw [hrg2.left_eq, hrg.left_eq]; exact hlt
          · try dsimp only at q2 q3
            have hat2 : atA K fi = ft := by unfold atA; rw [q3]; rfl
            rw [q2] at HN
            rw [hat2, q3, Option.isSome_some] at HAT
            rcases Nat.eq_zero_or_pos n2 with hz2 | hz2
            · subst hz2
              clear q1 q2 q3 hf hat2
              go_wp2_with fail
              refine HAT.out.mono ?_
              rintro e w3 ⟨rfl, rfl⟩
              go_wp2_with fail
              go_roundw
              case rel => exact ⟨_, cnt2, hrg2, HB2⟩
              case measure => rw [hrg2.left_eq, hrg.left_eq]; exact hlt
            · have hft : now < ft := hF.out.2.1 hz2 _ q1
              clear q1 q2 q3 hf hat2
              go_wp2_with fail
              refine HAT.out.mono ?_
              rintro e w3 ⟨rfl, rfl⟩
              go_wp2_with fail
              go_roundw
              case rel => exact ⟨_, cnt2, hrg2, HB2⟩
              case measure => rw [hrg2.left_eq, hrg.left_eq]; exact hlt
end Go.Proofs.Ytdebaoimhijnkaa
