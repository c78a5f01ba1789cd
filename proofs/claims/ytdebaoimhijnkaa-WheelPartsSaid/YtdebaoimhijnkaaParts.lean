/- WheelParts, walked. -/
import Derived.Test.YtdebaoimhijnkaaArgs
import Derived.Deep.DeepCutAuto
import Derived.Deep.CutBlock
set_option linter.unusedVariables false
namespace Go.Proofs.Ytdebaoimhijnkaa
open Go.RowKit Go.Deep Go.BigFrame
attribute [local go_sem ↓] Go.wp_at_zero Go.wp_at_succ
theorem late_due {L : List Al} {now : Int} (h : ∀ a ∈ L, now < a.t) : dueL L now = [] := by
  unfold dueL
  rw [List.filter_eq_nil_iff]
  intro a ha
  have := h a ha
  simp
  omega
theorem late_all {L : List Al} {now : Int} (h : ∀ a ∈ L, now < a.t) : (L.filter fun a => decide (now < a.t)) = L := by
  rw [List.filter_eq_self]
  intro a ha
  simpa using h a ha
theorem due_all {L : List Al} {now : Int} (h : ∀ a ∈ L, a.t ≤ now) : dueL L now = L := by
  unfold dueL
  rw [List.filter_eq_self]
  intro a ha
  simpa using h a ha
theorem due_rest (L : List Al) (now : Int) : (dueL L now).length + (L.filter fun a => decide (now < a.t)).length = L.length := by
  unfold dueL
  induction L with
  | nil => rfl
  | cons a r ih =>
    by_cases h : a.t ≤ now
    · rw [List.filter_cons_of_pos (by simpa using h), List.filter_cons_of_neg (by simp; omega)]
      simp only [List.length_cons]
      omega
    · rw [List.filter_cons_of_neg (by simpa using h), List.filter_cons_of_pos (by simp; omega)]
      simp only [List.length_cons]
      omega
/-- Ids but one. -/
def lessI (L : List Int) (id : Int) : List Int := L.filter fun x => decide (x ≠ id)
theorem less_take {L : List Int} {id : Int} {i : Nat} {x : Int} (h : L[i]? = some x) : lessI (L.take (i + 1)) id = lessI (L.take i) id ++ (if x = id then [] else [x]) := by
  unfold lessI
  rw [List.take_add_one, h, List.filter_append]
  congr 1
  by_cases q : x = id <;> simp [q]
theorem less_ids (L : List Al) (id : Int) : (dropA L id).map Al.id = lessI (L.map Al.id) id := by
  unfold dropA lessI
  rw [List.filter_map]
  rfl
set_option maxHeartbeats 32000000
set_option maxRecDepth 100000
theorem parts_walk (A : Option Addr) (n cp : Nat) (ts0 : List Int) (nw k8 : Int) (w : World) (hn : ts0.length = n) (hN : Nums .u16 w A ts0) (hwf : ∀ x ∈ ts0, (Lit.int .u16 x).wf = true) (hcp : n ≤ cp) (hmx : cp ≤ maxLen)
    (hnw0 : (Lit.int .u16 nw).wf = true) (hk8 : (Lit.int .u8 k8).wf = true) :
    Calls Try.prog 7 #[.slice A n cp, .int .u16 nw, .int .u8 k8] w fun e w' => e = .returned (.bool true) ∧ Below w.heap.size w w' := by
  obtain ⟨m, hm⟩ : ∃ m : Nat, min (n : Int) 40 = m := ⟨min n 40, by omega⟩
  have hmn : m ≤ n ∧ m ≤ 40 := by omega
  obtain ⟨ts, hts⟩ : ∃ ts, ts0.take m = ts := ⟨_, rfl⟩
  have hl : ts.length = m := by rw [← hts, List.length_take]; omega
  have HT := Lib.hid (And.intro hl (And.intro (show Nums .u16 w A ts by rw [← hts]; exact hN.took m) (show ∀ x ∈ ts, (Lit.int .u16 x).wf = true from fun x hx => hwf x (List.mem_of_mem_take (by rw [hts]; exact hx)))))
  have hnw := bd_u16 hnw0
  have hkb := bd_u8 hk8
  have hm0 : m ≤ 40 := hmn.2
  have hmc : m ≤ cp := by omega
  clear hn hN hwf hts hl hmn hnw0 hk8
  go_enter Try.func7, Try.ntmps7
  go_wp2_with fail
  clear hm
  refine (new_any w).mono ?_
  rintro e W1 ⟨g1, b1, rfl, hw1, hb1, p1, p2⟩
  have H1 := Lib.hid (And.intro hw1 (And.intro hb1 (And.intro p1 p2)))
  clear hw1 hb1 p1 p2
  go_wp2_with fail
  refine (new_any W1).mono ?_
  rintro e W2 ⟨g2, b2, rfl, hw2, hb2, p1, p2⟩
  have HG : Hid ((w.heap.size ≤ g1 ∧ w.heap.size ≤ b1) ∧ (w.heap.size ≤ g2 ∧ w.heap.size ≤ b2) ∧ g1 ≠ g2 ∧ b1 ≠ b2) := Lib.hid ⟨H1.out.2.2, ⟨Nat.le_trans H1.out.2.1.size p1, Nat.le_trans H1.out.2.1.size p2⟩, by have := H1.out.1.glt; omega, by have := H1.out.1.blt; omega⟩
  have H2 : Hid (Wh W2 g1 b1 0 ⟨0, []⟩ ∧ Wh W2 g2 b2 0 ⟨0, []⟩ ∧ Below w.heap.size w W2) := Lib.hid ⟨H1.out.1.below hb2, hw2, H1.out.2.1.trans (hb2.mono H1.out.2.1.size)⟩
  clear hw2 hb2 p1 p2 H1
  go_wp2_with fail
  go_loopw [9] (fun v9 wr => ∃ (i : Nat) (L1 L2 : List Al) (n2 : Nat), v9 = .int .i64 i ∧ i ≤ m ∧ n2 ≤ i ∧ Hid (Wh wr g1 b1 i ⟨0, L1⟩ ∧ Wh wr g2 b2 n2 ⟨0, L2⟩ ∧ Below w.heap.size w wr ∧ L1.Perm (al ts i) ∧ L2.Perm ((al ts i).filter fun a => decide (nw < a.t)))) (fun v9 _ => m - (intOf v9).toNat)
  case atStart => exact ⟨0, [], [], 0, rfl, Nat.zero_le _, Nat.le_refl _, Lib.hid ⟨H2.out.1, H2.out.2.1, H2.out.2.2, List.Perm.refl _, List.Perm.refl _⟩⟩
  case round =>
    obtain ⟨i, L1, L2, n2, rfl, hi, hn2, hR⟩ := hrel
    by_cases hlt : i < m
    · obtain ⟨x, hx⟩ : ∃ x, ts[i]? = some x := ⟨_, List.getElem?_eq_getElem (by rw [HT.out.1]; exact hlt)⟩
      have hxb := bd_u16 (HT.out.2.2 x (List.mem_of_getElem? hx))
      have hxd : ts.getD i 0 = x := by simp [List.getD, hx]
      obtain ⟨b, o, rfl, hbl, c0⟩ := (HT.out.2.1.below hR.out.2.2.1) i x hx
      have hwi : (Lit.int .u64 (i : Int)).wf = true := wf64 (by omega) (by omega)
      have hlow1 : ∀ a ∈ al ts i, a ∈ al ts i := fun a ha => ha
      have HS := Lib.hid (set_ok (s := ⟨0, L1⟩) hR.out.1 (i : Int) x hwi hxb.1 (by omega) (by omega))
      have HXD := Lib.hid (And.intro hx hxd)
      clear hx hxd hlow1
      go_wp2_with fail
      refine HS.out.mono ?_
      rintro e V ⟨rfl, hv, tv⟩
      have hV : Hid (Wh V g1 b1 (i + 1) (setS ⟨0, L1⟩ (i : Int) x) ∧ Wh V g2 b2 n2 ⟨0, L2⟩ ∧ Below w.heap.size w V ∧ (setS ⟨0, L1⟩ (i : Int) x).L.Perm (al ts (i + 1))) := Lib.hid ⟨hv, hR.out.2.1.other hR.out.1 (fun e => HG.out.2.2.1 e.symm) (fun e => HG.out.2.2.2 e.symm) tv, below_turns hR.out.2.2.1 tv HG.out.1.1 HG.out.1.2, by
        rw [al_succ, HXD.out.2]
        exact set_perm (s := ⟨0, L1⟩) hR.out.2.2.2.1 (fun a ha => ha) x⟩
      have d0 : V.cell? ⟨b, o + i, none⟩ = some (.int .u16 x) := by
        have := HT.out.2.1.below hV.out.2.2.1
        obtain ⟨b', o', e', _, c'⟩ := this i x HXD.out.1
        cases e'
        exact c'
      clear hv tv c0 HS
      by_cases hlate : nw < x
      · have HS := Lib.hid (set_ok (s := ⟨0, L2⟩) hV.out.2.1 (i : Int) x hwi hxb.1 (by omega) (by omega))
        go_wp2_with fail
        refine HS.out.mono ?_
        rintro e Z ⟨rfl, hz, tz⟩
        have hZ : Hid (Wh Z g1 b1 (i + 1) (setS ⟨0, L1⟩ (i : Int) x) ∧ Wh Z g2 b2 (n2 + 1) (setS ⟨0, L2⟩ (i : Int) x) ∧ Below w.heap.size w Z ∧ (setS ⟨0, L1⟩ (i : Int) x).L.Perm (al ts (i + 1)) ∧ (setS ⟨0, L2⟩ (i : Int) x).L.Perm ((al ts (i + 1)).filter fun a => decide (nw < a.t))) := Lib.hid ⟨hV.out.1.other hV.out.2.1 HG.out.2.2.1 HG.out.2.2.2 tz, hz, below_turns hV.out.2.2.1 tz HG.out.2.1.1 HG.out.2.1.2, hV.out.2.2.2, by
          rw [al_succ, HXD.out.2, List.filter_append, List.filter_cons_of_pos (by simpa using hlate), List.filter_nil]
          exact set_perm (s := ⟨0, L2⟩) hR.out.2.2.2.2 (fun a ha => (List.mem_filter.1 ha).1) x⟩
        clear hz tz d0 hlate
        go_wp2_with fail
        go_roundw
        case rel => exact ⟨i + 1, _, _, n2 + 1, by simp, by omega, by omega, hZ⟩
        case measure => simp [intOf]; omega
      · have hZ : Hid (Wh V g1 b1 (i + 1) (setS ⟨0, L1⟩ (i : Int) x) ∧ Wh V g2 b2 n2 ⟨0, L2⟩ ∧ Below w.heap.size w V ∧ (setS ⟨0, L1⟩ (i : Int) x).L.Perm (al ts (i + 1)) ∧ L2.Perm ((al ts (i + 1)).filter fun a => decide (nw < a.t))) := Lib.hid ⟨hV.out.1, hV.out.2.1, hV.out.2.2.1, hV.out.2.2.2, by
          rw [al_succ, HXD.out.2, List.filter_append, List.filter_cons_of_neg (by simpa using hlate), List.filter_nil, List.append_nil]
          exact hR.out.2.2.2.2⟩
        go_wp2_with fail
        go_roundw
        case rel => exact ⟨i + 1, _, L2, n2, by simp, by omega, by omega, hZ⟩
        case measure => simp [intOf]; omega
    · obtain rfl : i = m := by omega
      obtain ⟨P, hP⟩ : ∃ P, (L1.filter fun a => decide (nw < a.t)) = P := ⟨_, rfl⟩
      have hL2 : L2 = P := by
        rw [← hP]
        exact same_srt hR.out.2.1.ok.srt (hR.out.1.ok.srt.sublist List.filter_sublist) hR.out.2.2.2.2 (hR.out.2.2.2.1.filter _)
      subst hL2
      have hlate : ∀ a ∈ L2, nw < a.t := fun a ha => by rw [← hP] at ha; simpa using (List.mem_filter.1 ha).2
      have hsum := due_rest L1 nw
      rw [hP, hR.out.2.2.2.1.length_eq, al_len] at hsum
      have HT1 := Lib.hid (tick_ok (s := ⟨0, L1⟩) hR.out.1 nw hnw.1 (by omega) (by omega))
      have hpl : ∀ a ∈ L2, ∃ j, j < i ∧ a = ⟨(j : Int), ts.getD j 0⟩ := fun a ha => by rw [← hP] at ha; exact al_mem.1 (hR.out.2.2.2.1.subset (List.mem_filter.1 ha).1)
      obtain ⟨d, hd⟩ : ∃ d, (dueL L1 nw).length = d := ⟨_, rfl⟩
      obtain ⟨p, hp⟩ : ∃ p, L2.length = p := ⟨_, rfl⟩
      rw [hd, hp] at hsum
      have tsum : (((d : Int) + (p : Int)) != (i : Int)) = false := by simp; omega
      have tsum2 : (d + p != i) = false := by simp; omega
      have tsum3 : d + p ≤ i := by omega
      have tsum4 : i ≤ d + p := by omega
      have HP := Lib.hid (And.intro hP (And.intro hlate (And.intro hpl hp)))
      have hpi : p ≤ i := by omega
      rw [hd] at HT1
      clear hP hlate hpl hp hsum hd
      go_wp2_with fail
      refine HT1.out.mono ?_
      rintro e V1 ⟨A1, c1, rfl, _, hv, tv⟩
      have hv' : Wh V1 g1 b1 i ⟨nw, L2⟩ := by
        have : tickS ⟨0, L1⟩ nw = ⟨nw, L2⟩ := by unfold tickS; rw [HP.out.1]
        rwa [this] at hv
      have HV1 : Hid (Wh V1 g1 b1 i ⟨nw, L2⟩ ∧ Wh V1 g2 b2 n2 ⟨0, L2⟩ ∧ Below w.heap.size w V1) := Lib.hid ⟨hv', hR.out.2.1.other hR.out.1 (fun e => HG.out.2.2.1 e.symm) (fun e => HG.out.2.2.2 e.symm) tv, below_turns hR.out.2.2.1 tv HG.out.1.1 HG.out.1.2⟩
      have HT2 := Lib.hid (tick_ok (s := ⟨0, L2⟩) HV1.out.2.1 nw hnw.1 (by omega) (by omega))
      rw [late_due HP.out.2.1] at HT2
      clear hv hv' tv HT1 hR
      go_wp2_with fail
      refine HT2.out.mono ?_
      rintro e V2 ⟨A2, c2, rfl, _, hv, tv⟩
      have hv' : Wh V2 g2 b2 n2 ⟨nw, L2⟩ := by
        have : tickS ⟨0, L2⟩ nw = ⟨nw, L2⟩ := by unfold tickS; rw [late_all HP.out.2.1]
        rwa [this] at hv
      have HV2 : Hid (Wh V2 g1 b1 i ⟨nw, L2⟩ ∧ Wh V2 g2 b2 n2 ⟨nw, L2⟩ ∧ Below w.heap.size w V2) := Lib.hid ⟨HV1.out.1.other HV1.out.2.1 HG.out.2.2.1 HG.out.2.2.2 tv, hv', below_turns HV1.out.2.2 tv HG.out.2.1.1 HG.out.2.1.2⟩
      have HL1 := Lib.hid (len_any HV2.out.1)
      have HL2 := Lib.hid (len_any HV2.out.2.1)
      simp only [HP.out.2.2.2] at HL1 HL2
      clear hv hv' tv HV1 HT2
      go_wp2_with (first
        | (go_at_call 22; with_reducible refine HL1.out.mono ?_; rintro e w' ⟨rfl, rfl⟩)
        | (go_at_call 22; refine HL2.out.mono ?_; rintro e w' ⟨rfl, rfl⟩))
      clear tsum tsum2 tsum3 tsum4 HL1 HL2
      obtain ⟨nx, hnx⟩ : ∃ nx, nextF ⟨nw, L2⟩ = nx := ⟨_, rfl⟩
      obtain ⟨em, hem⟩ : ∃ em, (!L2.isEmpty) = em := ⟨_, rfl⟩
      have HNX := Lib.hid (And.intro hnx hem)
      have HN1 := Lib.hid (next_any HV2.out.1 (by omega))
      have HN2 : Hid (∀ W, Wh W g2 b2 n2 ⟨nw, L2⟩ → Calls Try.prog 17 #[.pointer (some ⟨g2, 0, none⟩)] W fun e w' => e = .returned (.tuple #[.int .u64 nx, .bool em]) ∧ Below W.heap.size W w') := Lib.hid (fun W hW => by
        have := next_any hW (by omega)
        rw [hnx] at this
        rw [← hem]
        exact this)
      rw [hnx] at HN1
      simp only [] at HN1
      rw [hem] at HN1
      clear hnx hem
      refine HN1.out.mono ?_
      rintro e V3 ⟨rfl, hb3⟩
      have HV3 : Hid (Wh V3 g1 b1 i ⟨nw, L2⟩ ∧ Wh V3 g2 b2 n2 ⟨nw, L2⟩ ∧ Below w.heap.size w V3) := Lib.hid ⟨HV2.out.1.below hb3, HV2.out.2.1.below hb3, HV2.out.2.2.trans (hb3.mono HV2.out.2.2.size)⟩
      clear hb3 HV2 HN1
      go_wp2_with fail
      refine (HN2.out V3 HV3.out.2.1).mono ?_
      rintro e V4 ⟨rfl, hb4⟩
      have HV4 : Hid (Wh V4 g1 b1 i ⟨nw, L2⟩ ∧ Wh V4 g2 b2 n2 ⟨nw, L2⟩ ∧ Below w.heap.size w V4) := Lib.hid ⟨HV3.out.1.below hb4, HV3.out.2.1.below hb4, HV3.out.2.2.trans (hb4.mono HV3.out.2.2.size)⟩
      clear hb4 HV3 HN2
      go_wp2_with fail
      refine (copy_any HV4.out.1).mono ?_
      rintro e V5 ⟨g3, b3, rfl, hw3, hb5, p3, p4⟩
      have HV5 : Hid (Wh V5 g1 b1 i ⟨nw, L2⟩ ∧ Wh V5 g2 b2 n2 ⟨nw, L2⟩ ∧ Wh V5 g3 b3 i ⟨nw, L2⟩ ∧ Below w.heap.size w V5) := Lib.hid ⟨HV4.out.1.below hb5, HV4.out.2.1.below hb5, hw3, HV4.out.2.2.trans (hb5.mono HV4.out.2.2.size)⟩
      have HG3 : Hid ((w.heap.size ≤ g3 ∧ w.heap.size ≤ b3) ∧ g1 ≠ g3 ∧ b1 ≠ b3 ∧ g2 ≠ g3 ∧ b2 ≠ b3) := Lib.hid ⟨⟨Nat.le_trans HV4.out.2.2.size p3, Nat.le_trans HV4.out.2.2.size p4⟩, by have := HV4.out.1.glt; omega, by have := HV4.out.1.blt; omega, by have := HV4.out.2.1.glt; omega, by have := HV4.out.2.1.blt; omega⟩
      clear hw3 hb5 p3 p4 HV4
      go_upto_if 122 with (fail)
      go_cut [19] (fun v19 wx => ∃ id : Int, v19 = .int .u64 id ∧ Hid (wx = V5 ∧ (Lit.int .u64 id).wf = true ∧ (0 < i → ∃ j : Nat, id = j ∧ j < i)))
      case first =>
        by_cases hi0 : i = 0
        · subst hi0
          go_wp2_with fail
          go_meet
          case rel => exact ⟨0, rfl, Lib.hid ⟨rfl, by decide, fun h => absurd h (by decide)⟩⟩
        · obtain ⟨k, hk⟩ : ∃ k : Nat, k8 % (i : Int) = k := ⟨(k8 % (i : Int)).toNat, by have := Int.emod_nonneg k8 (show (i : Int) ≠ 0 by omega); omega⟩
          have hkm : k < i := by have := Int.emod_lt_of_pos k8 (show (0 : Int) < i by omega); omega
          have h1 : 1 ≤ i := by omega
          have HK := Lib.hid hk
          clear hk
          go_wp2_with fail
          go_meet
          case rel => exact ⟨(k : Int), by rw [HK.out, IntWalk.u64_in _ (by omega)], Lib.hid ⟨rfl, wf64 (by omega) (by omega), fun _ => ⟨k, rfl, hkm⟩⟩⟩
      case rest =>
        obtain ⟨id, rfl, hcx⟩ := hcut
        obtain ⟨rfl, hidw, hidj⟩ : wc = V5 ∧ (Lit.int .u64 id).wf = true ∧ (0 < i → ∃ j : Nat, id = j ∧ j < i) := hcx.out
        have HID := Lib.hid (And.intro hidw hidj)
        clear hcx hidj hidw
        as_aux_lemma =>
        go_wp2_with fail
        refine (at_any HV5.out.1 id HID.out.1).mono ?_
        rintro e w' ⟨rfl, rfl⟩
        have HST := Lib.hid (stop_any HV5.out.2.2.1 id HID.out.1 (by omega))
        go_wp2_with fail
        refine HST.out.mono ?_
        rintro e V6 ⟨rfl, h6, t6⟩
        have HV6 : Hid (Wh V6 g1 b1 i ⟨nw, L2⟩ ∧ Wh V6 g2 b2 n2 ⟨nw, L2⟩ ∧ Wh V6 g3 b3 i ⟨nw, dropA L2 id⟩ ∧ Below w.heap.size w V6) := Lib.hid ⟨HV5.out.1.other HV5.out.2.2.1 HG3.out.2.1 HG3.out.2.2.1 t6, HV5.out.2.1.other HV5.out.2.2.1 HG3.out.2.2.2.1 HG3.out.2.2.2.2 t6, h6, below_turns HV5.out.2.2.2 t6 HG3.out.1.1 HG3.out.1.2⟩
        clear h6 t6 HST HV5
        rcases (show L2 = [] ∨ ∃ a0 r0, L2 = a0 :: r0 from by cases L2 <;> simp) with hL | ⟨a0, r0, hL⟩
        · skip
          have he0 : em = false := by rw [← HNX.out.2, hL]; rfl
          have hf0 : findA L2 id = none := by rw [hL]; rfl
          have ha0 : atA L2 id = 0 := by unfold atA; rw [hf0]; rfl
          rw [hf0, ha0, he0]
          simp only [Option.isSome_none, Bool.false_eq_true, if_false]
          clear he0 hf0 ha0 hL
          go_upto_region 24 with (fail)
          as_aux_lemma =>
          have HA1 := Lib.hid (tick_ok HV6.out.1 1048576 (by show nw ≤ _; omega) (by decide) (by omega))
          have hall : ∀ a ∈ L2, a.t ≤ 1048576 := fun a ha => by
            obtain ⟨j, hj, rfl⟩ := HP.out.2.2.1 a ha
            have := bd_u16 (HT.out.2.2 (ts.getD j 0) (by
              rw [List.getD_eq_getElem?_getD, List.getElem?_eq_getElem (by rw [HT.out.1]; exact hj)]
              exact List.getElem_mem _))
            show ts.getD j 0 ≤ _
            omega
          have hall2 : ∀ a ∈ dropA L2 id, a.t ≤ 1048576 := fun a ha => hall a ((drop_sub _ _).subset ha)
          simp only [due_all hall, HP.out.2.2.2] at HA1
          obtain ⟨q, hq⟩ : ∃ q, (dropA L2 id).length = q := ⟨_, rfl⟩
          have hqp : q ≤ p := by rw [← hq, ← HP.out.2.2.2]; exact (drop_sub _ _).length_le
          have HAL := Lib.hid (And.intro hall (And.intro hall2 hq))
          clear hall hall2 hq
          go_wp2_with fail
          refine HA1.out.mono ?_
          rintro e V7 ⟨A7, c7, rfl, o7, h7, t7⟩
          have HV7 : Hid (Wh V7 g2 b2 n2 ⟨nw, L2⟩ ∧ Wh V7 g3 b3 i ⟨nw, dropA L2 id⟩ ∧ Below w.heap.size w V7 ∧ V7.ownsRow 0 23 1 (.slice A7 p c7) p (rowU (L2.map Al.id))) := Lib.hid ⟨HV6.out.2.1.other HV6.out.1 (fun e => HG.out.2.2.1 e.symm) (fun e => HG.out.2.2.2 e.symm) t7, HV6.out.2.2.1.other HV6.out.1 (fun e => HG3.out.2.1 e.symm) (fun e => HG3.out.2.2.1 e.symm) t7, below_turns HV6.out.2.2.2 t7 HG.out.1.1 HG.out.1.2, own_up o7⟩
          clear o7 h7 t7 HA1 HV6
          have HA2 := Lib.hid (tick_ok HV7.out.1 1048576 (by show nw ≤ _; omega) (by decide) (by omega))
          simp only [due_all HAL.out.1, HP.out.2.2.2] at HA2
          go_wp2_with fail
          refine HA2.out.mono ?_
          rintro e V8 ⟨A8, c8, rfl, o8, h8, t8⟩
          have HV8 : Hid (Wh V8 g3 b3 i ⟨nw, dropA L2 id⟩ ∧ Below w.heap.size w V8 ∧ V8.ownsRow 0 23 1 (.slice A7 p c7) p (rowU (L2.map Al.id)) ∧ V8.ownsRow 0 23 1 (.slice A8 p c8) p (rowU (L2.map Al.id))) := Lib.hid ⟨HV7.out.2.1.other HV7.out.1 (fun e => HG3.out.2.2.2.1 e.symm) (fun e => HG3.out.2.2.2.2 e.symm) t8, below_turns HV7.out.2.2.1 t8 HG.out.2.1.1 HG.out.2.1.2, own_turns HV7.out.1 t8 (by decide) HV7.out.2.2.2, own_up o8⟩
          clear o8 h8 t8 HA2 HV7
          have HA3 := Lib.hid (tick_ok HV8.out.1 1048576 (by show nw ≤ _; omega) (by decide) (by omega))
          simp only [due_all HAL.out.2.1, HAL.out.2.2] at HA3
          go_wp2_with fail
          refine HA3.out.mono ?_
          rintro e V9 ⟨A9, c9, rfl, o9, h9, t9⟩
          have HV9 : Hid (Below w.heap.size w V9 ∧ V9.ownsRow 0 23 1 (.slice A7 p c7) p (rowU (L2.map Al.id)) ∧ V9.ownsRow 0 23 1 (.slice A8 p c8) p (rowU (L2.map Al.id)) ∧ V9.ownsRow 0 23 1 (.slice A9 q c9) q (rowU ((dropA L2 id).map Al.id))) := Lib.hid ⟨below_turns HV8.out.2.1 t9 HG3.out.1.1 HG3.out.1.2, own_turns HV8.out.1 t9 (by decide) HV8.out.2.2.1, own_turns HV8.out.1 t9 (by decide) HV8.out.2.2.2, own_up o9⟩
          clear o9 h9 t9 HA3 HV8
          obtain ⟨I, hI⟩ : ∃ I, L2.map Al.id = I := ⟨_, rfl⟩
          have hIl : I.length = p := by rw [← hI, List.length_map, HP.out.2.2.2]
          have hJ : (dropA L2 id).map Al.id = lessI I id := by rw [less_ids, hI]
          have hJl : (lessI I id).length = q := by rw [← hJ, List.length_map, HAL.out.2.2]
          have HU : Hid (UsAt V9 A7 I ∧ UsAt V9 A8 I ∧ UsAt V9 A9 (lessI I id)) := Lib.hid (by
            obtain ⟨h0, h1, h2, h3⟩ := HV9.out
            rw [hI] at h1 h2
            rw [hJ] at h3
            exact ⟨UsAt.own (B := 0) (c := c7) (by rw [hIl]; exact h1), UsAt.own (B := 0) (c := c8) (by rw [hIl]; exact h2), UsAt.own (B := 0) (c := c9) (by rw [hJl]; exact h3)⟩)
          have HI := Lib.hid (And.intro hIl hJl)
          have HSM := Lib.hid (same_any A7 A8 c7 c8 p I hIl (by omega) HU.out.1 HU.out.2.1)
          clear hI hJ hIl hJl
          go_wp2_with fail
          refine HSM.out.mono ?_
          rintro e X ⟨rfl, hX⟩
          have HX : Hid (Below w.heap.size w X ∧ UsAt X A7 I ∧ UsAt X A9 (lessI I id)) := Lib.hid ⟨HV9.out.1.trans (hX.mono HV9.out.1.size), HU.out.1.below hX, HU.out.2.2.below hX⟩
          clear hX HSM HU HV9
          as_aux_lemma =>
          go_wp2_with fail
          go_loopw [28, 29] (fun v28 v29 wr => ∃ (j : Nat) (A2 : Option Addr) (n3 c2 : Nat), v29 = .int .i64 j ∧ v28 = .slice A2 n3 c2 ∧ j ≤ p ∧ n3 ≤ j ∧ Hid ((lessI (I.take j) id).length = n3 ∧ wr.ownsRow X.heap.size 23 1 (.slice A2 n3 c2) n3 (rowU (lessI (I.take j) id)) ∧ Below X.heap.size X wr)) (fun _ v29 _ => p - (intOf v29).toNat)
          case atStart => exact ⟨0, none, 0, 0, rfl, rfl, Nat.zero_le _, Nat.le_refl _, Lib.hid ⟨by simp [lessI], World.ownsRow_nil _ _ _ _, Below.refl _ _⟩⟩
          case round =>
            obtain ⟨j, A2, n3, c2, rfl, rfl, hj, hn3, hR⟩ := hrel
            by_cases hlt : j < p
            · obtain ⟨x, hx⟩ : ∃ x, I[j]? = some x := ⟨_, List.getElem?_eq_getElem (by rw [HI.out.1]; exact hlt)⟩
              obtain ⟨b, o, rfl, _, k0⟩ := (HX.out.2.1.below hR.out.2.2) j x hx
              have HXX := Lib.hid hx
              clear hx
              by_cases he : x = id
              · have t1 : (x != id) = false := by simpa using he
                have HE := Lib.hid he
                clear he
                go_wp2_with fail
                go_roundw
                case rel => exact ⟨j + 1, A2, n3, c2, by simp, rfl, by omega, by omega, Lib.hid (by rw [less_take HXX.out, if_pos HE.out, List.append_nil]; exact hR.out)⟩
                case measure => simp [intOf]; omega
              · have t1 : (x != id) = true := by simpa using he
                have HE := Lib.hid he
                obtain ⟨v2, V, a2, ow2, gv⟩ := app23 (wr.alloc (.cells #[.int .u64 x] 23)) X.heap.size (.slice A2 n3 c2) n3 (lessI (I.take j) id) (row_below hR.out.2.1 (bel_alloc _ _)) (some ⟨wr.heap.size, 0, none⟩) 1 1 [x] rfl (us_one (heap_alloc_new _ _)) (by rw [World.size_alloc]; have := hR.out.2.2.size; omega) (by omega)
                have hbV : Below X.heap.size X V := grown_bel (hR.out.2.2.trans ((bel_alloc _ _).mono hR.out.2.2.size)) gv (fun j e => (hR.out.2.1.lt j e).1)
                obtain ⟨A3, c3, rfl⟩ := own_len ow2
                have HA2 := Lib.hid a2
                have HV := Lib.hid (And.intro ow2 hbV)
                clear he a2 ow2 gv hbV
                go_wp2_with (at_builtin; refine Lib.wpList_append_run _ rfl _ _ 37 37 rfl _ _ rfl rfl _ _ (by exact HA2.out _) ?_)
                go_roundw
                case rel => exact ⟨j + 1, A3, n3 + 1, c3, by simp, rfl, by omega, by omega, Lib.hid (by rw [less_take HXX.out, if_neg HE.out]; exact ⟨by rw [List.length_append, hR.out.1]; rfl, HV.out⟩)⟩
                case measure => simp [intOf]; omega
            · obtain rfl : j = p := by omega
              have e1 : I.take j = I := List.take_of_length_le (by rw [HI.out.1]; exact Nat.le_refl _)
              have hR2 := hR.out
              rw [e1, HI.out.2] at hR2
              have hqn : q = n3 := hR2.1
              subst hqn
              have HR2 := Lib.hid hR2
              have HS2 := Lib.hid (same_any (w := wr) A9 A2 c9 c2 q (lessI I id) HI.out.2 (by omega) (HX.out.2.2.below hR2.2.2) (UsAt.own (B := X.heap.size) (c := c2) (by rw [HI.out.2]; exact hR2.2.1)))
              clear hR2 e1
              go_wp2_with fail
              refine HS2.out.mono ?_
              rintro e Y ⟨rfl, hY⟩
              have HY := Lib.hid (HX.out.1.trans ((HR2.out.2.2.trans (hY.mono HR2.out.2.2.size)).mono HX.out.1.size))
              clear hY
              go_wp2_with fail
              refine (wakes_any Y).mono ?_
              rintro e Z ⟨rfl, hZ⟩
              have HZ := Lib.hid (HY.out.trans (hZ.mono HY.out.size))
              clear hZ
              go_wp2_with fail
              go_ret
              exact ⟨rfl, HZ.out⟩
        · skip
          have he0 : em = true := by rw [← HNX.out.2, hL]; rfl
          have hnx : nw < nx := by
            rw [← HNX.out.1]
            unfold nextF
            rw [hL]
            exact HP.out.2.1 a0 (by rw [hL]; exact List.mem_cons_self)
          clear hL
          cases hf : findA L2 id with
          | none =>
            have ha0 : atA L2 id = 0 := by unfold atA; rw [hf]; rfl
            rw [ha0, he0]
            simp only [Option.isSome_none, Bool.false_eq_true, if_false]
            clear he0 hf ha0
            go_upto_region 24 with (fail)
            clear hnx
            as_aux_lemma =>
            have HA1 := Lib.hid (tick_ok HV6.out.1 1048576 (by show nw ≤ _; omega) (by decide) (by omega))
            have hall : ∀ a ∈ L2, a.t ≤ 1048576 := fun a ha => by
              obtain ⟨j, hj, rfl⟩ := HP.out.2.2.1 a ha
              have := bd_u16 (HT.out.2.2 (ts.getD j 0) (by
                rw [List.getD_eq_getElem?_getD, List.getElem?_eq_getElem (by rw [HT.out.1]; exact hj)]
                exact List.getElem_mem _))
              show ts.getD j 0 ≤ _
              omega
            have hall2 : ∀ a ∈ dropA L2 id, a.t ≤ 1048576 := fun a ha => hall a ((drop_sub _ _).subset ha)
            simp only [due_all hall, HP.out.2.2.2] at HA1
            obtain ⟨q, hq⟩ : ∃ q, (dropA L2 id).length = q := ⟨_, rfl⟩
            have hqp : q ≤ p := by rw [← hq, ← HP.out.2.2.2]; exact (drop_sub _ _).length_le
            have HAL := Lib.hid (And.intro hall (And.intro hall2 hq))
            clear hall hall2 hq
            go_wp2_with fail
            refine HA1.out.mono ?_
            rintro e V7 ⟨A7, c7, rfl, o7, h7, t7⟩
            have HV7 : Hid (Wh V7 g2 b2 n2 ⟨nw, L2⟩ ∧ Wh V7 g3 b3 i ⟨nw, dropA L2 id⟩ ∧ Below w.heap.size w V7 ∧ V7.ownsRow 0 23 1 (.slice A7 p c7) p (rowU (L2.map Al.id))) := Lib.hid ⟨HV6.out.2.1.other HV6.out.1 (fun e => HG.out.2.2.1 e.symm) (fun e => HG.out.2.2.2 e.symm) t7, HV6.out.2.2.1.other HV6.out.1 (fun e => HG3.out.2.1 e.symm) (fun e => HG3.out.2.2.1 e.symm) t7, below_turns HV6.out.2.2.2 t7 HG.out.1.1 HG.out.1.2, own_up o7⟩
            clear o7 h7 t7 HA1 HV6
            have HA2 := Lib.hid (tick_ok HV7.out.1 1048576 (by show nw ≤ _; omega) (by decide) (by omega))
            simp only [due_all HAL.out.1, HP.out.2.2.2] at HA2
            go_wp2_with fail
            refine HA2.out.mono ?_
            rintro e V8 ⟨A8, c8, rfl, o8, h8, t8⟩
            have HV8 : Hid (Wh V8 g3 b3 i ⟨nw, dropA L2 id⟩ ∧ Below w.heap.size w V8 ∧ V8.ownsRow 0 23 1 (.slice A7 p c7) p (rowU (L2.map Al.id)) ∧ V8.ownsRow 0 23 1 (.slice A8 p c8) p (rowU (L2.map Al.id))) := Lib.hid ⟨HV7.out.2.1.other HV7.out.1 (fun e => HG3.out.2.2.2.1 e.symm) (fun e => HG3.out.2.2.2.2 e.symm) t8, below_turns HV7.out.2.2.1 t8 HG.out.2.1.1 HG.out.2.1.2, own_turns HV7.out.1 t8 (by decide) HV7.out.2.2.2, own_up o8⟩
            clear o8 h8 t8 HA2 HV7
            have HA3 := Lib.hid (tick_ok HV8.out.1 1048576 (by show nw ≤ _; omega) (by decide) (by omega))
            simp only [due_all HAL.out.2.1, HAL.out.2.2] at HA3
            go_wp2_with fail
            refine HA3.out.mono ?_
            rintro e V9 ⟨A9, c9, rfl, o9, h9, t9⟩
            have HV9 : Hid (Below w.heap.size w V9 ∧ V9.ownsRow 0 23 1 (.slice A7 p c7) p (rowU (L2.map Al.id)) ∧ V9.ownsRow 0 23 1 (.slice A8 p c8) p (rowU (L2.map Al.id)) ∧ V9.ownsRow 0 23 1 (.slice A9 q c9) q (rowU ((dropA L2 id).map Al.id))) := Lib.hid ⟨below_turns HV8.out.2.1 t9 HG3.out.1.1 HG3.out.1.2, own_turns HV8.out.1 t9 (by decide) HV8.out.2.2.1, own_turns HV8.out.1 t9 (by decide) HV8.out.2.2.2, own_up o9⟩
            clear o9 h9 t9 HA3 HV8
            obtain ⟨I, hI⟩ : ∃ I, L2.map Al.id = I := ⟨_, rfl⟩
            have hIl : I.length = p := by rw [← hI, List.length_map, HP.out.2.2.2]
            have hJ : (dropA L2 id).map Al.id = lessI I id := by rw [less_ids, hI]
            have hJl : (lessI I id).length = q := by rw [← hJ, List.length_map, HAL.out.2.2]
            have HU : Hid (UsAt V9 A7 I ∧ UsAt V9 A8 I ∧ UsAt V9 A9 (lessI I id)) := Lib.hid (by
              obtain ⟨h0, h1, h2, h3⟩ := HV9.out
              rw [hI] at h1 h2
              rw [hJ] at h3
              exact ⟨UsAt.own (B := 0) (c := c7) (by rw [hIl]; exact h1), UsAt.own (B := 0) (c := c8) (by rw [hIl]; exact h2), UsAt.own (B := 0) (c := c9) (by rw [hJl]; exact h3)⟩)
            have HI := Lib.hid (And.intro hIl hJl)
            have HSM := Lib.hid (same_any A7 A8 c7 c8 p I hIl (by omega) HU.out.1 HU.out.2.1)
            clear hI hJ hIl hJl
            go_wp2_with fail
            refine HSM.out.mono ?_
            rintro e X ⟨rfl, hX⟩
            have HX : Hid (Below w.heap.size w X ∧ UsAt X A7 I ∧ UsAt X A9 (lessI I id)) := Lib.hid ⟨HV9.out.1.trans (hX.mono HV9.out.1.size), HU.out.1.below hX, HU.out.2.2.below hX⟩
            clear hX HSM HU HV9
            as_aux_lemma =>
            go_wp2_with fail
            go_loopw [28, 29] (fun v28 v29 wr => ∃ (j : Nat) (A2 : Option Addr) (n3 c2 : Nat), v29 = .int .i64 j ∧ v28 = .slice A2 n3 c2 ∧ j ≤ p ∧ n3 ≤ j ∧ Hid ((lessI (I.take j) id).length = n3 ∧ wr.ownsRow X.heap.size 23 1 (.slice A2 n3 c2) n3 (rowU (lessI (I.take j) id)) ∧ Below X.heap.size X wr)) (fun _ v29 _ => p - (intOf v29).toNat)
            case atStart => exact ⟨0, none, 0, 0, rfl, rfl, Nat.zero_le _, Nat.le_refl _, Lib.hid ⟨by simp [lessI], World.ownsRow_nil _ _ _ _, Below.refl _ _⟩⟩
            case round =>
              obtain ⟨j, A2, n3, c2, rfl, rfl, hj, hn3, hR⟩ := hrel
              by_cases hlt : j < p
              · obtain ⟨x, hx⟩ : ∃ x, I[j]? = some x := ⟨_, List.getElem?_eq_getElem (by rw [HI.out.1]; exact hlt)⟩
                obtain ⟨b, o, rfl, _, k0⟩ := (HX.out.2.1.below hR.out.2.2) j x hx
                have HXX := Lib.hid hx
                clear hx
                by_cases he : x = id
                · have t1 : (x != id) = false := by simpa using he
                  have HE := Lib.hid he
                  clear he
                  go_wp2_with fail
                  go_roundw
                  case rel => exact ⟨j + 1, A2, n3, c2, by simp, rfl, by omega, by omega, Lib.hid (by rw [less_take HXX.out, if_pos HE.out, List.append_nil]; exact hR.out)⟩
                  case measure => simp [intOf]; omega
                · have t1 : (x != id) = true := by simpa using he
                  have HE := Lib.hid he
                  obtain ⟨v2, V, a2, ow2, gv⟩ := app23 (wr.alloc (.cells #[.int .u64 x] 23)) X.heap.size (.slice A2 n3 c2) n3 (lessI (I.take j) id) (row_below hR.out.2.1 (bel_alloc _ _)) (some ⟨wr.heap.size, 0, none⟩) 1 1 [x] rfl (us_one (heap_alloc_new _ _)) (by rw [World.size_alloc]; have := hR.out.2.2.size; omega) (by omega)
                  have hbV : Below X.heap.size X V := grown_bel (hR.out.2.2.trans ((bel_alloc _ _).mono hR.out.2.2.size)) gv (fun j e => (hR.out.2.1.lt j e).1)
                  obtain ⟨A3, c3, rfl⟩ := own_len ow2
                  have HA2 := Lib.hid a2
                  have HV := Lib.hid (And.intro ow2 hbV)
                  clear he a2 ow2 gv hbV
                  go_wp2_with (at_builtin; refine Lib.wpList_append_run _ rfl _ _ 37 37 rfl _ _ rfl rfl _ _ (by exact HA2.out _) ?_)
                  go_roundw
                  case rel => exact ⟨j + 1, A3, n3 + 1, c3, by simp, rfl, by omega, by omega, Lib.hid (by rw [less_take HXX.out, if_neg HE.out]; exact ⟨by rw [List.length_append, hR.out.1]; rfl, HV.out⟩)⟩
                  case measure => simp [intOf]; omega
              · obtain rfl : j = p := by omega
                have e1 : I.take j = I := List.take_of_length_le (by rw [HI.out.1]; exact Nat.le_refl _)
                have hR2 := hR.out
                rw [e1, HI.out.2] at hR2
                have hqn : q = n3 := hR2.1
                subst hqn
                have HR2 := Lib.hid hR2
                have HS2 := Lib.hid (same_any (w := wr) A9 A2 c9 c2 q (lessI I id) HI.out.2 (by omega) (HX.out.2.2.below hR2.2.2) (UsAt.own (B := X.heap.size) (c := c2) (by rw [HI.out.2]; exact hR2.2.1)))
                clear hR2 e1
                go_wp2_with fail
                refine HS2.out.mono ?_
                rintro e Y ⟨rfl, hY⟩
                have HY := Lib.hid (HX.out.1.trans ((HR2.out.2.2.trans (hY.mono HR2.out.2.2.size)).mono HX.out.1.size))
                clear hY
                go_wp2_with fail
                refine (wakes_any Y).mono ?_
                rintro e Z ⟨rfl, hZ⟩
                have HZ := Lib.hid (HY.out.trans (hZ.mono HY.out.size))
                clear hZ
                go_wp2_with fail
                go_ret
                exact ⟨rfl, HZ.out⟩
          | some a =>
            have ha0 : atA L2 id = a.t := by unfold atA; rw [hf]; rfl
            obtain ⟨hm1, hm2⟩ := findA_some hf
            obtain ⟨jd, hj, hja⟩ := HP.out.2.2.1 a hm1
            have hidj : id = (jd : Int) := by rw [← hm2, hja]
            have hat : ts[jd]? = some a.t := by
              rw [hja]
              show ts[jd]? = some (ts.getD jd 0)
              rw [List.getD_eq_getElem?_getD, List.getElem?_eq_getElem (by rw [HT.out.1]; exact hj)]
              rfl
            obtain ⟨b, o, hA, hbl, c0⟩ := (HT.out.2.1.below HV6.out.2.2.2) jd a.t hat
            subst hA
            subst hidj
            have hab := bd_u16 (HT.out.2.2 a.t (List.mem_of_getElem? hat))
            have tab : (a.t != a.t) = false := by simp
            rw [ha0, he0]
            simp only [Option.isSome_some, if_true]
            clear he0 hf ha0 hm1 hm2 hja hat hbl
            go_upto_region 24 with (fail)
            clear hnx c0 hab tab
            as_aux_lemma =>
            have HA1 := Lib.hid (tick_ok HV6.out.1 1048576 (by show nw ≤ _; omega) (by decide) (by omega))
            have hall : ∀ a ∈ L2, a.t ≤ 1048576 := fun a ha => by
              obtain ⟨j, hj, rfl⟩ := HP.out.2.2.1 a ha
              have := bd_u16 (HT.out.2.2 (ts.getD j 0) (by
                rw [List.getD_eq_getElem?_getD, List.getElem?_eq_getElem (by rw [HT.out.1]; exact hj)]
                exact List.getElem_mem _))
              show ts.getD j 0 ≤ _
              omega
            have hall2 : ∀ a ∈ dropA L2 (jd : Int), a.t ≤ 1048576 := fun a ha => hall a ((drop_sub _ _).subset ha)
            simp only [due_all hall, HP.out.2.2.2] at HA1
            obtain ⟨q, hq⟩ : ∃ q, (dropA L2 (jd : Int)).length = q := ⟨_, rfl⟩
            have hqp : q ≤ p := by rw [← hq, ← HP.out.2.2.2]; exact (drop_sub _ _).length_le
            have HAL := Lib.hid (And.intro hall (And.intro hall2 hq))
            clear hall hall2 hq
            go_wp2_with fail
            refine HA1.out.mono ?_
            rintro e V7 ⟨A7, c7, rfl, o7, h7, t7⟩
            have HV7 : Hid (Wh V7 g2 b2 n2 ⟨nw, L2⟩ ∧ Wh V7 g3 b3 i ⟨nw, dropA L2 (jd : Int)⟩ ∧ Below w.heap.size w V7 ∧ V7.ownsRow 0 23 1 (.slice A7 p c7) p (rowU (L2.map Al.id))) := Lib.hid ⟨HV6.out.2.1.other HV6.out.1 (fun e => HG.out.2.2.1 e.symm) (fun e => HG.out.2.2.2 e.symm) t7, HV6.out.2.2.1.other HV6.out.1 (fun e => HG3.out.2.1 e.symm) (fun e => HG3.out.2.2.1 e.symm) t7, below_turns HV6.out.2.2.2 t7 HG.out.1.1 HG.out.1.2, own_up o7⟩
            clear o7 h7 t7 HA1 HV6
            have HA2 := Lib.hid (tick_ok HV7.out.1 1048576 (by show nw ≤ _; omega) (by decide) (by omega))
            simp only [due_all HAL.out.1, HP.out.2.2.2] at HA2
            go_wp2_with fail
            refine HA2.out.mono ?_
            rintro e V8 ⟨A8, c8, rfl, o8, h8, t8⟩
            have HV8 : Hid (Wh V8 g3 b3 i ⟨nw, dropA L2 (jd : Int)⟩ ∧ Below w.heap.size w V8 ∧ V8.ownsRow 0 23 1 (.slice A7 p c7) p (rowU (L2.map Al.id)) ∧ V8.ownsRow 0 23 1 (.slice A8 p c8) p (rowU (L2.map Al.id))) := Lib.hid ⟨HV7.out.2.1.other HV7.out.1 (fun e => HG3.out.2.2.2.1 e.symm) (fun e => HG3.out.2.2.2.2 e.symm) t8, below_turns HV7.out.2.2.1 t8 HG.out.2.1.1 HG.out.2.1.2, own_turns HV7.out.1 t8 (by decide) HV7.out.2.2.2, own_up o8⟩
            clear o8 h8 t8 HA2 HV7
            have HA3 := Lib.hid (tick_ok HV8.out.1 1048576 (by show nw ≤ _; omega) (by decide) (by omega))
            simp only [due_all HAL.out.2.1, HAL.out.2.2] at HA3
            go_wp2_with fail
            refine HA3.out.mono ?_
            rintro e V9 ⟨A9, c9, rfl, o9, h9, t9⟩
            have HV9 : Hid (Below w.heap.size w V9 ∧ V9.ownsRow 0 23 1 (.slice A7 p c7) p (rowU (L2.map Al.id)) ∧ V9.ownsRow 0 23 1 (.slice A8 p c8) p (rowU (L2.map Al.id)) ∧ V9.ownsRow 0 23 1 (.slice A9 q c9) q (rowU ((dropA L2 (jd : Int)).map Al.id))) := Lib.hid ⟨below_turns HV8.out.2.1 t9 HG3.out.1.1 HG3.out.1.2, own_turns HV8.out.1 t9 (by decide) HV8.out.2.2.1, own_turns HV8.out.1 t9 (by decide) HV8.out.2.2.2, own_up o9⟩
            clear o9 h9 t9 HA3 HV8
            obtain ⟨I, hI⟩ : ∃ I, L2.map Al.id = I := ⟨_, rfl⟩
            have hIl : I.length = p := by rw [← hI, List.length_map, HP.out.2.2.2]
            have hJ : (dropA L2 (jd : Int)).map Al.id = lessI I (jd : Int) := by rw [less_ids, hI]
            have hJl : (lessI I (jd : Int)).length = q := by rw [← hJ, List.length_map, HAL.out.2.2]
            have HU : Hid (UsAt V9 A7 I ∧ UsAt V9 A8 I ∧ UsAt V9 A9 (lessI I (jd : Int))) := Lib.hid (by
              obtain ⟨h0, h1, h2, h3⟩ := HV9.out
              rw [hI] at h1 h2
              rw [hJ] at h3
              exact ⟨UsAt.own (B := 0) (c := c7) (by rw [hIl]; exact h1), UsAt.own (B := 0) (c := c8) (by rw [hIl]; exact h2), UsAt.own (B := 0) (c := c9) (by rw [hJl]; exact h3)⟩)
            have HI := Lib.hid (And.intro hIl hJl)
            have HSM := Lib.hid (same_any A7 A8 c7 c8 p I hIl (by omega) HU.out.1 HU.out.2.1)
            clear hI hJ hIl hJl
            go_wp2_with fail
            refine HSM.out.mono ?_
            rintro e X ⟨rfl, hX⟩
            have HX : Hid (Below w.heap.size w X ∧ UsAt X A7 I ∧ UsAt X A9 (lessI I (jd : Int))) := Lib.hid ⟨HV9.out.1.trans (hX.mono HV9.out.1.size), HU.out.1.below hX, HU.out.2.2.below hX⟩
            clear hX HSM HU HV9
            as_aux_lemma =>
            go_wp2_with fail
            go_loopw [28, 29] (fun v28 v29 wr => ∃ (j : Nat) (A2 : Option Addr) (n3 c2 : Nat), v29 = .int .i64 j ∧ v28 = .slice A2 n3 c2 ∧ j ≤ p ∧ n3 ≤ j ∧ Hid ((lessI (I.take j) (jd : Int)).length = n3 ∧ wr.ownsRow X.heap.size 23 1 (.slice A2 n3 c2) n3 (rowU (lessI (I.take j) (jd : Int))) ∧ Below X.heap.size X wr)) (fun _ v29 _ => p - (intOf v29).toNat)
            case atStart => exact ⟨0, none, 0, 0, rfl, rfl, Nat.zero_le _, Nat.le_refl _, Lib.hid ⟨by simp [lessI], World.ownsRow_nil _ _ _ _, Below.refl _ _⟩⟩
            case round =>
              obtain ⟨j, A2, n3, c2, rfl, rfl, hj, hn3, hR⟩ := hrel
              by_cases hlt : j < p
              · obtain ⟨x, hx⟩ : ∃ x, I[j]? = some x := ⟨_, List.getElem?_eq_getElem (by rw [HI.out.1]; exact hlt)⟩
                obtain ⟨b, o, rfl, _, k0⟩ := (HX.out.2.1.below hR.out.2.2) j x hx
                have HXX := Lib.hid hx
                clear hx
                by_cases he : x = (jd : Int)
                · have t1 : (x != (jd : Int)) = false := by simpa using he
                  have HE := Lib.hid he
                  clear he
                  go_wp2_with fail
                  go_roundw
                  case rel => exact ⟨j + 1, A2, n3, c2, by simp, rfl, by omega, by omega, Lib.hid (by rw [less_take HXX.out, if_pos HE.out, List.append_nil]; exact hR.out)⟩
                  case measure => simp [intOf]; omega
                · have t1 : (x != (jd : Int)) = true := by simpa using he
                  have HE := Lib.hid he
                  obtain ⟨v2, V, a2, ow2, gv⟩ := app23 (wr.alloc (.cells #[.int .u64 x] 23)) X.heap.size (.slice A2 n3 c2) n3 (lessI (I.take j) (jd : Int)) (row_below hR.out.2.1 (bel_alloc _ _)) (some ⟨wr.heap.size, 0, none⟩) 1 1 [x] rfl (us_one (heap_alloc_new _ _)) (by rw [World.size_alloc]; have := hR.out.2.2.size; omega) (by omega)
                  have hbV : Below X.heap.size X V := grown_bel (hR.out.2.2.trans ((bel_alloc _ _).mono hR.out.2.2.size)) gv (fun j e => (hR.out.2.1.lt j e).1)
                  obtain ⟨A3, c3, rfl⟩ := own_len ow2
                  have HA2 := Lib.hid a2
                  have HV := Lib.hid (And.intro ow2 hbV)
                  clear he a2 ow2 gv hbV
                  go_wp2_with (at_builtin; refine Lib.wpList_append_run _ rfl _ _ 37 37 rfl _ _ rfl rfl _ _ (by exact HA2.out _) ?_)
                  go_roundw
                  case rel => exact ⟨j + 1, A3, n3 + 1, c3, by simp, rfl, by omega, by omega, Lib.hid (by rw [less_take HXX.out, if_neg HE.out]; exact ⟨by rw [List.length_append, hR.out.1]; rfl, HV.out⟩)⟩
                  case measure => simp [intOf]; omega
              · obtain rfl : j = p := by omega
                have e1 : I.take j = I := List.take_of_length_le (by rw [HI.out.1]; exact Nat.le_refl _)
                have hR2 := hR.out
                rw [e1, HI.out.2] at hR2
                have hqn : q = n3 := hR2.1
                subst hqn
                have HR2 := Lib.hid hR2
                have HS2 := Lib.hid (same_any (w := wr) A9 A2 c9 c2 q (lessI I (jd : Int)) HI.out.2 (by omega) (HX.out.2.2.below hR2.2.2) (UsAt.own (B := X.heap.size) (c := c2) (by rw [HI.out.2]; exact hR2.2.1)))
                clear hR2 e1
                go_wp2_with fail
                refine HS2.out.mono ?_
                rintro e Y ⟨rfl, hY⟩
                have HY := Lib.hid (HX.out.1.trans ((HR2.out.2.2.trans (hY.mono HR2.out.2.2.size)).mono HX.out.1.size))
                clear hY
                go_wp2_with fail
                refine (wakes_any Y).mono ?_
                rintro e Z ⟨rfl, hZ⟩
                have HZ := Lib.hid (HY.out.trans (hZ.mono HY.out.size))
                clear hZ
                go_wp2_with fail
                go_ret
                exact ⟨rfl, HZ.out⟩
end Go.Proofs.Ytdebaoimhijnkaa
