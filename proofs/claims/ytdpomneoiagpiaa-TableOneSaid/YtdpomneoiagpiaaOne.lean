/- TableOne, walked. -/
import Derived.Test.YtdpomneoiagpiaaOneInv
import Derived.Deep.DeepCutAuto
import Derived.Deep.CutBlock
set_option linter.unusedVariables false
namespace Go.Proofs.Ytdpomneoiagpiaa
open Go.RowKit Go.Deep Go.BigFrame
attribute [local go_sem ↓] Go.wp_at_zero Go.wp_at_succ
set_option maxHeartbeats 25600000 in
set_option maxRecDepth 100000 in
theorem one_walk (a : Int) (A : Option Addr) (n c : Nat) (xs : List ActD) (w : World) (a0 : 0 ≤ a) (a1 : a ≤ 255) (hx : Acts w A n xs) (h1 : n ≤ c) (h2 : c ≤ maxLen) :
    Calls Try.prog 5 #[.int .u8 a, .slice A n c] w fun e w' => e = .returned (.bool true) ∧ Below w.heap.size w w' := by
  obtain ⟨m, hm, hm2, hm3⟩ : ∃ m : Nat, 1 + a % 30 = (m : Int) ∧ 1 ≤ m ∧ m ≤ 30 := ⟨(1 + a % 30).toNat, by omega, by omega, by omega⟩
  have HNEW := Lib.hid (fun W => tab_new m w W (by omega) (by omega))
  have HOF := Lib.hid of_any
  have HAW := Lib.hid awake_any
  have HX := Lib.hid hx
  have hnm : n ≤ 9223372036854775807 := by unfold maxLen at h2; omega
  have hmm := @run_makeMap Try.prog
  clear hx h2
  go_enter Try.func5, Try.ntmps5
  go_wp2_with fail
  with_reducible refine (HNEW.out _ (Below.refl _ _)).mono ?_
  rintro e W ⟨g, d1, d2, rfl, hT, -⟩
  have HT := Lib.hid hT
  clear hT
  go_wp2_with fail
  with_reducible refine (HAW.out _).mono ?_
  rintro e W1 ⟨rfl, hb⟩
  have HT := Lib.hid (HT.out.below hb)
  clear hb hm
  go_wp2_with fail
  refine wp_name fun W2 hW2 => ?_
  obtain ⟨b9, hb9⟩ : ∃ b9, W1.heap.size = b9 := ⟨_, rfl⟩
  have hB2 : Below W1.heap.size W1 W2 := by rw [hW2]; exact (Below.refl _ _).alloc (Nat.le_refl _) _
  have hM2 : MapR W2 b9 0 (fun _ => false) 0 := by rw [hW2, ← hb9]; exact MapR.made W1
  have hd1 : b9 ≠ d1 := by
    obtain ⟨A', c', ht, _⟩ := HT.out.tb
    have := ht.inn.lt
    omega
  have hd2 : b9 ≠ d2 := by
    obtain ⟨A', c', ht, _⟩ := HT.out.tb
    have := ht.out.lt
    omega
  have HR0 : Hid (OneR w W2 g d1 d2 b9 m 0 0 ⟨m, [], 0⟩) := Lib.hid { tab := ⟨0, Nat.le_refl _, HT.out.below hB2⟩, most := rfl, last := rfl, li := Nat.le_refl _, map := ⟨0, Nat.le_refl _, hM2⟩, lo := by rw [← hb9]; exact HT.out.bel.size }
  rw [hb9]
  have HD := Lib.hid (And.intro hd1 hd2)
  clear hd1 hd2 hB2 hM2 hW2 hb9 HT
  go_loopw [8, 49] (fun v8 v49 wr => ∃ (i : Nat) (gv : Int) (s : TS), v8 = .int .u64 gv ∧ v49 = .int .i64 i ∧ i ≤ n ∧ i ≤ 200 ∧ OneR w wr g d1 d2 b9 m i gv s) (fun _ v49 _ => n - (intOf v49).toNat)
  case atStart => exact ⟨0, 0, _, rfl, rfl, Nat.zero_le _, Nat.zero_le _, HR0.out⟩
  case round =>
    clear HR0 HNEW HAW
    obtain ⟨i, gv, s, rfl, rfl, hin, hi2, hR⟩ := hrel
    have HR := Lib.hid hR
    have hbelR : Below w.heap.size w wr := by obtain ⟨N, _, ht⟩ := hR.tab; exact ht.bel
    have hgv : gv = s.last := hR.last
    have hgl : (s.last : Int) ≤ 200 := by have := hR.li; omega
    clear hR
    by_cases hlt : i < n
    · obtain ⟨x, hx⟩ : ∃ x, xs[i]? = some x := ⟨xs[i]'(by have := HX.out.1; omega), List.getElem?_eq_getElem _⟩
      obtain ⟨hxo, b, o, rfl, hbl, hxa⟩ := HX.out.2 i x hx
      have HXO := Lib.hid hxo
      obtain ⟨k0, k1, k2, k3, k4, k5, k6, k7, k8, k9, k10, k11⟩ := hxa.below hbelR hbl
      rw [Nat.add_zero] at k0
      have HBR := Lib.hid hbelR
      clear hx hxo hxa hbelR
      by_cases hi : i = 200
      · subst hi
        go_wp2_with fail
        go_ret
        exact ⟨rfl, HBR.out.alloc HBR.out.size _⟩
      · have hi200 : ((i : Int) == 200) = false := by simp; omega
        have hxid := HXO.out.id
        have hxi : 0 ≤ x.id ∧ x.id ≤ 18446744073709551615 := by simp [Lit.wf, IntKind.min, IntKind.max, IntKind.signed, IntKind.bits] at hxid; omega
        have hx0 := hxi.1
        have hx1 := hxi.2
        obtain ⟨nid, hnid⟩ : ∃ nid, x.id % (gv + 3) = nid := ⟨_, rfl⟩
        have hg0 : 0 ≤ gv := by omega
        have hg1 : gv ≤ 200 := by omega
        have hn0 : 0 ≤ nid ∧ nid < gv + 3 := by rw [← hnid]; exact ⟨Int.emod_nonneg _ (by omega), Int.emod_lt_of_pos _ (by omega)⟩
        have HGV := Lib.hid (And.intro hgv (And.intro hgl hn0))
        obtain ⟨wh, hwh⟩ : ∃ wh, x.what = wh := ⟨_, rfl⟩
        rw [hwh] at k0
        have HWH := Lib.hid hwh
        clear hgv hgl hn0 hxi hxid hwh
        go_upto_block 2 with (fail)
        refine wp_name fun X hX => ?_
        obtain ⟨bo, hbo⟩ : ∃ bo, wr.heap.size = bo := ⟨_, rfl⟩
        have hXB : Below wr.heap.size wr X := by rw [hX]; exact (Below.refl _ _).alloc (Nat.le_refl _) _
        have hXh : X.heap[bo]? = some (.cells #[.int .i64 wh, .int .u64 nid, .int .u8 x.a.proto, .int .u32 x.a.src, .int .u32 x.a.dst, .int .u16 x.a.sp, .int .u16 x.a.dp, .int .u8 x.b.proto, .int .u32 x.b.src, .int .u32 x.b.dst, .int .u16 x.b.sp, .int .u16 x.b.dp] 49 (0, 0)) := by rw [hX, ← hbo]; exact heap_alloc_new wr _
        have HRX := Lib.hid (HR.out.below hXB)
        have HXH := Lib.hid hXh
        have hbb : w.heap.size ≤ bo := by rw [← hbo]; exact HBR.out.size
        have HBO := Lib.hid hbb
        rw [hbo]
        clear hX hXB hbo k0 k1 k2 k3 k4 k5 k6 k7 k8 k9 k10 k11 hXh hbb
        go_cut [8] (fun v8 wx => ∃ s' : TS, v8 = .int .u64 (s'.last : Int) ∧ OneR w wx g d1 d2 b9 m (i + 1) s'.last s' ∧ wx.heap[bo]? = some (.cells #[.int .i64 wh, .int .u64 nid, .int .u8 x.a.proto, .int .u32 x.a.src, .int .u32 x.a.dst, .int .u16 x.a.sp, .int .u16 x.a.dp, .int .u8 x.b.proto, .int .u32 x.b.src, .int .u32 x.b.dst, .int .u16 x.b.sp, .int .u16 x.b.dp] 49 (0, 0)))
        case first =>
          obtain ⟨N, hN, hT⟩ := HRX.out.tab
          obtain ⟨nR, hnR, hMR⟩ := HRX.out.map
          have HT := Lib.hid hT
          have HMR := Lib.hid hMR
          have HNN := Lib.hid (And.intro hN hnR)
          have hgv := HGV.out.1
          have hgl := HGV.out.2.1
          have HID := Lib.hid (wf64 (n := nid) (by have := HGV.out.2.2; omega) (by have := HGV.out.2.2; omega))
          have hni0 := HGV.out.2.2.1
          have hni1 : nid ≤ 300 := by have := HGV.out.2.2.2; omega
          clear hT hMR hN hnR
          have k0 : X.cell? ⟨bo, 0, none⟩ = some (.int .i64 wh) := cell_of HXH.out 0
          have k1 : X.cell? ⟨bo, 1, none⟩ = some (.int .u64 nid) := cell_of HXH.out 1
          have k2 : X.cell? ⟨bo, 2, none⟩ = some (.int .u8 x.a.proto) := cell_of HXH.out 2
          have k3 : X.cell? ⟨bo, 3, none⟩ = some (.int .u32 x.a.src) := cell_of HXH.out 3
          have k4 : X.cell? ⟨bo, 4, none⟩ = some (.int .u32 x.a.dst) := cell_of HXH.out 4
          have k5 : X.cell? ⟨bo, 5, none⟩ = some (.int .u16 x.a.sp) := cell_of HXH.out 5
          have k6 : X.cell? ⟨bo, 6, none⟩ = some (.int .u16 x.a.dp) := cell_of HXH.out 6
          have k7 : X.cell? ⟨bo, 7, none⟩ = some (.int .u8 x.b.proto) := cell_of HXH.out 7
          have k8 : X.cell? ⟨bo, 8, none⟩ = some (.int .u32 x.b.src) := cell_of HXH.out 8
          have k9 : X.cell? ⟨bo, 9, none⟩ = some (.int .u32 x.b.dst) := cell_of HXH.out 9
          have k10 : X.cell? ⟨bo, 10, none⟩ = some (.int .u16 x.b.sp) := cell_of HXH.out 10
          have k11 : X.cell? ⟨bo, 11, none⟩ = some (.int .u16 x.b.dp) := cell_of HXH.out 11
          by_cases h0 : wh = 0
          · subst h0
            obtain ⟨ra1, ra2, ra3, ra4, ra5⟩ := rdy_add HT.out.ok x.a x.b
            by_cases he : addE s x.a x.b = 0
            · as_aux_lemma =>
                obtain ⟨q1, q2, q3, q4, q5⟩ := ra3 he
                obtain ⟨wt, hwt⟩ : ∃ wt, addW s x.a x.b = wt := ⟨_, rfl⟩
                rw [hwt] at q1 q2 q3
                have HA := Lib.hid (tab_addE HT.out x.a x.b HXO.out.a HXO.out.b (by omega) (by have := HNN.out; omega) q4 hwt he rfl)
                have HLK := Lib.hid (fun V (ha : Apart d1 d2 X V) => (HMR.out.apart ha HD.out.1 HD.out.2).look (wf64 (n := wt) q2 (by omega)))
                rw [q1] at HLK
                have HQ := Lib.hid (And.intro ra1 (And.intro ra2 (And.intro ra5 q5)))
                unfold Tup.val at HA
                clear ra1 ra2 ra3 ra4 ra5 q1 q4 q5 hwt he
                go_wp2_with fail
                with_reducible refine HA.out.mono ?_
                rintro e V ⟨rfl, hT, hA⟩
                have hlk : (Instr.lookup 47 (.map (some b9)) (.int .u64 wt) false).run Try.prog V = .ok (.int .i64 0) V := HLK.out V hA
                have HTV := Lib.hid (And.intro hT hA)
                have t1 : ¬ ((s.last : Int) + 1 ≤ gv) := by omega
                have t2 : (wt == (s.last : Int) + 1) = false := by simp; omega
                have t3 : gv < (s.last : Int) + 1 := by omega
                clear hT hA HA
                go_wp2_with fail
                go_meet
                case rel =>
                  have hb := HTV.out.2.block bo _ HXH.out ⟨by decide, by decide⟩
                  have hm := HMR.out.apart HTV.out.2 HD.out.1 HD.out.2
                  refine ⟨addS s x.a x.b, by rw [HQ.out.2.2.2]; rfl, HRX.out.step ⟨N + 1, by have := HNN.out; omega, HTV.out.1⟩ ⟨nR, by have := HNN.out; omega, ?_⟩ HQ.out.2.2.1 (by rw [HQ.out.2.2.2]; exact Nat.le_refl _), hb⟩
                  rw [HQ.out.2.1]
                  exact hm.congr fun y _ => (HQ.out.1 y).symm
            · as_aux_lemma =>
                obtain ⟨q1, q2, q3⟩ := ra4 he
                obtain ⟨ee, hee⟩ : ∃ ee, addE s x.a x.b = ee := ⟨_, rfl⟩
                rw [hee] at he
                have HA := Lib.hid (tab_addE HT.out x.a x.b HXO.out.a HXO.out.b (by omega) (by have := HNN.out; omega) q2 q1 hee rfl)
                have HQ := Lib.hid (And.intro ra1 (And.intro ra2 (And.intro ra5 q3)))
                have t1 : (ee == 0) = false := by simpa using he
                have t2 : (ee != 0) = true := by simpa using he
                have t3 : ¬ (gv < 0) := by omega
                unfold Tup.val at HA
                clear ra1 ra2 ra3 ra4 ra5 q1 q2 q3 hee he
                go_wp2_with fail
                with_reducible refine HA.out.mono ?_
                rintro e V ⟨rfl, hT, hA⟩
                have HTV := Lib.hid (And.intro hT hA)
                clear hT hA HA
                go_wp2_with fail
                go_meet
                case rel =>
                  have hb := HTV.out.2.block bo _ HXH.out ⟨by decide, by decide⟩
                  have hm := HMR.out.apart HTV.out.2 HD.out.1 HD.out.2
                  refine ⟨addS s x.a x.b, by rw [HQ.out.2.2.2, ← HGV.out.1], HRX.out.step ⟨N + 1, by have := HNN.out; omega, HTV.out.1⟩ ⟨nR, by have := HNN.out; omega, ?_⟩ HQ.out.2.2.1 (by rw [HQ.out.2.2.2]; omega), hb⟩
                  rw [HQ.out.2.1]
                  exact hm.congr fun y _ => (HQ.out.1 y).symm
          · have b0 : (wh == 0) = false := by simpa using h0
            clear h0
            by_cases h1 : wh = 1
            · subst h1
              as_aux_lemma =>
                have HA := Lib.hid (tab_lead HT.out nid HID.out x.b HXO.out.b (by have := HNN.out; omega))
                unfold Tup.val at HA
                go_wp2_with fail
                with_reducible refine HA.out.mono ?_
                rintro e V ⟨rfl, hT, hA⟩
                have HTV := Lib.hid (And.intro hT hA)
                clear hT hA HA
                go_wp2_with fail
                go_meet
                case rel =>
                  have hb := HTV.out.2.block bo _ HXH.out ⟨by decide, by decide⟩
                  have hm := HMR.out.apart HTV.out.2 HD.out.1 HD.out.2
                  have hl : (leadS s nid x.b).last = s.last := lead_last ..
                  refine ⟨leadS s nid x.b, by rw [hl, ← HGV.out.1], HRX.out.step ⟨N + 1, by have := HNN.out; omega, HTV.out.1⟩ ⟨nR, by have := HNN.out; omega, ?_⟩ (lead_most ..) (by rw [hl]; omega), hb⟩
                  rw [(rdy_lead nid x.b).2]
                  exact hm.congr fun y _ => ((rdy_lead nid x.b).1 y).symm
            · have b1 : (wh == 1) = false := by simpa using h1
              clear h1
              by_cases h2 : wh = 2
              · subst h2
                as_aux_lemma =>
                  have HA := Lib.hid (tab_touch HT.out nid)
                  go_wp2_with fail
                  with_reducible refine HA.out.mono ?_
                  rintro e V ⟨rfl, hT, hA⟩
                  have HTV := Lib.hid (And.intro hT hA)
                  clear hT hA HA
                  go_wp2_with fail
                  go_meet
                  case rel =>
                    have hb := HTV.out.2.block bo _ HXH.out ⟨by decide, by decide⟩
                    have hm := HMR.out.apart HTV.out.2 HD.out.1 HD.out.2
                    have hl : (touchS s nid).last = s.last := touch_last ..
                    refine ⟨touchS s nid, by rw [hl, ← HGV.out.1], HRX.out.step ⟨N, by have := HNN.out; omega, HTV.out.1⟩ ⟨nR, by have := HNN.out; omega, ?_⟩ (touch_most ..) (by rw [hl]; omega), hb⟩
                    rw [(rdy_touch nid).2]
                    exact hm.congr fun y _ => ((rdy_touch nid).1 y).symm
              · have b2 : (wh == 2) = false := by simpa using h2
                clear h2
                by_cases h3 : wh = 3
                · subst h3
                  have hrr := rdy_ready HT.out.ok nid
                  by_cases he : atE s nid = 0
                  · as_aux_lemma =>
                      have HA := Lib.hid (tab_readyE HT.out nid he rfl)
                      have HQ := Lib.hid (hrr.1 he)
                      clear hrr he
                      go_wp2_with fail
                      with_reducible refine HA.out.mono ?_
                      rintro e V ⟨rfl, hT, hA⟩
                      obtain ⟨V2, hs1, hs2, hs3⟩ := (HMR.out.apart hA HD.out.1 HD.out.2).store HID.out (by have := HNN.out; unfold maxLen; omega)
                      have hb := hA.block bo _ HXH.out ⟨by decide, by decide⟩
                      have HTV := Lib.hid (And.intro hT (And.intro hA (And.intro hs2 (And.intro hs3 hb))))
                      have v0 : V.cell? ⟨bo, 0, none⟩ = some (.int .i64 3) := cell_of hb 0
                      have v1 : V.cell? ⟨bo, 1, none⟩ = some (.int .u64 nid) := cell_of hb 1
                      have v2 : V.cell? ⟨bo, 2, none⟩ = some (.int .u8 x.a.proto) := cell_of hb 2
                      have v3 : V.cell? ⟨bo, 3, none⟩ = some (.int .u32 x.a.src) := cell_of hb 3
                      have v4 : V.cell? ⟨bo, 4, none⟩ = some (.int .u32 x.a.dst) := cell_of hb 4
                      have v5 : V.cell? ⟨bo, 5, none⟩ = some (.int .u16 x.a.sp) := cell_of hb 5
                      have v6 : V.cell? ⟨bo, 6, none⟩ = some (.int .u16 x.a.dp) := cell_of hb 6
                      have v7 : V.cell? ⟨bo, 7, none⟩ = some (.int .u8 x.b.proto) := cell_of hb 7
                      have v8 : V.cell? ⟨bo, 8, none⟩ = some (.int .u32 x.b.src) := cell_of hb 8
                      have v9 : V.cell? ⟨bo, 9, none⟩ = some (.int .u32 x.b.dst) := cell_of hb 9
                      have v10 : V.cell? ⟨bo, 10, none⟩ = some (.int .u16 x.b.sp) := cell_of hb 10
                      have v11 : V.cell? ⟨bo, 11, none⟩ = some (.int .u16 x.b.dp) := cell_of hb 11
                      clear hT hA HA hs2 hs3 hb
                      go_wp2_with fail
                      go_meet
                      case rel =>
                        obtain ⟨hT, hA, hs2, hs3, hb⟩ := HTV.out
                        obtain ⟨es, ck, hm9⟩ := (HMR.out.apart hA HD.out.1 HD.out.2).isMap
                        have hl : (readyS s nid).last = s.last := ready_last ..
                        refine ⟨readyS s nid, by rw [hl, ← HGV.out.1], HRX.out.step ⟨N, by have := HNN.out; omega, hT.map9 hs3 hm9 HD.out.1 HD.out.2 HRX.out.lo⟩ ⟨nR + 1, by have := HNN.out; omega, ?_⟩ (ready_most ..) (by rw [hl]; omega), (hs3.block _ (Array.getElem?_eq_some_iff.1 hb).1 (fun q => by injection q with q; subst q; rw [hm9] at hb; cases hb)).trans hb⟩
                        rw [HQ.out.2]
                        exact hs2.congr fun y _ => (HQ.out.1 y).symm
                  · as_aux_lemma =>
                      obtain ⟨ee, hee⟩ : ∃ ee, atE s nid = ee := ⟨_, rfl⟩
                      have HQ := Lib.hid (hrr.2 he)
                      rw [hee] at he
                      have HA := Lib.hid (tab_readyE HT.out nid hee HQ.out)
                      have t1 : (ee == 0) = false := by simpa using he
                      clear hrr hee
                      go_wp2_with fail
                      with_reducible refine HA.out.mono ?_
                      rintro e V ⟨rfl, hT, hA⟩
                      have HTV := Lib.hid (And.intro hT hA)
                      clear hT hA HA
                      go_wp2_with fail
                      go_meet
                      case rel =>
                        have hb := HTV.out.2.block bo _ HXH.out ⟨by decide, by decide⟩
                        exact ⟨s, by rw [← HGV.out.1], HRX.out.step ⟨N, by have := HNN.out; omega, HTV.out.1⟩ ⟨nR, by have := HNN.out; omega, HMR.out.apart HTV.out.2 HD.out.1 HD.out.2⟩ rfl (by omega), hb⟩
                · have b3 : (wh == 3) = false := by simpa using h3
                  clear h3
                  by_cases h4 : wh = 4
                  · subst h4
                    have hrr := rdy_drop HT.out.ok nid
                    by_cases he : atE s nid = 0
                    · as_aux_lemma =>
                        have HA := Lib.hid (tab_dropE HT.out nid he rfl)
                        have HQ := Lib.hid (hrr.1 he)
                        clear hrr he
                        go_wp2_with fail
                        with_reducible refine HA.out.mono ?_
                        rintro e V ⟨rfl, hT, hA⟩
                        obtain ⟨V2, hs1, hs2, hs3⟩ : ∃ V2, (∀ ty, (Builtin.delete_ #[47, 27] ty #[.map (some b9), .int .u64 nid]).run Try.prog V = .ok (.tuple #[]) V2) ∧ MapR V2 b9 nR (fun y => if y = nid then false else rdy s.L y) (if rdy s.L nid then rdyN s.L - 1 else rdyN s.L) ∧ V.grownBy V2 (some b9) := by
                          obtain ⟨V2, q1, q2, q3⟩ := (HMR.out.apart hA HD.out.1 HD.out.2).drop HID.out 0
                          exact ⟨V2, fun ty => q1, q2, q3⟩
                        have hb := hA.block bo _ HXH.out ⟨by decide, by decide⟩
                        have HTV := Lib.hid (And.intro hT (And.intro hA (And.intro hs2 (And.intro hs3 hb))))
                        have v0 : V.cell? ⟨bo, 0, none⟩ = some (.int .i64 4) := cell_of hb 0
                        have v1 : V.cell? ⟨bo, 1, none⟩ = some (.int .u64 nid) := cell_of hb 1
                        have v2 : V.cell? ⟨bo, 2, none⟩ = some (.int .u8 x.a.proto) := cell_of hb 2
                        have v3 : V.cell? ⟨bo, 3, none⟩ = some (.int .u32 x.a.src) := cell_of hb 3
                        have v4 : V.cell? ⟨bo, 4, none⟩ = some (.int .u32 x.a.dst) := cell_of hb 4
                        have v5 : V.cell? ⟨bo, 5, none⟩ = some (.int .u16 x.a.sp) := cell_of hb 5
                        have v6 : V.cell? ⟨bo, 6, none⟩ = some (.int .u16 x.a.dp) := cell_of hb 6
                        have v7 : V.cell? ⟨bo, 7, none⟩ = some (.int .u8 x.b.proto) := cell_of hb 7
                        have v8 : V.cell? ⟨bo, 8, none⟩ = some (.int .u32 x.b.src) := cell_of hb 8
                        have v9 : V.cell? ⟨bo, 9, none⟩ = some (.int .u32 x.b.dst) := cell_of hb 9
                        have v10 : V.cell? ⟨bo, 10, none⟩ = some (.int .u16 x.b.sp) := cell_of hb 10
                        have v11 : V.cell? ⟨bo, 11, none⟩ = some (.int .u16 x.b.dp) := cell_of hb 11
                        clear hT hA HA hs2 hs3 hb
                        go_wp2_with fail
                        go_meet
                        case rel =>
                          obtain ⟨hT, hA, hs2, hs3, hb⟩ := HTV.out
                          obtain ⟨es, ck, hm9⟩ := (HMR.out.apart hA HD.out.1 HD.out.2).isMap
                          have hl : (dropS s nid).last = s.last := drop_last ..
                          refine ⟨dropS s nid, by rw [hl, ← HGV.out.1], HRX.out.step ⟨N, by have := HNN.out; omega, hT.map9 hs3 hm9 HD.out.1 HD.out.2 HRX.out.lo⟩ ⟨nR, by have := HNN.out; omega, ?_⟩ (drop_most ..) (by rw [hl]; omega), (hs3.block _ (Array.getElem?_eq_some_iff.1 hb).1 (fun q => by injection q with q; subst q; rw [hm9] at hb; cases hb)).trans hb⟩
                          rw [HQ.out.2]
                          exact hs2.congr fun y _ => (HQ.out.1 y).symm
                    · as_aux_lemma =>
                        obtain ⟨ee, hee⟩ : ∃ ee, atE s nid = ee := ⟨_, rfl⟩
                        have HQ := Lib.hid (hrr.2 he)
                        rw [hee] at he
                        have HA := Lib.hid (tab_dropE HT.out nid hee HQ.out)
                        have t1 : (ee == 0) = false := by simpa using he
                        clear hrr hee
                        go_wp2_with fail
                        with_reducible refine HA.out.mono ?_
                        rintro e V ⟨rfl, hT, hA⟩
                        have HTV := Lib.hid (And.intro hT hA)
                        clear hT hA HA
                        go_wp2_with fail
                        go_meet
                        case rel =>
                          have hb := HTV.out.2.block bo _ HXH.out ⟨by decide, by decide⟩
                          exact ⟨s, by rw [← HGV.out.1], HRX.out.step ⟨N, by have := HNN.out; omega, HTV.out.1⟩ ⟨nR, by have := HNN.out; omega, HMR.out.apart HTV.out.2 HD.out.1 HD.out.2⟩ rfl (by omega), hb⟩
                  · have b4 : (wh == 4) = false := by simpa using h4
                    as_aux_lemma =>
                      clear h4
                      go_wp2_with fail
                      go_meet
                      case rel => exact ⟨s, by rw [← HGV.out.1], HRX.out.step ⟨N, by have := HNN.out; omega, HT.out⟩ ⟨nR, by have := HNN.out; omega, HMR.out⟩ rfl (by omega), HXH.out⟩
        case rest =>
          obtain ⟨s2, rfl, hR2, hbo2⟩ := hcut
          have HR2 := Lib.hid hR2
          have HBO2 := Lib.hid hbo2
          obtain ⟨N2, hN2, hT2⟩ := hR2.tab
          have HT2 := Lib.hid hT2
          have HOK2 := Lib.hid hT2.ok
          have hlen2 : s2.L.length ≤ m := by rw [← hR2.most]; exact hT2.ok.len
          obtain ⟨ln, hln⟩ : ∃ ln, s2.L.length = ln := ⟨_, rfl⟩
          have HLN := Lib.hid hln
          have HALL := Lib.hid (tab_all hT2)
          rw [hln] at HALL hlen2
          have HLL := Lib.hid hlen2
          clear hR2 hbo2 hT2 hN2 hln HGV hg0 hg1 hnid hx0 hx1
          go_wp2_with fail
          with_reducible refine HALL.out.mono ?_
          rintro e V ⟨v, rfl, ho, hb⟩
          obtain ⟨A2, c2, rfl⟩ := own_len ho
          have HFL : Hid (FlsAt V A2 s2.L) := Lib.hid (FlsAt.own (by rw [← HLN.out] at ho; exact ho))
          have HRV := Lib.hid (HR2.out.below hb)
          have HBV := Lib.hid ((hb.block bo (Array.getElem?_eq_some_iff.1 HBO2.out).1).trans HBO2.out)
          have HLEN := Lib.hid (tab_len (HT2.out.below hb))
          rw [HLN.out] at HLEN
          have hlm : ∀ ty, (Builtin.len_ #[47] ty #[.map (some b9)]).run Try.prog V = .ok (.int .i64 (rdyN s2.L)) V := by
            obtain ⟨nR, _, hm⟩ := HRV.out.map
            exact fun ty => hm.len ty
          have t0 : ¬ (m < ln) := by omega
          have HTV := Lib.hid (HT2.out.below hb)
          clear ho hb HALL
          go_wp2_with fail
          with_reducible refine HLEN.out.mono ?_
          rintro e V1 ⟨rfl, rfl⟩
          go_wp2_with fail
          refine wp_name fun V2 hV2 => ?_
          obtain ⟨c7, hc7⟩ : ∃ c7, V.heap.size = c7 := ⟨_, rfl⟩
          have hVB : Below V.heap.size V V2 := by rw [hV2]; exact ((Below.refl _ _).alloc (Nat.le_refl _) _).alloc (by simp) _
          have hI0 : Hid (InR w V2 g d1 d2 b9 m (i + 1) bo c7 (c7 + 1) #[.int .i64 wh, .int .u64 nid, .int .u8 x.a.proto, .int .u32 x.a.src, .int .u32 x.a.dst, .int .u16 x.a.sp, .int .u16 x.a.dp, .int .u8 x.b.proto, .int .u32 x.b.src, .int .u32 x.b.dst, .int .u16 x.b.sp, .int .u16 x.b.dp] s2 A2 0 0) := Lib.hid {
            r := HRV.out.below hVB
            bo := (hVB.block _ (Array.getElem?_eq_some_iff.1 HBV.out).1).trans HBV.out
            fl := HFL.out.below hVB
            mi := ⟨0, Nat.le_refl _, by
              rw [hV2, ← hc7]
              exact ((MapT.made V).keptE (((Below.refl (V.alloc (Obj.map #[] 0)).heap.size _).alloc (Nat.le_refl _) _).block _ (by simp))).congr fun t _ => by simp [seenI]⟩
            mo := ⟨0, Nat.le_refl _, by
              rw [hV2, ← hc7]
              have := MapT.made (V.alloc (Obj.map #[] 0))
              rw [show (V.alloc (Obj.map #[] 0)).heap.size = V.heap.size + 1 from by simp] at this
              exact this.congr fun t _ => by simp [seenO]⟩
            ne := by omega
            lo := by rw [← hc7]; obtain ⟨N, _, ht⟩ := HRV.out.tab; exact ht.bel.size
            n7 := by
              obtain ⟨N, _, ht⟩ := HRV.out.tab
              obtain ⟨A', c', ht, _⟩ := ht.tb
              obtain ⟨nR, _, hm⟩ := HRV.out.map
              have q1 := ht.inn.lt
              have q2 := ht.out.lt
              have q3 := hm.lt
              omega }
          rw [hc7]
          clear hV2 hVB hc7 HRV HBV HFL HTV HLEN hlm t0
          have hrl : rdyN s2.L ≤ ln := by rw [← HLN.out]; exact List.countP_le_length
          have hmm30 : ln ≤ 30 := by omega
          go_loopw [16, 162] (fun v16 v162 wt => ∃ j : Nat, v16 = .int .i64 ((rdyN s2.L : Int) - (rdyN (s2.L.take j) : Int)) ∧ v162 = .int .i64 j ∧ j ≤ ln ∧ InR w wt g d1 d2 b9 m (i + 1) bo c7 (c7 + 1) #[.int .i64 wh, .int .u64 nid, .int .u8 x.a.proto, .int .u32 x.a.src, .int .u32 x.a.dst, .int .u16 x.a.sp, .int .u16 x.a.dp, .int .u8 x.b.proto, .int .u32 x.b.src, .int .u32 x.b.dst, .int .u16 x.b.sp, .int .u16 x.b.dp] s2 A2 j j) (fun _ v162 _ => ln - (intOf v162).toNat)
          case atStart => exact ⟨0, by simp [rdyN], rfl, Nat.zero_le _, hI0.out⟩
          case round =>
            clear hI0
            as_aux_lemma =>
              obtain ⟨j, rfl, rfl, hj, hI⟩ := hrel
              have HI := Lib.hid hI
              clear hI
              by_cases hjl : j < ln
              · obtain ⟨f, hf⟩ : ∃ f, s2.L[j]? = some f := ⟨s2.L[j]'(by have := HLN.out; omega), List.getElem?_eq_getElem _⟩
                obtain ⟨fb, fo, rfl, hfl, hat⟩ := HI.out.fl j f hf
                obtain ⟨y0, y1, y2, y3, y4, y5, y6, y7, y8, y9, y10, y11⟩ := hat
                obtain ⟨p1, p2, p3, p4⟩ := flow_at HOK2.out hf
                have hft := HOK2.out.tup f (List.mem_of_getElem? hf)
                have hfid := HOK2.out.ids f (List.mem_of_getElem? hf)
                obtain ⟨N3, _, hT3⟩ := HI.out.r.tab
                have HIN := Lib.hid (fun W (hW : Below wr.heap.size wr W) => tab_inner (hT3.below hW) f.inn hft.1)
                have HFW := Lib.hid (fun W (hW : Below wr.heap.size wr W) => tab_flow (hT3.below hW) f.id)
                rw [p3, show (f.id != 0) = true from by simp; omega] at HIN
                rw [p1, p2] at HFW
                unfold Tup.val at HIN
                unfold Fl.val Fl.arr at HFW
                have HF := Lib.hid (And.intro hf (And.intro p4 (And.intro hft hfid)))
                have hln0 : (0 : Int) ≤ (ln : Int) := by omega
                obtain ⟨qo, hqo⟩ : ∃ qo, wr.heap.size = qo := ⟨_, rfl⟩
                have HQO := Lib.hid hqo
                clear p1 p2 p3 p4 hft hfid hT3 hf hqo
                go_wp2_with fail
                refine calls_name fun W1 hW1 => ?_
                have hB1 : Below wr.heap.size wr W1 := by rw [hW1]; exact (Below.refl _ _).alloc (Nat.le_refl _) _
                have hq1 : W1.heap[qo]? = some (.cells f.arr 38 (0, 0)) := by rw [hW1, ← HQO.out]; exact heap_alloc_new wr _
                rw [HQO.out]
                refine (HIN.out W1 hB1).mono ?_
                rintro e V1 ⟨rfl, hb1⟩
                have hBV1 : Below wr.heap.size wr V1 := hB1.trans (hb1.mono hB1.size)
                have hqV1 : V1.heap[qo]? = some (.cells f.arr 38 (0, 0)) := (hb1.block _ (Array.getElem?_eq_some_iff.1 hq1).1).trans hq1
                have u0 : V1.cell? ⟨qo, 0, none⟩ = some (.int .u64 f.id) := cell_of hqV1 0
                have u1 : V1.cell? ⟨qo, 1, none⟩ = some (.int .u8 f.inn.proto) := cell_of hqV1 1
                have u2 : V1.cell? ⟨qo, 2, none⟩ = some (.int .u32 f.inn.src) := cell_of hqV1 2
                have u3 : V1.cell? ⟨qo, 3, none⟩ = some (.int .u32 f.inn.dst) := cell_of hqV1 3
                have u4 : V1.cell? ⟨qo, 4, none⟩ = some (.int .u16 f.inn.sp) := cell_of hqV1 4
                have u5 : V1.cell? ⟨qo, 5, none⟩ = some (.int .u16 f.inn.dp) := cell_of hqV1 5
                have u6 : V1.cell? ⟨qo, 6, none⟩ = some (.int .u8 f.out.proto) := cell_of hqV1 6
                have u7 : V1.cell? ⟨qo, 7, none⟩ = some (.int .u32 f.out.src) := cell_of hqV1 7
                have u8 : V1.cell? ⟨qo, 8, none⟩ = some (.int .u32 f.out.dst) := cell_of hqV1 8
                have u9 : V1.cell? ⟨qo, 9, none⟩ = some (.int .u16 f.out.sp) := cell_of hqV1 9
                have u10 : V1.cell? ⟨qo, 10, none⟩ = some (.int .u16 f.out.dp) := cell_of hqV1 10
                have u11 : V1.cell? ⟨qo, 11, none⟩ = some (.bool f.emb) := cell_of hqV1 11
                have HV1 := Lib.hid (And.intro hBV1 hqV1)
                clear hB1 hq1 hb1 hBV1 hqV1 hW1 y0 y1 y2 y3 y4 y5 y6 y7 y8 y9 y10 y11
                go_wp2_with fail
                refine (HFW.out V1 HV1.out.1).mono ?_
                rintro e V2 ⟨rfl, hb2⟩
                obtain ⟨q2, hq2⟩ : ∃ q2, V2.heap.size = q2 := ⟨_, rfl⟩
                have HV2 := Lib.hid (And.intro (HV1.out.1.trans (hb2.mono HV1.out.1.size)) (And.intro ((hb2.block _ (Array.getElem?_eq_some_iff.1 HV1.out.2).1).trans HV1.out.2) hq2))
                clear hb2 hq2 u0 u1 u2 u3 u4 u5 u6 u7 u8 u9 u10 u11
                go_upto_region 38 with (fail)
                refine wp_name fun W2 hW2 => ?_
                have hB2 : Below wr.heap.size wr W2 := by rw [hW2]; exact HV2.out.1.alloc HV2.out.1.size _
                have hqW2 : W2.heap[qo]? = some (.cells f.arr 38 (0, 0)) := by rw [hW2]; exact (((Below.refl V2.heap.size V2).alloc (Nat.le_refl _) _).block _ (Array.getElem?_eq_some_iff.1 HV2.out.2.1).1).trans HV2.out.2.1
                have hrW2 : W2.heap[q2]? = some (.cells f.arr 38 (0, 0)) := by rw [hW2, ← HV2.out.2.2]; exact heap_alloc_new V2 _
                rw [HV2.out.2.2]
                have HI2 := Lib.hid (HI.out.below hB2)
                have w0 : W2.cell? ⟨qo, 0, none⟩ = some (.int .u64 f.id) := cell_of hqW2 0
                have w1 : W2.cell? ⟨qo, 1, none⟩ = some (.int .u8 f.inn.proto) := cell_of hqW2 1
                have w2 : W2.cell? ⟨qo, 2, none⟩ = some (.int .u32 f.inn.src) := cell_of hqW2 2
                have w3 : W2.cell? ⟨qo, 3, none⟩ = some (.int .u32 f.inn.dst) := cell_of hqW2 3
                have w4 : W2.cell? ⟨qo, 4, none⟩ = some (.int .u16 f.inn.sp) := cell_of hqW2 4
                have w5 : W2.cell? ⟨qo, 5, none⟩ = some (.int .u16 f.inn.dp) := cell_of hqW2 5
                have w6 : W2.cell? ⟨qo, 6, none⟩ = some (.int .u8 f.out.proto) := cell_of hqW2 6
                have w7 : W2.cell? ⟨qo, 7, none⟩ = some (.int .u32 f.out.src) := cell_of hqW2 7
                have w8 : W2.cell? ⟨qo, 8, none⟩ = some (.int .u32 f.out.dst) := cell_of hqW2 8
                have w9 : W2.cell? ⟨qo, 9, none⟩ = some (.int .u16 f.out.sp) := cell_of hqW2 9
                have w10 : W2.cell? ⟨qo, 10, none⟩ = some (.int .u16 f.out.dp) := cell_of hqW2 10
                have w11 : W2.cell? ⟨qo, 11, none⟩ = some (.bool f.emb) := cell_of hqW2 11
                have r0 : W2.cell? ⟨q2, 0, none⟩ = some (.int .u64 f.id) := cell_of hrW2 0
                have r1 : W2.cell? ⟨q2, 1, none⟩ = some (.int .u8 f.inn.proto) := cell_of hrW2 1
                have r2 : W2.cell? ⟨q2, 2, none⟩ = some (.int .u32 f.inn.src) := cell_of hrW2 2
                have r3 : W2.cell? ⟨q2, 3, none⟩ = some (.int .u32 f.inn.dst) := cell_of hrW2 3
                have r4 : W2.cell? ⟨q2, 4, none⟩ = some (.int .u16 f.inn.sp) := cell_of hrW2 4
                have r5 : W2.cell? ⟨q2, 5, none⟩ = some (.int .u16 f.inn.dp) := cell_of hrW2 5
                have r6 : W2.cell? ⟨q2, 6, none⟩ = some (.int .u8 f.out.proto) := cell_of hrW2 6
                have r7 : W2.cell? ⟨q2, 7, none⟩ = some (.int .u32 f.out.src) := cell_of hrW2 7
                have r8 : W2.cell? ⟨q2, 8, none⟩ = some (.int .u32 f.out.dst) := cell_of hrW2 8
                have r9 : W2.cell? ⟨q2, 9, none⟩ = some (.int .u16 f.out.sp) := cell_of hrW2 9
                have r10 : W2.cell? ⟨q2, 10, none⟩ = some (.int .u16 f.out.dp) := cell_of hrW2 10
                have r11 : W2.cell? ⟨q2, 11, none⟩ = some (.bool f.emb) := cell_of hrW2 11
                have lkI : (Instr.lookup 52 (.map (some c7)) f.inn.val false).run Try.prog W2 = .ok (.int .i64 0) W2 := by
                  obtain ⟨n1, _, m1⟩ := HI2.out.mi
                  rw [(m1.look HF.out.2.2.1.1).1, seenI_new HOK2.out HF.out.1]
                have lkO : (Instr.lookup 52 (.map (some (c7 + 1))) f.out.val false).run Try.prog W2 = .ok (.int .i64 0) W2 := by
                  obtain ⟨n1, _, m1⟩ := HI2.out.mo
                  rw [(m1.look HF.out.2.2.1.2.1).1, seenO_new HOK2.out HF.out.1]
                obtain ⟨R, hR⟩ : ∃ R : Int, (if rdy s2.L f.id then (1 : Int) else 0) = R := ⟨_, rfl⟩
                have lkR : (Instr.lookup 47 (.map (some b9)) (.int .u64 f.id) false).run Try.prog W2 = .ok (.int .i64 R) W2 := by
                  obtain ⟨nR, _, mR⟩ := HI2.out.r.map
                  rw [← hR]
                  exact mR.look (wf64 (by have := HF.out.2.2.2; omega) (by have := HF.out.2.2.2; have := HI.out.r.li; omega))
                have E38 : (f.emb == decide (0 < R)) = false := by
                  rw [← hR, rdy_split HOK2.out HF.out.1]
                  cases f.emb <;> rfl
                have HR2 := Lib.hid hR
                have En : ∀ W, (binOp .neq 38 f.val f.val).run Try.prog W = Result.ok (.bool false) W := fl_neq0 f
                unfold Tup.val at lkI lkO
                unfold Fl.val Fl.arr at En
                obtain ⟨W3, hs3, hI3, hg3, hk3⟩ := HI2.out.putI HF.out.1 HF.out.2.2.1.1 (by omega)
                unfold Tup.val at hs3
                have HI3 := Lib.hid (And.intro hI3 (hk3 _ _ _ _ hqW2))
                clear hB2 hqW2 hrW2 hW2 hI3 hg3 hk3 hR
                go_upto_region 41 with (fail)
                clear E38 En lkI lkO lkR hs3 w0 w1 w2 w3 w4 w5 w6 w7 w8 w9 w10 w11 r0 r1 r2 r3 r4 r5 r6 r7 r8 r9 r10 r11
                have z6 := fun W : ClsW (InB W3.heap.size W3) => class_cell W (p := ⟨qo, 6, none⟩) (v := .int .u8 f.out.proto) (cell_of HI3.out.2 6) (Array.getElem?_eq_some_iff.1 HI3.out.2).1
                have z7 := fun W : ClsW (InB W3.heap.size W3) => class_cell W (p := ⟨qo, 7, none⟩) (v := .int .u32 f.out.src) (cell_of HI3.out.2 7) (Array.getElem?_eq_some_iff.1 HI3.out.2).1
                have z8 := fun W : ClsW (InB W3.heap.size W3) => class_cell W (p := ⟨qo, 8, none⟩) (v := .int .u32 f.out.dst) (cell_of HI3.out.2 8) (Array.getElem?_eq_some_iff.1 HI3.out.2).1
                have z9 := fun W : ClsW (InB W3.heap.size W3) => class_cell W (p := ⟨qo, 9, none⟩) (v := .int .u16 f.out.sp) (cell_of HI3.out.2 9) (Array.getElem?_eq_some_iff.1 HI3.out.2).1
                have z10 := fun W : ClsW (InB W3.heap.size W3) => class_cell W (p := ⟨qo, 10, none⟩) (v := .int .u16 f.out.dp) (cell_of HI3.out.2 10) (Array.getElem?_eq_some_iff.1 HI3.out.2).1
                have E41 : ∀ W, (binOp .neq 33 f.out.val (Tup.of 0).val).run Try.prog W = Result.ok (.bool (!decide (f.out = Tup.of 0))) W := fun W => tup_neq f.out (Tup.of 0) W
                obtain ⟨zz, hzz⟩ : ∃ zz : Bool, (!decide (f.out = Tup.of 0)) = zz := ⟨_, rfl⟩
                rw [hzz] at E41
                have HZZ := Lib.hid hzz
                clear hzz
                have HOFU := HOF
                unfold Tup.val Tup.of at HOFU E41
                refine wp_region_class (InB W3.heap.size W3) (by kernel_rfl) (by kernel_rfl) ⟨(Below.refl _ _).drew, Nat.le_refl _⟩ fun _ => ?_
                repeat (go_big_quiet_step ((go_at_call 11; exact class_below (HOFU.out _ _))))
                refine wpQuiet_nil ?_
                rintro _ ⟨W4, rfl⟩
                obtain ⟨V4, hV4⟩ : ∃ V, W4.val = V := ⟨_, rfl⟩
                have hB4 : Below W3.heap.size W3 V4 := by rw [← hV4]; exact W4.2.1
                rw [hV4]
                have hq4 : V4.heap[qo]? = some (.cells f.arr 38 (0, 0)) := (hB4.block _ (Array.getElem?_eq_some_iff.1 HI3.out.2).1).trans HI3.out.2
                have HI4 := Lib.hid (HI3.out.1.below hB4)
                have HQ4 := Lib.hid hq4
                clear hV4 W4 hB4 hq4 z6 z7 z8 z9 z10 E41 HOFU
                cases zz with
                | false =>
                  have hz : f.out = Tup.zero := by have := HZZ.out; simp at this; exact this
                  have HI5 := Lib.hid (HI4.out.skipO HF.out.1 hz)
                  clear hz
                  have lkS : (Instr.lookup 47 (.map (some b9)) (.int .u64 f.id) false).run Try.prog V4 = .ok (.int .i64 R) V4 := by
                    obtain ⟨nR, _, mR⟩ := HI5.out.r.map
                    rw [← HR2.out]
                    exact mR.look (wf64 (by have := HF.out.2.2.2; omega) (by have := HF.out.2.2.2; have := HI.out.r.li; omega))
                  have s0 : V4.cell? ⟨qo, 0, none⟩ = some (.int .u64 f.id) := cell_of HQ4.out 0
                  by_cases he : f.emb = true
                  · have HE := Lib.hid he
                    have hR0 : R = 0 := by rw [← HR2.out, rdy_split HOK2.out HF.out.1, he]; rfl
                    subst hR0
                    clear he
                    go_wp2_with fail
                    go_roundw
                    case rel => exact ⟨j + 1, by rw [rdyN_succ HF.out.1, HE.out]; simp, by simp, by omega, HI5.out⟩
                    case measure => simp [intOf]; omega
                  · have HE := Lib.hid he
                    have hR0 : R = 1 := by rw [← HR2.out, rdy_split HOK2.out HF.out.1]; simp [he]
                    subst hR0
                    have hrj : rdyN (s2.L.take j) ≤ ln := by rw [← HLN.out]; exact Nat.le_trans List.countP_le_length (by rw [List.length_take]; omega)
                    clear he
                    go_wp2_with fail
                    go_roundw
                    case rel => exact ⟨j + 1, by rw [rdyN_succ HF.out.1, if_neg HE.out]; congr 1; omega, by simp, by omega, HI5.out⟩
                    case measure => simp [intOf]; omega
                | true =>
                  have hz : f.out ≠ Tup.zero := by have := HZZ.out; simp at this; exact this
                  obtain ⟨W5, hs5, hI5, hg5, hk5⟩ := HI4.out.putO HF.out.1 HF.out.2.2.1.2.1 hz (by omega)
                  unfold Tup.val at hs5
                  have hq5 := hk5 _ _ _ _ HQ4.out
                  have v0 : V4.cell? ⟨qo, 0, none⟩ = some (.int .u64 f.id) := cell_of HQ4.out 0
                  have v6 : V4.cell? ⟨qo, 6, none⟩ = some (.int .u8 f.out.proto) := cell_of HQ4.out 6
                  have v7 : V4.cell? ⟨qo, 7, none⟩ = some (.int .u32 f.out.src) := cell_of HQ4.out 7
                  have v8 : V4.cell? ⟨qo, 8, none⟩ = some (.int .u32 f.out.dst) := cell_of HQ4.out 8
                  have v9 : V4.cell? ⟨qo, 9, none⟩ = some (.int .u16 f.out.sp) := cell_of HQ4.out 9
                  have v10 : V4.cell? ⟨qo, 10, none⟩ = some (.int .u16 f.out.dp) := cell_of HQ4.out 10
                  have x0 : W5.cell? ⟨qo, 0, none⟩ = some (.int .u64 f.id) := cell_of hq5 0
                  have x6 : W5.cell? ⟨qo, 6, none⟩ = some (.int .u8 f.out.proto) := cell_of hq5 6
                  have x7 : W5.cell? ⟨qo, 7, none⟩ = some (.int .u32 f.out.src) := cell_of hq5 7
                  have x8 : W5.cell? ⟨qo, 8, none⟩ = some (.int .u32 f.out.dst) := cell_of hq5 8
                  have x9 : W5.cell? ⟨qo, 9, none⟩ = some (.int .u16 f.out.sp) := cell_of hq5 9
                  have x10 : W5.cell? ⟨qo, 10, none⟩ = some (.int .u16 f.out.dp) := cell_of hq5 10
                  obtain ⟨N5, _, hT5⟩ := hI5.r.tab
                  have HOU := Lib.hid (tab_outer hT5 f.out HF.out.2.2.1.2.1)
                  rw [HF.out.2.1 hz, show (f.id != 0) = true from by have := HF.out.2.2.2; simp; omega] at HOU
                  unfold Tup.val at HOU
                  have HI5 := Lib.hid (And.intro hI5 hq5)
                  clear hz hI5 hg5 hk5 hq5 hT5
                  go_wp2_with fail
                  refine HOU.out.mono ?_
                  rintro e V6 ⟨rfl, hb6⟩
                  have HI6 := Lib.hid (HI5.out.1.below hb6)
                  have HQ6 := Lib.hid ((hb6.block _ (Array.getElem?_eq_some_iff.1 HI5.out.2).1).trans HI5.out.2)
                  clear hb6 hs5 v0 v6 v7 v8 v9 v10 x0 x6 x7 x8 x9 x10
                  have lkS : (Instr.lookup 47 (.map (some b9)) (.int .u64 f.id) false).run Try.prog V6 = .ok (.int .i64 R) V6 := by
                    obtain ⟨nR, _, mR⟩ := HI6.out.r.map
                    rw [← HR2.out]
                    exact mR.look (wf64 (by have := HF.out.2.2.2; omega) (by have := HF.out.2.2.2; have := HI.out.r.li; omega))
                  have s0 : V6.cell? ⟨qo, 0, none⟩ = some (.int .u64 f.id) := cell_of HQ6.out 0
                  by_cases he : f.emb = true
                  · have HE := Lib.hid he
                    have hR0 : R = 0 := by rw [← HR2.out, rdy_split HOK2.out HF.out.1, he]; rfl
                    subst hR0
                    clear he
                    go_wp2_with fail
                    go_roundw
                    case rel => exact ⟨j + 1, by rw [rdyN_succ HF.out.1, HE.out]; simp, by simp, by omega, HI6.out⟩
                    case measure => simp [intOf]; omega
                  · have HE := Lib.hid he
                    have hR0 : R = 1 := by rw [← HR2.out, rdy_split HOK2.out HF.out.1]; simp [he]
                    subst hR0
                    have hrj : rdyN (s2.L.take j) ≤ ln := by rw [← HLN.out]; exact Nat.le_trans List.countP_le_length (by rw [List.length_take]; omega)
                    clear he
                    go_wp2_with fail
                    go_roundw
                    case rel => exact ⟨j + 1, by rw [rdyN_succ HF.out.1, if_neg HE.out]; congr 1; omega, by simp, by omega, HI6.out⟩
                    case measure => simp [intOf]; omega
              · obtain rfl : j = ln := by omega
                have hl0 : ((rdyN s2.L : Int) - (rdyN (s2.L.take j) : Int)) = 0 := by rw [← HLN.out, List.take_length]; omega
                rw [hl0]
                obtain ⟨N3, _, hT3⟩ := HI.out.r.tab
                have HIN := Lib.hid (fun W (hW : Below wr.heap.size wr W) => tab_inner (hT3.below hW) x.a HXO.out.a)
                have HOU := Lib.hid (fun W (hW : Below wr.heap.size wr W) => tab_outer (hT3.below hW) x.b HXO.out.b)
                rw [seenI_all HOK2.out, HLN.out] at HIN
                rw [seenO_all HOK2.out, HLN.out] at HOU
                obtain ⟨SI, hSI⟩ : ∃ SI, seenI s2.L j x.a = SI := ⟨_, rfl⟩
                obtain ⟨SO, hSO⟩ : ∃ SO, seenO s2.L j x.b = SO := ⟨_, rfl⟩
                rw [hSI] at HIN
                rw [hSO] at HOU
                have HS := Lib.hid (And.intro hSI hSO)
                unfold Tup.val at HIN HOU
                have hbo := HI.out.bo
                have k2 : wr.cell? ⟨bo, 2, none⟩ = some (.int .u8 x.a.proto) := cell_of hbo 2
                have k3 : wr.cell? ⟨bo, 3, none⟩ = some (.int .u32 x.a.src) := cell_of hbo 3
                have k4 : wr.cell? ⟨bo, 4, none⟩ = some (.int .u32 x.a.dst) := cell_of hbo 4
                have k5 : wr.cell? ⟨bo, 5, none⟩ = some (.int .u16 x.a.sp) := cell_of hbo 5
                have k6 : wr.cell? ⟨bo, 6, none⟩ = some (.int .u16 x.a.dp) := cell_of hbo 6
                have k7 : wr.cell? ⟨bo, 7, none⟩ = some (.int .u8 x.b.proto) := cell_of hbo 7
                have k8 : wr.cell? ⟨bo, 8, none⟩ = some (.int .u32 x.b.src) := cell_of hbo 8
                have k9 : wr.cell? ⟨bo, 9, none⟩ = some (.int .u32 x.b.dst) := cell_of hbo 9
                have k10 : wr.cell? ⟨bo, 10, none⟩ = some (.int .u16 x.b.sp) := cell_of hbo 10
                have k11 : wr.cell? ⟨bo, 11, none⟩ = some (.int .u16 x.b.dp) := cell_of hbo 11
                clear hSI hSO hT3 hl0 hbo
                go_wp2_with fail
                refine (HIN.out wr (Below.refl _ _)).mono ?_
                rintro e V1 ⟨rfl, hb1⟩
                have hbo1 := (hb1.block _ (Array.getElem?_eq_some_iff.1 HI.out.bo).1).trans HI.out.bo
                have l2 : V1.cell? ⟨bo, 2, none⟩ = some (.int .u8 x.a.proto) := cell_of hbo1 2
                have l3 : V1.cell? ⟨bo, 3, none⟩ = some (.int .u32 x.a.src) := cell_of hbo1 3
                have l4 : V1.cell? ⟨bo, 4, none⟩ = some (.int .u32 x.a.dst) := cell_of hbo1 4
                have l5 : V1.cell? ⟨bo, 5, none⟩ = some (.int .u16 x.a.sp) := cell_of hbo1 5
                have l6 : V1.cell? ⟨bo, 6, none⟩ = some (.int .u16 x.a.dp) := cell_of hbo1 6
                have l7 : V1.cell? ⟨bo, 7, none⟩ = some (.int .u8 x.b.proto) := cell_of hbo1 7
                have l8 : V1.cell? ⟨bo, 8, none⟩ = some (.int .u32 x.b.src) := cell_of hbo1 8
                have l9 : V1.cell? ⟨bo, 9, none⟩ = some (.int .u32 x.b.dst) := cell_of hbo1 9
                have l10 : V1.cell? ⟨bo, 10, none⟩ = some (.int .u16 x.b.sp) := cell_of hbo1 10
                have l11 : V1.cell? ⟨bo, 11, none⟩ = some (.int .u16 x.b.dp) := cell_of hbo1 11
                have HV1 := Lib.hid (And.intro hb1 hbo1)
                clear hb1 hbo1 k2 k3 k4 k5 k6 k7 k8 k9 k10 k11
                go_wp2_with fail
                refine (HOU.out V1 HV1.out.1).mono ?_
                rintro e V2 ⟨rfl, hb2⟩
                have hbo2 := (hb2.block _ (Array.getElem?_eq_some_iff.1 HV1.out.2).1).trans HV1.out.2
                have o2 : V2.cell? ⟨bo, 2, none⟩ = some (.int .u8 x.a.proto) := cell_of hbo2 2
                have o3 : V2.cell? ⟨bo, 3, none⟩ = some (.int .u32 x.a.src) := cell_of hbo2 3
                have o4 : V2.cell? ⟨bo, 4, none⟩ = some (.int .u32 x.a.dst) := cell_of hbo2 4
                have o5 : V2.cell? ⟨bo, 5, none⟩ = some (.int .u16 x.a.sp) := cell_of hbo2 5
                have o6 : V2.cell? ⟨bo, 6, none⟩ = some (.int .u16 x.a.dp) := cell_of hbo2 6
                have o7 : V2.cell? ⟨bo, 7, none⟩ = some (.int .u8 x.b.proto) := cell_of hbo2 7
                have o8 : V2.cell? ⟨bo, 8, none⟩ = some (.int .u32 x.b.src) := cell_of hbo2 8
                have o9 : V2.cell? ⟨bo, 9, none⟩ = some (.int .u32 x.b.dst) := cell_of hbo2 9
                have o10 : V2.cell? ⟨bo, 10, none⟩ = some (.int .u16 x.b.sp) := cell_of hbo2 10
                have o11 : V2.cell? ⟨bo, 11, none⟩ = some (.int .u16 x.b.dp) := cell_of hbo2 11
                have HI2 := Lib.hid (HI.out.below (HV1.out.1.trans (hb2.mono HV1.out.1.size)))
                have lkI : (Instr.lookup 52 (.map (some c7)) x.a.val false).run Try.prog V2 = .ok (.int .i64 SI) V2 := by
                  obtain ⟨n1, _, m1⟩ := HI2.out.mi
                  rw [← HS.out.1]
                  exact (m1.look HXO.out.a).1
                have lkO : (Instr.lookup 52 (.map (some (c7 + 1))) x.b.val false).run Try.prog V2 = .ok (.int .i64 SO) V2 := by
                  obtain ⟨n1, _, m1⟩ := HI2.out.mo
                  rw [← HS.out.2]
                  exact (m1.look HXO.out.b).1
                unfold Tup.val at lkI lkO
                clear hb2 hbo2 l2 l3 l4 l5 l6 l7 l8 l9 l10 l11
                go_wp2_with fail
                go_roundw
                case rel => exact ⟨i + 1, _, s2, rfl, by simp, by omega, by omega, HI2.out.r⟩
                case measure => simp [intOf]; omega
    · obtain rfl : i = n := by omega
      go_wp2_with fail
      go_ret
      exact ⟨rfl, hbelR⟩
end Go.Proofs.Ytdpomneoiagpiaa
