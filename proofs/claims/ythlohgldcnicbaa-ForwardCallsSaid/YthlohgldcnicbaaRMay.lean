/- The reference's May. -/
import Derived.Test.YthlohgldcnicbaaNew
set_option linter.unusedVariables false
namespace Go.Proofs.Ythlohgldcnicbaa
open Go.RowKit Go.Deep Go.BigFrame
attribute [local go_sem ↓] Go.wp_at_zero Go.wp_at_succ
set_option maxHeartbeats 6400000
set_option maxRecDepth 100000
theorem wpList_load_at {P : Program} (w : World) {ops : Array Oper} {rest : List Oper} {o : Oper} {a : Act} {Q : Exit → Act → World → Prop} (t : TypeId) (p : Operand)
    (ho : o.op = .load t p) (hw : Region.wanted o (yielded ops a.tmps) = true) (v : Value) (hr : (Instr.loadAt t (a.eval p)).run P w = .ok v w) (h : wpList P ops Q rest (a.put o.dst v) w) : wpList P ops Q (o :: rest) a w :=
  wpList_load_eq w hw t p ho v hr h
theorem may_long {c : Cfg} {L : List Fw} (h : ¬ L.length ≤ 64) : mayF c L = false := by
  unfold mayF
  rw [decide_eq_false h]
  rfl
theorem seen_zero {P : List Fw} {d : Door} (h : ∀ (j : Nat) (g : Fw), P[j]? = some g → g.door ≠ d) : seenD P d = 0 := by
  unfold seenD
  rw [if_neg]
  intro ha
  rw [List.any_eq_true] at ha
  obtain ⟨g, hg, e⟩ := ha
  obtain ⟨j, hj, e2⟩ := List.getElem_of_mem hg
  exact h j g (by rw [List.getElem?_eq_getElem hj, e2]) (by simpa using e)
theorem seen_hit {L : List Fw} {d : Door} {j k : Nat} {g : Fw} (hj : j < k) (hg : L[j]? = some g) (hd : g.door = d) : seenD (L.take k) d ≠ 0 := by
  unfold seenD
  rw [if_pos]
  · decide
  · rw [List.any_eq_true]
    refine ⟨g, ?_, by simp [hd]⟩
    exact List.mem_of_getElem? (i := j) (by rw [List.getElem?_take_of_lt hj]; exact hg)
theorem rmay_any (c : Cfg) (A : Option Addr) (n cp : Nat) (L : List Fw) (w : World) (hn : L.length = n) (hfs : FwsAt w A L) (hm : n ≤ 100000) :
    Calls Try.prog 13 #[c.val, .slice A n cp] w fun e w' => e = .returned (.bool (mayF c L)) ∧ Below w.heap.size w w' := by
  have HF := Lib.hid hfs
  have HN := Lib.hid hn
  have hB : Below w.heap.size w (w.alloc (.cells c.arr 29)) := (Below.refl _ _).alloc (Nat.le_refl _) _
  have HB := Lib.hid hB
  clear hfs hn hB
  unfold Cfg.val Cfg.arr at *
  by_cases h64 : n ≤ 64
  · go_enter Try.func13, Try.ntmps13
    go_wp2_with fail
    refine wp_name fun W0 hW0 => ?_
    obtain ⟨cb, hcb⟩ : ∃ cb, w.heap.size = cb := ⟨_, rfl⟩
    have hW0' : W0 = w.alloc (.cells c.arr 29) := hW0
    have hB0 : Below w.heap.size w W0 := by rw [hW0']; exact HB.out
    have hc0 : W0.heap[cb]? = some (.cells c.arr 29 (0, 0)) := by rw [hW0', ← hcb]; exact heap_alloc_new w _
    have HW := Lib.hid (And.intro hB0 (And.intro hc0 hcb))
    rw [hcb]
    clear hB0 hc0 hcb hW0 hW0'
    go_loopw [5] (fun v5 wr => ∃ k : Nat, v5 = .int .i64 k ∧ k ≤ n ∧ Below w.heap.size w wr ∧ wr.heap[cb]? = some (.cells c.arr 29 (0, 0)) ∧ Good c L k) (fun v5 _ => n - (intOf v5).toNat)
    case atStart => exact ⟨0, rfl, Nat.zero_le _, HW.out.1, HW.out.2.1, Good.zero c L⟩
    case round =>
      obtain ⟨k, rfl, hk, hb, hcw, hg⟩ := hrel
      have HR := Lib.hid (And.intro hb (And.intro hcw hg))
      clear hb hcw hg
      by_cases hlt : k < n
      · obtain ⟨f, hf⟩ : ∃ f, L[k]? = some f := ⟨L[k]'(by have := HN.out; omega), List.getElem?_eq_getElem _⟩
        obtain ⟨b, o, rfl, hbl, hat⟩ := HF.out k f hf
        obtain ⟨k0, k1, k2, k3⟩ := hat.below HR.out.1 hbl
        have HFK := Lib.hid hf
        obtain ⟨q, hq⟩ : ∃ q, wr.heap.size = q := ⟨_, rfl⟩
        have HQ := Lib.hid hq
        clear hf hat hbl hq
        go_upto_region 7 with (fail)
        refine wp_name fun V hV => ?_
        have hVB : Below wr.heap.size wr V := by rw [hV]; exact (Below.refl _ _).alloc (Nat.le_refl _) _
        have hVf : V.heap[q]? = some (.cells f.arr 37 (0, 0)) := by rw [hV, ← HQ.out]; exact heap_alloc_new wr _
        have hVc : V.heap[cb]? = some (.cells c.arr 29 (0, 0)) := (hVB.block _ (Array.getElem?_eq_some_iff.1 HR.out.2.1).1).trans HR.out.2.1
        have HV := Lib.hid (And.intro hVB (And.intro hVf hVc))
        rw [HQ.out]
        have x0 : V.cell? ⟨q, 0, none⟩ = some (.int .u8 f.proto) := cell_of hVf 0
        have x1 : V.cell? ⟨q, 1, none⟩ = some (.int .u16 f.port) := cell_of hVf 1
        have x2 : V.cell? ⟨q, 2, none⟩ = some (.int .u32 f.addr) := cell_of hVf 2
        have x3 : V.cell? ⟨q, 3, none⟩ = some (.int .u16 f.dest) := cell_of hVf 3
        have c3 : V.cell? ⟨cb, 3, none⟩ = some (.int .u16 c.low) := cell_of hVc 3
        have c4 : V.cell? ⟨cb, 4, none⟩ = some (.int .u16 c.high) := cell_of hVc 4
        have HLD := Lib.hid (load29 hVc)
        obtain ⟨IB, hIB⟩ : ∃ IB, insF c f.addr = IB := ⟨_, rfl⟩
        have HIN := Lib.hid (rinside_any c f.addr V)
        rw [hIB] at HIN
        unfold Cfg.val Cfg.arr at HLD HIN
        clear hV hVB hVf hVc k0 k1 k2 k3
        go_cut [59] (fun v59 wx => v59 = .bool (!(fwOk c f)) ∧ Below V.heap.size V wx)
        case first =>
          by_cases h6 : f.proto = 6
          · have s1 : (f.proto != 6) = false := by simpa using h6
            have hpp : protoF f.proto = true := by unfold protoF; rw [h6]; rfl
            have HPP := Lib.hid hpp
            clear h6 hpp
            by_cases hp0 : f.port = 0
            · have t1 : (f.port == 0) = true := by simpa using hp0
              have e0 : fwOk c f = false := by unfold fwOk; rw [hp0]; simp
              clear hp0
              as_aux_lemma =>
                go_wp2_with fail
                go_meet
                case rel => exact ⟨by rw [e0]; rfl, Below.refl _ _⟩
            · have t1 : (f.port == 0) = false := by simpa using hp0
              have HT1 := Lib.hid t1
              clear hp0
              by_cases hd0 : f.dest = 0
              · have t2 : (f.dest == 0) = true := by simpa using hd0
                have e0 : fwOk c f = false := by unfold fwOk; rw [hd0]; simp
                clear hd0
                as_aux_lemma =>
                  go_wp2_with fail
                  go_meet
                  case rel => exact ⟨by rw [e0]; rfl, Below.refl _ _⟩
              · have t2 : (f.dest == 0) = false := by simpa using hd0
                have HT2 := Lib.hid t2
                clear hd0
                by_cases hl : c.low ≤ f.port
                · by_cases hh : f.port ≤ c.high
                  · have e0 : fwOk c f = false := by unfold fwOk poolF; rw [decide_eq_true hl, decide_eq_true hh]; simp
                    as_aux_lemma =>
                      go_wp2_with fail
                      go_meet
                      case rel => exact ⟨by rw [e0]; rfl, Below.refl _ _⟩
                  · have HLH := Lib.hid (And.intro hl hh)
                    have e0 : fwOk c f = IB := by unfold fwOk poolF; rw [HPP.out, decide_eq_true HLH.out.1, decide_eq_false HLH.out.2]; rw [hIB, HT1.out, HT2.out]; simp
                    as_aux_lemma =>
                      go_wp2_with (refine wpList_load_at _ 29 _ rfl rfl _ (by exact HLD.out) ?_)
                      refine HIN.out.mono ?_
                      rintro e V2 ⟨rfl, hb2⟩
                      have HB2 := Lib.hid hb2
                      clear hb2
                      go_wp2_with fail
                      go_meet
                      case rel => exact ⟨by rw [e0], HB2.out⟩
                · have HLH := Lib.hid hl
                  have e0 : fwOk c f = IB := by unfold fwOk poolF; rw [HPP.out, decide_eq_false HLH.out]; rw [hIB, HT1.out, HT2.out]; simp
                  as_aux_lemma =>
                    go_wp2_with (refine wpList_load_at _ 29 _ rfl rfl _ (by exact HLD.out) ?_)
                    refine HIN.out.mono ?_
                    rintro e V2 ⟨rfl, hb2⟩
                    have HB2 := Lib.hid hb2
                    clear hb2
                    go_wp2_with fail
                    go_meet
                    case rel => exact ⟨by rw [e0], HB2.out⟩
          · have s1 : (f.proto != 6) = true := by simpa using h6
            by_cases h17 : f.proto = 17
            · have s2 : (f.proto != 17) = false := by simpa using h17
              have hpp : protoF f.proto = true := by unfold protoF; rw [h17]; rfl
              have HPP := Lib.hid hpp
              clear h6 h17 hpp
              by_cases hp0 : f.port = 0
              · have t1 : (f.port == 0) = true := by simpa using hp0
                have e0 : fwOk c f = false := by unfold fwOk; rw [hp0]; simp
                clear hp0
                as_aux_lemma =>
                  go_wp2_with fail
                  go_meet
                  case rel => exact ⟨by rw [e0]; rfl, Below.refl _ _⟩
              · have t1 : (f.port == 0) = false := by simpa using hp0
                have HT1 := Lib.hid t1
                clear hp0
                by_cases hd0 : f.dest = 0
                · have t2 : (f.dest == 0) = true := by simpa using hd0
                  have e0 : fwOk c f = false := by unfold fwOk; rw [hd0]; simp
                  clear hd0
                  as_aux_lemma =>
                    go_wp2_with fail
                    go_meet
                    case rel => exact ⟨by rw [e0]; rfl, Below.refl _ _⟩
                · have t2 : (f.dest == 0) = false := by simpa using hd0
                  have HT2 := Lib.hid t2
                  clear hd0
                  by_cases hl : c.low ≤ f.port
                  · by_cases hh : f.port ≤ c.high
                    · have e0 : fwOk c f = false := by unfold fwOk poolF; rw [decide_eq_true hl, decide_eq_true hh]; simp
                      as_aux_lemma =>
                        go_wp2_with fail
                        go_meet
                        case rel => exact ⟨by rw [e0]; rfl, Below.refl _ _⟩
                    · have HLH := Lib.hid (And.intro hl hh)
                      have e0 : fwOk c f = IB := by unfold fwOk poolF; rw [HPP.out, decide_eq_true HLH.out.1, decide_eq_false HLH.out.2]; rw [hIB, HT1.out, HT2.out]; simp
                      as_aux_lemma =>
                        go_wp2_with (refine wpList_load_at _ 29 _ rfl rfl _ (by exact HLD.out) ?_)
                        refine HIN.out.mono ?_
                        rintro e V2 ⟨rfl, hb2⟩
                        have HB2 := Lib.hid hb2
                        clear hb2
                        go_wp2_with fail
                        go_meet
                        case rel => exact ⟨by rw [e0], HB2.out⟩
                  · have HLH := Lib.hid hl
                    have e0 : fwOk c f = IB := by unfold fwOk poolF; rw [HPP.out, decide_eq_false HLH.out]; rw [hIB, HT1.out, HT2.out]; simp
                    as_aux_lemma =>
                      go_wp2_with (refine wpList_load_at _ 29 _ rfl rfl _ (by exact HLD.out) ?_)
                      refine HIN.out.mono ?_
                      rintro e V2 ⟨rfl, hb2⟩
                      have HB2 := Lib.hid hb2
                      clear hb2
                      go_wp2_with fail
                      go_meet
                      case rel => exact ⟨by rw [e0], HB2.out⟩
            · have s2 : (f.proto != 17) = true := by simpa using h17
              have e0 : fwOk c f = false := by
                have hpp : protoF f.proto = false := by unfold protoF; simp [h6, h17]
                unfold fwOk
                rw [hpp]
                rfl
              clear h6 h17
              as_aux_lemma =>
                go_wp2_with fail
                go_meet
                case rel => exact ⟨by rw [e0]; rfl, Below.refl _ _⟩
        case rest =>
          obtain ⟨rfl, hb3⟩ := hcut
          have h3f := (hb3.block _ (Array.getElem?_eq_some_iff.1 HV.out.2.1).1).trans HV.out.2.1
          have h3c := (hb3.block _ (Array.getElem?_eq_some_iff.1 HV.out.2.2).1).trans HV.out.2.2
          have hbr : Below wr.heap.size wr wc := HV.out.1.trans (hb3.mono HV.out.1.size)
          have hbw : Below w.heap.size w wc := HR.out.1.trans (hbr.mono HR.out.1.size)
          have H3 := Lib.hid (And.intro h3f (And.intro h3c hbw))
          clear h3f h3c hbr hbw hb3 x0 x1 x2 x3 c3 c4 HLD HIN
          obtain ⟨B, hB⟩ : ∃ B, (!(fwOk c f)) = B := ⟨_, rfl⟩
          rw [hB]
          cases B with
          | true =>
            have hbad : mayF c L = false := may_bad HFK.out (by simpa using hB)
            clear hB
            as_aux_lemma =>
              go_wp2_with fail
              go_ret
              exact ⟨ret_bool hbad.symm, H3.out.2.2⟩
          | false =>
            have hok : fwOk c f = true := by simpa using hB
            have HOK := Lib.hid hok
            clear hok hB
            go_wp2_with fail
            obtain ⟨wo, hwo⟩ : ∃ x, x = wc := ⟨_, rfl⟩
            subst hwo
            go_loopw [7] (fun v7 wr => ∃ j : Nat, v7 = .int .i64 j ∧ j ≤ k ∧ Below wo.heap.size wo wr ∧ ∀ (i : Nat) (g : Fw), i < j → L[i]? = some g → g.door ≠ f.door) (fun v7 _ => k - (intOf v7).toNat)
            case atStart => exact ⟨0, rfl, Nat.zero_le _, Below.refl _ _, fun i g hi => by omega⟩
            case round =>
              obtain ⟨j, rfl, hj, hbj, hnot⟩ := hrel
              have hjf := (hbj.block _ (Array.getElem?_eq_some_iff.1 H3.out.1).1).trans H3.out.1
              have hbw : Below w.heap.size w wr := H3.out.2.2.trans (hbj.mono H3.out.2.2.size)
              have HJ := Lib.hid (And.intro hbj (And.intro hnot hbw))
              by_cases hjk : j < k
              · obtain ⟨g, hg⟩ : ∃ g, L[j]? = some g := ⟨L[j]'(by have := HN.out; omega), List.getElem?_eq_getElem _⟩
                obtain ⟨gb, go, hA, hgl, hga⟩ := HF.out j g hg
                injection hA with hA
                injection hA with hA1 hA2
                subst hA1 hA2
                obtain ⟨m0, m1, m2, m3⟩ := hga.below hbw hgl
                have x0 : wr.cell? ⟨q, 0, none⟩ = some (.int .u8 f.proto) := cell_of hjf 0
                have x1 : wr.cell? ⟨q, 1, none⟩ = some (.int .u16 f.port) := cell_of hjf 1
                have HG := Lib.hid hg
                clear hg hga hgl hbj hnot hjf hbw
                by_cases hp : g.proto = f.proto
                · have s1 : (g.proto == f.proto) = true := by simpa using hp
                  by_cases hq : g.port = f.port
                  · have s2 : (g.port == f.port) = true := by simpa using hq
                    have hbad : mayF c L = false := may_dup HFK.out (seen_hit hjk HG.out (by unfold Fw.door; rw [hp, hq]))
                    clear hp hq
                    as_aux_lemma =>
                      go_wp2_with fail
                      go_quiet (fail)
                      go_wp2_with fail
                      go_ret
                      exact ⟨ret_bool hbad.symm, HJ.out.2.2.trans ((below_drewN (Below.refl _ _) _).mono HJ.out.2.2.size)⟩
                  · have s2 : (g.port == f.port) = false := by simpa using hq
                    have hne : g.door ≠ f.door := fun e => hq (by unfold Fw.door at e; injection e)
                    clear hp hq
                    as_aux_lemma =>
                      go_wp2_with fail
                      go_quiet (fail)
                      go_wp2_with fail
                      go_roundw
                      case rel =>
                        refine ⟨j + 1, by simp, by omega, HJ.out.1.trans ((below_drewN (Below.refl _ _) _)), fun i g' hi hg' => ?_⟩
                        rcases Nat.lt_or_ge i j with q | q
                        · exact HJ.out.2.1 i g' q hg'
                        · obtain rfl : i = j := by omega
                          rw [HG.out] at hg'
                          cases hg'
                          exact hne
                      case measure => simp [intOf]; omega
                · have s1 : (g.proto == f.proto) = false := by simpa using hp
                  have hne : g.door ≠ f.door := fun e => hp (by unfold Fw.door at e; injection e)
                  clear hp
                  as_aux_lemma =>
                    go_wp2_with fail
                    go_quiet (fail)
                    go_wp2_with fail
                    go_roundw
                    case rel =>
                      refine ⟨j + 1, by simp, by omega, HJ.out.1.trans ((below_drewN (Below.refl _ _) _)), fun i g' hi hg' => ?_⟩
                      rcases Nat.lt_or_ge i j with q | q
                      · exact HJ.out.2.1 i g' q hg'
                      · obtain rfl : i = j := by omega
                        rw [HG.out] at hg'
                        cases hg'
                        exact hne
                    case measure => simp [intOf]; omega
              · obtain rfl : j = k := by omega
                clear hbj hnot hjf hbw
                go_wp2_with fail
                go_roundw
                case rel => exact ⟨j + 1, by simp, by omega, HJ.out.2.2, (HJ.out.1.block _ (Array.getElem?_eq_some_iff.1 H3.out.2.1).1).trans H3.out.2.1, HR.out.2.2.succ HFK.out HOK.out (seen_zero fun i g hg => by
                  have hi : i < j := by
                    rcases Nat.lt_or_ge i j with q | q
                    · exact q
                    · rw [List.getElem?_eq_none (by rw [List.length_take]; omega)] at hg
                      cases hg
                  rw [List.getElem?_take_of_lt hi] at hg
                  exact HJ.out.2.1 i g hi hg)⟩
                case measure => simp [intOf]; omega
      · obtain rfl : k = n := by omega
        have hfin : mayF c L = true := by
          rw [may_all (by rw [HN.out]; exact HR.out.2.2), HN.out]
          exact decide_eq_true h64
        go_wp2_with fail
        go_ret
        exact ⟨ret_bool hfin.symm, HR.out.1⟩
  · have hbad : mayF c L = false := may_long (by rw [HN.out]; exact h64)
    have t1 : 64 < n := by omega
    clear h64
    go_enter Try.func13, Try.ntmps13
    go_wp2_with fail
    go_ret
    exact ⟨ret_bool hbad.symm, HB.out⟩
end Go.Proofs.Ythlohgldcnicbaa
