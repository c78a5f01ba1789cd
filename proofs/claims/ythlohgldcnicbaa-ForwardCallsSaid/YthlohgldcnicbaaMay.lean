/- May. -/
import Derived.Test.YthlohgldcnicbaaIns
import Derived.Deep.DeepCutAuto
import Derived.Deep.CutBlock
set_option linter.unusedVariables false
namespace Go.Proofs.Ythlohgldcnicbaa
open Go.RowKit Go.Deep Go.BigFrame
attribute [local go_sem ↓] Go.wp_at_zero Go.wp_at_succ
def poolF (c : Cfg) (p : Int) : Bool := decide (c.low ≤ p) && decide (p ≤ c.high)
def protoF (p : Int) : Bool := p == 6 || p == 17
/-- A forward that may be by itself. -/
def fwOk (c : Cfg) (f : Fw) : Bool := protoF f.proto && !(f.port == 0) && !poolF c f.port && insF c f.addr && !(f.dest == 0)
def disB (L : List Fw) : Bool := decide (L.Pairwise (fun f g => f.door ≠ g.door))
def mayF (c : Cfg) (L : List Fw) : Bool := decide (L.length ≤ 64) && L.all (fwOk c) && disB L
def seenD (P : List Fw) (d : Door) : Int := if P.any (fun f => decide (f.door = d)) then 1 else 0
theorem take_at {L : List Fw} {j : Nat} {f : Fw} (hf : L[j]? = some f) : L.take (j + 1) = L.take j ++ [f] := by
  rw [List.take_add_one, hf]
  rfl
theorem seen_succ {L : List Fw} {j : Nat} {f : Fw} (hf : L[j]? = some f) (t : Door) : seenD (L.take (j + 1)) t = if t = f.door then 1 else seenD (L.take j) t := by
  unfold seenD
  rw [take_at hf, List.any_append]
  by_cases h : t = f.door
  · simp [h]
  · simp [h, Ne.symm h]
/-- The first k may be, and are apart. -/
structure Good (c : Cfg) (L : List Fw) (k : Nat) : Prop where
  ok : ∀ f ∈ L.take k, fwOk c f = true
  dis : (L.take k).Pairwise (fun f g => f.door ≠ g.door)
theorem Good.zero (c : Cfg) (L : List Fw) : Good c L 0 := ⟨by simp, by simp⟩
theorem Good.succ {c : Cfg} {L : List Fw} {k : Nat} {f : Fw} (h : Good c L k) (hf : L[k]? = some f) (ho : fwOk c f = true) (hs : seenD (L.take k) f.door = 0) : Good c L (k + 1) := by
  rw [seenD] at hs
  have hs' : ∀ g ∈ L.take k, g.door ≠ f.door := by
    intro g hg e
    rw [if_pos (List.any_eq_true.2 ⟨g, hg, by simp [e]⟩)] at hs
    cases hs
  refine ⟨fun g hg => ?_, ?_⟩
  · rw [take_at hf] at hg
    rcases List.mem_append.1 hg with q | q
    · exact h.ok g q
    · simp at q
      rw [q]
      exact ho
  · rw [take_at hf, List.pairwise_append]
    exact ⟨h.dis, by simp, fun a ha b hb => by simp at hb; rw [hb]; exact hs' a ha⟩
theorem may_bad {c : Cfg} {L : List Fw} {k : Nat} {f : Fw} (hf : L[k]? = some f) (hb : fwOk c f = false) : mayF c L = false := by
  unfold mayF
  have : L.all (fwOk c) = false := by
    rw [List.all_eq_false]
    exact ⟨f, List.mem_of_getElem? hf, by simp [hb]⟩
  rw [this]
  simp
theorem may_dup {c : Cfg} {L : List Fw} {k : Nat} {f : Fw} (hf : L[k]? = some f) (hs : seenD (L.take k) f.door ≠ 0) : mayF c L = false := by
  have : disB L = false := by
    unfold disB
    rw [decide_eq_false_iff_not]
    intro h
    unfold seenD at hs
    by_cases ha : (L.take k).any (fun g => decide (g.door = f.door)) = true
    · rw [List.any_eq_true] at ha
      obtain ⟨g, hg, e⟩ := ha
      have e2 : L = L.take k ++ L.drop k := (List.take_append_drop k L).symm
      rw [e2, List.pairwise_append] at h
      have hm : f ∈ L.drop k := by
        obtain ⟨hk, e3⟩ := List.getElem?_eq_some_iff.1 hf
        rw [List.drop_eq_getElem_cons hk, e3]
        simp
      exact h.2.2 g hg f hm (by simpa using e)
    · rw [if_neg ha] at hs
      exact hs rfl
  unfold mayF
  rw [this]
  simp
theorem may_all {c : Cfg} {L : List Fw} (h : Good c L L.length) : mayF c L = decide (L.length ≤ 64) := by
  obtain ⟨h1, h2⟩ := h
  rw [List.take_length] at h1 h2
  unfold mayF disB
  rw [List.all_eq_true.2 h1, decide_eq_true h2]
  simp
theorem may_fws {c : Cfg} {L : List Fw} (h : mayF c L = true) (ho : ∀ f ∈ L, f.Ok) : Fws L ∧ L.length ≤ 64 ∧ ∀ f ∈ L, fwOk c f = true := by
  unfold mayF disB at h
  simp only [Bool.and_eq_true, decide_eq_true_eq, List.all_eq_true] at h
  exact ⟨⟨ho, h.2⟩, h.1.1, h.1.2⟩
def ccells (c : Cfg) : Array Value := c.arr
set_option maxHeartbeats 6400000
set_option maxRecDepth 100000
theorem may_any {c : Cfg} (hc : c.Ok) (A : Option Addr) (n cp : Nat) (L : List Fw) (w : World) (hn : L.length = n) (hfs : FwsAt w A L) (hok : ∀ f ∈ L, f.Ok) (hm : n ≤ 100000) :
    Calls Try.prog 7 #[c.val, .slice A n cp] w fun e w' => e = .returned (.bool (mayF c L)) ∧ Below w.heap.size w w' := by
  have HC := Lib.hid hc
  have HF := Lib.hid hfs
  have HN := Lib.hid hn
  have HOK := Lib.hid hok
  have hmm := @run_makeMap Try.prog
  clear hc hfs hn hok
  unfold Cfg.val Cfg.arr
  go_enter Try.func7, Try.ntmps7
  go_wp2_with fail
  refine wp_name fun W0 hW0 => ?_
  obtain ⟨cb, hcb⟩ : ∃ cb, w.heap.size = cb := ⟨_, rfl⟩
  have hB0 : Below w.heap.size w W0 := by rw [hW0]; exact ((Below.refl _ _).alloc (Nat.le_refl _) _).alloc (by simp) _
  have hc0 : W0.heap[cb]? = some (.cells c.arr 29 (0, 0)) := by rw [hW0, ← hcb, Below.heap_alloc _ _ _ (by simp)]; exact heap_alloc_new w _
  have hm0 : MapI W0 (cb + 1) 0 (fun _ => 0) := by
    rw [hW0, ← hcb]
    have := MapI.made (w.alloc (.cells c.arr 29))
    rwa [World.size_alloc] at this
  have HW := Lib.hid (And.intro hB0 (And.intro hc0 (And.intro hm0 hcb)))
  rw [hcb]
  clear hB0 hc0 hm0 hcb hW0
  go_loopw [14] (fun v14 wr => ∃ (k : Nat), v14 = .int .i64 k ∧ k ≤ n ∧ Below w.heap.size w wr ∧ wr.heap[cb]? = some (.cells c.arr 29 (0, 0)) ∧ (∃ nk, nk ≤ k ∧ MapI wr (cb + 1) nk (seenD (L.take k))) ∧ Good c L k) (fun v14 _ => n - (intOf v14).toNat)
  case atStart => exact ⟨0, rfl, Nat.zero_le _, HW.out.1, HW.out.2.1, ⟨0, Nat.le_refl _, HW.out.2.2.1.congr fun t _ => by simp [seenD]⟩, Good.zero c L⟩
  case round =>
    obtain ⟨k, rfl, hk, hb, hcw, ⟨nk, hnk, hmw⟩, hg⟩ := hrel
    have HB := Lib.hid (And.intro hb (And.intro hcw (And.intro hmw hg)))
    clear hb hcw hmw hg
    by_cases hlt : k < n
    · obtain ⟨f, hf⟩ : ∃ f, L[k]? = some f := ⟨L[k]'(by have := HN.out; omega), List.getElem?_eq_getElem _⟩
      have hfo := HOK.out f (List.mem_of_getElem? hf)
      obtain ⟨b, o, rfl, hbl, hat⟩ := HF.out k f hf
      obtain ⟨k0, k1, k2, k3⟩ := hat.below HB.out.1 hbl
      have HFK := Lib.hid (And.intro hf hfo)
      obtain ⟨q, hq⟩ : ∃ q, wr.heap.size = q := ⟨_, rfl⟩
      have HQ := Lib.hid hq
      clear hf hfo hat hbl hq
      go_upto_region 6 with (fail)
      refine wp_name fun V hV => ?_
      have hVB : Below wr.heap.size wr V := by rw [hV]; exact ((Below.refl _ _).alloc (Nat.le_refl _) _).alloc (by simp) _
      have hVf : V.heap[q]? = some (.cells f.arr 37 (0, 0)) := by rw [hV, ← HQ.out, Below.heap_alloc _ _ _ (by simp)]; exact heap_alloc_new wr _
      have hVd : V.heap[q + 1]? = some (.cells #[.int .u8 f.proto, .int .u16 f.port] 60 (0, 0)) := by
        rw [hV, ← HQ.out]
        have := heap_alloc_new (wr.alloc (.cells f.arr 37)) (.cells #[.int .u8 f.proto, .int .u16 f.port] 60)
        rwa [World.size_alloc] at this
      have hVc : V.heap[cb]? = some (.cells c.arr 29 (0, 0)) := (hVB.block _ (Array.getElem?_eq_some_iff.1 HB.out.2.1).1).trans HB.out.2.1
      have HV := Lib.hid (And.intro hVB (And.intro hVf (And.intro hVd hVc)))
      rw [HQ.out]
      have x0 : V.cell? ⟨q, 0, none⟩ = some (.int .u8 f.proto) := cell_of hVf 0
      have x1 : V.cell? ⟨q, 1, none⟩ = some (.int .u16 f.port) := cell_of hVf 1
      have x2 : V.cell? ⟨q, 2, none⟩ = some (.int .u32 f.addr) := cell_of hVf 2
      have x3 : V.cell? ⟨q, 3, none⟩ = some (.int .u16 f.dest) := cell_of hVf 3
      have d0 : V.cell? ⟨(q + 1), 0, none⟩ = some (.int .u8 f.proto) := cell_of hVd 0
      have d1 : V.cell? ⟨(q + 1), 1, none⟩ = some (.int .u16 f.port) := cell_of hVd 1
      have c0 : V.cell? ⟨cb, 0, none⟩ = some (.int .u32 c.inn) := cell_of hVc 0
      have c1 : V.cell? ⟨cb, 1, none⟩ = some (.int .u32 c.mask) := cell_of hVc 1
      have c2 : V.cell? ⟨cb, 2, none⟩ = some (.int .u32 c.outr) := cell_of hVc 2
      have c3 : V.cell? ⟨cb, 3, none⟩ = some (.int .u16 c.low) := cell_of hVc 3
      have c4 : V.cell? ⟨cb, 4, none⟩ = some (.int .u16 c.high) := cell_of hVc 4
      have c5 : V.cell? ⟨cb, 5, none⟩ = some (.int .u64 c.quar) := cell_of hVc 5
      have c6 : V.cell? ⟨cb, 6, none⟩ = some (.int .i64 c.fls) := cell_of hVc 6
      have c7 : V.cell? ⟨cb, 7, none⟩ = some (.slice c.A7 c.n7 c.c7) := cell_of hVc 7
      have c8 : V.cell? ⟨cb, 8, none⟩ = some (.int .i64 c.sniff) := cell_of hVc 8
      have c9 : V.cell? ⟨cb, 9, none⟩ = some (.int .u16 c.mss) := cell_of hVc 9
      have c10 : V.cell? ⟨cb, 10, none⟩ = some (.int .i64 c.scale) := cell_of hVc 10
      have c11 : V.cell? ⟨cb, 11, none⟩ = some (.bool c.sack) := cell_of hVc 11
      have c12 : V.cell? ⟨cb, 12, none⟩ = some (.int .u64 c.ky) := cell_of hVc 12
      have c13 : V.cell? ⟨cb, 13, none⟩ = some (.slice c.A13 c.n13 c.c13) := cell_of hVc 13
      have c14 : V.cell? ⟨cb, 14, none⟩ = some (.slice c.A14 c.n14 c.c14) := cell_of hVc 14
      have c15 : V.cell? ⟨cb, 15, none⟩ = some (.int .u64 c.rto) := cell_of hVc 15
      have c16 : V.cell? ⟨cb, 16, none⟩ = some (.int .i64 c.tries) := cell_of hVc 16
      have c17 : V.cell? ⟨cb, 17, none⟩ = some (.int .u64 c.idle) := cell_of hVc 17
      have c18 : V.cell? ⟨cb, 18, none⟩ = some (.int .u64 c.wait) := cell_of hVc 18
      clear hV hVB hVf hVd hVc k0 k1 k2 k3
      go_cut [9] (fun v9 wx => v9 = .bool (protoF f.proto) ∧ wx = V)
      case first =>
        by_cases h6 : f.proto = 6
        · have t1 : (f.proto == 6) = true := by simpa using h6
          have e1 : protoF f.proto = true := by unfold protoF; rw [t1]; rfl
          clear h6
          as_aux_lemma =>
            go_wp2_with fail
            go_meet
            case rel => exact ⟨by rw [e1], by first | trivial | rfl⟩
        · have t1 : (f.proto == 6) = false := by simpa using h6
          have e1 : protoF f.proto = (f.proto == 17) := by unfold protoF; rw [t1]; rfl
          clear h6
          as_aux_lemma =>
            go_wp2_with fail
            go_meet
            case rel => exact ⟨by rw [e1], by first | trivial | rfl⟩
      case rest =>
        obtain ⟨rfl, rfl⟩ := hcut
        go_upto_region 7 with (fail)
        go_cut [10] (fun v10 wx => v10 = .bool (poolF c f.port) ∧ wx = wc)
        case first =>
          by_cases h1 : c.low ≤ f.port
          · have e1 : poolF c f.port = decide (f.port ≤ c.high) := by unfold poolF; rw [decide_eq_true h1]; rfl
            as_aux_lemma =>
              go_wp2_with fail
              go_meet
              case rel => exact ⟨by rw [e1], by first | trivial | rfl⟩
          · have e1 : poolF c f.port = false := by unfold poolF; rw [decide_eq_false h1]; rfl
            as_aux_lemma =>
              go_wp2_with fail
              go_meet
              case rel => exact ⟨by rw [e1], by first | trivial | rfl⟩
        case rest =>
          obtain ⟨rfl, rfl⟩ := hcut
          have HIN := Lib.hid (inside_any HC.out HFK.out.2.2.2.1 wc)
          have hbc : Below w.heap.size w wc := HB.out.1.trans (HV.out.1.mono HB.out.1.size)
          have HBC := Lib.hid hbc
          obtain ⟨PB, hPB⟩ : ∃ PB, protoF f.proto = PB := ⟨_, rfl⟩
          obtain ⟨QB, hQB⟩ : ∃ QB, poolF c f.port = QB := ⟨_, rfl⟩
          obtain ⟨IB, hIB⟩ : ∃ IB, insF c f.addr = IB := ⟨_, rfl⟩
          have HP := Lib.hid (And.intro hPB (And.intro hQB hIB))
          rw [hPB, hQB]
          rw [hIB] at HIN
          unfold Cfg.val Cfg.arr at HIN
          clear hbc hPB hQB hIB
          cases PB with
          | false =>
            have hbad : mayF c L = false := may_bad HFK.out.1 (by unfold fwOk; rw [HP.out.1]; rfl)
            as_aux_lemma =>
              go_wp2_with fail
              go_ret
              exact ⟨ret_bool hbad.symm, HBC.out⟩
          | true =>
            by_cases hp0 : f.port = 0
            · have hbad : mayF c L = false := may_bad HFK.out.1 (by unfold fwOk; rw [hp0]; simp)
              have t1 : (f.port == 0) = true := by simpa using hp0
              clear hp0
              as_aux_lemma =>
                go_wp2_with fail
                go_ret
                exact ⟨ret_bool hbad.symm, HBC.out⟩
            · have t1 : (f.port == 0) = false := by simpa using hp0
              have HT1 := Lib.hid t1
              clear hp0
              cases QB with
              | true =>
                have hbad : mayF c L = false := may_bad HFK.out.1 (by unfold fwOk; rw [HP.out.2.1]; simp)
                as_aux_lemma =>
                  go_wp2_with fail
                  go_ret
                  exact ⟨ret_bool hbad.symm, HBC.out⟩
              | false =>
                have HLD := Lib.hid (load29 HV.out.2.2.2)
                unfold Cfg.val Cfg.arr at HLD
                go_wp2_with (refine wpList_load_eq _ rfl 29 _ rfl _ (by exact HLD.out) ?_)
                refine HIN.out.mono ?_
                rintro e V2 ⟨rfl, hb2⟩
                have h2f := (hb2.block _ (Array.getElem?_eq_some_iff.1 HV.out.2.1).1).trans HV.out.2.1
                have h2d := (hb2.block _ (Array.getElem?_eq_some_iff.1 HV.out.2.2.1).1).trans HV.out.2.2.1
                have h2c := (hb2.block _ (Array.getElem?_eq_some_iff.1 HV.out.2.2.2).1).trans HV.out.2.2.2
                have hbr2 : Below wr.heap.size wr V2 := HV.out.1.trans (hb2.mono HV.out.1.size)
                have hm2 := HB.out.2.2.1.keptE (hbr2.block _ HB.out.2.2.1.lt)
                have hbw2 : Below w.heap.size w V2 := HB.out.1.trans (hbr2.mono HB.out.1.size)
                have H2 := Lib.hid (And.intro h2c (And.intro hm2 hbw2))
                cases IB with
                | false =>
                  have hbad : mayF c L = false := may_bad HFK.out.1 (by unfold fwOk; rw [HP.out.2.2]; simp)
                  clear h2f h2d h2c hbr2 hm2 hbw2 hb2
                  as_aux_lemma =>
                    as_aux_lemma =>
                      as_aux_lemma =>
                        go_wp2_with fail
                        go_ret
                        exact ⟨ret_bool hbad.symm, H2.out.2.2⟩
                | true =>
                  have y0 : V2.cell? ⟨q, 0, none⟩ = some (.int .u8 f.proto) := cell_of h2f 0
                  have y1 : V2.cell? ⟨q, 1, none⟩ = some (.int .u16 f.port) := cell_of h2f 1
                  have y2 : V2.cell? ⟨q, 2, none⟩ = some (.int .u32 f.addr) := cell_of h2f 2
                  have y3 : V2.cell? ⟨q, 3, none⟩ = some (.int .u16 f.dest) := cell_of h2f 3
                  have e0 : V2.cell? ⟨(q + 1), 0, none⟩ = some (.int .u8 f.proto) := cell_of h2d 0
                  have e1 : V2.cell? ⟨(q + 1), 1, none⟩ = some (.int .u16 f.port) := cell_of h2d 1
                  clear h2c hbr2 hbw2 hb2 h2f h2d
                  by_cases hd0 : f.dest = 0
                  · have hbad : mayF c L = false := may_bad HFK.out.1 (by unfold fwOk; rw [hd0]; simp)
                    have t2 : (f.dest == 0) = true := by simpa using hd0
                    clear hd0 hm2
                    as_aux_lemma =>
                      as_aux_lemma =>
                        go_wp2_with fail
                        go_ret
                        exact ⟨ret_bool hbad.symm, H2.out.2.2⟩
                  · have t2 : (f.dest == 0) = false := by simpa using hd0
                    have hlk := hm2.look HFK.out.2.door
                    obtain ⟨S, hS⟩ : ∃ S, seenD (L.take k) f.door = S := ⟨_, rfl⟩
                    rw [hS] at hlk
                    unfold Door.val Fw.door at hlk
                    by_cases hs0 : S = 0
                    · subst hs0
                      obtain ⟨V3, hu, hm3, hg3⟩ := hm2.store HFK.out.2.door (x := 1) (by decide) (by unfold maxLen; omega)
                      unfold Door.val Fw.door at hu
                      have hbl := hm2.lt
                      have H3 := Lib.hid (And.intro hm3 (And.intro hg3 (And.intro hS (And.intro t2 hbl))))
                      clear hd0 hm2 hm3 hg3 hS hbl
                      go_wp2_with fail
                      go_roundw
                      case rel =>
                        obtain ⟨hm3, hg3, hS, t2, hbl⟩ := H3.out
                        refine ⟨k + 1, by simp, by omega, grown_bel H2.out.2.2 hg3 (by rintro q e; cases e; have := HW.out.2.2.2; omega), (hg3.block _ (Array.getElem?_eq_some_iff.1 H2.out.1).1 (by simp)).trans H2.out.1, ⟨nk + 1, by omega, hm3.congr fun t _ => (seen_succ HFK.out.1 t).symm⟩, HB.out.2.2.2.succ HFK.out.1 ?_ hS⟩
                        unfold fwOk
                        rw [HP.out.1, HP.out.2.1, HP.out.2.2, HT1.out, t2]
                        rfl
                      case measure => simp [intOf]; omega
                    · have hS1 : S = 1 := by
                        unfold seenD at hS
                        split at hS
                        · exact hS.symm
                        · exact absurd hS.symm hs0
                      have hbad : mayF c L = false := may_dup HFK.out.1 (by rw [hS]; exact hs0)
                      subst hS1
                      clear hd0 hm2 hS hs0
                      as_aux_lemma =>
                        go_wp2_with fail
                        go_ret
                        exact ⟨ret_bool hbad.symm, H2.out.2.2⟩
    · obtain rfl : k = n := by omega
      have hfin : mayF c L = decide ((k : Int) ≤ 64) := by
        rw [may_all (by rw [HN.out]; exact HB.out.2.2.2), HN.out]
        exact decide_eq_decide.2 (by omega)
      go_wp2_with fail
      go_ret
      exact ⟨ret_bool hfin.symm, HB.out.1⟩
end Go.Proofs.Ythlohgldcnicbaa
