/- The reference's Send. -/
import Derived.Test.YtpigomkhpdfdcaaRSend0
import Derived.StillTailTactics
import Derived.Outline
import Derived.Deep.RegionLaw
import Derived.Deep.CutRange
set_option linter.unusedVariables false
namespace Go.Proofs.Ytpigomkhpdfdcaa
open Go.RowKit Go.Deep Go.BigFrame
attribute [local go_sem ↓] Go.wp_at_zero Go.wp_at_succ
theorem wp_abs {P : Program} {c : Code} {Q : Exit → Act → World → Prop} {a : Act} {w : World} (h : ∀ N : Act → World → Prop, (∀ a w, Q .normal a w → N a w) → c.wp P (Exit.then N Q) a w) : c.wp P Q a w := by
  have e : Exit.then (fun a w => Q .normal a w) Q = Q := by funext e; cases e <;> rfl
  have h1 := h (fun a w => Q .normal a w) (fun _ _ h => h)
  rwa [e] at h1
theorem absorb {N : Act → World → Prop} {a : Act} {w : World} {G : Prop} (f : Hid (N a w) → G) (h : N a w) : G := f (Lib.hid h)
/-- What Send's loop keeps. -/
def RSendRel (WL : World) (g c a : Nat) (A : Option Addr) (AT : Int) (ws : List Int) (s : St) (m en : Nat) (v : Value) (wr : World) : Prop :=
  ∃ S acc, acc ++ pcsOf m S en = pcsOf m s.sent en ∧ s.sent ≤ S ∧ (S ≤ en ∨ S = s.sent) ∧ S ≤ s.data.length ∧ acc.length ≤ S ∧ WL.grownBy wr (some g) ∧ Rb wr g A c AT ws a { s with sent := S } ∧ RPcs wr WL.heap.size s.una s.data v acc
/-- What the loop over one piece's bytes keeps. -/
def RsRel (W0 : World) (g c a : Nat) (A : Option Addr) (AT : Int) (ws : List Int) (s : St) (S T b7 : Nat) (u : Int) (wr : World) : Prop :=
  ∃ (k : Nat) (A1 : Option Addr) (k1 : Nat), S + k ≤ T ∧ wr.heap[b7]? = some (.cells #[.int .u32 u, .slice A1 k k1] 79 (0, 0)) ∧ Rb wr g A c AT ws a { s with sent := S + k } ∧
    wr.ownsRow (b7 + 1) 5 1 (.slice A1 k k1) k (((ws.drop (a + S)).take k).map (.int .u8)) ∧ W0.grownBy wr (some g)
theorem seg_drop {ws d : List Int} {a S T k : Nat} (hd : d = ws.drop a) (h0 : S + k ≤ T) (h1 : T ≤ S + k) : seg d S T = (ws.drop (a + S)).take k := by
  obtain rfl : T = S + k := by omega
  subst hd
  unfold seg
  rw [List.drop_take, List.drop_drop]
  congr 1
  omega

set_option maxHeartbeats 12800000 in
set_option maxRecDepth 100000 in
theorem rsend_ok (g c a : Nat) (A : Option Addr) (AT : Int) (ws : List Int) (s : St) (mss : Nat) (w : World) (hb : Rb w g A c AT ws a s) (ho : s.Ok) (h : mayB mss = true) :
    Calls Try.prog 30 #[.pointer (some ⟨g, 0, none⟩), .int .i64 mss] w fun e w' => ∃ v, e = .returned (.tuple #[v, .int .i64 0]) ∧
      w.grownBy w' (some g) ∧ Rb w' g A c AT ws a (sendSt s) ∧ RPcs w' w.heap.size s.una s.data v (pcsOf mss s.sent (sendEnd s)) := by
  have hm : 1 ≤ (mss : Int) ∧ (mss : Int) ≤ 1500 := by unfold mayB at h; exact of_decide_eq_true h
  obtain ⟨t1, t2⟩ := may_facts h
  have lg := hb.lt
  obtain ⟨n, hn⟩ : ∃ n, s.data.length = n := ⟨_, rfl⟩
  obtain ⟨nn, hnn⟩ : ∃ nn, ws.length = nn := ⟨_, rfl⟩
  obtain ⟨win, hwin⟩ : ∃ win, s.win = win := ⟨_, rfl⟩
  obtain ⟨en, hen⟩ : ∃ en, sendEnd s = en := ⟨_, rfl⟩
  have hE : ∀ k : Nat, k < en ↔ k < n ∧ (k : Int) < win := by intro k; rw [← hen, sendEnd, hn, hwin]; omega
  have henn : en ≤ n := by rw [← hen, sendEnd, hn]; omega
  have w0 := ho.win0
  have w1 := ho.win1
  have s1 := ho.sent
  have hdl := hb.dlen
  have hn5 := hb.n
  rw [hn, hnn] at hdl
  rw [hnn] at hn5
  rw [hwin] at w0 w1
  rw [hn] at s1
  have HB := Lib.hid hb
  have HO := Lib.hid ho
  have HN := Lib.hid hn
  have HNN := Lib.hid hnn
  have HWIN := Lib.hid hwin
  have HEN := Lib.hid hen
  have HE := Lib.hid hE
  clear hb ho hn hnn hwin hen hE h
  go_enter Try.func30, Try.ntmps30
  go_wp2_with fail
  
  go_loopw [6] (fun v wr => RSendRel w g c a A AT ws s mss en v wr) (fun _ wr => a + en - (intOf ((wr.cell? ⟨g, 3, none⟩).getD undef)).toNat)
  case atStart => exact ⟨s.sent, [], rfl, Nat.le_refl _, .inr rfl, HO.out.sent, by simp, World.grownBy.refl _ _, HB.out, RPcs.nil _ _ _ _⟩
  case round =>
    obtain ⟨S, acc, ha, hS1, hS2, hS3, hac, hgr, hrb, hpc⟩ := hrel
    have hszr : w.heap.size ≤ wr.heap.size := hgr.size
    have c0 : wr.cell? ⟨g, 0, none⟩ = some (.slice A nn c) := by rw [hrb.c0, HNN.out]
    have c2 : wr.cell? ⟨g, 2, none⟩ = some (.int .i64 a) := hrb.c2
    have c4 : wr.cell? ⟨g, 4, none⟩ = some (.int .u32 win) := by rw [hrb.c4]; rw [← HWIN.out]
    obtain ⟨st, hst⟩ : ∃ st, a + S = st := ⟨_, rfl⟩
    have c3 : wr.cell? ⟨g, 3, none⟩ = some (.int .i64 st) := by rw [← hst]; exact hrb.c3
    rw [HN.out] at hS3
    have hsub : IntKind.i64.wrap ((st : Int) - (a : Int)) = (S : Int) := by rw [IntWalk.i64_in _ (by omega)]; omega
    have hww : IntKind.i64.wrap win = win := IntWalk.i64_in _ (by omega)
    have hst0 : a + S ≤ st := by omega
    have hst1 : st ≤ a + S := by omega
    have HGR := Lib.hid hgr
    have HRB := Lib.hid hrb
    have HRBO := Lib.hid hrb
    have HPC := Lib.hid hpc
    have HA := Lib.hid ha
    have HS2 := Lib.hid hS2
    have HST := Lib.hid hst
    clear hgr hrb hpc ha hS2 hst
    obtain ⟨wo, hwo⟩ : ∃ x, x = wr := ⟨_, rfl⟩
    subst hwo
    by_cases e1 : st < nn
    · have d1 : decide (st < nn) = true := decide_eq_true e1
      by_cases e2 : (S : Int) < win
      · have d2 : decide ((S : Int) < win) = true := decide_eq_true e2
        have hSen : S < en := (HE.out S).2 ⟨by omega, e2⟩
        obtain ⟨T, hT⟩ : ∃ T, min (S + mss) en = T := ⟨_, rfl⟩
        have hST : S < T := by omega
        have hTe : T ≤ en := by omega
        have hTm : T ≤ S + mss := by omega
        have hmore : ∀ k : Nat, S + k < T ↔ k < mss ∧ S + k < n ∧ ((S + k : Nat) : Int) < win := by
          intro k
          have := HE.out (S + k)
          omega
        have HT := Lib.hid hT
        have HMO := Lib.hid hmore
        clear hT hmore
        go_wp2_with fail
        go_quiet (fail)
        go_upto_region 5 with (fail)
        obtain ⟨W0, hW0⟩ : ∃ W0, W0 = wo.drewN nq := ⟨_, rfl⟩
        rw [← hW0]
        have hBW : Below wo.heap.size wo W0 := by rw [hW0]; exact below_drewN (Below.refl _ _) _
        have HRB0 := Lib.hid (HRB.out.below hBW)
        have HUN := Lib.hid (rnxt_any g c a A AT ws { s with sent := S } W0 HRB0.out)
        have HPC0 := Lib.hid (HPC.out.kept (grown_below (r := none) hBW) (by simp))
        have HG0 := Lib.hid (grown_trans HGR.out (grown_below (r := some g) hBW))
        have hgW := HRB0.out.lt
        have hs0 : w.heap.size ≤ W0.heap.size := by have := hBW.size; omega
        obtain ⟨u, hu⟩ : ∃ u, addU s.una S = u := ⟨_, rfl⟩
        have hu' : addU ({ s with sent := S } : St).una (({ s with sent := S } : St).sent : Nat) = u := hu
        rw [hu'] at HUN
        have HU := Lib.hid hu
        clear hW0 hBW hu hu' c0 c2 c3 c4
        go_wp2_with fail
        refine HUN.out.mono ?_
        rintro e w' ⟨rfl, rfl⟩
        go_wp2_with fail
        obtain ⟨b7, hb7⟩ : ∃ b7, W0.heap.size = b7 := ⟨_, rfl⟩
        obtain ⟨WI, hWI⟩ : ∃ WI, WI = W0.alloc (Obj.cells #[.int .u32 u, .slice none 0 0] 79) := ⟨_, rfl⟩
        rw [← hWI, hb7]
        have h7 : WI.heap[b7]? = some (.cells #[.int .u32 u, .slice none 0 0] 79 (0, 0)) := by rw [hWI, ← hb7]; exact heap_alloc_new W0 _
        have HRBI := Lib.hid (show Rb WI g A c AT ws a { s with sent := S } by rw [hWI]; exact HRB0.out.below ((Below.refl _ _).alloc (Nat.le_refl _) _))
        have HGI := Lib.hid (show W0.grownBy WI (some g) by rw [hWI]; exact World.grownBy_alloc _ _ _)
        have HH7 := Lib.hid h7
        have HB7 := Lib.hid hb7
        rw [hb7] at hgW hs0
        clear hWI h7 hb7
        
        go_loopw [] (fun wr => RsRel W0 g c a A AT ws s S T b7 u wr) (fun wr => nn - (intOf ((wr.cell? ⟨g, 3, none⟩).getD undef)).toNat)
        case atStart => exact ⟨0, none, 0, by omega, HH7.out, HRBI.out, World.ownsRow_nil _ _ _ _, HGI.out⟩
        case round =>
          obtain ⟨k, A1, k1, hkT, hh7, hrb, hown, hgr⟩ := hrel
          obtain ⟨i, hi⟩ : ∃ i, a + (S + k) = i := ⟨_, rfl⟩
          have i0 : a + S + k ≤ i := by omega
          have i1 : i ≤ a + S + k := by omega
          have p0 : wr.cell? ⟨b7, 0, none⟩ = some (.int .u32 u) := cell_of hh7 0
          have p1 : wr.cell? ⟨b7, 1, none⟩ = some (.slice A1 k k1) := cell_of hh7 1
          have q1 := free_of hh7 1
          have c0 : wr.cell? ⟨g, 0, none⟩ = some (.slice A nn c) := by rw [hrb.c0, HNN.out]
          have c2 : wr.cell? ⟨g, 2, none⟩ = some (.int .i64 a) := hrb.c2
          have c4 : wr.cell? ⟨g, 4, none⟩ = some (.int .u32 win) := by rw [hrb.c4]; rw [← HWIN.out]
          have c3 : wr.cell? ⟨g, 3, none⟩ = some (.int .i64 i) := by rw [← hi]; exact hrb.c3
          have q3 := free_of hrb.heap 3
          have hsub2 : IntKind.i64.wrap ((i : Int) - (a : Int)) = ((S + k : Nat) : Int) := by rw [IntWalk.i64_in _ (by omega)]; omega
          have HH7 := Lib.hid hh7
          have HRB := Lib.hid hrb
          have HOWN := Lib.hid hown
          have HGR2 := Lib.hid hgr
          have hbyw := hrb.byt
          rw [HNN.out] at hbyw
          have HBYW := Lib.hid hbyw
          have hsz2 : b7 + 1 ≤ wr.heap.size := (Array.getElem?_eq_some_iff.1 hh7).1
          have HI := Lib.hid hi
          clear hh7 hrb hown hgr hbyw hi
          by_cases hk : S + k < T
          · obtain ⟨m1, m2, m3⟩ := (HMO.out k).1 hk
            have f1 : decide (k < mss) = true := decide_eq_true m1
            have f2 : decide (i < nn) = true := decide_eq_true (by omega)
            have f3 : decide (((S + k : Nat) : Int) < win) = true := decide_eq_true m3
            obtain ⟨b, o', rfl, hbl, hcell⟩ := HBYW.out.get (i := i) (by omega)
            have hbw : b < w.heap.size := by
              obtain ⟨b', o2, e, hl', _⟩ := HB.out.byt.get (i := i) (by rw [HNN.out]; omega)
              cases e
              exact hl'
            obtain ⟨v, hv⟩ : ∃ v, ws.getD i 0 = v := ⟨_, rfl⟩
            rw [hv] at hcell
            have HV := Lib.hid hv
            clear hv
            go_wp2_with fail
            go_quiet (fail)
            go_wp2_with fail

            obtain ⟨Y, hY⟩ : ∃ Y, Y = wr.drewN nq := ⟨_, rfl⟩
            rw [← hY]
            have y1 : Y.drew.cell? ⟨b7, 1, none⟩ = some (.slice A1 k k1) := by rw [hY]; exact p1
            have y0 : Y.drew.cell? ⟨g, 0, none⟩ = some (.slice (some ⟨b, o', none⟩) nn c) := by rw [hY]; exact c0
            have y3 : Y.drew.cell? ⟨g, 3, none⟩ = some (.int .i64 i) := by rw [hY]; exact c3
            have yc : Y.drew.cell? ⟨b, o' + i, none⟩ = some (.int .u8 v) := by rw [hY]; exact hcell
            have hys : Y.heap.size = wr.heap.size := by rw [hY]; rfl
            have hok : Y.drew.ownsRow (b7 + 1) 5 1 (.slice A1 k k1) k (((ws.drop (a + S)).take k).map (.int .u8)) := by rw [hY]; exact HOWN.out
            obtain ⟨v2, w2, hr, ho2, hg2⟩ := run_append_byt (w := Y.drew.alloc (Obj.cells #[.int .u8 v] 5)) (b7 + 1) (.slice A1 k k1) k _ (hok.alloc _) (some ⟨Y.drew.heap.size, 0, none⟩) 1 1 [v] rfl (Byt.const Y.drew [v] 1 (0, 0) rfl (by simp [maxLen])) (by omega) (by simp; omega)
            have hown1 := fun z hz => (hok.lt z hz).1
            have hnb : ∀ {z : Nat}, z < b7 + 1 → some z ≠ (Value.slice A1 k k1).ownBlock := fun hz e => by have := hown1 _ e.symm; omega
            have hgY : Y.drew.grownBy w2 (Value.slice A1 k k1).ownBlock := grown_trans (World.grownBy_alloc _ _ _) hg2
            have z1 := hgY.cell y1 (hnb (show b7 < _ by omega))
            have z0 := hgY.cell y0 (hnb (show g < _ by omega))
            have z3 := hgY.cell y3 (hnb (show g < _ by omega))
            have zc := hgY.cell yc (hnb (show b < _ by omega))
            have h7w : w2.heap[b7]? = some (.cells #[.int .u32 u, .slice A1 k k1] 79 (0, 0)) := (hgY.block b7 (by show b7 < Y.heap.size; omega) (hnb (by omega))).trans (by show Y.heap[b7]? = _; rw [hY]; exact HH7.out)
            have zf := free_of h7w 1
            have hgw2 : w2.heap[g]? = wr.heap[g]? := (hgY.block g (by show g < Y.heap.size; omega) (hnb (by omega))).trans (by show Y.heap[g]? = _; rw [hY]; rfl)
            have zf3 := free_of (hgw2.trans HRB.out.heap) 3
            obtain ⟨A2, k2, hv2⟩ := own_len ho2
            subst hv2
            have HR := Lib.hid hr
            have HO2 := Lib.hid ho2
            have HGY := Lib.hid (show wr.grownBy w2 (Value.slice A1 k k1).ownBlock by have h1 := hgY; rw [hY] at h1; exact ⟨h1.os, h1.tape, h1.output, h1.size, h1.block⟩)
            have HOW1 := Lib.hid hown1
            have HH7W := Lib.hid h7w
            have HGW2 := Lib.hid hgw2
            have HC3 := Lib.hid c3
            clear hr ho2 hg2 hgY hok hown1 h7w hgw2 hys
            have x1 : ∀ o, (Y.alloc o).drew.cell? ⟨b7, 1, none⟩ = some (.slice A1 k k1) := fun o => (World.cell?_alloc_lt Y o _ (World.block_lt_of_cell? Y.drew _ y1)).trans y1
            have x0 : ∀ o, (Y.alloc o).drew.cell? ⟨g, 0, none⟩ = some (.slice (some ⟨b, o', none⟩) nn c) := fun o => (World.cell?_alloc_lt Y o _ (World.block_lt_of_cell? Y.drew _ y0)).trans y0
            have x3 : ∀ o, (Y.alloc o).drew.cell? ⟨g, 3, none⟩ = some (.int .i64 i) := fun o => (World.cell?_alloc_lt Y o _ (World.block_lt_of_cell? Y.drew _ y3)).trans y3
            have xc : ∀ o, (Y.alloc o).drew.cell? ⟨b, o' + i, none⟩ = some (.int .u8 v) := fun o => (World.cell?_alloc_lt Y o _ (World.block_lt_of_cell? Y.drew _ yc)).trans yc
            have ib0 : (0 : Int) ≤ (i : Int) := by omega
            have ib1 : (i : Int) < (nn : Int) := by omega
            clear hY p0 p1 c0 c2 c3 c4
            refine wp_abs fun Q' hQ => ?_
            refine absorb (N := Q') (a := ?aF) (w := ?wF) ?lv ?fin
            case lv =>
              intro hF
              go_region_law (first | (refine step_append_run rfl _ _ 34 34 rfl _ _ rfl rfl _ _ (by exact HR.out) ?_))
              all_goals exact hF.out
            case fin =>
              refine hQ _ _ ?_
  
              go_wp2_with fail
              have hz := heap_set (i := 3) ((Below.heap_setCell w2 ⟨b7, 1, none⟩ (.slice A2 (k + 1) k2) g (by show g ≠ b7; omega)).trans (HGW2.out.trans HRB.out.heap)) (.int .i64 ((i : Int) + 1))
              have HHZ := Lib.hid hz
              clear hz
              go_roundw
              case rel =>
                refine ⟨k + 1, A2, k2, by omega, ?_, ?_, ?_, ?_⟩
                · exact (Below.heap_setCell _ _ _ _ (by show b7 ≠ g; omega)).trans (heap_set HH7W.out _)
                · refine HB.out.upd (s' := { s with sent := S + (k + 1) }) ?_ ?_ HB.out.data HB.out.una HB.out.le
                  · exact grown_set (grown_set_new (grown_new2 (grown_trans HG0.out HGR2.out) HGY.out (fun q hq => by have := HOW1.out q hq; omega)) (by show w.heap.size ≤ b7; exact hs0))
                  · have hz := heap_set (i := 3) ((Below.heap_setCell w2 ⟨b7, 1, none⟩ (.slice A2 (k + 1) k2) g (by show g ≠ b7; omega)).trans (HGW2.out.trans HRB.out.heap)) (.int .i64 ((i : Int) + 1))
                    refine hz.trans ?_
                    have e1 : ((i : Int) + 1) = ((a + (S + (k + 1)) : Nat) : Int) := by omega
                    rw [e1]
                    rfl
                · have h1 := HO2.out
                  rw [← List.map_append, ← HV.out, take_one ws (a + S) k i i0 i1 (by rw [HNN.out]; omega)] at h1
                  exact kept_row (kept_row h1 (grown_setCell _ _ _ _) (by intro z hz; cases hz; omega)) (grown_setCell _ _ _ _) (by intro z hz; cases hz; omega)
                · exact grown_set (grown_set_new (grown_new2 HGR2.out HGY.out (fun q hq => by have := HOW1.out q hq; rw [HB7.out]; omega)) (by show W0.heap.size ≤ b7; rw [HB7.out]; exact Nat.le_refl _))
              case measure =>
                rw [HC3.out]
                go_simp
                show nn - ((i : Int) + 1).toNat < nn - (i : Int).toNat
                omega
          · have hkk : T = S + k := by omega
            have hno := fun h => hk ((HMO.out k).2 h)
            have hkb : k ≤ mss := by omega
            by_cases m1 : k < mss
            · have f1 : decide (k < mss) = true := decide_eq_true m1
              by_cases m2 : i < nn
              · have f2 : decide (i < nn) = true := decide_eq_true m2
                have m3 : ¬ ((S + k : Nat) : Int) < win := fun h => hno ⟨m1, by omega, h⟩
                have f3 : decide (((S + k : Nat) : Int) < win) = false := decide_eq_false m3
                have f4 : decide ((S : Int) + (k : Int) < win) = false := decide_eq_false (by omega)
                have f5 : win ≤ (S : Int) + (k : Int) := by omega
                clear hno
                go_wp2_with fail
                go_quiet (fail)
                obtain ⟨Z, hZ⟩ : ∃ Z, Z = wr.drewN nq := ⟨_, rfl⟩
                rw [← hZ]
                have HGZ := Lib.hid (show W0.grownBy Z (some g) by rw [hZ]; exact grown_drewN HGR2.out)
                have HRZ := Lib.hid (show Rb Z g A c AT ws a { s with sent := S + k } by rw [hZ]; exact HRB.out.below (below_drewN (Below.refl _ _) _))
                have z0 : Z.cell? ⟨b7, 0, none⟩ = some (.int .u32 u) := by rw [hZ]; exact p0
                have z1 : Z.cell? ⟨b7, 1, none⟩ = some (.slice A1 k k1) := by rw [hZ]; exact p1
                have hoz : Z.ownsRow W0.heap.size 5 1 (.slice A1 k k1) k (((ws.drop (a + S)).take k).map (.int .u8)) := by rw [hZ]; exact (show (wr.drewN nq).ownsRow _ _ _ _ _ _ from HOWN.out).lower (by rw [HB7.out]; omega)
                have hkT2 : T - S = k := by omega
                rw [← seg_drop (T := T) (HB.out.data) (by omega) (by omega)] at hoz
                rw [← hkT2] at hoz
                obtain ⟨v2, w2, hr2, hg2, hrow, hpc2⟩ := rround_push (u := u6) (S := S) (T := T) (by rw [HB7.out]; exact hs0) lg HPC0.out (by omega) HGZ.out hoz
                rw [HU.out, hkT2] at hr2
                have HR2 := Lib.hid hr2
                have HG2 := Lib.hid hg2
                have HROW := Lib.hid hrow
                have HPC2 := Lib.hid hpc2
                have HC3 := Lib.hid c3
                clear hZ hr2 hg2 hrow hpc2 hoz p0 p1 c0 c2 c3 c4 hkT2
                go_wp2_with (at_builtin; refine Lib.wpList_append_run _ rfl _ _ 72 72 rfl _ _ rfl rfl _ _ (by exact HR2.out) ?_)

                go_roundw
                case rel =>
                  have hgg := grown_trans HG0.out HGZ.out
                  refine ⟨T, acc ++ [(S, T)], ?_, by omega, .inl hTe, by rw [HN.out]; omega, by simp; omega, grown_new2 hgg HG2.out HROW.out, ?_, HPC2.out⟩
                  · rw [← HA.out, pcsOf_step mss S en (by omega) hSen, HT.out]; simp
                  · have hgl : g < Z.heap.size := HRZ.out.lt
                    have hz := (HG2.out.block g hgl (fun e => by have := HROW.out g e.symm; omega)).trans HRZ.out.heap
                    rw [← hkk] at hz
                    exact HB.out.upd (s' := { s with sent := T }) (grown_new2 hgg HG2.out HROW.out) hz HB.out.data HB.out.una HB.out.le
                case measure =>
                  have hgl : g < Z.heap.size := HRZ.out.lt
                  have q2 : w2.cell? ⟨g, 3, none⟩ = some (.int .i64 (a + (S + k) : Nat)) := cell_of ((HG2.out.block g hgl (fun e => by have := HROW.out g e.symm; omega)).trans HRZ.out.heap) 3
                  have q1 : wo.cell? ⟨g, 3, none⟩ = some (.int .i64 (a + S : Nat)) := HRBO.out.c3
                  rw [q1, q2]
                  simp [intOf]
                  omega
              · have f2 : decide (i < nn) = false := decide_eq_false m2
                clear hno
                go_wp2_with fail
                go_quiet (fail)
                obtain ⟨Z, hZ⟩ : ∃ Z, Z = wr.drewN nq := ⟨_, rfl⟩
                rw [← hZ]
                have HGZ := Lib.hid (show W0.grownBy Z (some g) by rw [hZ]; exact grown_drewN HGR2.out)
                have HRZ := Lib.hid (show Rb Z g A c AT ws a { s with sent := S + k } by rw [hZ]; exact HRB.out.below (below_drewN (Below.refl _ _) _))
                have z0 : Z.cell? ⟨b7, 0, none⟩ = some (.int .u32 u) := by rw [hZ]; exact p0
                have z1 : Z.cell? ⟨b7, 1, none⟩ = some (.slice A1 k k1) := by rw [hZ]; exact p1
                have hoz : Z.ownsRow W0.heap.size 5 1 (.slice A1 k k1) k (((ws.drop (a + S)).take k).map (.int .u8)) := by rw [hZ]; exact (show (wr.drewN nq).ownsRow _ _ _ _ _ _ from HOWN.out).lower (by rw [HB7.out]; omega)
                have hkT2 : T - S = k := by omega
                rw [← seg_drop (T := T) (HB.out.data) (by omega) (by omega)] at hoz
                rw [← hkT2] at hoz
                obtain ⟨v2, w2, hr2, hg2, hrow, hpc2⟩ := rround_push (u := u6) (S := S) (T := T) (by rw [HB7.out]; exact hs0) lg HPC0.out (by omega) HGZ.out hoz
                rw [HU.out, hkT2] at hr2
                have HR2 := Lib.hid hr2
                have HG2 := Lib.hid hg2
                have HROW := Lib.hid hrow
                have HPC2 := Lib.hid hpc2
                have HC3 := Lib.hid c3
                clear hZ hr2 hg2 hrow hpc2 hoz p0 p1 c0 c2 c3 c4 hkT2
                go_wp2_with (at_builtin; refine Lib.wpList_append_run _ rfl _ _ 72 72 rfl _ _ rfl rfl _ _ (by exact HR2.out) ?_)

                go_roundw
                case rel =>
                  have hgg := grown_trans HG0.out HGZ.out
                  refine ⟨T, acc ++ [(S, T)], ?_, by omega, .inl hTe, by rw [HN.out]; omega, by simp; omega, grown_new2 hgg HG2.out HROW.out, ?_, HPC2.out⟩
                  · rw [← HA.out, pcsOf_step mss S en (by omega) hSen, HT.out]; simp
                  · have hgl : g < Z.heap.size := HRZ.out.lt
                    have hz := (HG2.out.block g hgl (fun e => by have := HROW.out g e.symm; omega)).trans HRZ.out.heap
                    rw [← hkk] at hz
                    exact HB.out.upd (s' := { s with sent := T }) (grown_new2 hgg HG2.out HROW.out) hz HB.out.data HB.out.una HB.out.le
                case measure =>
                  have hgl : g < Z.heap.size := HRZ.out.lt
                  have q2 : w2.cell? ⟨g, 3, none⟩ = some (.int .i64 (a + (S + k) : Nat)) := cell_of ((HG2.out.block g hgl (fun e => by have := HROW.out g e.symm; omega)).trans HRZ.out.heap) 3
                  have q1 : wo.cell? ⟨g, 3, none⟩ = some (.int .i64 (a + S : Nat)) := HRBO.out.c3
                  rw [q1, q2]
                  simp [intOf]
                  omega
            · have f1 : decide (k < mss) = false := decide_eq_false m1
              clear hno
              go_wp2_with fail
              go_quiet (fail)
              obtain ⟨Z, hZ⟩ : ∃ Z, Z = wr.drewN nq := ⟨_, rfl⟩
              rw [← hZ]
              have HGZ := Lib.hid (show W0.grownBy Z (some g) by rw [hZ]; exact grown_drewN HGR2.out)
              have HRZ := Lib.hid (show Rb Z g A c AT ws a { s with sent := S + k } by rw [hZ]; exact HRB.out.below (below_drewN (Below.refl _ _) _))
              have z0 : Z.cell? ⟨b7, 0, none⟩ = some (.int .u32 u) := by rw [hZ]; exact p0
              have z1 : Z.cell? ⟨b7, 1, none⟩ = some (.slice A1 k k1) := by rw [hZ]; exact p1
              have hoz : Z.ownsRow W0.heap.size 5 1 (.slice A1 k k1) k (((ws.drop (a + S)).take k).map (.int .u8)) := by rw [hZ]; exact (show (wr.drewN nq).ownsRow _ _ _ _ _ _ from HOWN.out).lower (by rw [HB7.out]; omega)
              have hkT2 : T - S = k := by omega
              rw [← seg_drop (T := T) (HB.out.data) (by omega) (by omega)] at hoz
              rw [← hkT2] at hoz
              obtain ⟨v2, w2, hr2, hg2, hrow, hpc2⟩ := rround_push (u := u6) (S := S) (T := T) (by rw [HB7.out]; exact hs0) lg HPC0.out (by omega) HGZ.out hoz
              rw [HU.out, hkT2] at hr2
              have HR2 := Lib.hid hr2
              have HG2 := Lib.hid hg2
              have HROW := Lib.hid hrow
              have HPC2 := Lib.hid hpc2
              have HC3 := Lib.hid c3
              clear hZ hr2 hg2 hrow hpc2 hoz p0 p1 c0 c2 c3 c4 hkT2
              go_wp2_with (at_builtin; refine Lib.wpList_append_run _ rfl _ _ 72 72 rfl _ _ rfl rfl _ _ (by exact HR2.out) ?_)

              go_roundw
              case rel =>
                have hgg := grown_trans HG0.out HGZ.out
                refine ⟨T, acc ++ [(S, T)], ?_, by omega, .inl hTe, by rw [HN.out]; omega, by simp; omega, grown_new2 hgg HG2.out HROW.out, ?_, HPC2.out⟩
                · rw [← HA.out, pcsOf_step mss S en (by omega) hSen, HT.out]; simp
                · have hgl : g < Z.heap.size := HRZ.out.lt
                  have hz := (HG2.out.block g hgl (fun e => by have := HROW.out g e.symm; omega)).trans HRZ.out.heap
                  rw [← hkk] at hz
                  exact HB.out.upd (s' := { s with sent := T }) (grown_new2 hgg HG2.out HROW.out) hz HB.out.data HB.out.una HB.out.le
              case measure =>
                have hgl : g < Z.heap.size := HRZ.out.lt
                have q2 : w2.cell? ⟨g, 3, none⟩ = some (.int .i64 (a + (S + k) : Nat)) := cell_of ((HG2.out.block g hgl (fun e => by have := HROW.out g e.symm; omega)).trans HRZ.out.heap) 3
                have q1 : wo.cell? ⟨g, 3, none⟩ = some (.int .i64 (a + S : Nat)) := HRBO.out.c3
                rw [q1, q2]
                simp [intOf]
                omega
      · have d2 : decide ((S : Int) < win) = false := decide_eq_false e2
        have hSen : ¬ S < en := fun h => e2 ((HE.out S).1 h).2
        go_wp2_with fail
        go_quiet (fail)
        go_wp2_with fail

        go_ret2
        have hS : max s.sent (sendEnd s) = S := by rw [HEN.out]; have := HS2.out; omega
        have hB2 : Below wo.heap.size wo (wo.drewN nq) := below_drewN (Below.refl _ _) _
        refine ⟨_, rfl, ?_, ?_, ?_⟩
        · exact grown_drewN HGR.out
        · rw [sendSt, hS]; exact HRB.out.below hB2
        · rw [HEN.out, ← HA.out, pcsOf_stop mss S en hSen, List.append_nil]
          exact HPC.out.kept (grown_below (r := none) hB2) (by simp)
    · have d1 : decide (st < nn) = false := decide_eq_false e1
      have hSen : ¬ S < en := fun h => by have := ((HE.out S).1 h).1; omega
      go_wp2_with fail
      go_quiet (fail)
      go_wp2_with fail

      go_ret2
      have hS : max s.sent (sendEnd s) = S := by rw [HEN.out]; have := HS2.out; omega
      have hB2 : Below wo.heap.size wo (wo.drewN nq) := below_drewN (Below.refl _ _) _
      refine ⟨_, rfl, ?_, ?_, ?_⟩
      · exact grown_drewN HGR.out
      · rw [sendSt, hS]; exact HRB.out.below hB2
      · rw [HEN.out, ← HA.out, pcsOf_stop mss S en hSen, List.append_nil]
        exact HPC.out.kept (grown_below (r := none) hB2) (by simp)
end Go.Proofs.Ytpigomkhpdfdcaa
