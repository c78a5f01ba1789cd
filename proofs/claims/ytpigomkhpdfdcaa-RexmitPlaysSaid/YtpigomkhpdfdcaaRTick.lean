/- The reference's Tick, where a piece is told. -/
import Derived.Test.YtpigomkhpdfdcaaRHelp
import Derived.StillTailTactics
import Derived.Outline
import Derived.Deep.RegionLaw
import Derived.Deep.CutRange
set_option linter.unusedVariables false
namespace Go.Proofs.Ytpigomkhpdfdcaa
open Go.RowKit Go.Deep Go.BigFrame
attribute [local go_sem ↓] Go.wp_at_zero Go.wp_at_succ
/-- What the loop keeps: k bytes are in the piece. -/
def RtRel (WL : World) (g b9 a to' : Nat) (ws : List Int) (u : Int) (v10 : Value) (wr : World) : Prop :=
  ∃ (k : Nat) (A1 : Option Addr) (k1 i : Nat), v10 = .int .i64 i ∧ a + k ≤ i ∧ i ≤ a + k ∧ k ≤ to' ∧ wr.heap[b9]? = some (.cells #[.int .u32 u, .slice A1 k k1] 79 (0, 0)) ∧ wr.ownsRow WL.heap.size 5 1 (.slice A1 k k1) k (((ws.drop a).take k).map (.int .u8)) ∧ WL.grownBy wr (some b9)
set_option maxHeartbeats 3200000 in
set_option maxRecDepth 100000 in
theorem rtick_some (g c a : Nat) (A : Option Addr) (AT : Int) (ws : List Int) (s : St) (mss now : Int) (w : World) (hb : Rb w g A c AT ws a s) (ho : s.Ok) (h : mayB mss = true) (hl : 0 < s.data.length) (ha : s.alarm ≤ now) (ht : s.count < s.tries) (h0 : 0 ≤ now) (h1 : now ≤ 1125899906842624) :
    Calls Try.prog 35 #[.pointer (some ⟨g, 0, none⟩), .int .i64 mss, .int .u64 now] w fun e w' => ∃ v, e = .returned (.tuple #[.agg #[.int .u32 s.una, v], .bool true, .int .i64 0]) ∧
      w'.ownsRow w.heap.size 5 1 v (tickTo s mss) ((s.data.take (tickTo s mss)).map (.int .u8)) ∧ w.grownBy w' (some g) ∧ Rb w' g A c AT ws a (tickSt s mss now) := by
  have hm : 1 ≤ mss ∧ mss ≤ 1500 := by unfold mayB at h; exact of_decide_eq_true h
  obtain ⟨t1, t2⟩ := may_facts h
  have HL := Lib.hid (fun o => rleft_any g c a A AT ws s (w.alloc o) (hb.below ((Below.refl _ _).alloc (Nat.le_refl _) _)))
  have hA : ∀ o, Below w.heap.size w (w.alloc o) := fun o => (Below.refl w.heap.size w).alloc (Nat.le_refl _) o
  have c6 := fun o => ((hA o).cell (p := ⟨g, 6, none⟩) hb.lt).trans hb.c6
  have c7 := fun o => ((hA o).cell (p := ⟨g, 7, none⟩) hb.lt).trans hb.c7
  have c8 := fun o => ((hA o).cell (p := ⟨g, 8, none⟩) hb.lt).trans hb.c8
  have c9 := fun o => ((hA o).cell (p := ⟨g, 9, none⟩) hb.lt).trans hb.c9
  have f7 := fun o => free_of (((hA o).block g hb.lt).trans hb.heap) 7
  have f8 := fun o => free_of (((hA o).block g hb.lt).trans hb.heap) 8
  have f9 := fun o => free_of (((hA o).block g hb.lt).trans hb.heap) 9
  obtain ⟨n, hn⟩ : ∃ n, s.data.length = n := ⟨_, rfl⟩
  rw [hn] at HL hl
  have hz : ((n : Int) == 0) = false := by simp; omega
  obtain ⟨wa, hwa⟩ : ∃ wa, s.wait = wa := ⟨_, rfl⟩
  have hwb := wait_bd s ho
  rw [hwa] at hwb c7
  obtain ⟨al, hal⟩ : ∃ al, s.alarm = al := ⟨_, rfl⟩
  rw [hal] at c8 ha
  obtain ⟨tr, htr⟩ : ∃ tr, s.tries = tr := ⟨_, rfl⟩
  obtain ⟨cn, hcn⟩ : ∃ cn, s.count = cn := ⟨_, rfl⟩
  have htr1 := ho.tries1
  rw [htr] at c6 ht htr1
  rw [hcn] at c9 ht
  have t3 : decide (tr ≤ cn) = false := decide_eq_false (by omega)
  have HB := Lib.hid hb
  have HO := Lib.hid ho
  have HE := Lib.hid (And.intro hwa (And.intro hal (And.intro htr (And.intro hcn hn))))
  have lg := hb.lt
  clear hb ho hwa hal htr hcn hn h hA
  go_enter Try.func35, Try.ntmps35
  go_wp2_with (go_at_call 38; refine (HL.out _).mono ?_; rintro e w' ⟨rfl, n1, rfl⟩)
  go_quiet (fail)
  go_wp2_with fail
  obtain ⟨X, hX⟩ : ∃ X, X = ((w.alloc (Obj.cells #[.int .u32 0, .slice none 0 0] 79)).drewN (n1 + nq)).setCell ⟨g, 9, none⟩ (.int .i64 ((cn : Int) + 1)) := ⟨_, rfl⟩
  rw [← hX]
  have hA2 : Below w.heap.size w ((w.alloc (Obj.cells #[.int .u32 0, .slice none 0 0] 79)).drewN (n1 + nq)) := below_drewN ((Below.refl _ _).alloc (Nat.le_refl _) _) _
  have hXG : w.grownBy X (some g) := by rw [hX]; exact grown_set (grown_below hA2)
  have hXH : X.heap[g]? = some (.cells (rcells AT ws a { s with count := s.count + 1 } A c) 83 (0, 0)) := by
    rw [hX, heap_set (i := 9) ((hA2.block g lg).trans HB.out.heap) (.int .i64 ((cn : Int) + 1)), ← HE.out.2.2.2.1]
    rfl
  have hX6 : X.heap[w.heap.size]? = some (.cells #[.int .u32 0, .slice none 0 0] 79 (0, 0)) := by
    rw [hX, Below.heap_setCell _ _ _ _ (by show w.heap.size ≠ g; omega)]
    exact heap_alloc_new w _
  have hXS : X.heap.size = w.heap.size + 1 := by rw [hX]; simp only [World.setCell, Array.size_modify]; show (w.alloc _).heap.size = _; simp
  have e7 : X.cell? ⟨g, 7, none⟩ = some (.int .u64 wa) := by rw [cell_of hXH, ← HE.out.1]; rfl
  have e8 : X.cell? ⟨g, 8, none⟩ = some (.int .u64 al) := by rw [cell_of hXH, ← HE.out.2.1]; rfl
  have k7 := free_of hXH 7
  have k8 := free_of hXH 8
  have HXG := Lib.hid hXG
  have HXH := Lib.hid hXH
  have HX6 := Lib.hid hX6
  clear hX hA2 hXG hXH hX6 c6 c7 c8 c9 f7 f8 f9
  refine wp_region_tail 12 (by kernel_rfl) (by kernel_rfl) ?_
  simp only [List.take_succ_cons, List.take_zero, List.drop_succ_cons, List.drop_zero]
  repeat still_step
  refine wpStill_nil ?_
  go_upto_region 10 with (fail)
  obtain ⟨X2, hX2⟩ : ∃ X2, X2 = ((X.setCell ⟨g, 7, none⟩ (.int .u64 (wa + wa))).setCell ⟨g, 8, none⟩ (.int .u64 (now + (wa + wa)))).drew := ⟨_, rfl⟩
  rw [← hX2]
  obtain ⟨s1, hs1⟩ : ∃ s1 : St, s1 = { s with count := s.count + 1, wait := s.wait * 2, alarm := now + s.wait * 2 } := ⟨_, rfl⟩
  have hg2 : w.grownBy X2 (some g) := by rw [hX2]; exact grown_drew (grown_set (grown_set HXG.out))
  have hh2 : X2.heap[g]? = some (.cells (rcells AT ws a s1 A c) 83 (0, 0)) := by
    rw [hX2]
    refine Eq.trans (heap_set (i := 8) (heap_set (i := 7) HXH.out (.int .u64 (wa + wa))) (.int .u64 (now + (wa + wa)))) ?_
    have e1 : wa + wa = s.wait * 2 := by rw [HE.out.1]; omega
    rw [e1, hs1]
    rfl
  have hrb := HB.out.upd (s' := s1) hg2 hh2 (by rw [hs1]; exact HB.out.data) (by rw [hs1]; exact HB.out.una) HB.out.le
  have h62 : X2.heap[w.heap.size]? = some (.cells #[.int .u32 0, .slice none 0 0] 79 (0, 0)) := by
    rw [hX2]
    refine (Below.heap_setCell _ _ _ _ (by show w.heap.size ≠ g; omega)).trans ((Below.heap_setCell _ _ _ _ (by show w.heap.size ≠ g; omega)).trans HX6.out)
  have hs2 : X2.heap.size = w.heap.size + 1 := by rw [hX2, ← hXS]; show (World.setCell _ _ _).heap.size = _; simp only [World.setCell, Array.size_modify]
  have HRB := Lib.hid hrb
  have HG2 := Lib.hid hg2
  have H62 := Lib.hid h62
  have HUNA := Lib.hid (runa_any g c a A AT ws s1 X2 hrb)
  have hu1 : s1.una = s.una := by rw [hs1]
  rw [hu1] at HUNA
  obtain ⟨u, hu⟩ : ∃ u, s.una = u := ⟨_, rfl⟩
  rw [hu] at HUNA
  have HS1 := Lib.hid hs1
  have HUU := Lib.hid hu
  have c2 := fun o => (((Below.refl X2.heap.size X2).alloc (Nat.le_refl _) o).cell (p := ⟨g, 2, none⟩) hrb.lt).trans hrb.c2
  clear hX2 hg2 hh2 hrb h62 hu1 hu hs1 e7 e8 k7 k8 HXG HXH HX6 hXS
  go_wp2_with fail
  refine HUNA.out.mono ?_
  rintro e w' ⟨rfl, rfl⟩
  go_wp2_with fail
  obtain ⟨b9, hb9'⟩ : ∃ b9, w.heap.size + 1 = b9 := ⟨_, rfl⟩
  have hb9 : X2.heap.size = b9 := hs2.trans hb9'
  have hb91 : w.heap.size + 1 ≤ b9 := by omega
  have hb92 : b9 ≤ w.heap.size + 1 := by omega
  obtain ⟨WL, hWL⟩ : ∃ WL, WL = X2.alloc (Obj.cells #[.int .u32 u, .slice none 0 0] 79) := ⟨_, rfl⟩
  rw [← hWL, hb9']
  have hBL : Below X2.heap.size X2 WL := by rw [hWL]; exact (Below.refl _ _).alloc (Nat.le_refl _) _
  have h9 : WL.heap[b9]? = some (.cells #[.int .u32 u, .slice none 0 0] 79 (0, 0)) := by rw [hWL, ← hb9]; exact heap_alloc_new X2 _
  have hWS : WL.heap.size = b9 + 1 := by rw [hWL, ← hb9]; simp
  obtain ⟨tt, htt⟩ : ∃ tt, tickTo s mss = tt := ⟨_, rfl⟩
  obtain ⟨wv, hwv⟩ : ∃ wv, s.win = wv := ⟨_, rfl⟩
  have hwv0 := HO.out.win0
  have hwv1 := HO.out.win1
  obtain ⟨nn, hnn⟩ : ∃ nn, ws.length = nn := ⟨_, rfl⟩
  have hdl := HB.out.dlen
  have hn5 := HB.out.n
  have hsn := HE.out.2.2.2.2
  rw [hsn, hnn] at hdl
  rw [hnn] at hn5
  rw [hwv] at hwv0 hwv1
  have hmore : ∀ k : Nat, k < tt ↔ k < n ∧ (k : Int) < mss ∧ ((k : Int) < wv ∨ k = 0) := by
    intro k
    rw [← htt]
    unfold tickTo
    rw [hsn, hwv]
    omega
  have htn : 1 ≤ tt ∧ tt ≤ n := by rw [← htt]; unfold tickTo; rw [hsn]; omega
  have HRL := Lib.hid (HRB.out.below hBL)
  have HTT := Lib.hid htt
  have HWV := Lib.hid hwv
  have HNN := Lib.hid hnn
  have HMO := Lib.hid hmore
  have HBL := Lib.hid hBL
  have lgx := HRB.out.lt
  have h9' := Lib.hid h9
  clear hWL hb9 hb9' hs2 hBL h9 htt hwv hnn hsn hmore c2
  go_loopw [10] (fun v10 wr => RtRel WL g b9 a tt ws u v10 wr) (fun v10 _ => nn - (intOf v10).toNat)
  case atStart => exact ⟨0, none, 0, a, rfl, by omega, by omega, by omega, h9'.out, World.ownsRow_nil _ _ _ _, World.grownBy.refl _ _⟩
  case round =>
    obtain ⟨k, A1, k1, i, rfl, i0, i1, ktt, hh9, hown, hgr⟩ := hrel
    have lg9 : g < b9 := by omega
    have hbyw := HRL.out.byt.keep hgr (HRL.out.byt.offG h9'.out (by intro i x; match i with | 0 | 1 => simp | n + 2 => simp))
    rw [HNN.out] at hbyw
    have HBYW := Lib.hid hbyw
    clear hbyw
    have hgh := (hgr.block g HRL.out.lt (by intro e; injection e; omega)).trans HRL.out.heap
    have p0 : wr.cell? ⟨b9, 0, none⟩ = some (.int .u32 u) := cell_of hh9 0
    have p1 : wr.cell? ⟨b9, 1, none⟩ = some (.slice A1 k k1) := cell_of hh9 1
    have q1 := free_of hh9 1
    have c0 : wr.cell? ⟨g, 0, none⟩ = some (.slice A nn c) := by rw [cell_of hgh, ← HNN.out]; rfl
    have c2 : wr.cell? ⟨g, 2, none⟩ = some (.int .i64 a) := cell_of hgh 2
    have c4 : wr.cell? ⟨g, 4, none⟩ = some (.int .u32 wv) := by rw [cell_of hgh, ← HWV.out, HS1.out]; rfl
    have HGH := Lib.hid hgh
    have HH9 := Lib.hid hh9
    have HOWN := Lib.hid hown
    have HGR := Lib.hid hgr
    have hw4 : IntKind.i64.wrap wv = wv := IntWalk.i64_in _ (by omega)
    by_cases hk : k < tt
    · obtain ⟨m1, m2, m3⟩ := (HMO.out k).1 hk
      have d1 : decide (i < nn) = true := decide_eq_true (by omega)
      have d2 : decide ((k : Int) < mss) = true := decide_eq_true m2
      clear hgh hh9 hown hgr
      by_cases hw : (k : Int) < wv
      · have d3 : decide ((k : Int) < wv) = true := decide_eq_true hw
        obtain ⟨b, o', rfl, hbl, hcell⟩ := HBYW.out.get (i := i) (by omega)
        have hbw : b < w.heap.size := by
          obtain ⟨b', o2, e, hl', _⟩ := HB.out.byt.get (i := i) (by rw [HNN.out]; omega)
          cases e
          exact hl'
        obtain ⟨v, hv⟩ : ∃ v, ws.getD i 0 = v := ⟨_, rfl⟩
        rw [hv] at hcell
        have HV := Lib.hid hv
        clear m3 hv
        go_wp2_with fail
        go_quiet (fail)
        go_wp2_with fail
        obtain ⟨Y, hY⟩ : ∃ Y, Y = wr.drewN nq := ⟨_, rfl⟩
        rw [← hY]
        have hYB : Below wr.heap.size wr Y := by rw [hY]; exact below_drewN (Below.refl _ _) _
        have y1 : Y.drew.cell? ⟨b9, 1, none⟩ = some (.slice A1 k k1) := by rw [hY]; exact p1
        have y0 : Y.drew.cell? ⟨g, 0, none⟩ = some (.slice (some ⟨b, o', none⟩) nn c) := by rw [hY]; exact c0
        have yc : Y.drew.cell? ⟨b, o' + i, none⟩ = some (.int .u8 v) := by rw [hY]; exact hcell
        have hys : Y.heap.size = wr.heap.size := by rw [hY]; rfl
        have hok : Y.drew.ownsRow WL.heap.size 5 1 (.slice A1 k k1) k (((ws.drop a).take k).map (.int .u8)) := by rw [hY]; exact HOWN.out
        obtain ⟨v2, w2, hr, ho2, hg2⟩ := run_append_byt (w := Y.drew.alloc (Obj.cells #[.int .u8 v] 5)) WL.heap.size (.slice A1 k k1) k _ (hok.alloc _) (some ⟨Y.drew.heap.size, 0, none⟩) 1 1 [v] rfl (Byt.const Y.drew [v] 1 (0, 0) rfl (by simp [maxLen])) (by omega) (by have := HGR.out.size; simp; omega)
        have hown1 := fun z hz => (hok.lt z hz).1
        have hnb : ∀ {z : Nat}, z < WL.heap.size → some z ≠ (Value.slice A1 k k1).ownBlock := fun hz e => by have := hown1 _ e.symm; omega
        have hgY : Y.drew.grownBy w2 (Value.slice A1 k k1).ownBlock := grown_trans (World.grownBy_alloc _ _ _) hg2
        have z1 := hgY.cell y1 (hnb (show b9 < _ by omega))
        have z0 := hgY.cell y0 (hnb (show g < _ by omega))
        have zc := hgY.cell yc (hnb (show b < _ by omega))
        have zf : w2.frozen? ⟨b9, 1, none⟩ = false := free_of ((hgY.block b9 (by show b9 < Y.heap.size; rw [hys]; exact (Array.getElem?_eq_some_iff.1 HH9.out).1) (hnb (by omega))).trans (by show Y.heap[b9]? = _; rw [hY]; exact HH9.out)) 1
        obtain ⟨A2, k2, hv2⟩ := own_len ho2
        subst hv2
        have HR := Lib.hid hr
        have HO2 := Lib.hid ho2
        have HGY := Lib.hid hgY
        have HYE := Lib.hid hY
        clear hY hr ho2 hg2 hgY hok hown1 hys
        have x1 : ∀ o, (Y.alloc o).drew.cell? ⟨b9, 1, none⟩ = some (.slice A1 k k1) := fun o => (World.cell?_alloc_lt Y o _ (World.block_lt_of_cell? Y.drew _ y1)).trans y1
        have x0 : ∀ o, (Y.alloc o).drew.cell? ⟨g, 0, none⟩ = some (.slice (some ⟨b, o', none⟩) nn c) := fun o => (World.cell?_alloc_lt Y o _ (World.block_lt_of_cell? Y.drew _ y0)).trans y0
        have xc : ∀ o, (Y.alloc o).drew.cell? ⟨b, o' + i, none⟩ = some (.int .u8 v) := fun o => (World.cell?_alloc_lt Y o _ (World.block_lt_of_cell? Y.drew _ yc)).trans yc
        have ib0 : (0 : Int) ≤ (i : Int) := by omega
        have ib1 : (i : Int) < (nn : Int) := by omega
        go_region_law (first | (refine step_append_run rfl _ _ 34 34 rfl _ _ rfl rfl _ _ (by exact HR.out) ?_))
        all_goals
          go_wp2_with fail
          refine ⟨⟨k + 1, A2, k2, i + 1, by simp, by omega, by omega, by omega, ?_, ?_, ?_⟩, by simp [intOf]; omega⟩
          · exact heap_set ((HGY.out.block b9 (by rw [HYE.out]; exact (Array.getElem?_eq_some_iff.1 HH9.out).1) (fun e => by have := (HOWN.out.lt _ e.symm).1; omega)).trans (by rw [HYE.out]; exact HH9.out)) _
          · have h1 := HO2.out
            rw [← List.map_append, ← HV.out, take_one ws a k i i0 i1 (by rw [HNN.out]; omega)] at h1
            exact kept_row h1 (grown_setCell _ _ _ _) (by intro z hz; cases hz; omega)
          · refine grown_set (grown_new2 HGR.out (show wr.grownBy w2 _ from (by have h1 := HGY.out; rw [HYE.out] at h1; exact ⟨h1.os, h1.tape, h1.output, h1.size, h1.block⟩)) (fun z hz => (HOWN.out.lt z hz).1))
      · have d3 : decide ((k : Int) < wv) = false := decide_eq_false hw
        have d4 : ((k : Int) == 0) = true := by simp; omega
        obtain ⟨b, o', rfl, hbl, hcell⟩ := HBYW.out.get (i := i) (by omega)
        have hbw : b < w.heap.size := by
          obtain ⟨b', o2, e, hl', _⟩ := HB.out.byt.get (i := i) (by rw [HNN.out]; omega)
          cases e
          exact hl'
        obtain ⟨v, hv⟩ : ∃ v, ws.getD i 0 = v := ⟨_, rfl⟩
        rw [hv] at hcell
        have HV := Lib.hid hv
        clear m3 hv
        go_wp2_with fail
        go_quiet (fail)
        go_wp2_with fail
        obtain ⟨Y, hY⟩ : ∃ Y, Y = wr.drewN nq := ⟨_, rfl⟩
        rw [← hY]
        have hYB : Below wr.heap.size wr Y := by rw [hY]; exact below_drewN (Below.refl _ _) _
        have y1 : Y.drew.cell? ⟨b9, 1, none⟩ = some (.slice A1 k k1) := by rw [hY]; exact p1
        have y0 : Y.drew.cell? ⟨g, 0, none⟩ = some (.slice (some ⟨b, o', none⟩) nn c) := by rw [hY]; exact c0
        have yc : Y.drew.cell? ⟨b, o' + i, none⟩ = some (.int .u8 v) := by rw [hY]; exact hcell
        have hys : Y.heap.size = wr.heap.size := by rw [hY]; rfl
        have hok : Y.drew.ownsRow WL.heap.size 5 1 (.slice A1 k k1) k (((ws.drop a).take k).map (.int .u8)) := by rw [hY]; exact HOWN.out
        obtain ⟨v2, w2, hr, ho2, hg2⟩ := run_append_byt (w := Y.drew.alloc (Obj.cells #[.int .u8 v] 5)) WL.heap.size (.slice A1 k k1) k _ (hok.alloc _) (some ⟨Y.drew.heap.size, 0, none⟩) 1 1 [v] rfl (Byt.const Y.drew [v] 1 (0, 0) rfl (by simp [maxLen])) (by omega) (by have := HGR.out.size; simp; omega)
        have hown1 := fun z hz => (hok.lt z hz).1
        have hnb : ∀ {z : Nat}, z < WL.heap.size → some z ≠ (Value.slice A1 k k1).ownBlock := fun hz e => by have := hown1 _ e.symm; omega
        have hgY : Y.drew.grownBy w2 (Value.slice A1 k k1).ownBlock := grown_trans (World.grownBy_alloc _ _ _) hg2
        have z1 := hgY.cell y1 (hnb (show b9 < _ by omega))
        have z0 := hgY.cell y0 (hnb (show g < _ by omega))
        have zc := hgY.cell yc (hnb (show b < _ by omega))
        have zf : w2.frozen? ⟨b9, 1, none⟩ = false := free_of ((hgY.block b9 (by show b9 < Y.heap.size; rw [hys]; exact (Array.getElem?_eq_some_iff.1 HH9.out).1) (hnb (by omega))).trans (by show Y.heap[b9]? = _; rw [hY]; exact HH9.out)) 1
        obtain ⟨A2, k2, hv2⟩ := own_len ho2
        subst hv2
        have HR := Lib.hid hr
        have HO2 := Lib.hid ho2
        have HGY := Lib.hid hgY
        have HYE := Lib.hid hY
        clear hY hr ho2 hg2 hgY hok hown1 hys
        have x1 : ∀ o, (Y.alloc o).drew.cell? ⟨b9, 1, none⟩ = some (.slice A1 k k1) := fun o => (World.cell?_alloc_lt Y o _ (World.block_lt_of_cell? Y.drew _ y1)).trans y1
        have x0 : ∀ o, (Y.alloc o).drew.cell? ⟨g, 0, none⟩ = some (.slice (some ⟨b, o', none⟩) nn c) := fun o => (World.cell?_alloc_lt Y o _ (World.block_lt_of_cell? Y.drew _ y0)).trans y0
        have xc : ∀ o, (Y.alloc o).drew.cell? ⟨b, o' + i, none⟩ = some (.int .u8 v) := fun o => (World.cell?_alloc_lt Y o _ (World.block_lt_of_cell? Y.drew _ yc)).trans yc
        have ib0 : (0 : Int) ≤ (i : Int) := by omega
        have ib1 : (i : Int) < (nn : Int) := by omega
        go_region_law (first | (refine step_append_run rfl _ _ 34 34 rfl _ _ rfl rfl _ _ (by exact HR.out) ?_))
        all_goals
          go_wp2_with fail
          refine ⟨⟨k + 1, A2, k2, i + 1, by simp, by omega, by omega, by omega, ?_, ?_, ?_⟩, by simp [intOf]; omega⟩
          · exact heap_set ((HGY.out.block b9 (by rw [HYE.out]; exact (Array.getElem?_eq_some_iff.1 HH9.out).1) (fun e => by have := (HOWN.out.lt _ e.symm).1; omega)).trans (by rw [HYE.out]; exact HH9.out)) _
          · have h1 := HO2.out
            rw [← List.map_append, ← HV.out, take_one ws a k i i0 i1 (by rw [HNN.out]; omega)] at h1
            exact kept_row h1 (grown_setCell _ _ _ _) (by intro z hz; cases hz; omega)
          · refine grown_set (grown_new2 HGR.out (show wr.grownBy w2 _ from (by have h1 := HGY.out; rw [HYE.out] at h1; exact ⟨h1.os, h1.tape, h1.output, h1.size, h1.block⟩)) (fun z hz => (HOWN.out.lt z hz).1))
    · obtain rfl : tt = k := by omega
      have hcase := (HMO.out tt).2
      have d4 : ((tt : Int) == 0) = false := by simp; omega
      clear hgh hh9 hown hgr
      by_cases e1 : tt < n
      · have d1 : decide (i < nn) = true := decide_eq_true (by omega)
        by_cases e2 : (tt : Int) < mss
        · have d2 : decide ((tt : Int) < mss) = true := decide_eq_true e2
          have d3 : decide ((tt : Int) < wv) = false := decide_eq_false (fun h => by have := hcase ⟨e1, e2, .inl h⟩; omega)
          clear hcase
          go_wp2_with fail
          go_quiet (fail)
          go_wp2_with fail
          obtain ⟨Z, hZ⟩ : ∃ Z, Z = wr.drewN nq := ⟨_, rfl⟩
          rw [← hZ]
          have HGZ : Hid (WL.grownBy Z (some b9)) := Lib.hid (by rw [hZ]; exact grown_drewN HGR.out)
          have HHZ : Hid (Z.heap[g]? = some (.cells (rcells AT ws a s1 A c) 83 (0, 0))) := Lib.hid (by rw [hZ]; exact HGH.out)
          have HH9Z : Hid (Z.heap[b9]? = some (.cells #[.int .u32 u, .slice A1 tt k1] 79 (0, 0))) := Lib.hid (by rw [hZ]; exact HH9.out)
          have HH6Z : Hid (Z.heap[w.heap.size]? = some (.cells #[.int .u32 0, .slice none 0 0] 79 (0, 0))) := Lib.hid ((HGZ.out.block w.heap.size (by omega) (by intro e; injection e; omega)).trans ((HBL.out.block w.heap.size (Array.getElem?_eq_some_iff.1 H62.out).1).trans H62.out))
          have m0 : Z.cell? ⟨w.heap.size, 0, none⟩ = some (.int .u32 0) := cell_of HH6Z.out 0
          have m1 : Z.cell? ⟨w.heap.size, 1, none⟩ = some (.slice none 0 0) := cell_of HH6Z.out 1
          have mf0 := free_of HH6Z.out 0
          have mf1 := free_of HH6Z.out 1
          have HOZ : Hid (Z.ownsRow WL.heap.size 5 1 (.slice A1 tt k1) tt (((ws.drop a).take tt).map (.int .u8))) := Lib.hid (by rw [hZ]; exact HOWN.out)
          obtain ⟨st, hst⟩ : ∃ st, a + s.sent = st := ⟨_, rfl⟩
          have y2 : Z.cell? ⟨g, 2, none⟩ = some (.int .i64 a) := cell_of HHZ.out 2
          have y3 : Z.cell? ⟨g, 3, none⟩ = some (.int .i64 st) := by rw [cell_of HHZ.out, ← hst, HS1.out]; rfl
          have y0 : Z.cell? ⟨b9, 0, none⟩ = some (.int .u32 u) := cell_of HH9Z.out 0
          have y1 : Z.cell? ⟨b9, 1, none⟩ = some (.slice A1 tt k1) := cell_of HH9Z.out 1
          have yf := free_of HHZ.out 3
          have hw5 : IntKind.i64.wrap ((a : Int) + (tt : Int)) = (a : Int) + (tt : Int) := IntWalk.i64_in _ (by omega)
          have HGW : Hid (w.grownBy Z (some g)) := Lib.hid (grown_new2 (grown_trans HG2.out (grown_below HBL.out)) HGZ.out (by intro z hz; cases hz; omega))
          have HSTT := Lib.hid hst
          have hst5 : a ≤ st := by omega
          clear hZ hst p0 p1 c0 c2 c4
          by_cases hs : st < a + tt
          · have d5 : decide ((st : Int) < (a : Int) + (tt : Int)) = true := decide_eq_true (by omega)
            go_quiet (fail)
            go_wp2_with fail
            refine wp_region_tail 11 (by kernel_rfl) (by kernel_rfl) ?_
            simp only [List.take_succ_cons, List.take_zero, List.drop_succ_cons, List.drop_zero]
            repeat still_step
            refine wpStill_nil ?_
            go_upto_region 17 with (fail)
            obtain ⟨Z2, hZ2⟩ : ∃ Z2, Z2 = (Z.drewN (nq + 1)).setCell ⟨g, 3, none⟩ (.int .i64 ((a : Int) + (tt : Int))) := ⟨_, rfl⟩
            rw [← hZ2]
            have HGF : Hid (w.grownBy Z2 (some g)) := Lib.hid (by rw [hZ2]; exact grown_set (grown_drewN HGW.out))
            have HHF : Hid (Z2.heap[g]? = some (.cells (rcells AT ws a (tickSt s mss now) A c) 83 (0, 0))) := Lib.hid (by
              rw [hZ2]
              refine Eq.trans (heap_set (i := 3) (show (Z.drewN (nq + 1)).heap[g]? = _ from HHZ.out) (.int .i64 ((a : Int) + (tt : Int)))) ?_
              have e1 : max s.sent tt = tt := by have := HSTT.out; omega
              have e2 : (tickSt s mss now).sent = tt := by show max s.sent (tickTo s mss) = _; rw [HTT.out, e1]
              unfold rcells
              rw [e2, HS1.out]
              rfl)
            have HOF : Hid (Z2.ownsRow WL.heap.size 5 1 (.slice A1 tt k1) tt (((ws.drop a).take tt).map (.int .u8))) := Lib.hid (by
              rw [hZ2]
              exact kept_row (show (Z.drewN (nq + 1)).ownsRow _ _ _ _ _ _ from HOZ.out) (grown_setCell _ _ _ _) (by intro z hz; cases hz; omega))
            have HH6 : Hid (Z2.heap[w.heap.size]? = some (.cells #[.int .u32 0, .slice none 0 0] 79 (0, 0))) := Lib.hid (by rw [hZ2]; exact (Below.heap_setCell _ _ _ _ (by show w.heap.size ≠ g; omega)).trans HH6Z.out)
            have HH9F : Hid (Z2.heap[b9]? = some (.cells #[.int .u32 u, .slice A1 tt k1] 79 (0, 0))) := Lib.hid (by rw [hZ2]; exact (Below.heap_setCell _ _ _ _ (by show b9 ≠ g; omega)).trans HH9Z.out)
            have n0 : Z2.cell? ⟨w.heap.size, 0, none⟩ = some (.int .u32 0) := cell_of HH6.out 0
            have n1 : Z2.cell? ⟨w.heap.size, 1, none⟩ = some (.slice none 0 0) := cell_of HH6.out 1
            have nf0 := free_of HH6.out 0
            have nf1 := free_of HH6.out 1
            have z0 : Z2.cell? ⟨b9, 0, none⟩ = some (.int .u32 u) := cell_of HH9F.out 0
            have z1 : Z2.cell? ⟨b9, 1, none⟩ = some (.slice A1 tt k1) := cell_of HH9F.out 1
            clear y0 y1 y2 y3 yf m0 m1 mf0 mf1 hZ2
            go_wp2_with fail
            refine bodyPost_ret (v := .tuple #[.agg #[.int .u32 u, .slice A1 tt k1], .bool true, .int .i64 0]) (by simp [results, Try.results35, go_sem, n0, n1]) rfl ?_
            have hd : s.data = ws.drop a := HB.out.data
            have hgF := grown_set_new (p := ⟨w.heap.size, 1, none⟩) (u := .slice A1 tt k1) (grown_set_new (p := ⟨w.heap.size, 0, none⟩) (u := .int .u32 u) HGF.out (Nat.le_refl _)) (Nat.le_refl _)
            refine ⟨_, by rw [HUU.out], ?_, hgF, ?_⟩
            · rw [HTT.out, hd]
              exact (kept_row (kept_row HOF.out (grown_setCell _ _ _ _) (by intro z hz; cases hz; omega)) (grown_setCell _ _ _ _) (by intro z hz; cases hz; omega)).lower (by omega)
            · refine HB.out.upd (s' := tickSt s mss now) hgF ?_ hd HB.out.una HB.out.le
              rw [Below.heap_setCell _ _ _ _ (by show g ≠ w.heap.size; omega), Below.heap_setCell _ _ _ _ (by show g ≠ w.heap.size; omega)]
              exact HHF.out
          · have d5 : decide ((st : Int) < (a : Int) + (tt : Int)) = false := decide_eq_false (by omega)
            go_quiet (fail)
            obtain ⟨Z2, hZ2⟩ : ∃ Z2, Z2 = Z.drewN nq := ⟨_, rfl⟩
            rw [← hZ2]
            have HGF : Hid (w.grownBy Z2 (some g)) := Lib.hid (by rw [hZ2]; exact grown_drewN HGW.out)
            have HHF : Hid (Z2.heap[g]? = some (.cells (rcells AT ws a (tickSt s mss now) A c) 83 (0, 0))) := Lib.hid (by
              rw [hZ2]
              refine Eq.trans (show (Z.drewN nq).heap[g]? = _ from HHZ.out) ?_
              have e1 : max s.sent tt = s.sent := by have := HSTT.out; omega
              have e2 : (tickSt s mss now).sent = s.sent := by show max s.sent (tickTo s mss) = _; rw [HTT.out, e1]
              unfold rcells
              rw [e2, HS1.out]
              rfl)
            have HOF : Hid (Z2.ownsRow WL.heap.size 5 1 (.slice A1 tt k1) tt (((ws.drop a).take tt).map (.int .u8))) := Lib.hid (by rw [hZ2]; exact HOZ.out)
            have HH6 : Hid (Z2.heap[w.heap.size]? = some (.cells #[.int .u32 0, .slice none 0 0] 79 (0, 0))) := Lib.hid (by rw [hZ2]; exact HH6Z.out)
            have HH9F : Hid (Z2.heap[b9]? = some (.cells #[.int .u32 u, .slice A1 tt k1] 79 (0, 0))) := Lib.hid (by rw [hZ2]; exact HH9Z.out)
            have n0 : Z2.cell? ⟨w.heap.size, 0, none⟩ = some (.int .u32 0) := cell_of HH6.out 0
            have n1 : Z2.cell? ⟨w.heap.size, 1, none⟩ = some (.slice none 0 0) := cell_of HH6.out 1
            have nf0 := free_of HH6.out 0
            have nf1 := free_of HH6.out 1
            have z0 : Z2.cell? ⟨b9, 0, none⟩ = some (.int .u32 u) := cell_of HH9F.out 0
            have z1 : Z2.cell? ⟨b9, 1, none⟩ = some (.slice A1 tt k1) := cell_of HH9F.out 1
            clear y0 y1 y2 y3 yf m0 m1 mf0 mf1 hZ2
            go_wp2_with fail
            refine bodyPost_ret (v := .tuple #[.agg #[.int .u32 u, .slice A1 tt k1], .bool true, .int .i64 0]) (by simp [results, Try.results35, go_sem, n0, n1]) rfl ?_
            have hd : s.data = ws.drop a := HB.out.data
            have hgF := grown_set_new (p := ⟨w.heap.size, 1, none⟩) (u := .slice A1 tt k1) (grown_set_new (p := ⟨w.heap.size, 0, none⟩) (u := .int .u32 u) HGF.out (Nat.le_refl _)) (Nat.le_refl _)
            refine ⟨_, by rw [HUU.out], ?_, hgF, ?_⟩
            · rw [HTT.out, hd]
              exact (kept_row (kept_row HOF.out (grown_setCell _ _ _ _) (by intro z hz; cases hz; omega)) (grown_setCell _ _ _ _) (by intro z hz; cases hz; omega)).lower (by omega)
            · refine HB.out.upd (s' := tickSt s mss now) hgF ?_ hd HB.out.una HB.out.le
              rw [Below.heap_setCell _ _ _ _ (by show g ≠ w.heap.size; omega), Below.heap_setCell _ _ _ _ (by show g ≠ w.heap.size; omega)]
              exact HHF.out
        · have d2 : decide ((tt : Int) < mss) = false := decide_eq_false e2
          clear hcase
          go_wp2_with fail
          go_quiet (fail)
          go_wp2_with fail
          obtain ⟨Z, hZ⟩ : ∃ Z, Z = wr.drewN nq := ⟨_, rfl⟩
          rw [← hZ]
          have HGZ : Hid (WL.grownBy Z (some b9)) := Lib.hid (by rw [hZ]; exact grown_drewN HGR.out)
          have HHZ : Hid (Z.heap[g]? = some (.cells (rcells AT ws a s1 A c) 83 (0, 0))) := Lib.hid (by rw [hZ]; exact HGH.out)
          have HH9Z : Hid (Z.heap[b9]? = some (.cells #[.int .u32 u, .slice A1 tt k1] 79 (0, 0))) := Lib.hid (by rw [hZ]; exact HH9.out)
          have HH6Z : Hid (Z.heap[w.heap.size]? = some (.cells #[.int .u32 0, .slice none 0 0] 79 (0, 0))) := Lib.hid ((HGZ.out.block w.heap.size (by omega) (by intro e; injection e; omega)).trans ((HBL.out.block w.heap.size (Array.getElem?_eq_some_iff.1 H62.out).1).trans H62.out))
          have m0 : Z.cell? ⟨w.heap.size, 0, none⟩ = some (.int .u32 0) := cell_of HH6Z.out 0
          have m1 : Z.cell? ⟨w.heap.size, 1, none⟩ = some (.slice none 0 0) := cell_of HH6Z.out 1
          have mf0 := free_of HH6Z.out 0
          have mf1 := free_of HH6Z.out 1
          have HOZ : Hid (Z.ownsRow WL.heap.size 5 1 (.slice A1 tt k1) tt (((ws.drop a).take tt).map (.int .u8))) := Lib.hid (by rw [hZ]; exact HOWN.out)
          obtain ⟨st, hst⟩ : ∃ st, a + s.sent = st := ⟨_, rfl⟩
          have y2 : Z.cell? ⟨g, 2, none⟩ = some (.int .i64 a) := cell_of HHZ.out 2
          have y3 : Z.cell? ⟨g, 3, none⟩ = some (.int .i64 st) := by rw [cell_of HHZ.out, ← hst, HS1.out]; rfl
          have y0 : Z.cell? ⟨b9, 0, none⟩ = some (.int .u32 u) := cell_of HH9Z.out 0
          have y1 : Z.cell? ⟨b9, 1, none⟩ = some (.slice A1 tt k1) := cell_of HH9Z.out 1
          have yf := free_of HHZ.out 3
          have hw5 : IntKind.i64.wrap ((a : Int) + (tt : Int)) = (a : Int) + (tt : Int) := IntWalk.i64_in _ (by omega)
          have HGW : Hid (w.grownBy Z (some g)) := Lib.hid (grown_new2 (grown_trans HG2.out (grown_below HBL.out)) HGZ.out (by intro z hz; cases hz; omega))
          have HSTT := Lib.hid hst
          have hst5 : a ≤ st := by omega
          clear hZ hst p0 p1 c0 c2 c4
          by_cases hs : st < a + tt
          · have d5 : decide ((st : Int) < (a : Int) + (tt : Int)) = true := decide_eq_true (by omega)
            go_quiet (fail)
            go_wp2_with fail
            refine wp_region_tail 11 (by kernel_rfl) (by kernel_rfl) ?_
            simp only [List.take_succ_cons, List.take_zero, List.drop_succ_cons, List.drop_zero]
            repeat still_step
            refine wpStill_nil ?_
            go_upto_region 17 with (fail)
            obtain ⟨Z2, hZ2⟩ : ∃ Z2, Z2 = (Z.drewN (nq + 1)).setCell ⟨g, 3, none⟩ (.int .i64 ((a : Int) + (tt : Int))) := ⟨_, rfl⟩
            rw [← hZ2]
            have HGF : Hid (w.grownBy Z2 (some g)) := Lib.hid (by rw [hZ2]; exact grown_set (grown_drewN HGW.out))
            have HHF : Hid (Z2.heap[g]? = some (.cells (rcells AT ws a (tickSt s mss now) A c) 83 (0, 0))) := Lib.hid (by
              rw [hZ2]
              refine Eq.trans (heap_set (i := 3) (show (Z.drewN (nq + 1)).heap[g]? = _ from HHZ.out) (.int .i64 ((a : Int) + (tt : Int)))) ?_
              have e1 : max s.sent tt = tt := by have := HSTT.out; omega
              have e2 : (tickSt s mss now).sent = tt := by show max s.sent (tickTo s mss) = _; rw [HTT.out, e1]
              unfold rcells
              rw [e2, HS1.out]
              rfl)
            have HOF : Hid (Z2.ownsRow WL.heap.size 5 1 (.slice A1 tt k1) tt (((ws.drop a).take tt).map (.int .u8))) := Lib.hid (by
              rw [hZ2]
              exact kept_row (show (Z.drewN (nq + 1)).ownsRow _ _ _ _ _ _ from HOZ.out) (grown_setCell _ _ _ _) (by intro z hz; cases hz; omega))
            have HH6 : Hid (Z2.heap[w.heap.size]? = some (.cells #[.int .u32 0, .slice none 0 0] 79 (0, 0))) := Lib.hid (by rw [hZ2]; exact (Below.heap_setCell _ _ _ _ (by show w.heap.size ≠ g; omega)).trans HH6Z.out)
            have HH9F : Hid (Z2.heap[b9]? = some (.cells #[.int .u32 u, .slice A1 tt k1] 79 (0, 0))) := Lib.hid (by rw [hZ2]; exact (Below.heap_setCell _ _ _ _ (by show b9 ≠ g; omega)).trans HH9Z.out)
            have n0 : Z2.cell? ⟨w.heap.size, 0, none⟩ = some (.int .u32 0) := cell_of HH6.out 0
            have n1 : Z2.cell? ⟨w.heap.size, 1, none⟩ = some (.slice none 0 0) := cell_of HH6.out 1
            have nf0 := free_of HH6.out 0
            have nf1 := free_of HH6.out 1
            have z0 : Z2.cell? ⟨b9, 0, none⟩ = some (.int .u32 u) := cell_of HH9F.out 0
            have z1 : Z2.cell? ⟨b9, 1, none⟩ = some (.slice A1 tt k1) := cell_of HH9F.out 1
            clear y0 y1 y2 y3 yf m0 m1 mf0 mf1 hZ2
            go_wp2_with fail
            refine bodyPost_ret (v := .tuple #[.agg #[.int .u32 u, .slice A1 tt k1], .bool true, .int .i64 0]) (by simp [results, Try.results35, go_sem, n0, n1]) rfl ?_
            have hd : s.data = ws.drop a := HB.out.data
            have hgF := grown_set_new (p := ⟨w.heap.size, 1, none⟩) (u := .slice A1 tt k1) (grown_set_new (p := ⟨w.heap.size, 0, none⟩) (u := .int .u32 u) HGF.out (Nat.le_refl _)) (Nat.le_refl _)
            refine ⟨_, by rw [HUU.out], ?_, hgF, ?_⟩
            · rw [HTT.out, hd]
              exact (kept_row (kept_row HOF.out (grown_setCell _ _ _ _) (by intro z hz; cases hz; omega)) (grown_setCell _ _ _ _) (by intro z hz; cases hz; omega)).lower (by omega)
            · refine HB.out.upd (s' := tickSt s mss now) hgF ?_ hd HB.out.una HB.out.le
              rw [Below.heap_setCell _ _ _ _ (by show g ≠ w.heap.size; omega), Below.heap_setCell _ _ _ _ (by show g ≠ w.heap.size; omega)]
              exact HHF.out
          · have d5 : decide ((st : Int) < (a : Int) + (tt : Int)) = false := decide_eq_false (by omega)
            go_quiet (fail)
            obtain ⟨Z2, hZ2⟩ : ∃ Z2, Z2 = Z.drewN nq := ⟨_, rfl⟩
            rw [← hZ2]
            have HGF : Hid (w.grownBy Z2 (some g)) := Lib.hid (by rw [hZ2]; exact grown_drewN HGW.out)
            have HHF : Hid (Z2.heap[g]? = some (.cells (rcells AT ws a (tickSt s mss now) A c) 83 (0, 0))) := Lib.hid (by
              rw [hZ2]
              refine Eq.trans (show (Z.drewN nq).heap[g]? = _ from HHZ.out) ?_
              have e1 : max s.sent tt = s.sent := by have := HSTT.out; omega
              have e2 : (tickSt s mss now).sent = s.sent := by show max s.sent (tickTo s mss) = _; rw [HTT.out, e1]
              unfold rcells
              rw [e2, HS1.out]
              rfl)
            have HOF : Hid (Z2.ownsRow WL.heap.size 5 1 (.slice A1 tt k1) tt (((ws.drop a).take tt).map (.int .u8))) := Lib.hid (by rw [hZ2]; exact HOZ.out)
            have HH6 : Hid (Z2.heap[w.heap.size]? = some (.cells #[.int .u32 0, .slice none 0 0] 79 (0, 0))) := Lib.hid (by rw [hZ2]; exact HH6Z.out)
            have HH9F : Hid (Z2.heap[b9]? = some (.cells #[.int .u32 u, .slice A1 tt k1] 79 (0, 0))) := Lib.hid (by rw [hZ2]; exact HH9Z.out)
            have n0 : Z2.cell? ⟨w.heap.size, 0, none⟩ = some (.int .u32 0) := cell_of HH6.out 0
            have n1 : Z2.cell? ⟨w.heap.size, 1, none⟩ = some (.slice none 0 0) := cell_of HH6.out 1
            have nf0 := free_of HH6.out 0
            have nf1 := free_of HH6.out 1
            have z0 : Z2.cell? ⟨b9, 0, none⟩ = some (.int .u32 u) := cell_of HH9F.out 0
            have z1 : Z2.cell? ⟨b9, 1, none⟩ = some (.slice A1 tt k1) := cell_of HH9F.out 1
            clear y0 y1 y2 y3 yf m0 m1 mf0 mf1 hZ2
            go_wp2_with fail
            refine bodyPost_ret (v := .tuple #[.agg #[.int .u32 u, .slice A1 tt k1], .bool true, .int .i64 0]) (by simp [results, Try.results35, go_sem, n0, n1]) rfl ?_
            have hd : s.data = ws.drop a := HB.out.data
            have hgF := grown_set_new (p := ⟨w.heap.size, 1, none⟩) (u := .slice A1 tt k1) (grown_set_new (p := ⟨w.heap.size, 0, none⟩) (u := .int .u32 u) HGF.out (Nat.le_refl _)) (Nat.le_refl _)
            refine ⟨_, by rw [HUU.out], ?_, hgF, ?_⟩
            · rw [HTT.out, hd]
              exact (kept_row (kept_row HOF.out (grown_setCell _ _ _ _) (by intro z hz; cases hz; omega)) (grown_setCell _ _ _ _) (by intro z hz; cases hz; omega)).lower (by omega)
            · refine HB.out.upd (s' := tickSt s mss now) hgF ?_ hd HB.out.una HB.out.le
              rw [Below.heap_setCell _ _ _ _ (by show g ≠ w.heap.size; omega), Below.heap_setCell _ _ _ _ (by show g ≠ w.heap.size; omega)]
              exact HHF.out
      · have d1 : decide (i < nn) = false := decide_eq_false (by omega)
        clear hcase
        go_wp2_with fail
        go_quiet (fail)
        go_wp2_with fail
        obtain ⟨Z, hZ⟩ : ∃ Z, Z = wr.drewN nq := ⟨_, rfl⟩
        rw [← hZ]
        have HGZ : Hid (WL.grownBy Z (some b9)) := Lib.hid (by rw [hZ]; exact grown_drewN HGR.out)
        have HHZ : Hid (Z.heap[g]? = some (.cells (rcells AT ws a s1 A c) 83 (0, 0))) := Lib.hid (by rw [hZ]; exact HGH.out)
        have HH9Z : Hid (Z.heap[b9]? = some (.cells #[.int .u32 u, .slice A1 tt k1] 79 (0, 0))) := Lib.hid (by rw [hZ]; exact HH9.out)
        have HH6Z : Hid (Z.heap[w.heap.size]? = some (.cells #[.int .u32 0, .slice none 0 0] 79 (0, 0))) := Lib.hid ((HGZ.out.block w.heap.size (by omega) (by intro e; injection e; omega)).trans ((HBL.out.block w.heap.size (Array.getElem?_eq_some_iff.1 H62.out).1).trans H62.out))
        have m0 : Z.cell? ⟨w.heap.size, 0, none⟩ = some (.int .u32 0) := cell_of HH6Z.out 0
        have m1 : Z.cell? ⟨w.heap.size, 1, none⟩ = some (.slice none 0 0) := cell_of HH6Z.out 1
        have mf0 := free_of HH6Z.out 0
        have mf1 := free_of HH6Z.out 1
        have HOZ : Hid (Z.ownsRow WL.heap.size 5 1 (.slice A1 tt k1) tt (((ws.drop a).take tt).map (.int .u8))) := Lib.hid (by rw [hZ]; exact HOWN.out)
        obtain ⟨st, hst⟩ : ∃ st, a + s.sent = st := ⟨_, rfl⟩
        have y2 : Z.cell? ⟨g, 2, none⟩ = some (.int .i64 a) := cell_of HHZ.out 2
        have y3 : Z.cell? ⟨g, 3, none⟩ = some (.int .i64 st) := by rw [cell_of HHZ.out, ← hst, HS1.out]; rfl
        have y0 : Z.cell? ⟨b9, 0, none⟩ = some (.int .u32 u) := cell_of HH9Z.out 0
        have y1 : Z.cell? ⟨b9, 1, none⟩ = some (.slice A1 tt k1) := cell_of HH9Z.out 1
        have yf := free_of HHZ.out 3
        have hw5 : IntKind.i64.wrap ((a : Int) + (tt : Int)) = (a : Int) + (tt : Int) := IntWalk.i64_in _ (by omega)
        have HGW : Hid (w.grownBy Z (some g)) := Lib.hid (grown_new2 (grown_trans HG2.out (grown_below HBL.out)) HGZ.out (by intro z hz; cases hz; omega))
        have HSTT := Lib.hid hst
        have hst5 : a ≤ st := by omega
        clear hZ hst p0 p1 c0 c2 c4
        by_cases hs : st < a + tt
        · have d5 : decide ((st : Int) < (a : Int) + (tt : Int)) = true := decide_eq_true (by omega)
          go_quiet (fail)
          go_wp2_with fail
          refine wp_region_tail 11 (by kernel_rfl) (by kernel_rfl) ?_
          simp only [List.take_succ_cons, List.take_zero, List.drop_succ_cons, List.drop_zero]
          repeat still_step
          refine wpStill_nil ?_
          go_upto_region 17 with (fail)
          obtain ⟨Z2, hZ2⟩ : ∃ Z2, Z2 = (Z.drewN (nq + 1)).setCell ⟨g, 3, none⟩ (.int .i64 ((a : Int) + (tt : Int))) := ⟨_, rfl⟩
          rw [← hZ2]
          have HGF : Hid (w.grownBy Z2 (some g)) := Lib.hid (by rw [hZ2]; exact grown_set (grown_drewN HGW.out))
          have HHF : Hid (Z2.heap[g]? = some (.cells (rcells AT ws a (tickSt s mss now) A c) 83 (0, 0))) := Lib.hid (by
            rw [hZ2]
            refine Eq.trans (heap_set (i := 3) (show (Z.drewN (nq + 1)).heap[g]? = _ from HHZ.out) (.int .i64 ((a : Int) + (tt : Int)))) ?_
            have e1 : max s.sent tt = tt := by have := HSTT.out; omega
            have e2 : (tickSt s mss now).sent = tt := by show max s.sent (tickTo s mss) = _; rw [HTT.out, e1]
            unfold rcells
            rw [e2, HS1.out]
            rfl)
          have HOF : Hid (Z2.ownsRow WL.heap.size 5 1 (.slice A1 tt k1) tt (((ws.drop a).take tt).map (.int .u8))) := Lib.hid (by
            rw [hZ2]
            exact kept_row (show (Z.drewN (nq + 1)).ownsRow _ _ _ _ _ _ from HOZ.out) (grown_setCell _ _ _ _) (by intro z hz; cases hz; omega))
          have HH6 : Hid (Z2.heap[w.heap.size]? = some (.cells #[.int .u32 0, .slice none 0 0] 79 (0, 0))) := Lib.hid (by rw [hZ2]; exact (Below.heap_setCell _ _ _ _ (by show w.heap.size ≠ g; omega)).trans HH6Z.out)
          have HH9F : Hid (Z2.heap[b9]? = some (.cells #[.int .u32 u, .slice A1 tt k1] 79 (0, 0))) := Lib.hid (by rw [hZ2]; exact (Below.heap_setCell _ _ _ _ (by show b9 ≠ g; omega)).trans HH9Z.out)
          have n0 : Z2.cell? ⟨w.heap.size, 0, none⟩ = some (.int .u32 0) := cell_of HH6.out 0
          have n1 : Z2.cell? ⟨w.heap.size, 1, none⟩ = some (.slice none 0 0) := cell_of HH6.out 1
          have nf0 := free_of HH6.out 0
          have nf1 := free_of HH6.out 1
          have z0 : Z2.cell? ⟨b9, 0, none⟩ = some (.int .u32 u) := cell_of HH9F.out 0
          have z1 : Z2.cell? ⟨b9, 1, none⟩ = some (.slice A1 tt k1) := cell_of HH9F.out 1
          clear y0 y1 y2 y3 yf m0 m1 mf0 mf1 hZ2
          go_wp2_with fail
          refine bodyPost_ret (v := .tuple #[.agg #[.int .u32 u, .slice A1 tt k1], .bool true, .int .i64 0]) (by simp [results, Try.results35, go_sem, n0, n1]) rfl ?_
          have hd : s.data = ws.drop a := HB.out.data
          have hgF := grown_set_new (p := ⟨w.heap.size, 1, none⟩) (u := .slice A1 tt k1) (grown_set_new (p := ⟨w.heap.size, 0, none⟩) (u := .int .u32 u) HGF.out (Nat.le_refl _)) (Nat.le_refl _)
          refine ⟨_, by rw [HUU.out], ?_, hgF, ?_⟩
          · rw [HTT.out, hd]
            exact (kept_row (kept_row HOF.out (grown_setCell _ _ _ _) (by intro z hz; cases hz; omega)) (grown_setCell _ _ _ _) (by intro z hz; cases hz; omega)).lower (by omega)
          · refine HB.out.upd (s' := tickSt s mss now) hgF ?_ hd HB.out.una HB.out.le
            rw [Below.heap_setCell _ _ _ _ (by show g ≠ w.heap.size; omega), Below.heap_setCell _ _ _ _ (by show g ≠ w.heap.size; omega)]
            exact HHF.out
        · have d5 : decide ((st : Int) < (a : Int) + (tt : Int)) = false := decide_eq_false (by omega)
          go_quiet (fail)
          obtain ⟨Z2, hZ2⟩ : ∃ Z2, Z2 = Z.drewN nq := ⟨_, rfl⟩
          rw [← hZ2]
          have HGF : Hid (w.grownBy Z2 (some g)) := Lib.hid (by rw [hZ2]; exact grown_drewN HGW.out)
          have HHF : Hid (Z2.heap[g]? = some (.cells (rcells AT ws a (tickSt s mss now) A c) 83 (0, 0))) := Lib.hid (by
            rw [hZ2]
            refine Eq.trans (show (Z.drewN nq).heap[g]? = _ from HHZ.out) ?_
            have e1 : max s.sent tt = s.sent := by have := HSTT.out; omega
            have e2 : (tickSt s mss now).sent = s.sent := by show max s.sent (tickTo s mss) = _; rw [HTT.out, e1]
            unfold rcells
            rw [e2, HS1.out]
            rfl)
          have HOF : Hid (Z2.ownsRow WL.heap.size 5 1 (.slice A1 tt k1) tt (((ws.drop a).take tt).map (.int .u8))) := Lib.hid (by rw [hZ2]; exact HOZ.out)
          have HH6 : Hid (Z2.heap[w.heap.size]? = some (.cells #[.int .u32 0, .slice none 0 0] 79 (0, 0))) := Lib.hid (by rw [hZ2]; exact HH6Z.out)
          have HH9F : Hid (Z2.heap[b9]? = some (.cells #[.int .u32 u, .slice A1 tt k1] 79 (0, 0))) := Lib.hid (by rw [hZ2]; exact HH9Z.out)
          have n0 : Z2.cell? ⟨w.heap.size, 0, none⟩ = some (.int .u32 0) := cell_of HH6.out 0
          have n1 : Z2.cell? ⟨w.heap.size, 1, none⟩ = some (.slice none 0 0) := cell_of HH6.out 1
          have nf0 := free_of HH6.out 0
          have nf1 := free_of HH6.out 1
          have z0 : Z2.cell? ⟨b9, 0, none⟩ = some (.int .u32 u) := cell_of HH9F.out 0
          have z1 : Z2.cell? ⟨b9, 1, none⟩ = some (.slice A1 tt k1) := cell_of HH9F.out 1
          clear y0 y1 y2 y3 yf m0 m1 mf0 mf1 hZ2
          go_wp2_with fail
          refine bodyPost_ret (v := .tuple #[.agg #[.int .u32 u, .slice A1 tt k1], .bool true, .int .i64 0]) (by simp [results, Try.results35, go_sem, n0, n1]) rfl ?_
          have hd : s.data = ws.drop a := HB.out.data
          have hgF := grown_set_new (p := ⟨w.heap.size, 1, none⟩) (u := .slice A1 tt k1) (grown_set_new (p := ⟨w.heap.size, 0, none⟩) (u := .int .u32 u) HGF.out (Nat.le_refl _)) (Nat.le_refl _)
          refine ⟨_, by rw [HUU.out], ?_, hgF, ?_⟩
          · rw [HTT.out, hd]
            exact (kept_row (kept_row HOF.out (grown_setCell _ _ _ _) (by intro z hz; cases hz; omega)) (grown_setCell _ _ _ _) (by intro z hz; cases hz; omega)).lower (by omega)
          · refine HB.out.upd (s' := tickSt s mss now) hgF ?_ hd HB.out.una HB.out.le
            rw [Below.heap_setCell _ _ _ _ (by show g ≠ w.heap.size; omega), Below.heap_setCell _ _ _ _ (by show g ≠ w.heap.size; omega)]
            exact HHF.out
end Go.Proofs.Ytpigomkhpdfdcaa
