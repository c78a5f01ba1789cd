/- The walk of RexmitPlays. -/
import Derived.Test.YtpigomkhpdfdcaaPlaysLaw
import Derived.Test.YtpigomkhpdfdcaaRSend
import Derived.Test.YtpigomkhpdfdcaaCopy
import Derived.Lib.SlBytesConst
import Derived.Deep.DeepCutAuto
import Derived.Deep.CutBlock
import Derived.BigQuiet
import Derived.IntWalk
import Derived.Outline
set_option linter.unusedVariables false
namespace Go.Proofs.Ytpigomkhpdfdcaa
open Go.RowKit Go.Deep Go.BigFrame
attribute [local go_sem ↓] Go.wp_at_zero Go.wp_at_succ

def PyMid (W0 : World) (h : Nat) (AT : Int) (lim : Nat) (v5 : Value) (wr : World) : Prop :=
  ∃ (g : Nat) (s : St) (A : Option Addr) (c a : Nat) (ws : List Int) (RA : Option Addr) (rc : Nat), v5 = .pointer (some ⟨g, 0, none⟩) ∧ Py W0 h AT lim wr g s A c a ws RA rc
def PyRel (W0 : World) (h : Nat) (AT : Int) (ln gk : Nat) (v81 v5 : Value) (wr : World) : Prop :=
  ∃ i : Nat, v81 = .int .i64 i ∧ i + gk ≤ ln ∧ ln ≤ i + gk ∧ i ≤ 100 ∧ PyMid W0 h AT (5000 * i) v5 wr
def PyMid2 (W0 : World) (h : Nat) (AT : Int) (lim : Nat) (v5 : Value) (wr : World) : Prop := PyMid W0 h AT lim v5 wr

set_option maxHeartbeats 20000000 in
set_option maxRecDepth 100000 in
theorem plays_walk (una win rto tries : Int) (LA : Option Addr) (ln lc : Nat) (acts : List ActD) (w : World) (u0 : 0 ≤ una) (u1 : una ≤ 4294967295) (w0 : 0 ≤ win) (w1 : win ≤ 4294967295) (r0 : 0 ≤ rto) (r1 : rto ≤ 18446744073709551615)
    (hacts : Acts w LA ln acts) (hlc : ln ≤ lc) (hlm : lc ≤ maxLen) :
    Calls Try.prog 8 #[.agg #[.int .u32 una, .int .u32 win, .int .u64 rto, .int .i64 tries], .slice LA ln lc] w fun e w' => e = .returned (.bool true) ∧ Below w.heap.size w w' := by
  have HACT := Lib.hid hacts
  unfold maxLen at hlm
  clear hacts
  obtain ⟨X1, hX1⟩ : ∃ X1, X1 = w.alloc (Obj.cells #[.int .u32 una, .int .u32 win, .int .u64 rto, .int .i64 tries] 25) := ⟨_, rfl⟩
  obtain ⟨bx, hbx⟩ : ∃ bx, w.heap.size = bx := ⟨_, rfl⟩
  have hB1 : Below w.heap.size w X1 := by rw [hX1]; exact (Below.refl _ _).alloc (Nat.le_refl _) _
  have h1x : X1.heap[bx]? = some (.cells #[.int .u32 una, .int .u32 win, .int .u64 rto, .int .i64 tries] 25 (0, 0)) := by rw [hX1, ← hbx]; exact heap_alloc_new w _
  have HB1 := Lib.hid hB1
  have HX1 := Lib.hid hX1
  have HBX := Lib.hid hbx
  cases hok : newOk win rto tries with
  | false =>
    as_aux_lemma =>
      have e0 : X1.cell? ⟨bx, 0, none⟩ = some (.int .u32 una) := cell_of h1x 0
      have e1 : X1.cell? ⟨bx, 1, none⟩ = some (.int .u32 win) := cell_of h1x 1
      have e2 : X1.cell? ⟨bx, 2, none⟩ = some (.int .u64 rto) := cell_of h1x 2
      have e3 : X1.cell? ⟨bx, 3, none⟩ = some (.int .i64 tries) := cell_of h1x 3
      have HN := Lib.hid hok
      clear hX1 hB1 h1x hok hbx
      go_enter Try.func8, Try.ntmps8
      go_upto_region 1 with (fail)
      rw [← HX1.out, HBX.out]
      go_wp2_with fail
      refine (new_no una win rto tries _ HN.out).mono ?_
      rintro e x3 ⟨rfl, rfl⟩
      go_wp2_with fail
      refine (rnew_no una win rto tries _ HN.out).mono ?_
      rintro e x3 ⟨rfl, rfl⟩
      go_wp2_with fail
      refine (awake_any _).mono ?_
      rintro e x4 ⟨rfl, hb⟩
      have HB4 := Lib.hid hb
      clear hb e0 e1 e2 e3
      go_wp2_with fail
      refine (write_nil0 0 _).mono ?_
      rintro e x5 ⟨rfl, hb⟩
      have HB5 := Lib.hid hb
      clear hb
      go_wp2_with fail
      refine (end_nil0 _).mono ?_
      rintro e x6 ⟨rfl, hb⟩
      have HB6 := Lib.hid hb
      clear hb
      go_wp2_with fail
      go_ret
      have q1 := HB1.out.size
      have q2 := HB4.out.size
      have q3 := HB5.out.size
      exact ⟨rfl, ((HB1.out.trans (HB4.out.mono (by omega))).trans (HB5.out.mono (by omega))).trans (HB6.out.mono (by omega))⟩
  | true =>
    obtain ⟨T, hT⟩ : ∃ T : Nat, tries = T := ⟨tries.toNat, by unfold newOk at hok; have := of_decide_eq_true hok; omega⟩
    subst hT
    have e0 : X1.cell? ⟨bx, 0, none⟩ = some (.int .u32 una) := cell_of h1x 0
    have e1 : X1.cell? ⟨bx, 1, none⟩ = some (.int .u32 win) := cell_of h1x 1
    have e2 : X1.cell? ⟨bx, 2, none⟩ = some (.int .u64 rto) := cell_of h1x 2
    have e3 : X1.cell? ⟨bx, 3, none⟩ = some (.int .i64 T) := cell_of h1x 3
    have HXH := Lib.hid h1x
    have HOK := Lib.hid hok
    clear hX1 hB1 h1x hbx hok
    go_enter Try.func8, Try.ntmps8
    go_upto_region 1 with (fail)
    rw [← HX1.out, HBX.out]
    go_wp2_with fail
    refine (new_yes una win rto T _ HOK.out).mono ?_
    rintro e x3 ⟨rfl, hh, hB⟩
    obtain ⟨g, hg⟩ : ∃ g, X1.heap.size = g := ⟨_, rfl⟩
    rw [hg] at hh hB ⊢
    have HBUF3 : Hid (Buf x3 g none 0 (newSt una win rto T)) := Lib.hid ⟨hh, none, 0, rfl, Nat.le_refl _, by simp [maxLen], fun h => by simp [newSt] at h⟩
    have HOK3 : Hid ((newSt una win rto T).Ok) := Lib.hid (newSt_ok una win rto T u0 u1 w0 HOK.out)
    have hbg : bx < g := by rw [← hg, HX1.out, ← HBX.out]; simp
    have h3x := (hB.block bx hbg).trans HXH.out
    have e0 : x3.cell? ⟨bx, 0, none⟩ = some (.int .u32 una) := cell_of h3x 0
    have e1 : x3.cell? ⟨bx, 1, none⟩ = some (.int .u32 win) := cell_of h3x 1
    have e2 : x3.cell? ⟨bx, 2, none⟩ = some (.int .u64 rto) := cell_of h3x 2
    have e3 : x3.cell? ⟨bx, 3, none⟩ = some (.int .i64 T) := cell_of h3x 3
    have HB3 : Hid (Below w.heap.size w x3) := Lib.hid (HB1.out.trans (hB.mono (by rw [← hg]; exact HB1.out.size)))
    clear hh hB hg h3x
    go_wp2_with fail
    refine (rnew_yes una win rto T _ u0 u1 HOK.out).mono ?_
    rintro e x4 ⟨rfl, hrb, hB⟩
    obtain ⟨h, hh⟩ : ∃ h, x3.heap.size = h := ⟨_, rfl⟩
    rw [hh] at hrb hB ⊢
    have HBUF4 := Lib.hid (HBUF3.out.below (by rw [hh]; exact hB))
    have HB4 : Hid (Below w.heap.size w x4) := Lib.hid (HB3.out.trans (hB.mono (by rw [← hh]; exact HB3.out.size)))
    have hgh : g < h := by rw [← hh]; exact HBUF3.out.lt
    have HRB4 := Lib.hid hrb
    have hwg : w.heap.size ≤ g := by rw [HBX.out]; omega
    clear hrb hB hh e0 e1 e2 e3
    go_wp2_with fail
    refine (awake_any _).mono ?_
    rintro e x5 ⟨rfl, hb⟩
    have HPY : Hid (Py w h una 0 x5 g (newSt una win rto T) none 0 0 [] none 0) := Lib.hid { ok := HOK3.out, buf := HBUF4.out.below hb, rb := HRB4.out.below hb, len := Nat.le_refl _, bel := HB4.out.trans (hb.mono HB4.out.size), og := hwg, oh := by omega }
    clear hb HBUF4 HRB4 HB4 HB3 HBUF3 HOK3 HXH
    go_wp2_with fail
    go_loopg [81, 5] ln (fun gk v81 v5 wr => PyRel w h una ln gk v81 v5 wr)
    case atStart => exact ⟨0, rfl, by omega, by omega, by omega, g, _, _, _, _, _, _, _, rfl, HPY.out⟩
    case round =>
      clear HPY hgh hwg hbg
      obtain ⟨i, rfl, k0, k1, i0, g, s, A, c, a, ws, RA, rc, rfl, hpy⟩ := hrel
      by_cases hlt : i < ln
      · obtain ⟨x, hx⟩ : ∃ x, acts[i]? = some x := ⟨acts[i]'(by have := HACT.out.1; omega), List.getElem?_eq_getElem _⟩
        obtain ⟨hxo, b, o, rfl, hbl, hxa⟩ := HACT.out.2 i x hx
        have HXO := Lib.hid hxo
        obtain ⟨a0, a1, a2, a3, a4, a5⟩ := hxa.below hpy.bel hbl
        have HPY := Lib.hid hpy
        clear hx hxo hxa hpy
        by_cases hi : i = 100
        · subst hi
          go_wp2_with fail
          go_ret
          exact ⟨rfl, HPY.out.bel.alloc HPY.out.bel.size _⟩
        · have hi100 : ((i : Int) == 100) = false := by simp; omega
          have xn0 := HXO.out.now0
          have xn1 := HXO.out.now1
          obtain ⟨d, hd⟩ : ∃ d : Nat, (if (5000 : Int) < (x.dn : Int) then (5000 : Int) else (x.dn : Int)) = (d : Int) := ⟨min x.dn 5000, by split <;> omega⟩
          have hdm : d ≤ x.dn ∧ d ≤ 5000 := by split at hd <;> omega
          obtain ⟨-, hdc, -⟩ := HXO.out.byt.len_eq
          have hsl := fun W => run_slice_hi x.dA x.dn x.dc d (by omega) W
          obtain ⟨nw, hnw⟩ : ∃ nw, x.now.tmod 1099511627776 = nw := ⟨_, rfl⟩
          have hnw0 : 0 ≤ nw := by rw [← hnw, Int.tmod_eq_emod_of_nonneg xn0]; omega
          have hnw1 : nw ≤ 1125899906842624 := by rw [← hnw, Int.tmod_eq_emod_of_nonneg xn0]; omega
          obtain ⟨wh, hwh⟩ : ∃ wh, x.what = wh := ⟨_, rfl⟩
          rw [hwh] at a0
          clear hwh
          go_upto_block 2 with (fail)
          obtain ⟨X, hX⟩ : ∃ X, X = wr.alloc (Obj.cells #[.int .i64 wh, .slice x.dA d x.dc, .int .i64 x.mss, .int .u32 x.n, .int .u32 x.win, .int .u64 nw] 56) := ⟨_, rfl⟩
          obtain ⟨bo, hbo⟩ : ∃ bo, wr.heap.size = bo := ⟨_, rfl⟩
          rw [← hX, hbo]
          have hXB : Below wr.heap.size wr X := by rw [hX]; exact (Below.refl _ _).alloc (Nat.le_refl _) _
          have hXS : X.heap.size = bo + 1 := by rw [hX, ← hbo]; simp
          have hXH : X.heap[bo]? = some (.cells #[.int .i64 wh, .slice x.dA d x.dc, .int .i64 x.mss, .int .u32 x.n, .int .u32 x.win, .int .u64 nw] 56 (0, 0)) := by rw [hX, ← hbo]; exact heap_alloc_new wr _
          have HPX := Lib.hid (HPY.out.move hXB)
          have hgo : g < bo := by rw [← hbo]; exact HPY.out.buf.lt
          have hho : h < bo := by rw [← hbo]; exact HPY.out.rb.lt
          have HXH := Lib.hid hXH
          have HYS : Hid (Byt w (.slice x.dA d x.dc) (x.data.take d)) := Lib.hid (HXO.out.byt.cut d hdm.1)
          have HYL : Hid ((x.data.take d).length = d) := Lib.hid (by rw [List.length_take, HXO.out.len]; omega)
          have HYB : Hid (∀ y ∈ x.data.take d, 0 ≤ y ∧ y ≤ 255) := Lib.hid (fun y hy => HXO.out.byte y (List.mem_of_mem_take hy))
          obtain ⟨ys, hys⟩ : ∃ ys, x.data.take d = ys := ⟨_, rfl⟩
          rw [hys] at HYS HYL HYB
          clear hbo hd hsl hnw hX hXB hXH HPY a0 a1 a2 a3 a4 a5 hys
          go_cut [5] (fun v5 wx => PyMid2 w h una (5000 * (i + 1)) v5 wx)
          case first =>
            have B1 : X.cell? ⟨bo, 1, none⟩ = some (.slice x.dA d x.dc) := cell_of HXH.out 1
            have B2 : X.cell? ⟨bo, 2, none⟩ = some (.int .i64 x.mss) := cell_of HXH.out 2
            have B3 : X.cell? ⟨bo, 3, none⟩ = some (.int .u32 x.n) := cell_of HXH.out 3
            have B4 : X.cell? ⟨bo, 4, none⟩ = some (.int .u32 x.win) := cell_of HXH.out 4
            have B5 : X.cell? ⟨bo, 5, none⟩ = some (.int .u64 nw) := cell_of HXH.out 5
            by_cases h0 : wh = 0
            · subst h0
              by_cases hfit : s.data.length + d ≤ 16384
              · as_aux_lemma =>
                  have hbX : bo < X.heap.size := by omega
                  obtain ⟨bw, hbw⟩ : ∃ bw, X.heap.size = bw := ⟨_, rfl⟩
                  have HBW := Lib.hid hbw
                  obtain ⟨Xa, hXa⟩ : ∃ Xa, Xa = X.alloc (Obj.cells #[] 5) := ⟨_, rfl⟩
                  have hXaB : Below X.heap.size X Xa := by rw [hXa]; exact (Below.refl _ _).alloc (Nat.le_refl _) _
                  have hown0 : Xa.ownsRow bw 5 1 (.slice (some ⟨bw, 0, none⟩) 0 0) 0 [] := ⟨rfl, Or.inr ⟨bw, 0, #[], rfl, Nat.le_refl _, by rw [hXa, ← hbw]; exact heap_alloc_new X _, Nat.le_refl _, by simp [maxLen], rfl, rfl⟩⟩
                  obtain ⟨v1, x2, hr1, ho1, hg1, hat1⟩ := run_append_bytF (w := Xa) bw (.slice (some ⟨bw, 0, none⟩) 0 0) 0 [] hown0 x.dA d x.dc ys HYL.out (HYS.out.below (HPX.out.bel.trans (hXaB.mono HPX.out.bel.size))) (by omega) (by rw [← hbw]; exact hXaB.size)
                  rw [Nat.zero_add, List.nil_append] at ho1
                  have hB2 : Below X.heap.size X x2 := hXaB.grown hg1 hXaB.size (fun k hk => by simp [Value.ownBlock] at hk; omega)
                  obtain ⟨Ao, co, hvo⟩ := own_len ho1
                  subst hvo
                  have HR1 := Lib.hid hr1
                  have HO1 := Lib.hid ho1
                  have HXB2 := Lib.hid hB2
                  have HXA := Lib.hid hXa
                  have HP2 := Lib.hid (HPX.out.move hB2)
                  have B1o := fun o => (((Below.refl X.heap.size X).alloc (Nat.le_refl _) o).cell (p := ⟨bo, 1, none⟩) hbX).trans B1
                  have B1 := (hB2.cell (p := ⟨bo, 1, none⟩) hbX).trans B1
                  have B5 := (hB2.cell (p := ⟨bo, 5, none⟩) hbX).trans B5
                  have hHS : ∀ X', X' = X.heap.size → X' = bw := fun X' h => h.trans hbw
                  have HFIT := Lib.hid hfit
                  have hobw : bo < bw := by omega
                  have hbwx0 : bw < x2.heap.size := by have h1 : Xa.heap.size = X.heap.size + 1 := (by rw [hXa]; simp); have h2 := hg1.size; omega
                  clear hr1 ho1 hg1 hat1 hB2 hown0 hXaB hXa hXS hbX hfit B2 B3 B4 hHS
                  go_wp2_with (at_builtin; refine Lib.wpList_append_run _ rfl _ _ 34 34 rfl _ _ rfl rfl _ _ (by rw [← HXA.out, ← HBW.out] at *; exact HR1.out) ?_)
                  
                  obtain ⟨W2, hW2⟩ : ∃ W2, W2 = x2.drew := ⟨_, rfl⟩
                  have hWB : Below x2.heap.size x2 W2 := by rw [hW2]; exact (Below.refl _ _).drew
                  have HPW := Lib.hid (HP2.out.move hWB)
                  have hbwx : bw < x2.heap.size := hbwx0
                  have hszW : x2.heap.size ≤ W2.heap.size := hWB.size
                  obtain ⟨bown, hbown⟩ : ∃ bown, 0 < d → (Ao = some ⟨bown, 0, none⟩ ∧ bw ≤ bown ∧ bown < W2.heap.size ∧ U8s W2 bown d) := by
                    by_cases hd0 : 0 < d
                    · obtain ⟨b, k, e, h1, h2⟩ := u8s_own HO1.out hd0
                      injection e with e _ _
                      exact ⟨b, fun _ => ⟨e, h1, Nat.lt_of_lt_of_le h2.lt hszW, h2.below hWB h2.lt⟩⟩
                    · exact ⟨0, fun h => absurd h hd0⟩
                  have HOWN := Lib.hid hbown
                  have HW := Lib.hid (write_okF g c A s Ao d co ys nw W2 HPW.out.buf HPW.out.ok HYL.out ((own_byt HO1.out).below hWB) HFIT.out hnw0 hnw1 HYB.out)
                  have HRW := Lib.hid (fun w3 (hr3 : Rb w3 h RA rc una ws a s) (hy3 : Byt w3 (.slice x.dA d x.dc) ys) => rwrite_ok h rc a RA una ws s w3 x.dA d x.dc ys nw hr3 HPW.out.ok HYL.out hy3 HFIT.out hnw0 hnw1 HYB.out (by have := HPX.out.len; omega))
                  have C1 : W2.cell? ⟨bo, 1, none⟩ = some (.slice x.dA d x.dc) := by rw [hW2]; exact B1
                  have C5 : W2.cell? ⟨bo, 5, none⟩ = some (.int .u64 nw) := by rw [hW2]; exact B5
                  rw [hW2] at HW HPW C1 C5
                  have HW2 := Lib.hid hW2
                  clear hbown hW2 hWB B1 B5 B1o
                  go_region_held3 (fun w' => w'.cell? ⟨bo, 1, none⟩ = some (.slice x.dA d x.dc) ∧ w'.cell? ⟨bo, 5, none⟩ = some (.int .u64 nw)) (go_keep)
                    (first
                      | (go_at_call 12; refine HW.out.mono ?_; rintro e w3 ⟨rfl, hg3, A3, c3, hb3, hfar3⟩; have HG3 := Lib.hid hg3; have HB3 := Lib.hid hb3; have HFAR3 := Lib.hid hfar3; have HRB3 := Lib.hid (HPW.out.rb.beside HPW.out.buf hg3); have HY3 := Lib.hid (HYS.out.below (grown_bel HPW.out.bel hg3 (by intro k hk; cases hk; exact HPW.out.og))); have C1 := hg3.cell C1 (by simp; omega); have C5 := hg3.cell C5 (by simp; omega); clear hg3 hb3 hfar3)
                      | (go_at_call 29; refine (HRW.out _ HRB3.out HY3.out).mono ?_; rintro e w4 ⟨rfl, hg4, RA4, rc4, hr4, hfar4⟩; have HG4 := Lib.hid hg4; have HR4 := Lib.hid hr4; have HFAR4 := Lib.hid hfar4; have C1 := hg4.cell C1 (by simp; omega); have C5 := hg4.cell C5 (by simp; omega); clear hg4 hr4 hfar4))
                  obtain ⟨S2, hS2⟩ : ∃ S2, S2 = writeSt s ys nw := ⟨_, rfl⟩
                  obtain ⟨ws2, hws2⟩ : ∃ ws2, ws2 = ws ++ ys := ⟨_, rfl⟩
                  have hsz3 : W2.heap.size ≤ w3.heap.size := by rw [HW2.out]; exact HG3.out.size
                  have HP4 : Hid (Py w h una (5000 * (i + 1)) w4 g S2 A3 c3 a ws2 RA4 rc4) := Lib.hid (by
                    subst hS2 hws2
                    exact {
                      ok := writeSt_ok s ys nw HPW.out.ok (by rw [HYL.out]; exact HFIT.out) HYB.out hnw0 hnw1
                      buf := HB3.out.besideR HRB3.out HG4.out
                      rb := HR4.out
                      len := by rw [List.length_append, HYL.out]; have := HPX.out.len; omega
                      bel := grown_bel (grown_bel HPW.out.bel HG3.out (by intro k hk; cases hk; exact HPW.out.og)) HG4.out (by intro k hk; cases hk; exact HPW.out.oh)
                      og := HPW.out.og
                      oh := HPW.out.oh })
                  have HU4 : Hid (0 < d → U8s w4 bown d) := Lib.hid (fun hd0 => by
                    obtain ⟨e, q1, q2, q3⟩ := HOWN.out hd0
                    rw [HW2.out] at q3
                    exact (q3.grown HG3.out (by simp; omega)).grown HG4.out (by simp; omega))
                  have HNA : Hid (0 < d → ∀ b, (Value.slice A3 S2.data.length c3).ownBlock = some b → 0 < S2.data.length → b ≠ bown) := Lib.hid (fun hd0 b hb _ e => by
                    have q1 := (HOWN.out hd0).2.2.1
                    have q2 := HFAR3.out b (own_blk hb)
                    rw [← HW2.out] at q2
                    omega)
                  have HNR : Hid (0 < d → ∀ b, (Value.slice RA4 ws2.length rc4).ownBlock = some b → 0 < ws2.length → b ≠ bown) := Lib.hid (fun hd0 b hb _ e => by
                    have q1 := (HOWN.out hd0).2.2.1
                    have q2 := HFAR4.out b (own_blk hb)
                    omega)
                  clear hS2 hws2
                  go_wp2_with fail
                  go_loopw [122, 12] (fun v122 v12 wr => ∃ k : Nat, v122 = .int .i64 k ∧ k ≤ d ∧ Py w h una (5000 * (i + 1)) wr g S2 A3 c3 a ws2 RA4 rc4 ∧ (0 < d → U8s wr bown d)) (fun v122 _ _ => d - (intOf v122).toNat)
                  case atStart => exact ⟨0, rfl, Nat.zero_le _, HP4.out, HU4.out⟩
                  case round =>
                    obtain ⟨k, rfl, hk, hp, hu⟩ := hrel
                    by_cases hlt : k < d
                    · obtain ⟨eA, ob1, -, -⟩ := HOWN.out (by omega)
                      subst eA
                      have HU := Lib.hid (hu (by omega))
                      obtain ⟨cs2, g1, g2⟩ := hu (by omega)
                      obtain ⟨y, hy⟩ := g2 k hlt
                      have c1 : wr.cell? ⟨bown, k, none⟩ = some (.int .u8 y) := by rw [cell_of g1]; exact hy
                      have fz := free_of g1 k
                      have HP := Lib.hid hp
                      have hne1 : g ≠ bown := by omega
                      have hne2 : h ≠ bown := by omega
                      clear hu hp g1 g2 hy
                      go_wp2_with fail
                      go_roundw
                      case rel =>
                        refine ⟨k + 1, by simp, by omega, ?_, fun _ => HU.out.set _ _ _⟩
                        have hgs := fun v => grown_setCell wr bown k v
                        exact { HP.out with
                          buf := HP.out.buf.other (hgs _) hne1 (HNA.out (by omega))
                          rb := HP.out.rb.other (hgs _) hne2 (HNR.out (by omega))
                          bel := grown_bel HP.out.bel (hgs _) (by intro q hq; cases hq; have := HP.out.og; omega) }
                      case measure => simp [intOf]; omega
                    · have hkd : decide ((k : Int) < (d : Int)) = false := decide_eq_false (by omega)
                      have HP := Lib.hid hp
                      clear hu hp
                      go_wp2_with fail
                      go_meet
                      case rel => exact ⟨g, S2, A3, c3, a, ws2, RA4, rc4, rfl, HP.out⟩
              · as_aux_lemma =>
                  have hbX : bo < X.heap.size := by omega
                  obtain ⟨bw, hbw⟩ : ∃ bw, X.heap.size = bw := ⟨_, rfl⟩
                  have HBW := Lib.hid hbw
                  obtain ⟨Xa, hXa⟩ : ∃ Xa, Xa = X.alloc (Obj.cells #[] 5) := ⟨_, rfl⟩
                  have hXaB : Below X.heap.size X Xa := by rw [hXa]; exact (Below.refl _ _).alloc (Nat.le_refl _) _
                  have hown0 : Xa.ownsRow bw 5 1 (.slice (some ⟨bw, 0, none⟩) 0 0) 0 [] := ⟨rfl, Or.inr ⟨bw, 0, #[], rfl, Nat.le_refl _, by rw [hXa, ← hbw]; exact heap_alloc_new X _, Nat.le_refl _, by simp [maxLen], rfl, rfl⟩⟩
                  obtain ⟨v1, x2, hr1, ho1, hg1, hat1⟩ := run_append_bytF (w := Xa) bw (.slice (some ⟨bw, 0, none⟩) 0 0) 0 [] hown0 x.dA d x.dc ys HYL.out (HYS.out.below (HPX.out.bel.trans (hXaB.mono HPX.out.bel.size))) (by omega) (by rw [← hbw]; exact hXaB.size)
                  rw [Nat.zero_add, List.nil_append] at ho1
                  have hB2 : Below X.heap.size X x2 := hXaB.grown hg1 hXaB.size (fun k hk => by simp [Value.ownBlock] at hk; omega)
                  obtain ⟨Ao, co, hvo⟩ := own_len ho1
                  subst hvo
                  have HR1 := Lib.hid hr1
                  have HO1 := Lib.hid ho1
                  have HXB2 := Lib.hid hB2
                  have HXA := Lib.hid hXa
                  have HP2 := Lib.hid (HPX.out.move hB2)
                  have B1o := fun o => (((Below.refl X.heap.size X).alloc (Nat.le_refl _) o).cell (p := ⟨bo, 1, none⟩) hbX).trans B1
                  have B1 := (hB2.cell (p := ⟨bo, 1, none⟩) hbX).trans B1
                  have B5 := (hB2.cell (p := ⟨bo, 5, none⟩) hbX).trans B5
                  have hHS : ∀ X', X' = X.heap.size → X' = bw := fun X' h => h.trans hbw
                  have HFIT := Lib.hid hfit
                  have hobw : bo < bw := by omega
                  have hbwx0 : bw < x2.heap.size := by have h1 : Xa.heap.size = X.heap.size + 1 := (by rw [hXa]; simp); have h2 := hg1.size; omega
                  clear hr1 ho1 hg1 hat1 hB2 hown0 hXaB hXa hXS hbX hfit B2 B3 B4 hHS
                  go_wp2_with (at_builtin; refine Lib.wpList_append_run _ rfl _ _ 34 34 rfl _ _ rfl rfl _ _ (by rw [← HXA.out, ← HBW.out] at *; exact HR1.out) ?_)
                  
                  obtain ⟨W2, hW2⟩ : ∃ W2, W2 = x2.drew := ⟨_, rfl⟩
                  have hWB : Below x2.heap.size x2 W2 := by rw [hW2]; exact (Below.refl _ _).drew
                  have HPW := Lib.hid (HP2.out.move hWB)
                  have hbwx : bw < x2.heap.size := hbwx0
                  have hszW : x2.heap.size ≤ W2.heap.size := hWB.size
                  obtain ⟨bown, hbown⟩ : ∃ bown, 0 < d → (Ao = some ⟨bown, 0, none⟩ ∧ bw ≤ bown ∧ bown < W2.heap.size ∧ U8s W2 bown d) := by
                    by_cases hd0 : 0 < d
                    · obtain ⟨b, k, e, h1, h2⟩ := u8s_own HO1.out hd0
                      injection e with e _ _
                      exact ⟨b, fun _ => ⟨e, h1, Nat.lt_of_lt_of_le h2.lt hszW, h2.below hWB h2.lt⟩⟩
                    · exact ⟨0, fun h => absurd h hd0⟩
                  have HOWN := Lib.hid hbown
                  have HW := Lib.hid (write_long g c A s Ao d co ys nw W2 HPW.out.buf HPW.out.ok HYL.out ((own_byt HO1.out).below hWB) HFIT.out (by omega))
                  have HRW := Lib.hid (fun w3 (hr3 : Rb w3 h RA rc una ws a s) (hy3 : Byt w3 (.slice x.dA d x.dc) ys) => rwrite_long h rc a RA una ws s w3 x.dA d x.dc ys nw hr3 HFIT.out (by omega))
                  have C1 : W2.cell? ⟨bo, 1, none⟩ = some (.slice x.dA d x.dc) := by rw [hW2]; exact B1
                  have C5 : W2.cell? ⟨bo, 5, none⟩ = some (.int .u64 nw) := by rw [hW2]; exact B5
                  rw [hW2] at HW HPW C1 C5
                  have HW2 := Lib.hid hW2
                  clear hbown hW2 hWB B1 B5 B1o
                  go_region_held3 (fun w' => w'.cell? ⟨bo, 1, none⟩ = some (.slice x.dA d x.dc) ∧ w'.cell? ⟨bo, 5, none⟩ = some (.int .u64 nw)) (go_keep)
                    (first
                      | (go_at_call 12; refine HW.out.mono ?_; rintro e w3 ⟨rfl, rfl⟩)
                      | (go_at_call 29; refine (HRW.out _ HPW.out.rb (HYS.out.below HPW.out.bel)).mono ?_; rintro e w4 ⟨rfl, n4, hw4⟩; have HW4 := Lib.hid hw4; have C1 : w4.cell? ⟨bo, 1, none⟩ = some (.slice x.dA d x.dc) := (by rw [hw4]; exact C1); have C5 : w4.cell? ⟨bo, 5, none⟩ = some (.int .u64 nw) := (by rw [hw4]; exact C5); clear hw4))
                  obtain ⟨S2, hS2⟩ : ∃ S2, S2 = s := ⟨_, rfl⟩
                  obtain ⟨ws2, hws2⟩ : ∃ ws2, ws2 = ws := ⟨_, rfl⟩
                  obtain ⟨A3, hA3⟩ : ∃ A3, A3 = A := ⟨_, rfl⟩
                  obtain ⟨c3, hc3⟩ : ∃ c3, c3 = c := ⟨_, rfl⟩
                  obtain ⟨RA4, hRA4⟩ : ∃ RA4, RA4 = RA := ⟨_, rfl⟩
                  obtain ⟨rc4, hrc4⟩ : ∃ rc4, rc4 = rc := ⟨_, rfl⟩
                  have hXW : X.heap.size ≤ W2.heap.size := Nat.le_trans HXB2.out.size hszW
                  have HP4 : Hid (Py w h una (5000 * (i + 1)) w4 g S2 A3 c3 a ws2 RA4 rc4) := Lib.hid (by
                    subst hS2 hws2 hA3 hc3 hRA4 hrc4
                    rw [HW4.out]
                    exact { HPW.out.move (below_drewN (Below.refl _ _) _) with len := by have := HPX.out.len; omega })
                  have HU4 : Hid (0 < d → U8s w4 bown d) := Lib.hid (fun hd0 => by
                    obtain ⟨e, q1, q2, q3⟩ := HOWN.out hd0
                    rw [HW2.out] at q3
                    rw [HW4.out]
                    exact q3.below (below_drewN (Below.refl _ _) _) q3.lt)
                  have HNA : Hid (0 < d → ∀ b, (Value.slice A3 S2.data.length c3).ownBlock = some b → 0 < S2.data.length → b ≠ bown) := Lib.hid (fun hd0 b hb hp e => by
                    have q1 := (HOWN.out hd0).2.1
                    subst hS2 hA3 hc3
                    have q2 := HPX.out.buf.2.blt b hb hp
                    have := HBW.out
                    omega)
                  have HNR : Hid (0 < d → ∀ b, (Value.slice RA4 ws2.length rc4).ownBlock = some b → 0 < ws2.length → b ≠ bown) := Lib.hid (fun hd0 b hb hp e => by
                    have q1 := (HOWN.out hd0).2.1
                    subst hws2 hRA4 hrc4
                    have q2 := HPX.out.rb.byt.blt b hb hp
                    have := HBW.out
                    omega)
                  clear hS2 hws2 hA3 hc3 hRA4 hrc4
                  go_wp2_with fail
                  go_loopw [122, 12] (fun v122 v12 wr => ∃ k : Nat, v122 = .int .i64 k ∧ k ≤ d ∧ Py w h una (5000 * (i + 1)) wr g S2 A3 c3 a ws2 RA4 rc4 ∧ (0 < d → U8s wr bown d)) (fun v122 _ _ => d - (intOf v122).toNat)
                  case atStart => exact ⟨0, rfl, Nat.zero_le _, HP4.out, HU4.out⟩
                  case round =>
                    obtain ⟨k, rfl, hk, hp, hu⟩ := hrel
                    by_cases hlt : k < d
                    · obtain ⟨eA, ob1, -, -⟩ := HOWN.out (by omega)
                      subst eA
                      have HU := Lib.hid (hu (by omega))
                      obtain ⟨cs2, g1, g2⟩ := hu (by omega)
                      obtain ⟨y, hy⟩ := g2 k hlt
                      have c1 : wr.cell? ⟨bown, k, none⟩ = some (.int .u8 y) := by rw [cell_of g1]; exact hy
                      have fz := free_of g1 k
                      have HP := Lib.hid hp
                      have hne1 : g ≠ bown := by omega
                      have hne2 : h ≠ bown := by omega
                      clear hu hp g1 g2 hy
                      go_wp2_with fail
                      go_roundw
                      case rel =>
                        refine ⟨k + 1, by simp, by omega, ?_, fun _ => HU.out.set _ _ _⟩
                        have hgs := fun v => grown_setCell wr bown k v
                        exact { HP.out with
                          buf := HP.out.buf.other (hgs _) hne1 (HNA.out (by omega))
                          rb := HP.out.rb.other (hgs _) hne2 (HNR.out (by omega))
                          bel := grown_bel HP.out.bel (hgs _) (by intro q hq; cases hq; have := HP.out.og; omega) }
                      case measure => simp [intOf]; omega
                    · have hkd : decide ((k : Int) < (d : Int)) = false := decide_eq_false (by omega)
                      have HP := Lib.hid hp
                      clear hu hp
                      go_wp2_with fail
                      go_meet
                      case rel => exact ⟨g, S2, A3, c3, a, ws2, RA4, rc4, rfl, HP.out⟩
            by_cases h1 : wh = 1
            · subst h1
              cases hmay : mayB x.mss with
              | false =>
                as_aux_lemma =>
                  have HS := Lib.hid (send_arg g c A s x.mss X HPX.out.buf HPX.out.ok hmay)
                  have HR := Lib.hid (fun W => rsend_arg h x.mss W hmay)
                  clear hmay
                  go_wp2_with fail
                  refine HS.out.mono ?_
                  rintro e w2 ⟨rfl, hB⟩
                  have HP2 := Lib.hid (HPX.out.move hB)
                  have B2' := (hB.cell (p := ⟨bo, 2, none⟩) (by show bo < _; omega)).trans B2
                  have HBB := Lib.hid hB
                  clear hB
                  go_wp2_with fail
                  refine (HR.out _).mono ?_
                  rintro e w' ⟨rfl, rfl⟩
                  go_wp2_with fail
                  refine (same_any _ _ [] _ ⟨none, 0, rfl, fun i p h => by simp at h⟩ ⟨none, 0, rfl, fun i p h => by simp at h⟩ (by simp)).mono ?_
                  rintro e w3 ⟨rfl, nq, rfl⟩
                  go_wp2_with fail
                  refine (spoil_any (w2.drewN nq).heap.size 0 0 none _ (fun i hi => by omega) (Nat.le_refl _) (by omega)).mono ?_
                  rintro e w5 ⟨rfl, hb5⟩
                  have HP5 := Lib.hid ((HP2.out.move (below_drewN (Below.refl _ _) nq)).move hb5)
                  clear hb5
                  go_wp2_with fail
                  go_meet
                  case rel => exact ⟨g, s, A, c, a, ws, RA, rc, rfl, { HP5.out with len := by have := HP5.out.len; omega }⟩
              | true =>
                as_aux_lemma =>
                  obtain ⟨M, hM⟩ : ∃ M : Nat, x.mss = (M : Int) := ⟨x.mss.toNat, by unfold mayB at hmay; have := of_decide_eq_true hmay; omega⟩
                  rw [hM] at hmay B2
                  have HS := Lib.hid (send_ok g c A s M X HPX.out.buf HPX.out.ok hmay)
                  have HMAY := Lib.hid hmay
                  clear hmay hM
                  go_wp2_with fail
                  refine HS.out.mono ?_
                  rintro e w2 ⟨v2, rfl, hg2, hb2, hp2⟩
                  have HG2 := Lib.hid hg2
                  have HR2 := Lib.hid (HPX.out.rb.beside HPX.out.buf hg2)
                  have B2 := hg2.cell B2 (by simp; omega)
                  have HR := Lib.hid (rsend_ok h rc a RA una ws s M w2 HR2.out HPX.out.ok HMAY.out)
                  have HB2 := Lib.hid hb2
                  have HP2 := Lib.hid hp2
                  clear hg2 hb2 hp2
                  go_wp2_with fail
                  refine HR.out.mono ?_
                  rintro e w3 ⟨v3, rfl, hg3, hb3, hp3⟩
                  have HB3 := Lib.hid (HB2.out.besideR HR2.out hg3)
                  have HP3 : Hid (Pcs w3 X.heap.size s.una s.data v2 (pcsOf M s.sent (sendEnd s))) := Lib.hid (HP2.out.kept hg3 (by intro k hk; cases hk; omega))
                  have HG3 := Lib.hid hg3
                  have HRB3 := Lib.hid hb3
                  have HRP3 := Lib.hid hp3
                  have HL : Hid ((pcsOf M s.sent (sendEnd s)).length ≤ 1000000) := Lib.hid (Nat.le_trans (pcsOf_len M s.sent (sendEnd s)) (by have := HPX.out.ok.len; unfold sendEnd; omega))
                  have HSM := Lib.hid (same_any v2 v3 _ w3 (HP3.out.pl HPX.out.ok.byte) (HRP3.out.pl HPX.out.ok.byte) (by rw [List.length_map]; exact HL.out))
                  obtain ⟨Ap, kp, hvp, hsp⟩ := HP3.out.sp (by have := HPX.out.ok.len; omega)
                  obtain ⟨N, hN⟩ : ∃ N, (pcsOf M s.sent (sendEnd s)).length = N := ⟨_, rfl⟩
                  rw [hN] at hvp hsp
                  subst hvp
                  have HSP := Lib.hid hsp
                  have HN := Lib.hid hN
                  clear hg3 hb3 hp3 hsp hN
                  go_wp2_with fail
                  refine HSM.out.mono ?_
                  rintro e w4 ⟨rfl, nq, rfl⟩
                  go_wp2_with fail
                  have hsz : X.heap.size ≤ w3.heap.size := Nat.le_trans HG2.out.size HG3.out.size
                  refine (spoil_any X.heap.size N kp Ap _ (HSP.out.below (below_drewN (Below.refl _ _) nq)) hsz (by rw [← HN.out]; exact HL.out)).mono ?_
                  rintro e w5 ⟨rfl, hb5⟩
                  have HB5 : Hid (Below X.heap.size w3 w5) := Lib.hid ((below_drewN (Below.refl _ _) nq).trans hb5)
                  clear hb5
                  go_wp2_with fail
                  go_meet
                  case rel =>
                    have ho := HPX.out.ok
                    have hss : max s.sent (sendEnd s) ≤ s.data.length := by have := ho.sent; unfold sendEnd; omega
                    exact ⟨g, sendSt s, A, c, a, ws, RA, rc, rfl, {
                      ok := { ho with sent := hss }
                      buf := HPX.out.buf.under (s := sendSt s) rfl (Nat.le_refl _) HB3.out HB5.out
                      rb := HPX.out.rb.under (Nat.le_refl _) HRB3.out HB5.out
                      len := by have := HPX.out.len; omega
                      bel := (grown_bel (grown_bel HPX.out.bel HG2.out (by intro k hk; cases hk; exact HPX.out.og)) HG3.out (by intro k hk; cases hk; exact HPX.out.oh)).trans (HB5.out.mono HPX.out.bel.size)
                      og := HPX.out.og
                      oh := HPX.out.oh }⟩
            by_cases h2 : wh = 2
            · subst h2
              obtain ⟨u, hu⟩ : ∃ u, s.una = u := ⟨_, rfl⟩
              obtain ⟨ack, hack⟩ : ∃ ack, (u + x.n) % 4294967296 = ack := ⟨_, rfl⟩
              have a0 : 0 ≤ ack := by omega
              have a1 : ack ≤ 4294967295 := by omega
              have HU := Lib.hid hu
              obtain ⟨q, hq⟩ : ∃ q, ahd u ack = q := ⟨_, rfl⟩
              have hqd : ahd s.una ack = q := by rw [hu]; exact hq
              have xw0 := HXO.out.win0
              by_cases hno : q < 0 ∨ (s.sent : Int) < q ∨ 1073741824 < x.win
              · as_aux_lemma =>
                  have HNO := Lib.hid (show ahd s.una ack < 0 ∨ (s.sent : Int) < ahd s.una ack ∨ 1073741824 < x.win by rw [hqd]; exact hno)
                  clear hq hqd hno hu
                  go_wp2_with fail
                  go_quiet ((go_at_call 33; exact runa_q HPX.out.rb HU.out _))
                  rw [hack]
                  go_upto_region 31 with (fail)
                  obtain ⟨Y, hY⟩ : ∃ Y, Y = X.drewN nq := ⟨_, rfl⟩
                  rw [← hY]
                  have HPY := Lib.hid (show Py w h una (5000 * i) Y g s A c a ws RA rc by rw [hY]; exact HPX.out.move (below_drewN (Below.refl _ _) _))
                  have B4 : Y.cell? ⟨bo, 4, none⟩ = some (.int .u32 x.win) := by rw [hY]; exact B4
                  have B5 : Y.cell? ⟨bo, 5, none⟩ = some (.int .u64 nw) := by rw [hY]; exact B5
                  clear hY hack
                  go_wp2_with fail
                  refine (acked_no g c A s ack x.win nw Y HPY.out.buf HPY.out.ok HNO.out).mono ?_
                  rintro e w' ⟨rfl, rfl⟩
                  go_wp2_with fail
                  refine (racked_no h rc a RA una ws s Y ack x.win nw HPY.out.rb HPY.out.ok a0 a1 HNO.out).mono ?_
                  rintro e w4 ⟨rfl, n4, rfl⟩
                  go_wp2_with fail
                  go_meet
                  case rel => exact ⟨g, s, A, c, a, ws, RA, rc, rfl, { HPY.out.move (below_drewN (Below.refl _ _) _) with len := by have := HPX.out.len; omega }⟩
              · as_aux_lemma =>
                  obtain ⟨k, hk⟩ : ∃ k : Nat, q = (k : Int) := ⟨q.toNat, by omega⟩
                  have hks : k ≤ s.sent := by omega
                  have hww : x.win ≤ 1073741824 := by omega
                  have hd : ahd s.una ack = k := by rw [hqd, hk]
                  have HD := Lib.hid hd
                  clear hq hqd hno hu hk hd
                  go_wp2_with fail
                  go_quiet ((go_at_call 33; exact runa_q HPX.out.rb HU.out _))
                  rw [hack]
                  go_upto_region 31 with (fail)
                  obtain ⟨Y, hY⟩ : ∃ Y, Y = X.drewN nq := ⟨_, rfl⟩
                  rw [← hY]
                  have HPY := Lib.hid (show Py w h una (5000 * i) Y g s A c a ws RA rc by rw [hY]; exact HPX.out.move (below_drewN (Below.refl _ _) _))
                  have B4 : Y.cell? ⟨bo, 4, none⟩ = some (.int .u32 x.win) := by rw [hY]; exact B4
                  have B5 : Y.cell? ⟨bo, 5, none⟩ = some (.int .u64 nw) := by rw [hY]; exact B5
                  clear hY hack
                  go_wp2_with fail
                  refine (acked_posF g c A s k ack x.win nw Y HPY.out.buf HPY.out.ok hks HD.out xw0 hww a0 a1 hnw0 hnw1).mono ?_
                  rintro e w3 ⟨rfl, hg3, A3, c3, hb3, -⟩
                  have B4 := hg3.cell B4 (by simp; omega)
                  have B5 := hg3.cell B5 (by simp; omega)
                  have HG3 := Lib.hid hg3
                  have HB3 := Lib.hid hb3
                  have HR3 := Lib.hid (HPY.out.rb.beside HPY.out.buf hg3)
                  clear hg3 hb3
                  go_wp2_with fail
                  refine (racked_ok h rc a RA una ws s w3 k ack x.win nw HR3.out HPY.out.ok hks HD.out xw0 hww a0 a1 hnw0 hnw1).mono ?_
                  rintro e w4 ⟨rfl, hg4, hr4⟩
                  have HG4 := Lib.hid hg4
                  have HR4 := Lib.hid hr4
                  clear hg4 hr4
                  go_wp2_with fail
                  go_meet
                  case rel =>
                    exact ⟨g, ackSt s k ack x.win nw, A3, c3, a + k, ws, RA, rc, rfl, {
                      ok := ackSt_ok s k ack x.win nw HPY.out.ok hks xw0 hww a0 a1 hnw0 hnw1
                      buf := HB3.out.besideR HR3.out HG4.out
                      rb := HR4.out
                      len := by have := HPX.out.len; omega
                      bel := grown_bel (grown_bel HPY.out.bel HG3.out (by intro k hk; cases hk; exact HPY.out.og)) HG4.out (by intro k hk; cases hk; exact HPY.out.oh)
                      og := HPY.out.og
                      oh := HPY.out.oh }⟩
            by_cases h3 : wh = 3
            · subst h3
              cases hmay : mayB x.mss with
              | false =>
                as_aux_lemma =>
                  have HTK := Lib.hid (tick_arg g c A s x.mss nw X HPX.out.buf HPX.out.ok hmay)
                  have HRTK := Lib.hid (fun W (hr : Rb W h RA rc una ws a s) => rtick_arg h x.mss nw W hmay)
                  clear hmay
                  go_wp2_with fail
                  refine HTK.out.mono ?_
                  rintro e w2 ⟨rfl, hB⟩
                  have HP2 := Lib.hid (HPX.out.move hB)
                  have B2 := fun o => ((hB.trans ((Below.refl _ _).alloc (by have := hB.size; omega) o)).cell (p := ⟨bo, 2, none⟩) (by show bo < _; omega)).trans B2
                  have B5 := fun o => ((hB.trans ((Below.refl _ _).alloc (by have := hB.size; omega) o)).cell (p := ⟨bo, 5, none⟩) (by show bo < _; omega)).trans B5
                  have hsz2 : X.heap.size ≤ w2.heap.size := hB.size
                  clear hB
                  go_wp2_with fail
                  obtain ⟨W, hW⟩ : ∃ W, W = w2.alloc (Obj.cells #[.int .u32 0, .slice none 0 0] 38) := ⟨_, rfl⟩
                  obtain ⟨bp, hbp⟩ : ∃ bp, w2.heap.size = bp := ⟨_, rfl⟩
                  rw [← hW, hbp]
                  have hWB : Below w2.heap.size w2 W := by rw [hW]; exact (Below.refl _ _).alloc (Nat.le_refl _) _
                  have HPW := Lib.hid (HP2.out.move hWB)
                  have hWp : W.heap[bp]? = some (.cells #[.int .u32 0, .slice none 0 0] 38 (0, 0)) := by rw [hW, ← hbp]; exact heap_alloc_new w2 _
                  have hszW := hWB.size
                  have hbpW : bp < W.heap.size := (Array.getElem?_eq_some_iff.1 hWp).1
                  have HWP := Lib.hid hWp
                  clear hW hWB hWp hbp B2 B5
                  refine (HRTK.out _ HPW.out.rb).mono ?_
                  rintro e w3 ⟨rfl, hB⟩
                  have HP3 := Lib.hid (HPW.out.move hB)
                  have HHp := Lib.hid ((hB.block bp hbpW).trans HWP.out)
                  have hsz3 : X.heap.size ≤ w3.heap.size := by have := hB.size; omega
                  have HBp := Lib.hid (noneByt w3)
                  have HBq := Lib.hid (noneByt w3)
                  have HXL : Hid (([] : List Int).length = 0) := Lib.hid rfl
                  have HXBy : Hid (∀ y ∈ ([] : List Int), 0 ≤ y ∧ y ≤ 255) := Lib.hid (fun y hy => by cases hy)
                  have HSp : Hid (0 < 0 → ∃ b, (none : Option Addr) = some ⟨b, 0, none⟩ ∧ X.heap.size ≤ b ∧ U8s w3 b 0) := Lib.hid (fun h => absurd h (Nat.lt_irrefl 0))
                  have hmm : 0 ≤ 1000000 := by omega
                  clear hB
                  
                  have P0 := fun o => (((Below.refl w3.heap.size w3).alloc (Nat.le_refl _) o).cell (p := ⟨bp, 0, none⟩) (Array.getElem?_eq_some_iff.1 HHp.out).1).trans (cell_of HHp.out 0)
                  have P1 := fun o => (((Below.refl w3.heap.size w3).alloc (Nat.le_refl _) o).cell (p := ⟨bp, 1, none⟩) (Array.getElem?_eq_some_iff.1 HHp.out).1).trans (cell_of HHp.out 1)
                  obtain ⟨b3, hb3⟩ : ∃ b3, w3.heap.size = b3 := ⟨_, rfl⟩
                  have HB3E := Lib.hid hb3
                  have HSZ3 := Lib.hid hsz3
                  clear hb3 hsz3
                  go_wp2_with fail
                  obtain ⟨W5, hW5⟩ : ∃ W5, W5 = ((w3.alloc (Obj.cells #[.int .u32 0, .slice none 0 0] 79)).alloc (Obj.cells #[.int .u32 0, .slice none 0 0] 38)).alloc (Obj.cells #[.int .u32 0, .slice none 0 0] 79) := ⟨_, rfl⟩
                  rw [← hW5]
                  have hB35 : Below w3.heap.size w3 W5 := by rw [hW5]; exact (((Below.refl _ _).alloc (Nat.le_refl _) _).alloc (by simp) _).alloc (by simp; omega) _
                  have hW5p : W5.heap[w3.heap.size + 1]? = some (.cells #[.int .u32 0, .slice none 0 0] 38 (0, 0)) := by
                    rw [hW5]
                    exact (((Below.refl _ _).alloc (Nat.le_refl _) _).block (w3.heap.size + 1) (by simp)).trans ((congrArg _ (by simp)).trans (heap_alloc_new (w3.alloc (Obj.cells #[.int .u32 0, .slice none 0 0] 79)) _))
                  have hW5q : W5.heap[w3.heap.size + 1 + 1]? = some (.cells #[.int .u32 0, .slice none 0 0] 79 (0, 0)) := by
                    rw [hW5]
                    exact (congrArg _ (by simp)).trans (heap_alloc_new ((w3.alloc (Obj.cells #[.int .u32 0, .slice none 0 0] 79)).alloc (Obj.cells #[.int .u32 0, .slice none 0 0] 38)) _)
                  refine (same_any _ _ [(0, [])] W5 (PlAt.one hW5p HXL.out (HBp.out.below hB35) HXBy.out _) (PlAt.one hW5q HXL.out (HBq.out.below hB35) HXBy.out _) (by simp)).mono ?_
                  rintro e w6 ⟨rfl, nq, rfl⟩
                  have hB36 : Below w3.heap.size w3 (W5.drewN nq) := hB35.trans (below_drewN (Below.refl _ _) _)
                  have P0 := (hB36.cell (p := ⟨bp, 0, none⟩) (Array.getElem?_eq_some_iff.1 HHp.out).1).trans (cell_of HHp.out 0)
                  have P1 := (hB36.cell (p := ⟨bp, 1, none⟩) (Array.getElem?_eq_some_iff.1 HHp.out).1).trans (cell_of HHp.out 1)
                  obtain ⟨W6, hW6⟩ : ∃ W6, W6 = W5.drewN nq := ⟨_, rfl⟩
                  rw [← hW6] at hB36 P0 P1 ⊢
                  have HB36 := Lib.hid hB36
                  clear hW5 hB35 hW5p hW5q hB36 hW6
                  go_wp2_with fail
                  obtain ⟨W7, hW7⟩ : ∃ W7, W7 = W6.alloc (Obj.cells #[.int .u32 0, .slice none 0 0] 38) := ⟨_, rfl⟩
                  rw [← hW7]
                  have hB37 : Below w3.heap.size w3 W7 := by rw [hW7]; exact HB36.out.trans ((Below.refl _ _).alloc HB36.out.size _)
                  have hW7p : W7.heap[W6.heap.size]? = some (.cells #[.int .u32 0, .slice none 0 0] 38 (0, 0)) := by rw [hW7]; exact heap_alloc_new W6 _
                  refine (spoil_any X.heap.size 1 1 (some ⟨W6.heap.size, 0, none⟩) W7 (SpAt.one hW7p hmm (fun h => by obtain ⟨b, e, q1, q2⟩ := HSp.out h; exact ⟨b, e, q1, q2.below hB37 q2.lt⟩)) (Nat.le_trans HSZ3.out hB37.size) (by omega)).mono ?_
                  rintro e w8 ⟨rfl, hb8⟩
                  have HB8 : Hid (Below X.heap.size w3 w8) := Lib.hid ((hB37.mono HSZ3.out).trans hb8)
                  clear hb8 hB37 hW7p hW7 P0 P1
                  go_wp2_with fail
                  go_meet
                  case rel =>
                    exact ⟨g, s, A, c, a, ws, RA, rc, rfl, {
                      ok := HP3.out.ok
                      buf := HPX.out.buf.under (s := s) rfl (Nat.le_refl _) HP3.out.buf HB8.out
                      rb := HPX.out.rb.under (Nat.le_refl _) HP3.out.rb HB8.out
                      len := by have := HPX.out.len; omega
                      bel := HP3.out.bel.trans (HB8.out.mono HPX.out.bel.size)
                      og := HPX.out.og
                      oh := HPX.out.oh }⟩
              | true =>
                by_cases hlat : s.data.length = 0 ∨ nw < s.alarm
                · as_aux_lemma =>
                    have HTK := Lib.hid (tick_later g c A s x.mss nw X HPX.out.buf HPX.out.ok hmay hlat)
                    have HRTK := Lib.hid (fun W (hr : Rb W h RA rc una ws a s) => rtick_later h rc a RA una ws s x.mss nw W hr hmay hlat)
                    clear hmay hlat
                    go_wp2_with fail
                    refine HTK.out.mono ?_
                    rintro e w2 ⟨rfl, hB⟩
                    have HP2 := Lib.hid (HPX.out.move hB)
                    have B2 := fun o => ((hB.trans ((Below.refl _ _).alloc (by have := hB.size; omega) o)).cell (p := ⟨bo, 2, none⟩) (by show bo < _; omega)).trans B2
                    have B5 := fun o => ((hB.trans ((Below.refl _ _).alloc (by have := hB.size; omega) o)).cell (p := ⟨bo, 5, none⟩) (by show bo < _; omega)).trans B5
                    have hsz2 : X.heap.size ≤ w2.heap.size := hB.size
                    clear hB
                    go_wp2_with fail
                    obtain ⟨W, hW⟩ : ∃ W, W = w2.alloc (Obj.cells #[.int .u32 0, .slice none 0 0] 38) := ⟨_, rfl⟩
                    obtain ⟨bp, hbp⟩ : ∃ bp, w2.heap.size = bp := ⟨_, rfl⟩
                    rw [← hW, hbp]
                    have hWB : Below w2.heap.size w2 W := by rw [hW]; exact (Below.refl _ _).alloc (Nat.le_refl _) _
                    have HPW := Lib.hid (HP2.out.move hWB)
                    have hWp : W.heap[bp]? = some (.cells #[.int .u32 0, .slice none 0 0] 38 (0, 0)) := by rw [hW, ← hbp]; exact heap_alloc_new w2 _
                    have hszW := hWB.size
                    have hbpW : bp < W.heap.size := (Array.getElem?_eq_some_iff.1 hWp).1
                    have HWP := Lib.hid hWp
                    clear hW hWB hWp hbp B2 B5
                    refine (HRTK.out _ HPW.out.rb).mono ?_
                    rintro e w3 ⟨rfl, hB⟩
                    have HP3 := Lib.hid (HPW.out.move hB)
                    have HHp := Lib.hid ((hB.block bp hbpW).trans HWP.out)
                    have hsz3 : X.heap.size ≤ w3.heap.size := by have := hB.size; omega
                    have HBp := Lib.hid (noneByt w3)
                    have HBq := Lib.hid (noneByt w3)
                    have HXL : Hid (([] : List Int).length = 0) := Lib.hid rfl
                    have HXBy : Hid (∀ y ∈ ([] : List Int), 0 ≤ y ∧ y ≤ 255) := Lib.hid (fun y hy => by cases hy)
                    have HSp : Hid (0 < 0 → ∃ b, (none : Option Addr) = some ⟨b, 0, none⟩ ∧ X.heap.size ≤ b ∧ U8s w3 b 0) := Lib.hid (fun h => absurd h (Nat.lt_irrefl 0))
                    have hmm : 0 ≤ 1000000 := by omega
                    clear hB
                    
                    have P0 := fun o => (((Below.refl w3.heap.size w3).alloc (Nat.le_refl _) o).cell (p := ⟨bp, 0, none⟩) (Array.getElem?_eq_some_iff.1 HHp.out).1).trans (cell_of HHp.out 0)
                    have P1 := fun o => (((Below.refl w3.heap.size w3).alloc (Nat.le_refl _) o).cell (p := ⟨bp, 1, none⟩) (Array.getElem?_eq_some_iff.1 HHp.out).1).trans (cell_of HHp.out 1)
                    obtain ⟨b3, hb3⟩ : ∃ b3, w3.heap.size = b3 := ⟨_, rfl⟩
                    have HB3E := Lib.hid hb3
                    have HSZ3 := Lib.hid hsz3
                    clear hb3 hsz3
                    go_wp2_with fail
                    obtain ⟨W5, hW5⟩ : ∃ W5, W5 = ((w3.alloc (Obj.cells #[.int .u32 0, .slice none 0 0] 79)).alloc (Obj.cells #[.int .u32 0, .slice none 0 0] 38)).alloc (Obj.cells #[.int .u32 0, .slice none 0 0] 79) := ⟨_, rfl⟩
                    rw [← hW5]
                    have hB35 : Below w3.heap.size w3 W5 := by rw [hW5]; exact (((Below.refl _ _).alloc (Nat.le_refl _) _).alloc (by simp) _).alloc (by simp; omega) _
                    have hW5p : W5.heap[w3.heap.size + 1]? = some (.cells #[.int .u32 0, .slice none 0 0] 38 (0, 0)) := by
                      rw [hW5]
                      exact (((Below.refl _ _).alloc (Nat.le_refl _) _).block (w3.heap.size + 1) (by simp)).trans ((congrArg _ (by simp)).trans (heap_alloc_new (w3.alloc (Obj.cells #[.int .u32 0, .slice none 0 0] 79)) _))
                    have hW5q : W5.heap[w3.heap.size + 1 + 1]? = some (.cells #[.int .u32 0, .slice none 0 0] 79 (0, 0)) := by
                      rw [hW5]
                      exact (congrArg _ (by simp)).trans (heap_alloc_new ((w3.alloc (Obj.cells #[.int .u32 0, .slice none 0 0] 79)).alloc (Obj.cells #[.int .u32 0, .slice none 0 0] 38)) _)
                    refine (same_any _ _ [(0, [])] W5 (PlAt.one hW5p HXL.out (HBp.out.below hB35) HXBy.out _) (PlAt.one hW5q HXL.out (HBq.out.below hB35) HXBy.out _) (by simp)).mono ?_
                    rintro e w6 ⟨rfl, nq, rfl⟩
                    have hB36 : Below w3.heap.size w3 (W5.drewN nq) := hB35.trans (below_drewN (Below.refl _ _) _)
                    have P0 := (hB36.cell (p := ⟨bp, 0, none⟩) (Array.getElem?_eq_some_iff.1 HHp.out).1).trans (cell_of HHp.out 0)
                    have P1 := (hB36.cell (p := ⟨bp, 1, none⟩) (Array.getElem?_eq_some_iff.1 HHp.out).1).trans (cell_of HHp.out 1)
                    obtain ⟨W6, hW6⟩ : ∃ W6, W6 = W5.drewN nq := ⟨_, rfl⟩
                    rw [← hW6] at hB36 P0 P1 ⊢
                    have HB36 := Lib.hid hB36
                    clear hW5 hB35 hW5p hW5q hB36 hW6
                    go_wp2_with fail
                    obtain ⟨W7, hW7⟩ : ∃ W7, W7 = W6.alloc (Obj.cells #[.int .u32 0, .slice none 0 0] 38) := ⟨_, rfl⟩
                    rw [← hW7]
                    have hB37 : Below w3.heap.size w3 W7 := by rw [hW7]; exact HB36.out.trans ((Below.refl _ _).alloc HB36.out.size _)
                    have hW7p : W7.heap[W6.heap.size]? = some (.cells #[.int .u32 0, .slice none 0 0] 38 (0, 0)) := by rw [hW7]; exact heap_alloc_new W6 _
                    refine (spoil_any X.heap.size 1 1 (some ⟨W6.heap.size, 0, none⟩) W7 (SpAt.one hW7p hmm (fun h => by obtain ⟨b, e, q1, q2⟩ := HSp.out h; exact ⟨b, e, q1, q2.below hB37 q2.lt⟩)) (Nat.le_trans HSZ3.out hB37.size) (by omega)).mono ?_
                    rintro e w8 ⟨rfl, hb8⟩
                    have HB8 : Hid (Below X.heap.size w3 w8) := Lib.hid ((hB37.mono HSZ3.out).trans hb8)
                    clear hb8 hB37 hW7p hW7 P0 P1
                    go_wp2_with fail
                    go_meet
                    case rel =>
                      exact ⟨g, s, A, c, a, ws, RA, rc, rfl, {
                        ok := HP3.out.ok
                        buf := HPX.out.buf.under (s := s) rfl (Nat.le_refl _) HP3.out.buf HB8.out
                        rb := HPX.out.rb.under (Nat.le_refl _) HP3.out.rb HB8.out
                        len := by have := HPX.out.len; omega
                        bel := HP3.out.bel.trans (HB8.out.mono HPX.out.bel.size)
                        og := HPX.out.og
                        oh := HPX.out.oh }⟩
                · by_cases hful : s.count = s.tries
                  · as_aux_lemma =>
                      have hl1 : 0 < s.data.length := by omega
                      have hl2 : s.alarm ≤ nw := by omega
                      
                      have HTK := Lib.hid (tick_full g c A s x.mss nw X HPX.out.buf HPX.out.ok hmay hl1 hl2 hful)
                      have HRTK := Lib.hid (fun W (hr : Rb W h RA rc una ws a s) => rtick_full h rc a RA una ws s x.mss nw W hr hmay hl1 hl2 hful)
                      clear hmay hlat hl1 hl2 hful
                      go_wp2_with fail
                      refine HTK.out.mono ?_
                      rintro e w2 ⟨rfl, hB⟩
                      have HP2 := Lib.hid (HPX.out.move hB)
                      have B2 := fun o => ((hB.trans ((Below.refl _ _).alloc (by have := hB.size; omega) o)).cell (p := ⟨bo, 2, none⟩) (by show bo < _; omega)).trans B2
                      have B5 := fun o => ((hB.trans ((Below.refl _ _).alloc (by have := hB.size; omega) o)).cell (p := ⟨bo, 5, none⟩) (by show bo < _; omega)).trans B5
                      have hsz2 : X.heap.size ≤ w2.heap.size := hB.size
                      clear hB
                      go_wp2_with fail
                      obtain ⟨W, hW⟩ : ∃ W, W = w2.alloc (Obj.cells #[.int .u32 0, .slice none 0 0] 38) := ⟨_, rfl⟩
                      obtain ⟨bp, hbp⟩ : ∃ bp, w2.heap.size = bp := ⟨_, rfl⟩
                      rw [← hW, hbp]
                      have hWB : Below w2.heap.size w2 W := by rw [hW]; exact (Below.refl _ _).alloc (Nat.le_refl _) _
                      have HPW := Lib.hid (HP2.out.move hWB)
                      have hWp : W.heap[bp]? = some (.cells #[.int .u32 0, .slice none 0 0] 38 (0, 0)) := by rw [hW, ← hbp]; exact heap_alloc_new w2 _
                      have hszW := hWB.size
                      have hbpW : bp < W.heap.size := (Array.getElem?_eq_some_iff.1 hWp).1
                      have HWP := Lib.hid hWp
                      clear hW hWB hWp hbp B2 B5
                      refine (HRTK.out _ HPW.out.rb).mono ?_
                      rintro e w3 ⟨rfl, hB⟩
                      have HP3 := Lib.hid (HPW.out.move hB)
                      have HHp := Lib.hid ((hB.block bp hbpW).trans HWP.out)
                      have hsz3 : X.heap.size ≤ w3.heap.size := by have := hB.size; omega
                      have HBp := Lib.hid (noneByt w3)
                      have HBq := Lib.hid (noneByt w3)
                      have HXL : Hid (([] : List Int).length = 0) := Lib.hid rfl
                      have HXBy : Hid (∀ y ∈ ([] : List Int), 0 ≤ y ∧ y ≤ 255) := Lib.hid (fun y hy => by cases hy)
                      have HSp : Hid (0 < 0 → ∃ b, (none : Option Addr) = some ⟨b, 0, none⟩ ∧ X.heap.size ≤ b ∧ U8s w3 b 0) := Lib.hid (fun h => absurd h (Nat.lt_irrefl 0))
                      have hmm : 0 ≤ 1000000 := by omega
                      clear hB
                      
                      have P0 := fun o => (((Below.refl w3.heap.size w3).alloc (Nat.le_refl _) o).cell (p := ⟨bp, 0, none⟩) (Array.getElem?_eq_some_iff.1 HHp.out).1).trans (cell_of HHp.out 0)
                      have P1 := fun o => (((Below.refl w3.heap.size w3).alloc (Nat.le_refl _) o).cell (p := ⟨bp, 1, none⟩) (Array.getElem?_eq_some_iff.1 HHp.out).1).trans (cell_of HHp.out 1)
                      obtain ⟨b3, hb3⟩ : ∃ b3, w3.heap.size = b3 := ⟨_, rfl⟩
                      have HB3E := Lib.hid hb3
                      have HSZ3 := Lib.hid hsz3
                      clear hb3 hsz3
                      go_wp2_with fail
                      obtain ⟨W5, hW5⟩ : ∃ W5, W5 = ((w3.alloc (Obj.cells #[.int .u32 0, .slice none 0 0] 79)).alloc (Obj.cells #[.int .u32 0, .slice none 0 0] 38)).alloc (Obj.cells #[.int .u32 0, .slice none 0 0] 79) := ⟨_, rfl⟩
                      rw [← hW5]
                      have hB35 : Below w3.heap.size w3 W5 := by rw [hW5]; exact (((Below.refl _ _).alloc (Nat.le_refl _) _).alloc (by simp) _).alloc (by simp; omega) _
                      have hW5p : W5.heap[w3.heap.size + 1]? = some (.cells #[.int .u32 0, .slice none 0 0] 38 (0, 0)) := by
                        rw [hW5]
                        exact (((Below.refl _ _).alloc (Nat.le_refl _) _).block (w3.heap.size + 1) (by simp)).trans ((congrArg _ (by simp)).trans (heap_alloc_new (w3.alloc (Obj.cells #[.int .u32 0, .slice none 0 0] 79)) _))
                      have hW5q : W5.heap[w3.heap.size + 1 + 1]? = some (.cells #[.int .u32 0, .slice none 0 0] 79 (0, 0)) := by
                        rw [hW5]
                        exact (congrArg _ (by simp)).trans (heap_alloc_new ((w3.alloc (Obj.cells #[.int .u32 0, .slice none 0 0] 79)).alloc (Obj.cells #[.int .u32 0, .slice none 0 0] 38)) _)
                      refine (same_any _ _ [(0, [])] W5 (PlAt.one hW5p HXL.out (HBp.out.below hB35) HXBy.out _) (PlAt.one hW5q HXL.out (HBq.out.below hB35) HXBy.out _) (by simp)).mono ?_
                      rintro e w6 ⟨rfl, nq, rfl⟩
                      have hB36 : Below w3.heap.size w3 (W5.drewN nq) := hB35.trans (below_drewN (Below.refl _ _) _)
                      have P0 := (hB36.cell (p := ⟨bp, 0, none⟩) (Array.getElem?_eq_some_iff.1 HHp.out).1).trans (cell_of HHp.out 0)
                      have P1 := (hB36.cell (p := ⟨bp, 1, none⟩) (Array.getElem?_eq_some_iff.1 HHp.out).1).trans (cell_of HHp.out 1)
                      obtain ⟨W6, hW6⟩ : ∃ W6, W6 = W5.drewN nq := ⟨_, rfl⟩
                      rw [← hW6] at hB36 P0 P1 ⊢
                      have HB36 := Lib.hid hB36
                      clear hW5 hB35 hW5p hW5q hB36 hW6
                      go_wp2_with fail
                      obtain ⟨W7, hW7⟩ : ∃ W7, W7 = W6.alloc (Obj.cells #[.int .u32 0, .slice none 0 0] 38) := ⟨_, rfl⟩
                      rw [← hW7]
                      have hB37 : Below w3.heap.size w3 W7 := by rw [hW7]; exact HB36.out.trans ((Below.refl _ _).alloc HB36.out.size _)
                      have hW7p : W7.heap[W6.heap.size]? = some (.cells #[.int .u32 0, .slice none 0 0] 38 (0, 0)) := by rw [hW7]; exact heap_alloc_new W6 _
                      refine (spoil_any X.heap.size 1 1 (some ⟨W6.heap.size, 0, none⟩) W7 (SpAt.one hW7p hmm (fun h => by obtain ⟨b, e, q1, q2⟩ := HSp.out h; exact ⟨b, e, q1, q2.below hB37 q2.lt⟩)) (Nat.le_trans HSZ3.out hB37.size) (by omega)).mono ?_
                      rintro e w8 ⟨rfl, hb8⟩
                      have HB8 : Hid (Below X.heap.size w3 w8) := Lib.hid ((hB37.mono HSZ3.out).trans hb8)
                      clear hb8 hB37 hW7p hW7 P0 P1
                      go_wp2_with fail
                      go_meet
                      case rel =>
                        exact ⟨g, s, A, c, a, ws, RA, rc, rfl, {
                          ok := HP3.out.ok
                          buf := HPX.out.buf.under (s := s) rfl (Nat.le_refl _) HP3.out.buf HB8.out
                          rb := HPX.out.rb.under (Nat.le_refl _) HP3.out.rb HB8.out
                          len := by have := HPX.out.len; omega
                          bel := HP3.out.bel.trans (HB8.out.mono HPX.out.bel.size)
                          og := HPX.out.og
                          oh := HPX.out.oh }⟩
                  · as_aux_lemma =>
                      have hl1 : 0 < s.data.length := by omega
                      have hl2 : s.alarm ≤ nw := by omega
                      have hct : s.count < s.tries := by have := HPX.out.ok.count; omega
                      have hmay2 : 1 ≤ x.mss := by unfold mayB at hmay; have := of_decide_eq_true hmay; omega
                      have HTK := Lib.hid (tick_some g c A s x.mss nw X HPX.out.buf HPX.out.ok hmay hl1 hl2 hct hnw0 hnw1)
                      have HRTK := Lib.hid (fun W (hr : Rb W h RA rc una ws a s) => rtick_some h rc a RA una ws s x.mss nw W hr HPX.out.ok hmay hl1 hl2 hct hnw0 hnw1)
                      obtain ⟨tt, htt⟩ : ∃ tt, tickTo s x.mss = tt := ⟨_, rfl⟩
                      obtain ⟨pu, hpu⟩ : ∃ pu, s.una = pu := ⟨_, rfl⟩
                      have htl : tt ≤ s.data.length := by rw [← htt]; exact tickTo_le s x.mss hmay2 hl1
                      have HOK2 := Lib.hid (tickSt_ok s x.mss nw HPX.out.ok hmay2 hl1 hct hnw0 hnw1)
                      rw [htt, hpu] at HTK HRTK
                      obtain ⟨S2, hS2⟩ : ∃ S2, S2 = tickSt s x.mss nw := ⟨_, rfl⟩
                      rw [← hS2] at HTK HRTK HOK2
                      have HS2 : Hid (S2.data = s.data) := Lib.hid (by rw [hS2]; rfl)
                      have HTL := Lib.hid htl
                      clear hmay hlat hful hl1 hl2 hct hmay2 htt hpu htl hS2
                      go_wp2_with fail
                      refine HTK.out.mono ?_
                      rintro e w2 ⟨v2, rfl, ho2, hg2, hb2⟩
                      obtain ⟨Ap, kp, hv2⟩ := own_len ho2
                      subst hv2
                      have HO2 := Lib.hid ho2
                      have HG2 := Lib.hid hg2
                      have HB2 := Lib.hid hb2
                      have B2 := fun o => (((Below.refl w2.heap.size w2).alloc (Nat.le_refl _) o).cell (p := ⟨bo, 2, none⟩) (by have := hg2.size; show bo < _; omega)).trans (hg2.cell B2 (by simp; omega))
                      have B5 := fun o => (((Below.refl w2.heap.size w2).alloc (Nat.le_refl _) o).cell (p := ⟨bo, 5, none⟩) (by have := hg2.size; show bo < _; omega)).trans (hg2.cell B5 (by simp; omega))
                      have hsz2 : X.heap.size ≤ w2.heap.size := hg2.size
                      clear ho2 hg2 hb2
                      go_wp2_with fail
                      obtain ⟨W, hW⟩ : ∃ W, W = w2.alloc (Obj.cells #[.int .u32 pu, .slice Ap tt kp] 38) := ⟨_, rfl⟩
                      obtain ⟨bp, hbp⟩ : ∃ bp, w2.heap.size = bp := ⟨_, rfl⟩
                      rw [← hW, hbp]
                      have hWB : Below w2.heap.size w2 W := by rw [hW]; exact (Below.refl _ _).alloc (Nat.le_refl _) _
                      have hWp : W.heap[bp]? = some (.cells #[.int .u32 pu, .slice Ap tt kp] 38 (0, 0)) := by rw [hW, ← hbp]; exact heap_alloc_new w2 _
                      have HRW := Lib.hid ((HPX.out.rb.beside HPX.out.buf HG2.out).below hWB)
                      have HBW2 := Lib.hid (HB2.out.below hWB)
                      have HOW := Lib.hid (kept_row HO2.out (row := none) (grown_below hWB) (by simp))
                      have HBelW : Hid (Below w.heap.size w W) := Lib.hid ((grown_bel HPX.out.bel HG2.out (by intro k hk; cases hk; exact HPX.out.og)).trans (hWB.mono (Nat.le_trans HPX.out.bel.size HG2.out.size)))
                      have hszW := hWB.size
                      have hbpW : bp < W.heap.size := (Array.getElem?_eq_some_iff.1 hWp).1
                      have HWP := Lib.hid hWp
                      have hbph : bp ≠ h := by omega
                      clear hW hWB hWp hbp B2 B5
                      refine (HRTK.out _ HRW.out).mono ?_
                      rintro e w3 ⟨v3, rfl, ho3, hg3, hb3⟩
                      obtain ⟨Aq, kq, hv3⟩ := own_len ho3
                      subst hv3
                      have HHp := Lib.hid ((hg3.block bp hbpW (by intro e; injection e; omega)).trans HWP.out)
                      have hsz3 : X.heap.size ≤ w3.heap.size := by have := hg3.size; omega
                      have HOP3 := Lib.hid (kept_row HOW.out hg3 (by intro k hk; cases hk; omega))
                      have HP3 : Hid (Py w h una (5000 * i) w3 g S2 A c a ws RA rc) := Lib.hid {
                        ok := HOK2.out
                        buf := HBW2.out.besideR HRW.out hg3
                        rb := hb3
                        len := HPX.out.len
                        bel := grown_bel HBelW.out hg3 (by intro k hk; cases hk; exact HPX.out.oh)
                        og := HPX.out.og
                        oh := HPX.out.oh }
                      obtain ⟨xs, hxs⟩ : ∃ xs, s.data.take tt = xs := ⟨_, rfl⟩
                      have HXL : Hid (xs.length = tt) := Lib.hid (by rw [← hxs, List.length_take]; have := HTL.out; omega)
                      have HXBy : Hid (∀ y ∈ xs, 0 ≤ y ∧ y ≤ 255) := Lib.hid (fun y hy => HPX.out.ok.byte y (List.mem_of_mem_take (by rw [hxs]; exact hy)))
                      rw [hxs] at ho3 HOP3
                      have HBp := Lib.hid (own_byt HOP3.out)
                      have HBq := Lib.hid (own_byt ho3)
                      have HSp : Hid (0 < tt → ∃ b, Ap = some ⟨b, 0, none⟩ ∧ X.heap.size ≤ b ∧ U8s w3 b tt) := Lib.hid (fun h => by
                        obtain ⟨b, k, e, q1, q2⟩ := u8s_own HOP3.out h
                        injection e with e _ _
                        exact ⟨b, e, q1, q2⟩)
                      have hmm : tt ≤ 1000000 := by have := HTL.out; have := HPX.out.ok.len; omega
                      clear ho3 hg3 hb3 hxs
                      
                      have P0 := fun o => (((Below.refl w3.heap.size w3).alloc (Nat.le_refl _) o).cell (p := ⟨bp, 0, none⟩) (Array.getElem?_eq_some_iff.1 HHp.out).1).trans (cell_of HHp.out 0)
                      have P1 := fun o => (((Below.refl w3.heap.size w3).alloc (Nat.le_refl _) o).cell (p := ⟨bp, 1, none⟩) (Array.getElem?_eq_some_iff.1 HHp.out).1).trans (cell_of HHp.out 1)
                      obtain ⟨b3, hb3⟩ : ∃ b3, w3.heap.size = b3 := ⟨_, rfl⟩
                      have HB3E := Lib.hid hb3
                      have HSZ3 := Lib.hid hsz3
                      clear hb3 hsz3
                      go_wp2_with fail
                      obtain ⟨W5, hW5⟩ : ∃ W5, W5 = ((w3.alloc (Obj.cells #[.int .u32 pu, .slice Aq tt kq] 79)).alloc (Obj.cells #[.int .u32 pu, .slice Ap tt kp] 38)).alloc (Obj.cells #[.int .u32 pu, .slice Aq tt kq] 79) := ⟨_, rfl⟩
                      rw [← hW5]
                      have hB35 : Below w3.heap.size w3 W5 := by rw [hW5]; exact (((Below.refl _ _).alloc (Nat.le_refl _) _).alloc (by simp) _).alloc (by simp; omega) _
                      have hW5p : W5.heap[w3.heap.size + 1]? = some (.cells #[.int .u32 pu, .slice Ap tt kp] 38 (0, 0)) := by
                        rw [hW5]
                        exact (((Below.refl _ _).alloc (Nat.le_refl _) _).block (w3.heap.size + 1) (by simp)).trans ((congrArg _ (by simp)).trans (heap_alloc_new (w3.alloc (Obj.cells #[.int .u32 pu, .slice Aq tt kq] 79)) _))
                      have hW5q : W5.heap[w3.heap.size + 1 + 1]? = some (.cells #[.int .u32 pu, .slice Aq tt kq] 79 (0, 0)) := by
                        rw [hW5]
                        exact (congrArg _ (by simp)).trans (heap_alloc_new ((w3.alloc (Obj.cells #[.int .u32 pu, .slice Aq tt kq] 79)).alloc (Obj.cells #[.int .u32 pu, .slice Ap tt kp] 38)) _)
                      refine (same_any _ _ [(pu, xs)] W5 (PlAt.one hW5p HXL.out (HBp.out.below hB35) HXBy.out _) (PlAt.one hW5q HXL.out (HBq.out.below hB35) HXBy.out _) (by simp)).mono ?_
                      rintro e w6 ⟨rfl, nq, rfl⟩
                      have hB36 : Below w3.heap.size w3 (W5.drewN nq) := hB35.trans (below_drewN (Below.refl _ _) _)
                      have P0 := (hB36.cell (p := ⟨bp, 0, none⟩) (Array.getElem?_eq_some_iff.1 HHp.out).1).trans (cell_of HHp.out 0)
                      have P1 := (hB36.cell (p := ⟨bp, 1, none⟩) (Array.getElem?_eq_some_iff.1 HHp.out).1).trans (cell_of HHp.out 1)
                      obtain ⟨W6, hW6⟩ : ∃ W6, W6 = W5.drewN nq := ⟨_, rfl⟩
                      rw [← hW6] at hB36 P0 P1 ⊢
                      have HB36 := Lib.hid hB36
                      clear hW5 hB35 hW5p hW5q hB36 hW6
                      go_wp2_with fail
                      obtain ⟨W7, hW7⟩ : ∃ W7, W7 = W6.alloc (Obj.cells #[.int .u32 pu, .slice Ap tt kp] 38) := ⟨_, rfl⟩
                      rw [← hW7]
                      have hB37 : Below w3.heap.size w3 W7 := by rw [hW7]; exact HB36.out.trans ((Below.refl _ _).alloc HB36.out.size _)
                      have hW7p : W7.heap[W6.heap.size]? = some (.cells #[.int .u32 pu, .slice Ap tt kp] 38 (0, 0)) := by rw [hW7]; exact heap_alloc_new W6 _
                      refine (spoil_any X.heap.size 1 1 (some ⟨W6.heap.size, 0, none⟩) W7 (SpAt.one hW7p hmm (fun h => by obtain ⟨b, e, q1, q2⟩ := HSp.out h; exact ⟨b, e, q1, q2.below hB37 q2.lt⟩)) (Nat.le_trans HSZ3.out hB37.size) (by omega)).mono ?_
                      rintro e w8 ⟨rfl, hb8⟩
                      have HB8 : Hid (Below X.heap.size w3 w8) := Lib.hid ((hB37.mono HSZ3.out).trans hb8)
                      clear hb8 hB37 hW7p hW7 P0 P1
                      go_wp2_with fail
                      go_meet
                      case rel =>
                        exact ⟨g, S2, A, c, a, ws, RA, rc, rfl, {
                          ok := HP3.out.ok
                          buf := HPX.out.buf.under (s := S2) HS2.out (Nat.le_refl _) HP3.out.buf HB8.out
                          rb := HPX.out.rb.under (Nat.le_refl _) HP3.out.rb HB8.out
                          len := by have := HPX.out.len; omega
                          bel := HP3.out.bel.trans (HB8.out.mono HPX.out.bel.size)
                          og := HPX.out.og
                          oh := HPX.out.oh }⟩
            by_cases h4 : wh = 4
            · subst h4
              as_aux_lemma =>
                have kc := fun (w : World) (C : Array Value) (n c : Nat) => Lib.run_convert_bytes_const (P := Try.prog) w 34 5 C n c Try.underlying34 Try.underlying5
                have hm1 : mayB ((1 : Nat) : Int) = true := decide_eq_true ⟨by omega, by omega⟩
                have HCP := Lib.hid (copy_any g c A s X HPX.out.buf HPX.out.ok)
                go_wp2_with fail
                refine HCP.out.mono ?_
                rintro e w2 ⟨g2, A2, c2, rfl, hg2, hb2, hB⟩
                have HP2 := Lib.hid (HPX.out.move hB)
                have HB2 := Lib.hid hb2
                have hsz2 : X.heap.size ≤ w2.heap.size := hB.size
                have HS := Lib.hid (send_ok g c A s 1 w2 HP2.out.buf HP2.out.ok hm1)
                have hgne : g2 ≠ g := by omega
                clear hb2 hB hm1
                go_wp2_with fail
                refine HS.out.mono ?_
                rintro e w3 ⟨v3, rfl, hg3, hb3, -⟩
                have HB3 := Lib.hid hb3
                have HC3 := Lib.hid (HB2.out.beside HP2.out.buf hg3 hgne)
                have HR3 := Lib.hid (HP2.out.rb.beside HP2.out.buf hg3)
                have HBL3 := Lib.hid (grown_bel HP2.out.bel hg3 (by intro k hk; cases hk; exact HP2.out.og))
                have hsz3 : X.heap.size ≤ w3.heap.size := Nat.le_trans hsz2 hg3.size
                have HOKS : Hid (sendSt s).Ok := Lib.hid { HP2.out.ok with sent := by show max s.sent (sendEnd s) ≤ s.data.length; have := HP2.out.ok.sent; unfold sendEnd; omega }
                clear hg3 hb3
                go_wp2_with fail
                obtain ⟨W, hW⟩ : ∃ W, W = w3.alloc (Obj.cells #[.int .u8 120] 5 (1, 2)) := ⟨_, rfl⟩
                rw [← hW]
                have hWB : Below w3.heap.size w3 W := by rw [hW]; exact (Below.refl _ _).alloc (Nat.le_refl _) _
                have HBYW := Lib.hid (show Byt W (.slice (some ⟨w3.heap.size, 0, none⟩) 1 1) [120] by rw [hW]; exact Byt.const w3 [120] 1 (1, 2) rfl (by simp [maxLen]))
                have HBW := Lib.hid (HB3.out.below hWB)
                have HCW := Lib.hid (HC3.out.below hWB)
                have HRW := Lib.hid (HR3.out.below hWB)
                have HBLW := Lib.hid (HBL3.out.trans (hWB.mono HBL3.out.size))
                clear hW hWB
                have key : Calls Try.prog 12 #[.pointer (some ⟨g, 0, none⟩), .slice (some ⟨w3.heap.size, 0, none⟩) 1 1, .int .u64 0] W fun e w' => ∃ z, e = .returned (.int .i64 z) ∧ W.grownBy w' (some g) := by
                  by_cases hf : (sendSt s).data.length + 1 ≤ 16384
                  · refine (write_ok g c A (sendSt s) _ 1 1 [120] 0 W HBW.out HOKS.out rfl HBYW.out hf (by omega) (by omega) (by simp)).mono ?_
                    rintro e w' ⟨rfl, hg, _⟩
                    exact ⟨_, rfl, hg⟩
                  · refine (write_long g c A (sendSt s) _ 1 1 [120] 0 W HBW.out HOKS.out rfl HBYW.out hf (by omega)).mono ?_
                    rintro e w' ⟨rfl, rfl⟩
                    exact ⟨_, rfl, World.grownBy.refl _ _⟩
                refine key.mono ?_
                rintro e w5 ⟨z, rfl, hg5⟩
                have HG5 := Lib.hid hg5
                clear hg5 key
                go_wp2_with fail
                go_meet
                case rel =>
                  exact ⟨g2, s, A2, c2, a, ws, RA, rc, rfl, {
                    ok := HPX.out.ok
                    buf := HCW.out.beside HBW.out HG5.out hgne
                    rb := HRW.out.beside HBW.out HG5.out
                    len := by have := HPX.out.len; omega
                    bel := grown_bel HBLW.out HG5.out (by intro k hk; cases hk; exact HPX.out.og)
                    og := by have := HPX.out.bel.size; omega
                    oh := HPX.out.oh }⟩
            as_aux_lemma =>
              have z0 : (wh == 0) = false := by simp; exact h0
              have z1 : (wh == 1) = false := by simp; exact h1
              have z2 : (wh == 2) = false := by simp; exact h2
              have z3 : (wh == 3) = false := by simp; exact h3
              have z4 : (wh == 4) = false := by simp; exact h4
              go_wp2_with fail
              go_meet
              case rel => exact ⟨g, s, A, c, a, ws, RA, rc, rfl, { HPX.out with len := by have := HPX.out.len; omega }⟩
          case rest =>
            as_aux_lemma =>
            obtain ⟨g, s, A, c, a, ws, RA, rc, rfl, hpy⟩ := hcut
            obtain ⟨n, hn⟩ : ∃ n, s.data.length = n := ⟨_, rfl⟩
            obtain ⟨u, hu⟩ : ∃ u, s.una = u := ⟨_, rfl⟩
            obtain ⟨un, hun⟩ : ∃ un, addU s.una s.sent = un := ⟨_, rfl⟩
            obtain ⟨ue, hue⟩ : ∃ ue, addU s.una s.data.length = ue := ⟨_, rfl⟩
            obtain ⟨wn, hwn⟩ : ∃ wn, s.win = wn := ⟨_, rfl⟩
            obtain ⟨al, hal⟩ : ∃ al, s.alarm = al := ⟨_, rfl⟩
            have C4 : wc.cell? ⟨h, 4, none⟩ = some (.int .u32 wn) := by rw [hpy.rb.c4, hwn]
            have C8 : wc.cell? ⟨h, 8, none⟩ = some (.int .u64 al) := by rw [hpy.rb.c8, hal]
            have HN := Lib.hid hn
            have HU := Lib.hid hu
            have HUN := Lib.hid hun
            have HUE := Lib.hid hue
            have HWN := Lib.hid hwn
            have HAL := Lib.hid hal
            have HP := Lib.hid hpy
            have B2 := True.intro
            have B3 := True.intro
            clear hn hu hun hue hwn hal hpy B2 B3
            by_cases hl : 0 < n
            · have t1 : decide (0 < (n : Int)) = true := decide_eq_true (by omega)
              have t2 : decide (0 < n) = true := decide_eq_true hl
              have HAS := Lib.hid (alarm_some g c A s wc HP.out.buf HP.out.ok (by rw [HN.out]; exact hl))
              rw [HAL.out] at HAS
              go_wp2_with fail
              refine HAS.out.mono ?_
              rintro e w' ⟨rfl, rfl⟩
              go_wp2_with fail
              go_quiet ((first | (go_at_call 17; exact una_q HP.out.buf HP.out.ok HU.out _) | (go_at_call 33; exact runa_q HP.out.rb HU.out _) | (go_at_call 19; exact nxt_q HP.out.buf HP.out.ok HUN.out _) | (go_at_call 36; exact rnxt_q HP.out.rb HUN.out _) | (go_at_call 20; exact end_q HP.out.buf HP.out.ok HUE.out _) | (go_at_call 37; exact rend_q HP.out.rb HUE.out _) | (go_at_call 24; exact window_q HP.out.buf HP.out.ok HWN.out _) | (go_at_call 38; exact rleft_q HP.out.rb HN.out _)))
              go_wp2_with fail
              go_roundg (gk - 1)
              case measure => omega
              case rel => exact ⟨i + 1, by simp, by omega, by omega, by omega, g, s, A, c, a, ws, RA, rc, rfl, HP.out.move (below_drewN (Below.refl _ _) _)⟩
            · have t1 : decide (0 < (n : Int)) = false := decide_eq_false (by omega)
              have t2 : decide (0 < n) = false := decide_eq_false hl
              have HAS := Lib.hid (alarm_none g c A s wc HP.out.buf HP.out.ok (by rw [HN.out]; omega))
              go_wp2_with fail
              refine HAS.out.mono ?_
              rintro e w' ⟨rfl, rfl⟩
              go_wp2_with fail
              go_quiet ((first | (go_at_call 17; exact una_q HP.out.buf HP.out.ok HU.out _) | (go_at_call 33; exact runa_q HP.out.rb HU.out _) | (go_at_call 19; exact nxt_q HP.out.buf HP.out.ok HUN.out _) | (go_at_call 36; exact rnxt_q HP.out.rb HUN.out _) | (go_at_call 20; exact end_q HP.out.buf HP.out.ok HUE.out _) | (go_at_call 37; exact rend_q HP.out.rb HUE.out _) | (go_at_call 24; exact window_q HP.out.buf HP.out.ok HWN.out _) | (go_at_call 38; exact rleft_q HP.out.rb HN.out _)))
              go_wp2_with fail
              go_roundg (gk - 1)
              case measure => omega
              case rel => exact ⟨i + 1, by simp, by omega, by omega, by omega, g, s, A, c, a, ws, RA, rc, rfl, HP.out.move (below_drewN (Below.refl _ _) _)⟩
      · go_wp2_with fail
        go_ret
        exact ⟨rfl, hpy.bel⟩
end Go.Proofs.Ytpigomkhpdfdcaa
