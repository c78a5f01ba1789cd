/- The walk of RexmitTrue. -/
import Derived.Test.YtpigomkhpdfdcaaTrueLaw
import Derived.Test.YtpigomkhpdfdcaaMid
import Derived.Deep.DeepCutAuto
import Derived.Deep.CutBlock
import Derived.BigQuiet
import Derived.IntWalk
set_option linter.unusedVariables false
namespace Go.Proofs.Ytpigomkhpdfdcaa
open Go.RowKit Go.Deep Go.BigFrame
attribute [local go_sem ↓] Go.wp_at_zero Go.wp_at_succ

def TuRel (W0 : World) (BL bx b7 b8 b9 g ln : Nat) (AT : Int) (gk : Nat) (v51 v10 : Value) (wr : World) : Prop :=
  ∃ (i : Nat) (now : Int) (a t n : Nat) (ws : List Int) (vW : Value) (s : St) (A : Option Addr) (c : Nat), v51 = .int .i64 i ∧ v10 = .int .u64 now ∧ i + gk ≤ ln ∧ ln ≤ i + gk ∧ i ≤ 100 ∧ 0 ≤ now ∧ now ≤ 100 * i ∧ n ≤ 300 * i ∧
    Tu W0 BL bx b7 b8 b9 g AT wr a t n ws vW s A c
def TuMid (W0 : World) (BL bx b7 b8 b9 g : Nat) (AT : Int) (lim : Nat) (wr : World) : Prop :=
  ∃ (a t n : Nat) (ws : List Int) (vW : Value) (s : St) (A : Option Addr) (c : Nat), n ≤ lim ∧ Tu W0 BL bx b7 b8 b9 g AT wr a t n ws vW s A c
/-- What the loop over the pieces keeps: up to place r all was told. -/
def TuIn (w2 : World) (b9 a M S0 en N : Nat) (gj : Nat) (v118 v19 : Value) (wr : World) : Prop :=
  ∃ (j S r : Nat) (done : List (Nat × Nat)), v118 = .int .i64 j ∧ v19 = .int .i64 r ∧ a + S ≤ r ∧ r ≤ a + S ∧ j + gj ≤ N ∧ N ≤ j + gj ∧ done ++ pcsOf M S en = pcsOf M S0 en ∧ done.length = j ∧ S0 ≤ S ∧ (S ≤ en ∨ S = S0) ∧
    w2.grownBy wr (some b9) ∧ wr.heap[b9]? = some (.cells #[.int .i64 r] 3 (0, 0))
theorem seg_drop (ws : List Int) (a S T r L : Nat) (h1 : a + S ≤ r) (h2 : r ≤ a + S) (hL : S + L = T) : seg (ws.drop a) S T = (ws.drop r).take L := by
  unfold seg
  obtain rfl : a + S = r := by omega
  obtain rfl : T = S + L := by omega
  rw [List.drop_take, List.drop_drop]
  congr 1
  omega
def trueM (mss : Int) : Nat := (1 + (mss % 18446744073709551616) % 1460).toNat
theorem true_mss (mss : Int) : wrap64 (1 + wrap64 ((IntKind.u64.wrap mss).tmod 1460)) = (trueM mss : Int) := by
  have hw : IntKind.u64.wrap mss = mss % 18446744073709551616 := by simp [IntKind.wrap, IntKind.signed, IntKind.bits]
  rw [hw, Int.tmod_eq_emod_of_nonneg (by omega)]
  unfold trueM wrap64
  omega
theorem trueM_bd (mss : Int) : 1 ≤ trueM mss ∧ trueM mss ≤ 1460 := by unfold trueM; omega

set_option maxHeartbeats 20000000 in
set_option maxRecDepth 100000 in
theorem true_walk (una win rto tries : Int) (LA : Option Addr) (ln lc : Nat) (acts : List ActD) (w : World) (u0 : 0 ≤ una) (u1 : una ≤ 4294967295) (w0 : 0 ≤ win) (w1 : win ≤ 4294967295) (r0 : 0 ≤ rto) (r1 : rto ≤ 18446744073709551615)
    (hacts : Acts w LA ln acts) (hlc : ln ≤ lc) (hlm : lc ≤ maxLen) :
    Calls Try.prog 5 #[.agg #[.int .u32 una, .int .u32 win, .int .u64 rto, .int .i64 tries], .slice LA ln lc] w fun e w' => e = .returned (.bool true) ∧ Below w.heap.size w w' := by
  have HF := Lib.hid (fun w => fit_any una win rto tries w w0 w1 r0 r1)
  obtain ⟨f1, f2, f3, f4, f5, f6⟩ := fit_bd win rto tries
  obtain ⟨W, hW⟩ : ∃ W, fitW win = W := ⟨_, rfl⟩
  obtain ⟨R, hR⟩ : ∃ R, fitR rto = R := ⟨_, rfl⟩
  obtain ⟨T, hT⟩ : ∃ T, fitT tries = T := ⟨_, rfl⟩
  rw [hW, hR, hT] at HF
  rw [hW] at f1 f2
  rw [hR] at f3 f4
  rw [hT] at f5 f6
  clear hW hR hT w0 w1 r0 r1
  have HACT := Lib.hid hacts
  unfold maxLen at hlm
  clear hacts
  go_enter Try.func5, Try.ntmps5
  go_wp2_with fail
  refine (HF.out _).mono ?_
  rintro e x1 ⟨rfl, hb⟩
  have HX1 := Lib.hid (((Below.refl w.heap.size w).alloc (Nat.le_refl _) (Obj.cells #[.int .u32 una, .int .u32 win, .int .u64 rto, .int .i64 tries] 25)).trans (hb.mono (by simp)))
  have hs1 : w.heap.size < x1.heap.size := by have := hb.size; simp at this; omega
  have c0 := (hb.cell (p := ⟨w.heap.size, 0, none⟩) (by simp)).trans (show _ = some (.int .u32 una) by go_simp)
  have c1 := (hb.cell (p := ⟨w.heap.size, 1, none⟩) (by simp)).trans (show _ = some (.int .u32 win) by go_simp)
  have c2 := (hb.cell (p := ⟨w.heap.size, 2, none⟩) (by simp)).trans (show _ = some (.int .u64 rto) by go_simp)
  have c3 := (hb.cell (p := ⟨w.heap.size, 3, none⟩) (by simp)).trans (show _ = some (.int .i64 tries) by go_simp)
  have d0 := (hb.frozen (p := ⟨w.heap.size, 0, none⟩) (by simp)).trans (show _ = false by go_simp)
  have d1 := (hb.frozen (p := ⟨w.heap.size, 1, none⟩) (by simp)).trans (show _ = false by go_simp)
  have d2 := (hb.frozen (p := ⟨w.heap.size, 2, none⟩) (by simp)).trans (show _ = false by go_simp)
  have d3 := (hb.frozen (p := ⟨w.heap.size, 3, none⟩) (by simp)).trans (show _ = false by go_simp)
  clear hb
  go_upto_region 2 with (fail)
  obtain ⟨X2, hX2⟩ : ∃ X2, X2 = ((((x1.setCell ⟨w.heap.size, 0, none⟩ (.int .u32 una)).setCell ⟨w.heap.size, 1, none⟩ (.int .u32 W)).setCell ⟨w.heap.size, 2, none⟩ (.int .u64 R)).setCell ⟨w.heap.size, 3, none⟩ (.int .i64 T)) := ⟨_, rfl⟩
  rw [← hX2]
  have e0 : X2.cell? ⟨w.heap.size, 0, none⟩ = some (.int .u32 una) := by rw [hX2]; go_simp
  have e1 : X2.cell? ⟨w.heap.size, 1, none⟩ = some (.int .u32 W) := by rw [hX2]; go_simp
  have e2 : X2.cell? ⟨w.heap.size, 2, none⟩ = some (.int .u64 R) := by rw [hX2]; go_simp
  have e3 : X2.cell? ⟨w.heap.size, 3, none⟩ = some (.int .i64 T) := by rw [hX2]; go_simp
  have HX2 : Hid (Below w.heap.size w X2) := Lib.hid (by rw [hX2]; exact (((HX1.out.setCell (Nat.le_refl _) _).setCell (Nat.le_refl _) _).setCell (Nat.le_refl _) _).setCell (Nat.le_refl _) _)
  have hs2 : w.heap.size < X2.heap.size := by rw [hX2]; simp only [World.setCell, Array.size_modify]; omega
  clear hX2 c0 c1 c2 c3 d0 d1 d2 d3 HX1 hs1
  go_wp2_with fail
  refine (new_yes una W R T _ (decide_eq_true ⟨f3, by omega, by omega, by omega, by omega⟩)).mono ?_
  rintro e x3 ⟨rfl, hh, hB⟩
  obtain ⟨g, hg⟩ : ∃ g, X2.heap.size = g := ⟨_, rfl⟩
  rw [hg] at hh hB hs2 ⊢
  have e0 := (hB.cell (p := ⟨w.heap.size, 0, none⟩) hs2).trans e0
  have HX3 : Hid (Below w.heap.size w x3) := Lib.hid (HX2.out.trans (hB.mono (Nat.le_of_lt hs2)))
  have HBUF3 : Hid (Buf x3 g none 0 (newSt una W R T)) := Lib.hid ⟨hh, none, 0, rfl, Nat.le_refl _, by simp [maxLen], fun h => by simp [newSt] at h⟩
  have HOK3 : Hid ((newSt una W R T).Ok) := Lib.hid (newSt_ok una W R T u0 u1 (by omega) (decide_eq_true ⟨f3, by omega, by omega, by omega, by omega⟩))
  have lt3 := HBUF3.out.lt
  clear hh hB hg HX2 e1 e2 e3
  go_wp2_with fail
  refine (awake_any _).mono ?_
  rintro e x4 ⟨rfl, hb⟩
  have e0 := (hb.cell (p := ⟨w.heap.size, 0, none⟩) (Nat.lt_trans hs2 lt3)).trans e0
  have HX4 : Hid (Below w.heap.size w x4) := Lib.hid (HX3.out.trans (hb.mono HX3.out.size))
  have HBUF4 := Lib.hid (HBUF3.out.below hb)
  clear hb HX3 HBUF3 lt3
  have lt4 := HBUF4.out.lt
  go_wp2_with fail
  obtain ⟨b7, hb7⟩ : ∃ b7, x4.heap.size = b7 := ⟨_, rfl⟩
  obtain ⟨WL, hWL⟩ : ∃ WL, WL = ((x4.alloc (Obj.cells #[.slice none 0 0] 34)).alloc (Obj.cells #[.int .i64 0] 3)).alloc (Obj.cells #[.int .i64 0] 3) := ⟨_, rfl⟩
  rw [← hWL, hb7]
  have hBL : Below x4.heap.size x4 WL := by rw [hWL]; exact (((Below.refl _ _).alloc (Nat.le_refl _) _).alloc (by simp) _).alloc (by simp; omega) _
  have hsz : WL.heap.size = b7 + 3 := by rw [hWL, ← hb7]; simp
  have HTU : Hid (Tu w (b7 + 3) w.heap.size b7 (b7 + 1) (b7 + 1 + 1) g una WL 0 0 0 [] (.slice none 0 0) (newSt una W R T) none 0) := Lib.hid {
    len := rfl, le1 := Nat.le_refl _, le2 := Nat.le_refl _, byte := (fun x hx => by cases hx), data := rfl, una := (by show una = addU una 0; unfold addU; omega), sent := rfl, ok := HOK3.out, buf := HBUF4.out.below hBL
    b7 := by rw [hWL, ← hb7]; exact (((Below.refl _ _).alloc (Nat.le_refl _) _).alloc (by simp) _ |>.block x4.heap.size (by simp)).trans (heap_alloc_new x4 _)
    own := World.ownsRow_nil _ _ _ _
    b8 := by rw [hWL, ← hb7]; exact (((Below.refl _ _).alloc (Nat.le_refl _) _) |>.block (x4.heap.size + 1) (by simp)).trans ((congrArg _ (by simp)).trans (heap_alloc_new (x4.alloc (Obj.cells #[.slice none 0 0] 34)) _))
    b9 := by rw [hWL, ← hb7]; exact (congrArg _ (by simp)).trans (heap_alloc_new ((x4.alloc (Obj.cells #[.slice none 0 0] 34)).alloc (Obj.cells #[.int .i64 0] 3)) _)
    cx := (hBL.cell (p := ⟨w.heap.size, 0, none⟩) (by show w.heap.size < _; omega)).trans e0
    apart := (fun b hb => by cases hb)
    bel := HX4.out.trans (hBL.mono HX4.out.size)
    lbl := by rw [hsz]; exact Nat.le_refl _ }
  have lt7 : g < b7 := by omega
  have HB : Hid (TuB w (b7 + 3) w.heap.size b7 (b7 + 1) (b7 + 1 + 1) g) := Lib.hid ⟨Nat.le_refl _, by omega, by omega, by omega, by omega, by omega⟩
  clear hWL hBL hb7 HBUF4 HOK3 e0 HX4 lt4
  go_loopg [51, 10] ln (fun gk v51 v10 wr => TuRel w (b7 + 3) w.heap.size b7 (b7 + 1) (b7 + 1 + 1) g ln una gk v51 v10 wr)
  case atStart => exact ⟨0, 0, 0, 0, 0, [], _, _, none, 0, rfl, rfl, by omega, by omega, by omega, by omega, by omega, by omega, HTU.out⟩
  case round =>
    obtain ⟨i, now, a, t, n, ws, vW, s, A, c, rfl, rfl, k0, k1, i0, n0, n1, nl, htu⟩ := hrel
    by_cases hlt : i < ln
    · obtain ⟨x, hx⟩ : ∃ x, acts[i]? = some x := ⟨acts[i]'(by have := HACT.out.1; omega), List.getElem?_eq_getElem _⟩
      obtain ⟨hxo, b, o, rfl, hbl, hxa⟩ := HACT.out.2 i x hx
      have HXO := Lib.hid hxo
      obtain ⟨a0, a1, a2, a3, a4, a5⟩ := hxa.below htu.bel hbl
      have HTU := Lib.hid htu
      clear hx hxo hxa htu
      by_cases hi : i = 100
      · subst hi
        go_wp2_with fail
        go_ret
        exact ⟨rfl, HTU.out.bel.alloc HTU.out.bel.size _⟩
      · have hi100 : ((i : Int) == 100) = false := by simp; omega
        have xn0 := HXO.out.now0
        have xn1 := HXO.out.now1
        obtain ⟨d, hd⟩ : ∃ d : Nat, (if (300 : Int) < (x.dn : Int) then (300 : Int) else (x.dn : Int)) = (d : Int) := ⟨min x.dn 300, by split <;> omega⟩
        have hdm : d ≤ x.dn ∧ d ≤ 300 := by split at hd <;> omega
        obtain ⟨-, hdc, -⟩ := HXO.out.byt.len_eq
        have hsl := fun W => run_slice_hi x.dA x.dn x.dc d (by omega) W
        obtain ⟨M, hM⟩ : ∃ M : Nat, wrap64 (1 + wrap64 ((IntKind.u64.wrap x.mss).tmod 1460)) = (M : Int) := ⟨trueM x.mss, true_mss x.mss⟩
        have hM1 : 1 ≤ M ∧ M ≤ 1460 := by have h1 := true_mss x.mss; have h2 := trueM_bd x.mss; omega
        obtain ⟨now2, hnow⟩ : ∃ now2, now + x.now % 100 = now2 := ⟨_, rfl⟩
        have hnow1 : 0 ≤ now2 := by omega
        have hnow2 : now2 ≤ 100 * ((i : Int) + 1) := by omega
        obtain ⟨wh, hwh⟩ : ∃ wh, x.what = wh := ⟨_, rfl⟩
        rw [hwh] at a0
        clear hwh
        go_upto_block 2 with (fail)
        rw [hM]
        obtain ⟨X, hX⟩ : ∃ X, X = wr.alloc (Obj.cells #[.int .i64 wh, .slice x.dA d x.dc, .int .i64 x.mss, .int .u32 x.n, .int .u32 x.win, .int .u64 x.now] 56) := ⟨_, rfl⟩
        obtain ⟨bo, hbo⟩ : ∃ bo, wr.heap.size = bo := ⟨_, rfl⟩
        rw [← hX, hbo]
        have hXB : Below wr.heap.size wr X := by rw [hX]; exact (Below.refl _ _).alloc (Nat.le_refl _) _
        have hXS : X.heap.size = bo + 1 := by rw [hX, ← hbo]; simp
        have hXH : X.heap[bo]? = some (.cells #[.int .i64 wh, .slice x.dA d x.dc, .int .i64 x.mss, .int .u32 x.n, .int .u32 x.win, .int .u64 x.now] 56 (0, 0)) := by rw [hX, ← hbo]; exact heap_alloc_new wr _
        have HTX := Lib.hid (HTU.out.move hXB)
        have HXB := Lib.hid hXB
        have HXH := Lib.hid hXH
        have HYS : Hid (Byt w (.slice x.dA d x.dc) (x.data.take d)) := Lib.hid (HXO.out.byt.cut d hdm.1)
        have HYL : Hid ((x.data.take d).length = d) := Lib.hid (by rw [List.length_take, HXO.out.len]; omega)
        have HYB : Hid (∀ y ∈ x.data.take d, 0 ≤ y ∧ y ≤ 255) := Lib.hid (fun y hy => HXO.out.byte y (List.mem_of_mem_take hy))
        obtain ⟨ys, hys⟩ : ∃ ys, x.data.take d = ys := ⟨_, rfl⟩
        rw [hys] at HYS HYL HYB
        have hbl3 : b7 + 3 ≤ bo := by have := HTU.out.lbl; omega
        clear hbo hd hsl hM hnow hX hXB hXH HTU a0 a1 a2 a3 a4 a5 hys
        go_cut [] (fun wx => TuMid w (b7 + 3) w.heap.size b7 (b7 + 1) (b7 + 1 + 1) g una (300 * (i + 1)) wx)
        case first =>
          obtain ⟨Aw, cw, hvw⟩ := own_len HTX.out.own
          subst hvw
          have C7 : X.cell? ⟨b7, 0, none⟩ = some (.slice Aw n cw) := cell_of HTX.out.b7 0
          have C8 : X.cell? ⟨b7 + 1, 0, none⟩ = some (.int .i64 a) := cell_of HTX.out.b8 0
          have C9 : X.cell? ⟨b7 + 1 + 1, 0, none⟩ = some (.int .i64 t) := cell_of HTX.out.b9 0
          have CX := HTX.out.cx
          have B1 : X.cell? ⟨bo, 1, none⟩ = some (.slice x.dA d x.dc) := cell_of HXH.out 1
          have B3 : X.cell? ⟨bo, 3, none⟩ = some (.int .u32 x.n) := cell_of HXH.out 3
          have B4 : X.cell? ⟨bo, 4, none⟩ = some (.int .u32 x.win) := cell_of HXH.out 4
          have l1 := HTX.out.le1
          have l2 := HTX.out.le2
          have dl := HTX.out.dlen
          have nn1 : now2 ≤ 1125899906842624 := by omega
          by_cases h0 : wh = 0
          · subst h0
            by_cases hfit : s.data.length + d ≤ 16384
            · as_aux_lemma =>
                have HW := Lib.hid (write_okF g c A s x.dA d x.dc ys now2 X HTX.out.buf HTX.out.ok HYL.out (HYS.out.below HTX.out.bel) hfit hnow1 nn1 HYB.out)
                have HFIT := Lib.hid hfit
                clear hfit dl
                go_wp2_with fail
                refine HW.out.mono ?_
                rintro e w2 ⟨rfl, hg, A2, c2, hb, hfar⟩
                have B1' := hg.cell B1 (by simp; omega)
                have C7' := hg.cell C7 (by simp; omega)
                obtain ⟨v3, w3, hr, ho3, hg3, hat⟩ := run_append_bytF (w := w2) (b7 + 3) (.slice Aw n cw) n _ (kept_row HTX.out.own hg (by intro k hk; cases hk; omega)) x.dA d x.dc ys HYL.out (HYS.out.below (grown_bel HTX.out.bel hg (by intro k hk; cases hk; omega))) (by omega) (Nat.le_trans HTX.out.lbl hg.size)
                obtain ⟨A3, k3, hv3⟩ := own_len ho3
                subst hv3
                have HR := Lib.hid hr
                have HT := Lib.hid (HTX.out.wrote HB.out hg hb hfar HYL.out HYB.out HFIT.out hnow1 nn1 ho3 hg3 hat)
                have h73 := HTX.out.h7w HB.out hg hg3
                have C73 : w3.cell? ⟨b7, 0, none⟩ = some (.slice Aw n cw) := cell_of h73 0
                have F73 := free_of h73 0
                clear hg hb hfar hr ho3 hg3 hat h73
                go_wp2_with (at_builtin; refine Lib.wpList_append_run _ rfl _ _ 34 34 rfl _ _ rfl rfl _ _ (by exact HR.out) ?_)
                go_meet
                case rel => exact ⟨a, t, n + d, ws ++ ys, _, _, _, _, by omega, HT.out⟩
            · as_aux_lemma =>
                have HW := Lib.hid (write_long g c A s x.dA d x.dc ys now2 X HTX.out.buf HTX.out.ok HYL.out (HYS.out.below HTX.out.bel) hfit (by omega))
                have hbig : decide ((n : Int) - (a : Int) + (d : Int) ≤ 16384) = false := decide_eq_false (by omega)
                clear hfit dl
                go_wp2_with fail
                refine HW.out.mono ?_
                rintro e w2 ⟨rfl, rfl⟩
                go_wp2_with fail
                go_meet
                case rel => exact ⟨a, t, n, ws, _, s, A, c, by omega, HTX.out⟩
          by_cases h1 : wh = 1
          · subst h1
            as_aux_lemma =>
              have hmay : mayB (M : Int) = true := decide_eq_true ⟨by omega, by omega⟩
              have HW := Lib.hid (send_ok g c A s M X HTX.out.buf HTX.out.ok hmay)
              obtain ⟨en, hen⟩ : ∃ en, sendEnd s = en := ⟨_, rfl⟩
              obtain ⟨S0, hS0⟩ : ∃ S0, s.sent = S0 := ⟨_, rfl⟩
              have hst := HTX.out.sent
              obtain ⟨wv, hwv⟩ : ∃ wv, s.win = wv := ⟨_, rfl⟩
              have hwv0 := HTX.out.ok.win0
              have hwv1 := HTX.out.ok.win1
              have hen1 : en ≤ s.data.length ∧ (en : Int) ≤ s.win ∧ ((en : Int) = s.data.length ∨ (en : Int) = s.win) := by rw [← hen]; unfold sendEnd; omega
              have HU : Hid (s.una = addU una a) := Lib.hid HTX.out.una
              rw [hwv] at hwv0 hwv1 hen1
              rw [hS0] at hst
              have HTS : Hid ((sendSt s).una = addU una a ∧ (sendSt s).win = wv ∧ (sendSt s).sent = max S0 en) := Lib.hid ⟨HU.out, hwv, by show max s.sent (sendEnd s) = _; rw [hen, hS0]⟩
              have HOK : Hid (sendSt s).Ok := Lib.hid (by
                have h := HTX.out.ok
                have := h.sent
                exact { h with sent := by show max s.sent (sendEnd s) ≤ s.data.length; rw [hen]; omega })
              rw [hen, hS0, HU.out, HTX.out.data] at HW
              have hn3 : n ≤ 30000 := by omega
              have HST := Lib.hid hst
              have q1 : S0 + a ≤ t := by omega
              have q2 : t ≤ S0 + a := by omega
              clear hen hS0 hwv hst
              go_wp2_with fail
              refine HW.out.mono ?_
              rintro e w2 ⟨v2, rfl, hg2, hb2, hp2⟩
              obtain ⟨Ap, kp, hvp⟩ := hp2.len
              obtain ⟨N, hN⟩ : ∃ N, (pcsOf M S0 en).length = N := ⟨_, rfl⟩
              rw [hN] at hvp
              subst hvp
              have C7 := hg2.cell C7 (by simp; omega)
              have C8 := hg2.cell C8 (by simp; omega)
              have C9 := hg2.cell C9 (by simp; omega)
              have CX := hg2.cell CX (by simp; omega)
              have H9 := (hg2.block (b7 + 1 + 1) HTX.out.l9 (by simp; omega)).trans HTX.out.b9
              have H7 := (hg2.block b7 HTX.out.l7 (by simp; omega)).trans HTX.out.b7
              have hN2 : N ≤ 30000 := by rw [← hN]; exact Nat.le_trans (pcsOf_len M S0 en) (by omega)
              have HN := Lib.hid hN
              have HG2 := Lib.hid hg2
              have HB2 := Lib.hid hb2
              have HP2 := Lib.hid hp2
              have HUNA := Lib.hid (una_any g c A (sendSt s) w2 hb2 HOK.out)
              rw [HTS.out.1] at HUNA
              have HWIN := Lib.hid (fun W (hW : Buf W g A c (sendSt s)) => window_any g c A (sendSt s) W hW HOK.out)
              rw [HTS.out.2.1] at HWIN
              have HWB : Hid (Byt w2 (.slice Aw n cw) ws) := Lib.hid (by
                have := HTX.out.len
                subst this
                exact Byt.of_own (kept_row HTX.out.own hg2 (by intro k hk; cases hk; omega)))
              have hxs : b7 + 1 + 1 < X.heap.size := by omega
              have HH9 := Lib.hid H9
              have HH7 := Lib.hid H7
              have HH8 := Lib.hid ((hg2.block (b7 + 1) HTX.out.l8 (by simp; omega)).trans HTX.out.b8)
              clear hg2 hb2 hp2 hN H9 H7
              go_wp2_with fail
              refine HUNA.out.mono ?_
              rintro e w' ⟨rfl, rfl⟩
              go_wp2_with fail
              obtain ⟨wo, hwo⟩ : ∃ x, x = w2 := ⟨_, rfl⟩
              subst hwo
              go_loopg [118, 19] N (fun gj v118 v19 wx => TuIn wo (b7 + 1 + 1) a M S0 en N gj v118 v19 wx)
              case atStart => exact ⟨0, S0, t, [], rfl, rfl, by omega, by omega, by omega, by omega, rfl, rfl, Nat.le_refl _, .inr rfl, World.grownBy.refl _ _, HH9.out⟩
              case round =>
                obtain ⟨j, S, r, done, rfl, rfl, q3, q4, j1, j2, hdone, hj, s1, s2, hgr, h9r⟩ := hrel
                have C7 := hgr.cell C7 (by simp <;> omega)
                have C8 := hgr.cell C8 (by simp <;> omega)
                have C9 : wr.cell? ⟨b7 + 1 + 1, 0, none⟩ = some (.int .i64 r) := cell_of h9r 0
                have CX := hgr.cell CX (by simp; omega)
                have hlenN : done.length + (pcsOf M S en).length = N := by rw [← HN.out, ← hdone, List.length_append]
                have HGR := Lib.hid hgr
                have H9R := Lib.hid h9r
                have HDONE := Lib.hid hdone
                have HB3 : Hid (Buf wr g A c (sendSt s)) := Lib.hid (HB2.out.other hgr (by omega) (HB2.out.2.off HH9.out (fun x e => by cases e)))
                by_cases hlt : S < en
                · as_aux_lemma =>
                    have hst := pcsOf_step M S en (by omega) hlt
                    obtain ⟨T, hT⟩ : ∃ T, min (S + M) en = T := ⟨_, rfl⟩
                    rw [hT] at hst
                    have hT1 : S < T := by omega
                    have hT2 : T ≤ en := by omega
                    have hjN : j < N := by rw [hst, List.length_cons] at hlenN; omega
                    have hat : (pcsOf M S0 en)[j]? = some (S, T) := by rw [← hdone, hst, ← hj]; simp
                    obtain ⟨L, hL⟩ : ∃ L, T - S = L := ⟨_, rfl⟩
                    have hL1 : S + L ≤ T := by omega
                    have hL2 : T ≤ S + L := by omega
                    have hL3 : L ≤ M := by omega
                    obtain ⟨ga, Aa, ka, rfl, ga0, ga1, p0, p1, p2⟩ := (HP2.out.kept hgr (by intro k hk; cases hk; omega)).at hat
                    have hrs : (a : Int) + (S : Int) = (r : Int) := by omega
                    simp only [hL, Nat.mul_comm 2 j, addU_addU, hrs] at p0 p1 p2
                    have hsl : (seg (ws.drop a) S T).length = L := by rw [seg_len (by rw [← HTX.out.data]; omega), hL]
                    have HBYp : Hid (Byt wr (.slice Aa L ka) (seg (ws.drop a) S T)) := Lib.hid (Byt.of_own (by rw [hsl]; exact p2))
                    have HST2 := Lib.hid hst
                    have HJ := Lib.hid hj
                    have HH7r := Lib.hid ((hgr.block b7 (Nat.lt_of_lt_of_le HTX.out.l7 HG2.out.size) (by simp <;> omega)).trans HH7.out)
                    have HH8r := Lib.hid ((hgr.block (b7 + 1) (Nat.lt_of_lt_of_le HTX.out.l8 HG2.out.size) (by simp <;> omega)).trans HH8.out)
                    have HWBr : Hid (Byt wr (.slice Aw n cw) ws) := Lib.hid (HWB.out.keep hgr (HWB.out.off HH9.out (fun x e => by cases e)))
                    have hsz : X.heap.size ≤ wr.heap.size := Nat.le_trans HG2.out.size hgr.size
                    obtain ⟨r2, hr2⟩ : ∃ r2, max r (r + L) = r2 := ⟨_, rfl⟩
                    have hr21 : r + L ≤ r2 := by omega
                    have hr22 : r2 ≤ r + L := by omega
                    have HR2 := Lib.hid hr2
                    clear hst hT hat hL hrs hsl p2 hdone hj hlenN hgr h9r hr2
                    go_wp2_with fail
                    obtain ⟨Y, hY⟩ : ∃ Y, Y = wr.alloc (Obj.cells #[.int .u32 (addU una r), .slice Aa L ka] 38) := ⟨_, rfl⟩
                    rw [← hY]
                    have hYB : Below wr.heap.size wr Y := by rw [hY]; exact (Below.refl _ _).alloc (Nat.le_refl _) _
                    obtain ⟨bt, hbt⟩ : ∃ bt, wr.heap.size = bt := ⟨_, rfl⟩
                    have hYH : Y.heap[bt]? = some (.cells #[.int .u32 (addU una r), .slice Aa L ka] 38 (0, 0)) := by rw [hY, ← hbt]; exact heap_alloc_new wr _
                    have l9r : b7 + 1 + 1 < wr.heap.size := by omega
                    rw [hbt] at hsz ⊢
                    have T0 : Y.cell? ⟨bt, 0, none⟩ = some (.int .u32 (addU una r)) := cell_of hYH 0
                    have T1 : Y.cell? ⟨bt, 1, none⟩ = some (.slice Aa L ka) := cell_of hYH 1
                    have CXY := (hYB.cell (p := ⟨w.heap.size, 0, none⟩) (by show w.heap.size < _; omega)).trans CX
                    have H7 := (hYB.block b7 (by omega)).trans HH7r.out
                    have H8 := (hYB.block (b7 + 1) (by omega)).trans HH8r.out
                    have H9 := (hYB.block (b7 + 1 + 1) (by omega)).trans H9R.out
                    have hsq : ahd una (addU una r) = r := by unfold ahd addU; omega
                    have HCHK := Lib.hid (fun q => check_ok w.heap.size b7 (b7 + 1) (b7 + 1 + 1) una (addU una r) a r r L n cw ka M Aa Aw ws (seg (ws.drop a) S T) (Y.drewN q) CXY (cell_of H7 0) (cell_of H8 0) H9 ((HWBr.out.below hYB).below (below_drewN (Below.refl _ _) q)) ((HBYp.out.below hYB).below (below_drewN (Below.refl _ _) q)) hsq (by omega) (by omega) (by omega) hL3 (by omega) (by omega) (seg_drop ws a S T r L q3 q4 (by omega)))
                    rw [HR2.out] at HCHK
                    have HSQ := Lib.hid hsq
                    have HBY := Lib.hid (HB3.out.below hYB)
                    have H9Y := Lib.hid H9
                    have HYG : Hid (wr.grownBy Y (some (b7 + 1 + 1))) := Lib.hid (grown_below hYB)
                    obtain ⟨z, hz⟩ : ∃ z, ((addU una r + (L : Int)) % 4294967296 - 1) % 4294967296 = z := ⟨_, rfl⟩
                    have hz2 : z = addU una ((r : Int) + (L : Int) - 1) := by rw [← hz]; unfold addU; omega
                    have HWI : Hid (withB z (addU una a) wv = true) := Lib.hid (by rw [hz2]; unfold withB addU; exact decide_eq_true (by omega))
                    have hwL : IntKind.u32.wrap (L : Int) = (L : Int) := by simp only [IntKind.wrap, IntKind.signed, IntKind.bits]; simp; omega
                    clear hY hYB hYH H7 H8 H9 hsq hz2 dl hbt
                    refine wp_region_mid 12 _ (by kernel_rfl) (by kernel_rfl) rfl ?_
                    simp only [List.take_succ_cons, List.take_zero, List.drop_succ_cons, List.drop_zero]
                    repeat (go_big_quiet_step ((go_at_call 22; exact ahead_q _ _ _ _ HSQ.out)))
                    refine wpQuiet_nil ?_
                    rintro _ ⟨nq, rfl⟩
                    go_wp2_with fail
                    refine (HCHK.out nq).mono ?_
                    rintro e w5 ⟨rfl, hg5, h95⟩
                    have hg5 : Y.grownBy w5 (some (b7 + 1 + 1)) := grown_trans (grown_drewN (World.grownBy.refl _ _)) hg5
                    have T0 := hg5.cell T0 (by simp; omega)
                    have T1 := hg5.cell T1 (by simp; omega)
                    have HB5 : Hid (Buf w5 g A c (sendSt s)) := Lib.hid (HBY.out.other hg5 (by omega) (HBY.out.2.off H9Y.out (fun x e => by cases e)))
                    have C95 : w5.cell? ⟨b7 + 1 + 1, 0, none⟩ = some (.int .i64 r2) := cell_of h95 0
                    have HG5 := Lib.hid hg5
                    have H95 := Lib.hid h95
                    clear hg5 h95
                    go_wp2_with fail
                    repeat (go_big_quiet_step ((first | (go_at_call 24; exact window_q HB5.out HOK.out HTS.out.2.1 _) | (go_at_call 23; exact within_q _ _ _ _ _ HWI.out))))
                    refine wpQuiet_nil ?_
                    rintro _ ⟨nq2, rfl⟩
                    go_wp2_with fail
                    go_roundg (gk - 1)
                    case measure => omega
                    case rel =>
                      refine ⟨j + 1, T, r2, done ++ [(S, T)], by simp, rfl, by omega, by omega, by omega, by omega, ?_, by simp [HJ.out], by omega, by omega, grown_trans HGR.out (grown_trans HYG.out (grown_drewN HG5.out)), H95.out⟩
                      rw [← HDONE.out, HST2.out]
                      simp
                · as_aux_lemma =>
                    have hpn : pcsOf M S en = [] := pcsOf_stop M S en hlt
                    rw [hpn] at hlenN
                    obtain rfl : N = j := by simp at hlenN; omega
                    have hsS : (sendSt s).sent + a = r := by rw [HTS.out.2.2]; omega
                    have HT := Lib.hid (HTX.out.turn HB.out HG2.out HB2.out HOK.out rfl rfl hsS hgr h9r)
                    have hrn := HT.out.le2
                    have hw1 : IntKind.i64.wrap ((r : Int) - (a : Int)) = (r : Int) - (a : Int) := IntWalk.i64_in _ (by omega)
                    have hw2 : IntKind.i64.wrap wv = wv := IntWalk.i64_in _ (by omega)
                    by_cases hrn2 : r < n
                    · have t1 : decide (r < n) = true := decide_eq_true hrn2
                      have t2 : decide ((r : Int) - (a : Int) < wv) = false := decide_eq_false (by omega)
                      clear hpn hlenN hsS hgr h9r hdone hj dl
                      as_aux_lemma =>
                        go_wp2_with fail
                        go_quiet ((go_at_call 24; exact window_q HB3.out HOK.out HTS.out.2.1 _))
                        go_wp2_with fail
                        go_meet
                        case rel => exact ⟨a, r, n, ws, _, sendSt s, A, c, by omega, HT.out.move (below_drewN (Below.refl _ _) _)⟩
                    · have t1 : decide (r < n) = false := decide_eq_false hrn2
                      clear hpn hlenN hsS hgr h9r hdone hj dl
                      as_aux_lemma =>
                        go_wp2_with fail
                        go_quiet ((go_at_call 24; exact window_q HB3.out HOK.out HTS.out.2.1 _))
                        go_wp2_with fail
                        go_meet
                        case rel => exact ⟨a, r, n, ws, _, sendSt s, A, c, by omega, HT.out.move (below_drewN (Below.refl _ _) _)⟩
          by_cases h2 : wh = 2
          · subst h2
            as_aux_lemma =>
              obtain ⟨k, hk⟩ : ∃ k : Nat, x.n % 400 = (k : Int) := ⟨(x.n % 400).toNat, by have := HXO.out.n0; omega⟩
              have hk4 : k < 400 := by omega
              obtain ⟨wn, hwn⟩ : ∃ wn, x.win % 70000 = wn := ⟨_, rfl⟩
              have hwn0 : 0 ≤ wn ∧ wn < 70000 := by omega
              have xb0 := HXO.out.n0
              have xb1 := HXO.out.n1
              have xb2 := HXO.out.win0
              have xb3 := HXO.out.win1
              have hak : ((a + k : Nat) : Int) = (a : Int) + (k : Int) := by omega
              have hack : ahd s.una (addU una ((a : Int) + (k : Int))) = k := by rw [HTX.out.una]; unfold ahd addU; omega
              have hadd := addU_bd una ((a : Int) + (k : Int))
              have hst := HTX.out.sent
              have HTD := Lib.hid (HTX.out.move (below_drewN (Below.refl _ _) 1))
              by_cases hle : a + k ≤ t
              · as_aux_lemma =>
                have HACK := Lib.hid (acked_posF g c A s k (addU una ((a : Int) + (k : Int))) wn now2 X.drew HTD.out.buf HTX.out.ok (by omega) hack hwn0.1 (by omega) hadd.1 hadd.2 hnow1 nn1)
                have hw1 : IntKind.i64.wrap ((a : Int) + (k : Int)) = (a : Int) + (k : Int) := IntWalk.i64_in _ (by omega)
                have hw2 : x.win.tmod 70000 = wn := by rw [Int.tmod_eq_emod_of_nonneg xb2]; exact hwn
                have hle' : decide ((a : Int) + (k : Int) ≤ (t : Int)) = true := decide_eq_true (by omega)
                have HAK := Lib.hid hak
                clear hack hadd hst dl hak
                go_wp2_with fail
                go_region_held3 (fun w' => w'.cell? ⟨w.heap.size, 0, none⟩ = some (.int .u32 una) ∧ w'.cell? ⟨b7 + 1, 0, none⟩ = some (.int .i64 a) ∧ w'.cell? ⟨bo, 4, none⟩ = some (.int .u32 x.win)) (go_keep)
                  (first
                    | (go_at_call 16; refine (add_any _ _ _).mono ?_; rintro e w' ⟨rfl, rfl⟩)
                    | (go_at_call 15; refine HACK.out.mono ?_; rintro e w5 ⟨rfl, hg5, A6, c6, hb5, hA6⟩; have HG5 := Lib.hid hg5; have HB5 := Lib.hid hb5; have HA6 := Lib.hid hA6; have C8 := hg5.cell C8 (by simp; omega); have C9 := hg5.cell C9 (by simp; omega); have CX := hg5.cell CX (by simp; omega); have B4 := hg5.cell B4 (by simp; omega); have F8 := free_of ((hg5.block (b7 + 1) HTD.out.l8 (by simp; omega)).trans HTD.out.b8) 0; clear hg5 hb5 hA6))
                go_wp2_with fail
                go_meet
                case rel =>
                  have := HTD.out.acked HB.out HG5.out (k := k) (by rw [HAK.out]; exact HB5.out) HA6.out hle hwn0.1 (by omega) hnow1 nn1
                  rw [HAK.out] at this
                  exact ⟨a + k, t, n, ws, _, _, _, _, by omega, this⟩
              · as_aux_lemma =>
                have HACK := Lib.hid (acked_no g c A s (addU una ((a : Int) + (k : Int))) wn now2 X.drew HTD.out.buf HTX.out.ok (.inr (.inl (by rw [hack]; omega))))
                have hw1 : IntKind.i64.wrap ((a : Int) + (k : Int)) = (a : Int) + (k : Int) := IntWalk.i64_in _ (by omega)
                have hw2 : x.win.tmod 70000 = wn := by rw [Int.tmod_eq_emod_of_nonneg xb2]; exact hwn
                have hle' : decide ((a : Int) + (k : Int) ≤ (t : Int)) = false := decide_eq_false (by omega)
                clear hack hadd hst dl hak
                go_wp2_with fail
                go_region_held3 (fun w' => w'.cell? ⟨w.heap.size, 0, none⟩ = some (.int .u32 una) ∧ w'.cell? ⟨b7 + 1, 0, none⟩ = some (.int .i64 a) ∧ w'.cell? ⟨bo, 4, none⟩ = some (.int .u32 x.win)) (go_keep)
                  (first
                    | (go_at_call 16; refine (add_any _ _ _).mono ?_; rintro e w' ⟨rfl, rfl⟩)
                    | (go_at_call 15; refine HACK.out.mono ?_; rintro e w5 ⟨rfl, rfl⟩))
                go_wp2_with fail
                go_meet
                case rel => exact ⟨a, t, n, ws, _, s, A, c, by omega, HTD.out⟩
          by_cases h3 : wh = 3
          · subst h3
            as_aux_lemma =>
              have hmay : mayB (M : Int) = true := decide_eq_true ⟨by omega, by omega⟩
              have HU : Hid (s.una = addU una a) := Lib.hid HTX.out.una
              by_cases hlat : s.data.length = 0 ∨ now2 < s.alarm
              · as_aux_lemma =>
                have HW := Lib.hid (tick_later g c A s M now2 X HTX.out.buf HTX.out.ok hmay hlat)
                clear hlat dl
                go_wp2_with fail
                refine HW.out.mono ?_
                rintro e w2 ⟨rfl, hB⟩
                have HT := Lib.hid (HTX.out.move hB)
                clear hB
                go_wp2_with fail
                go_quiet (fail)
                go_wp2_with fail
                go_meet
                case rel => exact ⟨a, t, n, ws, _, s, A, c, by omega, HT.out.move (below_drewN ((Below.refl _ _).alloc (Nat.le_refl _) _) _)⟩
              · have hlat1 : 0 < s.data.length := by omega
                have hlat2 : s.alarm ≤ now2 := by omega
                by_cases hful : s.count = s.tries
                · as_aux_lemma =>
                  have HW := Lib.hid (tick_full g c A s M now2 X HTX.out.buf HTX.out.ok hmay hlat1 hlat2 hful)
                  clear hlat hful dl
                  go_wp2_with fail
                  refine HW.out.mono ?_
                  rintro e w2 ⟨rfl, hB⟩
                  have HT := Lib.hid (HTX.out.move hB)
                  clear hB
                  go_wp2_with fail
                  go_quiet (fail)
                  go_wp2_with fail
                  go_meet
                  case rel => exact ⟨a, t, n, ws, _, s, A, c, by omega, HT.out.move (below_drewN ((Below.refl _ _).alloc (Nat.le_refl _) _) _)⟩
                · as_aux_lemma =>
                    have hful' : s.count < s.tries := by have := HTX.out.ok.count; omega
                    have HW := Lib.hid (tick_some g c A s M now2 X HTX.out.buf HTX.out.ok hmay hlat1 hlat2 hful' hnow1 nn1)
                    obtain ⟨tt, hto⟩ : ∃ tt, tickTo s M = tt := ⟨_, rfl⟩
                    have hto1 : 1 ≤ tt := by rw [← hto]; unfold tickTo; omega
                    have hto2 : tt ≤ M := by rw [← hto]; unfold tickTo; omega
                    have hto3 : tt ≤ s.data.length := by rw [← hto]; exact tickTo_le s M (by omega) hlat1
                    have hto4 : 1 < tt → (tt : Int) ≤ s.win := by rw [← hto]; unfold tickTo; omega
                    have HOK := Lib.hid (tickSt_ok s M now2 HTX.out.ok (by omega) hlat1 hful' hnow1 nn1)
                    have HTS : Hid ((tickSt s M now2).una = addU una a ∧ (tickSt s M now2).win = s.win ∧ (tickSt s M now2).sent = max s.sent tt) := Lib.hid ⟨HU.out, rfl, by show max s.sent (tickTo s M) = _; rw [hto]⟩
                    rw [hto, HU.out] at HW
                    obtain ⟨wv, hwv⟩ : ∃ wv, s.win = wv := ⟨_, rfl⟩
                    have hwv0 := HTX.out.ok.win0
                    have hwv1 := HTX.out.ok.win1
                    rw [hwv] at hto4 hwv0 hwv1 HTS
                    have hst := HTX.out.sent
                    have hn3 : n ≤ 30000 := by omega
                    have hps : s.data.take tt = (ws.drop a).take tt := by rw [HTX.out.data]
                    have HPS := Lib.hid hps
                    have HST := Lib.hid hst
                    clear hlat hlat2 hful hful' hto hwv hps hst
                    go_wp2_with fail
                    refine HW.out.mono ?_
                    rintro e w2 ⟨v2, rfl, ho2, hg2, hb2⟩
                    obtain ⟨Ap, kp, hvp⟩ := own_len ho2
                    subst hvp
                    have hlen2 : (s.data.take tt).length = tt := by rw [List.length_take]; omega
                    have HBY2 : Hid (Byt w2 (.slice Ap tt kp) (s.data.take tt)) := Lib.hid (Byt.of_own (base := X.heap.size) (by rw [hlen2]; exact ho2))
                    have HG2 := Lib.hid hg2
                    have HB2 := Lib.hid hb2
                    have HTL := Lib.hid (HTX.out.tick_lt hg2)
                    clear ho2 hg2 hb2 hlen2
                    go_wp2_with fail
                    obtain ⟨Y, hY⟩ : ∃ Y, Y = w2.alloc (Obj.cells #[.int .u32 (addU una a), .slice Ap tt kp] 38) := ⟨_, rfl⟩
                    rw [← hY]
                    have hYB : Below w2.heap.size w2 Y := by rw [hY]; exact (Below.refl _ _).alloc (Nat.le_refl _) _
                    have hYG : X.grownBy Y (some g) := grown_trans HG2.out (grown_below hYB)
                    obtain ⟨bt, hbt⟩ : ∃ bt, w2.heap.size = bt := ⟨_, rfl⟩
                    have hYH : Y.heap[bt]? = some (.cells #[.int .u32 (addU una a), .slice Ap tt kp] 38 (0, 0)) := by rw [hY, ← hbt]; exact heap_alloc_new w2 _
                    have hsz2 : bo + 1 ≤ bt := by have := HG2.out.size; omega
                    rw [hbt]
                    have T0 : Y.cell? ⟨bt, 0, none⟩ = some (.int .u32 (addU una a)) := cell_of hYH 0
                    have T1 : Y.cell? ⟨bt, 1, none⟩ = some (.slice Ap tt kp) := cell_of hYH 1
                    have CXY := hYG.cell CX (by simp; omega)
                    have H7 := (hYG.block b7 HTX.out.l7 (by simp; omega)).trans HTX.out.b7
                    have H8 := (hYG.block (b7 + 1) HTX.out.l8 (by simp; omega)).trans HTX.out.b8
                    have H9 := (hYG.block (b7 + 1 + 1) HTX.out.l9 (by simp; omega)).trans HTX.out.b9
                    have HWB : Hid (Byt Y (.slice Aw n cw) ws) := Lib.hid (by
                      have := HTX.out.len
                      subst this
                      exact Byt.of_own (kept_row HTX.out.own hYG (by intro k hk; cases hk; omega)))
                    have HCHK := Lib.hid (fun q => check_ok w.heap.size b7 (b7 + 1) (b7 + 1 + 1) una (addU una a) a a t tt n cw kp M Ap Aw ws (s.data.take tt) (Y.drewN q) CXY (cell_of H7 0) (cell_of H8 0) H9 (HWB.out.below (below_drewN (Below.refl _ _) q)) ((HBY2.out.below hYB).below (below_drewN (Below.refl _ _) q)) (by unfold ahd addU; omega) (Nat.le_refl _) (by omega) hto1 hto2 (by omega) (by omega) HPS.out)
                    have HBY := Lib.hid (HB2.out.below hYB)
                    have HYG := Lib.hid hYG
                    have H9Y := Lib.hid H9
                    clear hY hYB hYG hYH hbt H7 H8 H9 CXY dl
                    by_cases h1t : 1 < tt
                    · have t1 : decide (1 < tt) = true := decide_eq_true h1t
                      have t2 : decide (1 < (tt : Int)) = true := decide_eq_true (by omega)
                      have t3 : decide (wv < (tt : Int)) = false := decide_eq_false (by omega)
                      have hw1 : IntKind.i64.wrap wv = wv := IntWalk.i64_in _ (by omega)
                      as_aux_lemma =>
                        refine wp_region_mid 21 _ (by kernel_rfl) (by kernel_rfl) rfl ?_
                        simp only [List.take_succ_cons, List.take_zero, List.drop_succ_cons, List.drop_zero]
                        repeat (go_big_quiet_step ((go_at_call 17; exact una_q HBY.out HOK.out HTS.out.1 _)))
                        refine wpQuiet_nil ?_
                        rintro _ ⟨nq, rfl⟩
                        go_wp2_with fail
                        refine (HCHK.out nq).mono ?_
                        rintro e w5 ⟨rfl, hg5, h95⟩
                        have hg5 : Y.grownBy w5 (some (b7 + 1 + 1)) := grown_trans (grown_drewN (World.grownBy.refl _ _)) hg5
                        have T0 := hg5.cell T0 (by simp; omega)
                        have T1 := hg5.cell T1 (by simp; omega)
                        have HB5 : Hid (Buf w5 g A c (tickSt s M now2)) := Lib.hid (HBY.out.other hg5 (by omega) (HBY.out.2.off H9Y.out (fun x e => by cases e)))
                        have HG5 := Lib.hid hg5
                        have H95 := Lib.hid h95
                        clear hg5 h95
                        go_wp2_with fail
                        repeat (go_big_quiet_step ((go_at_call 24; exact window_q HB5.out HOK.out HTS.out.2.1 _)))
                        refine wpQuiet_nil ?_
                        rintro _ ⟨nq2, rfl⟩
                        go_wp2_with fail
                        go_meet
                        case rel =>
                          refine ⟨a, max t (a + tt), n, ws, _, tickSt s M now2, A, c, by omega, HTX.out.turn HB.out HYG.out HBY.out HOK.out rfl rfl ?_ (grown_drewN HG5.out) H95.out⟩
                          rw [HTS.out.2.2]
                          have := HST.out
                          omega
                    · have t1 : decide (1 < tt) = false := decide_eq_false h1t
                      have t2 : decide (1 < (tt : Int)) = false := decide_eq_false (by omega)
                      as_aux_lemma =>
                        refine wp_region_mid 21 _ (by kernel_rfl) (by kernel_rfl) rfl ?_
                        simp only [List.take_succ_cons, List.take_zero, List.drop_succ_cons, List.drop_zero]
                        repeat (go_big_quiet_step ((go_at_call 17; exact una_q HBY.out HOK.out HTS.out.1 _)))
                        refine wpQuiet_nil ?_
                        rintro _ ⟨nq, rfl⟩
                        go_wp2_with fail
                        refine (HCHK.out nq).mono ?_
                        rintro e w5 ⟨rfl, hg5, h95⟩
                        have hg5 : Y.grownBy w5 (some (b7 + 1 + 1)) := grown_trans (grown_drewN (World.grownBy.refl _ _)) hg5
                        have T0 := hg5.cell T0 (by simp; omega)
                        have T1 := hg5.cell T1 (by simp; omega)
                        have HB5 : Hid (Buf w5 g A c (tickSt s M now2)) := Lib.hid (HBY.out.other hg5 (by omega) (HBY.out.2.off H9Y.out (fun x e => by cases e)))
                        have HG5 := Lib.hid hg5
                        have H95 := Lib.hid h95
                        clear hg5 h95
                        go_wp2_with fail
                        repeat (go_big_quiet_step ((go_at_call 24; exact window_q HB5.out HOK.out HTS.out.2.1 _)))
                        refine wpQuiet_nil ?_
                        rintro _ ⟨nq2, rfl⟩
                        go_wp2_with fail
                        go_meet
                        case rel =>
                          refine ⟨a, max t (a + tt), n, ws, _, tickSt s M now2, A, c, by omega, HTX.out.turn HB.out HYG.out HBY.out HOK.out rfl rfl ?_ (grown_drewN HG5.out) H95.out⟩
                          rw [HTS.out.2.2]
                          have := HST.out
                          omega
          as_aux_lemma =>
            have z0 : (wh == 0) = false := by simp; exact h0
            have z1 : (wh == 1) = false := by simp; exact h1
            have z2 : (wh == 2) = false := by simp; exact h2
            have z3 : (wh == 3) = false := by simp; exact h3
            clear dl
            go_wp2_with fail
            go_meet
            case rel => exact ⟨a, t, n, ws, _, s, A, c, by omega, HTX.out⟩
        case rest =>
          as_aux_lemma =>
          obtain ⟨a, t, n, ws, vW, s, A, c, nl, htu⟩ := hcut
          obtain ⟨Aw, cw, hvw⟩ := own_len htu.own
          subst hvw
          have C7 : wc.cell? ⟨b7, 0, none⟩ = some (.slice Aw n cw) := cell_of htu.b7 0
          have C8 : wc.cell? ⟨b7 + 1, 0, none⟩ = some (.int .i64 a) := cell_of htu.b8 0
          have C9 : wc.cell? ⟨b7 + 1 + 1, 0, none⟩ = some (.int .i64 t) := cell_of htu.b9 0
          have CX := htu.cx
          have HU := Lib.hid htu.una
          have HN : Hid (addU s.una s.sent = addU una t) := Lib.hid (by have := htu.sent; rw [htu.una, addU_addU]; congr 1; omega)
          have HE : Hid (addU s.una s.data.length = addU una n) := Lib.hid (by have := htu.dlen; rw [htu.una, addU_addU]; congr 1; omega)
          have HT := Lib.hid htu
          clear htu
          go_wp2_with fail
          go_quiet ((first | (go_at_call 17; exact una_q HT.out.buf HT.out.ok HU.out _) | (go_at_call 16; exact add_q _ _ _ _) | (go_at_call 19; exact nxt_q HT.out.buf HT.out.ok HN.out _) | (go_at_call 20; exact end_q HT.out.buf HT.out.ok HE.out _)))
          go_wp2_with fail
          go_roundg (gk - 1)
          case measure => omega
          case rel => exact ⟨i + 1, now2, a, t, n, ws, _, s, A, c, by simp, rfl, by omega, by omega, by omega, by omega, by push_cast; omega, by omega, HT.out.move (below_drewN (Below.refl _ _) _)⟩
    · go_wp2_with fail
      go_ret
      exact ⟨rfl, htu.bel⟩
end Go.Proofs.Ytpigomkhpdfdcaa
