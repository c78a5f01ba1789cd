/- WheelPlays, walked. -/
import Derived.Test.YtdebaoimhijnkaaPlArgs
import Derived.Deep.DeepCutAuto
import Derived.Deep.CutBlock
import Derived.OpenShut
set_option linter.unusedVariables false
namespace Go.Proofs.Ytdebaoimhijnkaa
open Go.RowKit Go.Deep Go.BigFrame
attribute [local go_sem ↓] Go.wp_at_zero Go.wp_at_succ
theorem Wh.up {w : World} {g b nn m : Nat} {s : WS} (h : Wh w g b nn s) (hm : nn ≤ m) : Wh w g b m s :=
  ⟨h.heap, ⟨by obtain ⟨D, ⟨es, ck, h3, h4, h5, h6⟩, h7⟩ := h.map.own; exact ⟨D, ⟨es, ck, h3, h4, Nat.le_trans h5 hm, h6⟩, h7⟩⟩, h.ok, Nat.le_trans h.len hm⟩
theorem zero29 (w : World) : (zeroValue 29).run Try.prog w = .ok (.agg #[.int .u64 0, .slice none 0 0]) w := by kernel_rfl
/-- The call that lies in its box. -/
def Bx (p8 : Nat) (wh idd tt : Int) (W : World) : Prop := W.heap[p8]? = some (.cells #[.int .i64 wh, .int .u64 idd, .int .u64 tt] 31 (0, 0))
theorem Bx.turns {p8 g b nn : Nat} {wh idd tt : Int} {s : WS} {W W' : World} (h : Bx p8 wh idd tt W) (hw : Wh W g b nn s) (ht : Turns (Two g b) W W') : Bx p8 wh idd tt W' := by
  obtain ⟨cs, g1, _⟩ := hw.heap
  obtain ⟨es, ck, b1⟩ := hw.map.isMap
  unfold Bx at *
  refine (ht.block p8 (Array.getElem?_eq_some_iff.1 h).1 ?_).trans h
  rintro (e | e)
  · subst e; rw [g1] at h; injection h with h; injection h with _ h _; cases h
  · subst e; rw [b1] at h; cases h
theorem Bx.ref {p8 r : Nat} {wh idd tt : Int} {s : WS} {W W' : World} (h : Bx p8 wh idd tt W) (hw : Rw W r s) (ht : Turns (One r) W W') : Bx p8 wh idd tt W' := by
  obtain ⟨A, c, h1, _⟩ := hw.heap
  unfold Bx at *
  refine (ht.block p8 (Array.getElem?_eq_some_iff.1 h).1 ?_).trans h
  intro e
  have e : p8 = r := e
  subst e; rw [h1] at h; injection h with h; injection h with _ h _; cases h
theorem Bx.below {p8 : Nat} {wh idd tt : Int} {W W' : World} (h : Bx p8 wh idd tt W) (hb : Below W.heap.size W W') : Bx p8 wh idd tt W' := (hb.block _ (Array.getElem?_eq_some_iff.1 h).1).trans h
/-- Both wheels, each in its state, and the call's box. -/
structure B2 (w : World) (g b r nn : Nat) (s t : WS) (p8 : Nat) (kd idd tt : Int) (W : World) : Prop where
  bel : Below w.heap.size w W
  wh : Wh W g b nn s
  rw' : Rw W r t
  bx : Bx p8 kd idd tt W
  lo : w.heap.size ≤ g ∧ w.heap.size ≤ b
  rlo : w.heap.size ≤ r
theorem B2.below {w W W' : World} {g b r nn p8 : Nat} {s t : WS} {wh idd tt : Int} (h : B2 w g b r nn s t p8 wh idd tt W) (hb : Below W.heap.size W W') : B2 w g b r nn s t p8 wh idd tt W' :=
  ⟨h.bel.trans (hb.mono h.bel.size), h.wh.below hb, h.rw'.below hb, h.bx.below hb, h.lo, h.rlo⟩
theorem B2.turn {w W W' : World} {g b r nn nn' p8 : Nat} {s s' t : WS} {wh idd tt : Int} (h : B2 w g b r nn s t p8 wh idd tt W) (hw : Wh W' g b nn' s') (ht : Turns (Two g b) W W') : B2 w g b r nn' s' t p8 wh idd tt W' :=
  ⟨below_turns h.bel ht h.lo.1 h.lo.2, hw, h.rw'.other h.wh ht, h.bx.turns h.wh ht, h.lo, h.rlo⟩
theorem B2.ref {w W W' : World} {g b r nn p8 : Nat} {s t t' : WS} {wh idd tt : Int} (h : B2 w g b r nn s t p8 wh idd tt W) (hr : Rw W' r t') (ht : Turns (One r) W W') : B2 w g b r nn s t' p8 wh idd tt W' :=
  ⟨below_one h.bel ht h.rlo, Wh.ref h.rw' h.wh ht, hr, h.bx.ref h.rw' ht, h.lo, h.rlo⟩
theorem B2.up {w W : World} {g b r nn m p8 : Nat} {s t : WS} {wh idd tt : Int} (h : B2 w g b r nn s t p8 wh idd tt W) (hm : nn ≤ m) : B2 w g b r m s t p8 wh idd tt W :=
  ⟨h.bel, h.wh.up hm, h.rw', h.bx, h.lo, h.rlo⟩
/-- Another wheel turns. -/
theorem B2.off {w W W' : World} {g b r nn p8 g2 b2 n2 : Nat} {s t s2 : WS} {wh idd tt : Int} (h : B2 w g b r nn s t p8 wh idd tt W) (h2 : Wh W g2 b2 n2 s2) (hg : g ≠ g2) (hb : b ≠ b2) (l1 : w.heap.size ≤ g2) (l2 : w.heap.size ≤ b2) (ht : Turns (Two g2 b2) W W') : B2 w g b r nn s t p8 wh idd tt W' :=
  ⟨below_turns h.bel ht l1 l2, h.wh.other h2 hg hb ht, h.rw'.other h2 ht, h.bx.turns h2 ht, h.lo, h.rlo⟩
theorem B2.now {w W : World} {g b r nn p8 : Nat} {s t : WS} {wh idd tt : Int} (h : B2 w g b r nn s t p8 wh idd tt W) : W.cell? ⟨r, 0, none⟩ = some (.int .u64 t.now) := by
  obtain ⟨A, c, h1, _⟩ := h.rw'.heap
  exact cell_of h1 0
def stopC (s : WS) (id : Int) : Int := if (findA s.L id).isSome then 0 else 6
theorem stop_all {w : World} {g b nn : Nat} {s : WS} (h : Wh w g b nn s) (id : Int) (hid : (Lit.int .u64 id).wf = true) (hnn : nn ≤ 1000) :
    Calls Try.prog 11 #[.pointer (some ⟨g, 0, none⟩), .int .u64 id] w fun e w' => e = .returned (.int .i64 (stopC s id)) ∧ Wh w' g b nn (takeS s id) ∧ Turns (Two g b) w w' := by
  unfold stopC
  exact stop_any h id hid hnn
theorem rstop_all {w : World} {r : Nat} {s : WS} (h : Rw w r s) (hok : s.Ok) (hl : s.L.length ≤ 1000) (id : Int) :
    Calls Try.prog 12 #[.pointer (some ⟨r, 0, none⟩), .int .u64 id] w fun e w' => e = .returned (.int .i64 (stopC s id)) ∧ Rw w' r (takeS s id) ∧ Turns (One r) w w' := by
  unfold stopC
  exact rstop_any h hok hl id
theorem tickI_len {s : WS} {now : Int} : (tickI s now).length ≤ s.L.length := by
  unfold tickI
  split
  · rw [List.length_map]
    exact (due_sub s.L now).length_le
  · exact Nat.zero_le _
theorem wf_up (x : Int) : (Lit.int .u64 (IntKind.u64.wrap x)).wf = true := Go.wf_wrap .u64 x
set_option maxHeartbeats 32000000
set_option maxRecDepth 100000
theorem plays_walk (A : Option Addr) (n cp : Nat) (L : List OpD) (id : Int) (w : World) (hn : L.length = n) (hops : OpsAt w A L) (hok : ∀ f ∈ L, f.Ok) (hid : (Lit.int .u64 id).wf = true) (hcp : n ≤ cp) (hmx : cp ≤ maxLen) :
    Calls Try.prog 3 #[.slice A n cp, .int .u64 id] w fun e w' => e = .returned (.bool true) ∧ Below w.heap.size w w' := by
  have HL := Lib.hid (And.intro hn (And.intro hops (And.intro hok hid)))
  unfold maxLen at hmx
  have hz := zero29
  clear hn hops hok hid
  go_enter Try.func3, Try.ntmps3
  go_wp2_with fail
  refine (new_any w).mono ?_
  rintro e W1 ⟨g, b, rfl, hw1, hb1, p1, p2⟩
  have H1 := Lib.hid (And.intro hw1 (And.intro hb1 (And.intro p1 p2)))
  clear hw1 hb1 p1 p2
  obtain ⟨r, hr⟩ : ∃ r, W1.heap.size = r := ⟨_, rfl⟩
  have HRR := Lib.hid hr
  clear hr
  go_upto_region 2 with (fail)
  clear hz
  refine wp_name fun X hX => ?_
  have hX' : X = W1.alloc (.cells #[.int .u64 0, .slice none 0 0] 29) := hX
  have hbX : Below W1.heap.size W1 X := by rw [hX']; exact bel_alloc _ _
  have hrX : X.heap[r]? = some (.cells #[.int .u64 0, .slice none 0 0] 29 (0, 0)) := by rw [hX', ← HRR.out]; exact heap_alloc_new _ _
  have HX : Hid (Bo w g b r 0 ⟨0, []⟩ X ∧ (w.heap.size ≤ g ∧ w.heap.size ≤ b) ∧ w.heap.size ≤ r) := Lib.hid ⟨⟨H1.out.2.1.trans (hbX.mono H1.out.2.1.size), H1.out.1.below hbX, ⟨none, 0, hrX, AlsAt.nil 68 X, Nat.le_refl _⟩⟩, H1.out.2.2, by rw [← HRR.out]; exact H1.out.2.1.size⟩
  rw [HRR.out]
  clear hX hX' hbX hrX H1
  go_wp2_with fail
  go_loopw [5, 7] (fun v5 v7 wr => ∃ (i g b : Nat) (s : WS), v7 = .int .i64 i ∧ v5 = .pointer (some ⟨g, 0, none⟩) ∧ i ≤ n ∧ i ≤ 100 ∧ Hid (Bo w g b r i s wr ∧ (w.heap.size ≤ g ∧ w.heap.size ≤ b) ∧ w.heap.size ≤ r)) (fun _ v7 _ => 100 - (intOf v7).toNat)
  case atStart => exact ⟨0, g, b, _, rfl, rfl, Nat.zero_le _, by omega, HX⟩
  case round =>
    obtain ⟨i, g, b, s, rfl, rfl, hi, hi100, hR⟩ := hrel
    by_cases hlt : i < n ∧ i < 100
    · obtain ⟨hl1, hl2⟩ := hlt
      obtain ⟨op, hop⟩ : ∃ op, L[i]? = some op := ⟨_, List.getElem?_eq_getElem (by rw [HL.out.1]; exact hl1)⟩
      have hopok := HL.out.2.2.1 op (List.mem_of_getElem? hop)
      obtain ⟨b2, o2, rfl, hbl, k0, k1, k2⟩ := (HL.out.2.1.below hR.out.1.bel) i op hop
      obtain ⟨wh, idd, tt⟩ := op
      obtain ⟨p8, hp8⟩ : ∃ p8, wr.heap.size = p8 := ⟨_, rfl⟩
      have HP8 := Lib.hid hp8
      clear hop hp8
      go_upto_region 6 with (fail)
      refine wp_name fun U hU => ?_
      have hU' : U = wr.alloc (.cells #[.int .i64 wh, .int .u64 idd, .int .u64 tt] 31) := hU
      have hbU : Below wr.heap.size wr U := by rw [hU']; exact bel_alloc _ _
      have hxU : Bx p8 wh idd tt U := by unfold Bx; rw [hU', ← HP8.out]; exact heap_alloc_new _ _
      rw [HP8.out]
      have HU : Hid (B2 w g b r i s s p8 wh idd tt U) := Lib.hid ⟨(hR.out.1.below hbU).bel, (hR.out.1.below hbU).wh, (hR.out.1.below hbU).rw', hxU, hR.out.2.1, hR.out.2.2⟩
      have e0 : U.cell? ⟨p8, 0, none⟩ = some (.int .i64 wh) := cell_of hxU 0
      have HOK := Lib.hid hopok
      clear hU hU' hbU hxU k0 k1 k2 hopok hR hbl
      go_upto_block 2 with fail
      go_cut [5, 9] (fun v5 v9 wx => ∃ (g b : Nat) (s : WS), v5 = .pointer (some ⟨g, 0, none⟩) ∧ v9 = .bool true ∧ Hid (B2 w g b r (i + 1) s s p8 wh idd tt wx))
      case first =>
        by_cases w0 : wh = 0
        · subst w0
          as_aux_lemma =>
          go_upto_region 11 with (fail)
          obtain ⟨X, hX⟩ : ∃ X, U.drew = X := ⟨_, rfl⟩
          have HX : Hid (B2 w g b r i s s p8 0 idd tt X) := Lib.hid (by rw [← hX]; exact HU.out.below ((Below.refl _ _).drew))
          have HXE := Lib.hid hX
          have x1 : ∀ Z : ClsW (Bx p8 0 idd tt), Z.val.cell? ⟨p8, 1, none⟩ = some (.int .u64 idd) := fun Z => cell_of Z.2 1
          have x2 : ∀ Z : ClsW (Bx p8 0 idd tt), Z.val.cell? ⟨p8, 2, none⟩ = some (.int .u64 tt) := fun Z => cell_of Z.2 2
          have hne : Nonempty (ClsW (Bx p8 0 idd tt)) := ⟨⟨X, HX.out.bx⟩⟩
          clear hX
          refine wp_region_plan (fun w' => ∃ W : ClsW (Bx p8 0 idd tt), w' = W.val) (.step [0, 1, 2, 3, 4, 6, 7, 8, 9, 10] 5 (.step [] 11 (.fin [12, 13]))) (by kernel_rfl) (by kernel_rfl) (by rw [HXE.out]; exact ⟨⟨X, HX.out.bx⟩, rfl⟩) ?_
          rw [HXE.out]
          refine plan_step [_, _, _, _, _, _, _, _, _, _] [_] rfl rfl ?_
          repeat (go_big_quiet_step (fail))
          refine wpQuiet_nil ?_
          clear x1 x2
          go_wp2_with fail
          refine (set_all HX.out.wh idd tt HOK.out.2.1 HOK.out.2.2 (by omega)).mono ?_
          rintro e V ⟨rfl, hw, hT⟩
          have HV := Lib.hid (HX.out.turn hw hT)
          clear hw hT
          go_wp2_with fail
          refine Lib.hid ⟨⟨⟨V, HV.out.bx⟩, rfl⟩, ?_⟩
          refine plan_step [] [_] rfl rfl ?_
          try simp only [Act.put, List.setIfInBounds_toArray, List.set_cons_succ, List.set_cons_zero]
          refine wpQuiet_nil ?_
          go_wp2_with fail
          refine (rset_all HV.out.rw' HX.out.wh.ok (Nat.le_trans HX.out.wh.len (by omega)) idd tt).mono ?_
          rintro e V2 ⟨rfl, hr, hT⟩
          have HV2 := Lib.hid (HV.out.ref hr hT)
          clear hr hT HV
          go_wp2_with fail
          refine Lib.hid ⟨⟨⟨V2, HV2.out.bx⟩, rfl⟩, ?_⟩
          refine plan_fin [_, _] rfl ?_
          try simp only [Act.put, List.setIfInBounds_toArray, List.set_cons_succ, List.set_cons_zero]
          repeat (go_big_quiet_step (fail))
          refine wpQuiet_nil ?_
          go_wp2_with fail
          go_meet
          case rel => exact ⟨g, b, _, rfl, by simp, HV2⟩
        · skip
          by_cases w1 : wh = 1
          · subst w1
            as_aux_lemma =>
            go_upto_region 11 with (fail)
            obtain ⟨X, hX⟩ : ∃ X, U.drew = X := ⟨_, rfl⟩
            have HX : Hid (B2 w g b r i s s p8 1 idd tt X) := Lib.hid (by rw [← hX]; exact HU.out.below ((Below.refl _ _).drew))
            have HXE := Lib.hid hX
            have x1 : ∀ Z : ClsW (Bx p8 1 idd tt), Z.val.cell? ⟨p8, 1, none⟩ = some (.int .u64 idd) := fun Z => cell_of Z.2 1
            have x2 : ∀ Z : ClsW (Bx p8 1 idd tt), Z.val.cell? ⟨p8, 2, none⟩ = some (.int .u64 tt) := fun Z => cell_of Z.2 2
            have hne : Nonempty (ClsW (Bx p8 1 idd tt)) := ⟨⟨X, HX.out.bx⟩⟩
            clear hX
            refine wp_region_plan (fun w' => ∃ W : ClsW (Bx p8 1 idd tt), w' = W.val) (.step [0, 1, 2, 3, 4, 6, 7, 8, 9, 10] 5 (.step [] 11 (.fin [12, 13]))) (by kernel_rfl) (by kernel_rfl) (by rw [HXE.out]; exact ⟨⟨X, HX.out.bx⟩, rfl⟩) ?_
            rw [HXE.out]
            refine plan_step [_, _, _, _, _, _, _, _, _, _] [_] rfl rfl ?_
            repeat (go_big_quiet_step (fail))
            refine wpQuiet_nil ?_
            clear x1 x2
            go_wp2_with fail
            refine (set_all HX.out.wh idd tt HOK.out.2.1 HOK.out.2.2 (by omega)).mono ?_
            rintro e V ⟨rfl, hw, hT⟩
            have HV := Lib.hid (HX.out.turn hw hT)
            clear hw hT
            go_wp2_with fail
            refine Lib.hid ⟨⟨⟨V, HV.out.bx⟩, rfl⟩, ?_⟩
            refine plan_step [] [_] rfl rfl ?_
            try simp only [Act.put, List.setIfInBounds_toArray, List.set_cons_succ, List.set_cons_zero]
            refine wpQuiet_nil ?_
            go_wp2_with fail
            refine (rset_all HV.out.rw' HX.out.wh.ok (Nat.le_trans HX.out.wh.len (by omega)) idd tt).mono ?_
            rintro e V2 ⟨rfl, hr, hT⟩
            have HV2 := Lib.hid (HV.out.ref hr hT)
            clear hr hT HV
            go_wp2_with fail
            refine Lib.hid ⟨⟨⟨V2, HV2.out.bx⟩, rfl⟩, ?_⟩
            refine plan_fin [_, _] rfl ?_
            try simp only [Act.put, List.setIfInBounds_toArray, List.set_cons_succ, List.set_cons_zero]
            repeat (go_big_quiet_step (fail))
            refine wpQuiet_nil ?_
            go_wp2_with fail
            go_meet
            case rel => exact ⟨g, b, _, rfl, by simp, HV2⟩
          · skip
            by_cases w2 : wh = 2
            · subst w2
              as_aux_lemma =>
              go_upto_region 11 with (fail)
              obtain ⟨X, hX⟩ : ∃ X, U.drew = X := ⟨_, rfl⟩
              have HX : Hid (B2 w g b r i s s p8 2 idd tt X) := Lib.hid (by rw [← hX]; exact HU.out.below ((Below.refl _ _).drew))
              have HXE := Lib.hid hX
              have x1 : ∀ Z : ClsW (Bx p8 2 idd tt), Z.val.cell? ⟨p8, 1, none⟩ = some (.int .u64 idd) := fun Z => cell_of Z.2 1
              have x2 : ∀ Z : ClsW (Bx p8 2 idd tt), Z.val.cell? ⟨p8, 2, none⟩ = some (.int .u64 tt) := fun Z => cell_of Z.2 2
              have hne : Nonempty (ClsW (Bx p8 2 idd tt)) := ⟨⟨X, HX.out.bx⟩⟩
              clear hX
              refine wp_region_plan (fun w' => ∃ W : ClsW (Bx p8 2 idd tt), w' = W.val) (.step [0, 1, 2, 3, 4, 6, 7, 8, 9, 10] 5 (.step [] 11 (.fin [12, 13]))) (by kernel_rfl) (by kernel_rfl) (by rw [HXE.out]; exact ⟨⟨X, HX.out.bx⟩, rfl⟩) ?_
              rw [HXE.out]
              refine plan_step [_, _, _, _, _, _, _, _, _, _] [_] rfl rfl ?_
              repeat (go_big_quiet_step (fail))
              refine wpQuiet_nil ?_
              clear x1 x2
              go_wp2_with fail
              refine (set_all HX.out.wh idd tt HOK.out.2.1 HOK.out.2.2 (by omega)).mono ?_
              rintro e V ⟨rfl, hw, hT⟩
              have HV := Lib.hid (HX.out.turn hw hT)
              clear hw hT
              go_wp2_with fail
              refine Lib.hid ⟨⟨⟨V, HV.out.bx⟩, rfl⟩, ?_⟩
              refine plan_step [] [_] rfl rfl ?_
              try simp only [Act.put, List.setIfInBounds_toArray, List.set_cons_succ, List.set_cons_zero]
              refine wpQuiet_nil ?_
              go_wp2_with fail
              refine (rset_all HV.out.rw' HX.out.wh.ok (Nat.le_trans HX.out.wh.len (by omega)) idd tt).mono ?_
              rintro e V2 ⟨rfl, hr, hT⟩
              have HV2 := Lib.hid (HV.out.ref hr hT)
              clear hr hT HV
              go_wp2_with fail
              refine Lib.hid ⟨⟨⟨V2, HV2.out.bx⟩, rfl⟩, ?_⟩
              refine plan_fin [_, _] rfl ?_
              try simp only [Act.put, List.setIfInBounds_toArray, List.set_cons_succ, List.set_cons_zero]
              repeat (go_big_quiet_step (fail))
              refine wpQuiet_nil ?_
              go_wp2_with fail
              go_meet
              case rel => exact ⟨g, b, _, rfl, by simp, HV2⟩
            · skip
              by_cases w3 : wh = 3
              · subst w3
                as_aux_lemma =>
                go_upto_region 13 with (fail)
                obtain ⟨X, hX⟩ : ∃ X, U.drew = X := ⟨_, rfl⟩
                have HX : Hid (B2 w g b r i s s p8 3 idd tt X) := Lib.hid (by rw [← hX]; exact HU.out.below ((Below.refl _ _).drew))
                have HXE := Lib.hid hX
                have x1 : ∀ Z : ClsW (Bx p8 3 idd tt), Z.val.cell? ⟨p8, 1, none⟩ = some (.int .u64 idd) := fun Z => cell_of Z.2 1
                have x2 : ∀ Z : ClsW (Bx p8 3 idd tt), Z.val.cell? ⟨p8, 2, none⟩ = some (.int .u64 tt) := fun Z => cell_of Z.2 2
                have hne : Nonempty (ClsW (Bx p8 3 idd tt)) := ⟨⟨X, HX.out.bx⟩⟩
                clear hX
                refine wp_region_plan (fun w' => ∃ W : ClsW (Bx p8 3 idd tt), w' = W.val) (.step [0, 1, 2, 4, 5, 6] 3 (.step [] 7 (.fin [8, 9]))) (by kernel_rfl) (by kernel_rfl) (by rw [HXE.out]; exact ⟨⟨X, HX.out.bx⟩, rfl⟩) ?_
                rw [HXE.out]
                refine plan_step [_, _, _, _, _, _] [_] rfl rfl ?_
                repeat (go_big_quiet_step (fail))
                refine wpQuiet_nil ?_
                clear x1 x2
                go_wp2_with fail
                refine (stop_all HX.out.wh idd HOK.out.2.1 (by omega)).mono ?_
                rintro e V ⟨rfl, hw, hT⟩
                have HV := Lib.hid (HX.out.turn hw hT)
                clear hw hT
                go_wp2_with fail
                refine Lib.hid ⟨⟨⟨V, HV.out.bx⟩, rfl⟩, ?_⟩
                refine plan_step [] [_] rfl rfl ?_
                try simp only [Act.put, List.setIfInBounds_toArray, List.set_cons_succ, List.set_cons_zero]
                refine wpQuiet_nil ?_
                go_wp2_with fail
                refine (rstop_all HV.out.rw' HX.out.wh.ok (Nat.le_trans HX.out.wh.len (by omega)) idd).mono ?_
                rintro e V2 ⟨rfl, hr, hT⟩
                have HV2 := Lib.hid ((HV.out.ref hr hT).up (Nat.le_succ i))
                clear hr hT HV
                go_wp2_with fail
                refine Lib.hid ⟨⟨⟨V2, HV2.out.bx⟩, rfl⟩, ?_⟩
                refine plan_fin [_, _] rfl ?_
                try simp only [Act.put, List.setIfInBounds_toArray, List.set_cons_succ, List.set_cons_zero]
                repeat (go_big_quiet_step (fail))
                refine wpQuiet_nil ?_
                go_wp2_with fail
                go_meet
                case rel => exact ⟨g, b, _, rfl, by simp, HV2⟩
              · skip
                by_cases w4 : wh = 4
                · subst w4
                  as_aux_lemma =>
                  have x2 : U.cell? ⟨p8, 2, none⟩ = some (.int .u64 tt) := cell_of HU.out.bx 2
                  go_wp2_with fail
                  refine (tick_all HU.out.wh tt (by omega)).mono ?_
                  rintro e V ⟨A3, c3, rfl, o3, hw, hT⟩
                  have HV := Lib.hid (HU.out.turn hw hT)
                  have HO3 := Lib.hid o3
                  clear hw hT o3
                  go_wp2_with fail
                  refine (rtick_all HV.out.rw' HU.out.wh.ok (Nat.le_trans HU.out.wh.len (by omega)) tt).mono ?_
                  rintro e V2 ⟨A4, c4, rfl, o4, hr, hT⟩
                  have HV2 := Lib.hid ((HV.out.ref hr hT).up (Nat.le_succ i))
                  have HSM := Lib.hid (same_any A3 A4 c3 c4 _ (tickI s tt) rfl (Nat.le_trans tickI_len (Nat.le_trans HU.out.wh.len (by omega))) (UsAt.own (own_ref HV.out.rw' hT (by decide) HO3.out)) (UsAt.own o4))
                  clear hr hT o4 HV HO3
                  go_wp2_with fail
                  refine HSM.out.mono ?_
                  rintro e V3 ⟨rfl, hb3⟩
                  have HV3 := Lib.hid (HV2.out.below hb3)
                  clear hb3 HSM
                  go_wp2_with fail
                  go_meet
                  case rel => exact ⟨g, b, _, rfl, by simp, HV3⟩
                · skip
                  by_cases w5 : wh = 5
                  · subst w5
                    as_aux_lemma =>
                    have x2 : U.cell? ⟨p8, 2, none⟩ = some (.int .u64 tt) := cell_of HU.out.bx 2
                    go_wp2_with fail
                    refine (tick_all HU.out.wh tt (by omega)).mono ?_
                    rintro e V ⟨A3, c3, rfl, o3, hw, hT⟩
                    have HV := Lib.hid (HU.out.turn hw hT)
                    have HO3 := Lib.hid o3
                    clear hw hT o3
                    go_wp2_with fail
                    refine (rtick_all HV.out.rw' HU.out.wh.ok (Nat.le_trans HU.out.wh.len (by omega)) tt).mono ?_
                    rintro e V2 ⟨A4, c4, rfl, o4, hr, hT⟩
                    have HV2 := Lib.hid ((HV.out.ref hr hT).up (Nat.le_succ i))
                    have HSM := Lib.hid (same_any A3 A4 c3 c4 _ (tickI s tt) rfl (Nat.le_trans tickI_len (Nat.le_trans HU.out.wh.len (by omega))) (UsAt.own (own_ref HV.out.rw' hT (by decide) HO3.out)) (UsAt.own o4))
                    clear hr hT o4 HV HO3
                    go_wp2_with fail
                    refine HSM.out.mono ?_
                    rintro e V3 ⟨rfl, hb3⟩
                    have HV3 := Lib.hid (HV2.out.below hb3)
                    clear hb3 HSM
                    go_wp2_with fail
                    go_meet
                    case rel => exact ⟨g, b, _, rfl, by simp, HV3⟩
                  · skip
                    by_cases w6 : wh = 6
                    · subst w6
                      as_aux_lemma =>
                      have x2 : U.cell? ⟨p8, 2, none⟩ = some (.int .u64 tt) := cell_of HU.out.bx 2
                      have x3 : U.cell? ⟨r, 0, none⟩ = some (.int .u64 s.now) := HU.out.now
                      go_upto_region 19 with (fail)
                      go_quiet (fail)
                      obtain ⟨Y, hY⟩ : ∃ Y, U.drewN nq = Y := ⟨_, rfl⟩
                      have HY : Hid (B2 w g b r i s s p8 6 idd tt Y) := Lib.hid (by rw [← hY]; exact HU.out.below (below_drewN (Below.refl _ _) _))
                      rw [hY]
                      clear hY
                      go_wp2_with fail
                      refine (tick_all HY.out.wh _ (by omega)).mono ?_
                      rintro e V ⟨A3, c3, rfl, o3, hw, hT⟩
                      have HV := Lib.hid (HY.out.turn hw hT)
                      have HO3 := Lib.hid o3
                      clear hw hT o3
                      go_wp2_with fail
                      refine (rtick_all HV.out.rw' HY.out.wh.ok (Nat.le_trans HY.out.wh.len (by omega)) _).mono ?_
                      rintro e V2 ⟨A4, c4, rfl, o4, hr, hT⟩
                      have HV2 := Lib.hid ((HV.out.ref hr hT).up (Nat.le_succ i))
                      have HSM := Lib.hid (same_any A3 A4 c3 c4 _ _ rfl (by exact Nat.le_trans tickI_len (Nat.le_trans HY.out.wh.len (by omega))) (UsAt.own (own_ref HV.out.rw' hT (by decide) HO3.out)) (UsAt.own o4))
                      clear hr hT o4 HV HO3
                      go_wp2_with fail
                      refine HSM.out.mono ?_
                      rintro e V3 ⟨rfl, hb3⟩
                      have HV3 := Lib.hid (HV2.out.below hb3)
                      clear hb3 HSM
                      go_wp2_with fail
                      go_meet
                      case rel => exact ⟨g, b, _, rfl, by simp, HV3⟩
                    · skip
                      by_cases w7 : wh = 7
                      · subst w7
                        as_aux_lemma =>
                        go_wp2_with fail
                        refine (copy_any HU.out.wh).mono ?_
                        rintro e V ⟨g2, b2, rfl, hw2, hb, q1, q2⟩
                        have HV : Hid (B2 w g2 b2 r i s s p8 7 idd tt V ∧ Wh V g b i s ∧ g2 ≠ g ∧ b2 ≠ b) := Lib.hid ⟨⟨HU.out.bel.trans (hb.mono HU.out.bel.size), hw2, HU.out.rw'.below hb, HU.out.bx.below hb, ⟨Nat.le_trans HU.out.bel.size q1, Nat.le_trans HU.out.bel.size q2⟩, HU.out.rlo⟩, HU.out.wh.below hb, by have := HU.out.wh.glt; omega, by have := HU.out.wh.blt; omega⟩
                        have y1 : V.cell? ⟨p8, 1, none⟩ = some (.int .u64 idd) := cell_of HV.out.1.bx 1
                        have y2 : V.cell? ⟨p8, 2, none⟩ = some (.int .u64 tt) := cell_of HV.out.1.bx 2
                        clear hw2 hb q1 q2
                        go_wp2_with fail
                        refine (set_all HV.out.2.1 idd tt HOK.out.2.1 HOK.out.2.2 (by omega)).mono ?_
                        rintro e V2 ⟨rfl, hw, hT⟩
                        have HV2 : Hid (B2 w g2 b2 r i s s p8 7 idd tt V2 ∧ Wh V2 g b (i + 1) (setR s idd tt)) := Lib.hid ⟨HV.out.1.off HV.out.2.1 HV.out.2.2.1 HV.out.2.2.2 HU.out.lo.1 HU.out.lo.2 hT, hw⟩
                        have yr : V2.cell? ⟨r, 0, none⟩ = some (.int .u64 s.now) := HV2.out.1.now
                        clear hw hT y1 y2
                        go_wp2_with fail
                        refine (tick_all HV2.out.2 _ (by omega)).mono ?_
                        rintro e V3 ⟨A3, c3, rfl, o3, hw, hT⟩
                        have HV3 := Lib.hid ((HV2.out.1.off HV2.out.2 HV.out.2.2.1 HV.out.2.2.2 HU.out.lo.1 HU.out.lo.2 hT).up (Nat.le_succ i))
                        clear o3 hw hT yr
                        go_wp2_with fail
                        go_meet
                        case rel => exact ⟨g2, b2, _, rfl, rfl, HV3⟩
                      · skip
                        by_cases w8 : wh = 8
                        · subst w8
                          as_aux_lemma =>
                          go_wp2_with fail
                          refine (copy_any HU.out.wh).mono ?_
                          rintro e V ⟨g2, b2, rfl, hw2, hb, q1, q2⟩
                          have HV : Hid (B2 w g b r i s s p8 8 idd tt V ∧ Wh V g2 b2 i s) := Lib.hid ⟨HU.out.below hb, hw2⟩
                          have HNE : Hid (g ≠ g2 ∧ b ≠ b2 ∧ w.heap.size ≤ g2 ∧ w.heap.size ≤ b2) := Lib.hid ⟨by have := HU.out.wh.glt; omega, by have := HU.out.wh.blt; omega, Nat.le_trans HU.out.bel.size q1, Nat.le_trans HU.out.bel.size q2⟩
                          have y1 : V.cell? ⟨p8, 1, none⟩ = some (.int .u64 idd) := cell_of HV.out.1.bx 1
                          clear hw2 hb q1 q2
                          go_wp2_with fail
                          refine (stop_all HV.out.2 idd HOK.out.2.1 (by omega)).mono ?_
                          rintro e V1 ⟨rfl, hw, hT⟩
                          have HV1 : Hid (B2 w g b r i s s p8 8 idd tt V1 ∧ Wh V1 g2 b2 i (takeS s idd)) := Lib.hid ⟨HV.out.1.off HV.out.2 HNE.out.1 HNE.out.2.1 HNE.out.2.2.1 HNE.out.2.2.2 hT, hw⟩
                          have z1 : V1.cell? ⟨p8, 1, none⟩ = some (.int .u64 idd) := cell_of HV1.out.1.bx 1
                          have z2 : V1.cell? ⟨p8, 2, none⟩ = some (.int .u64 tt) := cell_of HV1.out.1.bx 2
                          clear hw hT y1 HV
                          go_wp2_with fail
                          refine (set_all HV1.out.2 _ tt (wf_up _) HOK.out.2.2 (by omega)).mono ?_
                          rintro e V2 ⟨rfl, hw, hT⟩
                          have HV2 := Lib.hid (And.intro (HV1.out.1.off HV1.out.2 HNE.out.1 HNE.out.2.1 HNE.out.2.2.1 HNE.out.2.2.2 hT) hw)
                          have yr : V2.cell? ⟨r, 0, none⟩ = some (.int .u64 s.now) := HV2.out.1.now
                          clear hw hT z1 z2 HV1
                          go_wp2_with fail
                          refine (tick_all HV2.out.2 _ (by omega)).mono ?_
                          rintro e V3 ⟨A3, c3, rfl, o3, hw, hT⟩
                          have HV3 := Lib.hid ((HV2.out.1.off HV2.out.2 HNE.out.1 HNE.out.2.1 HNE.out.2.2.1 HNE.out.2.2.2 hT).up (Nat.le_succ i))
                          clear o3 hw hT yr HV2
                          go_wp2_with fail
                          go_meet
                          case rel => exact ⟨g, b, _, rfl, rfl, HV3⟩
                        · skip
                          have n0 : (wh == 0) = false := by simpa using w0
                          have n1 : (wh == 1) = false := by simpa using w1
                          have n2 : (wh == 2) = false := by simpa using w2
                          have n3 : (wh == 3) = false := by simpa using w3
                          have n4 : (wh == 4) = false := by simpa using w4
                          have n5 : (wh == 5) = false := by simpa using w5
                          have n6 : (wh == 6) = false := by simpa using w6
                          have n7 : (wh == 7) = false := by simpa using w7
                          have n8 : (wh == 8) = false := by simpa using w8
                          have HV3 := Lib.hid (HU.out.up (Nat.le_succ i))
                          go_wp2_with fail
                          go_meet
                          case rel => exact ⟨g, b, _, rfl, rfl, HV3⟩
      case rest =>
        obtain ⟨g, b, s, rfl, rfl, hB⟩ := hcut
        clear e0 HU
        go_wp2_with fail
        refine (next_any hB.out.wh (by omega)).mono ?_
        rintro e V1 ⟨rfl, h1⟩
        have HV1 := Lib.hid (hB.out.below h1)
        clear h1 hB
        go_wp2_with fail
        refine (rnext_any HV1.out.rw').mono ?_
        rintro e V1' ⟨rfl, rfl⟩
        go_wp2_with fail
        refine (at_any HV1.out.wh id HL.out.2.2.2).mono ?_
        rintro e V1' ⟨rfl, rfl⟩
        go_wp2_with fail
        refine (rat_any HV1.out.rw' (Nat.le_trans HV1.out.wh.len (by omega)) id).mono ?_
        rintro e V1' ⟨rfl, rfl⟩
        obtain ⟨nx, hnx⟩ : ∃ z, nextF s = z := ⟨_, rfl⟩
        obtain ⟨av, hav⟩ : ∃ z, atA s.L id = z := ⟨_, rfl⟩
        obtain ⟨bi, hbi⟩ : ∃ z, (findA s.L id).isSome = z := ⟨_, rfl⟩
        obtain ⟨be, hbe⟩ : ∃ z, s.L.isEmpty = z := ⟨_, rfl⟩
        rw [hnx, hav, hbi, hbe]
        clear hnx hav hbi hbe
        go_upto_region 37 with (fail)
        obtain ⟨X, hX⟩ : ∃ X, V1.drew = X := ⟨_, rfl⟩
        have hp0 : { V1 with drawn := V1.drawn + 1 } = X := hX
        have HX := Lib.hid (And.intro hp0 (HV1.out.below (by rw [← hX]; exact (Below.refl _ _).drew : Below V1.heap.size V1 X)))
        clear hX hp0
        obtain ⟨A9, c9, r1, r2, r3⟩ := HX.out.2.rw'.heap
        obtain ⟨m9, hm9⟩ : ∃ m, s.L.length = m := ⟨_, rfl⟩
        rw [hm9] at r1
        have HN := Lib.hid (fun (Z : ClsW (InB X.heap.size X)) => And.intro (now_any (HX.out.2.wh.below Z.2.1)) (len_any (HX.out.2.wh.below Z.2.1)))
        rw [hm9] at HN
        have hne : Nonempty (ClsW (InB X.heap.size X)) := ⟨⟨X, Below.refl _ _, Nat.le_refl _⟩⟩
        have x1 : ∀ Z : ClsW (InB X.heap.size X), Z.val.cell? ⟨r, 0, none⟩ = some (.int .u64 s.now) := fun Z => class_cell Z (cell_of r1 0) (Array.getElem?_eq_some_iff.1 r1).1
        have x2 : ∀ Z : ClsW (InB X.heap.size X), Z.val.cell? ⟨r, 1, none⟩ = some (.slice A9 m9 c9) := fun Z => class_cell Z (cell_of r1 1) (Array.getElem?_eq_some_iff.1 r1).1
        clear r1 r2 r3 hm9
        refine wp_region_class (InB X.heap.size X) (by kernel_rfl) (by kernel_rfl) (by rw [HX.out.1]; exact ⟨Below.refl _ _, Nat.le_refl _⟩) fun _ => ?_
        repeat (go_big_quiet_step ((first
          | (go_at_call 21; exact class_same (HN.out _).1)
          | (go_at_call 22; exact class_same (HN.out _).2))))
        refine wpQuiet_nil ?_
        rintro V ⟨⟨V', hV⟩, eV⟩
        have eV2 : V = V' := eV
        clear eV
        subst eV2
        have HE := Lib.hid (HX.out.2.below hV.1)
        clear hV x1 x2 hne HN HX HV1
        go_wp2_with fail
        go_roundw
        case rel => exact ⟨i + 1, g, b, s, by simp, rfl, by omega, by omega, Lib.hid ⟨⟨HE.out.bel, HE.out.wh, HE.out.rw'⟩, HE.out.lo, HE.out.rlo⟩⟩
        case measure => simp [intOf]; omega
    · by_cases hn2 : i < n
      · obtain rfl : i = 100 := by omega
        have HR := Lib.hid hR.out.1.bel
        clear hR
        as_aux_lemma =>
        go_wp2_with fail
        refine (wakes_any wr).mono ?_
        rintro e V ⟨rfl, hb⟩
        have HV := Lib.hid (HR.out.trans (hb.mono HR.out.size))
        clear hb
        go_wp2_with fail
        go_ret
        exact ⟨rfl, HV.out⟩
      · obtain rfl : i = n := by omega
        have HR := Lib.hid hR.out.1.bel
        clear hR
        as_aux_lemma =>
        go_wp2_with fail
        refine (wakes_any wr).mono ?_
        rintro e V ⟨rfl, hb⟩
        have HV := Lib.hid (HR.out.trans (hb.mono HR.out.size))
        clear hb
        go_wp2_with fail
        go_ret
        exact ⟨rfl, HV.out⟩
end Go.Proofs.Ytdebaoimhijnkaa
