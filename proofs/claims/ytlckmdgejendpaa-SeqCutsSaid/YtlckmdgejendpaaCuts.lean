/- The walk of SeqCuts. -/
import Derived.Test.YtlckmdgejendpaaTakes
set_option linter.unusedVariables false
namespace Go.Proofs.Ytlckmdgejendpaa
open Go.RowKit Go.Deep Go.BigFrame
attribute [local go_sem ↓] Go.wp_at_zero Go.wp_at_succ

theorem wpList_append_runG {P : Program} (w : World) {ops : Array Oper} {rest : List Oper} {o : Oper} {a : Act} {Q : Exit → Act → World → Prop} (hw : Region.wanted o (yielded ops a.tmps) = true) (s x : Operand) (t tn : TypeId)
    (ho : o.op = .call { callee := .builtin .append, args := #[s, x], argTypes := #[t, tn] }) (vs vx : Value) (hs : a.eval s = vs) (hx : a.eval x = vx)
    (v' : Value) (w' : World) (hr : (Builtin.append_ #[t, tn] o.type #[vs, vx]).run P w = .ok v' w') (h : wpList P ops Q rest (a.put o.dst v') w') : wpList P ops Q (o :: rest) a w :=
  wpList_want hw fun _ hK => Lib.wp_append_run w s x t tn ho vs vx hs hx v' w' hr (hK _ _ h)

theorem cutBs_eq (a f l : Int) (xs : List Int) : cutBs a xs f l = (xs.take (min l 2147483647 - ahd f a).toNat).drop (-(ahd f a)).toNat := by
  rw [← rOut_end a f l xs]
  unfold rOut cutFirst
  rw [List.take_length]
  congr 1
  omega
theorem cutBs_add (a f l q : Int) (ys : List Int) (hl : l ≤ 1073741824) (hq0 : 0 ≤ q) (hq : q ≤ l) (hy : ys.length ≤ 500) :
    cutBs a ys f q ++ cutBs a ys ((f + q) % 4294967296) (l - q) = cutBs a ys f l := by
  have hb := ahd_bd f a
  rw [cutBs_eq, cutBs_eq, cutBs_eq]
  have e : ahd ((f + q) % 4294967296) a = (ahd f a - q + 2147483648) % 4294967296 - 2147483648 := by unfold ahd; omega
  rw [e]
  by_cases hw : -2147483648 ≤ ahd f a - q
  · rw [show (ahd f a - q + 2147483648) % 4294967296 - 2147483648 = ahd f a - q from by omega]
    rw [show (min (l - q) 2147483647 - (ahd f a - q)).toNat = (min l 2147483647 - ahd f a).toNat from by omega]
    rw [show (-(ahd f a - q)).toNat = (min q 2147483647 - ahd f a).toNat from by omega]
    have h1 : (-(ahd f a)).toNat ≤ (min q 2147483647 - ahd f a).toNat := by omega
    have h2 : (min q 2147483647 - ahd f a).toNat ≤ (min l 2147483647 - ahd f a).toNat := by omega
    generalize (-(ahd f a)).toNat = F at *
    generalize (min q 2147483647 - ahd f a).toNat = G at *
    generalize (min l 2147483647 - ahd f a).toNat = E at *
    have e1 : (ys.take G).drop F = ((ys.take E).drop F).take (G - F) := by
      rw [List.take_drop, List.take_take]
      congr 2
      omega
    have e2 : (ys.take E).drop G = ((ys.take E).drop F).drop (G - F) := by
      rw [List.drop_drop]; congr 1; omega
    rw [e1, e2, List.take_append_drop]
  · have hF : ys.length ≤ (-(ahd f a)).toNat := by omega
    have e1 : ∀ E, (ys.take E).drop (-(ahd f a)).toNat = [] := fun E => List.drop_eq_nil_of_le (by rw [List.length_take]; omega)
    rw [e1, e1]
    rw [show (min (l - q) 2147483647 - ((ahd f a - q + 2147483648) % 4294967296 - 2147483648)).toNat = 0 from by omega]
    simp
theorem cutBs_len (a f l : Int) (xs : List Int) (h0 : 0 ≤ l) (hl : l ≤ 2147483647) : (cutBs a xs f l).length = min (l - ahd f a).toNat xs.length - (-(ahd f a)).toNat := by
  rw [cutBs_eq, List.length_drop, List.length_take]
  congr 2
  omega
theorem cutBs_get (a f l : Int) (xs : List Int) (hl : l ≤ 2147483647) (q : Nat) (h1 : (((-(ahd f a)).toNat + q : Nat) : Int) < l - ahd f a) (h2 : (-(ahd f a)).toNat + q < xs.length) :
    (cutBs a xs f l).getD q 0 = xs.getD ((-(ahd f a)).toNat + q) 0 := by
  rw [cutBs_eq]
  simp only [List.getD, List.getElem?_drop, List.getElem?_take]
  rw [if_pos (by omega)]
theorem cutAt_ne (a f l : Int) (n : Nat) (hl : l ≤ 2147483647) (q : Nat) (h1 : (((-(ahd f a)).toNat + q : Nat) : Int) < l - ahd f a) (h2 : (-(ahd f a)).toNat + q < n) : cutAt a f l n = addU a ((-(ahd f a)).toNat : Int) := by
  unfold cutAt cutLast cutFirst
  rw [if_neg (by omega)]
  congr 1
  omega
theorem cutAt_nil (a f l : Int) (xs : List Int) (h : (cutBs a xs f l).length = 0) : cutAt a f l xs.length = f := by
  unfold cutAt
  split
  · rfl
  · rename_i hn
    unfold cutBs at h
    rw [if_neg hn, List.length_drop, List.length_take] at h
    unfold cutLast cutFirst at h hn
    omega
theorem ahd_sub (a f q : Int) : ahd ((f + q) % 4294967296) a = wrap32 (ahd f a - q) := by unfold ahd wrap32; omega

set_option maxHeartbeats 2400000 in
set_option maxRecDepth 100000 in
theorem cuts_walk (a f l : Int) (v : Value) (part : Int) (xs : List Int) (w : World) (hb : Byt w v xs) (hx : ∀ x ∈ xs, 0 ≤ x ∧ x ≤ 255)
    (a0 : 0 ≤ a) (a1 : a ≤ 4294967295) (b0 : 0 ≤ f) (b1 : f ≤ 4294967295) (l0 : 0 ≤ l) (l1 : l ≤ 4294967295) (n0 : 0 ≤ part) (n1 : part ≤ 4294967295) :
    Calls Try.prog 5 #[.agg #[.int .u32 a, .int .u32 f, .int .u32 l, v], .int .u32 part] w fun e w' => e = .returned (.bool true) ∧ Below w.heap.size w w' := by
  obtain ⟨A, c, rfl, hc1, hc2, hb3⟩ := hb
  have Hb := Lib.hid (show Byt w (.slice A xs.length c) xs from ⟨A, c, rfl, hc1, hc2, hb3⟩)
  have Hx := Lib.hid hx
  obtain ⟨N, hN⟩ : ∃ N, xs.length = N := ⟨_, rfl⟩
  rw [hN] at Hb hc1 ⊢
  unfold maxLen at hc2
  clear hb3 hx hN
  obtain ⟨k, hk, hkN, hk5⟩ : ∃ k : Nat, (if (500 : Int) < (N : Int) then (500 : Int) else (N : Int)) = (k : Int) ∧ k ≤ N ∧ k ≤ 500 := ⟨min N 500, by split <;> omega, by omega, by omega⟩
  obtain ⟨ys, hys⟩ : ∃ ys, ys = xs.take k := ⟨_, rfl⟩
  have hlen : ys.length = k := by rw [hys]; obtain ⟨A', c', hv, _⟩ := (Hb.out.cut k hkN); injection hv with _ h2 _; exact h2.symm
  have Hr : Hid (∀ x ∈ ys, 0 ≤ x ∧ x ≤ 255) := by intro x hx; rw [hys] at hx; exact Hx.out x (List.mem_of_mem_take hx)
  have HD0 : Hid (Byt w (.slice A k c) ys) := by rw [hys]; exact Hb.out.cut k hkN
  have HL := Lib.hid hlen
  clear hys hlen
  obtain ⟨L, hL⟩ : ∃ L, l % 1073741825 = L := ⟨_, rfl⟩
  have hL0 : 0 ≤ L := by omega
  have hL1 : L ≤ 1073741824 := by omega
  have hbd := ahd_bd f a
  obtain ⟨off, hoff⟩ : ∃ off, ahd f a = off := ⟨_, rfl⟩
  have HOFF := Lib.hid hoff
  rw [hoff] at hbd
  clear hoff
  have HD1 := Lib.hid (HD0.out.below ((Below.refl w.heap.size w).alloc (Nat.le_refl _) (Obj.cells #[Value.int IntKind.u32 a, Value.int IntKind.u32 f, Value.int IntKind.u32 l, Value.slice A k c] 33)))
  go_enter Try.func5, Try.ntmps5
  go_wp2_with fail
  (with_reducible refine (cut_n a f L A c ys k _ HL.out HD1.out a0 a1 b0 b1 (by omega) (by omega)).mono ?_)
  obtain ⟨m, hm⟩ : ∃ m, (cutBs a ys f L).length = m := ⟨_, rfl⟩
  have HM := Lib.hid hm
  rintro e w4 ⟨v1, rfl, hown1, hb4⟩
  rw [hm] at hown1
  clear hm
  obtain ⟨A1, c1', rfl⟩ := own_len hown1
  obtain ⟨T, hT⟩ : ∃ T, cutAt a f L k = T := ⟨_, rfl⟩
  have HT := Lib.hid hT
  rw [hT]
  clear hT
  have HO1 := Lib.hid hown1
  have HB4 := Lib.hid hb4
  have d0 := (hb4.cell (p := ⟨w.heap.size, 0, none⟩) (by simp)).trans (show _ = some (.int .u32 a) by go_simp)
  have d1 := (hb4.cell (p := ⟨w.heap.size, 1, none⟩) (by simp)).trans (show _ = some (.int .u32 f) by go_simp)
  have d2 := (hb4.cell (p := ⟨w.heap.size, 2, none⟩) (by simp)).trans (show _ = some (.int .u32 l) by go_simp)
  have d3 := (hb4.cell (p := ⟨w.heap.size, 3, none⟩) (by simp)).trans (show _ = some (.slice A k c) by go_simp)
  have HD4 := Lib.hid (HD1.out.below hb4)
  have HMF := Lib.hid (cutBs_len a f L ys hL0 (by omega))
  clear hown1 hb4
  go_wp2_with fail
  go_loop [8, 43] (fun n i => ∃ j q : Nat, j ≤ k ∧ i = .int .i64 j ∧ n = .int .i64 q ∧ q = min (L - off).toNat j - (-off).toNat) (fun _ i => k - (intOf i).toNat)
  case atStart => exact ⟨0, 0, Nat.zero_le _, rfl, rfl, by omega⟩
  case round =>
    obtain ⟨j, q, hj, rfl, rfl, hq⟩ := hrel
    have HQ := Lib.hid hq
    clear hq
    by_cases hlt : j < k
    · obtain ⟨A', c'', hv, _, _, hcell⟩ := HD4.out
      injection hv with e1 e2 e3
      subst e1
      clear e2 e3
      have hpos : 0 < ys.length := by have := HL.out; omega
      obtain ⟨bb, oo, rfl, hbl, hcell⟩ := hcell hpos
      have hcj := hcell j (by have := HL.out; omega)
      obtain ⟨x, hxx⟩ : ∃ x, ys.getD j 0 = x := ⟨_, rfl⟩
      have HX := Lib.hid hxx
      rw [hxx] at hcj
      clear hxx hcell hbl hpos
      by_cases h1 : off + j < 0
      · go_wp2_with (go_at_call 12; refine (ahead_any _ _ _).mono ?_; rw [HOFF.out]; rintro e w' ⟨rfl, rfl⟩)
        go_round
        case rel => exact ⟨j + 1, q, by omega, by go_num, rfl, by have := HQ.out; omega⟩
        case measure => simp [intOf]; omega
      · by_cases h2 : L ≤ off + j
        · go_wp2_with (go_at_call 12; refine (ahead_any _ _ _).mono ?_; rw [HOFF.out]; rintro e w' ⟨rfl, rfl⟩)
          go_round
          case rel => exact ⟨j + 1, q, by omega, by go_num, rfl, by have := HQ.out; omega⟩
          case measure => simp [intOf]; omega
        · have hqj : (-off).toNat + q = j := by have := HQ.out; omega
          have hqm : q < m := by have := HMF.out; rw [HM.out, HOFF.out, HL.out] at this; omega
          have hget : (cutBs a ys f L).getD q 0 = x := by
            have := cutBs_get a f L ys (by omega) q (by rw [HOFF.out]; omega) (by rw [HOFF.out, HL.out]; omega)
            rw [this, HOFF.out, hqj]; exact HX.out
          obtain ⟨g, rfl, hbg, hgl, hmc, hcm, hcq, hfr, _⟩ := own_at HO1.out hqm
          have hcq' : w4.cell? ⟨g, q, none⟩ = some (.int .u8 x) := by
            rw [hcq, ← hget]
            have hql : q < (cutBs a ys f L).length := by rw [HM.out]; exact hqm
            simp [List.getD, hql]
          unfold maxLen at hcm
          have hat : (T + (q : Int)) % 4294967296 = (a + (j : Int)) % 4294967296 := by
            have := cutAt_ne a f L k (by omega) q (by rw [HOFF.out]; omega) (by rw [HOFF.out]; omega)
            rw [HT.out, HOFF.out] at this
            rw [this]; unfold addU; omega
          have HQJ := Lib.hid hqj
          have HHQ := HQ
          clear hcq hget hqj hfr HMF
          go_wp2_with (go_at_call 12; refine (ahead_any _ _ _).mono ?_; rw [HOFF.out]; rintro e w' ⟨rfl, rfl⟩)
          go_round
          case rel => exact ⟨j + 1, q + 1, by omega, by go_num, by go_num, by have := HHQ.out; omega⟩
          case measure => simp [intOf]; omega
    · obtain rfl : k = j := by omega
      have hqm : q = m := by have := HMF.out; rw [HM.out, HOFF.out, HL.out] at this; have := HQ.out; omega
      clear HQ HMF
      subst hqm
      have hnil : q = 0 → T = f := by
        intro h
        have := cutAt_nil a f L ys (by rw [HM.out]; exact h)
        rw [HL.out, HT.out] at this
        exact this
      by_cases hq0 : q = 0
      · have hTf : (T != f) = false := by rw [hnil hq0]; simp
        have hqz : ((q : Int) == 0) = true := by simp; omega
        clear hnil hq0
        by_cases hL2 : 0 < L
        · obtain ⟨KK, hKK⟩ : ∃ KK, part % L = KK := ⟨_, rfl⟩
          have hk0 : 0 ≤ KK := by rw [← hKK]; exact Int.emod_nonneg _ (by omega)
          have hk1 : KK < L := by rw [← hKK]; exact Int.emod_lt_of_pos _ hL2
          go_wp2_with fail
          (with_reducible refine (cut_n a f KK A c ys k _ HL.out HD4.out a0 a1 b0 b1 (by omega) (by omega)).mono ?_)
          rintro e w5 ⟨v3, rfl, hown3, hb5⟩
          obtain ⟨A3, c3, rfl⟩ := own_len hown3
          have HO3 := Lib.hid hown3
          have HB5 := Lib.hid hb5
          have HD5 := Lib.hid (HD4.out.below hb5)
          have hlt4 : Hid (w.heap.size < w4.heap.size) := by have := HB4.out.size; simp at this; exact this
          have e0 := (hb5.cell (p := ⟨w.heap.size, 0, none⟩) hlt4.out).trans d0
          have e1 := (hb5.cell (p := ⟨w.heap.size, 1, none⟩) hlt4.out).trans d1
          have e2 := (hb5.cell (p := ⟨w.heap.size, 2, none⟩) hlt4.out).trans d2
          have e3 := (hb5.cell (p := ⟨w.heap.size, 3, none⟩) hlt4.out).trans d3
          have hlt5 : Hid (w.heap.size < w5.heap.size) := Nat.lt_of_lt_of_le hlt4.out hb5.size
          have HE0 := Lib.hid e0
          have HE1 := Lib.hid e1
          have HE2 := Lib.hid e2
          have HE3 := Lib.hid e3
          have hsub : ahd ((f + KK) % 4294967296) a = wrap32 (off - KK) := by have := ahd_sub a f KK; rw [HOFF.out] at this; exact this
          have hoff := HOFF.out
          clear hown3 hb5 d0 d1 d2 d3 e0 e1 e2 e3
          go_wp2_with fail
          refine wp_region_class (InB w5.heap.size w5) (by kernel_rfl) (by kernel_rfl) ⟨(Below.refl _ _).drew, by simp⟩ fun _ => ?_
          have f0 := fun W : ClsW (InB w5.heap.size w5) => class_cell W HE0.out hlt5.out
          have f1 := fun W : ClsW (InB w5.heap.size w5) => class_cell W HE1.out hlt5.out
          repeat (go_big_quiet_step ((go_at_call 12; exact class_same (ahead_any _ _ _))))
          refine wpQuiet_nil ?_
          rintro _ ⟨W, rfl⟩
          obtain ⟨w6, hb6⟩ := W
          dsimp only
          have HB6 := Lib.hid hb6.1
          have g0 := (hb6.1.cell (p := ⟨w.heap.size, 0, none⟩) hlt5.out).trans HE0.out
          have g1 := (hb6.1.cell (p := ⟨w.heap.size, 1, none⟩) hlt5.out).trans HE1.out
          have g2 := (hb6.1.cell (p := ⟨w.heap.size, 2, none⟩) hlt5.out).trans HE2.out
          have g3 := (hb6.1.cell (p := ⟨w.heap.size, 3, none⟩) hlt5.out).trans HE3.out
          have HD6 := Lib.hid (HD5.out.below hb6.1)
          have mF := mod_bd (f + KK)
          clear f0 f1 hb6 hsub hoff
          go_wp2_with fail
          (with_reducible refine (cut_n a ((f + KK) % 4294967296) (L - KK) A c ys k _ HL.out HD6.out a0 a1 (by omega) (by omega) (by omega) (by omega)).mono ?_)
          rintro e w7 ⟨v4, rfl, hown4, hb7⟩
          obtain ⟨A4, c4, rfl⟩ := own_len hown4
          have HO4 := Lib.hid hown4
          have HB7 := Lib.hid hb7
          clear hown4 hb7 g0 g1 g2 g3
          go_wp2_with fail
          (with_reducible refine (awake_any _).mono ?_)
          rintro e w8 ⟨rfl, hb8⟩
          have HB8 := Lib.hid hb8
          clear hb8
          have Y1 := Lib.hid (((((Byt.of_own (xs := cutBs a ys f L) (by rw [HM.out]; exact HO1.out)).below HB5.out).below HB6.out).below HB7.out).below HB8.out)
          have Y3 := Lib.hid (((Byt.of_own HO3.out).below HB6.out).below HB7.out |>.below HB8.out)
          have Y4 := Lib.hid ((Byt.of_own HO4.out).below HB8.out)
          have le3 : (cutBs a ys f KK).length ≤ 500 := by have := cutBs_len a f KK ys (by omega) (by omega); rw [HL.out] at this; omega
          have le4 : (cutBs a ys ((f + KK) % 4294967296) (L - KK)).length ≤ 500 := by have := cutBs_len a ((f + KK) % 4294967296) (L - KK) ys (by omega) (by omega); rw [HL.out] at this; omega
          obtain ⟨va, W9, hr9, ho9, hg9⟩ := run_append_byt (w := w8.alloc (Obj.cells #[] 5)) w8.heap.size (.slice (some ⟨w8.heap.size, 0, none⟩) 0 0) 0 [] (World.ownsRow_made (base := w8.heap.size) (e := 5) (size := 1) w8 #[] 0 (by simp) (by simp [maxLen]) (by simp)) _ _ _ _ rfl (Y3.out.below ((Below.refl _ _).alloc (Nat.le_refl _) _)) (by omega) (by simp)
          rw [Nat.zero_add, List.nil_append] at ho9
          have hB9 : Below w8.heap.size w8 W9 := ((Below.refl _ _).alloc (Nat.le_refl _) _).grown hg9 (by simp) (fun k hk => by simp [Value.ownBlock] at hk; omega)
          obtain ⟨vb, W10, hr10, ho10, hg10⟩ := run_append_byt (w := W9) w8.heap.size va _ _ ho9 _ _ _ _ rfl (Y4.out.below hB9) (by omega) hB9.size
          have hB10 : Below w8.heap.size w8 W10 := hB9.grown hg10 hB9.size (fun k hk => (ho9.lt k hk).1)
          have Yb : Hid (Byt W10 vb (cutBs a ys f L)) := by
            have e : cutBs a ys f KK ++ cutBs a ys ((f + KK) % 4294967296) (L - KK) = cutBs a ys f L := cutBs_add a f L KK ys (by omega) (by omega) (by omega) (by rw [HL.out]; omega)
            refine Byt.of_own (base := w8.heap.size) ?_
            rw [← e, List.length_append, List.map_append]
            exact ho10
          have Y10 := Lib.hid (Y1.out.below hB10)
          have R9 := Lib.hid hr9
          have R10 := Lib.hid hr10
          have HB10 := Lib.hid hB10
          have q1 := eqB_self (cutBs a ys f L)
          clear hr9 ho9 hg9 hB9 hr10 ho10 hg10 hB10 le3 le4
          go_wp2_with (first
            | (at_builtin; refine wpList_append_runG _ (by rfl) _ _ 23 23 rfl _ _ rfl rfl _ _ (by exact R9.out) ?_)
            | (at_builtin; refine wpList_append_runG _ (by rfl) _ _ 23 23 rfl _ _ rfl rfl _ _ (by exact R10.out) ?_)
            | (go_at_call 17; refine (equal_any _ _ (cutBs a ys f L) (cutBs a ys f L) _ Yb.out Y10.out (cutBs_mem _ _ _ _ Hr.out) (cutBs_mem _ _ _ _ Hr.out)).mono ?_; rw [q1]; rintro e w' ⟨rfl, rfl⟩))
          go_ret
          refine ⟨rfl, ?_⟩
          have h4 : Below w.heap.size w w4 := ((Below.refl _ _).alloc (Nat.le_refl _) _).trans (HB4.out.mono (by simp))
          have h5 := h4.trans (HB5.out.mono h4.size)
          have h6 := h5.trans (HB6.out.mono h5.size)
          have h7 := h6.trans (HB7.out.mono h6.size)
          have h8 := h7.trans (HB8.out.mono h7.size)
          exact h8.trans (HB10.out.mono h8.size)
        · obtain rfl : L = 0 := by omega
          go_wp2_with fail
          (with_reducible refine (cut_n a f 0 A c ys k _ HL.out HD4.out a0 a1 b0 b1 (by omega) (by omega)).mono ?_)
          rintro e w5 ⟨v3, rfl, hown3, hb5⟩
          obtain ⟨A3, c3, rfl⟩ := own_len hown3
          have HO3 := Lib.hid hown3
          have HB5 := Lib.hid hb5
          have HD5 := Lib.hid (HD4.out.below hb5)
          have hlt4 : Hid (w.heap.size < w4.heap.size) := by have := HB4.out.size; simp at this; exact this
          have e0 := (hb5.cell (p := ⟨w.heap.size, 0, none⟩) hlt4.out).trans d0
          have e1 := (hb5.cell (p := ⟨w.heap.size, 1, none⟩) hlt4.out).trans d1
          have e2 := (hb5.cell (p := ⟨w.heap.size, 2, none⟩) hlt4.out).trans d2
          have e3 := (hb5.cell (p := ⟨w.heap.size, 3, none⟩) hlt4.out).trans d3
          have hlt5 : Hid (w.heap.size < w5.heap.size) := Nat.lt_of_lt_of_le hlt4.out hb5.size
          have HE0 := Lib.hid e0
          have HE1 := Lib.hid e1
          have HE2 := Lib.hid e2
          have HE3 := Lib.hid e3
          have hsub : ahd f a = off := by have := ahd_sub a f 0; rw [HOFF.out] at this; exact HOFF.out
          have hoff := HOFF.out
          clear hown3 hb5 d0 d1 d2 d3 e0 e1 e2 e3
          go_wp2_with fail
          refine wp_region_class (InB w5.heap.size w5) (by kernel_rfl) (by kernel_rfl) ⟨(Below.refl _ _).drew, by simp⟩ fun _ => ?_
          have f0 := fun W : ClsW (InB w5.heap.size w5) => class_cell W HE0.out hlt5.out
          have f1 := fun W : ClsW (InB w5.heap.size w5) => class_cell W HE1.out hlt5.out
          repeat (go_big_quiet_step ((go_at_call 12; exact class_same (ahead_any _ _ _))))
          refine wpQuiet_nil ?_
          rintro _ ⟨W, rfl⟩
          obtain ⟨w6, hb6⟩ := W
          dsimp only
          have HB6 := Lib.hid hb6.1
          have g0 := (hb6.1.cell (p := ⟨w.heap.size, 0, none⟩) hlt5.out).trans HE0.out
          have g1 := (hb6.1.cell (p := ⟨w.heap.size, 1, none⟩) hlt5.out).trans HE1.out
          have g2 := (hb6.1.cell (p := ⟨w.heap.size, 2, none⟩) hlt5.out).trans HE2.out
          have g3 := (hb6.1.cell (p := ⟨w.heap.size, 3, none⟩) hlt5.out).trans HE3.out
          have HD6 := Lib.hid (HD5.out.below hb6.1)
          have mF := mod_bd (f + 0)
          clear f0 f1 hb6 hsub hoff
          go_wp2_with fail
          (with_reducible refine (cut_n a f 0 A c ys k _ HL.out HD6.out a0 a1 (by omega) (by omega) (by omega) (by omega)).mono ?_)
          rintro e w7 ⟨v4, rfl, hown4, hb7⟩
          obtain ⟨A4, c4, rfl⟩ := own_len hown4
          have HO4 := Lib.hid hown4
          have HB7 := Lib.hid hb7
          clear hown4 hb7 g0 g1 g2 g3
          go_wp2_with fail
          (with_reducible refine (awake_any _).mono ?_)
          rintro e w8 ⟨rfl, hb8⟩
          have HB8 := Lib.hid hb8
          clear hb8
          have Y1 := Lib.hid (((((Byt.of_own (xs := cutBs a ys f 0) (by rw [HM.out]; exact HO1.out)).below HB5.out).below HB6.out).below HB7.out).below HB8.out)
          have Y3 := Lib.hid (((Byt.of_own HO3.out).below HB6.out).below HB7.out |>.below HB8.out)
          have Y4 := Lib.hid ((Byt.of_own HO4.out).below HB8.out)
          have le3 : (cutBs a ys f 0).length ≤ 500 := by have := cutBs_len a f 0 ys (by omega) (by omega); rw [HL.out] at this; omega
          have le4 : (cutBs a ys f 0).length ≤ 500 := by have := cutBs_len a f 0 ys (by omega) (by omega); rw [HL.out] at this; omega
          obtain ⟨va, W9, hr9, ho9, hg9⟩ := run_append_byt (w := w8.alloc (Obj.cells #[] 5)) w8.heap.size (.slice (some ⟨w8.heap.size, 0, none⟩) 0 0) 0 [] (World.ownsRow_made (base := w8.heap.size) (e := 5) (size := 1) w8 #[] 0 (by simp) (by simp [maxLen]) (by simp)) _ _ _ _ rfl (Y3.out.below ((Below.refl _ _).alloc (Nat.le_refl _) _)) (by omega) (by simp)
          rw [Nat.zero_add, List.nil_append] at ho9
          have hB9 : Below w8.heap.size w8 W9 := ((Below.refl _ _).alloc (Nat.le_refl _) _).grown hg9 (by simp) (fun k hk => by simp [Value.ownBlock] at hk; omega)
          obtain ⟨vb, W10, hr10, ho10, hg10⟩ := run_append_byt (w := W9) w8.heap.size va _ _ ho9 _ _ _ _ rfl (Y4.out.below hB9) (by omega) hB9.size
          have hB10 : Below w8.heap.size w8 W10 := hB9.grown hg10 hB9.size (fun k hk => (ho9.lt k hk).1)
          have Yb : Hid (Byt W10 vb (cutBs a ys f 0)) := by
            have e : cutBs a ys f 0 ++ cutBs a ys f 0 = cutBs a ys f 0 := by have := cutBs_add a f 0 0 ys (by omega) (by omega) (by omega) (by rw [HL.out]; omega); rw [show (f + 0) % 4294967296 = f from by omega] at this; exact this
            refine Byt.of_own (base := w8.heap.size) ?_
            rw [← e, List.length_append, List.map_append]
            exact ho10
          have Y10 := Lib.hid (Y1.out.below hB10)
          have R9 := Lib.hid hr9
          have R10 := Lib.hid hr10
          have HB10 := Lib.hid hB10
          have q1 := eqB_self (cutBs a ys f 0)
          clear hr9 ho9 hg9 hB9 hr10 ho10 hg10 hB10 le3 le4
          go_wp2_with (first
            | (at_builtin; refine wpList_append_runG _ (by rfl) _ _ 23 23 rfl _ _ rfl rfl _ _ (by exact R9.out) ?_)
            | (at_builtin; refine wpList_append_runG _ (by rfl) _ _ 23 23 rfl _ _ rfl rfl _ _ (by exact R10.out) ?_)
            | (go_at_call 17; refine (equal_any _ _ (cutBs a ys f 0) (cutBs a ys f 0) _ Yb.out Y10.out (cutBs_mem _ _ _ _ Hr.out) (cutBs_mem _ _ _ _ Hr.out)).mono ?_; rw [q1]; rintro e w' ⟨rfl, rfl⟩))
          go_ret
          refine ⟨rfl, ?_⟩
          have h4 : Below w.heap.size w w4 := ((Below.refl _ _).alloc (Nat.le_refl _) _).trans (HB4.out.mono (by simp))
          have h5 := h4.trans (HB5.out.mono h4.size)
          have h6 := h5.trans (HB6.out.mono h5.size)
          have h7 := h6.trans (HB7.out.mono h6.size)
          have h8 := h7.trans (HB8.out.mono h7.size)
          exact h8.trans (HB10.out.mono h8.size)
      · have hqz : ((q : Int) == 0) = false := by simp; omega
        clear hnil
        by_cases hL2 : 0 < L
        · obtain ⟨KK, hKK⟩ : ∃ KK, part % L = KK := ⟨_, rfl⟩
          have hk0 : 0 ≤ KK := by rw [← hKK]; exact Int.emod_nonneg _ (by omega)
          have hk1 : KK < L := by rw [← hKK]; exact Int.emod_lt_of_pos _ hL2
          go_wp2_with fail
          (with_reducible refine (cut_n a f KK A c ys k _ HL.out HD4.out a0 a1 b0 b1 (by omega) (by omega)).mono ?_)
          rintro e w5 ⟨v3, rfl, hown3, hb5⟩
          obtain ⟨A3, c3, rfl⟩ := own_len hown3
          have HO3 := Lib.hid hown3
          have HB5 := Lib.hid hb5
          have HD5 := Lib.hid (HD4.out.below hb5)
          have hlt4 : Hid (w.heap.size < w4.heap.size) := by have := HB4.out.size; simp at this; exact this
          have e0 := (hb5.cell (p := ⟨w.heap.size, 0, none⟩) hlt4.out).trans d0
          have e1 := (hb5.cell (p := ⟨w.heap.size, 1, none⟩) hlt4.out).trans d1
          have e2 := (hb5.cell (p := ⟨w.heap.size, 2, none⟩) hlt4.out).trans d2
          have e3 := (hb5.cell (p := ⟨w.heap.size, 3, none⟩) hlt4.out).trans d3
          have hlt5 : Hid (w.heap.size < w5.heap.size) := Nat.lt_of_lt_of_le hlt4.out hb5.size
          have HE0 := Lib.hid e0
          have HE1 := Lib.hid e1
          have HE2 := Lib.hid e2
          have HE3 := Lib.hid e3
          have hsub : ahd ((f + KK) % 4294967296) a = wrap32 (off - KK) := by have := ahd_sub a f KK; rw [HOFF.out] at this; exact this
          have hoff := HOFF.out
          clear hown3 hb5 d0 d1 d2 d3 e0 e1 e2 e3
          go_wp2_with fail
          refine wp_region_class (InB w5.heap.size w5) (by kernel_rfl) (by kernel_rfl) ⟨(Below.refl _ _).drew, by simp⟩ fun _ => ?_
          have f0 := fun W : ClsW (InB w5.heap.size w5) => class_cell W HE0.out hlt5.out
          have f1 := fun W : ClsW (InB w5.heap.size w5) => class_cell W HE1.out hlt5.out
          repeat (go_big_quiet_step ((go_at_call 12; exact class_same (ahead_any _ _ _))))
          refine wpQuiet_nil ?_
          rintro _ ⟨W, rfl⟩
          obtain ⟨w6, hb6⟩ := W
          dsimp only
          have HB6 := Lib.hid hb6.1
          have g0 := (hb6.1.cell (p := ⟨w.heap.size, 0, none⟩) hlt5.out).trans HE0.out
          have g1 := (hb6.1.cell (p := ⟨w.heap.size, 1, none⟩) hlt5.out).trans HE1.out
          have g2 := (hb6.1.cell (p := ⟨w.heap.size, 2, none⟩) hlt5.out).trans HE2.out
          have g3 := (hb6.1.cell (p := ⟨w.heap.size, 3, none⟩) hlt5.out).trans HE3.out
          have HD6 := Lib.hid (HD5.out.below hb6.1)
          have mF := mod_bd (f + KK)
          clear f0 f1 hb6 hsub hoff
          go_wp2_with fail
          (with_reducible refine (cut_n a ((f + KK) % 4294967296) (L - KK) A c ys k _ HL.out HD6.out a0 a1 (by omega) (by omega) (by omega) (by omega)).mono ?_)
          rintro e w7 ⟨v4, rfl, hown4, hb7⟩
          obtain ⟨A4, c4, rfl⟩ := own_len hown4
          have HO4 := Lib.hid hown4
          have HB7 := Lib.hid hb7
          clear hown4 hb7 g0 g1 g2 g3
          go_wp2_with fail
          (with_reducible refine (awake_any _).mono ?_)
          rintro e w8 ⟨rfl, hb8⟩
          have HB8 := Lib.hid hb8
          clear hb8
          have Y1 := Lib.hid (((((Byt.of_own (xs := cutBs a ys f L) (by rw [HM.out]; exact HO1.out)).below HB5.out).below HB6.out).below HB7.out).below HB8.out)
          have Y3 := Lib.hid (((Byt.of_own HO3.out).below HB6.out).below HB7.out |>.below HB8.out)
          have Y4 := Lib.hid ((Byt.of_own HO4.out).below HB8.out)
          have le3 : (cutBs a ys f KK).length ≤ 500 := by have := cutBs_len a f KK ys (by omega) (by omega); rw [HL.out] at this; omega
          have le4 : (cutBs a ys ((f + KK) % 4294967296) (L - KK)).length ≤ 500 := by have := cutBs_len a ((f + KK) % 4294967296) (L - KK) ys (by omega) (by omega); rw [HL.out] at this; omega
          obtain ⟨va, W9, hr9, ho9, hg9⟩ := run_append_byt (w := w8.alloc (Obj.cells #[] 5)) w8.heap.size (.slice (some ⟨w8.heap.size, 0, none⟩) 0 0) 0 [] (World.ownsRow_made (base := w8.heap.size) (e := 5) (size := 1) w8 #[] 0 (by simp) (by simp [maxLen]) (by simp)) _ _ _ _ rfl (Y3.out.below ((Below.refl _ _).alloc (Nat.le_refl _) _)) (by omega) (by simp)
          rw [Nat.zero_add, List.nil_append] at ho9
          have hB9 : Below w8.heap.size w8 W9 := ((Below.refl _ _).alloc (Nat.le_refl _) _).grown hg9 (by simp) (fun k hk => by simp [Value.ownBlock] at hk; omega)
          obtain ⟨vb, W10, hr10, ho10, hg10⟩ := run_append_byt (w := W9) w8.heap.size va _ _ ho9 _ _ _ _ rfl (Y4.out.below hB9) (by omega) hB9.size
          have hB10 : Below w8.heap.size w8 W10 := hB9.grown hg10 hB9.size (fun k hk => (ho9.lt k hk).1)
          have Yb : Hid (Byt W10 vb (cutBs a ys f L)) := by
            have e : cutBs a ys f KK ++ cutBs a ys ((f + KK) % 4294967296) (L - KK) = cutBs a ys f L := cutBs_add a f L KK ys (by omega) (by omega) (by omega) (by rw [HL.out]; omega)
            refine Byt.of_own (base := w8.heap.size) ?_
            rw [← e, List.length_append, List.map_append]
            exact ho10
          have Y10 := Lib.hid (Y1.out.below hB10)
          have R9 := Lib.hid hr9
          have R10 := Lib.hid hr10
          have HB10 := Lib.hid hB10
          have q1 := eqB_self (cutBs a ys f L)
          clear hr9 ho9 hg9 hB9 hr10 ho10 hg10 hB10 le3 le4
          go_wp2_with (first
            | (at_builtin; refine wpList_append_runG _ (by rfl) _ _ 23 23 rfl _ _ rfl rfl _ _ (by exact R9.out) ?_)
            | (at_builtin; refine wpList_append_runG _ (by rfl) _ _ 23 23 rfl _ _ rfl rfl _ _ (by exact R10.out) ?_)
            | (go_at_call 17; refine (equal_any _ _ (cutBs a ys f L) (cutBs a ys f L) _ Yb.out Y10.out (cutBs_mem _ _ _ _ Hr.out) (cutBs_mem _ _ _ _ Hr.out)).mono ?_; rw [q1]; rintro e w' ⟨rfl, rfl⟩))
          go_ret
          refine ⟨rfl, ?_⟩
          have h4 : Below w.heap.size w w4 := ((Below.refl _ _).alloc (Nat.le_refl _) _).trans (HB4.out.mono (by simp))
          have h5 := h4.trans (HB5.out.mono h4.size)
          have h6 := h5.trans (HB6.out.mono h5.size)
          have h7 := h6.trans (HB7.out.mono h6.size)
          have h8 := h7.trans (HB8.out.mono h7.size)
          exact h8.trans (HB10.out.mono h8.size)
        · obtain rfl : L = 0 := by omega
          go_wp2_with fail
          (with_reducible refine (cut_n a f 0 A c ys k _ HL.out HD4.out a0 a1 b0 b1 (by omega) (by omega)).mono ?_)
          rintro e w5 ⟨v3, rfl, hown3, hb5⟩
          obtain ⟨A3, c3, rfl⟩ := own_len hown3
          have HO3 := Lib.hid hown3
          have HB5 := Lib.hid hb5
          have HD5 := Lib.hid (HD4.out.below hb5)
          have hlt4 : Hid (w.heap.size < w4.heap.size) := by have := HB4.out.size; simp at this; exact this
          have e0 := (hb5.cell (p := ⟨w.heap.size, 0, none⟩) hlt4.out).trans d0
          have e1 := (hb5.cell (p := ⟨w.heap.size, 1, none⟩) hlt4.out).trans d1
          have e2 := (hb5.cell (p := ⟨w.heap.size, 2, none⟩) hlt4.out).trans d2
          have e3 := (hb5.cell (p := ⟨w.heap.size, 3, none⟩) hlt4.out).trans d3
          have hlt5 : Hid (w.heap.size < w5.heap.size) := Nat.lt_of_lt_of_le hlt4.out hb5.size
          have HE0 := Lib.hid e0
          have HE1 := Lib.hid e1
          have HE2 := Lib.hid e2
          have HE3 := Lib.hid e3
          have hsub : ahd f a = off := by have := ahd_sub a f 0; rw [HOFF.out] at this; exact HOFF.out
          have hoff := HOFF.out
          clear hown3 hb5 d0 d1 d2 d3 e0 e1 e2 e3
          go_wp2_with fail
          refine wp_region_class (InB w5.heap.size w5) (by kernel_rfl) (by kernel_rfl) ⟨(Below.refl _ _).drew, by simp⟩ fun _ => ?_
          have f0 := fun W : ClsW (InB w5.heap.size w5) => class_cell W HE0.out hlt5.out
          have f1 := fun W : ClsW (InB w5.heap.size w5) => class_cell W HE1.out hlt5.out
          repeat (go_big_quiet_step ((go_at_call 12; exact class_same (ahead_any _ _ _))))
          refine wpQuiet_nil ?_
          rintro _ ⟨W, rfl⟩
          obtain ⟨w6, hb6⟩ := W
          dsimp only
          have HB6 := Lib.hid hb6.1
          have g0 := (hb6.1.cell (p := ⟨w.heap.size, 0, none⟩) hlt5.out).trans HE0.out
          have g1 := (hb6.1.cell (p := ⟨w.heap.size, 1, none⟩) hlt5.out).trans HE1.out
          have g2 := (hb6.1.cell (p := ⟨w.heap.size, 2, none⟩) hlt5.out).trans HE2.out
          have g3 := (hb6.1.cell (p := ⟨w.heap.size, 3, none⟩) hlt5.out).trans HE3.out
          have HD6 := Lib.hid (HD5.out.below hb6.1)
          have mF := mod_bd (f + 0)
          clear f0 f1 hb6 hsub hoff
          go_wp2_with fail
          (with_reducible refine (cut_n a f 0 A c ys k _ HL.out HD6.out a0 a1 (by omega) (by omega) (by omega) (by omega)).mono ?_)
          rintro e w7 ⟨v4, rfl, hown4, hb7⟩
          obtain ⟨A4, c4, rfl⟩ := own_len hown4
          have HO4 := Lib.hid hown4
          have HB7 := Lib.hid hb7
          clear hown4 hb7 g0 g1 g2 g3
          go_wp2_with fail
          (with_reducible refine (awake_any _).mono ?_)
          rintro e w8 ⟨rfl, hb8⟩
          have HB8 := Lib.hid hb8
          clear hb8
          have Y1 := Lib.hid (((((Byt.of_own (xs := cutBs a ys f 0) (by rw [HM.out]; exact HO1.out)).below HB5.out).below HB6.out).below HB7.out).below HB8.out)
          have Y3 := Lib.hid (((Byt.of_own HO3.out).below HB6.out).below HB7.out |>.below HB8.out)
          have Y4 := Lib.hid ((Byt.of_own HO4.out).below HB8.out)
          have le3 : (cutBs a ys f 0).length ≤ 500 := by have := cutBs_len a f 0 ys (by omega) (by omega); rw [HL.out] at this; omega
          have le4 : (cutBs a ys f 0).length ≤ 500 := by have := cutBs_len a f 0 ys (by omega) (by omega); rw [HL.out] at this; omega
          obtain ⟨va, W9, hr9, ho9, hg9⟩ := run_append_byt (w := w8.alloc (Obj.cells #[] 5)) w8.heap.size (.slice (some ⟨w8.heap.size, 0, none⟩) 0 0) 0 [] (World.ownsRow_made (base := w8.heap.size) (e := 5) (size := 1) w8 #[] 0 (by simp) (by simp [maxLen]) (by simp)) _ _ _ _ rfl (Y3.out.below ((Below.refl _ _).alloc (Nat.le_refl _) _)) (by omega) (by simp)
          rw [Nat.zero_add, List.nil_append] at ho9
          have hB9 : Below w8.heap.size w8 W9 := ((Below.refl _ _).alloc (Nat.le_refl _) _).grown hg9 (by simp) (fun k hk => by simp [Value.ownBlock] at hk; omega)
          obtain ⟨vb, W10, hr10, ho10, hg10⟩ := run_append_byt (w := W9) w8.heap.size va _ _ ho9 _ _ _ _ rfl (Y4.out.below hB9) (by omega) hB9.size
          have hB10 : Below w8.heap.size w8 W10 := hB9.grown hg10 hB9.size (fun k hk => (ho9.lt k hk).1)
          have Yb : Hid (Byt W10 vb (cutBs a ys f 0)) := by
            have e : cutBs a ys f 0 ++ cutBs a ys f 0 = cutBs a ys f 0 := by have := cutBs_add a f 0 0 ys (by omega) (by omega) (by omega) (by rw [HL.out]; omega); rw [show (f + 0) % 4294967296 = f from by omega] at this; exact this
            refine Byt.of_own (base := w8.heap.size) ?_
            rw [← e, List.length_append, List.map_append]
            exact ho10
          have Y10 := Lib.hid (Y1.out.below hB10)
          have R9 := Lib.hid hr9
          have R10 := Lib.hid hr10
          have HB10 := Lib.hid hB10
          have q1 := eqB_self (cutBs a ys f 0)
          clear hr9 ho9 hg9 hB9 hr10 ho10 hg10 hB10 le3 le4
          go_wp2_with (first
            | (at_builtin; refine wpList_append_runG _ (by rfl) _ _ 23 23 rfl _ _ rfl rfl _ _ (by exact R9.out) ?_)
            | (at_builtin; refine wpList_append_runG _ (by rfl) _ _ 23 23 rfl _ _ rfl rfl _ _ (by exact R10.out) ?_)
            | (go_at_call 17; refine (equal_any _ _ (cutBs a ys f 0) (cutBs a ys f 0) _ Yb.out Y10.out (cutBs_mem _ _ _ _ Hr.out) (cutBs_mem _ _ _ _ Hr.out)).mono ?_; rw [q1]; rintro e w' ⟨rfl, rfl⟩))
          go_ret
          refine ⟨rfl, ?_⟩
          have h4 : Below w.heap.size w w4 := ((Below.refl _ _).alloc (Nat.le_refl _) _).trans (HB4.out.mono (by simp))
          have h5 := h4.trans (HB5.out.mono h4.size)
          have h6 := h5.trans (HB6.out.mono h5.size)
          have h7 := h6.trans (HB7.out.mono h6.size)
          have h8 := h7.trans (HB8.out.mono h7.size)
          exact h8.trans (HB10.out.mono h8.size)
end Go.Proofs.Ytlckmdgejendpaa
