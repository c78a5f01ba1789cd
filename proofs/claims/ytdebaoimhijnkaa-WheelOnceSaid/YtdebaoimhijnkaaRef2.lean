/- The document's wheel: Set, Tick. -/
import Derived.Test.YtdebaoimhijnkaaRef
import Derived.Test.YtdebaoimhijnkaaTick
set_option linter.unusedVariables false
namespace Go.Proofs.Ytdebaoimhijnkaa
open Go.RowKit Go.Deep Go.BigFrame
attribute [local go_sem ↓] Go.wp_at_zero Go.wp_at_succ
set_option maxHeartbeats 3200000
set_option maxRecDepth 100000
theorem while_take {p : Al → Bool} : ∀ (L : List Al) (k : Nat), (∀ j z, j < k → L[j]? = some z → p z = true) → (∀ z, L[k]? = some z → p z = false) → k ≤ L.length → L.takeWhile p = L.take k ∧ L.dropWhile p = L.drop k
  | [], k, _, _, hk => by
    obtain rfl : k = 0 := by simpa using hk
    exact ⟨rfl, rfl⟩
  | a :: r, 0, _, h, _ => by
    have := h a rfl
    simp [this]
  | a :: r, k + 1, h1, h2, hk => by
    have ha := h1 0 a (by omega) rfl
    obtain ⟨q1, q2⟩ := while_take r k (fun j z hj hz => h1 (j + 1) z (by omega) (by simpa using hz)) (fun z hz => h2 z (by simpa using hz)) (by simpa using hk)
    simp [ha, q1, q2]
theorem rset_arg {w : World} {r : Nat} (id t : Int) (ht : 1099511627776 < t) :
    Calls Try.prog 10 #[.pointer (some ⟨r, 0, none⟩), .int .u64 id, .int .u64 t] w fun e w' => e = .returned (.int .i64 1) ∧ w = w' := by
  go_enter Try.func10, Try.ntmps10
  go_wp2_with fail
  go_ret
  exact ⟨rfl, rfl⟩
theorem rset_ok {w : World} {r : Nat} {s : WS} (h : Rw w r s) (hok : s.Ok) (hl : s.L.length ≤ 1000) (id t : Int) (ht : t ≤ 1099511627776) :
    Calls Try.prog 10 #[.pointer (some ⟨r, 0, none⟩), .int .u64 id, .int .u64 t] w fun e w' => e = .returned (.int .i64 0) ∧ Rw w' r (setS s id t) ∧ Turns (One r) w w' := by
  have HS := Lib.hid (rstop_any h hok hl id)
  obtain ⟨rb, hrb⟩ : ∃ rb : Int, (if (findA s.L id).isSome then (0 : Int) else 6) = rb := ⟨_, rfl⟩
  rw [hrb] at HS
  have hdl := (drop_sub s.L id).length_le
  have HOK := Lib.hid (And.intro (takeS_ok hok id) (show (takeS s id).L.length ≤ 1000 from Nat.le_trans hdl hl))
  clear h hok hl hrb hdl
  go_enter Try.func10, Try.ntmps10
  go_wp2_with fail
  refine HS.out.mono ?_
  rintro e Y ⟨rfl, hY, hTY⟩
  obtain ⟨L, hL⟩ : ∃ L, (takeS s id).L = L := ⟨_, rfl⟩
  obtain ⟨A, c, h1, h2, h3⟩ := hY.heap
  rw [hL] at h1 h2 h3
  obtain ⟨n, hn⟩ : ∃ n, L.length = n := ⟨_, rfl⟩
  rw [hn] at h1 h3
  have c1 : Y.cell? ⟨r, 1, none⟩ = some (.slice A n c) := cell_of h1 1
  have hn9 : n ≤ 1000 := by rw [← hn, ← hL]; exact HOK.out.2
  have HY := Lib.hid (And.intro h2 (And.intro hn (And.intro h1 (And.intro hY (And.intro hTY hL)))))
  clear hY hTY hL h1 h2 hn HS
  go_wp2_with fail
  go_loop [7] (fun v7 => ∃ k : Nat, v7 = .int .i64 k ∧ k ≤ n ∧ Hid (∀ j z, j < k → L[j]? = some z → decide (ltF z ⟨id, t⟩) = true)) (fun v7 => n - (intOf v7).toNat)
  case atStart => exact ⟨0, rfl, Nat.zero_le _, Lib.hid (fun j z hj => by omega)⟩
  case round =>
    obtain ⟨k, rfl, hk, hlow⟩ := hrel
    by_cases hcont : ∃ z, L[k]? = some z ∧ ltF z ⟨id, t⟩
    · obtain ⟨z, hz, hlt⟩ := hcont
      have hkn : k < n := by have := (List.getElem?_eq_some_iff.1 hz).1; rw [HY.out.2.1] at this; exact this
      obtain ⟨b, o, rfl, k0, k1⟩ := HY.out.1.2 k z hz
      have HNX : Hid (∀ j y, j < k + 1 → L[j]? = some y → decide (ltF y ⟨id, t⟩) = true) := Lib.hid (fun j y hj hy => by
        rcases Nat.lt_or_ge j k with q | q
        · exact hlow.out j y q hy
        · obtain rfl : j = k := by omega
          rw [hz] at hy
          injection hy with hy
          subst hy
          exact decide_eq_true hlt)
      have hlt2 : z.t < t ∨ z.t = t ∧ z.id < id := hlt
      clear hz hlt
      by_cases q1 : z.t < t
      · clear hlt2
        go_wp2_with fail
        go_round
        case rel => exact ⟨k + 1, by simp, by omega, HNX⟩
        case measure => simp [intOf]; omega
      · have q2 : (z.t == t) = true := by simp; omega
        have q3 : z.id < id := by omega
        clear hlt2
        go_wp2_with fail
        go_round
        case rel => exact ⟨k + 1, by simp, by omega, HNX⟩
        case measure => simp [intOf]; omega
    · have hstop : ∀ z, L[k]? = some z → decide (ltF z ⟨id, t⟩) = false := fun z hz => decide_eq_false (fun q => hcont ⟨z, hz, q⟩)
      obtain ⟨w1', w2'⟩ := while_take L k hlow.out hstop (by rw [HY.out.2.1]; exact hk)
      have hins : insL L ⟨id, t⟩ = L.take k ++ [⟨id, t⟩] ++ L.drop k := by
        unfold insL
        rw [w1', w2']
        simp
      obtain ⟨v1, W1, a1, o1, g1⟩ := app68 Y Y.heap.size (.slice none 0 0) 0 [] (World.ownsRow_nil _ _ _ _) A k c (L.take k) (by rw [List.length_take, HY.out.2.1]; omega) (HY.out.1.took k) (Nat.le_refl _) (by omega)
      rw [Nat.zero_add, List.nil_append] at o1
      have hb1 : Below Y.heap.size Y W1 := grown_bel (Below.refl _ _) g1 (fun j e => by cases e)
      obtain ⟨A1, c1', rfl⟩ := own_len o1
      obtain ⟨v2, W2, a2, o2, g2⟩ := app68 (W1.alloc (.cells (Al.arr ⟨id, t⟩) 68)) Y.heap.size (.slice A1 k c1') k (L.take k) (row_below o1 (bel_alloc _ _)) (some ⟨W1.heap.size, 0, none⟩) 1 1 [⟨id, t⟩] rfl (als_one (heap_alloc_new _ _)) (by rw [World.size_alloc]; have := hb1.size; omega) (by omega)
      have hb1a : Below Y.heap.size Y (W1.alloc (.cells (Al.arr ⟨id, t⟩) 68)) := hb1.trans ((bel_alloc _ _).mono hb1.size)
      have hb2 : Below Y.heap.size Y W2 := grown_bel hb1a g2 (fun j e => (o1.lt j e).1)
      obtain ⟨A2, c2', rfl⟩ := own_len o2
      obtain ⟨v3, W3, a3, o3, g3⟩ := app68 W2 Y.heap.size (.slice A2 (k + 1) c2') (k + 1) (L.take k ++ [⟨id, t⟩]) o2 (cutA A k c) (n - k) (c - k) (L.drop k) (by rw [List.length_drop, HY.out.2.1]) ((HY.out.1.below hb2).from k (by rw [HY.out.2.1]; exact h3)) hb2.size (by omega)
      have hb3 : Below Y.heap.size Y W3 := grown_bel hb2 g3 (fun j e => (o2.lt j e).1)
      obtain ⟨N, hN⟩ : ∃ N, k + 1 + (n - k) = N := ⟨_, rfl⟩
      rw [← hins, hN] at o3
      obtain ⟨A3, c3', rfl⟩ := own_len o3
      have hil : (insL L ⟨id, t⟩).length = N := by rw [(ins_perm _ _).length_eq, List.length_cons, HY.out.2.1]; omega
      have hry := (Array.getElem?_eq_some_iff.1 HY.out.2.2.1).1
      have hr1 := (hb1.block r hry).trans HY.out.2.2.1
      have hr2 := (hb2.block r hry).trans HY.out.2.2.1
      have hr3 := (hb3.block r hry).trans HY.out.2.2.1
      have HA1 := Lib.hid a1
      have HA2 := Lib.hid a2
      have HA3 := Lib.hid a3
      unfold Al.arr at HA2
      have d1 : W1.cell? ⟨r, 1, none⟩ = some (.slice A n c) := cell_of hr1 1
      have d2 : W2.cell? ⟨r, 1, none⟩ = some (.slice A n c) := cell_of hr2 1
      have d3 : W3.cell? ⟨r, 1, none⟩ = some (.slice A n c) := cell_of hr3 1
      have f3 : W3.frozen? ⟨r, 1, none⟩ = false := free_of hr3 _
      have hsl1 := fun W => run_slice_hi27 A n c k (by omega) W
      have hsl2 := fun W => run_slice_lo27 A n c k (by omega) W
      have HO := Lib.hid (And.intro o3 (And.intro hb3 (And.intro hr3 hil)))
      clear w1' w2' hins a1 a2 a3 o1 o2 o3 g1 g2 g3 hb1 hb1a hb2 hb3 hil hr1 hr2 hr3 hN
      by_cases hkn : k < n
      · obtain ⟨z, hz⟩ : ∃ z, L[k]? = some z := ⟨_, List.getElem?_eq_getElem (by rw [HY.out.2.1]; exact hkn)⟩
        have hge : ¬ (z.t < t ∨ z.t = t ∧ z.id < id) := fun q => hcont ⟨z, hz, q⟩
        obtain ⟨b, o, hA, k0, k1⟩ := HY.out.1.2 k z hz
        subst hA
        clear hcont hstop hz
        by_cases q1 : z.t = t
        · have q2 : (z.t == t) = true := by simpa using q1
          have q3 : ¬ z.id < id := fun q => hge (.inr ⟨q1, q⟩)
          have q4 : ¬ z.t < t := by omega
          clear hge q1
          go_upto_region 9 with (at_builtin; refine Lib.wpList_append_run _ rfl _ _ 27 27 rfl _ _ rfl rfl _ _ (by exact HA1.out _) ?_)
          go_upto_region 10 with (at_builtin; refine Lib.wpList_append_run _ rfl _ _ 27 27 rfl _ _ rfl rfl _ _ (by exact HA2.out _) ?_)
          go_wp2_with (at_builtin; refine Lib.wpList_append_run _ rfl _ _ 27 27 rfl _ _ rfl rfl _ _ (by exact HA3.out _) ?_)
          refine post_name fun W hW => ?_
          have hgr : W3.grownBy W (some r) := by rw [hW]; exact grown_setCell _ _ _ _
          have hrW : W.heap[r]? = some (.cells #[.int .u64 (takeS s id).now, .slice A3 N c3'] 29 (0, 0)) := by rw [hW]; exact heap_set HO.out.2.2.1 _
          have HW := Lib.hid (And.intro hgr hrW)
          clear hW hgr hrW
          go_ret
          obtain ⟨hgr, hrW⟩ := HW.out
          obtain ⟨o3, hb3, hr3, hil⟩ := HO.out
          obtain ⟨_, _, h1, hYR, hTY, hLL⟩ := HY.out
          have how : W.ownsRow Y.heap.size 68 2 (.slice A3 N c3') N (row (insL L ⟨id, t⟩)) := row_keptE o3 (fun j e => hgr.block j (row_lt o3 e).1 (by
            have := own_from o3 j e
            have := hYR.lt
            intro q
            injection q with q
            omega))
          have hset : (setS s id t).L = insL L ⟨id, t⟩ := by rw [← hLL]; rfl
          refine ⟨rfl, ⟨A3, c3', ?_, AlsAt.own (B := Y.heap.size) (c := c3') ?_, ?_⟩, hTY.trans (Turns.step (Turns.of hb3) hgr (fun j e => by injection e with e; exact .inl e.symm)) (fun i e => .inl e)⟩
          · rw [hset, hil]
            exact hrW
          · rw [hset, hil]
            exact how
          · rw [hset, hil]
            exact own_cap how
        · have q2 : (z.t == t) = false := by simpa using q1
          have q4 : ¬ z.t < t := fun q => hge (.inl q)
          clear hge q1
          go_upto_region 9 with (at_builtin; refine Lib.wpList_append_run _ rfl _ _ 27 27 rfl _ _ rfl rfl _ _ (by exact HA1.out _) ?_)
          go_upto_region 10 with (at_builtin; refine Lib.wpList_append_run _ rfl _ _ 27 27 rfl _ _ rfl rfl _ _ (by exact HA2.out _) ?_)
          go_wp2_with (at_builtin; refine Lib.wpList_append_run _ rfl _ _ 27 27 rfl _ _ rfl rfl _ _ (by exact HA3.out _) ?_)
          refine post_name fun W hW => ?_
          have hgr : W3.grownBy W (some r) := by rw [hW]; exact grown_setCell _ _ _ _
          have hrW : W.heap[r]? = some (.cells #[.int .u64 (takeS s id).now, .slice A3 N c3'] 29 (0, 0)) := by rw [hW]; exact heap_set HO.out.2.2.1 _
          have HW := Lib.hid (And.intro hgr hrW)
          clear hW hgr hrW
          go_ret
          obtain ⟨hgr, hrW⟩ := HW.out
          obtain ⟨o3, hb3, hr3, hil⟩ := HO.out
          obtain ⟨_, _, h1, hYR, hTY, hLL⟩ := HY.out
          have how : W.ownsRow Y.heap.size 68 2 (.slice A3 N c3') N (row (insL L ⟨id, t⟩)) := row_keptE o3 (fun j e => hgr.block j (row_lt o3 e).1 (by
            have := own_from o3 j e
            have := hYR.lt
            intro q
            injection q with q
            omega))
          have hset : (setS s id t).L = insL L ⟨id, t⟩ := by rw [← hLL]; rfl
          refine ⟨rfl, ⟨A3, c3', ?_, AlsAt.own (B := Y.heap.size) (c := c3') ?_, ?_⟩, hTY.trans (Turns.step (Turns.of hb3) hgr (fun j e => by injection e with e; exact .inl e.symm)) (fun i e => .inl e)⟩
          · rw [hset, hil]
            exact hrW
          · rw [hset, hil]
            exact how
          · rw [hset, hil]
            exact own_cap how
      · clear hcont hstop
        go_upto_region 9 with (at_builtin; refine Lib.wpList_append_run _ rfl _ _ 27 27 rfl _ _ rfl rfl _ _ (by exact HA1.out _) ?_)
        go_upto_region 10 with (at_builtin; refine Lib.wpList_append_run _ rfl _ _ 27 27 rfl _ _ rfl rfl _ _ (by exact HA2.out _) ?_)
        go_wp2_with (at_builtin; refine Lib.wpList_append_run _ rfl _ _ 27 27 rfl _ _ rfl rfl _ _ (by exact HA3.out _) ?_)
        refine post_name fun W hW => ?_
        have hgr : W3.grownBy W (some r) := by rw [hW]; exact grown_setCell _ _ _ _
        have hrW : W.heap[r]? = some (.cells #[.int .u64 (takeS s id).now, .slice A3 N c3'] 29 (0, 0)) := by rw [hW]; exact heap_set HO.out.2.2.1 _
        have HW := Lib.hid (And.intro hgr hrW)
        clear hW hgr hrW
        go_ret
        obtain ⟨hgr, hrW⟩ := HW.out
        obtain ⟨o3, hb3, hr3, hil⟩ := HO.out
        obtain ⟨_, _, h1, hYR, hTY, hLL⟩ := HY.out
        have how : W.ownsRow Y.heap.size 68 2 (.slice A3 N c3') N (row (insL L ⟨id, t⟩)) := row_keptE o3 (fun j e => hgr.block j (row_lt o3 e).1 (by
          have := own_from o3 j e
          have := hYR.lt
          intro q
          injection q with q
          omega))
        have hset : (setS s id t).L = insL L ⟨id, t⟩ := by rw [← hLL]; rfl
        refine ⟨rfl, ⟨A3, c3', ?_, AlsAt.own (B := Y.heap.size) (c := c3') ?_, ?_⟩, hTY.trans (Turns.step (Turns.of hb3) hgr (fun j e => by injection e with e; exact .inl e.symm)) (fun i e => .inl e)⟩
        · rw [hset, hil]
          exact hrW
        · rw [hset, hil]
          exact how
        · rw [hset, hil]
          exact own_cap how
end Go.Proofs.Ytdebaoimhijnkaa
