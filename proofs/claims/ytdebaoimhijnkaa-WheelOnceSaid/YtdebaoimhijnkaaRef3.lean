/- The document's wheel: Tick. -/
import Derived.Test.YtdebaoimhijnkaaRef2
set_option linter.unusedVariables false
namespace Go.Proofs.Ytdebaoimhijnkaa
open Go.RowKit Go.Deep Go.BigFrame
attribute [local go_sem ↓] Go.wp_at_zero Go.wp_at_succ
set_option maxHeartbeats 3200000
set_option maxRecDepth 100000
theorem due_cut {L : List Al} {now : Int} {j : Nat} (hs : L.Pairwise ltF) (h1 : ∀ i z, i < j → L[i]? = some z → z.t ≤ now) (h2 : ∀ z, L[j]? = some z → now < z.t) :
    dueL L now = L.take j ∧ (L.filter fun a => decide (now < a.t)) = L.drop j := by
  have ht : ∀ z ∈ L.take j, z.t ≤ now := fun z hz => by
    obtain ⟨i, hi⟩ := List.getElem?_of_mem hz
    have hl := (List.getElem?_eq_some_iff.1 hi).1
    rw [List.length_take] at hl
    rw [List.getElem?_take_of_lt (by omega)] at hi
    exact h1 i z (by omega) hi
  have hd : ∀ z ∈ L.drop j, now < z.t := fun z hz => by
    obtain ⟨i, hi⟩ := List.getElem?_of_mem hz
    rw [List.getElem?_drop] at hi
    obtain ⟨l1, r1⟩ := List.getElem?_eq_some_iff.1 hi
    have h0 := h2 L[j] (List.getElem?_eq_getElem (by omega))
    cases i with
    | zero =>
      simp only [Nat.add_zero] at r1
      rw [r1] at h0
      exact h0
    | succ i =>
      have := List.pairwise_iff_getElem.1 hs j (j + (i + 1)) (by omega) l1 (by omega)
      rw [r1] at this
      unfold ltF at this
      omega
  have e : L = L.take j ++ L.drop j := (List.take_append_drop j L).symm
  constructor
  · unfold dueL
    conv => lhs; rw [e]
    rw [List.filter_append, List.filter_eq_self.2 (fun z hz => by simpa using ht z hz), List.filter_eq_nil_iff.2 (fun z hz => by have := hd z hz; simp; omega), List.append_nil]
  · conv => lhs; rw [e]
    rw [List.filter_append, List.filter_eq_nil_iff.2 (fun z hz => by have := ht z hz; simp; omega), List.filter_eq_self.2 (fun z hz => by simpa using hd z hz), List.nil_append]
theorem rtick_arg {w : World} {r : Nat} {s : WS} (h : Rw w r s) (now : Int) (hn : now < s.now ∨ 1099511627776 < now) :
    Calls Try.prog 14 #[.pointer (some ⟨r, 0, none⟩), .int .u64 now] w fun e w' => e = .returned (.tuple #[.slice none 0 0, .int .i64 1]) ∧ w = w' := by
  obtain ⟨A, c, h1, h2, h3⟩ := h.heap
  have c0 : w.cell? ⟨r, 0, none⟩ = some (.int .u64 s.now) := cell_of h1 0
  obtain ⟨sn, hsn⟩ : ∃ sn, s.now = sn := ⟨_, rfl⟩
  rw [hsn] at c0 hn
  clear h h1 h2 h3 hsn
  by_cases hlt : now < sn
  · clear hn
    go_enter Try.func14, Try.ntmps14
    go_wp2_with fail
    go_ret2
    exact ⟨rfl, rfl⟩
  · have hM : 1099511627776 < now := by omega
    clear hn
    go_enter Try.func14, Try.ntmps14
    go_wp2_with fail
    go_ret2
    exact ⟨rfl, rfl⟩
theorem rtick_ok {w : World} {r : Nat} {s : WS} (h : Rw w r s) (hok : s.Ok) (hl : s.L.length ≤ 1000) (now : Int) (h0 : s.now ≤ now) (hM : now ≤ 1099511627776) :
    Calls Try.prog 14 #[.pointer (some ⟨r, 0, none⟩), .int .u64 now] w fun e w' => ∃ A c, e = .returned (.tuple #[.slice A (dueL s.L now).length c, .int .i64 0]) ∧ w'.ownsRow w.heap.size 23 1 (.slice A (dueL s.L now).length c) (dueL s.L now).length (rowU ((dueL s.L now).map Al.id)) ∧ Rw w' r (tickS s now) ∧ Turns (One r) w w' := by
  obtain ⟨A, c, h1, h2, h3⟩ := h.heap
  have c0 : w.cell? ⟨r, 0, none⟩ = some (.int .u64 s.now) := cell_of h1 0
  have f0 : w.frozen? ⟨r, 0, none⟩ = false := free_of h1 _
  obtain ⟨sn, hsn⟩ : ∃ sn, s.now = sn := ⟨_, rfl⟩
  rw [hsn] at c0 h0
  obtain ⟨L, hL⟩ : ∃ L, s.L = L := ⟨_, rfl⟩
  rw [hL] at h1 h2 h3 hl ⊢
  obtain ⟨n, hn⟩ : ∃ n, L.length = n := ⟨_, rfl⟩
  rw [hn] at h1 h3 hl
  obtain ⟨W0, hW0⟩ : ∃ W0, w.setCell ⟨r, 0, none⟩ (.int .u64 now) = W0 := ⟨_, rfl⟩
  have hg0 : w.grownBy W0 (some r) := by rw [← hW0]; exact grown_setCell _ _ _ _
  have hr0 : W0.heap[r]? = some (.cells #[.int .u64 now, .slice A n c] 29 (0, 0)) := by rw [← hW0]; exact heap_set h1 _
  have ha0 : AlsAt 68 W0 A L := h2.keptE hg0.size (fun k hk ⟨cs, fr, hc⟩ => hg0.block k hk (fun e => by
    injection e with e
    subst e
    rw [h1] at hc
    injection hc with hc
    injection hc with _ hc _
    cases hc))
  have hrl := h.lt
  have HW := Lib.hid (And.intro hg0 (And.intro hr0 (And.intro ha0 (And.intro hW0 (And.intro hn (And.intro (by rw [← hL]; exact hok.srt : L.Pairwise ltF) (And.intro hL hrl)))))))
  clear h h1 h2 hok hsn hL hn hg0 hr0 ha0 hW0 hrl
  go_enter Try.func14, Try.ntmps14
  go_upto_region 4 with (fail)
  rw [HW.out.2.2.2.1]
  clear c0 f0 h0
  go_wp2_with fail
  go_loopw [6] (fun v6 wr => ∃ (j m : Nat) (Ai : Option Addr) (ci : Nat) (Aj : Option Addr) (cj : Nat), v6 = .slice Ai j ci ∧ j + m = n ∧ m ≤ cj ∧ Hid (wr.heap[r]? = some (.cells #[.int .u64 now, .slice Aj m cj] 29 (0, 0)) ∧ AlsAt 68 wr Aj (L.drop j) ∧ wr.ownsRow W0.heap.size 23 1 (.slice Ai j ci) j (rowU ((L.take j).map Al.id)) ∧ Turns (One r) W0 wr ∧ ∀ i z, i < j → L[i]? = some z → z.t ≤ now)) (fun v6 _ => n - (match v6 with | .slice _ k _ => k | _ => 0))
  case atStart => exact ⟨0, n, none, 0, A, c, rfl, by omega, h3, Lib.hid ⟨HW.out.2.1, HW.out.2.2.1, World.ownsRow_nil _ _ _ _, Turns.refl _ _, fun i z hi => by omega⟩⟩
  case round =>
    obtain ⟨j, m, Ai, ci, Aj, cj, rfl, hjm, hmc, hR⟩ := hrel
    have r1 : wr.cell? ⟨r, 1, none⟩ = some (.slice Aj m cj) := cell_of hR.out.1 1
    by_cases hm : 0 < m
    · obtain ⟨a, ha⟩ : ∃ a, L[j]? = some a := ⟨_, List.getElem?_eq_getElem (by rw [HW.out.2.2.2.2.1]; omega)⟩
      obtain ⟨b, o, rfl, k0, k1⟩ := hR.out.2.1.2 0 a (by rw [List.getElem?_drop, Nat.add_zero]; exact ha)
      simp only [Nat.zero_mul, Nat.add_zero] at k0 k1
      by_cases hdue : a.t ≤ now
      · obtain ⟨v2, V, a2, ow2, gv⟩ := app23 (wr.alloc (.cells #[.int .u64 a.id] 23)) W0.heap.size (.slice Ai j ci) j ((L.take j).map Al.id) (row_below hR.out.2.2.1 (bel_alloc _ _)) (some ⟨wr.heap.size, 0, none⟩) 1 1 [a.id] rfl (us_one (heap_alloc_new _ _)) (by rw [World.size_alloc]; have := hR.out.2.2.2.1.size; omega) (by omega)
        rw [← ids_take ha] at ow2
        obtain ⟨A2, c2, rfl⟩ := own_len ow2
        have hba : Below wr.heap.size wr (wr.alloc (.cells #[.int .u64 a.id] 23)) := bel_alloc _ _
        have hida := row_below hR.out.2.2.1 hba
        have hapV : ∀ k, k < wr.heap.size → (∀ cs fr, wr.heap[k]? = some (.cells cs 23 fr) → False) → V.heap[k]? = wr.heap[k]? := fun k hk hne => by
          rw [gv.block k (by simp; omega) (fun q => ?_)]
          · exact hba.block k hk
          · rcases hida.2 with ⟨e0, _⟩ | ⟨g', cap, cur, e0, _, hg', _⟩
            · injection e0 with e0 _ _
              subst e0
              simp [Value.ownBlock] at q
            · injection e0 with e0 _ _
              subst e0
              simp [Value.ownBlock] at q
              subst q
              rw [hba.block k hk] at hg'
              exact hne _ _ hg'
        have hrV : V.heap[r]? = some (.cells #[.int .u64 now, .slice (some ⟨b, o, none⟩) m cj] 29 (0, 0)) := (hapV r (Array.getElem?_eq_some_iff.1 hR.out.1).1 (fun cs fr hc => by
          rw [hR.out.1] at hc
          injection hc with hc
          injection hc with _ hc _
          cases hc)).trans hR.out.1
        have haV : AlsAt 68 V (some ⟨b, o, none⟩) (L.drop j) := hR.out.2.1.keptE (Nat.le_trans hba.size gv.size) (fun k hk ⟨cs, fr, hc⟩ => hapV k hk (fun cs2 fr2 hc2 => by
          rw [hc] at hc2
          injection hc2 with hc2
          injection hc2 with _ hc2 _
          cases hc2))
        have htV : Turns (One r) W0 V := Turns.step (hR.out.2.2.2.1.below hba) gv (fun i e => .inr (hida.lt i e).1)
        have s1 : V.cell? ⟨r, 1, none⟩ = some (.slice (some ⟨b, o, none⟩) m cj) := cell_of hrV 1
        have f1 : V.frozen? ⟨r, 1, none⟩ = false := free_of hrV _
        have HA2 := Lib.hid a2
        have hsl : ∀ W, (Instr.slice 27 (.slice (some ⟨b, o, none⟩) m cj) (some (.int .i64 1)) none none).run Try.prog W = .ok (.slice (cutA (some ⟨b, o, none⟩) 1 cj) (m - 1) (cj - 1)) W := fun W => run_slice_lo27 (some ⟨b, o, none⟩) m cj 1 (by omega) W
        have HV := Lib.hid (And.intro ow2 (And.intro hrV (And.intro haV (And.intro htV ha))))
        have hLd : (L.drop j).length = m := by rw [List.length_drop, HW.out.2.2.2.2.1]; omega
        have HLd := Lib.hid hLd
        clear a2 ow2 gv hba hida hapV hrV haV htV ha hLd
        go_wp2_with (at_builtin; refine Lib.wpList_append_run _ rfl _ _ 37 37 rfl _ _ rfl rfl _ _ (by exact HA2.out _) ?_)
        obtain ⟨W, hW⟩ : ∃ W, V.setCell ⟨r, 1, none⟩ (.slice (cutA (some ⟨b, o, none⟩) 1 cj) (m - 1) (cj - 1)) = W := ⟨_, rfl⟩
        rw [hW]
        have hgr : V.grownBy W (some r) := by rw [← hW]; exact grown_setCell _ _ _ _
        have hrW : W.heap[r]? = some (.cells #[.int .u64 now, .slice (cutA (some ⟨b, o, none⟩) 1 cj) (m - 1) (cj - 1)] 29 (0, 0)) := by rw [← hW]; exact heap_set HV.out.2.1 _
        · obtain ⟨ow2, hrV, haV, htV, ha⟩ := HV.out
          have hz := HW.out.2.2.2.2.2.2.2
          refine ⟨⟨j + 1, m - 1, A2, c2, _, _, rfl, by omega, by omega, Lib.hid ⟨hrW, ?_, ?_, Turns.step htV hgr (fun i e => by injection e with e; exact .inl e.symm), fun i z hi hz => ?_⟩⟩, (show n - (j + 1) < n - j by omega)⟩
          · have := (haV.from 1 (c := cj) (by rw [HLd.out]; exact hmc))
            rw [List.drop_drop] at this
            exact this.keptE hgr.size (fun k hk ⟨cs, fr, hc⟩ => hgr.block k hk (fun e => by
              injection e with e
              subst e
              rw [hrV] at hc
              injection hc with hc
              injection hc with _ hc _
              cases hc))
          · exact row_keptE ow2 (fun i e => hgr.block i (row_lt ow2 e).1 (by
              have := own_from ow2 i e
              have := HW.out.1.size
              intro q
              injection q with q
              omega))
          · rcases Nat.lt_or_ge i j with q | q
            · exact hR.out.2.2.2.2 i z q hz
            · obtain rfl : i = j := by omega
              rw [ha] at hz
              injection hz with hz
              rw [← hz]
              exact hdue
      · have hd2 : now < a.t := by omega
        have hcut := due_cut HW.out.2.2.2.2.2.1 hR.out.2.2.2.2 (fun z hz => by rw [ha] at hz; injection hz with hz; rw [← hz]; exact hd2)
        have HC := Lib.hid hcut
        clear hcut hdue ha
        go_wp2_with fail
        go_ret2
        have hlt : (L.take j).length = j := by rw [List.length_take, HW.out.2.2.2.2.1]; omega
        have hld : (L.drop j).length = m := by rw [List.length_drop, HW.out.2.2.2.2.1]; omega
        refine ⟨Ai, ci, by rw [HC.out.1, hlt]; rfl, ?_, ⟨some ⟨b, o, none⟩, cj, ?_, ?_, ?_⟩, (Turns.step (Turns.refl _ w) HW.out.1 (fun i e => by injection e with e; exact .inl e.symm)).trans hR.out.2.2.2.1 (fun i e => .inl e)⟩
        · rw [HC.out.1, hlt]
          exact own_low hR.out.2.2.1 HW.out.1.size
        · show wr.heap[r]? = some (.cells #[.int .u64 now, .slice _ (s.L.filter fun a => decide (now < a.t)).length _] 29 (0, 0))
          rw [HW.out.2.2.2.2.2.2.1, HC.out.2, hld]
          exact hR.out.1
        · show AlsAt 68 wr _ (s.L.filter fun a => decide (now < a.t))
          rw [HW.out.2.2.2.2.2.2.1, HC.out.2]
          exact hR.out.2.1
        · show (s.L.filter fun a => decide (now < a.t)).length ≤ _
          rw [HW.out.2.2.2.2.2.2.1, HC.out.2, hld]
          exact hmc
    · obtain rfl : m = 0 := by omega
      have hcut := due_cut HW.out.2.2.2.2.2.1 hR.out.2.2.2.2 (fun z hz => by have := (List.getElem?_eq_some_iff.1 hz).1; rw [HW.out.2.2.2.2.1] at this; omega)
      have HC := Lib.hid hcut
      clear hcut
      go_wp2_with fail
      go_ret2
      have hlt : (L.take j).length = j := by rw [List.length_take, HW.out.2.2.2.2.1]; omega
      have hld : (L.drop j).length = 0 := by rw [List.length_drop, HW.out.2.2.2.2.1]; omega
      refine ⟨Ai, ci, by rw [HC.out.1, hlt]; rfl, ?_, ⟨Aj, cj, ?_, ?_, ?_⟩, (Turns.step (Turns.refl _ w) HW.out.1 (fun i e => by injection e with e; exact .inl e.symm)).trans hR.out.2.2.2.1 (fun i e => .inl e)⟩
      · rw [HC.out.1, hlt]
        exact own_low hR.out.2.2.1 HW.out.1.size
      · show wr.heap[r]? = some (.cells #[.int .u64 now, .slice _ (s.L.filter fun a => decide (now < a.t)).length _] 29 (0, 0))
        rw [HW.out.2.2.2.2.2.2.1, HC.out.2, hld]
        exact hR.out.1
      · show AlsAt 68 wr _ (s.L.filter fun a => decide (now < a.t))
        rw [HW.out.2.2.2.2.2.2.1, HC.out.2]
        exact hR.out.2.1
      · show (s.L.filter fun a => decide (now < a.t)).length ≤ _
        rw [HW.out.2.2.2.2.2.2.1, HC.out.2, hld]
        exact hmc
end Go.Proofs.Ytdebaoimhijnkaa
