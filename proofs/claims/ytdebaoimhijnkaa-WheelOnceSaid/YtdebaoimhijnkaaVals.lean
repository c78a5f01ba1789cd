/- maps.Values of the instants. -/
import Derived.Test.YtdebaoimhijnkaaIter
set_option linter.unusedVariables false
namespace Go.Proofs.Ytdebaoimhijnkaa
open Go.RowKit Go.Deep Go.BigFrame Go.Maps Go.Sort Go.Shelf
theorem Als.nodup {L : List Al} (h : Als L) : L.Nodup := h.2.imp (fun {a b} q e => q (by rw [e]))
/-- What has come. -/
structure Come (L : List Al) (D : DataW Unit) (left : Lit → Bool) (ps : List Al) : Prop where
  nd : ps.Nodup
  sub : ∀ f ∈ ps, f ∈ L
  has : ∀ kl, left kl = true → Maps.has D kl = true
  left : ∀ f ∈ L, left (.int .u64 f.id) = true ↔ f ∉ ps
theorem Come.perm {L ps : List Al} {D : DataW Unit} {left : Lit → Bool} (h : Come L D left ps) (hL : Als L) (h0 : ∀ kl, left kl = false) : ps.Perm L := by
  refine (List.perm_ext_iff_of_nodup h.nd hL.nodup).2 fun f => ⟨h.sub f, fun hf => ?_⟩
  have := (h.left f hf).2
  exact Classical.byContradiction fun q => by have := this q; rw [h0] at this; cases this
set_option maxRecDepth 100000 in
theorem Come.step {L ps : List Al} {D : DataW Unit} {left : Lit → Bool} {kl : Lit} {f : Al} (h : Come L D left ps) (hL : Als L) (hf : f ∈ L) (hk : kl = .int .u64 f.id) (hlk : left kl = true) : Come L D (fun z => left z && !z.sameKey kl) (ps ++ [f]) := by
  subst hk
  have hnew := (h.left f hf).1 hlk
  refine ⟨?_, fun g hg => ?_, fun k hk => ?_, fun g hg => ?_⟩
  · rw [List.nodup_append]
    exact ⟨h.nd, by simp, fun a ha b hb => by simp at hb; subst hb; intro e; subst e; exact hnew ha⟩
  · rcases List.mem_append.1 hg with q | q
    · exact h.sub g q
    · simp at q; subst q; exact hf
  · simp only [Bool.and_eq_true] at hk
    exact h.has k hk.1
  · have hkl := id_keyed.key (id_key (hL.1 f hf).1)
    simp only [Bool.and_eq_true, Bool.not_eq_true', List.mem_append, List.mem_singleton, not_or]
    rw [h.left g hg]
    refine and_congr_right fun _ => ?_
    by_cases e : g = f
    · subst e
      simp [WideAt.sameKey_self hkl]
    · have hd : g.id ≠ f.id := by
        intro q
        have h1 := findA_mem hL.2 hg
        rw [q, findA_mem hL.2 hf] at h1
        injection h1 with h1
        exact e h1.symm
      simp [e, Maps.sameKey_ne (id_ne hd)]
set_option maxRecDepth 100000 in
set_option maxHeartbeats 2000000 in
theorem vals1_in (n : Nat) (hn : 1 ≤ n) (l Bm b nn : Nat) (L : List Al) (hL : Als L) (J : List Int → World → Prop)
    (hY : ∀ pre x W, J pre W → pre.length < L.length → YieldAt Fence.wide (n - 1) Try.prog l #[.int .u64 x] W fun e W' => e = .returned (.bool true) ∧ J (pre ++ [x]) W' ∧ KeepsWalks W W')
    (W : World) (hJ : AbidesFrom W.heap.size J) (hm : W.cell? ⟨Bm, 0, none⟩ = some (.map (some b))) (hmap : MapU W b nn L) (h0 : J [] W) :
    CallsIn Fence.wide n Try.prog 43 #[.func (.yield l) #[] #[], .pointer (some ⟨Bm, 0, none⟩)] W fun e W' => (∃ v, e = .returned v) ∧ ∃ xs : List Int, (∃ ps : List Al, ps.Perm L ∧ xs = ps.map Al.t) ∧ J xs W' := by
  obtain ⟨D0, hown, hsz, hfd, hall⟩ := hmap.own
  refine callsIn_of_wp Try.func43 rfl trivial ?_ rfl
  simp only [Try.ntmps43, List.size_toArray, List.length_cons, List.length_nil, Nat.reduceAdd, Nat.reduceSub, Array.replicate_succ, Array.replicate_zero, List.push_toArray, List.append_toArray, List.nil_append, List.cons_append]
  gi_wp2_with (first
    | (gi_at_range; refine wpListIn_range_own _ rfl _ 52 rfl 23 23 id_keyed Try.underlying52 _ b nn _ rfl hown ?_; intro w0 hrg0 hg0 hs0)
    | gi_in)
  go_frame
  gi_loopw [4] (fun _ wr => ∃ (left : Lit → Bool) (cnt : Nat) (ps : List Al), wr.ranges Try.prog 23 uElem b W.heap.size nn D0 left cnt ∧ ps.length + cnt ≤ L.length ∧ Come L D0 left ps ∧ J (ps.map Al.t) wr)
    (fun _ wr => wr.rangeLeft b W.heap.size)
  case atStart =>
    exact ⟨_, _, [], hrg0, by simp [hsz], ⟨List.nodup_nil, by simp, fun kl h => h, fun f hf => by rw [(hfd _ (hL.1 f hf).1).1, findA_mem hL.2 hf]; simp⟩, hJ [] W w0 none h0 hg0 (fun r e => by cases e)⟩
  case round =>
    obtain ⟨left, cnt, ps, hrg, hcs, hC, hJs⟩ := hrel
    gi_wp2_with (first
      | (gi_at_next; refine wpListIn_next_ranges _ rfl _ rfl 23 id_keyed uElem id (fun x : Int => Value.int .u64 x) (fun key kl hk => ⟨key, rfl⟩) (fun v y hv => by obtain ⟨c, rfl, _⟩ := uElem_inv hv; exact ⟨c, rfl⟩) b W.heap.size nn _ _ _ rfl hrg ?_ ?_)
      | gi_in)
    · intro hc0 hl0
      gi_wp2
      go_end0
      exact ⟨⟨_, rfl⟩, _, ⟨ps, hC.perm hL hl0, rfl⟩, hJs⟩
    · intro x c kl yd yp w2 cnt2 hkey hlk hv hat hrg2 hlt hg2 hs2 hen
      obtain ⟨c', ec, ez⟩ := uElem_inv hv
      obtain rfl : c = c' := by injection ec
      obtain ⟨f, hf, hkf⟩ := hall kl (hC.has kl hlk)
      have hcf : c = f.t := by
        have h1 := hat (.lit (.bool false))
        have h2 : yd = .lit (.int .u64 c) := (Prod.mk.inj ez).1
        rw [hkf, (hfd _ (hL.1 f hf).1).2, findA_mem hL.2 hf, h2] at h1
        injection h1 with h1
        injection h1 with _ h1
        exact h1.symm
      subst hcf
      have hJ2 : J (ps.map Al.t) w2 := hJ _ wr w2 (some W.heap.size) hJs hg2 (fun r e => by cases e; exact ⟨Nat.le_refl _, hrg.iter_walk⟩)
      obtain ⟨fn, tmps, assign, body, hy, hR⟩ := hY (ps.map Al.t) f.t _ hJ2 (by simp; omega)
      clear hs2 hv ez ec hat hJ2
      gi_wp2
      refine hR.mono ?_
      have hC2 := hC.step hL hf hkf hlk
      rintro e W3 ⟨rfl, hJ3, hk3⟩
      gi_wp2
      have hrg3 := hrg2.of_walks hk3
      go_roundw
      case rel => exact ⟨_, cnt2, ps ++ [f], hrg3, by simp; omega, hC2, by simpa using hJ3⟩
      case measure => rw [hrg3.left_eq, hrg.left_eq]; exact hlt
theorem values_any (mb : Option Nat) (w : World) :
    Calls Try.prog 35 #[.map mb] w fun e w' => e = .returned (.func (.func 43) #[] #[.pointer (some ⟨w.heap.size, 0, none⟩)]) ∧ w' = w.alloc (.cells #[.map mb] 52) := by
  go_enter Try.func35, Try.ntmps35
  go_wp2
  go_ret
  exact ⟨rfl, rfl⟩
theorem vals_gives (n : Nat) (hn : 1 ≤ n) (Bm b nn : Nat) (L : List Al) (hL : Als L) (w : World) (hBm : Bm < w.heap.size) (hm : w.cell? ⟨Bm, 0, none⟩ = some (.map (some b))) (hmap : MapU w b nn L) :
    SeqGives Fence.wide n Try.prog 43 #[.pointer (some ⟨Bm, 0, none⟩)] (fun x : Int => Value.int .u64 x) (fun xs => ∃ ps : List Al, ps.Perm L ∧ xs = ps.map Al.t) L.length w := fun l J W hW hJ hY h0 =>
  vals1_in n hn l Bm b nn L hL J hY W hJ ((hW.cell (p := ⟨Bm, 0, none⟩) hBm).trans hm) (hmap.keptE (hW.block _ hmap.lt)) h0
/-- Collect of Values: the instants, in some order. -/
theorem collect_vals (Bm b nn : Nat) (L : List Al) (hL : Als L) (w : World) (hBm : Bm < w.heap.size) (hm : w.cell? ⟨Bm, 0, none⟩ = some (.map (some b))) (hmap : MapU w b nn L) (hlen : L.length ≤ 1000) :
    Calls Try.prog 34 #[.func (.func 43) #[] #[.pointer (some ⟨Bm, 0, none⟩)]] w fun e w' => ∃ (v : Value) (ss : List Int), e = .returned v ∧ (∃ ps : List Al, ps.Perm L ∧ ss = ps.map Al.t) ∧ w'.ownsRow w.heap.size 23 1 v ss.length (rowU ss) ∧ (v = .slice none 0 0 ↔ ss = []) ∧ Below w.heap.size w w' :=
  collect_in 4 (by decide) 43 _ (enters_of Try.func43 (by kernel_rfl) rfl) (fun xs => ∃ ps : List Al, ps.Perm L ∧ xs = ps.map Al.t) L.length (by omega) w (vals_gives 2 (by decide) Bm b nn L hL w hBm hm hmap)
end Go.Proofs.Ytdebaoimhijnkaa
