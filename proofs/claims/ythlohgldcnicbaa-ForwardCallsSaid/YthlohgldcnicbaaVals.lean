/- maps.Values of the doors. -/
import Derived.Test.YthlohgldcnicbaaIter
set_option linter.unusedVariables false
namespace Go.Proofs.Ythlohgldcnicbaa
open Go.RowKit Go.Deep Go.BigFrame Go.Maps Go.Sort Go.Shelf
/-- A row of forwards that may be: no door twice, every forward formed. -/
structure Fws (L : List Fw) : Prop where
  ok : ∀ f ∈ L, f.Ok
  dis : L.Pairwise (fun f g => f.door ≠ g.door)
theorem Fws.nodup {L : List Fw} (h : Fws L) : L.Nodup := h.dis.imp (fun {a b} q e => q (by rw [e]))
theorem Fws.find {L : List Fw} (h : Fws L) {f : Fw} (hf : f ∈ L) : findD L f.door = some f := by
  unfold findD
  have hd := h.dis
  clear h
  induction L with
  | nil => simp at hf
  | cons g r ih =>
    rw [List.pairwise_cons] at hd
    rw [List.find?_cons]
    by_cases e : g.door = f.door
    · rw [decide_eq_true e]
      rcases List.mem_cons.1 hf with rfl | hm
      · rfl
      · exact absurd e (hd.1 f hm)
    · rw [decide_eq_false e]
      rcases List.mem_cons.1 hf with rfl | hm
      · exact absurd rfl e
      · exact ih hm hd.2
/-- What has come. -/
structure Come (L : List Fw) (D : DataW Unit) (left : Lit → Bool) (ps : List Fw) : Prop where
  nd : ps.Nodup
  sub : ∀ f ∈ ps, f ∈ L
  has : ∀ kl, left kl = true → Maps.has D kl = true
  left : ∀ f ∈ L, left (key f.door) = true ↔ f ∉ ps
theorem Come.perm {L ps : List Fw} {D : DataW Unit} {left : Lit → Bool} (h : Come L D left ps) (hL : Fws L) (h0 : ∀ kl, left kl = false) : ps.Perm L := by
  refine (List.perm_ext_iff_of_nodup h.nd hL.nodup).2 fun f => ⟨h.sub f, fun hf => ?_⟩
  have := (h.left f hf).2
  exact Classical.byContradiction fun q => by have := this q; rw [h0] at this; cases this
set_option maxRecDepth 100000 in
theorem Come.step {L ps : List Fw} {D : DataW Unit} {left : Lit → Bool} {kl : Lit} {f : Fw} (h : Come L D left ps) (hL : Fws L) (hf : f ∈ L) (hk : kl = key f.door) (hlk : left kl = true) : Come L D (fun z => left z && !z.sameKey kl) (ps ++ [f]) := by
  subst hk
  have hnew := (h.left f hf).1 hlk
  refine ⟨?_, fun g hg => ?_, fun k hk => ?_, fun g hg => ?_⟩
  · rw [List.nodup_append]
    exact ⟨h.nd, by simp, fun a ha b hb => by simp at hb; subst hb; intro e; subst e; exact hnew ha⟩
  · rcases List.mem_append.1 hg with q | q
    · exact h.sub g q
    · simp at q; subst q; exact hf
  · simp only [Bool.and_eq_true] at hk
    exact h.has k hk.1
  · have hkl := door_keyed.key (key_of (hL.ok f hf).door)
    simp only [Bool.and_eq_true, Bool.not_eq_true', List.mem_append, List.mem_singleton, not_or]
    rw [h.left g hg]
    refine and_congr_right fun _ => ?_
    by_cases e : g = f
    · subst e
      simp [WideAt.sameKey_self hkl]
    · have hd : g.door ≠ f.door := by
        intro q
        have h1 := hL.find hg
        rw [q, hL.find hf] at h1
        injection h1 with h1
        exact e h1.symm
      simp [e, Maps.sameKey_ne (key_ne (hL.ok f hf).door (hL.ok g hg).door hd)]
set_option maxRecDepth 100000 in
set_option maxHeartbeats 2000000 in
theorem vals1_in (n : Nat) (hn : 1 ≤ n) (l Bm b nn : Nat) (L : List Fw) (hL : Fws L) (J : List Fw → World → Prop)
    (hY : ∀ pre x W, J pre W → pre.length < L.length → YieldAt Fence.wide (n - 1) Try.prog l #[x.val] W fun e W' => e = .returned (.bool true) ∧ J (pre ++ [x]) W' ∧ KeepsWalks W W')
    (W : World) (hJ : AbidesFrom W.heap.size J) (hm : W.cell? ⟨Bm, 0, none⟩ = some (.map (some b))) (hmap : MapD W b nn L) (h0 : J [] W) :
    CallsIn Fence.wide n Try.prog 33 #[.func (.yield l) #[] #[], .pointer (some ⟨Bm, 0, none⟩)] W fun e W' => (∃ v, e = .returned v) ∧ ∃ xs : List Fw, xs.Perm L ∧ J xs W' := by
  obtain ⟨D0, hown, hsz, hfd, hall⟩ := hmap.own
  refine callsIn_of_wp Try.func33 rfl trivial ?_ rfl
  simp only [Try.ntmps33, List.size_toArray, List.length_cons, List.length_nil, Nat.reduceAdd, Nat.reduceSub, Array.replicate_succ, Array.replicate_zero, List.push_toArray, List.append_toArray, List.nil_append, List.cons_append]
  gi_wp2_with (first
    | (gi_at_range; refine wpListIn_range_own _ rfl _ 61 rfl 60 37 door_keyed Try.underlying61 _ b nn _ rfl hown ?_; intro w0 hrg0 hg0 hs0)
    | gi_in)
  go_frame
  gi_loopw [4] (fun _ wr => ∃ (left : Lit → Bool) (cnt : Nat) (ps : List Fw), wr.ranges Try.prog 60 fwElem b W.heap.size nn D0 left cnt ∧ ps.length + cnt ≤ L.length ∧ Come L D0 left ps ∧ J ps wr)
    (fun _ wr => wr.rangeLeft b W.heap.size)
  case atStart =>
    exact ⟨_, _, [], hrg0, by simp [hsz], ⟨List.nodup_nil, by simp, fun kl h => h, fun f hf => by rw [(hfd _ (hL.ok f hf).door).1, hL.find hf]; simp⟩, hJ [] W w0 none h0 hg0 (fun r e => by cases e)⟩
  case round =>
    obtain ⟨left, cnt, ps, hrg, hcs, hC, hJs⟩ := hrel
    gi_wp2_with (first
      | (gi_at_next; refine wpListIn_next_ranges _ rfl _ rfl 60 door_keyed fwElem id Fw.val (fun key kl hk => ⟨key, rfl⟩) (fun v y hv => by obtain ⟨c, rfl, _⟩ := fwElem_inv hv; exact ⟨c, rfl⟩) b W.heap.size nn _ _ _ rfl hrg ?_ ?_)
      | gi_in)
    · intro hc0 hl0
      gi_wp2
      go_end0
      exact ⟨⟨_, rfl⟩, ps, hC.perm hL hl0, hJs⟩
    · intro x c kl yd yp w2 cnt2 hkey hlk hv hat hrg2 hlt hg2 hs2 hen
      obtain ⟨c', ec, ez⟩ := fwElem_inv hv
      have hcc : c = c' := by
        have := ec
        unfold Fw.val Fw.arr at this
        simp at this
        cases c
        cases c'
        simp at this
        obtain ⟨rfl, rfl, rfl, rfl⟩ := this
        rfl
      subst hcc
      obtain ⟨f, hf, hkf⟩ := hall kl (hC.has kl hlk)
      have hcf : c = f := by
        have h1 := hat (.lit (.bool false))
        have h2 : yd = c.data := (Prod.mk.inj ez).1
        rw [hkf, (hfd _ (hL.ok f hf).door).2, hL.find hf, h2] at h1
        exact (Fw.data_inj h1).symm
      subst hcf
      have hJ2 : J ps w2 := hJ ps wr w2 (some W.heap.size) hJs hg2 (fun r e => by cases e; exact ⟨Nat.le_refl _, hrg.iter_walk⟩)
      have hJ3 : J ps (w2.alloc (.cells c.arr 37)) := hJ ps w2 _ none hJ2 (World.grownBy_alloc _ _ _) (fun r e => by cases e)
      obtain ⟨fn, tmps, assign, body, hy, hR⟩ := hY ps c _ hJ3 (by omega)
      have hrgA := hrg2.alloc (.cells c.arr 37)
      unfold Fw.val Fw.arr at hy hen
      unfold Fw.val Fw.arr
      clear hs2 hv ez hat hJ3 hJ2
      gi_wp2
      refine hR.mono ?_
      have hC2 := hC.step hL hf hkf hlk
      rintro e W3 ⟨rfl, hJ3, hk3⟩
      gi_wp2
      have hrg3 := hrgA.of_walks hk3
      go_roundw
      case rel => exact ⟨_, cnt2, ps ++ [c], hrg3, by simp; omega, hC2, hJ3⟩
      case measure => rw [hrg3.left_eq, hrg.left_eq]; exact hlt
theorem values_any (mb : Option Nat) (w : World) :
    Calls Try.prog 26 #[.map mb] w fun e w' => e = .returned (.func (.func 33) #[] #[.pointer (some ⟨w.heap.size, 0, none⟩)]) ∧ w' = w.alloc (.cells #[.map mb] 61) := by
  go_enter Try.func26, Try.ntmps26
  go_wp2
  go_ret
  exact ⟨rfl, rfl⟩
theorem vals_gives (n : Nat) (hn : 1 ≤ n) (Bm b nn : Nat) (L : List Fw) (hL : Fws L) (w : World) (hBm : Bm < w.heap.size) (hm : w.cell? ⟨Bm, 0, none⟩ = some (.map (some b))) (hmap : MapD w b nn L) :
    SeqGives Fence.wide n Try.prog 33 #[.pointer (some ⟨Bm, 0, none⟩)] Fw.val (fun xs => xs.Perm L) L.length w := fun l J W hW hJ hY h0 =>
  vals1_in n hn l Bm b nn L hL J hY W hJ ((hW.cell (p := ⟨Bm, 0, none⟩) hBm).trans hm) (hmap.keptE (hW.block _ hmap.lt)) h0
/-- Collect of Values: the forwards, in some order. -/
theorem collect_vals (Bm b nn : Nat) (L : List Fw) (hL : Fws L) (w : World) (hBm : Bm < w.heap.size) (hm : w.cell? ⟨Bm, 0, none⟩ = some (.map (some b))) (hmap : MapD w b nn L) (hlen : L.length ≤ 1000) :
    Calls Try.prog 31 #[.func (.func 33) #[] #[.pointer (some ⟨Bm, 0, none⟩)]] w fun e w' => ∃ (v : Value) (ss : List Fw), e = .returned v ∧ ss.Perm L ∧ w'.ownsRow w.heap.size 37 4 v ss.length (row ss) ∧ (v = .slice none 0 0 ↔ ss = []) ∧ Below w.heap.size w w' :=
  collect_in 4 (by decide) 33 _ (enters_of Try.func33 (by kernel_rfl) rfl) (fun xs => xs.Perm L) L.length (by omega) w (vals_gives 2 (by decide) Bm b nn L hL w hBm hm hmap)
end Go.Proofs.Ythlohgldcnicbaa
