/- TableOne: what its loops keep. -/
import Derived.Test.YtdpomneoiagpiaaOneLaw
import Derived.Test.YtdpomneoiagpiaaTupEq
set_option linter.unusedVariables false
namespace Go.Proofs.Ytdpomneoiagpiaa
open Go.RowKit Go.Deep Go.BigFrame
attribute [local go_sem ↓] Go.wp_at_zero Go.wp_at_succ
def actArr (x : ActD) (id : Int) : Array Value := #[.int .i64 x.what, .int .u64 id, .int .u8 x.a.proto, .int .u32 x.a.src, .int .u32 x.a.dst, .int .u16 x.a.sp, .int .u16 x.a.dp, .int .u8 x.b.proto, .int .u32 x.b.src, .int .u32 x.b.dst, .int .u16 x.b.sp, .int .u16 x.b.dp]
/-- What a round keeps. -/
structure OneR (w wr : World) (g d1 d2 b9 m i : Nat) (gv : Int) (s : TS) : Prop where
  tab : ∃ N, N ≤ i ∧ Tab w wr g d1 d2 N s
  most : s.most = m
  last : gv = s.last
  li : s.last ≤ i
  map : ∃ nR, nR ≤ i ∧ MapR wr b9 nR (rdy s.L) (rdyN s.L)
  lo : w.heap.size ≤ b9
theorem OneR.below {w wr wr' : World} {g d1 d2 b9 m i : Nat} {gv : Int} {s : TS} (h : OneR w wr g d1 d2 b9 m i gv s) (hb : Below wr.heap.size wr wr') : OneR w wr' g d1 d2 b9 m i gv s := by
  obtain ⟨N, hN, ht⟩ := h.tab
  obtain ⟨nR, hR, hm⟩ := h.map
  exact { h with tab := ⟨N, hN, ht.below hb⟩, map := ⟨nR, hR, hm.keptE (hb.block _ hm.lt)⟩ }
theorem OneR.step {w wr V : World} {g d1 d2 b9 m i : Nat} {gv : Int} {s s' : TS} (h : OneR w wr g d1 d2 b9 m i gv s) (ht : ∃ N, N ≤ i + 1 ∧ Tab w V g d1 d2 N s') (hm : ∃ nR, nR ≤ i + 1 ∧ MapR V b9 nR (rdy s'.L) (rdyN s'.L)) (h1 : s'.most = s.most) (h2 : s'.last ≤ s.last + 1) :
    OneR w V g d1 d2 b9 m (i + 1) s'.last s' := { tab := ht, most := h1.trans h.most, last := rfl, li := by have := h.li; omega, map := hm, lo := h.lo }
theorem Tab.map9 {w0 w w' : World} {g b1 b2 N b : Nat} {s : TS} {es : Array MapEntry} {ck : Nat} (h : Tab w0 w g b1 b2 N s) (hg : w.grownBy w' (some b)) (hm : w.heap[b]? = some (.map es ck)) (h1 : b ≠ b1) (h2 : b ≠ b2) (hb : w0.heap.size ≤ b) : Tab w0 w' g b1 b2 N s := by
  obtain ⟨A, c, ht, hk⟩ := h.tb
  refine ⟨⟨A, c, ht.keptE fun i hi => hg.block i (ht.blk hi) (fun e => ?_), hk⟩, h.ok, grown_bel h.bel hg (by rintro k e; cases e; exact hb)⟩
  injection e with e
  subst e
  rcases hi with rfl | rfl | rfl | hi
  · rw [ht.heap] at hm
    cases hm
  · exact h1 rfl
  · exact h2 rfl
  · obtain ⟨_, cs, fr', hx⟩ := row_lt ht.own hi
    rw [hx] at hm
    cases hm
section
variable (s : TS) (id : Int) (o : Tup)
theorem lead_last : (leadS s id o).last = s.last := by unfold leadS; split; rfl; split <;> rfl
theorem lead_most : (leadS s id o).most = s.most := by unfold leadS; split; rfl; split <;> rfl
theorem touch_last : (touchS s id).last = s.last := by unfold touchS; split <;> rfl
theorem touch_most : (touchS s id).most = s.most := by unfold touchS; split <;> rfl
theorem ready_last : (readyS s id).last = s.last := by unfold readyS; split <;> rfl
theorem ready_most : (readyS s id).most = s.most := by unfold readyS; split <;> rfl
theorem drop_last : (dropS s id).last = s.last := by unfold dropS delS; split <;> rfl
theorem drop_most : (dropS s id).most = s.most := by unfold dropS delS; split <;> rfl
end
theorem FlsAt.grown {w w' : World} {A : Option Addr} {L : List Fl} {q : Nat} {es : Array MapEntry} {ck : Nat} (h : FlsAt w A L) (hg : w.grownBy w' (some q)) (hm : w.heap[q]? = some (.map es ck)) : FlsAt w' A L := by
  intro i f hf
  obtain ⟨b, o, e, hl, ha⟩ := h i f hf
  have hb : b ≠ q := by
    intro e
    subst e
    have := ha.k0
    simp [World.cell?, hm] at this
  refine ⟨b, o, e, Nat.lt_of_lt_of_le hl hg.size, ?_⟩
  have k := fun (j : Nat) (v : Value) (hv : w.cell? ⟨b, j, none⟩ = some v) => hg.cell hv (by simpa using hb)
  exact ⟨k _ _ ha.k0, k _ _ ha.k1, k _ _ ha.k2, k _ _ ha.k3, k _ _ ha.k4, k _ _ ha.k5, k _ _ ha.k6, k _ _ ha.k7, k _ _ ha.k8, k _ _ ha.k9, k _ _ ha.k10, k _ _ ha.k11⟩
/-- What a turn of the inner loop keeps. -/
structure InR (w wt : World) (g d1 d2 b9 m i bo c7 c8 : Nat) (act : Array Value) (s : TS) (A : Option Addr) (j jo : Nat) : Prop where
  r : OneR w wt g d1 d2 b9 m i s.last s
  bo : wt.heap[bo]? = some (.cells act 49 (0, 0))
  fl : FlsAt wt A s.L
  mi : ∃ n, n ≤ j ∧ MapT wt c7 n (seenI s.L j)
  mo : ∃ n, n ≤ jo ∧ MapT wt c8 n (seenO s.L jo)
  ne : c7 ≠ c8
  lo : w.heap.size ≤ c7
  n7 : d1 < c7 ∧ d2 < c7 ∧ b9 < c7 ∧ c7 ≤ c8
theorem InR.below {w wt wt' : World} {g d1 d2 b9 m i bo c7 c8 j jo : Nat} {act : Array Value} {s : TS} {A : Option Addr} (h : InR w wt g d1 d2 b9 m i bo c7 c8 act s A j jo) (hb : Below wt.heap.size wt wt') : InR w wt' g d1 d2 b9 m i bo c7 c8 act s A j jo := by
  obtain ⟨n1, h1, m1⟩ := h.mi
  obtain ⟨n2, h2, m2⟩ := h.mo
  have l1 := (Array.getElem?_eq_some_iff.1 (m1.isMap.choose_spec.choose_spec)).1
  have l2 := (Array.getElem?_eq_some_iff.1 (m2.isMap.choose_spec.choose_spec)).1
  exact { h with r := h.r.below hb, bo := (hb.block _ (Array.getElem?_eq_some_iff.1 h.bo).1).trans h.bo, fl := h.fl.below hb, mi := ⟨n1, h1, m1.keptE (hb.block _ l1)⟩, mo := ⟨n2, h2, m2.keptE (hb.block _ l2)⟩ }
theorem OneR.mapped {w wr V : World} {g d1 d2 b9 m i q ck : Nat} {gv : Int} {s : TS} {es : Array MapEntry} (h : OneR w wr g d1 d2 b9 m i gv s) (hg : wr.grownBy V (some q)) (hm : wr.heap[q]? = some (.map es ck)) (h1 : d1 < q) (h2 : d2 < q) (h3 : b9 < q) (h4 : w.heap.size ≤ q) : OneR w V g d1 d2 b9 m i gv s := by
  obtain ⟨N, hN, ht⟩ := h.tab
  obtain ⟨nR, hR, hmr⟩ := h.map
  exact { h with tab := ⟨N, hN, ht.map9 hg hm (by omega) (by omega) h4⟩, map := ⟨nR, hR, hmr.keptE (hg.block _ hmr.lt (fun e => by injection e with e; omega))⟩ }
theorem block_ne {w : World} {q bo ck : Nat} {es : Array MapEntry} {cs : Array Value} {t : TypeId} {fr : Nat × Nat} (hm : w.heap[q]? = some (.map es ck)) (hb : w.heap[bo]? = some (.cells cs t fr)) : some bo ≠ some q := by
  intro e
  injection e with e
  subst e
  rw [hm] at hb
  cases hb
theorem InR.putI {w wt : World} {g d1 d2 b9 m i bo c7 c8 j jo : Nat} {act : Array Value} {s : TS} {A : Option Addr} (h : InR w wt g d1 d2 b9 m i bo c7 c8 act s A j jo) {f : Fl} (hf : s.L[j]? = some f) (hi : f.inn.Ok) (hj : j ≤ 1000) :
    ∃ W, (Instr.mapUpdate 52 (.map (some c7)) f.inn.val (.int .i64 1)).run Try.prog wt = .ok () W ∧ InR w W g d1 d2 b9 m i bo c7 c8 act s A (j + 1) jo ∧ wt.grownBy W (some c7) ∧ ∀ (b : Nat) cs t fr, wt.heap[b]? = some (.cells cs t fr) → W.heap[b]? = some (.cells cs t fr) := by
  obtain ⟨n1, h1, m1⟩ := h.mi
  obtain ⟨n2, h2, m2⟩ := h.mo
  obtain ⟨es, ck, hm⟩ := m1.isMap
  obtain ⟨W, e, m1', hg⟩ := m1.store hi (x := 1) (by decide) (by unfold maxLen; omega)
  have n7 := h.n7
  have ne := h.ne
  have l2 := (Array.getElem?_eq_some_iff.1 (m2.isMap.choose_spec.choose_spec)).1
  have hk : ∀ (b : Nat) cs t fr, wt.heap[b]? = some (.cells cs t fr) → W.heap[b]? = some (.cells cs t fr) := fun b cs t fr hb => (hg.block b (Array.getElem?_eq_some_iff.1 hb).1 (block_ne hm hb)).trans hb
  refine ⟨W, e, { h with r := h.r.mapped hg hm n7.1 n7.2.1 n7.2.2.1 h.lo, bo := hk _ _ _ _ h.bo, fl := h.fl.grown hg hm, mi := ⟨n1 + 1, by omega, m1'.congr fun t _ => (seenI_succ hf t).symm⟩, mo := ⟨n2, h2, m2.keptE (hg.block _ l2 (fun e => by injection e with e; omega))⟩ }, hg, hk⟩
theorem InR.putO {w wt : World} {g d1 d2 b9 m i bo c7 c8 j jo : Nat} {act : Array Value} {s : TS} {A : Option Addr} (h : InR w wt g d1 d2 b9 m i bo c7 c8 act s A j jo) {f : Fl} (hf : s.L[jo]? = some f) (hi : f.out.Ok) (hz : f.out ≠ Tup.zero) (hj : jo ≤ 1000) :
    ∃ W, (Instr.mapUpdate 52 (.map (some c8)) f.out.val (.int .i64 1)).run Try.prog wt = .ok () W ∧ InR w W g d1 d2 b9 m i bo c7 c8 act s A j (jo + 1) ∧ wt.grownBy W (some c8) ∧ ∀ (b : Nat) cs t fr, wt.heap[b]? = some (.cells cs t fr) → W.heap[b]? = some (.cells cs t fr) := by
  obtain ⟨n1, h1, m1⟩ := h.mi
  obtain ⟨n2, h2, m2⟩ := h.mo
  obtain ⟨es, ck, hm⟩ := m2.isMap
  obtain ⟨W, e, m2', hg⟩ := m2.store hi (x := 1) (by decide) (by unfold maxLen; omega)
  have n7 := h.n7
  have ne := h.ne
  have lo := h.lo
  have l1 := (Array.getElem?_eq_some_iff.1 (m1.isMap.choose_spec.choose_spec)).1
  have hk : ∀ (b : Nat) cs t fr, wt.heap[b]? = some (.cells cs t fr) → W.heap[b]? = some (.cells cs t fr) := fun b cs t fr hb => (hg.block b (Array.getElem?_eq_some_iff.1 hb).1 (block_ne hm hb)).trans hb
  refine ⟨W, e, { h with r := h.r.mapped hg hm (by omega) (by omega) (by omega) (by omega), bo := hk _ _ _ _ h.bo, fl := h.fl.grown hg hm, mi := ⟨n1, h1, m1.keptE (hg.block _ l1 (fun e => by injection e with e; omega))⟩, mo := ⟨n2 + 1, by omega, m2'.congr fun t _ => ?_⟩ }, hg, hk⟩
  rw [seenO_succ hf t]
  by_cases e : t = f.out
  · rw [if_pos e, if_pos ⟨hz, e⟩]
  · rw [if_neg e, if_neg fun q => e q.2]
theorem InR.skipO {w wt : World} {g d1 d2 b9 m i bo c7 c8 j jo : Nat} {act : Array Value} {s : TS} {A : Option Addr} (h : InR w wt g d1 d2 b9 m i bo c7 c8 act s A j jo) {f : Fl} (hf : s.L[jo]? = some f) (hz : f.out = Tup.zero) : InR w wt g d1 d2 b9 m i bo c7 c8 act s A j (jo + 1) := by
  obtain ⟨n2, h2, m2⟩ := h.mo
  exact { h with mo := ⟨n2, by omega, m2.congr fun t _ => by rw [seenO_succ hf t, if_neg fun q => q.1 hz]⟩ }
theorem fl_neq0 (f : Fl) (W : World) : (binOp .neq 38 f.val f.val).run Try.prog W = Result.ok (.bool false) W := by
  unfold Fl.val Fl.arr
  go_simp
theorem calls_name {P : Program} {f : FuncId} {args : Array Value} {w : World} {R : Ending → World → Prop} (h : ∀ W, W = w → Calls P f args W R) : Calls P f args w R := h _ rfl
theorem wf64 {n : Int} (h0 : 0 ≤ n) (h1 : n ≤ 18446744073709551615) : (Lit.int .u64 n).wf = true := by
  show (decide ((0 : Int) ≤ n) && decide (n ≤ 18446744073709551615)) = true
  simp [h0, h1]
end Go.Proofs.Ytdpomneoiagpiaa
