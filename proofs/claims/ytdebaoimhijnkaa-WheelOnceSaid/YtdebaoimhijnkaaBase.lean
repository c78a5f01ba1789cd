/- Chapter 12's ground: small laws on worlds; alarms; the map. -/
import Derived.Test.YtdebaoimhijnkaaRows
import Derived.WalkKit
import Derived.WalkSpells
import Derived.WalkLawsBesides
import Derived.OpenShut
import Derived.Lib.Hide
import Derived.Lib.AppendZeros
import Derived.Lib.SmallJoins
import Derived.Deep.OwnRows
import Derived.Deep.Slices
import Derived.Deep.RegionHeld3
import Derived.Deep.DrawnRows
import Derived.Laws.CopyOwn
import Derived.BigQuiet
import Derived.StillTailTactics
import Derived.Outline
import Derived.Deep.RegionLaw
import Derived.Deep.CutRange
import Derived.Maps.OwnSet
import Derived.DeepKeys5
import Derived.IntWalk
set_option linter.unusedVariables false
namespace Go.Proofs.Ytdebaoimhijnkaa
open Go.RowKit Go.Deep Go.BigFrame
theorem ret_int {k : IntKind} {a b : Int} (h : a = b) : Ending.returned (.int k a) = .returned (.int k b) := by rw [h]
theorem ret_bool {a b : Bool} (h : a = b) : Ending.returned (.bool a) = .returned (.bool b) := by rw [h]

theorem own_len {w : World} {base : Nat} {e : TypeId} {size n : Nat} {v : Value} {xs : List Value} (h : w.ownsRow base e size v n xs) : ∃ A c, v = .slice A n c := by
  rcases h.2 with ⟨rfl, h0⟩ | ⟨g, cap, cur, rfl, _⟩
  · exact ⟨none, 0, by rw [h0]⟩
  · exact ⟨_, cap, rfl⟩

theorem bd_u32 {a : Int} (h : (Lit.int .u32 a).wf = true) : 0 ≤ a ∧ a ≤ 4294967295 := by
  simp [Lit.wf, IntKind.min, IntKind.max, IntKind.signed, IntKind.bits] at h; omega
theorem bd_u64 {a : Int} (h : (Lit.int .u64 a).wf = true) : 0 ≤ a ∧ a ≤ 18446744073709551615 := by
  simp [Lit.wf, IntKind.min, IntKind.max, IntKind.signed, IntKind.bits] at h; omega
theorem bd_i64 {a : Int} (h : (Lit.int .i64 a).wf = true) : -9223372036854775808 ≤ a ∧ a ≤ 9223372036854775807 := by
  simp [Lit.wf, IntKind.min, IntKind.max, IntKind.signed, IntKind.bits] at h; omega

/-- A world of a class. -/
structure ClsW (p : World → Prop) where
  val : World
  prop : p val
/-- A region that draws its order, walked once in the order of the text, in whatever world of a class. -/
theorem wp_region_class {P : Program} (p : World → Prop) {id : Nat} {Q : Exit → Act → World → Prop} {a : Act} {w : World} {l : List Oper} (hm : P.follows .mixedOrders = true) (hB : Region.lexB .any l.toArray = true) (h0 : p { w with drawn := w.drawn + 1 })
    (h : Nonempty (ClsW p) → wpQuiet P l.toArray (fun w' => ∃ W : ClsW p, w' = W.val) (fun a' => ∀ w', (∃ W : ClsW p, w' = W.val) → Q .normal a' w') l a) : (Code.region id l.toArray true).wp P Q a w :=
  wp_region_quiet (C := fun w' => ∃ W : ClsW p, w' = W.val) hm hB ⟨⟨_, h0⟩, rfl⟩ (by simpa using h ⟨⟨_, h0⟩⟩)
theorem class_same {P : Program} {p : World → Prop} {f : FuncId} {args : Array Value} {W : ClsW p} {v : Value}
    (h : Calls P f args W.val fun e w' => e = .returned v ∧ W.val = w') : Calls P f args W.val fun e w'' => e = .returned v ∧ ∃ W' : ClsW p, w'' = W'.val :=
  h.mono fun _ _ ⟨he, hm⟩ => ⟨he, W, hm.symm⟩
/-- The class of the worlds that are, below block B, as w0. -/
def InB (B : Nat) (w0 : World) (W : World) : Prop := Below B w0 W ∧ B ≤ W.heap.size
theorem class_below {P : Program} {B : Nat} {w0 : World} {f : FuncId} {args : Array Value} {W : ClsW (InB B w0)} {v : Value}
    (h : Calls P f args W.val fun e w' => e = .returned v ∧ Below W.val.heap.size W.val w') : Calls P f args W.val fun e w'' => e = .returned v ∧ ∃ W' : ClsW (InB B w0), w'' = W'.val :=
  h.mono fun _ w' ⟨he, hm⟩ => ⟨he, ⟨w', W.2.1.trans (hm.mono W.2.2), Nat.le_trans W.2.2 hm.size⟩, rfl⟩
theorem class_cell {B : Nat} {w0 : World} (W : ClsW (InB B w0)) {p : Addr} {v : Value} (h : w0.cell? p = some v) (hp : p.block < B) : W.val.cell? p = some v := (W.2.1.cell hp).trans h

theorem grown_trans {a b c : World} {row : Option Nat} (h : a.grownBy b row) (k : b.grownBy c row) : a.grownBy c row :=
  ⟨k.os.trans h.os, k.tape.trans h.tape, k.output.trans h.output, Nat.le_trans h.size k.size, fun i hi hr => (k.block i (Nat.lt_of_lt_of_le hi h.size) hr).trans (h.block i hi hr)⟩
theorem grown_setCell (w : World) (g i : Nat) (u : Value) : w.grownBy (w.setCell ⟨g, i, none⟩ u) (some g) :=
  ⟨rfl, rfl, rfl, by simp [World.setCell], fun k _ hk => Below.heap_setCell w ⟨g, i, none⟩ u k (fun e => hk (by rw [e]))⟩

/-- An owned row of one-cell elements: one of its cells. -/
theorem own_at {w : World} {base : Nat} {e : TypeId} {ao : Option Addr} {n cap : Nat} {xs : List Value} (h : w.ownsRow base e 1 (.slice ao n cap) n xs) {i : Nat} (hi : i < n) :
    ∃ g, ao = some ⟨g, 0, none⟩ ∧ base ≤ g ∧ g < w.heap.size ∧ n ≤ cap ∧ cap ≤ maxLen ∧ w.cell? ⟨g, i, none⟩ = some (xs.getD i undef) ∧ w.frozen? ⟨g, i, none⟩ = false ∧
      ∀ u, (w.setCell ⟨g, i, none⟩ u).ownsRow base e 1 (.slice ao n cap) n (xs.set i u) := by
  rcases h.2 with ⟨h0, h1⟩ | ⟨g, cap', cur, hv, hb, hg, hn, hc, hs, ht⟩
  · omega
  · injection hv with h1 h2 h3
    subst h1; subst h3
    have hx := h.1
    refine ⟨g, rfl, hb, (Array.getElem?_eq_some_iff.1 hg).1, hn, hc, ?_, ?_, fun u => ⟨by simp [hx], .inr ⟨g, cap, cur.setIfInBounds i u, rfl, hb, ?_, hn, hc, by simp [hs], ?_⟩⟩⟩
    · rw [cell_of_row _ _ i _ e (0, 0) hg, ← ht]
      simp only [List.getD, List.getElem?_take, Nat.mul_one, if_pos hi]
      rw [Array.getElem?_toList, Array.getElem?_eq_getElem (by omega)]
      rfl
    · simp [World.frozen?, hg]
    · simp [World.setCell, Array.getElem?_modify, hg]
    · rw [← ht]
      simp [List.take_set]

theorem wpList_append_runG {P : Program} (w : World) {ops : Array Oper} {rest : List Oper} {o : Oper} {a : Act} {Q : Exit → Act → World → Prop} (hw : Region.wanted o (yielded ops a.tmps) = true) (s x : Operand) (t tn : TypeId)
    (ho : o.op = .call { callee := .builtin .append, args := #[s, x], argTypes := #[t, tn] }) (vs vx : Value) (hs : a.eval s = vs) (hx : a.eval x = vx)
    (v' : Value) (w' : World) (hr : (Builtin.append_ #[t, tn] o.type #[vs, vx]).run P w = .ok v' w') (h : wpList P ops Q rest (a.put o.dst v') w') : wpList P ops Q (o :: rest) a w :=
  wpList_want hw fun _ hK => Lib.wp_append_run w s x t tn ho vs vx hs hx v' w' hr (hK _ _ h)


theorem heap_set {w : World} {g i : Nat} {cs : Array Value} {t : TypeId} {fr : Nat × Nat} (h : w.heap[g]? = some (.cells cs t fr)) (v : Value) :
    (w.setCell ⟨g, i, none⟩ v).heap[g]? = some (.cells (cs.setIfInBounds i v) t fr) := by
  simp [World.setCell, Array.getElem?_modify, h]
theorem cell_of {w : World} {g : Nat} {cs : Array Value} {t : TypeId} {fr : Nat × Nat} (h : w.heap[g]? = some (.cells cs t fr)) (i : Nat) : w.cell? ⟨g, i, none⟩ = cs[i]? := cell_of_row w g i cs t fr h
theorem free_of {w : World} {g : Nat} {cs : Array Value} {t : TypeId} (h : w.heap[g]? = some (.cells cs t (0, 0))) (i : Nat) : w.frozen? ⟨g, i, none⟩ = false := by
  simp [World.frozen?, h]

theorem grown_set {a b : World} {g i : Nat} {u : Value} (h : a.grownBy b (some g)) : a.grownBy (b.setCell ⟨g, i, none⟩ u) (some g) := grown_trans h (grown_setCell b g i u)
theorem grown_drew {a b : World} {r : Option Nat} (h : a.grownBy b r) : a.grownBy b.drew r := ⟨h.os, h.tape, h.output, h.size, h.block⟩
theorem grown_alloc {a b : World} {r : Option Nat} {o : Obj} (h : a.grownBy b r) : a.grownBy (b.alloc o) r := grown_trans h (World.grownBy_alloc b o r)
theorem grown_below {a b : World} {r : Option Nat} (h : Below a.heap.size a b) : a.grownBy b r := ⟨h.os, h.tape, h.output, h.size, fun k hk _ => h.block k hk⟩
theorem grown_set_new {a b : World} {r : Option Nat} {p : Addr} {u : Value} (h : a.grownBy b r) (hp : a.heap.size ≤ p.block) : a.grownBy (b.setCell p u) r :=
  ⟨h.os, h.tape, h.output, by simpa [World.setCell] using h.size, fun k hk hr => (Below.heap_setCell b p u k (by omega)).trans (h.block k hk hr)⟩
theorem grown_drewN {a b : World} {r : Option Nat} {n : Nat} (h : a.grownBy b r) : a.grownBy (b.drewN n) r := ⟨h.os, h.tape, h.output, h.size, h.block⟩

theorem kept_row {w w' : World} {base : Nat} {e : TypeId} {size n : Nat} {v : Value} {xs : List Value} (h : w.ownsRow base e size v n xs) {row : Option Nat} (hg : w.grownBy w' row) (hr : ∀ k, row = some k → k < base) : w'.ownsRow base e size v n xs :=
  h.kept hg (by
    rcases hv : v.ownBlock with _ | b
    · exact .inl rfl
    · right
      intro e
      have := (h.lt b hv).1
      have := hr b e.symm
      omega)
theorem own_ne {w : World} {b b' s s' n n' : Nat} {e e' : TypeId} {v v' : Value} {xs xs' : List Value} (h : w.ownsRow b e s v n xs) (h' : w.ownsRow b' e' s' v' n' xs') (hne : e ≠ e') : v.ownBlock = none ∨ v.ownBlock ≠ v'.ownBlock := by
  rcases h.2 with ⟨rfl, _⟩ | ⟨g, cap, cur, rfl, _, hg, _⟩
  · exact .inl rfl
  · right
    intro e1
    rcases h'.2 with ⟨rfl, _⟩ | ⟨g', cap', cur', rfl, _, hg', _⟩
    · simp [Value.ownBlock] at e1
    · simp [Value.ownBlock] at e1
      subst e1
      rw [hg] at hg'
      injection hg' with hg'
      injection hg' with _ h2
      exact hne h2
theorem step_append_run {P : Program} {ops : Array Oper} {o : Oper} {a : Act} {w : World} {K : Act → World → Prop} {Q : Exit → Act → World → Prop} {E : Prop}
    (hg : o.guard = none) (s x : Operand) (t tn : TypeId) (hop : o.op = Op.call { callee := Callee.builtin Builtin.append, args := #[s, x], argTypes := #[t, tn] })
    (vs vx : Value) (hs : a.eval s = vs) (hx : a.eval x = vx) (v' : Value) (w' : World) (hr : (Builtin.append_ #[t, tn] o.type #[vs, vx]).run P w = .ok v' w') (hK : K (a.put o.dst v') w') :
    if Region.wanted o (yielded ops a.tmps) = true then Oper.wp P o a w K Q else E := by
  have hw : Region.wanted o (yielded ops a.tmps) = true := by simp [Region.wanted, hg]
  rw [if_pos hw]
  exact Lib.wp_append_run w s x t tn hop vs vx hs hx v' w' hr hK

theorem grown_then {a b c : World} {B : Nat} {r : Option Nat} (h : a.grownBy b r) (k : Below B b c) (hB : a.heap.size ≤ B) : a.grownBy c r :=
  ⟨k.os.trans h.os, k.tape.trans h.tape, k.output.trans h.output, Nat.le_trans h.size k.size, fun i hi hr => (k.block i (Nat.lt_of_lt_of_le hi hB)).trans (h.block i hi hr)⟩
theorem grown_new2 {a b c : World} {r r2 : Option Nat} (h : a.grownBy b r) (k : b.grownBy c r2) (hr : ∀ k, r2 = some k → a.heap.size ≤ k) : a.grownBy c r :=
  ⟨k.os.trans h.os, k.tape.trans h.tape, k.output.trans h.output, Nat.le_trans h.size k.size, fun i hi hne => (k.block i (Nat.lt_of_lt_of_le hi h.size) (fun q => by have := hr _ q.symm; omega)).trans (h.block i hi hne)⟩

theorem wp_abs {P : Program} {c : Code} {Q : Exit → Act → World → Prop} {a : Act} {w : World} (h : ∀ N : Act → World → Prop, (∀ a w, Q .normal a w → N a w) → c.wp P (Exit.then N Q) a w) : c.wp P Q a w := by
  have e : Exit.then (fun a w => Q .normal a w) Q = Q := by funext e; cases e <;> rfl
  have h1 := h (fun a w => Q .normal a w) (fun _ _ h => h)
  rwa [e] at h1
theorem absorb {N : Act → World → Prop} {a : Act} {w : World} {G : Prop} (f : Hid (N a w) → G) (h : N a w) : G := f (Lib.hid h)
theorem grown_bel {w0 w1 w2 : World} {row : Option Nat} (h : Below w0.heap.size w0 w1) (hg : w1.grownBy w2 row) (hr : ∀ k, row = some k → w0.heap.size ≤ k) : Below w0.heap.size w0 w2 := h.grown hg h.size hr

theorem wp_region_tail {P : Program} {id : Nat} {Q : Exit → Act → World → Prop} {a : Act} {w : World} {l : List Oper} (n : Nat) (hm : P.follows .mixedOrders = true) (hB : Region.lexTailB .any l.toArray n = true)
    (h : wpStill P l.toArray w.drew (fun a' => wpList P l.toArray Q (l.drop n) a' w.drew) (l.take n) a) : (Code.region id l.toArray true).wp P Q a w :=
  wp_region_still_tail n hm hB h
theorem wp_name {P : Program} {c : Code} {Q : Exit → Act → World → Prop} {a : Act} {w : World} (h : ∀ W, W = w → c.wp P Q a W) : c.wp P Q a w := h _ rfl
theorem post_name {P : Program} {fn : Func} {R : Ending → World → Prop} {e : Exit} {a : Act} {w : World} (h : ∀ W, W = w → bodyPost P fn R e a W) : bodyPost P fn R e a w := h _ rfl
theorem heap_setCells : ∀ (vs : List Value) (o : Nat) {w : World} {b : Nat} {cur : Array Value} {ty : TypeId} {fr : Nat × Nat}, w.heap[b]? = some (.cells cur ty fr) →
    ∃ cur' : Array Value, (w.setCells b o vs).heap[b]? = some (.cells cur' ty fr) ∧ cur'.size = cur.size ∧ ∀ j, cur'[j]? = if o ≤ j ∧ j < o + vs.length ∧ j < cur.size then vs[j - o]? else cur[j]?
  | [], o, w, b, cur, ty, fr, h => ⟨cur, h, rfl, fun j => by rw [if_neg (by simp; omega)]⟩
  | v :: r, o, w, b, cur, ty, fr, h => by
    obtain ⟨cur', h1, h2, h3⟩ := heap_setCells r (o + 1) (heap_set (i := o) h v)
    refine ⟨cur', h1, by rw [h2]; simp, fun j => ?_⟩
    rw [h3 j]
    simp only [Array.size_setIfInBounds, List.length_cons]
    by_cases c1 : o + 1 ≤ j ∧ j < o + 1 + r.length ∧ j < cur.size
    · rw [if_pos c1, if_pos ⟨by omega, by omega, c1.2.2⟩, show j - o = (j - (o + 1)) + 1 by omega]
      rfl
    · rw [if_neg c1]
      by_cases e : o = j
      · subst e
        by_cases hs : o < cur.size
        · rw [Array.getElem?_setIfInBounds_self_of_lt hs, if_pos ⟨Nat.le_refl _, by omega, hs⟩]
          simp
        · rw [if_neg (by omega), Array.getElem?_eq_none (by simp; omega), Array.getElem?_eq_none (by omega)]
      · rw [Array.getElem?_setIfInBounds_ne e, if_neg (by omega)]
theorem grown_setCells : ∀ (vs : List Value) (o : Nat) (w : World) (b : Nat), w.grownBy (w.setCells b o vs) (some b)
  | [], o, w, b => World.grownBy.refl _ _
  | v :: r, o, w, b => grown_trans (grown_setCell w b o v) (grown_setCells r (o + 1) _ b)
theorem own_up {w : World} {B : Nat} {e : TypeId} {z n : Nat} {v : Value} {xs : List Value} (h : w.ownsRow B e z v n xs) : w.ownsRow 0 e z v n xs :=
  ⟨h.1, by
    rcases h.2 with q | ⟨g, cap, cur, q1, q2, q3⟩
    · exact .inl q
    · exact .inr ⟨g, cap, cur, q1, Nat.zero_le _, q3⟩⟩
theorem own_low {w : World} {B B' : Nat} {e : TypeId} {z n : Nat} {v : Value} {xs : List Value} (h : w.ownsRow B e z v n xs) (hl : B' ≤ B) : w.ownsRow B' e z v n xs :=
  ⟨h.1, by
    rcases h.2 with q | ⟨g, cap, cur, q1, q2, q3⟩
    · exact .inl q
    · exact .inr ⟨g, cap, cur, q1, Nat.le_trans hl q2, q3⟩⟩
theorem own_from {w : World} {B n c : Nat} {e : TypeId} {z : Nat} {A : Option Addr} {m : Nat} {xs : List Value} (h : w.ownsRow B e z (.slice A n c) m xs) : ∀ k, A = some ⟨k, 0, none⟩ → B ≤ k := by
  intro k hk
  rcases h.2 with ⟨q, _⟩ | ⟨g, cap, cur, q1, q2, _⟩
  · injection q with q
    rw [q] at hk
    cases hk
  · injection q1 with q1
    rw [q1] at hk
    injection hk with hk
    injection hk with hk
    omega
theorem calls_name {P : Program} {f : FuncId} {args : Array Value} {w : World} {R : Ending → World → Prop} (h : ∀ W, W = w → Calls P f args W R) : Calls P f args w R := h _ rfl
theorem block_ne {w : World} {q bo ck : Nat} {es : Array MapEntry} {cs : Array Value} {t : TypeId} {fr : Nat × Nat} (hm : w.heap[q]? = some (.map es ck)) (hb : w.heap[bo]? = some (.cells cs t fr)) : some bo ≠ some q := by
  intro e
  injection e with e
  subst e
  rw [hm] at hb
  cases hb
theorem wf64 {n : Int} (h0 : 0 ≤ n) (h1 : n ≤ 18446744073709551615) : (Lit.int .u64 n).wf = true := by
  show (decide ((0 : Int) ≤ n) && decide (n ≤ 18446744073709551615)) = true
  simp [h0, h1]

theorem row_keptE {w w' : World} {B : Nat} {e : TypeId} {size n c : Nat} {m : Nat} {A : Option Addr} {xs : List Value} (h : w.ownsRow B e size (.slice A m c) n xs) (k : ∀ g, A = some ⟨g, 0, none⟩ → w'.heap[g]? = w.heap[g]?) : w'.ownsRow B e size (.slice A m c) n xs := by
  obtain ⟨hl, h2⟩ := h
  refine ⟨hl, ?_⟩
  rcases h2 with h3 | ⟨g, cap, cur, h3, hb, hg, hr⟩
  · exact .inl h3
  · injection h3 with h3 h4 h5
    exact .inr ⟨g, cap, cur, by rw [h3, h4, h5], hb, (k g h3).trans hg, hr⟩
theorem row_lt {w : World} {B : Nat} {e : TypeId} {size n c m : Nat} {A : Option Addr} {xs : List Value} (h : w.ownsRow B e size (.slice A m c) n xs) {k : Nat} (hk : A = some ⟨k, 0, none⟩) : k < w.heap.size ∧ ∃ cs fr, w.heap[k]? = some (.cells cs e fr) := by
  rcases h.2 with ⟨h3, h4⟩ | ⟨g, cap, cur, h3, hb, hg, q1, q2, q3, q4⟩
  · injection h3 with h3
    rw [h3] at hk
    cases hk
  · injection h3 with h3
    rw [h3] at hk
    injection hk with hk
    injection hk with hk
    subst hk
    exact ⟨(Array.getElem?_eq_some_iff.1 hg).1, cur, (0, 0), hg⟩
theorem row_below {w w' : World} {B : Nat} {e : TypeId} {size n c : Nat} {m : Nat} {A : Option Addr} {xs : List Value} (h : w.ownsRow B e size (.slice A m c) n xs) (hb : Below w.heap.size w w') : w'.ownsRow B e size (.slice A m c) n xs :=
  row_keptE h fun g hg => hb.block g (row_lt h hg).1
/-- An alarm. -/
structure Al where
  id : Int
  t : Int
deriving DecidableEq, Inhabited
def Al.arr (a : Al) : Array Value := #[.int .u64 a.id, .int .u64 a.t]
def Al.cells (a : Al) : List Value := a.arr.toList
def Al.val (a : Al) : Value := .agg a.arr
def Al.zero : Al := ⟨0, 0⟩
def Al.Ok (a : Al) : Prop := (Lit.int .u64 a.id).wf = true ∧ (Lit.int .u64 a.t).wf = true
theorem Al.zero_ok : Al.zero.Ok := by unfold Al.Ok Al.zero; decide
theorem Al.len (a : Al) : a.cells.length = 2 := rfl
/-- All alarms' cells, in a row. -/
def row (L : List Al) : List Value := L.flatMap Al.cells
theorem row_len : ∀ L : List Al, (row L).length = L.length * 2
  | [] => rfl
  | f :: r => by
    have := row_len r
    simp only [row, List.flatMap_cons, List.length_append, Al.len, List.length_cons] at this ⊢
    omega
theorem row_at : ∀ (L : List Al) (i : Nat) (f : Al), L[i]? = some f → ∀ j, j < 2 → (row L)[i * 2 + j]? = f.arr[j]?
  | [], i, f, h, j, hj => by simp at h
  | g :: r, 0, f, h, j, hj => by
    simp at h
    subst h
    simp only [row, List.flatMap_cons, Nat.zero_mul, Nat.zero_add]
    rw [List.getElem?_append_left (by rw [Al.len]; exact hj)]
    simp [Al.cells]
  | g :: r, i + 1, f, h, j, hj => by
    have := row_at r i f (by simpa using h) j hj
    simp only [row, List.flatMap_cons]
    rw [List.getElem?_append_right (by rw [Al.len]; omega), Al.len, show (i + 1) * 2 + j - 2 = i * 2 + j by omega]
    exact this
theorem row_append (L M : List Al) : row (L ++ M) = row L ++ row M := by simp [row]
theorem one_row (L : List Al) : ∀ u ∈ row L, u.oneCell' = true := by
  intro u hu
  simp only [row, List.mem_flatMap] at hu
  obtain ⟨f, _, hf⟩ := hu
  simp [Al.cells, Al.arr] at hf
  rcases hf with rfl | rfl <;> rfl
/-- An alarm, as it lies at a place. -/
structure AlAt (w : World) (b o : Nat) (f : Al) : Prop where
  k0 : w.cell? ⟨b, o, none⟩ = some (.int .u64 f.id)
  k1 : w.cell? ⟨b, o + 1, none⟩ = some (.int .u64 f.t)
theorem AlAt.keptE {w w' : World} {b o : Nat} {f : Al} (h : AlAt w b o f) (e : w'.heap[b]? = w.heap[b]?) : AlAt w' b o f :=
  ⟨by rw [← h.k0]; simp only [World.cell?, e], by rw [← h.k1]; simp only [World.cell?, e]⟩
theorem add_at (b o j : Nat) : (⟨b, o, none⟩ : Addr).add j = ⟨b, o + j, none⟩ := by
  unfold Addr.add
  split
  · rename_i h
    subst h
    rfl
  · rfl
/-- Alarms that can be read: the block is one of type e cells. -/
def AlsAt (e : TypeId) (w : World) (A : Option Addr) (L : List Al) : Prop := (∀ a : Addr, A = some a → a.block < w.heap.size ∧ ∃ cs fr, w.heap[a.block]? = some (.cells cs e fr)) ∧ ∀ (i : Nat) (f : Al), L[i]? = some f → ∃ b o, A = some ⟨b, o, none⟩ ∧ AlAt w b (o + i * 2) f
theorem AlsAt.keptE {e : TypeId} {w w' : World} {A : Option Addr} {L : List Al} (h : AlsAt e w A L) (hs : w.heap.size ≤ w'.heap.size) (k : ∀ b, b < w.heap.size → (∃ cs fr, w.heap[b]? = some (.cells cs e fr)) → w'.heap[b]? = w.heap[b]?) : AlsAt e w' A L := by
  refine ⟨fun a e' => ?_, fun i f hf => ?_⟩
  · obtain ⟨h1, h2⟩ := h.1 a e'
    refine ⟨Nat.lt_of_lt_of_le h1 hs, ?_⟩
    rw [k _ h1 h2]
    exact h2
  · obtain ⟨b, o, e, ha⟩ := h.2 i f hf
    obtain ⟨h1, h2⟩ := h.1 _ e
    exact ⟨b, o, e, ha.keptE (k b h1 h2)⟩
theorem AlsAt.below {e : TypeId} {w w' : World} {A : Option Addr} {L : List Al} (h : AlsAt e w A L) (hb : Below w.heap.size w w') : AlsAt e w' A L := h.keptE hb.size fun b hl _ => hb.block b hl
theorem AlsAt.nil (e : TypeId) (w : World) : AlsAt e w none [] := ⟨fun a e => (by cases e), fun i f hf => by simp at hf⟩
theorem AlsAt.own {e : TypeId} {w : World} {B c : Nat} {A : Option Addr} {L : List Al} (h : w.ownsRow B e 2 (.slice A L.length c) L.length (row L)) : AlsAt e w A L := by
  rcases h.2 with ⟨h3, h4⟩ | ⟨g, cap, cur, h3, hb, hg, q1, q2, q3, q4⟩
  · injection h3 with h3 _ _
    subst h3
    refine ⟨fun a e => (by cases e), fun i f hf => ?_⟩
    have hi := (List.getElem?_eq_some_iff.1 hf).1
    omega
  · injection h3 with h3 _ _
    subst h3
    refine ⟨fun a e => ?_, fun i f hf => ?_⟩
    · injection e with e
      subst e
      exact ⟨(Array.getElem?_eq_some_iff.1 hg).1, cur, (0, 0), hg⟩
    · have hi := (List.getElem?_eq_some_iff.1 hf).1
      have key : ∀ j, j < 2 → w.cell? ⟨g, 0 + i * 2 + j, none⟩ = f.arr[j]? := by
        intro j hj
        rw [cell_of hg, ← row_at L i f hf j hj, ← q4, List.getElem?_take_of_lt (by omega), Array.getElem?_toList]
        congr 1
        omega
      exact ⟨g, 0, rfl, key 0 (by omega), key 1 (by omega)⟩
theorem AlsAt.cell {e : TypeId} {w : World} {a : Addr} {L : List Al} (h : AlsAt e w (some a) L) : ∀ j u, (row L)[j]? = some u → w.cell? (a.add j) = some u := by
  intro j u hu
  have hj := (List.getElem?_eq_some_iff.1 hu).1
  rw [row_len] at hj
  have hd : j / 2 < L.length := by omega
  obtain ⟨b, o, e, ha⟩ := h.2 (j / 2) _ (List.getElem?_eq_getElem hd)
  injection e with e
  subst e
  have hj2 : j = j / 2 * 2 + j % 2 := by omega
  have h2 := row_at L (j / 2) _ (List.getElem?_eq_getElem hd) (j % 2) (by omega)
  rw [← hj2, hu] at h2
  have h4 : j % 2 = 0 ∨ j % 2 = 1 := by omega
  rcases h4 with q | q
  all_goals
    rw [q] at h2
    simp [Al.arr] at h2
    rw [h2]
  · rw [add_at b o j, show o + j = o + j / 2 * 2 by omega]
    exact ha.k0
  · rw [add_at b o j, show o + j = o + j / 2 * 2 + 1 by omega]
    exact ha.k1
theorem als_one {e : TypeId} {w : World} {q : Nat} {f : Al} (h : w.heap[q]? = some (.cells f.arr e (0, 0))) : AlsAt e w (some ⟨q, 0, none⟩) [f] := by
  refine ⟨fun a e => ?_, fun i g hg => ?_⟩
  · injection e with e
    subst e
    exact ⟨(Array.getElem?_eq_some_iff.1 h).1, _, _, h⟩
  · cases i with
    | zero =>
      simp at hg
      subst hg
      exact ⟨q, 0, rfl, cell_of h 0, cell_of h 1⟩
    | succ i => simp at hg
/-- Instants, ids: a row of one-cell numbers. -/
def rowU (L : List Int) : List Value := L.map fun x => .int .u64 x
def UsAt (w : World) (A : Option Addr) (L : List Int) : Prop := ∀ (i : Nat) (x : Int), L[i]? = some x → ∃ b o, A = some ⟨b, o, none⟩ ∧ b < w.heap.size ∧ w.cell? ⟨b, o + i, none⟩ = some (.int .u64 x)
theorem UsAt.below {w w' : World} {A : Option Addr} {L : List Int} (h : UsAt w A L) (hb : Below w.heap.size w w') : UsAt w' A L := by
  intro i x hx
  obtain ⟨b, o, e, hl, hc⟩ := h i x hx
  exact ⟨b, o, e, Nat.lt_of_lt_of_le hl hb.size, (hb.cell (p := ⟨b, _, none⟩) hl).trans hc⟩
theorem UsAt.own {w : World} {B c : Nat} {A : Option Addr} {L : List Int} (h : w.ownsRow B 23 1 (.slice A L.length c) L.length (rowU L)) : UsAt w A L := by
  intro i x hx
  have hi := (List.getElem?_eq_some_iff.1 hx).1
  obtain ⟨g, e, hb, hl, hn, hc, hx2, hf, _⟩ := own_at h hi
  subst e
  refine ⟨g, 0, rfl, hl, ?_⟩
  rw [Nat.zero_add, hx2]
  simp [rowU, List.getD, hx]
/-- The alarm of an id. -/
def findA (L : List Al) (id : Int) : Option Al := L.find? fun a => decide (a.id = id)
def Als (L : List Al) : Prop := (∀ a ∈ L, a.Ok) ∧ L.Pairwise (fun a b => a.id ≠ b.id)
theorem findA_mem {L : List Al} (h : L.Pairwise (fun a b => a.id ≠ b.id)) {a : Al} (ha : a ∈ L) : findA L a.id = some a := by
  unfold findA
  induction L with
  | nil => simp at ha
  | cons g r ih =>
    rw [List.pairwise_cons] at h
    rw [List.find?_cons]
    by_cases e : g.id = a.id
    · rw [decide_eq_true e]
      rcases List.mem_cons.1 ha with rfl | hm
      · rfl
      · exact absurd e (h.1 a hm)
    · rw [decide_eq_false e]
      rcases List.mem_cons.1 ha with rfl | hm
      · exact absurd rfl e
      · exact ih h.2 hm
theorem findA_some {L : List Al} {id : Int} {a : Al} (h : findA L id = some a) : a ∈ L ∧ a.id = id := by
  unfold findA at h
  exact ⟨List.mem_of_find?_eq_some h, by simpa using List.find?_some h⟩
theorem findA_none {L : List Al} {id : Int} (h : findA L id = none) : ∀ a ∈ L, a.id ≠ id := by
  unfold findA at h
  rw [List.find?_eq_none] at h
  intro a ha
  simpa using h a ha
theorem findA_perm {L M : List Al} (hp : L.Perm M) (h : L.Pairwise (fun a b => a.id ≠ b.id)) (id : Int) : findA L id = findA M id := by
  have hM : M.Pairwise (fun a b => a.id ≠ b.id) := (hp.pairwise_iff (fun {a b} q => q.symm)).1 h
  cases hx : findA L id with
  | none =>
    cases hy : findA M id with
    | none => rfl
    | some b =>
      obtain ⟨h1, h2⟩ := findA_some hy
      exact absurd h2 (findA_none hx b (hp.mem_iff.2 h1))
  | some a =>
    obtain ⟨h1, h2⟩ := findA_some hx
    rw [← h2, findA_mem hM (hp.mem_iff.1 h1)]
def uElem : Value → Option (DataW Unit × List MemPlace)
  | .int .u64 x => some (.lit (.int .u64 x), [])
  | _ => none
theorem uElem_mk (x : Int) : uElem (.int .u64 x) = some (.lit (.int .u64 x), []) := rfl
theorem uElem_inv {v : Value} {z : DataW Unit × List MemPlace} (h : uElem v = some z) : ∃ x : Int, v = .int .u64 x ∧ z = (.lit (.int .u64 x), []) := by
  unfold uElem at h
  split at h
  · injection h with h
    exact ⟨_, rfl, h.symm⟩
  · cases h
theorem id_keyed : Maps.Keyed Try.prog 23 := Maps.int_keyed Try.underlying23
theorem id_key {id : Int} (h : (Lit.int .u64 id).wf = true) : keyOf Try.prog 23 (.int .u64 id) = some (.int .u64 id) := Maps.keyOf_int_mk Try.underlying23 h
/-- The map of the wheel: each id, and when. -/
structure MapU (w : World) (b n : Nat) (L : List Al) : Prop where
  own : ∃ D : DataW Unit, w.ownsMap Try.prog 23 uElem b n D ∧ Maps.size D = L.length ∧ (∀ id : Int, (Lit.int .u64 id).wf = true → Maps.has D (.int .u64 id) = (findA L id).isSome ∧ ∀ z, D.atKey (.int .u64 id) z = (match findA L id with | some a => .lit (.int .u64 a.t) | none => z)) ∧ ∀ kl, Maps.has D kl = true → ∃ a ∈ L, kl = .int .u64 a.id
theorem MapU.perm {w : World} {b n : Nat} {L M : List Al} (h : MapU w b n L) (hp : L.Perm M) (hd : L.Pairwise (fun a b => a.id ≠ b.id)) : MapU w b n M := by
  obtain ⟨D, h1, h2, h3, h4⟩ := h.own
  refine ⟨D, h1, by rw [h2, hp.length_eq], fun id hid => ?_, fun kl hk => ?_⟩
  · rw [← findA_perm hp hd]
    exact h3 id hid
  · obtain ⟨a, ha, e⟩ := h4 kl hk
    exact ⟨a, hp.mem_iff.1 ha, e⟩
theorem zero23 (w : World) : (zeroValue 23).run Try.prog w = .ok (.int .u64 0) w := by
  have h : Try.t23.zero = some (.int .u64 0) := by kernel_rfl
  simp [zeroValue, h]
def atA (L : List Al) (id : Int) : Int := (findA L id).elim 0 Al.t
set_option maxRecDepth 100000 in
theorem MapU.look {w : World} {b n : Nat} {L : List Al} (h : MapU w b n L) {id : Int} (hd : (Lit.int .u64 id).wf = true) : (Instr.lookup 52 (.map (some b)) (.int .u64 id) true).run Try.prog w = .ok (.tuple #[.int .u64 (atA L id), .bool (findA L id).isSome]) w := by
  obtain ⟨D, ho, hs, hf, -⟩ := h.own
  obtain ⟨v, ps, hr, hv⟩ := ho.look_ok id_keyed Try.underlying52 (zero23 w) (uElem_mk 0) (id_key hd)
  obtain ⟨x, rfl, hz⟩ := uElem_inv hv
  injection hz with hz _
  rw [(hf id hd).1] at hr
  rw [(hf id hd).2] at hz
  have : x = atA L id := by
    unfold atA
    cases hx : findA L id with
    | none => rw [hx] at hz; injection hz with hz; injection hz with _ hz; exact hz.symm
    | some g => rw [hx] at hz; injection hz with hz; injection hz with _ hz; exact hz.symm
  rw [← this]
  exact hr
theorem id_ne {x y : Int} (h : x ≠ y) : Lit.int .u64 x ≠ Lit.int .u64 y := fun q => h (by injection q)
set_option maxRecDepth 100000 in
theorem MapU.store {w : World} {b n : Nat} {L : List Al} (h : MapU w b n L) {a : Al} (ha : a.Ok) (hn : n < maxLen) (hnew : findA L a.id = none) :
    ∃ w', (Instr.mapUpdate 52 (.map (some b)) (.int .u64 a.id) (.int .u64 a.t)).run Try.prog w = .ok () w' ∧ MapU w' b (n + 1) (L ++ [a]) ∧ w.grownBy w' (some b) := by
  obtain ⟨D, ho, hs, hfd, hall⟩ := h.own
  obtain ⟨w', hr, ho', ht'⟩ := ho.store id_keyed Try.underlying52 hn (id_key ha.1) (uElem_mk a.t)
  refine ⟨w', hr, ⟨_, ho', ?_, fun d hd => ?_, fun kl hkl => ?_⟩, ht'.grown⟩
  · rw [Maps.size_put (ho.tidy id_keyed), (hfd _ ha.1).1, hnew, hs]
    simp
  · by_cases e : d = a.id
    · subst e
      have e1 : findA (L ++ [a]) a.id = some a := by
        unfold findA at hnew ⊢
        rw [List.find?_append, hnew]
        simp
      rw [e1]
      exact ⟨Maps.has_put_same ho.isMap (id_keyed.key (id_key ha.1)) _, fun z => Maps.atKey_put_same ho.isMap (id_keyed.key (id_key ha.1)) _ _⟩
    · have e1 : findA (L ++ [a]) d = findA L d := by
        unfold findA
        rw [List.find?_append]
        simp [Ne.symm e]
      rw [e1]
      exact ⟨by rw [Maps.has_put_other (id_ne e)]; exact (hfd d hd).1, fun z => by rw [Maps.atKey_put_other (id_ne e)]; exact (hfd d hd).2 z⟩
  · by_cases e : kl = .int .u64 a.id
    · exact ⟨a, by simp, e⟩
    · rw [Maps.has_put_other e] at hkl
      obtain ⟨g, hg, he⟩ := hall kl hkl
      exact ⟨g, List.mem_append_left _ hg, he⟩
def dropA (L : List Al) (id : Int) : List Al := L.filter fun a => decide (a.id ≠ id)
theorem findA_drop {L : List Al} {id d : Int} : findA (dropA L id) d = if d = id then none else findA L d := by
  unfold findA dropA
  rw [List.find?_filter]
  by_cases e : d = id
  · rw [if_pos e, List.find?_eq_none]
    intro a _
    subst e
    simp
  · rw [if_neg e]
    congr 1
    funext a
    by_cases h : a.id = d
    · simp [h, e]
    · simp [h]
theorem drop_none {L : List Al} {id : Int} (h : findA L id = none) : dropA L id = L := by
  unfold dropA
  rw [List.filter_eq_self]
  intro a ha
  simpa using findA_none h a ha
theorem drop_len {L : List Al} (hd : L.Pairwise (fun a b => a.id ≠ b.id)) {id : Int} {a : Al} (h : findA L id = some a) : (dropA L id).length + 1 = L.length := by
  obtain ⟨h1, h2⟩ := findA_some h
  clear h
  unfold dropA
  induction L with
  | nil => simp at h1
  | cons g r ih =>
    rw [List.pairwise_cons] at hd
    by_cases e : g.id = id
    · have hr : r.filter (fun a => decide (a.id ≠ id)) = r := by
        rw [List.filter_eq_self]
        intro b hb
        have := hd.1 b hb
        simp
        rw [← e]
        exact fun q => this q.symm
      rw [List.filter_cons_of_neg (by simpa using e), hr]
      simp
    · rcases List.mem_cons.1 h1 with rfl | hm
      · exact absurd h2 e
      · rw [List.filter_cons_of_pos (by simpa using e)]
        simp only [List.length_cons]
        rw [ih hd.2 hm]
set_option maxRecDepth 100000 in
theorem MapU.drop {w : World} {b n : Nat} {L : List Al} (h : MapU w b n L) (hdis : L.Pairwise (fun a b => a.id ≠ b.id)) {id : Int} (ht : (Lit.int .u64 id).wf = true) (ty : TypeId) :
    ∃ w', (Builtin.delete_ #[52, 23] ty #[.map (some b), .int .u64 id]).run Try.prog w = .ok (.tuple #[]) w' ∧ MapU w' b n (dropA L id) ∧ w.grownBy w' (some b) := by
  obtain ⟨D, ho, hc, hf, hall⟩ := h.own
  have hk := id_key ht
  obtain ⟨w', hr, ho', ht'⟩ := ho.drop id_keyed Try.underlying52 hk ty
  refine ⟨w', hr, ⟨_, ho', ?_, fun y hy => ?_, fun kl hkl => ?_⟩, ht'.grown⟩
  · have := Maps.size_del (k := .int .u64 id) (ho.tidy id_keyed)
    rw [(hf id ht).1, hc] at this
    cases hx : findA L id with
    | none =>
      rw [hx] at this
      rw [drop_none hx]
      simpa using this
    | some a =>
      rw [hx] at this
      have := drop_len hdis hx
      simp_all
      omega
  · rw [findA_drop]
    by_cases e : y = id
    · subst e
      refine ⟨by rw [Maps.has_del_same]; simp, fun z => ?_⟩
      rw [Maps.atKey_del_same]
      simp
    · refine ⟨by rw [Maps.has_del_other (id_ne e), (hf y hy).1]; simp [e], fun z => ?_⟩
      rw [Maps.atKey_del_other (id_ne e), (hf y hy).2]
      simp [e]
  · by_cases e : kl = .int .u64 id
    · subst e
      rw [Maps.has_del_same] at hkl
      cases hkl
    · rw [Maps.has_del_other e] at hkl
      obtain ⟨a, ha, he⟩ := hall kl hkl
      refine ⟨a, ?_, he⟩
      unfold dropA
      rw [List.mem_filter]
      exact ⟨ha, by simp; exact fun q => e (by rw [he, q])⟩
theorem MapU.len {w : World} {b n : Nat} {L : List Al} (h : MapU w b n L) (ty : TypeId) : (Builtin.len_ #[52] ty #[.map (some b)]).run Try.prog w = .ok (.int .i64 L.length) w := by
  obtain ⟨D, ho, hc, hf⟩ := h.own
  rw [← hc]
  exact ho.len Try.underlying52 ty
theorem MapU.keptE {w w' : World} {b n : Nat} {L : List Al} (h : MapU w b n L) (e : w'.heap[b]? = w.heap[b]?) : MapU w' b n L := by
  obtain ⟨D, ⟨es, clock, hb, F, hs, hD⟩, hf⟩ := h.own
  exact ⟨⟨D, ⟨es, clock, e.trans hb, F, hs, hD⟩, hf⟩⟩
theorem MapU.lt {w : World} {b n : Nat} {L : List Al} (h : MapU w b n L) : b < w.heap.size := by
  obtain ⟨D, ho, hf⟩ := h.own
  exact ho.lt
theorem MapU.isMap {w : World} {b n : Nat} {L : List Al} (h : MapU w b n L) : ∃ es ck, w.heap[b]? = some (.map es ck) := by
  obtain ⟨D, ⟨es, ck, hm, _⟩, _⟩ := h.own
  exact ⟨es, ck, hm⟩
theorem MapU.below {w w' : World} {b n : Nat} {L : List Al} (h : MapU w b n L) (hb : Below w.heap.size w w') : MapU w' b n L := h.keptE (hb.block _ h.lt)
theorem MapU.made (w : World) : MapU (w.alloc (.map #[] 0)) w.heap.size 0 [] := ⟨⟨.map [], World.ownsMap_made w _ _ _, rfl, fun d hd => ⟨rfl, fun z => rfl⟩, fun kl h => by cases h⟩⟩
end Go.Proofs.Ytdebaoimhijnkaa
