/- Chapter 14's ground: small laws on worlds; forwards, tuples, a configuration. -/
import Derived.Test.YthlohgldcnicbaaRows
import Derived.WalkKit
import Derived.WalkSpells
import Derived.WalkLawsBesides
import Derived.OpenShut
import Derived.Lib.Hide
import Derived.Lib.AppendZeros
import Derived.Lib.SmallJoins
import Derived.Deep.OwnRows
import Derived.Deep.Slices
import Derived.Deep.RegionHeld3
import Derived.Deep.DrawnRows
import Derived.Laws.CopyOwn
import Derived.BigQuiet
import Derived.StillTailTactics
import Derived.Outline
import Derived.Deep.RegionLaw
import Derived.Deep.CutRange
import Derived.Maps.OwnSet
import Derived.DeepKeys5
import Derived.IntWalk
set_option linter.unusedVariables false
namespace Go.Proofs.Ythlohgldcnicbaa
open Go.RowKit Go.Deep Go.BigFrame
theorem ret_int {k : IntKind} {a b : Int} (h : a = b) : Ending.returned (.int k a) = .returned (.int k b) := by rw [h]
theorem ret_bool {a b : Bool} (h : a = b) : Ending.returned (.bool a) = .returned (.bool b) := by rw [h]

theorem own_len {w : World} {base : Nat} {e : TypeId} {size n : Nat} {v : Value} {xs : List Value} (h : w.ownsRow base e size v n xs) : ∃ A c, v = .slice A n c := by
  rcases h.2 with ⟨rfl, h0⟩ | ⟨g, cap, cur, rfl, _⟩
  · exact ⟨none, 0, by rw [h0]⟩
  · exact ⟨_, cap, rfl⟩

theorem bd_u32 {a : Int} (h : (Lit.int .u32 a).wf = true) : 0 ≤ a ∧ a ≤ 4294967295 := by
  simp [Lit.wf, IntKind.min, IntKind.max, IntKind.signed, IntKind.bits] at h; omega
theorem bd_u64 {a : Int} (h : (Lit.int .u64 a).wf = true) : 0 ≤ a ∧ a ≤ 18446744073709551615 := by
  simp [Lit.wf, IntKind.min, IntKind.max, IntKind.signed, IntKind.bits] at h; omega
theorem bd_i64 {a : Int} (h : (Lit.int .i64 a).wf = true) : -9223372036854775808 ≤ a ∧ a ≤ 9223372036854775807 := by
  simp [Lit.wf, IntKind.min, IntKind.max, IntKind.signed, IntKind.bits] at h; omega

/-- A world of a class. -/
structure ClsW (p : World → Prop) where
  val : World
  prop : p val
/-- A region that draws its order, walked once in the order of the text, in whatever world of a class. -/
theorem wp_region_class {P : Program} (p : World → Prop) {id : Nat} {Q : Exit → Act → World → Prop} {a : Act} {w : World} {l : List Oper} (hm : P.follows .mixedOrders = true) (hB : Region.lexB .any l.toArray = true) (h0 : p { w with drawn := w.drawn + 1 })
    (h : Nonempty (ClsW p) → wpQuiet P l.toArray (fun w' => ∃ W : ClsW p, w' = W.val) (fun a' => ∀ w', (∃ W : ClsW p, w' = W.val) → Q .normal a' w') l a) : (Code.region id l.toArray true).wp P Q a w :=
  wp_region_quiet (C := fun w' => ∃ W : ClsW p, w' = W.val) hm hB ⟨⟨_, h0⟩, rfl⟩ (by simpa using h ⟨⟨_, h0⟩⟩)
theorem class_same {P : Program} {p : World → Prop} {f : FuncId} {args : Array Value} {W : ClsW p} {v : Value}
    (h : Calls P f args W.val fun e w' => e = .returned v ∧ W.val = w') : Calls P f args W.val fun e w'' => e = .returned v ∧ ∃ W' : ClsW p, w'' = W'.val :=
  h.mono fun _ _ ⟨he, hm⟩ => ⟨he, W, hm.symm⟩
/-- The class of the worlds that are, below block B, as w0. -/
def InB (B : Nat) (w0 : World) (W : World) : Prop := Below B w0 W ∧ B ≤ W.heap.size
theorem class_below {P : Program} {B : Nat} {w0 : World} {f : FuncId} {args : Array Value} {W : ClsW (InB B w0)} {v : Value}
    (h : Calls P f args W.val fun e w' => e = .returned v ∧ Below W.val.heap.size W.val w') : Calls P f args W.val fun e w'' => e = .returned v ∧ ∃ W' : ClsW (InB B w0), w'' = W'.val :=
  h.mono fun _ w' ⟨he, hm⟩ => ⟨he, ⟨w', W.2.1.trans (hm.mono W.2.2), Nat.le_trans W.2.2 hm.size⟩, rfl⟩
theorem class_cell {B : Nat} {w0 : World} (W : ClsW (InB B w0)) {p : Addr} {v : Value} (h : w0.cell? p = some v) (hp : p.block < B) : W.val.cell? p = some v := (W.2.1.cell hp).trans h

theorem grown_trans {a b c : World} {row : Option Nat} (h : a.grownBy b row) (k : b.grownBy c row) : a.grownBy c row :=
  ⟨k.os.trans h.os, k.tape.trans h.tape, k.output.trans h.output, Nat.le_trans h.size k.size, fun i hi hr => (k.block i (Nat.lt_of_lt_of_le hi h.size) hr).trans (h.block i hi hr)⟩
theorem grown_setCell (w : World) (g i : Nat) (u : Value) : w.grownBy (w.setCell ⟨g, i, none⟩ u) (some g) :=
  ⟨rfl, rfl, rfl, by simp [World.setCell], fun k _ hk => Below.heap_setCell w ⟨g, i, none⟩ u k (fun e => hk (by rw [e]))⟩

/-- An owned row of one-cell elements: one of its cells. -/
theorem own_at {w : World} {base : Nat} {e : TypeId} {ao : Option Addr} {n cap : Nat} {xs : List Value} (h : w.ownsRow base e 1 (.slice ao n cap) n xs) {i : Nat} (hi : i < n) :
    ∃ g, ao = some ⟨g, 0, none⟩ ∧ base ≤ g ∧ g < w.heap.size ∧ n ≤ cap ∧ cap ≤ maxLen ∧ w.cell? ⟨g, i, none⟩ = some (xs.getD i undef) ∧ w.frozen? ⟨g, i, none⟩ = false ∧
      ∀ u, (w.setCell ⟨g, i, none⟩ u).ownsRow base e 1 (.slice ao n cap) n (xs.set i u) := by
  rcases h.2 with ⟨h0, h1⟩ | ⟨g, cap', cur, hv, hb, hg, hn, hc, hs, ht⟩
  · omega
  · injection hv with h1 h2 h3
    subst h1; subst h3
    have hx := h.1
    refine ⟨g, rfl, hb, (Array.getElem?_eq_some_iff.1 hg).1, hn, hc, ?_, ?_, fun u => ⟨by simp [hx], .inr ⟨g, cap, cur.setIfInBounds i u, rfl, hb, ?_, hn, hc, by simp [hs], ?_⟩⟩⟩
    · rw [cell_of_row _ _ i _ e (0, 0) hg, ← ht]
      simp only [List.getD, List.getElem?_take, Nat.mul_one, if_pos hi]
      rw [Array.getElem?_toList, Array.getElem?_eq_getElem (by omega)]
      rfl
    · simp [World.frozen?, hg]
    · simp [World.setCell, Array.getElem?_modify, hg]
    · rw [← ht]
      simp [List.take_set]

theorem wpList_append_runG {P : Program} (w : World) {ops : Array Oper} {rest : List Oper} {o : Oper} {a : Act} {Q : Exit → Act → World → Prop} (hw : Region.wanted o (yielded ops a.tmps) = true) (s x : Operand) (t tn : TypeId)
    (ho : o.op = .call { callee := .builtin .append, args := #[s, x], argTypes := #[t, tn] }) (vs vx : Value) (hs : a.eval s = vs) (hx : a.eval x = vx)
    (v' : Value) (w' : World) (hr : (Builtin.append_ #[t, tn] o.type #[vs, vx]).run P w = .ok v' w') (h : wpList P ops Q rest (a.put o.dst v') w') : wpList P ops Q (o :: rest) a w :=
  wpList_want hw fun _ hK => Lib.wp_append_run w s x t tn ho vs vx hs hx v' w' hr (hK _ _ h)


theorem heap_set {w : World} {g i : Nat} {cs : Array Value} {t : TypeId} {fr : Nat × Nat} (h : w.heap[g]? = some (.cells cs t fr)) (v : Value) :
    (w.setCell ⟨g, i, none⟩ v).heap[g]? = some (.cells (cs.setIfInBounds i v) t fr) := by
  simp [World.setCell, Array.getElem?_modify, h]
theorem cell_of {w : World} {g : Nat} {cs : Array Value} {t : TypeId} {fr : Nat × Nat} (h : w.heap[g]? = some (.cells cs t fr)) (i : Nat) : w.cell? ⟨g, i, none⟩ = cs[i]? := cell_of_row w g i cs t fr h
theorem free_of {w : World} {g : Nat} {cs : Array Value} {t : TypeId} (h : w.heap[g]? = some (.cells cs t (0, 0))) (i : Nat) : w.frozen? ⟨g, i, none⟩ = false := by
  simp [World.frozen?, h]

theorem grown_set {a b : World} {g i : Nat} {u : Value} (h : a.grownBy b (some g)) : a.grownBy (b.setCell ⟨g, i, none⟩ u) (some g) := grown_trans h (grown_setCell b g i u)
theorem grown_drew {a b : World} {r : Option Nat} (h : a.grownBy b r) : a.grownBy b.drew r := ⟨h.os, h.tape, h.output, h.size, h.block⟩
theorem grown_alloc {a b : World} {r : Option Nat} {o : Obj} (h : a.grownBy b r) : a.grownBy (b.alloc o) r := grown_trans h (World.grownBy_alloc b o r)
theorem grown_below {a b : World} {r : Option Nat} (h : Below a.heap.size a b) : a.grownBy b r := ⟨h.os, h.tape, h.output, h.size, fun k hk _ => h.block k hk⟩
theorem grown_set_new {a b : World} {r : Option Nat} {p : Addr} {u : Value} (h : a.grownBy b r) (hp : a.heap.size ≤ p.block) : a.grownBy (b.setCell p u) r :=
  ⟨h.os, h.tape, h.output, by simpa [World.setCell] using h.size, fun k hk hr => (Below.heap_setCell b p u k (by omega)).trans (h.block k hk hr)⟩
theorem grown_drewN {a b : World} {r : Option Nat} {n : Nat} (h : a.grownBy b r) : a.grownBy (b.drewN n) r := ⟨h.os, h.tape, h.output, h.size, h.block⟩

theorem kept_row {w w' : World} {base : Nat} {e : TypeId} {size n : Nat} {v : Value} {xs : List Value} (h : w.ownsRow base e size v n xs) {row : Option Nat} (hg : w.grownBy w' row) (hr : ∀ k, row = some k → k < base) : w'.ownsRow base e size v n xs :=
  h.kept hg (by
    rcases hv : v.ownBlock with _ | b
    · exact .inl rfl
    · right
      intro e
      have := (h.lt b hv).1
      have := hr b e.symm
      omega)
theorem own_ne {w : World} {b b' s s' n n' : Nat} {e e' : TypeId} {v v' : Value} {xs xs' : List Value} (h : w.ownsRow b e s v n xs) (h' : w.ownsRow b' e' s' v' n' xs') (hne : e ≠ e') : v.ownBlock = none ∨ v.ownBlock ≠ v'.ownBlock := by
  rcases h.2 with ⟨rfl, _⟩ | ⟨g, cap, cur, rfl, _, hg, _⟩
  · exact .inl rfl
  · right
    intro e1
    rcases h'.2 with ⟨rfl, _⟩ | ⟨g', cap', cur', rfl, _, hg', _⟩
    · simp [Value.ownBlock] at e1
    · simp [Value.ownBlock] at e1
      subst e1
      rw [hg] at hg'
      injection hg' with hg'
      injection hg' with _ h2
      exact hne h2
theorem step_append_run {P : Program} {ops : Array Oper} {o : Oper} {a : Act} {w : World} {K : Act → World → Prop} {Q : Exit → Act → World → Prop} {E : Prop}
    (hg : o.guard = none) (s x : Operand) (t tn : TypeId) (hop : o.op = Op.call { callee := Callee.builtin Builtin.append, args := #[s, x], argTypes := #[t, tn] })
    (vs vx : Value) (hs : a.eval s = vs) (hx : a.eval x = vx) (v' : Value) (w' : World) (hr : (Builtin.append_ #[t, tn] o.type #[vs, vx]).run P w = .ok v' w') (hK : K (a.put o.dst v') w') :
    if Region.wanted o (yielded ops a.tmps) = true then Oper.wp P o a w K Q else E := by
  have hw : Region.wanted o (yielded ops a.tmps) = true := by simp [Region.wanted, hg]
  rw [if_pos hw]
  exact Lib.wp_append_run w s x t tn hop vs vx hs hx v' w' hr hK

theorem grown_then {a b c : World} {B : Nat} {r : Option Nat} (h : a.grownBy b r) (k : Below B b c) (hB : a.heap.size ≤ B) : a.grownBy c r :=
  ⟨k.os.trans h.os, k.tape.trans h.tape, k.output.trans h.output, Nat.le_trans h.size k.size, fun i hi hr => (k.block i (Nat.lt_of_lt_of_le hi hB)).trans (h.block i hi hr)⟩
theorem grown_new2 {a b c : World} {r r2 : Option Nat} (h : a.grownBy b r) (k : b.grownBy c r2) (hr : ∀ k, r2 = some k → a.heap.size ≤ k) : a.grownBy c r :=
  ⟨k.os.trans h.os, k.tape.trans h.tape, k.output.trans h.output, Nat.le_trans h.size k.size, fun i hi hne => (k.block i (Nat.lt_of_lt_of_le hi h.size) (fun q => by have := hr _ q.symm; omega)).trans (h.block i hi hne)⟩

theorem wp_abs {P : Program} {c : Code} {Q : Exit → Act → World → Prop} {a : Act} {w : World} (h : ∀ N : Act → World → Prop, (∀ a w, Q .normal a w → N a w) → c.wp P (Exit.then N Q) a w) : c.wp P Q a w := by
  have e : Exit.then (fun a w => Q .normal a w) Q = Q := by funext e; cases e <;> rfl
  have h1 := h (fun a w => Q .normal a w) (fun _ _ h => h)
  rwa [e] at h1
theorem absorb {N : Act → World → Prop} {a : Act} {w : World} {G : Prop} (f : Hid (N a w) → G) (h : N a w) : G := f (Lib.hid h)
theorem grown_bel {w0 w1 w2 : World} {row : Option Nat} (h : Below w0.heap.size w0 w1) (hg : w1.grownBy w2 row) (hr : ∀ k, row = some k → w0.heap.size ≤ k) : Below w0.heap.size w0 w2 := h.grown hg h.size hr

theorem wp_region_tail {P : Program} {id : Nat} {Q : Exit → Act → World → Prop} {a : Act} {w : World} {l : List Oper} (n : Nat) (hm : P.follows .mixedOrders = true) (hB : Region.lexTailB .any l.toArray n = true)
    (h : wpStill P l.toArray w.drew (fun a' => wpList P l.toArray Q (l.drop n) a' w.drew) (l.take n) a) : (Code.region id l.toArray true).wp P Q a w :=
  wp_region_still_tail n hm hB h
theorem wp_name {P : Program} {c : Code} {Q : Exit → Act → World → Prop} {a : Act} {w : World} (h : ∀ W, W = w → c.wp P Q a W) : c.wp P Q a w := h _ rfl
theorem post_name {P : Program} {fn : Func} {R : Ending → World → Prop} {e : Exit} {a : Act} {w : World} (h : ∀ W, W = w → bodyPost P fn R e a W) : bodyPost P fn R e a w := h _ rfl
theorem heap_setCells : ∀ (vs : List Value) (o : Nat) {w : World} {b : Nat} {cur : Array Value} {ty : TypeId} {fr : Nat × Nat}, w.heap[b]? = some (.cells cur ty fr) →
    ∃ cur' : Array Value, (w.setCells b o vs).heap[b]? = some (.cells cur' ty fr) ∧ cur'.size = cur.size ∧ ∀ j, cur'[j]? = if o ≤ j ∧ j < o + vs.length ∧ j < cur.size then vs[j - o]? else cur[j]?
  | [], o, w, b, cur, ty, fr, h => ⟨cur, h, rfl, fun j => by rw [if_neg (by simp; omega)]⟩
  | v :: r, o, w, b, cur, ty, fr, h => by
    obtain ⟨cur', h1, h2, h3⟩ := heap_setCells r (o + 1) (heap_set (i := o) h v)
    refine ⟨cur', h1, by rw [h2]; simp, fun j => ?_⟩
    rw [h3 j]
    simp only [Array.size_setIfInBounds, List.length_cons]
    by_cases c1 : o + 1 ≤ j ∧ j < o + 1 + r.length ∧ j < cur.size
    · rw [if_pos c1, if_pos ⟨by omega, by omega, c1.2.2⟩, show j - o = (j - (o + 1)) + 1 by omega]
      rfl
    · rw [if_neg c1]
      by_cases e : o = j
      · subst e
        by_cases hs : o < cur.size
        · rw [Array.getElem?_setIfInBounds_self_of_lt hs, if_pos ⟨Nat.le_refl _, by omega, hs⟩]
          simp
        · rw [if_neg (by omega), Array.getElem?_eq_none (by simp; omega), Array.getElem?_eq_none (by omega)]
      · rw [Array.getElem?_setIfInBounds_ne e, if_neg (by omega)]
theorem grown_setCells : ∀ (vs : List Value) (o : Nat) (w : World) (b : Nat), w.grownBy (w.setCells b o vs) (some b)
  | [], o, w, b => World.grownBy.refl _ _
  | v :: r, o, w, b => grown_trans (grown_setCell w b o v) (grown_setCells r (o + 1) _ b)
theorem own_up {w : World} {B : Nat} {e : TypeId} {z n : Nat} {v : Value} {xs : List Value} (h : w.ownsRow B e z v n xs) : w.ownsRow 0 e z v n xs :=
  ⟨h.1, by
    rcases h.2 with q | ⟨g, cap, cur, q1, q2, q3⟩
    · exact .inl q
    · exact .inr ⟨g, cap, cur, q1, Nat.zero_le _, q3⟩⟩
theorem own_low {w : World} {B B' : Nat} {e : TypeId} {z n : Nat} {v : Value} {xs : List Value} (h : w.ownsRow B e z v n xs) (hl : B' ≤ B) : w.ownsRow B' e z v n xs :=
  ⟨h.1, by
    rcases h.2 with q | ⟨g, cap, cur, q1, q2, q3⟩
    · exact .inl q
    · exact .inr ⟨g, cap, cur, q1, Nat.le_trans hl q2, q3⟩⟩
theorem own_from {w : World} {B n c : Nat} {e : TypeId} {z : Nat} {A : Option Addr} {m : Nat} {xs : List Value} (h : w.ownsRow B e z (.slice A n c) m xs) : ∀ k, A = some ⟨k, 0, none⟩ → B ≤ k := by
  intro k hk
  rcases h.2 with ⟨q, _⟩ | ⟨g, cap, cur, q1, q2, _⟩
  · injection q with q
    rw [q] at hk
    cases hk
  · injection q1 with q1
    rw [q1] at hk
    injection hk with hk
    injection hk with hk
    omega
theorem calls_name {P : Program} {f : FuncId} {args : Array Value} {w : World} {R : Ending → World → Prop} (h : ∀ W, W = w → Calls P f args W R) : Calls P f args w R := h _ rfl
theorem block_ne {w : World} {q bo ck : Nat} {es : Array MapEntry} {cs : Array Value} {t : TypeId} {fr : Nat × Nat} (hm : w.heap[q]? = some (.map es ck)) (hb : w.heap[bo]? = some (.cells cs t fr)) : some bo ≠ some q := by
  intro e
  injection e with e
  subst e
  rw [hm] at hb
  cases hb
theorem wf64 {n : Int} (h0 : 0 ≤ n) (h1 : n ≤ 18446744073709551615) : (Lit.int .u64 n).wf = true := by
  show (decide ((0 : Int) ≤ n) && decide (n ≤ 18446744073709551615)) = true
  simp [h0, h1]

theorem row_keptE {w w' : World} {B : Nat} {e : TypeId} {size n c : Nat} {m : Nat} {A : Option Addr} {xs : List Value} (h : w.ownsRow B e size (.slice A m c) n xs) (k : ∀ g, A = some ⟨g, 0, none⟩ → w'.heap[g]? = w.heap[g]?) : w'.ownsRow B e size (.slice A m c) n xs := by
  obtain ⟨hl, h2⟩ := h
  refine ⟨hl, ?_⟩
  rcases h2 with h3 | ⟨g, cap, cur, h3, hb, hg, hr⟩
  · exact .inl h3
  · injection h3 with h3 h4 h5
    exact .inr ⟨g, cap, cur, by rw [h3, h4, h5], hb, (k g h3).trans hg, hr⟩
theorem row_lt {w : World} {B : Nat} {e : TypeId} {size n c m : Nat} {A : Option Addr} {xs : List Value} (h : w.ownsRow B e size (.slice A m c) n xs) {k : Nat} (hk : A = some ⟨k, 0, none⟩) : k < w.heap.size ∧ ∃ cs fr, w.heap[k]? = some (.cells cs e fr) := by
  rcases h.2 with ⟨h3, h4⟩ | ⟨g, cap, cur, h3, hb, hg, q1, q2, q3, q4⟩
  · injection h3 with h3
    rw [h3] at hk
    cases hk
  · injection h3 with h3
    rw [h3] at hk
    injection hk with hk
    injection hk with hk
    subst hk
    exact ⟨(Array.getElem?_eq_some_iff.1 hg).1, cur, (0, 0), hg⟩
theorem row_below {w w' : World} {B : Nat} {e : TypeId} {size n c : Nat} {m : Nat} {A : Option Addr} {xs : List Value} (h : w.ownsRow B e size (.slice A m c) n xs) (hb : Below w.heap.size w w') : w'.ownsRow B e size (.slice A m c) n xs :=
  row_keptE h fun g hg => hb.block g (row_lt h hg).1
/-- A forward. -/
structure Fw where
  proto : Int
  port : Int
  addr : Int
  dest : Int
deriving DecidableEq, Inhabited
def Fw.arr (f : Fw) : Array Value := #[.int .u8 f.proto, .int .u16 f.port, .int .u32 f.addr, .int .u16 f.dest]
def Fw.cells (f : Fw) : List Value := f.arr.toList
def Fw.val (f : Fw) : Value := .agg f.arr
def Fw.zero : Fw := ⟨0, 0, 0, 0⟩
def Fw.Ok (f : Fw) : Prop := (Lit.int .u8 f.proto).wf = true ∧ (Lit.int .u16 f.port).wf = true ∧ (Lit.int .u32 f.addr).wf = true ∧ (Lit.int .u16 f.dest).wf = true
theorem Fw.zero_ok : Fw.zero.Ok := by unfold Fw.Ok Fw.zero; decide
theorem Fw.len (f : Fw) : f.cells.length = 4 := rfl
/-- All forwards' cells, in a row. -/
def row (L : List Fw) : List Value := L.flatMap Fw.cells
theorem row_len : ∀ L : List Fw, (row L).length = L.length * 4
  | [] => rfl
  | f :: r => by
    have := row_len r
    simp only [row, List.flatMap_cons, List.length_append, Fw.len, List.length_cons] at this ⊢
    omega
theorem row_at : ∀ (L : List Fw) (i : Nat) (f : Fw), L[i]? = some f → ∀ j, j < 4 → (row L)[i * 4 + j]? = f.arr[j]?
  | [], i, f, h, j, hj => by simp at h
  | g :: r, 0, f, h, j, hj => by
    simp at h
    subst h
    simp only [row, List.flatMap_cons, Nat.zero_mul, Nat.zero_add]
    rw [List.getElem?_append_left (by rw [Fw.len]; exact hj)]
    simp [Fw.cells]
  | g :: r, i + 1, f, h, j, hj => by
    have := row_at r i f (by simpa using h) j hj
    simp only [row, List.flatMap_cons]
    rw [List.getElem?_append_right (by rw [Fw.len]; omega), Fw.len, show (i + 1) * 4 + j - 4 = i * 4 + j by omega]
    exact this
theorem row_append (L M : List Fw) : row (L ++ M) = row L ++ row M := by simp [row]
theorem one_row (L : List Fw) : ∀ u ∈ row L, u.oneCell' = true := by
  intro u hu
  simp only [row, List.mem_flatMap] at hu
  obtain ⟨f, _, hf⟩ := hu
  simp [Fw.cells, Fw.arr] at hf
  rcases hf with rfl | rfl | rfl | rfl <;> rfl
/-- A forward, as it lies at a place. -/
structure FwAt (w : World) (b o : Nat) (f : Fw) : Prop where
  k0 : w.cell? ⟨b, o, none⟩ = some (.int .u8 f.proto)
  k1 : w.cell? ⟨b, o + 1, none⟩ = some (.int .u16 f.port)
  k2 : w.cell? ⟨b, o + 2, none⟩ = some (.int .u32 f.addr)
  k3 : w.cell? ⟨b, o + 3, none⟩ = some (.int .u16 f.dest)
theorem FwAt.below {w w' : World} {b o B : Nat} {f : Fw} (h : FwAt w b o f) (hb : Below B w w') (hl : b < B) : FwAt w' b o f :=
  ⟨(hb.cell (p := ⟨b, _, none⟩) hl).trans h.k0, (hb.cell (p := ⟨b, _, none⟩) hl).trans h.k1, (hb.cell (p := ⟨b, _, none⟩) hl).trans h.k2, (hb.cell (p := ⟨b, _, none⟩) hl).trans h.k3⟩
/-- Forwards that can be read. -/
def FwsAt (w : World) (A : Option Addr) (L : List Fw) : Prop := ∀ (i : Nat) (f : Fw), L[i]? = some f → ∃ b o, A = some ⟨b, o, none⟩ ∧ b < w.heap.size ∧ FwAt w b (o + i * 4) f
theorem FwsAt.below {w w' : World} {A : Option Addr} {L : List Fw} (h : FwsAt w A L) (hb : Below w.heap.size w w') : FwsAt w' A L := by
  intro i f hf
  obtain ⟨b, o, e, hl, ha⟩ := h i f hf
  exact ⟨b, o, e, Nat.lt_of_lt_of_le hl hb.size, ha.below hb hl⟩
theorem FwsAt.own {w : World} {B c : Nat} {A : Option Addr} {L : List Fw} (h : w.ownsRow B 37 4 (.slice A L.length c) L.length (row L)) : FwsAt w A L := by
  intro i f hf
  have hi := (List.getElem?_eq_some_iff.1 hf).1
  rcases h.2 with ⟨h3, h4⟩ | ⟨g, cap, cur, h3, hb, hg, q1, q2, q3, q4⟩
  · omega
  · injection h3 with h3 _ _
    subst h3
    have key : ∀ j, j < 4 → w.cell? ⟨g, 0 + i * 4 + j, none⟩ = f.arr[j]? := by
      intro j hj
      rw [cell_of hg, ← row_at L i f hf j hj, ← q4, List.getElem?_take_of_lt (by omega), Array.getElem?_toList]
      congr 1
      omega
    exact ⟨g, 0, rfl, (Array.getElem?_eq_some_iff.1 hg).1, ⟨key 0 (by omega), key 1 (by omega), key 2 (by omega), key 3 (by omega)⟩⟩
theorem add_at (b o j : Nat) : (⟨b, o, none⟩ : Addr).add j = ⟨b, o + j, none⟩ := by
  unfold Addr.add
  split
  · rename_i h
    subst h
    rfl
  · rfl
theorem FwsAt.cell {w : World} {a : Addr} {L : List Fw} (h : FwsAt w (some a) L) : ∀ j u, (row L)[j]? = some u → w.cell? (a.add j) = some u := by
  intro j u hu
  have hj := (List.getElem?_eq_some_iff.1 hu).1
  rw [row_len] at hj
  have hd : j / 4 < L.length := by omega
  obtain ⟨b, o, e, hl, ha⟩ := h (j / 4) _ (List.getElem?_eq_getElem hd)
  injection e with e
  subst e
  have hj2 : j = j / 4 * 4 + j % 4 := by omega
  have h2 := row_at L (j / 4) _ (List.getElem?_eq_getElem hd) (j % 4) (by omega)
  rw [← hj2, hu] at h2
  have h4 : j % 4 = 0 ∨ j % 4 = 1 ∨ j % 4 = 2 ∨ j % 4 = 3 := by omega
  rcases h4 with q | q | q | q
  all_goals
    rw [q] at h2
    simp [Fw.arr] at h2
    rw [h2]
  · rw [add_at b o j, show o + j = o + j / 4 * 4 by omega]
    exact ha.k0
  · rw [add_at b o j, show o + j = o + j / 4 * 4 + 1 by omega]
    exact ha.k1
  · rw [add_at b o j, show o + j = o + j / 4 * 4 + 2 by omega]
    exact ha.k2
  · rw [add_at b o j, show o + j = o + j / 4 * 4 + 3 by omega]
    exact ha.k3
/-- A tuple. -/
structure Tup where
  proto : Int
  src : Int
  dst : Int
  sp : Int
  dp : Int
deriving DecidableEq
def Tup.arr (t : Tup) : Array Value := #[.int .u8 t.proto, .int .u32 t.src, .int .u32 t.dst, .int .u16 t.sp, .int .u16 t.dp]
def Tup.val (t : Tup) : Value := .agg t.arr
def Tup.Ok (t : Tup) : Prop := (Lit.int .u8 t.proto).wf = true ∧ (Lit.int .u32 t.src).wf = true ∧ (Lit.int .u32 t.dst).wf = true ∧ (Lit.int .u16 t.sp).wf = true ∧ (Lit.int .u16 t.dp).wf = true
/-- A configuration. -/
structure Cfg where
  inn : Int
  mask : Int
  outr : Int
  low : Int
  high : Int
  quar : Int
  fls : Int
  A7 : Option Addr
  n7 : Nat
  c7 : Nat
  sniff : Int
  mss : Int
  scale : Int
  sack : Bool
  ky : Int
  A13 : Option Addr
  n13 : Nat
  c13 : Nat
  A14 : Option Addr
  n14 : Nat
  c14 : Nat
  rto : Int
  tries : Int
  idle : Int
  wait : Int
def Cfg.arr (c : Cfg) : Array Value := #[.int .u32 c.inn, .int .u32 c.mask, .int .u32 c.outr, .int .u16 c.low, .int .u16 c.high, .int .u64 c.quar, .int .i64 c.fls, .slice c.A7 c.n7 c.c7, .int .i64 c.sniff, .int .u16 c.mss, .int .i64 c.scale, .bool c.sack, .int .u64 c.ky, .slice c.A13 c.n13 c.c13, .slice c.A14 c.n14 c.c14, .int .u64 c.rto, .int .i64 c.tries, .int .u64 c.idle, .int .u64 c.wait]
def Cfg.val (c : Cfg) : Value := .agg c.arr
def Cfg.Ok (c : Cfg) : Prop := (Lit.int .u32 c.inn).wf = true ∧ (Lit.int .u32 c.mask).wf = true
/-- A door. -/
structure Door where
  proto : Int
  port : Int
deriving DecidableEq
def Door.val (d : Door) : Value := .agg #[.int .u8 d.proto, .int .u16 d.port]
def Door.cells (d : Door) : List Value := [.int .u8 d.proto, .int .u16 d.port]
def Door.Ok (d : Door) : Prop := (Lit.int .u8 d.proto).wf = true ∧ (Lit.int .u16 d.port).wf = true
def Fw.door (f : Fw) : Door := ⟨f.proto, f.port⟩
theorem Fw.Ok.door {f : Fw} (h : f.Ok) : f.door.Ok := ⟨h.1, h.2.1⟩
theorem door_law : WideMaps.KeyLaw Try.prog 60 := deep_law_gate (by kernel_rfl) (by decide +kernel) (by decide +kernel) (by kernel_rfl) (by kernel_rfl)
theorem door_keyed : Maps.Keyed Try.prog 60 := Maps.Keyed.of_law door_law
theorem cells60 : Try.prog.cellsOf 60 = 2 := by kernel_rfl
theorem door_lits (n : Nat) (t : Door) (h : t.Ok) : Try.prog.keyLits (n + 2) 60 t.cells = some [.int .u8 t.proto, .int .u16 t.port] := by
  obtain ⟨h1, h2⟩ := h
  have c5 : Try.prog.cellsOf 5 = 1 := by kernel_rfl
  have c23 : Try.prog.cellsOf 23 = 1 := by kernel_rfl
  simp [Program.keyLits, Try.underlying60, cells60, Door.cells, Try.underlying5, Try.underlying23, c5, c23, h1, h2]
theorem door_key (t : Door) (h : t.Ok) : ∃ l, keyOf Try.prog 60 t.val = some l := by
  have h1 : Try.prog.keyType 60 = true := by kernel_rfl
  have h2 : t.val.formed Try.prog 60 = true := by simp [Door.val, Value.formed, Try.underlying60, cells60]
  obtain ⟨n, hn⟩ : ∃ n, Try.prog.types.size + 1 = n + 2 := ⟨Try.prog.types.size - 1, by have : 1 ≤ Try.prog.types.size := by decide +kernel
                                                                                        omega⟩
  unfold keyOf
  rw [Try.underlying60, h1, h2, hn]
  exact ⟨_, by rw [show t.val.cells.toList = t.cells from by simp [Door.val, Door.cells, Value.cells]]; simp [door_lits n t h]; rfl⟩
noncomputable def key (t : Door) : Lit := (keyOf Try.prog 60 t.val).getD (.bool false)
theorem key_of {t : Door} (h : t.Ok) : keyOf Try.prog 60 t.val = some (key t) := by
  obtain ⟨l, hl⟩ := door_key t h
  unfold key
  rw [hl]
  rfl
theorem Door.val_inj {t t' : Door} (h : t.val = t'.val) : t = t' := by
  obtain ⟨a, b⟩ := t
  obtain ⟨a', b'⟩ := t'
  simp [Door.val] at h
  obtain ⟨rfl, rfl⟩ := h
  rfl
theorem key_inj {t t' : Door} (h : t.Ok) (h' : t'.Ok) (e : key t = key t') : t = t' := Door.val_inj (door_keyed.inj (key_of h) (by rw [e]; exact key_of h'))
theorem key_ne {t t' : Door} (h : t.Ok) (h' : t'.Ok) (e : t' ≠ t) : key t' ≠ key t := fun q => e (key_inj h' h q)
/-- What the seen doors are. -/
def MapI (w : World) (b n : Nat) (f : Door → Int) : Prop :=
  ∃ D : DataW Unit, w.ownsMap Try.prog 60 (plainElem Try.prog 3) b n D ∧ ∀ t : Door, t.Ok → D.atKey (key t) (.lit (.int .i64 0)) = .lit (.int .i64 (f t))
theorem zero3 (w : World) : (zeroValue 3).run Try.prog w = .ok (.int .i64 0) w := by
  have h : Try.t3.zero = some (.int .i64 0) := by kernel_rfl
  simp [zeroValue, h]
theorem MapI.look {w : World} {b n : Nat} {f : Door → Int} (h : MapI w b n f) {t : Door} (ht : t.Ok) : (Instr.lookup 58 (.map (some b)) t.val false).run Try.prog w = .ok (.int .i64 (f t)) w := by
  obtain ⟨D, ho, hf⟩ := h
  obtain ⟨c, hr, hc, hw⟩ := ho.lookup_int door_keyed Try.underlying58 Try.underlying3 (zero3 w) (key_of ht)
  rw [hf t ht] at hc
  injection hc with hc
  injection hc with _ hc
  subst hc
  exact hr
set_option maxRecDepth 100000 in
theorem MapI.store {w : World} {b n : Nat} {f : Door → Int} (h : MapI w b n f) {t : Door} (ht : t.Ok) {x : Int} (hx : (Lit.int .i64 x).wf = true) (hn : n < maxLen) :
    ∃ w', (Instr.mapUpdate 58 (.map (some b)) t.val (.int .i64 x)).run Try.prog w = .ok () w' ∧ MapI w' b (n + 1) (fun y => if y = t then x else f y) ∧ w.grownBy w' (some b) := by
  obtain ⟨D, ho, hf⟩ := h
  obtain ⟨w', hr, ho', ht'⟩ := ho.store door_keyed Try.underlying58 hn (key_of ht) (plainElem_int Try.underlying3 hx)
  refine ⟨w', hr, ⟨_, ho', fun y hy => ?_⟩, ht'.grown⟩
  by_cases e : y = t
  · subst e
    rw [Maps.atKey_put_same ho.isMap (door_keyed.key (key_of hy))]
    simp
  · rw [Maps.atKey_put_other (key_ne ht hy e), hf y hy]
    simp [e]
theorem MapI.keptE {w w' : World} {b n : Nat} {f : Door → Int} (h : MapI w b n f) (e : w'.heap[b]? = w.heap[b]?) : MapI w' b n f := by
  obtain ⟨D, ⟨es, clock, hb, F, hs, hD⟩, hf⟩ := h
  exact ⟨D, ⟨es, clock, e.trans hb, F, hs, hD⟩, hf⟩
theorem MapI.lt {w : World} {b n : Nat} {f : Door → Int} (h : MapI w b n f) : b < w.heap.size := by
  obtain ⟨D, ho, hf⟩ := h
  exact ho.lt
theorem MapI.congr {w : World} {b n : Nat} {f f' : Door → Int} (h : MapI w b n f) (e : ∀ t : Door, t.Ok → f t = f' t) : MapI w b n f' := by
  obtain ⟨D, ho, hf⟩ := h
  exact ⟨D, ho, fun t ht => by rw [← e t ht]; exact hf t ht⟩
theorem MapI.made (w : World) : MapI (w.alloc (.map #[] 0)) w.heap.size 0 (fun _ => 0) := ⟨.map [], World.ownsMap_made w _ _ _, fun t ht => rfl⟩
/-- A forward as a map's element. -/
def Fw.data (f : Fw) : DataW Unit := .agg [.lit (.int .u8 f.proto), .lit (.int .u16 f.port), .lit (.int .u32 f.addr), .lit (.int .u16 f.dest)]
def fwElem : Value → Option (DataW Unit × List MemPlace)
  | .agg ⟨[.int .u8 p, .int .u16 q, .int .u32 a, .int .u16 t]⟩ => some ((⟨p, q, a, t⟩ : Fw).data, [])
  | _ => none
theorem fwElem_mk (f : Fw) : fwElem f.val = some (f.data, []) := rfl
theorem fwElem_inv {v : Value} {z : DataW Unit × List MemPlace} (h : fwElem v = some z) : ∃ f : Fw, v = f.val ∧ z = (f.data, []) := by
  unfold fwElem at h
  split at h
  · injection h with h
    exact ⟨⟨_, _, _, _⟩, rfl, h.symm⟩
  · cases h
theorem Fw.data_inj {f g : Fw} (h : f.data = g.data) : f = g := by
  obtain ⟨a, b, c, d⟩ := f
  obtain ⟨a', b', c', d'⟩ := g
  unfold Fw.data at h
  injection h with h
  simp at h
  obtain ⟨rfl, rfl, rfl, rfl⟩ := h
  rfl
/-- The forward at a door. -/
def findD (L : List Fw) (d : Door) : Option Fw := L.find? (fun f => decide (f.door = d))
structure MapD (w : World) (b n : Nat) (L : List Fw) : Prop where
  own : ∃ D : DataW Unit, w.ownsMap Try.prog 60 fwElem b n D ∧ Maps.size D = L.length ∧ (∀ d : Door, d.Ok → Maps.has D (key d) = (findD L d).isSome ∧ ∀ z, D.atKey (key d) z = (match findD L d with | some f => f.data | none => z)) ∧ ∀ kl, Maps.has D kl = true → ∃ f ∈ L, kl = key f.door
theorem zero37 (w : World) : (zeroValue 37).run Try.prog w = .ok Fw.zero.val w := by
  have h : Try.t37.zero = some Fw.zero.val := by kernel_rfl
  simp [zeroValue, h]
theorem MapD.look {w : World} {b n : Nat} {L : List Fw} (h : MapD w b n L) {d : Door} (hd : d.Ok) : (Instr.lookup 61 (.map (some b)) d.val true).run Try.prog w = .ok (.tuple #[((findD L d).getD Fw.zero).val, .bool (findD L d).isSome]) w := by
  obtain ⟨D, ho, hs, hf, -⟩ := h.own
  obtain ⟨v, ps, hr, hv⟩ := ho.look_ok door_keyed Try.underlying61 (zero37 w) (fwElem_mk Fw.zero) (key_of hd)
  obtain ⟨f, rfl, hz⟩ := fwElem_inv hv
  injection hz with hz _
  rw [(hf d hd).1] at hr
  rw [(hf d hd).2] at hz
  have : f = (findD L d).getD Fw.zero := by
    cases hx : findD L d with
    | none => rw [hx] at hz; exact (Fw.data_inj hz).symm
    | some g => rw [hx] at hz; exact (Fw.data_inj hz).symm
  rw [← this]
  exact hr
set_option maxRecDepth 100000 in
theorem MapD.store {w : World} {b n : Nat} {L : List Fw} (h : MapD w b n L) {f : Fw} (hf : f.Ok) (hn : n < maxLen) (hnew : findD L f.door = none) :
    ∃ w', (Instr.mapUpdate 61 (.map (some b)) f.door.val f.val).run Try.prog w = .ok () w' ∧ MapD w' b (n + 1) (L ++ [f]) ∧ w.grownBy w' (some b) := by
  obtain ⟨D, ho, hs, hfd, hall⟩ := h.own
  obtain ⟨w', hr, ho', ht'⟩ := ho.store door_keyed Try.underlying61 hn (key_of hf.door) (fwElem_mk f)
  refine ⟨w', hr, ⟨_, ho', ?_, fun d hd => ?_, fun kl hkl => ?_⟩, ht'.grown⟩
  · rw [Maps.size_put (ho.tidy door_keyed), (hfd _ hf.door).1, hnew, hs]
    simp
  · by_cases e : d = f.door
    · subst e
      have e1 : findD (L ++ [f]) f.door = some f := by
        unfold findD at hnew ⊢
        rw [List.find?_append, hnew]
        simp
      rw [e1]
      exact ⟨Maps.has_put_same ho.isMap (door_keyed.key (key_of hf.door)) _, fun z => Maps.atKey_put_same ho.isMap (door_keyed.key (key_of hf.door)) _ _⟩
    · have e1 : findD (L ++ [f]) d = findD L d := by
        unfold findD
        rw [List.find?_append]
        simp [Ne.symm e]
      rw [e1]
      exact ⟨by rw [Maps.has_put_other (key_ne hf.door hd e)]; exact (hfd d hd).1, fun z => by rw [Maps.atKey_put_other (key_ne hf.door hd e)]; exact (hfd d hd).2 z⟩
  · by_cases e : kl = key f.door
    · exact ⟨f, by simp, e⟩
    · rw [Maps.has_put_other e] at hkl
      obtain ⟨g, hg, he⟩ := hall kl hkl
      exact ⟨g, List.mem_append_left _ hg, he⟩
theorem MapD.keptE {w w' : World} {b n : Nat} {L : List Fw} (h : MapD w b n L) (e : w'.heap[b]? = w.heap[b]?) : MapD w' b n L := by
  obtain ⟨D, ⟨es, clock, hb, F, hs, hD⟩, hf⟩ := h.own
  exact ⟨⟨D, ⟨es, clock, e.trans hb, F, hs, hD⟩, hf⟩⟩
theorem MapD.lt {w : World} {b n : Nat} {L : List Fw} (h : MapD w b n L) : b < w.heap.size := by
  obtain ⟨D, ho, hf⟩ := h.own
  exact ho.lt
theorem MapD.below {w w' : World} {b n : Nat} {L : List Fw} (h : MapD w b n L) (hb : Below w.heap.size w w') : MapD w' b n L := h.keptE (hb.block _ h.lt)
theorem MapD.made (w : World) : MapD (w.alloc (.map #[] 0)) w.heap.size 0 [] := ⟨⟨.map [], World.ownsMap_made w _ _ _, rfl, fun d hd => ⟨rfl, fun z => rfl⟩, fun kl h => by cases h⟩⟩
end Go.Proofs.Ythlohgldcnicbaa
