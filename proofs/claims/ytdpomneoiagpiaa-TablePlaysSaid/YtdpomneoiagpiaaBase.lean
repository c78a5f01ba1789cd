/- Chapter 13's ground: small laws on worlds; tuples and flows; maps by tuples. -/
import Derived.Test.YtdpomneoiagpiaaRows
import Derived.WalkKit
import Derived.WalkSpells
import Derived.WalkLawsBesides
import Derived.OpenShut
import Derived.Lib.Hide
import Derived.Lib.AppendZeros
import Derived.Lib.SmallJoins
import Derived.Deep.OwnRows
import Derived.Deep.Slices
import Derived.Deep.RegionHeld3
import Derived.Deep.DrawnRows
import Derived.Laws.CopyOwn
import Derived.BigQuiet
import Derived.StillTailTactics
import Derived.Outline
import Derived.Deep.RegionLaw
import Derived.Deep.CutRange
import Derived.Maps.OwnSet
import Derived.DeepKeys5
import Derived.IntWalk
set_option linter.unusedVariables false
namespace Go.Proofs.Ytdpomneoiagpiaa
open Go.RowKit Go.Deep Go.BigFrame
theorem ret_int {k : IntKind} {a b : Int} (h : a = b) : Ending.returned (.int k a) = .returned (.int k b) := by rw [h]
theorem ret_bool {a b : Bool} (h : a = b) : Ending.returned (.bool a) = .returned (.bool b) := by rw [h]

theorem own_len {w : World} {base : Nat} {e : TypeId} {size n : Nat} {v : Value} {xs : List Value} (h : w.ownsRow base e size v n xs) : ∃ A c, v = .slice A n c := by
  rcases h.2 with ⟨rfl, h0⟩ | ⟨g, cap, cur, rfl, _⟩
  · exact ⟨none, 0, by rw [h0]⟩
  · exact ⟨_, cap, rfl⟩

theorem bd_u32 {a : Int} (h : (Lit.int .u32 a).wf = true) : 0 ≤ a ∧ a ≤ 4294967295 := by
  simp [Lit.wf, IntKind.min, IntKind.max, IntKind.signed, IntKind.bits] at h; omega
theorem bd_u64 {a : Int} (h : (Lit.int .u64 a).wf = true) : 0 ≤ a ∧ a ≤ 18446744073709551615 := by
  simp [Lit.wf, IntKind.min, IntKind.max, IntKind.signed, IntKind.bits] at h; omega
theorem bd_i64 {a : Int} (h : (Lit.int .i64 a).wf = true) : -9223372036854775808 ≤ a ∧ a ≤ 9223372036854775807 := by
  simp [Lit.wf, IntKind.min, IntKind.max, IntKind.signed, IntKind.bits] at h; omega

/-- A world of a class. -/
structure ClsW (p : World → Prop) where
  val : World
  prop : p val
/-- A region that draws its order, walked once in the order of the text, in whatever world of a class. -/
theorem wp_region_class {P : Program} (p : World → Prop) {id : Nat} {Q : Exit → Act → World → Prop} {a : Act} {w : World} {l : List Oper} (hm : P.follows .mixedOrders = true) (hB : Region.lexB .any l.toArray = true) (h0 : p { w with drawn := w.drawn + 1 })
    (h : Nonempty (ClsW p) → wpQuiet P l.toArray (fun w' => ∃ W : ClsW p, w' = W.val) (fun a' => ∀ w', (∃ W : ClsW p, w' = W.val) → Q .normal a' w') l a) : (Code.region id l.toArray true).wp P Q a w :=
  wp_region_quiet (C := fun w' => ∃ W : ClsW p, w' = W.val) hm hB ⟨⟨_, h0⟩, rfl⟩ (by simpa using h ⟨⟨_, h0⟩⟩)
theorem class_same {P : Program} {p : World → Prop} {f : FuncId} {args : Array Value} {W : ClsW p} {v : Value}
    (h : Calls P f args W.val fun e w' => e = .returned v ∧ W.val = w') : Calls P f args W.val fun e w'' => e = .returned v ∧ ∃ W' : ClsW p, w'' = W'.val :=
  h.mono fun _ _ ⟨he, hm⟩ => ⟨he, W, hm.symm⟩
/-- The class of the worlds that are, below block B, as w0. -/
def InB (B : Nat) (w0 : World) (W : World) : Prop := Below B w0 W ∧ B ≤ W.heap.size
theorem class_below {P : Program} {B : Nat} {w0 : World} {f : FuncId} {args : Array Value} {W : ClsW (InB B w0)} {v : Value}
    (h : Calls P f args W.val fun e w' => e = .returned v ∧ Below W.val.heap.size W.val w') : Calls P f args W.val fun e w'' => e = .returned v ∧ ∃ W' : ClsW (InB B w0), w'' = W'.val :=
  h.mono fun _ w' ⟨he, hm⟩ => ⟨he, ⟨w', W.2.1.trans (hm.mono W.2.2), Nat.le_trans W.2.2 hm.size⟩, rfl⟩
theorem class_cell {B : Nat} {w0 : World} (W : ClsW (InB B w0)) {p : Addr} {v : Value} (h : w0.cell? p = some v) (hp : p.block < B) : W.val.cell? p = some v := (W.2.1.cell hp).trans h

theorem grown_trans {a b c : World} {row : Option Nat} (h : a.grownBy b row) (k : b.grownBy c row) : a.grownBy c row :=
  ⟨k.os.trans h.os, k.tape.trans h.tape, k.output.trans h.output, Nat.le_trans h.size k.size, fun i hi hr => (k.block i (Nat.lt_of_lt_of_le hi h.size) hr).trans (h.block i hi hr)⟩
theorem grown_setCell (w : World) (g i : Nat) (u : Value) : w.grownBy (w.setCell ⟨g, i, none⟩ u) (some g) :=
  ⟨rfl, rfl, rfl, by simp [World.setCell], fun k _ hk => Below.heap_setCell w ⟨g, i, none⟩ u k (fun e => hk (by rw [e]))⟩

/-- An owned row of one-cell elements: one of its cells. -/
theorem own_at {w : World} {base : Nat} {e : TypeId} {ao : Option Addr} {n cap : Nat} {xs : List Value} (h : w.ownsRow base e 1 (.slice ao n cap) n xs) {i : Nat} (hi : i < n) :
    ∃ g, ao = some ⟨g, 0, none⟩ ∧ base ≤ g ∧ g < w.heap.size ∧ n ≤ cap ∧ cap ≤ maxLen ∧ w.cell? ⟨g, i, none⟩ = some (xs.getD i undef) ∧ w.frozen? ⟨g, i, none⟩ = false ∧
      ∀ u, (w.setCell ⟨g, i, none⟩ u).ownsRow base e 1 (.slice ao n cap) n (xs.set i u) := by
  rcases h.2 with ⟨h0, h1⟩ | ⟨g, cap', cur, hv, hb, hg, hn, hc, hs, ht⟩
  · omega
  · injection hv with h1 h2 h3
    subst h1; subst h3
    have hx := h.1
    refine ⟨g, rfl, hb, (Array.getElem?_eq_some_iff.1 hg).1, hn, hc, ?_, ?_, fun u => ⟨by simp [hx], .inr ⟨g, cap, cur.setIfInBounds i u, rfl, hb, ?_, hn, hc, by simp [hs], ?_⟩⟩⟩
    · rw [cell_of_row _ _ i _ e (0, 0) hg, ← ht]
      simp only [List.getD, List.getElem?_take, Nat.mul_one, if_pos hi]
      rw [Array.getElem?_toList, Array.getElem?_eq_getElem (by omega)]
      rfl
    · simp [World.frozen?, hg]
    · simp [World.setCell, Array.getElem?_modify, hg]
    · rw [← ht]
      simp [List.take_set]

theorem wpList_append_runG {P : Program} (w : World) {ops : Array Oper} {rest : List Oper} {o : Oper} {a : Act} {Q : Exit → Act → World → Prop} (hw : Region.wanted o (yielded ops a.tmps) = true) (s x : Operand) (t tn : TypeId)
    (ho : o.op = .call { callee := .builtin .append, args := #[s, x], argTypes := #[t, tn] }) (vs vx : Value) (hs : a.eval s = vs) (hx : a.eval x = vx)
    (v' : Value) (w' : World) (hr : (Builtin.append_ #[t, tn] o.type #[vs, vx]).run P w = .ok v' w') (h : wpList P ops Q rest (a.put o.dst v') w') : wpList P ops Q (o :: rest) a w :=
  wpList_want hw fun _ hK => Lib.wp_append_run w s x t tn ho vs vx hs hx v' w' hr (hK _ _ h)


theorem heap_set {w : World} {g i : Nat} {cs : Array Value} {t : TypeId} {fr : Nat × Nat} (h : w.heap[g]? = some (.cells cs t fr)) (v : Value) :
    (w.setCell ⟨g, i, none⟩ v).heap[g]? = some (.cells (cs.setIfInBounds i v) t fr) := by
  simp [World.setCell, Array.getElem?_modify, h]
theorem cell_of {w : World} {g : Nat} {cs : Array Value} {t : TypeId} {fr : Nat × Nat} (h : w.heap[g]? = some (.cells cs t fr)) (i : Nat) : w.cell? ⟨g, i, none⟩ = cs[i]? := cell_of_row w g i cs t fr h
theorem free_of {w : World} {g : Nat} {cs : Array Value} {t : TypeId} (h : w.heap[g]? = some (.cells cs t (0, 0))) (i : Nat) : w.frozen? ⟨g, i, none⟩ = false := by
  simp [World.frozen?, h]

theorem grown_set {a b : World} {g i : Nat} {u : Value} (h : a.grownBy b (some g)) : a.grownBy (b.setCell ⟨g, i, none⟩ u) (some g) := grown_trans h (grown_setCell b g i u)
theorem grown_drew {a b : World} {r : Option Nat} (h : a.grownBy b r) : a.grownBy b.drew r := ⟨h.os, h.tape, h.output, h.size, h.block⟩
theorem grown_alloc {a b : World} {r : Option Nat} {o : Obj} (h : a.grownBy b r) : a.grownBy (b.alloc o) r := grown_trans h (World.grownBy_alloc b o r)
theorem grown_below {a b : World} {r : Option Nat} (h : Below a.heap.size a b) : a.grownBy b r := ⟨h.os, h.tape, h.output, h.size, fun k hk _ => h.block k hk⟩
theorem grown_set_new {a b : World} {r : Option Nat} {p : Addr} {u : Value} (h : a.grownBy b r) (hp : a.heap.size ≤ p.block) : a.grownBy (b.setCell p u) r :=
  ⟨h.os, h.tape, h.output, by simpa [World.setCell] using h.size, fun k hk hr => (Below.heap_setCell b p u k (by omega)).trans (h.block k hk hr)⟩
theorem grown_drewN {a b : World} {r : Option Nat} {n : Nat} (h : a.grownBy b r) : a.grownBy (b.drewN n) r := ⟨h.os, h.tape, h.output, h.size, h.block⟩

theorem kept_row {w w' : World} {base : Nat} {e : TypeId} {size n : Nat} {v : Value} {xs : List Value} (h : w.ownsRow base e size v n xs) {row : Option Nat} (hg : w.grownBy w' row) (hr : ∀ k, row = some k → k < base) : w'.ownsRow base e size v n xs :=
  h.kept hg (by
    rcases hv : v.ownBlock with _ | b
    · exact .inl rfl
    · right
      intro e
      have := (h.lt b hv).1
      have := hr b e.symm
      omega)
theorem own_ne {w : World} {b b' s s' n n' : Nat} {e e' : TypeId} {v v' : Value} {xs xs' : List Value} (h : w.ownsRow b e s v n xs) (h' : w.ownsRow b' e' s' v' n' xs') (hne : e ≠ e') : v.ownBlock = none ∨ v.ownBlock ≠ v'.ownBlock := by
  rcases h.2 with ⟨rfl, _⟩ | ⟨g, cap, cur, rfl, _, hg, _⟩
  · exact .inl rfl
  · right
    intro e1
    rcases h'.2 with ⟨rfl, _⟩ | ⟨g', cap', cur', rfl, _, hg', _⟩
    · simp [Value.ownBlock] at e1
    · simp [Value.ownBlock] at e1
      subst e1
      rw [hg] at hg'
      injection hg' with hg'
      injection hg' with _ h2
      exact hne h2
theorem step_append_run {P : Program} {ops : Array Oper} {o : Oper} {a : Act} {w : World} {K : Act → World → Prop} {Q : Exit → Act → World → Prop} {E : Prop}
    (hg : o.guard = none) (s x : Operand) (t tn : TypeId) (hop : o.op = Op.call { callee := Callee.builtin Builtin.append, args := #[s, x], argTypes := #[t, tn] })
    (vs vx : Value) (hs : a.eval s = vs) (hx : a.eval x = vx) (v' : Value) (w' : World) (hr : (Builtin.append_ #[t, tn] o.type #[vs, vx]).run P w = .ok v' w') (hK : K (a.put o.dst v') w') :
    if Region.wanted o (yielded ops a.tmps) = true then Oper.wp P o a w K Q else E := by
  have hw : Region.wanted o (yielded ops a.tmps) = true := by simp [Region.wanted, hg]
  rw [if_pos hw]
  exact Lib.wp_append_run w s x t tn hop vs vx hs hx v' w' hr hK

theorem grown_then {a b c : World} {B : Nat} {r : Option Nat} (h : a.grownBy b r) (k : Below B b c) (hB : a.heap.size ≤ B) : a.grownBy c r :=
  ⟨k.os.trans h.os, k.tape.trans h.tape, k.output.trans h.output, Nat.le_trans h.size k.size, fun i hi hr => (k.block i (Nat.lt_of_lt_of_le hi hB)).trans (h.block i hi hr)⟩
theorem grown_new2 {a b c : World} {r r2 : Option Nat} (h : a.grownBy b r) (k : b.grownBy c r2) (hr : ∀ k, r2 = some k → a.heap.size ≤ k) : a.grownBy c r :=
  ⟨k.os.trans h.os, k.tape.trans h.tape, k.output.trans h.output, Nat.le_trans h.size k.size, fun i hi hne => (k.block i (Nat.lt_of_lt_of_le hi h.size) (fun q => by have := hr _ q.symm; omega)).trans (h.block i hi hne)⟩

theorem wp_abs {P : Program} {c : Code} {Q : Exit → Act → World → Prop} {a : Act} {w : World} (h : ∀ N : Act → World → Prop, (∀ a w, Q .normal a w → N a w) → c.wp P (Exit.then N Q) a w) : c.wp P Q a w := by
  have e : Exit.then (fun a w => Q .normal a w) Q = Q := by funext e; cases e <;> rfl
  have h1 := h (fun a w => Q .normal a w) (fun _ _ h => h)
  rwa [e] at h1
theorem absorb {N : Act → World → Prop} {a : Act} {w : World} {G : Prop} (f : Hid (N a w) → G) (h : N a w) : G := f (Lib.hid h)
theorem grown_bel {w0 w1 w2 : World} {row : Option Nat} (h : Below w0.heap.size w0 w1) (hg : w1.grownBy w2 row) (hr : ∀ k, row = some k → w0.heap.size ≤ k) : Below w0.heap.size w0 w2 := h.grown hg h.size hr

/-- A tuple. -/
structure Tup where
  proto : Int
  src : Int
  dst : Int
  sp : Int
  dp : Int
deriving DecidableEq
def Tup.val (t : Tup) : Value := .agg #[.int .u8 t.proto, .int .u32 t.src, .int .u32 t.dst, .int .u16 t.sp, .int .u16 t.dp]
def Tup.cells (t : Tup) : List Value := [.int .u8 t.proto, .int .u32 t.src, .int .u32 t.dst, .int .u16 t.sp, .int .u16 t.dp]
def Tup.Ok (t : Tup) : Prop := (Lit.int .u8 t.proto).wf = true ∧ (Lit.int .u32 t.src).wf = true ∧ (Lit.int .u32 t.dst).wf = true ∧ (Lit.int .u16 t.sp).wf = true ∧ (Lit.int .u16 t.dp).wf = true
def Tup.zero : Tup := ⟨0, 0, 0, 0, 0⟩
def Tup.of (n : Int) : Tup := ⟨0, n, 0, 0, 0⟩
theorem Tup.zero_ok : Tup.zero.Ok := by unfold Tup.Ok Tup.zero; decide
theorem tup_law : WideMaps.KeyLaw Try.prog 33 := deep_law_gate (by kernel_rfl) (by decide +kernel) (by decide +kernel) (by kernel_rfl) (by kernel_rfl)
theorem tup_keyed : Maps.Keyed Try.prog 33 := Maps.Keyed.of_law tup_law
theorem cells33 : Try.prog.cellsOf 33 = 5 := by kernel_rfl
theorem tup_lits (n : Nat) (t : Tup) (h : t.Ok) : Try.prog.keyLits (n + 2) 33 t.cells = some [.int .u8 t.proto, .int .u32 t.src, .int .u32 t.dst, .int .u16 t.sp, .int .u16 t.dp] := by
  obtain ⟨h1, h2, h3, h4, h5⟩ := h
  have c5 : Try.prog.cellsOf 5 = 1 := by kernel_rfl
  have c30 : Try.prog.cellsOf 30 = 1 := by kernel_rfl
  have c31 : Try.prog.cellsOf 31 = 1 := by kernel_rfl
  simp [Program.keyLits, Try.underlying33, cells33, Tup.cells, Try.underlying5, Try.underlying30, Try.underlying31, c5, c30, c31, h1, h2, h3, h4, h5]
theorem tup_key (t : Tup) (h : t.Ok) : ∃ l, keyOf Try.prog 33 t.val = some l := by
  have h1 : Try.prog.keyType 33 = true := by kernel_rfl
  have h2 : t.val.formed Try.prog 33 = true := by simp [Tup.val, Value.formed, Try.underlying33, cells33]
  obtain ⟨n, hn⟩ : ∃ n, Try.prog.types.size + 1 = n + 2 := ⟨Try.prog.types.size - 1, by have : 1 ≤ Try.prog.types.size := by decide +kernel
                                                                                        omega⟩
  unfold keyOf
  rw [Try.underlying33, h1, h2, hn]
  exact ⟨_, by rw [show t.val.cells.toList = t.cells from by simp [Tup.val, Tup.cells, Value.cells]]; simp [tup_lits n t h]; rfl⟩
noncomputable def key (t : Tup) : Lit := (keyOf Try.prog 33 t.val).getD (.bool false)
theorem key_of {t : Tup} (h : t.Ok) : keyOf Try.prog 33 t.val = some (key t) := by
  obtain ⟨l, hl⟩ := tup_key t h
  unfold key
  rw [hl]
  rfl
theorem Tup.val_inj {t t' : Tup} (h : t.val = t'.val) : t = t' := by
  obtain ⟨a, b, c, d, e⟩ := t
  obtain ⟨a', b', c', d', e'⟩ := t'
  simp [Tup.val] at h
  obtain ⟨rfl, rfl, rfl, rfl, rfl⟩ := h
  rfl
theorem key_inj {t t' : Tup} (h : t.Ok) (h' : t'.Ok) (e : key t = key t') : t = t' := Tup.val_inj (tup_keyed.inj (key_of h) (by rw [e]; exact key_of h'))
theorem key_ne {t t' : Tup} (h : t.Ok) (h' : t'.Ok) (e : t' ≠ t) : key t' ≠ key t := fun q => e (key_inj h' h q)
/-- A map by tuples, as a function: 0 where nothing stands. -/
def MapF (w : World) (b n : Nat) (f : Tup → Int) : Prop :=
  ∃ D : DataW Unit, w.ownsMap Try.prog 33 (plainElem Try.prog 27) b n D ∧ ∀ t : Tup, t.Ok → D.atKey (key t) (.lit (.int .u64 0)) = .lit (.int .u64 (f t))
theorem zero27 (w : World) : (zeroValue 27).run Try.prog w = .ok (.int .u64 0) w := by
  have h : Try.t27.zero = some (.int .u64 0) := by kernel_rfl
  simp [zeroValue, h]
theorem MapF.look {w : World} {b n : Nat} {f : Tup → Int} (h : MapF w b n f) {t : Tup} (ht : t.Ok) : (Instr.lookup 70 (.map (some b)) t.val false).run Try.prog w = .ok (.int .u64 (f t)) w ∧ (Lit.int .u64 (f t)).wf = true := by
  obtain ⟨D, ho, hf⟩ := h
  obtain ⟨c, hr, hc, hw⟩ := ho.lookup_int tup_keyed Try.underlying70 Try.underlying27 (zero27 w) (key_of ht)
  rw [hf t ht] at hc
  injection hc with hc
  injection hc with _ hc
  subst hc
  exact ⟨hr, hw⟩
theorem MapF.store {w : World} {b n : Nat} {f : Tup → Int} (h : MapF w b n f) {t : Tup} (ht : t.Ok) {x : Int} (hx : (Lit.int .u64 x).wf = true) (hn : n < maxLen) :
    ∃ w', (Instr.mapUpdate 70 (.map (some b)) t.val (.int .u64 x)).run Try.prog w = .ok () w' ∧ MapF w' b (n + 1) (fun y => if y = t then x else f y) ∧ w.grownBy w' (some b) := by
  obtain ⟨D, ho, hf⟩ := h
  obtain ⟨w', hr, ho', ht'⟩ := ho.store tup_keyed Try.underlying70 hn (key_of ht) (plainElem_int Try.underlying27 hx)
  refine ⟨w', hr, ⟨_, ho', fun y hy => ?_⟩, ht'.grown⟩
  by_cases e : y = t
  · subst e
    rw [Maps.atKey_put_same ho.isMap (tup_keyed.key (key_of hy))]
    simp
  · rw [Maps.atKey_put_other (key_ne ht hy e), hf y hy]
    simp [e]
theorem MapF.drop {w : World} {b n : Nat} {f : Tup → Int} (h : MapF w b n f) {t : Tup} (ht : t.Ok) (ty : TypeId) :
    ∃ w', (Builtin.delete_ #[70, 33] ty #[.map (some b), t.val]).run Try.prog w = .ok (.tuple #[]) w' ∧ MapF w' b n (fun y => if y = t then 0 else f y) ∧ w.grownBy w' (some b) := by
  obtain ⟨D, ho, hf⟩ := h
  obtain ⟨w', hr, ho', ht'⟩ := ho.drop tup_keyed Try.underlying70 (key_of ht) ty
  refine ⟨w', hr, ⟨_, ho', fun y hy => ?_⟩, ht'.grown⟩
  by_cases e : y = t
  · subst e
    rw [Maps.atKey_del_same]
    simp
  · rw [Maps.atKey_del_other (key_ne ht hy e), hf y hy]
    simp [e]
theorem MapF.kept {w w' : World} {b n : Nat} {f : Tup → Int} {r : Option Nat} (h : MapF w b n f) (hg : w.grownBy w' r) (hne : some b ≠ r) : MapF w' b n f := by
  obtain ⟨D, ho, hf⟩ := h
  exact ⟨D, ho.kept hg hne, hf⟩
theorem MapF.mono {w : World} {b n m : Nat} {f : Tup → Int} (h : MapF w b n f) (hn : n ≤ m) : MapF w b m f := by
  obtain ⟨D, ho, hf⟩ := h
  exact ⟨D, ho.mono hn, hf⟩
theorem MapF.lt {w : World} {b n : Nat} {f : Tup → Int} (h : MapF w b n f) : b < w.heap.size := by
  obtain ⟨D, ho, hf⟩ := h
  exact ho.lt
theorem MapF.congr {w : World} {b n : Nat} {f f' : Tup → Int} (h : MapF w b n f) (e : ∀ t : Tup, t.Ok → f t = f' t) : MapF w b n f' := by
  obtain ⟨D, ho, hf⟩ := h
  exact ⟨D, ho, fun t ht => by rw [← e t ht]; exact hf t ht⟩
theorem MapF.made (w : World) : MapF (w.alloc (.map #[] 0)) w.heap.size 0 (fun _ => 0) := ⟨.map [], World.ownsMap_made w _ _ _, fun t ht => rfl⟩
end Go.Proofs.Ytdpomneoiagpiaa
