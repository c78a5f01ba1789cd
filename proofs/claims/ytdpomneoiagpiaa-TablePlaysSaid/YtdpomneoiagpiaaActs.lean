/- Rows of calls, as arguments. -/
import Derived.Test.YtdpomneoiagpiaaLdLaw
import Derived.Deep.Slices
import Derived.Deep.Fields
import Derived.ChangeSame
set_option linter.unusedVariables false
namespace Go.Proofs.Ytdpomneoiagpiaa
open Go.RowKit Go.Deep Go.BigFrame
/-- A call. -/
structure ActD where
  what : Int
  id : Int
  a : Tup
  b : Tup
/-- A call, as it lies at an address. -/
structure ActAt (w : World) (b o : Nat) (x : ActD) : Prop where
  k0 : w.cell? ⟨b, o + 0, none⟩ = some (.int .i64 x.what)
  k1 : w.cell? ⟨b, o + 1, none⟩ = some (.int .u64 x.id)
  k2 : w.cell? ⟨b, o + 2, none⟩ = some (.int .u8 x.a.proto)
  k3 : w.cell? ⟨b, o + 3, none⟩ = some (.int .u32 x.a.src)
  k4 : w.cell? ⟨b, o + 4, none⟩ = some (.int .u32 x.a.dst)
  k5 : w.cell? ⟨b, o + 5, none⟩ = some (.int .u16 x.a.sp)
  k6 : w.cell? ⟨b, o + 6, none⟩ = some (.int .u16 x.a.dp)
  k7 : w.cell? ⟨b, o + 7, none⟩ = some (.int .u8 x.b.proto)
  k8 : w.cell? ⟨b, o + 8, none⟩ = some (.int .u32 x.b.src)
  k9 : w.cell? ⟨b, o + 9, none⟩ = some (.int .u32 x.b.dst)
  k10 : w.cell? ⟨b, o + 10, none⟩ = some (.int .u16 x.b.sp)
  k11 : w.cell? ⟨b, o + 11, none⟩ = some (.int .u16 x.b.dp)
structure ActD.Ok (x : ActD) : Prop where
  id : (Lit.int .u64 x.id).wf = true
  a : x.a.Ok
  b : x.b.Ok
/-- A slice of calls. -/
def Acts (w : World) (A : Option Addr) (n : Nat) (xs : List ActD) : Prop :=
  xs.length = n ∧ ∀ i x, xs[i]? = some x → ActD.Ok x ∧ ∃ b o, A = some ⟨b, o, none⟩ ∧ b < w.heap.size ∧ ActAt w b (o + i * 12) x
theorem ActAt.below {w w' : World} {b o : Nat} {x : ActD} (h : ActAt w b o x) (hb : Below w.heap.size w w') (hl : b < w.heap.size) : ActAt w' b o x :=
  ⟨(hb.cell (p := ⟨b, o + 0, none⟩) hl).trans h.k0, (hb.cell (p := ⟨b, o + 1, none⟩) hl).trans h.k1, (hb.cell (p := ⟨b, o + 2, none⟩) hl).trans h.k2, (hb.cell (p := ⟨b, o + 3, none⟩) hl).trans h.k3, (hb.cell (p := ⟨b, o + 4, none⟩) hl).trans h.k4, (hb.cell (p := ⟨b, o + 5, none⟩) hl).trans h.k5, (hb.cell (p := ⟨b, o + 6, none⟩) hl).trans h.k6, (hb.cell (p := ⟨b, o + 7, none⟩) hl).trans h.k7, (hb.cell (p := ⟨b, o + 8, none⟩) hl).trans h.k8, (hb.cell (p := ⟨b, o + 9, none⟩) hl).trans h.k9, (hb.cell (p := ⟨b, o + 10, none⟩) hl).trans h.k10, (hb.cell (p := ⟨b, o + 11, none⟩) hl).trans h.k11⟩
theorem collect {α : Type} {Q : Nat → α → Prop} : ∀ n : Nat, (∀ i, i < n → ∃ x, Q i x) → ∃ xs : List α, xs.length = n ∧ ∀ i x, xs[i]? = some x → Q i x
  | 0, _ => ⟨[], rfl, fun i x h => by simp at h⟩
  | n + 1, h => by
    obtain ⟨xs, hl, hq⟩ := collect n (fun i hi => h i (by omega))
    obtain ⟨y, hy⟩ := h n (by omega)
    refine ⟨xs ++ [y], by simp [hl], fun i x hx => ?_⟩
    rcases Nat.lt_or_ge i xs.length with hi | hi
    · rw [List.getElem?_append_left hi] at hx
      exact hq i x hx
    · rw [List.getElem?_append_right hi] at hx
      have : i = n := by
        rcases Nat.lt_or_ge (i - xs.length) 1 with h1 | h1
        · omega
        · rw [List.getElem?_eq_none (by simpa using h1)] at hx; cases hx
      subst this
      rw [hl, Nat.sub_self] at hx
      simp at hx
      subst hx
      exact hy
open Go.ChangeShapes Go.WideShapes in
theorem open_tup {H : Type} {enc : TypeId × Value → H} {W : World} {base fuel : Nat} {sp : Nat → Bool} {held : Bool} {c0 c1 c2 c3 c4 : Value} {y : DataW H × List MemPlace}
    (hf : DataW.trod enc Try.prog W base sp held fuel 33 [c0, c1, c2, c3, c4] = some y) : ∃ t : Tup, t.Ok ∧ [c0, c1, c2, c3, c4] = t.cells := by
  obtain ⟨ys, n', hn', hy, hlen, hyl, hq⟩ := DataW.trod_struct Try.underlying33 hf
  have g : ∀ i, i < 5 → ∃ z, ys[i]? = some z := fun i hi => ⟨_, List.getElem?_eq_getElem (by rw [hyl]; exact hi)⟩
  obtain ⟨z0, g0⟩ := g 0 (by decide)
  obtain ⟨z1, g1⟩ := g 1 (by decide)
  obtain ⟨z2, g2⟩ := g 2 (by decide)
  obtain ⟨z3, g3⟩ := g 3 (by decide)
  obtain ⟨z4, g4⟩ := g 4 (by decide)
  have t0 := (hq 0 _ rfl).trans g0
  have t1 := (hq 1 _ rfl).trans g1
  have t2 := (hq 2 _ rfl).trans g2
  have t3 := (hq 3 _ rfl).trans g3
  have t4 := (hq 4 _ rfl).trans g4
  obtain ⟨p0, e0, _, u0⟩ := DataW.trod_int Try.underlying5 t0
  obtain ⟨p1, e1, _, u1⟩ := DataW.trod_int Try.underlying30 t1
  obtain ⟨p2, e2, _, u2⟩ := DataW.trod_int Try.underlying30 t2
  obtain ⟨p3, e3, _, u3⟩ := DataW.trod_int Try.underlying31 t3
  obtain ⟨p4, e4, _, u4⟩ := DataW.trod_int Try.underlying31 t4
  have f0 : [c0] = [Value.int .u8 p0] := e0
  have f1 : [c1] = [Value.int .u32 p1] := e1
  have f2 : [c2] = [Value.int .u32 p2] := e2
  have f3 : [c3] = [Value.int .u16 p3] := e3
  have f4 : [c4] = [Value.int .u16 p4] := e4
  injection f0 with f0
  injection f1 with f1
  injection f2 with f2
  injection f3 with f3
  injection f4 with f4
  subst f0 f1 f2 f3 f4
  exact ⟨⟨p0, p1, p2, p3, p4⟩, ⟨u0, u1, u2, u3, u4⟩, rfl⟩
open Go.ChangeShapes Go.WideShapes in
theorem open_act {H : Type} {enc : TypeId × Value → H} {W : World} {base fuel : Nat} {sp : Nat → Bool} {held : Bool} {cs : List Value} {y : DataW H × List MemPlace}
    (hf : DataW.trod enc Try.prog W base sp held fuel 49 cs = some y) : ∃ x : ActD, x.Ok ∧ cs = [.int .i64 x.what, .int .u64 x.id] ++ x.a.cells ++ x.b.cells := by
  obtain ⟨ys, n', hn', hy, hlen, hyl, hq⟩ := DataW.trod_struct Try.underlying49 hf
  have hc49 : Try.prog.cellsOf 49 = 12 := by kernel_rfl
  rw [hc49] at hlen
  have g : ∀ i, i < 4 → ∃ z, ys[i]? = some z := fun i hi => ⟨_, List.getElem?_eq_getElem (by rw [hyl]; exact hi)⟩
  obtain ⟨z0, g0⟩ := g 0 (by decide)
  obtain ⟨z1, g1⟩ := g 1 (by decide)
  obtain ⟨z2, g2⟩ := g 2 (by decide)
  obtain ⟨z3, g3⟩ := g 3 (by decide)
  have t0 := (hq 0 _ rfl).trans g0
  have t1 := (hq 1 _ rfl).trans g1
  have t2 := (hq 2 _ rfl).trans g2
  have t3 := (hq 3 _ rfl).trans g3
  match cs, hlen with
  | [v0, v1, v2, v3, v4, v5, v6, v7, v8, v9, v10, v11], _ =>
    obtain ⟨p0, e0, _, u0⟩ := DataW.trod_int Try.underlying3 t0
    obtain ⟨p1, e1, _, u1⟩ := DataW.trod_int Try.underlying27 t1
    have f0 : [v0] = [Value.int .i64 p0] := e0
    have f1 : [v1] = [Value.int .u64 p1] := e1
    injection f0 with f0
    injection f1 with f1
    obtain ⟨ta, ha, ea⟩ := open_tup (c0 := v2) (c1 := v3) (c2 := v4) (c3 := v5) (c4 := v6) t2
    obtain ⟨tb, hb, eb⟩ := open_tup (c0 := v7) (c1 := v8) (c2 := v9) (c3 := v10) (c4 := v11) t3
    refine ⟨⟨p0, p1, ta, tb⟩, ⟨u1, ha, hb⟩, ?_⟩
    show _ = [_, _] ++ ta.cells ++ tb.cells
    rw [← ea, ← eb, f0, f1]
    rfl
open Go.ChangeShapes Go.WideShapes in
theorem open_acts {H : Type} {enc : TypeId × Value → H} {W : World} {fuel : Nat} {v : Value} {y : DataW H × List MemPlace}
    (hf : DataW.trod enc Try.prog W 0 (fun _ => true) true fuel 46 [v] = some y) : ∃ A n c xs, v = .slice A n c ∧ Acts W A n xs ∧ n ≤ c ∧ c ≤ maxLen := by
  rcases open_slice Try.underlying46 hf with h0 | ⟨a, len, cap, m, n, D, Pl, hcs, hb, hl, hm, hmm, hx, hi⟩
  · have hcs := h0.1
    simp at hcs
    exact ⟨none, 0, 0, [], hcs, ⟨rfl, fun i x h => by simp at h⟩, by omega, by simp [maxLen]⟩
  · simp at hcs
    simp at hmm
    have hc49 : Try.prog.cellsOf 49 = 12 := by kernel_rfl
    have key : ∀ i, i < len → ∃ x : ActD, ActD.Ok x ∧ ∃ b o, some a = some (⟨b, o, none⟩ : Addr) ∧ b < W.heap.size ∧ ActAt W b (o + i * 12) x := by
      intro i hlt
      obtain ⟨cs', hc, ht'⟩ := hi i (by omega)
      rw [hc49] at hc
      obtain ⟨x, hxo, rfl⟩ := open_act ht'
      obtain ⟨_, hcl, hat⟩ := World.cells?_some hc
      obtain ⟨b, o, sp⟩ := a
      obtain rfl : sp = none := by
        obtain ⟨cs0, hc0, ht0⟩ := hi 0 (by omega)
        rw [hc49] at hc0
        obtain ⟨x0, _, rfl⟩ := open_act ht0
        have h00 : W.cell? ((({ block := b, off := o, spot := sp } : Addr).add (0 * 12)).add 0) = some (.int .i64 x0.what) := (World.cells?_some hc0).2.2 0 (by decide)
        simpa [Addr.add] using World.cell?_spot h00
      have hat' : ∀ j (hj : j < 12), W.cell? ⟨b, o + i * 12 + j, none⟩ = ([Value.int .i64 x.what, .int .u64 x.id] ++ x.a.cells ++ x.b.cells)[j]? := fun j hj => by
        have := hat j hj
        simpa [Go.WideShapes.add_plain] using this
      exact ⟨x, hxo, b, o, rfl, World.block_lt_of_cell? W _ (hat' 0 (by decide)), ⟨hat' 0 (by decide), hat' 1 (by decide), hat' 2 (by decide), hat' 3 (by decide), hat' 4 (by decide), hat' 5 (by decide), hat' 6 (by decide), hat' 7 (by decide), hat' 8 (by decide), hat' 9 (by decide), hat' 10 (by decide), hat' 11 (by decide)⟩⟩
    obtain ⟨xs, hxl, hxq⟩ := collect len key
    exact ⟨some a, len, cap, xs, hcs, ⟨hxl, hxq⟩, hl, hm⟩
theorem open_acts_arg {H : Type} {enc : TypeId × Value → H} {W : World} {A : Option Addr} {n c : Nat} {d : DataW H} {p : List MemPlace}
    (h : DataW.Trod enc Try.prog W 0 (fun _ => true) true 46 (.slice A n c) d p) : ∃ xs, Acts W A n xs ∧ n ≤ c ∧ c ≤ maxLen := by
  obtain ⟨fuel, hf⟩ := h
  obtain ⟨A', n', c', xs, hv, q⟩ := open_acts hf
  injection hv with e1 e2 e3
  subst e1 e2 e3
  exact ⟨xs, q⟩
end Go.Proofs.Ytdpomneoiagpiaa
