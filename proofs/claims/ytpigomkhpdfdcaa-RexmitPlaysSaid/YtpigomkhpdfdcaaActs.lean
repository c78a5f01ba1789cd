/- Rows of calls, as arguments. -/
import Derived.Test.YtpigomkhpdfdcaaCheck
import Derived.Deep.Slices
import Derived.Deep.Fields
import Derived.ChangeSame
set_option linter.unusedVariables false
namespace Go.Proofs.Ytpigomkhpdfdcaa
open Go.RowKit Go.Deep Go.BigFrame
/-- A call. -/
structure ActD where
  what : Int
  dA : Option Addr
  dn : Nat
  dc : Nat
  data : List Int
  mss : Int
  n : Int
  win : Int
  now : Int
/-- A call, as it lies at an address. -/
def ActAt (w : World) (b o : Nat) (x : ActD) : Prop :=
  w.cell? ⟨b, o, none⟩ = some (.int .i64 x.what) ∧ w.cell? ⟨b, o + 1, none⟩ = some (.slice x.dA x.dn x.dc) ∧ w.cell? ⟨b, o + 2, none⟩ = some (.int .i64 x.mss) ∧
  w.cell? ⟨b, o + 3, none⟩ = some (.int .u32 x.n) ∧ w.cell? ⟨b, o + 4, none⟩ = some (.int .u32 x.win) ∧ w.cell? ⟨b, o + 5, none⟩ = some (.int .u64 x.now)
structure ActD.Ok (w : World) (x : ActD) : Prop where
  byt : Byt w (.slice x.dA x.dn x.dc) x.data
  len : x.data.length = x.dn
  byte : ∀ y ∈ x.data, 0 ≤ y ∧ y ≤ 255
  n0 : 0 ≤ x.n
  n1 : x.n ≤ 4294967295
  win0 : 0 ≤ x.win
  win1 : x.win ≤ 4294967295
  now0 : 0 ≤ x.now
  now1 : x.now ≤ 18446744073709551615
/-- A slice of calls. -/
def Acts (w : World) (A : Option Addr) (n : Nat) (xs : List ActD) : Prop :=
  xs.length = n ∧ ∀ i x, xs[i]? = some x → ActD.Ok w x ∧ ∃ b o, A = some ⟨b, o, none⟩ ∧ b < w.heap.size ∧ ActAt w b (o + i * 6) x
theorem ActAt.below {w w' : World} {b o : Nat} {x : ActD} (h : ActAt w b o x) (hb : Below w.heap.size w w') (hl : b < w.heap.size) : ActAt w' b o x := by
  obtain ⟨h0, h1, h2, h3, h4, h5⟩ := h
  exact ⟨(hb.cell (p := ⟨b, o, none⟩) hl).trans h0, (hb.cell (p := ⟨b, o + 1, none⟩) hl).trans h1, (hb.cell (p := ⟨b, o + 2, none⟩) hl).trans h2, (hb.cell (p := ⟨b, o + 3, none⟩) hl).trans h3, (hb.cell (p := ⟨b, o + 4, none⟩) hl).trans h4, (hb.cell (p := ⟨b, o + 5, none⟩) hl).trans h5⟩
open Go.ChangeShapes Go.WideShapes in
/-- An argument that is a slice of structs of one-cell fields. -/
theorem open_slice_fields {H : Type} {enc : TypeId × Value → H} {P : Program} {w : World} {base : Nat} {spare : Nat → Bool} {held : Bool} {t e : TypeId} {fs : Array Field} {fuel : Nat} {cs : List Value} {x : DataW H × List MemPlace} (ht : P.underlying t = some (.slice e)) (he : P.underlying e = some (.struct fs))
    (hone : oneCellFields P fs = true) (hC : P.cellsOf e = fs.size) (h : DataW.trod enc P w base spare held fuel t cs = some x) :
    (cs = [.slice none 0 0]) ∨
    ∃ (a : Addr) (len cap m : Nat), cs = [.slice (some a) len cap] ∧ len ≤ cap ∧ cap ≤ maxLen ∧ m = (if spare a.block then cap else len) ∧
      ∀ i, i < m → ∃ (ys : List (DataW H × List MemPlace)) (n : Nat),
        ∀ (j : Nat) (f : Field), fs[j]? = some f → ∃ (v : Value) (y : DataW H × List MemPlace), w.cell? (a.add (i * fs.size + j)) = some v ∧ ys[j]? = some y ∧ DataW.trod enc P w base spare held n f.type [v] = some y := by
  rcases open_slice ht h with h0 | ⟨a, len, cap, m, n, D, Pl, hcs, hb, hl, hm, hmm, hx, hi⟩
  · exact .inl h0.1
  · refine .inr ⟨a, len, cap, m, hcs, hl, hm, hmm, fun i him => ?_⟩
    obtain ⟨cs', hc, ht'⟩ := hi i him
    rw [hC] at hc
    obtain ⟨ys, n', hn', hy, hlen, hyl, hf⟩ := DataW.trod_struct he ht'
    obtain ⟨_, hcl, hat⟩ := World.cells?_some hc
    refine ⟨ys, n', fun j f hj => ?_⟩
    obtain ⟨ho, hk⟩ := hone_of hone j f hj
    have hjl : j < fs.size := (Array.getElem?_eq_some_iff.1 hj).1
    have hcell := hat j hjl
    have hv : cs'[j]? = some (cs'[j]'(by omega)) := List.getElem?_eq_getElem (by omega)
    have h1 := hf j f hj
    rw [ho, hk] at h1
    have hone' : (cs'.drop j).take 1 = [cs'[j]'(by omega)] := by
      rw [List.drop_eq_getElem_cons (by omega)]
      rfl
    rw [hone'] at h1
    have hys : ys[j]? = some (ys[j]'(by omega)) := List.getElem?_eq_getElem (by omega)
    refine ⟨_, _, ?_, hys, h1.trans hys⟩
    rw [← Go.Deep.add_add, hcell, hv]
theorem collect {α : Type} {Q : Nat → α → Prop} : ∀ n : Nat, (∀ i, i < n → ∃ x, Q i x) → ∃ xs : List α, xs.length = n ∧ ∀ i x, xs[i]? = some x → Q i x
  | 0, _ => ⟨[], rfl, fun i x h => by simp at h⟩
  | n + 1, h => by
    obtain ⟨xs, hl, hq⟩ := collect n (fun i hi => h i (by omega))
    obtain ⟨y, hy⟩ := h n (by omega)
    refine ⟨xs ++ [y], by simp [hl], fun i x hx => ?_⟩
    rcases Nat.lt_or_ge i xs.length with hi | hi
    · rw [List.getElem?_append_left hi] at hx
      exact hq i x hx
    · rw [List.getElem?_append_right hi] at hx
      have : i = n := by
        rcases Nat.lt_or_ge (i - xs.length) 1 with h1 | h1
        · omega
        · rw [List.getElem?_eq_none (by simpa using h1)] at hx; cases hx
      subst this
      rw [hl, Nat.sub_self] at hx
      simp at hx
      subst hx
      exact hy
open Go.ChangeShapes Go.WideShapes in
theorem open_acts {H : Type} {enc : TypeId × Value → H} {W : World} {fuel : Nat} {v : Value} {y : DataW H × List MemPlace}
    (hf : DataW.trod enc Try.prog W 0 (fun _ => true) true fuel 52 [v] = some y) : ∃ A n c xs, v = .slice A n c ∧ Acts W A n xs ∧ n ≤ c ∧ c ≤ maxLen := by
  rcases open_slice_fields Try.underlying52 Try.underlying56 (by kernel_rfl) (by kernel_rfl) hf with hcs | ⟨a, len, cap, m, hcs, hl, hm, hmm, hi⟩
  · simp at hcs
    exact ⟨none, 0, 0, [], hcs, ⟨rfl, fun i x h => by simp at h⟩, by omega, by simp [maxLen]⟩
  · simp at hcs
    simp at hmm
    have key : ∀ i, i < len → ∃ x : ActD, ActD.Ok W x ∧ ∃ b o, some a = some (⟨b, o, none⟩ : Addr) ∧ b < W.heap.size ∧ ActAt W b (o + i * 6) x := by
      intro i hlt
      obtain ⟨ys, n, hj⟩ := hi i (by omega)
      obtain ⟨v0, y0, k0, _, t0⟩ := hj 0 _ rfl
      obtain ⟨v1, y1, k1, _, t1⟩ := hj 1 _ rfl
      obtain ⟨v2, y2, k2, _, t2⟩ := hj 2 _ rfl
      obtain ⟨v3, y3, k3, _, t3⟩ := hj 3 _ rfl
      obtain ⟨v4, y4, k4, _, t4⟩ := hj 4 _ rfl
      obtain ⟨v5, y5, k5, _, t5⟩ := hj 5 _ rfl
      obtain ⟨p0, e0, _, u0⟩ := DataW.trod_int Try.underlying3 t0
      obtain ⟨p2, e2, _, u2⟩ := DataW.trod_int Try.underlying3 t2
      obtain ⟨p3, e3, _, u3⟩ := DataW.trod_int Try.underlying22 t3
      obtain ⟨p4, e4, _, u4⟩ := DataW.trod_int Try.underlying22 t4
      obtain ⟨p5, e5, _, u5⟩ := DataW.trod_int Try.underlying23 t5
      simp only [List.cons.injEq, and_true] at e0 e2 e3 e4 e5
      subst e0 e2 e3 e4 e5
      obtain ⟨xs, hb, hby⟩ := open_byt t1
      obtain ⟨dA, dc, rfl, q1, q2, q3⟩ := hb
      obtain ⟨b, o, sp⟩ := a
      obtain rfl : sp = none := by
        obtain ⟨ys', n', hj'⟩ := hi 0 (by omega)
        obtain ⟨v', y', k', _, _⟩ := hj' 0 _ rfl
        simpa [Addr.add] using World.cell?_spot k'
      have hlt0 := World.block_lt_of_cell? W _ k0
      simp only [Go.WideShapes.add_plain] at k0 k1 k2 k3 k4 k5
      refine ⟨⟨p0, dA, xs.length, dc, xs, p2, p3, p4, p5⟩, ⟨⟨dA, dc, rfl, q1, q2, q3⟩, rfl, hby, (bd_u32 u3).1, (bd_u32 u3).2, (bd_u32 u4).1, (bd_u32 u4).2, (bd_u64 u5).1, (bd_u64 u5).2⟩, b, o, rfl, by simpa [Go.WideShapes.add_plain] using hlt0, ?_⟩
      exact ⟨k0, k1, k2, k3, k4, k5⟩
    obtain ⟨xs, hxl, hxq⟩ := collect len key
    exact ⟨some a, len, cap, xs, hcs, ⟨hxl, hxq⟩, hl, hm⟩
end Go.Proofs.Ytpigomkhpdfdcaa
