/- The argument of WheelPlays: a row of calls. -/
import Derived.Test.YtdebaoimhijnkaaOdLaw
import Derived.Deep.Fields
set_option linter.unusedVariables false
namespace Go.Proofs.Ytdebaoimhijnkaa
open Go.RowKit Go.Deep Go.BigFrame
set_option maxRecDepth 100000
structure OpD where
  what : Int
  id : Int
  t : Int
def OpD.cells (o : OpD) : List Value := [.int .i64 o.what, .int .u64 o.id, .int .u64 o.t]
def OpD.arr (o : OpD) : Array Value := #[.int .i64 o.what, .int .u64 o.id, .int .u64 o.t]
def OpD.Ok (o : OpD) : Prop := (Lit.int .i64 o.what).wf = true ∧ (Lit.int .u64 o.id).wf = true ∧ (Lit.int .u64 o.t).wf = true
structure OpAt (w : World) (b o : Nat) (f : OpD) : Prop where
  k0 : w.cell? ⟨b, o, none⟩ = some (.int .i64 f.what)
  k1 : w.cell? ⟨b, o + 1, none⟩ = some (.int .u64 f.id)
  k2 : w.cell? ⟨b, o + 2, none⟩ = some (.int .u64 f.t)
def OpsAt (w : World) (A : Option Addr) (L : List OpD) : Prop := ∀ (i : Nat) (f : OpD), L[i]? = some f → ∃ b o, A = some ⟨b, o, none⟩ ∧ b < w.heap.size ∧ OpAt w b (o + i * 3) f
theorem OpsAt.below {w w' : World} {A : Option Addr} {L : List OpD} (h : OpsAt w A L) (hb : Below w.heap.size w w') : OpsAt w' A L := by
  intro i f hf
  obtain ⟨b, o, e, hl, ha⟩ := h i f hf
  exact ⟨b, o, e, Nat.lt_of_lt_of_le hl hb.size, ⟨(hb.cell (p := ⟨b, _, none⟩) hl).trans ha.k0, (hb.cell (p := ⟨b, _, none⟩) hl).trans ha.k1, (hb.cell (p := ⟨b, _, none⟩) hl).trans ha.k2⟩⟩
theorem collect {α : Type} {Q : Nat → α → Prop} : ∀ n : Nat, (∀ i, i < n → ∃ x, Q i x) → ∃ xs : List α, xs.length = n ∧ ∀ i x, xs[i]? = some x → Q i x
  | 0, _ => ⟨[], rfl, fun i x h => by simp at h⟩
  | n + 1, h => by
    obtain ⟨xs, hl, hq⟩ := collect n (fun i hi => h i (by omega))
    obtain ⟨y, hy⟩ := h n (by omega)
    refine ⟨xs ++ [y], by simp [hl], fun i x hx => ?_⟩
    rcases Nat.lt_or_ge i xs.length with hi | hi
    · rw [List.getElem?_append_left hi] at hx
      exact hq i x hx
    · rw [List.getElem?_append_right hi] at hx
      have : i = n := by
        rcases Nat.lt_or_ge (i - xs.length) 1 with h1 | h1
        · omega
        · rw [List.getElem?_eq_none (by simpa using h1)] at hx; cases hx
      subst this
      rw [hl, Nat.sub_self] at hx
      simp at hx
      subst hx
      exact hy
open Go.ChangeShapes Go.WideShapes in
theorem open_op {H : Type} {enc : TypeId × Value → H} {W : World} {base fuel : Nat} {sp : Nat → Bool} {held : Bool} {cs : List Value} {y : DataW H × List MemPlace}
    (hf : DataW.trod enc Try.prog W base sp held fuel 31 cs = some y) : ∃ t : OpD, t.Ok ∧ cs = t.cells := by
  obtain ⟨ys, n', hn', hy, hlen, hyl, hq⟩ := DataW.trod_struct Try.underlying31 hf
  have hc : Try.prog.cellsOf 31 = 3 := by kernel_rfl
  rw [hc] at hlen
  have g : ∀ i, i < 3 → ∃ z, ys[i]? = some z := fun i hi => ⟨_, List.getElem?_eq_getElem (by rw [hyl]; exact hi)⟩
  obtain ⟨z0, g0⟩ := g 0 (by decide)
  obtain ⟨z1, g1⟩ := g 1 (by decide)
  obtain ⟨z2, g2⟩ := g 2 (by decide)
  have t0 := (hq 0 _ rfl).trans g0
  have t1 := (hq 1 _ rfl).trans g1
  have t2 := (hq 2 _ rfl).trans g2
  match cs, hlen with
  | [c0, c1, c2], _ =>
    obtain ⟨p0, e0, _, u0⟩ := DataW.trod_int Try.underlying3 t0
    have f0 : [c0] = [Value.int .i64 p0] := e0
    injection f0 with f0
    subst f0
    obtain ⟨p1, e1, _, u1⟩ := DataW.trod_int Try.underlying23 t1
    have f1 : [c1] = [Value.int .u64 p1] := e1
    injection f1 with f1
    subst f1
    obtain ⟨p2, e2, _, u2⟩ := DataW.trod_int Try.underlying23 t2
    have f2 : [c2] = [Value.int .u64 p2] := e2
    injection f2 with f2
    subst f2
    exact ⟨⟨p0, p1, p2⟩, ⟨u0, u1, u2⟩, rfl⟩
open Go.ChangeShapes Go.WideShapes in
theorem open_ops {H : Type} {enc : TypeId × Value → H} {W : World} {fuel : Nat} {v : Value} {y : DataW H × List MemPlace}
    (hf : DataW.trod enc Try.prog W 0 (fun _ => true) true fuel 22 [v] = some y) : ∃ A n c xs, v = .slice A n c ∧ xs.length = n ∧ OpsAt W A xs ∧ (∀ f ∈ xs, f.Ok) ∧ n ≤ c ∧ c ≤ maxLen := by
  rcases open_slice Try.underlying22 hf with h0 | ⟨a, len, cap, m, n, D, Pl, hcs, hb, hl, hm, hmm, hx, hi⟩
  · have hcs := h0.1
    simp at hcs
    exact ⟨none, 0, 0, [], hcs, rfl, fun i x h => by simp at h, fun f h => (by cases h), by omega, by simp [maxLen]⟩
  · simp at hcs
    simp at hmm
    have hc37 : Try.prog.cellsOf 31 = 3 := by kernel_rfl
    have key : ∀ i, i < len → ∃ x : OpD, OpD.Ok x ∧ ∃ b o, some a = some (⟨b, o, none⟩ : Addr) ∧ b < W.heap.size ∧ OpAt W b (o + i * 3) x := by
      intro i hlt
      obtain ⟨cs', hc, ht'⟩ := hi i (by omega)
      rw [hc37] at hc
      obtain ⟨x, hxo, rfl⟩ := open_op ht'
      obtain ⟨_, hcl, hat⟩ := World.cells?_some hc
      obtain ⟨b, o, sp⟩ := a
      obtain rfl : sp = none := by
        obtain ⟨cs0, hc0, ht0⟩ := hi 0 (by omega)
        rw [hc37] at hc0
        obtain ⟨x0, _, rfl⟩ := open_op ht0
        have h00 : W.cell? ((({ block := b, off := o, spot := sp } : Addr).add (0 * 3)).add 0) = some (.int .i64 x0.what) := (World.cells?_some hc0).2.2 0 (by decide)
        simpa [Addr.add] using World.cell?_spot h00
      have hat' : ∀ j (hj : j < 3), W.cell? ⟨b, o + i * 3 + j, none⟩ = x.cells[j]? := fun j hj => by
        have := hat j hj
        simpa [Go.WideShapes.add_plain] using this
      exact ⟨x, hxo, b, o, rfl, World.block_lt_of_cell? W _ (hat' 0 (by decide)), ⟨hat' 0 (by decide), hat' 1 (by decide), hat' 2 (by decide)⟩⟩
    obtain ⟨xs, hxl, hxq⟩ := collect len key
    refine ⟨some a, len, cap, xs, hcs, hxl, fun i f h => (hxq i f h).2, fun f h => ?_, hl, hm⟩
    obtain ⟨i, hi', e⟩ := List.getElem_of_mem h
    exact (hxq i f (by rw [List.getElem?_eq_getElem hi', e])).1
theorem open_ops_arg {H : Type} {enc : TypeId × Value → H} {W : World} {A : Option Addr} {n c : Nat} {d : DataW H} {p : List MemPlace}
    (h : DataW.Trod enc Try.prog W 0 (fun _ => true) true 22 (.slice A n c) d p) : ∃ xs, xs.length = n ∧ OpsAt W A xs ∧ (∀ f ∈ xs, f.Ok) ∧ n ≤ c ∧ c ≤ maxLen := by
  obtain ⟨fuel, hf⟩ := h
  obtain ⟨A', n', c', xs, hv, q⟩ := open_ops hf
  injection hv with e1 e2 e3
  subst e1 e2 e3
  exact ⟨xs, q⟩
/-- Either wheel's Set, whatever the instant. -/
def setR (s : WS) (id t : Int) : WS := if t ≤ 1099511627776 then setS s id t else s
def setC (t : Int) : Int := if t ≤ 1099511627776 then 0 else 1
theorem set_all {w : World} {g b nn : Nat} {s : WS} (h : Wh w g b nn s) (id t : Int) (hid : (Lit.int .u64 id).wf = true) (ht : (Lit.int .u64 t).wf = true) (hnn : nn ≤ 900) :
    Calls Try.prog 9 #[.pointer (some ⟨g, 0, none⟩), .int .u64 id, .int .u64 t] w fun e w' => e = .returned (.int .i64 (setC t)) ∧ Wh w' g b (nn + 1) (setR s id t) ∧ Turns (Two g b) w w' := by
  unfold setC setR
  by_cases q : t ≤ 1099511627776
  · rw [if_pos q, if_pos q]
    exact set_ok h id t hid (bd_u64 ht).1 q hnn
  · rw [if_neg q, if_neg q]
    exact (set_arg h id t (by omega)).mono fun e w' ⟨h1, h2⟩ => by
      subst h2
      exact ⟨h1, ⟨h.heap, ⟨by obtain ⟨D, ⟨es, ck, h3, h4, h5, h6⟩, h7⟩ := h.map.own; exact ⟨D, ⟨es, ck, h3, h4, Nat.le_succ_of_le h5, h6⟩, h7⟩⟩, h.ok, Nat.le_succ_of_le h.len⟩, Turns.refl _ _⟩
theorem rset_all {w : World} {r : Nat} {s : WS} (h : Rw w r s) (hok : s.Ok) (hl : s.L.length ≤ 1000) (id t : Int) :
    Calls Try.prog 10 #[.pointer (some ⟨r, 0, none⟩), .int .u64 id, .int .u64 t] w fun e w' => e = .returned (.int .i64 (setC t)) ∧ Rw w' r (setR s id t) ∧ Turns (One r) w w' := by
  unfold setC setR
  by_cases q : t ≤ 1099511627776
  · rw [if_pos q, if_pos q]
    exact rset_ok h hok hl id t q
  · rw [if_neg q, if_neg q]
    exact (rset_arg id t (by omega)).mono fun e w' ⟨h1, h2⟩ => by
      subst h2
      exact ⟨h1, h, Turns.refl _ _⟩
/-- Either wheel's Tick, whatever the instant. -/
def tickOk (s : WS) (now : Int) : Prop := s.now ≤ now ∧ now ≤ 1099511627776
instance (s : WS) (now : Int) : Decidable (tickOk s now) := by unfold tickOk; infer_instance
def tickR (s : WS) (now : Int) : WS := if tickOk s now then tickS s now else s
def tickI (s : WS) (now : Int) : List Int := if tickOk s now then (dueL s.L now).map Al.id else []
def tickC (s : WS) (now : Int) : Int := if tickOk s now then 0 else 1
theorem tick_all {w : World} {g b nn : Nat} {s : WS} (h : Wh w g b nn s) (now : Int) (hnn : nn ≤ 900) :
    Calls Try.prog 13 #[.pointer (some ⟨g, 0, none⟩), .int .u64 now] w fun e w' => ∃ A c, e = .returned (.tuple #[.slice A (tickI s now).length c, .int .i64 (tickC s now)]) ∧ w'.ownsRow 0 23 1 (.slice A (tickI s now).length c) (tickI s now).length (rowU (tickI s now)) ∧ Wh w' g b nn (tickR s now) ∧ Turns (Two g b) w w' := by
  unfold tickI tickC tickR
  by_cases q : tickOk s now
  · rw [if_pos q, if_pos q, if_pos q]
    refine (tick_ok h now q.1 q.2 hnn).mono ?_
    rintro e w' ⟨A, c, h1, h2, h3, h4⟩
    exact ⟨A, c, by rw [List.length_map]; exact h1, by rw [List.length_map]; exact own_up h2, h3, h4⟩
  · rw [if_neg q, if_neg q, if_neg q]
    refine (tick_arg h now (by unfold tickOk at q; omega)).mono ?_
    rintro e w' ⟨h1, h2⟩
    subst h2
    exact ⟨none, 0, h1, World.ownsRow_nil _ _ _ _, h, Turns.refl _ _⟩
theorem rtick_all {w : World} {r : Nat} {s : WS} (h : Rw w r s) (hok : s.Ok) (hl : s.L.length ≤ 1000) (now : Int) :
    Calls Try.prog 14 #[.pointer (some ⟨r, 0, none⟩), .int .u64 now] w fun e w' => ∃ A c, e = .returned (.tuple #[.slice A (tickI s now).length c, .int .i64 (tickC s now)]) ∧ w'.ownsRow 0 23 1 (.slice A (tickI s now).length c) (tickI s now).length (rowU (tickI s now)) ∧ Rw w' r (tickR s now) ∧ Turns (One r) w w' := by
  unfold tickI tickC tickR
  by_cases q : tickOk s now
  · rw [if_pos q, if_pos q, if_pos q]
    refine (rtick_ok h hok hl now q.1 q.2).mono ?_
    rintro e w' ⟨A, c, h1, h2, h3, h4⟩
    exact ⟨A, c, by rw [List.length_map]; exact h1, by rw [List.length_map]; exact own_up h2, h3, h4⟩
  · rw [if_neg q, if_neg q, if_neg q]
    refine (rtick_arg h now (by unfold tickOk at q; omega)).mono ?_
    rintro e w' ⟨h1, h2⟩
    subst h2
    exact ⟨none, 0, h1, World.ownsRow_nil _ _ _ _, h, Turns.refl _ _⟩
/-- A row of ids stays where the document's wheel turns. -/
theorem own_ref {w w' : World} {r : Nat} {s : WS} {B e z n c m : Nat} {A : Option Addr} {xs : List Value} (h : Rw w r s) (hT : Turns (One r) w w') (he : e ≠ 29) (ho : w.ownsRow B e z (.slice A n c) m xs) : w'.ownsRow B e z (.slice A n c) m xs := by
  refine row_keptE ho fun j ej => ?_
  obtain ⟨hl, cs, fr, hc⟩ := row_lt ho ej
  obtain ⟨A1, c1, h1, _⟩ := h.heap
  refine hT.block j hl ?_
  intro q
  have q : j = r := q
  subst q
  rw [h1] at hc
  injection hc with hc
  injection hc with _ hc _
  exact he hc.symm
/-- Both wheels, in one state. -/
structure Bo (w : World) (g b r nn : Nat) (s : WS) (W : World) : Prop where
  bel : Below w.heap.size w W
  wh : Wh W g b nn s
  rw' : Rw W r s
theorem Bo.below {w W W' : World} {g b r nn : Nat} {s : WS} (h : Bo w g b r nn s W) (hb : Below W.heap.size W W') : Bo w g b r nn s W' := ⟨h.bel.trans (hb.mono h.bel.size), h.wh.below hb, h.rw'.below hb⟩
theorem below_one {w W W' : World} {r : Nat} (h : Below w.heap.size w W) (ht : Turns (One r) W W') (hr : w.heap.size ≤ r) : Below w.heap.size w W' :=
  ⟨ht.os.trans h.os, ht.tape.trans h.tape, ht.output.trans h.output, Nat.le_trans h.size ht.size, fun k hk => (ht.block k (Nat.lt_of_lt_of_le hk h.size) (by intro e; have e : k = r := e; omega)).trans (h.block k hk)⟩
end Go.Proofs.Ytdebaoimhijnkaa
