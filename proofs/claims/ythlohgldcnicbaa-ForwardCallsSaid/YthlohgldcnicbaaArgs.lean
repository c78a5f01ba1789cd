/- The laws' arguments: a configuration, a list of forwards, a tuple. -/
import Derived.Test.YthlohgldcnicbaaMisc
import Derived.Deep.Slices
import Derived.Deep.Fields
import Derived.ChangeSame
set_option linter.unusedVariables false
namespace Go.Proofs.Ythlohgldcnicbaa
open Go.RowKit Go.Deep Go.BigFrame
set_option maxRecDepth 100000
theorem collect {α : Type} {Q : Nat → α → Prop} : ∀ n : Nat, (∀ i, i < n → ∃ x, Q i x) → ∃ xs : List α, xs.length = n ∧ ∀ i x, xs[i]? = some x → Q i x
  | 0, _ => ⟨[], rfl, fun i x h => by simp at h⟩
  | n + 1, h => by
    obtain ⟨xs, hl, hq⟩ := collect n (fun i hi => h i (by omega))
    obtain ⟨y, hy⟩ := h n (by omega)
    refine ⟨xs ++ [y], by simp [hl], fun i x hx => ?_⟩
    rcases Nat.lt_or_ge i xs.length with hi | hi
    · rw [List.getElem?_append_left hi] at hx
      exact hq i x hx
    · rw [List.getElem?_append_right hi] at hx
      have : i = n := by
        rcases Nat.lt_or_ge (i - xs.length) 1 with h1 | h1
        · omega
        · rw [List.getElem?_eq_none (by simpa using h1)] at hx; cases hx
      subst this
      rw [hl, Nat.sub_self] at hx
      simp at hx
      subst hx
      exact hy
open Go.ChangeShapes Go.WideShapes in
theorem slice_cell {H : Type} {enc : TypeId × Value → H} {W : World} {base fuel : Nat} {sp : Nat → Bool} {held : Bool} {cs : List Value} {y : DataW H × List MemPlace} {t e : TypeId} (ht : Try.prog.underlying t = some (.slice e))
    (hf : DataW.trod enc Try.prog W base sp held fuel t cs = some y) : ∃ a n c, cs = [.slice a n c] := by
  rcases open_slice ht hf with h0 | ⟨a, len, cap, m, n, D, Pl, hcs, _⟩
  · exact ⟨none, 0, 0, h0.1⟩
  · exact ⟨some a, len, cap, hcs⟩
open Go.ChangeShapes Go.WideShapes in
theorem open_tup {H : Type} {enc : TypeId × Value → H} {W : World} {base fuel : Nat} {sp : Nat → Bool} {held : Bool} {cs : List Value} {y : DataW H × List MemPlace}
    (hf : DataW.trod enc Try.prog W base sp held fuel 44 cs = some y) : ∃ t : Tup, t.Ok ∧ cs = t.arr.toList := by
  obtain ⟨ys, n', hn', hy, hlen, hyl, hq⟩ := DataW.trod_struct Try.underlying44 hf
  have hc : Try.prog.cellsOf 44 = 5 := by kernel_rfl
  rw [hc] at hlen
  have g : ∀ i, i < 5 → ∃ z, ys[i]? = some z := fun i hi => ⟨_, List.getElem?_eq_getElem (by rw [hyl]; exact hi)⟩
  obtain ⟨z0, g0⟩ := g 0 (by decide)
  obtain ⟨z1, g1⟩ := g 1 (by decide)
  obtain ⟨z2, g2⟩ := g 2 (by decide)
  obtain ⟨z3, g3⟩ := g 3 (by decide)
  obtain ⟨z4, g4⟩ := g 4 (by decide)
  have t0 := (hq 0 _ rfl).trans g0
  have t1 := (hq 1 _ rfl).trans g1
  have t2 := (hq 2 _ rfl).trans g2
  have t3 := (hq 3 _ rfl).trans g3
  have t4 := (hq 4 _ rfl).trans g4
  match cs, hlen with
  | [c0, c1, c2, c3, c4], _ =>
    obtain ⟨p0, e0, _, u0⟩ := DataW.trod_int Try.underlying5 t0
    have f0 : [c0] = [Value.int .u8 p0] := e0
    injection f0 with f0
    subst f0
    obtain ⟨p1, e1, _, u1⟩ := DataW.trod_int Try.underlying22 t1
    have f1 : [c1] = [Value.int .u32 p1] := e1
    injection f1 with f1
    subst f1
    obtain ⟨p2, e2, _, u2⟩ := DataW.trod_int Try.underlying22 t2
    have f2 : [c2] = [Value.int .u32 p2] := e2
    injection f2 with f2
    subst f2
    obtain ⟨p3, e3, _, u3⟩ := DataW.trod_int Try.underlying23 t3
    have f3 : [c3] = [Value.int .u16 p3] := e3
    injection f3 with f3
    subst f3
    obtain ⟨p4, e4, _, u4⟩ := DataW.trod_int Try.underlying23 t4
    have f4 : [c4] = [Value.int .u16 p4] := e4
    injection f4 with f4
    subst f4
    exact ⟨⟨p0, p1, p2, p3, p4⟩, ⟨u0, u1, u2, u3, u4⟩, rfl⟩
open Go.ChangeShapes Go.WideShapes in
theorem open_fw {H : Type} {enc : TypeId × Value → H} {W : World} {base fuel : Nat} {sp : Nat → Bool} {held : Bool} {cs : List Value} {y : DataW H × List MemPlace}
    (hf : DataW.trod enc Try.prog W base sp held fuel 37 cs = some y) : ∃ t : Fw, t.Ok ∧ cs = t.cells := by
  obtain ⟨ys, n', hn', hy, hlen, hyl, hq⟩ := DataW.trod_struct Try.underlying37 hf
  have hc : Try.prog.cellsOf 37 = 4 := by kernel_rfl
  rw [hc] at hlen
  have g : ∀ i, i < 4 → ∃ z, ys[i]? = some z := fun i hi => ⟨_, List.getElem?_eq_getElem (by rw [hyl]; exact hi)⟩
  obtain ⟨z0, g0⟩ := g 0 (by decide)
  obtain ⟨z1, g1⟩ := g 1 (by decide)
  obtain ⟨z2, g2⟩ := g 2 (by decide)
  obtain ⟨z3, g3⟩ := g 3 (by decide)
  have t0 := (hq 0 _ rfl).trans g0
  have t1 := (hq 1 _ rfl).trans g1
  have t2 := (hq 2 _ rfl).trans g2
  have t3 := (hq 3 _ rfl).trans g3
  match cs, hlen with
  | [c0, c1, c2, c3], _ =>
    obtain ⟨p0, e0, _, u0⟩ := DataW.trod_int Try.underlying5 t0
    have f0 : [c0] = [Value.int .u8 p0] := e0
    injection f0 with f0
    subst f0
    obtain ⟨p1, e1, _, u1⟩ := DataW.trod_int Try.underlying23 t1
    have f1 : [c1] = [Value.int .u16 p1] := e1
    injection f1 with f1
    subst f1
    obtain ⟨p2, e2, _, u2⟩ := DataW.trod_int Try.underlying22 t2
    have f2 : [c2] = [Value.int .u32 p2] := e2
    injection f2 with f2
    subst f2
    obtain ⟨p3, e3, _, u3⟩ := DataW.trod_int Try.underlying23 t3
    have f3 : [c3] = [Value.int .u16 p3] := e3
    injection f3 with f3
    subst f3
    exact ⟨⟨p0, p1, p2, p3⟩, ⟨u0, u1, u2, u3⟩, rfl⟩
set_option maxHeartbeats 1600000 in
open Go.ChangeShapes Go.WideShapes in
theorem open_cfg {H : Type} {enc : TypeId × Value → H} {W : World} {base fuel : Nat} {sp : Nat → Bool} {held : Bool} {cs : List Value} {y : DataW H × List MemPlace}
    (hf : DataW.trod enc Try.prog W base sp held fuel 29 cs = some y) : ∃ c : Cfg, c.Ok ∧ cs = c.arr.toList := by
  obtain ⟨ys, n', hn', hy, hlen, hyl, hq⟩ := DataW.trod_struct Try.underlying29 hf
  have hc : Try.prog.cellsOf 29 = 19 := by kernel_rfl
  rw [hc] at hlen
  have g : ∀ i, i < 19 → ∃ z, ys[i]? = some z := fun i hi => ⟨_, List.getElem?_eq_getElem (by rw [hyl]; exact hi)⟩
  obtain ⟨z0, g0⟩ := g 0 (by decide)
  obtain ⟨z1, g1⟩ := g 1 (by decide)
  obtain ⟨z2, g2⟩ := g 2 (by decide)
  obtain ⟨z3, g3⟩ := g 3 (by decide)
  obtain ⟨z4, g4⟩ := g 4 (by decide)
  obtain ⟨z5, g5⟩ := g 5 (by decide)
  obtain ⟨z6, g6⟩ := g 6 (by decide)
  obtain ⟨z7, g7⟩ := g 7 (by decide)
  obtain ⟨z8, g8⟩ := g 8 (by decide)
  obtain ⟨z9, g9⟩ := g 9 (by decide)
  obtain ⟨z10, g10⟩ := g 10 (by decide)
  obtain ⟨z11, g11⟩ := g 11 (by decide)
  obtain ⟨z12, g12⟩ := g 12 (by decide)
  obtain ⟨z13, g13⟩ := g 13 (by decide)
  obtain ⟨z14, g14⟩ := g 14 (by decide)
  obtain ⟨z15, g15⟩ := g 15 (by decide)
  obtain ⟨z16, g16⟩ := g 16 (by decide)
  obtain ⟨z17, g17⟩ := g 17 (by decide)
  obtain ⟨z18, g18⟩ := g 18 (by decide)
  have t0 := (hq 0 _ rfl).trans g0
  have t1 := (hq 1 _ rfl).trans g1
  have t2 := (hq 2 _ rfl).trans g2
  have t3 := (hq 3 _ rfl).trans g3
  have t4 := (hq 4 _ rfl).trans g4
  have t5 := (hq 5 _ rfl).trans g5
  have t6 := (hq 6 _ rfl).trans g6
  have t7 := (hq 7 _ rfl).trans g7
  have t8 := (hq 8 _ rfl).trans g8
  have t9 := (hq 9 _ rfl).trans g9
  have t10 := (hq 10 _ rfl).trans g10
  have t11 := (hq 11 _ rfl).trans g11
  have t12 := (hq 12 _ rfl).trans g12
  have t13 := (hq 13 _ rfl).trans g13
  have t14 := (hq 14 _ rfl).trans g14
  have t15 := (hq 15 _ rfl).trans g15
  have t16 := (hq 16 _ rfl).trans g16
  have t17 := (hq 17 _ rfl).trans g17
  have t18 := (hq 18 _ rfl).trans g18
  match cs, hlen with
  | [c0, c1, c2, c3, c4, c5, c6, c7, c8, c9, c10, c11, c12, c13, c14, c15, c16, c17, c18], _ =>
    obtain ⟨p0, e0, _, u0⟩ := DataW.trod_int Try.underlying22 t0
    have f0 : [c0] = [Value.int .u32 p0] := e0
    injection f0 with f0
    subst f0
    obtain ⟨p1, e1, _, u1⟩ := DataW.trod_int Try.underlying22 t1
    have f1 : [c1] = [Value.int .u32 p1] := e1
    injection f1 with f1
    subst f1
    obtain ⟨p2, e2, _, u2⟩ := DataW.trod_int Try.underlying22 t2
    have f2 : [c2] = [Value.int .u32 p2] := e2
    injection f2 with f2
    subst f2
    obtain ⟨p3, e3, _, u3⟩ := DataW.trod_int Try.underlying23 t3
    have f3 : [c3] = [Value.int .u16 p3] := e3
    injection f3 with f3
    subst f3
    obtain ⟨p4, e4, _, u4⟩ := DataW.trod_int Try.underlying23 t4
    have f4 : [c4] = [Value.int .u16 p4] := e4
    injection f4 with f4
    subst f4
    obtain ⟨p5, e5, _, u5⟩ := DataW.trod_int Try.underlying24 t5
    have f5 : [c5] = [Value.int .u64 p5] := e5
    injection f5 with f5
    subst f5
    obtain ⟨p6, e6, _, u6⟩ := DataW.trod_int Try.underlying3 t6
    have f6 : [c6] = [Value.int .i64 p6] := e6
    injection f6 with f6
    subst f6
    obtain ⟨a7, l7, k7, f7⟩ := slice_cell Try.underlying25 t7
    have f7 : [c7] = [Value.slice a7 l7 k7] := f7
    injection f7 with f7
    subst f7
    obtain ⟨p8, e8, _, u8⟩ := DataW.trod_int Try.underlying3 t8
    have f8 : [c8] = [Value.int .i64 p8] := e8
    injection f8 with f8
    subst f8
    obtain ⟨p9, e9, _, u9⟩ := DataW.trod_int Try.underlying23 t9
    have f9 : [c9] = [Value.int .u16 p9] := e9
    injection f9 with f9
    subst f9
    obtain ⟨p10, e10, _, u10⟩ := DataW.trod_int Try.underlying3 t10
    have f10 : [c10] = [Value.int .i64 p10] := e10
    injection f10 with f10
    subst f10
    obtain ⟨p11, e11, _⟩ := DataW.trod_bool Try.underlying4 t11
    have f11 : [c11] = [Value.bool p11] := e11
    injection f11 with f11
    subst f11
    obtain ⟨p12, e12, _, u12⟩ := DataW.trod_int Try.underlying24 t12
    have f12 : [c12] = [Value.int .u64 p12] := e12
    injection f12 with f12
    subst f12
    obtain ⟨a13, l13, k13, f13⟩ := slice_cell Try.underlying26 t13
    have f13 : [c13] = [Value.slice a13 l13 k13] := f13
    injection f13 with f13
    subst f13
    obtain ⟨a14, l14, k14, f14⟩ := slice_cell Try.underlying27 t14
    have f14 : [c14] = [Value.slice a14 l14 k14] := f14
    injection f14 with f14
    subst f14
    obtain ⟨p15, e15, _, u15⟩ := DataW.trod_int Try.underlying24 t15
    have f15 : [c15] = [Value.int .u64 p15] := e15
    injection f15 with f15
    subst f15
    obtain ⟨p16, e16, _, u16⟩ := DataW.trod_int Try.underlying3 t16
    have f16 : [c16] = [Value.int .i64 p16] := e16
    injection f16 with f16
    subst f16
    obtain ⟨p17, e17, _, u17⟩ := DataW.trod_int Try.underlying24 t17
    have f17 : [c17] = [Value.int .u64 p17] := e17
    injection f17 with f17
    subst f17
    obtain ⟨p18, e18, _, u18⟩ := DataW.trod_int Try.underlying24 t18
    have f18 : [c18] = [Value.int .u64 p18] := e18
    injection f18 with f18
    subst f18
    exact ⟨⟨p0, p1, p2, p3, p4, p5, p6, a7, l7, k7, p8, p9, p10, p11, p12, a13, l13, k13, a14, l14, k14, p15, p16, p17, p18⟩, ⟨u0, u1⟩, rfl⟩
open Go.ChangeShapes Go.WideShapes in
theorem open_fws {H : Type} {enc : TypeId × Value → H} {W : World} {fuel : Nat} {v : Value} {y : DataW H × List MemPlace}
    (hf : DataW.trod enc Try.prog W 0 (fun _ => true) true fuel 27 [v] = some y) : ∃ A n c xs, v = .slice A n c ∧ xs.length = n ∧ FwsAt W A xs ∧ (∀ f ∈ xs, f.Ok) ∧ n ≤ c ∧ c ≤ maxLen := by
  rcases open_slice Try.underlying27 hf with h0 | ⟨a, len, cap, m, n, D, Pl, hcs, hb, hl, hm, hmm, hx, hi⟩
  · have hcs := h0.1
    simp at hcs
    exact ⟨none, 0, 0, [], hcs, rfl, fun i x h => by simp at h, fun f h => (by cases h), by omega, by simp [maxLen]⟩
  · simp at hcs
    simp at hmm
    have hc37 : Try.prog.cellsOf 37 = 4 := by kernel_rfl
    have key : ∀ i, i < len → ∃ x : Fw, Fw.Ok x ∧ ∃ b o, some a = some (⟨b, o, none⟩ : Addr) ∧ b < W.heap.size ∧ FwAt W b (o + i * 4) x := by
      intro i hlt
      obtain ⟨cs', hc, ht'⟩ := hi i (by omega)
      rw [hc37] at hc
      obtain ⟨x, hxo, rfl⟩ := open_fw ht'
      obtain ⟨_, hcl, hat⟩ := World.cells?_some hc
      obtain ⟨b, o, sp⟩ := a
      obtain rfl : sp = none := by
        obtain ⟨cs0, hc0, ht0⟩ := hi 0 (by omega)
        rw [hc37] at hc0
        obtain ⟨x0, _, rfl⟩ := open_fw ht0
        have h00 : W.cell? ((({ block := b, off := o, spot := sp } : Addr).add (0 * 4)).add 0) = some (.int .u8 x0.proto) := (World.cells?_some hc0).2.2 0 (by decide)
        simpa [Addr.add] using World.cell?_spot h00
      have hat' : ∀ j (hj : j < 4), W.cell? ⟨b, o + i * 4 + j, none⟩ = x.cells[j]? := fun j hj => by
        have := hat j hj
        simpa [Go.WideShapes.add_plain] using this
      exact ⟨x, hxo, b, o, rfl, World.block_lt_of_cell? W _ (hat' 0 (by decide)), ⟨hat' 0 (by decide), hat' 1 (by decide), hat' 2 (by decide), hat' 3 (by decide)⟩⟩
    obtain ⟨xs, hxl, hxq⟩ := collect len key
    refine ⟨some a, len, cap, xs, hcs, hxl, fun i f h => (hxq i f h).2, fun f h => ?_, hl, hm⟩
    obtain ⟨i, hi', e⟩ := List.getElem_of_mem h
    exact (hxq i f (by rw [List.getElem?_eq_getElem hi', e])).1
theorem open_fws_arg {H : Type} {enc : TypeId × Value → H} {W : World} {A : Option Addr} {n c : Nat} {d : DataW H} {p : List MemPlace}
    (h : DataW.Trod enc Try.prog W 0 (fun _ => true) true 27 (.slice A n c) d p) : ∃ xs, xs.length = n ∧ FwsAt W A xs ∧ (∀ f ∈ xs, f.Ok) ∧ n ≤ c ∧ c ≤ maxLen := by
  obtain ⟨fuel, hf⟩ := h
  obtain ⟨A', n', c', xs, hv, q⟩ := open_fws hf
  injection hv with e1 e2 e3
  subst e1 e2 e3
  exact ⟨xs, q⟩
end Go.Proofs.Ythlohgldcnicbaa
