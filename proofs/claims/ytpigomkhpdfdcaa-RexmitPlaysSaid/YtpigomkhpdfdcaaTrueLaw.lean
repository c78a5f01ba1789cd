/- What RexmitTrue keeps, and what each call does to it. -/
import Derived.Test.YtpigomkhpdfdcaaQuiet2
import Derived.Test.YtpigomkhpdfdcaaFit
set_option linter.unusedVariables false
namespace Go.Proofs.Ytpigomkhpdfdcaa
open Go.RowKit Go.Deep Go.BigFrame

/-- Bytes do not lie in a block of one cell of another kind. -/
theorem Byt.off {w : World} {A : Option Addr} {n c : Nat} {xs : List Int} (hy : Byt w (.slice A n c) xs) {k : Nat} {v : Value} {ty : TypeId} (h : w.heap[k]? = some (.cells #[v] ty (0, 0))) (hv : ∀ x, v ≠ .int .u8 x) :
    ∀ b, (Value.slice A n c).ownBlock = some b → 0 < n → b ≠ k := by
  intro b hbl hp e
  subst e
  obtain ⟨A', c', hv', _, _, h3⟩ := hy
  injection hv' with q1 q2 q3
  subst q1 q2
  obtain ⟨b', o', rfl, hl, hc⟩ := h3 hp
  simp [Value.ownBlock] at hbl
  subst hbl
  have h0 := hc 0 hp
  rw [cell_of h] at h0
  match o', h0 with
  | 0, h0 => simp at h0; exact hv _ h0
  | n + 1, h0 => simp at h0
/-- What stands at each step: the buffer g, what was written (b7), how much of it is acknowledged (b8) and was sent (b9). -/
structure Tu (W0 : World) (BL bx b7 b8 b9 g : Nat) (AT : Int) (w : World) (a t n : Nat) (ws : List Int) (vW : Value) (s : St) (A : Option Addr) (c : Nat) : Prop where
  len : ws.length = n
  le1 : a ≤ t
  le2 : t ≤ n
  byte : ∀ x ∈ ws, 0 ≤ x ∧ x ≤ 255
  data : s.data = ws.drop a
  una : s.una = addU AT a
  sent : s.sent + a = t
  ok : s.Ok
  buf : Buf w g A c s
  b7 : w.heap[b7]? = some (.cells #[vW] 34 (0, 0))
  own : w.ownsRow BL 5 1 vW n (ws.map (.int .u8))
  b8 : w.heap[b8]? = some (.cells #[.int .i64 a] 3 (0, 0))
  b9 : w.heap[b9]? = some (.cells #[.int .i64 t] 3 (0, 0))
  cx : w.cell? ⟨bx, 0, none⟩ = some (.int .u32 AT)
  apart : ∀ b, blk A = some b → vW.ownBlock ≠ some b
  bel : Below W0.heap.size W0 w
  lbl : BL ≤ w.heap.size
/-- The blocks' order. -/
structure TuB (W0 : World) (BL bx b7 b8 b9 g : Nat) : Prop where
  o1 : W0.heap.size ≤ bx
  o2 : bx < g
  o3 : g < b7
  o4 : b7 < b8
  o5 : b8 < b9
  o6 : b9 < BL
section
variable {W0 w w' : World} {BL bx b7 b8 b9 g a t n c : Nat} {AT : Int} {ws : List Int} {vW : Value} {s : St} {A : Option Addr}
theorem Tu.l7 (h : Tu W0 BL bx b7 b8 b9 g AT w a t n ws vW s A c) : b7 < w.heap.size := (Array.getElem?_eq_some_iff.1 h.b7).1
theorem Tu.l8 (h : Tu W0 BL bx b7 b8 b9 g AT w a t n ws vW s A c) : b8 < w.heap.size := (Array.getElem?_eq_some_iff.1 h.b8).1
theorem Tu.l9 (h : Tu W0 BL bx b7 b8 b9 g AT w a t n ws vW s A c) : b9 < w.heap.size := (Array.getElem?_eq_some_iff.1 h.b9).1
theorem Tu.lx (h : Tu W0 BL bx b7 b8 b9 g AT w a t n ws vW s A c) : bx < w.heap.size := World.block_lt_of_cell? w _ h.cx
theorem Tu.dlen (h : Tu W0 BL bx b7 b8 b9 g AT w a t n ws vW s A c) : s.data.length + a = n := by
  have := h.le1; have := h.le2; rw [h.data, List.length_drop, h.len]; omega
theorem Tu.move (h : Tu W0 BL bx b7 b8 b9 g AT w a t n ws vW s A c) (hb : Below w.heap.size w w') : Tu W0 BL bx b7 b8 b9 g AT w' a t n ws vW s A c :=
  { h with
    buf := h.buf.below hb
    b7 := (hb.block b7 h.l7).trans h.b7
    own := kept_row h.own (row := none) (grown_below hb) (by simp)
    b8 := (hb.block b8 h.l8).trans h.b8
    b9 := (hb.block b9 h.l9).trans h.b9
    cx := (hb.cell h.lx).trans h.cx
    bel := h.bel.trans (hb.mono h.bel.size)
    lbl := Nat.le_trans h.lbl hb.size }
theorem grown_bel {w0 w1 w2 : World} {row : Option Nat} (h : Below w0.heap.size w0 w1) (hg : w1.grownBy w2 row) (hr : ∀ k, row = some k → w0.heap.size ≤ k) : Below w0.heap.size w0 w2 := h.grown hg h.size hr

/-- Behind a call that turned the buffer's own block alone; then the block of what was sent turned. -/
theorem Tu.turn (hB : TuB W0 BL bx b7 b8 b9 g) (h : Tu W0 BL bx b7 b8 b9 g AT w a t n ws vW s A c) {w2 w3 : World} {s' : St} {t' : Nat} (hg : w.grownBy w2 (some g)) (hb : Buf w2 g A c s') (ho : s'.Ok)
    (hd : s'.data = s.data) (hu : s'.una = s.una) (hs : s'.sent + a = t') (hg3 : w2.grownBy w3 (some b9)) (h9 : w3.heap[b9]? = some (.cells #[.int .i64 t'] 3 (0, 0))) : Tu W0 BL bx b7 b8 b9 g AT w3 a t' n ws vW s' A c := by
  obtain ⟨o1, o2, o3, o4, o5, o6⟩ := hB
  have ne : ∀ {i j : Nat}, i ≠ j → some i ≠ some j := fun h e => h (Option.some.inj e)
  have d1 := h.dlen
  have d2 := ho.sent
  rw [hd] at d2
  exact {
    len := h.len
    le1 := by omega
    le2 := by omega
    byte := h.byte
    data := hd.trans h.data
    una := hu.trans h.una
    sent := hs
    ok := ho
    buf := by
      exact ⟨(hg3.block g hb.lt (ne (by omega))).trans hb.1, hb.2.keep hg3 (hb.2.off ((hg.block b9 h.l9 (ne (by omega))).trans h.b9) (fun x e => by cases e))⟩
    b7 := (hg3.block b7 (Nat.lt_of_lt_of_le h.l7 hg.size) (ne (by omega))).trans ((hg.block b7 h.l7 (ne (by omega))).trans h.b7)
    own := kept_row (kept_row h.own hg (by intro k hk; cases hk; omega)) hg3 (by intro k hk; cases hk; omega)
    b8 := (hg3.block b8 (Nat.lt_of_lt_of_le h.l8 hg.size) (ne (by omega))).trans ((hg.block b8 h.l8 (ne (by omega))).trans h.b8)
    b9 := h9
    cx := (hg3.cell ((hg.cell h.cx (by simp; omega))) (by simp; omega))
    apart := h.apart
    bel := grown_bel (grown_bel h.bel hg (by intro k hk; cases hk; omega)) hg3 (by intro k hk; cases hk; omega)
    lbl := Nat.le_trans h.lbl (Nat.le_trans hg.size hg3.size) }

/-- Behind a Write, and what was written laid to the rest. -/
theorem Tu.wrote (hB : TuB W0 BL bx b7 b8 b9 g) (h : Tu W0 BL bx b7 b8 b9 g AT w a t n ws vW s A c) {w2 w3 : World} {A2 : Option Addr} {c2 d : Nat} {ys : List Int} {now : Int} {v3 : Value} (hg : w.grownBy w2 (some g)) (hb : Buf w2 g A2 c2 (writeSt s ys now))
    (hfar : ∀ b, blk A2 = some b → w.heap.size ≤ b ∧ b < w2.heap.size) (hyl : ys.length = d) (hyb : ∀ x ∈ ys, 0 ≤ x ∧ x ≤ 255) (hfit : s.data.length + d ≤ 16384) (n0 : 0 ≤ now) (n1 : now ≤ 1125899906842624)
    (ho3 : w3.ownsRow BL 5 1 v3 (n + d) (ws.map (.int .u8) ++ ys.map (.int .u8))) (hg3 : w2.grownBy w3 vW.ownBlock) (hat : v3.ownBlock = vW.ownBlock ∨ v3.ownBlock = some w2.heap.size) :
    Tu W0 BL bx b7 b8 b9 g AT (w3.setCell ⟨b7, 0, none⟩ v3) a t (n + d) (ws ++ ys) v3 (writeSt s ys now) A2 c2 := by
  obtain ⟨o1, o2, o3, o4, o5, o6⟩ := hB
  have ne : ∀ {i j : Nat}, i ≠ j → some i ≠ some j := fun h e => h (Option.some.inj e)
  have hvl : ∀ k, vW.ownBlock = some k → BL ≤ k ∧ k < w.heap.size := fun k hk => h.own.lt k hk
  have nv : ∀ {i : Nat}, i < BL → some i ≠ vW.ownBlock := fun hi e => by have := (hvl _ e.symm).1; omega
  have d1 := h.dlen
  have e1 := h.le1
  have e2 := h.le2
  have hws : (writeSt s ys now).data = s.data ++ ys ∧ (writeSt s ys now).una = s.una ∧ (writeSt s ys now).sent = s.sent := by
    unfold writeSt
    split <;> exact ⟨rfl, rfl, rfl⟩
  have hsz : w.heap.size ≤ w3.heap.size := Nat.le_trans hg.size hg3.size
  have gset := grown_setCell w3 b7 0 v3
  have h7 : w3.heap[b7]? = some (.cells #[vW] 34 (0, 0)) := (hg3.block b7 (Nat.lt_of_lt_of_le h.l7 hg.size) (nv (by omega))).trans ((hg.block b7 h.l7 (ne (by omega))).trans h.b7)
  exact {
    len := by rw [List.length_append, h.len, hyl]
    le1 := h.le1
    le2 := by omega
    byte := fun x hx => by rcases List.mem_append.1 hx with q | q; exact h.byte x q; exact hyb x q
    data := by rw [hws.1, h.data, List.drop_append_of_le_length (by rw [h.len]; omega)]
    una := hws.2.1.trans h.una
    sent := by rw [hws.2.2]; exact h.sent
    ok := writeSt_ok s ys now h.ok (by rw [hyl]; exact hfit) hyb n0 n1
    buf := by
      have hb3 : Buf w3 g A2 c2 (writeSt s ys now) := by
        refine ⟨(hg3.block g hb.lt (nv (by omega))).trans hb.1, hb.2.grown hg3 ?_⟩
        intro b hbl e
        have := hfar b (own_blk hbl)
        have := hvl b e
        omega
      refine hb3.other gset (by omega) ?_
      intro b hbl hp e
      have := hfar b (own_blk hbl)
      have := h.l7
      omega
    b7 := by rw [heap_set h7]; rfl
    own := by rw [List.map_append]; exact kept_row ho3 gset (by intro k hk; cases hk; omega)
    b8 := (gset.block b8 (Nat.lt_of_lt_of_le h.l8 hsz) (ne (by omega))).trans ((hg3.block b8 (Nat.lt_of_lt_of_le h.l8 hg.size) (nv (by omega))).trans ((hg.block b8 h.l8 (ne (by omega))).trans h.b8))
    b9 := (gset.block b9 (Nat.lt_of_lt_of_le h.l9 hsz) (ne (by omega))).trans ((hg3.block b9 (Nat.lt_of_lt_of_le h.l9 hg.size) (nv (by omega))).trans ((hg.block b9 h.l9 (ne (by omega))).trans h.b9))
    cx := gset.cell (hg3.cell (hg.cell h.cx (by simp; omega)) (nv (show bx < BL by omega))) (by simp; omega)
    apart := by
      intro b hbl e
      have f1 := hfar b hbl
      rcases hat with q | q
      · rw [q] at e
        have := hvl b e
        omega
      · rw [q] at e
        cases e
        omega
    bel := grown_bel (grown_bel (grown_bel h.bel hg (by intro k hk; cases hk; omega)) hg3 (fun k hk => by have := (hvl k hk).1; omega)) gset (by intro k hk; cases hk; omega)
    lbl := Nat.le_trans h.lbl (Nat.le_trans hsz gset.size) }

theorem Tu.h7w (hB : TuB W0 BL bx b7 b8 b9 g) (h : Tu W0 BL bx b7 b8 b9 g AT w a t n ws vW s A c) {w2 w3 : World} (hg : w.grownBy w2 (some g)) (hg3 : w2.grownBy w3 vW.ownBlock) : w3.heap[b7]? = some (.cells #[vW] 34 (0, 0)) := by
  obtain ⟨o1, o2, o3, o4, o5, o6⟩ := hB
  refine (hg3.block b7 (Nat.lt_of_lt_of_le h.l7 hg.size) (fun e => ?_)).trans ((hg.block b7 h.l7 (fun e => by injection e; omega)).trans h.b7)
  have := (h.own.lt _ e.symm).1
  omega
theorem Tu.tick_lt (h : Tu W0 BL bx b7 b8 b9 g AT w a t n ws vW s A c) {w2 : World} (hg : w.grownBy w2 (some g)) : b9 < w2.heap.size := Nat.lt_of_lt_of_le h.l9 hg.size
/-- Behind an Acked, and the count laid down. -/
theorem Tu.acked (hB : TuB W0 BL bx b7 b8 b9 g) (h : Tu W0 BL bx b7 b8 b9 g AT w a t n ws vW s A c) {w2 : World} {A2 : Option Addr} {c2 k : Nat} {win now : Int} (hg : w.grownBy w2 (some g)) (hb : Buf w2 g A2 c2 (ackSt s k (addU AT (a + k : Nat)) win now))
    (hA : blk A2 = blk A) (hk : a + k ≤ t) (w0 : 0 ≤ win) (w1 : win ≤ 1073741824) (n0 : 0 ≤ now) (n1 : now ≤ 1125899906842624) :
    Tu W0 BL bx b7 b8 b9 g AT (w2.setCell ⟨b8, 0, none⟩ (.int .i64 (a + k : Nat))) (a + k) t n ws vW (ackSt s k (addU AT (a + k : Nat)) win now) A2 c2 := by
  obtain ⟨o1, o2, o3, o4, o5, o6⟩ := hB
  have ne : ∀ {i j : Nat}, i ≠ j → some i ≠ some j := fun h e => h (Option.some.inj e)
  have d1 := h.dlen
  have e1 := h.le1
  have e2 := h.le2
  have e3 := h.sent
  have gset := grown_setCell w2 b8 0 (.int .i64 (a + k : Nat))
  have h8 := (hg.block b8 h.l8 (ne (by omega))).trans h.b8
  have ha := addU_bd AT (a + k : Nat)
  exact {
    len := h.len
    le1 := hk
    le2 := h.le2
    byte := h.byte
    data := by
      unfold ackSt
      split
      · rename_i hz; subst hz; exact h.data
      · show s.data.drop k = _; rw [h.data, List.drop_drop]
    una := by
      unfold ackSt
      split
      · rename_i hz; subst hz; exact h.una
      · rfl
    sent := by
      unfold ackSt
      split
      · rename_i hz; subst hz; exact h.sent
      · show s.sent - k + (a + k) = t; omega
    ok := ackSt_ok s k _ win now h.ok (by omega) w0 w1 ha.1 ha.2 n0 n1
    buf := by
      exact hb.other gset (by omega) (hb.2.off h8 (fun x e => by cases e))
    b7 := (gset.block b7 (Nat.lt_of_lt_of_le h.l7 hg.size) (ne (by omega))).trans ((hg.block b7 h.l7 (ne (by omega))).trans h.b7)
    own := kept_row (kept_row h.own hg (by intro k hk; cases hk; omega)) gset (by intro k hk; cases hk; omega)
    b8 := by rw [heap_set h8]; rfl
    b9 := (gset.block b9 (Nat.lt_of_lt_of_le h.l9 hg.size) (ne (by omega))).trans ((hg.block b9 h.l9 (ne (by omega))).trans h.b9)
    cx := gset.cell (hg.cell h.cx (by simp; omega)) (by simp; omega)
    apart := by rw [hA]; exact h.apart
    bel := grown_bel (grown_bel h.bel hg (by intro k hk; cases hk; omega)) gset (by intro k hk; cases hk; omega)
    lbl := Nat.le_trans h.lbl (Nat.le_trans hg.size gset.size) }
end
end Go.Proofs.Ytpigomkhpdfdcaa
