/- Plain laws, and words for memory, of RexmitGets. -/
import Derived.Test.YtpigomkhpdfdcaaTrueLaw
import Derived.Test.YtpigomkhpdfdcaaPcsLaw
import Derived.Test.YtpigomkhpdfdcaaSlc
set_option linter.unusedVariables false
namespace Go.Proofs.Ytpigomkhpdfdcaa
open Go.RowKit Go.Deep Go.BigFrame

/-- A slice of bools. -/
def Bools (w : World) (A : Option Addr) (m : Nat) : Prop := ∀ i, i < m → ∃ b o v, A = some ⟨b, o, none⟩ ∧ b < w.heap.size ∧ w.cell? ⟨b, o + i, none⟩ = some (.bool v)
open Go.ChangeShapes Go.WideShapes in
theorem open_bools_arg {H : Type} {enc : TypeId × Value → H} {W : World} {A : Option Addr} {n c : Nat} {d : DataW H} {p : List MemPlace}
    (h : DataW.Trod enc Try.prog W 0 (fun _ => true) true 60 (.slice A n c) d p) : Bools W A n ∧ n ≤ c ∧ c ≤ maxLen := by
  obtain ⟨fuel, hf⟩ := h
  rcases open_slice Try.underlying60 hf with ⟨h0, _⟩ | ⟨a, len, cap, m, k, D, Pl, hcs, _, hl, hm, hmm, _, hi⟩
  · simp [Value.cells] at h0
    obtain ⟨e1, e2, e3⟩ := h0
    subst e1 e2 e3
    exact ⟨fun i hi => by omega, by omega, by simp [maxLen]⟩
  · simp [Value.cells] at hcs
    obtain ⟨e1, e2, e3⟩ := hcs
    subst e1 e2 e3
    simp at hmm
    have hC : Try.prog.cellsOf 4 = 1 := by kernel_rfl
    have key : ∀ i, i < n → ∃ v, W.cell? (a.add i) = some (.bool v) := by
      intro i hlt
      obtain ⟨cs', hc, ht⟩ := hi i (by omega)
      rw [hC] at hc
      obtain ⟨v, rfl, _⟩ := DataW.trod_bool Try.underlying4 ht
      obtain ⟨_, hcl, hat⟩ := World.cells?_some hc
      have := hat 0 (by simp)
      exact ⟨v, by simpa [Addr.add] using this⟩
    refine ⟨fun i hlt => ?_, hl, hm⟩
    obtain ⟨v0, k0⟩ := key 0 (by omega)
    obtain ⟨v, k1⟩ := key i hlt
    obtain ⟨b, o, sp⟩ := a
    obtain rfl : sp = none := by simpa [Addr.add] using World.cell?_spot k0
    have hlt0 := World.block_lt_of_cell? W _ k0
    rw [Go.WideShapes.add_plain] at k1
    exact ⟨b, o, v, rfl, by simpa [Addr.add] using hlt0, k1⟩
theorem Bools.below {w w' : World} {A : Option Addr} {m : Nat} (h : Bools w A m) (hb : Below w.heap.size w w') : Bools w' A m := fun i hi => by
  obtain ⟨b, o, v, e, hl, hc⟩ := h i hi
  exact ⟨b, o, v, e, Nat.lt_of_lt_of_le hl hb.size, (hb.cell (p := ⟨b, o + i, none⟩) hl).trans hc⟩

/-- What Cut hands back of a piece, and whether it is laid to the rest. -/
theorem gets_ahead (AT : Int) (x y : Nat) (hx : x ≤ 100) (hy : y ≤ 100) : ahd (addU AT x) (addU AT y) = (y : Int) - (x : Int) := by unfold ahd addU; omega
theorem gets_less (AT : Int) (x y : Nat) (hx : x ≤ 100) (hy : y ≤ 100) : lessB (addU AT x) (addU AT y) = decide (x < y) := by
  unfold lessB
  rw [gets_ahead AT x y hx hy]
  by_cases h : x < y
  · rw [decide_eq_true h]; exact decide_eq_true (by omega)
  · rw [decide_eq_false h]; exact decide_eq_false (by omega)
/-- A piece of bytes F .. F+L behind a; q bytes are there. -/
theorem gets_cut (AT : Int) (xs : List Int) (p q L : Nat) (hx : xs.length = L) (hp : p ≤ 100) (hq : q ≤ 100) (hL : L ≤ 100) :
    cutBs (addU AT p) xs (addU AT q) 1048576 = if q < p + L then xs.drop (q - p) else [] := by
  unfold cutBs cutLast cutFirst
  rw [gets_ahead AT q p hq hp, hx]
  by_cases h : q < p + L
  · rw [if_pos h]
    by_cases h0 : 0 < L
    · rw [if_neg (by omega)]
      have e1 : (min (min 1048576 2147483647 - ((p : Int) - (q : Int))) (L : Int)).toNat = L := by omega
      have e2 : (max (-((p : Int) - (q : Int))) 0).toNat = q - p := by omega
      rw [e1, e2, List.take_of_length_le (by omega)]
    · have : xs = [] := List.eq_nil_of_length_eq_zero (by omega)
      subst this
      simp
  · rw [if_neg h, if_pos (by omega)]
theorem gets_more (data : List Int) (a F L q T : Nat) (h1 : a + F ≤ q) (h2 : q < T) (h3 : a + F + L = T) (h4 : T ≤ data.length) :
    data.take q ++ ((data.drop (a + F)).take L).drop (q - (a + F)) = data.take T := by
  subst h3
  have e : ((data.drop (a + F)).take L).drop (q - (a + F)) = (data.drop q).take (a + F + L - q) := by
    rw [List.drop_take, List.drop_drop]
    congr 1
    · omega
    · congr 1; omega
  rw [e, ← List.take_add]
  congr 1
  omega
/-- A piece laid behind the others. -/
theorem pcs_append {w : World} {B : Nat} {una : Int} {xs : List Int} {v : Value} {ps : List (Nat × Nat)} {F T L : Nat} {A : Option Addr} {k : Nat} {u : Int} (hB : B ≤ w.heap.size) (hpc : Pcs w B una xs v ps) (hps : ps.length ≤ 100000)
    (hu : addU una F = u) (hL : T - F = L) (hp : w.ownsRow B 5 1 (.slice A L k) L ((seg xs F T).map (.int .u8))) :
    ∃ v' w', (Builtin.append_ #[48, 48] 48 #[v, .slice (some ⟨w.heap.size, 0, none⟩) 1 1]).run Try.prog (w.alloc (.cells #[.int .u32 u, .slice A L k] 38)) = .ok v' w' ∧ Pcs w' B una xs v' (ps ++ [(F, T)]) ∧ Below B w w' := by
  subst hu hL
  obtain ⟨cells, h1, h2⟩ := hpc
  obtain ⟨v', w', hr, h3, hg⟩ := run_append_piece B v ps.length cells h1 (.int .u32 (addU una F)) (.slice A (T - F) k) rfl rfl hps hB
  refine ⟨v', w', hr, Pcs.push h1 h2 hp h3 hg, ?_⟩
  exact ((Below.refl B w).alloc hB _).grown hg (by simp; omega) (fun k hk => (h1.lt k hk).1)

/-- What stands at the head of each round: got is what is acknowledged. -/
structure Ge (W0 : World) (BL bx g d : Nat) (AT W R : Int) (ys : List Int) (w : World) (a : Nat) (v9 : Value) (row : Nat) (s : St) (A : Option Addr) (c : Nat) : Prop where
  le : a ≤ d
  len : ys.length = d
  data : s.data = ys.drop a
  una : s.una = addU AT a
  win : s.win = W
  rto : s.rto = R
  tries : s.tries = 10
  count : s.count = row
  ok : s.Ok
  buf : Buf w g A c s
  own : w.ownsRow BL 5 1 v9 a ((ys.take a).map (.int .u8))
  c0 : w.cell? ⟨bx, 0, none⟩ = some (.int .u32 AT)
  c1 : w.cell? ⟨bx, 1, none⟩ = some (.int .u32 W)
  apart : ∀ b, blk A = some b → v9.ownBlock ≠ some b
  alt : ∀ b, blk A = some b → b < w.heap.size
  bel : Below W0.heap.size W0 w
  lbl : BL ≤ w.heap.size
structure GeB (W0 : World) (BL bx g : Nat) : Prop where
  o1 : W0.heap.size ≤ bx
  o2 : bx < g
  o3 : g < BL
/-- Behind Send and Tick: the pieces. -/
structure Gm (W0 : World) (BL B bx g d : Nat) (AT W R : Int) (ys : List Int) (w : World) (a : Nat) (v9 : Value) (row : Nat) (isb : Bool) (s : St) (A : Option Addr) (c : Nat) (ps : List (Nat × Nat)) (lv : Value) : Prop where
  le : a ≤ d
  len : ys.length = d
  data : s.data = ys.drop a
  una : s.una = addU AT a
  win : s.win = W
  rto : s.rto = R
  tries : s.tries = 10
  count : s.count = row + (if isb then 1 else 0)
  ok : s.Ok
  buf : Buf w g A c s
  own : w.ownsRow BL 5 1 v9 a ((ys.take a).map (.int .u8))
  c0 : w.cell? ⟨bx, 0, none⟩ = some (.int .u32 AT)
  c1 : w.cell? ⟨bx, 1, none⟩ = some (.int .u32 W)
  apart : ∀ b, blk A = some b → v9.ownBlock ≠ some b
  alt : ∀ b, blk A = some b → b < B
  bel : Below W0.heap.size W0 w
  lbl : BL ≤ B
  lb : B ≤ w.heap.size
  vlt : ∀ b, v9.ownBlock = some b → b < B
  pcs : Pcs w B (addU AT a) (ys.drop a) lv ps
  pin : ∀ p ∈ ps, p.1 < p.2 ∧ p.2 ≤ s.sent
  pn : ps.length ≤ 19
  last : isb = true → ∃ qs to', ps = qs ++ [(0, to')]
theorem Ge.move {W0 w w' : World} {BL bx g d a row c : Nat} {AT W R : Int} {ys : List Int} {v9 : Value} {s : St} {A : Option Addr} (h : Ge W0 BL bx g d AT W R ys w a v9 row s A c) (hb : Below w.heap.size w w') : Ge W0 BL bx g d AT W R ys w' a v9 row s A c :=
  { h with
    buf := h.buf.below hb
    own := kept_row h.own (row := none) (grown_below hb) (by simp)
    c0 := (hb.cell (World.block_lt_of_cell? w _ h.c0)).trans h.c0
    c1 := (hb.cell (World.block_lt_of_cell? w _ h.c1)).trans h.c1
    alt := fun b hb' => Nat.lt_of_lt_of_le (h.alt b hb') hb.size
    bel := h.bel.trans (hb.mono h.bel.size)
    lbl := Nat.le_trans h.lbl hb.size }
theorem pcsOf_in (m en : Nat) (hm : 1 ≤ m) : ∀ (f S : Nat), en - S ≤ f → ∀ p ∈ pcsOf m S en, p.1 < p.2 ∧ p.2 ≤ en
  | 0, S, h, p, hp => by rw [pcsOf_stop m S en (by omega)] at hp; cases hp
  | f + 1, S, h, p, hp => by
    by_cases hs : S < en
    · rw [pcsOf_step m S en hm hs] at hp
      rcases List.mem_cons.1 hp with rfl | hp
      · exact ⟨by show S < min (S + m) en; omega, by show min (S + m) en ≤ en; omega⟩
      · exact pcsOf_in m en hm f _ (by omega) p hp
    · rw [pcsOf_stop m S en hs] at hp; cases hp
theorem wait_le2 {s : St} (ho : s.Ok) {R : Int} (h : s.rto = R) (hR : R ≤ 50) : 0 ≤ s.wait ∧ s.wait ≤ 51200 := by
  rw [ho.wait, h]
  have r0 := ho.rto0
  rw [h] at r0
  have hc : s.count ≤ 10 := by have := ho.count; have := ho.tries1; omega
  have h2 : (2 : Int) ^ s.count ≤ 1024 ∧ 1 ≤ (2 : Int) ^ s.count := by
    have : ∀ n : Nat, n < 11 → (2 : Int) ^ n ≤ 1024 ∧ 1 ≤ (2 : Int) ^ n := by decide
    exact this _ (by omega)
  have h4 : R * 2 ^ s.count ≤ 50 * 2 ^ s.count := Int.mul_le_mul_of_nonneg_right hR (by omega)
  have h5 : R * 1 ≤ R * 2 ^ s.count := Int.mul_le_mul_of_nonneg_left h2.2 (by omega)
  omega
theorem grown_new {a b c : World} {r r2 : Option Nat} (h : a.grownBy b r) (k : b.grownBy c r2) (hr : r2 = r ∨ ∀ k, r2 = some k → a.heap.size ≤ k) : a.grownBy c r := by
  rcases hr with e | e
  · subst e; exact grown_trans h k
  · exact ⟨k.os.trans h.os, k.tape.trans h.tape, k.output.trans h.output, Nat.le_trans h.size k.size, fun i hi hne => (k.block i (Nat.lt_of_lt_of_le hi h.size) (fun q => by have := e _ q.symm; omega)).trans (h.block i hi hne)⟩
theorem kept_own_below {w w' : World} {B base n : Nat} {e : TypeId} {size : Nat} {v : Value} {xs : List Value} (h : w.ownsRow base e size v n xs) (hb : Below B w w') (hv : ∀ b, v.ownBlock = some b → b < B) : w'.ownsRow base e size v n xs := by
  refine ⟨h.1, ?_⟩
  rcases h.2 with h2 | ⟨g, cap, cur, rfl, hbase, hg, hn, hc, hs, ht⟩
  · exact .inl h2
  · exact .inr ⟨g, cap, cur, rfl, hbase, (hb.block g (hv g (by simp [Value.ownBlock]))).trans hg, hn, hc, hs, ht⟩
section
variable {W0 wo w2 X : World} {BL B bx g d a row c : Nat} {AT W R : Int} {ys : List Int} {v9 lv : Value} {s s' : St} {A : Option Addr} {ps : List (Nat × Nat)} {isb : Bool}
theorem Ge.gm (hB : GeB W0 BL bx g) (h : Ge W0 BL bx g d AT W R ys wo a v9 row s A c) (hg : wo.grownBy w2 (some g)) (hb : Buf w2 g A c s') (hX : Below wo.heap.size w2 X) (hok : s'.Ok)
    (hd : s'.data = s.data) (hu : s'.una = s.una) (hw : s'.win = s.win) (hr : s'.rto = s.rto) (ht : s'.tries = s.tries) (hc : s'.count = row + (if isb then 1 else 0))
    (hp : Pcs X wo.heap.size (addU AT a) (ys.drop a) lv ps) (pin : ∀ p ∈ ps, p.1 < p.2 ∧ p.2 ≤ s'.sent) (pn : ps.length ≤ 19) (last : isb = true → ∃ qs to', ps = qs ++ [(0, to')]) :
    Gm W0 BL wo.heap.size bx g d AT W R ys X a v9 row isb s' A c ps lv := by
  obtain ⟨o1, o2, o3⟩ := hB
  have lg := h.buf.lt
  have hl := h.lbl
  exact {
    le := h.le, len := h.len, data := hd.trans h.data, una := hu.trans h.una, win := hw.trans h.win, rto := hr.trans h.rto, tries := ht.trans h.tries, count := hc, ok := hok
    buf := by
      refine ⟨(hX.block g lg).trans hb.1, ?_⟩
      obtain ⟨A', c', hv, q1, q2, q3⟩ := hb.2
      injection hv with e1 e2 e3
      subst e1
      have e3' : c' = c := e3.symm
      subst e3'
      refine ⟨A, c', rfl, q1, q2, fun hp => ?_⟩
      obtain ⟨b, o, rfl, hl2, hc2⟩ := q3 hp
      obtain ⟨b', o', e, hl', _⟩ := h.buf.2.get (i := 0) (by rw [← hd]; exact hp)
      cases e
      exact ⟨b, o, rfl, Nat.lt_of_lt_of_le hl2 hX.size, fun i hi => (hX.cell (p := ⟨b, o + i, none⟩) hl').trans (hc2 i hi)⟩
    own := by
      have h1 := kept_row h.own hg (by intro k hk; cases hk; omega)
      refine kept_own_below h1 hX (fun b hb => (h.own.lt b hb).2)
    c0 := (hX.cell (World.block_lt_of_cell? wo _ h.c0)).trans (hg.cell h.c0 (by simp; omega))
    c1 := (hX.cell (World.block_lt_of_cell? wo _ h.c1)).trans (hg.cell h.c1 (by simp; omega))
    apart := h.apart
    alt := h.alt
    bel := (h.bel.grown hg h.bel.size (by intro k hk; cases hk; omega)).trans (hX.mono h.bel.size)
    lbl := h.lbl
    lb := Nat.le_trans hg.size hX.size
    vlt := fun b hb => (h.own.lt b hb).2
    pcs := hp
    pin := pin
    pn := pn
    last := last }
/-- What is as it was behind writes to got's first row and to new ones. -/
theorem Gm.at_ {wx : World} (hB : GeB W0 BL bx g) (h : Gm W0 BL B bx g d AT W R ys X a v9 row isb s A c ps lv) (hg : X.grownBy wx v9.ownBlock) :
    Buf wx g A c s ∧ Pcs wx B (addU AT a) (ys.drop a) lv ps ∧ wx.cell? ⟨bx, 0, none⟩ = some (.int .u32 AT) ∧ wx.cell? ⟨bx, 1, none⟩ = some (.int .u32 W) ∧ Below W0.heap.size W0 wx := by
  obtain ⟨o1, o2, o3⟩ := hB
  have hv : ∀ k, v9.ownBlock = some k → BL ≤ k := fun k hk => (h.own.lt k hk).1
  have nv : ∀ {i : Nat}, i < BL → some i ≠ v9.ownBlock := fun hi e => by have := hv _ e.symm; omega
  refine ⟨⟨(hg.block g h.buf.lt (nv o3)).trans h.buf.1, h.buf.2.grown hg (fun b hb e => h.apart b (own_blk hb) e)⟩, h.pcs.kept hg h.vlt, hg.cell h.c0 (nv (show bx < BL by omega)), hg.cell h.c1 (nv (show bx < BL by omega)), h.bel.grown hg h.bel.size (fun k hk => by have := hv k hk; omega)⟩
/-- Behind an Acked. -/
theorem Gm.acked {wx w5 : World} {v : Value} {q row' c6 : Nat} {A6 : Option Addr} {now : Int} (hB : GeB W0 BL bx g) (h : Gm W0 BL B bx g d AT W R ys X a v9 row isb s A c ps lv) (hg : X.grownBy wx v9.ownBlock)
    (hat : v.ownBlock = v9.ownBlock ∨ ∀ b, v.ownBlock = some b → X.heap.size ≤ b) (hown : wx.ownsRow BL 5 1 v q ((ys.take q).map (.int .u8))) (hq0 : a ≤ q) (hq1 : q ≤ a + s.sent)
    (hg5 : wx.grownBy w5 (some g)) (hb5 : Buf w5 g A6 c6 (ackSt s (q - a) (addU AT q) W now)) (hA : blk A6 = blk A) (w0 : 0 ≤ W) (w1 : W ≤ 1073741824) (n0 : 0 ≤ now) (n1 : now ≤ 1125899906842624)
    (hrow : row' = if a < q then 0 else row + (if isb then 1 else 0)) : Ge W0 BL bx g d AT W R ys w5 q v row' (ackSt s (q - a) (addU AT q) W now) A6 c6 := by
  obtain ⟨k1, k2, k3, k4, k5⟩ := h.at_ hB hg
  obtain ⟨o1, o2, o3⟩ := hB
  have ha := addU_bd AT q
  have hs := h.ok.sent
  have hl : s.data.length + a = d := by have := h.le; rw [h.data, List.length_drop, h.len]; omega
  have lv0 : X.heap.size ≤ wx.heap.size := hg.size
  exact {
    le := by omega
    len := h.len
    data := by
      unfold ackSt
      split
      · have : q = a := by omega
        subst this; exact h.data
      · show s.data.drop (q - a) = _
        rw [h.data, List.drop_drop]; congr 1; omega
    una := by
      unfold ackSt
      split
      · have : q = a := by omega
        subst this; exact h.una
      · rfl
    win := by unfold ackSt; split <;> rfl
    rto := by unfold ackSt; split <;> exact h.rto
    tries := by unfold ackSt; split <;> exact h.tries
    count := by
      rw [hrow]
      unfold ackSt
      split
      · rw [if_neg (by omega)]; exact h.count
      · rw [if_pos (by omega)]
    ok := ackSt_ok s (q - a) _ W now h.ok (by omega) w0 w1 ha.1 ha.2 n0 n1
    buf := hb5
    own := kept_row hown hg5 (by intro k hk; cases hk; omega)
    c0 := hg5.cell k3 (by simp; omega)
    c1 := hg5.cell k4 (by simp; omega)
    apart := by
      rw [hA]
      intro b hb e
      rcases hat with h1 | h1
      · exact h.apart b hb (h1.symm.trans e)
      · have := h1 b e
        have := h.alt b hb
        have := h.lb
        omega
    alt := by
      rw [hA]
      intro b hb
      have := h.alt b hb
      have := h.lb
      have := hg5.size
      omega
    bel := k5.grown hg5 k5.size (by intro k hk; cases hk; omega)
    lbl := by have := h.lbl; have := h.lb; have := hg5.size; omega }
end
theorem seg_drop2 (ws : List Int) (a S T r L : Nat) (h1 : a + S ≤ r) (h2 : r ≤ a + S) (hL : S + L = T) : seg (ws.drop a) S T = (ws.drop r).take L := by
  unfold seg
  obtain rfl : a + S = r := by omega
  obtain rfl : T = S + L := by omega
  rw [List.drop_take, List.drop_drop]
  congr 1
  omega
theorem less_q (a b : Int) (w : World) (k : Nat) {u : Bool} (hu : lessB a b = u) : Calls Try.prog 26 #[.int .u32 a, .int .u32 b] (w.drewN k) fun e w'' => e = .returned (.bool u) ∧ ∃ m, w'' = w.drewN m := by
  subst hu
  exact Calls.quiet_of_same ((less_any _ _ _).mono fun e w' h => ⟨h.1, h.2.symm⟩)
end Go.Proofs.Ytpigomkhpdfdcaa
