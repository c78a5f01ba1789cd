/- What RexmitPlays keeps, and the laws of what each call does to it. -/
import Derived.Test.YtpigomkhpdfdcaaRSend0
import Derived.Test.YtpigomkhpdfdcaaRTick
import Derived.Test.YtpigomkhpdfdcaaSame
import Derived.Test.YtpigomkhpdfdcaaRNew
import Derived.Test.YtpigomkhpdfdcaaTrueLaw
set_option linter.unusedVariables false
namespace Go.Proofs.Ytpigomkhpdfdcaa
open Go.RowKit Go.Deep Go.BigFrame
attribute [local go_sem ↓] Go.wp_at_zero Go.wp_at_succ
theorem noU8_rcells (AT : Int) (ws : List Int) (a : Nat) (s : St) (A : Option Addr) (c : Nat) : ∀ (i : Nat) x, (rcells AT ws a s A c)[i]? ≠ some (.int .u8 x) := by
  intro i x
  unfold rcells
  match i with
  | 0 | 1 | 2 | 3 | 4 | 5 | 6 | 7 | 8 | 9 => simp
  | n + 10 => simp
theorem noU8_cells (s : St) (A : Option Addr) (c : Nat) : ∀ (i : Nat) x, (s.cells A c)[i]? ≠ some (.int .u8 x) := by
  intro i x
  unfold St.cells
  match i with
  | 0 | 1 | 2 | 3 | 4 | 5 | 6 | 7 | 8 => simp
  | n + 9 => simp
section
variable {w w' : World} {g h c rc a : Nat} {A RA : Option Addr} {AT : Int} {ws : List Int} {s s' : St}
theorem ne_gh (hb : Buf w g A c s) (hr : Rb w h RA rc AT ws a s') : g ≠ h := by
  intro e
  subst e
  have h1 := hb.1
  rw [hr.heap] at h1
  injection h1 with h1
  injection h1 with _ q
  exact absurd q (by decide)
/-- The reference's buffer stays where the program's own block turns. -/
theorem Rb.beside (hr : Rb w h RA rc AT ws a s') (hb : Buf w g A c s) (hg : w.grownBy w' (some g)) : Rb w' h RA rc AT ws a s' :=
  { hr with heap := (hg.block h hr.lt (by have := ne_gh hb hr; intro e; injection e; omega)).trans hr.heap, byt := hr.byt.keep hg (hr.byt.offG hb.1 (noU8_cells s A c)) }
theorem Buf.besideR (hb : Buf w g A c s) (hr : Rb w h RA rc AT ws a s') (hg : w.grownBy w' (some h)) : Buf w' g A c s :=
  hb.other hg (ne_gh hb hr) (hb.2.offG hr.heap (noU8_rcells AT ws a s' RA rc))
theorem Byt.under {X w w' : World} {B n c : Nat} {A : Option Addr} {xs : List Int} (h0 : Byt X (.slice A n c) xs) (hB : X.heap.size ≤ B) (h : Byt w (.slice A n c) xs) (hb : Below B w w') : Byt w' (.slice A n c) xs := by
  obtain ⟨A1, c1, e1, q1, q2, q3⟩ := h
  obtain ⟨A2, c2, e2, _, _, q5⟩ := h0
  injection e1 with e1 e1' e1''
  injection e2 with e2 e2' e2''
  subst e1 e1''
  subst e2 e2''
  refine ⟨A, c, by rw [e1'], q1, q2, fun hp => ?_⟩
  obtain ⟨b, o, rfl, hl, hc⟩ := q3 hp
  obtain ⟨b2, o2, e, hl2, _⟩ := q5 hp
  cases e
  have hlB : b < B := by omega
  refine ⟨b, o, rfl, Nat.lt_of_lt_of_le hl hb.size, fun i hi => ?_⟩
  exact (hb.cell (p := ⟨b, o + i, none⟩) hlB).trans (hc i hi)
theorem Byt.blt {X : World} {n c : Nat} {A : Option Addr} {xs : List Int} (h0 : Byt X (.slice A n c) xs) : ∀ b, (Value.slice A n c).ownBlock = some b → 0 < n → b < X.heap.size := by
  intro b hb hp
  obtain ⟨A2, c2, e2, _, _, q5⟩ := h0
  injection e2 with e2 e2' e2''
  subst e2 e2' e2''
  obtain ⟨b2, o2, e, hl2, _⟩ := q5 hp
  subst e
  simp [Value.ownBlock] at hb
  omega
/-- Turned from block B on alone, in a world whose buffer's bytes lie below. -/
theorem Buf.under {X : World} {B : Nat} {s0 : St} (h0 : Buf X g A c s0) (hd : s.data = s0.data) (hB : X.heap.size ≤ B) (hb : Buf w g A c s) (hbl : Below B w w') : Buf w' g A c s :=
  ⟨(hbl.block g (Nat.lt_of_lt_of_le h0.lt hB)).trans hb.1, (show Byt X (.slice A s.data.length c) s.data by rw [hd]; exact h0.2).under hB hb.2 hbl⟩
theorem Rb.under {X : World} {B a0 : Nat} {s0 : St} (h0 : Rb X h RA rc AT ws a0 s0) (hB : X.heap.size ≤ B) (hb : Rb w h RA rc AT ws a s) (hbl : Below B w w') : Rb w' h RA rc AT ws a s :=
  { hb with heap := (hbl.block h (Nat.lt_of_lt_of_le h0.lt hB)).trans hb.heap, byt := h0.byt.under hB hb.byt hbl }
end
/-- What stands at each step. -/
structure Py (W0 : World) (h : Nat) (AT : Int) (lim : Nat) (w : World) (g : Nat) (s : St) (A : Option Addr) (c a : Nat) (ws : List Int) (RA : Option Addr) (rc : Nat) : Prop where
  ok : s.Ok
  buf : Buf w g A c s
  rb : Rb w h RA rc AT ws a s
  len : ws.length ≤ lim
  bel : Below W0.heap.size W0 w
  og : W0.heap.size ≤ g
  oh : W0.heap.size ≤ h
theorem Py.move {W0 w w' : World} {h lim g c a rc : Nat} {AT : Int} {s : St} {A RA : Option Addr} {ws : List Int} (p : Py W0 h AT lim w g s A c a ws RA rc) (hb : Below w.heap.size w w') : Py W0 h AT lim w' g s A c a ws RA rc :=
  { p with buf := p.buf.below hb, rb := p.rb.below hb, bel := p.bel.trans (hb.mono p.bel.size) }
/-- Pieces told, side by side. -/
theorem Pcs.pl {w : World} {B : Nat} {una : Int} {xs : List Int} {v : Value} {ps : List (Nat × Nat)} (h : Pcs w B una xs v ps) (hx : ∀ x ∈ xs, 0 ≤ x ∧ x ≤ 255) : PlAt w v (ps.map fun p => (addU una p.1, seg xs p.1 p.2)) := by
  obtain ⟨cells, h1, h2⟩ := h
  obtain ⟨A, k, rfl⟩ := own_len h1
  refine ⟨A, k, by simp, fun i p hp => ?_⟩
  simp only [List.getElem?_map, Option.map_eq_some_iff] at hp
  obtain ⟨q, hq, rfl⟩ := hp
  obtain ⟨A1, k1, e1, e2, e3⟩ := h2 i q hq
  have hl : (seg xs q.1 q.2).length = q.2 - q.1 := by have := e3.1; simpa using this
  have hlt := (List.getElem?_eq_some_iff.1 hq).1
  rcases h1.2 with ⟨h3, h4⟩ | ⟨g, cap, cur, h3, hb, hg, r⟩
  · omega
  · injection h3 with h3 _ _
    subst h3
    refine ⟨g, 0, A1, k1, rfl, ?_, ?_, ?_, ?_⟩
    · have := h1.cells (g := g) rfl _ _ e1; rw [Go.WideShapes.add_plain] at this; simpa [Nat.mul_comm] using this
    · have := h1.cells (g := g) rfl _ _ e2; rw [Go.WideShapes.add_plain] at this; simp only [hl]; simpa [Nat.mul_comm] using this
    · simp only [hl]; exact own_byt e3
    · intro x hx'
      exact hx x (List.mem_of_mem_take (List.mem_of_mem_drop hx'))
theorem RPcs.pl {w : World} {B : Nat} {una : Int} {xs : List Int} {v : Value} {ps : List (Nat × Nat)} (h : RPcs w B una xs v ps) (hx : ∀ x ∈ xs, 0 ≤ x ∧ x ≤ 255) : PlAt w v (ps.map fun p => (addU una p.1, seg xs p.1 p.2)) := by
  obtain ⟨cells, h1, h2⟩ := h
  obtain ⟨A, k, rfl⟩ := own_len h1
  refine ⟨A, k, by simp, fun i p hp => ?_⟩
  simp only [List.getElem?_map, Option.map_eq_some_iff] at hp
  obtain ⟨q, hq, rfl⟩ := hp
  obtain ⟨A1, k1, e1, e2, e3⟩ := h2 i q hq
  have hl : (seg xs q.1 q.2).length = q.2 - q.1 := by have := e3.1; simpa using this
  have hlt := (List.getElem?_eq_some_iff.1 hq).1
  rcases h1.2 with ⟨h3, h4⟩ | ⟨g, cap, cur, h3, hb, hg, r⟩
  · omega
  · injection h3 with h3 _ _
    subst h3
    refine ⟨g, 0, A1, k1, rfl, ?_, ?_, ?_, ?_⟩
    · have := h1.cells (g := g) rfl _ _ e1; rw [Go.WideShapes.add_plain] at this; simpa [Nat.mul_comm] using this
    · have := h1.cells (g := g) rfl _ _ e2; rw [Go.WideShapes.add_plain] at this; simp only [hl]; simpa [Nat.mul_comm] using this
    · simp only [hl]; exact own_byt e3
    · intro x hx'
      exact hx x (List.mem_of_mem_take (List.mem_of_mem_drop hx'))
theorem u8s_own {w : World} {B n : Nat} {v : Value} {xs : List Int} (h : w.ownsRow B 5 1 v n (xs.map (.int .u8))) (hn : 0 < n) : ∃ b k, v = .slice (some ⟨b, 0, none⟩) n k ∧ B ≤ b ∧ U8s w b n := by
  obtain ⟨hl, h2⟩ := h
  rcases h2 with ⟨_, h4⟩ | ⟨g, cap, cur, h3, hb, hg, q1, q2, q3, q4⟩
  · omega
  · refine ⟨g, cap, h3, hb, cur, hg, fun i hi => ?_⟩
    have hl2 : xs.length = n := by simpa using hl
    refine ⟨xs[i]'(by omega), ?_⟩
    have h5 : (cur.toList.take (n * 1))[i]? = (xs.map (Value.int .u8))[i]? := by rw [q4]
    rw [List.getElem?_take_of_lt (by omega)] at h5
    rw [← Array.getElem?_toList, h5, List.getElem?_map, List.getElem?_eq_getElem (by omega)]
    rfl
theorem Pcs.sp {w : World} {B : Nat} {una : Int} {xs : List Int} {v : Value} {ps : List (Nat × Nat)} (h : Pcs w B una xs v ps) (hx : xs.length ≤ 1000000) : ∃ A k, v = .slice A ps.length k ∧ SpAt w B A ps.length := by
  obtain ⟨cells, h1, h2⟩ := h
  obtain ⟨A, k, rfl⟩ := own_len h1
  refine ⟨A, k, rfl, fun i hi => ?_⟩
  obtain ⟨A1, k1, e1, e2, e3⟩ := h2 i _ (List.getElem?_eq_getElem hi)
  obtain ⟨q, hq⟩ : ∃ q, ps[i] = q := ⟨_, rfl⟩
  rw [hq] at e1 e2 e3
  rcases h1.2 with ⟨h3, h4⟩ | ⟨g, cap, cur, h3, hb, hg, q1, q2, q3, q4⟩
  · omega
  · injection h3 with h3 _ _
    subst h3
    have hcc : ∀ (j : Nat) (x : Value), cells[j]? = some x → cur[j]? = some x := by
      intro j x hj
      rw [← q4, List.getElem?_take] at hj
      split at hj
      · rw [← Array.getElem?_toList]; exact hj
      · cases hj
    have hl : (seg xs q.1 q.2).length = q.2 - q.1 := by have := e3.1; simpa using this
    have hm : q.2 - q.1 ≤ 1000000 := by
      rw [← hl]
      have : (seg xs q.1 q.2).length ≤ xs.length := by unfold seg; rw [List.length_drop, List.length_take]; omega
      omega
    refine ⟨g, cur, _, A1, _, k1, rfl, hg, by rw [Nat.mul_comm]; exact hcc _ _ e1, by rw [Nat.mul_comm]; exact hcc _ _ e2, hm, fun hp => ?_⟩
    obtain ⟨b, k', e4, hBb, hu⟩ := u8s_own e3 hp
    injection e4 with e4 _ _
    exact ⟨b, e4, hBb, hu⟩
set_option maxHeartbeats 800000 in
theorem rsend_arg (g : Nat) (mss : Int) (w : World) (h : mayB mss = false) :
    Calls Try.prog 30 #[.pointer (some ⟨g, 0, none⟩), .int .i64 mss] w fun e w' => e = .returned (.tuple #[.slice none 0 0, .int .i64 1]) ∧ w = w' := by
  unfold mayB at h
  have h := of_decide_eq_false h
  by_cases h1 : mss < 1
  · clear h
    go_enter Try.func30, Try.ntmps30
    go_wp2
    go_ret2
    exact ⟨rfl, rfl⟩
  · have h2 : 1500 < mss := by omega
    have t1 : decide (mss < 1) = false := decide_eq_false h1
    clear h
    go_enter Try.func30, Try.ntmps30
    go_wp2
    go_ret2
    exact ⟨rfl, rfl⟩
section
variable {g c a : Nat} {A : Option Addr} {AT : Int} {ws : List Int} {s : St} {w : World}
theorem Rb.drewN (h : Rb w g A c AT ws a s) (n : Nat) : Rb (w.drewN n) g A c AT ws a s := h.below (below_drewN (Below.refl _ _) n)
theorem runa_q (hb : Rb w g A c AT ws a s) {u : Int} (hu : s.una = u) (n : Nat) : Calls Try.prog 33 #[.pointer (some ⟨g, 0, none⟩)] (w.drewN n) fun e w'' => e = .returned (.int .u32 u) ∧ ∃ m, w'' = w.drewN m := by
  subst hu
  exact Calls.quiet_of_same ((runa_any g c a A AT ws s _ (hb.drewN n)).mono fun e w' h => ⟨h.1, h.2.symm⟩)
theorem rnxt_q (hb : Rb w g A c AT ws a s) {u : Int} (hu : addU s.una s.sent = u) (n : Nat) : Calls Try.prog 36 #[.pointer (some ⟨g, 0, none⟩)] (w.drewN n) fun e w'' => e = .returned (.int .u32 u) ∧ ∃ m, w'' = w.drewN m := by
  subst hu
  exact Calls.quiet_of_same ((rnxt_any g c a A AT ws s _ (hb.drewN n)).mono fun e w' h => ⟨h.1, h.2.symm⟩)
theorem rend_q (hb : Rb w g A c AT ws a s) {u : Int} (hu : addU s.una s.data.length = u) (n : Nat) : Calls Try.prog 37 #[.pointer (some ⟨g, 0, none⟩)] (w.drewN n) fun e w'' => e = .returned (.int .u32 u) ∧ ∃ m, w'' = w.drewN m := by
  subst hu
  exact Calls.quiet_of_same ((rend_any g c a A AT ws s _ (hb.drewN n)).mono fun e w' h => ⟨h.1, h.2.symm⟩)
theorem rleft_q (hb : Rb w g A c AT ws a s) {u : Nat} (hu : s.data.length = u) (n : Nat) : Calls Try.prog 38 #[.pointer (some ⟨g, 0, none⟩)] (w.drewN n) fun e w'' => e = .returned (.int .i64 u) ∧ ∃ m, w'' = w.drewN m := by
  subst hu
  exact Calls.quiet_of (rleft_any g c a A AT ws s _ (hb.drewN n))
end
theorem PlAt.one {w : World} {b m k1 : Nat} {u : Int} {A1 : Option Addr} {xs : List Int} {ty : TypeId} (h : w.heap[b]? = some (.cells #[.int .u32 u, .slice A1 m k1] ty (0, 0))) (hm : xs.length = m) (hb : Byt w (.slice A1 m k1) xs) (hx : ∀ x ∈ xs, 0 ≤ x ∧ x ≤ 255) (c : Nat) :
    PlAt w (.slice (some ⟨b, 0, none⟩) 1 c) [(u, xs)] := by
  subst hm
  refine ⟨_, c, rfl, fun i p hp => ?_⟩
  have hi : i = 0 := by
    have := (List.getElem?_eq_some_iff.1 hp).1
    simp at this
    exact this
  subst hi
  simp at hp
  subst hp
  exact ⟨b, 0, A1, k1, rfl, cell_of h 0, cell_of h 1, hb, hx⟩
theorem SpAt.one {w : World} {B b m k : Nat} {u : Int} {A1 : Option Addr} (h : w.heap[b]? = some (.cells #[.int .u32 u, .slice A1 m k] 38 (0, 0))) (hm : m ≤ 1000000) (hu : 0 < m → ∃ b, A1 = some ⟨b, 0, none⟩ ∧ B ≤ b ∧ U8s w b m) : SpAt w B (some ⟨b, 0, none⟩) 1 := by
  intro i hi
  obtain rfl : i = 0 := by omega
  exact ⟨b, _, u, A1, m, k, rfl, h, rfl, rfl, hm, hu⟩
theorem U8s.grown {w w' : World} {b m : Nat} {r : Option Nat} (h : U8s w b m) (hg : w.grownBy w' r) (hne : r ≠ some b) : U8s w' b m := by
  obtain ⟨cs, h1, h2⟩ := h
  exact ⟨cs, (hg.block b (Array.getElem?_eq_some_iff.1 h1).1 (fun e => hne e.symm)).trans h1, h2⟩
theorem Rb.other {w w' : World} {h rc a k : Nat} {RA : Option Addr} {AT : Int} {ws : List Int} {s : St} (hr : Rb w h RA rc AT ws a s) (hg : w.grownBy w' (some k)) (hne : h ≠ k) (ha : ∀ b, (Value.slice RA ws.length rc).ownBlock = some b → 0 < ws.length → b ≠ k) : Rb w' h RA rc AT ws a s :=
  { hr with heap := (hg.block h hr.lt (by intro e; injection e; omega)).trans hr.heap, byt := hr.byt.keep hg ha }
theorem noneByt (w : World) : Byt w (.slice none 0 0) [] := ⟨none, 0, rfl, Nat.le_refl _, by simp [maxLen], fun h => by simp at h⟩
end Go.Proofs.Ytpigomkhpdfdcaa
