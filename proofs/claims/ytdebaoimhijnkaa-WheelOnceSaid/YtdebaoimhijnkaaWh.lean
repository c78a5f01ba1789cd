/- A wheel: its plain state, and what it is in memory; small calls. -/
import Derived.Test.YtdebaoimhijnkaaApp
import Derived.Test.YtdebaoimhijnkaaOrd2
import Derived.WalkSpells
import Derived.BigQuiet
set_option linter.unusedVariables false
namespace Go.Proofs.Ytdebaoimhijnkaa
open Go.RowKit Go.Deep Go.BigFrame
attribute [local go_sem ↓] Go.wp_at_zero Go.wp_at_succ
/-- What stays: all but what S tells. -/
structure Turns (S : Nat → Prop) (w w' : World) : Prop where
  os : w'.os = w.os
  tape : w'.tape = w.tape
  output : w'.output = w.output
  size : w.heap.size ≤ w'.heap.size
  block : ∀ k, k < w.heap.size → ¬ S k → w'.heap[k]? = w.heap[k]?
theorem Turns.refl (S : Nat → Prop) (w : World) : Turns S w w := ⟨rfl, rfl, rfl, Nat.le_refl _, fun _ _ _ => rfl⟩
theorem Turns.trans {S T : Nat → Prop} {a b c : World} (h : Turns S a b) (k : Turns T b c) (hT : ∀ i, T i → S i ∨ a.heap.size ≤ i) : Turns S a c :=
  ⟨k.os.trans h.os, k.tape.trans h.tape, k.output.trans h.output, Nat.le_trans h.size k.size, fun i hi hs => (k.block i (Nat.lt_of_lt_of_le hi h.size) (fun q => by rcases hT i q with e | e; exact hs e; omega)).trans (h.block i hi hs)⟩
theorem Turns.step {S : Nat → Prop} {w w1 w2 : World} {r : Option Nat} (h : Turns S w w1) (k : w1.grownBy w2 r) (hr : ∀ k, r = some k → S k ∨ w.heap.size ≤ k) : Turns S w w2 :=
  ⟨k.os.trans h.os, k.tape.trans h.tape, k.output.trans h.output, Nat.le_trans h.size k.size, fun i hi hs => (k.block i (Nat.lt_of_lt_of_le hi h.size) (fun q => by rcases hr i q.symm with e | e; exact hs e; omega)).trans (h.block i hi hs)⟩
theorem Turns.of {S : Nat → Prop} {w w' : World} (h : Below w.heap.size w w') : Turns S w w' := ⟨h.os, h.tape, h.output, h.size, fun k hk _ => h.block k hk⟩
theorem Turns.drew {S : Nat → Prop} {w w1 : World} (h : Turns S w w1) : Turns S w w1.drew := ⟨h.os, h.tape, h.output, h.size, h.block⟩
theorem Turns.below {S : Nat → Prop} {w w1 w2 : World} (h : Turns S w w1) (k : Below w1.heap.size w1 w2) : Turns S w w2 := h.trans (Turns.of (S := S) k) fun i q => .inl q
/-- The blocks of a wheel. -/
def Two (g b : Nat) : Nat → Prop := fun k => k = g ∨ k = b
/-- The clock, and the alarms by instants, then ids. -/
structure WS where
  now : Int
  L : List Al
def slotOf (a : Al) : Nat := (a.t % 64).toNat
def atSlot (L : List Al) (k : Nat) : List Al := L.filter fun a => decide (slotOf a = k)
structure WS.Ok (s : WS) : Prop where
  als : Als s.L
  srt : s.L.Pairwise ltF
  now0 : 0 ≤ s.now
  nowM : s.now ≤ 1099511627776
  tM : ∀ a ∈ s.L, a.t ≤ 1099511627776
/-- One list of the ring. -/
def SlotAt (w : World) (v : Option Value) (M0 : List Al) : Prop := ∃ A c M, v = some (.slice A M.length c) ∧ AlsAt 66 w A M ∧ M.Perm M0
structure Wh (w : World) (g b nn : Nat) (s : WS) : Prop where
  heap : ∃ cs : Array Value, w.heap[g]? = some (.cells cs 54 (0, 0)) ∧ cs.size = 66 ∧ cs[0]? = some (.int .u64 s.now) ∧ cs[65]? = some (.map (some b)) ∧ ∀ k, k < 64 → SlotAt w cs[k + 1]? (atSlot s.L k)
  map : MapU w b nn s.L
  ok : s.Ok
  len : s.L.length ≤ nn
theorem SlotAt.keptE {w w' : World} {v : Option Value} {M0 : List Al} (h : SlotAt w v M0) (hs : w.heap.size ≤ w'.heap.size) (k : ∀ b, b < w.heap.size → (∃ cs fr, w.heap[b]? = some (.cells cs 66 fr)) → w'.heap[b]? = w.heap[b]?) : SlotAt w' v M0 := by
  obtain ⟨A, c, M, e, ha, hp⟩ := h
  exact ⟨A, c, M, e, ha.keptE hs k, hp⟩
theorem Wh.keptE {w w' : World} {g b nn : Nat} {s : WS} (h : Wh w g b nn s) (hs : w.heap.size ≤ w'.heap.size) (eg : w'.heap[g]? = w.heap[g]?) (eb : w'.heap[b]? = w.heap[b]?)
    (k : ∀ b, b < w.heap.size → (∃ cs fr, w.heap[b]? = some (.cells cs 66 fr)) → w'.heap[b]? = w.heap[b]?) : Wh w' g b nn s := by
  obtain ⟨cs, h1, h2, h3, h4, h5⟩ := h.heap
  exact ⟨⟨cs, eg.trans h1, h2, h3, h4, fun j hj => (h5 j hj).keptE hs k⟩, h.map.keptE eb, h.ok, h.len⟩
theorem Wh.glt {w : World} {g b nn : Nat} {s : WS} (h : Wh w g b nn s) : g < w.heap.size := by
  obtain ⟨cs, h1, _⟩ := h.heap
  exact (Array.getElem?_eq_some_iff.1 h1).1
theorem Wh.blt {w : World} {g b nn : Nat} {s : WS} (h : Wh w g b nn s) : b < w.heap.size := h.map.lt
theorem Wh.gb {w : World} {g b nn : Nat} {s : WS} (h : Wh w g b nn s) : g ≠ b := by
  obtain ⟨cs, h1, _⟩ := h.heap
  obtain ⟨es, ck, h2⟩ := h.map.isMap
  intro e
  rw [← e, h1] at h2
  cases h2
theorem Wh.below {w w' : World} {g b nn : Nat} {s : WS} (h : Wh w g b nn s) (hb : Below w.heap.size w w') : Wh w' g b nn s :=
  h.keptE hb.size (hb.block _ h.glt) (hb.block _ h.blt) fun k hk _ => hb.block k hk
/-- No list of alarms is touched. -/
theorem Wh.apart {w w' : World} {g b nn : Nat} {s : WS} (h : Wh w g b nn s) (ht : Turns (Two g b) w w') : ∀ k, k < w.heap.size → (∃ cs fr, w.heap[k]? = some (.cells cs 66 fr)) → w'.heap[k]? = w.heap[k]? := by
  obtain ⟨cs, h1, _⟩ := h.heap
  obtain ⟨es, ck, h2⟩ := h.map.isMap
  intro k hk ⟨cs2, fr, hc⟩
  refine ht.block k hk ?_
  rintro (rfl | rfl)
  · rw [h1] at hc; cases hc
  · rw [h2] at hc; cases hc
theorem Wh.other {w w' : World} {g b nn g' b' nn' : Nat} {s s' : WS} (h : Wh w g b nn s) (h' : Wh w g' b' nn' s') (hg : g ≠ g') (hb : b ≠ b') (ht : Turns (Two g' b') w w') : Wh w' g b nn s := by
  obtain ⟨cs, h1, _⟩ := h.heap
  obtain ⟨es, ck, h2⟩ := h.map.isMap
  obtain ⟨cs', h1', _⟩ := h'.heap
  obtain ⟨es', ck', h2'⟩ := h'.map.isMap
  refine h.keptE ht.size (ht.block _ h.glt ?_) (ht.block _ h.blt ?_) (h'.apart ht)
  · rintro (e | e)
    · exact hg e
    · subst e; rw [h1] at h2'; cases h2'
  · rintro (e | e)
    · subst e; rw [h2] at h1'; cases h1'
    · exact hb e
set_option maxHeartbeats 800000
set_option maxRecDepth 100000
theorem none_any {w : World} {g b nn : Nat} {s : WS} (h : Wh w g b nn s) : Calls Try.prog 25 #[.pointer (some ⟨g, 0, none⟩)] w fun e w' => e = .returned (.bool false) ∧ w = w' := by
  obtain ⟨cs, h1, h2, h3, h4, h5⟩ := h.heap
  have c65 : w.cell? ⟨g, 65, none⟩ = some (.map (some b)) := by rw [cell_of h1, h4]
  have qT : ∀ (w : World) (r : Option Nat), (binOp .eql 52 (.map r) (.map none)).run Try.prog w = .ok (.bool r.isNone) w := fun w r => run_eql_map_nil w _ _ _ r Try.underlying52
  clear h h1 h2 h3 h4 h5
  go_enter Try.func25, Try.ntmps25
  go_wp2_with fail
  go_ret
  exact ⟨rfl, rfl⟩
theorem now_any {w : World} {g b nn : Nat} {s : WS} (h : Wh w g b nn s) : Calls Try.prog 21 #[.pointer (some ⟨g, 0, none⟩)] w fun e w' => e = .returned (.int .u64 s.now) ∧ w = w' := by
  have HN := Lib.hid (none_any h)
  obtain ⟨cs, h1, h2, h3, h4, h5⟩ := h.heap
  have c0 : w.cell? ⟨g, 0, none⟩ = some (.int .u64 s.now) := by rw [cell_of h1, h3]
  clear h h1 h2 h3 h4 h5
  go_enter Try.func21, Try.ntmps21
  go_wp2_with (go_at_call 25; refine HN.out.mono ?_; rintro e w' ⟨rfl, rfl⟩)
  go_ret
  exact ⟨rfl, rfl⟩
theorem len_any {w : World} {g b nn : Nat} {s : WS} (h : Wh w g b nn s) : Calls Try.prog 22 #[.pointer (some ⟨g, 0, none⟩)] w fun e w' => e = .returned (.int .i64 s.L.length) ∧ w = w' := by
  have HN := Lib.hid (none_any h)
  have HM := fun ty => h.map.len ty
  obtain ⟨cs, h1, h2, h3, h4, h5⟩ := h.heap
  have c65 : w.cell? ⟨g, 65, none⟩ = some (.map (some b)) := by rw [cell_of h1, h4]
  obtain ⟨n, hn⟩ : ∃ n, s.L.length = n := ⟨_, rfl⟩
  rw [hn] at HM ⊢
  clear h h1 h2 h3 h4 h5 hn
  go_enter Try.func22, Try.ntmps22
  go_wp2_with (go_at_call 25; refine HN.out.mono ?_; rintro e w' ⟨rfl, rfl⟩)
  go_ret
  exact ⟨rfl, rfl⟩
theorem at_any {w : World} {g b nn : Nat} {s : WS} (h : Wh w g b nn s) (id : Int) (hid : (Lit.int .u64 id).wf = true) : Calls Try.prog 19 #[.pointer (some ⟨g, 0, none⟩), .int .u64 id] w fun e w' => e = .returned (.tuple #[.int .u64 (atA s.L id), .bool (findA s.L id).isSome]) ∧ w = w' := by
  have HN := Lib.hid (none_any h)
  have HM := h.map.look hid
  obtain ⟨cs, h1, h2, h3, h4, h5⟩ := h.heap
  have c65 : w.cell? ⟨g, 65, none⟩ = some (.map (some b)) := by rw [cell_of h1, h4]
  obtain ⟨x, hx⟩ : ∃ x, atA s.L id = x := ⟨_, rfl⟩
  obtain ⟨y, hy⟩ : ∃ y, (findA s.L id).isSome = y := ⟨_, rfl⟩
  rw [hx, hy] at HM ⊢
  clear h h1 h2 h3 h4 h5 hx hy hid
  go_enter Try.func19, Try.ntmps19
  go_wp2_with (go_at_call 25; refine HN.out.mono ?_; rintro e w' ⟨rfl, rfl⟩)
  go_ret2
  exact ⟨rfl, rfl⟩
end Go.Proofs.Ytdebaoimhijnkaa
