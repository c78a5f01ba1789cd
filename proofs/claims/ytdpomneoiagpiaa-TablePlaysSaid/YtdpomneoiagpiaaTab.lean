/- A table in memory, and its small calls. -/
import Derived.Test.YtdpomneoiagpiaaDel
set_option linter.unusedVariables false
namespace Go.Proofs.Ytdpomneoiagpiaa
open Go.RowKit Go.Deep Go.BigFrame
attribute [local go_sem ↓] Go.wp_at_zero Go.wp_at_succ
def innF (L : List Fl) (x : Tup) : Int := match L.find? (fun f => decide (f.inn = x)) with | some f => f.id | none => 0
def outF (L : List Fl) (x : Tup) : Int := if x = Tup.zero then 0 else match L.find? (fun f => decide (f.out = x)) with | some f => f.id | none => 0
structure TS where
  most : Nat
  L : List Fl
  last : Nat
structure TS.Ok (s : TS) : Prop where
  most1 : 1 ≤ s.most
  most2 : s.most ≤ 1024
  len : s.L.length ≤ s.most
  ids : ∀ f ∈ s.L, 1 ≤ f.id ∧ f.id ≤ s.last
  idn : s.L.Pairwise (fun f g => f.id ≠ g.id)
  tup : ∀ f ∈ s.L, f.inn.Ok ∧ f.out.Ok ∧ f.inn ≠ Tup.zero
  innn : s.L.Pairwise (fun f g => f.inn ≠ g.inn)
  outn : s.L.Pairwise (fun f g => f.out ≠ Tup.zero → f.out ≠ g.out)
  last : s.last ≤ 1000000
def tcells (s : TS) (A : Option Addr) (c b1 b2 : Nat) : Array Value := #[.int .i64 s.most, .slice A s.L.length c, .map (some b1), .map (some b2), .int .u64 s.last]
/-- Nothing is turned but the blocks of a set, and what is new. -/
structure Turns (S : Nat → Prop) (w w' : World) : Prop where
  os : w'.os = w.os
  tape : w'.tape = w.tape
  output : w'.output = w.output
  size : w.heap.size ≤ w'.heap.size
  block : ∀ k, k < w.heap.size → ¬ S k → w'.heap[k]? = w.heap[k]?
theorem Turns.refl (S : Nat → Prop) (w : World) : Turns S w w := ⟨rfl, rfl, rfl, Nat.le_refl _, fun _ _ _ => rfl⟩
theorem Turns.trans {S T : Nat → Prop} {a b c : World} (h : Turns S a b) (k : Turns T b c) (hT : ∀ i, T i → S i ∨ a.heap.size ≤ i) : Turns S a c :=
  ⟨k.os.trans h.os, k.tape.trans h.tape, k.output.trans h.output, Nat.le_trans h.size k.size, fun i hi hs => (k.block i (Nat.lt_of_lt_of_le hi h.size) (fun q => by rcases hT i q with e | e; exact hs e; omega)).trans (h.block i hi hs)⟩
theorem Turns.below {S : Nat → Prop} {w w' : World} (h : Below w.heap.size w w') : Turns S w w' := ⟨h.os, h.tape, h.output, h.size, fun k hk _ => h.block k hk⟩
theorem Turns.grown {S : Nat → Prop} {w w' : World} {r : Option Nat} (h : w.grownBy w' r) (hr : ∀ k, r = some k → S k ∨ w.heap.size ≤ k) : Turns S w w' :=
  ⟨h.os, h.tape, h.output, h.size, fun k hk hs => h.block k hk (fun q => by rcases hr k q.symm with e | e; exact hs e; omega)⟩
theorem Turns.toBelow {S : Nat → Prop} {w w' : World} (h : Turns S w w') {B : Nat} (hB : B ≤ w.heap.size) (hS : ∀ k, S k → B ≤ k) : Below B w w' :=
  ⟨h.os, h.tape, h.output, h.size, fun k hk => h.block k (by omega) (fun q => by have := hS k q; omega)⟩
theorem MapF.keptE {w w' : World} {b n : Nat} {f : Tup → Int} (h : MapF w b n f) (e : w'.heap[b]? = w.heap[b]?) : MapF w' b n f := by
  obtain ⟨D, ⟨es, clock, hb, F, hs, hD⟩, hf⟩ := h
  exact ⟨D, ⟨es, clock, e.trans hb, F, hs, hD⟩, hf⟩
theorem row_keptE {w w' : World} {B : Nat} {e : TypeId} {size n c : Nat} {m : Nat} {A : Option Addr} {xs : List Value} (h : w.ownsRow B e size (.slice A m c) n xs) (k : ∀ g, A = some ⟨g, 0, none⟩ → w'.heap[g]? = w.heap[g]?) : w'.ownsRow B e size (.slice A m c) n xs := by
  obtain ⟨hl, h2⟩ := h
  refine ⟨hl, ?_⟩
  rcases h2 with h3 | ⟨g, cap, cur, h3, hb, hg, hr⟩
  · exact .inl h3
  · injection h3 with h3 h4 h5
    exact .inr ⟨g, cap, cur, by rw [h3, h4, h5], hb, (k g h3).trans hg, hr⟩
structure Tb (w : World) (g : Nat) (A : Option Addr) (c b1 b2 N : Nat) (s : TS) : Prop where
  heap : w.heap[g]? = some (.cells (tcells s A c b1 b2) 72 (0, 0))
  own : w.ownsRow 0 38 12 (.slice A s.L.length c) s.L.length (row s.L)
  inn : MapF w b1 N (innF s.L)
  out : MapF w b2 N (outF s.L)
  ne : b1 ≠ b2
  nN : N ≤ 1000000
/-- A table's blocks. -/
def Blk (g : Nat) (A : Option Addr) (b1 b2 : Nat) (k : Nat) : Prop := k = g ∨ k = b1 ∨ k = b2 ∨ A = some ⟨k, 0, none⟩
section
variable {w w' : World} {g c b1 b2 N : Nat} {A : Option Addr} {s : TS}
theorem Tb.lt (h : Tb w g A c b1 b2 N s) : g < w.heap.size := (Array.getElem?_eq_some_iff.1 h.heap).1
theorem row_lt {w : World} {B : Nat} {e : TypeId} {size n c m : Nat} {A : Option Addr} {xs : List Value} (h : w.ownsRow B e size (.slice A m c) n xs) {k : Nat} (hk : A = some ⟨k, 0, none⟩) : k < w.heap.size ∧ ∃ cs fr, w.heap[k]? = some (.cells cs e fr) := by
  rcases h.2 with ⟨h3, h4⟩ | ⟨g, cap, cur, h3, hb, hg, q1, q2, q3, q4⟩
  · injection h3 with h3
    rw [h3] at hk
    cases hk
  · injection h3 with h3
    rw [h3] at hk
    injection hk with hk
    injection hk with hk
    subst hk
    exact ⟨(Array.getElem?_eq_some_iff.1 hg).1, cur, (0, 0), hg⟩
theorem Tb.blk (h : Tb w g A c b1 b2 N s) {k : Nat} (hk : Blk g A b1 b2 k) : k < w.heap.size := by
  rcases hk with rfl | rfl | rfl | hk
  · exact h.lt
  · exact h.inn.lt
  · exact h.out.lt
  · exact (row_lt h.own hk).1
theorem Tb.keptE (h : Tb w g A c b1 b2 N s) (k : ∀ i, Blk g A b1 b2 i → w'.heap[i]? = w.heap[i]?) : Tb w' g A c b1 b2 N s :=
  { h with heap := (k g (.inl rfl)).trans h.heap, own := row_keptE h.own (fun i hi => k i (.inr (.inr (.inr hi)))), inn := h.inn.keptE (k _ (.inr (.inl rfl))), out := h.out.keptE (k _ (.inr (.inr (.inl rfl)))) }
theorem Tb.below (h : Tb w g A c b1 b2 N s) (hb : Below w.heap.size w w') : Tb w' g A c b1 b2 N s := h.keptE fun i hi => hb.block i (h.blk hi)
theorem Tb.kept (h : Tb w g A c b1 b2 N s) {S : Nat → Prop} (ht : Turns S w w') (hS : ∀ k, Blk g A b1 b2 k → ¬ S k) : Tb w' g A c b1 b2 N s := h.keptE fun i hi => ht.block i (h.blk hi) (hS i hi)
theorem Tb.c0 (h : Tb w g A c b1 b2 N s) : w.cell? ⟨g, 0, none⟩ = some (.int .i64 s.most) := cell_of h.heap 0
theorem Tb.c1 (h : Tb w g A c b1 b2 N s) : w.cell? ⟨g, 1, none⟩ = some (.slice A s.L.length c) := cell_of h.heap 1
theorem Tb.c2 (h : Tb w g A c b1 b2 N s) : w.cell? ⟨g, 2, none⟩ = some (.map (some b1)) := cell_of h.heap 2
theorem Tb.c3 (h : Tb w g A c b1 b2 N s) : w.cell? ⟨g, 3, none⟩ = some (.map (some b2)) := cell_of h.heap 3
theorem Tb.c4 (h : Tb w g A c b1 b2 N s) : w.cell? ⟨g, 4, none⟩ = some (.int .u64 s.last) := cell_of h.heap 4
theorem MapF.isMap {w : World} {b n : Nat} {f : Tup → Int} (h : MapF w b n f) : ∃ es ck, w.heap[b]? = some (.map es ck) := by
  obtain ⟨D, ⟨es, ck, hm, _⟩, _⟩ := h
  exact ⟨es, ck, hm⟩
theorem Tb.ng1 (h : Tb w g A c b1 b2 N s) : b1 ≠ g := by
  intro e
  subst e
  obtain ⟨es, ck, hm⟩ := h.inn.isMap
  rw [h.heap] at hm
  cases hm
theorem Tb.ng2 (h : Tb w g A c b1 b2 N s) : b2 ≠ g := by
  intro e
  subst e
  obtain ⟨es, ck, hm⟩ := h.out.isMap
  rw [h.heap] at hm
  cases hm
theorem Tb.nA (h : Tb w g A c b1 b2 N s) : A ≠ some ⟨g, 0, none⟩ := by
  intro e
  obtain ⟨_, cs, fr, hh⟩ := row_lt h.own e
  rw [h.heap] at hh
  injection hh with hh
  injection hh with _ hh
  cases hh
theorem Tb.nA1 (h : Tb w g A c b1 b2 N s) : A ≠ some ⟨b1, 0, none⟩ := by
  intro e
  obtain ⟨_, cs, fr, hh⟩ := row_lt h.own e
  obtain ⟨es, ck, hm⟩ := h.inn.isMap
  rw [hm] at hh
  cases hh
theorem Tb.nA2 (h : Tb w g A c b1 b2 N s) : A ≠ some ⟨b2, 0, none⟩ := by
  intro e
  obtain ⟨_, cs, fr, hh⟩ := row_lt h.own e
  obtain ⟨es, ck, hm⟩ := h.out.isMap
  rw [hm] at hh
  cases hh
end
section
set_option maxHeartbeats 800000
theorem none_any (g : Nat) (most : Int) (w : World) (hc : w.cell? ⟨g, 0, none⟩ = some (.int .i64 most)) (hm : 1 ≤ most) :
    Calls Try.prog 32 #[.pointer (some ⟨g, 0, none⟩)] w fun e w' => e = .returned (.bool false) ∧ w = w' := by
  have h0 : (most == 0) = false := by simp; omega
  go_enter Try.func32, Try.ntmps32
  go_wp2
  go_ret
  exact ⟨rfl, rfl⟩
theorem none_nil (w : World) : Calls Try.prog 32 #[.pointer none] w fun e w' => e = .returned (.bool true) ∧ w = w' := by
  go_enter Try.func32, Try.ntmps32
  go_wp2
  go_ret
  exact ⟨rfl, rfl⟩
theorem none_zero (g : Nat) (w : World) (hc : w.cell? ⟨g, 0, none⟩ = some (.int .i64 0)) :
    Calls Try.prog 32 #[.pointer (some ⟨g, 0, none⟩)] w fun e w' => e = .returned (.bool true) ∧ w = w' := by
  go_enter Try.func32, Try.ntmps32
  go_wp2
  go_ret
  exact ⟨rfl, rfl⟩
theorem of_any (n : Int) (w : World) : Calls Try.prog 11 #[.int .u32 n] w fun e w' => e = .returned (Tup.of n).val ∧ Below w.heap.size w w' := by
  unfold Tup.val Tup.of
  go_enter Try.func11, Try.ntmps11
  go_wp2
  refine bodyPost_ret (v := .agg #[.int .u8 0, .int .u32 n, .int .u32 0, .int .u16 0, .int .u16 0]) (by simp [results, Try.results11, go_sem]) rfl ?_
  exact ⟨rfl, by repeat (first | exact Below.refl _ _ | (refine Below.setCell ?_ (by simp) _) | (refine Below.alloc ?_ (by simp) _))⟩
theorem zero_any (x : Tup) (w : World) : Calls Try.prog 33 #[x.val] w fun e w' => e = .returned (.bool (decide (x = Tup.zero))) ∧ Below w.heap.size w w' := by
  obtain ⟨a, b, c, d, e⟩ := x
  unfold Tup.val
  go_enter Try.func33, Try.ntmps33
  go_wp2
  all_goals
    go_ret
    exact ⟨ret_bool (by simp_all [Tup.zero]), (Below.refl _ _).alloc (Nat.le_refl _) _⟩
set_option maxHeartbeats 1600000 in
theorem new_yes (most : Nat) (w : World) (h1 : 1 ≤ most) (h2 : most ≤ 1024) :
    Calls Try.prog 8 #[.int .i64 most] w fun e w' => ∃ g b1 b2, e = .returned (.tuple #[.pointer (some ⟨g, 0, none⟩), .int .i64 0]) ∧ Tb w' g none 0 b1 b2 0 ⟨most, [], 0⟩ ∧ Below w.heap.size w w' ∧ w.heap.size ≤ g ∧ w.heap.size ≤ b1 ∧ w.heap.size ≤ b2 := by
  have hmm := @run_makeMap Try.prog
  go_enter Try.func8, Try.ntmps8
  go_wp2
  go_ret2
  obtain ⟨X1, hX1⟩ : ∃ X1, X1 = w.alloc (Obj.map #[] 0) := ⟨_, rfl⟩
  obtain ⟨X2, hX2⟩ : ∃ X2, X2 = X1.alloc (Obj.map #[] 0) := ⟨_, rfl⟩
  rw [← hX1, ← hX2]
  have s1 : X1.heap.size = w.heap.size + 1 := by rw [hX1]; simp
  have s2 : X2.heap.size = w.heap.size + 1 + 1 := by rw [hX2, ← s1]; simp
  have m1 : MapF X1 w.heap.size 0 (fun _ => 0) := by rw [hX1]; exact MapF.made w
  have m2 : MapF X2 (w.heap.size + 1) 0 (fun _ => 0) := by rw [hX2, ← s1]; exact MapF.made X1
  have b1 : Below w.heap.size w X1 := by rw [hX1]; exact (Below.refl _ _).alloc (Nat.le_refl _) _
  have b2 : Below X1.heap.size X1 X2 := by rw [hX2]; exact (Below.refl _ _).alloc (Nat.le_refl _) _
  have m1' := m1.kept (r := none) (grown_below b2) (by simp)
  obtain ⟨X3, hX3⟩ : ∃ X3, X3 = X2.alloc (Obj.cells #[.int .i64 most, .slice none 0 0, .map (some w.heap.size), .map (some (w.heap.size + 1)), .int .u64 0] 72) := ⟨_, rfl⟩
  rw [← hX3]
  have b3 : Below X2.heap.size X2 X3 := by rw [hX3]; exact (Below.refl _ _).alloc (Nat.le_refl _) _
  have h3 : X3.heap[w.heap.size + 1 + 1]? = some (.cells #[.int .i64 most, .slice none 0 0, .map (some w.heap.size), .map (some (w.heap.size + 1)), .int .u64 0] 72 (0, 0)) := by rw [hX3, ← s2]; exact heap_alloc_new X2 _
  have s3 : X3.heap.size = w.heap.size + 3 := by rw [hX3]; simp [s2]
  refine ⟨w.heap.size + 1 + 1, w.heap.size, w.heap.size + 1, rfl, ?_, (b1.trans (b2.mono (by omega))).trans (b3.mono (by omega)), by omega, Nat.le_refl _, by omega⟩
  exact {
    heap := h3
    own := World.ownsRow_nil _ _ _ _
    inn := m1'.kept (r := none) (grown_below b3) (by simp)
    out := (m2.kept (r := none) (grown_below b3) (by simp)).congr (fun t _ => by simp [outF])
    ne := by omega
    nN := by omega }
theorem new_no (most : Int) (w : World) (h : most < 1 ∨ 1024 < most) :
    Calls Try.prog 8 #[.int .i64 most] w fun e w' => e = .returned (.tuple #[.pointer none, .int .i64 1]) ∧ w = w' := by
  by_cases h1 : most < 1
  · have t1 : decide (most < 1) = true := decide_eq_true h1
    clear h
    go_enter Try.func8, Try.ntmps8
    go_wp2
    go_ret2
    exact ⟨rfl, rfl⟩
  · have h2 : 1024 < most := by omega
    have t1 : decide (most < 1) = false := decide_eq_false h1
    have t2 : decide (1024 < most) = true := decide_eq_true h2
    clear h
    go_enter Try.func8, Try.ntmps8
    go_wp2
    go_ret2
    exact ⟨rfl, rfl⟩
end
section
variable {w : World} {g c b1 b2 N : Nat} {A : Option Addr} {s : TS}
set_option maxHeartbeats 1600000
theorem inner_any (h : Tb w g A c b1 b2 N s) (ho : s.Ok) (x : Tup) (hx : x.Ok) :
    Calls Try.prog 20 #[.pointer (some ⟨g, 0, none⟩), x.val] w fun e w' => e = .returned (.tuple #[.int .u64 (innF s.L x), .bool (innF s.L x != 0)]) ∧ Below w.heap.size w w' := by
  have hA : ∀ o, Below w.heap.size w (w.alloc o) := fun o => (Below.refl w.heap.size w).alloc (Nat.le_refl _) o
  have HN := Lib.hid (fun o => none_any g s.most (w.alloc o) (((hA o).cell (p := ⟨g, 0, none⟩) h.lt).trans h.c0) (by have := ho.most1; omega))
  have c2 := fun o => ((hA o).cell (p := ⟨g, 2, none⟩) h.lt).trans h.c2
  have hl := fun o q => ((h.below ((hA o).trans (below_drewN (Below.refl _ _) q |>.mono (hA o).size))).inn.look hx).1
  obtain ⟨v, hv⟩ : ∃ v, innF s.L x = v := ⟨_, rfl⟩
  rw [hv] at hl ⊢
  obtain ⟨a, b, c', d, e⟩ := x
  unfold Tup.val at hl ⊢
  simp only at hl ⊢
  clear h ho hx hv
  go_enter Try.func20, Try.ntmps20
  go_wp2_with (go_at_call 32; refine (HN.out _).mono ?_; rintro e w' ⟨rfl, rfl⟩)
  go_quiet (fail)
  go_wp2
  go_ret2
  exact ⟨rfl, below_drewN (hA _) _⟩
theorem outer_any (h : Tb w g A c b1 b2 N s) (ho : s.Ok) (x : Tup) (hx : x.Ok) :
    Calls Try.prog 16 #[.pointer (some ⟨g, 0, none⟩), x.val] w fun e w' => e = .returned (.tuple #[.int .u64 (outF s.L x), .bool (outF s.L x != 0)]) ∧ Below w.heap.size w w' := by
  have hA : ∀ o, Below w.heap.size w (w.alloc o) := fun o => (Below.refl w.heap.size w).alloc (Nat.le_refl _) o
  have HN := Lib.hid (fun o => none_any g s.most (w.alloc o) (((hA o).cell (p := ⟨g, 0, none⟩) h.lt).trans h.c0) (by have := ho.most1; omega))
  have c2 := fun o => ((hA o).cell (p := ⟨g, 3, none⟩) h.lt).trans h.c3
  have hl := fun o q => ((h.below ((hA o).trans (below_drewN (Below.refl _ _) q |>.mono (hA o).size))).out.look hx).1
  obtain ⟨v, hv⟩ : ∃ v, outF s.L x = v := ⟨_, rfl⟩
  rw [hv] at hl ⊢
  obtain ⟨a, b, c', d, e⟩ := x
  unfold Tup.val at hl ⊢
  simp only at hl ⊢
  clear h ho hx hv
  go_enter Try.func16, Try.ntmps16
  go_wp2_with (go_at_call 32; refine (HN.out _).mono ?_; rintro e w' ⟨rfl, rfl⟩)
  go_quiet (fail)
  go_wp2
  go_ret2
  exact ⟨rfl, below_drewN (hA _) _⟩
theorem len_any (h : Tb w g A c b1 b2 N s) (ho : s.Ok) :
    Calls Try.prog 14 #[.pointer (some ⟨g, 0, none⟩)] w fun e w' => e = .returned (.int .i64 s.L.length) ∧ w = w' := by
  have HN := Lib.hid (none_any g s.most w h.c0 (by have := ho.most1; omega))
  have c1 := h.c1
  obtain ⟨n, hn⟩ : ∃ n, s.L.length = n := ⟨_, rfl⟩
  rw [hn] at c1 ⊢
  clear h ho hn
  go_enter Try.func14, Try.ntmps14
  go_wp2_with (go_at_call 32; refine HN.out.mono ?_; rintro e w' ⟨rfl, rfl⟩)
  go_ret
  exact ⟨rfl, rfl⟩
theorem all_any (h : Tb w g A c b1 b2 N s) (ho : s.Ok) :
    Calls Try.prog 19 #[.pointer (some ⟨g, 0, none⟩)] w fun e w' => ∃ v, e = .returned v ∧ w'.ownsRow w.heap.size 38 12 v s.L.length (row s.L) ∧ Below w.heap.size w w' := by
  have HN := Lib.hid (none_any g s.most w h.c0 (by have := ho.most1; omega))
  have c1 := h.c1
  have HC := Lib.hid (clone_any 0 c A s.L s.L.length w rfl h.own (by have := ho.len; have := ho.most2; omega))
  obtain ⟨n, hn⟩ : ∃ n, s.L.length = n := ⟨_, rfl⟩
  rw [hn] at c1 HC ⊢
  clear h ho hn
  go_enter Try.func19, Try.ntmps19
  go_wp2_with (first | (go_at_call 32; refine HN.out.mono ?_; rintro e w' ⟨rfl, rfl⟩) | (go_at_call 44; refine HC.out.mono ?_; rintro e w' ⟨v, rfl, ho, hb⟩))
  go_ret
  exact ⟨_, rfl, ho, hb⟩
theorem at_hit38 (h : Tb w g A c b1 b2 N s) (ho : s.Ok) (id : Int) (k : Nat) (hk : idx (fun f => f.id == id) s.L = k) (hkl : k < s.L.length) (ba : Nat) (hA : A = some ⟨ba, 0, none⟩) (p : Addr) (R : Int → World → Prop)
    (hdo : ∀ W, Below w.heap.size w W → Calls Try.prog 38 #[.int .i64 k, .pointer (some ⟨ba, k * 12, none⟩), .pointer (some p)] W fun e w' => ∃ n, e = .returned (.int .i64 n) ∧ R n w') :
    Calls Try.prog 37 #[.pointer (some ⟨g, 0, none⟩), .int .u64 id, .func (.func 38) #[] #[.pointer (some p)]] w fun e w' => ∃ n, e = .returned (.int .i64 n) ∧ R n w' := by
  have hB : ∀ o, Below w.heap.size w (w.alloc o) := fun o => (Below.refl w.heap.size w).alloc (Nat.le_refl _) o
  have HN := Lib.hid (fun o => none_any g s.most (w.alloc o) (((hB o).cell (p := ⟨g, 0, none⟩) h.lt).trans h.c0) (by have := ho.most1; omega))
  have c1 := fun o => ((hB o).cell (p := ⟨g, 1, none⟩) h.lt).trans h.c1
  have HI := Lib.hid (fun o (ho' : (w.alloc o).cell? ⟨w.heap.size, 0, none⟩ = some (.int .u64 id)) => idxId_any A c s.L s.L.length ⟨w.heap.size, 0, none⟩ id (w.alloc o) rfl ((FlsAt.own h.own).below (hB o)) (by have := ho.len; have := ho.most2; omega) ho')
  have HT := Lib.hid (fun W (hW : Below w.heap.size w W) => (hW.cell (p := ⟨g, 1, none⟩) h.lt).trans h.c1)
  have HDO := Lib.hid hdo
  rw [hk] at HI
  subst hA
  obtain ⟨n, hn⟩ : ∃ n, s.L.length = n := ⟨_, rfl⟩
  rw [hn] at c1 HI HT hkl
  clear h ho hn hk hdo
  go_enter Try.func37, Try.ntmps37
  go_wp2_with fail
  refine (HN.out _).mono ?_
  rintro e w' ⟨rfl, rfl⟩
  go_wp2_with fail
  refine (HI.out _ (by go_simp)).mono ?_
  rintro e w2 ⟨rfl, hb2⟩
  have hB2 := (hB (Obj.cells #[.int .u64 id] 27)).trans (hb2.mono (by simp))
  have t1 := HT.out _ hB2
  go_wp2_with fail
  refine (HDO.out _ hB2).mono ?_
  rintro e w3 ⟨m, rfl, hR⟩
  go_wp2_with fail
  go_ret
  exact ⟨m, rfl, hR⟩
theorem at_none38 (h : Tb w g A c b1 b2 N s) (ho : s.Ok) (id : Int) (hk : idx (fun f => f.id == id) s.L = -1) (p : Addr) :
    Calls Try.prog 37 #[.pointer (some ⟨g, 0, none⟩), .int .u64 id, .func (.func 38) #[] #[.pointer (some p)]] w fun e w' => e = .returned (.int .i64 6) ∧ Below w.heap.size w w' := by
  have hB : ∀ o, Below w.heap.size w (w.alloc o) := fun o => (Below.refl w.heap.size w).alloc (Nat.le_refl _) o
  have HN := Lib.hid (fun o => none_any g s.most (w.alloc o) (((hB o).cell (p := ⟨g, 0, none⟩) h.lt).trans h.c0) (by have := ho.most1; omega))
  have c1 := fun o => ((hB o).cell (p := ⟨g, 1, none⟩) h.lt).trans h.c1
  have HI := Lib.hid (fun o (ho' : (w.alloc o).cell? ⟨w.heap.size, 0, none⟩ = some (.int .u64 id)) => idxId_any A c s.L s.L.length ⟨w.heap.size, 0, none⟩ id (w.alloc o) rfl ((FlsAt.own h.own).below (hB o)) (by have := ho.len; have := ho.most2; omega) ho')
  rw [hk] at HI
  obtain ⟨n, hn⟩ : ∃ n, s.L.length = n := ⟨_, rfl⟩
  rw [hn] at c1 HI
  clear h ho hn hk
  go_enter Try.func37, Try.ntmps37
  go_wp2_with fail
  refine (HN.out _).mono ?_
  rintro e w' ⟨rfl, rfl⟩
  go_wp2_with fail
  refine (HI.out _ (by go_simp)).mono ?_
  rintro e w2 ⟨rfl, hb2⟩
  have hB2 := (hB (Obj.cells #[.int .u64 id] 27)).trans (hb2.mono (by simp))
  go_wp2_with fail
  go_ret
  exact ⟨rfl, hB2⟩
theorem at_hit40 (h : Tb w g A c b1 b2 N s) (ho : s.Ok) (id : Int) (k : Nat) (hk : idx (fun f => f.id == id) s.L = k) (hkl : k < s.L.length) (ba : Nat) (hA : A = some ⟨ba, 0, none⟩) (p : Addr) (R : Int → World → Prop)
    (hdo : ∀ W, Below w.heap.size w W → Calls Try.prog 40 #[.int .i64 k, .pointer (some ⟨ba, k * 12, none⟩), .pointer (some p)] W fun e w' => ∃ n, e = .returned (.int .i64 n) ∧ R n w') :
    Calls Try.prog 37 #[.pointer (some ⟨g, 0, none⟩), .int .u64 id, .func (.func 40) #[] #[.pointer (some p)]] w fun e w' => ∃ n, e = .returned (.int .i64 n) ∧ R n w' := by
  have hB : ∀ o, Below w.heap.size w (w.alloc o) := fun o => (Below.refl w.heap.size w).alloc (Nat.le_refl _) o
  have HN := Lib.hid (fun o => none_any g s.most (w.alloc o) (((hB o).cell (p := ⟨g, 0, none⟩) h.lt).trans h.c0) (by have := ho.most1; omega))
  have c1 := fun o => ((hB o).cell (p := ⟨g, 1, none⟩) h.lt).trans h.c1
  have HI := Lib.hid (fun o (ho' : (w.alloc o).cell? ⟨w.heap.size, 0, none⟩ = some (.int .u64 id)) => idxId_any A c s.L s.L.length ⟨w.heap.size, 0, none⟩ id (w.alloc o) rfl ((FlsAt.own h.own).below (hB o)) (by have := ho.len; have := ho.most2; omega) ho')
  have HT := Lib.hid (fun W (hW : Below w.heap.size w W) => (hW.cell (p := ⟨g, 1, none⟩) h.lt).trans h.c1)
  have HDO := Lib.hid hdo
  rw [hk] at HI
  subst hA
  obtain ⟨n, hn⟩ : ∃ n, s.L.length = n := ⟨_, rfl⟩
  rw [hn] at c1 HI HT hkl
  clear h ho hn hk hdo
  go_enter Try.func37, Try.ntmps37
  go_wp2_with fail
  refine (HN.out _).mono ?_
  rintro e w' ⟨rfl, rfl⟩
  go_wp2_with fail
  refine (HI.out _ (by go_simp)).mono ?_
  rintro e w2 ⟨rfl, hb2⟩
  have hB2 := (hB (Obj.cells #[.int .u64 id] 27)).trans (hb2.mono (by simp))
  have t1 := HT.out _ hB2
  go_wp2_with fail
  refine (HDO.out _ hB2).mono ?_
  rintro e w3 ⟨m, rfl, hR⟩
  go_wp2_with fail
  go_ret
  exact ⟨m, rfl, hR⟩
theorem at_none40 (h : Tb w g A c b1 b2 N s) (ho : s.Ok) (id : Int) (hk : idx (fun f => f.id == id) s.L = -1) (p : Addr) :
    Calls Try.prog 37 #[.pointer (some ⟨g, 0, none⟩), .int .u64 id, .func (.func 40) #[] #[.pointer (some p)]] w fun e w' => e = .returned (.int .i64 6) ∧ Below w.heap.size w w' := by
  have hB : ∀ o, Below w.heap.size w (w.alloc o) := fun o => (Below.refl w.heap.size w).alloc (Nat.le_refl _) o
  have HN := Lib.hid (fun o => none_any g s.most (w.alloc o) (((hB o).cell (p := ⟨g, 0, none⟩) h.lt).trans h.c0) (by have := ho.most1; omega))
  have c1 := fun o => ((hB o).cell (p := ⟨g, 1, none⟩) h.lt).trans h.c1
  have HI := Lib.hid (fun o (ho' : (w.alloc o).cell? ⟨w.heap.size, 0, none⟩ = some (.int .u64 id)) => idxId_any A c s.L s.L.length ⟨w.heap.size, 0, none⟩ id (w.alloc o) rfl ((FlsAt.own h.own).below (hB o)) (by have := ho.len; have := ho.most2; omega) ho')
  rw [hk] at HI
  obtain ⟨n, hn⟩ : ∃ n, s.L.length = n := ⟨_, rfl⟩
  rw [hn] at c1 HI
  clear h ho hn hk
  go_enter Try.func37, Try.ntmps37
  go_wp2_with fail
  refine (HN.out _).mono ?_
  rintro e w' ⟨rfl, rfl⟩
  go_wp2_with fail
  refine (HI.out _ (by go_simp)).mono ?_
  rintro e w2 ⟨rfl, hb2⟩
  have hB2 := (hB (Obj.cells #[.int .u64 id] 27)).trans (hb2.mono (by simp))
  go_wp2_with fail
  go_ret
  exact ⟨rfl, hB2⟩
theorem at_hit41 (h : Tb w g A c b1 b2 N s) (ho : s.Ok) (id : Int) (k : Nat) (hk : idx (fun f => f.id == id) s.L = k) (hkl : k < s.L.length) (ba : Nat) (hA : A = some ⟨ba, 0, none⟩) (p : Addr) (p2 : Addr) (p3 : Addr) (R : Int → World → Prop)
    (hdo : ∀ W, Below w.heap.size w W → Calls Try.prog 41 #[.int .i64 k, .pointer (some ⟨ba, k * 12, none⟩), .pointer (some p), .pointer (some p2), .pointer (some p3)] W fun e w' => ∃ n, e = .returned (.int .i64 n) ∧ R n w') :
    Calls Try.prog 37 #[.pointer (some ⟨g, 0, none⟩), .int .u64 id, .func (.func 41) #[] #[.pointer (some p), .pointer (some p2), .pointer (some p3)]] w fun e w' => ∃ n, e = .returned (.int .i64 n) ∧ R n w' := by
  have hB : ∀ o, Below w.heap.size w (w.alloc o) := fun o => (Below.refl w.heap.size w).alloc (Nat.le_refl _) o
  have HN := Lib.hid (fun o => none_any g s.most (w.alloc o) (((hB o).cell (p := ⟨g, 0, none⟩) h.lt).trans h.c0) (by have := ho.most1; omega))
  have c1 := fun o => ((hB o).cell (p := ⟨g, 1, none⟩) h.lt).trans h.c1
  have HI := Lib.hid (fun o (ho' : (w.alloc o).cell? ⟨w.heap.size, 0, none⟩ = some (.int .u64 id)) => idxId_any A c s.L s.L.length ⟨w.heap.size, 0, none⟩ id (w.alloc o) rfl ((FlsAt.own h.own).below (hB o)) (by have := ho.len; have := ho.most2; omega) ho')
  have HT := Lib.hid (fun W (hW : Below w.heap.size w W) => (hW.cell (p := ⟨g, 1, none⟩) h.lt).trans h.c1)
  have HDO := Lib.hid hdo
  rw [hk] at HI
  subst hA
  obtain ⟨n, hn⟩ : ∃ n, s.L.length = n := ⟨_, rfl⟩
  rw [hn] at c1 HI HT hkl
  clear h ho hn hk hdo
  go_enter Try.func37, Try.ntmps37
  go_wp2_with fail
  refine (HN.out _).mono ?_
  rintro e w' ⟨rfl, rfl⟩
  go_wp2_with fail
  refine (HI.out _ (by go_simp)).mono ?_
  rintro e w2 ⟨rfl, hb2⟩
  have hB2 := (hB (Obj.cells #[.int .u64 id] 27)).trans (hb2.mono (by simp))
  have t1 := HT.out _ hB2
  go_wp2_with fail
  refine (HDO.out _ hB2).mono ?_
  rintro e w3 ⟨m, rfl, hR⟩
  go_wp2_with fail
  go_ret
  exact ⟨m, rfl, hR⟩
theorem at_none41 (h : Tb w g A c b1 b2 N s) (ho : s.Ok) (id : Int) (hk : idx (fun f => f.id == id) s.L = -1) (p : Addr) (p2 : Addr) (p3 : Addr) :
    Calls Try.prog 37 #[.pointer (some ⟨g, 0, none⟩), .int .u64 id, .func (.func 41) #[] #[.pointer (some p), .pointer (some p2), .pointer (some p3)]] w fun e w' => e = .returned (.int .i64 6) ∧ Below w.heap.size w w' := by
  have hB : ∀ o, Below w.heap.size w (w.alloc o) := fun o => (Below.refl w.heap.size w).alloc (Nat.le_refl _) o
  have HN := Lib.hid (fun o => none_any g s.most (w.alloc o) (((hB o).cell (p := ⟨g, 0, none⟩) h.lt).trans h.c0) (by have := ho.most1; omega))
  have c1 := fun o => ((hB o).cell (p := ⟨g, 1, none⟩) h.lt).trans h.c1
  have HI := Lib.hid (fun o (ho' : (w.alloc o).cell? ⟨w.heap.size, 0, none⟩ = some (.int .u64 id)) => idxId_any A c s.L s.L.length ⟨w.heap.size, 0, none⟩ id (w.alloc o) rfl ((FlsAt.own h.own).below (hB o)) (by have := ho.len; have := ho.most2; omega) ho')
  rw [hk] at HI
  obtain ⟨n, hn⟩ : ∃ n, s.L.length = n := ⟨_, rfl⟩
  rw [hn] at c1 HI
  clear h ho hn hk
  go_enter Try.func37, Try.ntmps37
  go_wp2_with fail
  refine (HN.out _).mono ?_
  rintro e w' ⟨rfl, rfl⟩
  go_wp2_with fail
  refine (HI.out _ (by go_simp)).mono ?_
  rintro e w2 ⟨rfl, hb2⟩
  have hB2 := (hB (Obj.cells #[.int .u64 id] 27)).trans (hb2.mono (by simp))
  go_wp2_with fail
  go_ret
  exact ⟨rfl, hB2⟩
theorem at_hit42 (h : Tb w g A c b1 b2 N s) (ho : s.Ok) (id : Int) (k : Nat) (hk : idx (fun f => f.id == id) s.L = k) (hkl : k < s.L.length) (ba : Nat) (hA : A = some ⟨ba, 0, none⟩) (R : Int → World → Prop)
    (hdo : ∀ W, Below w.heap.size w W → Calls Try.prog 42 #[.int .i64 k, .pointer (some ⟨ba, k * 12, none⟩)] W fun e w' => ∃ n, e = .returned (.int .i64 n) ∧ R n w') :
    Calls Try.prog 37 #[.pointer (some ⟨g, 0, none⟩), .int .u64 id, .func (.func 42) #[] #[]] w fun e w' => ∃ n, e = .returned (.int .i64 n) ∧ R n w' := by
  have hB : ∀ o, Below w.heap.size w (w.alloc o) := fun o => (Below.refl w.heap.size w).alloc (Nat.le_refl _) o
  have HN := Lib.hid (fun o => none_any g s.most (w.alloc o) (((hB o).cell (p := ⟨g, 0, none⟩) h.lt).trans h.c0) (by have := ho.most1; omega))
  have c1 := fun o => ((hB o).cell (p := ⟨g, 1, none⟩) h.lt).trans h.c1
  have HI := Lib.hid (fun o (ho' : (w.alloc o).cell? ⟨w.heap.size, 0, none⟩ = some (.int .u64 id)) => idxId_any A c s.L s.L.length ⟨w.heap.size, 0, none⟩ id (w.alloc o) rfl ((FlsAt.own h.own).below (hB o)) (by have := ho.len; have := ho.most2; omega) ho')
  have HT := Lib.hid (fun W (hW : Below w.heap.size w W) => (hW.cell (p := ⟨g, 1, none⟩) h.lt).trans h.c1)
  have HDO := Lib.hid hdo
  rw [hk] at HI
  subst hA
  obtain ⟨n, hn⟩ : ∃ n, s.L.length = n := ⟨_, rfl⟩
  rw [hn] at c1 HI HT hkl
  clear h ho hn hk hdo
  go_enter Try.func37, Try.ntmps37
  go_wp2_with fail
  refine (HN.out _).mono ?_
  rintro e w' ⟨rfl, rfl⟩
  go_wp2_with fail
  refine (HI.out _ (by go_simp)).mono ?_
  rintro e w2 ⟨rfl, hb2⟩
  have hB2 := (hB (Obj.cells #[.int .u64 id] 27)).trans (hb2.mono (by simp))
  have t1 := HT.out _ hB2
  go_wp2_with fail
  refine (HDO.out _ hB2).mono ?_
  rintro e w3 ⟨m, rfl, hR⟩
  go_wp2_with fail
  go_ret
  exact ⟨m, rfl, hR⟩
theorem at_none42 (h : Tb w g A c b1 b2 N s) (ho : s.Ok) (id : Int) (hk : idx (fun f => f.id == id) s.L = -1) :
    Calls Try.prog 37 #[.pointer (some ⟨g, 0, none⟩), .int .u64 id, .func (.func 42) #[] #[]] w fun e w' => e = .returned (.int .i64 6) ∧ Below w.heap.size w w' := by
  have hB : ∀ o, Below w.heap.size w (w.alloc o) := fun o => (Below.refl w.heap.size w).alloc (Nat.le_refl _) o
  have HN := Lib.hid (fun o => none_any g s.most (w.alloc o) (((hB o).cell (p := ⟨g, 0, none⟩) h.lt).trans h.c0) (by have := ho.most1; omega))
  have c1 := fun o => ((hB o).cell (p := ⟨g, 1, none⟩) h.lt).trans h.c1
  have HI := Lib.hid (fun o (ho' : (w.alloc o).cell? ⟨w.heap.size, 0, none⟩ = some (.int .u64 id)) => idxId_any A c s.L s.L.length ⟨w.heap.size, 0, none⟩ id (w.alloc o) rfl ((FlsAt.own h.own).below (hB o)) (by have := ho.len; have := ho.most2; omega) ho')
  rw [hk] at HI
  obtain ⟨n, hn⟩ : ∃ n, s.L.length = n := ⟨_, rfl⟩
  rw [hn] at c1 HI
  clear h ho hn hk
  go_enter Try.func37, Try.ntmps37
  go_wp2_with fail
  refine (HN.out _).mono ?_
  rintro e w' ⟨rfl, rfl⟩
  go_wp2_with fail
  refine (HI.out _ (by go_simp)).mono ?_
  rintro e w2 ⟨rfl, hb2⟩
  have hB2 := (hB (Obj.cells #[.int .u64 id] 27)).trans (hb2.mono (by simp))
  go_wp2_with fail
  go_ret
  exact ⟨rfl, hB2⟩
theorem at_hit43 (h : Tb w g A c b1 b2 N s) (ho : s.Ok) (id : Int) (k : Nat) (hk : idx (fun f => f.id == id) s.L = k) (hkl : k < s.L.length) (ba : Nat) (hA : A = some ⟨ba, 0, none⟩) (p : Addr) (R : Int → World → Prop)
    (hdo : ∀ W, Below w.heap.size w W → Calls Try.prog 43 #[.int .i64 k, .pointer (some ⟨ba, k * 12, none⟩), .pointer (some p)] W fun e w' => ∃ n, e = .returned (.int .i64 n) ∧ R n w') :
    Calls Try.prog 37 #[.pointer (some ⟨g, 0, none⟩), .int .u64 id, .func (.func 43) #[] #[.pointer (some p)]] w fun e w' => ∃ n, e = .returned (.int .i64 n) ∧ R n w' := by
  have hB : ∀ o, Below w.heap.size w (w.alloc o) := fun o => (Below.refl w.heap.size w).alloc (Nat.le_refl _) o
  have HN := Lib.hid (fun o => none_any g s.most (w.alloc o) (((hB o).cell (p := ⟨g, 0, none⟩) h.lt).trans h.c0) (by have := ho.most1; omega))
  have c1 := fun o => ((hB o).cell (p := ⟨g, 1, none⟩) h.lt).trans h.c1
  have HI := Lib.hid (fun o (ho' : (w.alloc o).cell? ⟨w.heap.size, 0, none⟩ = some (.int .u64 id)) => idxId_any A c s.L s.L.length ⟨w.heap.size, 0, none⟩ id (w.alloc o) rfl ((FlsAt.own h.own).below (hB o)) (by have := ho.len; have := ho.most2; omega) ho')
  have HT := Lib.hid (fun W (hW : Below w.heap.size w W) => (hW.cell (p := ⟨g, 1, none⟩) h.lt).trans h.c1)
  have HDO := Lib.hid hdo
  rw [hk] at HI
  subst hA
  obtain ⟨n, hn⟩ : ∃ n, s.L.length = n := ⟨_, rfl⟩
  rw [hn] at c1 HI HT hkl
  clear h ho hn hk hdo
  go_enter Try.func37, Try.ntmps37
  go_wp2_with fail
  refine (HN.out _).mono ?_
  rintro e w' ⟨rfl, rfl⟩
  go_wp2_with fail
  refine (HI.out _ (by go_simp)).mono ?_
  rintro e w2 ⟨rfl, hb2⟩
  have hB2 := (hB (Obj.cells #[.int .u64 id] 27)).trans (hb2.mono (by simp))
  have t1 := HT.out _ hB2
  go_wp2_with fail
  refine (HDO.out _ hB2).mono ?_
  rintro e w3 ⟨m, rfl, hR⟩
  go_wp2_with fail
  go_ret
  exact ⟨m, rfl, hR⟩
theorem at_none43 (h : Tb w g A c b1 b2 N s) (ho : s.Ok) (id : Int) (hk : idx (fun f => f.id == id) s.L = -1) (p : Addr) :
    Calls Try.prog 37 #[.pointer (some ⟨g, 0, none⟩), .int .u64 id, .func (.func 43) #[] #[.pointer (some p)]] w fun e w' => e = .returned (.int .i64 6) ∧ Below w.heap.size w w' := by
  have hB : ∀ o, Below w.heap.size w (w.alloc o) := fun o => (Below.refl w.heap.size w).alloc (Nat.le_refl _) o
  have HN := Lib.hid (fun o => none_any g s.most (w.alloc o) (((hB o).cell (p := ⟨g, 0, none⟩) h.lt).trans h.c0) (by have := ho.most1; omega))
  have c1 := fun o => ((hB o).cell (p := ⟨g, 1, none⟩) h.lt).trans h.c1
  have HI := Lib.hid (fun o (ho' : (w.alloc o).cell? ⟨w.heap.size, 0, none⟩ = some (.int .u64 id)) => idxId_any A c s.L s.L.length ⟨w.heap.size, 0, none⟩ id (w.alloc o) rfl ((FlsAt.own h.own).below (hB o)) (by have := ho.len; have := ho.most2; omega) ho')
  rw [hk] at HI
  obtain ⟨n, hn⟩ : ∃ n, s.L.length = n := ⟨_, rfl⟩
  rw [hn] at c1 HI
  clear h ho hn hk
  go_enter Try.func37, Try.ntmps37
  go_wp2_with fail
  refine (HN.out _).mono ?_
  rintro e w' ⟨rfl, rfl⟩
  go_wp2_with fail
  refine (HI.out _ (by go_simp)).mono ?_
  rintro e w2 ⟨rfl, hb2⟩
  have hB2 := (hB (Obj.cells #[.int .u64 id] 27)).trans (hb2.mono (by simp))
  go_wp2_with fail
  go_ret
  exact ⟨rfl, hB2⟩
end
end Go.Proofs.Ytdpomneoiagpiaa
