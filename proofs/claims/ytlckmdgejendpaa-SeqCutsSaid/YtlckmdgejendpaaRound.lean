/- The walk of SeqRound. -/
import Derived.Test.YtlckmdgejendpaaLaws1
import Derived.Deep.RegionHeld3
import Derived.Deep.DrawnRows
import Derived.BigQuiet
import Derived.Deep.Slices
import Derived.Lib.SmallJoins
set_option linter.unusedVariables false
namespace Go.Proofs.Ytlckmdgejendpaa
open Go.RowKit Go.Deep Go.BigFrame
attribute [local go_sem ↓] Go.wp_at_zero Go.wp_at_succ

/-- An argument that is a slice of bytes, read. -/
theorem open_byt {H : Type} {enc : TypeId × Value → H} {W : World} {fuel : Nat} {v : Value} {y : DataW H × List MemPlace}
    (hf : DataW.trod enc Try.prog W 0 (fun _ => true) true fuel 23 [v] = some y) : ∃ xs, Byt W v xs ∧ (∀ x ∈ xs, 0 ≤ x ∧ x ≤ 255) := by
  rcases Go.ChangeShapes.open_ints Try.underlying23 Try.underlying5 (by kernel_rfl) hf with ⟨hcs, _⟩ | ⟨a, l, c, zs, hcs, _, hl, hm, hz, _, hcell, hwz⟩
  · simp at hcs
    subst hcs
    exact ⟨[], ⟨none, 0, rfl, Nat.le_refl _, by simp [maxLen], fun h => by simp at h⟩, fun x hx => by simp at hx⟩
  · simp at hcs hz
    subst hcs
    refine ⟨zs.take l, ⟨some a, c, ?_, ?_, hm, ?_⟩, ?_⟩
    · rw [List.length_take, Nat.min_eq_left (by omega)]
    · rw [List.length_take]; omega
    · rw [List.length_take]
      intro hp
      obtain ⟨b, o, s⟩ := a
      obtain rfl : s = none := by simpa [Addr.add] using World.cell?_spot (hcell 0 (by omega))
      have h0 := hcell 0 (by omega)
      refine ⟨b, o, rfl, World.block_lt_of_cell? W _ h0, fun i hi => ?_⟩
      have := hcell i (by omega)
      rw [Go.WideShapes.add_plain] at this
      rw [this]
      simp [List.getD, show i < l by omega]
    · intro x hx
      have := hwz x (List.mem_of_mem_take hx)
      simp [Lit.wf, IntKind.min, IntKind.max, IntKind.signed, IntKind.bits] at this
      omega

theorem Byt.cut {w : World} {A : Option Addr} {n c : Nat} {xs : List Int} (h : Byt w (.slice A n c) xs) (k : Nat) (hk : k ≤ n) : Byt w (.slice A k c) (xs.take k) := by
  obtain ⟨A', c', hv, h1, h2, h3⟩ := h
  cases hv
  refine ⟨A, c, ?_, ?_, h2, ?_⟩
  · rw [List.length_take, Nat.min_eq_left hk]
  · rw [List.length_take]; omega
  · rw [List.length_take]
    intro hp
    obtain ⟨b, o, rfl, hl, hc⟩ := h3 (by omega)
    exact ⟨b, o, rfl, hl, fun i hi => by rw [hc i (by omega)]; simp [List.getD, show i < k by omega]⟩

/-- A world of a class. -/
structure ClsW (p : World → Prop) where
  val : World
  prop : p val
/-- A region that draws its order, walked once in the order of the text, in whatever world of a class. -/
theorem wp_region_class {P : Program} (p : World → Prop) {id : Nat} {Q : Exit → Act → World → Prop} {a : Act} {w : World} {l : List Oper} (hm : P.follows .mixedOrders = true) (hB : Region.lexB .any l.toArray = true) (h0 : p { w with drawn := w.drawn + 1 })
    (h : Nonempty (ClsW p) → wpQuiet P l.toArray (fun w' => ∃ W : ClsW p, w' = W.val) (fun a' => ∀ w', (∃ W : ClsW p, w' = W.val) → Q .normal a' w') l a) : (Code.region id l.toArray true).wp P Q a w :=
  wp_region_quiet (C := fun w' => ∃ W : ClsW p, w' = W.val) hm hB ⟨⟨_, h0⟩, rfl⟩ (by simpa using h ⟨⟨_, h0⟩⟩)
theorem class_same {P : Program} {p : World → Prop} {f : FuncId} {args : Array Value} {W : ClsW p} {v : Value}
    (h : Calls P f args W.val fun e w' => e = .returned v ∧ W.val = w') : Calls P f args W.val fun e w'' => e = .returned v ∧ ∃ W' : ClsW p, w'' = W'.val :=
  h.mono fun _ _ ⟨he, hm⟩ => ⟨he, W, hm.symm⟩
/-- The class of the worlds that are, below block B, as w0. -/
def InB (B : Nat) (w0 : World) (W : World) : Prop := Below B w0 W ∧ B ≤ W.heap.size
theorem class_below {P : Program} {B : Nat} {w0 : World} {f : FuncId} {args : Array Value} {W : ClsW (InB B w0)} {v : Value}
    (h : Calls P f args W.val fun e w' => e = .returned v ∧ Below W.val.heap.size W.val w') : Calls P f args W.val fun e w'' => e = .returned v ∧ ∃ W' : ClsW (InB B w0), w'' = W'.val :=
  h.mono fun _ w' ⟨he, hm⟩ => ⟨he, ⟨w', W.2.1.trans (hm.mono W.2.2), Nat.le_trans W.2.2 hm.size⟩, rfl⟩
theorem class_cell {B : Nat} {w0 : World} (W : ClsW (InB B w0)) {p : Addr} {v : Value} (h : w0.cell? p = some v) (hp : p.block < B) : W.val.cell? p = some v := (W.2.1.cell hp).trans h

theorem lessB_eq (a b : Int) : lessB a b = decide (0 < ahd a b) := rfl
theorem ahd_round (a b y : Int) : ahd ((a + y) % 4294967296) ((b + y) % 4294967296) = ahd a b := by unfold ahd; omega
theorem withB_round (a b y l : Int) : withB ((a + y) % 4294967296) ((b + y) % 4294967296) l = withB a b l := by
  unfold withB; congr 2; omega
theorem addU_round (a y n : Int) : addU ((a + y) % 4294967296) n = (addU a n + y) % 4294967296 := by unfold addU; omega
theorem lessB_round (a b y : Int) : lessB ((a + y) % 4294967296) ((b + y) % 4294967296) = lessB a b := by
  rw [lessB_eq, ahd_round]; rfl
theorem laterU_round (a b y : Int) : laterU ((a + y) % 4294967296) ((b + y) % 4294967296) = (laterU a b + y) % 4294967296 := by
  unfold laterU; rw [lessB_round]; split <;> rfl
theorem accB_round (a b y n l : Int) (ha : 0 ≤ a) (ha1 : a ≤ 4294967295) (hb : 0 ≤ b) (hb1 : b ≤ 4294967295) : accB ((a + y) % 4294967296) n ((b + y) % 4294967296) l = accB a n b l := by
  unfold accB
  rw [withB_round, addU_round, withB_round]
  have : decide ((a + y) % 4294967296 = (b + y) % 4294967296) = decide (a = b) := by
    by_cases h : a = b
    · subst h; simp
    · rw [decide_eq_false h]; apply decide_eq_false; omega
  rw [this]
theorem cutAt_round (a b y l : Int) (n : Nat) (hb : 0 ≤ b) (hb1 : b ≤ 4294967295) : cutAt ((a + y) % 4294967296) ((b + y) % 4294967296) l n = (cutAt a b l n + y) % 4294967296 := by
  unfold cutAt cutLast cutFirst
  rw [ahd_round]
  split
  · rfl
  · rw [addU_round]
theorem cutBs_round (a b y l : Int) (xs : List Int) : cutBs ((a + y) % 4294967296) xs ((b + y) % 4294967296) l = cutBs a xs b l := by
  unfold cutBs cutLast cutFirst
  rw [ahd_round]
theorem cutBs_mem (a b l : Int) (xs : List Int) (h : ∀ x ∈ xs, 0 ≤ x ∧ x ≤ 255) : ∀ x ∈ cutBs a xs b l, 0 ≤ x ∧ x ≤ 255 := by
  intro x hx
  unfold cutBs at hx
  split at hx
  · cases hx
  · exact h x (List.mem_of_mem_take (List.mem_of_mem_drop hx))
theorem eqB_self (xs : List Int) : eqB xs xs = true := by simp [eqB]
theorem mod_bd (a : Int) : 0 ≤ a % 4294967296 ∧ a % 4294967296 ≤ 4294967295 := by omega

theorem cut_n (p f l : Int) (A : Option Addr) (c : Nat) (xs : List Int) (n : Nat) (w : World) (hn : xs.length = n) (hb : Byt w (.slice A n c) xs)
   (hp0 : 0 ≤ p) (hp1 : p ≤ 4294967295) (hf0 : 0 ≤ f) (hf1 : f ≤ 4294967295) (hl0 : 0 ≤ l) (hl1 : l ≤ 4294967295) :
    Calls Try.prog 9 #[.int .u32 p, .slice A n c, .int .u32 f, .int .u32 l] w fun e w' =>
      ∃ v, e = .returned (.tuple #[.int .u32 (cutAt p f l n), v]) ∧ w'.ownsRow w.heap.size 5 1 v (cutBs p xs f l).length ((cutBs p xs f l).map (.int .u8)) ∧ Below w.heap.size w w' := by
  subst hn
  exact cut_any p f l A c xs w hb hp0 hp1 hf0 hf1 hl0 hl1
theorem rcut_n (p f l : Int) (A : Option Addr) (c : Nat) (xs : List Int) (n : Nat) (w : World) (hn : xs.length = n) (hb : Byt w (.slice A n c) xs) (hsm : n ≤ 1000000)
   (hp0 : 0 ≤ p) (hp1 : p ≤ 4294967295) (hf0 : 0 ≤ f) (hf1 : f ≤ 4294967295) (hl0 : 0 ≤ l) (hl1 : l ≤ 4294967295) :
    Calls Try.prog 16 #[.int .u32 p, .slice A n c, .int .u32 f, .int .u32 l] w fun e w' =>
      ∃ v, e = .returned (.tuple #[.int .u32 (cutAt p f l n), v]) ∧ w'.ownsRow w.heap.size 5 1 v (cutBs p xs f l).length ((cutBs p xs f l).map (.int .u8)) ∧ Below w.heap.size w w' := by
  subst hn
  exact rcut_any p f l A c xs w hb hsm hp0 hp1 hf0 hf1 hl0 hl1

set_option maxHeartbeats 2400000 in
set_option maxRecDepth 100000 in
theorem round_walk (a b l : Int) (v : Value) (y n : Int) (xs : List Int) (w : World) (hb : Byt w v xs) (hx : ∀ x ∈ xs, 0 ≤ x ∧ x ≤ 255)
    (a0 : 0 ≤ a) (a1 : a ≤ 4294967295) (b0 : 0 ≤ b) (b1 : b ≤ 4294967295) (l0 : 0 ≤ l) (l1 : l ≤ 4294967295) (n0 : -9223372036854775808 ≤ n) (n1 : n ≤ 9223372036854775807) :
    Calls Try.prog 8 #[.agg #[.int .u32 a, .int .u32 b, .int .u32 l, v], .int .u32 y, .int .i64 n] w fun e w' => e = .returned (.bool true) ∧ Below w.heap.size w w' := by
  obtain ⟨A, c, rfl, hc1, hc2, hb3⟩ := hb
  have Hb := Lib.hid (show Byt w (.slice A xs.length c) xs from ⟨A, c, rfl, hc1, hc2, hb3⟩)
  have Hx := Lib.hid hx
  obtain ⟨N, hN⟩ : ∃ N, xs.length = N := ⟨_, rfl⟩
  rw [hN] at Hb hc1 ⊢
  unfold maxLen at hc2
  clear hb3 hx hN
  obtain ⟨k, hk, hkN, hk5⟩ : ∃ k : Nat, (if (500 : Int) < (N : Int) then (500 : Int) else (N : Int)) = (k : Int) ∧ k ≤ N ∧ k ≤ 500 := ⟨min N 500, by split <;> omega, by omega, by omega⟩
  have f1 := addU_round a y n
  have f2 := ahd_round a b y
  have f3 := lessB_round a b y
  have f4 := laterU_round a b y
  have f5 := withB_round a b y l
  have f6 := accB_round a b y n l a0 a1 b0 b1
  have m1 := mod_bd (a + y)
  have m2 := mod_bd (b + y)
  go_enter Try.func8, Try.ntmps8
  go_wp2_with fail
  go_region_held3 (fun w' => w'.cell? ⟨w.heap.size, 0, none⟩ = some (.int .u32 a) ∧ w'.cell? ⟨w.heap.size, 1, none⟩ = some (.int .u32 b) ∧ w'.cell? ⟨w.heap.size, 2, none⟩ = some (.int .u32 l)) (go_keep) (fail)
  go_wp2_with fail
  dsimp only [List.append]
  refine wp_region_class (InB (w.heap.size + 1) (w.alloc (Obj.cells #[Value.int IntKind.u32 a, Value.int IntKind.u32 b, Value.int IntKind.u32 l, Value.slice A k c] 33))) (by kernel_rfl) (by kernel_rfl) ⟨(Below.refl _ _).drew.drew, by simp⟩ fun _ => ?_
  have q0 := fun W : ClsW (InB (w.heap.size + 1) (w.alloc (Obj.cells #[Value.int IntKind.u32 a, Value.int IntKind.u32 b, Value.int IntKind.u32 l, Value.slice A k c] 33))) => class_cell W (p := ⟨w.heap.size, 2, none⟩) (v := .int .u32 l) (by go_simp) (by simp)
  repeat (go_big_quiet_step ((first
      | (go_at_call 15; exact class_same (add_any _ _ _))
      | (go_at_call 12; exact class_same (ahead_any _ _ _))
      | (go_at_call 13; exact class_same (less_any _ _ _))
      | (go_at_call 21; exact class_same (later_any _ _ _))
      | (go_at_call 14; exact class_same (within_any _ _ _ _))
      | (go_at_call 11; exact class_below (accept_any _ _ _ _ _ (by omega) (by omega))))))
  refine wpQuiet_nil ?_
  rintro _ ⟨W, rfl⟩
  have r0 := class_cell W (p := ⟨w.heap.size, 0, none⟩) (v := .int .u32 a) (by go_simp) (by simp)
  have r1 := class_cell W (p := ⟨w.heap.size, 1, none⟩) (v := .int .u32 b) (by go_simp) (by simp)
  have r2 := class_cell W (p := ⟨w.heap.size, 2, none⟩) (v := .int .u32 l) (by go_simp) (by simp)
  have r3 := class_cell W (p := ⟨w.heap.size, 3, none⟩) (v := .slice A k c) (by go_simp) (by simp)
  obtain ⟨w2, hb2⟩ := W
  have HB2 := Lib.hid hb2
  dsimp only at r0 r1 r2 r3 ⊢
  have hB2 : Below w.heap.size w w2 := ((Below.refl _ _).alloc (Nat.le_refl _) _).trans (hb2.1.mono (by omega))
  have by1 := Lib.hid ((Hb.out.cut k hkN).below hB2)
  have HBB := Lib.hid hB2
  clear q0 hb2 hB2
  obtain ⟨ys, hys⟩ : ∃ ys, ys = xs.take k := ⟨_, rfl⟩
  have hyl : ys.length = k := by
    obtain ⟨A', c', hv, _⟩ := by1.out
    rw [hys]
    injection hv with _ h2 _
    exact h2.symm
  rw [← hys] at by1
  have Hr : Hid (∀ x ∈ ys, 0 ≤ x ∧ x ≤ 255) := by intro x hx; rw [hys] at hx; exact Hx.out x (List.mem_of_mem_take hx)
  have Hyl := Lib.hid hyl
  have g1 := cutAt_round a b y l k b0 b1
  clear hys hyl
  go_wp2_with fail
  (with_reducible refine (cut_n a b l A c ys k _ Hyl.out by1.out a0 a1 b0 b1 l0 l1).mono ?_)
  rintro e w3 ⟨v1, rfl, hown1, hb3⟩
  have HO1 := Lib.hid (Byt.of_own hown1)
  have HB3 := Lib.hid hb3
  have by2 := Lib.hid (by1.out.below hb3)
  have HHB := Lib.hid (HBB.out.trans (hb3.mono HBB.out.size))
  have t0 := (hb3.cell (p := ⟨w.heap.size, 0, none⟩) (Nat.lt_of_lt_of_le (Nat.lt_succ_self _) HB2.out.2)).trans r0
  have t1 := (hb3.cell (p := ⟨w.heap.size, 1, none⟩) (Nat.lt_of_lt_of_le (Nat.lt_succ_self _) HB2.out.2)).trans r1
  have t2 := (hb3.cell (p := ⟨w.heap.size, 2, none⟩) (Nat.lt_of_lt_of_le (Nat.lt_succ_self _) HB2.out.2)).trans r2
  have t3 := (hb3.cell (p := ⟨w.heap.size, 3, none⟩) (Nat.lt_of_lt_of_le (Nat.lt_succ_self _) HB2.out.2)).trans r3
  clear hown1 hb3 r0 r1 r2 r3
  go_wp2_with fail
  (with_reducible refine (cut_n ((a + y) % 4294967296) ((b + y) % 4294967296) l A c ys k _ Hyl.out by2.out m1.1 m1.2 m2.1 m2.2 l0 l1).mono ?_)
  rw [g1, cutBs_round]
  rintro e w4 ⟨v2, rfl, hown2, hb4⟩
  have HO2 := Lib.hid (Byt.of_own hown2)
  have HO1' := Lib.hid (HO1.out.below hb4)
  have HB4 := Lib.hid (HHB.out.trans (hb4.mono HHB.out.size))
  clear hown2 hb4
  go_wp2_with fail
  (with_reducible refine (awake_any _).mono ?_)
  rintro e w5 ⟨rfl, hb5⟩
  have HO1 := Lib.hid (HO1'.out.below hb5)
  have HO2 := Lib.hid (HO2.out.below hb5)
  have HB5 := Lib.hid (HB4.out.trans (hb5.mono HB4.out.size))
  clear hb5
  have q1 := eqB_self (cutBs a ys b l)
  go_wp2_with fail
  (with_reducible refine (equal_any v1 v2 _ _ _ HO1.out HO2.out (cutBs_mem _ _ _ _ Hr.out) (cutBs_mem _ _ _ _ Hr.out)).mono ?_)
  rw [q1]
  rintro e w6 ⟨rfl, rfl⟩
  go_wp2
  go_ret
  exact ⟨rfl, HB5.out⟩

theorem round_row (a b l : Int) (v : Value) (y n : Int) (w : World) (hp : (∃ xs, Byt w v xs ∧ ∀ x ∈ xs, 0 ≤ x ∧ x ≤ 255) ∧ (Lit.int .u32 a).wf = true ∧ (Lit.int .u32 b).wf = true ∧ (Lit.int .u32 l).wf = true) (w1 : (Lit.int .u32 y).wf = true) (w2 : (Lit.int .i64 n).wf = true) :
    Calls Try.prog 8 #[.agg #[.int .u32 a, .int .u32 b, .int .u32 l, v], .int .u32 y, .int .i64 n] w fun e w' => e = .returned (.bool true) ∧ Below w.heap.size w w' := by
  obtain ⟨⟨xs, hb, hx⟩, ha, hb', hl⟩ := hp
  exact round_walk a b l v y n xs w hb hx (bd_u32 ha).1 (bd_u32 ha).2 (bd_u32 hb').1 (bd_u32 hb').2 (bd_u32 hl).1 (bd_u32 hl).2 (bd_i64 w2).1 (bd_i64 w2).2
end Go.Proofs.Ytlckmdgejendpaa
