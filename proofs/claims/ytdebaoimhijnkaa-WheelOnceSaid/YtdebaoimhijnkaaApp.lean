/- Slices of alarms, cut; appends of them; slices.Clone, maps.Clone. -/
import Derived.Test.YtdebaoimhijnkaaSort
import Derived.Test.YtdebaoimhijnkaaIter
import Derived.Deep.Upon
import Derived.Shelf.SlMaps.Clone
import Derived.Lib.SliceRun
import Derived.Lib.BufferMore
set_option linter.unusedVariables false
namespace Go.Proofs
open Go.Shelf
def Try.cloneMap_ren : Go.Shelf.Ren := ⟨fun | 5 => 32 | 7 => 41 | n => n, fun | 23 => 52 | 25 => 23 | 3 => 23 | 4 => 4 | 20 => 20 | n => n, fun | n => n⟩
theorem Try.cloneMap : Go.Proofs.SlLaysW.n5 Try.prog Try.cloneMap_ren where
  mixed := by kernel_rfl
  f5 := ⟨ "maps.Clone[map[uint64]uint64,uint64,uint64]", by decide, Try.func32.trans (congrArg some (by kernel_rfl))⟩
  f7 := Try.func41.trans (congrArg some (by kernel_rfl))
  t4 := Try.underlying4
  a4 := Try.isAgg4
  z4 := Try.sizeOf4
  v4 := Try.zeroValue4
  t20 := Try.underlying20
  a20 := Try.isAgg20
  z20 := Try.sizeOf20
  v20 := Try.zeroValue20
  t23 := Try.underlying52
  a23 := Try.isAgg52
  z23 := Try.sizeOf52
  v23 := Try.zeroValue52
end Go.Proofs
namespace Go.Proofs.Ytdebaoimhijnkaa
open Go.RowKit Go.Deep Go.BigFrame Go.Shelf
attribute [local go_sem ↓] Go.wp_at_zero Go.wp_at_succ
theorem mclone_any {w : World} {b n : Nat} {L : List Al} (h : MapU w b n L) :
    Calls Try.prog 32 #[.map (some b)] w fun e w' => e = .returned (.map (some w.heap.size)) ∧ MapU w' w.heap.size n L ∧ Below w.heap.size w w' := by
  obtain ⟨D, ho, hf⟩ := h.own
  have hcon := AnyW.maps_Clone_owns Try.cloneMap 23 uElem b n D w ho
  change Calls Try.prog 32 _ _ _ at hcon
  exact hcon.mono fun e w' ⟨a1, a2, _, a4⟩ => ⟨a1, ⟨⟨D, a2, hf⟩⟩, a4⟩
/-- The address behind k elements of a slice whose capacity is c. -/
def cutA (A : Option Addr) (k c : Nat) : Option Addr := if c = k then A else A.map (·.add (k * 2))
theorem size66 : ∀ w : World, (sizeOf 66).run Try.prog w = .ok 2 w := fun w => by kernel_rfl
theorem size68 : ∀ w : World, (sizeOf 68).run Try.prog w = .ok 2 w := fun w => by kernel_rfl
theorem elem50 : Try.prog.elem 50 = 66 := by kernel_rfl
theorem elem27 : Try.prog.elem 27 = 68 := by kernel_rfl
theorem under50 : Try.prog.underlying 50 = some (.slice (Try.prog.elem 50)) := by rw [elem50]; exact Try.underlying50
theorem under27 : Try.prog.underlying 27 = some (.slice (Try.prog.elem 27)) := by rw [elem27]; exact Try.underlying27
theorem run_slice_hi27 (A : Option Addr) (m c k : Nat) (hk : k ≤ c) (w : World) : (Instr.slice 27 (.slice A m c) none (some (.int .i64 (k : Int))) none).run Try.prog w = .ok (.slice A k c) w := by
  rw [run_slice_h w 27 A m c under27 .i64 (k : Int) (by omega) (by omega), elem27, size68]
  simp only [Result.andThen, sliced, Int.toNat_natCast, Nat.zero_mul, Nat.sub_zero]
  congr 2
  split
  · rfl
  · cases A <;> simp [Addr.add]
theorem run_slice_lo27 (A : Option Addr) (m c k : Nat) (hk : k ≤ m) (w : World) : (Instr.slice 27 (.slice A m c) (some (.int .i64 (k : Int))) none none).run Try.prog w = .ok (.slice (cutA A k c) (m - k) (c - k)) w := by
  rw [run_slice_l w 27 A m c under27 .i64 (k : Int) (by omega) (by omega), elem27, size68]
  simp only [Result.andThen, sliced, Int.toNat_natCast]
  rfl
theorem run_slice_hi50 (A : Option Addr) (m c k : Nat) (hk : k ≤ c) (w : World) : (Instr.slice 50 (.slice A m c) none (some (.int .i64 (k : Int))) none).run Try.prog w = .ok (.slice A k c) w := by
  rw [run_slice_h w 50 A m c under50 .i64 (k : Int) (by omega) (by omega), elem50, size66]
  simp only [Result.andThen, sliced, Int.toNat_natCast, Nat.zero_mul, Nat.sub_zero]
  congr 2
  split
  · rfl
  · cases A <;> simp [Addr.add]
theorem run_slice_lo50 (A : Option Addr) (m c k : Nat) (hk : k ≤ m) (w : World) : (Instr.slice 50 (.slice A m c) (some (.int .i64 (k : Int))) none none).run Try.prog w = .ok (.slice (cutA A k c) (m - k) (c - k)) w := by
  rw [run_slice_l w 50 A m c under50 .i64 (k : Int) (by omega) (by omega), elem50, size66]
  simp only [Result.andThen, sliced, Int.toNat_natCast]
  rfl
theorem AlsAt.from {e : TypeId} {w : World} {A : Option Addr} {c : Nat} {L : List Al} (h : AlsAt e w A L) (k : Nat) (hc : L.length ≤ c) : AlsAt e w (cutA A k c) (L.drop k) := by
  refine ⟨fun a he => ?_, fun i f hf => ?_⟩
  · unfold cutA at he
    split at he
    · exact h.1 a he
    · cases A with
      | none => cases he
      | some a0 =>
        injection he with he
        subst he
        have h1 := h.1 a0 rfl
        unfold Addr.add
        split <;> exact h1
  rw [List.getElem?_drop] at hf
  have hi := (List.getElem?_eq_some_iff.1 hf).1
  obtain ⟨b, o, rfl, ha⟩ := h.2 (k + i) f hf
  have hne : ¬ c = k := by omega
  refine ⟨b, o + k * 2, by unfold cutA; rw [if_neg hne]; simp [add_at], ?_⟩
  rw [show o + k * 2 + i * 2 = o + (k + i) * 2 by omega]
  exact ha
theorem AlsAt.took {e : TypeId} {w : World} {A : Option Addr} {L : List Al} (h : AlsAt e w A L) (m : Nat) : AlsAt e w A (L.take m) := ⟨h.1, fun i f hf => h.2 i f (by
  rcases Nat.lt_or_ge i m with r | r
  · rwa [List.getElem?_take_of_lt r] at hf
  · rw [List.getElem?_eq_none (by rw [List.length_take]; omega)] at hf; cases hf)⟩
theorem bel_alloc (W : World) (o : Obj) : Below W.heap.size W (W.alloc o) := (Below.refl _ _).alloc (Nat.le_refl _) _
theorem info66 : (Try.prog.info? 66).map (fun i => (i.zero, i.size, i.bytes)) = some (some (.agg #[.int .u64 0, .int .u64 0]), 2, 16) := by kernel_rfl
theorem info68 : (Try.prog.info? 68).map (fun i => (i.zero, i.size, i.bytes)) = some (some (.agg #[.int .u64 0, .int .u64 0]), 2, 16) := by kernel_rfl
/-- append(own, l...). -/
theorem app66 (w : World) (base : Nat) (v : Value) (n : Nat) (L : List Al) (hown : w.ownsRow base 66 2 v n (row L)) (A : Option Addr) (m c : Nat) (M : List Al) (hm : M.length = m) (hM : AlsAt 66 w A M)
    (hb : base ≤ w.heap.size) (hs : n + m ≤ 100000) : ∃ v' w', (∀ ty, (Builtin.append_ #[50, 50] ty #[v, .slice A m c]).run Try.prog w = .ok v' w') ∧ w'.ownsRow base 66 2 v' (n + m) (row (L ++ M)) ∧ w.grownBy w' v.ownBlock := by
  obtain ⟨i0, hi, hz0, hz1, hz2⟩ := info_parts info66
  rw [row_append]
  cases M with
  | nil =>
    obtain rfl : m = 0 := hm.symm
    obtain ⟨A', c', rfl⟩ := own_len hown
    have hcl : n ≤ c' := by
      rcases hown.2 with ⟨h0, h1⟩ | ⟨g, cap, cur, h0, _, _, h1, _⟩
      · injection h0; omega
      · injection h0; omega
    refine ⟨_, w, fun ty => ?_, by simpa [row] using hown, World.grownBy.refl _ _⟩
    refine run_append_nothing w 50 50 ty 66 i0 Try.underlying50 hi A' n c' hcl (.slice A 0 c) ?_
    cases A with
    | none => exact Src.ofNil w Try.underlying50 c
    | some a => exact Src.ofSlice w Try.underlying50 a 0 c [] (by simp) (fun j u h => by simp at h) (fun u h => by simp at h)
  | cons f r =>
    obtain ⟨b, o, rfl, _⟩ := hM.2 0 f rfl
    have key := fun ty => run_append_own (P := Try.prog) w base 50 ty 66 i0 (.agg #[.int .u64 0, .int .u64 0]) 2 16 Try.underlying50 hi hz0 hz1 hz2 rfl (by decide) v n (row L) hown ⟨b, o, none⟩ m c (row (f :: r))
      (by rw [row_len, hm]) hM.cell (one_row _) (by unfold maxLen; omega) (by omega) hb
    obtain ⟨v', w', hr, h2, h3, _⟩ := key 50
    refine ⟨v', w', fun ty => ?_, h2, h3⟩
    obtain ⟨v2, w2, hr2, _, _, _⟩ := key ty
    rw [← hr]
    rfl
/-- append(own, l...). -/
theorem app68 (w : World) (base : Nat) (v : Value) (n : Nat) (L : List Al) (hown : w.ownsRow base 68 2 v n (row L)) (A : Option Addr) (m c : Nat) (M : List Al) (hm : M.length = m) (hM : AlsAt 68 w A M)
    (hb : base ≤ w.heap.size) (hs : n + m ≤ 100000) : ∃ v' w', (∀ ty, (Builtin.append_ #[27, 27] ty #[v, .slice A m c]).run Try.prog w = .ok v' w') ∧ w'.ownsRow base 68 2 v' (n + m) (row (L ++ M)) ∧ w.grownBy w' v.ownBlock := by
  obtain ⟨i0, hi, hz0, hz1, hz2⟩ := info_parts info68
  rw [row_append]
  cases M with
  | nil =>
    obtain rfl : m = 0 := hm.symm
    obtain ⟨A', c', rfl⟩ := own_len hown
    have hcl : n ≤ c' := by
      rcases hown.2 with ⟨h0, h1⟩ | ⟨g, cap, cur, h0, _, _, h1, _⟩
      · injection h0; omega
      · injection h0; omega
    refine ⟨_, w, fun ty => ?_, by simpa [row] using hown, World.grownBy.refl _ _⟩
    refine run_append_nothing w 27 27 ty 68 i0 Try.underlying27 hi A' n c' hcl (.slice A 0 c) ?_
    cases A with
    | none => exact Src.ofNil w Try.underlying27 c
    | some a => exact Src.ofSlice w Try.underlying27 a 0 c [] (by simp) (fun j u h => by simp at h) (fun u h => by simp at h)
  | cons f r =>
    obtain ⟨b, o, rfl, _⟩ := hM.2 0 f rfl
    have key := fun ty => run_append_own (P := Try.prog) w base 27 ty 68 i0 (.agg #[.int .u64 0, .int .u64 0]) 2 16 Try.underlying27 hi hz0 hz1 hz2 rfl (by decide) v n (row L) hown ⟨b, o, none⟩ m c (row (f :: r))
      (by rw [row_len, hm]) hM.cell (one_row _) (by unfold maxLen; omega) (by omega) hb
    obtain ⟨v', w', hr, h2, h3, _⟩ := key 27
    refine ⟨v', w', fun ty => ?_, h2, h3⟩
    obtain ⟨v2, w2, hr2, _, _, _⟩ := key ty
    rw [← hr]
    rfl
/-- One instant more. -/
theorem app23 (w : World) (base : Nat) (v : Value) (n : Nat) (L : List Int) (hown : w.ownsRow base 23 1 v n (rowU L)) (A : Option Addr) (m c : Nat) (M : List Int) (hm : M.length = m) (hM : UsAt w A M)
    (hb : base ≤ w.heap.size) (hs : n + m ≤ 100000) : ∃ v' w', (∀ ty, (Builtin.append_ #[37, 37] ty #[v, .slice A m c]).run Try.prog w = .ok v' w') ∧ w'.ownsRow base 23 1 v' (n + m) (rowU (L ++ M)) ∧ w.grownBy w' v.ownBlock := by
  obtain ⟨i0, hi, hz0, hz1, hz2⟩ := info_parts info23
  rw [rowU_append]
  cases M with
  | nil =>
    obtain rfl : m = 0 := hm.symm
    obtain ⟨A', c', rfl⟩ := own_len hown
    have hcl : n ≤ c' := by
      rcases hown.2 with ⟨h0, h1⟩ | ⟨g, cap, cur, h0, _, _, h1, _⟩
      · injection h0; omega
      · injection h0; omega
    refine ⟨_, w, fun ty => ?_, by simpa [rowU] using hown, World.grownBy.refl _ _⟩
    refine run_append_nothing w 37 37 ty 23 i0 Try.underlying37 hi A' n c' hcl (.slice A 0 c) ?_
    cases A with
    | none => exact Src.ofNil w Try.underlying37 c
    | some a => exact Src.ofSlice w Try.underlying37 a 0 c [] (by simp) (fun j u h => by simp at h) (fun u h => by simp at h)
  | cons f r =>
    obtain ⟨b, o, rfl, _, _⟩ := hM 0 f rfl
    have key := fun ty => run_append_own (P := Try.prog) w base 37 ty 23 i0 (.int .u64 0) 1 8 Try.underlying37 hi hz0 hz1 hz2 rfl (by decide) v n (rowU L) hown ⟨b, o, none⟩ m c (rowU (f :: r))
      (by rw [rowU_len, hm]) hM.cell (one_rowU _) (by unfold maxLen; omega) (by omega) hb
    obtain ⟨v', w', hr, h2, h3, _⟩ := key 37
    refine ⟨v', w', fun ty => ?_, h2, h3⟩
    obtain ⟨v2, w2, hr2, _, _, _⟩ := key ty
    rw [← hr]
    rfl
theorem own_cap {w : World} {B n m c : Nat} {e : TypeId} {z : Nat} {A : Option Addr} {xs : List Value} (h : w.ownsRow B e z (.slice A m c) n xs) : m ≤ c := by
  rcases h.2 with ⟨h0, _⟩ | ⟨g, cap, cur, h0, _, _, h1, _⟩
  · injection h0; omega
  · injection h0; omega
set_option maxHeartbeats 800000 in
/-- slices.Clone. -/
theorem clone_any (A : Option Addr) (c : Nat) (L : List Al) (n : Nat) (w : World) (hn : L.length = n) (h : AlsAt 66 w A L) (hm : n ≤ 90000) :
    Calls Try.prog 27 #[.slice A n c] w fun e w' => ∃ v, e = .returned v ∧ w'.ownsRow w.heap.size 66 2 v n (row L) ∧ Below w.heap.size w w' := by
  cases A with
  | none =>
    obtain rfl : L = [] := by
      cases L with
      | nil => rfl
      | cons f r => obtain ⟨b, o, e, _⟩ := h.2 0 f rfl; cases e
    obtain rfl : n = 0 := hn.symm
    have he := fun W => Lib.run_eql_slice_nil_nil (P := Try.prog) W (t := 50) (e := 66) 0 c Try.underlying50
    clear h
    go_enter Try.func27, Try.ntmps27
    go_wp2
    go_ret
    exact ⟨_, rfl, World.ownsRow_nil _ _ _ _, Below.refl _ _⟩
  | some a =>
    obtain ⟨Xa, hXa⟩ : ∃ Xa, Xa = w.alloc (Obj.cells #[] 66) := ⟨_, rfl⟩
    have hB1 : Below w.heap.size w Xa := by rw [hXa]; exact (Below.refl _ _).alloc (Nat.le_refl _) _
    have hown0 : Xa.ownsRow w.heap.size 66 2 (.slice (some ⟨w.heap.size, 0, none⟩) 0 0) 0 (row []) := ⟨rfl, Or.inr ⟨w.heap.size, 0, #[], rfl, Nat.le_refl _, by rw [hXa]; exact heap_alloc_new w _, Nat.le_refl _, by simp [maxLen], rfl, rfl⟩⟩
    obtain ⟨v', w', hr, ho, hg'⟩ := app66 Xa w.heap.size _ 0 [] hown0 (some a) n c L hn (h.below hB1) hB1.size (by omega)
    rw [Nat.zero_add, List.nil_append] at ho
    have HB := Lib.hid (hB1.grown hg' hB1.size (fun k hk => by simp [Value.ownBlock] at hk; omega))
    rw [hXa] at hr
    have HR := Lib.hid hr
    have HO := Lib.hid ho
    have he := fun W => Lib.run_eql_slice_some_nil (P := Try.prog) W (t := 50) (e := 66) a n c Try.underlying50
    clear hr ho hg' hown0 hB1 hXa h
    go_enter Try.func27, Try.ntmps27
    go_wp2_with (at_builtin; refine Lib.wpList_append_run _ rfl _ _ 50 50 rfl _ _ rfl rfl _ _ (by exact HR.out _) ?_)
    go_ret
    exact ⟨_, rfl, HO.out, HB.out⟩
end Go.Proofs.Ytdebaoimhijnkaa
