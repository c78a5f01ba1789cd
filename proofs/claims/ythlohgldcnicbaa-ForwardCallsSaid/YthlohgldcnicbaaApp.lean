/- Slices of forwards, cut; appends of them. -/
import Derived.Test.YthlohgldcnicbaaIter
import Derived.Deep.Upon
set_option linter.unusedVariables false
namespace Go.Proofs.Ythlohgldcnicbaa
open Go.RowKit Go.Deep Go.BigFrame
/-- The address behind k elements of a slice whose capacity is c. -/
def cutA (A : Option Addr) (k c : Nat) : Option Addr := if c = k then A else A.map (·.add (k * 4))
theorem size37 : ∀ w : World, (sizeOf 37).run Try.prog w = .ok 4 w := fun w => by kernel_rfl
theorem elem27 : Try.prog.elem 27 = 37 := by kernel_rfl
theorem under27 : Try.prog.underlying 27 = some (.slice (Try.prog.elem 27)) := by rw [elem27]; exact Try.underlying27
theorem run_slice_hi (A : Option Addr) (m c k : Nat) (hk : k ≤ c) (w : World) : (Instr.slice 27 (.slice A m c) none (some (.int .i64 (k : Int))) none).run Try.prog w = .ok (.slice A k c) w := by
  rw [run_slice_h w 27 A m c under27 .i64 (k : Int) (by omega) (by omega), elem27, size37]
  simp only [Result.andThen, sliced, Int.toNat_natCast, Nat.zero_mul, Nat.sub_zero]
  congr 2
  split
  · rfl
  · cases A <;> simp [Addr.add]
theorem run_slice_lo (A : Option Addr) (m c k : Nat) (hk : k ≤ m) (w : World) : (Instr.slice 27 (.slice A m c) (some (.int .i64 (k : Int))) none none).run Try.prog w = .ok (.slice (cutA A k c) (m - k) (c - k)) w := by
  rw [run_slice_l w 27 A m c under27 .i64 (k : Int) (by omega) (by omega), elem27, size37]
  simp only [Result.andThen, sliced, Int.toNat_natCast]
  rfl
theorem FwsAt.from {w : World} {A : Option Addr} {c : Nat} {L : List Fw} (h : FwsAt w A L) (k : Nat) (hc : L.length ≤ c) : FwsAt w (cutA A k c) (L.drop k) := by
  intro i f hf
  rw [List.getElem?_drop] at hf
  have hi := (List.getElem?_eq_some_iff.1 hf).1
  obtain ⟨b, o, rfl, hl, ha⟩ := h (k + i) f hf
  have hne : ¬ c = k := by omega
  refine ⟨b, o + k * 4, by unfold cutA; rw [if_neg hne]; simp [add_at], hl, ?_⟩
  rw [show o + k * 4 + i * 4 = o + (k + i) * 4 by omega]
  exact ha
theorem FwsAt.took {w : World} {A : Option Addr} {L : List Fw} (h : FwsAt w A L) (m : Nat) : FwsAt w A (L.take m) := fun i f hf => h i f (by
  rcases Nat.lt_or_ge i m with r | r
  · rwa [List.getElem?_take_of_lt r] at hf
  · rw [List.getElem?_eq_none (by rw [List.length_take]; omega)] at hf; cases hf)
theorem bel_alloc (W : World) (o : Obj) : Below W.heap.size W (W.alloc o) := (Below.refl _ _).alloc (Nat.le_refl _) _
/-- append(own, l...). -/
theorem app37 (w : World) (base : Nat) (v : Value) (n : Nat) (L : List Fw) (hown : w.ownsRow base 37 4 v n (row L)) (A : Option Addr) (m c : Nat) (M : List Fw) (hm : M.length = m) (hM : FwsAt w A M)
    (hb : base ≤ w.heap.size) (hs : n + m ≤ 100000) : ∃ v' w', (∀ ty, (Builtin.append_ #[27, 27] ty #[v, .slice A m c]).run Try.prog w = .ok v' w') ∧ w'.ownsRow base 37 4 v' (n + m) (row (L ++ M)) ∧ w.grownBy w' v.ownBlock := by
  obtain ⟨i0, hi, hz0, hz1, hz2⟩ := info_parts info37
  rw [row_append]
  cases M with
  | nil =>
    obtain rfl : m = 0 := hm.symm
    obtain ⟨A', c', rfl⟩ := own_len hown
    have hcl : n ≤ c' := by
      rcases hown.2 with ⟨h0, h1⟩ | ⟨g, cap, cur, h0, _, _, h1, _⟩
      · injection h0; omega
      · injection h0; omega
    refine ⟨_, w, fun ty => ?_, by simpa [row] using hown, World.grownBy.refl _ _⟩
    refine run_append_nothing w 27 27 ty 37 i0 Try.underlying27 hi A' n c' hcl (.slice A 0 c) ?_
    cases A with
    | none => exact Src.ofNil w Try.underlying27 c
    | some a => exact Src.ofSlice w Try.underlying27 a 0 c [] (by simp) (fun j u h => by simp at h) (fun u h => by simp at h)
  | cons f r =>
    obtain ⟨b, o, rfl, _, _⟩ := hM 0 f rfl
    have key := fun ty => run_append_own (P := Try.prog) w base 27 ty 37 i0 (.agg #[.int .u8 0, .int .u16 0, .int .u32 0, .int .u16 0]) 4 12 Try.underlying27 hi hz0 hz1 hz2 rfl (by decide) v n (row L) hown ⟨b, o, none⟩ m c (row (f :: r))
      (by rw [row_len, hm]) hM.cell (one_row _) (by unfold maxLen; omega) (by omega) hb
    obtain ⟨v', w', hr, h2, h3, _⟩ := key 27
    refine ⟨v', w', fun ty => ?_, h2, h3⟩
    obtain ⟨v2, w2, hr2, _, _, _⟩ := key ty
    rw [← hr]
    rfl
theorem own_nil37 (w : World) (B : Nat) : w.ownsRow B 37 4 (.slice none 0 0) 0 (row []) := World.ownsRow_nil _ _ _ _
theorem own_capK {w : World} {B n m c : Nat} {A : Option Addr} {xs : List Value} (h : w.ownsRow B 37 4 (.slice A m c) n xs) : m ≤ c := by
  rcases h.2 with ⟨h0, _⟩ | ⟨g, cap, cur, h0, _, _, h1, _⟩
  · injection h0; omega
  · injection h0; omega
end Go.Proofs.Ythlohgldcnicbaa
