/- The laws' arguments: rows of numbers. -/
import Derived.Test.YtdebaoimhijnkaaWakes
import Derived.Deep.Slices
import Derived.ChangeSame
import Derived.ChangeSlices
set_option linter.unusedVariables false
namespace Go.Proofs.Ytdebaoimhijnkaa
open Go.RowKit Go.Deep Go.BigFrame
set_option maxRecDepth 100000
/-- A row of numbers that can be read. -/
def Nums (k : IntKind) (w : World) (A : Option Addr) (L : List Int) : Prop := ∀ (i : Nat) (x : Int), L[i]? = some x → ∃ b o, A = some ⟨b, o, none⟩ ∧ b < w.heap.size ∧ w.cell? ⟨b, o + i, none⟩ = some (.int k x)
theorem Nums.below {k : IntKind} {w w' : World} {A : Option Addr} {L : List Int} (h : Nums k w A L) (hb : Below w.heap.size w w') : Nums k w' A L := by
  intro i x hx
  obtain ⟨b, o, e, hl, hc⟩ := h i x hx
  exact ⟨b, o, e, Nat.lt_of_lt_of_le hl hb.size, (hb.cell (p := ⟨b, _, none⟩) hl).trans hc⟩
theorem Nums.took {k : IntKind} {w : World} {A : Option Addr} {L : List Int} (h : Nums k w A L) (m : Nat) : Nums k w A (L.take m) := fun i f hf => h i f (by
  rcases Nat.lt_or_ge i m with r | r
  · rwa [List.getElem?_take_of_lt r] at hf
  · rw [List.getElem?_eq_none (by rw [List.length_take]; omega)] at hf; cases hf)
theorem open_nums {H : Type} {enc : TypeId × Value → H} {W : World} {t e : TypeId} {k : IntKind} (ht : Try.prog.underlying t = some (.slice e)) (he : Try.prog.underlying e = some (.int k)) (hc : Try.prog.cellsOf e = 1) {A : Option Addr} {n c : Nat} {d : DataW H} {p : List MemPlace}
    (h : DataW.Trod enc Try.prog W 0 (fun _ => true) true t (.slice A n c) d p) : ∃ xs, xs.length = n ∧ Nums k W A xs ∧ (∀ x ∈ xs, (Lit.int k x).wf = true) ∧ n ≤ c ∧ c ≤ maxLen := by
  obtain ⟨fuel, hf⟩ := h
  rcases Go.ChangeShapes.open_ints ht he hc hf with ⟨hcs, _⟩ | ⟨a, l, c', zs, hcs, _, hl, hm, hz, _, hcell, hwz⟩
  · have hcs' : [Value.slice A n c] = [.slice none 0 0] := hcs
    injection hcs' with e0 _
    injection e0 with e1 e2 e3
    subst e1 e2 e3
    exact ⟨[], rfl, fun i x hx => by simp at hx, fun x hx => (by cases hx), Nat.le_refl _, by simp [maxLen]⟩
  · have hcs' : [Value.slice A n c] = [.slice (some a) l c'] := hcs
    injection hcs' with e0 _
    injection e0 with e1 e2 e3
    subst e1 e2 e3
    simp at hz
    refine ⟨zs.take n, ?_, ?_, fun x hx => hwz x (List.mem_of_mem_take hx), hl, hm⟩
    · rw [List.length_take, Nat.min_eq_left (by omega)]
    · intro i x hx
      have hi : i < n := by
        have := (List.getElem?_eq_some_iff.1 hx).1
        rw [List.length_take] at this
        omega
      obtain ⟨b, o, s⟩ := a
      obtain rfl : s = none := by simpa [Addr.add] using World.cell?_spot (hcell 0 (by omega))
      have h0 := hcell 0 (by omega)
      refine ⟨b, o, rfl, World.block_lt_of_cell? W _ h0, ?_⟩
      have := hcell i (by omega)
      rw [Go.WideShapes.add_plain] at this
      rw [this]
      rw [List.getElem?_take_of_lt hi] at hx
      simp [List.getD, hx]
theorem bd_u16 {a : Int} (h : (Lit.int .u16 a).wf = true) : 0 ≤ a ∧ a ≤ 65535 := by
  simp [Lit.wf, IntKind.min, IntKind.max, IntKind.signed, IntKind.bits] at h; omega
theorem bd_u8 {a : Int} (h : (Lit.int .u8 a).wf = true) : 0 ≤ a ∧ a ≤ 255 := by
  simp [Lit.wf, IntKind.min, IntKind.max, IntKind.signed, IntKind.bits] at h; omega
/-- Alarms by places: number j at instant ts[j]. -/
def al (ts : List Int) (i : Nat) : List Al := (List.range i).map fun (j : Nat) => (⟨(j : Int), ts.getD j 0⟩ : Al)
theorem al_succ (ts : List Int) (i : Nat) : al ts (i + 1) = al ts i ++ [⟨(i : Int), ts.getD i 0⟩] := by
  unfold al
  rw [List.range_succ, List.map_append]
  rfl
theorem al_mem {ts : List Int} {i : Nat} {a : Al} : a ∈ al ts i ↔ ∃ j : Nat, j < i ∧ a = ⟨(j : Int), ts.getD j 0⟩ := by
  unfold al
  rw [List.mem_map]
  constructor
  · rintro ⟨j, hj, rfl⟩
    exact ⟨j, List.mem_range.1 hj, rfl⟩
  · rintro ⟨j, hj, rfl⟩
    exact ⟨j, List.mem_range.2 hj, rfl⟩
theorem al_len (ts : List Int) (i : Nat) : (al ts i).length = i := by simp [al]
theorem al_new {ts : List Int} {i : Nat} {L : List Al} (h : ∀ a ∈ L, a ∈ al ts i) {k : Nat} (hk : i ≤ k) : dropA L (k : Int) = L := by
  unfold dropA
  rw [List.filter_eq_self]
  intro a ha
  obtain ⟨j, hj, rfl⟩ := al_mem.1 (h a ha)
  simp
  omega
theorem set_perm {ts : List Int} {i : Nat} {s : WS} {M : List Al} (hs : s.L.Perm M) (hm : ∀ a ∈ M, a ∈ al ts i) (t : Int) : (setS s (i : Int) t).L.Perm (M ++ [⟨(i : Int), t⟩]) := by
  show (insL (dropA s.L (i : Int)) ⟨(i : Int), t⟩).Perm _
  rw [al_new (fun a ha => hm a (hs.subset ha)) (Nat.le_refl i)]
  refine (ins_perm _ _).trans ?_
  exact (hs.cons _).trans (List.perm_append_comm (l₁ := [(⟨(i : Int), t⟩ : Al)]))
theorem same_srt {L M N : List Al} (h1 : L.Pairwise ltF) (h2 : M.Pairwise ltF) (p1 : L.Perm N) (p2 : M.Perm N) : L = M := Srt.uniq (L := N) ⟨p1, h1⟩ ⟨p2, h2⟩
end Go.Proofs.Ytdebaoimhijnkaa
