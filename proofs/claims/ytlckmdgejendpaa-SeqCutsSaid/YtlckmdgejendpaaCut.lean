/- Cut, of the program. -/
import Derived.Test.YtlckmdgejendpaaMath
import Derived.Lib.Hide
import Derived.Deep.OwnRows
import Derived.Laws.CopyOwn
set_option linter.unusedVariables false
namespace Go.Proofs.Ytlckmdgejendpaa
open Go.RowKit Go.Deep

/-- A slice of bytes that holds the numbers xs. -/
def Byt (w : World) (v : Value) (xs : List Int) : Prop :=
  ∃ A c, v = .slice A xs.length c ∧ xs.length ≤ c ∧ c ≤ maxLen ∧ (0 < xs.length → ∃ b o, A = some ⟨b, o, none⟩ ∧ b < w.heap.size ∧ ∀ i, i < xs.length → w.cell? ⟨b, o + i, none⟩ = some (.int .u8 (xs.getD i 0)))

def cutFirst (p f : Int) : Int := max (-(ahd f p)) 0
def cutLast (p f l : Int) (n : Nat) : Int := min (min l 2147483647 - ahd f p) n
def cutAt (p f l : Int) (n : Nat) : Int := if cutLast p f l n ≤ cutFirst p f then f else addU p (cutFirst p f)
def cutBs (p : Int) (xs : List Int) (f l : Int) : List Int :=
  if cutLast p f l xs.length ≤ cutFirst p f then [] else (xs.take (cutLast p f l xs.length).toNat).drop (cutFirst p f).toNat

theorem info5 : (Try.prog.info? 5).map (fun i => (i.zero, i.size, i.bytes)) = some (some (.int .u8 0), 1, 1) := by kernel_rfl

def mB (f l : Int) : Int := if 2147483647 < l then 2147483647 else l
theorem fFacts (p f : Int) : (if 0 < ahd f p then 0 else -ahd f p) = cutFirst p f ∧ 0 ≤ cutFirst p f := by
  unfold cutFirst; constructor
  · split <;> omega
  · omega
theorem lFacts (p f l : Int) (n : Nat) : (if (n : Int) < (if 2147483647 < l then 2147483647 else l) - ahd f p then (n : Int) else (if 2147483647 < l then 2147483647 else l) - ahd f p) = cutLast p f l n ∧ cutLast p f l n ≤ n := by
  unfold cutLast; constructor
  · split <;> split <;> omega
  · omega

set_option maxHeartbeats 800000 in
theorem cut_any (p f l : Int) (A : Option Addr) (c : Nat) (xs : List Int) (w : World) (hb : Byt w (.slice A xs.length c) xs)
   (hp0 : 0 ≤ p) (hp1 : p ≤ 4294967295) (hf0 : 0 ≤ f) (hf1 : f ≤ 4294967295) (hl0 : 0 ≤ l) (hl1 : l ≤ 4294967295) :
    Calls Try.prog 9 #[.int .u32 p, .slice A xs.length c, .int .u32 f, .int .u32 l] w fun e w' => 
      ∃ v, e = .returned (.tuple #[.int .u32 (cutAt p f l xs.length), v]) ∧ w'.ownsRow w.heap.size 5 1 v (cutBs p xs f l).length ((cutBs p xs f l).map (.int .u8)) ∧ Below w.heap.size w w' := by
  have hbd := ahd_bd f p
  obtain ⟨n, hn⟩ : ∃ n, xs.length = n := ⟨_, rfl⟩
  have F1 := fFacts p f
  have L1 := lFacts p f l n
  obtain ⟨M, hM⟩ : ∃ M, (if 2147483647 < l then 2147483647 else l) = M := ⟨_, rfl⟩
  have hM0 : 0 ≤ M ∧ M ≤ 2147483647 := by rw [← hM]; split <;> omega
  rw [hM] at L1
  by_cases h : cutLast p f l xs.length ≤ cutFirst p f
  · rw [hn] at h ⊢
    have Hf : Hid (cutFirst p f = cutFirst p f) := rfl
    obtain ⟨F, hF⟩ : ∃ F, cutFirst p f = F := ⟨_, rfl⟩
    obtain ⟨L, hL⟩ : ∃ L, cutLast p f l n = L := ⟨_, rfl⟩
    have HF := Lib.hid hF
    have HL := Lib.hid hL
    rw [hF] at F1 h
    rw [hL] at L1 h
    clear hF hL
    obtain ⟨F1, F2⟩ := F1
    obtain ⟨L1, L2⟩ := L1
    go_enter Try.func9, Try.ntmps9
    go_wp2_with (first | (go_at_call 12; refine (ahead_any _ _ _).mono ?_; rintro e w' ⟨rfl, rfl⟩))
    go_ret2
    refine ⟨.slice none 0 0, ?_, ?_, Below.refl _ _⟩
    · rw [cutAt, HF.out, HL.out, if_pos h]; rfl
    · rw [cutBs, HF.out, hn, HL.out, if_pos h]; exact World.ownsRow_nil _ _ _ _
  · obtain ⟨A', c', hv, hc1, hc2, hb⟩ := hb
    cases hv
    obtain ⟨b, o, rfl, hbl, hcell⟩ := hb (by unfold cutLast cutFirst at h; omega)
    unfold maxLen at hc2
    rw [hn] at h hc1 ⊢
    obtain ⟨F, hF⟩ : ∃ F : Nat, cutFirst p f = F := ⟨(cutFirst p f).toNat, by omega⟩
    obtain ⟨k, hL⟩ : ∃ k : Nat, cutLast p f l n = (F : Int) + k := ⟨(cutLast p f l n - F).toNat, by omega⟩
    have HF := Lib.hid hF
    have HL := Lib.hid hL
    rw [hF] at F1 h
    rw [hL] at L1 h
    clear hF hL
    obtain ⟨F1, F2⟩ := F1
    obtain ⟨L1, L2⟩ := L1
    have hk : 0 < k := by omega
    have hmk := run_make_row' (P := Try.prog) 23 5 (.int .u8 0) 1 Try.underlying23 info5 rfl .i64 .i64 k (by omega) (by omega)
    obtain ⟨cs, hcs⟩ : ∃ cs, cs = ((xs.drop F).take k).map (Value.int .u8) := ⟨_, rfl⟩
    have HCS := Lib.hid hcs
    have hcl : cs.length = k := by rw [hcs]; simp; omega
    have hsrc : ∀ j v, cs[j]? = some v → w.cell? ⟨b, o + F + j, none⟩ = some v := by
      intro j v hj
      have hjk : j < k := by
        rcases Nat.lt_or_ge j k with h1 | h1
        · exact h1
        · rw [List.getElem?_eq_none (by omega)] at hj; cases hj
      have := hcell (F + j) (by omega)
      rw [show o + F + j = o + (F + j) from by omega, this]
      rw [hcs] at hj
      simp only [List.getElem?_map, List.getElem?_take, List.getElem?_drop, if_pos hjk] at hj
      rw [List.getElem?_eq_getElem (by omega)] at hj
      simp only [List.getD, List.getElem?_eq_getElem (show F + j < xs.length by omega)]
      exact hj
    have Hone : ∀ v ∈ cs, v.oneCell' = true := by
      intro v hv; rw [hcs] at hv; obtain ⟨x, _, rfl⟩ := List.mem_map.1 hv; rfl
    have hrun := run_copy_row (P := Try.prog) (w.alloc (Obj.cells (madeCells #[Value.int IntKind.u8 0] k) 5)) 23 23 3 5 w.heap.size 0 k k ⟨b, o + F, none⟩ k k (madeCells #[Value.int IntKind.u8 0] k) 5 cs Try.underlying23 (by kernel_rfl) (heap_alloc_new w _) (by rw [hcl]; simp) (fun j v hj => by rw [Go.WideShapes.add_plain, World.cell?_alloc_lt _ _ _ (by simpa using hbl)]; exact hsrc j v hj) (by rw [size_madeCells]; omega) Hone
    obtain ⟨W2, hW2⟩ : ∃ W2, W2 = (w.alloc (Obj.cells (madeCells #[Value.int IntKind.u8 0] k) 5)).setRow w.heap.size ((madeCells #[Value.int IntKind.u8 0] k).toList.take 0 ++ cs ++ (madeCells #[Value.int IntKind.u8 0] k).toList.drop (0 + cs.length)).toArray := ⟨_, rfl⟩
    rw [← hW2] at hrun
    have hB2 : Below w.heap.size w W2 := by rw [hW2]; exact below_setRow ((Below.refl _ _).alloc (Nat.le_refl _) _) (Nat.le_refl _) _
    have hH2 : W2.heap[w.heap.size]? = some (.cells cs.toArray 5 (0, 0)) := by
      rw [hW2, setRow_heap _ _ _ _ _ _ (heap_alloc_new w _)]
      congr 2
      simp [hcl, size_madeCells]
    have HB2 := Lib.hid hB2
    have HH2 := Lib.hid hH2
    have HCL := Lib.hid hcl
    clear hcs hsrc hcl hcell hb Hone hW2 hB2 hH2 hbl
    go_enter Try.func9, Try.ntmps9
    go_wp2_with (first | (go_at_call 12; refine (ahead_any _ _ _).mono ?_; rintro e w' ⟨rfl, rfl⟩) | (go_at_call 15; refine (add_any _ _ _).mono ?_; rintro e w' ⟨rfl, rfl⟩))
    go_ret2
    refine ⟨.slice (some ⟨w.heap.size, 0, none⟩) k k, ?_, ?_, HB2.out⟩
    · rw [cutAt, HF.out, HL.out, if_neg (by omega)]; rfl
    · rw [cutBs, HF.out, hn, HL.out, if_neg (by omega)]
      have e : (((F : Int) + k).toNat) = F + k := by omega
      have e2 : List.drop (F : Int).toNat (List.take ((F : Int) + k).toNat xs) = (xs.drop F).take k := by
        rw [e, Int.toNat_natCast, List.drop_take]; congr 1; omega
      rw [e2, ← HCS.out, ← List.length_map (f := Value.int .u8), ← HCS.out, HCL.out]
      exact ⟨by rw [HCL.out]; omega, .inr ⟨_, k, cs.toArray, rfl, Nat.le_refl _, HH2.out, Nat.le_refl _, by unfold maxLen; omega, by simp [HCL.out], by simpa using List.take_of_length_le (by rw [HCL.out]; omega)⟩⟩
end Go.Proofs.Ytlckmdgejendpaa
