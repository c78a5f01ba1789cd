/- bytes.Equal; awake. -/
import Derived.Test.YtlckmdgejendpaaAcc
import Derived.Test.YtlckmdgejendpaaRCut
import Derived.Lib.SlBytesConst
import Derived.Lib.Bytes
set_option linter.unusedVariables false
namespace Go.Proofs.Ytlckmdgejendpaa
open Go.RowKit Go.Deep

theorem Byt.of_own {w : World} {base : Nat} {v : Value} {xs : List Int} (h : w.ownsRow base 5 1 v xs.length (xs.map (.int .u8))) : Byt w v xs := by
  rcases h.2 with ⟨rfl, h0⟩ | ⟨g, cap, cur, rfl, hb, hg, hn, hc, hs, ht⟩
  · exact ⟨none, 0, by rw [h0], by omega, by simp [maxLen], fun h => by omega⟩
  · refine ⟨_, cap, rfl, hn, hc, fun hp => ⟨g, 0, rfl, (Array.getElem?_eq_some_iff.1 hg).1, fun i hi => ?_⟩⟩
    have := h.cells (g := g) rfl i (.int .u8 (xs.getD i 0)) (by simp [List.getD, hi])
    rw [Go.WideShapes.add_plain] at this
    exact this
theorem Byt.below {w w' : World} {v : Value} {xs : List Int} (h : Byt w v xs) (hb : Below w.heap.size w w') : Byt w' v xs := by
  obtain ⟨A, c, rfl, h1, h2, h3⟩ := h
  refine ⟨A, c, rfl, h1, h2, fun hp => ?_⟩
  obtain ⟨b, o, rfl, hl, hc⟩ := h3 hp
  exact ⟨b, o, rfl, Nat.lt_of_lt_of_le hl hb.size, fun i hi => (hb.cell (p := ⟨b, o + i, none⟩) hl).trans (hc i hi)⟩

theorem Byt.str {w : World} {v : Value} {xs : List Int} (h : Byt w v xs) : (convert 23 9 v).run Try.prog w = .ok (.string (strOfNums xs)) w := by
  obtain ⟨A, c, rfl, _, _, h3⟩ := h
  rcases Nat.eq_zero_or_pos xs.length with h0 | h0
  · obtain rfl : xs = [] := List.eq_nil_of_length_eq_zero h0
    rw [run_convert_bytes_string w 23 9 5 _ _ c Try.underlying23 Try.underlying5 Try.underlying9]
    cases A <;> simp [Conv.bytesToString, loadCells]
    all_goals rfl
  · obtain ⟨b, o, rfl, hl, hc⟩ := h3 h0
    exact run_convert_bytes_arg (P := Try.prog) w 23 5 Try.underlying23 Try.underlying5 b o _ c xs rfl hc 9 Try.underlying9

theorem u8_inj : ∀ (xs ys : List Int), (∀ x ∈ xs, 0 ≤ x ∧ x ≤ 255) → (∀ x ∈ ys, 0 ≤ x ∧ x ≤ 255) → (xs.map fun n => UInt8.ofNat n.toNat) = (ys.map fun n => UInt8.ofNat n.toNat) → xs = ys
  | [], [], _, _, _ => rfl
  | [], _ :: _, _, _, h => by simp at h
  | _ :: _, [], _, _, h => by simp at h
  | x :: xs, y :: ys, h1, h2, h => by
    simp only [List.map_cons, List.cons.injEq] at h
    have hx := h1 x (by simp)
    have hy := h2 y (by simp)
    have e := congrArg UInt8.toNat h.1
    simp at e
    rw [u8_inj xs ys (fun z hz => h1 z (by simp [hz])) (fun z hz => h2 z (by simp [hz])) h.2]
    congr 1
    omega

def eqB (xs ys : List Int) : Bool := decide (xs = ys)

theorem strOf_toList (xs : List Int) : (strOfNums xs).toList = xs.map fun n => UInt8.ofNat n.toNat := by
  rw [Lib.toList_data]; rfl
theorem str_eq (xs ys : List Int) (h1 : ∀ x ∈ xs, 0 ≤ x ∧ x ≤ 255) (h2 : ∀ x ∈ ys, 0 ≤ x ∧ x ≤ 255) : ((strOfNums xs).toList == (strOfNums ys).toList) = eqB xs ys := by
  rw [strOf_toList, strOf_toList]
  unfold eqB
  by_cases h : xs = ys
  · subst h; simp
  · rw [decide_eq_false h]
    apply beq_eq_false_iff_ne.2
    intro e
    exact h (u8_inj xs ys h1 h2 e)

set_option maxHeartbeats 400000 in
theorem equal_any (v1 v2 : Value) (xs ys : List Int) (w : World) (h1 : Byt w v1 xs) (h2 : Byt w v2 ys) (r1 : ∀ x ∈ xs, 0 ≤ x ∧ x ≤ 255) (r2 : ∀ x ∈ ys, 0 ≤ x ∧ x ≤ 255) :
    Calls Try.prog 17 #[v1, v2] w fun e w' => e = .returned (.bool (eqB xs ys)) ∧ w = w' := by
  have HE := Lib.hid (str_eq xs ys r1 r2)
  have c1 := h1.str
  have c2 := h2.str
  clear h1 h2 r1 r2
  go_enter Try.func17, Try.ntmps17
  go_wp2
  go_ret
  exact ⟨ret_bool HE.out, rfl⟩

theorem Byt.const (w : World) (xs : List Int) (n : Nat) (fr : Nat × Nat) (hx : xs.length = n) (hm : n ≤ maxLen) : Byt (w.alloc (.cells (xs.map (.int .u8)).toArray 5 fr)) (.slice (some ⟨w.heap.size, 0, none⟩) n n) xs := by
  subst hx
  refine ⟨_, _, rfl, Nat.le_refl _, hm, fun hp => ⟨_, _, rfl, by simp, fun i hi => ?_⟩⟩
  rw [Nat.zero_add, cell_of_row _ _ i _ 5 fr (heap_alloc_new w _)]
  simp [List.getD, hi]

set_option maxHeartbeats 800000 in
theorem awake_any (w : World) :
    Calls Try.prog 10 #[] w fun e w' => e = .returned (.bool true) ∧ Below w.heap.size w w' := by
  have a1 : addU 4294967295 3 = 2 := by decide
  have a2 : ahd 4294967294 5 = 7 := by decide
  have a3 : ahd 5 4294967294 = -7 := by decide
  have a4 : lessB 4294967295 0 = true := by decide
  have a5 : lessB 0 2147483648 = false := by decide
  have a6 : withB 1 4294967295 3 = true := by decide
  have a7 : accB 5 0 5 0 = true := by decide
  have a8 : accB 3 3 5 1 = true := by decide
  have a9 : accB 3 2 5 1 = false := by decide
  have a10 : cutAt 8 10 1 4 = 10 := by decide
  have kc := fun (w : World) (C : Array Value) (n c : Nat) => Lib.run_convert_bytes_const (P := Try.prog) w 23 5 C n c Try.underlying23 Try.underlying5
  have hbc := Lib.hid (Byt.const w [97, 98, 99, 100] 4 (4, 5) rfl (by simp [maxLen]))
  go_enter Try.func10, Try.ntmps10
  go_wp2_with fail
  refine (cut_any 8 10 1 (some ⟨w.heap.size, 0, none⟩) 4 [97, 98, 99, 100] _ hbc.out (by omega) (by omega) (by omega) (by omega) (by omega) (by omega)).mono ?_
  rintro e w1 ⟨v, rfl, hown, hb1⟩
  have hS := Lib.hid ((Byt.of_own (xs := [99]) hown))
  have hB1 := Lib.hid hb1
  clear hown hb1 hbc
  go_wp2_with (first | (go_at_call 15; refine (add_any _ _ _).mono ?_; rintro e w' ⟨rfl, rfl⟩) | (go_at_call 12; refine (ahead_any _ _ _).mono ?_; rintro e w' ⟨rfl, rfl⟩) | (go_at_call 13; refine (less_any _ _ _).mono ?_; rintro e w' ⟨rfl, rfl⟩) | (go_at_call 14; refine (within_any _ _ _ _).mono ?_; rintro e w' ⟨rfl, rfl⟩))
  refine (accept_any 5 0 5 0 _ (by omega) (by omega)).mono ?_
  rw [a7]
  rintro e w2 ⟨rfl, hb2⟩
  have hB2 := Lib.hid hb2
  clear hb2
  go_wp2_with fail
  refine (accept_any 3 3 5 1 _ (by omega) (by omega)).mono ?_
  rw [a8]
  rintro e w3 ⟨rfl, hb3⟩
  have hB3 := Lib.hid hb3
  clear hb3
  go_wp2_with fail
  refine (accept_any 3 2 5 1 _ (by omega) (by omega)).mono ?_
  rw [a9]
  rintro e w4 ⟨rfl, hb4⟩
  have hB4 := Lib.hid hb4
  clear hb4
  have hst := (((hS.out.below hB2.out).below hB3.out).below hB4.out).str
  have hst2 : (strOfNums [99]).toList = [99] := by rw [strOf_toList]; rfl
  go_wp2
  go_ret
  refine ⟨rfl, ?_⟩
  have h1 : Below w.heap.size w w1 := ((Below.refl _ _).alloc (Nat.le_refl _) _).trans (hB1.out.mono (by simp))
  have h2 := h1.trans (hB2.out.mono h1.size)
  have h3 := h2.trans (hB3.out.mono h2.size)
  exact h3.trans (hB4.out.mono h3.size)
end Go.Proofs.Ytlckmdgejendpaa
