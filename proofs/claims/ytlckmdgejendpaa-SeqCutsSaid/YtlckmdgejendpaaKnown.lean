/- The walk of SeqKnown. -/
import Derived.Test.YtlckmdgejendpaaLaws1
set_option linter.unusedVariables false
namespace Go.Proofs.Ytlckmdgejendpaa
open Go.RowKit Go.Deep

theorem own_len {w : World} {base : Nat} {e : TypeId} {size n : Nat} {v : Value} {xs : List Value} (h : w.ownsRow base e size v n xs) : ∃ A c, v = .slice A n c := by
  rcases h.2 with ⟨rfl, h0⟩ | ⟨g, cap, cur, rfl, _⟩
  · exact ⟨none, 0, by rw [h0]⟩
  · exact ⟨_, cap, rfl⟩

set_option maxHeartbeats 1600000 in
set_option maxRecDepth 100000 in
theorem known_walk (w : World) :
    Calls Try.prog 3 #[] w fun e w' => e = .returned (.bool true) ∧ Below w.heap.size w w' := by
  have c1 : cutAt 5 9 5 3 = 9 := by decide
  have c2 : cutAt 4294967295 0 1 3 = 0 := by decide
  have c3 : cutAt 0 4294967295 4294967295 3 = 0 := by decide
  have c4 : cutAt 7 9 5 0 = 9 := by decide
  have b1 : accB 4 0 5 9 = false := by decide
  have b2 : accB 5 1 5 0 = false := by decide
  have b3 : accB 5 1 5 1 = true := by decide
  have b4 : accB 13 0 5 9 = true := by decide
  have b5 : accB 14 0 5 9 = false := by decide
  have b6 : accB 4 (-7) 4 0 = true := by decide
  have b7 : ahd 0 2147483648 = -2147483648 := by decide
  have b8 : lessB 0 2147483648 = false := by decide
  have b9 : withB 5 5 0 = false := by decide
  have b10 : withB 4 5 4294967295 = false := by decide
  have b11 : withB 3 5 4294967295 = true := by decide
  have b12 : addU 0 (-9223372036854775808) = 0 := by decide
  have kc := fun (w : World) (C : Array Value) (n c : Nat) => Lib.run_convert_bytes_const (P := Try.prog) w 23 5 C n c Try.underlying23 Try.underlying5
  have hbc := Lib.hid (fun w => Byt.const w [97, 98, 99] 3 (3, 4) rfl (by simp [maxLen]))
  go_enter Try.func3, Try.ntmps3
  go_wp2_with fail
  refine (cut_any 5 9 5 (some ⟨w.heap.size, 0, none⟩) 3 [97, 98, 99] _ (hbc.out _) (by omega) (by omega) (by omega) (by omega) (by omega) (by omega)).mono ?_
  rintro e w1 ⟨v1, rfl, hown, hb1⟩
  obtain ⟨A1, k1, rfl⟩ := own_len hown
  have hS1 := Lib.hid ((Byt.of_own (xs := []) hown))
  have hB1 := Lib.hid hb1
  clear hown hb1
  go_wp2_with fail
  refine (cut_any 4294967295 0 1 (some ⟨w1.heap.size, 0, none⟩) 3 [97, 98, 99] _ (hbc.out _) (by omega) (by omega) (by omega) (by omega) (by omega) (by omega)).mono ?_
  rintro e w2 ⟨v2, rfl, hown, hb1⟩
  have hS2 := Lib.hid ((Byt.of_own (xs := [98]) hown))
  have hB2 := Lib.hid hb1
  clear hown hb1
  go_wp2_with fail
  refine (cut_any 0 4294967295 4294967295 (some ⟨w2.heap.size, 0, none⟩) 3 [97, 98, 99] _ (hbc.out _) (by omega) (by omega) (by omega) (by omega) (by omega) (by omega)).mono ?_
  rintro e w3 ⟨v3, rfl, hown, hb1⟩
  have hS3 := Lib.hid ((Byt.of_own (xs := [97, 98, 99]) hown))
  have hB3 := Lib.hid hb1
  clear hown hb1
  go_wp2_with fail
  refine (cut_any 7 9 5 none 0 [] _ ⟨_, _, rfl, Nat.le_refl _, by simp [maxLen], fun h => by simp at h⟩ (by omega) (by omega) (by omega) (by omega) (by omega) (by omega)).mono ?_
  rintro e w4 ⟨v4, rfl, hown, hb1⟩
  obtain ⟨A4, k4, rfl⟩ := own_len hown
  have hB4 := Lib.hid hb1
  clear hown hb1
  go_wp2_with fail
  refine (awake_any _).mono ?_
  rintro e w5 ⟨rfl, hb1⟩
  have hB5 := Lib.hid hb1
  clear hb1
  go_wp2_with fail
  refine (accept_any 4 0 5 9 _ (by omega) (by omega)).mono ?_
  rw [b1]
  rintro e w6 ⟨rfl, hb1⟩
  have hB6 := Lib.hid hb1
  clear hb1
  go_wp2_with fail
  refine (accept_any 5 1 5 0 _ (by omega) (by omega)).mono ?_
  rw [b2]
  rintro e w7 ⟨rfl, hb1⟩
  have hB7 := Lib.hid hb1
  clear hb1
  go_wp2_with fail
  refine (accept_any 5 1 5 1 _ (by omega) (by omega)).mono ?_
  rw [b3]
  rintro e w8 ⟨rfl, hb1⟩
  have hB8 := Lib.hid hb1
  clear hb1
  go_wp2_with fail
  refine (accept_any 13 0 5 9 _ (by omega) (by omega)).mono ?_
  rw [b4]
  rintro e w9 ⟨rfl, hb1⟩
  have hB9 := Lib.hid hb1
  clear hb1
  go_wp2_with fail
  refine (accept_any 14 0 5 9 _ (by omega) (by omega)).mono ?_
  rw [b5]
  rintro e w10 ⟨rfl, hb1⟩
  have hB10 := Lib.hid hb1
  clear hb1
  go_wp2_with fail
  refine (accept_any 4 (-7) 4 0 _ (by omega) (by omega)).mono ?_
  rw [b6]
  rintro e w11 ⟨rfl, hb1⟩
  have hB11 := Lib.hid hb1
  clear hb1
  have h5 : Below w2.heap.size w2 w3 := ((Below.refl _ _).alloc (Nat.le_refl _) _).trans (hB3.out.mono (by simp))
  have h6 : Below w1.heap.size w1 w2 := ((Below.refl _ _).alloc (Nat.le_refl _) _).trans (hB2.out.mono (by simp))
  have h7 : Below w.heap.size w w1 := ((Below.refl _ _).alloc (Nat.le_refl _) _).trans (hB1.out.mono (by simp))
  have s2 := ((((((((hS2.out.below h5).below hB4.out).below hB5.out).below hB6.out).below hB7.out).below hB8.out).below hB9.out).below hB10.out).below hB11.out
  have s3 := (((((((hS3.out.below hB4.out).below hB5.out).below hB6.out).below hB7.out).below hB8.out).below hB9.out).below hB10.out).below hB11.out
  have t2 := s2.str
  have t3 := s3.str
  have HA : Hid (Below w.heap.size w w11) := by
    have g2 := h7.trans (h6.mono h7.size)
    have g3 := g2.trans (h5.mono g2.size)
    have g4 := g3.trans (hB4.out.mono g3.size)
    have g5 := g4.trans (hB5.out.mono g4.size)
    have g6 := g5.trans (hB6.out.mono g5.size)
    have g7 := g6.trans (hB7.out.mono g6.size)
    have g8 := g7.trans (hB8.out.mono g7.size)
    have g9 := g8.trans (hB9.out.mono g8.size)
    have g10 := g9.trans (hB10.out.mono g9.size)
    exact g10.trans (hB11.out.mono g10.size)
  clear s2 s3 h5 h6 h7
  have e2 : (strOfNums [98]).toList = [98] := by rw [strOf_toList]; rfl
  have e3 : (strOfNums [97, 98, 99]).toList = [97, 98, 99] := by rw [strOf_toList]; rfl
  have l1 : (cutBs 5 [97, 98, 99] 9 5).length = 0 := by decide
  have l4 : (cutBs 7 [] 9 5).length = 0 := by decide
  go_wp2_with (first
      | (go_at_call 15; refine (add_any _ _ _).mono ?_; rintro e w' ⟨rfl, rfl⟩)
      | (go_at_call 12; refine (ahead_any _ _ _).mono ?_; rintro e w' ⟨rfl, rfl⟩)
      | (go_at_call 13; refine (less_any _ _ _).mono ?_; rintro e w' ⟨rfl, rfl⟩)
      | (go_at_call 14; refine (within_any _ _ _ _).mono ?_; rintro e w' ⟨rfl, rfl⟩))
  go_ret
  exact ⟨rfl, HA.out⟩
end Go.Proofs.Ytlckmdgejendpaa
