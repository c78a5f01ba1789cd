/- Cut, of the reference; bytes.Equal. -/
import Derived.Test.YtlckmdgejendpaaCut
set_option linter.unusedVariables false
namespace Go.Proofs.Ytlckmdgejendpaa
open Go.RowKit Go.Deep

def rOut (xs : List Int) (F : Nat) (E : Int) (i : Nat) : List Int := ((xs.take i).take E.toNat).drop F
def rBeg (p f : Int) (F : Nat) (E : Int) (i : Nat) : Int := if min i E.toNat ≤ F then f else addU p F

theorem rOut_len (xs : List Int) (F : Nat) (E : Int) (i : Nat) (hi : i ≤ xs.length) : (rOut xs F E i).length = min E.toNat i - F := by
  unfold rOut; simp; omega
theorem rOut_lo (xs : List Int) (F : Nat) (E : Int) (i : Nat) (h : i < F) : rOut xs F E (i + 1) = rOut xs F E i := by
  unfold rOut
  rw [List.drop_eq_nil_of_le (by simp; omega), List.drop_eq_nil_of_le (by simp; omega)]
theorem rOut_hi (xs : List Int) (F : Nat) (E : Int) (i : Nat) (h : E ≤ i) : rOut xs F E (i + 1) = rOut xs F E i := by
  unfold rOut
  rw [List.take_take, List.take_take, Nat.min_eq_left (by omega), Nat.min_eq_left (by omega)]
theorem rOut_in (xs : List Int) (F : Nat) (E : Int) (i : Nat) (h1 : F ≤ i) (h2 : (i : Int) < E) (h3 : i < xs.length) : rOut xs F E (i + 1) = rOut xs F E i ++ [xs.getD i 0] := by
  unfold rOut
  rw [List.take_take, List.take_take, Nat.min_eq_right (by omega), Nat.min_eq_right (by omega)]
  rw [List.take_succ_eq_append_getElem h3, List.drop_append_of_le_length (by simp; omega)]
  simp [List.getD, h3]
theorem rBeg_lo (p f : Int) (F : Nat) (E : Int) (i : Nat) (h : i < F) : rBeg p f F E (i + 1) = rBeg p f F E i := by
  unfold rBeg; rw [if_pos (by omega), if_pos (by omega)]
theorem rBeg_hi (p f : Int) (F : Nat) (E : Int) (i : Nat) (h : E ≤ i) : rBeg p f F E (i + 1) = rBeg p f F E i := by
  unfold rBeg; congr 2; omega
theorem rBeg_in (p f : Int) (F : Nat) (E : Int) (i : Nat) (h1 : F ≤ i) (h2 : (i : Int) < E) : rBeg p f F E (i + 1) = addU p F := by
  unfold rBeg; rw [if_neg (by omega)]
theorem rOut_end (p f l : Int) (xs : List Int) : rOut xs (cutFirst p f).toNat (min l 2147483647 - ahd f p) xs.length = cutBs p xs f l := by
  unfold rOut cutBs
  have h0 : 0 ≤ cutFirst p f := by unfold cutFirst; omega
  rw [List.take_length]
  split
  · rename_i h
    apply List.drop_eq_nil_of_le
    simp
    unfold cutLast at h
    omega
  · rename_i h
    congr 1
    have : (cutLast p f l xs.length).toNat = min (min l 2147483647 - ahd f p).toNat xs.length := by unfold cutLast; omega
    rw [this]
    exact List.take_eq_take_iff.2 (by omega)
theorem rBeg_end (p f l : Int) (n : Nat) : rBeg p f (cutFirst p f).toNat (min l 2147483647 - ahd f p) n = cutAt p f l n := by
  unfold rBeg cutAt
  have h0 : 0 ≤ cutFirst p f := by unfold cutFirst; omega
  by_cases h : cutLast p f l n ≤ cutFirst p f
  · rw [if_pos h, if_pos]; unfold cutLast at h; omega
  · rw [if_neg h, if_neg (by unfold cutLast at h; omega)]
    congr 1; omega

set_option maxHeartbeats 1600000 in
theorem rcut_any (p f l : Int) (A : Option Addr) (c : Nat) (xs : List Int) (w : World) (hb : Byt w (.slice A xs.length c) xs) (hsm : xs.length ≤ 1000000)
   (hp0 : 0 ≤ p) (hp1 : p ≤ 4294967295) (hf0 : 0 ≤ f) (hf1 : f ≤ 4294967295) (hl0 : 0 ≤ l) (hl1 : l ≤ 4294967295) :
    Calls Try.prog 16 #[.int .u32 p, .slice A xs.length c, .int .u32 f, .int .u32 l] w fun e w' => 
      ∃ v, e = .returned (.tuple #[.int .u32 (cutAt p f l xs.length), v]) ∧ w'.ownsRow w.heap.size 5 1 v (cutBs p xs f l).length ((cutBs p xs f l).map (.int .u8)) ∧ Below w.heap.size w w' := by
  have hbd := ahd_bd f p
  have HE1 := Lib.hid (rOut_end p f l xs)
  have HE2 := Lib.hid (rBeg_end p f l xs.length)
  have hF0 : (cutFirst p f).toNat = cutFirst p f := by unfold cutFirst; omega
  have hF1 : 0 ≤ ahd f p + (cutFirst p f).toNat := by rw [hF0]; unfold cutFirst; omega
  have hF2 : (cutFirst p f).toNat + ahd f p ≤ 0 ∨ (cutFirst p f).toNat ≤ 0 := by unfold cutFirst; omega
  clear hF0
  obtain ⟨E, hE⟩ : ∃ E, min l 2147483647 - ahd f p = E := ⟨_, rfl⟩
  obtain ⟨F, hF⟩ : ∃ F, (cutFirst p f).toNat = F := ⟨_, rfl⟩
  obtain ⟨off, hoff⟩ : ∃ off, ahd f p = off := ⟨_, rfl⟩
  obtain ⟨M, hM⟩ : ∃ M, min l 2147483647 = M := ⟨_, rfl⟩
  have hMo : M = l ∨ M = 2147483647 := by omega
  obtain ⟨A', c', hv, hc1, hc2, hb⟩ := hb
  cases hv
  obtain ⟨n, hn⟩ : ∃ n, xs.length = n := ⟨_, rfl⟩
  rw [hE, hF] at HE1 HE2
  rw [hn] at HE1 HE2 hc1 hb hsm ⊢
  have HO := Lib.hid hoff
  have HN := Lib.hid hn
  rw [hF, hoff] at hF1 hF2
  rw [hoff] at hE hbd
  have hE1 : M - off ≤ E := by omega
  have hE2 : E ≤ M - off := by omega
  have hM1 : 0 ≤ M := by omega
  have hM2 : M ≤ 2147483647 := by omega
  have HH := Lib.hid hb
  have HM := Lib.hid hM
  obtain ⟨i0, hi, hz0, hz1, hz2⟩ := info_parts info5
  have Hi := Lib.hid hi
  have Hz0 := Lib.hid hz0
  have Hz1 := Lib.hid hz1
  have Hz2 := Lib.hid hz2
  unfold maxLen at hc2
  clear hb hE hF hn hoff hi hz0 hz1 hz2 hMo
  by_cases hl : 2147483647 < l
  · obtain rfl : M = 2147483647 := by rw [← hM]; omega
    clear hM
    go_enter Try.func16, Try.ntmps16
    go_wp2_with (first | (go_at_call 19; refine (rahead_any _ _ _ (by omega) (by omega) (by omega) (by omega)).mono ?_; rw [HO.out]; rintro e w' ⟨rfl, rfl⟩))
    go_loopw [11, 12, 13] (fun o b k wr => ∃ i : Nat, i ≤ n ∧ wr.ownsRow w.heap.size 5 1 o (rOut xs F E i).length ((rOut xs F E i).map (.int .u8)) ∧ b = .int .u32 (rBeg p f F E i) ∧ k = .int .i64 i ∧ Below w.heap.size w wr) (fun _ _ k _ => n - (intOf k).toNat)
    case atStart => exact ⟨0, Nat.zero_le _, by simpa [rOut] using World.ownsRow_nil w _ _ _, by simp [rBeg], rfl, Below.refl _ _⟩
    case round =>
      obtain ⟨i, hi, hown, rfl, rfl, hB⟩ := hrel
      have hsz := hB.size
      by_cases h1 : i < n
      · by_cases h2 : i < F
        · have h3 : off + i < 0 := by omega
          rw [← rOut_lo xs F E i h2, ← rBeg_lo p f F E i h2] at *
          go_wp2
          go_roundw
          case rel => exact ⟨i + 1, by omega, hown, rfl, by go_num, hB⟩
          case measure => simp [intOf]; omega
        · by_cases h3 : E ≤ i
          · have h4 : 2147483647 ≤ off + i := by omega
            have h5 : ¬ off + i < 0 := by omega
            rw [← rOut_hi xs F E i h3, ← rBeg_hi p f F E i h3] at *
            go_wp2
            go_roundw
            case rel => exact ⟨i + 1, by omega, hown, rfl, by go_num, hB⟩
            case measure => simp [intOf]; omega
          · have h4 : off + i < 2147483647 := by omega
            have h5 : ¬ off + i < 0 := by omega
            obtain ⟨b, o, rfl, hbl, hcell⟩ := HH.out (by omega)
            have hc := (hB.cell (p := ⟨b, o + i, none⟩) hbl).trans (hcell i h1)
            obtain ⟨x, hx⟩ : ∃ x, xs.getD i 0 = x := ⟨_, rfl⟩
            have HX := Lib.hid hx
            rw [hx] at hc
            clear hcell hx
            have HIN := Lib.hid (rOut_in xs F E i (by omega) (by omega) (by rw [HN.out]; exact h1))
            have HBI := Lib.hid (rBeg_in p f F E i (by omega) (by omega))
            have hlen : (rOut xs F E i).length = i - F := by rw [rOut_len _ _ _ _ (by rw [HN.out]; omega)]; omega
            rw [hlen] at hown
            have HLEN := Lib.hid hlen
            have HB := Lib.hid hB
            clear hlen
            obtain ⟨m, hm⟩ : ∃ m, i = F + m := ⟨i - F, by omega⟩
            obtain ⟨R, hR⟩ : ∃ R, R = rOut xs F E i := ⟨_, rfl⟩
            rw [← hR] at hown HIN HLEN
            clear hR
            subst hm
            rw [show F + m - F = m from by omega] at hown HLEN
            have Hown := Lib.hid hown
            obtain ⟨Ro, hRo⟩ : ∃ Ro, Ro = R.map (Value.int .u8) := ⟨_, rfl⟩
            rw [← hRo] at hown
            have HRo := Lib.hid hRo
            clear hRo
            have hL := HLEN.out
            obtain ⟨hv1, hv2⟩ : ∃ ao cap, u11 = .slice ao m cap := by
              rcases hown.2 with ⟨rfl, h0⟩ | ⟨g, cap, cur, rfl, _⟩
              · exact ⟨none, 0, by rw [h0]⟩
              · exact ⟨_, cap, rfl⟩
            obtain ⟨cap, rfl⟩ := hv2
            clear hL
            by_cases hm0 : m = 0
            · subst hm0; rw [Nat.add_zero] at hc
              go_wp2_with (first
                | (go_at_call 20; refine (radd_any _ _ _ (by omega) (by omega)).mono ?_; rintro e w' ⟨rfl, rfl⟩)
                | (at_builtin; refine wpList_append_own _ rfl _ _ 23 rfl w.heap.size 5 i0 (.int .u8 0) 1 1 Try.underlying23 Hi.out Hz0.out Hz1.out Hz2.out rfl (by decide) _ _ _ rfl (hown.alloc _) ⟨wr.heap.size, 0, none⟩ 1 1 [.int .u8 x] rfl rfl (cell_one_new _ _ _) (fun u hu => by simp at hu; subst hu; rfl) (by unfold maxLen; omega) (by omega) (by simp; omega) ?_; intro v' w3 hown' hgrow3 hnil3))
              have hb3 : Below w.heap.size w w3 := (HB.out.alloc hsz _).grown hgrow3 (by simp; omega) (fun k hk => (hown.lt k hk).1)
              go_roundw
              case rel =>
                refine ⟨F + 0 + 1, by omega, ?_, ?_, by go_num, hb3⟩
                · rw [HIN.out, List.length_append, HLEN.out, List.map_append, ← HRo.out, HX.out]; exact hown'
                · rw [HBI.out]
              case measure => simp [intOf]; omega
            · have hm1 : ((m : Int) == 0) = false := by simp; omega
              have HBI2 : Hid (rBeg p f F E (F + m + 1) = rBeg p f F E (F + m)) := by
                show _ = _
                unfold rBeg; rw [if_neg (by omega), if_neg (by omega)]
              go_wp2_with (first
                | (at_builtin; refine wpList_append_own _ rfl _ _ 23 rfl w.heap.size 5 i0 (.int .u8 0) 1 1 Try.underlying23 Hi.out Hz0.out Hz1.out Hz2.out rfl (by decide) _ _ _ rfl (hown.alloc _) ⟨wr.heap.size, 0, none⟩ 1 1 [.int .u8 x] rfl rfl (cell_one_new _ _ _) (fun u hu => by simp at hu; subst hu; rfl) (by unfold maxLen; omega) (by omega) (by simp; omega) ?_; intro v' w3 hown' hgrow3 hnil3))
              have hb3 : Below w.heap.size w w3 := (HB.out.alloc hsz _).grown hgrow3 (by simp; omega) (fun k hk => (hown.lt k hk).1)
              go_roundw
              case rel =>
                refine ⟨F + m + 1, by omega, ?_, ?_, by go_num, hb3⟩
                · rw [HIN.out, List.length_append, HLEN.out, List.map_append, ← HRo.out, HX.out]; exact hown'
                · rw [HBI2.out]
              case measure => simp [intOf]; omega
      · obtain rfl : i = n := by omega
        rw [HE1.out] at hown
        rw [HE2.out]
        have HB := Lib.hid hB
        have Hown := Lib.hid hown
        clear hB hown
        go_wp2
        go_ret2
        exact ⟨u11, rfl, Hown.out, HB.out⟩
  · obtain rfl : M = l := by rw [← hM]; omega
    clear hM
    go_enter Try.func16, Try.ntmps16
    go_wp2_with (first | (go_at_call 19; refine (rahead_any _ _ _ (by omega) (by omega) (by omega) (by omega)).mono ?_; rw [HO.out]; rintro e w' ⟨rfl, rfl⟩))
    go_loopw [11, 12, 13] (fun o b k wr => ∃ i : Nat, i ≤ n ∧ wr.ownsRow w.heap.size 5 1 o (rOut xs F E i).length ((rOut xs F E i).map (.int .u8)) ∧ b = .int .u32 (rBeg p f F E i) ∧ k = .int .i64 i ∧ Below w.heap.size w wr) (fun _ _ k _ => n - (intOf k).toNat)
    case atStart => exact ⟨0, Nat.zero_le _, by simpa [rOut] using World.ownsRow_nil w _ _ _, by simp [rBeg], rfl, Below.refl _ _⟩
    case round =>
      obtain ⟨i, hi, hown, rfl, rfl, hB⟩ := hrel
      have hsz := hB.size
      by_cases h1 : i < n
      · by_cases h2 : i < F
        · have h3 : off + i < 0 := by omega
          rw [← rOut_lo xs F E i h2, ← rBeg_lo p f F E i h2] at *
          go_wp2
          go_roundw
          case rel => exact ⟨i + 1, by omega, hown, rfl, by go_num, hB⟩
          case measure => simp [intOf]; omega
        · by_cases h3 : E ≤ i
          · have h4 : M ≤ off + i := by omega
            have h5 : ¬ off + i < 0 := by omega
            rw [← rOut_hi xs F E i h3, ← rBeg_hi p f F E i h3] at *
            go_wp2
            go_roundw
            case rel => exact ⟨i + 1, by omega, hown, rfl, by go_num, hB⟩
            case measure => simp [intOf]; omega
          · have h4 : off + i < M := by omega
            have h5 : ¬ off + i < 0 := by omega
            obtain ⟨b, o, rfl, hbl, hcell⟩ := HH.out (by omega)
            have hc := (hB.cell (p := ⟨b, o + i, none⟩) hbl).trans (hcell i h1)
            obtain ⟨x, hx⟩ : ∃ x, xs.getD i 0 = x := ⟨_, rfl⟩
            have HX := Lib.hid hx
            rw [hx] at hc
            clear hcell hx
            have HIN := Lib.hid (rOut_in xs F E i (by omega) (by omega) (by rw [HN.out]; exact h1))
            have HBI := Lib.hid (rBeg_in p f F E i (by omega) (by omega))
            have hlen : (rOut xs F E i).length = i - F := by rw [rOut_len _ _ _ _ (by rw [HN.out]; omega)]; omega
            rw [hlen] at hown
            have HLEN := Lib.hid hlen
            have HB := Lib.hid hB
            clear hlen
            obtain ⟨m, hm⟩ : ∃ m, i = F + m := ⟨i - F, by omega⟩
            obtain ⟨R, hR⟩ : ∃ R, R = rOut xs F E i := ⟨_, rfl⟩
            rw [← hR] at hown HIN HLEN
            clear hR
            subst hm
            rw [show F + m - F = m from by omega] at hown HLEN
            have Hown := Lib.hid hown
            obtain ⟨Ro, hRo⟩ : ∃ Ro, Ro = R.map (Value.int .u8) := ⟨_, rfl⟩
            rw [← hRo] at hown
            have HRo := Lib.hid hRo
            clear hRo
            have hL := HLEN.out
            obtain ⟨hv1, hv2⟩ : ∃ ao cap, u11 = .slice ao m cap := by
              rcases hown.2 with ⟨rfl, h0⟩ | ⟨g, cap, cur, rfl, _⟩
              · exact ⟨none, 0, by rw [h0]⟩
              · exact ⟨_, cap, rfl⟩
            obtain ⟨cap, rfl⟩ := hv2
            clear hL
            by_cases hm0 : m = 0
            · subst hm0; rw [Nat.add_zero] at hc
              go_wp2_with (first
                | (go_at_call 20; refine (radd_any _ _ _ (by omega) (by omega)).mono ?_; rintro e w' ⟨rfl, rfl⟩)
                | (at_builtin; refine wpList_append_own _ rfl _ _ 23 rfl w.heap.size 5 i0 (.int .u8 0) 1 1 Try.underlying23 Hi.out Hz0.out Hz1.out Hz2.out rfl (by decide) _ _ _ rfl (hown.alloc _) ⟨wr.heap.size, 0, none⟩ 1 1 [.int .u8 x] rfl rfl (cell_one_new _ _ _) (fun u hu => by simp at hu; subst hu; rfl) (by unfold maxLen; omega) (by omega) (by simp; omega) ?_; intro v' w3 hown' hgrow3 hnil3))
              have hb3 : Below w.heap.size w w3 := (HB.out.alloc hsz _).grown hgrow3 (by simp; omega) (fun k hk => (hown.lt k hk).1)
              go_roundw
              case rel =>
                refine ⟨F + 0 + 1, by omega, ?_, ?_, by go_num, hb3⟩
                · rw [HIN.out, List.length_append, HLEN.out, List.map_append, ← HRo.out, HX.out]; exact hown'
                · rw [HBI.out]
              case measure => simp [intOf]; omega
            · have hm1 : ((m : Int) == 0) = false := by simp; omega
              have HBI2 : Hid (rBeg p f F E (F + m + 1) = rBeg p f F E (F + m)) := by
                show _ = _
                unfold rBeg; rw [if_neg (by omega), if_neg (by omega)]
              go_wp2_with (first
                | (at_builtin; refine wpList_append_own _ rfl _ _ 23 rfl w.heap.size 5 i0 (.int .u8 0) 1 1 Try.underlying23 Hi.out Hz0.out Hz1.out Hz2.out rfl (by decide) _ _ _ rfl (hown.alloc _) ⟨wr.heap.size, 0, none⟩ 1 1 [.int .u8 x] rfl rfl (cell_one_new _ _ _) (fun u hu => by simp at hu; subst hu; rfl) (by unfold maxLen; omega) (by omega) (by simp; omega) ?_; intro v' w3 hown' hgrow3 hnil3))
              have hb3 : Below w.heap.size w w3 := (HB.out.alloc hsz _).grown hgrow3 (by simp; omega) (fun k hk => (hown.lt k hk).1)
              go_roundw
              case rel =>
                refine ⟨F + m + 1, by omega, ?_, ?_, by go_num, hb3⟩
                · rw [HIN.out, List.length_append, HLEN.out, List.map_append, ← HRo.out, HX.out]; exact hown'
                · rw [HBI2.out]
              case measure => simp [intOf]; omega
      · obtain rfl : i = n := by omega
        rw [HE1.out] at hown
        rw [HE2.out]
        have HB := Lib.hid hB
        have Hown := Lib.hid hown
        clear hB hown
        go_wp2
        go_ret2
        exact ⟨u11, rfl, Hown.out, HB.out⟩
end Go.Proofs.Ytlckmdgejendpaa
