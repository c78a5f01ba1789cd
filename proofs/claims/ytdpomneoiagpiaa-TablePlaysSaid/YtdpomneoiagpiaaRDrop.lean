/- The reference's Drop. -/
import Derived.Test.YtdpomneoiagpiaaRWo
import Derived.Test.YtdpomneoiagpiaaOneLaw
set_option linter.unusedVariables false
namespace Go.Proofs.Ytdpomneoiagpiaa
open Go.RowKit Go.Deep Go.BigFrame
attribute [local go_sem ↓] Go.wp_at_zero Go.wp_at_succ
theorem withoutL_take (L : List Fl) (k : Nat) : ∀ j, j ≤ L.length → withoutL L k j = (L.take j).eraseIdx k
  | 0, _ => by simp [withoutL]
  | j + 1, h => by
    have hf : L[j]? = some (L[j]'(by omega)) := List.getElem?_eq_getElem _
    have hl : (L.take j).length = j := by rw [List.length_take]; omega
    rw [withoutL_succ hf, withoutL_take L k j (by omega), take_at hf]
    by_cases hjk : (j : Int) = (k : Int)
    · have e : j = k := by omega
      rw [if_pos hjk, List.eraseIdx_append_of_length_le (by omega), List.eraseIdx_of_length_le (by omega)]
      rw [hl, show k - j = 0 by omega]
      simp
    · rw [if_neg hjk]
      rcases Nat.lt_or_ge k j with q | q
      · rw [List.eraseIdx_append_of_lt_length (by omega)]
      · rw [List.eraseIdx_of_length_le (by omega), List.eraseIdx_of_length_le (by simp; omega)]
theorem withoutL_all (L : List Fl) (k : Nat) : withoutL L k L.length = L.eraseIdx k := by
  rw [withoutL_take L k _ (Nat.le_refl _), List.take_length]
def RBlk (h : Nat) (A : Option Addr) (k : Nat) : Prop := k = h ∨ A = some ⟨k, 0, none⟩
set_option maxHeartbeats 1600000
theorem rdrop_any {w : World} {h c : Nat} {A : Option Addr} {s : TS} (r : Rt w h A c s) (ho : s.Ok) (id : Int) :
    Calls Try.prog 26 #[.pointer (some ⟨h, 0, none⟩), .int .u64 id] w fun e w' => e = .returned (.int .i64 (atE s id)) ∧ ∃ A' c', Rt w' h A' c' (dropS s id) ∧ Turns (RBlk h A) w w' ∧ NewA w A A' := by
  have R := Lib.hid r
  have HAT := Lib.hid (rat_any r ho id)
  cases hk : findK s.L id with
  | none =>
    have e1 : atE s id = 6 := by unfold atE; rw [hk]
    have e2 : dropS s id = s := by unfold dropS; rw [hk]
    rw [e1, e2]
    rw [find_none hk] at HAT
    clear r ho hk e1 e2
    go_enter Try.func26, Try.ntmps26
    go_wp2_with fail
    refine HAT.out.mono ?_
    rintro e w' ⟨rfl, rfl⟩
    go_wp2_with fail
    go_ret
    exact ⟨rfl, A, c, R.out, Turns.refl _ _, fun k e => .inl e⟩
  | some k =>
    obtain ⟨f, hf, hid, hix, hkl⟩ := find_hit hk
    have e1 : atE s id = 0 := by unfold atE; rw [hk]
    have e2 : dropS s id = delS s k := by unfold dropS; rw [hk]
    rw [e1, e2]
    rw [hix] at HAT
    have hlen := ho.len
    have hm2 := ho.most2
    have HWO := Lib.hid (without_any r ho k (by omega) (by omega))
    rw [withoutL_all] at HWO
    have HKL := Lib.hid hkl
    have hk0 : ¬ ((k : Int) < 0) := by omega
    clear r ho hk hf hid hix e1 e2 hkl hlen hm2
    go_enter Try.func26, Try.ntmps26
    go_wp2_with fail
    refine HAT.out.mono ?_
    rintro e w' ⟨rfl, rfl⟩
    go_wp2_with fail
    refine HWO.out.mono ?_
    rintro e V ⟨A', c', l, rfl, hown, hb, hl⟩
    have hh : V.heap[h]? = some (.cells (rcells s A c) 67 (0, 0)) := (hb.block h R.out.lt).trans R.out.heap
    have v0 : V.cell? ⟨h, 0, none⟩ = some (.slice A s.L.length c) := cell_of hh 0
    have f0 := free_of hh 0
    have HV := Lib.hid (And.intro hown (And.intro hb hh))
    clear hown hb hh
    go_wp2_with fail
    go_ret
    obtain ⟨hown, hb, hh⟩ := HV.out
    have hll : l = (delS s k).L.length := by
      have := hown.1
      rw [row_len] at this
      show l = (s.L.eraseIdx k).length
      omega
    subst hll
    have hg := grown_setCell V h 0 (.slice A' (delS s k).L.length c')
    refine ⟨rfl, A', c', ⟨?_, ?_⟩, (Turns.below hb).step hg (by rintro k e; cases e; exact .inl (.inl rfl)), fun k hk => .inr ?_⟩
    · rw [heap_set hh]
      rfl
    · refine row_keptE ?_ (fun i hi => hg.block i (row_lt hown hi).1 (fun e => ?_))
      · exact ⟨hown.1, by
          rcases hown.2 with q | ⟨g, cap, cur, q1, q2, q3⟩
          · exact .inl q
          · exact .inr ⟨g, cap, cur, q1, Nat.zero_le _, q3⟩⟩
      · injection e with e
        subst e
        obtain ⟨_, cs, fr, hx⟩ := row_lt hown hi
        rw [hh] at hx
        injection hx with hx
        injection hx with _ hx
        cases hx
    · rcases hown.2 with ⟨q, _⟩ | ⟨g, cap, cur, q1, q2, _⟩
      · injection q with q
        rw [q] at hk
        cases hk
      · injection q1 with q1
        rw [q1] at hk
        injection hk with hk
        injection hk with hk
        omega
end Go.Proofs.Ytdpomneoiagpiaa
