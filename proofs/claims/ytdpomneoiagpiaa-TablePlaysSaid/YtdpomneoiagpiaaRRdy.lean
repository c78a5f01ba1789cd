/- The reference's Ready. -/
import Derived.Test.YtdpomneoiagpiaaRFlow
set_option linter.unusedVariables false
namespace Go.Proofs.Ytdpomneoiagpiaa
open Go.RowKit Go.Deep Go.BigFrame
attribute [local go_sem ↓] Go.wp_at_zero Go.wp_at_succ
theorem own_modify62 {w w' : World} {ba n c k : Nat} {L : List Fl} {f : Fl} {cur cur' : Array Value} (F : Fl → Fl) (h : w.ownsRow 0 62 12 (.slice (some ⟨ba, 0, none⟩) n c) n (row L)) (hk : L[k]? = some f) (hn : L.length = n)
    (hh : w.heap[ba]? = some (.cells cur 62 (0, 0))) (hh' : w'.heap[ba]? = some (.cells cur' 62 (0, 0))) (hs : cur'.size = cur.size)
    (hc : ∀ j, j < n * 12 → cur'[j]? = if k * 12 ≤ j ∧ j < k * 12 + 12 then (F f).arr[j - k * 12]? else cur[j]?) : w'.ownsRow 0 62 12 (.slice (some ⟨ba, 0, none⟩) n c) n (row (L.modify k F)) := by
  have hkl := (List.getElem?_eq_some_iff.1 hk).1
  obtain ⟨hl, h2⟩ := h
  rcases h2 with ⟨h3, _⟩ | ⟨g', cap', cur0, h3, hb, hg, q1, q2, q3, q4⟩
  · cases h3
  · injection h3 with h3 _ h3'
    injection h3 with h3
    injection h3 with h3
    subst h3 h3'
    rw [hh] at hg
    injection hg with hg
    injection hg with hg
    subst hg
    have hml : (row (L.modify k F)).length = n * 12 := by rw [row_len, List.length_modify, hn]
    refine ⟨hml, Or.inr ⟨ba, c, cur', rfl, hb, hh', q1, q2, by rw [hs, q3], ?_⟩⟩
    apply List.ext_getElem?
    intro j
    by_cases hj : j < n * 12
    · rw [List.getElem?_take_of_lt hj, Array.getElem?_toList, hc j hj]
      have hd : j / 12 < L.length := by omega
      have hj2 : j = j / 12 * 12 + j % 12 := by omega
      by_cases hjk : j / 12 = k
      · rw [if_pos (by omega)]
        have hm : (L.modify k F)[j / 12]? = some (F f) := by rw [hjk, List.getElem?_modify, hk]; simp
        have := row_at (L.modify k F) (j / 12) _ hm (j % 12) (by omega)
        rw [← hj2] at this
        rw [this, show j - k * 12 = j % 12 by omega]
      · rw [if_neg (by omega)]
        have hm : (L.modify k F)[j / 12]? = some L[j / 12] := by rw [List.getElem?_modify, List.getElem?_eq_getElem hd]; simp [show ¬ k = j / 12 by omega]
        have h1 := row_at (L.modify k F) (j / 12) _ hm (j % 12) (by omega)
        have h2 := row_at L (j / 12) _ (List.getElem?_eq_getElem hd) (j % 12) (by omega)
        rw [← hj2] at h1 h2
        rw [h1, ← h2, ← q4, List.getElem?_take_of_lt hj, Array.getElem?_toList]
    · rw [List.getElem?_eq_none (by rw [List.length_take]; omega), List.getElem?_eq_none (by omega)]
theorem own_cur62 {w : World} {ba n c : Nat} {L : List Fl} {cur : Array Value} (h : w.ownsRow 0 62 12 (.slice (some ⟨ba, 0, none⟩) n c) n (row L)) (hn : L.length = n) (hh : w.heap[ba]? = some (.cells cur 62 (0, 0))) :
    n * 12 ≤ cur.size ∧ ∀ i f, L[i]? = some f → ∀ r, r < 12 → cur[i * 12 + r]? = f.arr[r]? := by
  rcases h.2 with ⟨h3, _⟩ | ⟨g', cap', cur0, h3, hb, hg, q1, q2, q3, q4⟩
  · cases h3
  · injection h3 with h3 _ h3'
    injection h3 with h3
    injection h3 with h3
    subst h3 h3'
    rw [hh] at hg
    injection hg with hg
    injection hg with hg
    subst hg
    refine ⟨by rw [q3]; exact Nat.mul_le_mul_right 12 q1, fun i f hf r hr => ?_⟩
    have hi := (List.getElem?_eq_some_iff.1 hf).1
    rw [← row_at L i f hf r hr, ← q4, List.getElem?_take_of_lt (by omega), Array.getElem?_toList]
theorem Rt.at {w : World} {h c : Nat} {A : Option Addr} {s : TS} (r : Rt w h A c s) {k : Nat} {f : Fl} (hf : s.L[k]? = some f) :
    ∃ ba cur, A = some ⟨ba, 0, none⟩ ∧ ba < w.heap.size ∧ FlAt w ba (k * 12) f ∧ w.heap[ba]? = some (.cells cur 62 (0, 0)) ∧ ba ≠ h := by
  obtain ⟨b, o, hA, hl, ha⟩ := r.fls k f hf
  have hi := (List.getElem?_eq_some_iff.1 hf).1
  rcases r.own.2 with ⟨h3, h4⟩ | ⟨g', cap, cur, h3, hb, hg, q1, q2, q3, q4⟩
  · omega
  · injection h3 with h3 _ _
    rw [hA] at h3
    injection h3 with h3
    injection h3 with h3 h5
    subst h3 h5
    rw [Nat.zero_add] at ha
    refine ⟨b, cur, hA, hl, ha, hg, fun e => ?_⟩
    subst e
    rw [r.heap] at hg
    injection hg with hg
    injection hg with _ hg
    cases hg
set_option maxHeartbeats 1600000
theorem rready_any {w : World} {h c : Nat} {A : Option Addr} {s : TS} (r : Rt w h A c s) (ho : s.Ok) (id : Int) :
    Calls Try.prog 25 #[.pointer (some ⟨h, 0, none⟩), .int .u64 id] w fun e w' => e = .returned (.int .i64 (atE s id)) ∧ Rt w' h A c (readyS s id) ∧ Turns (RBlk h A) w w' := by
  have R := Lib.hid r
  have HAT := Lib.hid (rat_any r ho id)
  cases hk : findK s.L id with
  | none =>
    have e1 : atE s id = 6 := by unfold atE; rw [hk]
    have e2 : readyS s id = s := by unfold readyS; rw [hk]
    rw [e1, e2]
    rw [find_none hk] at HAT
    clear r ho hk e1 e2
    go_enter Try.func25, Try.ntmps25
    go_wp2_with fail
    refine HAT.out.mono ?_
    rintro e w' ⟨rfl, rfl⟩
    go_wp2_with fail
    go_ret
    exact ⟨rfl, R.out, Turns.refl _ _⟩
  | some k =>
    obtain ⟨f, hf, hid, hix, hkl⟩ := find_hit hk
    have e1 : atE s id = 0 := by unfold atE; rw [hk]
    have e2 : readyS s id = modS s k readyF := by unfold readyS; rw [hk]; rfl
    rw [e1, e2]
    rw [hix] at HAT
    obtain ⟨ba, cur, rfl, hbl, hat, hbc, hbh⟩ := r.at hf
    have k11 := hat.k11
    have fr := free_of hbc (k * 12 + 11)
    have c0 := r.c0
    have hlm : s.L.length ≤ 1024 := Nat.le_trans ho.len ho.most2
    obtain ⟨n, hn⟩ : ∃ n, s.L.length = n := ⟨_, rfl⟩
    rw [hn] at c0 hlm hkl
    have HN := Lib.hid hn
    have hk0 : ¬ ((k : Int) < 0) := by omega
    have HF := Lib.hid (And.intro hf (And.intro hbc (And.intro hbl hbh)))
    clear r ho hk hid hix e1 e2 hf hat hbc hbl hbh hn
    go_enter Try.func25, Try.ntmps25
    go_wp2_with fail
    refine HAT.out.mono ?_
    rintro e w' ⟨rfl, rfl⟩
    go_wp2_with fail
    go_ret
    obtain ⟨hf, hbc, hbl, hbh⟩ := HF.out
    have hg := grown_setCell w ba (k * 12 + 11) (.bool false)
    have hml : (modS s k readyF).L.length = s.L.length := List.length_modify ..
    obtain ⟨hsz, hcur⟩ := own_cur62 R.out.own rfl hbc
    have hkl2 := (List.getElem?_eq_some_iff.1 hf).1
    refine ⟨rfl, ⟨?_, ?_⟩, Turns.grown hg (by rintro k' e; cases e; exact .inl (.inr rfl))⟩
    · rw [hg.block _ R.out.lt (by simpa using hbh.symm), R.out.heap]
      unfold rcells
      rw [hml]
      rfl
    · rw [hml]
      refine own_modify62 readyF R.out.own hf rfl hbc (heap_set hbc _) (by simp) fun j hj => ?_
      rw [Array.getElem?_setIfInBounds]
      split
      · rename_i hj2
        subst hj2
        rw [if_pos (by omega), if_pos (by omega), show k * 12 + 11 - k * 12 = 11 by omega]
        rfl
      · rename_i hj2
        split
        · rename_i hj3
          rw [ready_arr f (j - k * 12) (by omega), if_neg (by omega), ← hcur k f hf (j - k * 12) (by omega)]
          congr 1
          omega
        · rfl
end Go.Proofs.Ytdpomneoiagpiaa
