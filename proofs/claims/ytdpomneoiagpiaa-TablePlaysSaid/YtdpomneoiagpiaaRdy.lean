/- Ready, Flow. -/
import Derived.Test.YtdpomneoiagpiaaCls
set_option linter.unusedVariables false
namespace Go.Proofs.Ytdpomneoiagpiaa
open Go.RowKit Go.Deep Go.BigFrame
attribute [local go_sem ↓] Go.wp_at_zero Go.wp_at_succ
theorem own_modify {w w' : World} {ba n c k : Nat} {L : List Fl} {f : Fl} {cur cur' : Array Value} (F : Fl → Fl) (h : w.ownsRow 0 38 12 (.slice (some ⟨ba, 0, none⟩) n c) n (row L)) (hk : L[k]? = some f) (hn : L.length = n)
    (hh : w.heap[ba]? = some (.cells cur 38 (0, 0))) (hh' : w'.heap[ba]? = some (.cells cur' 38 (0, 0))) (hs : cur'.size = cur.size)
    (hc : ∀ j, j < n * 12 → cur'[j]? = if k * 12 ≤ j ∧ j < k * 12 + 12 then (F f).arr[j - k * 12]? else cur[j]?) : w'.ownsRow 0 38 12 (.slice (some ⟨ba, 0, none⟩) n c) n (row (L.modify k F)) := by
  have hkl := (List.getElem?_eq_some_iff.1 hk).1
  obtain ⟨hl, h2⟩ := h
  rcases h2 with ⟨h3, _⟩ | ⟨g', cap', cur0, h3, hb, hg, q1, q2, q3, q4⟩
  · cases h3
  · injection h3 with h3 _ h3'
    injection h3 with h3
    injection h3 with h3
    subst h3 h3'
    rw [hh] at hg
    injection hg with hg
    injection hg with hg
    subst hg
    have hml : (row (L.modify k F)).length = n * 12 := by rw [row_len, List.length_modify, hn]
    refine ⟨hml, Or.inr ⟨ba, c, cur', rfl, hb, hh', q1, q2, by rw [hs, q3], ?_⟩⟩
    apply List.ext_getElem?
    intro j
    by_cases hj : j < n * 12
    · rw [List.getElem?_take_of_lt hj, Array.getElem?_toList, hc j hj]
      have hd : j / 12 < L.length := by omega
      have hj2 : j = j / 12 * 12 + j % 12 := by omega
      by_cases hjk : j / 12 = k
      · rw [if_pos (by omega)]
        have hm : (L.modify k F)[j / 12]? = some (F f) := by rw [hjk, List.getElem?_modify, hk]; simp
        have := row_at (L.modify k F) (j / 12) _ hm (j % 12) (by omega)
        rw [← hj2] at this
        rw [this, show j - k * 12 = j % 12 by omega]
      · rw [if_neg (by omega)]
        have hm : (L.modify k F)[j / 12]? = some L[j / 12] := by rw [List.getElem?_modify, List.getElem?_eq_getElem hd]; simp [show ¬ k = j / 12 by omega]
        have h1 := row_at (L.modify k F) (j / 12) _ hm (j % 12) (by omega)
        have h2 := row_at L (j / 12) _ (List.getElem?_eq_getElem hd) (j % 12) (by omega)
        rw [← hj2] at h1 h2
        rw [h1, ← h2, ← q4, List.getElem?_take_of_lt hj, Array.getElem?_toList]
    · rw [List.getElem?_eq_none (by rw [List.length_take]; omega), List.getElem?_eq_none (by omega)]
theorem innF_modify {L : List Fl} {k : Nat} {f : Fl} (hf : L[k]? = some f) (F : Fl → Fl) (h1 : (F f).id = f.id) (h2 : (F f).inn = f.inn) (x : Tup) : innF (L.modify k F) x = innF L x := by
  obtain ⟨X, f', Y, e, hk, hf', he, hm⟩ := split_at (List.getElem?_eq_some_iff.1 hf).1
  rw [hf] at hf'
  cases hf'
  rw [hm F, e]
  unfold innF
  simp only [List.find?_append, List.find?_cons, h2]
  cases X.find? (fun f => decide (f.inn = x)) with
  | some y => rfl
  | none =>
    simp only [Option.none_or]
    by_cases e : f.inn = x
    · simp [e, h1]
    · simp [e]
theorem outF_modify {L : List Fl} {k : Nat} {f : Fl} (hf : L[k]? = some f) (F : Fl → Fl) (h1 : (F f).id = f.id) (h2 : (F f).out = f.out) (x : Tup) : outF (L.modify k F) x = outF L x := by
  obtain ⟨X, f', Y, e, hk, hf', he, hm⟩ := split_at (List.getElem?_eq_some_iff.1 hf).1
  rw [hf] at hf'
  cases hf'
  rw [hm F, e]
  unfold outF
  simp only [List.find?_append, List.find?_cons, h2]
  cases X.find? (fun f => decide (f.out = x)) with
  | some y => rfl
  | none =>
    simp only [Option.none_or]
    by_cases e : f.out = x
    · simp [e, h1]
    · simp [e]
def readyF (f : Fl) : Fl := { f with emb := false }
theorem ready_arr (f : Fl) (r : Nat) (hr : r < 12) : (readyF f).arr[r]? = if r = 11 then some (.bool false) else f.arr[r]? := by
  match r, hr with
  | 0, _ => rfl
  | 1, _ => rfl
  | 2, _ => rfl
  | 3, _ => rfl
  | 4, _ => rfl
  | 5, _ => rfl
  | 6, _ => rfl
  | 7, _ => rfl
  | 8, _ => rfl
  | 9, _ => rfl
  | 10, _ => rfl
  | 11, _ => rfl
section
variable {w : World} {g c b1 b2 N : Nat} {A : Option Addr} {s : TS}
set_option maxHeartbeats 1600000
def modS (s : TS) (k : Nat) (F : Fl → Fl) : TS := { s with L := s.L.modify k F }
theorem own_cur {w : World} {ba n c : Nat} {L : List Fl} {cur : Array Value} (h : w.ownsRow 0 38 12 (.slice (some ⟨ba, 0, none⟩) n c) n (row L)) (hn : L.length = n) (hh : w.heap[ba]? = some (.cells cur 38 (0, 0))) :
    n * 12 ≤ cur.size ∧ ∀ i f, L[i]? = some f → ∀ r, r < 12 → cur[i * 12 + r]? = f.arr[r]? := by
  rcases h.2 with ⟨h3, _⟩ | ⟨g', cap', cur0, h3, hb, hg, q1, q2, q3, q4⟩
  · cases h3
  · injection h3 with h3 _ h3'
    injection h3 with h3
    injection h3 with h3
    subst h3 h3'
    rw [hh] at hg
    injection hg with hg
    injection hg with hg
    subst hg
    refine ⟨by rw [q3]; exact Nat.mul_le_mul_right 12 q1, fun i f hf r hr => ?_⟩
    have hi := (List.getElem?_eq_some_iff.1 hf).1
    rw [← row_at L i f hf r hr, ← q4, List.getElem?_take_of_lt (by omega), Array.getElem?_toList]
theorem ready1_any (h : Tb w g A c b1 b2 N s) (ho : s.Ok) (k : Nat) (f : Fl) (hf : s.L[k]? = some f) (ba : Nat) (hA : A = some ⟨ba, 0, none⟩) :
    Calls Try.prog 42 #[.int .i64 k, .pointer (some ⟨ba, k * 12, none⟩)] w fun e w' => ∃ n, e = .returned (.int .i64 n) ∧ n = 0 ∧ Tb w' g A c b1 b2 N (modS s k readyF) ∧ Turns (Blk g A b1 b2) w w' := by
  obtain ⟨ba', cur, hA', hl, hat, hbc, n0, n1, n2⟩ := h.at hf
  subst hA
  injection hA' with hA'
  injection hA' with hA'
  subst hA'
  have k11 := hat.k11
  have fr := free_of hbc (k * 12 + 11)
  have H := Lib.hid h
  have HF := Lib.hid hf
  have HN := Lib.hid (And.intro n0 (And.intro n1 n2))
  have HB := Lib.hid hbc
  clear h ho hf hat hbc hl n0 n1 n2
  go_enter Try.func42, Try.ntmps42
  go_wp2
  go_ret
  obtain ⟨n0, n1, n2⟩ := HN.out
  have hg := grown_setCell w ba (k * 12 + 11) (.bool false)
  have hml : (modS s k readyF).L.length = s.L.length := List.length_modify ..
  obtain ⟨hsz, hcur⟩ := own_cur H.out.own rfl HB.out
  have hkl := (List.getElem?_eq_some_iff.1 HF.out).1
  refine ⟨0, rfl, rfl, { heap := ?_, own := ?_, inn := ?_, out := ?_, ne := H.out.ne, nN := H.out.nN }, Turns.grown hg (by rintro k' e; cases e; exact .inl (.inr (.inr (.inr rfl))))⟩
  · rw [hg.block _ H.out.lt (by simpa using n0.symm), H.out.heap]
    unfold tcells
    rw [hml]
    rfl
  · rw [hml]
    refine own_modify readyF H.out.own HF.out rfl HB.out (heap_set HB.out _) (by simp) fun j hj => ?_
    rw [Array.getElem?_setIfInBounds]
    split
    · rename_i hj2
      subst hj2
      rw [if_pos (by omega), if_pos (by omega), show k * 12 + 11 - k * 12 = 11 by omega]
      rfl
    · rename_i hj2
      split
      · rename_i hj3
        rw [ready_arr f (j - k * 12) (by omega), if_neg (by omega), ← hcur k f HF.out (j - k * 12) (by omega)]
        congr 1
        omega
      · rfl
  · exact (H.out.inn.keptE (hg.block _ H.out.inn.lt (by simpa using n1.symm))).congr fun t _ => (innF_modify HF.out readyF rfl rfl t).symm
  · exact (H.out.out.keptE (hg.block _ H.out.out.lt (by simpa using n2.symm))).congr fun t _ => (outF_modify HF.out readyF rfl rfl t).symm
theorem ready_any (h : Tb w g A c b1 b2 N s) (ho : s.Ok) (id : Int) :
    Calls Try.prog 17 #[.pointer (some ⟨g, 0, none⟩), .int .u64 id] w fun e w' => e = .returned (.int .i64 (atE s id)) ∧ Tb w' g A c b1 b2 N (readyS s id) ∧ Turns (Blk g A b1 b2) w w' := by
  have H := Lib.hid h
  cases hk : findK s.L id with
  | none =>
    have e1 : atE s id = 6 := by unfold atE; rw [hk]
    have e2 : readyS s id = s := by unfold readyS; rw [hk]
    rw [e1, e2]
    have HC := Lib.hid (at_none42 h ho id (find_none hk))
    clear h ho hk e1 e2
    go_enter Try.func17, Try.ntmps17
    go_wp2_with fail
    refine HC.out.mono ?_
    rintro e w' ⟨rfl, hb⟩
    go_wp2_with fail
    go_ret
    exact ⟨rfl, H.out.below hb, Turns.below hb⟩
  | some k =>
    have e1 : atE s id = 0 := by unfold atE; rw [hk]
    have e2 : readyS s id = modS s k readyF := by unfold readyS; rw [hk]; rfl
    rw [e1, e2]
    obtain ⟨f, hf, hid, hix, hkl⟩ := find_hit hk
    obtain ⟨ba, cur, rfl, -⟩ := h.at hf
    have HC := Lib.hid (at_hit42 h ho id k hix hkl ba rfl (fun n w' => n = 0 ∧ Tb w' g (some ⟨ba, 0, none⟩) c b1 b2 N (modS s k readyF) ∧ Turns (Blk g (some ⟨ba, 0, none⟩) b1 b2) w w')
      (fun W hW => (ready1_any (h.below hW) ho k f hf ba rfl).mono fun e w' ⟨n, a1, a2, a3, a4⟩ => ⟨n, a1, a2, a3, (Turns.below hW).trans a4 (fun i hi => .inl hi)⟩))
    clear h ho hk hf hid hix hkl e1 e2
    go_enter Try.func17, Try.ntmps17
    go_wp2_with fail
    refine HC.out.mono ?_
    rintro e w' ⟨n, rfl, rfl, ht, hT⟩
    have HT := Lib.hid (And.intro ht hT)
    clear ht hT
    go_wp2_with fail
    go_ret
    exact ⟨rfl, HT.out⟩
end
end Go.Proofs.Ytdpomneoiagpiaa
