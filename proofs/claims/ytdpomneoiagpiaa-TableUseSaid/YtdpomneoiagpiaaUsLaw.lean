/- TableUse, in plain; a slice of numbers. -/
import Derived.Test.YtdpomneoiagpiaaLdLaw
import Derived.ArgAppend
set_option linter.unusedVariables false
namespace Go.Proofs.Ytdpomneoiagpiaa
open Go.RowKit Go.Deep Go.BigFrame
def useF (n id : Nat) : Fl := ⟨id, .of id, if id ≤ n then .zero else .of ((id : Int) - n), true⟩
def useL (n : Nat) (ids : List Nat) : List Fl := ids.map (useF n)
def useI (j : Nat) : Tup := .of ((j : Int) + 1)
def useO (j : Nat) : Tup := .of 0
theorem use_fill (n : Nat) : ∀ m, m ≤ n → fillL useI useO m = useL n ((List.range m).map (· + 1))
  | 0, _ => rfl
  | m + 1, h => by
    rw [fillL_succ, use_fill n m (by omega), List.range_succ, List.map_append, useL, useL, List.map_append]
    congr 1
    simp only [List.map_cons, List.map_nil, useF, useI, useO]
    rw [if_pos (by omega)]
    congr 1
theorem use_touch {n last keep : Nat} {X Y : List Nat} (h : keep ∉ X) :
    atE ⟨n, useL n (X ++ keep :: Y), last⟩ keep = 0 ∧ touchS ⟨n, useL n (X ++ keep :: Y), last⟩ keep = ⟨n, useL n (X ++ Y ++ [keep]), last⟩ := by
  have e : useL n (X ++ keep :: Y) = useL n X ++ useF n keep :: useL n Y := by simp [useL]
  have hk : findK (useL n (X ++ keep :: Y)) (keep : Int) = some (useL n X).length := by
    rw [e]
    refine findK_split rfl (fun g hg => ?_)
    unfold useL at hg
    rw [List.mem_map] at hg
    obtain ⟨j, hj, rfl⟩ := hg
    show (j : Int) ≠ keep
    intro q
    exact h (by rw [← Int.ofNat_inj.1 q]; exact hj)
  refine ⟨by unfold atE; rw [hk], ?_⟩
  unfold touchS
  rw [hk]
  have h1 : (useL n (X ++ keep :: Y))[(useL n X).length]? = some (useF n keep) := by
    rw [e, List.getElem?_append_right (Nat.le_refl _)]
    simp
  have h2 : (useL n (X ++ keep :: Y)).eraseIdx (useL n X).length = useL n X ++ useL n Y := by
    rw [e, List.eraseIdx_append_of_length_le (Nat.le_refl _)]
    simp
  simp only [h1, h2, Option.toList_some]
  simp [useL]
theorem use_find {n keep : Nat} {X Y : List Nat} (h : keep ∉ X) : (findK (useL n (X ++ keep :: Y)) (keep : Int)).isSome = true := by
  have e : useL n (X ++ keep :: Y) = useL n X ++ useF n keep :: useL n Y := by simp [useL]
  have hk : findK (useL n (X ++ keep :: Y)) (keep : Int) = some (useL n X).length := by
    rw [e]
    refine findK_split rfl (fun g hg => ?_)
    unfold useL at hg
    rw [List.mem_map] at hg
    obtain ⟨j, hj, rfl⟩ := hg
    show (j : Int) ≠ keep
    intro q
    exact h (by rw [← Int.ofNat_inj.1 q]; exact hj)
  rw [hk]
  rfl
theorem use_add {n r h : Nat} {T : List Nat} (hl : T.length + 1 = n) (hi : ∀ id ∈ h :: T, id ≤ n + r) :
    addE ⟨n, useL n (h :: T), n + r⟩ (.of ((n : Int) + r + 1)) (.of ((r : Int) + 1)) = 0 ∧ addN ⟨n, useL n (h :: T), n + r⟩ (.of ((n : Int) + r + 1)) (.of ((r : Int) + 1)) = (n : Int) + r + 1 ∧
      addW ⟨n, useL n (h :: T), n + r⟩ (.of ((n : Int) + r + 1)) (.of ((r : Int) + 1)) = h ∧ addS ⟨n, useL n (h :: T), n + r⟩ (.of ((n : Int) + r + 1)) (.of ((r : Int) + 1)) = ⟨n, useL n (T ++ [n + r + 1]), n + r + 1⟩ := by
  have h1 : innF (useL n (h :: T)) (.of ((n : Int) + r + 1)) = 0 := innF_none fun f hf => by
    unfold useL at hf
    rw [List.mem_map] at hf
    obtain ⟨j, hj, rfl⟩ := hf
    intro q
    have := of_inj q
    have := hi j hj
    omega
  have h2 : outF (useL n (h :: T)) (.of ((r : Int) + 1)) = 0 := outF_none fun _ f hf => by
    unfold useL at hf
    rw [List.mem_map] at hf
    obtain ⟨j, hj, rfl⟩ := hf
    show (if j ≤ n then Tup.zero else .of ((j : Int) - n)) ≠ _
    have := hi j hj
    split
    · intro q
      have := of_zero.1 q.symm
      omega
    · intro q
      have := of_inj q
      omega
  have hz : Tup.of ((n : Int) + r + 1) ≠ Tup.zero := fun q => by have := of_zero.1 q; omega
  have hlen : (useL n (h :: T)).length = n := by simp [useL]; omega
  have he : embK (useL n (h :: T)) = some 0 := by
    unfold embK useL useF
    simp [List.findIdx?_cons]
  have e0 : addE ⟨n, useL n (h :: T), n + r⟩ (.of ((n : Int) + r + 1)) (.of ((r : Int) + 1)) = 0 := by
    unfold addE
    rw [if_neg hz, if_neg (by rintro (q | q); exact q h1; exact q h2), if_neg (fun q => by rw [he] at q; cases q.2)]
  refine ⟨e0, ?_, ?_, ?_⟩
  · unfold addN
    rw [if_pos e0]
    push_cast
    rfl
  · unfold addW wentF
    rw [if_pos e0, if_pos (by show n ≤ (useL n (h :: T)).length; omega), he]
    rfl
  · unfold addS pushS evict
    rw [if_pos e0, if_pos (by show n ≤ (useL n (h :: T)).length; omega), he]
    show (⟨n, (useL n (h :: T)).eraseIdx 0 ++ [_], n + r + 1⟩ : TS) = _
    congr 1
    have hf : useF n (n + r + 1) = ⟨((n + r : Nat) : Int) + 1, .of ((n : Int) + r + 1), .of ((r : Int) + 1), true⟩ := by
      unfold useF
      rw [if_neg (by omega)]
      congr 1
      congr 1
      push_cast
      omega
    show useL n T ++ [_] = useL n (T ++ [n + r + 1])
    have e9 : useL n (T ++ [n + r + 1]) = useL n T ++ [useF n (n + r + 1)] := by simp [useL]
    rw [e9, hf]
/-- A slice of numbers. -/
structure USl (w : World) (b o n c : Nat) (xs : List Nat) : Prop where
  ex : ∃ cur, w.heap[b]? = some (.cells cur 27 (0, 0)) ∧ o + c ≤ cur.size ∧ ∀ i x, xs[i]? = some x → cur[o + i]? = some (.int .u64 (x : Nat))
  le : n ≤ c
  cm : c ≤ maxLen
  len : xs.length = n
theorem info27 : (Try.prog.info? 27).map (fun i => (i.zero, i.size, i.bytes)) = some (some (.int .u64 0), 1, 8) := by kernel_rfl
theorem USl.keep {w w' : World} {b o n c : Nat} {xs : List Nat} (h : USl w b o n c xs) (e : w'.heap[b]? = w.heap[b]?) : USl w' b o n c xs := by
  obtain ⟨cur, h1, h2⟩ := h.ex
  exact { h with ex := ⟨cur, e.trans h1, h2⟩ }
theorem USl.apart {w w' : World} {b1 b2 b o n c : Nat} {xs : List Nat} (h : USl w b o n c xs) (ha : Apart b1 b2 w w') : USl w' b o n c xs := by
  obtain ⟨cur, h1, h2⟩ := h.ex
  exact h.keep ((ha.block b _ h1 ⟨by decide, by decide⟩).trans h1.symm)
theorem USl.lt {w : World} {b o n c : Nat} {xs : List Nat} (h : USl w b o n c xs) : b < w.heap.size := by
  obtain ⟨cur, h1, _⟩ := h.ex
  exact (Array.getElem?_eq_some_iff.1 h1).1
theorem USl.cut {w : World} {b o n c x : Nat} {xs : List Nat} (h : USl w b o n c (x :: xs)) (b' : Nat) : USl w b (if c = 1 then o else o + 1) (n - 1) (c - 1) xs := by
  obtain ⟨cur, h1, h2, h3⟩ := h.ex
  have hl := h.len
  simp at hl
  have hle := h.le
  refine ⟨⟨cur, h1, ?_, fun i y hy => ?_⟩, by omega, by have := h.cm; omega, by omega⟩
  · split <;> omega
  · have hi := (List.getElem?_eq_some_iff.1 hy).1
    rw [if_neg (by omega)]
    rw [show o + 1 + i = o + (i + 1) by omega]
    exact h3 (i + 1) y (by simpa using hy)
theorem USl.head {w : World} {b o n c x : Nat} {xs : List Nat} (h : USl w b o n c (x :: xs)) : w.cell? ⟨b, o, none⟩ = some (.int .u64 (x : Nat)) := by
  obtain ⟨cur, h1, h2, h3⟩ := h.ex
  rw [cell_of h1]
  exact h3 0 x rfl
theorem one27 (x : Int) : ∀ u ∈ [Value.int .u64 x], u.oneCell' = true := by
  intro u hu
  simp at hu
  subst hu
  rfl
/-- One number more. -/
theorem USl.push {w : World} {b o n c q : Nat} {xs : List Nat} (h : USl w b o n c xs) (x : Nat) (hq : w.heap[q]? = some (.cells #[.int .u64 (x : Nat)] 27 (0, 0))) (hsm : n ≤ 40000) :
    ∃ b' o' c' w', (Builtin.append_ #[35, 35] 35 #[.slice (some ⟨b, o, none⟩) n c, .slice (some ⟨q, 0, none⟩) 1 1]).run Try.prog w = .ok (.slice (some ⟨b', o', none⟩) (n + 1) c') w' ∧
      USl w' b' o' (n + 1) c' (xs ++ [x]) ∧ w.grownBy w' (some b) ∧ (b' = b ∨ w.heap.size ≤ b') := by
  obtain ⟨i0, hi, hz0, hz1, hz2⟩ := info_parts info27
  obtain ⟨cur, h1, h2, h3⟩ := h.ex
  have hlen := h.len
  have hnews : ∀ j u, ([Value.int .u64 (x : Nat)] : List Value)[j]? = some u → w.cell? ((⟨q, 0, none⟩ : Addr).add j) = some u := by
    intro j u hu
    have hj := (List.getElem?_eq_some_iff.1 hu).1
    obtain rfl : j = 0 := by simpa using hj
    rw [Go.WideShapes.add_plain, cell_of hq]
    exact hu
  by_cases hr : n + 1 ≤ c
  · have hrun := run_append_room_cells (P := Try.prog) w 35 35 27 i0 Try.underlying35 hi b o n c ⟨q, 0, none⟩ 1 1 [.int .u64 (x : Nat)] (by rw [hz1]; rfl) hnews (one27 _) hr
      (fun j hj => by simp at hj; subst hj; rw [hz1, cell_of h1, Array.getElem?_eq_getElem (by have := h.le; omega)]; rfl) (fun j hj => by rw [hz1]; exact free_of h1 _)
    rw [hz1] at hrun
    obtain ⟨cur', g1, g2, g3⟩ := heap_setCells [.int .u64 (x : Nat)] (o + n * 1) h1
    refine ⟨b, o, c, _, hrun, ⟨⟨cur', g1, by omega, fun i y hy => ?_⟩, hr, h.cm, by simp [hlen]⟩, grown_setCells _ _ _ _, .inl rfl⟩
    rw [g3 (o + i)]
    have hii := (List.getElem?_eq_some_iff.1 hy).1
    simp at hii
    by_cases hin : i < n
    · rw [if_neg (by omega)]
      rw [List.getElem?_append_left (by omega)] at hy
      exact h3 i y hy
    · obtain rfl : i = n := by omega
      rw [if_pos (by simp; omega)]
      rw [List.getElem?_append_right (by omega)] at hy
      simp [hlen] at hy
      subst hy
      simp
  · have holds : ∀ j u, (xs.map (fun (y : Nat) => Value.int .u64 (y : Int)))[j]? = some u → w.cell? ((⟨b, o, none⟩ : Addr).add j) = some u := by
      intro j u hu
      rw [List.getElem?_map] at hu
      cases hx : xs[j]? with
      | none => rw [hx] at hu; cases hu
      | some y =>
        rw [hx] at hu
        injection hu with hu
        subst hu
        rw [Go.WideShapes.add_plain, cell_of h1]
        exact h3 j y hx
    obtain ⟨v', w', hrun, hown, hg⟩ := run_append_arg_grows (P := Try.prog) w 35 35 27 i0 (.int .u64 0) 1 8 Try.underlying35 hi hz0 hz1 hz2 rfl (by decide) ⟨b, o, none⟩ n c (xs.map (fun (y : Nat) => Value.int .u64 (y : Int))) (by simp [hlen]) holds
      ⟨q, 0, none⟩ 1 1 [.int .u64 (x : Nat)] rfl hnews (by omega) (by unfold maxLen; omega) (by omega)
    obtain ⟨hl, h2'⟩ := hown
    rcases h2' with ⟨_, h4⟩ | ⟨g', cap, cur', rfl, hb, hgc, q1, q2, q3, q4⟩
    · omega
    · refine ⟨g', 0, cap, w', hrun, ⟨⟨cur', hgc, by omega, fun i y hy => ?_⟩, q1, q2, by simp [hlen]⟩, ⟨hg.os, hg.tape, hg.output, hg.size, fun k hk _ => hg.block k hk (by simp)⟩, .inr hb⟩
      have hii := (List.getElem?_eq_some_iff.1 hy).1
      simp at hii
      have e1 : cur'[0 + i]? = (cur'.toList.take ((n + 1) * 1))[i]? := by
        rw [List.getElem?_take_of_lt (by omega), Array.getElem?_toList]
        congr 1
        omega
      rw [e1, q4]
      by_cases hin : i < n
      · rw [List.getElem?_append_left (by omega)] at hy
        rw [List.getElem?_append_left (by simp; omega), List.getElem?_map, hy]
        rfl
      · obtain rfl : i = n := by omega
        rw [List.getElem?_append_right (by omega)] at hy
        simp [hlen] at hy
        subst hy
        rw [List.getElem?_append_right (by simp; omega)]
        simp [hlen]
end Go.Proofs.Ytdpomneoiagpiaa
