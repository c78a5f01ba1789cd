/- A table of one's own, call by call. -/
import Derived.Test.YtdpomneoiagpiaaTouch
import Derived.Test.YtdpomneoiagpiaaAdd
set_option linter.unusedVariables false
namespace Go.Proofs.Ytdpomneoiagpiaa
open Go.RowKit Go.Deep Go.BigFrame
/-- What stands apart from a table: neither a struct of a table, nor a row of flows, nor one of its maps. -/
def Far (b1 b2 b : Nat) : Obj → Prop
  | .cells _ ty _ => ty ≠ 72 ∧ ty ≠ 38
  | _ => b ≠ b1 ∧ b ≠ b2
structure Apart (b1 b2 : Nat) (w w' : World) : Prop where
  size : w.heap.size ≤ w'.heap.size
  block : ∀ b x, w.heap[b]? = some x → Far b1 b2 b x → w'.heap[b]? = some x
structure Tab (w0 w : World) (g b1 b2 N : Nat) (s : TS) : Prop where
  tb : ∃ A c, Tb w g A c b1 b2 N s ∧ ∀ k, Blk g A b1 b2 k → w0.heap.size ≤ k
  ok : s.Ok
  bel : Below w0.heap.size w0 w
theorem Apart.trans {b1 b2 : Nat} {a b c : World} (h : Apart b1 b2 a b) (k : Apart b1 b2 b c) : Apart b1 b2 a c := ⟨Nat.le_trans h.size k.size, fun i x hx hf => k.block i x (h.block i x hx hf) hf⟩
theorem Apart.below {b1 b2 : Nat} {w w' : World} (h : Below w.heap.size w w') : Apart b1 b2 w w' := ⟨h.size, fun b x hx _ => (h.block b (Array.getElem?_eq_some_iff.1 hx).1).trans hx⟩
theorem Apart.turns {w w' : World} {g c b1 b2 N : Nat} {A : Option Addr} {s : TS} (h : Tb w g A c b1 b2 N s) (ht : Turns (Blk g A b1 b2) w w') : Apart b1 b2 w w' := by
  refine ⟨ht.size, fun b x hx hf => (ht.block b (Array.getElem?_eq_some_iff.1 hx).1 (fun hb => ?_)).trans hx⟩
  rcases hb with rfl | rfl | rfl | hb
  · rw [h.heap] at hx
    cases hx
    exact hf.1 rfl
  · obtain ⟨es, ck, hm⟩ := h.inn.isMap
    rw [hm] at hx
    cases hx
    exact hf.1 rfl
  · obtain ⟨es, ck, hm⟩ := h.out.isMap
    rw [hm] at hx
    cases hx
    exact hf.2 rfl
  · obtain ⟨_, cs, fr, hh⟩ := row_lt h.own hb
    rw [hh] at hx
    cases hx
    exact hf.2 rfl
theorem Tab.below {w0 w w' : World} {g b1 b2 N : Nat} {s : TS} (h : Tab w0 w g b1 b2 N s) (hb : Below w.heap.size w w') : Tab w0 w' g b1 b2 N s := by
  obtain ⟨A, c, ht, hk⟩ := h.tb
  exact ⟨⟨A, c, ht.below hb, hk⟩, h.ok, h.bel.trans (hb.mono h.bel.size)⟩
theorem Tab.turned {w0 w w' : World} {g b1 b2 N' c' : Nat} {A A' : Option Addr} {s' : TS} (h : Below w0.heap.size w0 w) (hk : ∀ k, Blk g A b1 b2 k → w0.heap.size ≤ k) (ht : Tb w' g A' c' b1 b2 N' s') (hs : s'.Ok) (hT : Turns (Blk g A b1 b2) w w') (hn : NewA w A A') : Tab w0 w' g b1 b2 N' s' := by
  refine ⟨⟨A', c', ht, fun k hb => ?_⟩, hs, h.trans (hT.toBelow h.size hk)⟩
  rcases hb with rfl | rfl | rfl | hb
  · exact hk _ (.inl rfl)
  · exact hk _ (.inr (.inl rfl))
  · exact hk _ (.inr (.inr (.inl rfl)))
  · rcases hn k hb with e | e
    · exact hk _ (.inr (.inr (.inr e)))
    · exact Nat.le_trans h.size e
theorem Tab.cut {w0 w : World} {g b1 b2 N M : Nat} {s : TS} (h : Tab w0 w g b1 b2 N s) (hn : N ≤ M) (hM : M ≤ 1000000) : Tab w0 w g b1 b2 M s := by
  obtain ⟨A, c, ht, hk⟩ := h.tb
  exact ⟨⟨A, c, { ht with inn := ht.inn.mono hn, out := ht.out.mono hn, nN := hM }, hk⟩, h.ok, h.bel⟩
section
variable {w0 w : World} {g b1 b2 N : Nat} {s : TS}
theorem TS.Ok.dropS (h : s.Ok) (id : Int) : (dropS s id).Ok := by
  unfold Ytdpomneoiagpiaa.dropS
  cases findK s.L id with
  | none => exact h
  | some k => exact h.del k
theorem TS.Ok.readyS (h : s.Ok) (id : Int) : (readyS s id).Ok := by
  unfold Ytdpomneoiagpiaa.readyS
  cases hk : findK s.L id with
  | none => exact h
  | some k =>
    obtain ⟨f, hf, _⟩ := find_hit hk
    exact h.mod hf
theorem TS.Ok.touchS (h : s.Ok) (id : Int) : (touchS s id).Ok := by
  unfold Ytdpomneoiagpiaa.touchS
  cases hk : findK s.L id with
  | none => exact h
  | some k =>
    obtain ⟨f, hf, _⟩ := find_hit hk
    simp only [hf, Option.toList_some]
    exact (h.touch hf).1
theorem TS.Ok.leadS (h : s.Ok) (id : Int) (o : Tup) (hoo : o.Ok) : (leadS s id o).Ok := by
  unfold Ytdpomneoiagpiaa.leadS
  cases hk : findK s.L id with
  | none => exact h
  | some k =>
    obtain ⟨f, hf, hid, _⟩ := find_hit hk
    simp only
    split
    · exact h
    · rename_i hth
      refine h.lead hf hoo ?_
      rcases Decidable.em (outF s.L o = 0) with q | q
      · exact .inl q
      · exact .inr (by rw [hid]; exact Decidable.byContradiction fun q2 => hth ⟨q, q2⟩)
theorem tab_drop (h : Tab w0 w g b1 b2 N s) (id : Int) :
    Calls Try.prog 18 #[.pointer (some ⟨g, 0, none⟩), .int .u64 id] w fun e w' => e = .returned (.int .i64 (atE s id)) ∧ Tab w0 w' g b1 b2 N (dropS s id) ∧ Apart b1 b2 w w' := by
  obtain ⟨A, c, ht, hk⟩ := h.tb
  exact (drop_any ht h.ok id).mono fun e w' ⟨a1, a2, a3⟩ => ⟨a1, Tab.turned h.bel hk a2 (h.ok.dropS id) a3 (fun k e => .inl e), Apart.turns ht a3⟩
theorem tab_ready (h : Tab w0 w g b1 b2 N s) (id : Int) :
    Calls Try.prog 17 #[.pointer (some ⟨g, 0, none⟩), .int .u64 id] w fun e w' => e = .returned (.int .i64 (atE s id)) ∧ Tab w0 w' g b1 b2 N (readyS s id) ∧ Apart b1 b2 w w' := by
  obtain ⟨A, c, ht, hk⟩ := h.tb
  exact (ready_any ht h.ok id).mono fun e w' ⟨a1, a2, a3⟩ => ⟨a1, Tab.turned h.bel hk a2 (h.ok.readyS id) a3 (fun k e => .inl e), Apart.turns ht a3⟩
theorem tab_touch (h : Tab w0 w g b1 b2 N s) (id : Int) :
    Calls Try.prog 12 #[.pointer (some ⟨g, 0, none⟩), .int .u64 id] w fun e w' => e = .returned (.int .i64 (atE s id)) ∧ Tab w0 w' g b1 b2 N (touchS s id) ∧ Apart b1 b2 w w' := by
  obtain ⟨A, c, ht, hk⟩ := h.tb
  exact (touch_any ht h.ok id).mono fun e w' ⟨a1, A', c', a2, a3, a4⟩ => ⟨a1, Tab.turned h.bel hk a2 (h.ok.touchS id) a3 a4, Apart.turns ht a3⟩
theorem tab_lead (h : Tab w0 w g b1 b2 N s) (id : Int) (hid : (Lit.int .u64 id).wf = true) (o : Tup) (hoo : o.Ok) (hN : N < 1000000) :
    Calls Try.prog 15 #[.pointer (some ⟨g, 0, none⟩), .int .u64 id, o.val] w fun e w' => e = .returned (.int .i64 (leadE s id o)) ∧ Tab w0 w' g b1 b2 (N + 1) (leadS s id o) ∧ Apart b1 b2 w w' := by
  obtain ⟨A, c, ht, hk⟩ := h.tb
  exact (lead_any ht h.ok id hid o hoo hN).mono fun e w' ⟨a1, a2, a3⟩ => ⟨a1, Tab.turned h.bel hk a2 (h.ok.leadS id o hoo) a3 (fun k e => .inl e), Apart.turns ht a3⟩
theorem tab_inner (h : Tab w0 w g b1 b2 N s) (x : Tup) (hx : x.Ok) :
    Calls Try.prog 20 #[.pointer (some ⟨g, 0, none⟩), x.val] w fun e w' => e = .returned (.tuple #[.int .u64 (innF s.L x), .bool (innF s.L x != 0)]) ∧ Below w.heap.size w w' := by
  obtain ⟨A, c, ht, hk⟩ := h.tb
  exact inner_any ht h.ok x hx
theorem tab_outer (h : Tab w0 w g b1 b2 N s) (x : Tup) (hx : x.Ok) :
    Calls Try.prog 16 #[.pointer (some ⟨g, 0, none⟩), x.val] w fun e w' => e = .returned (.tuple #[.int .u64 (outF s.L x), .bool (outF s.L x != 0)]) ∧ Below w.heap.size w w' := by
  obtain ⟨A, c, ht, hk⟩ := h.tb
  exact outer_any ht h.ok x hx
theorem tab_len (h : Tab w0 w g b1 b2 N s) : Calls Try.prog 14 #[.pointer (some ⟨g, 0, none⟩)] w fun e w' => e = .returned (.int .i64 s.L.length) ∧ w = w' := by
  obtain ⟨A, c, ht, hk⟩ := h.tb
  exact len_any ht h.ok
theorem tab_all (h : Tab w0 w g b1 b2 N s) : Calls Try.prog 19 #[.pointer (some ⟨g, 0, none⟩)] w fun e w' => ∃ v, e = .returned v ∧ w'.ownsRow w.heap.size 38 12 v s.L.length (row s.L) ∧ Below w.heap.size w w' := by
  obtain ⟨A, c, ht, hk⟩ := h.tb
  exact all_any ht h.ok
theorem tab_flow (h : Tab w0 w g b1 b2 N s) (id : Int) :
    Calls Try.prog 13 #[.pointer (some ⟨g, 0, none⟩), .int .u64 id] w fun e w' => e = .returned (.tuple #[(flowF s id).val, .bool (findK s.L id).isSome]) ∧ Below w.heap.size w w' := by
  obtain ⟨A, c, ht, hk⟩ := h.tb
  exact flow_any ht h.ok id
theorem tab_new (most : Nat) (w0 w : World) (h1 : 1 ≤ most) (h2 : most ≤ 1024) (hb : Below w0.heap.size w0 w) :
    Calls Try.prog 8 #[.int .i64 most] w fun e w' => ∃ g b1 b2, e = .returned (.tuple #[.pointer (some ⟨g, 0, none⟩), .int .i64 0]) ∧ Tab w0 w' g b1 b2 0 ⟨most, [], 0⟩ ∧ Below w.heap.size w w' ∧ w.heap.size ≤ b1 ∧ w.heap.size ≤ b2 := by
  refine (new_yes most w h1 h2).mono fun e w' ⟨g, b1, b2, a1, a2, a3, a4, a5, a6⟩ => ⟨g, b1, b2, a1, ⟨⟨_, _, a2, fun k hk => ?_⟩, ?_, hb.trans (a3.mono hb.size)⟩, a3, a5, a6⟩
  · have := hb.size
    rcases hk with rfl | rfl | rfl | hk
    · omega
    · omega
    · omega
    · cases hk
  · exact { most1 := h1, most2 := h2, len := Nat.zero_le _, ids := by simp, idn := List.Pairwise.nil, tup := by simp, innn := List.Pairwise.nil, outn := List.Pairwise.nil, last := Nat.zero_le _ }
theorem TS.Ok.addS (h : s.Ok) {i o : Tup} (hoi : i.Ok) (hoo : o.Ok) (hl : s.last < 1000000) : (addS s i o).Ok := by
  unfold Ytdpomneoiagpiaa.addS
  split
  · rename_i he
    unfold addE at he
    by_cases hz : i = Tup.zero
    · simp [hz] at he
    · by_cases hth : innF s.L i ≠ 0 ∨ outF s.L o ≠ 0
      · simp [hz, hth] at he
      · by_cases hf : s.most ≤ s.L.length ∧ embK s.L = none
        · rw [if_neg hz, if_neg hth, if_pos hf] at he
          omega
        · have h1 : innF s.L i = 0 := Decidable.byContradiction fun q => hth (.inl q)
          have h2 : outF s.L o = 0 := Decidable.byContradiction fun q => hth (.inr q)
          have hev : s.L.length < s.most ∨ embK s.L ≠ none := by
            by_cases q : s.most ≤ s.L.length
            · exact .inr (fun q2 => hf ⟨q, q2⟩)
            · exact .inl (by omega)
          obtain ⟨e1, e2, e3, e4⟩ := evict_ok h h1 h2 hev
          exact (e1.push e2 hl hoi hoo hz e3 e4).1
  · exact h
theorem tab_add (h : Tab w0 w g b1 b2 N s) (i o : Tup) (hoi : i.Ok) (hoo : o.Ok) (hl : s.last < 1000000) (hN : N < 1000000) :
    Calls Try.prog 10 #[.pointer (some ⟨g, 0, none⟩), i.val, o.val] w fun e w' => e = .returned (.tuple #[.int .u64 (addN s i o), .int .u64 (addW s i o), .int .i64 (addE s i o)]) ∧ Tab w0 w' g b1 b2 (N + 1) (addS s i o) ∧ Apart b1 b2 w w' := by
  obtain ⟨A, c, ht, hk⟩ := h.tb
  have hok := h.ok.addS hoi hoo hl
  by_cases hz : i = Tup.zero
  · have e1 : addE s i o = 1 := by unfold addE; rw [if_pos hz]
    have e2 : addS s i o = s := by unfold Ytdpomneoiagpiaa.addS; rw [e1]; rfl
    have e3 : addN s i o = 0 := by unfold addN; rw [e1]; rfl
    have e4 : addW s i o = 0 := by unfold addW; rw [e1]; rfl
    rw [e1, e2, e3, e4]
    exact (add_zero ht h.ok i o hoi hoo hz).mono fun e w' ⟨a1, a2⟩ => ⟨a1, (h.below a2).cut (Nat.le_succ _) (by omega), Apart.below a2⟩
  · by_cases hth : innF s.L i ≠ 0 ∨ outF s.L o ≠ 0
    · have e1 : addE s i o = 9 := by unfold addE; rw [if_neg hz, if_pos hth]
      have e2 : addS s i o = s := by unfold Ytdpomneoiagpiaa.addS; rw [e1]; rfl
      have e3 : addN s i o = 0 := by unfold addN; rw [e1]; rfl
      have e4 : addW s i o = 0 := by unfold addW; rw [e1]; rfl
      rw [e1, e2, e3, e4]
      exact (add_there ht h.ok i o hoi hoo hz hth).mono fun e w' ⟨a1, a2⟩ => ⟨a1, (h.below a2).cut (Nat.le_succ _) (by omega), Apart.below a2⟩
    · have h1 : innF s.L i = 0 := Decidable.byContradiction fun q => hth (.inl q)
      have h2 : outF s.L o = 0 := Decidable.byContradiction fun q => hth (.inr q)
      by_cases hf : s.most ≤ s.L.length ∧ embK s.L = none
      · have e1 : addE s i o = 7 := by unfold addE; rw [if_neg hz, if_neg hth, if_pos hf]
        have e2 : addS s i o = s := by unfold Ytdpomneoiagpiaa.addS; rw [e1]; rfl
        have e3 : addN s i o = 0 := by unfold addN; rw [e1]; rfl
        have e4 : addW s i o = 0 := by unfold addW; rw [e1]; rfl
        rw [e1, e2, e3, e4]
        exact (add_full ht h.ok i o hoi hoo hz h1 h2 hf.1 hf.2).mono fun e w' ⟨a1, a2⟩ => ⟨a1, (h.below a2).cut (Nat.le_succ _) (by omega), Apart.below a2⟩
      · have e1 : addE s i o = 0 := by unfold addE; rw [if_neg hz, if_neg hth, if_neg hf]
        have e2 : addS s i o = pushS { s with L := evict s } i o := by unfold Ytdpomneoiagpiaa.addS; rw [if_pos e1]
        have e3 : addN s i o = (s.last : Int) + 1 := by unfold addN; rw [if_pos e1]
        have e4 : addW s i o = wentF s := by unfold addW; rw [if_pos e1]
        rw [e2] at hok
        rw [e1, e2, e3, e4]
        have hev : s.L.length < s.most ∨ embK s.L ≠ none := by
          by_cases q : s.most ≤ s.L.length
          · exact .inr (fun q2 => hf ⟨q, q2⟩)
          · exact .inl (by omega)
        exact (add_ok ht h.ok i o hoi hoo hz h1 h2 hev hl hN).mono fun e w' ⟨a1, A', c', a2, a3, a4⟩ => ⟨a1, Tab.turned h.bel hk a2 hok a3 a4, Apart.turns ht a3⟩
end
end Go.Proofs.Ytdpomneoiagpiaa
