/- TablePlays: what its loop keeps. -/
import Derived.Test.YtdpomneoiagpiaaRAdd
import Derived.Test.YtdpomneoiagpiaaSame
import Derived.Test.YtdpomneoiagpiaaCopy
import Derived.Test.YtdpomneoiagpiaaNil
set_option linter.unusedVariables false
namespace Go.Proofs.Ytdpomneoiagpiaa
open Go.RowKit Go.Deep Go.BigFrame
attribute [local go_sem ↓] Go.wp_at_zero Go.wp_at_succ
theorem at_nil38 (id : Int) (p : Addr) (w : World) :
    Calls Try.prog 37 #[.pointer none, .int .u64 id, .func (.func 38) #[] #[.pointer (some p)]] w fun e w' => e = .returned (.int .i64 2) ∧ Below w.heap.size w w' := by
  go_enter Try.func37, Try.ntmps37
  go_wp2_with (go_at_call 32; refine (none_nil _).mono ?_; rintro e w' ⟨rfl, rfl⟩)
  go_ret
  exact ⟨rfl, (Below.refl _ _).alloc (Nat.le_refl _) _⟩
theorem touch_nil (id : Int) (w : World) : Calls Try.prog 12 #[.pointer none, .int .u64 id] w fun e w' => e = .returned (.int .i64 2) ∧ Below w.heap.size w w' := by
  have HC := Lib.hid (fun p W => at_nil38 id p W)
  go_enter Try.func12, Try.ntmps12
  go_wp2_with fail
  refine (HC.out _ _).mono ?_
  rintro e w' ⟨rfl, hb⟩
  go_wp2_with fail
  go_ret
  exact ⟨rfl, ((Below.refl _ _).alloc (Nat.le_refl _) _).trans (hb.mono (by simp))⟩
theorem Rt.apart {w w' : World} {h c b1 b2 : Nat} {A : Option Addr} {s : TS} (r : Rt w h A c s) (ha : Apart b1 b2 w w') : Rt w' h A c s := r.keptE fun i hi => by
  rcases hi with rfl | hi
  · exact (ha.block _ _ r.heap ⟨by decide, by decide⟩).trans r.heap.symm
  · obtain ⟨_, cs, fr, hx⟩ := row_lt r.own hi
    exact (ha.block _ _ hx ⟨by decide, by decide⟩).trans hx.symm
/-- The program's table at s, the reference's at r. -/
structure PR (w wr : World) (g d1 d2 N h : Nat) (s r : TS) : Prop where
  tab : Tab w wr g d1 d2 N s
  ref : ∃ A c, Rt wr h A c r ∧ ∀ k, RBlk h A k → w.heap.size ≤ k
theorem PR.below {w wr wr' : World} {g d1 d2 N h : Nat} {s r : TS} (p : PR w wr g d1 d2 N h s r) (hb : Below wr.heap.size wr wr') : PR w wr' g d1 d2 N h s r := by
  obtain ⟨A, c, hr, hk⟩ := p.ref
  exact ⟨p.tab.below hb, A, c, hr.below hb, hk⟩
theorem PR.t {w V V' : World} {g d1 d2 N N' h : Nat} {s s' r : TS} (p : PR w V g d1 d2 N h s r) (ht : Tab w V' g d1 d2 N' s') (ha : Apart d1 d2 V V') : PR w V' g d1 d2 N' h s' r := by
  obtain ⟨A, c, hr, hk⟩ := p.ref
  exact ⟨ht, A, c, hr.apart ha, hk⟩
theorem Tab.turnsR {w V V' : World} {g d1 d2 N h c : Nat} {s r : TS} {A : Option Addr} (t : Tab w V g d1 d2 N s) (hr : Rt V h A c r) (hk : ∀ k, RBlk h A k → w.heap.size ≤ k) (hT : Turns (RBlk h A) V V') : Tab w V' g d1 d2 N s := by
  obtain ⟨A1, c1, ht, hk1⟩ := t.tb
  refine ⟨⟨A1, c1, ht.keptE fun i hi => hT.block i (ht.blk hi) (fun hb => ?_), hk1⟩, t.ok, t.bel.trans (hT.toBelow t.bel.size hk)⟩
  have e1 : ∃ cs ty fr, V.heap[i]? = some (.cells cs ty fr) ∧ (ty = 67 ∨ ty = 62) := by
    rcases hb with rfl | hb
    · exact ⟨_, _, _, hr.heap, .inl rfl⟩
    · obtain ⟨_, cs, fr, hx⟩ := row_lt hr.own hb
      exact ⟨_, _, _, hx, .inr rfl⟩
  obtain ⟨cs, ty, fr, hx, hty⟩ := e1
  rcases hi with rfl | rfl | rfl | hi
  · rw [ht.heap] at hx
    injection hx with hx
    injection hx with _ hx
    subst hx
    rcases hty with q | q <;> cases q
  · obtain ⟨es, ck, hm⟩ := ht.inn.isMap
    rw [hm] at hx
    cases hx
  · obtain ⟨es, ck, hm⟩ := ht.out.isMap
    rw [hm] at hx
    cases hx
  · obtain ⟨_, cs, fr, hh⟩ := row_lt ht.own hi
    rw [hh] at hx
    injection hx with hx
    injection hx with _ hx
    subst hx
    rcases hty with q | q <;> cases q
theorem PR.r {w V V' : World} {g d1 d2 N h c c' : Nat} {A A' : Option Addr} {s r r' : TS} (p : Tab w V g d1 d2 N s) (hr : Rt V h A c r) (hk : ∀ k, RBlk h A k → w.heap.size ≤ k) (hr' : Rt V' h A' c' r') (hT : Turns (RBlk h A) V V') (hn : NewA V A A') : PR w V' g d1 d2 N h s r' := by
  refine ⟨p.turnsR hr hk hT, A', c', hr', fun k hb => ?_⟩
  rcases hb with rfl | hb
  · exact hk _ (.inl rfl)
  · rcases hn k hb with e | e
    · exact hk _ (.inr e)
    · exact Nat.le_trans p.bel.size e
theorem block_R {V V' : World} {h c bo : Nat} {A : Option Addr} {r : TS} {cs : Array Value} (hr : Rt V h A c r) (hT : Turns (RBlk h A) V V') (hb : V.heap[bo]? = some (.cells cs 49 (0, 0))) : V'.heap[bo]? = some (.cells cs 49 (0, 0)) := by
  refine (hT.block bo (Array.getElem?_eq_some_iff.1 hb).1 fun q => ?_).trans hb
  rcases q with rfl | q
  · rw [hr.heap] at hb
    injection hb with hb
    injection hb with _ hb
    cases hb
  · obtain ⟨_, cs, fr, hx⟩ := row_lt hr.own q
    rw [hx] at hb
    injection hb with hb
    injection hb with _ hb
    cases hb
/-- A table that was left behind: what a call on it does to what lies apart. -/
theorem old_add {w : World} {g c b1 b2 N : Nat} {A : Option Addr} {s : TS} (ht : Tb w g A c b1 b2 N s) (ho : s.Ok) (i o : Tup) (hoi : i.Ok) (hoo : o.Ok) (hl : s.last < 1000000) (hN : N < 1000000) :
    Calls Try.prog 10 #[.pointer (some ⟨g, 0, none⟩), i.val, o.val] w fun e w' => (∃ v, e = .returned v) ∧ Turns (Blk g A b1 b2) w w' := by
  by_cases hz : i = Tup.zero
  · exact (add_zero ht ho i o hoi hoo hz).mono fun e w' ⟨a1, a2⟩ => ⟨⟨_, a1⟩, Turns.below a2⟩
  · by_cases hth : innF s.L i ≠ 0 ∨ outF s.L o ≠ 0
    · exact (add_there ht ho i o hoi hoo hz hth).mono fun e w' ⟨a1, a2⟩ => ⟨⟨_, a1⟩, Turns.below a2⟩
    · have h1 : innF s.L i = 0 := Decidable.byContradiction fun q => hth (.inl q)
      have h2 : outF s.L o = 0 := Decidable.byContradiction fun q => hth (.inr q)
      by_cases hf : s.most ≤ s.L.length ∧ embK s.L = none
      · exact (add_full ht ho i o hoi hoo hz h1 h2 hf.1 hf.2).mono fun e w' ⟨a1, a2⟩ => ⟨⟨_, a1⟩, Turns.below a2⟩
      · have hev : s.L.length < s.most ∨ embK s.L ≠ none := by
          by_cases q : s.most ≤ s.L.length
          · exact .inr (fun q2 => hf ⟨q, q2⟩)
          · exact .inl (by omega)
        exact (add_ok ht ho i o hoi hoo hz h1 h2 hev hl hN).mono fun e w' ⟨a1, A', c', a2, a3, a4⟩ => ⟨⟨_, a1⟩, a3⟩
/-- The copy stands apart from what is done to the table that was left behind. -/
theorem PR.copied {w X V V2 : World} {g c d1 d2 N M h g' c' e1 e2 : Nat} {A A' : Option Addr} {s r : TS} (p : PR w X g d1 d2 M h s r) (hkA : ∀ k, Blk g A d1 d2 k → w.heap.size ≤ k) (hold : Tb X g A c d1 d2 N s) (hnew : Tb V g' A' c' e1 e2 N s) (hb : Below X.heap.size X V) (hk : ∀ k, Blk g' A' e1 e2 k → X.heap.size ≤ k)
    (hT : Turns (Blk g A d1 d2) V V2) : Tab w V2 g' e1 e2 N s := by
  have hl : ∀ k, Blk g A d1 d2 k → k < X.heap.size := fun k q => hold.blk q
  refine ⟨⟨A', c', hnew.keptE fun i hi => hT.block i (hnew.blk hi) (fun q => ?_), fun k q => Nat.le_trans p.tab.bel.size (hk k q)⟩, p.tab.ok, (p.tab.bel.trans (hb.mono p.tab.bel.size)).trans (hT.toBelow ?_ ?_)⟩
  · have := hl i q
    have := hk i hi
    omega
  · exact Nat.le_trans p.tab.bel.size hb.size
  · exact hkA
end Go.Proofs.Ytdpomneoiagpiaa
