/- A buffer in memory; its small calls. -/
import Derived.Test.YtpigomkhpdfdcaaBase
set_option linter.unusedVariables false
namespace Go.Proofs.Ytpigomkhpdfdcaa
open Go.RowKit Go.Deep Go.BigFrame

structure St where
  data : List Int
  una : Int
  sent : Nat
  win : Int
  rto : Int
  tries : Nat
  wait : Int
  count : Nat
  alarm : Int

def St.cells (s : St) (A : Option Addr) (c : Nat) : Array Value :=
  #[.slice A s.data.length c, .int .u32 s.una, .int .i64 s.sent, .int .u32 s.win, .int .u64 s.rto, .int .i64 s.tries, .int .u64 s.wait, .int .i64 s.count, .int .u64 s.alarm]

structure St.Ok (s : St) : Prop where
  len : s.data.length ≤ 16384
  byte : ∀ x ∈ s.data, 0 ≤ x ∧ x ≤ 255
  una0 : 0 ≤ s.una
  una1 : s.una ≤ 4294967295
  sent : s.sent ≤ s.data.length
  win0 : 0 ≤ s.win
  win1 : s.win ≤ 1073741824
  rto0 : 1 ≤ s.rto
  rto1 : s.rto ≤ 1073741824
  tries0 : 1 ≤ s.tries
  tries1 : s.tries ≤ 10
  count : s.count ≤ s.tries
  wait : s.wait = s.rto * 2 ^ s.count
  alarm0 : 0 ≤ s.alarm
  alarm1 : s.alarm ≤ 2251799813685248

/-- A buffer lies in block g, its bytes at A. -/
def Buf (w : World) (g : Nat) (A : Option Addr) (c : Nat) (s : St) : Prop :=
  w.heap[g]? = some (.cells (s.cells A c) 67 (0, 0)) ∧ Byt w (.slice A s.data.length c) s.data

theorem Buf.lt {w : World} {g c : Nat} {A : Option Addr} {s : St} (h : Buf w g A c s) : g < w.heap.size := (Array.getElem?_eq_some_iff.1 h.1).1
theorem heap_set {w : World} {g i : Nat} {cs : Array Value} {t : TypeId} {fr : Nat × Nat} (h : w.heap[g]? = some (.cells cs t fr)) (v : Value) :
    (w.setCell ⟨g, i, none⟩ v).heap[g]? = some (.cells (cs.setIfInBounds i v) t fr) := by
  simp [World.setCell, Array.getElem?_modify, h]
theorem cell_of {w : World} {g : Nat} {cs : Array Value} {t : TypeId} {fr : Nat × Nat} (h : w.heap[g]? = some (.cells cs t fr)) (i : Nat) : w.cell? ⟨g, i, none⟩ = cs[i]? := cell_of_row w g i cs t fr h
theorem free_of {w : World} {g : Nat} {cs : Array Value} {t : TypeId} (h : w.heap[g]? = some (.cells cs t (0, 0))) (i : Nat) : w.frozen? ⟨g, i, none⟩ = false := by
  simp [World.frozen?, h]

section
variable {w : World} {g c : Nat} {A : Option Addr} {s : St}
theorem Buf.c0 (h : Buf w g A c s) : w.cell? ⟨g, 0, none⟩ = some (.slice A s.data.length c) := cell_of h.1 0
theorem Buf.c1 (h : Buf w g A c s) : w.cell? ⟨g, 1, none⟩ = some (.int .u32 s.una) := cell_of h.1 1
theorem Buf.c2 (h : Buf w g A c s) : w.cell? ⟨g, 2, none⟩ = some (.int .i64 s.sent) := cell_of h.1 2
theorem Buf.c3 (h : Buf w g A c s) : w.cell? ⟨g, 3, none⟩ = some (.int .u32 s.win) := cell_of h.1 3
theorem Buf.c4 (h : Buf w g A c s) : w.cell? ⟨g, 4, none⟩ = some (.int .u64 s.rto) := cell_of h.1 4
theorem Buf.c5 (h : Buf w g A c s) : w.cell? ⟨g, 5, none⟩ = some (.int .i64 s.tries) := cell_of h.1 5
theorem Buf.c6 (h : Buf w g A c s) : w.cell? ⟨g, 6, none⟩ = some (.int .u64 s.wait) := cell_of h.1 6
theorem Buf.c7 (h : Buf w g A c s) : w.cell? ⟨g, 7, none⟩ = some (.int .i64 s.count) := cell_of h.1 7
theorem Buf.c8 (h : Buf w g A c s) : w.cell? ⟨g, 8, none⟩ = some (.int .u64 s.alarm) := cell_of h.1 8
/-- The bytes do not lie in the buffer's own block. -/
theorem Buf.apart (h : Buf w g A c s) : ∀ b, (Value.slice A s.data.length c).ownBlock = some b → 0 < s.data.length → b ≠ g := by
  intro b hb hp e
  obtain ⟨A', c', hv, _, _, h3⟩ := h.2
  obtain ⟨b', o, rfl, hl, hc⟩ := h3 hp
  injection hv with e1 e2 e3
  subst e1
  simp [Value.ownBlock] at hb
  subst hb
  subst e
  have h0 := hc 0 hp
  rw [cell_of h.1] at h0
  have key : ∀ i : Nat, (s.cells (some ⟨b', o, none⟩) c)[i]? ≠ some (Value.int IntKind.u8 (s.data.getD 0 0)) := by
    intro i
    unfold St.cells
    match i with
    | 0 | 1 | 2 | 3 | 4 | 5 | 6 | 7 | 8 => simp
    | n + 9 => simp
  exact key _ h0
end
theorem Byt.keep {w w' : World} {A : Option Addr} {n c g : Nat} {xs : List Int} (h : Byt w (.slice A n c) xs) (hg : w.grownBy w' (some g)) (hne : ∀ b, (Value.slice A n c).ownBlock = some b → 0 < n → b ≠ g) : Byt w' (.slice A n c) xs := by
  obtain ⟨A', c', hv, h1, h2, h3⟩ := h
  injection hv with e1 e2 e3
  subst e1 e2 e3
  refine ⟨A, c, rfl, h1, h2, fun hp => ?_⟩
  obtain ⟨b, o, rfl, hl, hc⟩ := h3 hp
  have := hne b rfl hp
  exact ⟨b, o, rfl, Nat.lt_of_lt_of_le hl hg.size, fun i hi => (World.cell?_of_block (a := ⟨b, o + i, none⟩) (hg.block b hl (fun e => by injection e with e; exact this e))).trans (hc i hi)⟩
theorem grown_set {a b : World} {g i : Nat} {u : Value} (h : a.grownBy b (some g)) : a.grownBy (b.setCell ⟨g, i, none⟩ u) (some g) := grown_trans h (grown_setCell b g i u)
theorem grown_drew {a b : World} {r : Option Nat} (h : a.grownBy b r) : a.grownBy b.drew r := ⟨h.os, h.tape, h.output, h.size, h.block⟩
theorem grown_alloc {a b : World} {r : Option Nat} {o : Obj} (h : a.grownBy b r) : a.grownBy (b.alloc o) r := grown_trans h (World.grownBy_alloc b o r)
theorem grown_below {a b : World} {r : Option Nat} (h : Below a.heap.size a b) : a.grownBy b r := ⟨h.os, h.tape, h.output, h.size, fun k hk _ => h.block k hk⟩
/-- The buffer behind writes to its own block. -/
theorem Buf.upd {w w' : World} {g c : Nat} {A : Option Addr} {s s' : St} (h : Buf w g A c s) (hg : w.grownBy w' (some g)) (hd : s'.data = s.data) (hc : w'.heap[g]? = some (.cells (s'.cells A c) 67 (0, 0))) : Buf w' g A c s' :=
  ⟨hc, by rw [hd]; exact h.2.keep hg h.apart⟩
/-- The buffer behind what does not touch it. -/
theorem Buf.below {w w' : World} {g c : Nat} {A : Option Addr} {s : St} (h : Buf w g A c s) (hb : Below w.heap.size w w') : Buf w' g A c s :=
  ⟨(hb.block g h.lt).trans h.1, h.2.below hb⟩

set_option maxHeartbeats 400000 in
theorem none_any (g : Nat) (rto : Int) (w : World) (hc : w.cell? ⟨g, 4, none⟩ = some (.int .u64 rto)) (hr : 1 ≤ rto) :
    Calls Try.prog 40 #[.pointer (some ⟨g, 0, none⟩)] w fun e w' => e = .returned (.bool false) ∧ w = w' := by
  have h0 : (rto == 0) = false := by simp; omega
  go_enter Try.func40, Try.ntmps40
  go_wp2
  go_ret
  exact ⟨rfl, rfl⟩
set_option maxHeartbeats 400000 in
theorem none_nil (w : World) :
    Calls Try.prog 40 #[.pointer none] w fun e w' => e = .returned (.bool true) ∧ w = w' := by
  go_enter Try.func40, Try.ntmps40
  go_wp2
  go_ret
  exact ⟨rfl, rfl⟩
def mayB (mss : Int) : Bool := decide (1 ≤ mss ∧ mss ≤ 1500)
set_option maxHeartbeats 400000 in
theorem may_any (mss : Int) (w : World) :
    Calls Try.prog 43 #[.int .i64 mss] w fun e w' => e = .returned (.bool (mayB mss)) ∧ w = w' := by
  by_cases h : 1 ≤ mss
  · go_enter Try.func43, Try.ntmps43
    go_wp2
    go_ret
    exact ⟨ret_bool (by unfold mayB; simp [h]), rfl⟩
  · have h' : decide (1 ≤ mss) = false := decide_eq_false h
    go_enter Try.func43, Try.ntmps43
    go_wp2
    go_ret
    exact ⟨ret_bool (by unfold mayB; simp; omega), rfl⟩
set_option maxHeartbeats 800000 in
theorem anew_any (g c : Nat) (A : Option Addr) (s : St) (now : Int) (w : World) (hb : Buf w g A c s) (ho : s.Ok) (h0 : 0 ≤ now) (h1 : now ≤ 1125899906842624) :
    Calls Try.prog 42 #[.pointer (some ⟨g, 0, none⟩), .int .u64 now] w fun e w' => e = .returned (.tuple #[]) ∧
      w.grownBy w' (some g) ∧ w'.heap[g]? = some (.cells ({ s with wait := s.rto, count := 0, alarm := now + s.rto }.cells A c) 67 (0, 0)) := by
  have c4 := hb.c4
  have c6 := hb.c6
  have c7 := hb.c7
  have c8 := hb.c8
  have f6 := free_of hb.1 6
  have f7 := free_of hb.1 7
  have f8 := free_of hb.1 8
  have HB := Lib.hid hb
  have r0 := ho.rto0
  have r1 := ho.rto1
  obtain ⟨rto, hrto⟩ : ∃ rto, s.rto = rto := ⟨_, rfl⟩
  rw [hrto] at c4 r0 r1 ⊢
  have HR := Lib.hid hrto
  clear hb ho hrto
  go_enter Try.func42, Try.ntmps42
  go_wp2
  go_region
  go_wp2
  go_end0
  refine ⟨rfl, by repeat (first | exact World.grownBy.refl _ _ | apply grown_set | apply grown_drew | apply grown_alloc), ?_⟩
  have h := heap_set (i := 8) (heap_set (i := 7) (heap_set (i := 6) HB.out.1 (.int .u64 rto)) (.int .i64 0)) (.int .u64 (now + rto))
  rw [← HR.out] at h ⊢
  exact h
end Go.Proofs.Ytpigomkhpdfdcaa
