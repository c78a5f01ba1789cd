/- The reference's buffer in memory; its small calls. It stands beside the program's plain state: the same state, all bytes that were ever written, and how many of them are acknowledged. -/
import Derived.Test.YtpigomkhpdfdcaaQuiet2
import Derived.Test.YtpigomkhpdfdcaaMid
import Derived.IntWalk
set_option linter.unusedVariables false
namespace Go.Proofs.Ytpigomkhpdfdcaa
open Go.RowKit Go.Deep Go.BigFrame
attribute [local go_sem ↓] Go.wp_at_zero Go.wp_at_succ

def rcells (AT : Int) (ws : List Int) (a : Nat) (s : St) (A : Option Addr) (c : Nat) : Array Value :=
  #[.slice A ws.length c, .int .u32 AT, .int .i64 a, .int .i64 (a + s.sent : Nat), .int .u32 s.win, .int .u64 s.rto, .int .i64 s.tries, .int .u64 s.wait, .int .u64 s.alarm, .int .i64 s.count]
structure Rb (w : World) (g : Nat) (A : Option Addr) (c : Nat) (AT : Int) (ws : List Int) (a : Nat) (s : St) : Prop where
  heap : w.heap[g]? = some (.cells (rcells AT ws a s A c) 83 (0, 0))
  byt : Byt w (.slice A ws.length c) ws
  data : s.data = ws.drop a
  una : s.una = addU AT a
  at0 : 0 ≤ AT
  at1 : AT ≤ 4294967295
  le : a ≤ ws.length
  n : ws.length ≤ 500000
section
variable {w w' : World} {g c a : Nat} {A : Option Addr} {AT : Int} {ws : List Int} {s : St}
theorem Rb.lt (h : Rb w g A c AT ws a s) : g < w.heap.size := (Array.getElem?_eq_some_iff.1 h.heap).1
theorem Rb.below (h : Rb w g A c AT ws a s) (hb : Below w.heap.size w w') : Rb w' g A c AT ws a s := { h with heap := (hb.block g h.lt).trans h.heap, byt := h.byt.below hb }
theorem Rb.c0 (h : Rb w g A c AT ws a s) : w.cell? ⟨g, 0, none⟩ = some (.slice A ws.length c) := cell_of h.heap 0
theorem Rb.c1 (h : Rb w g A c AT ws a s) : w.cell? ⟨g, 1, none⟩ = some (.int .u32 AT) := cell_of h.heap 1
theorem Rb.c2 (h : Rb w g A c AT ws a s) : w.cell? ⟨g, 2, none⟩ = some (.int .i64 a) := cell_of h.heap 2
theorem Rb.c3 (h : Rb w g A c AT ws a s) : w.cell? ⟨g, 3, none⟩ = some (.int .i64 (a + s.sent : Nat)) := cell_of h.heap 3
theorem Rb.c4 (h : Rb w g A c AT ws a s) : w.cell? ⟨g, 4, none⟩ = some (.int .u32 s.win) := cell_of h.heap 4
theorem Rb.c5 (h : Rb w g A c AT ws a s) : w.cell? ⟨g, 5, none⟩ = some (.int .u64 s.rto) := cell_of h.heap 5
theorem Rb.c6 (h : Rb w g A c AT ws a s) : w.cell? ⟨g, 6, none⟩ = some (.int .i64 s.tries) := cell_of h.heap 6
theorem Rb.c7 (h : Rb w g A c AT ws a s) : w.cell? ⟨g, 7, none⟩ = some (.int .u64 s.wait) := cell_of h.heap 7
theorem Rb.c8 (h : Rb w g A c AT ws a s) : w.cell? ⟨g, 8, none⟩ = some (.int .u64 s.alarm) := cell_of h.heap 8
theorem Rb.c9 (h : Rb w g A c AT ws a s) : w.cell? ⟨g, 9, none⟩ = some (.int .i64 s.count) := cell_of h.heap 9
theorem Rb.dlen (h : Rb w g A c AT ws a s) : s.data.length + a = ws.length := by have := h.le; rw [h.data, List.length_drop]; omega
end
section
variable (g c a : Nat) (A : Option Addr) (AT : Int) (ws : List Int) (s : St) (w : World)
set_option maxHeartbeats 400000 in
theorem rat_any (n : Int) (hc : w.cell? ⟨g, 1, none⟩ = some (.int .u32 AT)) (h0 : 0 ≤ AT) (h1 : AT ≤ 4294967295) :
    Calls Try.prog 49 #[.pointer (some ⟨g, 0, none⟩), .int .i64 n] w fun e w' => e = .returned (.int .u32 (addU AT n)) ∧ w = w' := by
  go_enter Try.func49, Try.ntmps49
  go_wp2_with (go_at_call 51; refine (radd_any _ _ _ h0 h1).mono ?_; rintro e w' ⟨rfl, rfl⟩)
  go_ret
  exact ⟨rfl, rfl⟩
set_option maxHeartbeats 400000 in
theorem runa_any (hb : Rb w g A c AT ws a s) :
    Calls Try.prog 33 #[.pointer (some ⟨g, 0, none⟩)] w fun e w' => e = .returned (.int .u32 s.una) ∧ w = w' := by
  have c2 := hb.c2
  have HC := Lib.hid hb.c1
  have h0 := hb.at0
  have h1 := hb.at1
  have HU := Lib.hid hb.una
  clear hb
  go_enter Try.func33, Try.ntmps33
  go_wp2_with (go_at_call 49; refine (rat_any g AT _ _ HC.out h0 h1).mono ?_; rintro e w' ⟨rfl, rfl⟩)
  go_ret
  exact ⟨ret_int (HU.out.symm), rfl⟩
set_option maxHeartbeats 400000 in
theorem rnxt_any (hb : Rb w g A c AT ws a s) :
    Calls Try.prog 36 #[.pointer (some ⟨g, 0, none⟩)] w fun e w' => e = .returned (.int .u32 (addU s.una s.sent)) ∧ w = w' := by
  have c2 := hb.c3
  have HC := Lib.hid hb.c1
  have h0 := hb.at0
  have h1 := hb.at1
  have HU := Lib.hid (show addU AT (a + s.sent : Nat) = addU s.una s.sent by rw [hb.una, addU_addU]; congr 1)
  obtain ⟨st, hst⟩ : ∃ st, a + s.sent = st := ⟨_, rfl⟩
  rw [hst] at c2 HU
  clear hb hst
  go_enter Try.func36, Try.ntmps36
  go_wp2_with (go_at_call 49; refine (rat_any g AT _ _ HC.out h0 h1).mono ?_; rintro e w' ⟨rfl, rfl⟩)
  go_ret
  exact ⟨ret_int (HU.out), rfl⟩
set_option maxHeartbeats 400000 in
theorem rend_any (hb : Rb w g A c AT ws a s) :
    Calls Try.prog 37 #[.pointer (some ⟨g, 0, none⟩)] w fun e w' => e = .returned (.int .u32 (addU s.una s.data.length)) ∧ w = w' := by
  have c2 := hb.c0
  have HC := Lib.hid hb.c1
  have h0 := hb.at0
  have h1 := hb.at1
  have HU := Lib.hid (show addU AT ws.length = addU s.una s.data.length by have := hb.dlen; rw [hb.una, addU_addU]; congr 1; omega)
  obtain ⟨n, hn⟩ : ∃ n, ws.length = n := ⟨_, rfl⟩
  rw [hn] at c2 HU
  clear hb hn
  go_enter Try.func37, Try.ntmps37
  go_wp2_with (go_at_call 49; refine (rat_any g AT _ _ HC.out h0 h1).mono ?_; rintro e w' ⟨rfl, rfl⟩)
  go_ret
  exact ⟨ret_int (HU.out), rfl⟩
set_option maxHeartbeats 400000 in
theorem rleft_any (hb : Rb w g A c AT ws a s) :
    Calls Try.prog 38 #[.pointer (some ⟨g, 0, none⟩)] w fun e w' => e = .returned (.int .i64 s.data.length) ∧ ∃ n, w' = w.drewN n := by
  have c0 := hb.c0
  have c2 := hb.c2
  have hd := hb.dlen
  have hn5 := hb.n
  obtain ⟨n, hn⟩ : ∃ n, ws.length = n := ⟨_, rfl⟩
  obtain ⟨l, hl⟩ : ∃ l, s.data.length = l := ⟨_, rfl⟩
  rw [hn] at c0 hd hn5
  rw [hl] at hd ⊢
  have hw1 : IntKind.i64.wrap ((n : Int) - (a : Int)) = (n : Int) - (a : Int) := IntWalk.i64_in _ (by omega)
  have HD : Hid ((n : Int) - (a : Int) = (l : Int)) := Lib.hid (by omega)
  clear hb hn hl
  go_enter Try.func38, Try.ntmps38
  go_wp2
  go_quiet (fail)
  go_wp2
  go_ret
  exact ⟨ret_int HD.out, _, rfl⟩
set_option maxHeartbeats 800000 in
theorem ranew_any (now : Int) (hb : Rb w g A c AT ws a s) (ho : s.Ok) (h0 : 0 ≤ now) (h1 : now ≤ 1125899906842624) :
    Calls Try.prog 47 #[.pointer (some ⟨g, 0, none⟩), .int .u64 now] w fun e w' => e = .returned (.tuple #[]) ∧
      w.grownBy w' (some g) ∧ w'.heap[g]? = some (.cells (rcells AT ws a { s with wait := s.rto, count := 0, alarm := now + s.rto } A c) 83 (0, 0)) := by
  have c5 := hb.c5
  have c7 := hb.c7
  have c8 := hb.c8
  have c9 := hb.c9
  have f7 := free_of hb.heap 7
  have f8 := free_of hb.heap 8
  have f9 := free_of hb.heap 9
  have HB := Lib.hid hb
  have r0 := ho.rto0
  have r1 := ho.rto1
  obtain ⟨rto, hrto⟩ : ∃ rto, s.rto = rto := ⟨_, rfl⟩
  rw [hrto] at c5 r0 r1 ⊢
  have HR := Lib.hid hrto
  clear hb ho hrto
  go_enter Try.func47, Try.ntmps47
  go_wp2
  go_end0
  refine ⟨rfl, by repeat (first | exact World.grownBy.refl _ _ | apply grown_set | apply grown_drew | apply grown_alloc), ?_⟩
  have h := heap_set (i := 8) (heap_set (i := 9) (heap_set (i := 7) HB.out.heap (.int .u64 rto)) (.int .i64 0)) (.int .u64 (now + rto))
  rw [← HR.out] at h ⊢
  exact h

set_option maxHeartbeats 800000 in
theorem own_any (A : Option Addr) (n c : Nat) (xs : List Int) (w : World) (hn : xs.length = n) (hb : Byt w (.slice A n c) xs) (hsm : n ≤ 500000) :
    Calls Try.prog 46 #[.slice A n c] w fun e w' => ∃ v, e = .returned v ∧ w'.ownsRow w.heap.size 5 1 v n (xs.map (.int .u8)) ∧ Below w.heap.size w w' := by
  obtain ⟨v', w', hr, ho, hg, hat⟩ := run_append_bytF (w := w) w.heap.size (.slice none 0 0) 0 [] (World.ownsRow_nil _ _ _ _) A n c xs hn hb (by omega) (Nat.le_refl _)
  rw [Nat.zero_add, List.nil_append] at ho
  have HB := Lib.hid (show Below w.heap.size w w' from (Below.refl _ _).grown hg (Nat.le_refl _) (fun k hk => by simp [Value.ownBlock] at hk))
  have HR := Lib.hid hr
  have HO := Lib.hid ho
  clear hr ho hg hb hn hat
  go_enter Try.func46, Try.ntmps46
  go_wp2_with (at_builtin; refine Lib.wpList_append_run _ rfl _ _ 34 34 rfl _ _ rfl rfl _ _ (by exact HR.out) ?_)
  go_ret
  exact ⟨_, rfl, HO.out, HB.out⟩
set_option maxHeartbeats 800000 in
theorem rwrite_long (B : Option Addr) (m c2 : Nat) (ys : List Int) (now : Int) (hb : Rb w g A c AT ws a s) (hl : ¬ s.data.length + m ≤ 16384) (hmm : m ≤ 1000000) :
    Calls Try.prog 29 #[.pointer (some ⟨g, 0, none⟩), .slice B m c2, .int .u64 now] w fun e w' => e = .returned (.int .i64 3) ∧ ∃ n, w' = w.drewN n := by
  have HL := Lib.hid (rleft_any g c a A AT ws s w hb)
  have hd := hb.dlen
  have hn5 := hb.n
  obtain ⟨l, hl2⟩ : ∃ l, s.data.length = l := ⟨_, rfl⟩
  rw [hl2] at HL hl hd
  clear hl2 hb
  go_enter Try.func29, Try.ntmps29
  go_wp2_with fail
  refine HL.out.mono ?_
  rintro e w1 ⟨rfl, nq, rfl⟩
  go_wp2_with fail
  go_ret
  exact ⟨rfl, _, rfl⟩
end
end Go.Proofs.Ytpigomkhpdfdcaa
