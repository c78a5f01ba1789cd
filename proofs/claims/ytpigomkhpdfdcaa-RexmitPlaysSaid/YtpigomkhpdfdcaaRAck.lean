/- The reference's Acked. -/
import Derived.Test.YtpigomkhpdfdcaaRWrite
set_option linter.unusedVariables false
namespace Go.Proofs.Ytpigomkhpdfdcaa
open Go.RowKit Go.Deep Go.BigFrame
attribute [local go_sem ↓] Go.wp_at_zero Go.wp_at_succ
/-- Behind writes to its own block. -/
theorem Rb.upd {w w' : World} {g c a a' : Nat} {A : Option Addr} {AT : Int} {ws : List Int} {s s' : St} (h : Rb w g A c AT ws a s) (hg : w.grownBy w' (some g)) (hh : w'.heap[g]? = some (.cells (rcells AT ws a' s' A c) 83 (0, 0)))
    (hd : s'.data = ws.drop a') (hu : s'.una = addU AT a') (hle : a' ≤ ws.length) : Rb w' g A c AT ws a' s' :=
  { heap := hh, byt := h.byt.keep hg (by
      intro b hbl hp e
      obtain ⟨A', c', hv, _, _, h3⟩ := h.byt
      injection hv with e1 e2 e3
      subst e1
      obtain ⟨b', o', rfl, hl, hc⟩ := h3 hp
      simp [Value.ownBlock] at hbl
      subst hbl
      subst e
      have h0 := hc 0 hp
      rw [cell_of h.heap] at h0
      have key : ∀ i : Nat, (rcells AT ws a s (some ⟨b', o', none⟩) c)[i]? ≠ some (Value.int IntKind.u8 (ws.getD 0 0)) := by
        intro i
        unfold rcells
        match i with
        | 0 | 1 | 2 | 3 | 4 | 5 | 6 | 7 | 8 | 9 => simp
        | n + 10 => simp
      exact key _ h0)
    data := hd, una := hu, at0 := h.at0, at1 := h.at1, le := hle, n := h.n }
set_option maxHeartbeats 1600000 in
theorem racked_no (g c a : Nat) (A : Option Addr) (AT : Int) (ws : List Int) (s : St) (w : World) (ack win now : Int) (hb : Rb w g A c AT ws a s) (ho : s.Ok) (a0 : 0 ≤ ack) (a1 : ack ≤ 4294967295) (h : ahd s.una ack < 0 ∨ (s.sent : Int) < ahd s.una ack ∨ 1073741824 < win) :
    Calls Try.prog 34 #[.pointer (some ⟨g, 0, none⟩), .int .u32 ack, .int .u32 win, .int .u64 now] w fun e w' => e = .returned (.tuple #[.int .i64 0, .int .i64 1]) ∧ ∃ n, w' = w.drewN n := by
  have HU := Lib.hid (runa_any g c a A AT ws s w hb)
  have hu0 := ho.una0
  have hu1 := ho.una1
  have c2 := hb.c2
  have c3 := hb.c3
  have hn5 := hb.n
  have hle := hb.le
  have hss := ho.sent
  have hdl := hb.dlen
  obtain ⟨u, hu⟩ : ∃ u, s.una = u := ⟨_, rfl⟩
  rw [hu] at HU h hu0 hu1
  obtain ⟨k, hk⟩ : ∃ k, ahd u ack = k := ⟨_, rfl⟩
  have hkb := ahd_bd u ack
  rw [hk] at h hkb
  have HK := Lib.hid hk
  obtain ⟨st, hst⟩ : ∃ st, a + s.sent = st := ⟨_, rfl⟩
  have hst1 : st ≤ 500000 := by omega
  rw [hst] at c3
  have hw1 : IntKind.i64.wrap ((a : Int) + k) = (a : Int) + k := IntWalk.i64_in _ (by omega)
  by_cases h1 : k < 0
  · have t1 : decide (k < 0) = true := decide_eq_true h1
    clear hb ho hu hk hst h
    go_enter Try.func34, Try.ntmps34
    go_wp2_with (first | (go_at_call 33; refine HU.out.mono ?_; rintro e w' ⟨rfl, rfl⟩) | (go_at_call 50; refine (rahead_any _ _ _ hu0 hu1 a0 a1).mono ?_; rw [HK.out]; rintro e w' ⟨rfl, rfl⟩))
    go_quiet (fail)
    go_wp2
    go_ret2
    exact ⟨rfl, _, rfl⟩
  · have t1 : decide (k < 0) = false := decide_eq_false h1
    by_cases h2 : (st : Int) < (a : Int) + k
    · have t2 : decide ((st : Int) < (a : Int) + k) = true := decide_eq_true h2
      clear hb ho hu hk hst h
      go_enter Try.func34, Try.ntmps34
      go_wp2_with (first | (go_at_call 33; refine HU.out.mono ?_; rintro e w' ⟨rfl, rfl⟩) | (go_at_call 50; refine (rahead_any _ _ _ hu0 hu1 a0 a1).mono ?_; rw [HK.out]; rintro e w' ⟨rfl, rfl⟩))
      go_quiet (fail)
      go_wp2
      go_ret2
      exact ⟨rfl, _, rfl⟩
    · have t2 : decide ((st : Int) < (a : Int) + k) = false := decide_eq_false h2
      have t3 : decide (1073741824 < win) = true := decide_eq_true (by omega)
      clear hb ho hu hk hst h
      go_enter Try.func34, Try.ntmps34
      go_wp2_with (first | (go_at_call 33; refine HU.out.mono ?_; rintro e w' ⟨rfl, rfl⟩) | (go_at_call 50; refine (rahead_any _ _ _ hu0 hu1 a0 a1).mono ?_; rw [HK.out]; rintro e w' ⟨rfl, rfl⟩))
      go_quiet (fail)
      go_wp2
      go_ret2
      exact ⟨rfl, _, rfl⟩

set_option maxHeartbeats 1600000 in
theorem racked_ok (g c a : Nat) (A : Option Addr) (AT : Int) (ws : List Int) (s : St) (w : World) (k : Nat) (ack win now : Int) (hb : Rb w g A c AT ws a s) (ho : s.Ok) (hks : k ≤ s.sent) (hd : ahd s.una ack = k) (hw0 : 0 ≤ win) (hw : win ≤ 1073741824) (a0 : 0 ≤ ack) (a1 : ack ≤ 4294967295) (h0 : 0 ≤ now) (h1 : now ≤ 1125899906842624) :
    Calls Try.prog 34 #[.pointer (some ⟨g, 0, none⟩), .int .u32 ack, .int .u32 win, .int .u64 now] w fun e w' => e = .returned (.tuple #[.int .i64 k, .int .i64 0]) ∧ w.grownBy w' (some g) ∧ Rb w' g A c AT ws (a + k) (ackSt s k ack win now) := by
  have HU := Lib.hid (runa_any g c a A AT ws s w hb)
  have hu0 := ho.una0
  have hu1 := ho.una1
  have c2 := hb.c2
  have c3 := hb.c3
  have c4 := hb.c4
  have f2 := free_of hb.heap 2
  have f4 := free_of hb.heap 4
  have hn5 := hb.n
  have hle := hb.le
  have hss := ho.sent
  have hdl := hb.dlen
  have HB := Lib.hid hb
  have HO := Lib.hid ho
  have hack : ack = addU AT (a + k : Nat) := by
    have := hb.una
    rw [this] at hd
    unfold ahd addU at hd
    unfold addU
    omega
  have HACK := Lib.hid hack
  obtain ⟨u, hu⟩ : ∃ u, s.una = u := ⟨_, rfl⟩
  rw [hu] at HU hd hu0 hu1
  have HK := Lib.hid hd
  obtain ⟨st, hst⟩ : ∃ st, a + s.sent = st := ⟨_, rfl⟩
  have hst1 : st ≤ 500000 := by omega
  rw [hst] at c3
  have hw1 : IntKind.i64.wrap ((a : Int) + (k : Int)) = (a : Int) + (k : Int) := IntWalk.i64_in _ (by omega)
  have t2 : decide ((st : Int) < (a : Int) + (k : Int)) = false := decide_eq_false (by omega)
  have t3 : decide (1073741824 < win) = false := decide_eq_false (by omega)
  have hh2 : ∀ z, ((((w.drewN z).setCell ⟨g, 4, none⟩ (.int .u32 win)).setCell ⟨g, 2, none⟩ (.int .i64 ((a : Int) + (k : Int)))).heap[g]? = some (.cells (rcells AT ws (a + k) { s with win := win, sent := s.sent - k } A c) 83 (0, 0))) := by
    intro z
    rw [heap_set (i := 2) (heap_set (i := 4) (show (w.drewN z).heap[g]? = _ from hb.heap) (.int .u32 win)) (.int .i64 ((a : Int) + (k : Int)))]
    have e1 : a + k + (s.sent - k) = a + s.sent := by omega
    have e2 : ((a + k : Nat) : Int) = (a : Int) + (k : Int) := by omega
    unfold rcells
    simp only [e1, e2]
    rfl
  have HH2 := Lib.hid hh2
  have HD2 := Lib.hid (show s.data.drop k = ws.drop (a + k) by rw [hb.data, List.drop_drop])
  have hle2 : a + k ≤ ws.length := by omega
  have HG2 := Lib.hid (fun z => grown_set (i := 2) (u := .int .i64 ((a : Int) + (k : Int))) (grown_set (i := 4) (u := .int .u32 win) (grown_drewN (n := z) (World.grownBy.refl w (some g)))))
  have hok2 : ({ s with data := s.data.drop k, una := ack, win := win, sent := s.sent - k } : St).Ok := by
    have hl' := ho.len
    exact { ho with len := by simp; omega, byte := fun x hx => ho.byte x (List.mem_of_mem_drop hx), una0 := a0, una1 := a1, sent := by simp; omega, win0 := hw0, win1 := hw }
  have HOK2 := Lib.hid hok2
  by_cases hk0 : 0 < k
  · have t4 : decide (0 < k) = true := decide_eq_true hk0
    have t5 : decide ((0 : Int) < (k : Int)) = true := decide_eq_true (by omega)
    clear hb ho hu hd hst hack hh2 hok2
    go_enter Try.func34, Try.ntmps34
    go_wp2_with (first | (go_at_call 33; refine HU.out.mono ?_; rintro e w' ⟨rfl, rfl⟩) | (go_at_call 50; refine (rahead_any _ _ _ hu0 hu1 a0 a1).mono ?_; rw [HK.out]; rintro e w' ⟨rfl, rfl⟩))
    go_quiet (fail)
    go_wp2_with fail
    refine (ranew_any g c (a + k) A AT ws { s with data := s.data.drop k, una := ack, win := win, sent := s.sent - k } _ now (HB.out.upd (s' := { s with data := s.data.drop k, una := ack, win := win, sent := s.sent - k }) (HG2.out nq) (HH2.out nq) HD2.out HACK.out hle2) HOK2.out h0 h1).mono ?_
    rintro e w6 ⟨rfl, hg6, hh6⟩
    have HG6 := Lib.hid hg6
    have HH6 := Lib.hid hh6
    clear hg6 hh6
    go_wp2_with fail
    go_ret2
    have hgg := grown_trans (HG2.out nq) HG6.out
    refine ⟨rfl, hgg, ?_⟩
    have := HB.out.upd (s' := { data := s.data.drop k, una := ack, win := win, sent := s.sent - k, rto := s.rto, tries := s.tries, wait := s.rto, count := 0, alarm := now + s.rto }) hgg HH6.out HD2.out HACK.out hle2
    unfold ackSt
    rw [if_neg (by omega)]
    exact this
  · have t4 : decide (0 < k) = false := decide_eq_false hk0
    have t5 : decide ((0 : Int) < (k : Int)) = false := decide_eq_false (by omega)
    clear hb ho hu hd hst hack hh2 hok2
    go_enter Try.func34, Try.ntmps34
    go_wp2_with (first | (go_at_call 33; refine HU.out.mono ?_; rintro e w' ⟨rfl, rfl⟩) | (go_at_call 50; refine (rahead_any _ _ _ hu0 hu1 a0 a1).mono ?_; rw [HK.out]; rintro e w' ⟨rfl, rfl⟩))
    go_quiet (fail)
    go_wp2_with fail
    go_ret2
    have hgg := HG2.out nq
    refine ⟨rfl, hgg, ?_⟩
    obtain rfl : k = 0 := by omega
    have hu := HB.out.una
    have hd := HB.out.data
    have := HB.out.upd (s' := { s with win := win }) hgg (HH2.out nq) hd (by simpa using hu) (by omega)
    unfold ackSt
    rw [if_pos rfl]
    exact this
end Go.Proofs.Ytpigomkhpdfdcaa
