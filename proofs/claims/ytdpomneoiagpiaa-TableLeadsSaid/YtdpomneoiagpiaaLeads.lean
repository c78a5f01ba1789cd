/- TableLeads, walked. -/
import Derived.Test.YtdpomneoiagpiaaLdLaw
set_option linter.unusedVariables false
namespace Go.Proofs.Ytdpomneoiagpiaa
open Go.RowKit Go.Deep Go.BigFrame
attribute [local go_sem ↓] Go.wp_at_zero Go.wp_at_succ
def ldI (j : Nat) : Tup := Tup.of ((j : Int) + 1)
def ldO (j : Nat) : Tup := Tup.of ((j : Int) + 100)
theorem ld_add {m n : Nat} (hn : n < m) :
    addE ⟨m, fillL ldI ldO n, n⟩ (ldI n) (ldO n) = 0 ∧ addN ⟨m, fillL ldI ldO n, n⟩ (ldI n) (ldO n) = (n : Int) + 1 ∧ addW ⟨m, fillL ldI ldO n, n⟩ (ldI n) (ldO n) = 0 ∧ addS ⟨m, fillL ldI ldO n, n⟩ (ldI n) (ldO n) = ⟨m, fillL ldI ldO (n + 1), n + 1⟩ :=
  fill_add hn (fun j hj e => by have := of_inj e; omega) (fun e => by have := of_zero.1 e; omega) (fun _ j hj e => by have := of_inj e; omega)
theorem wf64 {n : Int} (h0 : 0 ≤ n) (h1 : n ≤ 18446744073709551615) : (Lit.int .u64 n).wf = true := by
  show (decide ((0 : Int) ≤ n) && decide (n ≤ 18446744073709551615)) = true
  simp [h0, h1]
set_option maxHeartbeats 1600000 in
set_option maxRecDepth 100000 in
theorem leads_walk (a b c : Int) (w : World) (a0 : 0 ≤ a) (a1 : a ≤ 255) (b0 : 0 ≤ b) (b1 : b ≤ 255) (c0 : 0 ≤ c) (c1 : c ≤ 255) :
    Calls Try.prog 4 #[.int .u8 a, .int .u8 b, .int .u8 c] w fun e w' => e = .returned (.bool true) ∧ Below w.heap.size w w' := by
  obtain ⟨m, hm, hm2, hm3⟩ : ∃ m : Nat, 2 + a % 19 = (m : Int) ∧ 2 ≤ m ∧ m ≤ 20 := ⟨(2 + a % 19).toNat, by omega, by omega, by omega⟩
  have HNEW := Lib.hid (fun W => tab_new m w W (by omega) (by omega))
  have HOF := Lib.hid of_any
  have HAW := Lib.hid awake_any
  have HM := Lib.hid (And.intro hm2 hm3)
  obtain ⟨x, hx, hxm⟩ : ∃ x : Nat, b.tmod (m : Int) = (x : Int) ∧ x < m := ⟨(b.tmod m).toNat, by rw [Int.tmod_eq_emod_of_nonneg b0]; have := Int.emod_nonneg b (show (m : Int) ≠ 0 by omega); omega, by rw [Int.tmod_eq_emod_of_nonneg b0]; have := Int.emod_lt_of_pos b (show (0 : Int) < m by omega); have := Int.emod_nonneg b (show (m : Int) ≠ 0 by omega); omega⟩
  obtain ⟨y, hy, hym⟩ : ∃ y : Nat, c.tmod (m : Int) = (y : Int) ∧ y < m := ⟨(c.tmod m).toNat, by rw [Int.tmod_eq_emod_of_nonneg c0]; have := Int.emod_nonneg c (show (m : Int) ≠ 0 by omega); omega, by rw [Int.tmod_eq_emod_of_nonneg c0]; have := Int.emod_lt_of_pos c (show (0 : Int) < m by omega); have := Int.emod_nonneg c (show (m : Int) ≠ 0 by omega); omega⟩
  have HXY := Lib.hid (And.intro hx (And.intro hxm (And.intro hy hym)))
  have hx2 : b % (m : Int) = x := by rw [← Int.tmod_eq_emod_of_nonneg b0]; exact hx
  have hy2 : c % (m : Int) = y := by rw [← Int.tmod_eq_emod_of_nonneg c0]; exact hy
  have HX2 := Lib.hid (And.intro hx2 hy2)
  clear hx hxm hy hym hx2 hy2
  go_enter Try.func4, Try.ntmps4
  go_wp2_with fail
  with_reducible refine (HNEW.out _ (Below.refl _ _)).mono ?_
  rintro e W ⟨g, d1, d2, rfl, hT, -⟩
  have HT := Lib.hid hT
  clear hT
  go_wp2_with fail
  with_reducible refine (HAW.out _).mono ?_
  rintro e W1 ⟨rfl, hb⟩
  have HT := Lib.hid (HT.out.below hb)
  clear hb hm
  go_wp2_with fail
  go_loopw [40] (fun v40 wr => ∃ n : Nat, v40 = .int .i64 n ∧ n ≤ m ∧ Tab w wr g d1 d2 n ⟨m, fillL ldI ldO n, n⟩) (fun v40 _ => m - (intOf v40).toNat)
  case atStart => exact ⟨0, rfl, Nat.zero_le _, HT.out⟩
  case round =>
    obtain ⟨n, rfl, hn, hT⟩ := hrel
    have HTN := Lib.hid hT
    clear hT
    by_cases hlt : n < m
    · have HL := Lib.hid (ld_add hlt)
      go_wp2_with fail
      with_reducible refine (HOF.out _ _).mono ?_
      rintro e W2 ⟨rfl, hb⟩
      have HT2 := Lib.hid (HTN.out.below hb)
      clear hb
      go_wp2_with fail
      with_reducible refine (HOF.out _ _).mono ?_
      rintro e W3 ⟨rfl, hb⟩
      have HT3 := Lib.hid (HT2.out.below hb)
      clear hb
      have HA := Lib.hid (tab_addE HT3.out (ldI n) (ldO n) (of_ok (by omega) (by omega)) (of_ok (by omega) (by omega)) (by show n < _; omega) (by omega) HL.out.2.1 HL.out.2.2.1 HL.out.1 HL.out.2.2.2)
      unfold ldI ldO at HA
      go_wp2_with fail
      (with_reducible refine HA.out.mono ?_)
      rintro e W4 ⟨rfl, hT, -⟩
      have HT4 := Lib.hid hT
      clear hT
      go_wp2_with fail
      go_roundw
      case rel => exact ⟨n + 1, by simp, by omega, HT4.out⟩
      case measure => simp [intOf]; omega
    · obtain rfl : n = m := by omega
      have hx := HXY.out.1
      have hxm := HXY.out.2.1
      have hy := HXY.out.2.2.1
      have hym := HXY.out.2.2.2
      have hx2 := HX2.out.1
      have hy2 := HX2.out.2
      have hn0 : ¬ (n : Int) = 0 := by omega
      go_wp2_with fail
      go_quiet (fail)
      have HTQ : Hid (∀ q, Tab w (wr.drewN q) g d1 d2 n ⟨n, fillL ldI ldO n, n⟩) := Lib.hid (fun q => HTN.out.below (below_drewN (Below.refl _ _) q))
      by_cases hxy : x = y
      · subst hxy
        go_wp2_with fail
        with_reducible refine (HOF.out _ _).mono ?_
        rintro e W2 ⟨rfl, hb⟩
        have HT2 := Lib.hid ((HTQ.out _).below hb)
        clear hb
        have HSA := Lib.hid (lead_same (s := ⟨n, fillL ldI ldO n, n⟩) HTN.out.ok (fillL_at hxm))
        have e1 : 1 + (x : Int) = (⟨(x : Int) + 1, ldI x, ldO x, true⟩ : Fl).id := by show _ = (x : Int) + 1; omega
        have e2 : Tup.of (1 + (x : Int) + 99) = (⟨(x : Int) + 1, ldI x, ldO x, true⟩ : Fl).out := by show Tup.of _ = Tup.of _; congr 1; omega
        have HA := Lib.hid (tab_leadE HT2.out (1 + (x : Int)) (wf64 (by omega) (by omega)) (.of (1 + (x : Int) + 99)) (of_ok (by omega) (by omega)) (by omega) (e0 := 0) (by rw [e2, e1]; exact HSA.out.1) rfl)
        have hlen : (leadS ⟨n, fillL ldI ldO n, n⟩ (1 + (x : Int)) (Tup.of (1 + (x : Int) + 99))).L.length = n := by
          rw [e2, e1, HSA.out.2]
          exact fillL_len _ _ _
        have HLEN := Lib.hid hlen
        clear e1 e2 hlen
        go_wp2_with fail
        with_reducible refine HA.out.mono ?_
        rintro e W3 ⟨rfl, hT, -⟩
        have HT3 := Lib.hid (tab_len hT)
        rw [HLEN.out] at HT3
        have HB3 := Lib.hid hT.bel
        clear hT
        go_wp2_with fail
        with_reducible refine HT3.out.mono ?_
        rintro e W4 ⟨rfl, rfl⟩
        go_wp2_with fail
        go_ret
        exact ⟨rfl, HB3.out⟩
      · have hxy2 : ¬ (1 + (x : Int) = 1 + (y : Int)) := by omega
        have e1 : 1 + (x : Int) = (⟨(x : Int) + 1, ldI x, ldO x, true⟩ : Fl).id := by show _ = (x : Int) + 1; omega
        have e2 : Tup.of (1 + (x : Int) + 99) = (⟨(x : Int) + 1, ldI x, ldO x, true⟩ : Fl).out := by show Tup.of _ = Tup.of _; congr 1; omega
        have e3 : 1 + (y : Int) = (⟨(y : Int) + 1, ldI y, ldO y, true⟩ : Fl).id := by show _ = (y : Int) + 1; omega
        have e4 : Tup.of (1 + (y : Int) + 99) = (⟨(y : Int) + 1, ldI y, ldO y, true⟩ : Fl).out := by show Tup.of _ = Tup.of _; congr 1; omega
        obtain ⟨r1, r2, s1, s2, s3, r3, r4, r5, r6, r7, r8, r9, r10, r11, r12, r13⟩ := leads_law (s := ⟨n, fillL ldI ldO n, n⟩) HTN.out.ok (fillL_at hxm) (fillL_at hym) (by show (x : Int) + 1 ≠ (y : Int) + 1; omega) (fun q => by have := of_zero.1 q; omega) (fun q => by have := of_zero.1 q; omega)
        rw [← e1] at r1 r2 r3 r4 r7 r8 r9 r11 r12
        rw [← e3] at r5 r6 r10
        rw [← e2] at r5 r6 r10
        rw [← e4] at r1 r2 r7 r8 r9
        have HR := Lib.hid (And.intro r1 (And.intro r2 (And.intro r3 (And.intro r4 (And.intro r5 (And.intro r6 (And.intro r7 (And.intro r8 (And.intro r9 (And.intro r10 (And.intro r11 (And.intro r12 r13))))))))))))
        clear r1 r2 r3 r4 r5 r6 r7 r8 r9 r10 r11 r12 r13 e1 e2 e3 e4 hxy
        go_wp2_with fail
        with_reducible refine (HOF.out _ _).mono ?_
        rintro e W2 ⟨rfl, hb⟩
        have HT2 := Lib.hid ((HTQ.out _).below hb)
        clear hb
        go_wp2_with fail
        with_reducible refine (HOF.out _ _).mono ?_
        rintro e W3 ⟨rfl, hb⟩
        have HT3 := Lib.hid (HT2.out.below hb)
        clear hb
        -- TAIL
        unfold Tup.val Tup.of
        have hBA : Below W3.heap.size W3 ((W3.alloc (.cells #[.int .u8 0, .int .u32 (1 + (x : Int) + 99), .int .u32 0, .int .u16 0, .int .u16 0] 33)).alloc (.cells #[.int .u8 0, .int .u32 (1 + (y : Int) + 99), .int .u32 0, .int .u16 0, .int .u16 0] 33)) := ((Below.refl _ _).alloc (Nat.le_refl _) _).alloc (by simp) _
        have HT4 := Lib.hid (HT3.out.below hBA)
        have HP4 : Hid (((W3.alloc (.cells #[.int .u8 0, .int .u32 (1 + (x : Int) + 99), .int .u32 0, .int .u16 0, .int .u16 0] 33)).alloc (.cells #[.int .u8 0, .int .u32 (1 + (y : Int) + 99), .int .u32 0, .int .u16 0, .int .u16 0] 33)).heap[W3.heap.size]? = some (.cells #[.int .u8 0, .int .u32 (1 + (x : Int) + 99), .int .u32 0, .int .u16 0, .int .u16 0] 33 (0, 0))) := Lib.hid (((Below.refl (W3.alloc (.cells #[.int .u8 0, .int .u32 (1 + (x : Int) + 99), .int .u32 0, .int .u16 0, .int .u16 0] 33)).heap.size _).alloc (Nat.le_refl _) (.cells #[.int .u8 0, .int .u32 (1 + (y : Int) + 99), .int .u32 0, .int .u16 0, .int .u16 0] 33)).block W3.heap.size (by simp) |>.trans (heap_alloc_new W3 _))
        have HQ4 : Hid (((W3.alloc (.cells #[.int .u8 0, .int .u32 (1 + (x : Int) + 99), .int .u32 0, .int .u16 0, .int .u16 0] 33)).alloc (.cells #[.int .u8 0, .int .u32 (1 + (y : Int) + 99), .int .u32 0, .int .u16 0, .int .u16 0] 33)).heap[W3.heap.size + 1]? = some (.cells #[.int .u8 0, .int .u32 (1 + (y : Int) + 99), .int .u32 0, .int .u16 0, .int .u16 0] 33 (0, 0))) := Lib.hid (by have := heap_alloc_new (W3.alloc (.cells #[.int .u8 0, .int .u32 (1 + (x : Int) + 99), .int .u32 0, .int .u16 0, .int .u16 0] 33)) (.cells #[.int .u8 0, .int .u32 (1 + (y : Int) + 99), .int .u32 0, .int .u16 0, .int .u16 0] 33); simpa using this)
        clear hBA
        have HA4 := Lib.hid (tab_leadE HT4.out (1 + (x : Int)) (wf64 (by omega) (by omega)) (.of (1 + (y : Int) + 99)) (of_ok (by omega) (by omega)) (by omega) HR.out.1 HR.out.2.1)
        unfold Tup.val Tup.of at HA4
        go_wp2_with fail
        with_reducible refine HA4.out.mono ?_
        rintro e V5 ⟨rfl, hT, hA⟩
        have HT5 := Lib.hid hT
        have HP5 := Lib.hid (hA.block _ _ HP4.out ⟨by decide, by decide⟩)
        have HQ5 := Lib.hid (hA.block _ _ HQ4.out ⟨by decide, by decide⟩)
        clear hT hA
        have p50 : V5.cell? ⟨W3.heap.size, 0, none⟩ = some (.int .u8 0) := cell_of HP5.out 0
        have p51 : V5.cell? ⟨W3.heap.size, 1, none⟩ = some (.int .u32 (1 + (x : Int) + 99)) := cell_of HP5.out 1
        have p52 : V5.cell? ⟨W3.heap.size, 2, none⟩ = some (.int .u32 0) := cell_of HP5.out 2
        have p53 : V5.cell? ⟨W3.heap.size, 3, none⟩ = some (.int .u16 0) := cell_of HP5.out 3
        have p54 : V5.cell? ⟨W3.heap.size, 4, none⟩ = some (.int .u16 0) := cell_of HP5.out 4
        have q50 : V5.cell? ⟨W3.heap.size + 1, 0, none⟩ = some (.int .u8 0) := cell_of HQ5.out 0
        have q51 : V5.cell? ⟨W3.heap.size + 1, 1, none⟩ = some (.int .u32 (1 + (y : Int) + 99)) := cell_of HQ5.out 1
        have q52 : V5.cell? ⟨W3.heap.size + 1, 2, none⟩ = some (.int .u32 0) := cell_of HQ5.out 2
        have q53 : V5.cell? ⟨W3.heap.size + 1, 3, none⟩ = some (.int .u16 0) := cell_of HQ5.out 3
        have q54 : V5.cell? ⟨W3.heap.size + 1, 4, none⟩ = some (.int .u16 0) := cell_of HQ5.out 4
        go_wp2_with fail
        with_reducible refine (HOF.out _ _).mono ?_
        rintro e Wz ⟨rfl, hb⟩
        have HT6 := Lib.hid (HT5.out.below hb)
        have HP6 := Lib.hid ((hb.block _ (Array.getElem?_eq_some_iff.1 HP5.out).1).trans HP5.out)
        have HQ6 := Lib.hid ((hb.block _ (Array.getElem?_eq_some_iff.1 HQ5.out).1).trans HQ5.out)
        clear hb p50 p51 p52 p53 p54 q50 q51 q52 q53 q54
        have p60 : Wz.cell? ⟨W3.heap.size, 0, none⟩ = some (.int .u8 0) := cell_of HP6.out 0
        have p61 : Wz.cell? ⟨W3.heap.size, 1, none⟩ = some (.int .u32 (1 + (x : Int) + 99)) := cell_of HP6.out 1
        have p62 : Wz.cell? ⟨W3.heap.size, 2, none⟩ = some (.int .u32 0) := cell_of HP6.out 2
        have p63 : Wz.cell? ⟨W3.heap.size, 3, none⟩ = some (.int .u16 0) := cell_of HP6.out 3
        have p64 : Wz.cell? ⟨W3.heap.size, 4, none⟩ = some (.int .u16 0) := cell_of HP6.out 4
        have q60 : Wz.cell? ⟨W3.heap.size + 1, 0, none⟩ = some (.int .u8 0) := cell_of HQ6.out 0
        have q61 : Wz.cell? ⟨W3.heap.size + 1, 1, none⟩ = some (.int .u32 (1 + (y : Int) + 99)) := cell_of HQ6.out 1
        have q62 : Wz.cell? ⟨W3.heap.size + 1, 2, none⟩ = some (.int .u32 0) := cell_of HQ6.out 2
        have q63 : Wz.cell? ⟨W3.heap.size + 1, 3, none⟩ = some (.int .u16 0) := cell_of HQ6.out 3
        have q64 : Wz.cell? ⟨W3.heap.size + 1, 4, none⟩ = some (.int .u16 0) := cell_of HQ6.out 4
        unfold Tup.val Tup.of
        have HA6 := Lib.hid (tab_leadE HT6.out (1 + (x : Int)) (wf64 (by omega) (by omega)) (Tup.zero) Tup.zero_ok (by omega) HR.out.2.2.1 HR.out.2.2.2.1)
        unfold Tup.val Tup.zero at HA6
        go_wp2_with fail
        with_reducible refine HA6.out.mono ?_
        rintro e V7 ⟨rfl, hT, hA⟩
        have HT7 := Lib.hid hT
        have HP7 := Lib.hid (hA.block _ _ HP6.out ⟨by decide, by decide⟩)
        have HQ7 := Lib.hid (hA.block _ _ HQ6.out ⟨by decide, by decide⟩)
        clear hT hA p60 p61 p62 p63 p64 q60 q61 q62 q63 q64
        have p70 : V7.cell? ⟨W3.heap.size, 0, none⟩ = some (.int .u8 0) := cell_of HP7.out 0
        have p71 : V7.cell? ⟨W3.heap.size, 1, none⟩ = some (.int .u32 (1 + (x : Int) + 99)) := cell_of HP7.out 1
        have p72 : V7.cell? ⟨W3.heap.size, 2, none⟩ = some (.int .u32 0) := cell_of HP7.out 2
        have p73 : V7.cell? ⟨W3.heap.size, 3, none⟩ = some (.int .u16 0) := cell_of HP7.out 3
        have p74 : V7.cell? ⟨W3.heap.size, 4, none⟩ = some (.int .u16 0) := cell_of HP7.out 4
        have q70 : V7.cell? ⟨W3.heap.size + 1, 0, none⟩ = some (.int .u8 0) := cell_of HQ7.out 0
        have q71 : V7.cell? ⟨W3.heap.size + 1, 1, none⟩ = some (.int .u32 (1 + (y : Int) + 99)) := cell_of HQ7.out 1
        have q72 : V7.cell? ⟨W3.heap.size + 1, 2, none⟩ = some (.int .u32 0) := cell_of HQ7.out 2
        have q73 : V7.cell? ⟨W3.heap.size + 1, 3, none⟩ = some (.int .u16 0) := cell_of HQ7.out 3
        have q74 : V7.cell? ⟨W3.heap.size + 1, 4, none⟩ = some (.int .u16 0) := cell_of HQ7.out 4
        have HA7 := Lib.hid (tab_leadE HT7.out (1 + (y : Int)) (wf64 (by omega) (by omega)) (.of (1 + (x : Int) + 99)) (of_ok (by omega) (by omega)) (by omega) HR.out.2.2.2.2.1 HR.out.2.2.2.2.2.1)
        unfold Tup.val Tup.of at HA7
        go_wp2_with fail
        with_reducible refine HA7.out.mono ?_
        rintro e V8 ⟨rfl, hT, hA⟩
        have HT8 := Lib.hid hT
        have HP8 := Lib.hid (hA.block _ _ HP7.out ⟨by decide, by decide⟩)
        have HQ8 := Lib.hid (hA.block _ _ HQ7.out ⟨by decide, by decide⟩)
        clear hT hA p70 p71 p72 p73 p74 q70 q71 q72 q73 q74
        have p80 : V8.cell? ⟨W3.heap.size, 0, none⟩ = some (.int .u8 0) := cell_of HP8.out 0
        have p81 : V8.cell? ⟨W3.heap.size, 1, none⟩ = some (.int .u32 (1 + (x : Int) + 99)) := cell_of HP8.out 1
        have p82 : V8.cell? ⟨W3.heap.size, 2, none⟩ = some (.int .u32 0) := cell_of HP8.out 2
        have p83 : V8.cell? ⟨W3.heap.size, 3, none⟩ = some (.int .u16 0) := cell_of HP8.out 3
        have p84 : V8.cell? ⟨W3.heap.size, 4, none⟩ = some (.int .u16 0) := cell_of HP8.out 4
        have q80 : V8.cell? ⟨W3.heap.size + 1, 0, none⟩ = some (.int .u8 0) := cell_of HQ8.out 0
        have q81 : V8.cell? ⟨W3.heap.size + 1, 1, none⟩ = some (.int .u32 (1 + (y : Int) + 99)) := cell_of HQ8.out 1
        have q82 : V8.cell? ⟨W3.heap.size + 1, 2, none⟩ = some (.int .u32 0) := cell_of HQ8.out 2
        have q83 : V8.cell? ⟨W3.heap.size + 1, 3, none⟩ = some (.int .u16 0) := cell_of HQ8.out 3
        have q84 : V8.cell? ⟨W3.heap.size + 1, 4, none⟩ = some (.int .u16 0) := cell_of HQ8.out 4
        have HA8 := Lib.hid (tab_leadE HT8.out (1 + (x : Int)) (wf64 (by omega) (by omega)) (.of (1 + (y : Int) + 99)) (of_ok (by omega) (by omega)) (by omega) HR.out.2.2.2.2.2.2.1 HR.out.2.2.2.2.2.2.2.1)
        unfold Tup.val Tup.of at HA8
        go_wp2_with fail
        with_reducible refine HA8.out.mono ?_
        rintro e V9 ⟨rfl, hT, hA⟩
        have HT9 := Lib.hid hT
        have HP9 := Lib.hid (hA.block _ _ HP8.out ⟨by decide, by decide⟩)
        have HQ9 := Lib.hid (hA.block _ _ HQ8.out ⟨by decide, by decide⟩)
        clear hT hA p80 p81 p82 p83 p84 q80 q81 q82 q83 q84
        have p90 : V9.cell? ⟨W3.heap.size, 0, none⟩ = some (.int .u8 0) := cell_of HP9.out 0
        have p91 : V9.cell? ⟨W3.heap.size, 1, none⟩ = some (.int .u32 (1 + (x : Int) + 99)) := cell_of HP9.out 1
        have p92 : V9.cell? ⟨W3.heap.size, 2, none⟩ = some (.int .u32 0) := cell_of HP9.out 2
        have p93 : V9.cell? ⟨W3.heap.size, 3, none⟩ = some (.int .u16 0) := cell_of HP9.out 3
        have p94 : V9.cell? ⟨W3.heap.size, 4, none⟩ = some (.int .u16 0) := cell_of HP9.out 4
        have q90 : V9.cell? ⟨W3.heap.size + 1, 0, none⟩ = some (.int .u8 0) := cell_of HQ9.out 0
        have q91 : V9.cell? ⟨W3.heap.size + 1, 1, none⟩ = some (.int .u32 (1 + (y : Int) + 99)) := cell_of HQ9.out 1
        have q92 : V9.cell? ⟨W3.heap.size + 1, 2, none⟩ = some (.int .u32 0) := cell_of HQ9.out 2
        have q93 : V9.cell? ⟨W3.heap.size + 1, 3, none⟩ = some (.int .u16 0) := cell_of HQ9.out 3
        have q94 : V9.cell? ⟨W3.heap.size + 1, 4, none⟩ = some (.int .u16 0) := cell_of HQ9.out 4
        have HO1 := Lib.hid (tab_outer HT9.out (.of (1 + (y : Int) + 99)) (of_ok (by omega) (by omega)))
        rw [HR.out.2.2.2.2.2.2.2.2.1] at HO1
        rw [show ((1 + (x : Int)) != 0) = true from by simp; omega] at HO1
        unfold Tup.val Tup.of at HO1
        go_wp2_with fail
        with_reducible refine HO1.out.mono ?_
        rintro e U1 ⟨rfl, hb⟩
        have HT10 := Lib.hid (HT9.out.below hb)
        have HP10 := Lib.hid ((hb.block _ (Array.getElem?_eq_some_iff.1 HP9.out).1).trans HP9.out)
        have HQ10 := Lib.hid ((hb.block _ (Array.getElem?_eq_some_iff.1 HQ9.out).1).trans HQ9.out)
        clear hb p90 p91 p92 p93 p94 q90 q91 q92 q93 q94
        have p100 : U1.cell? ⟨W3.heap.size, 0, none⟩ = some (.int .u8 0) := cell_of HP10.out 0
        have p101 : U1.cell? ⟨W3.heap.size, 1, none⟩ = some (.int .u32 (1 + (x : Int) + 99)) := cell_of HP10.out 1
        have p102 : U1.cell? ⟨W3.heap.size, 2, none⟩ = some (.int .u32 0) := cell_of HP10.out 2
        have p103 : U1.cell? ⟨W3.heap.size, 3, none⟩ = some (.int .u16 0) := cell_of HP10.out 3
        have p104 : U1.cell? ⟨W3.heap.size, 4, none⟩ = some (.int .u16 0) := cell_of HP10.out 4
        have q100 : U1.cell? ⟨W3.heap.size + 1, 0, none⟩ = some (.int .u8 0) := cell_of HQ10.out 0
        have q101 : U1.cell? ⟨W3.heap.size + 1, 1, none⟩ = some (.int .u32 (1 + (y : Int) + 99)) := cell_of HQ10.out 1
        have q102 : U1.cell? ⟨W3.heap.size + 1, 2, none⟩ = some (.int .u32 0) := cell_of HQ10.out 2
        have q103 : U1.cell? ⟨W3.heap.size + 1, 3, none⟩ = some (.int .u16 0) := cell_of HQ10.out 3
        have q104 : U1.cell? ⟨W3.heap.size + 1, 4, none⟩ = some (.int .u16 0) := cell_of HQ10.out 4
        have HO2 := Lib.hid (tab_outer HT10.out (.of (1 + (x : Int) + 99)) (of_ok (by omega) (by omega)))
        rw [HR.out.2.2.2.2.2.2.2.2.2.1] at HO2
        rw [show ((1 + (y : Int)) != 0) = true from by simp; omega] at HO2
        unfold Tup.val Tup.of at HO2
        go_wp2_with fail
        with_reducible refine HO2.out.mono ?_
        rintro e U2 ⟨rfl, hb⟩
        have HT11 := Lib.hid (HT10.out.below hb)
        have HP11 := Lib.hid ((hb.block _ (Array.getElem?_eq_some_iff.1 HP10.out).1).trans HP10.out)
        have HQ11 := Lib.hid ((hb.block _ (Array.getElem?_eq_some_iff.1 HQ10.out).1).trans HQ10.out)
        clear hb p100 p101 p102 p103 p104 q100 q101 q102 q103 q104
        have p110 : U2.cell? ⟨W3.heap.size, 0, none⟩ = some (.int .u8 0) := cell_of HP11.out 0
        have p111 : U2.cell? ⟨W3.heap.size, 1, none⟩ = some (.int .u32 (1 + (x : Int) + 99)) := cell_of HP11.out 1
        have p112 : U2.cell? ⟨W3.heap.size, 2, none⟩ = some (.int .u32 0) := cell_of HP11.out 2
        have p113 : U2.cell? ⟨W3.heap.size, 3, none⟩ = some (.int .u16 0) := cell_of HP11.out 3
        have p114 : U2.cell? ⟨W3.heap.size, 4, none⟩ = some (.int .u16 0) := cell_of HP11.out 4
        have q110 : U2.cell? ⟨W3.heap.size + 1, 0, none⟩ = some (.int .u8 0) := cell_of HQ11.out 0
        have q111 : U2.cell? ⟨W3.heap.size + 1, 1, none⟩ = some (.int .u32 (1 + (y : Int) + 99)) := cell_of HQ11.out 1
        have q112 : U2.cell? ⟨W3.heap.size + 1, 2, none⟩ = some (.int .u32 0) := cell_of HQ11.out 2
        have q113 : U2.cell? ⟨W3.heap.size + 1, 3, none⟩ = some (.int .u16 0) := cell_of HQ11.out 3
        have q114 : U2.cell? ⟨W3.heap.size + 1, 4, none⟩ = some (.int .u16 0) := cell_of HQ11.out 4
        have HF := Lib.hid (tab_flow HT11.out (1 + (x : Int)))
        rw [HR.out.2.2.2.2.2.2.2.2.2.2.1, HR.out.2.2.2.2.2.2.2.2.2.2.2.1] at HF
        go_wp2_with fail
        with_reducible refine HF.out.mono ?_
        rintro e U3 ⟨rfl, hb⟩
        have HT12 := Lib.hid (HT11.out.below hb)
        have HP12 := Lib.hid ((hb.block _ (Array.getElem?_eq_some_iff.1 HP11.out).1).trans HP11.out)
        have HQ12 := Lib.hid ((hb.block _ (Array.getElem?_eq_some_iff.1 HQ11.out).1).trans HQ11.out)
        clear hb p110 p111 p112 p113 p114 q110 q111 q112 q113 q114
        have p120 : U3.cell? ⟨W3.heap.size, 0, none⟩ = some (.int .u8 0) := cell_of HP12.out 0
        have p121 : U3.cell? ⟨W3.heap.size, 1, none⟩ = some (.int .u32 (1 + (x : Int) + 99)) := cell_of HP12.out 1
        have p122 : U3.cell? ⟨W3.heap.size, 2, none⟩ = some (.int .u32 0) := cell_of HP12.out 2
        have p123 : U3.cell? ⟨W3.heap.size, 3, none⟩ = some (.int .u16 0) := cell_of HP12.out 3
        have p124 : U3.cell? ⟨W3.heap.size, 4, none⟩ = some (.int .u16 0) := cell_of HP12.out 4
        have q120 : U3.cell? ⟨W3.heap.size + 1, 0, none⟩ = some (.int .u8 0) := cell_of HQ12.out 0
        have q121 : U3.cell? ⟨W3.heap.size + 1, 1, none⟩ = some (.int .u32 (1 + (y : Int) + 99)) := cell_of HQ12.out 1
        have q122 : U3.cell? ⟨W3.heap.size + 1, 2, none⟩ = some (.int .u32 0) := cell_of HQ12.out 2
        have q123 : U3.cell? ⟨W3.heap.size + 1, 3, none⟩ = some (.int .u16 0) := cell_of HQ12.out 3
        have q124 : U3.cell? ⟨W3.heap.size + 1, 4, none⟩ = some (.int .u16 0) := cell_of HQ12.out 4
        unfold Fl.val Fl.arr
        go_wp2_with fail
        refine wp_name fun Z hZ => ?_
        have hZB : Below U3.heap.size U3 Z := by rw [hZ]; exact (Below.refl _ _).alloc (Nat.le_refl _) _
        have hZh : Z.heap[U3.heap.size]? = some (.cells ((⟨1 + (x : Int), ldI x, ldO y, true⟩ : Fl)).arr 38 (0, 0)) := by rw [hZ]; exact heap_alloc_new U3 _
        have HTZ := Lib.hid (HT12.out.below hZB)
        have HQZ := Lib.hid ((hZB.block _ (Array.getElem?_eq_some_iff.1 HQ12.out).1).trans HQ12.out)
        clear p120 p121 p122 p123 p124 q120 q121 q122 q123 q124 hZ hZB
        have HOFU := HOF
        unfold Tup.val Tup.of at HOFU
        have z1 := fun W : ClsW (InB Z.heap.size Z) => class_cell W (p := ⟨U3.heap.size, 1, none⟩) (v := .int .u8 0) (cell_of hZh 1) (Array.getElem?_eq_some_iff.1 hZh).1
        have z2 := fun W : ClsW (InB Z.heap.size Z) => class_cell W (p := ⟨U3.heap.size, 2, none⟩) (v := .int .u32 ((x : Int) + 1)) (cell_of hZh 2) (Array.getElem?_eq_some_iff.1 hZh).1
        have z3 := fun W : ClsW (InB Z.heap.size Z) => class_cell W (p := ⟨U3.heap.size, 3, none⟩) (v := .int .u32 0) (cell_of hZh 3) (Array.getElem?_eq_some_iff.1 hZh).1
        have z4 := fun W : ClsW (InB Z.heap.size Z) => class_cell W (p := ⟨U3.heap.size, 4, none⟩) (v := .int .u16 0) (cell_of hZh 4) (Array.getElem?_eq_some_iff.1 hZh).1
        have z5 := fun W : ClsW (InB Z.heap.size Z) => class_cell W (p := ⟨U3.heap.size, 5, none⟩) (v := .int .u16 0) (cell_of hZh 5) (Array.getElem?_eq_some_iff.1 hZh).1
        have z6 := fun W : ClsW (InB Z.heap.size Z) => class_cell W (p := ⟨U3.heap.size, 6, none⟩) (v := .int .u8 0) (cell_of hZh 6) (Array.getElem?_eq_some_iff.1 hZh).1
        have z7 := fun W : ClsW (InB Z.heap.size Z) => class_cell W (p := ⟨U3.heap.size, 7, none⟩) (v := .int .u32 ((y : Int) + 100)) (cell_of hZh 7) (Array.getElem?_eq_some_iff.1 hZh).1
        have z8 := fun W : ClsW (InB Z.heap.size Z) => class_cell W (p := ⟨U3.heap.size, 8, none⟩) (v := .int .u32 0) (cell_of hZh 8) (Array.getElem?_eq_some_iff.1 hZh).1
        have z9 := fun W : ClsW (InB Z.heap.size Z) => class_cell W (p := ⟨U3.heap.size, 9, none⟩) (v := .int .u16 0) (cell_of hZh 9) (Array.getElem?_eq_some_iff.1 hZh).1
        have z10 := fun W : ClsW (InB Z.heap.size Z) => class_cell W (p := ⟨U3.heap.size, 10, none⟩) (v := .int .u16 0) (cell_of hZh 10) (Array.getElem?_eq_some_iff.1 hZh).1
        have qz0 := fun W : ClsW (InB Z.heap.size Z) => class_cell W (p := ⟨W3.heap.size + 1, 0, none⟩) (v := .int .u8 0) (cell_of HQZ.out 0) (Array.getElem?_eq_some_iff.1 HQZ.out).1
        have qz1 := fun W : ClsW (InB Z.heap.size Z) => class_cell W (p := ⟨W3.heap.size + 1, 1, none⟩) (v := .int .u32 (1 + (y : Int) + 99)) (cell_of HQZ.out 1) (Array.getElem?_eq_some_iff.1 HQZ.out).1
        have qz2 := fun W : ClsW (InB Z.heap.size Z) => class_cell W (p := ⟨W3.heap.size + 1, 2, none⟩) (v := .int .u32 0) (cell_of HQZ.out 2) (Array.getElem?_eq_some_iff.1 HQZ.out).1
        have qz3 := fun W : ClsW (InB Z.heap.size Z) => class_cell W (p := ⟨W3.heap.size + 1, 3, none⟩) (v := .int .u16 0) (cell_of HQZ.out 3) (Array.getElem?_eq_some_iff.1 HQZ.out).1
        have qz4 := fun W : ClsW (InB Z.heap.size Z) => class_cell W (p := ⟨W3.heap.size + 1, 4, none⟩) (v := .int .u16 0) (cell_of HQZ.out 4) (Array.getElem?_eq_some_iff.1 HQZ.out).1
        have hl3 : s3.L.length = n := HR.out.2.2.2.2.2.2.2.2.2.2.2.2.trans (fillL_len _ _ _)
        have HLN := Lib.hid (fun W : ClsW (InB Z.heap.size Z) => tab_len (HTZ.out.below W.2.1))
        rw [hl3] at HLN
        have ex : 1 + (x : Int) = (x : Int) + 1 := by omega
        have ey : 1 + (y : Int) + 99 = (y : Int) + 100 := by omega
        refine wp_region_class (InB Z.heap.size Z) (by kernel_rfl) (by kernel_rfl) ⟨(Below.refl _ _).drew, Nat.le_refl _⟩ fun _ => ?_
        repeat (go_big_quiet_step ((first
            | (go_at_call 11; exact class_below (HOFU.out _ _))
            | (go_at_call 14; exact class_same (HLN.out _)))))
        refine wpQuiet_nil ?_
        rintro _ ⟨W, rfl⟩
        go_wp2_with fail
        go_ret
        exact ⟨ret_bool (by simp), HTZ.out.bel.trans (W.2.1.mono HTZ.out.bel.size)⟩
end Go.Proofs.Ytdpomneoiagpiaa
