/- Copy. -/
import Derived.Test.YtpigomkhpdfdcaaSend
set_option linter.unusedVariables false
namespace Go.Proofs.Ytpigomkhpdfdcaa
open Go.RowKit Go.Deep Go.BigFrame
attribute [local go_sem ↓] Go.wp_at_zero Go.wp_at_succ
set_option maxHeartbeats 1600000 in
theorem copy_any (g c : Nat) (A : Option Addr) (s : St) (w : World) (hb : Buf w g A c s) (ho : s.Ok) :
    Calls Try.prog 27 #[.pointer (some ⟨g, 0, none⟩)] w fun e w' => ∃ g' A' c', e = .returned (.pointer (some ⟨g', 0, none⟩)) ∧ w.heap.size ≤ g' ∧ Buf w' g' A' c' s ∧ Below w.heap.size w w' := by
  have HC := Lib.hid hb.c4
  have r0 := ho.rto0
  have hlt := hb.lt
  have hl := ho.len
  have c0 := hb.c0
  have c1 := hb.c1
  have c2 := hb.c2
  have c3 := hb.c3
  have c4 := hb.c4
  have c5 := hb.c5
  have c6 := hb.c6
  have c7 := hb.c7
  have c8 := hb.c8
  have HB := Lib.hid hb
  obtain ⟨n, hn⟩ : ∃ n, s.data.length = n := ⟨_, rfl⟩
  rw [hn] at c0 hl
  have HN := Lib.hid hn
  clear hb ho hn
  go_enter Try.func27, Try.ntmps27
  go_wp2_with (go_at_call 40; refine (none_any _ _ _ HC.out r0).mono ?_; rintro e w' ⟨rfl, rfl⟩)
  have k0 := fun o => (((Below.refl w.heap.size w).alloc (Nat.le_refl _) o).cell (p := ⟨g, 0, none⟩) hlt).trans c0
  have HBy : Hid (∀ o, Byt (w.alloc o) (.slice A n c) s.data) := Lib.hid (fun o => by have := HB.out.2.below ((Below.refl w.heap.size w).alloc (Nat.le_refl _) o); rw [HN.out] at this; exact this)
  go_wp2_with fail
  (with_reducible refine (clone_any A n c s.data _ HN.out (HBy.out _) (by omega)).mono ?_)
  rintro e w1 ⟨v1, rfl, hown, hb1⟩
  obtain ⟨A1, k1, rfl⟩ := own_len hown
  have hh : w1.heap[w.heap.size]? = some (.cells #[Value.slice A n c, Value.int IntKind.u32 s.una, Value.int IntKind.i64 s.sent, Value.int IntKind.u32 s.win, Value.int IntKind.u64 s.rto, Value.int IntKind.i64 s.tries, Value.int IntKind.u64 s.wait, Value.int IntKind.i64 s.count, Value.int IntKind.u64 s.alarm] 67 (0, 0)) :=
    (hb1.block w.heap.size (by simp)).trans (heap_alloc_new w _)
  have t0 : w1.cell? ⟨w.heap.size, 0, none⟩ = some (.slice A n c) := cell_of hh 0
  have u0 : w1.frozen? ⟨w.heap.size, 0, none⟩ = false := free_of hh 0
  have hs1 : w.heap.size + 1 ≤ w1.heap.size := by have := hb1.size; simp at this; exact this
  have HB1 : Hid (Below w.heap.size w w1) := Lib.hid (((Below.refl w.heap.size w).alloc (Nat.le_refl _) _).trans (hb1.mono (by simp)))
  have HO := Lib.hid hown
  have HH := Lib.hid hh
  clear hown hb1 hh k0
  go_wp2_with fail
  go_ret
  refine ⟨w.heap.size, A1, k1, rfl, Nat.le_refl _, ⟨?_, ?_⟩, HB1.out.setCell (Nat.le_refl _) _⟩
  · have h := heap_set (i := 0) HH.out (.slice A1 n k1)
    rw [h, St.cells, HN.out]
    rfl
  · have hne : (Value.slice A1 n k1).ownBlock ≠ some (⟨w.heap.size, 0, none⟩ : Addr).block := by
      intro e
      have h9 := (HO.out.lt _ e).1
      simp only [World.size_alloc] at h9
      omega
    rw [HN.out]
    have ho := ownsRow_setCell_other HO.out hne (.slice A1 n k1)
    have h2 : s.data.length = n := HN.out
    subst h2
    exact Byt.of_own ho
end Go.Proofs.Ytpigomkhpdfdcaa
