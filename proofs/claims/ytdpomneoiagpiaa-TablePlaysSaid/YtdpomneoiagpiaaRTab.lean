/- The reference's table; New, at. -/
import Derived.Test.YtdpomneoiagpiaaActs
set_option linter.unusedVariables false
namespace Go.Proofs.Ytdpomneoiagpiaa
open Go.RowKit Go.Deep Go.BigFrame
attribute [local go_sem ↓] Go.wp_at_zero Go.wp_at_succ
theorem FlsAt.own62 {w : World} {B c : Nat} {A : Option Addr} {L : List Fl} (h : w.ownsRow B 62 12 (.slice A L.length c) L.length (row L)) : FlsAt w A L := by
  intro i f hf
  have hi := (List.getElem?_eq_some_iff.1 hf).1
  rcases h.2 with ⟨h3, h4⟩ | ⟨g, cap, cur, h3, hb, hg, q1, q2, q3, q4⟩
  · omega
  · injection h3 with h3 _ _
    subst h3
    have key : ∀ j, j < 12 → w.cell? ⟨g, 0 + i * 12 + j, none⟩ = f.arr[j]? := by
      intro j hj
      rw [cell_of hg, ← row_at L i f hf j hj, ← q4, List.getElem?_take_of_lt (by omega), Array.getElem?_toList]
      congr 1
      omega
    exact ⟨g, 0, rfl, (Array.getElem?_eq_some_iff.1 hg).1, ⟨key 0 (by omega), key 1 (by omega), key 2 (by omega), key 3 (by omega), key 4 (by omega), key 5 (by omega), key 6 (by omega), key 7 (by omega), key 8 (by omega), key 9 (by omega), key 10 (by omega), key 11 (by omega)⟩⟩
def rcells (s : TS) (A : Option Addr) (c : Nat) : Array Value := #[.slice A s.L.length c, .int .i64 s.most, .int .u64 s.last]
structure Rt (w : World) (h : Nat) (A : Option Addr) (c : Nat) (s : TS) : Prop where
  heap : w.heap[h]? = some (.cells (rcells s A c) 67 (0, 0))
  own : w.ownsRow 0 62 12 (.slice A s.L.length c) s.L.length (row s.L)
section
variable {w w' : World} {h c : Nat} {A : Option Addr} {s : TS}
theorem Rt.lt (r : Rt w h A c s) : h < w.heap.size := (Array.getElem?_eq_some_iff.1 r.heap).1
theorem Rt.keptE (r : Rt w h A c s) (k : ∀ i, (i = h ∨ A = some ⟨i, 0, none⟩) → w'.heap[i]? = w.heap[i]?) : Rt w' h A c s :=
  ⟨(k h (.inl rfl)).trans r.heap, row_keptE r.own (fun i hi => k i (.inr hi))⟩
theorem Rt.below (r : Rt w h A c s) (hb : Below w.heap.size w w') : Rt w' h A c s := r.keptE fun i hi => hb.block i (by
  rcases hi with rfl | hi
  · exact r.lt
  · exact (row_lt r.own hi).1)
theorem Rt.c0 (r : Rt w h A c s) : w.cell? ⟨h, 0, none⟩ = some (.slice A s.L.length c) := cell_of r.heap 0
theorem Rt.c1 (r : Rt w h A c s) : w.cell? ⟨h, 1, none⟩ = some (.int .i64 s.most) := cell_of r.heap 1
theorem Rt.c2 (r : Rt w h A c s) : w.cell? ⟨h, 2, none⟩ = some (.int .u64 s.last) := cell_of r.heap 2
theorem Rt.fls (r : Rt w h A c s) : FlsAt w A s.L := FlsAt.own62 r.own
end
set_option maxHeartbeats 1600000
theorem rnew_yes (most : Nat) (w : World) (h1 : 1 ≤ most) (h2 : most ≤ 1024) :
    Calls Try.prog 21 #[.int .i64 most] w fun e w' => e = .returned (.tuple #[.pointer (some ⟨w.heap.size, 0, none⟩), .int .i64 0]) ∧ Rt w' w.heap.size none 0 ⟨most, [], 0⟩ ∧ Below w.heap.size w w' := by
  go_enter Try.func21, Try.ntmps21
  go_wp2
  go_ret2
  exact ⟨rfl, ⟨heap_alloc_new w _, World.ownsRow_nil _ _ _ _⟩, (Below.refl _ _).alloc (Nat.le_refl _) _⟩
theorem rnew_no (most : Int) (w : World) (h : most < 1 ∨ 1024 < most) :
    Calls Try.prog 21 #[.int .i64 most] w fun e w' => e = .returned (.tuple #[.pointer none, .int .i64 1]) ∧ w = w' := by
  by_cases h1 : most < 1
  · have t1 : decide (most < 1) = true := decide_eq_true h1
    clear h
    go_enter Try.func21, Try.ntmps21
    go_wp2
    go_ret2
    exact ⟨rfl, rfl⟩
  · have h2 : 1024 < most := by omega
    have t1 : decide (most < 1) = false := decide_eq_false h1
    have t2 : decide (1024 < most) = true := decide_eq_true h2
    clear h
    go_enter Try.func21, Try.ntmps21
    go_wp2
    go_ret2
    exact ⟨rfl, rfl⟩
theorem rat_any {w : World} {h c : Nat} {A : Option Addr} {s : TS} (r : Rt w h A c s) (ho : s.Ok) (id : Int) :
    Calls Try.prog 46 #[.pointer (some ⟨h, 0, none⟩), .int .u64 id] w fun e w' => e = .returned (.int .i64 (idx (fun f => f.id == id) s.L)) ∧ w = w' := by
  have H := Lib.hid r.fls
  have c0 := r.c0
  have hm : s.L.length ≤ 1024 := Nat.le_trans ho.len ho.most2
  obtain ⟨n, hn⟩ : ∃ n, s.L.length = n := ⟨_, rfl⟩
  rw [hn] at c0 hm
  have HN := Lib.hid hn
  clear r hn ho
  go_enter Try.func46, Try.ntmps46
  go_wp2_with fail
  go_loopw [5] (fun v5 wr => ∃ k : Nat, v5 = .int .i64 k ∧ k ≤ n ∧ w = wr ∧ ∀ j g, j < k → s.L[j]? = some g → (g.id == id) = false) (fun v5 _ => n - (intOf v5).toNat)
  case atStart => exact ⟨0, rfl, Nat.zero_le _, rfl, fun j g hj => by omega⟩
  case round =>
    obtain ⟨k, rfl, hk, rfl, hnot⟩ := hrel
    have HNOT := Lib.hid hnot
    clear hnot
    by_cases hlt : k < n
    · obtain ⟨f, hf⟩ : ∃ f, s.L[k]? = some f := ⟨s.L[k]'(by have := HN.out; omega), List.getElem?_eq_getElem _⟩
      obtain ⟨b, o, rfl, hl, ha⟩ := H.out k f hf
      have k0 := ha.k0
      have HF := Lib.hid hf
      clear ha hf hl
      cases hp : (f.id == id) with
      | true =>
        have HPB := Lib.hid hp
        go_wp2_with fail
        go_ret
        exact ⟨ret_int (idx_hit HF.out HPB.out HNOT.out).symm, rfl⟩
      | false =>
        have HPB := Lib.hid hp
        go_wp2_with fail
        go_roundw
        case rel =>
          refine ⟨k + 1, by simp, by omega, by first | trivial | rfl, fun j g hj hg => ?_⟩
          by_cases e : j < k
          · exact HNOT.out j g e hg
          · obtain rfl : j = k := by omega
            rw [HF.out] at hg
            cases hg
            exact HPB.out
        case measure => simp [intOf]; omega
    · obtain rfl : k = n := by omega
      go_wp2_with fail
      go_ret
      exact ⟨ret_int (idx_none (by rw [HN.out]; exact HNOT.out)).symm, rfl⟩
end Go.Proofs.Ytdpomneoiagpiaa
