/- Comparisons of structs, Reverse, Same of equal lists, the closure of ForwardKnown. -/
import Derived.Test.YthlohgldcnicbaaOutw
import Derived.Test.YthlohgldcnicbaaRFind
set_option linter.unusedVariables false
namespace Go.Proofs.Ythlohgldcnicbaa
open Go.RowKit Go.Deep Go.BigFrame
attribute [local go_sem ↓] Go.wp_at_zero Go.wp_at_succ
instance : DecidableEq Tup := fun a b => by
  obtain ⟨a0, a1, a2, a3, a4⟩ := a
  obtain ⟨b0, b1, b2, b3, b4⟩ := b
  exact decidable_of_iff (a0 = b0 ∧ a1 = b1 ∧ a2 = b2 ∧ a3 = b3 ∧ a4 = b4) (by simp)
theorem tup_eql (t t' : Tup) (W : World) : (binOp .eql 44 t.val t'.val).run Try.prog W = Result.ok (.bool (decide (t = t'))) W := by
  obtain ⟨a, b, c, d, e⟩ := t
  obtain ⟨p, q, r, s, u⟩ := t'
  unfold Tup.val Tup.arr
  by_cases h1 : a = p
  · by_cases h2 : b = q
    · by_cases h3 : c = r
      · by_cases h4 : d = s
        · by_cases h5 : e = u
          · subst h1 h2 h3 h4 h5
            go_simp
          · go_simp
        · go_simp
      · go_simp
    · go_simp
  · go_simp
theorem tup_neq (t t' : Tup) (W : World) : (binOp .neq 44 t.val t'.val).run Try.prog W = Result.ok (.bool (!decide (t = t'))) W := by
  obtain ⟨a, b, c, d, e⟩ := t
  obtain ⟨p, q, r, s, u⟩ := t'
  unfold Tup.val Tup.arr
  by_cases h1 : a = p
  · by_cases h2 : b = q
    · by_cases h3 : c = r
      · by_cases h4 : d = s
        · by_cases h5 : e = u
          · subst h1 h2 h3 h4 h5
            go_simp
          · go_simp
        · go_simp
      · go_simp
    · go_simp
  · go_simp
theorem fw_eql (t t' : Fw) (W : World) : (binOp .eql 37 t.val t'.val).run Try.prog W = Result.ok (.bool (decide (t = t'))) W := by
  obtain ⟨a, b, c, d⟩ := t
  obtain ⟨p, q, r, s⟩ := t'
  unfold Fw.val Fw.arr
  by_cases h1 : a = p
  · by_cases h2 : b = q
    · by_cases h3 : c = r
      · by_cases h4 : d = s
        · subst h1 h2 h3 h4
          go_simp
        · go_simp
      · go_simp
    · go_simp
  · go_simp
theorem fw_neq (t t' : Fw) (W : World) : (binOp .neq 37 t.val t'.val).run Try.prog W = Result.ok (.bool (!decide (t = t'))) W := by
  obtain ⟨a, b, c, d⟩ := t
  obtain ⟨p, q, r, s⟩ := t'
  unfold Fw.val Fw.arr
  by_cases h1 : a = p
  · by_cases h2 : b = q
    · by_cases h3 : c = r
      · by_cases h4 : d = s
        · subst h1 h2 h3 h4
          go_simp
        · go_simp
      · go_simp
    · go_simp
  · go_simp
set_option maxHeartbeats 1600000
theorem same_any {w : World} (A A2 : Option Addr) (c c2 n : Nat) (L : List Fw) (hn : L.length = n) (hm : n ≤ 100000) (h1 : FwsAt w A L) (h2 : FwsAt w A2 L) :
    Calls Try.prog 11 #[.slice A n c, .slice A2 n c2] w fun e w' => e = .returned (.bool true) ∧ Below w.heap.size w w' := by
  have H1 := Lib.hid h1
  have H2 := Lib.hid h2
  have HN := Lib.hid hn
  clear h1 h2 hn
  go_enter Try.func11, Try.ntmps11
  go_wp2_with fail
  go_loopw [5] (fun v13 wr => ∃ k : Nat, v13 = .int .i64 k ∧ k ≤ n ∧ Below w.heap.size w wr) (fun v13 _ => n - (intOf v13).toNat)
  case atStart => exact ⟨0, rfl, Nat.zero_le _, Below.refl _ _⟩
  case round =>
    obtain ⟨k, rfl, hk, hb⟩ := hrel
    have HB := Lib.hid hb
    clear hb
    by_cases hlt : k < n
    · obtain ⟨f, hf⟩ : ∃ f, L[k]? = some f := ⟨L[k]'(by have := HN.out; omega), List.getElem?_eq_getElem _⟩
      obtain ⟨b, o, rfl, hl, ha⟩ := (H1.out.below HB.out) k f hf
      obtain ⟨k0, k1, k2, k3⟩ := ha
      obtain ⟨b2, o2, rfl, hl2, ha2⟩ := (H2.out.below HB.out) k f hf
      obtain ⟨m0, m1, m2, m3⟩ := ha2
      have E := fw_neq f f
      simp only [decide_true, Bool.not_true] at E
      unfold Fw.val Fw.arr at E
      clear hf
      go_wp2_with fail
      go_quiet (fail)
      go_wp2_with fail
      go_roundw
      case rel => exact ⟨k + 1, by simp, by omega, HB.out.trans (below_drewN (Below.refl _ _) _)⟩
      case measure => simp [intOf]; omega
    · obtain rfl : k = n := by omega
      go_wp2_with fail
      go_ret
      exact ⟨rfl, HB.out⟩
/-- A tuple turned round. -/
def revT (x : Tup) : Tup := if x.proto = 1 then { x with src := x.dst, dst := x.src } else { x with src := x.dst, dst := x.src, sp := x.dp, dp := x.sp }
theorem res24 {x : Tup} {W : World} {q : Nat} (hh : W.heap[q]? = some (.cells x.arr 44 (0, 0))) (t : Array Value) (h4 : t.getD 2 undef = .pointer (some ⟨q, 0, none⟩)) :
    (results Try.f24 t).run Try.prog W = .ok x.val W := by
  have u0 : W.cell? ⟨q, 0, none⟩ = some (.int .u8 x.proto) := cell_of hh 0
  have u1 : W.cell? ⟨q, 1, none⟩ = some (.int .u32 x.src) := cell_of hh 1
  have u2 : W.cell? ⟨q, 2, none⟩ = some (.int .u32 x.dst) := cell_of hh 2
  have u3 : W.cell? ⟨q, 3, none⟩ = some (.int .u16 x.sp) := cell_of hh 3
  have u4 : W.cell? ⟨q, 4, none⟩ = some (.int .u16 x.dp) := cell_of hh 4
  simp only [Array.getD_eq_getD_getElem?] at h4
  simp [results, Try.results24, go_sem, h4, u0, u1, u2, u3, u4]
  rfl
theorem reverse_any (x : Tup) (w : World) : Calls Try.prog 24 #[x.val] w fun e w' => e = .returned (revT x).val ∧ Below w.heap.size w w' := by
  by_cases h1 : x.proto = 1
  · have s1 : (x.proto != 1) = false := by simpa using h1
    have HR : (revT x) = { x with src := x.dst, dst := x.src } := by unfold revT; rw [if_pos h1]
    rw [HR]
    clear HR h1
    unfold Tup.val Tup.arr
    go_enter Try.func24, Try.ntmps24
    go_wp2_with fail
    refine post_name fun W hW => ?_
    have hh : W.heap[w.heap.size + 1]? = some (.cells ({ x with src := x.dst, dst := x.src } : Tup).arr 44 (0, 0)) := by
      rw [hW]
      have := heap_alloc_new (w.alloc (.cells ({ x with src := x.dst, dst := x.src } : Tup).arr 44)) (.cells ({ x with src := x.dst, dst := x.src } : Tup).arr 44)
      rwa [World.size_alloc] at this
    exact bodyPost_ret (res24 hh _ rfl) rfl ⟨rfl, by rw [hW]; exact ((Below.refl _ _).alloc (Nat.le_refl _) _).alloc (by simp) _⟩
  · have s1 : (x.proto != 1) = true := by simpa using h1
    have HR : (revT x) = { x with src := x.dst, dst := x.src, sp := x.dp, dp := x.sp } := by unfold revT; rw [if_neg h1]
    rw [HR]
    clear HR h1
    unfold Tup.val Tup.arr
    go_enter Try.func24, Try.ntmps24
    go_wp2_with fail
    refine post_name fun W hW => ?_
    have hh : W.heap[w.heap.size + 1]? = some (.cells ({ x with src := x.dst, dst := x.src, sp := x.dp, dp := x.sp } : Tup).arr 44 (0, 0)) := by
      rw [hW]
      have := heap_alloc_new (w.alloc (.cells ({ x with src := x.dst, dst := x.src, sp := x.dp, dp := x.sp } : Tup).arr 44)) (.cells ({ x with src := x.dst, dst := x.src, sp := x.dp, dp := x.sp } : Tup).arr 44)
      rwa [World.size_alloc] at this
    exact bodyPost_ret (res24 hh _ rfl) rfl ⟨rfl, by rw [hW]; exact ((Below.refl _ _).alloc (Nat.le_refl _) _).alloc (by simp) _⟩
end Go.Proofs.Ythlohgldcnicbaa
