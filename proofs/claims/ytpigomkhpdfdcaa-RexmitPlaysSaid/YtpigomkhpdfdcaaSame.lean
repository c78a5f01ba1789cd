/- Pieces side by side (same), and pieces turned (spoil). -/
import Derived.Test.YtpigomkhpdfdcaaRHelp
set_option linter.unusedVariables false
namespace Go.Proofs.Ytpigomkhpdfdcaa
open Go.RowKit Go.Deep Go.BigFrame
attribute [local go_sem ↓] Go.wp_at_zero Go.wp_at_succ
/-- Pieces, as they can be read. -/
def PlAt (w : World) (v : Value) (L : List (Int × List Int)) : Prop :=
  ∃ A c, v = .slice A L.length c ∧ ∀ i p, L[i]? = some p → ∃ b o A1 k1, A = some ⟨b, o, none⟩ ∧ w.cell? ⟨b, o + i * 2, none⟩ = some (.int .u32 p.1) ∧ w.cell? ⟨b, o + i * 2 + 1, none⟩ = some (.slice A1 p.2.length k1) ∧
    Byt w (.slice A1 p.2.length k1) p.2 ∧ ∀ x ∈ p.2, 0 ≤ x ∧ x ≤ 255
theorem equal_q {v1 v2 : Value} {xs : List Int} {w : World} (h1 : Byt w v1 xs) (h2 : Byt w v2 xs) (r : ∀ x ∈ xs, 0 ≤ x ∧ x ≤ 255) (n : Nat) :
    Calls Try.prog 48 #[v1, v2] (w.drewN n) fun e w'' => e = .returned (.bool true) ∧ ∃ m, w'' = w.drewN m := by
  refine (equal_any v1 v2 xs xs _ (h1.below (below_drewN (Below.refl _ _) n)) (h2.below (below_drewN (Below.refl _ _) n)) r r).mono ?_
  rintro e w' ⟨rfl, rfl⟩
  exact ⟨by rw [eqB_self], n, rfl⟩
set_option maxHeartbeats 1600000 in
theorem same_any (v v' : Value) (L : List (Int × List Int)) (w : World) (h1 : PlAt w v L) (h2 : PlAt w v' L) (hn : L.length ≤ 1000000) :
    Calls Try.prog 31 #[v, v'] w fun e w' => e = .returned (.bool true) ∧ ∃ n, w' = w.drewN n := by
  obtain ⟨A, c, rfl, hA⟩ := h1
  obtain ⟨A2, c2, rfl, hA2⟩ := h2
  obtain ⟨N, hN⟩ : ∃ N, L.length = N := ⟨_, rfl⟩
  rw [hN] at hn ⊢
  have HA := Lib.hid hA
  have HA2 := Lib.hid hA2
  have HN := Lib.hid hN
  clear hA hA2 hN
  go_enter Try.func31, Try.ntmps31
  go_wp2_with fail
  go_loopw [13] (fun v13 wr => ∃ k n : Nat, v13 = .int .i64 k ∧ k ≤ N ∧ wr = w.drewN n) (fun v13 _ => N - (intOf v13).toNat)
  case atStart => exact ⟨0, 0, rfl, Nat.zero_le _, rfl⟩
  case round =>
    obtain ⟨k, n, rfl, hk, rfl⟩ := hrel
    by_cases hlt : k < N
    · obtain ⟨p, hp⟩ : ∃ p, L[k]? = some p := ⟨L[k]'(by have := HN.out; omega), List.getElem?_eq_getElem _⟩
      obtain ⟨b, o, A1, k1, rfl, x0, x1, xb, xr⟩ := HA.out k p hp
      obtain ⟨b2, o2, A3, k3, rfl, y0, y1, yb, yr⟩ := HA2.out k p hp
      obtain ⟨pu, px⟩ := p
      simp only at x0 x1 xb xr y0 y1 yb yr
      obtain ⟨m, hm⟩ : ∃ m, px.length = m := ⟨_, rfl⟩
      rw [hm] at x1 xb y1 yb
      have HQ : Hid (∀ q, Calls Try.prog 48 #[.slice A1 m k1, .slice A3 m k3] ((w.drewN n).drewN q) fun e w'' => e = .returned (.bool true) ∧ ∃ m, w'' = (w.drewN n).drewN m) :=
        Lib.hid (fun q => equal_q (xb.below (below_drewN (Below.refl _ _) n)) (yb.below (below_drewN (Below.refl _ _) n)) xr q)
      have x0 : (w.drewN n).cell? ⟨b, o + k * 2, none⟩ = some (.int .u32 pu) := x0
      have x1 : (w.drewN n).cell? ⟨b, o + k * 2 + 1, none⟩ = some (.slice A1 m k1) := x1
      have y0 : (w.drewN n).cell? ⟨b2, o2 + k * 2, none⟩ = some (.int .u32 pu) := y0
      have y1 : (w.drewN n).cell? ⟨b2, o2 + k * 2 + 1, none⟩ = some (.slice A3 m k3) := y1
      clear xb yb xr yr hp hm
      obtain ⟨X, hX⟩ : ∃ X, X = w.drewN n := ⟨_, rfl⟩
      rw [← hX] at x0 x1 y0 y1 HQ ⊢
      have HX := Lib.hid hX
      clear hX
      go_wp2_with fail
      go_quiet ((go_at_call 48; exact HQ.out _))
      go_wp2_with fail
      go_roundw
      case rel => exact ⟨k + 1, n + nq, by simp, by omega, by rw [HX.out, World.drewN_drewN]⟩
      case measure => simp [intOf]; omega
    · have hkN : decide ((k : Int) < (N : Int)) = false := decide_eq_false (by omega)
      go_wp2_with fail
      go_ret
      exact ⟨rfl, _, rfl⟩
/-- Bytes of a block that may be turned. -/
def U8s (w : World) (b m : Nat) : Prop := ∃ cs : Array Value, w.heap[b]? = some (.cells cs 5 (0, 0)) ∧ ∀ i < m, ∃ x, cs[i]? = some (.int .u8 x)
theorem U8s.below {w w' : World} {b m B : Nat} (h : U8s w b m) (hb : Below B w w') (hl : b < B) : U8s w' b m := by
  obtain ⟨cs, h1, h2⟩ := h
  exact ⟨cs, (hb.block b hl).trans h1, h2⟩
theorem U8s.lt {w : World} {b m : Nat} (h : U8s w b m) : b < w.heap.size := by
  obtain ⟨cs, h1, h2⟩ := h
  exact (Array.getElem?_eq_some_iff.1 h1).1
theorem U8s.set {w : World} {b m : Nat} (h : U8s w b m) (b' j : Nat) (y : Int) : U8s (w.setCell ⟨b', j, none⟩ (.int .u8 y)) b m := by
  obtain ⟨cs, h1, h2⟩ := h
  by_cases e : b = b'
  · subst e
    refine ⟨_, heap_set h1 _, fun i hi => ?_⟩
    obtain ⟨x, hx⟩ := h2 i hi
    by_cases ej : j = i
    · subst ej
      exact ⟨y, by rw [Array.getElem?_setIfInBounds_self_of_lt (Array.getElem?_eq_some_iff.1 hx).1]⟩
    · exact ⟨x, by rw [Array.getElem?_setIfInBounds_ne ej]; exact hx⟩
  · exact ⟨cs, (Below.heap_setCell _ _ _ _ e).trans h1, h2⟩
/-- Pieces whose bytes lie from block B on. -/
def SpAt (w : World) (B : Nat) (A : Option Addr) (n : Nat) : Prop :=
  ∀ i < n, ∃ (bp : Nat) (cs : Array Value) (u : Int) (A1 : Option Addr) (m k : Nat), A = some ⟨bp, 0, none⟩ ∧ w.heap[bp]? = some (.cells cs 38 (0, 0)) ∧ cs[i * 2]? = some (.int .u32 u) ∧ cs[i * 2 + 1]? = some (.slice A1 m k) ∧ m ≤ 1000000 ∧
    (0 < m → ∃ b, A1 = some ⟨b, 0, none⟩ ∧ B ≤ b ∧ U8s w b m)
theorem SpAt.below {w w' : World} {B : Nat} {A : Option Addr} {n : Nat} (h : SpAt w B A n) (hb : Below w.heap.size w w') : SpAt w' B A n := by
  intro i hi
  obtain ⟨bp, cs, u, A1, m, k, e, h1, h2, h3, h4, h5⟩ := h i hi
  refine ⟨bp, cs, u, A1, m, k, e, (hb.block bp (Array.getElem?_eq_some_iff.1 h1).1).trans h1, h2, h3, h4, fun hm => ?_⟩
  obtain ⟨b, e2, hB, hu⟩ := h5 hm
  exact ⟨b, e2, hB, hu.below hb hu.lt⟩
theorem SpAt.set {w : World} {B : Nat} {A : Option Addr} {n : Nat} (h : SpAt w B A n) {b' m' : Nat} (hu' : U8s w b' m') (j : Nat) (y : Int) : SpAt (w.setCell ⟨b', j, none⟩ (.int .u8 y)) B A n := by
  intro i hi
  obtain ⟨bp, cs, u, A1, m, k, e, h1, h2, h3, h4, h5⟩ := h i hi
  have hne : bp ≠ b' := by
    intro e'
    subst e'
    obtain ⟨cs', h1', _⟩ := hu'
    rw [h1] at h1'
    injection h1' with h1'
    injection h1' with _ q
    exact absurd q (by decide)
  refine ⟨bp, cs, u, A1, m, k, e, (Below.heap_setCell _ _ _ _ hne).trans h1, h2, h3, h4, fun hm => ?_⟩
  obtain ⟨b, e2, hB, hu⟩ := h5 hm
  exact ⟨b, e2, hB, hu.set _ _ _⟩
set_option maxHeartbeats 1600000 in
theorem spoil_any (B n c : Nat) (A : Option Addr) (w : World) (h : SpAt w B A n) (hB : B ≤ w.heap.size) (hn : n ≤ 1000000) :
    Calls Try.prog 32 #[.slice A n c] w fun e w' => e = .returned (.tuple #[]) ∧ Below B w w' := by
  have H := Lib.hid h
  clear h
  go_enter Try.func32, Try.ntmps32
  go_wp2_with fail
  go_loopw [7] (fun v7 wr => ∃ k : Nat, v7 = .int .i64 k ∧ k ≤ n ∧ SpAt wr B A n ∧ Below B w wr) (fun v7 _ => n - (intOf v7).toNat)
  case atStart => exact ⟨0, rfl, Nat.zero_le _, H.out, Below.refl _ _⟩
  case round =>
    obtain ⟨k, rfl, hk, hsp, hbl⟩ := hrel
    have hsz := hbl.size
    have HBL := Lib.hid hbl
    have HSP := Lib.hid hsp
    clear hbl hsp
    obtain ⟨wo, hwo⟩ : ∃ x, x = wr := ⟨_, rfl⟩
    subst hwo
    by_cases hlt : k < n
    · obtain ⟨bp, cs, u, A1, m, k1, rfl, h1, h2, h3, h4, h5⟩ := HSP.out k hlt
      have p0 : wo.cell? ⟨bp, 0 + k * 2, none⟩ = some (.int .u32 u) := by rw [Nat.zero_add, cell_of h1]; exact h2
      have p1 : wo.cell? ⟨bp, 0 + k * 2 + 1, none⟩ = some (.slice A1 m k1) := by rw [Nat.zero_add, cell_of h1]; exact h3
      rw [Nat.zero_add] at p0 p1
      have H5 := Lib.hid h5
      clear h1 h2 h3 h5
      go_wp2_with fail
      obtain ⟨b3, hb3⟩ : ∃ b3, wo.heap.size = b3 := ⟨_, rfl⟩
      obtain ⟨WI, hWI⟩ : ∃ WI, WI = wo.alloc (Obj.cells #[.int .u32 u, .slice A1 m k1] 38) := ⟨_, rfl⟩
      rw [← hWI, hb3]
      have hB1 : Below wo.heap.size wo WI := by rw [hWI]; exact (Below.refl _ _).alloc (Nat.le_refl _) _
      have h7 : WI.heap[b3]? = some (.cells #[.int .u32 u, .slice A1 m k1] 38 (0, 0)) := by rw [hWI, ← hb3]; exact heap_alloc_new wo _
      have HS1 := Lib.hid (HSP.out.below hB1)
      have HB1 : Hid (Below B w WI) := Lib.hid (HBL.out.trans (hB1.mono (by omega)))
      have HU1 : Hid (0 < m → ∃ b, A1 = some ⟨b, 0, none⟩ ∧ B ≤ b ∧ U8s WI b m) := Lib.hid (fun hm => by obtain ⟨b, e, q, hu⟩ := H5.out hm; exact ⟨b, e, q, hu.below hB1 hu.lt⟩)
      have HH7 := Lib.hid h7
      clear hWI hB1 h7 p0 p1 hb3 H5
      go_loopw [14, 4] (fun v14 v4 wr => ∃ i : Nat, v14 = .int .i64 i ∧ i ≤ m ∧ SpAt wr B (some ⟨bp, 0, none⟩) n ∧ Below B w wr ∧ wr.heap[b3]? = some (.cells #[.int .u32 u, .slice A1 m k1] 38 (0, 0)) ∧ (0 < m → ∃ b, A1 = some ⟨b, 0, none⟩ ∧ B ≤ b ∧ U8s wr b m)) (fun v14 _ _ => m - (intOf v14).toNat)
      case atStart => exact ⟨0, rfl, Nat.zero_le _, HS1.out, HB1.out, HH7.out, HU1.out⟩
      case round =>
        obtain ⟨i, rfl, hi, hs, hb, hh, hu⟩ := hrel
        have q1 : wr.cell? ⟨b3, 1, none⟩ = some (.slice A1 m k1) := cell_of hh 1
        by_cases hlt2 : i < m
        · obtain ⟨b, rfl, hBb, hub⟩ := hu (by omega)
          obtain ⟨cs2, g1, g2⟩ := hub
          obtain ⟨x, hx⟩ := g2 i hlt2
          have c1 : wr.cell? ⟨b, i, none⟩ = some (.int .u8 x) := by rw [cell_of g1]; exact hx
          have f1 := free_of g1 i
          have hne : b3 ≠ b := by
            intro e
            subst e
            rw [hh] at g1
            injection g1 with g1
            injection g1 with _ q
            exact absurd q (by decide)
          have HU : Hid (U8s wr b m) := Lib.hid ⟨cs2, g1, g2⟩
          have HS := Lib.hid hs
          have HB := Lib.hid hb
          have HH := Lib.hid hh
          clear hs hb hh hu g1 g2 hx
          go_wp2_with fail
          go_roundw
          case rel => exact ⟨i + 1, by simp, by omega, HS.out.set HU.out _ _, HB.out.setCell hBb _, (Below.heap_setCell _ _ _ _ hne).trans HH.out, fun _ => ⟨b, rfl, hBb, HU.out.set _ _ _⟩⟩
          case measure => simp [intOf]; omega
        · have him : decide ((i : Int) < (m : Int)) = false := decide_eq_false (by omega)
          have HS := Lib.hid hs
          have HB := Lib.hid hb
          clear hs hb hh hu
          go_wp2_with fail
          go_roundw
          case rel => exact ⟨k + 1, by simp, by omega, HS.out, HB.out⟩
          case measure => simp [intOf]; omega
    · have hkN : decide ((k : Int) < (n : Int)) = false := decide_eq_false (by omega)
      go_wp2_with fail
      go_end0
      exact ⟨rfl, HBL.out⟩
end Go.Proofs.Ytpigomkhpdfdcaa
