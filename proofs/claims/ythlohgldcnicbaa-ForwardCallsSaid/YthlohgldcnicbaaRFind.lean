/- The reference's Find, Same. -/
import Derived.Test.YthlohgldcnicbaaNew
set_option linter.unusedVariables false
namespace Go.Proofs.Ythlohgldcnicbaa
open Go.RowKit Go.Deep Go.BigFrame
attribute [local go_sem ↓] Go.wp_at_zero Go.wp_at_succ
theorem res16 {f : Fw} {W : World} {q : Nat} (hh : W.heap[q]? = some (.cells f.arr 37 (0, 0))) (t : Array Value) (b : Bool) (h4 : t.getD 6 undef = .pointer (some ⟨q, 0, none⟩)) (h5 : t.getD 7 undef = .bool b) :
    (results Try.f16 t).run Try.prog W = .ok (.tuple #[f.val, .bool b]) W := by
  have u0 : W.cell? ⟨q, 0, .none⟩ = some (.int .u8 f.proto) := cell_of hh 0
  have u1 : W.cell? ⟨q, 1, .none⟩ = some (.int .u16 f.port) := cell_of hh 1
  have u2 : W.cell? ⟨q, 2, .none⟩ = some (.int .u32 f.addr) := cell_of hh 2
  have u3 : W.cell? ⟨q, 3, .none⟩ = some (.int .u16 f.dest) := cell_of hh 3
  simp only [Array.getD_eq_getD_getElem?] at h4 h5
  simp [results, Try.results16, go_sem, h4, h5, u0, u1, u2, u3]
  rfl
theorem findD_hit {L : List Fw} {d : Door} {k : Nat} {f : Fw} (hf : L[k]? = some f) (hd : f.door = d) (hn : ∀ j g, j < k → L[j]? = some g → g.door ≠ d) : findD L d = some f := by
  unfold findD
  rw [List.find?_eq_some_iff_getElem]
  obtain ⟨hk, e⟩ := List.getElem?_eq_some_iff.1 hf
  refine ⟨by simp [hd], k, hk, e, fun j hj => ?_⟩
  have := hn j _ hj (List.getElem?_eq_getElem (by omega))
  simpa using this
theorem findD_none {L : List Fw} {d : Door} (hn : ∀ j g, j < L.length → L[j]? = some g → g.door ≠ d) : findD L d = none := by
  unfold findD
  rw [List.find?_eq_none]
  intro g hg
  obtain ⟨j, hj, e⟩ := List.getElem_of_mem hg
  simpa using hn j g hj (by rw [List.getElem?_eq_getElem hj, e])
set_option maxHeartbeats 3200000
set_option maxRecDepth 100000
theorem rfind_any (A : Option Addr) (n cp : Nat) (L : List Fw) (p q : Int) (w : World) (hn : L.length = n) (hfs : FwsAt w A L) (hm : n ≤ 100000) :
    Calls Try.prog 16 #[.slice A n cp, .int .u8 p, .int .u16 q] w fun e w' => e = .returned (.tuple #[(getF L ⟨p, q⟩).val, .bool (findD L ⟨p, q⟩).isSome]) ∧ Below w.heap.size w w' := by
  have hB : ∀ o, Below w.heap.size w (w.alloc o) := fun o => (Below.refl w.heap.size w).alloc (Nat.le_refl _) o
  have HF := Lib.hid hfs
  have HN := Lib.hid hn
  have HB := Lib.hid hB
  clear hfs hn hB
  go_enter Try.func16, Try.ntmps16
  go_wp2_with fail
  refine wp_name fun W0 hW0 => ?_
  have hW0' : W0 = w.alloc (.cells Fw.zero.arr 37) := hW0
  obtain ⟨z, hz⟩ : ∃ z, w.heap.size = z := ⟨_, rfl⟩
  have hh0 : W0.heap[z]? = some (.cells Fw.zero.arr 37 (0, 0)) := by rw [hW0', ← hz]; exact heap_alloc_new w _
  have hb0 : Below w.heap.size w W0 := by rw [hW0']; exact HB.out _
  have HW := Lib.hid (And.intro hh0 (And.intro hb0 hz))
  rw [hz]
  clear hW0 hW0' hz hh0 hb0
  go_loopw [8] (fun v8 wr => ∃ k : Nat, v8 = .int .i64 k ∧ k ≤ n ∧ W0 = wr ∧ ∀ (j : Nat) (g : Fw), j < k → L[j]? = some g → g.door ≠ ⟨p, q⟩) (fun v8 _ => n - (intOf v8).toNat)
  case atStart => exact ⟨0, rfl, Nat.zero_le _, rfl, fun j g hj => by omega⟩
  case round =>
    obtain ⟨k, rfl, hk, rfl, hnot⟩ := hrel
    have HNOT := Lib.hid hnot
    clear hnot
    by_cases hlt : k < n
    · obtain ⟨f, hf⟩ : ∃ f, L[k]? = some f := ⟨L[k]'(by have := HN.out; omega), List.getElem?_eq_getElem _⟩
      obtain ⟨b, o, rfl, hbl, hat⟩ := HF.out k f hf
      obtain ⟨k0, k1, k2, k3⟩ := hat.below HW.out.2.1 hbl
      have nb : ¬ b = z := by have := HW.out.2.2; omega
      have f0 : ∀ i, W0.frozen? ⟨z, i, none⟩ = false := fun i => free_of HW.out.1 i
      have z0 : W0.cell? ⟨z, 0, none⟩ = some (.int .u8 0) := cell_of HW.out.1 0
      have z1 : W0.cell? ⟨z, 1, none⟩ = some (.int .u16 0) := cell_of HW.out.1 1
      have z2 : W0.cell? ⟨z, 2, none⟩ = some (.int .u32 0) := cell_of HW.out.1 2
      have z3 : W0.cell? ⟨z, 3, none⟩ = some (.int .u16 0) := cell_of HW.out.1 3
      have HFK := Lib.hid hf
      clear hf hat hbl
      by_cases h1 : f.proto = p
      · have s1 : (f.proto == p) = true := by simpa using h1
        by_cases h2 : f.port = q
        · have s2 : (f.port == q) = true := by simpa using h2
          have HE := Lib.hid (And.intro h1 h2)
          clear h1 h2
          go_wp2_with fail
          refine post_name fun W hW => ?_
          have hW' : W = W0.setCells z 0 f.arr.toList := hW
          have hh2 : W.heap[z]? = some (.cells f.arr 37 (0, 0)) := by rw [hW']; exact store_all HW.out.1 f.arr rfl
          refine bodyPost_ret (res16 hh2 _ true rfl rfl) rfl ⟨?_, ?_⟩
          · have e1 : findD L ⟨p, q⟩ = some f := findD_hit HFK.out (by unfold Fw.door; rw [HE.out.1, HE.out.2]) HNOT.out
            unfold getF
            rw [e1]
            rfl
          · rw [hW']
            exact grown_bel HW.out.2.1 (grown_setCells _ _ _ _) (by rintro j e; cases e; have := HW.out.2.2; omega)
        · have s2 : (f.port == q) = false := by simpa using h2
          have hne : f.door ≠ ⟨p, q⟩ := fun e => h2 (by unfold Fw.door at e; injection e)
          clear h1 h2
          go_wp2_with fail
          go_roundw
          case rel =>
            refine ⟨k + 1, by simp, by omega, by first | trivial | rfl, fun j g hj hg => ?_⟩
            rcases Nat.lt_or_ge j k with r | r
            · exact HNOT.out j g r hg
            · obtain rfl : j = k := by omega
              rw [HFK.out] at hg
              cases hg
              exact hne
          case measure => simp [intOf]; omega
      · have s1 : (f.proto == p) = false := by simpa using h1
        have hne : f.door ≠ ⟨p, q⟩ := fun e => h1 (by unfold Fw.door at e; injection e)
        clear h1
        go_wp2_with fail
        go_roundw
        case rel =>
          refine ⟨k + 1, by simp, by omega, by first | trivial | rfl, fun j g hj hg => ?_⟩
          rcases Nat.lt_or_ge j k with r | r
          · exact HNOT.out j g r hg
          · obtain rfl : j = k := by omega
            rw [HFK.out] at hg
            cases hg
            exact hne
        case measure => simp [intOf]; omega
    · obtain rfl : k = n := by omega
      have f0 : ∀ i, W0.frozen? ⟨z, i, none⟩ = false := fun i => free_of HW.out.1 i
      have z0 : W0.cell? ⟨z, 0, none⟩ = some (.int .u8 0) := cell_of HW.out.1 0
      have z1 : W0.cell? ⟨z, 1, none⟩ = some (.int .u16 0) := cell_of HW.out.1 1
      have z2 : W0.cell? ⟨z, 2, none⟩ = some (.int .u32 0) := cell_of HW.out.1 2
      have z3 : W0.cell? ⟨z, 3, none⟩ = some (.int .u16 0) := cell_of HW.out.1 3
      go_wp2_with fail
      refine post_name fun W hW => ?_
      have hW' : W = W0.setCells z 0 Fw.zero.arr.toList := hW
      have hh2 : W.heap[z]? = some (.cells Fw.zero.arr 37 (0, 0)) := by rw [hW']; exact store_all HW.out.1 Fw.zero.arr rfl
      refine bodyPost_ret (res16 hh2 _ false rfl rfl) rfl ⟨?_, ?_⟩
      · have e1 : findD L ⟨p, q⟩ = none := findD_none (by rw [HN.out]; exact HNOT.out)
        unfold getF
        rw [e1]
        rfl
      · rw [hW']
        exact grown_bel HW.out.2.1 (grown_setCells _ _ _ _) (by rintro j e; cases e; have := HW.out.2.2; omega)
end Go.Proofs.Ythlohgldcnicbaa
