/- Find. -/
import Derived.Test.YthlohgldcnicbaaAll
set_option linter.unusedVariables false
namespace Go.Proofs.Ythlohgldcnicbaa
open Go.RowKit Go.Deep Go.BigFrame
attribute [local go_sem ↓] Go.wp_at_zero Go.wp_at_succ
theorem store_all {w : World} {q : Nat} {cs : Array Value} {ty : TypeId} {fr : Nat × Nat} (hq : w.heap[q]? = some (.cells cs ty fr)) (a : Array Value) (hs : cs.size = a.size) : (w.setCells q 0 a.toList).heap[q]? = some (.cells a ty fr) := by
  obtain ⟨cur', h1, h2, h3⟩ := heap_setCells a.toList 0 hq
  have e : cur' = a := by
    clear h1
    apply Array.ext_getElem?
    intro j
    rw [h3 j]
    by_cases hj : j < a.size
    · rw [if_pos ⟨Nat.zero_le _, by rw [Array.length_toList]; omega, by omega⟩, Nat.sub_zero, Array.getElem?_toList]
    · rw [if_neg (by rw [Array.length_toList]; omega), Array.getElem?_eq_none (by omega), Array.getElem?_eq_none (by omega)]
  rw [h1, e]
theorem res10 {f : Fw} {W : World} {q : Nat} (hh : W.heap[q]? = some (.cells f.arr 37 (0, 0))) (t : Array Value) (b : Bool) (h4 : t.getD 6 undef = .pointer (some ⟨q, 0, none⟩)) (h5 : t.getD 7 undef = .bool b) :
    (results Try.f10 t).run Try.prog W = .ok (.tuple #[f.val, .bool b]) W := by
  have u0 : W.cell? ⟨q, 0, .none⟩ = some (.int .u8 f.proto) := cell_of hh 0
  have u1 : W.cell? ⟨q, 1, .none⟩ = some (.int .u16 f.port) := cell_of hh 1
  have u2 : W.cell? ⟨q, 2, .none⟩ = some (.int .u32 f.addr) := cell_of hh 2
  have u3 : W.cell? ⟨q, 3, .none⟩ = some (.int .u16 f.dest) := cell_of hh 3
  simp only [Array.getD_eq_getD_getElem?] at h4 h5
  simp [results, Try.results10, go_sem, h4, h5, u0, u1, u2, u3]
  rfl
set_option maxHeartbeats 800000
theorem find_any {w : World} {g b nn : Nat} {L : List Fw} (h : Tb w g b nn L) (p q : Int) (hd : (⟨p, q⟩ : Door).Ok) :
    Calls Try.prog 10 #[.pointer (some ⟨g, 0, none⟩), .int .u8 p, .int .u16 q] w fun e w' => e = .returned (.tuple #[(getF L ⟨p, q⟩).val, .bool (findD L ⟨p, q⟩).isSome]) ∧ Below w.heap.size w w' := by
  have hB : ∀ o, Below w.heap.size w (w.alloc o) := fun o => (Below.refl w.heap.size w).alloc (Nat.le_refl _) o
  obtain ⟨f, hf⟩ : ∃ f, getF L ⟨p, q⟩ = f := ⟨_, rfl⟩
  obtain ⟨r, hr⟩ : ∃ r, (findD L ⟨p, q⟩).isSome = r := ⟨_, rfl⟩
  have hlk := (h.map.below (hB (.cells Fw.zero.arr 37))).look hd
  unfold getF at hf
  rw [hf, hr] at hlk
  have c0 : ∀ o, (w.alloc o).cell? ⟨g, 0, none⟩ = some (.map (some b)) := fun o => cell_of (h.below (hB o)).heap 0
  have hw : getF L ⟨p, q⟩ = f := hf
  rw [hw, hr]
  unfold Fw.val Fw.arr Door.val Fw.zero at hlk
  clear h hf hr hw
  go_enter Try.func10, Try.ntmps10
  go_wp2_with fail
  refine post_name fun W hW => ?_
  have hW' : W = (w.alloc (.cells f.arr 37)).alloc (.cells f.arr 37) := hW
  have hh2 : W.heap[w.heap.size]? = some (.cells f.arr 37 (0, 0)) := by rw [hW', Below.heap_alloc _ _ _ (by simp)]; exact heap_alloc_new w _
  refine bodyPost_ret (res10 hh2 _ r rfl rfl) rfl ⟨rfl, ?_⟩
  rw [hW']
  exact (hB _).alloc (by simp) _
theorem find_nil (p q : Int) (w : World) :
    Calls Try.prog 10 #[.pointer none, .int .u8 p, .int .u16 q] w fun e w' => e = .returned (.tuple #[Fw.zero.val, .bool false]) ∧ Below w.heap.size w w' := by
  have hB : ∀ o, Below w.heap.size w (w.alloc o) := fun o => (Below.refl w.heap.size w).alloc (Nat.le_refl _) o
  go_enter Try.func10, Try.ntmps10
  go_wp2_with fail
  refine post_name fun W hW => ?_
  have hW' : W = w.alloc (.cells Fw.zero.arr 37) := hW
  have hh2 : W.heap[w.heap.size]? = some (.cells Fw.zero.arr 37 (0, 0)) := by rw [hW']; exact heap_alloc_new w _
  refine bodyPost_ret (res10 hh2 _ false rfl rfl) rfl ⟨rfl, ?_⟩
  rw [hW']
  exact hB _
end Go.Proofs.Ythlohgldcnicbaa
