/- Inward. -/
import Derived.Test.YthlohgldcnicbaaWakes
set_option linter.unusedVariables false
namespace Go.Proofs.Ythlohgldcnicbaa
open Go.RowKit Go.Deep Go.BigFrame
attribute [local go_sem ↓] Go.wp_at_zero Go.wp_at_succ
def Tup.zero : Tup := ⟨0, 0, 0, 0, 0⟩
/-- Where a tuple leads by a forward. -/
def inT (x : Tup) (f : Fw) (is : Bool) : Tup := if is then { x with dst := f.addr, dp := f.dest } else x
theorem res17 {x : Tup} {W : World} {q : Nat} (hh : W.heap[q]? = some (.cells x.arr 44 (0, 0))) (t : Array Value) (b : Bool) (h4 : t.getD 4 undef = .pointer (some ⟨q, 0, none⟩)) (h5 : t.getD 5 undef = .bool b) :
    (results Try.f17 t).run Try.prog W = .ok (.tuple #[x.val, .bool b]) W := by
  have u0 : W.cell? ⟨q, 0, none⟩ = some (.int .u8 x.proto) := cell_of hh 0
  have u1 : W.cell? ⟨q, 1, none⟩ = some (.int .u32 x.src) := cell_of hh 1
  have u2 : W.cell? ⟨q, 2, none⟩ = some (.int .u32 x.dst) := cell_of hh 2
  have u3 : W.cell? ⟨q, 3, none⟩ = some (.int .u16 x.sp) := cell_of hh 3
  have u4 : W.cell? ⟨q, 4, none⟩ = some (.int .u16 x.dp) := cell_of hh 4
  simp only [Array.getD_eq_getD_getElem?] at h4 h5
  simp [results, Try.results17, go_sem, h4, h5, u0, u1, u2, u3, u4]
  rfl
set_option maxHeartbeats 1600000
set_option maxRecDepth 100000
theorem inward_of (p : Value) (x : Tup) (f : Fw) (is : Bool) (w : World) (hp : p = .pointer none ∨ ∃ g, p = .pointer (some ⟨g, 0, none⟩)) (hf : ∀ W, Below w.heap.size w W → Calls Try.prog 10 #[p, .int .u8 x.proto, .int .u16 x.dp] W fun e w' => e = .returned (.tuple #[f.val, .bool is]) ∧ Below W.heap.size W w') :
    Calls Try.prog 17 #[p, x.val] w fun e w' => e = .returned (.tuple #[(inT x f is).val, .bool is]) ∧ Below w.heap.size w w' := by
  have HF := Lib.hid hf
  clear hf hp
  unfold Tup.val Tup.arr
  go_enter Try.func17, Try.ntmps17
  go_upto_region 1 with (fail)
  refine wp_name fun W0 hW0 => ?_
  obtain ⟨q, hq⟩ : ∃ q, w.heap.size = q := ⟨_, rfl⟩
  have hW0' : W0 = (w.alloc (.cells x.arr 44)).alloc (.cells Tup.zero.arr 44) := hW0
  have hB0 : Below w.heap.size w W0 := by rw [hW0']; exact ((Below.refl _ _).alloc (Nat.le_refl _) _).alloc (by simp) _
  have hx0 : W0.heap[q]? = some (.cells x.arr 44 (0, 0)) := by rw [hW0', ← hq, Below.heap_alloc _ _ _ (by simp)]; exact heap_alloc_new w _
  have hz0 : W0.heap[q + 1]? = some (.cells Tup.zero.arr 44 (0, 0)) := by
    rw [hW0', ← hq]
    have := heap_alloc_new (w.alloc (.cells x.arr 44)) (.cells Tup.zero.arr 44)
    rwa [World.size_alloc] at this
  rw [hq]
  have c0 : W0.cell? ⟨q, 0, none⟩ = some (.int .u8 x.proto) := cell_of hx0 0
  have c1 : W0.cell? ⟨q, 1, none⟩ = some (.int .u32 x.src) := cell_of hx0 1
  have c2 : W0.cell? ⟨q, 2, none⟩ = some (.int .u32 x.dst) := cell_of hx0 2
  have c3 : W0.cell? ⟨q, 3, none⟩ = some (.int .u16 x.sp) := cell_of hx0 3
  have c4 : W0.cell? ⟨q, 4, none⟩ = some (.int .u16 x.dp) := cell_of hx0 4
  have HW := Lib.hid (And.intro hB0 (And.intro hx0 (And.intro hz0 hq)))
  unfold Fw.val Fw.arr at HF
  clear hW0 hW0' hB0 hx0 hz0 hq
  go_wp2_with fail
  refine (HF.out W0 HW.out.1).mono ?_
  rintro e V ⟨rfl, hb⟩
  obtain ⟨r, hr⟩ : ∃ r, V.heap.size = r := ⟨_, rfl⟩
  have HV := Lib.hid (And.intro hb hr)
  clear hb hr c0 c1 c2 c3 c4
  go_upto_region 2 with (fail)
  refine wp_name fun X hX => ?_
  have hX' : X = V.alloc (.cells f.arr 37) := hX
  have hbX : Below W0.heap.size W0 X := by rw [hX']; exact HV.out.1.alloc HV.out.1.size _
  have hxX : X.heap[q]? = some (.cells x.arr 44 (0, 0)) := (hbX.block _ (Array.getElem?_eq_some_iff.1 HW.out.2.1).1).trans HW.out.2.1
  have hzX : X.heap[q + 1]? = some (.cells Tup.zero.arr 44 (0, 0)) := (hbX.block _ (Array.getElem?_eq_some_iff.1 HW.out.2.2.1).1).trans HW.out.2.2.1
  have hfX : X.heap[r]? = some (.cells f.arr 37 (0, 0)) := by rw [hX', ← HV.out.2]; exact heap_alloc_new V _
  have hrq : q + 1 < r := by
    have h1 := (Array.getElem?_eq_some_iff.1 HW.out.2.2.1).1
    have h2 := HV.out.1.size
    have := HV.out.2
    omega
  rw [HV.out.2]
  have x0 : X.cell? ⟨q, 0, none⟩ = some (.int .u8 x.proto) := cell_of hxX 0
  have x1 : X.cell? ⟨q, 1, none⟩ = some (.int .u32 x.src) := cell_of hxX 1
  have x2 : X.cell? ⟨q, 2, none⟩ = some (.int .u32 x.dst) := cell_of hxX 2
  have x3 : X.cell? ⟨q, 3, none⟩ = some (.int .u16 x.sp) := cell_of hxX 3
  have x4 : X.cell? ⟨q, 4, none⟩ = some (.int .u16 x.dp) := cell_of hxX 4
  have z0 : X.cell? ⟨(q + 1), 0, none⟩ = some (.int .u8 0) := cell_of hzX 0
  have z1 : X.cell? ⟨(q + 1), 1, none⟩ = some (.int .u32 0) := cell_of hzX 1
  have z2 : X.cell? ⟨(q + 1), 2, none⟩ = some (.int .u32 0) := cell_of hzX 2
  have z3 : X.cell? ⟨(q + 1), 3, none⟩ = some (.int .u16 0) := cell_of hzX 3
  have z4 : X.cell? ⟨(q + 1), 4, none⟩ = some (.int .u16 0) := cell_of hzX 4
  have f0 : X.cell? ⟨r, 0, none⟩ = some (.int .u8 f.proto) := cell_of hfX 0
  have f1 : X.cell? ⟨r, 1, none⟩ = some (.int .u16 f.port) := cell_of hfX 1
  have f2 : X.cell? ⟨r, 2, none⟩ = some (.int .u32 f.addr) := cell_of hfX 2
  have f3 : X.cell? ⟨r, 3, none⟩ = some (.int .u16 f.dest) := cell_of hfX 3
  have fq : ∀ i, X.frozen? ⟨q, i, none⟩ = false := fun i => free_of hxX i
  have fz : ∀ i, X.frozen? ⟨q + 1, i, none⟩ = false := fun i => free_of hzX i
  have n1 : ¬ r = q := by omega
  have n2 : ¬ r = q + 1 := by omega
  have n3 : ¬ q = r := by omega
  have n4 : ¬ q + 1 = r := by omega
  have HX := Lib.hid (And.intro hbX (And.intro hxX hzX))
  clear hX hX' hbX hxX hzX hfX
  cases is with
  | false =>
    as_aux_lemma =>
      go_wp2_with fail
      refine post_name fun W hW => ?_
      have hW' : W = X.setCells (q + 1) 0 x.arr.toList := hW
      have hh2 : W.heap[q + 1]? = some (.cells x.arr 44 (0, 0)) := by rw [hW']; exact store_all HX.out.2.2 x.arr rfl
      refine bodyPost_ret (res17 hh2 _ false rfl rfl) rfl ⟨rfl, ?_⟩
      rw [hW']
      exact grown_bel (HW.out.1.trans (HX.out.1.mono HW.out.1.size)) (grown_setCells _ _ _ _) (by rintro j e; cases e; have := HW.out.2.2.2; omega)
  | true =>
    as_aux_lemma =>
      go_wp2_with fail
      go_region_held3 (fun w' => w'.cell? ⟨r, 2, none⟩ = some (.int .u32 f.addr) ∧ w'.cell? ⟨r, 3, none⟩ = some (.int .u16 f.dest)) (go_keep) (fail)
      go_upto_region 4 with (fail)
      refine wp_name fun Y hY => ?_
      have hY' : Y = ((X.setCell ⟨q, 2, none⟩ (.int .u32 f.addr)).setCell ⟨q, 4, none⟩ (.int .u16 f.dest)).drew := hY
      have hg : X.grownBy Y (some q) := by rw [hY']; exact grown_drew (grown_set (grown_setCell _ _ _ _))
      have hxY : Y.heap[q]? = some (.cells (inT x f true).arr 44 (0, 0)) := by
        rw [hY', show (((X.setCell ⟨q, 2, none⟩ (.int .u32 f.addr)).setCell ⟨q, 4, none⟩ (.int .u16 f.dest)).drew).heap[q]? = ((X.setCell ⟨q, 2, none⟩ (.int .u32 f.addr)).setCell ⟨q, 4, none⟩ (.int .u16 f.dest)).heap[q]? from rfl, heap_set (heap_set HX.out.2.1 _)]
        rfl
      have hzY : Y.heap[q + 1]? = some (.cells Tup.zero.arr 44 (0, 0)) := (hg.block _ (Array.getElem?_eq_some_iff.1 HX.out.2.2).1 (by simp)).trans HX.out.2.2
      have y0 : Y.cell? ⟨q, 0, none⟩ = some (.int .u8 x.proto) := cell_of hxY 0
      have y1 : Y.cell? ⟨q, 1, none⟩ = some (.int .u32 x.src) := cell_of hxY 1
      have y2 : Y.cell? ⟨q, 2, none⟩ = some (.int .u32 f.addr) := cell_of hxY 2
      have y3 : Y.cell? ⟨q, 3, none⟩ = some (.int .u16 x.sp) := cell_of hxY 3
      have y4 : Y.cell? ⟨q, 4, none⟩ = some (.int .u16 f.dest) := cell_of hxY 4
      have v0 : Y.cell? ⟨(q + 1), 0, none⟩ = some (.int .u8 0) := cell_of hzY 0
      have v1 : Y.cell? ⟨(q + 1), 1, none⟩ = some (.int .u32 0) := cell_of hzY 1
      have v2 : Y.cell? ⟨(q + 1), 2, none⟩ = some (.int .u32 0) := cell_of hzY 2
      have v3 : Y.cell? ⟨(q + 1), 3, none⟩ = some (.int .u16 0) := cell_of hzY 3
      have v4 : Y.cell? ⟨(q + 1), 4, none⟩ = some (.int .u16 0) := cell_of hzY 4
      have fy : ∀ i, Y.frozen? ⟨q + 1, i, none⟩ = false := fun i => free_of hzY i
      have HY := Lib.hid (And.intro hg hzY)
      clear hY hY' hg hxY hzY x0 x1 x2 x3 x4 z0 z1 z2 z3 z4 fq fz
      go_wp2_with fail
      refine post_name fun W hW => ?_
      have hW' : W = Y.setCells (q + 1) 0 (inT x f true).arr.toList := hW
      have hh2 : W.heap[q + 1]? = some (.cells (inT x f true).arr 44 (0, 0)) := by rw [hW']; exact store_all HY.out.2 _ rfl
      refine bodyPost_ret (res17 hh2 _ true rfl rfl) rfl ⟨rfl, ?_⟩
      rw [hW']
      exact grown_bel (grown_bel (HW.out.1.trans (HX.out.1.mono HW.out.1.size)) HY.out.1 (by rintro j e; cases e; have := HW.out.2.2.2; omega)) (grown_setCells _ _ _ _) (by rintro j e; cases e; have := HW.out.2.2.2; omega)
theorem inward_any {w : World} {g b nn : Nat} {L : List Fw} (h : Tb w g b nn L) (x : Tup) (hx : x.Ok) :
    Calls Try.prog 17 #[.pointer (some ⟨g, 0, none⟩), x.val] w fun e w' => e = .returned (.tuple #[(inT x (getF L ⟨x.proto, x.dp⟩) (findD L ⟨x.proto, x.dp⟩).isSome).val, .bool (findD L ⟨x.proto, x.dp⟩).isSome]) ∧ Below w.heap.size w w' :=
  inward_of _ x _ _ w (.inr ⟨g, rfl⟩) fun W hW => find_any (h.below hW) x.proto x.dp ⟨hx.1, hx.2.2.2.2⟩
theorem inward_nil (x : Tup) (w : World) :
    Calls Try.prog 17 #[.pointer none, x.val] w fun e w' => e = .returned (.tuple #[x.val, .bool false]) ∧ Below w.heap.size w w' :=
  inward_of _ x Fw.zero false w (.inl rfl) fun W hW => find_nil x.proto x.dp W
end Go.Proofs.Ythlohgldcnicbaa
