/- Outward. -/
import Derived.Test.YthlohgldcnicbaaInw
set_option linter.unusedVariables false
namespace Go.Proofs.Ythlohgldcnicbaa
open Go.RowKit Go.Deep Go.BigFrame
attribute [local go_sem ↓] Go.wp_at_zero Go.wp_at_succ
/-- A forward that leads to where a tuple comes from. -/
def leads (x : Tup) (f : Fw) : Prop := f.proto = x.proto ∧ f.addr = x.src ∧ f.dest = x.sp
instance (x : Tup) (f : Fw) : Decidable (leads x f) := by unfold leads; infer_instance
def outO (S : List Fw) (x : Tup) : Option Fw := S.find? (fun f => decide (leads x f))
def outT (S : List Fw) (x : Tup) (outer : Int) : Tup := match outO S x with | some f => { x with src := outer, sp := f.port } | none => x
theorem outO_hit {S : List Fw} {x : Tup} {k : Nat} {f : Fw} (hf : S[k]? = some f) (hd : leads x f) (hn : ∀ j g, j < k → S[j]? = some g → ¬ leads x g) : outO S x = some f := by
  unfold outO
  rw [List.find?_eq_some_iff_getElem]
  obtain ⟨hk, e⟩ := List.getElem?_eq_some_iff.1 hf
  refine ⟨by simp [hd], k, hk, e, fun j hj => ?_⟩
  have := hn j _ hj (List.getElem?_eq_getElem (by omega))
  simpa using this
theorem outO_none {S : List Fw} {x : Tup} (hn : ∀ j g, j < S.length → S[j]? = some g → ¬ leads x g) : outO S x = none := by
  unfold outO
  rw [List.find?_eq_none]
  intro g hg
  obtain ⟨j, hj, e⟩ := List.getElem_of_mem hg
  simpa using hn j g hj (by rw [List.getElem?_eq_getElem hj, e])
theorem srt_exists {L : List Fw} (h : Fws L) : ∃ S, Srt L S := by
  let le : Fw → Fw → Bool := fun a b => decide (¬ ltF b a)
  have tr : ∀ a b c : Fw, le a b = true → le b c = true → le a c = true := fun a b c h1 h2 => by simp only [le, decide_eq_true_eq] at *; unfold ltF at *; omega
  have tt : ∀ a b : Fw, (le a b || le b a) = true := fun a b => by simp only [le, Bool.or_eq_true, decide_eq_true_eq]; unfold ltF; omega
  refine ⟨L.mergeSort le, List.mergeSort_perm L le, ?_⟩
  have hp := List.pairwise_mergeSort tr tt L
  have hd : (L.mergeSort le).Pairwise (fun f g => f.door ≠ g.door) := ((List.mergeSort_perm L le).pairwise_iff (fun {a b} q => q.symm)).2 h.dis
  refine (hp.and hd).imp (fun {a b} q => ?_)
  have h1 : ¬ ltF b a := by simpa only [le, decide_eq_true_eq] using q.1
  rcases ltF_tri q.2 with r | r
  · exact r
  · exact absurd r h1
theorem res19 {x : Tup} {W : World} {q : Nat} (hh : W.heap[q]? = some (.cells x.arr 44 (0, 0))) (t : Array Value) (b : Bool) (h4 : t.getD 6 undef = .pointer (some ⟨q, 0, none⟩)) (h5 : t.getD 7 undef = .bool b) :
    (results Try.f19 t).run Try.prog W = .ok (.tuple #[x.val, .bool b]) W := by
  have u0 : W.cell? ⟨q, 0, none⟩ = some (.int .u8 x.proto) := cell_of hh 0
  have u1 : W.cell? ⟨q, 1, none⟩ = some (.int .u32 x.src) := cell_of hh 1
  have u2 : W.cell? ⟨q, 2, none⟩ = some (.int .u32 x.dst) := cell_of hh 2
  have u3 : W.cell? ⟨q, 3, none⟩ = some (.int .u16 x.sp) := cell_of hh 3
  have u4 : W.cell? ⟨q, 4, none⟩ = some (.int .u16 x.dp) := cell_of hh 4
  simp only [Array.getD_eq_getD_getElem?] at h4 h5
  simp [results, Try.results19, go_sem, h4, h5, u0, u1, u2, u3, u4]
  rfl
set_option maxHeartbeats 3200000
set_option maxRecDepth 100000
theorem outward_of (p : Value) (S : List Fw) (hlm : S.length ≤ 1000) (x : Tup) (outer : Int) (w : World)
    (hf : ∀ W, Below w.heap.size w W → Calls Try.prog 12 #[p] W fun e w' => ∃ A c, e = .returned (.slice A S.length c) ∧ FwsAt w' A S ∧ Below W.heap.size W w') :
    Calls Try.prog 19 #[p, x.val, .int .u32 outer] w fun e w' => e = .returned (.tuple #[(outT S x outer).val, .bool (outO S x).isSome]) ∧ Below w.heap.size w w' := by
  have HF := Lib.hid hf
  obtain ⟨n, hn⟩ : ∃ n, S.length = n := ⟨_, rfl⟩
  rw [hn] at HF hlm
  have HN := Lib.hid hn
  clear hf hn
  unfold Tup.val Tup.arr
  go_enter Try.func19, Try.ntmps19
  go_upto_region 1 with (fail)
  refine wp_name fun W0 hW0 => ?_
  obtain ⟨q, hq⟩ : ∃ q, w.heap.size = q := ⟨_, rfl⟩
  have hW0' : W0 = (w.alloc (.cells x.arr 44)).alloc (.cells Tup.zero.arr 44) := hW0
  have hB0 : Below w.heap.size w W0 := by rw [hW0']; exact ((Below.refl _ _).alloc (Nat.le_refl _) _).alloc (by simp) _
  have hx0 : W0.heap[q]? = some (.cells x.arr 44 (0, 0)) := by rw [hW0', ← hq, Below.heap_alloc _ _ _ (by simp)]; exact heap_alloc_new w _
  have hz0 : W0.heap[q + 1]? = some (.cells Tup.zero.arr 44 (0, 0)) := by
    rw [hW0', ← hq]
    have := heap_alloc_new (w.alloc (.cells x.arr 44)) (.cells Tup.zero.arr 44)
    rwa [World.size_alloc] at this
  rw [hq]
  have HW := Lib.hid (And.intro hB0 (And.intro hx0 (And.intro hz0 hq)))
  clear hW0 hW0' hB0 hx0 hz0 hq
  go_wp2_with fail
  refine (HF.out W0 HW.out.1).mono ?_
  rintro e V ⟨A, c, rfl, hfs, hb⟩
  have HVV := Lib.hid (And.intro hfs hb)
  clear hfs hb
  go_wp2_with fail
  go_loopw [13] (fun v13 wr => ∃ k : Nat, v13 = .int .i64 k ∧ k ≤ n ∧ Below V.heap.size V wr ∧ ∀ (j : Nat) (g : Fw), j < k → S[j]? = some g → ¬ leads x g) (fun v13 _ => n - (intOf v13).toNat)
  case atStart => exact ⟨0, rfl, Nat.zero_le _, Below.refl _ _, fun j g hj => by omega⟩
  case round =>
    obtain ⟨k, rfl, hk, hbr, hnot⟩ := hrel
    have HR := Lib.hid (And.intro hbr hnot)
    have hb0 : Below W0.heap.size W0 wr := HVV.out.2.trans (hbr.mono HVV.out.2.size)
    have hxr : wr.heap[q]? = some (.cells x.arr 44 (0, 0)) := (hb0.block _ (Array.getElem?_eq_some_iff.1 HW.out.2.1).1).trans HW.out.2.1
    have hzr : wr.heap[q + 1]? = some (.cells Tup.zero.arr 44 (0, 0)) := (hb0.block _ (Array.getElem?_eq_some_iff.1 HW.out.2.2.1).1).trans HW.out.2.2.1
    have HR0 := Lib.hid (And.intro hb0 (And.intro hxr hzr))
    clear hbr hnot hb0
    by_cases hlt : k < n
    · obtain ⟨f, hf⟩ : ∃ f, S[k]? = some f := ⟨S[k]'(by have := HN.out; omega), List.getElem?_eq_getElem _⟩
      obtain ⟨fb, fo, rfl, hbl, hat⟩ := (HVV.out.1.below HR.out.1) k f hf
      obtain ⟨k0, k1, k2, k3⟩ := hat
      have HFK := Lib.hid hf
      obtain ⟨r, hr⟩ : ∃ r, wr.heap.size = r := ⟨_, rfl⟩
      have HRR := Lib.hid hr
      clear hf hbl hr hxr hzr
      go_upto_region 4 with (fail)
      refine wp_name fun X hX => ?_
      have hX' : X = wr.alloc (.cells f.arr 37) := hX
      have hbX : Below wr.heap.size wr X := by rw [hX']; exact (Below.refl _ _).alloc (Nat.le_refl _) _
      have hxX : X.heap[q]? = some (.cells x.arr 44 (0, 0)) := (hbX.block _ (Array.getElem?_eq_some_iff.1 HR0.out.2.1).1).trans HR0.out.2.1
      have hzX : X.heap[q + 1]? = some (.cells Tup.zero.arr 44 (0, 0)) := (hbX.block _ (Array.getElem?_eq_some_iff.1 HR0.out.2.2).1).trans HR0.out.2.2
      have hfX : X.heap[r]? = some (.cells f.arr 37 (0, 0)) := by rw [hX', ← HRR.out]; exact heap_alloc_new wr _
      have hrq : q + 1 < r := by
        have h1 := (Array.getElem?_eq_some_iff.1 HR0.out.2.2).1
        have := HRR.out
        omega
      rw [HRR.out]
      have x0 : X.cell? ⟨q, 0, none⟩ = some (.int .u8 x.proto) := cell_of hxX 0
      have x1 : X.cell? ⟨q, 1, none⟩ = some (.int .u32 x.src) := cell_of hxX 1
      have x2 : X.cell? ⟨q, 2, none⟩ = some (.int .u32 x.dst) := cell_of hxX 2
      have x3 : X.cell? ⟨q, 3, none⟩ = some (.int .u16 x.sp) := cell_of hxX 3
      have x4 : X.cell? ⟨q, 4, none⟩ = some (.int .u16 x.dp) := cell_of hxX 4
      have f0 : X.cell? ⟨r, 0, none⟩ = some (.int .u8 f.proto) := cell_of hfX 0
      have f1 : X.cell? ⟨r, 1, none⟩ = some (.int .u16 f.port) := cell_of hfX 1
      have f2 : X.cell? ⟨r, 2, none⟩ = some (.int .u32 f.addr) := cell_of hfX 2
      have f3 : X.cell? ⟨r, 3, none⟩ = some (.int .u16 f.dest) := cell_of hfX 3
      have fq : ∀ i, X.frozen? ⟨q, i, none⟩ = false := fun i => free_of hxX i
      have n1 : ¬ r = q := by omega
      have n3 : ¬ q = r := by omega
      have HX := Lib.hid (And.intro hbX (And.intro hxX hzX))
      have HV := Lib.hid (And.intro trivial hbX)
      clear hX hX' hbX hxX hzX hfX k0 k1 k2 k3
      by_cases h1 : f.proto = x.proto
      · have s1 : (f.proto == x.proto) = true := by simpa using h1
        by_cases h2 : f.addr = x.src
        · have s2 : (f.addr == x.src) = true := by simpa using h2
          by_cases h3 : f.dest = x.sp
          · have s3 : (f.dest == x.sp) = true := by simpa using h3
            have hit : outO S x = some f := outO_hit HFK.out ⟨h1, h2, h3⟩ HR.out.2
            have hout : outT S x outer = { x with src := outer, sp := f.port } := by unfold outT; rw [hit]
            have HIT := Lib.hid (And.intro hit hout)
            clear h1 h2 h3 hit hout
            as_aux_lemma =>
              go_wp2_with fail
              go_region_held3 (fun w' => w'.cell? ⟨r, 1, none⟩ = some (.int .u16 f.port)) (go_keep) (fail)
              go_upto_region 6 with (fail)
              refine wp_name fun Y hY => ?_
              have hY' : Y = ((X.setCell ⟨q, 1, none⟩ (.int .u32 outer)).setCell ⟨q, 3, none⟩ (.int .u16 f.port)).drew := hY
              have hg : X.grownBy Y (some q) := by rw [hY']; exact grown_drew (grown_set (grown_setCell _ _ _ _))
              have hxY : Y.heap[q]? = some (.cells ({ x with src := outer, sp := f.port } : Tup).arr 44 (0, 0)) := by
                rw [hY', show (((X.setCell ⟨q, 1, none⟩ (.int .u32 outer)).setCell ⟨q, 3, none⟩ (.int .u16 f.port)).drew).heap[q]? = ((X.setCell ⟨q, 1, none⟩ (.int .u32 outer)).setCell ⟨q, 3, none⟩ (.int .u16 f.port)).heap[q]? from rfl, heap_set (heap_set HX.out.2.1 _)]
                rfl
              have hzY : Y.heap[q + 1]? = some (.cells Tup.zero.arr 44 (0, 0)) := (hg.block _ (Array.getElem?_eq_some_iff.1 HX.out.2.2).1 (by simp)).trans HX.out.2.2
              have y0 : Y.cell? ⟨q, 0, none⟩ = some (.int .u8 x.proto) := cell_of hxY 0
              have y1 : Y.cell? ⟨q, 1, none⟩ = some (.int .u32 outer) := cell_of hxY 1
              have y2 : Y.cell? ⟨q, 2, none⟩ = some (.int .u32 x.dst) := cell_of hxY 2
              have y3 : Y.cell? ⟨q, 3, none⟩ = some (.int .u16 f.port) := cell_of hxY 3
              have y4 : Y.cell? ⟨q, 4, none⟩ = some (.int .u16 x.dp) := cell_of hxY 4
              have v0 : Y.cell? ⟨(q + 1), 0, none⟩ = some (.int .u8 0) := cell_of hzY 0
              have v1 : Y.cell? ⟨(q + 1), 1, none⟩ = some (.int .u32 0) := cell_of hzY 1
              have v2 : Y.cell? ⟨(q + 1), 2, none⟩ = some (.int .u32 0) := cell_of hzY 2
              have v3 : Y.cell? ⟨(q + 1), 3, none⟩ = some (.int .u16 0) := cell_of hzY 3
              have v4 : Y.cell? ⟨(q + 1), 4, none⟩ = some (.int .u16 0) := cell_of hzY 4
              have fy : ∀ i, Y.frozen? ⟨q + 1, i, none⟩ = false := fun i => free_of hzY i
              have HY := Lib.hid (And.intro hg hzY)
              clear hY hY' hg hxY hzY x0 x1 x2 x3 x4 fq
              go_wp2_with fail
              refine post_name fun W hW => ?_
              have hW' : W = Y.setCells (q + 1) 0 ({ x with src := outer, sp := f.port } : Tup).arr.toList := hW
              have hh2 : W.heap[q + 1]? = some (.cells ({ x with src := outer, sp := f.port } : Tup).arr 44 (0, 0)) := by rw [hW']; exact store_all HY.out.2 _ rfl
              refine bodyPost_ret (res19 hh2 _ true rfl rfl) rfl ⟨by rw [HIT.out.1, HIT.out.2]; rfl, ?_⟩
              rw [hW']
              exact grown_bel (grown_bel (HW.out.1.trans ((HR0.out.1.trans (HX.out.1.mono HR0.out.1.size)).mono HW.out.1.size)) HY.out.1 (by rintro j e; cases e; have := HW.out.2.2.2; omega)) (grown_setCells _ _ _ _) (by rintro j e; cases e; have := HW.out.2.2.2; omega)
          · have s3 : (f.dest == x.sp) = false := by simpa using h3
            have hno : ¬ leads x f := fun e => h3 e.2.2
            clear h1 h2 h3
            as_aux_lemma =>
              go_wp2_with fail
              go_roundw
              case rel =>
                refine ⟨k + 1, by simp, by omega, HR.out.1.trans (HV.out.2.mono HR.out.1.size), fun j g hj hg => ?_⟩
                rcases Nat.lt_or_ge j k with r | r
                · exact HR.out.2 j g r hg
                · obtain rfl : j = k := by omega
                  rw [HFK.out] at hg
                  cases hg
                  exact hno
              case measure => simp [intOf]; omega
        · have s2 : (f.addr == x.src) = false := by simpa using h2
          have hno : ¬ leads x f := fun e => h2 e.2.1
          clear h1 h2
          as_aux_lemma =>
            go_wp2_with fail
            go_roundw
            case rel =>
              refine ⟨k + 1, by simp, by omega, HR.out.1.trans (HV.out.2.mono HR.out.1.size), fun j g hj hg => ?_⟩
              rcases Nat.lt_or_ge j k with r | r
              · exact HR.out.2 j g r hg
              · obtain rfl : j = k := by omega
                rw [HFK.out] at hg
                cases hg
                exact hno
            case measure => simp [intOf]; omega
      · have s1 : (f.proto == x.proto) = false := by simpa using h1
        have hno : ¬ leads x f := fun e => h1 e.1
        clear h1
        as_aux_lemma =>
          go_wp2_with fail
          go_roundw
          case rel =>
            refine ⟨k + 1, by simp, by omega, HR.out.1.trans (HV.out.2.mono HR.out.1.size), fun j g hj hg => ?_⟩
            rcases Nat.lt_or_ge j k with r | r
            · exact HR.out.2 j g r hg
            · obtain rfl : j = k := by omega
              rw [HFK.out] at hg
              cases hg
              exact hno
          case measure => simp [intOf]; omega
    · obtain rfl : k = n := by omega
      have hnn : outO S x = none := outO_none (by rw [HN.out]; exact HR.out.2)
      have hout : outT S x outer = x := by unfold outT; rw [hnn]
      have HIT := Lib.hid (And.intro hnn hout)
      have e0 : wr.cell? ⟨q, 0, none⟩ = some (.int .u8 x.proto) := cell_of hxr 0
      have e1 : wr.cell? ⟨q, 1, none⟩ = some (.int .u32 x.src) := cell_of hxr 1
      have e2 : wr.cell? ⟨q, 2, none⟩ = some (.int .u32 x.dst) := cell_of hxr 2
      have e3 : wr.cell? ⟨q, 3, none⟩ = some (.int .u16 x.sp) := cell_of hxr 3
      have e4 : wr.cell? ⟨q, 4, none⟩ = some (.int .u16 x.dp) := cell_of hxr 4
      have z0 : wr.cell? ⟨(q + 1), 0, none⟩ = some (.int .u8 0) := cell_of hzr 0
      have z1 : wr.cell? ⟨(q + 1), 1, none⟩ = some (.int .u32 0) := cell_of hzr 1
      have z2 : wr.cell? ⟨(q + 1), 2, none⟩ = some (.int .u32 0) := cell_of hzr 2
      have z3 : wr.cell? ⟨(q + 1), 3, none⟩ = some (.int .u16 0) := cell_of hzr 3
      have z4 : wr.cell? ⟨(q + 1), 4, none⟩ = some (.int .u16 0) := cell_of hzr 4
      have fz : ∀ i, wr.frozen? ⟨q + 1, i, none⟩ = false := fun i => free_of hzr i
      clear hnn hout hxr hzr
      as_aux_lemma =>
        go_wp2_with fail
        refine post_name fun W hW => ?_
        have hW' : W = wr.setCells (q + 1) 0 x.arr.toList := hW
        have hh2 : W.heap[q + 1]? = some (.cells x.arr 44 (0, 0)) := by rw [hW']; exact store_all HR0.out.2.2 _ rfl
        refine bodyPost_ret (res19 hh2 _ false rfl rfl) rfl ⟨by rw [HIT.out.1, HIT.out.2]; rfl, ?_⟩
        rw [hW']
        exact grown_bel (HW.out.1.trans (HR0.out.1.mono HW.out.1.size)) (grown_setCells _ _ _ _) (by rintro j e; cases e; have := HW.out.2.2.2; omega)
theorem outward_any {w : World} {g b nn : Nat} {L S : List Fw} (h : Tb w g b nn L) (hS : Srt L S) (x : Tup) (outer : Int) :
    Calls Try.prog 19 #[.pointer (some ⟨g, 0, none⟩), x.val, .int .u32 outer] w fun e w' => e = .returned (.tuple #[(outT S x outer).val, .bool (outO S x).isSome]) ∧ Below w.heap.size w w' :=
  outward_of _ S (by rw [hS.perm.length_eq]; have := h.len; omega) x outer w fun W hW => (all_any (h.below hW)).mono fun e w' ⟨A, c, S', a1, a2, a3, a4⟩ => by
    obtain rfl := a2.uniq hS
    exact ⟨A, c, a1, FwsAt.own a3, a4⟩
theorem outward_nil (x : Tup) (outer : Int) (w : World) :
    Calls Try.prog 19 #[.pointer none, x.val, .int .u32 outer] w fun e w' => e = .returned (.tuple #[x.val, .bool false]) ∧ Below w.heap.size w w' :=
  outward_of _ [] (by decide) x outer w fun W hW => (all_nil W).mono fun e w' ⟨a1, a2⟩ => ⟨none, 0, a1, fun i f hf => by simp at hf, by rw [← a2]; exact Below.refl _ _⟩
end Go.Proofs.Ythlohgldcnicbaa
