/- The chapter's rows. -/
import Derived.Test.YthlohgldcnicbaaRMay
import Derived.Deep.WholeRow
import Derived.Deep.DeepCutAuto
set_option linter.unusedVariables false
namespace Go.Proofs.Ythlohgldcnicbaa
open Go.RowKit Go.Deep Go.BigFrame
attribute [local go_sem ↓] Go.wp_at_zero Go.wp_at_succ
def cfg0 : Cfg := { inn := 167772160, mask := 4278190080, outr := 0, low := 1000, high := 2000, quar := 0, fls := 0, A7 := none, n7 := 0, c7 := 0, sniff := 0, mss := 0, scale := 0, sack := false, ky := 0, A13 := none, n13 := 0, c13 := 0, A14 := none, n14 := 0, c14 := 0, rto := 0, tries := 0, idle := 0, wait := 0 }
theorem cfg0_ok : cfg0.Ok := by unfold Cfg.Ok cfg0; decide
def cfgz : Cfg := { inn := 0, mask := 0, outr := 0, low := 0, high := 0, quar := 0, fls := 0, A7 := none, n7 := 0, c7 := 0, sniff := 0, mss := 0, scale := 0, sack := false, ky := 0, A13 := none, n13 := 0, c13 := 0, A14 := none, n14 := 0, c14 := 0, rto := 0, tries := 0, idle := 0, wait := 0 }
theorem wpList_store_at {P : Program} (w : World) {ops : Array Oper} {rest : List Oper} {o : Oper} {a : Act} {Q : Exit → Act → World → Prop} (t : TypeId) (x y : Operand)
    (ho : o.op = .store t x y) (hw : Region.wanted o (yielded ops a.tmps) = true) (w' : World) (hr : (Instr.storeAt t (a.eval x) (a.eval y)).run P w = .ok () w') (h : wpList P ops Q rest (a.put o.dst undef) w') : wpList P ops Q (o :: rest) a w :=
  wpList_want hw fun K hK => by
    unfold Oper.wp execOp
    simp only [ho, Sem.run_bind, Sem.run_pure, Result.andThen_ok, hr]
    exact hK _ _ h
theorem store29 (w : World) (c c' : Cfg) : (Instr.storeAt 29 (.pointer (some ⟨w.heap.size, 0, none⟩)) c'.val).run Try.prog (w.alloc (.cells c.arr 29)) = .ok () (w.alloc (.cells c'.arr 29)) :=
  run_storeAt_new w 29 c.arr c'.arr (by kernel_rfl) rfl (by simp [Cfg.arr, Value.oneCell'])
set_option maxHeartbeats 1600000
set_option maxRecDepth 100000
theorem config_any (w : World) : Calls Try.prog 22 #[] w fun e w' => e = .returned cfg0.val ∧ Below w.heap.size w w' := by
  have hB : ∀ o, Below w.heap.size w (w.alloc o) := fun o => (Below.refl w.heap.size w).alloc (Nat.le_refl _) o
  have HST := Lib.hid (store29 w cfgz cfg0)
  unfold Cfg.val Cfg.arr cfg0 cfgz at HST
  go_enter Try.func22, Try.ntmps22
  go_wp2_with (refine wpList_store_at _ 29 _ _ rfl rfl _ (by exact HST.out) ?_)
  refine post_name fun W hW => ?_
  have hW' : W = w.alloc (.cells cfg0.arr 29) := hW
  have hh : W.heap[w.heap.size]? = some (.cells cfg0.arr 29 (0, 0)) := by rw [hW']; exact heap_alloc_new w _
  clear hW
  refine bodyPost_ret (results_cell_row Try.results22 _ _ _ _ _ _ _ rfl hh Try.underlying29 rfl (by kernel_rfl)) rfl ⟨rfl, by rw [hW']; exact hB _⟩
def fa : Fw := ⟨6, 80, 167772165, 8080⟩
def fb : Fw := ⟨17, 80, 167772165, 53⟩
def fpool : Fw := ⟨6, 1500, 167772165, 8080⟩
def fecho : Fw := ⟨1, 80, 167772165, 8080⟩
def fout : Fw := ⟨6, 80, 184549381, 8080⟩
theorem may1 : mayF cfg0 [fa, fb] = true := by kernel_rfl
theorem may2 : mayF cfg0 [fpool] = false := by kernel_rfl
theorem may3 : mayF cfg0 [fecho] = false := by kernel_rfl
theorem may4 : mayF cfg0 [fout] = false := by kernel_rfl
theorem mayc (Z : World) : Calls Try.prog 7 #[cfg0.val, .slice (some ⟨Z.heap.size, 0, none⟩) 2 2] (Z.alloc (.cells (fa.arr ++ fb.arr) 37)) fun e w' => e = .returned (.bool true) ∧ Below Z.heap.size Z w' := by
  have hh := heap_alloc_new Z (.cells (fa.arr ++ fb.arr) 37)
  have h := may_any cfg0_ok (some ⟨Z.heap.size, 0, none⟩) 2 2 [fa, fb] (Z.alloc (.cells (fa.arr ++ fb.arr) 37)) rfl (fun i f hf => by
    have hi := (List.getElem?_eq_some_iff.1 hf).1
    have hi2 : i = 0 ∨ i = 1 := by simp at hi; omega
    rcases hi2 with rfl | rfl
    · simp at hf
      subst hf
      exact ⟨_, 0, rfl, by simp, ⟨cell_of hh 0, cell_of hh 1, cell_of hh 2, cell_of hh 3⟩⟩
    · simp at hf
      subst hf
      exact ⟨_, 0, rfl, by simp, ⟨cell_of hh 4, cell_of hh 5, cell_of hh 6, cell_of hh 7⟩⟩) (by intro f hf; simp at hf; rcases hf with rfl | rfl <;> (unfold Fw.Ok; decide)) (by decide)
  rw [may1] at h
  exact h.mono fun e w' ⟨a1, a2⟩ => ⟨a1, ((Below.refl _ _).alloc (Nat.le_refl _) _).trans (a2.mono (by simp))⟩
theorem may1c (f : Fw) (hf : f.Ok) (hm : mayF cfg0 [f] = false) (Z : World) : Calls Try.prog 7 #[cfg0.val, .slice (some ⟨Z.heap.size, 0, none⟩) 1 1] (Z.alloc (.cells f.arr 37)) fun e w' => e = .returned (.bool false) ∧ Below Z.heap.size Z w' := by
  have h := may_any cfg0_ok (some ⟨Z.heap.size, 0, none⟩) 1 1 [f] (Z.alloc (.cells f.arr 37)) rfl (fws_one (heap_alloc_new _ _)) (by intro g hg; simp at hg; rw [hg]; exact hf) (by decide)
  rw [hm] at h
  exact h.mono fun e w' ⟨a1, a2⟩ => ⟨a1, ((Below.refl _ _).alloc (Nat.le_refl _) _).trans (a2.mono (by simp))⟩
theorem wakes_any (w : World) : Calls Try.prog 8 #[] w fun e w' => e = .returned (.bool true) ∧ Below w.heap.size w w' := by
  have HCF := Lib.hid config_any
  obtain ⟨q, hq⟩ : ∃ q, w.heap.size = q := ⟨_, rfl⟩
  have HQ := Lib.hid hq
  go_enter Try.func8, Try.ntmps8
  go_wp2_with fail
  refine wp_name fun W hW => ?_
  have hW' : W = (w.alloc (.cells fa.arr 37)).alloc (.cells fb.arr 37) := hW
  have hs : W.heap.size = q + 2 := by rw [hW', ← hq]; simp
  have h1 : W.heap[q]? = some (.cells fa.arr 37 (0, 0)) := by rw [hW', ← hq, Below.heap_alloc _ _ _ (by simp)]; exact heap_alloc_new w _
  have h2 : W.heap[q + 1]? = some (.cells fb.arr 37 (0, 0)) := by
    rw [hW', ← hq]
    have := heap_alloc_new (w.alloc (.cells fa.arr 37)) (.cells fb.arr 37)
    rwa [World.size_alloc] at this
  have hb : Below w.heap.size w W := by rw [hW']; exact ((Below.refl _ _).alloc (Nat.le_refl _) _).alloc (by simp) _
  have a0 : W.cell? ⟨q, 0, none⟩ = some (.int .u8 6) := cell_of h1 0
  have a1 : W.cell? ⟨q, 1, none⟩ = some (.int .u16 80) := cell_of h1 1
  have a2 : W.cell? ⟨q, 2, none⟩ = some (.int .u32 167772165) := cell_of h1 2
  have a3 : W.cell? ⟨q, 3, none⟩ = some (.int .u16 8080) := cell_of h1 3
  have HW := Lib.hid (And.intro h1 (And.intro h2 (And.intro hb hs)))
  try rw [HQ.out]
  clear hW hW' h1 h2 hb hs
  go_cut [3, 4, 5] (fun v3 v4 v5 wx => ∃ b3 b4 b5 : Nat, v3 = .pointer (some ⟨b3, 0, none⟩) ∧ v4 = .pointer (some ⟨b4, 0, none⟩) ∧ v5 = .pointer (some ⟨b5, 0, none⟩) ∧ b3 ≠ b4 ∧ b3 ≠ b5 ∧ b4 ≠ b5 ∧ W.heap.size ≤ b3 ∧ W.heap.size ≤ b4 ∧ W.heap.size ≤ b5 ∧
    wx.heap[b3]? = some (.cells fa.arr 37 (0, 0)) ∧ wx.heap[b4]? = some (.cells fa.arr 37 (0, 0)) ∧ wx.heap[b5]? = some (.cells fa.arr 37 (0, 0)) ∧ Below W.heap.size W wx)
  case first =>
    have hn : ∀ i, W.heap.size ≤ i → i < W.heap.size + 3 → ((((W.alloc (.cells fa.arr 37)).alloc (.cells fa.arr 37)).alloc (.cells fa.arr 37)).drew).heap[i]? = some (.cells fa.arr 37 (0, 0)) := by
      intro i h1 h2
      show (((W.alloc (.cells fa.arr 37)).alloc (.cells fa.arr 37)).alloc (.cells fa.arr 37)).heap[i]? = _
      rcases (show i = W.heap.size ∨ i = W.heap.size + 1 ∨ i = W.heap.size + 2 by omega) with rfl | rfl | rfl
      · rw [Below.heap_alloc _ _ _ (by simp; omega), Below.heap_alloc _ _ _ (by simp)]
        exact heap_alloc_new W _
      · rw [Below.heap_alloc _ _ _ (by simp)]
        have := heap_alloc_new (W.alloc (.cells fa.arr 37)) (.cells fa.arr 37)
        rwa [World.size_alloc] at this
      · have := heap_alloc_new ((W.alloc (.cells fa.arr 37)).alloc (.cells fa.arr 37)) (.cells fa.arr 37)
        rwa [World.size_alloc, World.size_alloc] at this
    have HNB : Hid ((∀ i, W.heap.size ≤ i → i < W.heap.size + 3 → ((((W.alloc (.cells fa.arr 37)).alloc (.cells fa.arr 37)).alloc (.cells fa.arr 37)).drew).heap[i]? = some (.cells fa.arr 37 (0, 0))) ∧ Below W.heap.size W ((((W.alloc (.cells fa.arr 37)).alloc (.cells fa.arr 37)).alloc (.cells fa.arr 37)).drew)) :=
      Lib.hid ⟨hn, ((((Below.refl _ _).alloc (Nat.le_refl _) _).alloc (by simp) _).alloc (by simp; omega) _).drew⟩
    clear hn
    have HK : Hid (∀ X, Below W.heap.size W X → (X.cell? ⟨q, 0, none⟩ = some (.int .u8 6) ∧ X.cell? ⟨q, 1, none⟩ = some (.int .u16 80) ∧ X.cell? ⟨q, 2, none⟩ = some (.int .u32 167772165) ∧ X.cell? ⟨q, 3, none⟩ = some (.int .u16 8080))) := Lib.hid (fun X hX => by
      have hh := (hX.block _ (Array.getElem?_eq_some_iff.1 HW.out.1).1).trans HW.out.1
      exact ⟨cell_of hh 0, cell_of hh 1, cell_of hh 2, cell_of hh 3⟩)
    go_region_held3 (fun w' => w'.cell? ⟨q, 0, none⟩ = some (.int .u8 6) ∧ w'.cell? ⟨q, 1, none⟩ = some (.int .u16 80) ∧ w'.cell? ⟨q, 2, none⟩ = some (.int .u32 167772165) ∧ w'.cell? ⟨q, 3, none⟩ = some (.int .u16 8080))
      (first | (refine HK.out _ ?_; repeat (first | exact (Below.refl _ _) | (refine Below.drew ?_) | (refine Below.alloc ?_ (by first | (simp; done) | (simp; omega)) _) | (refine Below.setCell ?_ (by first | (simp; done) | (simp; omega)) _))) | go_keep) (fail)
    all_goals
      go_wp2_with fail
      go_meet
      case rel => exact ⟨_, _, _, rfl, rfl, rfl, by omega, by omega, by omega, by omega, by omega, by omega, HNB.out.1 _ (by omega) (by omega), HNB.out.1 _ (by omega) (by omega), HNB.out.1 _ (by omega) (by omega), HNB.out.2⟩
  case rest =>
    obtain ⟨b3, b4, b5, rfl, rfl, rfl, n34, n35, n45, l3, l4, l5, g3, g4, g5, hbx⟩ := hcut
    have c30 : wc.cell? ⟨b3, 1, none⟩ = some (.int .u16 80) := cell_of g3 1
    have c40 : wc.cell? ⟨b4, 0, none⟩ = some (.int .u8 6) := cell_of g4 0
    have c50 : wc.cell? ⟨b5, 2, none⟩ = some (.int .u32 167772165) := cell_of g5 2
    have z3 : ∀ i, wc.frozen? ⟨b3, i, none⟩ = false := fun i => free_of g3 i
    have z4 : ∀ i, wc.frozen? ⟨b4, i, none⟩ = false := fun i => free_of g4 i
    have z5 : ∀ i, wc.frozen? ⟨b5, i, none⟩ = false := fun i => free_of g5 i
    have m34 : ¬ b4 = b3 := fun e => n34 e.symm
    have m35 : ¬ b5 = b3 := fun e => n35 e.symm
    have m45 : ¬ b5 = b4 := fun e => n45 e.symm
    have HG := Lib.hid (And.intro g3 (And.intro g4 (And.intro g5 (And.intro hbx (And.intro l3 (And.intro l4 l5))))))
    clear g3 g4 g5 hbx l3 l4 l5 a0 a1 a2 a3
    go_upto_region 5 with (fail)
    refine wp_name fun X hX => ?_
    have hX' : X = ((wc.setCell ⟨b3, 1, none⟩ (.int .u16 1500)).setCell ⟨b4, 0, none⟩ (.int .u8 1)).setCell ⟨b5, 2, none⟩ (.int .u32 184549381) := hX
    have h3 : X.heap[b3]? = some (.cells fpool.arr 37 (0, 0)) := by
      rw [hX', (grown_setCell _ b5 2 _).block b3 (by simp [World.setCell]; exact (Array.getElem?_eq_some_iff.1 HG.out.1).1) (by simpa using n35), (grown_setCell _ b4 0 _).block b3 (by simp [World.setCell]; exact (Array.getElem?_eq_some_iff.1 HG.out.1).1) (by simpa using n34), heap_set HG.out.1]
      rfl
    have h4 : X.heap[b4]? = some (.cells fecho.arr 37 (0, 0)) := by
      have e1 : (wc.setCell ⟨b3, 1, none⟩ (.int .u16 1500)).heap[b4]? = some (.cells fa.arr 37 (0, 0)) := ((grown_setCell _ b3 1 _).block b4 (Array.getElem?_eq_some_iff.1 HG.out.2.1).1 (by simpa using m34)).trans HG.out.2.1
      rw [hX', (grown_setCell _ b5 2 _).block b4 (by simp [World.setCell]; exact (Array.getElem?_eq_some_iff.1 HG.out.2.1).1) (by simpa using n45), heap_set e1]
      rfl
    have h5 : X.heap[b5]? = some (.cells fout.arr 37 (0, 0)) := by
      have e1 : (wc.setCell ⟨b3, 1, none⟩ (.int .u16 1500)).heap[b5]? = some (.cells fa.arr 37 (0, 0)) := ((grown_setCell _ b3 1 _).block b5 (Array.getElem?_eq_some_iff.1 HG.out.2.2.1).1 (by simpa using m35)).trans HG.out.2.2.1
      have e2 : ((wc.setCell ⟨b3, 1, none⟩ (.int .u16 1500)).setCell ⟨b4, 0, none⟩ (.int .u8 1)).heap[b5]? = some (.cells fa.arr 37 (0, 0)) := ((grown_setCell _ b4 0 _).block b5 (Array.getElem?_eq_some_iff.1 e1).1 (by simpa using m45)).trans e1
      rw [hX', heap_set e2]
      rfl
    have hbX : Below W.heap.size W X := by
      rw [hX']
      exact ((HG.out.2.2.2.1.setCell HG.out.2.2.2.2.1 _).setCell HG.out.2.2.2.2.2.1 _).setCell HG.out.2.2.2.2.2.2 _
    have HX := Lib.hid (And.intro h3 (And.intro h4 (And.intro h5 hbX)))
    clear hX hX' h3 h4 h5 hbX c30 c40 c50 z3 z4 z5
    go_wp2_with fail
    refine (HCF.out X).mono ?_
    rintro e X1 ⟨rfl, hb1⟩
    have HST := Lib.hid (store29 X1 cfgz cfg0)
    unfold Cfg.val Cfg.arr cfg0 cfgz at HST
    unfold Cfg.val Cfg.arr cfg0
    have HB1 := Lib.hid hb1
    clear hb1
    go_upto_region 6 with (refine wpList_store_at _ 29 _ _ rfl rfl _ (by exact HST.out) ?_)
    refine wp_name fun Y hY => ?_
    obtain ⟨y, hy⟩ : ∃ y, X1.heap.size = y := ⟨_, rfl⟩
    have hY' : Y = X1.alloc (.cells cfg0.arr 29) := hY
    have hXY : Below X.heap.size X Y := by rw [hY']; exact HB1.out.alloc HB1.out.size _
    have hWY : Below W.heap.size W Y := HX.out.2.2.2.trans (hXY.mono HX.out.2.2.2.size)
    have HY := Lib.hid (And.intro ((hWY.block _ (Array.getElem?_eq_some_iff.1 HW.out.1).1).trans HW.out.1) (And.intro ((hWY.block _ (Array.getElem?_eq_some_iff.1 HW.out.2.1).1).trans HW.out.2.1)
      (And.intro ((hXY.block _ (Array.getElem?_eq_some_iff.1 HX.out.1).1).trans HX.out.1) (And.intro ((hXY.block _ (Array.getElem?_eq_some_iff.1 HX.out.2.1).1).trans HX.out.2.1) (And.intro ((hXY.block _ (Array.getElem?_eq_some_iff.1 HX.out.2.2.1).1).trans HX.out.2.2.1)
      (And.intro (by rw [hY', ← hy]; exact heap_alloc_new X1 _ : Y.heap[y]? = some (.cells cfg0.arr 29 (0, 0))) (HW.out.2.2.1.trans (hWY.mono HW.out.2.2.1.size))))))))
    rw [hy]
    clear hY hY' hXY hWY hy HST
    have hk1 := ((Below.refl Y.heap.size Y).block _ (Array.getElem?_eq_some_iff.1 HY.out.1).1).trans HY.out.1
    have hk2 := ((Below.refl Y.heap.size Y).block _ (Array.getElem?_eq_some_iff.1 HY.out.2.1).1).trans HY.out.2.1
    have hk3 := ((Below.refl Y.heap.size Y).block _ (Array.getElem?_eq_some_iff.1 HY.out.2.2.1).1).trans HY.out.2.2.1
    have hk4 := ((Below.refl Y.heap.size Y).block _ (Array.getElem?_eq_some_iff.1 HY.out.2.2.2.1).1).trans HY.out.2.2.2.1
    have hk5 := ((Below.refl Y.heap.size Y).block _ (Array.getElem?_eq_some_iff.1 HY.out.2.2.2.2.1).1).trans HY.out.2.2.2.2.1
    have hk6 := ((Below.refl Y.heap.size Y).block _ (Array.getElem?_eq_some_iff.1 HY.out.2.2.2.2.2.1).1).trans HY.out.2.2.2.2.2.1
    have a0 : Y.cell? ⟨q, 0, none⟩ = some (.int .u8 6) := cell_of hk1 0
    have a1 : Y.cell? ⟨q, 1, none⟩ = some (.int .u16 80) := cell_of hk1 1
    have a2 : Y.cell? ⟨q, 2, none⟩ = some (.int .u32 167772165) := cell_of hk1 2
    have a3 : Y.cell? ⟨q, 3, none⟩ = some (.int .u16 8080) := cell_of hk1 3
    have bb0 : Y.cell? ⟨(q + 1), 0, none⟩ = some (.int .u8 17) := cell_of hk2 0
    have bb1 : Y.cell? ⟨(q + 1), 1, none⟩ = some (.int .u16 80) := cell_of hk2 1
    have bb2 : Y.cell? ⟨(q + 1), 2, none⟩ = some (.int .u32 167772165) := cell_of hk2 2
    have bb3 : Y.cell? ⟨(q + 1), 3, none⟩ = some (.int .u16 53) := cell_of hk2 3
    have p0 : Y.cell? ⟨b3, 0, none⟩ = some (.int .u8 6) := cell_of hk3 0
    have p1 : Y.cell? ⟨b3, 1, none⟩ = some (.int .u16 1500) := cell_of hk3 1
    have p2 : Y.cell? ⟨b3, 2, none⟩ = some (.int .u32 167772165) := cell_of hk3 2
    have p3 : Y.cell? ⟨b3, 3, none⟩ = some (.int .u16 8080) := cell_of hk3 3
    have e0 : Y.cell? ⟨b4, 0, none⟩ = some (.int .u8 1) := cell_of hk4 0
    have e1 : Y.cell? ⟨b4, 1, none⟩ = some (.int .u16 80) := cell_of hk4 1
    have e2 : Y.cell? ⟨b4, 2, none⟩ = some (.int .u32 167772165) := cell_of hk4 2
    have e3 : Y.cell? ⟨b4, 3, none⟩ = some (.int .u16 8080) := cell_of hk4 3
    have o0 : Y.cell? ⟨b5, 0, none⟩ = some (.int .u8 6) := cell_of hk5 0
    have o1 : Y.cell? ⟨b5, 1, none⟩ = some (.int .u16 80) := cell_of hk5 1
    have o2 : Y.cell? ⟨b5, 2, none⟩ = some (.int .u32 184549381) := cell_of hk5 2
    have o3 : Y.cell? ⟨b5, 3, none⟩ = some (.int .u16 8080) := cell_of hk5 3
    have HLD := Lib.hid (load29 hk6)
    unfold Cfg.val Cfg.arr cfg0 at HLD
    clear hk1 hk2 hk3 hk4 hk5 hk6
    have HM1 := Lib.hid (fun Z => mayc Z)
    have HM2 := Lib.hid (fun Z => may1c fpool (by unfold Fw.Ok; decide) may2 Z)
    have HM3 := Lib.hid (fun Z => may1c fecho (by unfold Fw.Ok; decide) may3 Z)
    have HM4 := Lib.hid (fun Z => may1c fout (by unfold Fw.Ok; decide) may4 Z)
    unfold Cfg.val Cfg.arr cfg0 Fw.arr fa fb at HM1
    unfold Cfg.val Cfg.arr cfg0 Fw.arr fpool at HM2
    unfold Cfg.val Cfg.arr cfg0 Fw.arr fecho at HM3
    unfold Cfg.val Cfg.arr cfg0 Fw.arr fout at HM4
    go_wp2_with (refine wpList_load_at _ 29 _ rfl rfl _ (by exact HLD.out) ?_)
    refine (HM1.out Y).mono ?_
    rintro e Z1 ⟨rfl, hz⟩
    have HZ1 := Lib.hid hz
    clear hz HLD
    clear a0 a1 a2 a3 bb0 bb1 bb2 bb3 p0 p1 p2 p3 e0 e1 e2 e3 o0 o1 o2 o3
    have hk1 := (HZ1.out.block _ (Array.getElem?_eq_some_iff.1 HY.out.1).1).trans HY.out.1
    have hk2 := (HZ1.out.block _ (Array.getElem?_eq_some_iff.1 HY.out.2.1).1).trans HY.out.2.1
    have hk3 := (HZ1.out.block _ (Array.getElem?_eq_some_iff.1 HY.out.2.2.1).1).trans HY.out.2.2.1
    have hk4 := (HZ1.out.block _ (Array.getElem?_eq_some_iff.1 HY.out.2.2.2.1).1).trans HY.out.2.2.2.1
    have hk5 := (HZ1.out.block _ (Array.getElem?_eq_some_iff.1 HY.out.2.2.2.2.1).1).trans HY.out.2.2.2.2.1
    have hk6 := (HZ1.out.block _ (Array.getElem?_eq_some_iff.1 HY.out.2.2.2.2.2.1).1).trans HY.out.2.2.2.2.2.1
    have a0 : Z1.cell? ⟨q, 0, none⟩ = some (.int .u8 6) := cell_of hk1 0
    have a1 : Z1.cell? ⟨q, 1, none⟩ = some (.int .u16 80) := cell_of hk1 1
    have a2 : Z1.cell? ⟨q, 2, none⟩ = some (.int .u32 167772165) := cell_of hk1 2
    have a3 : Z1.cell? ⟨q, 3, none⟩ = some (.int .u16 8080) := cell_of hk1 3
    have bb0 : Z1.cell? ⟨(q + 1), 0, none⟩ = some (.int .u8 17) := cell_of hk2 0
    have bb1 : Z1.cell? ⟨(q + 1), 1, none⟩ = some (.int .u16 80) := cell_of hk2 1
    have bb2 : Z1.cell? ⟨(q + 1), 2, none⟩ = some (.int .u32 167772165) := cell_of hk2 2
    have bb3 : Z1.cell? ⟨(q + 1), 3, none⟩ = some (.int .u16 53) := cell_of hk2 3
    have p0 : Z1.cell? ⟨b3, 0, none⟩ = some (.int .u8 6) := cell_of hk3 0
    have p1 : Z1.cell? ⟨b3, 1, none⟩ = some (.int .u16 1500) := cell_of hk3 1
    have p2 : Z1.cell? ⟨b3, 2, none⟩ = some (.int .u32 167772165) := cell_of hk3 2
    have p3 : Z1.cell? ⟨b3, 3, none⟩ = some (.int .u16 8080) := cell_of hk3 3
    have e0 : Z1.cell? ⟨b4, 0, none⟩ = some (.int .u8 1) := cell_of hk4 0
    have e1 : Z1.cell? ⟨b4, 1, none⟩ = some (.int .u16 80) := cell_of hk4 1
    have e2 : Z1.cell? ⟨b4, 2, none⟩ = some (.int .u32 167772165) := cell_of hk4 2
    have e3 : Z1.cell? ⟨b4, 3, none⟩ = some (.int .u16 8080) := cell_of hk4 3
    have o0 : Z1.cell? ⟨b5, 0, none⟩ = some (.int .u8 6) := cell_of hk5 0
    have o1 : Z1.cell? ⟨b5, 1, none⟩ = some (.int .u16 80) := cell_of hk5 1
    have o2 : Z1.cell? ⟨b5, 2, none⟩ = some (.int .u32 184549381) := cell_of hk5 2
    have o3 : Z1.cell? ⟨b5, 3, none⟩ = some (.int .u16 8080) := cell_of hk5 3
    have HLD := Lib.hid (load29 hk6)
    unfold Cfg.val Cfg.arr cfg0 at HLD
    clear hk1 hk2 hk3 hk4 hk5 hk6
    go_wp2_with (refine wpList_load_at _ 29 _ rfl rfl _ (by exact HLD.out) ?_)
    refine (HM2.out Z1).mono ?_
    rintro e Z2 ⟨rfl, hz⟩
    have HZ2 := Lib.hid (HZ1.out.trans (hz.mono HZ1.out.size))
    clear hz HLD
    clear a0 a1 a2 a3 bb0 bb1 bb2 bb3 p0 p1 p2 p3 e0 e1 e2 e3 o0 o1 o2 o3
    have hk1 := (HZ2.out.block _ (Array.getElem?_eq_some_iff.1 HY.out.1).1).trans HY.out.1
    have hk2 := (HZ2.out.block _ (Array.getElem?_eq_some_iff.1 HY.out.2.1).1).trans HY.out.2.1
    have hk3 := (HZ2.out.block _ (Array.getElem?_eq_some_iff.1 HY.out.2.2.1).1).trans HY.out.2.2.1
    have hk4 := (HZ2.out.block _ (Array.getElem?_eq_some_iff.1 HY.out.2.2.2.1).1).trans HY.out.2.2.2.1
    have hk5 := (HZ2.out.block _ (Array.getElem?_eq_some_iff.1 HY.out.2.2.2.2.1).1).trans HY.out.2.2.2.2.1
    have hk6 := (HZ2.out.block _ (Array.getElem?_eq_some_iff.1 HY.out.2.2.2.2.2.1).1).trans HY.out.2.2.2.2.2.1
    have a0 : Z2.cell? ⟨q, 0, none⟩ = some (.int .u8 6) := cell_of hk1 0
    have a1 : Z2.cell? ⟨q, 1, none⟩ = some (.int .u16 80) := cell_of hk1 1
    have a2 : Z2.cell? ⟨q, 2, none⟩ = some (.int .u32 167772165) := cell_of hk1 2
    have a3 : Z2.cell? ⟨q, 3, none⟩ = some (.int .u16 8080) := cell_of hk1 3
    have bb0 : Z2.cell? ⟨(q + 1), 0, none⟩ = some (.int .u8 17) := cell_of hk2 0
    have bb1 : Z2.cell? ⟨(q + 1), 1, none⟩ = some (.int .u16 80) := cell_of hk2 1
    have bb2 : Z2.cell? ⟨(q + 1), 2, none⟩ = some (.int .u32 167772165) := cell_of hk2 2
    have bb3 : Z2.cell? ⟨(q + 1), 3, none⟩ = some (.int .u16 53) := cell_of hk2 3
    have p0 : Z2.cell? ⟨b3, 0, none⟩ = some (.int .u8 6) := cell_of hk3 0
    have p1 : Z2.cell? ⟨b3, 1, none⟩ = some (.int .u16 1500) := cell_of hk3 1
    have p2 : Z2.cell? ⟨b3, 2, none⟩ = some (.int .u32 167772165) := cell_of hk3 2
    have p3 : Z2.cell? ⟨b3, 3, none⟩ = some (.int .u16 8080) := cell_of hk3 3
    have e0 : Z2.cell? ⟨b4, 0, none⟩ = some (.int .u8 1) := cell_of hk4 0
    have e1 : Z2.cell? ⟨b4, 1, none⟩ = some (.int .u16 80) := cell_of hk4 1
    have e2 : Z2.cell? ⟨b4, 2, none⟩ = some (.int .u32 167772165) := cell_of hk4 2
    have e3 : Z2.cell? ⟨b4, 3, none⟩ = some (.int .u16 8080) := cell_of hk4 3
    have o0 : Z2.cell? ⟨b5, 0, none⟩ = some (.int .u8 6) := cell_of hk5 0
    have o1 : Z2.cell? ⟨b5, 1, none⟩ = some (.int .u16 80) := cell_of hk5 1
    have o2 : Z2.cell? ⟨b5, 2, none⟩ = some (.int .u32 184549381) := cell_of hk5 2
    have o3 : Z2.cell? ⟨b5, 3, none⟩ = some (.int .u16 8080) := cell_of hk5 3
    have HLD := Lib.hid (load29 hk6)
    unfold Cfg.val Cfg.arr cfg0 at HLD
    clear hk1 hk2 hk3 hk4 hk5 hk6
    go_wp2_with (refine wpList_load_at _ 29 _ rfl rfl _ (by exact HLD.out) ?_)
    refine (HM3.out Z2).mono ?_
    rintro e Z3 ⟨rfl, hz⟩
    have HZ3 := Lib.hid (HZ2.out.trans (hz.mono HZ2.out.size))
    clear hz HLD
    clear a0 a1 a2 a3 bb0 bb1 bb2 bb3 p0 p1 p2 p3 e0 e1 e2 e3 o0 o1 o2 o3
    have hk1 := (HZ3.out.block _ (Array.getElem?_eq_some_iff.1 HY.out.1).1).trans HY.out.1
    have hk2 := (HZ3.out.block _ (Array.getElem?_eq_some_iff.1 HY.out.2.1).1).trans HY.out.2.1
    have hk3 := (HZ3.out.block _ (Array.getElem?_eq_some_iff.1 HY.out.2.2.1).1).trans HY.out.2.2.1
    have hk4 := (HZ3.out.block _ (Array.getElem?_eq_some_iff.1 HY.out.2.2.2.1).1).trans HY.out.2.2.2.1
    have hk5 := (HZ3.out.block _ (Array.getElem?_eq_some_iff.1 HY.out.2.2.2.2.1).1).trans HY.out.2.2.2.2.1
    have hk6 := (HZ3.out.block _ (Array.getElem?_eq_some_iff.1 HY.out.2.2.2.2.2.1).1).trans HY.out.2.2.2.2.2.1
    have a0 : Z3.cell? ⟨q, 0, none⟩ = some (.int .u8 6) := cell_of hk1 0
    have a1 : Z3.cell? ⟨q, 1, none⟩ = some (.int .u16 80) := cell_of hk1 1
    have a2 : Z3.cell? ⟨q, 2, none⟩ = some (.int .u32 167772165) := cell_of hk1 2
    have a3 : Z3.cell? ⟨q, 3, none⟩ = some (.int .u16 8080) := cell_of hk1 3
    have bb0 : Z3.cell? ⟨(q + 1), 0, none⟩ = some (.int .u8 17) := cell_of hk2 0
    have bb1 : Z3.cell? ⟨(q + 1), 1, none⟩ = some (.int .u16 80) := cell_of hk2 1
    have bb2 : Z3.cell? ⟨(q + 1), 2, none⟩ = some (.int .u32 167772165) := cell_of hk2 2
    have bb3 : Z3.cell? ⟨(q + 1), 3, none⟩ = some (.int .u16 53) := cell_of hk2 3
    have p0 : Z3.cell? ⟨b3, 0, none⟩ = some (.int .u8 6) := cell_of hk3 0
    have p1 : Z3.cell? ⟨b3, 1, none⟩ = some (.int .u16 1500) := cell_of hk3 1
    have p2 : Z3.cell? ⟨b3, 2, none⟩ = some (.int .u32 167772165) := cell_of hk3 2
    have p3 : Z3.cell? ⟨b3, 3, none⟩ = some (.int .u16 8080) := cell_of hk3 3
    have e0 : Z3.cell? ⟨b4, 0, none⟩ = some (.int .u8 1) := cell_of hk4 0
    have e1 : Z3.cell? ⟨b4, 1, none⟩ = some (.int .u16 80) := cell_of hk4 1
    have e2 : Z3.cell? ⟨b4, 2, none⟩ = some (.int .u32 167772165) := cell_of hk4 2
    have e3 : Z3.cell? ⟨b4, 3, none⟩ = some (.int .u16 8080) := cell_of hk4 3
    have o0 : Z3.cell? ⟨b5, 0, none⟩ = some (.int .u8 6) := cell_of hk5 0
    have o1 : Z3.cell? ⟨b5, 1, none⟩ = some (.int .u16 80) := cell_of hk5 1
    have o2 : Z3.cell? ⟨b5, 2, none⟩ = some (.int .u32 184549381) := cell_of hk5 2
    have o3 : Z3.cell? ⟨b5, 3, none⟩ = some (.int .u16 8080) := cell_of hk5 3
    have HLD := Lib.hid (load29 hk6)
    unfold Cfg.val Cfg.arr cfg0 at HLD
    clear hk1 hk2 hk3 hk4 hk5 hk6
    go_wp2_with (refine wpList_load_at _ 29 _ rfl rfl _ (by exact HLD.out) ?_)
    refine (HM4.out Z3).mono ?_
    rintro e Z4 ⟨rfl, hz⟩
    have HZ4 := Lib.hid (HZ3.out.trans (hz.mono HZ3.out.size))
    clear hz HLD
    clear a0 a1 a2 a3 bb0 bb1 bb2 bb3 p0 p1 p2 p3 e0 e1 e2 e3 o0 o1 o2 o3
    go_wp2_with fail
    go_ret
    exact ⟨rfl, HY.out.2.2.2.2.2.2.trans (HZ4.out.mono HY.out.2.2.2.2.2.2.size)⟩
end Go.Proofs.Ythlohgldcnicbaa
