/- take. -/
import Derived.Test.YtdebaoimhijnkaaDel
import Derived.Test.YtdebaoimhijnkaaMid
set_option linter.unusedVariables false
namespace Go.Proofs.Ytdebaoimhijnkaa
open Go.RowKit Go.Deep Go.BigFrame
attribute [local go_sem ↓] Go.wp_at_zero Go.wp_at_succ
set_option maxHeartbeats 3200000
set_option maxRecDepth 100000
def takeS (s : WS) (id : Int) : WS := ⟨s.now, dropA s.L id⟩
theorem drop_sub (L : List Al) (id : Int) : (dropA L id).Sublist L := List.filter_sublist
theorem takeS_ok {s : WS} (h : s.Ok) (id : Int) : (takeS s id).Ok :=
  ⟨⟨fun a ha => h.als.1 a ((drop_sub _ _).subset ha), h.als.2.sublist (drop_sub _ _)⟩, h.srt.sublist (drop_sub _ _), h.now0, h.nowM, fun a ha => h.tM a ((drop_sub _ _).subset ha)⟩
theorem slot_drop (L : List Al) (id : Int) (k : Nat) : atSlot (dropA L id) k = dropA (atSlot L k) id := by
  unfold atSlot dropA
  rw [List.filter_filter, List.filter_filter]
  congr 1
  funext a
  exact Bool.and_comm _ _
theorem drop_perm {L M : List Al} (h : L.Perm M) (id : Int) : (dropA L id).Perm (dropA M id) := h.filter _
/-- What is taken out of a list by place. -/
theorem drop_erase {M : List Al} {i : Nat} {a : Al} (hd : M.Pairwise (fun a b => a.id ≠ b.id)) (ha : M[i]? = some a) : M.eraseIdx i = dropA M a.id := by
  induction M generalizing i with
  | nil => simp at ha
  | cons g r ih =>
    rw [List.pairwise_cons] at hd
    cases i with
    | zero =>
      simp at ha
      subst ha
      unfold dropA
      rw [List.filter_cons_of_neg (by simp)]
      symm
      show List.filter _ r = r
      rw [List.filter_eq_self]
      intro b hb
      have := hd.1 b hb
      simp
      exact fun q => this q.symm
    | succ i =>
      have ha' : r[i]? = some a := by simpa using ha
      have hne := hd.1 a (List.mem_of_getElem? ha')
      have hih := ih hd.2 ha'
      unfold dropA at hih ⊢
      rw [List.filter_cons_of_pos (by simpa using hne), List.eraseIdx_cons_succ, hih]
theorem slot_lt (a : Al) (h : 0 ≤ a.t) : slotOf a < 64 := by unfold slotOf; omega
theorem slot_other {L : List Al} {a : Al} {j : Nat} (hd : L.Pairwise (fun a b => a.id ≠ b.id)) (ha : a ∈ L) (hj : j ≠ slotOf a) : dropA (atSlot L j) a.id = atSlot L j := by
  unfold dropA
  rw [List.filter_eq_self]
  intro z hz
  unfold atSlot at hz
  rw [List.mem_filter] at hz
  simp only [decide_eq_true_eq] at hz ⊢
  intro e
  have h1 := findA_mem hd hz.1
  rw [e, findA_mem hd ha] at h1
  injection h1 with h1
  rw [← h1] at hz
  exact hj hz.2.symm
theorem look_drewN {X : World} {b nn : Nat} {L : List Al} (h : MapU X b nn L) {id : Int} (hid : (Lit.int .u64 id).wf = true) (n : Nat) : (Instr.lookup 52 (.map (some b)) (.int .u64 id) true).run Try.prog (X.drewN n) = .ok (.tuple #[.int .u64 (atA L id), .bool (findA L id).isSome]) (X.drewN n) :=
  (h.keptE (w' := X.drewN n) rfl).look hid
theorem take_none {w : World} {g b nn : Nat} {s : WS} (h : Wh w g b nn s) (id : Int) (hid : (Lit.int .u64 id).wf = true) (hf : findA s.L id = none) :
    Calls Try.prog 26 #[.pointer (some ⟨g, 0, none⟩), .int .u64 id] w fun e w' => e = .returned (.bool false) ∧ Below w.heap.size w w' := by
  obtain ⟨X, hX⟩ : ∃ X, w.alloc (.cells #[.int .u64 id] 23) = X := ⟨_, rfl⟩
  obtain ⟨q, hq⟩ : ∃ q, w.heap.size = q := ⟨_, rfl⟩
  have hB : Below w.heap.size w X := by rw [← hX]; exact bel_alloc _ _
  have h2 := h.below hB
  have HM := look_drewN h2.map hid
  have e1 : atA s.L id = 0 := by unfold atA; rw [hf]; rfl
  rw [hf, e1] at HM
  simp only [Option.isSome_none] at HM
  obtain ⟨cs, q1, q2, q3, q4, q5⟩ := h2.heap
  have c65 : X.cell? ⟨g, 65, none⟩ = some (.map (some b)) := by rw [cell_of q1, q4]
  have cid : X.cell? ⟨q, 0, none⟩ = some (.int .u64 id) := by rw [← hX, ← hq]; exact cell_of (heap_alloc_new _ _) 0
  have HB := Lib.hid hB
  have HQ := Lib.hid hq
  have HX := Lib.hid hX
  clear h h2 q1 q2 q3 q4 q5 e1 hf hB hid hq hX
  go_enter Try.func26, Try.ntmps26
  go_upto_region 1 with (fail)
  rw [HX.out, HQ.out]
  go_quiet (fail)
  go_wp2_with fail
  go_ret
  exact ⟨rfl, below_drewN HB.out _⟩
theorem take_some {w : World} {g b nn : Nat} {s : WS} (h : Wh w g b nn s) (id : Int) (hid : (Lit.int .u64 id).wf = true) (a : Al) (hf : findA s.L id = some a) (hnn : nn ≤ 1000) :
    Calls Try.prog 26 #[.pointer (some ⟨g, 0, none⟩), .int .u64 id] w fun e w' => e = .returned (.bool true) ∧ Wh w' g b nn (takeS s id) ∧ Turns (Two g b) w w' := by
  obtain ⟨haL, haid⟩ := findA_some hf
  have hat := bd_u64 (h.ok.als.1 a haL).2
  obtain ⟨k, hk⟩ : ∃ k, slotOf a = k := ⟨_, rfl⟩
  have hk64 : k < 64 := by rw [← hk]; exact slot_lt a hat.1
  have hkm : a.t % 64 = (k : Int) := by unfold slotOf at hk; omega
  obtain ⟨X, hX⟩ : ∃ X, w.alloc (.cells #[.int .u64 id] 23) = X := ⟨_, rfl⟩
  obtain ⟨q, hq⟩ : ∃ q, w.heap.size = q := ⟨_, rfl⟩
  have hB : Below w.heap.size w X := by rw [← hX]; exact bel_alloc _ _
  have h2 := h.below hB
  have HM := look_drewN h2.map hid
  have e1 : atA s.L id = a.t := by unfold atA; rw [hf]; rfl
  rw [hf, e1] at HM
  simp only [Option.isSome_some] at HM
  obtain ⟨cs, q1, q2, q3, q4, q5⟩ := h2.heap
  obtain ⟨A, c, M, em, hal, hper⟩ := q5 k hk64
  have c65 : X.cell? ⟨g, 65, none⟩ = some (.map (some b)) := by rw [cell_of q1, q4]
  have cid : X.cell? ⟨q, 0, none⟩ = some (.int .u64 id) := by rw [← hX, ← hq]; exact cell_of (heap_alloc_new _ _) 0
  have hqb : X.heap[q]? = some (.cells #[.int .u64 id] 23 (0, 0)) := by rw [← hX, ← hq]; exact heap_alloc_new _ _
  have haM : a ∈ M := by
    rw [hper.mem_iff]
    unfold atSlot
    rw [List.mem_filter]
    exact ⟨haL, by simpa using hk⟩
  have hdM : M.Pairwise (fun a b => a.id ≠ b.id) := (hper.pairwise_iff (fun {a b} q => q.symm)).2 (h.ok.als.2.sublist List.filter_sublist)
  obtain ⟨i, hi⟩ := List.getElem?_of_mem haM
  obtain ⟨n, hn⟩ : ∃ n, M.length = n := ⟨_, rfl⟩
  have hn9 : n ≤ 1000 := by
    rw [← hn, hper.length_eq]
    have := List.length_filter_le (fun a => decide (slotOf a = k)) s.L
    have := h.len
    unfold atSlot
    omega
  have ck : X.cell? ⟨g, 1 + k, none⟩ = some (.slice A n c) := by rw [cell_of q1, Nat.add_comm, em, hn]
  have HB := Lib.hid (And.intro hB (And.intro hX hq))
  have HW := Lib.hid h2
  have HC := Lib.hid (And.intro q1 (And.intro q2 (And.intro q3 (And.intro q4 q5))))
  have HMM := Lib.hid (And.intro hal (And.intro hper (And.intro hdM (And.intro hi hn))))
  have HA := Lib.hid (And.intro haL (And.intro haid hf))
  have HK := Lib.hid hk
  have HQB := Lib.hid hqb
  have HO := Lib.hid h.ok
  clear h h2 q1 q2 q3 q4 q5 e1 hf hB hq hX haL haid hk em hal hper haM hdM hi hn hqb
  go_enter Try.func26, Try.ntmps26
  go_upto_region 1 with (fail)
  rw [HB.out.2.1, HB.out.2.2]
  go_quiet (fail)
  obtain ⟨Y, hY⟩ : ∃ Y, X.drewN nq = Y := ⟨_, rfl⟩
  rw [hY]
  have hXY : Below X.heap.size X Y := by rw [← hY]; exact below_drewN (Below.refl _ _) _
  have y65 : Y.cell? ⟨g, 65, none⟩ = some (.map (some b)) := by rw [← hY]; exact c65
  have yk : Y.cell? ⟨g, 1 + k, none⟩ = some (.slice A n c) := by rw [← hY]; exact ck
  have HXY := Lib.hid hXY
  have HYX : Hid (Y = X.drewN nq) := Lib.hid hY.symm
  have HCL := Lib.hid (clone_any A c M n Y HMM.out.2.2.2.2 (HMM.out.1.below hXY) (by omega))
  clear hY hXY c65 ck cid HM
  go_wp2_with fail
  refine HCL.out.mono ?_
  rintro e Z ⟨v, rfl, ho, hZ⟩
  obtain ⟨A1, c1, rfl⟩ := own_len ho
  have hYX : Y.heap.size = X.heap.size := by rw [HYX.out]; rfl
  have hbZ : Below X.heap.size X Z := HXY.out.trans (hZ.mono HXY.out.size)
  obtain ⟨g2, rfl, hg2⟩ : ∃ g2, A1 = some ⟨g2, 0, none⟩ ∧ Y.heap.size ≤ g2 := by
    rcases ho.2 with ⟨_, h0⟩ | ⟨g2, cap, cur, h0, hb2, _⟩
    · have := (List.getElem?_eq_some_iff.1 HMM.out.2.2.2.1).1
      have := HMM.out.2.2.2.2
      omega
    · injection h0 with h0 _ _
      exact ⟨g2, h0, hb2⟩
  have hqZ := (hbZ.block _ (Array.getElem?_eq_some_iff.1 HQB.out).1).trans HQB.out
  have hgZ := (hbZ.block _ (Array.getElem?_eq_some_iff.1 HC.out.1).1).trans HC.out.1
  have hgX : g < X.heap.size := (Array.getElem?_eq_some_iff.1 HC.out.1).1
  have HD := Lib.hid (delfunc_any Y.heap.size c1 g2 M n i a id q Z HMM.out.2.2.2.2 ho (by omega) hqZ HMM.out.2.2.2.1 HA.out.2.1 (fun j z hj hz e => by
    have h1 := List.pairwise_iff_getElem.1 HMM.out.2.2.1
    obtain ⟨l1, r1⟩ := List.getElem?_eq_some_iff.1 HMM.out.2.2.2.1
    obtain ⟨l2, r2⟩ := List.getElem?_eq_some_iff.1 hz
    rcases Nat.lt_or_gt_of_ne hj with hlt | hlt
    · have := h1 j i l2 l1 hlt
      rw [r1, r2] at this
      exact this (e.trans HA.out.2.1.symm)
    · have := h1 i j l1 l2 hlt
      rw [r1, r2] at this
      exact this (HA.out.2.1.trans e.symm)) hZ.size)
  have HZ := Lib.hid (And.intro hbZ (And.intro hg2 (And.intro hgZ hYX)))
  clear ho hZ hbZ hqZ hgZ y65 yk hYX hg2
  go_wp2_with fail
  refine HD.out.mono ?_
  rintro e V ⟨rfl, hov, hgv⟩
  have hgne : g ≠ g2 := by have := HZ.out.2.1; have := HZ.out.2.2.2; omega
  have hgV : V.heap[g]? = some (.cells cs 54 (0, 0)) := (hgv.block g (by have := (Array.getElem?_eq_some_iff.1 HZ.out.2.2.1).1; exact this) (by simpa using hgne)).trans HZ.out.2.2.1
  have fk : V.frozen? ⟨g, 1 + k, none⟩ = false := free_of hgV _
  have vk : V.cell? ⟨g, 1 + k, none⟩ = cs[1 + k]? := cell_of hgV _
  have hsome : (V.cell? ⟨g, 1 + k, none⟩).isSome = true := by rw [vk, Array.getElem?_eq_getElem (by rw [HC.out.2.1]; omega)]; rfl
  obtain ⟨y0, hy0⟩ := Option.isSome_iff_exists.1 hsome
  have HV := Lib.hid (And.intro hov (And.intro hgv hgV))
  clear hov hgv hgV vk hsome
  go_upto_region 5 with (fail)
  refine wp_name fun W hW => ?_
  have hgW : W.heap[g]? = some (.cells (cs.setIfInBounds (1 + k) (.slice (some ⟨g2, 0, none⟩) (n - 1) c1)) 54 (0, 0)) := by rw [hW]; exact heap_set HV.out.2.2 _
  have hgrW : V.grownBy W (some g) := by rw [hW]; exact grown_setCell _ _ _ _
  have w65 : W.cell? ⟨g, 65, none⟩ = some (.map (some b)) := by
    rw [cell_of hgW, Array.getElem?_setIfInBounds_ne (by omega), HC.out.2.2.2.1]
  have hVX : X.grownBy V (some g) := grown_new2 (grown_below HZ.out.1) HV.out.2.1 (fun j e => by injection e with e; subst e; have := HZ.out.2.1; rw [HZ.out.2.2.2] at this; exact this)
  have hXW : X.grownBy W (some g) := grown_trans hVX hgrW
  have hbX : X.heap[b]? = W.heap[b]? := (hXW.block b HW.out.blt (by simpa using (fun e => HW.out.gb e.symm))).symm
  have hqX : W.heap[q]? = some (.cells #[.int .u64 id] 23 (0, 0)) := by
    rw [hXW.block q (Array.getElem?_eq_some_iff.1 HQB.out).1 (by
      intro e
      injection e with e
      have h1 := HC.out.1
      rw [← e, HQB.out] at h1
      cases h1)]
    exact HQB.out
  have wid : W.cell? ⟨q, 0, none⟩ = some (.int .u64 id) := cell_of hqX 0
  have hrW : W.ownsRow Y.heap.size 66 2 (.slice (some ⟨g2, 0, none⟩) (n - 1) c1) (n - 1) (row (M.eraseIdx i)) := row_keptE HV.out.1 (fun j e => by
    injection e with e
    injection e with e
    subst e
    exact hgrW.block _ (row_lt HV.out.1 rfl).1 (by simpa using hgne.symm))
  obtain ⟨R, hR, hRm, hRg⟩ : ∃ R, (∀ ty, (Builtin.delete_ #[52, 23] ty #[.map (some b), .int .u64 id]).run Try.prog W.drew = .ok (.tuple #[]) R) ∧ MapU R b nn (dropA s.L id) ∧ W.grownBy R (some b) := by
    obtain ⟨R, r1, r2, r3⟩ := ((HW.out.map.keptE (w' := W.drew) hbX.symm).drop HO.out.als.2 hid 0)
    exact ⟨R, fun ty => r1, r2, grown_trans (grown_drew (World.grownBy.refl _ _)) r3⟩
  have HWW := Lib.hid (And.intro hgW (And.intro hXW (And.intro hrW (And.intro hRm hRg))))
  have HGN := Lib.hid hgne
  clear hW hgW hgrW hVX hXW hbX hqX hrW hRm hRg hgne fk hy0
  refine wp_region_tail 5 (by kernel_rfl) (by kernel_rfl) ?_
  simp only [List.take_succ_cons, List.take_zero, List.drop_succ_cons, List.drop_zero]
  repeat still_step
  refine wpStill_nil ?_
  go_wp2_with fail
  go_ret
  obtain ⟨hgW, hXW, hrW, hRm, hRg⟩ := HWW.out
  have hgb := HW.out.gb
  have hgR : R.heap[g]? = some (.cells (cs.setIfInBounds (1 + k) (.slice (some ⟨g2, 0, none⟩) (n - 1) c1)) 54 (0, 0)) := (hRg.block g (Array.getElem?_eq_some_iff.1 hgW).1 (by simpa using hgb)).trans hgW
  have hTX : Turns (Two g b) X R := (Turns.step (Turns.step (Turns.refl _ X) hXW (fun j e => by injection e with e; exact .inl (.inl e.symm))) hRg (fun j e => by injection e with e; exact .inl (.inr e.symm)))
  have hap := HW.out.apart hTX
  have hrR : R.ownsRow Y.heap.size 66 2 (.slice (some ⟨g2, 0, none⟩) (n - 1) c1) (n - 1) (row (M.eraseIdx i)) := row_keptE hrW (fun j e => by
    injection e with e
    injection e with e
    subst e
    obtain ⟨hl, cs2, fr, hcs⟩ := row_lt hrW rfl
    refine hRg.block _ hl ?_
    intro e
    injection e with e
    have hbX : b < X.heap.size := HW.out.blt
    have := HZ.out.2.1
    rw [HZ.out.2.2.2] at this
    omega)
  have hle : (M.eraseIdx i).length = n - 1 := by rw [List.length_eraseIdx, if_pos (List.getElem?_eq_some_iff.1 HMM.out.2.2.2.1).1, HMM.out.2.2.2.2]
  refine ⟨rfl, ⟨⟨_, hgR, by simp [HC.out.2.1], ?_, ?_, fun j hj => ?_⟩, hRm, takeS_ok HO.out id, Nat.le_trans (drop_sub _ _).length_le HW.out.len⟩, (Turns.of HB.out.1).trans hTX (fun j e => .inl e)⟩
  · rw [Array.getElem?_setIfInBounds_ne (by omega)]
    exact HC.out.2.2.1
  · rw [Array.getElem?_setIfInBounds_ne (by omega)]
    exact HC.out.2.2.2.1
  · show SlotAt R _ (atSlot (dropA s.L id) j)
    rw [slot_drop]
    by_cases e : j = k
    · subst e
      rw [Nat.add_comm 1 j, Array.getElem?_setIfInBounds_self_of_lt (by rw [HC.out.2.1]; omega)]
      refine ⟨some ⟨g2, 0, none⟩, c1, M.eraseIdx i, by rw [hle], AlsAt.own (B := Y.heap.size) (c := c1) (by rw [hle]; exact hrR), ?_⟩
      rw [drop_erase HMM.out.2.2.1 HMM.out.2.2.2.1, HA.out.2.1]
      exact drop_perm HMM.out.2.1 id
    · rw [Array.getElem?_setIfInBounds_ne (by omega)]
      have hso := slot_other (j := j) HO.out.als.2 HA.out.1 (by rw [HK.out]; exact e)
      rw [HA.out.2.1] at hso
      rw [hso]
      exact (HC.out.2.2.2.2 j hj).keptE hTX.size hap
end Go.Proofs.Ytdebaoimhijnkaa
