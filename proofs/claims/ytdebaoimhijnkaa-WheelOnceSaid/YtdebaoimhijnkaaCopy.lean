/- Copy. -/
import Derived.Test.YtdebaoimhijnkaaTick
import Derived.Test.YtdebaoimhijnkaaSmall
set_option linter.unusedVariables false
namespace Go.Proofs.Ytdebaoimhijnkaa
open Go.RowKit Go.Deep Go.BigFrame
attribute [local go_sem ↓] Go.wp_at_zero Go.wp_at_succ
set_option maxHeartbeats 3200000
set_option maxRecDepth 100000
/-- The ring, loaded as a whole. -/
theorem load51 {W : World} {g : Nat} {cs : Array Value} (hg : W.heap[g]? = some (.cells cs 54 (0, 0))) (hs : cs.size = 66) : (Instr.loadAt 51 (.pointer (some ⟨g, 1, none⟩))).run Try.prog W = .ok (.agg (cs.extract 1 65)) W := by
  have hsz : (cs.extract 1 65).size = 64 := by simp [hs]
  have hl : (loadCells ⟨g, 1, none⟩ (cs.extract 1 65).toList.length).run Try.prog W = .ok (cs.extract 1 65).toList.toArray W :=
    run_loadCells_list (P := Try.prog) W ⟨g, 1, none⟩ (cs.extract 1 65).toList (fun j v hv => by
      rw [add_at, cell_of hg]
      rw [Array.getElem?_toList] at hv
      have hj : j < 64 := by
        have := (Array.getElem?_eq_some_iff.1 hv).1
        omega
      rw [Array.getElem?_extract, if_pos (by omega)] at hv
      exact hv)
  simp only [Array.length_toList, Array.toArray_toList] at hl
  rw [hsz] at hl
  have hagg : (isAgg 51).run Try.prog W = .ok true W := by kernel_rfl
  have hso : (sizeOf 51).run Try.prog W = .ok 64 W := by kernel_rfl
  simp only [Instr.loadAt, Instr.sureAddr, Sem.run_bind, Sem.run_pure, Result.andThen, loadVar, hagg, hso, hl, if_true]
theorem fold_put : ∀ (l : List Value) (i : Nat) (Z : Array Value), ((l.zipIdx i).foldl (fun cs x => cs.setIfInBounds (1 + x.2) x.1) Z).size = Z.size ∧
    ∀ j, ((l.zipIdx i).foldl (fun cs x => cs.setIfInBounds (1 + x.2) x.1) Z)[j]? = if 1 + i ≤ j ∧ j < 1 + i + l.length ∧ j < Z.size then l[j - (1 + i)]? else Z[j]?
  | [], i, Z => ⟨rfl, fun j => by rw [if_neg (by simp; omega)]; rfl⟩
  | v :: r, i, Z => by
    obtain ⟨h1, h2⟩ := fold_put r (i + 1) (Z.setIfInBounds (1 + i) v)
    simp only [List.zipIdx_cons, List.foldl_cons]
    refine ⟨by rw [h1]; simp, fun j => ?_⟩
    rw [h2 j]
    simp only [Array.size_setIfInBounds, List.length_cons]
    by_cases c1 : 1 + (i + 1) ≤ j ∧ j < 1 + (i + 1) + r.length ∧ j < Z.size
    · rw [if_pos c1, if_pos ⟨by omega, by omega, c1.2.2⟩, show j - (1 + i) = (j - (1 + (i + 1))) + 1 by omega]
      rfl
    · rw [if_neg c1]
      by_cases e : 1 + i = j
      · subst e
        by_cases hs : 1 + i < Z.size
        · rw [Array.getElem?_setIfInBounds_self_of_lt hs, if_pos ⟨Nat.le_refl _, by omega, hs⟩]
          simp
        · rw [if_neg (by omega), Array.getElem?_eq_none (by simp; omega), Array.getElem?_eq_none (by omega)]
      · rw [Array.getElem?_setIfInBounds_ne e, if_neg (by omega)]
theorem fold_arr (R Z : Array Value) : R.zipIdx.foldl (fun cs x => cs.setIfInBounds (1 + x.2) x.1) Z = (R.toList.zipIdx).foldl (fun cs x => cs.setIfInBounds (1 + x.2) x.1) Z := by
  rw [← Array.foldl_toList, Array.toList_zipIdx]
theorem copy_any {w : World} {g b nn : Nat} {s : WS} (h : Wh w g b nn s) :
    Calls Try.prog 16 #[.pointer (some ⟨g, 0, none⟩)] w fun e w' => ∃ g2 b2, e = .returned (.pointer (some ⟨g2, 0, none⟩)) ∧ Wh w' g2 b2 nn s ∧ Below w.heap.size w w' ∧ w.heap.size ≤ g2 ∧ w.heap.size ≤ b2 := by
  have HN := Lib.hid (none_any h)
  obtain ⟨X, hX⟩ : ∃ X, w.drew = X := ⟨_, rfl⟩
  have hbX : Below w.heap.size w X := by rw [← hX]; exact (Below.refl _ _).drew
  have hXw : X.heap.size = w.heap.size := by rw [← hX]; rfl
  have hwX := h.below hbX
  obtain ⟨cs, q1, q2, q3, q4, q5⟩ := hwX.heap
  have hgl : g < X.heap.size := hwX.glt
  have hne : Nonempty (ClsW (InB X.heap.size X)) := ⟨⟨X, Below.refl _ _, Nat.le_refl _⟩⟩
  have c0 : ∀ W : ClsW (InB X.heap.size X), W.val.cell? ⟨g, 0, none⟩ = some (.int .u64 s.now) := fun W => class_cell W (by rw [cell_of q1, q3]) hgl
  have c65 : ∀ W : ClsW (InB X.heap.size X), W.val.cell? ⟨g, 65, none⟩ = some (.map (some b)) := fun W => class_cell W (by rw [cell_of q1, q4]) hgl
  obtain ⟨R, hR⟩ : ∃ R, cs.extract 1 65 = R := ⟨_, rfl⟩
  have HLD : Hid (∀ Y : World, (∃ W : ClsW (InB X.heap.size X), Y = W.val) → (Instr.loadAt 51 (.pointer (some ⟨g, 1, none⟩))).run Try.prog Y = .ok (.agg R) Y) := Lib.hid (fun Y hY => by
    obtain ⟨W, rfl⟩ := hY
    rw [← hR]
    exact load51 ((W.2.1.block _ hgl).trans q1) q2)
  have HMC := Lib.hid (mclone_any hwX.map)
  have HX := Lib.hid (And.intro hX (And.intro hbX (And.intro hXw hwX)))
  have HC := Lib.hid (And.intro q1 (And.intro q2 (And.intro q3 (And.intro q4 (And.intro q5 hR)))))
  clear h hX hbX hXw hwX q1 q2 q3 q4 q5 hgl hR
  have hRs : R.size = 64 := by rw [← HC.out.2.2.2.2.2]; simp [HC.out.2.1]
  obtain ⟨F, hF⟩ : ∃ F, R.zipIdx.foldl (fun cs x => cs.setIfInBounds (1 + x.2) x.1) (Z54.setIfInBounds 0 (Value.int IntKind.u64 s.now)) = F := ⟨_, rfl⟩
  obtain ⟨hF1, hF2⟩ := fold_put R.toList 0 (Z54.setIfInBounds 0 (Value.int IntKind.u64 s.now))
  rw [← fold_arr, hF] at hF1
  rw [← fold_arr, hF] at hF2
  have hFs : F.size = 66 := by rw [hF1]; simp [z54_size]
  have HF := Lib.hid (And.intro hF2 (And.intro hFs hRs))
  have hF3 : Array.foldl (fun cs x => cs.setIfInBounds (1 + x.snd) x.fst) (Z54.setIfInBounds 0 (Value.int IntKind.u64 s.now)) R.zipIdx 0 64 = F := by
    rw [← hF]
    congr 1
    simp [hRs]
  have hze : (Z54 = #[]) = False := by
    rw [eq_iff_iff, iff_false]
    intro e
    have := congrArg Array.size e
    rw [z54_size] at this
    cases this
  clear hF hF1 hF2
  have hz := zero54
  have hsz := z54_size
  go_enter Try.func16, Try.ntmps16
  go_upto_region 3 with (go_at_call 25; refine HN.out.mono ?_; rintro e w' ⟨rfl, rfl⟩)
  refine wp_region_plan (fun w' => ∃ W : ClsW (InB X.heap.size X), w' = W.val) (.step [0, 1, 2, 3, 4, 5, 6, 7, 8, 9, 10, 11] 12 (.step [13] 14 (.fin [15]))) (by kernel_rfl) (by kernel_rfl) (by rw [HX.out.1]; exact ⟨⟨X, Below.refl _ _, Nat.le_refl _⟩, rfl⟩) ?_
  rw [HX.out.1]
  refine plan_step [_, _, _, _, _, _, _, _, _, _, _, _] [_] rfl rfl ?_
  repeat (first | (refine wpQuiet_load 51 _ rfl (by rfl) _ (by exact HLD.out) ?_; simp only [Act.put, List.setIfInBounds_toArray, List.set_cons_succ, List.set_cons_zero]) | go_big_quiet_step (fail))
  refine wpQuiet_nil ?_
  go_wp2_with fail
  refine HMC.out.mono ?_
  rintro e V ⟨rfl, hm, hV⟩
  have HV := Lib.hid (And.intro hm hV)
  clear hm hV
  go_wp2_with fail
  refine Lib.hid ⟨⟨⟨V, HV.out.2, HV.out.2.size⟩, rfl⟩, ?_⟩
  refine plan_step [_] [_] rfl rfl ?_
  try simp only [Act.put, List.setIfInBounds_toArray, List.set_cons_succ, List.set_cons_zero]
  repeat (go_big_quiet_step (fail))
  refine wpQuiet_nil ?_
  clear hF3 hze hz hsz
  go_wp2_with fail
  have HB : Hid (Below X.heap.size X (V.alloc (.cells (F.setIfInBounds 65 (.map (some X.heap.size))) 54))) := Lib.hid (HV.out.2.trans ((bel_alloc _ _).mono HV.out.2.size))
  refine Lib.hid ⟨⟨⟨_, HB.out, HB.out.size⟩, rfl⟩, ?_⟩
  refine plan_fin [_] rfl ?_
  try simp only [Act.put, List.setIfInBounds_toArray, List.set_cons_succ, List.set_cons_zero]
  repeat (go_big_quiet_step (fail))
  refine wpQuiet_nil ?_
  clear hRs hFs
  go_wp2_with fail
  refine post_name fun W hW => ?_
  have hgW : W.heap[V.heap.size]? = some (.cells (F.setIfInBounds 65 (.map (some X.heap.size))) 54 (0, 0)) := by rw [hW]; exact heap_alloc_new _ _
  have hVW : Below V.heap.size V W := by rw [hW]; exact bel_alloc _ _
  have HWW := Lib.hid (And.intro hgW hVW)
  clear hW hgW hVW
  go_ret
  obtain ⟨hgW, hVW⟩ := HWW.out
  have hXW := HV.out.2.trans (hVW.mono HV.out.2.size)
  have hwX := HX.out.2.2.2
  obtain ⟨hF2, hFs, hRs⟩ := HF.out
  have hrl : R.toList.length = 64 := by rw [Array.length_toList, hRs]
  have hzs : (Z54.setIfInBounds 0 (Value.int IntKind.u64 s.now)).size = 66 := by simp [z54_size]
  refine ⟨_, _, rfl, ⟨⟨_, hgW, by simp [hFs], ?_, ?_, fun k hk => ?_⟩, HV.out.1.below hVW, hwX.ok, hwX.len⟩, HX.out.2.1.trans (hXW.mono HX.out.2.1.size), ?_, ?_⟩
  · rw [Array.getElem?_setIfInBounds_ne (by decide), hF2 0, if_neg (by omega), Array.getElem?_setIfInBounds_self_of_lt (by rw [z54_size]; decide)]
  · rw [Array.getElem?_setIfInBounds_self_of_lt (by rw [hFs]; decide)]
  · rw [Array.getElem?_setIfInBounds_ne (by omega), hF2 (k + 1), if_pos ⟨by omega, by omega, by omega⟩, show k + 1 - (1 + 0) = k by omega, Array.getElem?_toList, ← HC.out.2.2.2.2.2, Array.getElem?_extract, if_pos (by rw [HC.out.2.1]; omega), Nat.add_comm 1 k]
    exact (HC.out.2.2.2.2.1 k hk).keptE hXW.size (fun b hb _ => hXW.block b hb)
  · rw [← HX.out.2.2.1]
    exact HV.out.2.size
  · rw [← HX.out.2.2.1]
    exact Nat.le_refl _
end Go.Proofs.Ytdebaoimhijnkaa
