/- Set, Stop. -/
import Derived.Test.YtdebaoimhijnkaaTake
set_option linter.unusedVariables false
namespace Go.Proofs.Ytdebaoimhijnkaa
open Go.RowKit Go.Deep Go.BigFrame
attribute [local go_sem ↓] Go.wp_at_zero Go.wp_at_succ
set_option maxHeartbeats 3200000
set_option maxRecDepth 100000
theorem takeS_none {s : WS} {id : Int} (h : findA s.L id = none) : takeS s id = s := by
  unfold takeS
  rw [drop_none h]
theorem take_any {w : World} {g b nn : Nat} {s : WS} (h : Wh w g b nn s) (id : Int) (hid : (Lit.int .u64 id).wf = true) (hnn : nn ≤ 1000) :
    Calls Try.prog 26 #[.pointer (some ⟨g, 0, none⟩), .int .u64 id] w fun e w' => e = .returned (.bool (findA s.L id).isSome) ∧ Wh w' g b nn (takeS s id) ∧ Turns (Two g b) w w' := by
  cases hf : findA s.L id with
  | none =>
    rw [takeS_none hf]
    exact (take_none h id hid hf).mono fun e w' ⟨h1, h2⟩ => ⟨h1, h.below h2, Turns.of h2⟩
  | some a => exact take_some h id hid a hf hnn
theorem stop_any {w : World} {g b nn : Nat} {s : WS} (h : Wh w g b nn s) (id : Int) (hid : (Lit.int .u64 id).wf = true) (hnn : nn ≤ 1000) :
    Calls Try.prog 11 #[.pointer (some ⟨g, 0, none⟩), .int .u64 id] w fun e w' => e = .returned (.int .i64 (if (findA s.L id).isSome then 0 else 6)) ∧ Wh w' g b nn (takeS s id) ∧ Turns (Two g b) w w' := by
  have HN := Lib.hid (none_any h)
  have HT := Lib.hid (take_any h id hid hnn)
  clear h hid hnn
  cases hf : (findA s.L id).isSome with
  | true =>
    rw [hf] at HT
    clear hf
    go_enter Try.func11, Try.ntmps11
    go_wp2_with (go_at_call 25; refine HN.out.mono ?_; rintro e w' ⟨rfl, rfl⟩)
    refine HT.out.mono ?_
    rintro e w' ⟨rfl, h1, h2⟩
    have H := Lib.hid (And.intro h1 h2)
    clear h1 h2
    go_wp2_with fail
    go_ret
    exact ⟨rfl, H.out⟩
  | false =>
    rw [hf] at HT
    clear hf
    go_enter Try.func11, Try.ntmps11
    go_wp2_with (go_at_call 25; refine HN.out.mono ?_; rintro e w' ⟨rfl, rfl⟩)
    refine HT.out.mono ?_
    rintro e w' ⟨rfl, h1, h2⟩
    have H := Lib.hid (And.intro h1 h2)
    clear h1 h2
    go_wp2_with fail
    go_ret
    exact ⟨rfl, H.out⟩
/-- Put in, in order. -/
def insL (L : List Al) (a : Al) : List Al := L.takeWhile (fun z => decide (ltF z a)) ++ a :: L.dropWhile (fun z => decide (ltF z a))
theorem ins_perm (L : List Al) (a : Al) : (insL L a).Perm (a :: L) := by
  unfold insL
  have h : (L.takeWhile (fun z => decide (ltF z a)) ++ a :: L.dropWhile (fun z => decide (ltF z a))).Perm (a :: (L.takeWhile (fun z => decide (ltF z a)) ++ L.dropWhile (fun z => decide (ltF z a)))) := List.perm_middle
  rwa [List.takeWhile_append_dropWhile] at h
theorem ins_perm2 (L : List Al) (a : Al) : (L ++ [a]).Perm (insL L a) := by
  refine List.Perm.trans ?_ (ins_perm L a).symm
  exact List.perm_append_comm
theorem ins_srt {L : List Al} {a : Al} (hs : L.Pairwise ltF) (hd : ∀ z ∈ L, z.id ≠ a.id) : (insL L a).Pairwise ltF := by
  unfold insL
  rw [List.pairwise_append]
  have h1 : ∀ z ∈ L.takeWhile (fun z => decide (ltF z a)), ltF z a := fun z hz => by
    have h := List.all_eq_true.1 (List.all_takeWhile (p := fun z => decide (ltF z a)) (l := L)) z hz
    simpa using h
  have h2 : ∀ z ∈ L.dropWhile (fun z => decide (ltF z a)), ltF a z := by
    have hsd : (L.dropWhile (fun z => decide (ltF z a))).Pairwise ltF := hs.sublist (List.dropWhile_sublist _)
    have hmem : ∀ z ∈ L.dropWhile (fun z => decide (ltF z a)), z ∈ L := fun z hz => (List.dropWhile_sublist _).subset hz
    have hhead : ∀ y, (L.dropWhile (fun z => decide (ltF z a))).head? = some y → ¬ ltF y a := fun y hy => by
      have := List.head?_dropWhile_not (fun z => decide (ltF z a)) L
      rw [hy] at this
      simpa using this
    cases hdw : L.dropWhile (fun z => decide (ltF z a)) with
    | nil => intro z hz; cases hz
    | cons y r =>
      rw [hdw] at hsd hmem hhead
      rw [List.pairwise_cons] at hsd
      have hy : ltF a y := by
        rcases ltF_tri (hd y (hmem y List.mem_cons_self)) with q | q
        · exact absurd q (hhead y rfl)
        · exact q
      intro z hz
      rcases List.mem_cons.1 hz with rfl | hz
      · exact hy
      · exact ltF_trans hy (hsd.1 z hz)
  refine ⟨hs.sublist (List.takeWhile_sublist _), ?_, fun x hx y hy => ?_⟩
  · rw [List.pairwise_cons]
    exact ⟨h2, hs.sublist (List.dropWhile_sublist _)⟩
  · rcases List.mem_cons.1 hy with rfl | hy
    · exact h1 x hx
    · exact ltF_trans (h1 x hx) (h2 y hy)
def setS (s : WS) (id t : Int) : WS := ⟨s.now, insL (dropA s.L id) ⟨id, t⟩⟩
theorem drop_no {L : List Al} {id : Int} : ∀ z ∈ dropA L id, z.id ≠ id := fun z hz => by
  unfold dropA at hz
  simpa using (List.mem_filter.1 hz).2
theorem find_dropped (L : List Al) (id : Int) : findA (dropA L id) id = none := by rw [findA_drop, if_pos rfl]
theorem setS_ok {s : WS} (h : s.Ok) {id t : Int} (hid : (Lit.int .u64 id).wf = true) (ht0 : 0 ≤ t) (htM : t ≤ 1099511627776) : (setS s id t).Ok := by
  have hp := ins_perm (dropA s.L id) ⟨id, t⟩
  have hk := takeS_ok h id
  have hd : (⟨id, t⟩ :: dropA s.L id : List Al).Pairwise (fun a b => a.id ≠ b.id) := by
    rw [List.pairwise_cons]
    exact ⟨fun z hz => (drop_no z hz).symm, hk.als.2⟩
  refine ⟨⟨fun a ha => ?_, (hp.pairwise_iff (fun {a b} q => q.symm)).2 hd⟩, ins_srt hk.srt (fun z hz => drop_no z hz), h.now0, h.nowM, fun a ha => ?_⟩
  · rcases List.mem_cons.1 (hp.mem_iff.1 ha) with rfl | ha
    · exact ⟨hid, wf64 ht0 (show t ≤ _ by omega)⟩
    · exact hk.als.1 a ha
  · rcases List.mem_cons.1 (hp.mem_iff.1 ha) with rfl | ha
    · exact htM
    · exact hk.tM a ha
theorem setS_len {s : WS} {id t : Int} {nn : Nat} (h : s.L.length ≤ nn) : (setS s id t).L.length ≤ nn + 1 := by
  show (insL (dropA s.L id) ⟨id, t⟩).length ≤ nn + 1
  rw [(ins_perm _ _).length_eq]
  have := (drop_sub s.L id).length_le
  simp
  omega
theorem set_arg {w : World} {g b nn : Nat} {s : WS} (h : Wh w g b nn s) (id t : Int) (ht : 1099511627776 < t) :
    Calls Try.prog 9 #[.pointer (some ⟨g, 0, none⟩), .int .u64 id, .int .u64 t] w fun e w' => e = .returned (.int .i64 1) ∧ w = w' := by
  have HN := Lib.hid (none_any h)
  clear h
  go_enter Try.func9, Try.ntmps9
  go_wp2_with (go_at_call 25; refine HN.out.mono ?_; rintro e w' ⟨rfl, rfl⟩)
  go_ret
  exact ⟨rfl, rfl⟩
theorem set_ok {w : World} {g b nn : Nat} {s : WS} (h : Wh w g b nn s) (id t : Int) (hid : (Lit.int .u64 id).wf = true) (ht0 : 0 ≤ t) (htM : t ≤ 1099511627776) (hnn : nn ≤ 900) :
    Calls Try.prog 9 #[.pointer (some ⟨g, 0, none⟩), .int .u64 id, .int .u64 t] w fun e w' => e = .returned (.int .i64 0) ∧ Wh w' g b (nn + 1) (setS s id t) ∧ Turns (Two g b) w w' := by
  have HN := Lib.hid (none_any h)
  have HT := Lib.hid (take_any h id hid (by omega))
  obtain ⟨rb, hrb⟩ : ∃ rb, (findA s.L id).isSome = rb := ⟨_, rfl⟩
  rw [hrb] at HT
  obtain ⟨k, hk⟩ : ∃ k, slotOf ⟨id, t⟩ = k := ⟨_, rfl⟩
  have hk64 : k < 64 := by rw [← hk]; exact slot_lt _ ht0
  have hkm : t % 64 = (k : Int) := by
    unfold slotOf at hk
    simp only at hk
    omega
  have HK := Lib.hid hk
  have HOK := Lib.hid (And.intro h.ok (And.intro h.len hid))
  clear h hrb hk hid
  go_enter Try.func9, Try.ntmps9
  go_wp2_with (go_at_call 25; refine HN.out.mono ?_; rintro e w' ⟨rfl, rfl⟩)
  refine HT.out.mono ?_
  rintro e Y ⟨rfl, h', hT⟩
  obtain ⟨cs, q1, q2, q3, q4, q5⟩ := h'.heap
  obtain ⟨A, c, M, em, hal, hper⟩ := q5 k hk64
  obtain ⟨n, hn⟩ : ∃ n, M.length = n := ⟨_, rfl⟩
  have hn9 : n ≤ 1000 := by
    rw [← hn, hper.length_eq]
    have := List.length_filter_le (fun a => decide (slotOf a = k)) (takeS s id).L
    have := h'.len
    unfold atSlot
    omega
  have yk : Y.cell? ⟨g, 1 + k, none⟩ = some (.slice A n c) := by rw [cell_of q1, Nat.add_comm, em, hn]
  have HCL := Lib.hid (clone_any A c M n Y hn hal (by omega))
  have HW := Lib.hid (And.intro h' hT)
  have HC := Lib.hid (And.intro q1 (And.intro q2 (And.intro q3 (And.intro q4 q5))))
  have HMM := Lib.hid (And.intro hal (And.intro hper hn))
  clear h' hT q1 q2 q3 q4 q5 em hal hper hn HN HT
  go_wp2_with fail
  refine HCL.out.mono ?_
  rintro e Z ⟨v, rfl, ho, hZ⟩
  have hZA : Below Y.heap.size Y (Z.alloc (.cells (Al.arr ⟨id, t⟩) 66)) := hZ.trans ((bel_alloc _ _).mono hZ.size)
  obtain ⟨v2, V, a2, o2, gv⟩ := app66 (Z.alloc (.cells (Al.arr ⟨id, t⟩) 66)) Y.heap.size v n M (by obtain ⟨A1, c1, rfl⟩ := own_len ho; exact row_below ho (bel_alloc _ _)) (some ⟨Z.heap.size, 0, none⟩) 1 1 [⟨id, t⟩] rfl (als_one (heap_alloc_new _ _)) hZA.size (by omega)
  have hbV : Below Y.heap.size Y V := grown_bel hZA gv (fun j e => (ho.lt j e).1)
  obtain ⟨A2, c2, rfl⟩ := own_len o2
  have HA2 := Lib.hid a2
  unfold Al.arr at HA2
  have hgV := (hbV.block _ (Array.getElem?_eq_some_iff.1 HC.out.1).1).trans HC.out.1
  have fk : V.frozen? ⟨g, 1 + k, none⟩ = false := free_of hgV _
  have hsome : (V.cell? ⟨g, 1 + k, none⟩).isSome = true := by rw [cell_of hgV, Array.getElem?_eq_getElem (by rw [HC.out.2.1]; omega)]; rfl
  obtain ⟨y0, hy0⟩ := Option.isSome_iff_exists.1 hsome
  have HV := Lib.hid (And.intro o2 (And.intro hbV hgV))
  clear ho hZ hZA a2 o2 gv hbV hgV hsome yk
  go_upto_region 8 with (at_builtin; refine Lib.wpList_append_run _ rfl _ _ 50 50 rfl _ _ rfl rfl _ _ (by exact HA2.out _) ?_)
  refine wp_name fun W hW => ?_
  have hgW : W.heap[g]? = some (.cells (cs.setIfInBounds (1 + k) (.slice A2 (n + 1) c2)) 54 (0, 0)) := by rw [hW]; exact heap_set HV.out.2.2 _
  have hgrW : V.grownBy W (some g) := by rw [hW]; exact grown_setCell _ _ _ _
  have w65 : W.cell? ⟨g, 65, none⟩ = some (.map (some b)) := by
    rw [cell_of hgW, Array.getElem?_setIfInBounds_ne (by omega), HC.out.2.2.2.1]
  have hYW : Y.grownBy W (some g) := grown_trans (grown_below HV.out.2.1) hgrW
  have hbY : W.heap[b]? = Y.heap[b]? := hYW.block b HW.out.1.blt (by simpa using (fun e => HW.out.1.gb e.symm))
  have hgY : g < Y.heap.size := HW.out.1.glt
  have hrW : W.ownsRow Y.heap.size 66 2 (.slice A2 (n + 1) c2) (n + 1) (row (M ++ [⟨id, t⟩])) := row_keptE HV.out.1 (fun j e => hgrW.block _ (row_lt HV.out.1 e).1 (by
    have := own_from HV.out.1 j e
    intro q
    injection q with q
    omega))
  obtain ⟨R, hR, hRm, hRg⟩ := (HW.out.1.map.keptE hbY).store (a := ⟨id, t⟩) ⟨HOK.out.2.2, wf64 ht0 (show t ≤ _ by omega)⟩ (by unfold maxLen; omega) (find_dropped s.L id)
  have hR2 : (Instr.mapUpdate 52 (.map (some b)) (.int .u64 id) (.int .u64 t)).run Try.prog W = .ok () R := hR
  have HWW := Lib.hid (And.intro hgW (And.intro hYW (And.intro hrW (And.intro hRm (And.intro hRg hgY)))))
  clear hW hgW hgrW hYW hbY hrW hRm hRg hgY fk hy0 hR
  go_wp2_with fail
  go_ret
  obtain ⟨hgW, hYW, hrW, hRm, hRg, hgY⟩ := HWW.out
  have hgb := HW.out.1.gb
  have hgR : R.heap[g]? = some (.cells (cs.setIfInBounds (1 + k) (.slice A2 (n + 1) c2)) 54 (0, 0)) := (hRg.block g (Array.getElem?_eq_some_iff.1 hgW).1 (by simpa using hgb)).trans hgW
  have hTY : Turns (Two g b) Y R := (Turns.step (Turns.step (Turns.refl _ Y) hYW (fun j e => by injection e with e; exact .inl (.inl e.symm))) hRg (fun j e => by injection e with e; exact .inl (.inr e.symm)))
  have hap := HW.out.1.apart hTY
  have hbY := HW.out.1.blt
  have hrR : R.ownsRow Y.heap.size 66 2 (.slice A2 (n + 1) c2) (n + 1) (row (M ++ [⟨id, t⟩])) := row_keptE hrW (fun j e => hRg.block _ (row_lt hrW e).1 (by
    have := own_from hrW j e
    intro q
    injection q with q
    omega))
  have hle : (M ++ [(⟨id, t⟩ : Al)]).length = n + 1 := by rw [List.length_append, HMM.out.2.2]; rfl
  have hat : ∀ j, (atSlot (setS s id t).L j).Perm (atSlot (⟨id, t⟩ :: (takeS s id).L) j) := fun j => (ins_perm _ _).filter _
  have hdis := (takeS_ok HOK.out.1 id).als.2
  refine ⟨rfl, ⟨⟨_, hgR, by simp [HC.out.2.1], ?_, ?_, fun j hj => ?_⟩, ?_, setS_ok HOK.out.1 HOK.out.2.2 ht0 htM, setS_len HOK.out.2.1⟩, HW.out.2.trans hTY (fun j e => .inl e)⟩
  · rw [Array.getElem?_setIfInBounds_ne (by omega)]
    exact HC.out.2.2.1
  · rw [Array.getElem?_setIfInBounds_ne (by omega)]
    exact HC.out.2.2.2.1
  · have h2 := hat j
    by_cases e : j = k
    · subst e
      rw [Nat.add_comm 1 j, Array.getElem?_setIfInBounds_self_of_lt (by rw [HC.out.2.1]; omega)]
      refine ⟨A2, c2, M ++ [⟨id, t⟩], by rw [hle], AlsAt.own (B := Y.heap.size) (c := c2) (by rw [hle]; exact hrR), ?_⟩
      refine List.Perm.trans ?_ h2.symm
      unfold atSlot
      rw [List.filter_cons_of_pos (by simpa using HK.out)]
      refine List.Perm.trans List.perm_append_comm ?_
      exact (HMM.out.2.1).cons _
    · rw [Array.getElem?_setIfInBounds_ne (by omega)]
      obtain ⟨A3, c3, M3, e3, hal3, hp3⟩ := (HC.out.2.2.2.2 j hj).keptE hTY.size hap
      refine ⟨A3, c3, M3, e3, hal3, hp3.trans (List.Perm.trans ?_ h2.symm)⟩
      unfold atSlot
      rw [List.filter_cons_of_neg (by rw [HK.out]; simpa using fun q => e q.symm)]
  · refine hRm.perm (ins_perm2 _ _) ?_
    rw [List.pairwise_append]
    exact ⟨hdis, by simp, fun x hx y hy => by simp at hy; subst hy; exact drop_no x hx⟩
end Go.Proofs.Ytdebaoimhijnkaa
