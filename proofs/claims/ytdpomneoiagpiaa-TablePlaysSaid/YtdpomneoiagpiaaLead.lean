/- Lead. -/
import Derived.Test.YtdpomneoiagpiaaLaw1
set_option linter.unusedVariables false
namespace Go.Proofs.Ytdpomneoiagpiaa
open Go.RowKit Go.Deep Go.BigFrame
attribute [local go_sem ↓] Go.wp_at_zero Go.wp_at_succ
theorem set5 (w : World) (q o : Nat) (t : Tup) : w.setCells q o t.cells = (((((w.setCell ⟨q, o, none⟩ (.int .u8 t.proto)).setCell ⟨q, o + 1, none⟩ (.int .u32 t.src)).setCell ⟨q, o + 2, none⟩ (.int .u32 t.dst)).setCell ⟨q, o + 3, none⟩ (.int .u16 t.sp)).setCell ⟨q, o + 4, none⟩ (.int .u16 t.dp)) := rfl
theorem out_arr (o : Tup) (f : Fl) (r : Nat) (hr : r < 12) : (outTo o f).arr[r]? = if 6 ≤ r ∧ r < 11 then o.cells[r - 6]? else f.arr[r]? := by
  match r, hr with
  | 0, _ => rfl
  | 1, _ => rfl
  | 2, _ => rfl
  | 3, _ => rfl
  | 4, _ => rfl
  | 5, _ => rfl
  | 6, _ => rfl
  | 7, _ => rfl
  | 8, _ => rfl
  | 9, _ => rfl
  | 10, _ => rfl
  | 11, _ => rfl
theorem lead_fin {w V : World} {g c b1 b2 N ba k : Nat} {s : TS} {f : Fl} {cur cur' : Array Value} (h : Tb w g (some ⟨ba, 0, none⟩) c b1 b2 N s) (ho : s.Ok) (hf : s.L[k]? = some f) (o : Tup) (hoo : o.Ok) (hc : outF s.L o = 0 ∨ outF s.L o = f.id) (hN : N < 1000000)
    (hbc : w.heap[ba]? = some (.cells cur 38 (0, 0))) (hg : V.heap[g]? = w.heap[g]?) (hi : V.heap[b1]? = w.heap[b1]?) (hba : V.heap[ba]? = some (.cells cur' 38 (0, 0))) (hs : cur'.size = cur.size)
    (hcur : ∀ j : Nat, cur'[j]? = if k * 12 + 6 ≤ j ∧ j < k * 12 + 6 + o.cells.length ∧ j < cur.size then o.cells[j - (k * 12 + 6)]? else cur[j]?)
    (hm : MapF V b2 (N + 1) (fun y => if o ≠ Tup.zero ∧ y = o then f.id else if y = f.out then 0 else outF s.L y)) : Tb V g (some ⟨ba, 0, none⟩) c b1 b2 (N + 1) (modS s k (outTo o)) := by
  have hml : (modS s k (outTo o)).L.length = s.L.length := List.length_modify ..
  obtain ⟨hsz, hcr⟩ := own_cur h.own rfl hbc
  have hkl := (List.getElem?_eq_some_iff.1 hf).1
  have h5 : o.cells.length = 5 := rfl
  refine { heap := ?_, own := ?_, inn := ?_, out := ?_, ne := h.ne, nN := by omega }
  · rw [hg, h.heap]
    unfold tcells
    rw [hml]
    rfl
  · rw [hml]
    refine own_modify (outTo o) h.own hf rfl hbc hba hs fun j hj => ?_
    rw [hcur j, h5]
    by_cases hj2 : k * 12 ≤ j ∧ j < k * 12 + 12
    · rw [if_pos hj2, out_arr o f (j - k * 12) (by omega)]
      by_cases hj3 : 6 ≤ j - k * 12 ∧ j - k * 12 < 11
      · rw [if_pos hj3, if_pos (by omega), show j - (k * 12 + 6) = j - k * 12 - 6 by omega]
      · rw [if_neg hj3, if_neg (by omega), ← hcr k f hf (j - k * 12) (by omega)]
        congr 1
        omega
    · rw [if_neg hj2, if_neg (by omega)]
  · exact ((h.inn.keptE hi).mono (Nat.le_succ _)).congr fun t _ => (innF_modify hf (outTo o) rfl rfl t).symm
  · exact hm.congr fun t _ => (outF_lead ho hf hoo hc t).symm
section
variable {w : World} {g c b1 b2 N : Nat} {A : Option Addr} {s : TS}
set_option maxHeartbeats 1600000
theorem lead1_there (h : Tb w g A c b1 b2 N s) (ho : s.Ok) (o : Tup) (hoo : o.Ok) (k : Int) (u : Addr) (id : Int) (pb qb rb : Nat)
    (hp : w.cell? ⟨pb, 0, none⟩ = some (.pointer (some ⟨g, 0, none⟩))) (hr : w.cell? ⟨rb, 0, none⟩ = some (.int .u64 id)) (hq : ∀ i, i < 5 → w.cell? ⟨qb, i, none⟩ = o.cells[i]?)
    (h0 : outF s.L o ≠ 0) (h1 : outF s.L o ≠ id) :
    Calls Try.prog 41 #[.int .i64 k, .pointer (some u), .pointer (some ⟨pb, 0, none⟩), .pointer (some ⟨qb, 0, none⟩), .pointer (some ⟨rb, 0, none⟩)] w fun e w' => ∃ n, e = .returned (.int .i64 n) ∧ n = 9 ∧ ∃ m, w' = w.drewN m := by
  have c3 := h.c3
  have hl := fun q => ((h.below (below_drewN (Below.refl _ _) q)).out.look hoo).1
  obtain ⟨x, hx⟩ : ∃ x, outF s.L o = x := ⟨_, rfl⟩
  rw [hx] at hl h0 h1
  have q0 : w.cell? ⟨qb, 0, none⟩ = some (.int .u8 o.proto) := hq 0 (by omega)
  have q1 : w.cell? ⟨qb, 1, none⟩ = some (.int .u32 o.src) := hq 1 (by omega)
  have q2 : w.cell? ⟨qb, 2, none⟩ = some (.int .u32 o.dst) := hq 2 (by omega)
  have q3 : w.cell? ⟨qb, 3, none⟩ = some (.int .u16 o.sp) := hq 3 (by omega)
  have q4 : w.cell? ⟨qb, 4, none⟩ = some (.int .u16 o.dp) := hq 4 (by omega)
  have t0 : (x != 0) = true := by simpa using h0
  have t1 : (x != id) = true := by simpa using h1
  unfold Tup.val at hl
  clear h ho hoo hx hq h0 h1
  go_enter Try.func41, Try.ntmps41
  go_wp2
  go_quiet (fail)
  go_wp2
  go_ret
  exact ⟨9, rfl, rfl, _, rfl⟩
theorem lead1_ok (h : Tb w g A c b1 b2 N s) (ho : s.Ok) (o : Tup) (hoo : o.Ok) (k : Nat) (f : Fl) (hf : s.L[k]? = some f) (ba : Nat) (hA : A = some ⟨ba, 0, none⟩) (pb qb rb : Nat)
    (hp : w.cell? ⟨pb, 0, none⟩ = some (.pointer (some ⟨g, 0, none⟩))) (hr : w.cell? ⟨rb, 0, none⟩ = some (.int .u64 f.id)) (hq : ∀ i, i < 5 → w.cell? ⟨qb, i, none⟩ = o.cells[i]?)
    (np : ¬ Blk g A b1 b2 pb) (nq : ¬ Blk g A b1 b2 qb) (nr : ¬ Blk g A b1 b2 rb) (hc : outF s.L o = 0 ∨ outF s.L o = f.id) (hid : (Lit.int .u64 f.id).wf = true) (hN : N < 1000000) :
    Calls Try.prog 41 #[.int .i64 k, .pointer (some ⟨ba, k * 12, none⟩), .pointer (some ⟨pb, 0, none⟩), .pointer (some ⟨qb, 0, none⟩), .pointer (some ⟨rb, 0, none⟩)] w fun e w' => ∃ n, e = .returned (.int .i64 n) ∧ n = 0 ∧ Tb w' g A c b1 b2 (N + 1) (modS s k (outTo o)) ∧ Turns (Blk g A b1 b2) w w' := by
  have c3 := h.c3
  have hl := fun q => ((h.below (below_drewN (Below.refl _ _) q)).out.look hoo).1
  obtain ⟨ba', cur, hA', hbl, hat, hbc, n0, n1, n2⟩ := h.at hf
  subst hA
  injection hA' with hA'
  injection hA' with hA'
  subst hA'
  have hft := ho.tup f (List.mem_of_getElem? hf)
  obtain ⟨x, hx⟩ : ∃ x, outF s.L o = x := ⟨_, rfl⟩
  rw [hx] at hl hc
  obtain ⟨id, hide⟩ : ∃ id, f.id = id := ⟨_, rfl⟩
  rw [hide] at hc hr
  have q0 : w.cell? ⟨qb, 0, none⟩ = some (.int .u8 o.proto) := hq 0 (by omega)
  have q1 : w.cell? ⟨qb, 1, none⟩ = some (.int .u32 o.src) := hq 1 (by omega)
  have q2 : w.cell? ⟨qb, 2, none⟩ = some (.int .u32 o.dst) := hq 2 (by omega)
  have q3 : w.cell? ⟨qb, 3, none⟩ = some (.int .u16 o.sp) := hq 3 (by omega)
  have q4 : w.cell? ⟨qb, 4, none⟩ = some (.int .u16 o.dp) := hq 4 (by omega)
  have H := Lib.hid h
  have HO := Lib.hid ho
  have HF := Lib.hid hf
  have HN := Lib.hid (And.intro n0 (And.intro n1 n2))
  have HB := Lib.hid (And.intro hbc hbl)
  have HX := Lib.hid (And.intro hx (And.intro hide hc))
  have HAT := Lib.hid hat
  have HFT := Lib.hid hft
  have HQ := Lib.hid hq
  have HNP := Lib.hid (And.intro np (And.intro nq nr))
  have HNN := Lib.hid (And.intro hN hid)
  unfold Tup.val at hl
  have HOO := Lib.hid hoo
  obtain ⟨tst, ht⟩ : ∃ tst, (x != 0 && x != id) = tst := ⟨_, rfl⟩
  have htf : tst = false := by rw [← ht]; rcases hc with rfl | rfl <;> simp
  clear h ho hoo hx hq hf hat hbc hbl hft n0 n1 n2 hN hid np nq nr hide
  go_enter Try.func41, Try.ntmps41
  go_wp2
  go_quiet (fail)
  have hid0 : ¬ id = 0 := by
    have := (HO.out.ids f (List.mem_of_getElem? HF.out)).1
    rw [HX.out.2.1] at this
    omega
  obtain ⟨z, hz⟩ : ∃ z, decide (o = Tup.zero) = z := ⟨_, rfl⟩
  have HZE := Lib.hid hz
  have HZ := Lib.hid (fun W => zero_any o W)
  rw [hz] at HZ
  clear hz
  rcases hc with rfl | rfl
  all_goals
    go_wp2
    refine wp_name fun W hW => ?_
    have hBW : Below w.heap.size w W := by rw [hW]; exact below_drewN (Below.refl _ _) _
    have hTW := H.out.below hBW
    obtain ⟨X, hX, hXo, hXg⟩ : ∃ X, (∀ ty, (Builtin.delete_ #[70, 33] ty #[.map (some b2), .agg #[.int .u8 f.out.proto, .int .u32 f.out.src, .int .u32 f.out.dst, .int .u16 f.out.sp, .int .u16 f.out.dp]]).run Try.prog W.drew = .ok (.tuple #[]) X) ∧ MapF X b2 N (fun y => if y = f.out then 0 else outF s.L y) ∧ W.grownBy X (some b2) := by
      obtain ⟨X, e1, e2, e3⟩ := hTW.out.drew.drop HFT.out.2.1 0
      exact ⟨X, fun ty => e1, e2, grown_trans (grown_drew (World.grownBy.refl _ _)) e3⟩
    have hsz : w.heap.size ≤ W.heap.size := hBW.size
    obtain ⟨np, nq, nr⟩ := HNP.out
    have hXe : ∀ b i v, w.cell? ⟨b, i, none⟩ = some v → b ≠ b2 → X.cell? ⟨b, i, none⟩ = some v := fun b i v hv hne => hXg.cell ((hBW.cell (p := ⟨b, i, none⟩) (World.block_lt_of_cell? w _ hv)).trans hv) (by simpa using hne)
    have d3 := hTW.c3
    have wp := (hBW.cell (p := ⟨pb, 0, none⟩) (World.block_lt_of_cell? w _ hp)).trans hp
    have hatW := HAT.out.below hBW HB.out.2
    have k6 := hatW.k6
    have k7 := hatW.k7
    have k8 := hatW.k8
    have k9 := hatW.k9
    have k10 := hatW.k10
    have nqb2 : qb ≠ b2 := fun e => nq (.inr (.inr (.inl e)))
    have xp := hXe pb 0 _ hp (fun e => np (.inr (.inr (.inl e))))
    have xr := hXe rb 0 _ hr (fun e => nr (.inr (.inr (.inl e))))
    have xq0 : X.cell? ⟨qb, 0, none⟩ = some (.int .u8 o.proto) := hXe qb _ _ q0 nqb2
    have xq1 : X.cell? ⟨qb, 1, none⟩ = some (.int .u32 o.src) := hXe qb _ _ q1 nqb2
    have xq2 : X.cell? ⟨qb, 2, none⟩ = some (.int .u32 o.dst) := hXe qb _ _ q2 nqb2
    have xq3 : X.cell? ⟨qb, 3, none⟩ = some (.int .u16 o.sp) := hXe qb _ _ q3 nqb2
    have xq4 : X.cell? ⟨qb, 4, none⟩ = some (.int .u16 o.dp) := hXe qb _ _ q4 nqb2
    have hXba : X.heap[ba]? = some (.cells cur 38 (0, 0)) := ((hXg.block _ (by have := HB.out.2; omega) (by simpa using HN.out.2.2)).trans (hBW.block _ HB.out.2)).trans HB.out.1
    have hXs : ∀ i, i < 5 → (X.cell? ⟨ba, k * 12 + 6 + i, none⟩).isSome = true := fun i hi => by
      have := own_cur H.out.own rfl HB.out.1
      have hk := (List.getElem?_eq_some_iff.1 HF.out).1
      rw [cell_of hXba, Array.getElem?_eq_getElem (by omega)]
      rfl
    have hXf : ∀ i, X.frozen? ⟨ba, i, none⟩ = false := fun i => free_of hXba i
    obtain ⟨v6, xv6⟩ := Option.isSome_iff_exists.1 (hXs 0 (by omega))
    obtain ⟨v7, xv7⟩ := Option.isSome_iff_exists.1 (hXs 1 (by omega))
    obtain ⟨v8, xv8⟩ := Option.isSome_iff_exists.1 (hXs 2 (by omega))
    obtain ⟨v9, xv9⟩ := Option.isSome_iff_exists.1 (hXs 3 (by omega))
    obtain ⟨v10, xv10⟩ := Option.isSome_iff_exists.1 (hXs 4 (by omega))
    have nqba : ¬ qb = ba := fun e => nq (.inr (.inr (.inr (by rw [e]))))
    have HBW := Lib.hid (And.intro hBW (And.intro hTW (And.intro hXo (And.intro hXg hXba))))
    have HW := Lib.hid hW
    have HXE := Lib.hid hXe
    clear hBW hTW hXo hXg hsz hW hXe nqb2 np nq nr hXs hXba hatW
    refine wp_region_tail 8 (by kernel_rfl) (by kernel_rfl) ?_
    simp only [List.take_succ_cons, List.take_zero, List.drop_succ_cons, List.drop_zero]
    repeat still_step
    refine wpStill_nil ?_
    go_wp2_with fail
    refine (HZ.out _).mono ?_
    rintro e V ⟨rfl, hbV⟩
    obtain ⟨Y, hY⟩ : ∃ Y, Y = X.setCells ba (k * 12 + 6) o.cells := ⟨_, rfl⟩
    obtain ⟨hBW, hTW, hXo, hXg, hXba⟩ := HBW.out
    obtain ⟨cur', hYba, hcs, hcc⟩ := heap_setCells o.cells (k * 12 + 6) hXba
    have hbV' : Below Y.heap.size Y V := by rw [hY]; exact hbV
    have hYg : X.grownBy Y (some ba) := by rw [hY]; exact grown_setCells _ _ _ _
    have hVe : ∀ b, b < w.heap.size → b ≠ b2 → b ≠ ba → V.heap[b]? = w.heap[b]? := fun b hb e1 e2 => by
      have a1 := hBW.size
      have a2 := hXg.size
      have a3 := hYg.size
      exact ((hbV'.block b (by omega)).trans (hYg.block b (by omega) (by simpa using e2))).trans ((hXg.block b (by omega) (by simpa using e1)).trans (hBW.block b hb))
    have hVc : ∀ b i v, X.cell? ⟨b, i, none⟩ = some v → b ≠ ba → V.cell? ⟨b, i, none⟩ = some v := fun b i v hv hne => by
      have := hYg.cell hv (by simpa using hne)
      exact (hbV'.cell (p := ⟨b, i, none⟩) (World.block_lt_of_cell? Y _ this)).trans this
    rw [← hY] at hYba
    have hVba : V.heap[ba]? = some (.cells cur' 38 (0, 0)) := (hbV'.block _ (Array.getElem?_eq_some_iff.1 hYba).1).trans hYba
    have hVm : MapF V b2 N (fun y => if y = f.out then 0 else outF s.L y) := (hXo.keptE (hYg.block _ hXo.lt (by simpa using HN.out.2.2.symm))).keptE (hbV'.block _ (Nat.lt_of_lt_of_le hXo.lt hYg.size))
    have hVT : Turns (Blk g (some ⟨ba, 0, none⟩) b1 b2) w V := (((Turns.below hBW).step hXg (by rintro k' e; cases e; exact .inl (.inr (.inr (.inl rfl))))).step hYg (by rintro k' e; cases e; exact .inl (.inr (.inr (.inr rfl))))).step (grown_below (r := none) hbV') (by rintro k' e; cases e)
    obtain ⟨np, nq, nr⟩ := HNP.out
    have vp := hVc pb 0 _ xp (fun e => np (.inr (.inr (.inr (by rw [e])))))
    have vr := hVc rb 0 _ xr (fun e => nr (.inr (.inr (.inr (by rw [e])))))
    have vq0 := hVc qb _ _ xq0 nqba
    have vq1 := hVc qb _ _ xq1 nqba
    have vq2 := hVc qb _ _ xq2 nqba
    have vq3 := hVc qb _ _ xq3 nqba
    have vq4 := hVc qb _ _ xq4 nqba
    have v3 : V.cell? ⟨g, 3, none⟩ = some (.map (some b2)) := cell_of ((hVe g H.out.lt H.out.ng2.symm HN.out.1.symm).trans H.out.heap) 3
    obtain ⟨Zw, hZr, hZo, hZg⟩ := hVm.drew.store HOO.out HNN.out.2 (by have := HNN.out.1; unfold maxLen; omega)
    have hZg' : V.grownBy Zw (some b2) := grown_trans (grown_drew (World.grownBy.refl _ _)) hZg
    have hZr' : (Instr.mapUpdate 70 (.map (some b2)) (.agg #[.int .u8 o.proto, .int .u32 o.src, .int .u32 o.dst, .int .u16 o.sp, .int .u16 o.dp]) (.int .u64 f.id)).run Try.prog V.drew = .ok () Zw := hZr
    rw [HX.out.2.1] at hZr'
    have HV := Lib.hid (And.intro hVe (And.intro hVba (And.intro hVm (And.intro hVT (And.intro hZo (And.intro hZg' (And.intro hcs hcc)))))))
    clear hVe hVc hVba hVm hVT hZo hZg hZg' hcs hcc hZr hYg hbV' hbV hYba hY hBW hTW hXo hXg hXba np nq nr xp xr xq0 xq1 xq2 xq3 xq4 xv6 xv7 xv8 xv9 xv10 hXf k6 k7 k8 k9 k10 wp d3 hX
    cases z with
    | true =>
      go_wp2
      go_ret
      obtain ⟨hVe, hVba, hVm, hVT, hZo, hZg', hcs, hcc⟩ := HV.out
      have hzz : o = Tup.zero := of_decide_eq_true HZE.out
      refine ⟨0, rfl, rfl, lead_fin H.out HO.out HF.out o HOO.out (by rw [HX.out.1]; first | exact .inl rfl | exact .inr HX.out.2.1.symm) HNN.out.1 HB.out.1 (hVe g H.out.lt H.out.ng2.symm HN.out.1.symm) (hVe b1 H.out.inn.lt H.out.ne HN.out.2.1.symm) hVba hcs hcc ((hVm.mono (Nat.le_succ _)).congr fun t _ => ?_), hVT⟩
      simp only [show ¬ (o ≠ Tup.zero ∧ t = o) from fun q => q.1 hzz, if_false]
    | false =>
      go_wp2
      refine wp_region_tail 6 (by kernel_rfl) (by kernel_rfl) ?_
      simp only [List.take_succ_cons, List.take_zero, List.drop_succ_cons, List.drop_zero]
      repeat still_step
      refine wpStill_nil ?_
      go_wp2
      go_ret
      obtain ⟨hVe, hVba, hVm, hVT, hZo, hZg', hcs, hcc⟩ := HV.out
      have hzz : o ≠ Tup.zero := of_decide_eq_false HZE.out
      have hVs := hVT.size
      have hZe : ∀ b, b < w.heap.size → b ≠ b2 → b ≠ ba → Zw.heap[b]? = w.heap[b]? := fun b hb e1 e2 => (hZg'.block b (by omega) (by simpa using e1)).trans (hVe b hb e1 e2)
      refine ⟨0, rfl, rfl, lead_fin H.out HO.out HF.out o HOO.out (by rw [HX.out.1]; first | exact .inl rfl | exact .inr HX.out.2.1.symm) HNN.out.1 HB.out.1 (hZe g H.out.lt H.out.ng2.symm HN.out.1.symm) (hZe b1 H.out.inn.lt H.out.ne HN.out.2.1.symm) ((hZg'.block _ (by have := HB.out.2; omega) (by simpa using HN.out.2.2)).trans hVba) hcs hcc (hZo.congr fun t _ => ?_), hVT.step hZg' (by rintro k' e; cases e; exact .inl (.inr (.inr (.inl rfl))))⟩
      by_cases hto : t = o
      · simp only [hto, if_true]
        simp [hzz]
      · simp only [hto, and_false, if_false]
theorem lead_any (h : Tb w g A c b1 b2 N s) (ho : s.Ok) (id : Int) (hid : (Lit.int .u64 id).wf = true) (o : Tup) (hoo : o.Ok) (hN : N < 1000000) :
    Calls Try.prog 15 #[.pointer (some ⟨g, 0, none⟩), .int .u64 id, o.val] w fun e w' => e = .returned (.int .i64 (leadE s id o)) ∧ Tb w' g A c b1 b2 (N + 1) (leadS s id o) ∧ Turns (Blk g A b1 b2) w w' := by
  obtain ⟨W, hW⟩ : ∃ W, W = ((w.alloc (.cells #[.pointer (some ⟨g, 0, none⟩)] 22)).alloc (.cells #[.int .u64 id] 27)).alloc (.cells #[.int .u8 o.proto, .int .u32 o.src, .int .u32 o.dst, .int .u16 o.sp, .int .u16 o.dp] 33) := ⟨_, rfl⟩
  have hB : Below w.heap.size w W := by rw [hW]; exact ((((Below.refl _ _).alloc (Nat.le_refl _) _).alloc (by simp) _).alloc (by simp; omega) _)
  have H := Lib.hid (h.below hB)
  have HB := Lib.hid hB
  have s0 : W.heap.size = w.heap.size + 1 + 1 + 1 := by rw [hW]; simp
  have p1 : W.cell? ⟨w.heap.size, 0, none⟩ = some (.pointer (some ⟨g, 0, none⟩)) := by rw [hW]; go_simp
  have p2 : W.cell? ⟨w.heap.size + 1, 0, none⟩ = some (.int .u64 id) := by rw [hW]; go_simp
  have p3 : ∀ i, i < 5 → W.cell? ⟨w.heap.size + 1 + 1, i, none⟩ = o.cells[i]? := fun i hi => by
    have hh : W.heap[w.heap.size + 1 + 1]? = some (.cells #[.int .u8 o.proto, .int .u32 o.src, .int .u32 o.dst, .int .u16 o.sp, .int .u16 o.dp] 33) := by
      rw [hW]
      have := heap_alloc_new ((w.alloc (.cells #[.pointer (some ⟨g, 0, none⟩)] 22)).alloc (.cells #[.int .u64 id] 27)) (.cells #[.int .u8 o.proto, .int .u32 o.src, .int .u32 o.dst, .int .u16 o.sp, .int .u16 o.dp] 33)
      simpa using this
    rw [cell_of hh]
    match i, hi with
    | 0, _ => rfl
    | 1, _ => rfl
    | 2, _ => rfl
    | 3, _ => rfl
    | 4, _ => rfl
  have hbk : ∀ k, Blk g A b1 b2 k → k < w.heap.size := fun k hk => h.blk hk
  have AT : Hid (Calls Try.prog 37 #[.pointer (some ⟨g, 0, none⟩), .int .u64 id, .func (.func 41) #[] #[.pointer (some ⟨w.heap.size, 0, none⟩), .pointer (some ⟨w.heap.size + 1 + 1, 0, none⟩), .pointer (some ⟨w.heap.size + 1, 0, none⟩)]] W fun e w' => e = .returned (.int .i64 (leadE s id o)) ∧ Tb w' g A c b1 b2 (N + 1) (leadS s id o) ∧ Turns (Blk g A b1 b2) w w') := by
    refine Lib.hid ?_
    have up : ∀ {w' : World} {s' : TS}, Tb w' g A c b1 b2 N s' → Tb w' g A c b1 b2 (N + 1) s' := fun t => { t with inn := t.inn.mono (Nat.le_succ _), out := t.out.mono (Nat.le_succ _), nN := by omega }
    cases hk : findK s.L id with
    | none =>
      have e1 : leadE s id o = 6 := by unfold leadE; rw [hk]
      have e2 : leadS s id o = s := by unfold leadS; rw [hk]
      rw [e1, e2]
      exact (at_none41 H.out ho id (find_none hk) _ _ _).mono fun e w' ⟨a1, a2⟩ => ⟨a1, up (H.out.below a2), Turns.below (hB.trans (a2.mono hB.size))⟩
    | some k =>
      obtain ⟨f, hf, hfid, hix, hkl⟩ := find_hit hk
      obtain ⟨ba, cur, rfl, -⟩ := h.at hf
      by_cases hth : outF s.L o ≠ 0 ∧ outF s.L o ≠ id
      · have e1 : leadE s id o = 9 := by unfold leadE; rw [hk]; simp only [if_pos hth]
        have e2 : leadS s id o = s := by unfold leadS; rw [hk]; simp only [if_pos hth]
        rw [e1, e2]
        refine (at_hit41 H.out ho id k hix hkl ba rfl _ _ _ (fun n w' => n = 9 ∧ Below w.heap.size w w') (fun X hX => ?_)).mono fun e w' ⟨n, a1, a2, a3⟩ => ⟨by rw [a1, a2], up (h.below a3), Turns.below a3⟩
        exact (lead1_there (H.out.below hX) ho o hoo k _ id w.heap.size (w.heap.size + 1 + 1) (w.heap.size + 1) ((hX.cell (p := ⟨_, _, none⟩) (by show w.heap.size < _; omega)).trans p1) ((hX.cell (p := ⟨_, _, none⟩) (by show w.heap.size + 1 < _; omega)).trans p2) (fun i hi => (hX.cell (p := ⟨_, _, none⟩) (by show w.heap.size + 1 + 1 < _; omega)).trans (p3 i hi)) hth.1 hth.2).mono
          fun e w' ⟨n, a1, a2, m, a3⟩ => ⟨n, a1, a2, by rw [a3]; exact hB.trans (below_drewN (hX.mono hB.size) m)⟩
      · have e1 : leadE s id o = 0 := by unfold leadE; rw [hk]; simp only [if_neg hth]
        have e2 : leadS s id o = modS s k (outTo o) := by unfold leadS; rw [hk]; simp only [if_neg hth]; rfl
        rw [e1, e2]
        refine (at_hit41 H.out ho id k hix hkl ba rfl _ _ _ (fun n w' => n = 0 ∧ Tb w' g (some ⟨ba, 0, none⟩) c b1 b2 (N + 1) (modS s k (outTo o)) ∧ Turns (Blk g (some ⟨ba, 0, none⟩) b1 b2) w w') (fun X hX => ?_)).mono fun e w' ⟨n, a1, a2, a3, a4⟩ => ⟨by rw [a1, a2], a3, a4⟩
        subst hfid
        exact (lead1_ok (H.out.below hX) ho o hoo k f hf ba rfl w.heap.size (w.heap.size + 1 + 1) (w.heap.size + 1) ((hX.cell (p := ⟨_, _, none⟩) (by show w.heap.size < _; omega)).trans p1) ((hX.cell (p := ⟨_, _, none⟩) (by show w.heap.size + 1 < _; omega)).trans p2) (fun i hi => (hX.cell (p := ⟨_, _, none⟩) (by show w.heap.size + 1 + 1 < _; omega)).trans (p3 i hi))
          (fun q => by have := hbk _ q; omega) (fun q => by have := hbk _ q; omega) (fun q => by have := hbk _ q; omega) (by rcases Decidable.em (outF s.L o = 0) with q | q; exact .inl q; exact .inr (Decidable.byContradiction fun q2 => hth ⟨q, q2⟩)) hid hN).mono
          fun e w' ⟨n, a1, a2, a3, a4⟩ => ⟨n, a1, a2, a3, (Turns.below (hB.trans (hX.mono hB.size))).trans a4 (fun i hi => .inl hi)⟩
  rw [hW] at AT
  clear h ho hoo hN hB p1 p2 p3 hbk s0 hW hid
  unfold Tup.val
  go_enter Try.func15, Try.ntmps15
  go_wp2_with fail
  refine AT.out.mono ?_
  rintro e w' ⟨rfl, ht, hT⟩
  have HT := Lib.hid (And.intro ht hT)
  clear ht hT
  go_wp2_with fail
  go_ret
  exact ⟨rfl, HT.out⟩
end
end Go.Proofs.Ytdpomneoiagpiaa
