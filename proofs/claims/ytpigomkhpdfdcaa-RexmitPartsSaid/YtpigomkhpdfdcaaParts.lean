/- The walk of RexmitParts. -/
import Derived.Test.YtpigomkhpdfdcaaFit
import Derived.Test.YtpigomkhpdfdcaaPcsLaw
import Derived.Test.YtpigomkhpdfdcaaSlc
import Derived.Deep.DeepCutAuto
set_option linter.unusedVariables false
namespace Go.Proofs.Ytpigomkhpdfdcaa
open Go.RowKit Go.Deep Go.BigFrame
attribute [local go_sem ↓] Go.wp_at_zero Go.wp_at_succ

/-- What loop 1 keeps: p bytes are in the second buffer, r are left. -/
def PaRel (WL : World) (g : Nat) (una : Int) (d k : Nat) (xs : List Int) (v74 v11 : Value) (wr : World) : Prop :=
  ∃ (i p r : Nat) (A : Option Addr) (c : Nat) (s : St) (AB : Option Addr) (cB : Nat), v74 = .int .i64 i ∧ v11 = .slice A r c ∧ i ≤ k ∧ p + r ≤ d ∧ d ≤ p + r ∧ Byt wr (.slice A r c) (xs.drop p) ∧
    Buf wr g AB cB s ∧ s.Ok ∧ s.data = xs.take p ∧ s.una = una ∧ s.sent = 0 ∧ s.win = 1000 ∧ WL.grownBy wr (some g)

/-- What loop 2 keeps: the first pieces, up to byte S, lie one behind the other. -/
def PaAll (WL : World) (d q : Nat) (ys : List Int) (v141 v20 : Value) (wr : World) : Prop :=
  ∃ (i S : Nat) (done : List (Nat × Nat)), v141 = .int .i64 i ∧ done ++ pcsOf q S d = pcsOf q 0 d ∧ done.length = i ∧ S ≤ d ∧ wr.ownsRow WL.heap.size 5 1 v20 S ((ys.take S).map (.int .u8)) ∧ Below WL.heap.size WL wr
theorem pcs_num (q d N : Nat) (hq : 1 ≤ q) (h : (pcsOf q 0 d).length = N) : ((d : Int) + (q : Int) - 1) / (q : Int) = (N : Int) := by
  have h1 := pcsOf_length q hq d d 0 (by omega)
  rw [h] at h1
  rw [h1, Int.natCast_ediv]
  congr 1
  omega
theorem own_base {w : World} {base : Nat} {e : TypeId} {size n : Nat} {v : Value} {xs : List Value} (h : w.ownsRow base e size v n xs) : ∀ k, v.ownBlock = some k → base ≤ k := by
  intro k hk
  rcases h.2 with ⟨rfl, _⟩ | ⟨g, cap, cur, rfl, hb, _⟩
  · simp [Value.ownBlock] at hk
  · have : g = k := by simpa [Value.ownBlock] using hk
    omega
theorem sendSt_all {s : St} {d : Nat} (h1 : s.data.length = d) (h2 : s.win = 1000) (h3 : d ≤ 300) (h4 : s.sent = 0) : (sendSt s).data = s.data ∧ (sendSt s).una = s.una ∧ (sendSt s).sent = d := by
  refine ⟨rfl, rfl, ?_⟩
  show max s.sent (sendEnd s) = d
  unfold sendEnd; rw [h1, h2, h4]; omega
theorem sendSt_ok {s : St} (h : s.Ok) : (sendSt s).Ok := by
  have := h.sent
  exact { h with sent := by show max s.sent (sendEnd s) ≤ s.data.length; unfold sendEnd; omega }
theorem sendEnd_all {s : St} {d : Nat} (h1 : s.data.length = d) (h2 : s.win = 1000) (h3 : d ≤ 300) : sendEnd s = d := by
  unfold sendEnd; rw [h1, h2]; omega

theorem writeSt_facts (s : St) (ys : List Int) (now : Int) : (writeSt s ys now).data = s.data ++ ys ∧ (writeSt s ys now).una = s.una ∧ (writeSt s ys now).sent = s.sent ∧ (writeSt s ys now).win = s.win := by
  unfold writeSt
  split <;> exact ⟨rfl, rfl, rfl, rfl⟩
theorem below_of_grown {w w1 w2 : World} {g : Nat} (h : Below w.heap.size w w1) (hg : w1.grownBy w2 (some g)) (hlt : w.heap.size ≤ g) : Below w.heap.size w w2 :=
  h.trans ⟨hg.os, hg.tape, hg.output, hg.size, fun k hk => hg.block k (Nat.lt_of_lt_of_le hk h.size) (by intro e; injection e; omega)⟩

set_option maxHeartbeats 400000 in
set_option maxRecDepth 100000 in
theorem parts_walk (una win rto tries : Int) (A : Option Addr) (m c : Nat) (xs : List Int) (P : Option Addr) (k kc : Nat) (ps : List Int) (mss : Int) (w : World) (u0 : 0 ≤ una) (u1 : una ≤ 4294967295) (w0 : 0 ≤ win) (w1 : win ≤ 4294967295) (r0 : 0 ≤ rto) (r1 : rto ≤ 18446744073709551615)
    (hm : xs.length = m) (hx : Byt w (.slice A m c) xs) (hxb : ∀ x ∈ xs, 0 ≤ x ∧ x ≤ 255) (hk : ps.length = k) (hp : Byt w (.slice P k kc) ps) (hpb : ∀ x ∈ ps, 0 ≤ x ∧ x ≤ 255) (y0 : 0 ≤ mss) (y1 : mss ≤ 255) :
    Calls Try.prog 4 #[.agg #[.int .u32 una, .int .u32 win, .int .u64 rto, .int .i64 tries], .slice A m c, .agg #[.slice P k kc, .int .u8 mss]] w fun e w' => e = .returned (.bool true) ∧ Below w.heap.size w w' := by
  have HF := Lib.hid (fun w => fit_any una win rto tries w w0 w1 r0 r1)
  obtain ⟨f1, f2, f3, f4, f5, f6⟩ := fit_bd win rto tries
  obtain ⟨W, hW⟩ : ∃ W, fitW win = W := ⟨_, rfl⟩
  obtain ⟨R, hR⟩ : ∃ R, fitR rto = R := ⟨_, rfl⟩
  obtain ⟨T, hT⟩ : ∃ T, fitT tries = T := ⟨_, rfl⟩
  rw [hW, hR, hT] at HF
  rw [hW] at f1 f2
  rw [hR] at f3 f4
  rw [hT] at f5 f6
  clear hW hR hT w0 w1 r0 r1
  obtain ⟨d, hd⟩ : ∃ d : Nat, (if (300 : Int) < (m : Int) then (300 : Int) else (m : Int)) = (d : Int) := ⟨min m 300, by split <;> omega⟩
  have hdm : d ≤ m ∧ d ≤ 300 := by split at hd <;> omega
  obtain ⟨-, hmc, hcm⟩ := hx.len_eq
  obtain ⟨-, hkk, hkm⟩ := hp.len_eq
  unfold maxLen at hcm hkm
  obtain ⟨ys, hys⟩ : ∃ ys, xs.take d = ys := ⟨_, rfl⟩
  have hyl : ys.length = d := by rw [← hys, List.length_take]; omega
  have HY : Hid (Byt w (.slice A d c) ys) := Lib.hid (by rw [← hys]; exact hx.cut d hdm.1)
  have HYB : Hid (∀ x ∈ ys, 0 ≤ x ∧ x ≤ 255) := Lib.hid (by rw [← hys]; exact fun x hx => hxb x (List.mem_of_mem_take hx))
  have HYL := Lib.hid hyl
  have HK := Lib.hid hk
  have HP := Lib.hid hp
  have HPB := Lib.hid hpb
  have hsl := fun W => run_slice_hi A m c d (by omega) W
  clear hm hx hxb hk hp hpb hys hyl
  go_enter Try.func4, Try.ntmps4
  go_wp2_with fail
  refine (HF.out _).mono ?_
  rintro e x1 ⟨rfl, hb⟩
  have HX1 := Lib.hid ((((Below.refl w.heap.size w).alloc (Nat.le_refl _) (Obj.cells #[.int .u32 una, .int .u32 win, .int .u64 rto, .int .i64 tries] 25)).alloc (by simp) (Obj.cells #[.slice P k kc, .int .u8 mss] 47)).trans (hb.mono (by simp; omega)))
  have hs1 : w.heap.size + 2 ≤ x1.heap.size := by have := hb.size; simp at this; omega
  have c0 := (hb.cell (p := ⟨w.heap.size, 0, none⟩) (by simp; omega)).trans (show _ = some (.int .u32 una) by go_simp)
  have c1 := (hb.cell (p := ⟨w.heap.size, 1, none⟩) (by simp; omega)).trans (show _ = some (.int .u32 win) by go_simp)
  have c2 := (hb.cell (p := ⟨w.heap.size, 2, none⟩) (by simp; omega)).trans (show _ = some (.int .u64 rto) by go_simp)
  have c3 := (hb.cell (p := ⟨w.heap.size, 3, none⟩) (by simp; omega)).trans (show _ = some (.int .i64 tries) by go_simp)
  have d0 := (hb.frozen (p := ⟨w.heap.size, 0, none⟩) (by simp; omega)).trans (show _ = false by go_simp)
  have d1 := (hb.frozen (p := ⟨w.heap.size, 1, none⟩) (by simp; omega)).trans (show _ = false by go_simp)
  have d2 := (hb.frozen (p := ⟨w.heap.size, 2, none⟩) (by simp; omega)).trans (show _ = false by go_simp)
  have d3 := (hb.frozen (p := ⟨w.heap.size, 3, none⟩) (by simp; omega)).trans (show _ = false by go_simp)
  have q0 := (hb.cell (p := ⟨w.heap.size + 1, 0, none⟩) (by simp)).trans (show _ = some (.slice P k kc) by go_simp)
  have q1 := (hb.cell (p := ⟨w.heap.size + 1, 1, none⟩) (by simp)).trans (show _ = some (.int .u8 mss) by go_simp)
  clear hb
  go_upto_region 4 with (fail)
  obtain ⟨X2, hX2⟩ : ∃ X2, X2 = (((((x1.setCell ⟨w.heap.size, 0, none⟩ (.int .u32 una)).setCell ⟨w.heap.size, 1, none⟩ (.int .u32 W)).setCell ⟨w.heap.size, 2, none⟩ (.int .u64 R)).setCell ⟨w.heap.size, 3, none⟩ (.int .i64 T)).setCell ⟨w.heap.size, 1, none⟩ (.int .u32 1000)) := ⟨_, rfl⟩
  rw [← hX2]
  have e0 : X2.cell? ⟨w.heap.size, 0, none⟩ = some (.int .u32 una) := by rw [hX2]; go_simp
  have e1 : X2.cell? ⟨w.heap.size, 1, none⟩ = some (.int .u32 1000) := by
    rw [hX2, World.cell?_setCell_same' _ _ _ (by go_simp)]
  have e2 : X2.cell? ⟨w.heap.size, 2, none⟩ = some (.int .u64 R) := by rw [hX2, World.cell?_setCell_other _ _ _ _ (by simp)]; go_simp
  have e3 : X2.cell? ⟨w.heap.size, 3, none⟩ = some (.int .i64 T) := by rw [hX2, World.cell?_setCell_other _ _ _ _ (by simp)]; go_simp
  have q0 : X2.cell? ⟨w.heap.size + 1, 0, none⟩ = some (.slice P k kc) := by rw [hX2]; go_simp
  have q1 : X2.cell? ⟨w.heap.size + 1, 1, none⟩ = some (.int .u8 mss) := by rw [hX2]; go_simp
  have HX2 : Hid (Below w.heap.size w X2) := Lib.hid (by rw [hX2]; exact ((((HX1.out.setCell (Nat.le_refl _) _).setCell (Nat.le_refl _) _).setCell (Nat.le_refl _) _).setCell (Nat.le_refl _) _).setCell (Nat.le_refl _) _)
  have hs2 : w.heap.size + 1 < X2.heap.size := by rw [hX2]; simp only [World.setCell, Array.size_modify]; omega
  clear hX2 c0 c1 c2 c3 d0 d1 d2 d3 HX1 hs1
  go_wp2_with fail
  refine (new_yes una 1000 R T _ (decide_eq_true ⟨f3, by omega, by omega, by omega, by omega⟩)).mono ?_
  rintro e x3 ⟨rfl, hh, hB⟩
  obtain ⟨g, hg⟩ : ∃ g, X2.heap.size = g := ⟨_, rfl⟩
  rw [hg] at hh hB hs2 ⊢
  have HOK0 : Hid ((newSt una 1000 R T).Ok) := Lib.hid (newSt_ok una 1000 R T u0 u1 (by omega) (decide_eq_true ⟨f3, by omega, by omega, by omega, by omega⟩))
  have HBUF3 : Hid (Buf x3 g none 0 (newSt una 1000 R T)) := Lib.hid ⟨hh, none, 0, rfl, Nat.le_refl _, by simp [maxLen], fun h => by simp [newSt] at h⟩
  have HX3 : Hid (Below w.heap.size w x3) := Lib.hid (HX2.out.trans (hB.mono (by omega)))
  have lt3 := HBUF3.out.lt
  replace e0 := (hB.cell (p := ⟨w.heap.size, 0, none⟩) (by show w.heap.size < _; omega)).trans e0
  replace e1 := (hB.cell (p := ⟨w.heap.size, 1, none⟩) (by show w.heap.size < _; omega)).trans e1
  replace e2 := (hB.cell (p := ⟨w.heap.size, 2, none⟩) (by show w.heap.size < _; omega)).trans e2
  replace e3 := (hB.cell (p := ⟨w.heap.size, 3, none⟩) (by show w.heap.size < _; omega)).trans e3
  replace q0 := (hB.cell (p := ⟨w.heap.size + 1, 0, none⟩) (by show w.heap.size + 1 < _; omega)).trans q0
  replace q1 := (hB.cell (p := ⟨w.heap.size + 1, 1, none⟩) (by show w.heap.size + 1 < _; omega)).trans q1
  clear hh hB hg HX2
  go_wp2_with fail
  refine (new_yes una 1000 R T _ (decide_eq_true ⟨f3, by omega, by omega, by omega, by omega⟩)).mono ?_
  rintro e x4 ⟨rfl, hh, hB⟩
  obtain ⟨g2, hg⟩ : ∃ g2, x3.heap.size = g2 := ⟨_, rfl⟩
  rw [hg] at hh hB lt3 ⊢
  have HBUF4 : Hid (Buf x4 g none 0 (newSt una 1000 R T)) := Lib.hid (HBUF3.out.below (by rw [hg]; exact hB))
  have HBUG4 : Hid (Buf x4 g2 none 0 (newSt una 1000 R T)) := Lib.hid ⟨hh, none, 0, rfl, Nat.le_refl _, by simp [maxLen], fun h => by simp [newSt] at h⟩
  have HX4 : Hid (Below w.heap.size w x4) := Lib.hid (HX3.out.trans (hB.mono (by omega)))
  have lt4 := HBUG4.out.lt
  replace e0 := (hB.cell (p := ⟨w.heap.size, 0, none⟩) (by show w.heap.size < _; omega)).trans e0
  replace q0 := (hB.cell (p := ⟨w.heap.size + 1, 0, none⟩) (by show w.heap.size + 1 < _; omega)).trans q0
  replace q1 := (hB.cell (p := ⟨w.heap.size + 1, 1, none⟩) (by show w.heap.size + 1 < _; omega)).trans q1
  clear hh hB hg HX3 e1 e2 e3 HBUF3
  go_wp2_with fail
  refine (awake_any _).mono ?_
  rintro e x5 ⟨rfl, hb⟩
  replace e0 := (hb.cell (p := ⟨w.heap.size, 0, none⟩) (by show w.heap.size < _; omega)).trans e0
  replace q0 := (hb.cell (p := ⟨w.heap.size + 1, 0, none⟩) (by show w.heap.size + 1 < _; omega)).trans q0
  replace q1 := (hb.cell (p := ⟨w.heap.size + 1, 1, none⟩) (by show w.heap.size + 1 < _; omega)).trans q1
  have HX5 : Hid (Below w.heap.size w x5) := Lib.hid (HX4.out.trans (hb.mono (by omega)))
  have HBUF5 := Lib.hid (HBUF4.out.below hb)
  have HBUG5 := Lib.hid (HBUG4.out.below hb)
  clear hb HX4 HBUF4 HBUG4 lt4
  go_wp2_with fail
  refine (write_ok g 0 none (newSt una 1000 R T) A d c ys 0 _ HBUF5.out HOK0.out HYL.out (HY.out.below HX5.out) (by simp [newSt]; omega) (by decide) (by decide) HYB.out).mono ?_
  rintro e x6 ⟨rfl, hg, A6, c6, hb⟩
  have hws := writeSt_facts (newSt una 1000 R T) ys 0
  have hwo := writeSt_ok (newSt una 1000 R T) ys 0 HOK0.out (by simp [newSt, HYL.out]; omega) HYB.out (by decide) (by decide)
  obtain ⟨sa, hsa⟩ : ∃ sa, writeSt (newSt una 1000 R T) ys 0 = sa := ⟨_, rfl⟩
  rw [hsa] at hws hwo hb
  have HSA : Hid (sa.data = ys ∧ sa.una = una ∧ sa.sent = 0 ∧ sa.win = 1000) := Lib.hid (by simpa [newSt] using hws)
  have HOA := Lib.hid hwo
  have HBUF6 := Lib.hid hb
  have HBUG6 : Hid (Buf x6 g2 none 0 (newSt una 1000 R T)) := Lib.hid (HBUG5.out.beside HBUF5.out hg (by omega))
  replace e0 := hg.cell e0 (by simp; omega)
  replace q0 := hg.cell q0 (by simp; omega)
  replace q1 := hg.cell q1 (by simp; omega)
  have HX6 : Hid (Below w.heap.size w x6) := Lib.hid (below_of_grown HX5.out hg (by omega))
  have HY6 : Hid (Byt x6 (.slice A d c) ys) := Lib.hid (HY.out.below HX6.out)
  have HP6 : Hid (Byt x6 (.slice P k kc) ps) := Lib.hid (HP.out.below HX6.out)
  have lt6 := HBUG6.out.lt
  clear hws hwo hsa hg hb HX5 HBUF5 HBUG5 HP hd hsl
  go_wp2_with fail
  go_loopw [74, 11] (fun v74 v11 wr => PaRel x6 g2 una d k ys v74 v11 wr) (fun v74 _ _ => k - (intOf v74).toNat)
  case atStart => exact ⟨0, 0, d, A, c, _, none, 0, rfl, rfl, by omega, by omega, by omega, HY6.out, HBUG6.out, HOK0.out, rfl, rfl, rfl, rfl, World.grownBy.refl _ _⟩
  case round =>
    obtain ⟨i, p, r, A', c', s, AB, cB, rfl, rfl, i0, p0, p1, hy, hb, ho, s1, s2, s3, s4, hgr⟩ := hrel
    obtain ⟨-, hrc, -⟩ := hy.len_eq
    by_cases hlt : i < k
    · obtain ⟨b, o, rfl, hbl, hcell⟩ := (HP6.out.keep hgr (HP6.out.apart HBUG6.out)).get hlt
      obtain ⟨v, hv⟩ : ∃ v, ps.getD i 0 = v := ⟨_, rfl⟩
      have hvb := getD_byte HPB.out i
      rw [hv] at hvb hcell
      obtain ⟨q, hq⟩ : ∃ q : Nat, (if (r : Int) < v then (r : Int) else v) = (q : Int) := ⟨(min v r).toNat, by split <;> omega⟩
      have hqr : q ≤ r := by split at hq <;> omega
      have hsl1 := fun W => run_slice_hi A' r c' q (by omega) W
      have hsl2 := fun W => run_slice_lo A' r c' q hqr W
      have hlen : ((ys.drop p).take q).length = q := by rw [List.length_take, List.length_drop, HYL.out]; omega
      have hmem : ∀ x ∈ (ys.drop p).take q, 0 ≤ x ∧ x ≤ 255 := fun x hx => HYB.out x (List.mem_of_mem_drop (List.mem_of_mem_take hx))
      have hsum : s.data.length + q ≤ 16384 := by rw [s1, List.length_take]; omega
      have HW := Lib.hid (write_ok g2 cB AB s A' q c' ((ys.drop p).take q) 0 wr hb ho hlen (hy.cut q hqr) hsum (by decide) (by decide) hmem)
      have HWO := Lib.hid (writeSt_ok s ((ys.drop p).take q) 0 ho (by rw [hlen]; exact hsum) hmem (by decide) (by decide))
      have HWF := Lib.hid (writeSt_facts s ((ys.drop p).take q) 0)
      have HFR := Lib.hid (hy.from q hqr)
      have HAP := Lib.hid ((hy.from q hqr).apart hb)
      have HS := Lib.hid (And.intro s1 (And.intro s2 (And.intro s3 s4)))
      have HGR := Lib.hid hgr
      clear hv hlen hmem hsum hy hb ho s1 s2 s3 s4 hgr
      go_wp2_with fail
      refine HW.out.mono ?_
      rintro e w2 ⟨rfl, hg, A2, c2, hb⟩
      have HG2 := Lib.hid hg
      have HB2 := Lib.hid hb
      clear hg hb
      go_wp2_with fail
      obtain ⟨s1, s2, s3, s4⟩ := HS.out
      obtain ⟨t1, t2, t3, t4⟩ := HWF.out
      refine ⟨⟨i + 1, p + q, r - q, cutA A' q c', c' - q, _, A2, c2, by simp, rfl, by omega, by omega, by omega, ?_, HB2.out, HWO.out, ?_, by rw [t2, s2], by rw [t3, s3], by rw [t4, s4], grown_trans HGR.out HG2.out⟩, by simp [intOf]; omega⟩
      · have := HFR.out.keep HG2.out HAP.out
        rwa [List.drop_drop] at this
      · rw [t1, s1, List.take_add]
    · obtain rfl : k = i := by omega
      have hlen : (ys.drop p).length = r := by rw [List.length_drop, HYL.out]; omega
      have hmem : ∀ x ∈ ys.drop p, 0 ≤ x ∧ x ≤ 255 := fun x hx => HYB.out x (List.mem_of_mem_drop hx)
      have hsum : s.data.length + r ≤ 16384 := by rw [s1, List.length_take]; omega
      have HW := Lib.hid (write_ok g2 cB AB s A' r c' (ys.drop p) 0 wr hb ho hlen hy hsum (by decide) (by decide) hmem)
      have hwo := writeSt_ok s (ys.drop p) 0 ho (by rw [hlen]; exact hsum) hmem (by decide) (by decide)
      have hwf := writeSt_facts s (ys.drop p) 0
      obtain ⟨sb, hsb⟩ : ∃ sb, writeSt s (ys.drop p) 0 = sb := ⟨_, rfl⟩
      rw [hsb] at HW hwo hwf
      rw [s1, s2, s3, s4, List.take_append_drop] at hwf
      have HSB : Hid (sb.data = ys ∧ sb.una = una ∧ sb.sent = 0 ∧ sb.win = 1000) := Lib.hid hwf
      have HOB := Lib.hid hwo
      have HBUF7 := Lib.hid (HBUF6.out.beside HBUG6.out hgr (by omega))
      have HBUG7 := Lib.hid hb
      have HX7 : Hid (Below w.heap.size w wr) := Lib.hid (below_of_grown HX6.out hgr (by omega))
      replace e0 := hgr.cell e0 (by simp; omega)
      replace q1 := hgr.cell q1 (by simp; omega)
      obtain ⟨q, hq⟩ : ∃ q : Nat, 1 + mss % 200 = (q : Int) := ⟨(1 + mss % 200).toNat, by omega⟩
      have hq1 : 1 ≤ q := by omega
      have hq2 : q ≤ 200 := by omega
      clear hlen hmem hsum hb ho s1 s2 s3 s4 hwf hwo hsb hy hgr q0 HY6 HP6 HBUG6 HBUF6 HX6
      go_wp2_with fail
      refine HW.out.mono ?_
      rintro e x8 ⟨rfl, hg, A8, c8, hb⟩
      have HBUF8 := Lib.hid (HBUF7.out.beside HBUG7.out hg (by omega))
      have HBUG8 := Lib.hid hb
      have HX8 : Hid (Below w.heap.size w x8) := Lib.hid (below_of_grown HX7.out hg (by omega))
      replace e0 := hg.cell e0 (by simp; omega)
      replace q1 := hg.cell q1 (by simp; omega)
      clear hg hb HBUF7 HBUG7 HX7 HW
      go_wp2_with fail
      (refine (send_ok g c6 A6 sa q _ HBUF8.out HOA.out (decide_eq_true ⟨by omega, by omega⟩)).mono ?_)
      rintro e x9 ⟨v9, rfl, hg, hb, hp⟩
      obtain ⟨t1, t2, t3, t4⟩ := HSA.out
      rw [t1, t2, t3, sendEnd_all (by rw [t1]; exact HYL.out) t4 hdm.2] at hp
      obtain ⟨N, hN⟩ : ∃ N, (pcsOf q 0 d).length = N := ⟨_, rfl⟩
      have hdiv := pcs_num q d N hq1 hN
      have hN2 : N ≤ 300 := by rw [← hN]; exact Nat.le_trans (pcsOf_len q 0 d) hdm.2
      obtain ⟨A9, k9, hv9⟩ := hp.len
      rw [hN] at hv9
      subst hv9
      have HPA9 := Lib.hid hp
      have HBUF9 := Lib.hid hb
      have HBUG9 := Lib.hid (HBUG8.out.beside HBUF8.out hg (by omega))
      have HX9 : Hid (Below w.heap.size w x9) := Lib.hid (below_of_grown HX8.out hg (by omega))
      have lt8 := HBUG8.out.lt
      have hs9 := hg.size
      replace e0 := hg.cell e0 (by simp; omega)
      replace q1 := hg.cell q1 (by simp; omega)
      have HN := Lib.hid hN
      clear hp hb hg hN t1 t2 t3 t4 HX8 HBUF8 HBUG8
      go_wp2_with fail
      (refine (send_ok g2 c8 A8 sb q _ HBUG9.out HOB.out (decide_eq_true ⟨by omega, by omega⟩)).mono ?_)
      rintro e x10 ⟨v10, rfl, hg, hb, hp⟩
      obtain ⟨t1, t2, t3, t4⟩ := HSB.out
      rw [t1, t2, t3, sendEnd_all (by rw [t1]; exact HYL.out) t4 hdm.2] at hp
      obtain ⟨A10, k10, hv10⟩ := hp.len
      rw [HN.out] at hv10
      subst hv10
      have HPB10 := Lib.hid hp
      have HPA10 := Lib.hid (HPA9.out.kept hg (by intro k hk; injection hk; omega))
      have HBUG10 := Lib.hid hb
      have HBUF10 := Lib.hid (HBUF9.out.beside HBUG9.out hg (by omega))
      have HX10 : Hid (Below w.heap.size w x10) := Lib.hid (below_of_grown HX9.out hg (by omega))
      replace e0 := hg.cell e0 (by simp; omega)
      have ltx : w.heap.size < x10.heap.size := by have := HBUG10.out.lt; omega
      clear hp hb hg t1 t2 t3 t4 HX9 HBUF9 HBUG9 HPA9 q1
      go_wp2_with fail
      clear hdiv hq
      go_loopw [141, 20] (fun v141 v20 wr => PaAll x10 d q ys v141 v20 wr) (fun v141 _ _ => N - (intOf v141).toNat)
      case atStart => exact ⟨0, 0, [], rfl, rfl, rfl, by omega, World.ownsRow_nil _ _ _ _, Below.refl _ _⟩
      case round =>
        obtain ⟨i, S, done, rfl, hdone, hi, hS, hown, hbel⟩ := hrel
        have hlenN : done.length + (pcsOf q S d).length = N := by rw [← HN.out, ← hdone, List.length_append]
        have HBEL := Lib.hid hbel
        have HOWN := Lib.hid hown
        have HDONE := Lib.hid hdone
        replace e0 := (hbel.cell (p := ⟨w.heap.size, 0, none⟩) ltx).trans e0
        obtain ⟨A20, k20, hv20⟩ := own_len hown
        subst hv20
        by_cases hlt : S < d
        · have hst := pcsOf_step q S d hq1 hlt
          obtain ⟨T, hT⟩ : ∃ T, min (S + q) d = T := ⟨_, rfl⟩
          rw [hT] at hst
          have hT1 : S < T := by omega
          have hT2 : T ≤ d := by omega
          have hiN : i < N := by rw [hst, List.length_cons] at hlenN; omega
          have hat : (pcsOf q 0 d)[i]? = some (S, T) := by rw [← hdone, hst, ← hi]; simp
          obtain ⟨L, hL⟩ : ∃ L, T - S = L := ⟨_, rfl⟩
          have hL1 : S + L ≤ T := by omega
          have hL2 : T ≤ S + L := by omega
          obtain ⟨ga, Aa, ka, rfl, ga0, ga1, a0, a1, a2⟩ := (HPA10.out.kept (row := none) (grown_below hbel) (by simp)).at hat
          obtain ⟨gb, Ab, kb, rfl, gb0, gb1, b0, b1, b2⟩ := (HPB10.out.kept (row := none) (grown_below hbel) (by simp)).at hat
          simp only [hL, Nat.mul_comm 2 i] at a0 a1 a2 b0 b1 b2
          have hsl : (seg ys S T).length = L := by rw [seg_len (by rw [HYL.out]; omega), hL]
          have HYA : Hid (Byt wr (.slice Aa L ka) (seg ys S T)) := Lib.hid (Byt.of_own (by rw [hsl]; exact a2))
          have HYBB : Hid (Byt wr (.slice Ab L kb) (seg ys S T)) := Lib.hid (Byt.of_own (by rw [hsl]; exact b2))
          have sa1 := fun n => (show Byt (wr.drewN n) (.slice Aa L ka) (seg ys S T) from HYA.out).str
          have sb1 := fun n => (show Byt (wr.drewN n) (.slice Ab L kb) (seg ys S T) from HYBB.out).str
          have HSL := Lib.hid hsl
          have HL := Lib.hid hL
          have HI := Lib.hid hi
          have HST := Lib.hid hst
          clear hdone hst hT hat hL hsl a2 b2 hi hown hbel hlenN
          go_wp2_with fail
          go_quiet ((go_at_call 16; exact Calls.quiet_of_same ((add_any _ _ _).mono fun e w' h => ⟨h.1, h.2.symm⟩)))
          obtain ⟨v2, w2, hr, ho2, hg2⟩ := run_append_byt (w := wr.drewN nq) x10.heap.size (.slice A20 S k20) S ((ys.take S).map (.int .u8)) HOWN.out Aa L ka (seg ys S T) HSL.out HYA.out (by omega) HBEL.out.size
          have HR := Lib.hid hr
          have HO2 : Hid (w2.ownsRow x10.heap.size 5 1 v2 T ((ys.take T).map (.int .u8))) := Lib.hid (by
            rw [← List.map_append, seg_next ys S T (by omega)] at ho2
            have : S + L = T := by omega
            rwa [this] at ho2)
          have HBE2 : Hid (Below x10.heap.size x10 w2) := Lib.hid ((below_drewN HBEL.out nq).grown hg2 HBEL.out.size (own_base HOWN.out))
          clear hr ho2 hg2
          go_wp2_with (at_builtin; refine Lib.wpList_append_run _ rfl _ _ 34 34 rfl _ _ rfl rfl _ _ (by exact HR.out) ?_)
          refine ⟨⟨i + 1, T, done ++ [(S, T)], by simp, ?_, by simp [HI.out], hT2, HO2.out, HBE2.out⟩, by simp [intOf]; omega⟩
          rw [← HDONE.out, HST.out]
          simp
        · obtain rfl : d = S := by omega
          have hpn : pcsOf q d d = [] := pcsOf_stop q d d hlt
          rw [hpn] at hlenN
          obtain rfl : N = i := by simp at hlenN; omega
          have hall : ys.take d = ys := List.take_of_length_le (by rw [HYL.out]; exact Nat.le_refl _)
          rw [hall] at hown
          have sa1 := (Byt.of_own (show wr.ownsRow x10.heap.size 5 1 (.slice A20 d k20) ys.length (ys.map (.int .u8)) by rw [HYL.out]; exact hown)).str
          have HXR : Hid (Below w.heap.size w wr) := Lib.hid (HX10.out.trans (hbel.mono (by omega)))
          have sb1 := (HY.out.below HXR.out).str
          have HBA := Lib.hid (HBUF10.out.below hbel)
          have HBB := Lib.hid (HBUG10.out.below hbel)
          have hA := sendSt_all (s := sa) (d := d) (by rw [HSA.out.1]; exact HYL.out) HSA.out.2.2.2 hdm.2 HSA.out.2.2.1
          have hB := sendSt_all (s := sb) (d := d) (by rw [HSB.out.1]; exact HYL.out) HSB.out.2.2.2 hdm.2 HSB.out.2.2.1
          have HNX := Lib.hid (nxt_any g c6 A6 _ wr HBA.out (sendSt_ok HOA.out))
          rw [hA.2.1, hA.2.2, HSA.out.2.1] at HNX
          have HEA := Lib.hid (fun W (hW : Below wr.heap.size wr W) => end_any g c6 A6 _ W (HBA.out.below hW) (sendSt_ok HOA.out))
          rw [hA.1, hA.2.1, HSA.out.1, HSA.out.2.1, HYL.out] at HEA
          have HEB := Lib.hid (fun W (hW : Below wr.heap.size wr W) => end_any g2 c8 A8 _ W (HBB.out.below hW) (sendSt_ok HOB.out))
          rw [hB.1, hB.2.1, HSB.out.1, HSB.out.2.1, HYL.out] at HEB
          clear hpn hlenN hall hown hbel hA hB hi hdone
          go_wp2_with fail
          refine HNX.out.mono ?_
          rintro e y1 ⟨rfl, hg1⟩
          have HL1 : Hid (Below wr.heap.size wr y1) := Lib.hid ⟨hg1.os, hg1.tape, hg1.output, hg1.size, fun k hk => hg1.block k hk (by simp)⟩
          clear hg1 HNX
          go_wp2_with fail
          refine (HEA.out _ HL1.out).mono ?_
          rintro e y2 ⟨rfl, hg1⟩
          have HL2 : Hid (Below wr.heap.size wr y2) := Lib.hid (HL1.out.trans ⟨hg1.os, hg1.tape, hg1.output, hg1.size, fun k hk => hg1.block k (Nat.lt_of_lt_of_le hk HL1.out.size) (by simp)⟩)
          clear hg1 HL1
          go_wp2_with fail
          refine (HEB.out _ HL2.out).mono ?_
          rintro e y3 ⟨rfl, hg1⟩
          have HL3 : Hid (Below wr.heap.size wr y3) := Lib.hid (HL2.out.trans ⟨hg1.os, hg1.tape, hg1.output, hg1.size, fun k hk => hg1.block k (Nat.lt_of_lt_of_le hk HL2.out.size) (by simp)⟩)
          clear hg1 HL2
          go_wp2_with fail
          refine (HEA.out _ HL3.out).mono ?_
          rintro e y4 ⟨rfl, hg1⟩
          have HL4 : Hid (Below wr.heap.size wr y4) := Lib.hid (HL3.out.trans ⟨hg1.os, hg1.tape, hg1.output, hg1.size, fun k hk => hg1.block k (Nat.lt_of_lt_of_le hk HL3.out.size) (by simp)⟩)
          clear hg1 HL3
          go_wp2_with fail
          go_ret
          exact ⟨rfl, HXR.out.trans (HL4.out.mono HXR.out.size)⟩
end Go.Proofs.Ytpigomkhpdfdcaa
