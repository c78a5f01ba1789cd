/- Add. -/
import Derived.Test.YtdpomneoiagpiaaPush
import Derived.Deep.DeepCutAuto
import Derived.Deep.CutBlock
set_option linter.unusedVariables false
namespace Go.Proofs.Ytdpomneoiagpiaa
open Go.RowKit Go.Deep Go.BigFrame
attribute [local go_sem ↓] Go.wp_at_zero Go.wp_at_succ
def AR (w : World) (g : Nat) (i o : Tup) (e0 e1 : Int) (e2 : Int) (R : World → Prop) : Prop :=
  Calls Try.prog 10 #[.pointer (some ⟨g, 0, none⟩), i.val, o.val] w fun e w' => e = .returned (.tuple #[.int .u64 e0, .int .u64 e1, .int .i64 e2]) ∧ R w'
section
variable {w : World} {g c b1 b2 N : Nat} {A : Option Addr} {s : TS}
set_option maxHeartbeats 3200000
set_option maxRecDepth 100000
theorem evict_ok {s : TS} (ho : s.Ok) {i o : Tup} (h1 : innF s.L i = 0) (h2 : outF s.L o = 0) (hev : s.L.length < s.most ∨ embK s.L ≠ none) :
    ({ s with L := evict s } : TS).Ok ∧ (evict s).length < s.most ∧ innF (evict s) i = 0 ∧ outF (evict s) o = 0 := by
  unfold evict
  by_cases hl : s.most ≤ s.L.length
  · rw [if_pos hl]
    cases hk : embK s.L with
    | none => exact absurd hk (by rcases hev with q | q; omega; exact q)
    | some k =>
      have hk2 := hk
      unfold embK at hk2
      rw [List.findIdx?_eq_some_iff_getElem] at hk2
      obtain ⟨hkl, _⟩ := hk2
      have hf : s.L[k]? = some s.L[k] := List.getElem?_eq_getElem hkl
      refine ⟨ho.del k, ?_, ?_, ?_⟩
      · show (s.L.eraseIdx k).length < s.most
        rw [List.length_eraseIdx, if_pos hkl]
        have := ho.len
        omega
      · show innF (s.L.eraseIdx k) i = 0
        rw [innF_del ho hf, h1]
        split <;> rfl
      · show outF (s.L.eraseIdx k) o = 0
        rw [outF_del ho hf, h2]
        split <;> rfl
  · rw [if_neg hl]
    exact ⟨ho, by omega, h1, h2⟩
structure Base (w B : World) (g : Nat) (A : Option Addr) (c b1 b2 N : Nat) (s' : TS) (i o : Tup) : Prop where
  tb : Tb B g A c b1 b2 N s'
  tr : Turns (Blk g A b1 b2) w B
  q1 : B.heap[w.heap.size]? = some (.cells #[.int .u8 i.proto, .int .u32 i.src, .int .u32 i.dst, .int .u16 i.sp, .int .u16 i.dp] 33 (0, 0))
  q2 : B.heap[w.heap.size + 1]? = some (.cells #[.int .u8 o.proto, .int .u32 o.src, .int .u32 o.dst, .int .u16 o.sp, .int .u16 o.dp] 33 (0, 0))
  sz : w.heap.size + 2 ≤ B.heap.size
theorem bump {B : World} {s' : TS} (h : Tb B g A c b1 b2 N s') : Tb (B.setCell ⟨g, 4, none⟩ (.int .u64 ((s'.last : Int) + 1))) g A c b1 b2 N { s' with last := s'.last + 1 } ∧ B.grownBy (B.setCell ⟨g, 4, none⟩ (.int .u64 ((s'.last : Int) + 1))) (some g) := by
  have hg := grown_setCell B g 4 (.int .u64 ((s'.last : Int) + 1))
  refine ⟨{ heap := ?_, own := row_keptE h.own (fun i hi => hg.block i (row_lt h.own hi).1 (fun e => h.nA (by injection e with e; rw [hi, e]))), inn := h.inn.keptE (hg.block _ h.inn.lt (by simpa using h.ng1)), out := h.out.keptE (hg.block _ h.out.lt (by simpa using h.ng2)), ne := h.ne, nN := h.nN }, hg⟩
  rw [heap_set h.heap]
  rfl
theorem add_fin {Y : World} {s' : TS} {A' : Option Addr} {c' : Nat} {i o : Tup} (ho : s'.Ok) (hl : s'.L.length < s'.most) (hb : s'.last < 1000000) (hoi : i.Ok) (hoo : o.Ok) (hz : i ≠ Tup.zero) (h1 : innF s'.L i = 0) (h2 : outF s'.L o = 0)
    (hg : Y.heap[g]? = some (.cells (tcells (pushS s' i o) A' c' b1 b2) 72 (0, 0))) (hw : Y.ownsRow 0 38 12 (.slice A' (pushS s' i o).L.length c') (pushS s' i o).L.length (row (pushS s' i o).L)) (hi : MapF Y b1 (N + 1) (fun y => if y = i then (s'.last : Int) + 1 else innF s'.L y))
    (hu : MapF Y b2 (N + 1) (fun y => if o ≠ Tup.zero ∧ y = o then (s'.last : Int) + 1 else outF s'.L y)) (hne : b1 ≠ b2) (hN : N < 1000000) : Tb Y g A' c' b1 b2 (N + 1) (pushS s' i o) := by
  obtain ⟨_, p1, p2⟩ := ho.push hl hb hoi hoo hz h1 h2
  exact { heap := hg, own := hw, inn := hi.congr fun t _ => (p1 t).symm, out := hu.congr fun t _ => (p2 t).symm, ne := hne, nN := by omega }
theorem add_zero (h : Tb w g A c b1 b2 N s) (ho : s.Ok) (i o : Tup) (hoi : i.Ok) (hoo : o.Ok) (hz : i = Tup.zero) : AR w g i o 0 0 1 (fun w' => Below w.heap.size w w') := by
  unfold AR
  have e : decide (i = Tup.zero) = true := decide_eq_true hz
  have HN := Lib.hid (fun W (hW : Below w.heap.size w W) => none_any g s.most W ((h.below hW).c0) (by have := ho.most1; omega))
  have HZ := Lib.hid (fun (x : Tup) W => zero_any x W)
  have HZI := Lib.hid (fun W => by have := HZ.out i W; rw [e] at this; exact this)
  have HLT := Lib.hid (fun k (hk : Blk g A b1 b2 k) => h.blk hk)
  have H := Lib.hid (fun W (hW : Below w.heap.size w W) => h.below hW)
  have HO := Lib.hid ho
  have HOI := Lib.hid hoi
  have HOO := Lib.hid hoo
  have HT := Lib.hid h
  have ha1 : Hid (∀ W, W = (w.alloc (.cells #[.int .u8 i.proto, .int .u32 i.src, .int .u32 i.dst, .int .u16 i.sp, .int .u16 i.dp] 33)).alloc (.cells #[.int .u8 o.proto, .int .u32 o.src, .int .u32 o.dst, .int .u16 o.sp, .int .u16 o.dp] 33) → Below w.heap.size w W ∧ W.heap[w.heap.size]? = some (.cells #[.int .u8 i.proto, .int .u32 i.src, .int .u32 i.dst, .int .u16 i.sp, .int .u16 i.dp] 33 (0, 0)) ∧ W.heap[w.heap.size + 1]? = some (.cells #[.int .u8 o.proto, .int .u32 o.src, .int .u32 o.dst, .int .u16 o.sp, .int .u16 o.dp] 33 (0, 0)) ∧ W.heap.size = w.heap.size + 2) := Lib.hid (by
    rintro W rfl
    refine ⟨((Below.refl _ _).alloc (Nat.le_refl _) _).alloc (by simp) _, ?_, ?_, by simp⟩
    · exact ((Below.refl (w.alloc (.cells #[.int .u8 i.proto, .int .u32 i.src, .int .u32 i.dst, .int .u16 i.sp, .int .u16 i.dp] 33)).heap.size _).alloc (Nat.le_refl _) (.cells #[.int .u8 o.proto, .int .u32 o.src, .int .u32 o.dst, .int .u16 o.sp, .int .u16 o.dp] 33)).block w.heap.size (by simp) |>.trans (heap_alloc_new w _)
    · have := heap_alloc_new (w.alloc (.cells #[.int .u8 i.proto, .int .u32 i.src, .int .u32 i.dst, .int .u16 i.sp, .int .u16 i.dp] 33)) (.cells #[.int .u8 o.proto, .int .u32 o.src, .int .u32 o.dst, .int .u16 o.sp, .int .u16 o.dp] 33)
      simpa using this)
  clear h ho hoi hoo hz
  unfold Tup.val
  go_enter Try.func10, Try.ntmps10
  go_wp2_with fail
  refine (HN.out _ (ha1.out _ rfl).1).mono ?_
  rintro e W0 ⟨rfl, hW0⟩
  obtain ⟨hB0, hq1, hq2, hs0⟩ := ha1.out W0 hW0.symm
  have pi0 : W0.cell? ⟨w.heap.size, 0, none⟩ = some (.int .u8 i.proto) := cell_of hq1 0
  have pi1 : W0.cell? ⟨w.heap.size, 1, none⟩ = some (.int .u32 i.src) := cell_of hq1 1
  have pi2 : W0.cell? ⟨w.heap.size, 2, none⟩ = some (.int .u32 i.dst) := cell_of hq1 2
  have pi3 : W0.cell? ⟨w.heap.size, 3, none⟩ = some (.int .u16 i.sp) := cell_of hq1 3
  have pi4 : W0.cell? ⟨w.heap.size, 4, none⟩ = some (.int .u16 i.dp) := cell_of hq1 4
  have po0 : W0.cell? ⟨w.heap.size + 1, 0, none⟩ = some (.int .u8 o.proto) := cell_of hq2 0
  have po1 : W0.cell? ⟨w.heap.size + 1, 1, none⟩ = some (.int .u32 o.src) := cell_of hq2 1
  have po2 : W0.cell? ⟨w.heap.size + 1, 2, none⟩ = some (.int .u32 o.dst) := cell_of hq2 2
  have po3 : W0.cell? ⟨w.heap.size + 1, 3, none⟩ = some (.int .u16 o.sp) := cell_of hq2 3
  have po4 : W0.cell? ⟨w.heap.size + 1, 4, none⟩ = some (.int .u16 o.dp) := cell_of hq2 4
  have HW0 := Lib.hid (And.intro hB0 (And.intro hq1 (And.intro hq2 hs0)))
  have hW0' := Lib.hid hW0
  clear hB0 hq1 hq2 hs0
  clear hW0
  go_wp2_with fail
  refine (HZI.out _).mono ?_
  rintro e V ⟨rfl, hbV⟩
  obtain ⟨hB0, hq1, hq2, hs0⟩ := HW0.out
  have hBV : Below w.heap.size w V := hB0.trans (hbV.mono hB0.size)
  have hv1 := (hbV.block w.heap.size (by omega)).trans hq1
  have hv2 := (hbV.block (w.heap.size + 1) (by omega)).trans hq2
  have hsV := hbV.size
  have HV := Lib.hid (And.intro hBV (And.intro hv1 (And.intro hv2 (show w.heap.size + 2 ≤ V.heap.size by omega))))
  have vi0 : V.cell? ⟨w.heap.size, 0, none⟩ = some (.int .u8 i.proto) := cell_of hv1 0
  have vi1 : V.cell? ⟨w.heap.size, 1, none⟩ = some (.int .u32 i.src) := cell_of hv1 1
  have vi2 : V.cell? ⟨w.heap.size, 2, none⟩ = some (.int .u32 i.dst) := cell_of hv1 2
  have vi3 : V.cell? ⟨w.heap.size, 3, none⟩ = some (.int .u16 i.sp) := cell_of hv1 3
  have vi4 : V.cell? ⟨w.heap.size, 4, none⟩ = some (.int .u16 i.dp) := cell_of hv1 4
  have vo0 : V.cell? ⟨w.heap.size + 1, 0, none⟩ = some (.int .u8 o.proto) := cell_of hv2 0
  have vo1 : V.cell? ⟨w.heap.size + 1, 1, none⟩ = some (.int .u32 o.src) := cell_of hv2 1
  have vo2 : V.cell? ⟨w.heap.size + 1, 2, none⟩ = some (.int .u32 o.dst) := cell_of hv2 2
  have vo3 : V.cell? ⟨w.heap.size + 1, 3, none⟩ = some (.int .u16 o.sp) := cell_of hv2 3
  have vo4 : V.cell? ⟨w.heap.size + 1, 4, none⟩ = some (.int .u16 o.dp) := cell_of hv2 4
  clear hB0 hq1 hq2 hs0 hv1 hv2 hsV hbV hBV pi0 pi1 pi2 pi3 pi4 po0 po1 po2 po3 po4
  go_wp2
  go_ret3
  exact ⟨rfl, HV.out.1⟩
theorem add_there (h : Tb w g A c b1 b2 N s) (ho : s.Ok) (i o : Tup) (hoi : i.Ok) (hoo : o.Ok) (hz : i ≠ Tup.zero) (ht : innF s.L i ≠ 0 ∨ outF s.L o ≠ 0) : AR w g i o 0 0 9 (fun w' => Below w.heap.size w w') := by
  unfold AR
  have e : decide (i = Tup.zero) = false := decide_eq_false hz
  have HTH := Lib.hid ht
  have HN := Lib.hid (fun W (hW : Below w.heap.size w W) => none_any g s.most W ((h.below hW).c0) (by have := ho.most1; omega))
  have HZ := Lib.hid (fun (x : Tup) W => zero_any x W)
  have HZI := Lib.hid (fun W => by have := HZ.out i W; rw [e] at this; exact this)
  have HLT := Lib.hid (fun k (hk : Blk g A b1 b2 k) => h.blk hk)
  have H := Lib.hid (fun W (hW : Below w.heap.size w W) => h.below hW)
  have HO := Lib.hid ho
  have HOI := Lib.hid hoi
  have HOO := Lib.hid hoo
  have HT := Lib.hid h
  have ha1 : Hid (∀ W, W = (w.alloc (.cells #[.int .u8 i.proto, .int .u32 i.src, .int .u32 i.dst, .int .u16 i.sp, .int .u16 i.dp] 33)).alloc (.cells #[.int .u8 o.proto, .int .u32 o.src, .int .u32 o.dst, .int .u16 o.sp, .int .u16 o.dp] 33) → Below w.heap.size w W ∧ W.heap[w.heap.size]? = some (.cells #[.int .u8 i.proto, .int .u32 i.src, .int .u32 i.dst, .int .u16 i.sp, .int .u16 i.dp] 33 (0, 0)) ∧ W.heap[w.heap.size + 1]? = some (.cells #[.int .u8 o.proto, .int .u32 o.src, .int .u32 o.dst, .int .u16 o.sp, .int .u16 o.dp] 33 (0, 0)) ∧ W.heap.size = w.heap.size + 2) := Lib.hid (by
    rintro W rfl
    refine ⟨((Below.refl _ _).alloc (Nat.le_refl _) _).alloc (by simp) _, ?_, ?_, by simp⟩
    · exact ((Below.refl (w.alloc (.cells #[.int .u8 i.proto, .int .u32 i.src, .int .u32 i.dst, .int .u16 i.sp, .int .u16 i.dp] 33)).heap.size _).alloc (Nat.le_refl _) (.cells #[.int .u8 o.proto, .int .u32 o.src, .int .u32 o.dst, .int .u16 o.sp, .int .u16 o.dp] 33)).block w.heap.size (by simp) |>.trans (heap_alloc_new w _)
    · have := heap_alloc_new (w.alloc (.cells #[.int .u8 i.proto, .int .u32 i.src, .int .u32 i.dst, .int .u16 i.sp, .int .u16 i.dp] 33)) (.cells #[.int .u8 o.proto, .int .u32 o.src, .int .u32 o.dst, .int .u16 o.sp, .int .u16 o.dp] 33)
      simpa using this)
  clear h ho hoi hoo hz ht
  unfold Tup.val
  go_enter Try.func10, Try.ntmps10
  go_wp2_with fail
  refine (HN.out _ (ha1.out _ rfl).1).mono ?_
  rintro e W0 ⟨rfl, hW0⟩
  obtain ⟨hB0, hq1, hq2, hs0⟩ := ha1.out W0 hW0.symm
  have pi0 : W0.cell? ⟨w.heap.size, 0, none⟩ = some (.int .u8 i.proto) := cell_of hq1 0
  have pi1 : W0.cell? ⟨w.heap.size, 1, none⟩ = some (.int .u32 i.src) := cell_of hq1 1
  have pi2 : W0.cell? ⟨w.heap.size, 2, none⟩ = some (.int .u32 i.dst) := cell_of hq1 2
  have pi3 : W0.cell? ⟨w.heap.size, 3, none⟩ = some (.int .u16 i.sp) := cell_of hq1 3
  have pi4 : W0.cell? ⟨w.heap.size, 4, none⟩ = some (.int .u16 i.dp) := cell_of hq1 4
  have po0 : W0.cell? ⟨w.heap.size + 1, 0, none⟩ = some (.int .u8 o.proto) := cell_of hq2 0
  have po1 : W0.cell? ⟨w.heap.size + 1, 1, none⟩ = some (.int .u32 o.src) := cell_of hq2 1
  have po2 : W0.cell? ⟨w.heap.size + 1, 2, none⟩ = some (.int .u32 o.dst) := cell_of hq2 2
  have po3 : W0.cell? ⟨w.heap.size + 1, 3, none⟩ = some (.int .u16 o.sp) := cell_of hq2 3
  have po4 : W0.cell? ⟨w.heap.size + 1, 4, none⟩ = some (.int .u16 o.dp) := cell_of hq2 4
  have HW0 := Lib.hid (And.intro hB0 (And.intro hq1 (And.intro hq2 hs0)))
  have hW0' := Lib.hid hW0
  clear hB0 hq1 hq2 hs0
  clear hW0
  go_wp2_with fail
  refine (HZI.out _).mono ?_
  rintro e V ⟨rfl, hbV⟩
  obtain ⟨hB0, hq1, hq2, hs0⟩ := HW0.out
  have hBV : Below w.heap.size w V := hB0.trans (hbV.mono hB0.size)
  have hv1 := (hbV.block w.heap.size (by omega)).trans hq1
  have hv2 := (hbV.block (w.heap.size + 1) (by omega)).trans hq2
  have hsV := hbV.size
  have HV := Lib.hid (And.intro hBV (And.intro hv1 (And.intro hv2 (show w.heap.size + 2 ≤ V.heap.size by omega))))
  have vi0 : V.cell? ⟨w.heap.size, 0, none⟩ = some (.int .u8 i.proto) := cell_of hv1 0
  have vi1 : V.cell? ⟨w.heap.size, 1, none⟩ = some (.int .u32 i.src) := cell_of hv1 1
  have vi2 : V.cell? ⟨w.heap.size, 2, none⟩ = some (.int .u32 i.dst) := cell_of hv1 2
  have vi3 : V.cell? ⟨w.heap.size, 3, none⟩ = some (.int .u16 i.sp) := cell_of hv1 3
  have vi4 : V.cell? ⟨w.heap.size, 4, none⟩ = some (.int .u16 i.dp) := cell_of hv1 4
  have vo0 : V.cell? ⟨w.heap.size + 1, 0, none⟩ = some (.int .u8 o.proto) := cell_of hv2 0
  have vo1 : V.cell? ⟨w.heap.size + 1, 1, none⟩ = some (.int .u32 o.src) := cell_of hv2 1
  have vo2 : V.cell? ⟨w.heap.size + 1, 2, none⟩ = some (.int .u32 o.dst) := cell_of hv2 2
  have vo3 : V.cell? ⟨w.heap.size + 1, 3, none⟩ = some (.int .u16 o.sp) := cell_of hv2 3
  have vo4 : V.cell? ⟨w.heap.size + 1, 4, none⟩ = some (.int .u16 o.dp) := cell_of hv2 4
  clear hB0 hq1 hq2 hs0 hv1 hv2 hsV hbV hBV pi0 pi1 pi2 pi3 pi4 po0 po1 po2 po3 po4
  have hTV := H.out V HV.out.1
  have v2 := hTV.c2
  have v3 := hTV.c3
  have hl1 := fun q => ((hTV.below (below_drewN (Below.refl _ _) q)).inn.look HOI.out).1
  have hl2 := fun q => ((hTV.below (below_drewN (Below.refl _ _) q)).out.look HOO.out).1
  obtain ⟨a, ha⟩ : ∃ a, innF s.L i = a := ⟨_, rfl⟩
  obtain ⟨b, hb⟩ : ∃ b, outF s.L o = b := ⟨_, rfl⟩
  rw [ha] at hl1
  rw [hb] at hl2
  unfold Tup.val at hl1 hl2
  have HAB := Lib.hid (And.intro ha hb)
  clear ha hb hTV
  by_cases ha0 : a = 0
  · have hb0 : b ≠ 0 := by have h1 := HTH.out; rw [HAB.out.1, HAB.out.2] at h1; rcases h1 with h1 | h1; exact absurd ha0 h1; exact h1
    subst ha0
    have t1 : (b != 0) = true := by simpa using hb0
    clear hb0
    go_wp2
    go_quiet (fail)
    go_wp2
    go_ret3
    exact ⟨rfl, below_drewN HV.out.1 _⟩
  · have t1 : (a != 0) = true := by simpa using ha0
    clear ha0
    go_wp2
    go_quiet (fail)
    go_wp2
    go_ret3
    exact ⟨rfl, below_drewN HV.out.1 _⟩
theorem add_full (h : Tb w g A c b1 b2 N s) (ho : s.Ok) (i o : Tup) (hoi : i.Ok) (hoo : o.Ok) (hz : i ≠ Tup.zero) (h1 : innF s.L i = 0) (h2 : outF s.L o = 0) (hl : s.most ≤ s.L.length) (he : embK s.L = none) : AR w g i o 0 0 7 (fun w' => Below w.heap.size w w') := by
  unfold AR
  have e : decide (i = Tup.zero) = false := decide_eq_false hz
  have hidx : idx (fun f => f.emb) s.L = -1 := by unfold idx; unfold embK at he; rw [he]
  have HI := Lib.hid (fun W (hW : Below w.heap.size w W) => idxEmb_any A c s.L s.L.length W rfl (FlsAt.own (h.below hW).own) (by have := ho.len; have := ho.most2; omega))
  rw [hidx] at HI
  have hgc := fun W (hW : Below w.heap.size w W) => (h.below hW).c1
  have hgm := fun W (hW : Below w.heap.size w W) => (h.below hW).c0
  have HG := Lib.hid (And.intro hgc hgm)
  obtain ⟨n, hn⟩ : ∃ n, s.L.length = n := ⟨_, rfl⟩
  obtain ⟨m, hm⟩ : ∃ m, s.most = m := ⟨_, rfl⟩
  rw [hn, hm] at hl
  rw [hn] at HI
  have HL := Lib.hid (And.intro hn (And.intro hm hl))
  have H12 := Lib.hid (And.intro h1 h2)
  have HN := Lib.hid (fun W (hW : Below w.heap.size w W) => none_any g s.most W ((h.below hW).c0) (by have := ho.most1; omega))
  have HZ := Lib.hid (fun (x : Tup) W => zero_any x W)
  have HZI := Lib.hid (fun W => by have := HZ.out i W; rw [e] at this; exact this)
  have HLT := Lib.hid (fun k (hk : Blk g A b1 b2 k) => h.blk hk)
  have H := Lib.hid (fun W (hW : Below w.heap.size w W) => h.below hW)
  have HO := Lib.hid ho
  have HOI := Lib.hid hoi
  have HOO := Lib.hid hoo
  have HT := Lib.hid h
  have ha1 : Hid (∀ W, W = (w.alloc (.cells #[.int .u8 i.proto, .int .u32 i.src, .int .u32 i.dst, .int .u16 i.sp, .int .u16 i.dp] 33)).alloc (.cells #[.int .u8 o.proto, .int .u32 o.src, .int .u32 o.dst, .int .u16 o.sp, .int .u16 o.dp] 33) → Below w.heap.size w W ∧ W.heap[w.heap.size]? = some (.cells #[.int .u8 i.proto, .int .u32 i.src, .int .u32 i.dst, .int .u16 i.sp, .int .u16 i.dp] 33 (0, 0)) ∧ W.heap[w.heap.size + 1]? = some (.cells #[.int .u8 o.proto, .int .u32 o.src, .int .u32 o.dst, .int .u16 o.sp, .int .u16 o.dp] 33 (0, 0)) ∧ W.heap.size = w.heap.size + 2) := Lib.hid (by
    rintro W rfl
    refine ⟨((Below.refl _ _).alloc (Nat.le_refl _) _).alloc (by simp) _, ?_, ?_, by simp⟩
    · exact ((Below.refl (w.alloc (.cells #[.int .u8 i.proto, .int .u32 i.src, .int .u32 i.dst, .int .u16 i.sp, .int .u16 i.dp] 33)).heap.size _).alloc (Nat.le_refl _) (.cells #[.int .u8 o.proto, .int .u32 o.src, .int .u32 o.dst, .int .u16 o.sp, .int .u16 o.dp] 33)).block w.heap.size (by simp) |>.trans (heap_alloc_new w _)
    · have := heap_alloc_new (w.alloc (.cells #[.int .u8 i.proto, .int .u32 i.src, .int .u32 i.dst, .int .u16 i.sp, .int .u16 i.dp] 33)) (.cells #[.int .u8 o.proto, .int .u32 o.src, .int .u32 o.dst, .int .u16 o.sp, .int .u16 o.dp] 33)
      simpa using this)
  clear h ho hoi hoo hz h1 h2 he hidx hgc hgm hn hm hl
  unfold Tup.val
  go_enter Try.func10, Try.ntmps10
  go_wp2_with fail
  refine (HN.out _ (ha1.out _ rfl).1).mono ?_
  rintro e W0 ⟨rfl, hW0⟩
  obtain ⟨hB0, hq1, hq2, hs0⟩ := ha1.out W0 hW0.symm
  have pi0 : W0.cell? ⟨w.heap.size, 0, none⟩ = some (.int .u8 i.proto) := cell_of hq1 0
  have pi1 : W0.cell? ⟨w.heap.size, 1, none⟩ = some (.int .u32 i.src) := cell_of hq1 1
  have pi2 : W0.cell? ⟨w.heap.size, 2, none⟩ = some (.int .u32 i.dst) := cell_of hq1 2
  have pi3 : W0.cell? ⟨w.heap.size, 3, none⟩ = some (.int .u16 i.sp) := cell_of hq1 3
  have pi4 : W0.cell? ⟨w.heap.size, 4, none⟩ = some (.int .u16 i.dp) := cell_of hq1 4
  have po0 : W0.cell? ⟨w.heap.size + 1, 0, none⟩ = some (.int .u8 o.proto) := cell_of hq2 0
  have po1 : W0.cell? ⟨w.heap.size + 1, 1, none⟩ = some (.int .u32 o.src) := cell_of hq2 1
  have po2 : W0.cell? ⟨w.heap.size + 1, 2, none⟩ = some (.int .u32 o.dst) := cell_of hq2 2
  have po3 : W0.cell? ⟨w.heap.size + 1, 3, none⟩ = some (.int .u16 o.sp) := cell_of hq2 3
  have po4 : W0.cell? ⟨w.heap.size + 1, 4, none⟩ = some (.int .u16 o.dp) := cell_of hq2 4
  have HW0 := Lib.hid (And.intro hB0 (And.intro hq1 (And.intro hq2 hs0)))
  have hW0' := Lib.hid hW0
  clear hB0 hq1 hq2 hs0
  clear hW0
  go_wp2_with fail
  refine (HZI.out _).mono ?_
  rintro e V ⟨rfl, hbV⟩
  obtain ⟨hB0, hq1, hq2, hs0⟩ := HW0.out
  have hBV : Below w.heap.size w V := hB0.trans (hbV.mono hB0.size)
  have hv1 := (hbV.block w.heap.size (by omega)).trans hq1
  have hv2 := (hbV.block (w.heap.size + 1) (by omega)).trans hq2
  have hsV := hbV.size
  have HV := Lib.hid (And.intro hBV (And.intro hv1 (And.intro hv2 (show w.heap.size + 2 ≤ V.heap.size by omega))))
  have vi0 : V.cell? ⟨w.heap.size, 0, none⟩ = some (.int .u8 i.proto) := cell_of hv1 0
  have vi1 : V.cell? ⟨w.heap.size, 1, none⟩ = some (.int .u32 i.src) := cell_of hv1 1
  have vi2 : V.cell? ⟨w.heap.size, 2, none⟩ = some (.int .u32 i.dst) := cell_of hv1 2
  have vi3 : V.cell? ⟨w.heap.size, 3, none⟩ = some (.int .u16 i.sp) := cell_of hv1 3
  have vi4 : V.cell? ⟨w.heap.size, 4, none⟩ = some (.int .u16 i.dp) := cell_of hv1 4
  have vo0 : V.cell? ⟨w.heap.size + 1, 0, none⟩ = some (.int .u8 o.proto) := cell_of hv2 0
  have vo1 : V.cell? ⟨w.heap.size + 1, 1, none⟩ = some (.int .u32 o.src) := cell_of hv2 1
  have vo2 : V.cell? ⟨w.heap.size + 1, 2, none⟩ = some (.int .u32 o.dst) := cell_of hv2 2
  have vo3 : V.cell? ⟨w.heap.size + 1, 3, none⟩ = some (.int .u16 o.sp) := cell_of hv2 3
  have vo4 : V.cell? ⟨w.heap.size + 1, 4, none⟩ = some (.int .u16 o.dp) := cell_of hv2 4
  clear hB0 hq1 hq2 hs0 hv1 hv2 hsV hbV hBV pi0 pi1 pi2 pi3 pi4 po0 po1 po2 po3 po4
  have hTV := H.out V HV.out.1
  have v2 := hTV.c2
  have v3 := hTV.c3
  have hl1 := fun q => ((hTV.below (below_drewN (Below.refl _ _) q)).inn.look HOI.out).1
  have hl2 := fun q => ((hTV.below (below_drewN (Below.refl _ _) q)).out.look HOO.out).1
  obtain ⟨a, ha⟩ : ∃ a, innF s.L i = a := ⟨_, rfl⟩
  obtain ⟨b, hb⟩ : ∃ b, outF s.L o = b := ⟨_, rfl⟩
  rw [ha] at hl1
  rw [hb] at hl2
  unfold Tup.val at hl1 hl2
  have HAB := Lib.hid (And.intro ha hb)
  clear ha hb hTV
  obtain rfl : a = 0 := HAB.out.1.symm.trans H12.out.1
  obtain rfl : b = 0 := HAB.out.2.symm.trans H12.out.2
  have g1 : ∀ q, (V.drewN q).cell? ⟨g, 1, none⟩ = some (.slice A n c) := fun q => by rw [← HL.out.1]; exact HG.out.1 _ (below_drewN HV.out.1 q)
  have g0 : ∀ q, (V.drewN q).cell? ⟨g, 0, none⟩ = some (.int .i64 m) := fun q => by rw [← HL.out.2.1]; exact HG.out.2 _ (below_drewN HV.out.1 q)
  have tl : m ≤ n := HL.out.2.2
  go_wp2
  go_quiet (fail)
  go_wp2
  go_quiet (fail)
  go_wp2_with fail
  refine (HI.out _ (below_drewN HV.out.1 _)).mono ?_
  rintro e W ⟨rfl, hbW⟩
  go_wp2_with fail
  go_ret3
  exact ⟨rfl, (below_drewN HV.out.1 _).trans (hbW.mono (by have := HV.out.2.2.2; show _ ≤ V.heap.size; omega))⟩
theorem add_ok (h : Tb w g A c b1 b2 N s) (ho : s.Ok) (i o : Tup) (hoi : i.Ok) (hoo : o.Ok) (hz : i ≠ Tup.zero) (h1 : innF s.L i = 0) (h2 : outF s.L o = 0) (hev : s.L.length < s.most ∨ embK s.L ≠ none) (hlast : s.last < 1000000) (hN : N < 1000000) :
    AR w g i o ((s.last : Int) + 1) (wentF s) 0 (fun w' => ∃ A' c', Tb w' g A' c' b1 b2 (N + 1) (pushS { s with L := evict s } i o) ∧ Turns (Blk g A b1 b2) w w' ∧ NewA w A A') := by
  unfold AR
  have e : decide (i = Tup.zero) = false := decide_eq_false hz
  obtain ⟨z, hzo⟩ : ∃ z, decide (o = Tup.zero) = z := ⟨_, rfl⟩
  have HZE := Lib.hid hzo
  have HZO := Lib.hid (fun W => by have := zero_any o W; rw [hzo] at this; exact this)
  clear hzo
  obtain ⟨S, hS⟩ : ∃ S : TS, S = { s with L := evict s } := ⟨_, rfl⟩
  have HS := Lib.hid hS
  have hSo := evict_ok ho h1 h2 hev
  have hSok : S.Ok ∧ S.L.length < S.most ∧ innF S.L i = 0 ∧ outF S.L o = 0 ∧ S.last = s.last := by rw [hS]; exact ⟨hSo.1, hSo.2.1, hSo.2.2.1, hSo.2.2.2, rfl⟩
  have hgc := fun W (hW : Below w.heap.size w W) => (h.below hW).c1
  have hgm := fun W (hW : Below w.heap.size w W) => (h.below hW).c0
  have HG := Lib.hid (And.intro hgc hgm)
  have HI := Lib.hid (fun W (hW : Below w.heap.size w W) => idxEmb_any A c s.L s.L.length W rfl (FlsAt.own (h.below hW).own) (by have := ho.len; have := ho.most2; omega))
  obtain ⟨n0, hn⟩ : ∃ n, s.L.length = n := ⟨_, rfl⟩
  obtain ⟨m, hm⟩ : ∃ m, s.most = m := ⟨_, rfl⟩
  obtain ⟨last, hla⟩ : ∃ last, s.last = last := ⟨_, rfl⟩
  have HOK := Lib.hid (And.intro hSok.1 (And.intro hSok.2.1 (And.intro hSok.2.2.1 hSok.2.2.2.1)))
  have hla2 : S.last = last := hSok.2.2.2.2.trans hla
  rw [← hS]
  rw [hla] at hlast ⊢
  have HLAST := Lib.hid hla2
  rw [hn] at HI
  rw [hn, hm] at hev
  have HL := Lib.hid (And.intro hn (And.intro hm hev))
  have H12 := Lib.hid (And.intro h1 h2)
  have HZN := Lib.hid (And.intro hz hN)
  obtain ⟨went, hwent⟩ : ∃ went, wentF s = went := ⟨_, rfl⟩
  rw [hwent]
  have HWT := Lib.hid hwent
  have HN := Lib.hid (fun W (hW : Below w.heap.size w W) => none_any g s.most W ((h.below hW).c0) (by have := ho.most1; omega))
  have HZ := Lib.hid (fun (x : Tup) W => zero_any x W)
  have HZI := Lib.hid (fun W => by have := HZ.out i W; rw [e] at this; exact this)
  have HLT := Lib.hid (fun k (hk : Blk g A b1 b2 k) => h.blk hk)
  have H := Lib.hid (fun W (hW : Below w.heap.size w W) => h.below hW)
  have HO := Lib.hid ho
  have HOI := Lib.hid hoi
  have HOO := Lib.hid hoo
  have HT := Lib.hid h
  have ha1 : Hid (∀ W, W = (w.alloc (.cells #[.int .u8 i.proto, .int .u32 i.src, .int .u32 i.dst, .int .u16 i.sp, .int .u16 i.dp] 33)).alloc (.cells #[.int .u8 o.proto, .int .u32 o.src, .int .u32 o.dst, .int .u16 o.sp, .int .u16 o.dp] 33) → Below w.heap.size w W ∧ W.heap[w.heap.size]? = some (.cells #[.int .u8 i.proto, .int .u32 i.src, .int .u32 i.dst, .int .u16 i.sp, .int .u16 i.dp] 33 (0, 0)) ∧ W.heap[w.heap.size + 1]? = some (.cells #[.int .u8 o.proto, .int .u32 o.src, .int .u32 o.dst, .int .u16 o.sp, .int .u16 o.dp] 33 (0, 0)) ∧ W.heap.size = w.heap.size + 2) := Lib.hid (by
    rintro W rfl
    refine ⟨((Below.refl _ _).alloc (Nat.le_refl _) _).alloc (by simp) _, ?_, ?_, by simp⟩
    · exact ((Below.refl (w.alloc (.cells #[.int .u8 i.proto, .int .u32 i.src, .int .u32 i.dst, .int .u16 i.sp, .int .u16 i.dp] 33)).heap.size _).alloc (Nat.le_refl _) (.cells #[.int .u8 o.proto, .int .u32 o.src, .int .u32 o.dst, .int .u16 o.sp, .int .u16 o.dp] 33)).block w.heap.size (by simp) |>.trans (heap_alloc_new w _)
    · have := heap_alloc_new (w.alloc (.cells #[.int .u8 i.proto, .int .u32 i.src, .int .u32 i.dst, .int .u16 i.sp, .int .u16 i.dp] 33)) (.cells #[.int .u8 o.proto, .int .u32 o.src, .int .u32 o.dst, .int .u16 o.sp, .int .u16 o.dp] 33)
      simpa using this)
  clear h ho hoi hoo hz h1 h2 hgc hgm hn hm hla hla2 hN hev hS hSo hSok hwent
  unfold Tup.val
  go_enter Try.func10, Try.ntmps10
  go_wp2_with fail
  refine (HN.out _ (ha1.out _ rfl).1).mono ?_
  rintro e W0 ⟨rfl, hW0⟩
  obtain ⟨hB0, hq1, hq2, hs0⟩ := ha1.out W0 hW0.symm
  have pi0 : W0.cell? ⟨w.heap.size, 0, none⟩ = some (.int .u8 i.proto) := cell_of hq1 0
  have pi1 : W0.cell? ⟨w.heap.size, 1, none⟩ = some (.int .u32 i.src) := cell_of hq1 1
  have pi2 : W0.cell? ⟨w.heap.size, 2, none⟩ = some (.int .u32 i.dst) := cell_of hq1 2
  have pi3 : W0.cell? ⟨w.heap.size, 3, none⟩ = some (.int .u16 i.sp) := cell_of hq1 3
  have pi4 : W0.cell? ⟨w.heap.size, 4, none⟩ = some (.int .u16 i.dp) := cell_of hq1 4
  have po0 : W0.cell? ⟨w.heap.size + 1, 0, none⟩ = some (.int .u8 o.proto) := cell_of hq2 0
  have po1 : W0.cell? ⟨w.heap.size + 1, 1, none⟩ = some (.int .u32 o.src) := cell_of hq2 1
  have po2 : W0.cell? ⟨w.heap.size + 1, 2, none⟩ = some (.int .u32 o.dst) := cell_of hq2 2
  have po3 : W0.cell? ⟨w.heap.size + 1, 3, none⟩ = some (.int .u16 o.sp) := cell_of hq2 3
  have po4 : W0.cell? ⟨w.heap.size + 1, 4, none⟩ = some (.int .u16 o.dp) := cell_of hq2 4
  have HW0 := Lib.hid (And.intro hB0 (And.intro hq1 (And.intro hq2 hs0)))
  have hW0' := Lib.hid hW0
  clear hB0 hq1 hq2 hs0
  clear hW0
  go_wp2_with fail
  refine (HZI.out _).mono ?_
  rintro e V ⟨rfl, hbV⟩
  obtain ⟨hB0, hq1, hq2, hs0⟩ := HW0.out
  have hBV : Below w.heap.size w V := hB0.trans (hbV.mono hB0.size)
  have hv1 := (hbV.block w.heap.size (by omega)).trans hq1
  have hv2 := (hbV.block (w.heap.size + 1) (by omega)).trans hq2
  have hsV := hbV.size
  have HV := Lib.hid (And.intro hBV (And.intro hv1 (And.intro hv2 (show w.heap.size + 2 ≤ V.heap.size by omega))))
  have vi0 : V.cell? ⟨w.heap.size, 0, none⟩ = some (.int .u8 i.proto) := cell_of hv1 0
  have vi1 : V.cell? ⟨w.heap.size, 1, none⟩ = some (.int .u32 i.src) := cell_of hv1 1
  have vi2 : V.cell? ⟨w.heap.size, 2, none⟩ = some (.int .u32 i.dst) := cell_of hv1 2
  have vi3 : V.cell? ⟨w.heap.size, 3, none⟩ = some (.int .u16 i.sp) := cell_of hv1 3
  have vi4 : V.cell? ⟨w.heap.size, 4, none⟩ = some (.int .u16 i.dp) := cell_of hv1 4
  have vo0 : V.cell? ⟨w.heap.size + 1, 0, none⟩ = some (.int .u8 o.proto) := cell_of hv2 0
  have vo1 : V.cell? ⟨w.heap.size + 1, 1, none⟩ = some (.int .u32 o.src) := cell_of hv2 1
  have vo2 : V.cell? ⟨w.heap.size + 1, 2, none⟩ = some (.int .u32 o.dst) := cell_of hv2 2
  have vo3 : V.cell? ⟨w.heap.size + 1, 3, none⟩ = some (.int .u16 o.sp) := cell_of hv2 3
  have vo4 : V.cell? ⟨w.heap.size + 1, 4, none⟩ = some (.int .u16 o.dp) := cell_of hv2 4
  clear hB0 hq1 hq2 hs0 hv1 hv2 hsV hbV hBV pi0 pi1 pi2 pi3 pi4 po0 po1 po2 po3 po4
  have hTV := H.out V HV.out.1
  have v2 := hTV.c2
  have v3 := hTV.c3
  have hl1 := fun q => ((hTV.below (below_drewN (Below.refl _ _) q)).inn.look HOI.out).1
  have hl2 := fun q => ((hTV.below (below_drewN (Below.refl _ _) q)).out.look HOO.out).1
  obtain ⟨a, ha⟩ : ∃ a, innF s.L i = a := ⟨_, rfl⟩
  obtain ⟨b, hb⟩ : ∃ b, outF s.L o = b := ⟨_, rfl⟩
  rw [ha] at hl1
  rw [hb] at hl2
  unfold Tup.val at hl1 hl2
  have HAB := Lib.hid (And.intro ha hb)
  clear ha hb hTV
  obtain rfl : a = 0 := HAB.out.1.symm.trans H12.out.1
  obtain rfl : b = 0 := HAB.out.2.symm.trans H12.out.2
  have g1 : ∀ q, (V.drewN q).cell? ⟨g, 1, none⟩ = some (.slice A n0 c) := fun q => by rw [← HL.out.1]; exact HG.out.1 _ (below_drewN HV.out.1 q)
  have g0 : ∀ q, (V.drewN q).cell? ⟨g, 0, none⟩ = some (.int .i64 m) := fun q => by rw [← HL.out.2.1]; exact HG.out.2 _ (below_drewN HV.out.1 q)
  have BS : Hid (∀ q, Base w (V.drewN q) g A c b1 b2 N s i o) := Lib.hid (fun q => { tb := H.out _ (below_drewN HV.out.1 q), tr := Turns.below (below_drewN HV.out.1 q), q1 := HV.out.2.1, q2 := HV.out.2.2.1, sz := HV.out.2.2.2 })
  have BS2 : Hid (∀ q1 q2, Base w ((V.drewN q1).drewN q2) g A c b1 b2 N s i o) := Lib.hid (fun q1 q2 => { tb := H.out _ (below_drewN (below_drewN HV.out.1 q1) q2), tr := Turns.below (below_drewN (below_drewN HV.out.1 q1) q2), q1 := HV.out.2.1, q2 := HV.out.2.2.1, sz := HV.out.2.2.2 })
  go_wp2
  go_quiet (fail)
  go_wp2
  go_quiet (fail)
  go_upto_if 43 with (fail)
  go_cut [9] (fun v9 wx => v9 = .int .u64 went ∧ Base w wx g A c b1 b2 N S i o)
  case first =>
    by_cases hlt : n0 < m
    · have tl : ¬ m ≤ n0 := Nat.not_le.2 hlt
      clear hlt
      have hw0 : went = 0 := by rw [← HWT.out]; unfold wentF; rw [HL.out.1, HL.out.2.1, if_neg tl]
      have hev2 : evict s = s.L := by unfold evict; rw [HL.out.1, HL.out.2.1, if_neg tl]
      have hSe : S = s := by rw [HS.out, hev2]
      have HWF := Lib.hid (And.intro hw0 hSe)
      clear hw0 hSe hev2
      go_wp2_with fail
      go_meet
      case rel => exact ⟨by rw [HWF.out.1], by rw [HWF.out.2]; first | exact BS.out _ | exact BS2.out _ _⟩
    · have tl : m ≤ n0 := Nat.not_lt.1 hlt
      obtain ⟨k, hk⟩ : ∃ k, embK s.L = some k := Option.ne_none_iff_exists'.1 (by rcases HL.out.2.2 with q | q; omega; exact q)
      have hk2 := hk
      unfold embK at hk2
      rw [List.findIdx?_eq_some_iff_getElem] at hk2
      obtain ⟨hkl, hke, -⟩ := hk2
      obtain ⟨f, hf⟩ : ∃ f, s.L[k]? = some f := ⟨_, List.getElem?_eq_getElem hkl⟩
      have hidx : idx (fun f => f.emb) s.L = k := by unfold idx; unfold embK at hk; rw [hk]
      rw [hidx] at HI
      have hw0 : f.id = went := by rw [← HWT.out]; unfold wentF; rw [HL.out.1, HL.out.2.1, if_pos tl, hk]; simp only [hf]
      have hev2 : evict s = s.L.eraseIdx k := by unfold evict; rw [HL.out.1, HL.out.2.1, if_pos tl, hk]
      have hSe : S = delS s k := by rw [HS.out, hev2]; rfl
      rw [HL.out.1] at hkl
      have HF := Lib.hid hf
      have HWF := Lib.hid (And.intro hw0 hSe)
      have GONE := Lib.hid (fun W (hW : Below w.heap.size w W) => gone_any (H.out W hW) HO.out k f hf)
      obtain ⟨ba, cur, hAba, -⟩ := HT.out.at hf
      subst hAba
      have HAT := Lib.hid (fun W (hW : Below w.heap.size w W) => show W.cell? ⟨ba, k * 12, none⟩ = some (.int .u64 went) from by
        obtain ⟨ba', cur', hb', _, hat, _⟩ := (H.out W hW).at HF.out
        injection hb' with hb'
        injection hb' with hb'
        subst hb'
        rw [← HWF.out.1]
        exact hat.k0)
      have hkm : k < 100000 := by have := HL.out.1; have := HO.out.len; have := HO.out.most2; omega
      clear hlt hk hke hf hidx hw0 hSe hev2
      go_wp2_with fail
      refine (HI.out _ (below_drewN HV.out.1 _)).mono ?_
      rintro e W ⟨rfl, hbW⟩
      have hBW : Below w.heap.size w W := (below_drewN HV.out.1 _).trans (hbW.mono (by have := HV.out.2.2.2; show _ ≤ V.heap.size; omega))
      have y1 : W.cell? ⟨g, 1, none⟩ = some (.slice (some ⟨ba, 0, none⟩) n0 c) := by rw [← HL.out.1]; exact HG.out.1 W hBW
      have y2 := HAT.out W hBW
      have hw1 := (hbW.block w.heap.size (by have := HV.out.2.2.2; show _ < V.heap.size; omega)).trans HV.out.2.1
      have hw2 := (hbW.block (w.heap.size + 1) (by have := HV.out.2.2.2; show _ < V.heap.size; omega)).trans HV.out.2.2.1
      have HBW := Lib.hid (And.intro hBW (And.intro hw1 (And.intro hw2 hbW.size)))
      clear hbW hBW hw1 hw2
      go_wp2_with fail
      refine (GONE.out _ HBW.out.1).mono ?_
      rintro e U ⟨rfl, hU, hUt⟩
      have HU : Hid (Base w U g (some ⟨ba, 0, none⟩) c b1 b2 N S i o) := Lib.hid (by
        have hz1 := HBW.out.2.2.2
        have hz2 := HV.out.2.2.2
        have hz3 : V.heap.size ≤ W.heap.size := hz1
        exact { tb := by rw [HWF.out.2]; exact hU, tr := (Turns.below HBW.out.1).trans hUt (fun k h => .inl h), q1 := (hUt.block _ (by omega) (fun q => by have := HLT.out _ q; omega)).trans HBW.out.2.1, q2 := (hUt.block _ (by omega) (fun q => by have := HLT.out _ q; omega)).trans HBW.out.2.2.1, sz := by have := hUt.size; omega })
      clear hU hUt
      go_wp2_with fail
      go_meet
      case rel => exact ⟨rfl, HU.out⟩
  case rest =>
    obtain ⟨rfl, hcut⟩ := hcut
    have HBB0 := Lib.hid hcut
    have g4 : wc.cell? ⟨g, 4, none⟩ = some (.int .u64 last) := by rw [← HLAST.out]; exact hcut.tb.c4
    have g5 := free_of hcut.tb.heap 4
    clear hcut g1 g0 hl1 hl2 v2 v3 vi0 vi1 vi2 vi3 vi4 vo0 vo1 vo2 vo3 vo4
    go_wp2
    refine wp_name fun W1 hW1 => ?_
    obtain ⟨B, hWB, HBB⟩ : ∃ B, W1 = B.setCell ⟨g, 4, none⟩ (.int .u64 ((last : Int) + 1)) ∧ Hid (Base w B g A c b1 b2 N S i o) := ⟨_, hW1, HBB0⟩
    clear hW1
    obtain ⟨n, hn⟩ : ∃ n, S.L.length = n := ⟨_, rfl⟩
    obtain ⟨hT1, hg1⟩ := bump HBB.out.tb
    rw [HLAST.out, ← hWB] at hT1
    rw [HLAST.out, ← hWB] at hg1
    have hq1 := (hg1.block _ (by have := HBB.out.sz; omega) (fun e => by injection e with e; have := HLT.out g (.inl rfl); omega)).trans HBB.out.q1
    have hq2 := (hg1.block _ (by have := HBB.out.sz; omega) (fun e => by injection e with e; have := HLT.out g (.inl rfl); omega)).trans HBB.out.q2
    have hs1 := hg1.size
    have ht1 : Turns (Blk g A b1 b2) w W1 := HBB.out.tr.step hg1 (by rintro k e; cases e; exact .inl (.inl rfl))
    have xi0 : W1.cell? ⟨w.heap.size, 0, none⟩ = some (.int .u8 i.proto) := cell_of hq1 0
    have xi1 : W1.cell? ⟨w.heap.size, 1, none⟩ = some (.int .u32 i.src) := cell_of hq1 1
    have xi2 : W1.cell? ⟨w.heap.size, 2, none⟩ = some (.int .u32 i.dst) := cell_of hq1 2
    have xi3 : W1.cell? ⟨w.heap.size, 3, none⟩ = some (.int .u16 i.sp) := cell_of hq1 3
    have xi4 : W1.cell? ⟨w.heap.size, 4, none⟩ = some (.int .u16 i.dp) := cell_of hq1 4
    have xo0 : W1.cell? ⟨w.heap.size + 1, 0, none⟩ = some (.int .u8 o.proto) := cell_of hq2 0
    have xo1 : W1.cell? ⟨w.heap.size + 1, 1, none⟩ = some (.int .u32 o.src) := cell_of hq2 1
    have xo2 : W1.cell? ⟨w.heap.size + 1, 2, none⟩ = some (.int .u32 o.dst) := cell_of hq2 2
    have xo3 : W1.cell? ⟨w.heap.size + 1, 3, none⟩ = some (.int .u16 o.sp) := cell_of hq2 3
    have xo4 : W1.cell? ⟨w.heap.size + 1, 4, none⟩ = some (.int .u16 o.dp) := cell_of hq2 4
    have w1 : W1.cell? ⟨g, 1, none⟩ = some (.slice A n c) := by rw [← hn]; exact hT1.c1
    have w4 : W1.cell? ⟨g, 4, none⟩ = some (.int .u64 ((last : Int) + 1)) := by have := hT1.c4; simpa using this
    have w1a := fun o => (((Below.refl W1.heap.size W1).alloc (Nat.le_refl _) o).cell (p := ⟨g, 1, none⟩) hT1.lt).trans w1
    obtain ⟨A', c', Z, hr, hZo, hZg, hnew⟩ := push_at (w := (W1.drew.alloc (.cells #[.int .u64 ((last : Int) + 1), .int .u8 i.proto, .int .u32 i.src, .int .u32 i.dst, .int .u16 i.sp, .int .u16 i.dp, .int .u8 o.proto, .int .u32 o.src, .int .u32 o.dst, .int .u16 o.sp, .int .u16 o.dp, .bool true] 38))) (.slice A n c) n S.L (by rw [← hn]; exact (row_drew hT1.own).alloc _) W1.heap.size ⟨(last : Int) + 1, i, o, true⟩ (heap_alloc_new W1.drew _) (by have := HOK.out.2.1; have := HOK.out.1.most2; rw [← hn]; omega)
    have hne1 : ∀ b, b < W1.heap.size → A ≠ some ⟨b, 0, none⟩ → Z.heap[b]? = W1.heap[b]? := fun b hb hne => by
      refine (hZg.block b (by simp; omega) (fun e => ?_)).trans (((Below.refl W1.heap.size W1).drew.alloc (Nat.le_refl _) _).block b hb)
      obtain ⟨_, hx⟩ := hT1.own
      rcases hx with ⟨hx, _⟩ | ⟨gg, cap, cur, hx, _⟩
      · injection hx with hx
        rw [hx] at e
        simp [Value.ownBlock] at e
      · injection hx with hx
        rw [hx] at e hne
        simp [Value.ownBlock] at e
        exact hne (by rw [e])
    have hZh := (hne1 g hT1.lt hT1.nA).trans hT1.heap
    have zc : Z.cell? ⟨g, 1, none⟩ = some (.slice A S.L.length c) := cell_of hZh 1
    have zf := free_of hZh 1
    have hTZ : Turns (Blk g A b1 b2) w Z := (ht1.step (grown_below (r := none) ((Below.refl W1.heap.size W1).drew.alloc (Nat.le_refl _) (.cells #[.int .u64 ((last : Int) + 1), .int .u8 i.proto, .int .u32 i.src, .int .u32 i.dst, .int .u16 i.sp, .int .u16 i.dp, .int .u8 o.proto, .int .u32 o.src, .int .u32 o.dst, .int .u16 o.sp, .int .u16 o.dp, .bool true] 38))) (by simp)).step hZg (by
      intro k e
      obtain ⟨_, hx⟩ := hT1.own
      rcases hx with ⟨hx, _⟩ | ⟨gg, cap, cur, hx, _⟩
      · injection hx with hx
        rw [hx] at e
        simp [Value.ownBlock] at e
      · injection hx with hx
        rw [hx] at e
        simp [Value.ownBlock] at e
        exact .inl (.inr (.inr (.inr (by rw [hx, e])))))
    have HR := Lib.hid hr
    have HZ1 := Lib.hid (And.intro hT1 (And.intro hq1 (And.intro hq2 (And.intro hZo (And.intro hZg (And.intro hnew (And.intro hne1 (And.intro hZh hTZ))))))))
    have HS1 := Lib.hid (And.intro hs1 ht1)
    have HNN := Lib.hid hn
    clear hT1 hg1 hq1 hq2 hs1 ht1 hr hZo hZg hnew hne1 hZh hTZ hn hWB
    refine wp_abs fun Q' hQ => ?_
    refine absorb (N := Q') (a := ?aF) (w := ?wF) ?lv ?fin
    case lv =>
      intro hF
      go_region_law (first | (refine step_append_run rfl _ _ 50 50 rfl _ _ rfl rfl _ _ (by exact HR.out) ?_))
      all_goals exact hF.out
    case fin =>
      refine hQ _ _ ?_
      obtain ⟨hT1, hq1, hq2, hZo, hZg, hnew, hne1, hZh, hTZ⟩ := HZ1.out
      obtain ⟨W2, hW2⟩ : ∃ W2, W2 = Z.setCell ⟨g, 1, none⟩ (.slice A' (n + 1) c') := ⟨_, rfl⟩
      rw [← hW2]
      have hg2 : Z.grownBy W2 (some g) := by rw [hW2]; exact grown_setCell _ _ _ _
      have hZs : W1.heap.size ≤ Z.heap.size := by have := hZg.size; simp at this; omega
      have hAw : ∀ b, w.heap.size ≤ b → A ≠ some ⟨b, 0, none⟩ := fun b hb e => by have := HLT.out b (.inr (.inr (.inr e))); omega
      have hgw := HLT.out g (.inl rfl)
      have hW1s : w.heap.size + 2 ≤ W1.heap.size := Nat.le_trans HBB.out.sz HS1.out.1
      have k1 : W2.heap[w.heap.size]? = some (.cells #[.int .u8 i.proto, .int .u32 i.src, .int .u32 i.dst, .int .u16 i.sp, .int .u16 i.dp] 33 (0, 0)) := ((hg2.block _ (by omega) (fun e => by injection e with e; omega)).trans (hne1 _ (by omega) (hAw _ (Nat.le_refl _)))).trans hq1
      have k2 : W2.heap[w.heap.size + 1]? = some (.cells #[.int .u8 o.proto, .int .u32 o.src, .int .u32 o.dst, .int .u16 o.sp, .int .u16 o.dp] 33 (0, 0)) := ((hg2.block _ (by omega) (fun e => by injection e with e; omega)).trans (hne1 _ (by omega) (hAw _ (by omega)))).trans hq2
      have hpl : (pushS S i o).L.length = n + 1 := by show (S.L ++ [_]).length = n + 1; rw [List.length_append, HNN.out]; rfl
      have hLa : ((pushS S i o).last : Int) = (last : Int) + 1 := by show ((S.last + 1 : Nat) : Int) = _; rw [HLAST.out]; push_cast; rfl
      have kg : W2.heap[g]? = some (.cells (tcells (pushS S i o) A' c' b1 b2) 72 (0, 0)) := by
        rw [hW2, heap_set hZh]
        unfold tcells
        rw [hpl, hLa]
        simp [pushS]
      have ko : W2.ownsRow 0 38 12 (.slice A' (pushS S i o).L.length c') (pushS S i o).L.length (row (pushS S i o).L) := by
        rw [hpl, show (pushS S i o).L = S.L ++ [⟨(last : Int) + 1, i, o, true⟩] from by unfold pushS; rw [HLAST.out]]
        refine row_keptE hZo (fun b hb => hg2.block _ (row_lt hZo hb).1 (fun e => ?_))
        injection e with e
        subst e
        obtain ⟨_, cs, fr, hh⟩ := row_lt hZo hb
        rw [hZh] at hh
        injection hh with hh
        injection hh with _ hh
        cases hh
      have km1 : MapF W2 b1 N (innF S.L) := hT1.inn.keptE ((hg2.block _ (Nat.lt_of_lt_of_le hT1.inn.lt hZs) (by simpa using hT1.ng1)).trans (hne1 _ hT1.inn.lt hT1.nA1))
      have km2 : MapF W2 b2 N (outF S.L) := hT1.out.keptE ((hg2.block _ (Nat.lt_of_lt_of_le hT1.out.lt hZs) (by simpa using hT1.ng2)).trans (hne1 _ hT1.out.lt hT1.nA2))
      have kt : Turns (Blk g A b1 b2) w W2 := hTZ.step hg2 (by rintro k e; cases e; exact .inl (.inl rfl))
      have kN : NewA w A A' := fun b hb => by
        rcases hnew b hb with e | e
        · left
          obtain ⟨_, hx⟩ := hT1.own
          rcases hx with ⟨hx, _⟩ | ⟨gg, cap, cur, hx, _⟩
          · injection hx with hx
            rw [hx] at e
            simp [Value.ownBlock] at e
          · injection hx with hx
            rw [hx] at e ⊢
            simp [Value.ownBlock] at e
            rw [e]
        · right
          have e' : W1.heap.size + 1 ≤ b := by simp at e; exact e
          omega
      have hlw : (Lit.int .u64 ((last : Int) + 1)).wf = true := by
        have h0 : (0 : Int) ≤ (last : Int) + 1 := by omega
        have h1 : (last : Int) + 1 ≤ 18446744073709551615 := by omega
        show (decide ((0 : Int) ≤ (last : Int) + 1) && decide ((last : Int) + 1 ≤ 18446744073709551615)) = true
        simp [h0, h1]
      obtain ⟨X, hXr, hXm, hXg⟩ := km1.drew.store HOI.out hlw (by have := HZN.out.2; unfold maxLen; omega)
      have hXg' : W2.grownBy X (some b1) := grown_trans (grown_drew (World.grownBy.refl _ _)) hXg
      have hXr' : (Instr.mapUpdate 70 (.map (some b1)) (.agg #[.int .u8 i.proto, .int .u32 i.src, .int .u32 i.dst, .int .u16 i.sp, .int .u16 i.dp]) (.int .u64 ((last : Int) + 1))).run Try.prog W2.drew = .ok () X := hXr
      have hng1 := hT1.ng1
      have hng2 := hT1.ng2
      have hb12 := hT1.ne
      have hb1w := HLT.out b1 (.inr (.inl rfl))
      have hb2w := HLT.out b2 (.inr (.inr (.inl rfl)))
      have hW2s : w.heap.size + 2 ≤ W2.heap.size := by have := hg2.size; omega
      have l1 : X.heap[w.heap.size]? = some (.cells #[.int .u8 i.proto, .int .u32 i.src, .int .u32 i.dst, .int .u16 i.sp, .int .u16 i.dp] 33 (0, 0)) := (hXg'.block _ (by omega) (fun e => by injection e with e; omega)).trans k1
      have l2 : X.heap[w.heap.size + 1]? = some (.cells #[.int .u8 o.proto, .int .u32 o.src, .int .u32 o.dst, .int .u16 o.sp, .int .u16 o.dp] 33 (0, 0)) := (hXg'.block _ (by omega) (fun e => by injection e with e; omega)).trans k2
      have lg : X.heap[g]? = some (.cells (tcells (pushS S i o) A' c' b1 b2) 72 (0, 0)) := (hXg'.block _ (by omega) (fun e => by injection e with e; exact hng1 e.symm)).trans kg
      have lo : X.ownsRow 0 38 12 (.slice A' (pushS S i o).L.length c') (pushS S i o).L.length (row (pushS S i o).L) := row_keptE ko (fun b hb => hXg'.block _ (row_lt ko hb).1 (fun e => by
        injection e with e
        subst e
        obtain ⟨_, cs, fr, hh⟩ := row_lt ko hb
        obtain ⟨es, ck, hm⟩ := km1.isMap
        rw [hm] at hh
        cases hh))
      have lm2 : MapF X b2 N (outF S.L) := km2.keptE (hXg'.block _ km2.lt (fun e => by injection e with e; exact hb12 e.symm))
      have lt : Turns (Blk g A b1 b2) w X := kt.step hXg' (by rintro k e; cases e; exact .inl (.inr (.inl rfl)))
      have ki0 : W2.cell? ⟨w.heap.size, 0, none⟩ = some (.int .u8 i.proto) := cell_of k1 0
      have ki1 : W2.cell? ⟨w.heap.size, 1, none⟩ = some (.int .u32 i.src) := cell_of k1 1
      have ki2 : W2.cell? ⟨w.heap.size, 2, none⟩ = some (.int .u32 i.dst) := cell_of k1 2
      have ki3 : W2.cell? ⟨w.heap.size, 3, none⟩ = some (.int .u16 i.sp) := cell_of k1 3
      have ki4 : W2.cell? ⟨w.heap.size, 4, none⟩ = some (.int .u16 i.dp) := cell_of k1 4
      have ko0 : W2.cell? ⟨w.heap.size + 1, 0, none⟩ = some (.int .u8 o.proto) := cell_of k2 0
      have ko1 : W2.cell? ⟨w.heap.size + 1, 1, none⟩ = some (.int .u32 o.src) := cell_of k2 1
      have ko2 : W2.cell? ⟨w.heap.size + 1, 2, none⟩ = some (.int .u32 o.dst) := cell_of k2 2
      have ko3 : W2.cell? ⟨w.heap.size + 1, 3, none⟩ = some (.int .u16 o.sp) := cell_of k2 3
      have ko4 : W2.cell? ⟨w.heap.size + 1, 4, none⟩ = some (.int .u16 o.dp) := cell_of k2 4
      have kc2 : W2.cell? ⟨g, 2, none⟩ = some (.map (some b1)) := cell_of kg 2
      have kc4 : W2.cell? ⟨g, 4, none⟩ = some (.int .u64 ((last : Int) + 1)) := by rw [← hLa]; exact cell_of kg 4
      have li0 : X.cell? ⟨w.heap.size, 0, none⟩ = some (.int .u8 i.proto) := cell_of l1 0
      have li1 : X.cell? ⟨w.heap.size, 1, none⟩ = some (.int .u32 i.src) := cell_of l1 1
      have li2 : X.cell? ⟨w.heap.size, 2, none⟩ = some (.int .u32 i.dst) := cell_of l1 2
      have li3 : X.cell? ⟨w.heap.size, 3, none⟩ = some (.int .u16 i.sp) := cell_of l1 3
      have li4 : X.cell? ⟨w.heap.size, 4, none⟩ = some (.int .u16 i.dp) := cell_of l1 4
      have lo0 : X.cell? ⟨w.heap.size + 1, 0, none⟩ = some (.int .u8 o.proto) := cell_of l2 0
      have lo1 : X.cell? ⟨w.heap.size + 1, 1, none⟩ = some (.int .u32 o.src) := cell_of l2 1
      have lo2 : X.cell? ⟨w.heap.size + 1, 2, none⟩ = some (.int .u32 o.dst) := cell_of l2 2
      have lo3 : X.cell? ⟨w.heap.size + 1, 3, none⟩ = some (.int .u16 o.sp) := cell_of l2 3
      have lo4 : X.cell? ⟨w.heap.size + 1, 4, none⟩ = some (.int .u16 o.dp) := cell_of l2 4
      have hXs := hXg'.size
      have HX := Lib.hid (And.intro l1 (And.intro l2 (And.intro lg (And.intro lo (And.intro hXm (And.intro lm2 (And.intro lt (And.intro kN (And.intro hLa (And.intro hng1 (And.intro hng2 (And.intro hb12 (And.intro hlw (show w.heap.size + 2 ≤ X.heap.size by omega))))))))))))))
      clear hT1 hq1 hq2 hZo hZg hnew hne1 hZh hTZ hW2 hg2 hZs hAw hgw hW1s k1 k2 hpl kg ko km1 km2 kt kN hXm hXg hXg' l1 l2 lg lo lm2 lt hLa hXs hXr hng1 hng2 hb12 hb1w hb2w hW2s hlw w1 w4 w1a zc zf xi0 xi1 xi2 xi3 xi4 xo0 xo1 xo2 xo3 xo4 HR
      go_wp2
      refine wp_region_tail 9 (by kernel_rfl) (by kernel_rfl) ?_
      simp only [List.take_succ_cons, List.take_zero, List.drop_succ_cons, List.drop_zero]
      repeat still_step
      refine wpStill_nil ?_
      go_wp2_with fail
      refine (HZO.out _).mono ?_
      rintro e Y ⟨rfl, hbY⟩
      obtain ⟨l1, l2, lg, lo, lm1, lm2, lt, kN, hLa, hng1, hng2, hb12, hlw, hXs⟩ := HX.out
      have m1 := (hbY.block _ (show w.heap.size < X.heap.size by omega)).trans l1
      have m2 := (hbY.block _ (show w.heap.size + 1 < X.heap.size by omega)).trans l2
      have mg := (hbY.block _ (Array.getElem?_eq_some_iff.1 lg).1).trans lg
      have mo := row_keptE lo (fun b hb => hbY.block _ (row_lt lo hb).1)
      have mm1 := lm1.keptE (hbY.block _ lm1.lt)
      have mm2 := lm2.keptE (hbY.block _ lm2.lt)
      have mt : Turns (Blk g A b1 b2) w Y := lt.step (grown_below (r := none) hbY) (by simp)
      obtain ⟨U, hUr, hUm, hUg⟩ := mm2.drew.store HOO.out hlw (by have := HZN.out.2; unfold maxLen; omega)
      have hUg' : Y.grownBy U (some b2) := grown_trans (grown_drew (World.grownBy.refl _ _)) hUg
      have hUr' : (Instr.mapUpdate 70 (.map (some b2)) (.agg #[.int .u8 o.proto, .int .u32 o.src, .int .u32 o.dst, .int .u16 o.sp, .int .u16 o.dp]) (.int .u64 ((last : Int) + 1))).run Try.prog Y.drew = .ok () U := hUr
      have mi0 : Y.cell? ⟨w.heap.size, 0, none⟩ = some (.int .u8 i.proto) := cell_of m1 0
      have mi1 : Y.cell? ⟨w.heap.size, 1, none⟩ = some (.int .u32 i.src) := cell_of m1 1
      have mi2 : Y.cell? ⟨w.heap.size, 2, none⟩ = some (.int .u32 i.dst) := cell_of m1 2
      have mi3 : Y.cell? ⟨w.heap.size, 3, none⟩ = some (.int .u16 i.sp) := cell_of m1 3
      have mi4 : Y.cell? ⟨w.heap.size, 4, none⟩ = some (.int .u16 i.dp) := cell_of m1 4
      have mo0 : Y.cell? ⟨w.heap.size + 1, 0, none⟩ = some (.int .u8 o.proto) := cell_of m2 0
      have mo1 : Y.cell? ⟨w.heap.size + 1, 1, none⟩ = some (.int .u32 o.src) := cell_of m2 1
      have mo2 : Y.cell? ⟨w.heap.size + 1, 2, none⟩ = some (.int .u32 o.dst) := cell_of m2 2
      have mo3 : Y.cell? ⟨w.heap.size + 1, 3, none⟩ = some (.int .u16 o.sp) := cell_of m2 3
      have mo4 : Y.cell? ⟨w.heap.size + 1, 4, none⟩ = some (.int .u16 o.dp) := cell_of m2 4
      have mc3 : Y.cell? ⟨g, 3, none⟩ = some (.map (some b2)) := cell_of mg 3
      have mc4 : Y.cell? ⟨g, 4, none⟩ = some (.int .u64 ((last : Int) + 1)) := by rw [← hLa]; exact cell_of mg 4
      have ug := (hUg'.block _ (Array.getElem?_eq_some_iff.1 mg).1 (fun e => by injection e with e; exact hng2 e.symm)).trans mg
      have uc4 : U.cell? ⟨g, 4, none⟩ = some (.int .u64 ((last : Int) + 1)) := by rw [← hLa]; exact cell_of ug 4
      have HY := Lib.hid (And.intro mg (And.intro mo (And.intro mm1 (And.intro mm2 (And.intro mt (And.intro kN (And.intro hUm (And.intro hUg' (And.intro ug hb12)))))))))
      clear l1 l2 lg lo lm1 lm2 lt kN hLa hng1 hng2 hb12 hlw hXs m1 m2 mg mo mm1 mm2 mt hUm hUg hUg' hUr hbY ug kc2 kc4 hXr' ki0 ki1 ki2 ki3 ki4 ko0 ko1 ko2 ko3 ko4 li0 li1 li2 li3 li4 lo0 lo1 lo2 lo3 lo4
      cases z with
      | true =>
        go_wp2
        go_ret3
        obtain ⟨mg, mo, mm1, mm2, mt, kN, hUm, hUg', ug, hb12⟩ := HY.out
        have hzz : o = Tup.zero := of_decide_eq_true HZE.out
        refine ⟨rfl, A', c', add_fin HOK.out.1 HOK.out.2.1 (by rw [HLAST.out]; exact hlast) HOI.out HOO.out HZN.out.1 HOK.out.2.2.1 HOK.out.2.2.2 mg mo (by rw [HLAST.out]; exact mm1) ((mm2.mono (Nat.le_succ _)).congr fun t _ => ?_) hb12 HZN.out.2, mt, kN⟩
        simp only [show ¬ (o ≠ Tup.zero ∧ t = o) from fun q => q.1 hzz, if_false]
      | false =>
        go_wp2
        refine wp_region_tail 9 (by kernel_rfl) (by kernel_rfl) ?_
        simp only [List.take_succ_cons, List.take_zero, List.drop_succ_cons, List.drop_zero]
        repeat still_step
        refine wpStill_nil ?_
        go_wp2
        go_ret3
        obtain ⟨mg, mo, mm1, mm2, mt, kN, hUm, hUg', ug, hb12⟩ := HY.out
        have hzz : o ≠ Tup.zero := of_decide_eq_false HZE.out
        refine ⟨rfl, A', c', add_fin HOK.out.1 HOK.out.2.1 (by rw [HLAST.out]; exact hlast) HOI.out HOO.out HZN.out.1 HOK.out.2.2.1 HOK.out.2.2.2 ug ?_ (by rw [HLAST.out]; exact mm1.keptE (hUg'.block _ mm1.lt (fun e => by injection e with e; exact hb12 e))) (hUm.congr fun t _ => ?_) hb12 HZN.out.2, mt.step hUg' (by rintro k e; cases e; exact .inl (.inr (.inr (.inl rfl)))), kN⟩
        · refine row_keptE mo (fun b hb => hUg'.block _ (row_lt mo hb).1 (fun e => ?_))
          injection e with e
          subst e
          obtain ⟨_, cs, fr, hh⟩ := row_lt mo hb
          obtain ⟨es, ck, hm⟩ := mm2.isMap
          rw [hm] at hh
          cases hh
        · by_cases hto : t = o
          · simp [hto, hzz, HLAST.out]
          · simp only [hto, and_false, if_false]
end
end Go.Proofs.Ytdpomneoiagpiaa
