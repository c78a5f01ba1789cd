/- gone: a flow taken away. -/
import Derived.Test.YtdpomneoiagpiaaSpec
import Derived.StillTailTactics
set_option linter.unusedVariables false
namespace Go.Proofs.Ytdpomneoiagpiaa
open Go.RowKit Go.Deep Go.BigFrame
attribute [local go_sem ↓] Go.wp_at_zero Go.wp_at_succ
theorem wp_region_tail {P : Program} {id : Nat} {Q : Exit → Act → World → Prop} {a : Act} {w : World} {l : List Oper} (n : Nat) (hm : P.follows .mixedOrders = true) (hB : Region.lexTailB .any l.toArray n = true)
    (h : wpStill P l.toArray w.drew (fun a' => wpList P l.toArray Q (l.drop n) a' w.drew) (l.take n) a) : (Code.region id l.toArray true).wp P Q a w :=
  wp_region_still_tail n hm hB h
theorem wp_name {P : Program} {c : Code} {Q : Exit → Act → World → Prop} {a : Act} {w : World} (h : ∀ W, W = w → c.wp P Q a W) : c.wp P Q a w := h _ rfl
theorem MapF.drew {w : World} {b n : Nat} {f : Tup → Int} (h : MapF w b n f) : MapF w.drew b n f := h
theorem row_drew {w : World} {B : Nat} {e : TypeId} {size n : Nat} {v : Value} {xs : List Value} (h : w.ownsRow B e size v n xs) : w.drew.ownsRow B e size v n xs := h
theorem Turns.step {S : Nat → Prop} {w w1 w2 : World} {r : Option Nat} (h : Turns S w w1) (k : w1.grownBy w2 r) (hr : ∀ k, r = some k → S k ∨ w.heap.size ≤ k) : Turns S w w2 :=
  ⟨k.os.trans h.os, k.tape.trans h.tape, k.output.trans h.output, Nat.le_trans h.size k.size, fun i hi hs => (k.block i (Nat.lt_of_lt_of_le hi h.size) (fun q => by rcases hr i q.symm with e | e; exact hs e; omega)).trans (h.block i hi hs)⟩
theorem Turns.drew {S : Nat → Prop} {w w1 : World} (h : Turns S w w1) : Turns S w w1.drew := ⟨h.os, h.tape, h.output, h.size, h.block⟩
theorem Fl.val_inn (f : Fl) : f.inn.val = .agg #[.int .u8 f.inn.proto, .int .u32 f.inn.src, .int .u32 f.inn.dst, .int .u16 f.inn.sp, .int .u16 f.inn.dp] := rfl
theorem Tb.at {w : World} {g c b1 b2 N : Nat} {A : Option Addr} {s : TS} (h : Tb w g A c b1 b2 N s) {k : Nat} {f : Fl} (hf : s.L[k]? = some f) :
    ∃ ba cur, A = some ⟨ba, 0, none⟩ ∧ ba < w.heap.size ∧ FlAt w ba (k * 12) f ∧ w.heap[ba]? = some (.cells cur 38 (0, 0)) ∧ ba ≠ g ∧ ba ≠ b1 ∧ ba ≠ b2 := by
  obtain ⟨b, o, hA, hl, ha⟩ := FlsAt.own h.own k f hf
  have hi := (List.getElem?_eq_some_iff.1 hf).1
  rcases h.own.2 with ⟨h3, h4⟩ | ⟨g', cap, cur, h3, hb, hg, q1, q2, q3, q4⟩
  · omega
  · injection h3 with h3 _ _
    rw [hA] at h3
    injection h3 with h3
    injection h3 with h3 h5
    subst h3 h5
    rw [Nat.zero_add] at ha
    exact ⟨b, cur, hA, hl, ha, hg, fun e => h.nA (by rw [hA, e]), fun e => h.nA1 (by rw [hA, e]), fun e => h.nA2 (by rw [hA, e])⟩
section
variable {w : World} {g c b1 b2 N : Nat} {A : Option Addr} {s : TS}
set_option maxHeartbeats 1600000
theorem gone_any (h : Tb w g A c b1 b2 N s) (ho : s.Ok) (k : Nat) (f : Fl) (hf : s.L[k]? = some f) :
    Calls Try.prog 36 #[.pointer (some ⟨g, 0, none⟩), .int .i64 k] w fun e w' => e = .returned (.tuple #[]) ∧ Tb w' g A c b1 b2 N (delS s k) ∧ Turns (Blk g A b1 b2) w w' := by
  have c1 := h.c1
  have hkl := (List.getElem?_eq_some_iff.1 hf).1
  obtain ⟨ba, cur, hA, hl, hat, hbc, n0, n1, n2⟩ := h.at hf
  obtain ⟨hf1, hf2, _⟩ := ho.tup f (List.mem_of_getElem? hf)
  obtain ⟨k0, k1, k2, k3, k4, k5, k6, k7, k8, k9, k10, k11⟩ := hat
  have hlen := ho.len
  have hm2 := ho.most2
  have H := Lib.hid h
  have HF := Lib.hid hf
  have HO := Lib.hid ho
  have HN := Lib.hid (And.intro n0 (And.intro n1 n2))
  have HFI := Lib.hid (And.intro hf1 hf2)
  obtain ⟨n, hn⟩ : ∃ n, s.L.length = n := ⟨_, rfl⟩
  have HL := Lib.hid hn
  rw [hn] at c1 hkl hlen
  have HX := Lib.hid (And.intro hlen hm2)
  subst hA
  clear h ho hn hf hf1 hf2 n0 n1 n2 hbc hl
  go_enter Try.func36, Try.ntmps36
  go_wp2
  refine wp_name fun W hW => ?_
  have hBW : Below w.heap.size w W := by rw [hW]; exact (Below.refl _ _).alloc (Nat.le_refl _) _
  have hh : W.heap[w.heap.size]? = some (.cells f.arr 38) := by rw [hW]; exact heap_alloc_new w _
  have hsz : w.heap.size < W.heap.size := by rw [hW]; simp
  have HT := H.out.below hBW
  obtain ⟨X, hX, hXi, hXg⟩ : ∃ X, (∀ ty, (Builtin.delete_ #[70, 33] ty #[.map (some b1), .agg #[.int .u8 f.inn.proto, .int .u32 f.inn.src, .int .u32 f.inn.dst, .int .u16 f.inn.sp, .int .u16 f.inn.dp]]).run Try.prog W.drew = .ok (.tuple #[]) X) ∧ MapF X b1 N (innF (delS s k).L) ∧ W.grownBy X (some b1) := by
    obtain ⟨X, q1, q2, q3⟩ := HT.inn.drew.drop HFI.out.1 0
    exact ⟨X, fun ty => q1, q2.congr fun t _ => (innF_del HO.out HF.out t).symm, grown_trans (grown_drew (World.grownBy.refl _ _)) q3⟩
  have d2 := HT.c2
  have e1 : W.cell? ⟨w.heap.size, 1, none⟩ = some (.int .u8 f.inn.proto) := cell_of hh 1
  have e2 : W.cell? ⟨w.heap.size, 2, none⟩ = some (.int .u32 f.inn.src) := cell_of hh 2
  have e3 : W.cell? ⟨w.heap.size, 3, none⟩ = some (.int .u32 f.inn.dst) := cell_of hh 3
  have e4 : W.cell? ⟨w.heap.size, 4, none⟩ = some (.int .u16 f.inn.sp) := cell_of hh 4
  have e5 : W.cell? ⟨w.heap.size, 5, none⟩ = some (.int .u16 f.inn.dp) := cell_of hh 5
  have HB := Lib.hid (And.intro hBW (And.intro hh (And.intro hsz (And.intro HT (And.intro hXi hXg)))))
  clear hW hBW hh hsz HT hXi hXg k0 k1 k2 k3 k4 k5 k6 k7 k8 k9 k10 k11
  refine wp_region_tail 6 (by kernel_rfl) (by kernel_rfl) ?_
  simp only [List.take_succ_cons, List.take_zero, List.drop_succ_cons, List.drop_zero]
  repeat still_step
  refine wpStill_nil ?_
  go_wp2
  obtain ⟨hBW, hh, hsz, HT, hXi, hXg⟩ := HB.out
  have hw1 : w.heap.size ≠ b1 := by have := H.out.inn.lt; omega
  have hh2 : X.heap[w.heap.size]? = some (.cells f.arr 38) := (hXg.block _ hsz (by simp; omega)).trans hh
  have hXs : w.heap.size < X.heap.size := Nat.lt_of_lt_of_le hsz hXg.size
  have hXh : X.heap[g]? = some (.cells (tcells s (some ⟨ba, 0, none⟩) c b1 b2) 72 (0, 0)) := (hXg.block _ HT.lt (by simpa using H.out.ng1.symm)).trans HT.heap
  have hXo : X.ownsRow 0 38 12 (.slice (some ⟨ba, 0, none⟩) s.L.length c) s.L.length (row s.L) := row_keptE HT.own (fun i hi => hXg.block i (row_lt HT.own hi).1 (by injection hi with hi; injection hi with hi; subst hi; simpa using HN.out.2.1))
  have hXm : MapF X b2 N (outF s.L) := HT.out.keptE (hXg.block _ HT.out.lt (by simpa using H.out.ne.symm))
  have hTX : Turns (Blk g (some ⟨ba, 0, none⟩) b1 b2) w X := (Turns.below hBW).step hXg (by rintro k' e; cases e; exact .inl (.inr (.inl rfl)))
  obtain ⟨Y, hY, hYi, hYg⟩ : ∃ Y, (∀ ty, (Builtin.delete_ #[70, 33] ty #[.map (some b2), .agg #[.int .u8 f.out.proto, .int .u32 f.out.src, .int .u32 f.out.dst, .int .u16 f.out.sp, .int .u16 f.out.dp]]).run Try.prog X.drew = .ok (.tuple #[]) Y) ∧ MapF Y b2 N (outF (delS s k).L) ∧ X.grownBy Y (some b2) := by
    obtain ⟨Y, q1, q2, q3⟩ := hXm.drew.drop HFI.out.2 0
    exact ⟨Y, fun ty => q1, q2.congr fun t _ => (outF_del HO.out HF.out t).symm, grown_trans (grown_drew (World.grownBy.refl _ _)) q3⟩
  have d3 : X.cell? ⟨g, 3, none⟩ = some (.map (some b2)) := cell_of hXh 3
  have e6 : X.cell? ⟨w.heap.size, 6, none⟩ = some (.int .u8 f.out.proto) := cell_of hh2 6
  have e7 : X.cell? ⟨w.heap.size, 7, none⟩ = some (.int .u32 f.out.src) := cell_of hh2 7
  have e8 : X.cell? ⟨w.heap.size, 8, none⟩ = some (.int .u32 f.out.dst) := cell_of hh2 8
  have e9 : X.cell? ⟨w.heap.size, 9, none⟩ = some (.int .u16 f.out.sp) := cell_of hh2 9
  have e10 : X.cell? ⟨w.heap.size, 10, none⟩ = some (.int .u16 f.out.dp) := cell_of hh2 10
  have hb1X := hXi.lt
  have hYh : Y.heap[g]? = some (.cells (tcells s (some ⟨ba, 0, none⟩) c b1 b2) 72 (0, 0)) := (hYg.block _ (Array.getElem?_eq_some_iff.1 hXh).1 (by simpa using H.out.ng2.symm)).trans hXh
  have hYo : Y.ownsRow 0 38 12 (.slice (some ⟨ba, 0, none⟩) s.L.length c) s.L.length (row s.L) := row_keptE hXo (fun i hi => hYg.block i (row_lt hXo hi).1 (by injection hi with hi; injection hi with hi; subst hi; simpa using HN.out.2.2))
  have hYm : MapF Y b1 N (innF (delS s k).L) := hXi.keptE (hYg.block _ hXi.lt (by simpa using H.out.ne))
  have hTY : Turns (Blk g (some ⟨ba, 0, none⟩) b1 b2) w Y := hTX.step hYg (by rintro k' e; cases e; exact .inl (.inr (.inr (.inl rfl))))
  have hDEL := delete_any 0 ba c s.L n k Y HL.out hkl (by rw [← HL.out]; exact hYo) (by have := HX.out; omega)
  have y1 : Y.cell? ⟨g, 1, none⟩ = some (.slice (some ⟨ba, 0, none⟩) n c) := by rw [← HL.out]; exact cell_of hYh 1
  have HD := Lib.hid hDEL
  have HB3 := Lib.hid (And.intro hYh (And.intro hYm (And.intro hTY hYi)))
  clear hYh hYo hYm hTY hDEL hXh hXo hXi hTX hXs hYi hYg hb1X hBW hh hsz HT hXm hXg hh2 hw1 e2 e3 e4 e5 d2 hX
  refine wp_region_tail 6 (by kernel_rfl) (by kernel_rfl) ?_
  simp only [List.take_succ_cons, List.take_zero, List.drop_succ_cons, List.drop_zero]
  repeat still_step
  refine wpStill_nil ?_
  go_wp2_with fail
  refine HD.out.mono ?_
  rintro e Z ⟨rfl, hZo, hZg⟩
  obtain ⟨hYh, hYm, hTY, hYi⟩ := HB3.out
  have hZh : Z.heap[g]? = some (.cells (tcells s (some ⟨ba, 0, none⟩) c b1 b2) 72 (0, 0)) := (hZg.block _ (Array.getElem?_eq_some_iff.1 hYh).1 (by simpa using HN.out.1.symm)).trans hYh
  have z1 : Z.cell? ⟨g, 1, none⟩ = some (.slice (some ⟨ba, 0, none⟩) s.L.length c) := cell_of hZh 1
  have z2 := free_of hZh 1
  have HZ := Lib.hid (And.intro hZh (And.intro hZo hZg))
  clear hYh hYm hTY hYi hZh hZo hZg
  go_wp2
  go_end0
  obtain ⟨hYh, hYm, hTY, hYi⟩ := HB3.out
  obtain ⟨hZh, hZo, hZg⟩ := HZ.out
  have hdl : (delS s k).L.length = n - 1 := by unfold delS; rw [List.length_eraseIdx, HL.out, if_pos hkl]
  refine ⟨rfl, { heap := ?_, own := ?_, inn := ?_, out := ?_, ne := H.out.ne, nN := H.out.nN }, ?_⟩
  · rw [heap_set hZh]
    unfold tcells
    rw [hdl]
    rfl
  · rw [hdl]
    exact row_keptE hZo (fun i hi => by injection hi with hi; injection hi with hi; subst hi; exact (grown_setCell Z g 1 _).block _ (row_lt hZo rfl).1 (by simpa using HN.out.1))
  · exact hYm.keptE (((grown_setCell Z g 1 _).block _ (Nat.lt_of_lt_of_le hYm.lt hZg.size) (by simpa using H.out.ng1)).trans (hZg.block _ hYm.lt (by simpa using HN.out.2.1.symm)))
  · exact hYi.keptE (((grown_setCell Z g 1 _).block _ (Nat.lt_of_lt_of_le hYi.lt hZg.size) (by simpa using H.out.ng2)).trans (hZg.block _ hYi.lt (by simpa using HN.out.2.2.symm)))
  · exact (hTY.step hZg (by rintro k' e; cases e; exact .inl (.inr (.inr (.inr rfl))))).step (grown_setCell Z g 1 _) (by rintro k' e; cases e; exact .inl (.inl rfl))
end
end Go.Proofs.Ytdpomneoiagpiaa
