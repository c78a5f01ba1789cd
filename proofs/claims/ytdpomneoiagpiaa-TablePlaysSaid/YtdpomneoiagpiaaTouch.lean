/- Touch. -/
import Derived.Test.YtdpomneoiagpiaaPush
set_option linter.unusedVariables false
namespace Go.Proofs.Ytdpomneoiagpiaa
open Go.RowKit Go.Deep Go.BigFrame
attribute [local go_sem ↓] Go.wp_at_zero Go.wp_at_succ
section
variable {w : World} {g c b1 b2 N : Nat} {A : Option Addr} {s : TS}
set_option maxHeartbeats 12800000
theorem touch1_any (h : Tb w g A c b1 b2 N s) (ho : s.Ok) (k : Nat) (f : Fl) (hf : s.L[k]? = some f) (ba : Nat) (hA : A = some ⟨ba, 0, none⟩) (pb : Nat)
    (hp : w.cell? ⟨pb, 0, none⟩ = some (.pointer (some ⟨g, 0, none⟩))) (np : ¬ Blk g A b1 b2 pb) :
    Calls Try.prog 38 #[.int .i64 k, .pointer (some ⟨ba, k * 12, none⟩), .pointer (some ⟨pb, 0, none⟩)] w fun e w' => ∃ n, e = .returned (.int .i64 n) ∧ n = 0 ∧ ∃ A' c', Tb w' g A' c' b1 b2 N { s with L := s.L.eraseIdx k ++ [f] } ∧ Turns (Blk g A b1 b2) w w' ∧ NewA w A A' := by
  have c1 := h.c1
  obtain ⟨ba', cur, hA', hbl, hat, hbc, n0, n1, n2⟩ := h.at hf
  subst hA
  injection hA' with hA'
  injection hA' with hA'
  subst hA'
  have hkl := (List.getElem?_eq_some_iff.1 hf).1
  have hlen := ho.len
  have hm2 := ho.most2
  obtain ⟨n, hn⟩ : ∃ n, s.L.length = n := ⟨_, rfl⟩
  have HL := Lib.hid hn
  obtain ⟨k0, k1, k2, k3, k4, k5, k6, k7, k8, k9, k10, k11⟩ := hat
  have H := Lib.hid h
  have HO := Lib.hid ho
  have HF := Lib.hid hf
  have HN := Lib.hid (And.intro n0 (And.intro n1 n2))
  have HB := Lib.hid (And.intro hbc hbl)
  have HNP := Lib.hid np
  have HDEL : Hid (∀ W, Below w.heap.size w W → Calls Try.prog 39 #[.slice (some ⟨ba, 0, none⟩) n c, .int .i64 k, .int .i64 ((k : Int) + 1)] W fun e w' => e = .returned (.slice (some ⟨ba, 0, none⟩) (n - 1) c) ∧
      w'.ownsRow 0 38 12 (.slice (some ⟨ba, 0, none⟩) (n - 1) c) (n - 1) (row (s.L.eraseIdx k)) ∧ W.grownBy w' (some ba)) :=
    Lib.hid (fun W hW => delete_any 0 ba c s.L n k W hn (by omega) (by rw [← hn]; exact row_keptE h.own (fun i hi => hW.block i (by injection hi with hi; injection hi with hi; subst hi; exact hbl))) (by omega))
  have HT := Lib.hid (fun W (hW : Below w.heap.size w W) => h.below hW)
  rw [hn] at c1 hkl hlen
  have hcl : ∀ b i v W, Below w.heap.size w W → w.cell? ⟨b, i, none⟩ = some v → W.cell? ⟨b, i, none⟩ = some v := fun b i v W hW hv => (hW.cell (p := ⟨b, i, none⟩) (World.block_lt_of_cell? w _ hv)).trans hv
  have HCL := Lib.hid hcl
  have HP := Lib.hid hp
  have HC1 := Lib.hid c1
  clear h ho hf hbc hbl n0 n1 n2 np hn hcl
  go_enter Try.func38, Try.ntmps38
  go_wp2
  refine wp_name fun W hW => ?_
  have hBW : Below w.heap.size w W := by rw [hW]; exact (Below.refl _ _).alloc (Nat.le_refl _) _
  have hWs : W.heap.size = w.heap.size + 1 := by rw [hW]; simp
  have hh : W.heap[w.heap.size]? = some (.cells f.arr 38 (0, 0)) := by rw [hW]; exact heap_alloc_new w _
  have w1 := HCL.out _ _ _ _ hBW HC1.out
  have wp := HCL.out _ _ _ _ hBW HP.out
  have u0 : W.cell? ⟨w.heap.size, 0, none⟩ = some (.int .u64 f.id) := cell_of hh 0
  have u1 : W.cell? ⟨w.heap.size, 1, none⟩ = some (.int .u8 f.inn.proto) := cell_of hh 1
  have u2 : W.cell? ⟨w.heap.size, 2, none⟩ = some (.int .u32 f.inn.src) := cell_of hh 2
  have u3 : W.cell? ⟨w.heap.size, 3, none⟩ = some (.int .u32 f.inn.dst) := cell_of hh 3
  have u4 : W.cell? ⟨w.heap.size, 4, none⟩ = some (.int .u16 f.inn.sp) := cell_of hh 4
  have u5 : W.cell? ⟨w.heap.size, 5, none⟩ = some (.int .u16 f.inn.dp) := cell_of hh 5
  have u6 : W.cell? ⟨w.heap.size, 6, none⟩ = some (.int .u8 f.out.proto) := cell_of hh 6
  have u7 : W.cell? ⟨w.heap.size, 7, none⟩ = some (.int .u32 f.out.src) := cell_of hh 7
  have u8 : W.cell? ⟨w.heap.size, 8, none⟩ = some (.int .u32 f.out.dst) := cell_of hh 8
  have u9 : W.cell? ⟨w.heap.size, 9, none⟩ = some (.int .u16 f.out.sp) := cell_of hh 9
  have u10 : W.cell? ⟨w.heap.size, 10, none⟩ = some (.int .u16 f.out.dp) := cell_of hh 10
  have u11 : W.cell? ⟨w.heap.size, 11, none⟩ = some (.bool f.emb) := cell_of hh 11
  have HW := Lib.hid (And.intro hBW (And.intro hWs hh))
  have HDW := Lib.hid (HDEL.out W.drew hBW.drew)
  clear hW hBW hWs hh hp c1 k0 k1 k2 k3 k4 k5 k6 k7 k8 k9 k10 k11
  have nba : ¬ pb = ba := fun e => HNP.out (.inr (.inr (.inr (by rw [e]))))
  have nsz : ¬ w.heap.size = ba := by have := HB.out.2; omega
  have nbg : ¬ pb = g := fun e => HNP.out (.inl e)
  have nsg : ¬ w.heap.size = g := by have := H.out.lt; omega
  have nga : ¬ g = ba := fun e => HN.out.1 e.symm
  have FY : Hid (∀ Y, Turns (fun k => k = ba) W Y → (Y.cell? ⟨pb, 0, none⟩ = some (.pointer (some ⟨g, 0, none⟩)) ∧ Y.cell? ⟨g, 1, none⟩ = some (.slice (some ⟨ba, 0, none⟩) n c) ∧ Y.frozen? ⟨g, 1, none⟩ = false) ∧ Y.heap[w.heap.size]? = some (.cells f.arr 38 (0, 0))) := Lib.hid (fun Y hY => by
    have q := fun b hb hne => hY.block b (Nat.lt_of_lt_of_le hb HW.out.1.size) hne
    have qg : Y.heap[g]? = some (.cells (tcells s (some ⟨ba, 0, none⟩) c b1 b2) 72 (0, 0)) := (q g H.out.lt nga).trans ((HW.out.1.block g H.out.lt).trans H.out.heap)
    have hpl := World.block_lt_of_cell? w _ HP.out
    exact ⟨⟨by rw [← wp]; unfold World.cell?; rw [show (Y.heap[pb]?) = W.heap[pb]? from q pb hpl nba], by rw [cell_of qg, ← HL.out]; rfl, free_of qg 1⟩, (hY.block _ (by have := HW.out.2.1; omega) nsz).trans HW.out.2.2⟩)
  have PA : Hid (∀ (Y : World) (q : Nat), Turns (fun k => k = ba) W Y → Y.ownsRow 0 38 12 (.slice (some ⟨ba, 0, none⟩) (n - 1) c) (n - 1) (row (s.L.eraseIdx k)) → Y.heap[q]? = some (.cells f.arr 38 (0, 0)) →
      ∃ A' c' Z, (Builtin.append_ #[50, 50] 50 #[.slice (some ⟨ba, 0, none⟩) (n - 1) c, .slice (some ⟨q, 0, none⟩) 1 1]).run Try.prog Y = .ok (.slice A' (n - 1 + 1) c') Z ∧ Z.ownsRow 0 38 12 (.slice A' (n - 1 + 1) c') (n - 1 + 1) (row (s.L.eraseIdx k ++ [f])) ∧ Turns (fun k => k = ba) W Z ∧ NewA W (some ⟨ba, 0, none⟩) A') :=
    Lib.hid (fun Y q hY ho hq => by
      obtain ⟨A', c', Z, a1, a2, a3, a4⟩ := push_at _ _ _ ho q f hq (by omega)
      refine ⟨A', c', Z, a1, a2, hY.step a3 (fun k e => by simp [Value.ownBlock] at e; exact .inl e.symm), fun k hk => ?_⟩
      rcases a4 k hk with e | e
      · left
        simp [Value.ownBlock] at e
        rw [e]
      · right
        exact Nat.le_trans hY.size e)
  have DA : Hid (∀ W', Turns (fun k => k = ba) W W' → W'.heap[ba]? = W.heap[ba]? → Calls Try.prog 39 #[.slice (some ⟨ba, 0, none⟩) n c, .int .i64 k, .int .i64 ((k : Int) + 1)] W' fun e w' => e = .returned (.slice (some ⟨ba, 0, none⟩) (n - 1) c) ∧
      w'.ownsRow 0 38 12 (.slice (some ⟨ba, 0, none⟩) (n - 1) c) (n - 1) (row (s.L.eraseIdx k)) ∧ Turns (fun k => k = ba) W w') := Lib.hid (fun W' hW' hb' =>
    (HDEL.out W' (by
      have hWb := HW.out.1
      refine hWb.trans ⟨hW'.os, hW'.tape, hW'.output, hW'.size, fun k' hk' => ?_⟩
      by_cases e : k' = ba
      · rw [e]; exact hb'
      · exact hW'.block k' (Nat.lt_of_lt_of_le hk' hWb.size) e)).mono fun e w' ⟨a1, a2, a3⟩ => ⟨a1, a2, hW'.step a3 (by rintro k e; cases e; exact .inl rfl)⟩)
  have hd : Hid (Turns (fun k => k = ba) W W.drew) := Lib.hid (Turns.refl _ _).drew
  have hba : (W.drew.alloc (.cells f.arr 38)).heap[ba]? = W.heap[ba]? := (((Below.refl W.heap.size W).drew.alloc (Nat.le_refl _) _).block ba (by have := HW.out.1.size; have := HB.out.2; omega))
  have hda : Turns (fun k => k = ba) W (W.drew.alloc (.cells f.arr 38)) := Turns.below ((Below.refl W.heap.size W).drew.alloc (Nat.le_refl _) _)
  have DB : Hid (Calls Try.prog 39 #[.slice (some ⟨ba, 0, none⟩) n c, .int .i64 k, .int .i64 ((k : Int) + 1)] (W.alloc (.cells f.arr 38)).drew fun e w' => e = .returned (.slice (some ⟨ba, 0, none⟩) (n - 1) c) ∧
      w'.ownsRow 0 38 12 (.slice (some ⟨ba, 0, none⟩) (n - 1) c) (n - 1) (row (s.L.eraseIdx k)) ∧ Turns (fun k => k = ba) W w' ∧ w'.heap[W.heap.size]? = some (.cells f.arr 38 (0, 0))) := Lib.hid (
    (HDEL.out (W.drew.alloc (.cells f.arr 38)) (HW.out.1.trans ((Below.refl w.heap.size W).drew.alloc HW.out.1.size _))).mono fun e w' ⟨a1, a2, a3⟩ => ⟨a1, a2, hda.step a3 (by rintro k e; cases e; exact .inl rfl),
      (a3.block _ (by simp) (by simp; have := HW.out.1.size; have := HB.out.2; omega)).trans (heap_alloc_new W.drew _)⟩)
  have DA1 := Lib.hid (DA.out W.drew hd.out rfl)
  unfold Fl.arr at DB
  clear HDEL HDW HT HCL hba hda DA
  have hwr : IntKind.i64.wrap ((k : Int) + 1) = (k : Int) + 1 := IntWalk.i64_in _ (by omega)
  have w1a := fun o => (((Below.refl W.heap.size W).alloc (Nat.le_refl _) o).cell (p := ⟨g, 1, none⟩) (Nat.lt_of_lt_of_le H.out.lt HW.out.1.size)).trans w1
  have w2a := fun o => (((Below.refl W.heap.size W).alloc (Nat.le_refl _) o).cell (p := ⟨pb, 0, none⟩) (World.block_lt_of_cell? W _ wp)).trans wp
  have hae : (⟨pb, 0, none⟩ : Addr) ≠ ⟨g, 1, none⟩ := by intro e; cases e
  go_region_law (first
    | (obtain ⟨A', c', Z, hr, hZo, hZt, hnew⟩ := PA.out Y _ hYt hYo hYn; refine step_append_run rfl (.tmp 18) (.tmp 20) 50 50 rfl _ _ rfl rfl _ Z hr ?_; obtain ⟨⟨zp, zg, zf⟩, -⟩ := FY.out Z hZt)
    | (obtain ⟨A', c', Z, hr, hZo, hZt, hnew⟩ := PA.out (Y.alloc (.cells f.arr 38)) _ (hYt.step (World.grownBy_alloc Y (.cells f.arr 38) none) (by simp)) (hYo.alloc _) (heap_alloc_new Y _); refine step_append_run rfl (.tmp 18) (.tmp 20) 50 50 rfl _ _ rfl rfl _ Z hr ?_; obtain ⟨⟨zp, zg, zf⟩, -⟩ := FY.out Z hZt)
    | (go_wp2_with (go_at_call 39; (first | (with_reducible refine DA1.out.mono ?_; rintro e Y ⟨rfl, hYo, hYt⟩) | (with_reducible refine DB.out.mono ?_; rintro e Y ⟨rfl, hYo, hYt, hYn⟩)); obtain ⟨⟨yp, yg, yf⟩, yh⟩ := FY.out Y hYt; have y0 : Y.cell? ⟨w.heap.size, 0, none⟩ = some (.int .u64 f.id) := cell_of yh 0; have y1 : Y.cell? ⟨w.heap.size, 1, none⟩ = some (.int .u8 f.inn.proto) := cell_of yh 1; have y2 : Y.cell? ⟨w.heap.size, 2, none⟩ = some (.int .u32 f.inn.src) := cell_of yh 2; have y3 : Y.cell? ⟨w.heap.size, 3, none⟩ = some (.int .u32 f.inn.dst) := cell_of yh 3; have y4 : Y.cell? ⟨w.heap.size, 4, none⟩ = some (.int .u16 f.inn.sp) := cell_of yh 4; have y5 : Y.cell? ⟨w.heap.size, 5, none⟩ = some (.int .u16 f.inn.dp) := cell_of yh 5; have y6 : Y.cell? ⟨w.heap.size, 6, none⟩ = some (.int .u8 f.out.proto) := cell_of yh 6; have y7 : Y.cell? ⟨w.heap.size, 7, none⟩ = some (.int .u32 f.out.src) := cell_of yh 7; have y8 : Y.cell? ⟨w.heap.size, 8, none⟩ = some (.int .u32 f.out.dst) := cell_of yh 8; have y9 : Y.cell? ⟨w.heap.size, 9, none⟩ = some (.int .u16 f.out.sp) := cell_of yh 9; have y10 : Y.cell? ⟨w.heap.size, 10, none⟩ = some (.int .u16 f.out.dp) := cell_of yh 10; have y11 : Y.cell? ⟨w.heap.size, 11, none⟩ = some (.bool f.emb) := cell_of yh 11; clear yh; have ypa := fun o => (((Below.refl Y.heap.size Y).alloc (Nat.le_refl _) o).cell (p := ⟨pb, 0, none⟩) (World.block_lt_of_cell? Y _ yp)).trans yp)))
  all_goals
    go_wp2
    go_ret
    refine ⟨0, rfl, rfl, A', c', ?_⟩
    exact touch_fin H.out HO.out HF.out HL.out HW.out.1 hZt hZo hnew
theorem touch_any (h : Tb w g A c b1 b2 N s) (ho : s.Ok) (id : Int) :
    Calls Try.prog 12 #[.pointer (some ⟨g, 0, none⟩), .int .u64 id] w fun e w' => e = .returned (.int .i64 (atE s id)) ∧ ∃ A' c', Tb w' g A' c' b1 b2 N (touchS s id) ∧ Turns (Blk g A b1 b2) w w' ∧ NewA w A A' := by
  have hB : ∀ o, Below w.heap.size w (w.alloc o) := fun o => (Below.refl w.heap.size w).alloc (Nat.le_refl _) o
  have H := Lib.hid (fun o => h.below (hB o))
  have HO := Lib.hid ho
  have hbk : ∀ k, Blk g A b1 b2 k → k < w.heap.size := fun k hk => h.blk hk
  cases hk : findK s.L id with
  | none =>
    have e1 : atE s id = 6 := by unfold atE; rw [hk]
    have e2 : touchS s id = s := by unfold touchS; rw [hk]
    rw [e1, e2]
    have HC := Lib.hid (fun o p => at_none38 (H.out o) ho id (find_none hk) p)
    have HK := Lib.hid hk
    clear h ho hk e1 e2 hbk
    go_enter Try.func12, Try.ntmps12
    go_wp2_with fail
    refine (HC.out _ _).mono ?_
    rintro e w' ⟨rfl, hb⟩
    go_wp2_with fail
    go_ret
    have hb' := (hB (Obj.cells #[.pointer (some ⟨g, 0, none⟩)] 22)).trans (hb.mono (by simp))
    exact ⟨rfl, A, c, (H.out _).below hb, Turns.below hb', fun k e => .inl e⟩
  | some k =>
    obtain ⟨f, hf, hid, hix, hkl⟩ := find_hit hk
    have e1 : atE s id = 0 := by unfold atE; rw [hk]
    have e2 : touchS s id = { s with L := s.L.eraseIdx k ++ [f] } := by unfold touchS; rw [hk]; simp [hf]
    rw [e1, e2]
    obtain ⟨ba, cur, rfl, -⟩ := h.at hf
    have HC := Lib.hid (fun o (hp : (w.alloc o).cell? ⟨w.heap.size, 0, none⟩ = some (.pointer (some ⟨g, 0, none⟩))) => at_hit38 (H.out o) ho id k hix hkl ba rfl ⟨w.heap.size, 0, none⟩ (fun n w' => n = 0 ∧ ∃ A' c', Tb w' g A' c' b1 b2 N { s with L := s.L.eraseIdx k ++ [f] } ∧ Turns (Blk g (some ⟨ba, 0, none⟩) b1 b2) w w' ∧ NewA w (some ⟨ba, 0, none⟩) A')
      (fun W hW => (touch1_any ((H.out o).below hW) ho k f hf ba rfl w.heap.size ((hW.cell (p := ⟨w.heap.size, 0, none⟩) (by simp)).trans hp) (fun q => by have := hbk _ q; omega)).mono fun e w' ⟨n, a1, a2, A', c', a3, a4, a5⟩ => ⟨n, a1, a2, A', c', a3, (Turns.below ((hB o).trans (hW.mono (by simp)))).trans a4 (fun i hi => .inl hi), fun k hk => by
        rcases a5 k hk with e | e
        · exact .inl e
        · have := hW.size
          simp at this
          exact .inr (by omega)⟩))
    clear h ho hk hf hid hix hkl e1 e2 hbk
    go_enter Try.func12, Try.ntmps12
    go_wp2_with fail
    refine (HC.out _ (by go_simp)).mono ?_
    rintro e w' ⟨n, rfl, rfl, A', c', hT⟩
    have HT := Lib.hid hT
    clear hT
    go_wp2_with fail
    go_ret
    exact ⟨rfl, A', c', HT.out⟩
end
end Go.Proofs.Ytdpomneoiagpiaa
