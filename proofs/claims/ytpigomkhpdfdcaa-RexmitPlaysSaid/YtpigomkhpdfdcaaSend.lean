/- Send. -/
import Derived.Test.YtpigomkhpdfdcaaTick
set_option linter.unusedVariables false
namespace Go.Proofs.Ytpigomkhpdfdcaa
open Go.RowKit Go.Deep Go.BigFrame
attribute [local go_sem ↓] Go.wp_at_zero Go.wp_at_succ

/-- Pieces in memory, from block B on: the places (from, up to) in the buffer's bytes. -/
def Pcs (w : World) (B : Nat) (una : Int) (xs : List Int) (v : Value) (ps : List (Nat × Nat)) : Prop :=
  ∃ cells, w.ownsRow B 38 2 v ps.length cells ∧ ∀ i p, ps[i]? = some p → ∃ A k, cells[2 * i]? = some (Value.int .u32 (addU una p.1)) ∧ cells[2 * i + 1]? = some (Value.slice A (p.2 - p.1) k) ∧
    w.ownsRow B 5 1 (.slice A (p.2 - p.1) k) (p.2 - p.1) ((seg xs p.1 p.2).map (.int .u8))
theorem Pcs.nil (w : World) (B : Nat) (una : Int) (xs : List Int) : Pcs w B una xs (.slice none 0 0) [] :=
  ⟨[], World.ownsRow_nil _ _ _ _, fun i p h => by simp at h⟩
theorem kept_row {w w' : World} {base : Nat} {e : TypeId} {size n : Nat} {v : Value} {xs : List Value} (h : w.ownsRow base e size v n xs) {row : Option Nat} (hg : w.grownBy w' row) (hr : ∀ k, row = some k → k < base) : w'.ownsRow base e size v n xs :=
  h.kept hg (by
    rcases hv : v.ownBlock with _ | b
    · exact .inl rfl
    · right
      intro e
      have := (h.lt b hv).1
      have := hr b e.symm
      omega)
theorem Pcs.kept {w w' : World} {B : Nat} {una : Int} {xs : List Int} {v : Value} {ps : List (Nat × Nat)} (h : Pcs w B una xs v ps) {row : Option Nat} (hg : w.grownBy w' row) (hr : ∀ k, row = some k → k < B) : Pcs w' B una xs v ps := by
  obtain ⟨cells, h1, h2⟩ := h
  refine ⟨cells, kept_row h1 hg hr, fun i p hp => ?_⟩
  obtain ⟨A, k, a, b, c⟩ := h2 i p hp
  exact ⟨A, k, a, b, kept_row c hg hr⟩
theorem own_ne {w : World} {b b' s s' n n' : Nat} {e e' : TypeId} {v v' : Value} {xs xs' : List Value} (h : w.ownsRow b e s v n xs) (h' : w.ownsRow b' e' s' v' n' xs') (hne : e ≠ e') : v.ownBlock = none ∨ v.ownBlock ≠ v'.ownBlock := by
  rcases h.2 with ⟨rfl, _⟩ | ⟨g, cap, cur, rfl, _, hg, _⟩
  · exact .inl rfl
  · right
    intro e1
    rcases h'.2 with ⟨rfl, _⟩ | ⟨g', cap', cur', rfl, _, hg', _⟩
    · simp [Value.ownBlock] at e1
    · simp [Value.ownBlock] at e1
      subst e1
      rw [hg] at hg'
      injection hg' with hg'
      injection hg' with _ h2
      exact hne h2
theorem info38 : (Try.prog.info? 38).map (fun i => (i.zero, i.size, i.bytes)) = some (some (.agg #[.int .u32 0, .slice none 0 0]), 2, 32) := by kernel_rfl
theorem run_append_piece {w : World} (B : Nat) (v : Value) (n : Nat) (cells : List Value) (hown : w.ownsRow B 38 2 v n cells) (x y : Value) (hx : x.oneCell' = true) (hy : y.oneCell' = true) (hn : n ≤ 100000) (hB : B ≤ w.heap.size) :
    ∃ v' w', (Builtin.append_ #[48, 48] 48 #[v, .slice (some ⟨w.heap.size, 0, none⟩) 1 1]).run Try.prog (w.alloc (.cells #[x, y] 38)) = .ok v' w' ∧ w'.ownsRow B 38 2 v' (n + 1) (cells ++ [x, y]) ∧ (w.alloc (.cells #[x, y] 38)).grownBy w' v.ownBlock := by
  obtain ⟨i0, hi, hz0, hz1, hz2⟩ := info_parts info38
  obtain ⟨v', w', hr, ho, hg, _⟩ := run_append_own (P := Try.prog) (w.alloc (.cells #[x, y] 38)) B 48 48 38 i0 (.agg #[.int .u32 0, .slice none 0 0]) 2 32 Try.underlying48 hi hz0 hz1 hz2 rfl (by decide) v n cells (hown.alloc _) ⟨w.heap.size, 0, none⟩ 1 1 [x, y] (by simp)
    (cell_two_new w x y 38) (fun u hu => by simp at hu; rcases hu with rfl | rfl <;> assumption) (by unfold maxLen; omega) (by omega) (by simp; omega)
  exact ⟨v', w', hr, ho, hg⟩
theorem Pcs.push {w w3 : World} {B : Nat} {una : Int} {xs : List Int} {v v' : Value} {ps : List (Nat × Nat)} {cells : List Value} {F T : Nat} {A : Option Addr} {k : Nat}
    (h1 : w.ownsRow B 38 2 v ps.length cells)
    (h2 : ∀ i p, ps[i]? = some p → ∃ A k, cells[2 * i]? = some (Value.int .u32 (addU una p.1)) ∧ cells[2 * i + 1]? = some (Value.slice A (p.2 - p.1) k) ∧ w.ownsRow B 5 1 (.slice A (p.2 - p.1) k) (p.2 - p.1) ((seg xs p.1 p.2).map (.int .u8)))
    (hp : w.ownsRow B 5 1 (.slice A (T - F) k) (T - F) ((seg xs F T).map (.int .u8)))
    (h3 : w3.ownsRow B 38 2 v' (ps.length + 1) (cells ++ [.int .u32 (addU una F), .slice A (T - F) k]))
    (hg : (w.alloc (.cells #[.int .u32 (addU una F), .slice A (T - F) k] 38)).grownBy w3 v.ownBlock) : Pcs w3 B una xs v' (ps ++ [(F, T)]) := by
  have hkeep : ∀ {v0 : Value} {n0 : Nat} {zs : List Value}, w.ownsRow B 5 1 v0 n0 zs → w3.ownsRow B 5 1 v0 n0 zs := fun h => (h.alloc _).kept hg (own_ne h h1 (by decide))
  have hcl : cells.length = ps.length * 2 := h1.1
  refine ⟨cells ++ [.int .u32 (addU una F), .slice A (T - F) k], by simpa using h3, fun i p hi => ?_⟩
  by_cases hlt : i < ps.length
  · rw [List.getElem?_append_left hlt] at hi
    obtain ⟨A', k', a, b, c⟩ := h2 i p hi
    exact ⟨A', k', by rw [List.getElem?_append_left (by omega)]; exact a, by rw [List.getElem?_append_left (by omega)]; exact b, hkeep c⟩
  · have hi' : i = ps.length := by
      have := (List.getElem?_eq_some_iff.1 hi).1
      simp at this; omega
    subst hi'
    simp at hi
    subst hi
    refine ⟨A, k, ?_, ?_, hkeep hp⟩
    · rw [List.getElem?_append_right (by omega), show 2 * ps.length - cells.length = 0 from by omega]; rfl
    · rw [List.getElem?_append_right (by omega), show 2 * ps.length + 1 - cells.length = 1 from by omega]; rfl

/-- How the places from S up to en are parted. -/
def segs (m : Nat) (S en : Nat) : Nat → List (Nat × Nat)
  | 0 => []
  | f + 1 => if S < en then (S, min (S + m) en) :: segs m (min (S + m) en) en f else []
theorem segs_stop (m S en f : Nat) (h : ¬ S < en) : segs m S en f = [] := by
  cases f <;> simp [segs, h]
theorem segs_fuel (m : Nat) (hm : 1 ≤ m) (en : Nat) : ∀ (f f' S : Nat), en - S ≤ f → en - S ≤ f' → segs m S en f = segs m S en f'
  | 0, f', S, h, _ => by rw [segs_stop m S en f' (by omega)]; rfl
  | f + 1, 0, S, _, h => by rw [segs_stop m S en (f + 1) (by omega)]; rfl
  | f + 1, f' + 1, S, h, h' => by
    by_cases hs : S < en
    · simp only [segs, if_pos hs]
      rw [segs_fuel m hm en f f' _ (by omega) (by omega)]
    · simp [segs, hs]
def pcsOf (m S en : Nat) : List (Nat × Nat) := segs m S en (en - S)
theorem pcsOf_step (m S en : Nat) (hm : 1 ≤ m) (h : S < en) : pcsOf m S en = (S, min (S + m) en) :: pcsOf m (min (S + m) en) en := by
  unfold pcsOf
  obtain ⟨f, hf⟩ : ∃ f, en - S = f + 1 := ⟨en - S - 1, by omega⟩
  rw [hf]
  simp only [segs, if_pos h]
  rw [segs_fuel m hm en f (en - min (S + m) en) _ (by omega) (by omega)]
theorem pcsOf_stop (m S en : Nat) (h : ¬ S < en) : pcsOf m S en = [] := segs_stop _ _ _ _ h
theorem segs_len (m : Nat) (en : Nat) : ∀ (f S : Nat), (segs m S en f).length ≤ f
  | 0, _ => by simp [segs]
  | f + 1, S => by
    unfold segs
    split
    · simp; exact segs_len m en f _
    · simp
theorem pcsOf_len (m S en : Nat) : (pcsOf m S en).length ≤ en := Nat.le_trans (segs_len _ _ _ _) (by omega)

def sendEnd (s : St) : Nat := (min (s.data.length : Int) s.win).toNat
def sendSt (s : St) : St := { s with sent := max s.sent (sendEnd s) }

theorem step_append_run {P : Program} {ops : Array Oper} {o : Oper} {a : Act} {w : World} {K : Act → World → Prop} {Q : Exit → Act → World → Prop} {E : Prop}
    (hg : o.guard = none) (s x : Operand) (t tn : TypeId) (hop : o.op = Op.call { callee := Callee.builtin Builtin.append, args := #[s, x], argTypes := #[t, tn] })
    (vs vx : Value) (hs : a.eval s = vs) (hx : a.eval x = vx) (v' : Value) (w' : World) (hr : (Builtin.append_ #[t, tn] o.type #[vs, vx]).run P w = .ok v' w') (hK : K (a.put o.dst v') w') :
    if Region.wanted o (yielded ops a.tmps) = true then Oper.wp P o a w K Q else E := by
  have hw : Region.wanted o (yielded ops a.tmps) = true := by simp [Region.wanted, hg]
  rw [if_pos hw]
  exact Lib.wp_append_run w s x t tn hop vs vx hs hx v' w' hr hK

theorem grown_then {a b c : World} {B : Nat} {r : Option Nat} (h : a.grownBy b r) (k : Below B b c) (hB : a.heap.size ≤ B) : a.grownBy c r :=
  ⟨k.os.trans h.os, k.tape.trans h.tape, k.output.trans h.output, Nat.le_trans h.size k.size, fun i hi hr => (k.block i (Nat.lt_of_lt_of_le hi hB)).trans (h.block i hi hr)⟩
theorem Pcs.lower {w : World} {B B' : Nat} {una : Int} {xs : List Int} {v : Value} {ps : List (Nat × Nat)} (h : Pcs w B una xs v ps) (hB : B' ≤ B) : Pcs w B' una xs v ps := by
  obtain ⟨cells, h1, h2⟩ := h
  refine ⟨cells, h1.lower hB, fun i p hp => ?_⟩
  obtain ⟨A, k, a, b, c⟩ := h2 i p hp
  exact ⟨A, k, a, b, c.lower hB⟩
theorem round_push {W0 w1 : World} {B : Nat} {s : St} {S T : Nat} {u : Value} {acc : List (Nat × Nat)} {A1 : Option Addr} {k1 : Nat} (hB : B ≤ W0.heap.size) (hpc : Pcs W0 B s.una s.data u acc) (hacc : acc.length ≤ 40000)
    (hb1 : Below W0.heap.size W0 w1) (hown : w1.ownsRow W0.heap.size 5 1 (.slice A1 (T - S) k1) (T - S) ((seg s.data S T).map (.int .u8))) :
    ∃ v2 w2, (Builtin.append_ #[48, 48] 48 #[u, .slice (some ⟨w1.heap.size, 0, none⟩) 1 1]).run Try.prog (w1.alloc (.cells #[.int .u32 (addU s.una S), .slice A1 (T - S) k1] 38)) = .ok v2 w2 ∧ Below B W0 w2 ∧ Pcs w2 B s.una s.data v2 (acc ++ [(S, T)]) := by
  obtain ⟨cells, q1, q2⟩ := hpc.kept (grown_below (r := none) hb1) (by simp)
  have hs := hb1.size
  obtain ⟨v2, w2, hr2, hown2, hg2⟩ := run_append_piece B u acc.length cells q1 (.int .u32 (addU s.una S)) (.slice A1 (T - S) k1) rfl rfl (by omega) (by omega)
  have hown3 := q1.alloc (.cells #[.int .u32 (addU s.una S), .slice A1 (T - S) k1] 38)
  have hrow : ∀ k, u.ownBlock = some k → B ≤ k := fun k hk => (q1.lt k hk).1
  have hBW : Below B W0 w2 := Below.grown ((hb1.mono hB).alloc (by omega) _) hg2 (by simp; omega) hrow
  exact ⟨v2, w2, hr2, hBW, Pcs.push q1 q2 (hown.lower hB) hown2 hg2⟩

/-- What Send's loop keeps. -/
def SendRel (WL : World) (g c B : Nat) (A : Option Addr) (s : St) (m en : Nat) (v : Value) (wr : World) : Prop :=
  ∃ S acc, acc ++ pcsOf m S en = pcsOf m s.sent en ∧ s.sent ≤ S ∧ (S ≤ en ∨ S = s.sent) ∧ S ≤ s.data.length ∧ acc.length ≤ 20000 + S ∧ WL.grownBy wr (some g) ∧ Buf wr g A c { s with sent := S } ∧ Pcs wr B s.una s.data v acc

set_option maxHeartbeats 3200000 in
theorem send_ok (g c : Nat) (A : Option Addr) (s : St) (mss : Nat) (w : World) (hb : Buf w g A c s) (ho : s.Ok) (h : mayB mss = true) :
    Calls Try.prog 18 #[.pointer (some ⟨g, 0, none⟩), .int .i64 mss] w fun e w' => ∃ v, e = .returned (.tuple #[v, .int .i64 0]) ∧
      w.grownBy w' (some g) ∧ Buf w' g A c (sendSt s) ∧ Pcs w' w.heap.size s.una s.data v (pcsOf mss s.sent (sendEnd s)) := by
  have HC := Lib.hid (fun W (hB : Below w.heap.size w W) => (hB.cell (p := ⟨g, 4, none⟩) hb.lt).trans hb.c4)
  have r0 := ho.rto0
  have hlt := hb.lt
  have c0 := hb.c0
  have c2 := hb.c2
  have c3 := hb.c3
  have f2 := free_of hb.1 2
  have HB := Lib.hid hb
  have HO := Lib.hid ho
  have hm : 1 ≤ (mss : Int) ∧ (mss : Int) ≤ 1500 := of_decide_eq_true h
  have w0 := ho.win0
  have w1 := ho.win1
  have l1 := ho.len
  have s1 := ho.sent
  obtain ⟨n, hn⟩ : ∃ n, s.data.length = n := ⟨_, rfl⟩
  obtain ⟨win, hwin⟩ : ∃ win, s.win = win := ⟨_, rfl⟩
  obtain ⟨sent, hsent⟩ : ∃ sent, s.sent = sent := ⟨_, rfl⟩
  obtain ⟨en, hen⟩ : ∃ en, sendEnd s = en := ⟨_, rfl⟩
  have hE : (if win < (n : Int) then win else (n : Int)) = (en : Int) := by rw [← hen, sendEnd, hn, hwin]; split <;> omega
  have henn : en ≤ n := by rw [← hen, sendEnd, hn]; omega
  rw [hn] at c0 l1 s1
  rw [hwin] at c3 w0 w1
  rw [hsent] at c2 s1
  have HN := Lib.hid hn
  have HWIN := Lib.hid hwin
  have HSENT := Lib.hid hsent
  have HEN := Lib.hid hen
  clear hb ho hn hwin hsent hen
  go_enter Try.func18, Try.ntmps18
  go_wp2_with (first | (go_at_call 40; refine (none_any _ _ _ (HC.out _ (((Below.refl _ _).alloc (Nat.le_refl _) _).alloc (by simp) _)) r0).mono ?_; rintro e w' ⟨rfl, rfl⟩) | (go_at_call 43; refine (may_any _ _).mono ?_; rw [h]; rintro e w' ⟨rfl, rfl⟩))
  have hb3 := fun o : Obj => (((Below.refl w.heap.size w).alloc (Nat.le_refl _) (Obj.cells #[Value.pointer (some { block := g, off := 0 })] 28)).alloc (by simp) (Obj.cells #[Value.int IntKind.i64 (mss : Int)] 3)).alloc (by simp; omega) o
  have k0 := fun o => ((hb3 o).cell (p := ⟨g, 0, none⟩) hlt).trans c0
  have k3 := fun o => ((hb3 o).cell (p := ⟨g, 3, none⟩) hlt).trans c3
  have hwr := IntWalk.i64_in win (by omega)
  have HB3 := Lib.hid hb3
  clear hb3
  go_region_held3 (fun w' => w'.cell? ⟨g, 0, none⟩ = some (.slice A n c) ∧ w'.cell? ⟨g, 3, none⟩ = some (.int .u32 win) ∧ w'.cell? ⟨w.heap.size, 0, none⟩ = some (.pointer (some ⟨g, 0, none⟩))) (go_keep) (fail)
  all_goals
    clear k0 k3 hwr
    go_wp2_with fail
    obtain ⟨WL, hWL⟩ : ∃ WL, WL = (((w.alloc (Obj.cells #[Value.pointer (some { block := g, off := 0 })] 28)).alloc (Obj.cells #[Value.int IntKind.i64 (mss : Int)] 3)).alloc (Obj.cells #[Value.int IntKind.i64 (en : Int)] 3)).drew := ⟨_, rfl⟩
    rw [← hWL]
    have hBL : Below w.heap.size w WL := by rw [hWL]; exact (HB3.out _).drew
    have hsL : WL.heap.size = w.heap.size + 3 := by rw [hWL]; simp
    have b1 : WL.cell? ⟨w.heap.size, 0, none⟩ = some (.pointer (some ⟨g, 0, none⟩)) := by rw [hWL]; go_simp
    have b2 : WL.cell? ⟨w.heap.size + 1, 0, none⟩ = some (.int .i64 mss) := by rw [hWL]; go_simp
    have b3 : WL.cell? ⟨w.heap.size + 1 + 1, 0, none⟩ = some (.int .i64 en) := by rw [hWL]; go_simp
    have HBL := Lib.hid hBL
    have HSL := Lib.hid hsL
    have HB1 := Lib.hid b1
    have HB2 := Lib.hid b2
    have HB3' := Lib.hid b3
    clear hWL hBL hsL b1 b2 b3 c0 c3 c2 f2 hE
    go_loopw [7] (fun v wr => SendRel WL g c (w.heap.size + 3) A s mss en v wr) (fun _ wr => en - (intOf ((wr.cell? ⟨g, 2, none⟩).getD undef)).toNat)
    case atStart => exact ⟨s.sent, [], rfl, Nat.le_refl _, .inr rfl, HO.out.sent, by simp, World.grownBy.refl _ _, HB.out.below HBL.out, Pcs.nil _ _ _ _⟩
    case round =>
      obtain ⟨S, acc, ha, hS1, hS2, hS3, hac, hgr, hbuf, hpc⟩ := hrel
      have hszr : w.heap.size + 3 ≤ wr.heap.size := by have := hgr.size; rw [HSL.out] at this; exact this
      have d2 : wr.cell? ⟨g, 2, none⟩ = some (.int .i64 S) := hbuf.c2
      have f2 : wr.frozen? ⟨g, 2, none⟩ = false := free_of hbuf.1 2
      have b1 := hgr.cell HB1.out (by simp; omega)
      have b2 := hgr.cell HB2.out (by simp; omega)
      have b3 := hgr.cell HB3'.out (by simp; omega)
      have HGR := Lib.hid hgr
      have HBUF := Lib.hid hbuf
      have HPC := Lib.hid hpc
      have HA := Lib.hid ha
      have HS2 := Lib.hid hS2
      rw [HN.out] at hS3
      clear hgr hbuf hpc ha hS2
      by_cases hlt2 : S < en
      · obtain ⟨T, hT⟩ : ∃ T, min (S + mss) en = T := ⟨_, rfl⟩
        have hT2 : nextV S mss en = (T : Int) := by unfold nextV; omega
        have hST : S < T := by omega
        have hTe : T ≤ en := by omega
        have HT := Lib.hid hT
        have HOK : Hid (({ s with sent := S } : St).Ok) := { HO.out with sent := by show S ≤ s.data.length; rw [HN.out]; exact hS3 }
        have HP1 := Lib.hid (fun q => (next_any g c w.heap.size (w.heap.size + 1) (w.heap.size + 1 + 1) A { s with sent := S } mss en (wr.drewN q) HBUF.out HOK.out hm.1 hm.2 (by omega) b1 b2 b3))
        clear hT
        go_wp2
        go_quiet (fail)
        go_wp2_with (go_at_call 45; refine (HP1.out _).mono ?_; rw [hT2]; rintro e w' ⟨rfl, q, rfl⟩)
        obtain ⟨W0, hW0⟩ : ∃ W0, W0 = wr.drewN (nq + q) := ⟨_, rfl⟩
        rw [← hW0]
        have hBW : Below wr.heap.size wr W0 := by rw [hW0]; exact below_drewN (Below.refl _ _) _
        have hSW : W0.heap.size = wr.heap.size := by rw [hW0]; simp
        have e1 : W0.cell? ⟨w.heap.size, 0, none⟩ = some (.pointer (some ⟨g, 0, none⟩)) := by rw [hW0]; simpa using b1
        have e2 : W0.cell? ⟨g, 2, none⟩ = some (.int .i64 S) := by rw [hW0]; simpa using d2
        have HBUF1 := Lib.hid (HBUF.out.below hBW.drew)
        have hPC1 := HPC.out.kept (grown_below (r := none) hBW.drew) (by simp)
        have hG1 := grown_trans HGR.out (grown_below (r := some g) hBW.drew)
        have HBW := Lib.hid hBW
        have HG1 := Lib.hid hG1
        have hgW : g < w.heap.size + 3 := by omega
        have hWB : w.heap.size + 3 ≤ W0.heap.size := by omega
        have hacc : acc.length ≤ 40000 := by omega
        have HP2 : Hid (Calls Try.prog 44 #[.pointer (some ⟨g, 0, none⟩), .int .i64 S, .int .i64 T] W0.drew fun e w1 => ∃ A1 k1 v2 w2, e = .returned (.agg #[.int .u32 (addU s.una S), .slice A1 (T - S) k1]) ∧ w1.cell? ⟨g, 2, none⟩ = some (.int .i64 S) ∧ w1.cell? ⟨w.heap.size, 0, none⟩ = some (.pointer (some ⟨g, 0, none⟩)) ∧
            (Builtin.append_ #[48, 48] 48 #[u7, .slice (some ⟨w1.heap.size, 0, none⟩) 1 1]).run Try.prog (w1.alloc (.cells #[.int .u32 (addU s.una S), .slice A1 (T - S) k1] 38)) = .ok v2 w2 ∧ w2.cell? ⟨g, 2, none⟩ = some (.int .i64 S) ∧ w2.cell? ⟨w.heap.size, 0, none⟩ = some (.pointer (some ⟨g, 0, none⟩)) ∧ w2.frozen? ⟨g, 2, none⟩ = false ∧
            Hid (WL.grownBy w2 (some g) ∧ Buf w2 g A c { s with sent := S } ∧ Pcs w2 (w.heap.size + 3) s.una s.data v2 (acc ++ [(S, T)]))) := by
          refine Lib.hid ((piece_any g c A { s with sent := S } S T W0.drew HBUF1.out HOK.out hST (by show T ≤ s.data.length; rw [HN.out]; omega)).mono ?_)
          rintro e w1 ⟨v1, rfl, hown, hb1⟩
          obtain ⟨A1, k1, rfl⟩ := own_len hown
          obtain ⟨v2, w2, hr2, hB2, hpc2⟩ := round_push (by simpa using hWB) hPC1 hacc hb1 hown
          have hG2 : WL.grownBy w2 (some g) := grown_then HG1.out hB2 (by rw [HSL.out]; exact Nat.le_refl _)
          have hbuf2 : Buf w2 g A c { s with sent := S } := (HB.out.below HBL.out).upd hG2 rfl ((hB2.block g hgW).trans HBUF1.out.1)
          have hgg : g < W0.drew.heap.size := by simp; omega
          have hHH : w.heap.size < W0.drew.heap.size := by simp; omega
          refine ⟨A1, k1, v2, w2, rfl, (hb1.cell (p := ⟨g, 2, none⟩) hgg).trans (by simpa using e2), (hb1.cell (p := ⟨w.heap.size, 0, none⟩) hHH).trans (by simpa using e1), hr2, hbuf2.c2, (hB2.cell (p := ⟨w.heap.size, 0, none⟩) (by simp)).trans (by simpa using e1), free_of hbuf2.1 2, Lib.hid ⟨hG2, hbuf2, hpc2⟩⟩
        clear hW0 hG1 hBW hPC1
        go_region_held3 (fun w' => w'.cell? ⟨g, 2, none⟩ = some (.int .i64 S) ∧ w'.cell? ⟨w.heap.size, 0, none⟩ = some (.pointer (some ⟨g, 0, none⟩)))
          (go_keep)
          (first
            | (refine step_append_run rfl _ _ 48 48 rfl _ _ rfl rfl _ _ (by exact HR.out) ?_)
            | (go_at_call 44; (with_reducible refine HP2.out.mono ?_); rintro e w1 ⟨A1, k1, v2, w2, rfl, x1, x2, hr2, y1, y2, y3, HZ⟩; have HR := Lib.hid hr2; clear hr2))
        go_wp2_with fail
        obtain ⟨hG2, hbuf2, hpc2⟩ := HZ.out
        have HG2 := Lib.hid hG2
        have HBUF2 := Lib.hid hbuf2
        have HPC2 := Lib.hid hpc2
        clear hG2 hbuf2 hpc2 HZ
        go_roundw
        case rel =>
          refine ⟨T, acc ++ [(S, T)], ?_, by omega, .inl hTe, by rw [HN.out]; omega, by simp; omega, grown_set HG2.out, ?_, HPC2.out.kept (grown_setCell _ _ _ _) (by intro k hk; cases hk; omega)⟩
          · rw [← HA.out, pcsOf_step mss S en (by omega) hlt2, HT.out]; simp
          · exact (HB.out.below HBL.out).upd (grown_set HG2.out) rfl (heap_set HBUF2.out.1 _)
        case measure =>
          have m1 : (w2.setCell ⟨g, 2, none⟩ (.int .i64 T)).cell? ⟨g, 2, none⟩ = some (.int .i64 T) := by go_simp
          rw [m1, d2]
          simp [intOf]
          omega
      · go_wp2
        go_quiet (fail)
        go_wp2
        go_ret2
        have hS : max s.sent (sendEnd s) = S := by rw [HEN.out]; have := HS2.out; omega
        have hB2 : Below wr.heap.size wr (wr.drewN nq) := below_drewN (Below.refl _ _) _
        refine ⟨_, rfl, ?_, ?_, ?_⟩
        · exact grown_trans (grown_below HBL.out) (grown_drewN HGR.out)
        · rw [sendSt, hS]; exact HBUF.out.below hB2
        · rw [HEN.out, ← HA.out, pcsOf_stop mss S en hlt2, List.append_nil]
          exact (HPC.out.kept (grown_below (r := none) hB2) (by simp)).lower (by omega)
end Go.Proofs.Ytpigomkhpdfdcaa
