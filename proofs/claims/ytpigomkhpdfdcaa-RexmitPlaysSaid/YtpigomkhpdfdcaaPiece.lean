/- piece; what Send's closure tells. -/
import Derived.Test.YtpigomkhpdfdcaaWrite
import Derived.StillTailTactics
set_option linter.unusedVariables false
namespace Go.Proofs.Ytpigomkhpdfdcaa
open Go.RowKit Go.Deep Go.BigFrame
attribute [local go_sem ↓] Go.wp_at_zero Go.wp_at_succ

theorem wp_region_tail {P : Program} {id : Nat} {Q : Exit → Act → World → Prop} {a : Act} {w : World} {l : List Oper} (n : Nat) (hm : P.follows .mixedOrders = true) (hB : Region.lexTailB .any l.toArray n = true)
    (h : wpStill P l.toArray w.drew (fun a' => wpList P l.toArray Q (l.drop n) a' w.drew) (l.take n) a) : (Code.region id l.toArray true).wp P Q a w :=
  wp_region_still_tail n hm hB h
theorem _root_.Go.World.ownsRow.lower {w : World} {base base' : Nat} {e : TypeId} {size n : Nat} {v : Value} {xs : List Value} (h : w.ownsRow base e size v n xs) (hb : base' ≤ base) : w.ownsRow base' e size v n xs := by
  refine ⟨h.1, ?_⟩
  rcases h.2 with h2 | ⟨g, cap, cur, hv, hg, r⟩
  · exact .inl h2
  · exact .inr ⟨g, cap, cur, hv, Nat.le_trans hb hg, r⟩
def seg (xs : List Int) (F T : Nat) : List Int := (xs.take T).drop F
theorem seg_len {xs : List Int} {F T : Nat} (h : T ≤ xs.length) : (seg xs F T).length = T - F := by unfold seg; simp; omega

set_option maxHeartbeats 1600000 in
theorem piece_any (g c : Nat) (A : Option Addr) (s : St) (F T : Nat) (w : World) (hb : Buf w g A c s) (ho : s.Ok) (h1 : F < T) (h2 : T ≤ s.data.length) :
    Calls Try.prog 44 #[.pointer (some ⟨g, 0, none⟩), .int .i64 F, .int .i64 T] w fun e w' => ∃ v, e = .returned (.agg #[.int .u32 (addU s.una F), v]) ∧
      w'.ownsRow w.heap.size 5 1 v (T - F) ((seg s.data F T).map (.int .u8)) ∧ Below w.heap.size w w' := by
  have hglt := hb.lt
  have c1 := hb.c1
  have c0 := hb.c0
  have l0 := ho.len
  have hD := hb.2
  obtain ⟨una, huna⟩ : ∃ una, s.una = una := ⟨_, rfl⟩
  obtain ⟨n, hn⟩ : ∃ n, s.data.length = n := ⟨_, rfl⟩
  obtain ⟨xs, hxs⟩ : ∃ xs, s.data = xs := ⟨_, rfl⟩
  rw [hxs] at hn hD
  rw [hxs, hn] at c0 h2 l0
  rw [hn] at hD
  rw [huna] at c1 ⊢
  rw [hxs]
  have HN := Lib.hid hn
  obtain ⟨A', c', hv, hc1, hc2, h3⟩ := hD
  injection hv with e1 e2 e3
  subst e1 e3
  obtain ⟨b, o, rfl, hl, hc⟩ := h3 (by omega)
  rw [hn] at hc1 hc
  unfold maxLen at hc2
  have HCL := Lib.hid hc
  have hseg : Hid (Byt w (.slice (some ⟨b, o + F, none⟩) (T - F) (c - F)) (seg xs F T)) := by
    refine ⟨some ⟨b, o + F, none⟩, c - F, ?_, ?_, ?_, ?_⟩
    · rw [seg_len (by omega)]
    · rw [seg_len (by omega)]; omega
    · unfold maxLen; omega
    · rw [seg_len (by omega)]
      intro _
      refine ⟨b, o + F, rfl, hl, fun i hi => ?_⟩
      rw [show o + F + i = o + (F + i) from by omega, hc (F + i) (by omega)]
      simp [seg, List.getD, show F + i < T by omega]
  have hseg2 : Hid (Byt (w.alloc (Obj.cells #[Value.int IntKind.u32 0, Value.slice none 0 0] 38)).drew (.slice (some ⟨b, o + F, none⟩) (T - F) (c - F)) (seg xs F T)) := hseg.out.below (((Below.refl _ _).alloc (Nat.le_refl _) _).drew)
  have HSL : Hid ((seg xs F T).length = T - F) := seg_len (by rw [hn]; exact h2)
  have i1 : (0 : Int) ≤ (F : Int) := by omega
  have i2 : (F : Int) ≤ (T : Int) := by omega
  have i3 : (T : Int) ≤ (c : Int) := by omega
  have i4 : ¬ c = F := by omega
  clear h3 hc hl e2 hn hxs huna hb ho
  go_enter Try.func44, Try.ntmps44
  go_wp2
  refine wp_region_tail 13 (by kernel_rfl) (by kernel_rfl) ?_
  simp only [List.take_succ_cons, List.take_zero, List.drop_succ_cons, List.drop_zero]
  repeat still_step
  still_call ((add_any _ _ _).mono fun e w' h => ⟨h.1, h.2.symm⟩)
  repeat still_step
  refine wpStill_nil ?_
  go_wp2_with fail
  (with_reducible refine (clone_any _ _ _ (seg xs F T) _ HSL.out hseg2.out (by omega)).mono ?_)
  rintro e w1 ⟨v1, rfl, hown1, hb1⟩
  obtain ⟨A1, k1, rfl⟩ := own_len hown1
  have t0 := (hb1.cell (p := ⟨w.heap.size, 0, none⟩) (by simp)).trans (show _ = some (.int .u32 0) by go_simp)
  have t1 := (hb1.cell (p := ⟨w.heap.size, 1, none⟩) (by simp)).trans (show _ = some (.slice none 0 0) by go_simp)
  have u0 := (hb1.frozen (p := ⟨w.heap.size, 0, none⟩) (by simp)).trans (show _ = false by go_simp)
  have u1 := (hb1.frozen (p := ⟨w.heap.size, 1, none⟩) (by simp)).trans (show _ = false by go_simp)
  have hs1 : w.heap.size + 1 ≤ w1.heap.size := by have := hb1.size; simp at this; exact this
  have hs2 : w.heap.size < w1.heap.size := hs1
  have HO := Lib.hid hown1
  have HB := Lib.hid hb1
  clear hown1 hb1
  go_wp2
  refine bodyPost_ret (v := .agg #[.int .u32 (addU una F), .slice A1 (T - F) k1]) (by simp [results, Try.results44, go_sem, t0, t1]) rfl ⟨_, rfl, ?_, ?_⟩
  · have hne : ∀ i, (Value.slice A1 (T - F) k1).ownBlock ≠ some (⟨w.heap.size, i, none⟩ : Addr).block := by
      intro i e
      have := (HO.out.lt _ e).1
      simp at this
      omega
    exact ((ownsRow_setCell_other (ownsRow_setCell_other HO.out (hne 0) _) (hne 1) _)).lower (by simp)
  · have h1 : Below w.heap.size w w1 := ((Below.refl _ _).alloc (Nat.le_refl _) _).drew.trans (HB.out.mono (by simp))
    exact (h1.setCell (Nat.le_refl _) _).setCell (Nat.le_refl _) _

def nextV (sent : Nat) (mss : Int) (en : Int) : Int := min (sent + mss) en
set_option maxHeartbeats 800000 in
theorem next_any (g c b1 b2 b3 : Nat) (A : Option Addr) (s : St) (mss : Int) (en : Nat) (w : World) (hb : Buf w g A c s) (ho : s.Ok) (m0 : 1 ≤ mss) (m1 : mss ≤ 1500) (he : en ≤ 16384)
    (h1 : w.cell? ⟨b1, 0, none⟩ = some (.pointer (some ⟨g, 0, none⟩))) (h2 : w.cell? ⟨b2, 0, none⟩ = some (.int .i64 mss)) (h3 : w.cell? ⟨b3, 0, none⟩ = some (.int .i64 en)) :
    Calls Try.prog 45 #[.pointer (some ⟨b1, 0, none⟩), .pointer (some ⟨b2, 0, none⟩), .pointer (some ⟨b3, 0, none⟩)] w fun e w' => e = .returned (.int .i64 (nextV s.sent mss en)) ∧ ∃ n, w' = w.drewN n := by
  have c2 := hb.c2
  have hs := ho.sent
  have hl := ho.len
  have hs2 : s.sent ≤ 16384 := by omega
  obtain ⟨sent, hsent⟩ : ∃ sent, s.sent = sent := ⟨_, rfl⟩
  rw [hsent] at c2 hs2 ⊢
  clear hb ho hsent hs hl
  obtain ⟨R, hR, hR2⟩ : ∃ R, (if (en : Int) < (sent : Int) + mss then (en : Int) else (sent : Int) + mss) = R ∧ nextV sent mss en = R := ⟨_, rfl, by unfold nextV; split <;> omega⟩
  rw [hR2]
  clear hR2
  go_enter Try.func45, Try.ntmps45
  go_wp2
  go_quiet (fail)
  go_wp2
  go_ret
  exact ⟨rfl, _, rfl⟩
end Go.Proofs.Ytpigomkhpdfdcaa
