/- New, Next, slices.Min, Copy. -/
import Derived.Test.YtdebaoimhijnkaaWh
import Derived.Test.YtdebaoimhijnkaaVals
import Derived.Deep.RegionHeld3
import Derived.Deep.WholeRow
set_option linter.unusedVariables false
namespace Go.Proofs.Ytdebaoimhijnkaa
open Go.RowKit Go.Deep Go.BigFrame
attribute [local go_sem ↓] Go.wp_at_zero Go.wp_at_succ
set_option maxHeartbeats 800000
set_option maxRecDepth 100000
/-- The least. -/
def minL : List Int → Int
  | [] => 0
  | x :: r => r.foldl min x
theorem min_succ (x : Int) (r : List Int) (k : Nat) (y : Int) (h : r[k]? = some y) : (r.take (k + 1)).foldl min x = min ((r.take k).foldl min x) y := by
  rw [List.take_add_one, h, List.foldl_append]
  rfl
/-- slices.Min of a row that is not empty. -/
theorem min_any (A : Option Addr) (c : Nat) (x : Int) (r : List Int) (n : Nat) (w : World) (hn : (x :: r).length = n) (h : UsAt w A (x :: r)) (hm : n ≤ 100000) :
    Calls Try.prog 33 #[.slice A n c] w fun e w' => e = .returned (.int .u64 (minL (x :: r))) ∧ w = w' := by
  obtain ⟨b, o, rfl, hl, c0⟩ := h 0 x rfl
  have c1 : w.cell? ⟨b, o, none⟩ = some (.int .u64 x) := by simpa using c0
  have HU := Lib.hid h
  have h1 : 1 ≤ n := by simp at hn; omega
  have HN := Lib.hid hn
  clear h hl hn c0
  go_enter Try.func33, Try.ntmps33
  go_wp2_with fail
  go_loop [3, 4] (fun v3 v4 => ∃ (k : Nat) (y : Int), v4 = .int .i64 k ∧ v3 = .int .u64 y ∧ 1 ≤ k ∧ k ≤ n ∧ Hid (y = (r.take (k - 1)).foldl min x)) (fun _ v4 => n - (intOf v4).toNat)
  case atStart => exact ⟨1, x, rfl, rfl, Nat.le_refl _, h1, Lib.hid rfl⟩
  case round =>
    obtain ⟨k, y, rfl, rfl, hk1, hk, hy⟩ := hrel
    by_cases hlt : k < n
    · obtain ⟨z, hz⟩ : ∃ z, r[k - 1]? = some z := ⟨_, List.getElem?_eq_getElem (by have := HN.out; simp at this; omega)⟩
      obtain ⟨b2, o2, e2, _, ck⟩ := HU.out k z (by rw [show k = (k - 1) + 1 by omega]; simpa using hz)
      cases e2
      obtain ⟨v, hv⟩ : ∃ v, min y z = v := ⟨_, rfl⟩
      have HV : Hid (v = (r.take (k + 1 - 1)).foldl min x) := Lib.hid (by
        rw [show k + 1 - 1 = (k - 1) + 1 by omega, min_succ x r (k - 1) z hz, ← hv, hy.out])
      clear hz
      go_wp2_with fail
      go_round
      case rel => exact ⟨k + 1, v, by simp, rfl, by omega, by omega, HV⟩
      case measure => simp [intOf]; omega
    · obtain rfl : k = n := by omega
      go_wp2_with fail
      go_ret
      refine ⟨?_, rfl⟩
      rw [hy.out, List.take_of_length_le (by have := HN.out; simp at this; omega)]
      rfl
/-- A wheel's cells at the start, and the map not made yet. -/
def Z54 : Array Value := (Value.int .u64 0 :: (List.replicate 64 (Value.slice none 0 0) ++ [Value.map none])).toArray
theorem z54_size : Z54.size = 66 := by kernel_rfl
theorem zero54 (w : World) : (zeroValue 54).run Try.prog w = .ok (.agg Z54) w := by kernel_rfl
theorem z54_slot {k : Nat} (hk : k < 64) : Z54[k + 1]? = some (.slice none 0 0) := by
  unfold Z54
  simp only [List.getElem?_toArray, List.getElem?_cons_succ]
  rw [List.getElem?_append_left (by simpa using hk), List.getElem?_replicate]
  simp [hk]
theorem new_any (w : World) : Calls Try.prog 8 #[] w fun e w' => ∃ g b, e = .returned (.pointer (some ⟨g, 0, none⟩)) ∧ Wh w' g b 0 ⟨0, []⟩ ∧ Below w.heap.size w w' ∧ w.heap.size ≤ g ∧ w.heap.size ≤ b := by
  have hmm := @run_makeMap Try.prog
  have hz := zero54
  have hsz := z54_size
  go_enter Try.func8, Try.ntmps8
  go_wp2_with fail
  refine post_name fun W hW => ?_
  have hb1 : Below w.heap.size w (w.alloc (.map #[] 0)) := bel_alloc _ _
  have hbW : Below w.heap.size w W := by rw [hW]; exact hb1.alloc hb1.size _
  have hg : W.heap[w.heap.size + 1]? = some (.cells (Z54.setIfInBounds 65 (.map (some w.heap.size))) 54 (0, 0)) := by
    rw [hW]
    have := heap_alloc_new (w.alloc (.map #[] 0)) (.cells (Z54.setIfInBounds 65 (.map (some w.heap.size))) 54)
    rwa [World.size_alloc] at this
  have hm : MapU W w.heap.size 0 [] := by rw [hW]; exact (MapU.made w).below (bel_alloc _ _)
  clear hW hmm hz
  go_ret
  refine ⟨_, _, rfl, ⟨⟨_, hg, by simp [z54_size], ?_, ?_, fun k hk => ?_⟩, hm, ⟨⟨fun a h => by (cases h), List.Pairwise.nil⟩, List.Pairwise.nil, Int.le_refl _, by decide, fun a h => by (cases h)⟩, Nat.le_refl _⟩, hbW, Nat.le_succ _, Nat.le_refl _⟩
  · rw [Array.getElem?_setIfInBounds_ne (by decide)]
    kernel_rfl
  · rw [Array.getElem?_setIfInBounds_self_of_lt (by rw [z54_size]; decide)]
  · rw [Array.getElem?_setIfInBounds_ne (by omega), z54_slot hk]
    exact ⟨none, 0, [], rfl, AlsAt.nil 66 W, List.Perm.refl _⟩
/-- The first instant. -/
def nextF (s : WS) : Int := (s.L.head?).elim 0 Al.t
theorem fold_min (x : Int) : ∀ r : List Int, (∀ y ∈ r, r.foldl min x ≤ y) ∧ r.foldl min x ≤ x ∧ (r.foldl min x = x ∨ r.foldl min x ∈ r) := by
  intro r
  induction r generalizing x with
  | nil => exact ⟨fun y h => by (cases h), Int.le_refl _, .inl rfl⟩
  | cons z r ih =>
    obtain ⟨h1, h2, h3⟩ := ih (min x z)
    simp only [List.foldl_cons]
    refine ⟨fun y hy => ?_, by omega, ?_⟩
    · rcases List.mem_cons.1 hy with rfl | hy
      · omega
      · exact h1 y hy
    · rcases h3 with h3 | h3
      · rw [h3]
        by_cases q : x ≤ z
        · left; omega
        · right; rw [show min x z = z by omega]; exact List.mem_cons_self
      · right; exact List.mem_cons_of_mem _ h3
theorem min_sorted {L ps : List Al} (hp : ps.Perm L) (hs : L.Pairwise ltF) {a : Al} {r : List Al} (e : L = a :: r) {x : Int} {t : List Int} (e2 : ps.map Al.t = x :: t) : minL (x :: t) = a.t := by
  obtain ⟨h1, h2, h3⟩ := fold_min x t
  have hm : minL (x :: t) = t.foldl min x := rfl
  rw [hm]
  have hall : ∀ y ∈ x :: t, t.foldl min x ≤ y := fun y hy => by
    rcases List.mem_cons.1 hy with rfl | hy
    · exact h2
    · exact h1 y hy
  have hin : t.foldl min x ∈ x :: t := by
    rcases h3 with h3 | h3
    · rw [h3]; exact List.mem_cons_self
    · exact List.mem_cons_of_mem _ h3
  rw [← e2] at hall hin
  have ha : a.t ∈ ps.map Al.t := List.mem_map.2 ⟨a, hp.mem_iff.2 (by rw [e]; exact List.mem_cons_self), rfl⟩
  have q1 := hall _ ha
  obtain ⟨c, hc, hce⟩ := List.mem_map.1 hin
  have hcL := hp.mem_iff.1 hc
  rw [e] at hcL
  rw [e, List.pairwise_cons] at hs
  rcases List.mem_cons.1 hcL with rfl | hcr
  · exact hce.symm
  · have := hs.1 c hcr
    unfold ltF at this
    omega
theorem next_any {w : World} {g b nn : Nat} {s : WS} (h : Wh w g b nn s) (hnn : nn ≤ 1000) : Calls Try.prog 17 #[.pointer (some ⟨g, 0, none⟩)] w fun e w' => e = .returned (.tuple #[.int .u64 (nextF s), .bool (!s.L.isEmpty)]) ∧ Below w.heap.size w w' := by
  have HL := Lib.hid (len_any h)
  obtain ⟨cs, h1, h2, h3, h4, h5⟩ := h.heap
  have c65 : w.cell? ⟨g, 65, none⟩ = some (.map (some b)) := by rw [cell_of h1, h4]
  clear h1 h2 h3 h4 h5
  cases hs : s.L with
  | nil =>
    have e1 : nextF s = 0 := by unfold nextF; rw [hs]; rfl
    rw [hs] at HL
    rw [e1]
    clear h hs e1 c65
    simp only [List.isEmpty_nil, Bool.not_true, List.length_nil] at HL ⊢
    go_enter Try.func17, Try.ntmps17
    go_wp2_with (go_at_call 22; refine HL.out.mono ?_; rintro e w' ⟨rfl, rfl⟩)
    go_ret2
    exact ⟨rfl, Below.refl _ _⟩
  | cons a r =>
    have e1 : nextF s = a.t := by unfold nextF; rw [hs]; rfl
    rw [e1]
    have hsl : s.L.length = r.length + 1 := by rw [hs]; rfl
    rw [hsl] at HL
    obtain ⟨n, hn⟩ : ∃ n, r.length + 1 = n := ⟨_, rfl⟩
    rw [hn] at HL
    have hn0 : ((n : Int) == 0) = false := by simp; omega
    have hB : Below w.heap.size w (w.alloc (.cells #[.map (some b)] 52)) := bel_alloc _ _
    have HV := Lib.hid (values_any (some b) w)
    have HS := Lib.hid (collect_vals w.heap.size b nn s.L h.ok.als (w.alloc (.cells #[.map (some b)] 52)) (by simp) (cell_of (heap_alloc_new w _) 0) (h.map.below hB) (by have := h.len; omega))
    have HB := Lib.hid (And.intro hB (And.intro h.ok.srt (And.intro hs (by have := h.len; omega : s.L.length ≤ 1000))))
    simp only [List.isEmpty_cons, Bool.not_false]
    clear h hs e1 hsl hn hB
    go_enter Try.func17, Try.ntmps17
    go_wp2_with (go_at_call 22; refine HL.out.mono ?_; rintro e w' ⟨rfl, rfl⟩)
    refine HV.out.mono ?_
    rintro e w1 ⟨rfl, rfl⟩
    go_wp2_with fail
    refine HS.out.mono ?_
    rintro e w2 ⟨v, ss, rfl, ⟨ps, hp, he⟩, ho, hnil, hb⟩
    cases ss with
    | nil =>
      exfalso
      have h0 : ps.length = 0 := by have := congrArg List.length he; simpa using this.symm
      have := hp.length_eq
      rw [HB.out.2.2.1] at this
      simp at this
      omega
    | cons x t =>
      obtain ⟨A, c, rfl⟩ := own_len ho
      have hmn := min_sorted hp HB.out.2.1 HB.out.2.2.1 he.symm
      have hlen : (x :: t).length ≤ 1000 := by rw [he, List.length_map, hp.length_eq]; exact HB.out.2.2.2
      obtain ⟨k, hk⟩ : ∃ k, (x :: t).length = k := ⟨_, rfl⟩
      have HM := Lib.hid (min_any A c x t k w2 hk (by rw [hk] at ho; exact UsAt.own (B := (w.alloc (.cells #[.map (some b)] 52)).heap.size) (c := c) (by rw [hk]; exact ho)) (by omega))
      rw [hmn] at HM
      rw [hk]
      have HBB := Lib.hid (HB.out.1.trans (hb.mono HB.out.1.size))
      clear hk hlen hmn he hp ho hnil hb
      go_wp2_with fail
      refine HM.out.mono ?_
      rintro e w3 ⟨rfl, rfl⟩
      go_wp2_with fail
      go_ret2
      exact ⟨rfl, HBB.out⟩
end Go.Proofs.Ytdebaoimhijnkaa
