/- All, Find. -/
import Derived.Test.YthlohgldcnicbaaSort
import Derived.Shelf.SlSortCmp.NoneTotal
set_option linter.unusedVariables false
namespace Go.Proofs.Ythlohgldcnicbaa
open Go.RowKit Go.Deep Go.BigFrame
attribute [local go_sem ↓] Go.wp_at_zero Go.wp_at_succ
set_option maxHeartbeats 800000
theorem sorted_any (Bm b nn : Nat) (L : List Fw) (hL : Fws L) (w : World) (hBm : Bm < w.heap.size) (hm : w.cell? ⟨Bm, 0, none⟩ = some (.map (some b))) (hmap : MapD w b nn L) (hlen : L.length ≤ 1000) :
    Calls Try.prog 25 #[.func (.func 33) #[] #[.pointer (some ⟨Bm, 0, none⟩)], .func (.func 27) #[] #[]] w fun e w' => ∃ A c S, e = .returned (.slice A S.length c) ∧ Srt L S ∧ w'.ownsRow w.heap.size 37 4 (.slice A S.length c) S.length (row S) ∧ Below w.heap.size w w' := by
  have HC := Lib.hid (collect_vals Bm b nn L hL w hBm hm hmap hlen)
  have HLL := Lib.hid (And.intro hL hlen)
  clear hm hmap hL
  go_enter Try.func25, Try.ntmps25
  go_wp2_with fail
  refine HC.out.mono ?_
  rintro e w1 ⟨v, ss, rfl, hp, ho, hn, hb⟩
  cases ss with
  | nil =>
    obtain rfl : v = .slice none 0 0 := hn.2 rfl
    have hL0 : L = [] := List.Perm.eq_nil (hp.symm)
    have HS := Lib.hid (AnyF.slices_SortFunc_none Try.sortFw none 0 (.func (.func 27) #[] #[]) w1)
    change Hid (Calls Try.prog 32 _ _ _) at HS
    have HB := Lib.hid (And.intro hb hL0)
    clear ho hn hb hp
    go_wp2_with fail
    refine HS.out.mono ?_
    rintro e w2 ⟨rfl, rfl⟩
    go_wp2_with fail
    go_ret
    obtain ⟨hb, rfl⟩ := HB.out
    exact ⟨none, 0, [], rfl, ⟨List.Perm.refl _, List.Pairwise.nil⟩, World.ownsRow_nil _ _ _ _, hb⟩
  | cons f r =>
    rcases ho.2 with ⟨hv, h0⟩ | ⟨g, cap, cur, rfl, hg, hh, q1, q2, q3, q4⟩
    · simp at h0
    · obtain ⟨n, hnn⟩ : ∃ n, (f :: r).length = n := ⟨_, rfl⟩
      rw [hnn] at ho
      have hs : Fws (f :: r) := ⟨fun x hx => HLL.out.1.ok x (hp.subset hx), (hp.pairwise_iff (fun {a b} q => q.symm)).2 HLL.out.1.dis⟩
      have HS := Lib.hid (sort_any hnn ho hs (by rw [← hnn, hp.length_eq]; have := HLL.out.2; omega))
      have HB := Lib.hid (And.intro hb (And.intro hp hnn))
      rw [hnn]
      clear ho hn hb hp hh q1 q2 q3 q4 hs hnn
      go_wp2_with fail
      refine HS.out.mono ?_
      rintro e w2 ⟨rfl, S, hS, ho2, hb2⟩
      have HS2 := Lib.hid (And.intro hS (And.intro ho2 hb2))
      clear hS ho2 hb2
      go_wp2_with fail
      go_ret
      obtain ⟨hS, ho2, hb2⟩ := HS2.out
      obtain ⟨hb, hp, hnn⟩ := HB.out
      have hl : S.length = n := by rw [hS.perm.length_eq, hnn]
      subst hl
      exact ⟨_, cap, S, rfl, ⟨hS.perm.trans hp, hS.srt⟩, ho2, hb.trans hb2⟩
/-- A table of forwards. -/
structure Tb (w : World) (g b nn : Nat) (L : List Fw) : Prop where
  heap : w.heap[g]? = some (.cells #[.map (some b)] 63 (0, 0))
  map : MapD w b nn L
  ok : Fws L
  len : L.length ≤ 64
theorem Tb.below {w w' : World} {g b nn : Nat} {L : List Fw} (h : Tb w g b nn L) (hb : Below w.heap.size w w') : Tb w' g b nn L :=
  { h with heap := (hb.block _ (Array.getElem?_eq_some_iff.1 h.heap).1).trans h.heap, map := h.map.below hb }
theorem all_any {w : World} {g b nn : Nat} {L : List Fw} (h : Tb w g b nn L) :
    Calls Try.prog 12 #[.pointer (some ⟨g, 0, none⟩)] w fun e w' => ∃ A c S, e = .returned (.slice A S.length c) ∧ Srt L S ∧ w'.ownsRow w.heap.size 37 4 (.slice A S.length c) S.length (row S) ∧ Below w.heap.size w w' := by
  have hB : Below w.heap.size w (w.alloc (.cells #[.map (some b)] 61)) := (Below.refl _ _).alloc (Nat.le_refl _) _
  have HV := Lib.hid (values_any (some b) w)
  have HS := Lib.hid (sorted_any w.heap.size b nn L h.ok (w.alloc (.cells #[.map (some b)] 61)) (by simp) (cell_of (heap_alloc_new w _) 0) (h.map.below hB) (by have := h.len; omega))
  have c0 : w.cell? ⟨g, 0, none⟩ = some (.map (some b)) := cell_of h.heap 0
  have HB := Lib.hid hB
  clear h hB
  go_enter Try.func12, Try.ntmps12
  go_wp2_with fail
  refine HV.out.mono ?_
  rintro e w1 ⟨rfl, rfl⟩
  go_wp2_with fail
  refine HS.out.mono ?_
  rintro e w2 ⟨A, c, S, rfl, hS, ho, hb⟩
  have HS2 := Lib.hid (And.intro hS (And.intro ho hb))
  clear hS ho hb
  go_wp2_with fail
  go_ret
  obtain ⟨hS, ho, hb⟩ := HS2.out
  exact ⟨A, c, S, rfl, hS, own_low ho (by simp), HB.out.trans (hb.mono HB.out.size)⟩
theorem all_nil (w : World) : Calls Try.prog 12 #[.pointer none] w fun e w' => e = .returned (.slice none 0 0) ∧ w = w' := by
  go_enter Try.func12, Try.ntmps12
  go_wp2
  go_ret
  exact ⟨rfl, rfl⟩
def getF (L : List Fw) (d : Door) : Fw := (findD L d).getD Fw.zero
end Go.Proofs.Ythlohgldcnicbaa
