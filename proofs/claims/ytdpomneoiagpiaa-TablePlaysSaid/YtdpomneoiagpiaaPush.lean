/- One flow more at the end. -/
import Derived.Test.YtdpomneoiagpiaaLead
import Derived.Maps.AppendAt
set_option linter.unusedVariables false
namespace Go.Proofs.Ytdpomneoiagpiaa
open Go.RowKit Go.Deep Go.BigFrame
def NewA (w : World) (A A' : Option Addr) : Prop := ∀ k, A' = some ⟨k, 0, none⟩ → A = some ⟨k, 0, none⟩ ∨ w.heap.size ≤ k
theorem fls_one {w : World} {q : Nat} {f : Fl} (hh : w.heap[q]? = some (.cells f.arr 38 (0, 0))) : FlsAt w (some ⟨q, 0, none⟩) [f] := by
  intro i g hg
  have hi := (List.getElem?_eq_some_iff.1 hg).1
  obtain rfl : i = 0 := by simpa using hi
  simp at hg
  subst hg
  exact ⟨q, 0, rfl, (Array.getElem?_eq_some_iff.1 hh).1, ⟨cell_of hh 0, cell_of hh 1, cell_of hh 2, cell_of hh 3, cell_of hh 4, cell_of hh 5, cell_of hh 6, cell_of hh 7, cell_of hh 8, cell_of hh 9, cell_of hh 10, cell_of hh 11⟩⟩
theorem push_at {w : World} (v : Value) (n : Nat) (M : List Fl) (hown : w.ownsRow 0 38 12 v n (row M)) (q : Nat) (f : Fl) (hq : w.heap[q]? = some (.cells f.arr 38 (0, 0))) (hsm : n ≤ 99999) :
    ∃ A' c' w', (Builtin.append_ #[50, 50] 50 #[v, .slice (some ⟨q, 0, none⟩) 1 1]).run Try.prog w = .ok (.slice A' (n + 1) c') w' ∧ w'.ownsRow 0 38 12 (.slice A' (n + 1) c') (n + 1) (row (M ++ [f])) ∧ w.grownBy w' v.ownBlock ∧
      ∀ k, A' = some ⟨k, 0, none⟩ → v.ownBlock = some k ∨ w.heap.size ≤ k := by
  obtain ⟨i0, hi, hz0, hz1, hz2⟩ := info_parts info38
  have h := fls_one hq
  obtain ⟨v', w', hr, ho, hg, _, hat⟩ := run_append_own_at (P := Try.prog) w 0 50 50 38 i0 _ 12 48 Try.underlying50 hi hz0 hz1 hz2 rfl (by decide) v n (row M) hown ⟨q, 0, none⟩ 1 1 (row [f]) (row_len [f])
    (fun j u hu => h.cell j u hu) (one_row [f]) (by unfold maxLen; omega) (by omega) (Nat.zero_le _)
  rw [← row_append] at ho
  obtain ⟨A', c', rfl⟩ := own_len ho
  refine ⟨A', c', w', hr, ho, hg, fun k hk => ?_⟩
  rcases hat with e | e
  · left
    rw [← e, hk]
    rfl
  · right
    rw [hk] at e
    simp [Value.ownBlock] at e
    omega
theorem touch_fin {w W Z : World} {g c c' b1 b2 N ba n k : Nat} {A' : Option Addr} {s : TS} {f : Fl} (h : Tb w g (some ⟨ba, 0, none⟩) c b1 b2 N s) (ho : s.Ok) (hf : s.L[k]? = some f) (hn : s.L.length = n) (hW : Below w.heap.size w W)
    (ht : Turns (fun k => k = ba) W Z) (hZ : Z.ownsRow 0 38 12 (.slice A' (n - 1 + 1) c') (n - 1 + 1) (row (s.L.eraseIdx k ++ [f]))) (hnew : NewA W (some ⟨ba, 0, none⟩) A') :
    Tb (Z.setCell ⟨g, 1, none⟩ (.slice A' (n - 1 + 1) c')) g A' c' b1 b2 N { s with L := s.L.eraseIdx k ++ [f] } ∧ Turns (Blk g (some ⟨ba, 0, none⟩) b1 b2) w (Z.setCell ⟨g, 1, none⟩ (.slice A' (n - 1 + 1) c')) ∧ NewA w (some ⟨ba, 0, none⟩) A' := by
  obtain ⟨_, hi, hu⟩ := ho.touch hf
  have hkl := (List.getElem?_eq_some_iff.1 hf).1
  have hll : (s.L.eraseIdx k ++ [f]).length = n - 1 + 1 := by rw [List.length_append, List.length_eraseIdx, if_pos hkl, hn]; rfl
  have hZb : ∀ b, b < w.heap.size → b ≠ ba → Z.heap[b]? = w.heap[b]? := fun b hb hne => (ht.block b (Nat.lt_of_lt_of_le hb hW.size) hne).trans (hW.block b hb)
  have hnba : ∀ b, b ≠ g → b ≠ ba → b < w.heap.size → (Z.setCell ⟨g, 1, none⟩ (.slice A' (n - 1 + 1) c')).heap[b]? = w.heap[b]? := fun b h1 h2 hb => ((grown_setCell Z g 1 _).block b (by have := ht.size; have := hW.size; omega) (by simpa using h1)).trans (hZb b hb h2)
  have nA := h.nA
  have nA1 := h.nA1
  have nA2 := h.nA2
  have hZg := (hZb g h.lt (fun e => nA (by rw [e]))).trans h.heap
  have hnA : NewA w (some ⟨ba, 0, none⟩) A' := fun k hk => by
    rcases hnew k hk with e | e
    · exact .inl e
    · exact .inr (Nat.le_trans hW.size e)
  refine ⟨{ heap := ?_, own := ?_, inn := ?_, out := ?_, ne := h.ne, nN := h.nN }, ?_, hnA⟩
  · rw [heap_set hZg]
    unfold tcells
    show _ = some (Obj.cells #[_, .slice A' (s.L.eraseIdx k ++ [f]).length c', _, _, _] 72 (0, 0))
    rw [hll]
    rfl
  · show World.ownsRow _ 0 38 12 (.slice A' (s.L.eraseIdx k ++ [f]).length c') (s.L.eraseIdx k ++ [f]).length _
    rw [hll]
    refine row_keptE hZ (fun i hi => (grown_setCell Z g 1 _).block _ (row_lt hZ hi).1 (fun e => ?_))
    injection e with e
    subst e
    obtain ⟨_, cs, fr, hh⟩ := row_lt hZ hi
    rw [hZg] at hh
    injection hh with hh
    injection hh with _ hh
    cases hh
  · exact (h.inn.keptE (hnba b1 h.ng1 (fun e => nA1 (by rw [e])) h.inn.lt)).congr fun t _ => (hi t).symm
  · exact (h.out.keptE (hnba b2 h.ng2 (fun e => nA2 (by rw [e])) h.out.lt)).congr fun t _ => (hu t).symm
  · exact ((Turns.below hW).trans ht (fun i e => by subst e; exact .inl (.inr (.inr (.inr rfl))))).step (grown_setCell Z g 1 _) (by rintro k' e; cases e; exact .inl (.inl rfl))
end Go.Proofs.Ytdpomneoiagpiaa
