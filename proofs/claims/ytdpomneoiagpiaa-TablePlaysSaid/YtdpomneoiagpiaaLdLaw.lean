/- TableLeads, in plain. -/
import Derived.Test.YtdpomneoiagpiaaAwk
set_option linter.unusedVariables false
namespace Go.Proofs.Ytdpomneoiagpiaa
open Go.RowKit Go.Deep Go.BigFrame
theorem of_inj {a b : Int} (h : Tup.of a = Tup.of b) : a = b := by
  injection h
theorem of_zero {a : Int} : Tup.of a = Tup.zero ↔ a = 0 := ⟨fun h => of_inj h, fun h => by rw [h]; rfl⟩
theorem findK_split {A B : List Fl} {f : Fl} {id : Int} (hid : f.id = id) (h : ∀ g ∈ A, g.id ≠ id) : findK (A ++ f :: B) id = some A.length := by
  unfold findK
  rw [List.findIdx?_eq_some_iff_getElem]
  refine ⟨by simp, by simp [hid], fun j hj => ?_⟩
  rw [List.getElem_append_left hj]
  have := h _ (List.getElem_mem hj)
  simpa using this
theorem findK_mem {s : TS} (ho : s.Ok) {f : Fl} (hf : f ∈ s.L) : ∃ k, findK s.L f.id = some k ∧ s.L[k]? = some f := by
  obtain ⟨A, B, e⟩ := List.append_of_mem hf
  have hp := ho.idn
  rw [e, List.pairwise_append] at hp
  refine ⟨A.length, ?_, ?_⟩
  · rw [e]
    exact findK_split rfl (fun g hg => hp.2.2 g hg f (by simp))
  · rw [e, List.getElem?_append_right (Nat.le_refl _)]
    simp
/-- A table that fills up: flow number j + 1 has the tuples (i j), (o j). -/
def fillL (i o : Nat → Tup) (n : Nat) : List Fl := (List.range n).map (fun (j : Nat) => ⟨(j : Int) + 1, i j, o j, true⟩)
theorem fillL_succ (i o : Nat → Tup) (n : Nat) : fillL i o (n + 1) = fillL i o n ++ [⟨(n : Int) + 1, i n, o n, true⟩] := by
  unfold fillL
  rw [List.range_succ, List.map_append]
  rfl
theorem fillL_len (i o : Nat → Tup) (n : Nat) : (fillL i o n).length = n := by simp [fillL]
theorem fillL_mem {i o : Nat → Tup} {n : Nat} {f : Fl} (h : f ∈ fillL i o n) : ∃ j, j < n ∧ f = ⟨(j : Int) + 1, i j, o j, true⟩ := by
  unfold fillL at h
  rw [List.mem_map] at h
  obtain ⟨j, hj, e⟩ := h
  exact ⟨j, List.mem_range.1 hj, e.symm⟩
theorem fillL_at {i o : Nat → Tup} {n j : Nat} (h : j < n) : (⟨(j : Int) + 1, i j, o j, true⟩ : Fl) ∈ fillL i o n := by
  unfold fillL
  rw [List.mem_map]
  exact ⟨j, List.mem_range.2 h, rfl⟩
theorem fill_add {i o : Nat → Tup} {m n : Nat} (hn : n < m) (hi : ∀ j, j < n → i j ≠ i n) (hz : i n ≠ Tup.zero) (ho : o n ≠ Tup.zero → ∀ j, j < n → o j ≠ o n) :
    addE ⟨m, fillL i o n, n⟩ (i n) (o n) = 0 ∧ addN ⟨m, fillL i o n, n⟩ (i n) (o n) = (n : Int) + 1 ∧ addW ⟨m, fillL i o n, n⟩ (i n) (o n) = 0 ∧ addS ⟨m, fillL i o n, n⟩ (i n) (o n) = ⟨m, fillL i o (n + 1), n + 1⟩ := by
  have h1 : innF (fillL i o n) (i n) = 0 := innF_none fun f hf => by
    obtain ⟨j, hj, rfl⟩ := fillL_mem hf
    exact hi j hj
  have h2 : outF (fillL i o n) (o n) = 0 := outF_none fun hz f hf => by
    obtain ⟨j, hj, rfl⟩ := fillL_mem hf
    exact ho hz j hj
  have hl : ¬ m ≤ (fillL i o n).length := by rw [fillL_len]; omega
  have he : addE ⟨m, fillL i o n, n⟩ (i n) (o n) = 0 := by
    unfold addE
    rw [if_neg hz, if_neg (by rintro (q | q); exact q h1; exact q h2), if_neg (fun q => hl q.1)]
  refine ⟨he, by unfold addN; rw [if_pos he], ?_, ?_⟩
  · unfold addW wentF
    rw [if_pos he, if_neg hl]
  · unfold addS pushS evict
    rw [if_pos he, if_neg hl, fillL_succ]
/-- What TableLeads asks, of a full table. -/
theorem leads_law {s : TS} (ho : s.Ok) {f h : Fl} (hf : f ∈ s.L) (hh : h ∈ s.L) (hne : f.id ≠ h.id) (hp : f.out ≠ Tup.zero) (hq : h.out ≠ Tup.zero) :
    leadE s f.id h.out = 9 ∧ leadS s f.id h.out = s ∧ ∃ s1 s2 s3, leadE s f.id Tup.zero = 0 ∧ leadS s f.id Tup.zero = s1 ∧ leadE s1 h.id f.out = 0 ∧ leadS s1 h.id f.out = s2 ∧ leadE s2 f.id h.out = 0 ∧ leadS s2 f.id h.out = s3 ∧
      outF s3.L h.out = f.id ∧ outF s3.L f.out = h.id ∧ flowF s3 f.id = { f with out := h.out } ∧ (findK s3.L f.id).isSome = true ∧ s3.L.length = s.L.length := by
  obtain ⟨k, hk, hkf⟩ := findK_mem ho hf
  obtain ⟨l, hl, hlh⟩ := findK_mem ho hh
  have hkl : k ≠ l := fun e => by rw [e, hlh] at hkf; injection hkf with hkf; exact hne (by rw [hkf])
  have if1 := ho.ids f hf
  have ih1 := ho.ids h hh
  have tf := ho.tup f hf
  have th := ho.tup h hh
  have hpq : h.out ≠ f.out := fun e => by
    have h1 := outF_mem ho.outn hf hp
    have h2 := outF_mem ho.outn hh hq
    rw [e, h1] at h2
    exact hne h2
  have o1 : outF s.L h.out = h.id := outF_mem ho.outn hh hq
  have c1 : outF s.L h.out ≠ 0 ∧ outF s.L h.out ≠ f.id := by rw [o1]; exact ⟨by omega, fun e => hne e.symm⟩
  have z0 : outF s.L Tup.zero = 0 := by unfold outF; rw [if_pos rfl]
  -- f leads nowhere
  have hc1 : outF s.L Tup.zero = 0 ∨ outF s.L Tup.zero = f.id := .inl z0
  have ok1 := ho.lead hkf Tup.zero_ok hc1
  have L1 := fun x => outF_lead ho hkf Tup.zero_ok hc1 x
  have g1 : (modS s k (outTo Tup.zero)).L[l]? = some h := by
    show (s.L.modify k _)[l]? = _
    rw [List.getElem?_modify, hlh]
    simp [hkl]
  have m1 : h ∈ (modS s k (outTo Tup.zero)).L := List.mem_of_getElem? g1
  obtain ⟨l', hl', hlh'⟩ := findK_mem ok1 m1
  have hll : l' = l := by
    have hp' := List.pairwise_iff_getElem.1 ok1.idn
    obtain ⟨a1, a2⟩ := List.getElem?_eq_some_iff.1 hlh'
    obtain ⟨b1, b2⟩ := List.getElem?_eq_some_iff.1 g1
    rcases Nat.lt_trichotomy l' l with q | q | q
    · exact absurd (by rw [a2, b2]) (hp' l' l a1 b1 q)
    · exact q
    · exact absurd (by rw [a2, b2]) (hp' l l' b1 a1 q)
  subst hll
  -- h leads to p
  have hc2 : outF (modS s k (outTo Tup.zero)).L f.out = 0 ∨ outF (modS s k (outTo Tup.zero)).L f.out = h.id := .inl (by rw [L1]; rw [if_neg (fun q => q.1 rfl), if_pos rfl])
  have ok2 := ok1.lead g1 tf.2.1 hc2
  have L2 := fun x => outF_lead ok1 g1 tf.2.1 hc2 x
  have g2 : (modS (modS s k (outTo Tup.zero)) l' (outTo f.out)).L[k]? = some (outTo Tup.zero f) := by
    show ((s.L.modify k _).modify l' _)[k]? = _
    rw [List.getElem?_modify, List.getElem?_modify, hkf]
    simp [Ne.symm hkl]
  have m2 : outTo Tup.zero f ∈ (modS (modS s k (outTo Tup.zero)) l' (outTo f.out)).L := List.mem_of_getElem? g2
  obtain ⟨k', hk', hkf'⟩ := findK_mem ok2 m2
  have hkk : k' = k := by
    have hp' := List.pairwise_iff_getElem.1 ok2.idn
    obtain ⟨a1, a2⟩ := List.getElem?_eq_some_iff.1 hkf'
    obtain ⟨b1, b2⟩ := List.getElem?_eq_some_iff.1 g2
    rcases Nat.lt_trichotomy k' k with q | q | q
    · exact absurd (by rw [a2, b2]) (hp' k' k a1 b1 q)
    · exact q
    · exact absurd (by rw [a2, b2]) (hp' k k' b1 a1 q)
  subst hkk
  -- f leads to q
  have hc3 : outF (modS (modS s k' (outTo Tup.zero)) l' (outTo f.out)).L h.out = 0 ∨ outF (modS (modS s k' (outTo Tup.zero)) l' (outTo f.out)).L h.out = (outTo Tup.zero f).id := .inl (by rw [L2]; rw [if_neg (fun q => hpq q.2), if_pos rfl])
  have ok3 := ok2.lead g2 th.2.1 hc3
  have L3 := fun x => outF_lead ok2 g2 th.2.1 hc3 x
  have g3 : (modS (modS (modS s k' (outTo Tup.zero)) l' (outTo f.out)) k' (outTo h.out)).L[k']? = some { f with out := h.out } := by
    show (List.modify _ k' _)[k']? = _
    rw [List.getElem?_modify, g2]
    simp [outTo]
  have m3 := List.mem_of_getElem? g3
  obtain ⟨k3, hk3, hkf3⟩ := findK_mem ok3 m3
  refine ⟨?_, ?_, modS s k' (outTo Tup.zero), modS (modS s k' (outTo Tup.zero)) l' (outTo f.out), modS (modS (modS s k' (outTo Tup.zero)) l' (outTo f.out)) k' (outTo h.out), ?_, ?_, ?_, ?_, ?_, ?_, ?_, ?_, ?_, ?_, ?_⟩
  · unfold leadE; rw [hk]; simp only [if_pos c1]
  · unfold leadS; rw [hk]; simp only [if_pos c1]
  · unfold leadE; rw [hk]; simp only [z0]; simp
  · unfold leadS; rw [hk]; simp only [z0]; simp; rfl
  · unfold leadE; rw [hl']; have := hc2; simp only; rw [if_neg (by rintro ⟨a, b⟩; rcases this with q | q; exact a q; exact b q)]
  · unfold leadS; rw [hl']; have := hc2; simp only; rw [if_neg (by rintro ⟨a, b⟩; rcases this with q | q; exact a q; exact b q)]; rfl
  · unfold leadE
    rw [show f.id = (outTo Tup.zero f).id from rfl, hk']
    have := hc3; simp only; rw [if_neg (by rintro ⟨a, b⟩; rcases this with q | q; exact a q; exact b q)]
  · unfold leadS
    rw [show f.id = (outTo Tup.zero f).id from rfl, hk']
    have := hc3; simp only; rw [if_neg (by rintro ⟨a, b⟩; rcases this with q | q; exact a q; exact b q)]; rfl
  · rw [L3, if_pos ⟨hq, rfl⟩]; rfl
  · rw [L3, if_neg (fun q => hpq q.2.symm), if_neg (fun q => hp (by rw [q]; rfl)), L2, if_pos ⟨hp, rfl⟩]
  · unfold flowF
    rw [show f.id = ({ f with out := h.out } : Fl).id from rfl, hk3]
    simp only [hkf3, Option.getD_some]
  · rw [show f.id = ({ f with out := h.out } : Fl).id from rfl, hk3]
    rfl
  · show (List.modify (List.modify (List.modify _ _ _) _ _) _ _).length = _
    simp only [List.length_modify]
theorem lead_same {s : TS} (ho : s.Ok) {f : Fl} (hf : f ∈ s.L) : leadE s f.id f.out = 0 ∧ (leadS s f.id f.out).L.length = s.L.length := by
  obtain ⟨k, hk, hkf⟩ := findK_mem ho hf
  have hc : ¬ (outF s.L f.out ≠ 0 ∧ outF s.L f.out ≠ f.id) := by
    rintro ⟨a, b⟩
    by_cases hz : f.out = Tup.zero
    · exact a (by unfold outF; rw [if_pos hz])
    · exact b (outF_mem ho.outn hf hz)
  refine ⟨?_, ?_⟩
  · unfold leadE; rw [hk]; simp only [if_neg hc]
  · unfold leadS; rw [hk]; simp only [if_neg hc, List.length_modify]
end Go.Proofs.Ytdpomneoiagpiaa
