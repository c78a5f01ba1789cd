/- What the calls compute, in plain. -/
import Derived.Test.YtdpomneoiagpiaaTab
set_option linter.unusedVariables false
namespace Go.Proofs.Ytdpomneoiagpiaa
open Go.RowKit Go.Deep Go.BigFrame
def findK (L : List Fl) (id : Int) : Option Nat := L.findIdx? (fun f => f.id == id)
def delS (s : TS) (k : Nat) : TS := { s with L := s.L.eraseIdx k }
def dropS (s : TS) (id : Int) : TS := match findK s.L id with | none => s | some k => delS s k
def atE (s : TS) (id : Int) : Int := match findK s.L id with | none => 6 | some _ => 0
def touchS (s : TS) (id : Int) : TS := match findK s.L id with | none => s | some k => { s with L := s.L.eraseIdx k ++ s.L[k]?.toList }
def readyS (s : TS) (id : Int) : TS := match findK s.L id with | none => s | some k => { s with L := s.L.modify k (fun f => { f with emb := false }) }
def leadE (s : TS) (id : Int) (o : Tup) : Int := match findK s.L id with | none => 6 | some _ => if outF s.L o ≠ 0 ∧ outF s.L o ≠ id then 9 else 0
def leadS (s : TS) (id : Int) (o : Tup) : TS := match findK s.L id with | none => s | some k => if outF s.L o ≠ 0 ∧ outF s.L o ≠ id then s else { s with L := s.L.modify k (fun f => { f with out := o }) }
def embK (L : List Fl) : Option Nat := L.findIdx? (fun f => f.emb)
def addE (s : TS) (i o : Tup) : Int := if i = Tup.zero then 1 else if innF s.L i ≠ 0 ∨ outF s.L o ≠ 0 then 9 else if s.most ≤ s.L.length ∧ embK s.L = none then 7 else 0
def evict (s : TS) : List Fl := if s.most ≤ s.L.length then (match embK s.L with | none => s.L | some k => s.L.eraseIdx k) else s.L
def wentF (s : TS) : Int := if s.most ≤ s.L.length then (match embK s.L with | none => 0 | some k => match s.L[k]? with | some f => f.id | none => 0) else 0
def pushS (s : TS) (i o : Tup) : TS := { s with L := s.L ++ [⟨s.last + 1, i, o, true⟩], last := s.last + 1 }
def addS (s : TS) (i o : Tup) : TS := if addE s i o = 0 then pushS { s with L := evict s } i o else s
def addN (s : TS) (i o : Tup) : Int := if addE s i o = 0 then s.last + 1 else 0
def addW (s : TS) (i o : Tup) : Int := if addE s i o = 0 then wentF s else 0
theorem innF_mem {L : List Fl} (hp : L.Pairwise (fun f g => f.inn ≠ g.inn)) {f : Fl} (hf : f ∈ L) : innF L f.inn = f.id := by
  unfold innF
  induction L with
  | nil => simp at hf
  | cons g r ih =>
    rw [List.pairwise_cons] at hp
    simp only [List.find?_cons]
    by_cases e : g.inn = f.inn
    · simp only [e, decide_true]
      rcases List.mem_cons.1 hf with rfl | hm
      · rfl
      · exact absurd e (hp.1 f hm)
    · simp only [e, decide_false]
      rcases List.mem_cons.1 hf with rfl | hm
      · exact absurd rfl e
      · exact ih hp.2 hm
theorem innF_none {L : List Fl} {x : Tup} (h : ∀ f ∈ L, f.inn ≠ x) : innF L x = 0 := by
  unfold innF
  have : L.find? (fun f => decide (f.inn = x)) = none := by
    rw [List.find?_eq_none]
    intro f hf
    simp [h f hf]
  rw [this]
theorem outF_mem {L : List Fl} (hp : L.Pairwise (fun f g => f.out ≠ Tup.zero → f.out ≠ g.out)) {f : Fl} (hf : f ∈ L) (hz : f.out ≠ Tup.zero) : outF L f.out = f.id := by
  unfold outF
  rw [if_neg hz]
  induction L with
  | nil => simp at hf
  | cons g r ih =>
    rw [List.pairwise_cons] at hp
    simp only [List.find?_cons]
    by_cases e : g.out = f.out
    · simp only [e, decide_true]
      rcases List.mem_cons.1 hf with rfl | hm
      · rfl
      · exact absurd e (hp.1 f hm (by rw [e]; exact hz))
    · simp only [e, decide_false]
      rcases List.mem_cons.1 hf with rfl | hm
      · exact absurd rfl e
      · exact ih hp.2 hm
theorem outF_none {L : List Fl} {x : Tup} (h : x ≠ Tup.zero → ∀ f ∈ L, f.out ≠ x) : outF L x = 0 := by
  unfold outF
  split
  · rfl
  · rename_i hx
    have : L.find? (fun f => decide (f.out = x)) = none := by
      rw [List.find?_eq_none]
      intro f hf
      simp [h hx f hf]
    rw [this]
theorem split_at {L : List Fl} {k : Nat} (h : k < L.length) : ∃ X f Y, L = X ++ f :: Y ∧ X.length = k ∧ L[k]? = some f ∧ L.eraseIdx k = X ++ Y ∧ ∀ F : Fl → Fl, L.modify k F = X ++ F f :: Y := by
  refine ⟨L.take k, L[k], L.drop (k + 1), ?_, by rw [List.length_take]; omega, List.getElem?_eq_getElem h, List.eraseIdx_eq_take_drop_succ L k, fun F => ?_⟩
  · rw [List.getElem_cons_drop h, List.take_append_drop]
  · rw [List.modify_eq_take_cons_drop h]
theorem inn_cases {L : List Fl} (hp : L.Pairwise (fun f g => f.inn ≠ g.inn)) (x : Tup) : (∃ f ∈ L, f.inn = x ∧ innF L x = f.id) ∨ ((∀ f ∈ L, f.inn ≠ x) ∧ innF L x = 0) := by
  by_cases h : ∃ f ∈ L, f.inn = x
  · obtain ⟨f, hf, rfl⟩ := h
    exact .inl ⟨f, hf, rfl, innF_mem hp hf⟩
  · have h' : ∀ f ∈ L, f.inn ≠ x := fun f hf e => h ⟨f, hf, e⟩
    exact .inr ⟨h', innF_none h'⟩
theorem out_cases {L : List Fl} (hp : L.Pairwise (fun f g => f.out ≠ Tup.zero → f.out ≠ g.out)) (x : Tup) : (x ≠ Tup.zero ∧ ∃ f ∈ L, f.out = x ∧ outF L x = f.id) ∨ ((x = Tup.zero ∨ ∀ f ∈ L, f.out ≠ x) ∧ outF L x = 0) := by
  by_cases h : x ≠ Tup.zero ∧ ∃ f ∈ L, f.out = x
  · obtain ⟨hz, f, hf, rfl⟩ := h
    exact .inl ⟨hz, f, hf, rfl, outF_mem hp hf hz⟩
  · by_cases hz : x = Tup.zero
    · exact .inr ⟨.inl hz, by unfold outF; rw [if_pos hz]⟩
    · have h' : ∀ f ∈ L, f.out ≠ x := fun f hf e => h ⟨hz, f, hf, e⟩
      exact .inr ⟨.inr h', outF_none fun _ => h'⟩
theorem TS.Ok.del {s : TS} (h : s.Ok) (k : Nat) : (delS s k).Ok := by
  have hs := List.eraseIdx_sublist s.L k
  exact { most1 := h.most1, most2 := h.most2, len := Nat.le_trans hs.length_le h.len, ids := fun f hf => h.ids f (hs.subset hf), idn := h.idn.sublist hs, tup := fun f hf => h.tup f (hs.subset hf), innn := h.innn.sublist hs, outn := h.outn.sublist hs, last := h.last }
theorem innF_del {s : TS} (h : s.Ok) {k : Nat} {f : Fl} (hf : s.L[k]? = some f) (x : Tup) : innF (s.L.eraseIdx k) x = if x = f.inn then 0 else innF s.L x := by
  obtain ⟨X, f', Y, e, hk, hf', he, _⟩ := split_at (List.getElem?_eq_some_iff.1 hf).1
  rw [hf] at hf'
  cases hf'
  have hp := h.innn
  have hp' := (h.del k).innn
  have hd : (delS s k).L = s.L.eraseIdx k := rfl
  rw [hd] at hp'
  rw [he] at hp' ⊢
  rw [e] at hp ⊢
  rw [List.pairwise_append] at hp
  obtain ⟨p1, p2, p3⟩ := hp
  rw [List.pairwise_cons] at p2
  by_cases hx : x = f.inn
  · rw [if_pos hx]
    refine innF_none fun g hg => ?_
    subst hx
    rcases List.mem_append.1 hg with hg | hg
    · exact p3 g hg f (by simp)
    · exact (p2.1 g hg).symm
  · rw [if_neg hx]
    unfold innF
    simp only [List.find?_append, List.find?_cons, Ne.symm hx, decide_false]
theorem outF_del {s : TS} (h : s.Ok) {k : Nat} {f : Fl} (hf : s.L[k]? = some f) (x : Tup) : outF (s.L.eraseIdx k) x = if x = f.out then 0 else outF s.L x := by
  obtain ⟨X, f', Y, e, hk, hf', he, _⟩ := split_at (List.getElem?_eq_some_iff.1 hf).1
  rw [hf] at hf'
  cases hf'
  have hp := h.outn
  rw [he]
  rw [e] at hp ⊢
  rw [List.pairwise_append] at hp
  obtain ⟨p1, p2, p3⟩ := hp
  rw [List.pairwise_cons] at p2
  by_cases hx : x = f.out
  · rw [if_pos hx]
    refine outF_none fun hz g hg => ?_
    subst hx
    rcases List.mem_append.1 hg with hg | hg
    · intro e
      exact p3 g hg f (by simp) (by rw [e]; exact hz) e
    · exact (p2.1 g hg hz).symm
  · rw [if_neg hx]
    unfold outF
    simp only [List.find?_append, List.find?_cons, Ne.symm hx, decide_false]
end Go.Proofs.Ytdpomneoiagpiaa
