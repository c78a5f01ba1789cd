/- The plain laws of Lead, Touch, Ready, Drop, Add. -/
import Derived.Test.YtdpomneoiagpiaaFlw
set_option linter.unusedVariables false
namespace Go.Proofs.Ytdpomneoiagpiaa
open Go.RowKit Go.Deep Go.BigFrame
def outTo (o : Tup) (f : Fl) : Fl := { f with out := o }
theorem pw_modify {R : Fl → Fl → Prop} {L : List Fl} {k : Nat} {f : Fl} (hf : L[k]? = some f) (F : Fl → Fl) (h : L.Pairwise R) (h1 : ∀ g ∈ L, R g f → R g (F f)) (h2 : ∀ g ∈ L, R f g → R (F f) g) : (L.modify k F).Pairwise R := by
  obtain ⟨X, f', Y, e, hk, hf', he, hm⟩ := split_at (List.getElem?_eq_some_iff.1 hf).1
  rw [hf] at hf'
  cases hf'
  rw [hm F]
  rw [e] at h
  have hX : ∀ g ∈ X, g ∈ L := fun g hg => by rw [e]; simp [hg]
  have hY : ∀ g ∈ Y, g ∈ L := fun g hg => by rw [e]; simp [hg]
  rw [List.pairwise_append, List.pairwise_cons] at h ⊢
  obtain ⟨p1, ⟨p2, p3⟩, p4⟩ := h
  refine ⟨p1, ⟨fun g hg => h2 g (hY g hg) (p2 g hg), p3⟩, fun g hg g' hg' => ?_⟩
  rcases List.mem_cons.1 hg' with rfl | hg'
  · exact h1 g (hX g hg) (p4 g hg f (by simp))
  · exact p4 g hg g' (List.mem_cons_of_mem _ hg')
theorem mem_modify {L : List Fl} {k : Nat} {f : Fl} (hf : L[k]? = some f) (F : Fl → Fl) {g : Fl} (hg : g ∈ L.modify k F) : g = F f ∨ g ∈ L := by
  obtain ⟨X, f', Y, e, hk, hf', he, hm⟩ := split_at (List.getElem?_eq_some_iff.1 hf).1
  rw [hf] at hf'
  cases hf'
  rw [hm F] at hg
  rw [e]
  rcases List.mem_append.1 hg with hg | hg
  · exact .inr (List.mem_append_left _ hg)
  · rcases List.mem_cons.1 hg with hg | hg
    · exact .inl hg
    · exact .inr (List.mem_append_right _ (List.mem_cons_of_mem _ hg))
theorem TS.Ok.mod {s : TS} (h : s.Ok) {k : Nat} {f : Fl} (hf : s.L[k]? = some f) : (modS s k readyF).Ok := by
  have hm := List.mem_of_getElem? hf
  exact {
    most1 := h.most1, most2 := h.most2, last := h.last
    len := by show (s.L.modify k readyF).length ≤ _; rw [List.length_modify]; exact h.len
    ids := fun g hg => by rcases mem_modify hf readyF hg with rfl | hg; exact h.ids f hm; exact h.ids g hg
    idn := pw_modify hf readyF h.idn (fun g _ q => q) (fun g _ q => q)
    tup := fun g hg => by rcases mem_modify hf readyF hg with rfl | hg; exact h.tup f hm; exact h.tup g hg
    innn := pw_modify hf readyF h.innn (fun g _ q => q) (fun g _ q => q)
    outn := pw_modify hf readyF h.outn (fun g _ q => q) (fun g _ q => q) }
theorem outn_sym {f g : Fl} (h : f.out ≠ Tup.zero → f.out ≠ g.out) : g.out ≠ Tup.zero → g.out ≠ f.out := fun hz e => h (by rw [← e]; exact hz) e.symm
/-- Another flow that leads there. -/
theorem lead_free {s : TS} (h : s.Ok) {k : Nat} {f : Fl} (hf : s.L[k]? = some f) {o : Tup} (hc : outF s.L o = 0 ∨ outF s.L o = f.id) (hz : o ≠ Tup.zero) {g : Fl} (hg : g ∈ s.L) (e : g.out = o) : g = f := by
  have h1 := outF_mem h.outn hg (by rw [e]; exact hz)
  rw [e] at h1
  have h2 := (h.ids g hg).1
  rcases hc with hc | hc
  · omega
  · rw [h1] at hc
    obtain ⟨i, hi, ei⟩ := List.getElem_of_mem hg
    obtain ⟨hk, ek⟩ := List.getElem?_eq_some_iff.1 hf
    by_cases hik : i = k
    · subst hik
      rw [← ei, ← ek]
    · exfalso
      have hp := List.pairwise_iff_getElem.1 h.idn
      rcases Nat.lt_or_ge i k with q | q
      · exact hp i k hi hk q (by rw [ei, ek]; exact hc)
      · exact hp k i hk hi (by omega) (by rw [ei, ek]; exact hc.symm)
theorem TS.Ok.lead {s : TS} (h : s.Ok) {k : Nat} {f : Fl} (hf : s.L[k]? = some f) {o : Tup} (ho : o.Ok) (hc : outF s.L o = 0 ∨ outF s.L o = f.id) : (modS s k (outTo o)).Ok := by
  have hm := List.mem_of_getElem? hf
  obtain ⟨X, f', Y, e, hk, hf', he, hmm⟩ := split_at (List.getElem?_eq_some_iff.1 hf).1
  rw [hf] at hf'
  cases hf'
  have hid := h.idn
  have hpo := h.outn
  exact {
    most1 := h.most1, most2 := h.most2, last := h.last
    len := by show (s.L.modify k _).length ≤ _; rw [List.length_modify]; exact h.len
    ids := fun g hg => by rcases mem_modify hf (outTo o) hg with rfl | hg; exact h.ids f hm; exact h.ids g hg
    idn := pw_modify hf (outTo o) h.idn (fun g _ q => q) (fun g _ q => q)
    tup := fun g hg => by
      rcases mem_modify hf (outTo o) hg with rfl | hg
      · exact ⟨(h.tup f hm).1, ho, (h.tup f hm).2.2⟩
      · exact h.tup g hg
    innn := pw_modify hf (outTo o) h.innn (fun g _ q => q) (fun g _ q => q)
    outn := by
      show (s.L.modify k (outTo o)).Pairwise _
      rw [hmm]
      rw [e, List.pairwise_append, List.pairwise_cons] at hpo hid
      obtain ⟨p1, ⟨p2, p3⟩, p4⟩ := hpo
      obtain ⟨i1, ⟨i2, i3⟩, i4⟩ := hid
      rw [List.pairwise_append, List.pairwise_cons]
      have hX : ∀ g ∈ X, o ≠ Tup.zero → g.out ≠ o := fun g hg hz q => by
        have hgL : g ∈ s.L := by rw [e]; simp [hg]
        have := lead_free h hf hc hz hgL q
        exact i4 g hg f (by simp) (by rw [this])
      have hY : ∀ g ∈ Y, o ≠ Tup.zero → g.out ≠ o := fun g hg hz q => by
        have hgL : g ∈ s.L := by rw [e]; simp [hg]
        have := lead_free h hf hc hz hgL q
        exact i2 g hg (by rw [this])
      refine ⟨p1, ⟨fun g hg hz q => hY g hg hz q.symm, p3⟩, fun g hg g' hg' => ?_⟩
      rcases List.mem_cons.1 hg' with rfl | hg'
      · intro hz q
        exact hX g hg (by show o ≠ _; intro e0; exact hz (q.trans e0)) q
      · exact p4 g hg g' (List.mem_cons_of_mem _ hg') }
theorem outF_lead {s : TS} (h : s.Ok) {k : Nat} {f : Fl} (hf : s.L[k]? = some f) {o : Tup} (ho : o.Ok) (hc : outF s.L o = 0 ∨ outF s.L o = f.id) (x : Tup) :
    outF (modS s k (outTo o)).L x = if o ≠ Tup.zero ∧ x = o then f.id else if x = f.out then 0 else outF s.L x := by
  have hok := h.lead hf ho hc
  obtain ⟨X, f', Y, e, hk, hf', he, hmm⟩ := split_at (List.getElem?_eq_some_iff.1 hf).1
  rw [hf] at hf'
  cases hf'
  have hL : (modS s k (outTo o)).L = X ++ outTo o f :: Y := hmm _
  by_cases hx : o ≠ Tup.zero ∧ x = o
  · rw [if_pos hx]
    obtain ⟨hz, rfl⟩ := hx
    exact outF_mem hok.outn (f := outTo x f) (by rw [hL]; simp) hz
  · rw [if_neg hx]
    by_cases hxz : x = Tup.zero
    · subst hxz
      unfold outF
      simp
    · have hxo : o ≠ x := fun q => hx ⟨by rw [q]; exact hxz, q.symm⟩
      by_cases hxf : x = f.out
      · rw [if_pos hxf]
        refine outF_none fun _ g hg q => ?_
        rw [hL] at hg
        have hpo := h.outn
        rw [e, List.pairwise_append, List.pairwise_cons] at hpo
        obtain ⟨p1, ⟨p2, p3⟩, p4⟩ := hpo
        rcases List.mem_append.1 hg with hg | hg
        · exact p4 g hg f (by simp) (by rw [q]; exact hxz) (by rw [q, hxf])
        · rcases List.mem_cons.1 hg with rfl | hg
          · exact hxo q
          · exact p2 g hg (by rw [← hxf]; exact hxz) (by rw [q, hxf])
      · rw [if_neg hxf, hL, e]
        unfold outF
        simp only [List.find?_append, List.find?_cons, Ne.symm hxf, decide_false, hxo, show (outTo o f).out = o from rfl]
theorem TS.Ok.touch {s : TS} (h : s.Ok) {k : Nat} {f : Fl} (hf : s.L[k]? = some f) : ({ s with L := s.L.eraseIdx k ++ [f] } : TS).Ok ∧ (∀ x, innF (s.L.eraseIdx k ++ [f]) x = innF s.L x) ∧ ∀ x, outF (s.L.eraseIdx k ++ [f]) x = outF s.L x := by
  obtain ⟨X, f', Y, e, hk, hf', he, hmm⟩ := split_at (List.getElem?_eq_some_iff.1 hf).1
  rw [hf] at hf'
  cases hf'
  have hp : (s.L.eraseIdx k ++ [f]).Perm s.L := by
    rw [he, e]
    simp only [List.append_assoc]
    exact List.Perm.append_left X (List.perm_append_singleton f Y)
  have hok : ({ s with L := s.L.eraseIdx k ++ [f] } : TS).Ok := {
    most1 := h.most1, most2 := h.most2, last := h.last
    len := by show (s.L.eraseIdx k ++ [f]).length ≤ _; rw [hp.length_eq]; exact h.len
    ids := fun g hg => h.ids g (hp.mem_iff.1 hg)
    idn := (hp.pairwise_iff (fun {a b} q => Ne.symm q)).2 h.idn
    tup := fun g hg => h.tup g (hp.mem_iff.1 hg)
    innn := (hp.pairwise_iff (fun {a b} q => Ne.symm q)).2 h.innn
    outn := (hp.pairwise_iff (fun {a b} q => outn_sym q)).2 h.outn }
  refine ⟨hok, fun x => ?_, fun x => ?_⟩
  · rcases inn_cases h.innn x with ⟨g, hg, e1, e2⟩ | ⟨h1, h2⟩
    · rw [e2, ← e1]
      exact innF_mem hok.innn (hp.mem_iff.2 hg)
    · rw [h2]
      exact innF_none fun g hg => h1 g (hp.mem_iff.1 hg)
  · rcases out_cases h.outn x with ⟨hz, g, hg, e1, e2⟩ | ⟨h1, h2⟩
    · rw [e2, ← e1]
      exact outF_mem hok.outn (hp.mem_iff.2 hg) (by rw [e1]; exact hz)
    · rw [h2]
      refine outF_none fun hz g hg => ?_
      rcases h1 with h1 | h1
      · exact absurd h1 hz
      · exact h1 g (hp.mem_iff.1 hg)
theorem TS.Ok.push {s : TS} (h : s.Ok) (hl : s.L.length < s.most) (hb : s.last < 1000000) {i o : Tup} (hi : i.Ok) (ho : o.Ok) (hz : i ≠ Tup.zero) (h1 : innF s.L i = 0) (h2 : outF s.L o = 0) :
    (pushS s i o).Ok ∧ (∀ x, innF (pushS s i o).L x = if x = i then (s.last : Int) + 1 else innF s.L x) ∧ ∀ x, outF (pushS s i o).L x = if o ≠ Tup.zero ∧ x = o then (s.last : Int) + 1 else outF s.L x := by
  have n1 : ∀ g ∈ s.L, g.inn ≠ i := fun g hg q => by
    have := innF_mem h.innn hg
    rw [q, h1] at this
    have := (h.ids g hg).1
    omega
  have n2 : o ≠ Tup.zero → ∀ g ∈ s.L, g.out ≠ o := fun hz g hg q => by
    have := outF_mem h.outn hg (by rw [q]; exact hz)
    rw [q, h2] at this
    have := (h.ids g hg).1
    omega
  refine ⟨{ most1 := h.most1, most2 := h.most2, last := by show s.last + 1 ≤ _; omega, len := by show (s.L ++ [_]).length ≤ s.most; simp; omega, ids := ?_, idn := ?_, tup := ?_, innn := ?_, outn := ?_ }, fun x => ?_, fun x => ?_⟩
  · intro g hg
    show 1 ≤ g.id ∧ g.id ≤ ((s.last + 1 : Nat) : Int)
    rcases List.mem_append.1 hg with hg | hg
    · have := h.ids g hg
      omega
    · simp at hg
      subst hg
      simp
      omega
  · show (s.L ++ [_]).Pairwise _
    rw [List.pairwise_append]
    refine ⟨h.idn, by simp, fun g hg g' hg' => ?_⟩
    simp at hg'
    subst hg'
    have := h.ids g hg
    show g.id ≠ (s.last : Int) + 1
    omega
  · intro g hg
    rcases List.mem_append.1 hg with hg | hg
    · exact h.tup g hg
    · simp at hg
      subst hg
      exact ⟨hi, ho, hz⟩
  · show (s.L ++ [_]).Pairwise _
    rw [List.pairwise_append]
    refine ⟨h.innn, by simp, fun g hg g' hg' => ?_⟩
    simp at hg'
    subst hg'
    exact n1 g hg
  · show (s.L ++ [_]).Pairwise _
    rw [List.pairwise_append]
    refine ⟨h.outn, by simp, fun g hg g' hg' => ?_⟩
    simp at hg'
    subst hg'
    intro hz' q
    exact n2 (fun e0 => hz' (q.trans e0)) g hg q
  · unfold pushS innF
    simp only [List.find?_append, List.find?_cons, List.find?_nil]
    by_cases hx : x = i
    · subst hx
      have : s.L.find? (fun f => decide (f.inn = x)) = none := by rw [List.find?_eq_none]; intro g hg; simp [n1 g hg]
      rw [this]
      simp
    · simp only [hx, Ne.symm hx, if_false, decide_false, Option.or_none]
  · unfold pushS outF
    by_cases hxz : x = Tup.zero
    · have : ¬ (o ≠ Tup.zero ∧ x = o) := fun ⟨a, b⟩ => a (b.symm.trans hxz)
      rw [if_pos hxz, if_neg this, if_pos hxz]
    · rw [if_neg hxz, if_neg hxz]
      simp only [List.find?_append, List.find?_cons, List.find?_nil]
      by_cases hx : x = o
      · subst hx
        have : s.L.find? (fun f => decide (f.out = x)) = none := by rw [List.find?_eq_none]; intro g hg; simp [n2 hxz g hg]
        rw [this]
        simp [hxz]
      · simp only [hx, Ne.symm hx, and_false, if_false, decide_false, Option.or_none]
end Go.Proofs.Ytdpomneoiagpiaa
