/- TableOne, in plain. -/
import Derived.Test.YtdpomneoiagpiaaMaps2
set_option linter.unusedVariables false
namespace Go.Proofs.Ytdpomneoiagpiaa
open Go.RowKit Go.Deep Go.BigFrame
/-- Who is embryonic no more; how many. -/
def rdy (L : List Fl) (id : Int) : Bool := L.any (fun f => f.id == id && !f.emb)
def rdyN (L : List Fl) : Nat := L.countP (fun f => !f.emb)
theorem MapR.congr {w : World} {b n cnt : Nat} {R R' : Int → Bool} (h : MapR w b n R cnt) (e : ∀ id, (Lit.int .u64 id).wf = true → R id = R' id) : MapR w b n R' cnt := by
  obtain ⟨D, ho, hc, hf⟩ := h
  exact ⟨D, ho, hc, fun id hid => by rw [← e id hid]; exact hf id hid⟩
theorem MapR.apart {w w' : World} {b b1 b2 n cnt : Nat} {R : Int → Bool} (h : MapR w b n R cnt) (ha : Apart b1 b2 w w') (h1 : b ≠ b1) (h2 : b ≠ b2) : MapR w' b n R cnt := by
  obtain ⟨es, ck, hm⟩ := h.isMap
  exact h.keptE ((ha.block b _ hm ⟨h1, h2⟩).trans hm.symm)
theorem rdy_app (A B : List Fl) (id : Int) : rdy (A ++ B) id = (rdy A id || rdy B id) := by simp [rdy]
theorem rdyN_app (A B : List Fl) : rdyN (A ++ B) = rdyN A + rdyN B := by simp [rdyN, List.countP_append]
theorem rdy_one (f : Fl) (id : Int) : rdy [f] id = (f.id == id && !f.emb) := by simp [rdy]
theorem rdyN_one (f : Fl) : rdyN [f] = if f.emb then 0 else 1 := by
  unfold rdyN
  cases h : f.emb <;> simp [h]
theorem rdy_false {L : List Fl} {id : Int} (h : ∀ f ∈ L, f.id = id → f.emb = true) : rdy L id = false := by
  unfold rdy
  rw [List.any_eq_false]
  intro f hf
  simp
  exact h f hf
theorem rdy_split {s : TS} (ho : s.Ok) {k : Nat} {f : Fl} (hf : s.L[k]? = some f) : rdy s.L f.id = !f.emb := by
  have hm := List.mem_of_getElem? hf
  cases he : f.emb with
  | true =>
    refine rdy_false fun g hg hid => ?_
    have : g = f := by
      obtain ⟨i, hi, ei⟩ := List.getElem_of_mem hg
      obtain ⟨hk, ek⟩ := List.getElem?_eq_some_iff.1 hf
      have hp := List.pairwise_iff_getElem.1 ho.idn
      rcases Nat.lt_trichotomy i k with q | q | q
      · exact absurd (by rw [ei, ek]; exact hid) (hp i k hi hk q)
      · subst q; rw [← ei, ← ek]
      · exact absurd (by rw [ei, ek]; exact hid.symm) (hp k i hk hi q)
    rw [this]
    exact he
  | false =>
    unfold rdy
    rw [show (!false) = true from rfl, List.any_eq_true]
    exact ⟨f, hm, by simp [he]⟩
theorem rdy_del {s : TS} (ho : s.Ok) {k : Nat} {f : Fl} (hf : s.L[k]? = some f) (id : Int) : rdy (s.L.eraseIdx k) id = (if id = f.id then false else rdy s.L id) ∧ rdyN (s.L.eraseIdx k) = (if rdy s.L f.id then rdyN s.L - 1 else rdyN s.L) := by
  have hr := rdy_split ho hf
  obtain ⟨X, f', Y, e, hk, hf', he, hm⟩ := split_at (List.getElem?_eq_some_iff.1 hf).1
  rw [hf] at hf'
  cases hf'
  have hp := ho.idn
  rw [e, List.pairwise_append, List.pairwise_cons] at hp
  refine ⟨?_, ?_⟩
  · rw [he]
    by_cases hid : id = f.id
    · rw [if_pos hid]
      refine rdy_false fun g hg hgi => ?_
      exfalso
      rcases List.mem_append.1 hg with q | q
      · exact hp.2.2 g q f (by simp) (by rw [hgi, hid])
      · exact hp.2.1.1 g q (by rw [hgi, hid])
    · have hb : (f.id == id) = false := by simp; exact fun q => hid q.symm
      rw [if_neg hid, e]
      rw [rdy_app, show f :: Y = [f] ++ Y from rfl, rdy_app, rdy_app, rdy_one, hb]
      rfl
  · rw [hr, he, e, show X ++ f :: Y = X ++ ([f] ++ Y) from rfl]
    rw [rdyN_app, rdyN_app, rdyN_app, rdyN_one]
    cases f.emb with
    | true =>
      show rdyN X + rdyN Y = rdyN X + (0 + rdyN Y)
      omega
    | false =>
      show rdyN X + rdyN Y = rdyN X + (1 + rdyN Y) - 1
      omega
theorem rdy_mod {s : TS} {k : Nat} {f : Fl} (hf : s.L[k]? = some f) (F : Fl → Fl) (h1 : (F f).id = f.id) (h2 : (F f).emb = f.emb) (id : Int) : rdy (s.L.modify k F) id = rdy s.L id ∧ rdyN (s.L.modify k F) = rdyN s.L := by
  obtain ⟨X, f', Y, e, hk, hf', he, hm⟩ := split_at (List.getElem?_eq_some_iff.1 hf).1
  rw [hf] at hf'
  cases hf'
  rw [hm F, e, show X ++ f :: Y = X ++ ([f] ++ Y) from rfl, show X ++ F f :: Y = X ++ ([F f] ++ Y) from rfl]
  simp only [rdy_app, rdyN_app, rdy_one, rdyN_one, h1, h2, and_self]
theorem rdy_drop {s : TS} (ho : s.Ok) (id : Int) : (atE s id = 0 → (∀ y, rdy (dropS s id).L y = if y = id then false else rdy s.L y) ∧ rdyN (dropS s id).L = if rdy s.L id then rdyN s.L - 1 else rdyN s.L) ∧ (atE s id ≠ 0 → dropS s id = s) := by
  unfold atE dropS
  cases hk : findK s.L id with
  | none => exact ⟨fun h => by simp at h, fun _ => rfl⟩
  | some k =>
    obtain ⟨f, hf, hid, _⟩ := find_hit hk
    subst hid
    exact ⟨fun _ => ⟨fun y => (rdy_del ho hf y).1, (rdy_del ho hf 0).2⟩, fun h => absurd rfl h⟩
theorem rdy_ready {s : TS} (ho : s.Ok) (id : Int) : (atE s id = 0 → (∀ y, rdy (readyS s id).L y = if y = id then true else rdy s.L y) ∧ rdyN (readyS s id).L = if rdy s.L id then rdyN s.L else rdyN s.L + 1) ∧ (atE s id ≠ 0 → readyS s id = s) := by
  unfold atE readyS
  cases hk : findK s.L id with
  | none => exact ⟨fun h => by simp at h, fun _ => rfl⟩
  | some k =>
    obtain ⟨f, hf, hid, _⟩ := find_hit hk
    subst hid
    refine ⟨fun _ => ?_, fun h => absurd rfl h⟩
    have hr := rdy_split ho hf
    obtain ⟨X, f', Y, e, hk', hf', he, hm⟩ := split_at (List.getElem?_eq_some_iff.1 hf).1
    rw [hf] at hf'
    cases hf'
    show (∀ y, rdy (s.L.modify k _) y = _) ∧ rdyN (s.L.modify k _) = _
    rw [hr, hm, e, show X ++ f :: Y = X ++ ([f] ++ Y) from rfl]
    rw [show X ++ ({ f with emb := false } : Fl) :: Y = X ++ ([({ f with emb := false } : Fl)] ++ Y) from rfl]
    refine ⟨fun y => ?_, ?_⟩
    · simp only [rdy_app, rdy_one]
      by_cases hy : y = f.id
      · simp [hy]
      · have hb : (f.id == y) = false := by simp; exact fun q => hy q.symm
        rw [if_neg hy, hb]
        simp
    · simp only [rdyN_app, rdyN_one]
      cases f.emb with
      | true =>
        show rdyN X + (1 + rdyN Y) = rdyN X + (0 + rdyN Y) + 1
        omega
      | false =>
        show rdyN X + (1 + rdyN Y) = rdyN X + (1 + rdyN Y)
        rfl
theorem rdy_touch {s : TS} (id : Int) : (∀ y, rdy (touchS s id).L y = rdy s.L y) ∧ rdyN (touchS s id).L = rdyN s.L := by
  unfold touchS
  cases hk : findK s.L id with
  | none => exact ⟨fun _ => rfl, rfl⟩
  | some k =>
    obtain ⟨f, hf, hid, _⟩ := find_hit hk
    obtain ⟨X, f', Y, e, hk', hf', he, hm⟩ := split_at (List.getElem?_eq_some_iff.1 hf).1
    rw [hf] at hf'
    cases hf'
    simp only [hf, Option.toList_some]
    rw [he, e, show X ++ f :: Y = X ++ ([f] ++ Y) from rfl]
    refine ⟨fun y => ?_, ?_⟩
    · simp only [rdy_app]
      cases rdy X y <;> cases rdy Y y <;> cases rdy [f] y <;> rfl
    · simp only [rdyN_app]
      omega
theorem rdy_lead {s : TS} (id : Int) (o : Tup) : (∀ y, rdy (leadS s id o).L y = rdy s.L y) ∧ rdyN (leadS s id o).L = rdyN s.L := by
  unfold leadS
  cases hk : findK s.L id with
  | none => exact ⟨fun _ => rfl, rfl⟩
  | some k =>
    obtain ⟨f, hf, hid, _⟩ := find_hit hk
    simp only
    split
    · exact ⟨fun _ => rfl, rfl⟩
    · exact ⟨fun y => (rdy_mod hf _ (by rfl) (by rfl) y).1, (rdy_mod hf _ (by rfl) (by rfl) 0).2⟩
theorem rdy_add {s : TS} (ho : s.Ok) (i o : Tup) : (∀ y, rdy (addS s i o).L y = rdy s.L y) ∧ rdyN (addS s i o).L = rdyN s.L ∧ (addE s i o = 0 → rdy s.L (addW s i o) = false ∧ 0 ≤ addW s i o ∧ addW s i o ≤ s.last ∧ addN s i o = (s.last : Int) + 1 ∧ (addS s i o).last = s.last + 1) ∧
    (addE s i o ≠ 0 → addW s i o = 0 ∧ addN s i o = 0 ∧ (addS s i o).last = s.last) ∧ (addS s i o).most = s.most := by
  have z0 : rdy s.L 0 = false := rdy_false fun f hf hid => by have := (ho.ids f hf).1; omega
  by_cases he : addE s i o = 0
  · have hev : (∀ y, rdy (evict s) y = rdy s.L y) ∧ rdyN (evict s) = rdyN s.L ∧ rdy s.L (wentF s) = false ∧ 0 ≤ wentF s ∧ wentF s ≤ s.last := by
      unfold evict wentF
      by_cases hl : s.most ≤ s.L.length
      · rw [if_pos hl, if_pos hl]
        cases hk : embK s.L with
        | none => exact ⟨fun _ => rfl, rfl, z0, by simp, by simp⟩
        | some k =>
          have hk2 := hk
          unfold embK at hk2
          rw [List.findIdx?_eq_some_iff_getElem] at hk2
          obtain ⟨hkl, hke, -⟩ := hk2
          have hf : s.L[k]? = some s.L[k] := List.getElem?_eq_getElem hkl
          have hr := rdy_split ho hf
          rw [hke] at hr
          have hd := fun y => rdy_del ho hf y
          simp only [hf]
          refine ⟨fun y => ?_, ?_, by rw [hr]; rfl, by have := (ho.ids _ (List.mem_of_getElem? hf)).1; omega, (ho.ids _ (List.mem_of_getElem? hf)).2⟩
          · rw [(hd y).1]
            split
            · rename_i hy
              rw [hy, hr]
              rfl
            · rfl
          · rw [(hd 0).2, hr]
            simp
      · rw [if_neg hl, if_neg hl]
        exact ⟨fun _ => rfl, rfl, z0, by simp, by simp⟩
    refine ⟨fun y => ?_, ?_, fun _ => ⟨?_, ?_, ?_, ?_, ?_⟩, fun h => absurd he h, ?_⟩
    · unfold addS pushS
      rw [if_pos he]
      show rdy (evict s ++ [_]) y = _
      rw [rdy_app, hev.1, rdy_one]
      simp
    · unfold addS pushS
      rw [if_pos he]
      show rdyN (evict s ++ [_]) = _
      rw [rdyN_app, hev.2.1, rdyN_one]
      simp
    · unfold addW; rw [if_pos he]; exact hev.2.2.1
    · unfold addW; rw [if_pos he]; exact hev.2.2.2.1
    · unfold addW; rw [if_pos he]; exact hev.2.2.2.2
    · unfold addN; rw [if_pos he]
    · unfold addS pushS; rw [if_pos he]
    · unfold addS pushS; rw [if_pos he]
  · have e1 : addS s i o = s := by unfold addS; rw [if_neg he]
    rw [e1]
    exact ⟨fun _ => rfl, rfl, fun h => absurd h he, fun _ => ⟨by unfold addW; rw [if_neg he], by unfold addN; rw [if_neg he], rfl⟩, rfl⟩
/-- What the inner loop has laid down: the flows ahead of number j. -/
def seenI (L : List Fl) (j : Nat) (t : Tup) : Int := if (L.take j).any (fun f => decide (f.inn = t)) then 1 else 0
def seenO (L : List Fl) (j : Nat) (t : Tup) : Int := if decide (t ≠ Tup.zero) && (L.take j).any (fun f => decide (f.out = t)) then 1 else 0
theorem take_at {L : List Fl} {j : Nat} {f : Fl} (hf : L[j]? = some f) : L.take (j + 1) = L.take j ++ [f] := by
  rw [List.take_add_one, hf]
  rfl
theorem seenI_succ {L : List Fl} {j : Nat} {f : Fl} (hf : L[j]? = some f) (t : Tup) : seenI L (j + 1) t = if t = f.inn then 1 else seenI L j t := by
  unfold seenI
  rw [take_at hf, List.any_append]
  by_cases h : t = f.inn
  · simp [h]
  · simp [h, Ne.symm h]
theorem seenO_succ {L : List Fl} {j : Nat} {f : Fl} (hf : L[j]? = some f) (t : Tup) : seenO L (j + 1) t = if f.out ≠ Tup.zero ∧ t = f.out then 1 else seenO L j t := by
  unfold seenO
  rw [take_at hf, List.any_append]
  by_cases h : t = f.out
  · by_cases hz : f.out = Tup.zero
    · simp [h, hz]
    · simp [h, hz]
  · simp [h, Ne.symm h]
theorem seenI_new {s : TS} (ho : s.Ok) {j : Nat} {f : Fl} (hf : s.L[j]? = some f) : seenI s.L j f.inn = 0 := by
  unfold seenI
  rw [if_neg]
  intro h
  rw [List.any_eq_true] at h
  obtain ⟨g, hg, e⟩ := h
  obtain ⟨X, f', Y, e', hk, hf', -, -⟩ := split_at (List.getElem?_eq_some_iff.1 hf).1
  rw [hf] at hf'
  cases hf'
  have hp := ho.innn
  rw [e', List.pairwise_append] at hp
  rw [e', List.take_left' hk] at hg
  exact hp.2.2 g hg f (by simp) (by simpa using e)
theorem seenO_new {s : TS} (ho : s.Ok) {j : Nat} {f : Fl} (hf : s.L[j]? = some f) : seenO s.L j f.out = 0 := by
  unfold seenO
  rw [if_neg]
  intro h
  simp only [Bool.and_eq_true, decide_eq_true_eq] at h
  obtain ⟨hz, h⟩ := h
  rw [List.any_eq_true] at h
  obtain ⟨g, hg, e⟩ := h
  obtain ⟨X, f', Y, e', hk, hf', -, -⟩ := split_at (List.getElem?_eq_some_iff.1 hf).1
  rw [hf] at hf'
  cases hf'
  have hp := ho.outn
  rw [e', List.pairwise_append] at hp
  rw [e', List.take_left' hk] at hg
  have e2 : g.out = f.out := by simpa using e
  exact hp.2.2 g hg f (by simp) (by rw [e2]; exact hz) e2
theorem seenI_all {s : TS} (ho : s.Ok) (t : Tup) : (innF s.L t != 0) = decide (0 < seenI s.L s.L.length t) := by
  unfold seenI
  rw [List.take_length]
  rcases inn_cases ho.innn t with ⟨f, hf, e1, e2⟩ | ⟨h1, h2⟩
  · have := (ho.ids f hf).1
    rw [e2, if_pos (List.any_eq_true.2 ⟨f, hf, by simp [e1]⟩)]
    simp
    omega
  · rw [h2, if_neg]
    · rfl
    · intro h
      rw [List.any_eq_true] at h
      obtain ⟨f, hf, e⟩ := h
      exact h1 f hf (by simpa using e)
theorem seenO_all {s : TS} (ho : s.Ok) (t : Tup) : (outF s.L t != 0) = decide (0 < seenO s.L s.L.length t) := by
  unfold seenO
  rw [List.take_length]
  rcases out_cases ho.outn t with ⟨hz, f, hf, e1, e2⟩ | ⟨h1, h2⟩
  · have := (ho.ids f hf).1
    have ha : s.L.any (fun f => decide (f.out = t)) = true := List.any_eq_true.2 ⟨f, hf, by simp [e1]⟩
    rw [e2, ha]
    simp [hz]
    omega
  · rw [h2, if_neg]
    · rfl
    · intro h
      simp only [Bool.and_eq_true, decide_eq_true_eq] at h
      obtain ⟨hz, h⟩ := h
      rw [List.any_eq_true] at h
      obtain ⟨f, hf, e⟩ := h
      rcases h1 with q | q
      · exact hz q
      · exact q f hf (by simpa using e)
theorem rdyN_succ {L : List Fl} {j : Nat} {f : Fl} (hf : L[j]? = some f) : rdyN (L.take (j + 1)) = rdyN (L.take j) + if f.emb then 0 else 1 := by
  rw [take_at hf, rdyN_app, rdyN_one]
theorem flow_at {s : TS} (ho : s.Ok) {j : Nat} {f : Fl} (hf : s.L[j]? = some f) : flowF s f.id = f ∧ (findK s.L f.id).isSome = true ∧ innF s.L f.inn = f.id ∧ (f.out ≠ Tup.zero → outF s.L f.out = f.id) := by
  have hm := List.mem_of_getElem? hf
  obtain ⟨k, hk, hkf⟩ := findK_mem ho hm
  refine ⟨?_, by rw [hk]; rfl, innF_mem ho.innn hm, fun hz => outF_mem ho.outn hm hz⟩
  unfold flowF
  rw [hk]
  simp only [hkf, Option.getD_some]
end Go.Proofs.Ytdpomneoiagpiaa
