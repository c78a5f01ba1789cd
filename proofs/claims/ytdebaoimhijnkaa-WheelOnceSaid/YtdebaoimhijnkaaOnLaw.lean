/- WheelOnce: two maps, and lists. -/
import Derived.Test.YtdebaoimhijnkaaOdLaw
set_option linter.unusedVariables false
namespace Go.Proofs.Ytdebaoimhijnkaa
open Go.RowKit Go.Deep Go.BigFrame
set_option maxRecDepth 100000
/-- A store under a key, new or not. -/
theorem MapU.put {w : World} {b n : Nat} {L : List Al} (h : MapU w b n L) (hd : L.Pairwise (fun a b => a.id ≠ b.id)) {a : Al} (ha : a.Ok) (hn : n < maxLen) :
    ∃ w', (Instr.mapUpdate 52 (.map (some b)) (.int .u64 a.id) (.int .u64 a.t)).run Try.prog w = .ok () w' ∧ MapU w' b (n + 1) (dropA L a.id ++ [a]) ∧ w.grownBy w' (some b) := by
  obtain ⟨D, ho, hs, hfd, hall⟩ := h.own
  obtain ⟨w', hr, ho', ht'⟩ := ho.store id_keyed Try.underlying52 hn (id_key ha.1) (uElem_mk a.t)
  refine ⟨w', hr, ⟨_, ho', ?_, fun d hd' => ?_, fun kl hkl => ?_⟩, ht'.grown⟩
  · rw [Maps.size_put (ho.tidy id_keyed), (hfd _ ha.1).1, hs]
    cases hf : findA L a.id with
    | none => rw [drop_none hf]; simp
    | some z => have := drop_len hd hf; simp; omega
  · by_cases e : d = a.id
    · subst e
      have e1 : findA (dropA L a.id ++ [a]) a.id = some a := by
        have h1 := find_dropped L a.id
        unfold findA at h1 ⊢
        rw [List.find?_append, h1]
        simp
      rw [e1]
      exact ⟨Maps.has_put_same ho.isMap (id_keyed.key (id_key ha.1)) _, fun z => Maps.atKey_put_same ho.isMap (id_keyed.key (id_key ha.1)) _ _⟩
    · have e1 : findA (dropA L a.id ++ [a]) d = findA L d := by
        have h1 : findA (dropA L a.id) d = findA L d := by rw [findA_drop, if_neg e]
        unfold findA at h1 ⊢
        rw [List.find?_append, h1]
        simp [Ne.symm e]
      rw [e1]
      exact ⟨by rw [Maps.has_put_other (id_ne e)]; exact (hfd d hd').1, fun z => by rw [Maps.atKey_put_other (id_ne e)]; exact (hfd d hd').2 z⟩
  · by_cases e : kl = .int .u64 a.id
    · exact ⟨a, by simp, e⟩
    · rw [Maps.has_put_other e] at hkl
      obtain ⟨g, hg, he⟩ := hall kl hkl
      exact ⟨g, List.mem_append_left _ (List.mem_filter.2 ⟨hg, by simp; intro q; apply e; rw [he, q]⟩), he⟩
/-- The map goes with the wheel. -/
theorem MapU.set {w : World} {b n : Nat} {s : WS} (hok : s.Ok) (h : MapU w b n s.L) {id t : Int} (hid : (Lit.int .u64 id).wf = true) (ht : (Lit.int .u64 t).wf = true) (htM : t ≤ 1099511627776) (hn : n < maxLen) :
    ∃ w', (Instr.mapUpdate 52 (.map (some b)) (.int .u64 id) (.int .u64 t)).run Try.prog w = .ok () w' ∧ MapU w' b (n + 1) (setS s id t).L ∧ w.grownBy w' (some b) := by
  obtain ⟨w', hr, hm, hg⟩ := h.put hok.als.2 (a := ⟨id, t⟩) ⟨hid, ht⟩ hn
  have h2 := (setS_ok hok hid (bd_u64 ht).1 htM).als.2
  exact ⟨w', hr, hm.perm (ins_perm2 _ _) (((ins_perm2 _ _).pairwise_iff (fun {x y} q => Ne.symm q)).2 h2), hg⟩
/-- A look-up without 'ok'. -/
theorem MapU.look1 {w : World} {b n : Nat} {L : List Al} (h : MapU w b n L) {id : Int} (hd : (Lit.int .u64 id).wf = true) : (Instr.lookup 52 (.map (some b)) (.int .u64 id) false).run Try.prog w = .ok (.int .u64 (atA L id)) w := by
  obtain ⟨D, ho, hs, hf, -⟩ := h.own
  obtain ⟨v, ps, hr, hv⟩ := ho.lookup id_keyed Try.underlying52 (zero23 w) (uElem_mk 0) (id_key hd)
  obtain ⟨x, rfl, hz⟩ := uElem_inv hv
  injection hz with hz _
  rw [(hf id hd).2] at hz
  have : x = atA L id := by
    unfold atA
    cases hx : findA L id with
    | none => rw [hx] at hz; injection hz with hz; injection hz with _ hz; exact hz.symm
    | some g => rw [hx] at hz; injection hz with hz; injection hz with _ hz; exact hz.symm
  rw [← this]
  exact hr
/-- How often each id was told. -/
def MapC (w : World) (b n : Nat) (f : Int → Int) : Prop :=
  ∃ D : DataW Unit, w.ownsMap Try.prog 23 (plainElem Try.prog 3) b n D ∧ ∀ t : Int, (Lit.int .u64 t).wf = true → D.atKey (.int .u64 t) (.lit (.int .i64 0)) = .lit (.int .i64 (f t))
theorem zero3i (w : World) : (zeroValue 3).run Try.prog w = .ok (.int .i64 0) w := by
  have h : Try.t3.zero = some (.int .i64 0) := by kernel_rfl
  simp [zeroValue, h]
theorem MapC.look {w : World} {b n : Nat} {f : Int → Int} (h : MapC w b n f) {t : Int} (ht : (Lit.int .u64 t).wf = true) : (Instr.lookup 57 (.map (some b)) (.int .u64 t) false).run Try.prog w = .ok (.int .i64 (f t)) w := by
  obtain ⟨D, ho, hf⟩ := h
  obtain ⟨c, hr, hc, hw⟩ := ho.lookup_int id_keyed Try.underlying57 Try.underlying3 (zero3i w) (id_key ht)
  rw [hf t ht] at hc
  injection hc with hc
  injection hc with _ hc
  subst hc
  exact hr
theorem MapC.store {w : World} {b n : Nat} {f : Int → Int} (h : MapC w b n f) {t : Int} (ht : (Lit.int .u64 t).wf = true) {x : Int} (hx : (Lit.int .i64 x).wf = true) (hn : n < maxLen) :
    ∃ w', (Instr.mapUpdate 57 (.map (some b)) (.int .u64 t) (.int .i64 x)).run Try.prog w = .ok () w' ∧ MapC w' b (n + 1) (fun y => if y = t then x else f y) ∧ w.grownBy w' (some b) := by
  obtain ⟨D, ho, hf⟩ := h
  obtain ⟨w', hr, ho', ht'⟩ := ho.store id_keyed Try.underlying57 hn (id_key ht) (plainElem_int Try.underlying3 hx)
  refine ⟨w', hr, ⟨_, ho', fun y hy => ?_⟩, ht'.grown⟩
  by_cases e : y = t
  · subst e
    rw [Maps.atKey_put_same ho.isMap (id_keyed.key (id_key hy))]
    simp
  · rw [Maps.atKey_put_other (id_ne e), hf y hy]
    simp [e]
theorem MapC.keptE {w w' : World} {b n : Nat} {f : Int → Int} (h : MapC w b n f) (e : w'.heap[b]? = w.heap[b]?) : MapC w' b n f := by
  obtain ⟨D, ⟨es, clock, hb, F, hs, hD⟩, hf⟩ := h
  exact ⟨D, ⟨es, clock, e.trans hb, F, hs, hD⟩, hf⟩
theorem MapC.lt {w : World} {b n : Nat} {f : Int → Int} (h : MapC w b n f) : b < w.heap.size := by
  obtain ⟨D, ho, hf⟩ := h
  exact ho.lt
theorem MapC.isMap {w : World} {b n : Nat} {f : Int → Int} (h : MapC w b n f) : ∃ es ck, w.heap[b]? = some (.map es ck) := by
  obtain ⟨D, ⟨es, clock, hb, F, hs, hD⟩, hf⟩ := h
  exact ⟨es, clock, hb⟩
theorem MapC.made (w : World) : MapC (w.alloc (.map #[] 0)) w.heap.size 0 (fun _ => 0) := ⟨.map [], World.ownsMap_made w _ _ _, fun t ht => rfl⟩
theorem MapC.up {w : World} {b n m : Nat} {f : Int → Int} (h : MapC w b n f) (hm : n ≤ m) : MapC w b m f := by
  obtain ⟨D, ⟨es, ck, h3, h4, h5, h6⟩, h7⟩ := h
  exact ⟨D, ⟨es, ck, h3, h4, Nat.le_trans h5 hm, h6⟩, h7⟩
/-- What a tick tells of a sorted row is its head, what it leaves its tail. -/
theorem due_split : ∀ {K : List Al} (hs : K.Pairwise ltF) (now : Int), dueL K now ++ (K.filter fun a => decide (now < a.t)) = K
  | [], _, _ => rfl
  | a :: K, hs, now => by
    have h1 := due_split (List.Pairwise.of_cons hs) now
    unfold dueL at h1 ⊢
    by_cases q : a.t ≤ now
    · have q2 : ¬ now < a.t := by omega
      simp only [List.filter_cons, q, q2, decide_true, decide_false, if_true, Bool.false_eq_true, if_false, List.cons_append, h1]
    · have q2 : now < a.t := by omega
      have hall : ∀ z ∈ K, now < z.t := fun z hz => by
        have := List.rel_of_pairwise_cons hs hz
        unfold ltF at this
        omega
      have e1 : (K.filter fun a => decide (a.t ≤ now)) = [] := List.filter_eq_nil_iff.2 fun z hz => by have := hall z hz; simp; omega
      have e2 : (K.filter fun a => decide (now < a.t)) = K := List.filter_eq_self.2 fun z hz => by have := hall z hz; simp; omega
      simp only [List.filter_cons, q, q2, decide_true, decide_false, if_true, Bool.false_eq_true, if_false, e1, e2, List.nil_append]
/-- The places of the two wheels and the map. -/
structure OcG (w : World) (g1 b1 g2 b2 b0 : Nat) : Prop where
  l1 : w.heap.size ≤ g1
  l2 : w.heap.size ≤ b1
  l3 : w.heap.size ≤ g2
  l4 : w.heap.size ≤ b2
  l5 : w.heap.size ≤ b0
  g12 : g1 ≠ g2
  b12 : b1 ≠ b2
  b01 : b0 ≠ b1
  b02 : b0 ≠ b2
/-- Two wheels and the map of what was asked. -/
structure Oc (w : World) (g1 b1 g2 b2 b0 n1 n2 n0 : Nat) (s1 s2 : WS) (L : List Al) (W : World) : Prop where
  bel : Below w.heap.size w W
  w1 : Wh W g1 b1 n1 s1
  w2 : Wh W g2 b2 n2 s2
  mp : MapU W b0 n0 L
theorem Wh.map_ne {W : World} {g b n b0 n0 : Nat} {s : WS} {L : List Al} (h : Wh W g b n s) (hm : MapU W b0 n0 L) : b0 ≠ g := by
  obtain ⟨cs, h1, _⟩ := h.heap
  obtain ⟨es, ck, h2⟩ := hm.isMap
  intro e
  rw [e, h1] at h2
  cases h2
theorem Oc.below {w W W' : World} {g1 b1 g2 b2 b0 n1 n2 n0 : Nat} {s1 s2 : WS} {L : List Al} (h : Oc w g1 b1 g2 b2 b0 n1 n2 n0 s1 s2 L W) (hb : Below W.heap.size W W') : Oc w g1 b1 g2 b2 b0 n1 n2 n0 s1 s2 L W' :=
  ⟨h.bel.trans (hb.mono h.bel.size), h.w1.below hb, h.w2.below hb, h.mp.below hb⟩
theorem Oc.t1 {w W W' : World} {g1 b1 g2 b2 b0 n1 n2 n0 m : Nat} {s1 s2 s' : WS} {L : List Al} (h : Oc w g1 b1 g2 b2 b0 n1 n2 n0 s1 s2 L W) (G : OcG w g1 b1 g2 b2 b0) (hw : Wh W' g1 b1 m s') (ht : Turns (Two g1 b1) W W') : Oc w g1 b1 g2 b2 b0 m n2 n0 s' s2 L W' :=
  ⟨below_turns h.bel ht G.l1 G.l2, hw, h.w2.other h.w1 (fun e => G.g12 e.symm) (fun e => G.b12 e.symm) ht, h.mp.keptE (ht.block _ h.mp.lt (by
    rintro (e | e)
    · exact h.w1.map_ne h.mp e
    · exact G.b01 e))⟩
theorem Oc.t2 {w W W' : World} {g1 b1 g2 b2 b0 n1 n2 n0 m : Nat} {s1 s2 s' : WS} {L : List Al} (h : Oc w g1 b1 g2 b2 b0 n1 n2 n0 s1 s2 L W) (G : OcG w g1 b1 g2 b2 b0) (hw : Wh W' g2 b2 m s') (ht : Turns (Two g2 b2) W W') : Oc w g1 b1 g2 b2 b0 n1 m n0 s1 s' L W' :=
  ⟨below_turns h.bel ht G.l3 G.l4, h.w1.other h.w2 G.g12 G.b12 ht, hw, h.mp.keptE (ht.block _ h.mp.lt (by
    rintro (e | e)
    · exact h.w2.map_ne h.mp e
    · exact G.b02 e))⟩
/-- A block that is no list of alarms, no ring and neither wheel's map grows. -/
theorem Wh.block {W W' : World} {g b n k : Nat} {s : WS} (h : Wh W g b n s) (hg : W.grownBy W' (some k)) (hk : b ≠ k) (hn : ¬ ∃ cs fr e, W.heap[k]? = some (.cells cs e fr) ∧ (e = 54 ∨ e = 66)) : Wh W' g b n s := by
  obtain ⟨cs, h1, _⟩ := h.heap
  refine h.keptE hg.size (hg.block g h.glt ?_) (hg.block b h.blt ?_) fun j hj ⟨cs2, fr, hc⟩ => hg.block j hj ?_
  · intro e
    injection e with e
    exact hn ⟨cs, _, _, by rw [← e]; exact h1, .inl rfl⟩
  · intro e
    injection e with e
    exact hk e
  · intro e
    injection e with e
    exact hn ⟨cs2, fr, _, by rw [← e]; exact hc, .inr rfl⟩
theorem no_cells {W : World} {k : Nat} (h : ∃ es ck, W.heap[k]? = some (.map es ck)) : ¬ ∃ cs fr e, W.heap[k]? = some (.cells cs e fr) ∧ (e = 54 ∨ e = 66) := by
  rintro ⟨cs, fr, e, h1, _⟩
  obtain ⟨es, ck, h2⟩ := h
  rw [h1] at h2
  cases h2
theorem Oc.put {w W W' : World} {g1 b1 g2 b2 b0 n1 n2 n0 m : Nat} {s1 s2 : WS} {L M : List Al} (h : Oc w g1 b1 g2 b2 b0 n1 n2 n0 s1 s2 L W) (G : OcG w g1 b1 g2 b2 b0) (hm : MapU W' b0 m M) (hg : W.grownBy W' (some b0)) : Oc w g1 b1 g2 b2 b0 n1 n2 m s1 s2 M W' :=
  ⟨grown_bel h.bel hg (fun k e => by injection e with e; rw [← e]; exact G.l5), h.w1.block hg (fun e => G.b01 e.symm) (no_cells h.mp.isMap), h.w2.block hg (fun e => G.b02 e.symm) (no_cells h.mp.isMap), hm⟩
/-- A block of another kind is written. -/
theorem Oc.else {w W W' : World} {g1 b1 g2 b2 b0 n1 n2 n0 k : Nat} {s1 s2 : WS} {L : List Al} (h : Oc w g1 b1 g2 b2 b0 n1 n2 n0 s1 s2 L W) (hg : W.grownBy W' (some k)) (hk : w.heap.size ≤ k) (k1 : b1 ≠ k) (k2 : b2 ≠ k) (k0 : b0 ≠ k) (hn : ¬ ∃ cs fr e, W.heap[k]? = some (.cells cs e fr) ∧ (e = 54 ∨ e = 66)) : Oc w g1 b1 g2 b2 b0 n1 n2 n0 s1 s2 L W' :=
  ⟨grown_bel h.bel hg (fun j e => by injection e with e; rw [← e]; exact hk), h.w1.block hg k1 hn, h.w2.block hg k2 hn, h.mp.keptE (hg.block _ h.mp.lt (fun e => by injection e with e; exact k0 e))⟩
/-- A row of ids of its own grows. -/
theorem Oc.grown {w W W' : World} {g1 b1 g2 b2 b0 n1 n2 n0 B n : Nat} {s1 s2 : WS} {L : List Al} {v : Value} {xs : List Value} (h : Oc w g1 b1 g2 b2 b0 n1 n2 n0 s1 s2 L W) (ho : W.ownsRow B 23 1 v n xs) (hB : w.heap.size ≤ B) (hg : W.grownBy W' v.ownBlock) : Oc w g1 b1 g2 b2 b0 n1 n2 n0 s1 s2 L W' :=
  ⟨grown_bel h.bel hg (fun k e => Nat.le_trans hB (ho.lt k e).1), h.w1.grown ho (by decide) (by decide) hg, h.w2.grown ho (by decide) (by decide) hg, h.mp.keptE (hg.block _ h.mp.lt (fun e => by
    obtain ⟨A, c, rfl⟩ := own_len ho
    obtain ⟨es, ck, hm⟩ := h.mp.isMap
    rcases ho.2 with ⟨h3, h4⟩ | ⟨g', cap', cur, h3, hb, hgc, q1, q2, q3, q4⟩
    · injection h3 with h3 _ _
      subst h3
      cases e
    · injection h3 with h3 _ _
      subst h3
      have e2 : g' = b0 := by
        have e3 : some g' = some b0 := e.symm ▸ rfl
        injection e3
      rw [e2, hm] at hgc
      cases hgc))⟩
/-- How often an id was told. -/
def ind (D : List Al) (x : Int) : Int := if x ∈ D.map Al.id then 1 else 0
theorem MapC.turns {W W' : World} {g b n b5 m : Nat} {s : WS} {f : Int → Int} (h : MapC W b5 m f) (hw : Wh W g b n s) (hb : b5 ≠ b) (ht : Turns (Two g b) W W') : MapC W' b5 m f :=
  h.keptE (ht.block _ h.lt (by
    rintro (e | e)
    · obtain ⟨cs, h1, _⟩ := hw.heap
      obtain ⟨es, ck, h2⟩ := h.isMap
      subst e
      rw [h1] at h2
      cases h2
    · exact hb e))
theorem MapC.below {W W' : World} {b5 m : Nat} {f : Int → Int} (h : MapC W b5 m f) (hb : Below W.heap.size W W') : MapC W' b5 m f := h.keptE (hb.block _ h.lt)
theorem MapC.grown {W W' : World} {b5 m B n : Nat} {f : Int → Int} {v : Value} {xs : List Value} (h : MapC W b5 m f) (ho : W.ownsRow B 23 1 v n xs) (hg : W.grownBy W' v.ownBlock) : MapC W' b5 m f :=
  h.keptE (hg.block _ h.lt (fun e => by
    obtain ⟨A, c, rfl⟩ := own_len ho
    obtain ⟨es, ck, hm⟩ := h.isMap
    rcases ho.2 with ⟨h3, h4⟩ | ⟨g', cap', cur, h3, hb, hgc, q1, q2, q3, q4⟩
    · injection h3 with h3 _ _
      subst h3
      cases e
    · injection h3 with h3 _ _
      subst h3
      have e2 : g' = b5 := by
        have e3 : some g' = some b5 := e.symm ▸ rfl
        injection e3
      rw [e2, hm] at hgc
      cases hgc))
/-- The ticks' loop. -/
structure Tk (w : World) (g1 b1 g2 b2 b0 b5 m B nT cT : Nat) (L D K : List Al) (now : Int) (AT : Option Addr) (W : World) : Prop where
  oc : Oc w g1 b1 g2 b2 b0 m m m ⟨now, K⟩ ⟨0, L⟩ L W
  tl : W.ownsRow B 23 1 (.slice AT nT cT) nT (rowU (D.map Al.id))
  sn : MapC W b5 nT (ind D)
  ln : D.length = nT
  cut : D ++ K = L
  early : ∀ a ∈ D, a.t ≤ now
structure TkG (w : World) (g1 b1 g2 b2 b0 b5 B : Nat) : Prop where
  l5 : w.heap.size ≤ b5
  lB : w.heap.size ≤ B
  k1 : b5 ≠ b1
  k2 : b5 ≠ b2
  k0 : b0 ≠ b5
theorem rowU_map (L : List Al) : (L.map Al.id).length = L.length := by simp
theorem us_at {W : World} {A : Option Addr} {E : List Al} (h : UsAt W A (E.map Al.id)) {j : Nat} {a : Al} (ha : E[j]? = some a) : ∃ b o, A = some ⟨b, o, none⟩ ∧ b < W.heap.size ∧ W.cell? ⟨b, o + j, none⟩ = some (.int .u64 a.id) := h j a.id (by rw [List.getElem?_map, ha]; rfl)
/-- No id twice. -/
theorem ind_new {L D K E K2 : List Al} (hL : L.Pairwise (fun a b => a.id ≠ b.id)) (hc : D ++ K = L) (hk : E ++ K2 = K) {j : Nat} {a : Al} (ha : E[j]? = some a) : ind (D ++ E.take j) a.id = 0 := by
  unfold ind
  refine if_neg fun hm => ?_
  rw [List.mem_map] at hm
  obtain ⟨z, hz, e⟩ := hm
  subst hk hc
  rw [List.pairwise_append] at hL
  obtain ⟨h1, h2, h3⟩ := hL
  have haE : a ∈ E := List.mem_of_getElem? ha
  rcases List.mem_append.1 hz with q | q
  · exact h3 z q a (List.mem_append_left _ haE) e
  · rw [List.pairwise_append] at h2
    have h4 := h2.1
    have hjl : j < E.length := (List.getElem?_eq_some_iff.1 ha).1
    have hs : E = E.take j ++ E.drop j := (List.take_append_drop j E).symm
    rw [hs, List.pairwise_append] at h4
    have had : a ∈ E.drop j := by
      rw [List.mem_iff_getElem?]
      exact ⟨0, by rw [List.getElem?_drop]; simpa using ha⟩
    exact h4.2.2 z q a had e
theorem ind_step {D E : List Al} {j : Nat} {a : Al} (ha : E[j]? = some a) : (fun y => if y = a.id then 1 else ind (D ++ E.take j) y) = ind (D ++ E.take (j + 1)) := by
  funext y
  rw [List.take_add_one, ha]
  unfold ind
  by_cases q : y = a.id
  · subst q
    simp
  · have : (y ∈ (D ++ (E.take j ++ (some a).toList)).map Al.id) ↔ y ∈ (D ++ E.take j).map Al.id := by
      simp only [List.map_append, List.mem_append, Option.toList_some, List.map_cons, List.map_nil, List.mem_singleton]
      constructor
      · rintro (h | h | h)
        · exact .inl h
        · exact .inr h
        · exact absurd h q
      · rintro (h | h)
        · exact .inl h
        · exact .inr (.inl h)
    simp only [q, if_false, this]
theorem srt_pair {L : List Al} (h : L.Pairwise ltF) {k : Nat} {p a : Al} (hp : L[k]? = some p) (ha : L[k + 1]? = some a) : ltF p a := by
  obtain ⟨h1, rfl⟩ := List.getElem?_eq_some_iff.1 hp
  obtain ⟨h2, rfl⟩ := List.getElem?_eq_some_iff.1 ha
  exact List.pairwise_iff_getElem.1 h k (k + 1) h1 h2 (by omega)
/-- Told, or still to come. -/
theorem told_or {L D K : List Al} (hL : L.Pairwise (fun a b => a.id ≠ b.id)) (hc : D ++ K = L) {f : Al} (hf : f ∈ L) : (f ∈ D ∧ ind D f.id = 1 ∧ findA K f.id = none) ∨ (f ∈ K ∧ ind D f.id = 0 ∧ findA K f.id = some f) := by
  subst hc
  rw [List.pairwise_append] at hL
  obtain ⟨h1, h2, h3⟩ := hL
  rcases List.mem_append.1 hf with q | q
  · refine .inl ⟨q, if_pos (List.mem_map_of_mem q), ?_⟩
    cases hk : findA K f.id with
    | none => rfl
    | some z =>
      obtain ⟨hz, e⟩ := findA_some hk
      exact absurd e.symm (h3 f q z hz)
  · refine .inr ⟨q, if_neg fun hm => ?_, findA_mem h2 q⟩
    rw [List.mem_map] at hm
    obtain ⟨z, hz, e⟩ := hm
    exact h3 z hz f q e
theorem told_all {L D K : List Al} {now : Int} (hc : D ++ K = L) (h1 : ∀ a ∈ D, a.t ≤ now) (h2 : ∀ a ∈ K, now < a.t) : dueL L now = D := by
  subst hc
  unfold dueL
  rw [List.filter_append, List.filter_eq_self.2 (fun a ha => by simpa using h1 a ha), List.filter_eq_nil_iff.2 (fun a ha => by have := h2 a ha; simp; omega), List.append_nil]
theorem own_map {W W' : World} {B e z n c m b : Nat} {A : Option Addr} {xs : List Value} (ho : W.ownsRow B e z (.slice A n c) m xs) (hm : ∃ es ck, W.heap[b]? = some (.map es ck)) (hg : W.grownBy W' (some b)) : W'.ownsRow B e z (.slice A n c) m xs :=
  row_keptE ho fun k ek => hg.block k (row_lt ho ek).1 (fun q => by
    injection q with q
    obtain ⟨_, cs, fr, hc⟩ := row_lt ho ek
    obtain ⟨es, ck, hm⟩ := hm
    subst q
    rw [hm] at hc
    cases hc)
/-- A look-up in a quiet walk. -/
theorem wpQuiet_look {P : Program} {C : World → Prop} {ops : Array Oper} {rest : List Oper} {o : Oper} {a : Act} {Q : Act → Prop} (t : TypeId) (m k : Operand) (ho : o.op = .lookup t m k false) (hw : Region.wanted o (yielded ops a.tmps) = true) (v : Value)
    (hr : ∀ W, C W → (Instr.lookup t (a.eval m) (a.eval k) false).run P W = .ok v W) (h : wpQuiet P ops C Q rest (a.put o.dst v)) : wpQuiet P ops C Q (o :: rest) a :=
  wpQuiet_step fun K hK => by
    rw [if_pos hw]
    refine ⟨v, fun W hW => ?_, hK _ h⟩
    unfold Oper.quietAt execOp
    simp only [ho, Sem.run_bind, Sem.run_pure, Result.andThen_ok, hr W hW]
    exact ⟨rfl, rfl⟩
end Go.Proofs.Ytdebaoimhijnkaa
