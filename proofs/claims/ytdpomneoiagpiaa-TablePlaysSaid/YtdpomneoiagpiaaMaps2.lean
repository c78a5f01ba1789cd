/- Two maps more: by tuples to int; by ids to int, as a set. -/
import Derived.Test.YtdpomneoiagpiaaActs
set_option linter.unusedVariables false
namespace Go.Proofs.Ytdpomneoiagpiaa
open Go.RowKit Go.Deep Go.BigFrame
/-- A map by tuples, to int, as a function: 0 where nothing stands. -/
def MapT (w : World) (b n : Nat) (f : Tup → Int) : Prop :=
  ∃ D : DataW Unit, w.ownsMap Try.prog 33 (plainElem Try.prog 3) b n D ∧ ∀ t : Tup, t.Ok → D.atKey (key t) (.lit (.int .i64 0)) = .lit (.int .i64 (f t))
theorem zero3 (w : World) : (zeroValue 3).run Try.prog w = .ok (.int .i64 0) w := by
  have h : Try.t3.zero = some (.int .i64 0) := by kernel_rfl
  simp [zeroValue, h]
theorem MapT.look {w : World} {b n : Nat} {f : Tup → Int} (h : MapT w b n f) {t : Tup} (ht : t.Ok) : (Instr.lookup 52 (.map (some b)) t.val false).run Try.prog w = .ok (.int .i64 (f t)) w ∧ (Lit.int .i64 (f t)).wf = true := by
  obtain ⟨D, ho, hf⟩ := h
  obtain ⟨c, hr, hc, hw⟩ := ho.lookup_int tup_keyed Try.underlying52 Try.underlying3 (zero3 w) (key_of ht)
  rw [hf t ht] at hc
  injection hc with hc
  injection hc with _ hc
  subst hc
  exact ⟨hr, hw⟩
theorem MapT.store {w : World} {b n : Nat} {f : Tup → Int} (h : MapT w b n f) {t : Tup} (ht : t.Ok) {x : Int} (hx : (Lit.int .i64 x).wf = true) (hn : n < maxLen) :
    ∃ w', (Instr.mapUpdate 52 (.map (some b)) t.val (.int .i64 x)).run Try.prog w = .ok () w' ∧ MapT w' b (n + 1) (fun y => if y = t then x else f y) ∧ w.grownBy w' (some b) := by
  obtain ⟨D, ho, hf⟩ := h
  obtain ⟨w', hr, ho', ht'⟩ := ho.store tup_keyed Try.underlying52 hn (key_of ht) (plainElem_int Try.underlying3 hx)
  refine ⟨w', hr, ⟨_, ho', fun y hy => ?_⟩, ht'.grown⟩
  by_cases e : y = t
  · subst e
    rw [Maps.atKey_put_same ho.isMap (tup_keyed.key (key_of hy))]
    simp
  · rw [Maps.atKey_put_other (key_ne ht hy e), hf y hy]
    simp [e]
theorem MapT.drop {w : World} {b n : Nat} {f : Tup → Int} (h : MapT w b n f) {t : Tup} (ht : t.Ok) (ty : TypeId) :
    ∃ w', (Builtin.delete_ #[52, 33] ty #[.map (some b), t.val]).run Try.prog w = .ok (.tuple #[]) w' ∧ MapT w' b n (fun y => if y = t then 0 else f y) ∧ w.grownBy w' (some b) := by
  obtain ⟨D, ho, hf⟩ := h
  obtain ⟨w', hr, ho', ht'⟩ := ho.drop tup_keyed Try.underlying52 (key_of ht) ty
  refine ⟨w', hr, ⟨_, ho', fun y hy => ?_⟩, ht'.grown⟩
  by_cases e : y = t
  · subst e
    rw [Maps.atKey_del_same]
    simp
  · rw [Maps.atKey_del_other (key_ne ht hy e), hf y hy]
    simp [e]
theorem MapT.kept {w w' : World} {b n : Nat} {f : Tup → Int} {r : Option Nat} (h : MapT w b n f) (hg : w.grownBy w' r) (hne : some b ≠ r) : MapT w' b n f := by
  obtain ⟨D, ho, hf⟩ := h
  exact ⟨D, ho.kept hg hne, hf⟩
theorem MapT.keptE {w w' : World} {b n : Nat} {f : Tup → Int} (h : MapT w b n f) (e : w'.heap[b]? = w.heap[b]?) : MapT w' b n f := by
  obtain ⟨D, ⟨es, clock, hb, F, hs, hD⟩, hf⟩ := h
  exact ⟨D, ⟨es, clock, e.trans hb, F, hs, hD⟩, hf⟩
theorem MapT.made (w : World) : MapT (w.alloc (.map #[] 0)) w.heap.size 0 (fun _ => 0) := ⟨.map [], World.ownsMap_made w _ _ _, fun t ht => rfl⟩
theorem MapT.isMap {w : World} {b n : Nat} {f : Tup → Int} (h : MapT w b n f) : ∃ es ck, w.heap[b]? = some (.map es ck) := by
  obtain ⟨D, ⟨es, ck, hm, _⟩, _⟩ := h
  exact ⟨es, ck, hm⟩
theorem MapT.congr {w : World} {b n : Nat} {f f' : Tup → Int} (h : MapT w b n f) (e : ∀ t : Tup, t.Ok → f t = f' t) : MapT w b n f' := by
  obtain ⟨D, ho, hf⟩ := h
  exact ⟨D, ho, fun t ht => by rw [← e t ht]; exact hf t ht⟩
theorem id_keyed : Maps.Keyed Try.prog 27 := Maps.int_keyed Try.underlying27
/-- A set of ids: 1 stands at each. -/
def MapR (w : World) (b n : Nat) (R : Int → Bool) (cnt : Nat) : Prop :=
  ∃ D : DataW Unit, w.ownsMap Try.prog 27 (plainElem Try.prog 3) b n D ∧ Maps.size D = cnt ∧ ∀ id : Int, (Lit.int .u64 id).wf = true → Maps.has D (.int .u64 id) = R id ∧ ∀ z, D.atKey (.int .u64 id) z = if R id then .lit (.int .i64 1) else z
theorem MapR.look {w : World} {b n cnt : Nat} {R : Int → Bool} (h : MapR w b n R cnt) {id : Int} (ht : (Lit.int .u64 id).wf = true) : (Instr.lookup 47 (.map (some b)) (.int .u64 id) false).run Try.prog w = .ok (.int .i64 (if R id then 1 else 0)) w := by
  obtain ⟨D, ho, hc, hf⟩ := h
  obtain ⟨c, hr, hx, hw⟩ := ho.lookup_int id_keyed Try.underlying47 Try.underlying3 (zero3 w) (Maps.keyOf_int_mk Try.underlying27 ht)
  rw [(hf id ht).2] at hx
  cases hR : R id with
  | true =>
    rw [hR] at hx
    simp at hx
    subst hx
    simpa using hr
  | false =>
    rw [hR] at hx
    simp at hx
    subst hx
    simpa using hr
theorem MapR.len {w : World} {b n cnt : Nat} {R : Int → Bool} (h : MapR w b n R cnt) (ty : TypeId) : (Builtin.len_ #[47] ty #[.map (some b)]).run Try.prog w = .ok (.int .i64 cnt) w := by
  obtain ⟨D, ho, hc, hf⟩ := h
  rw [← hc]
  exact ho.len Try.underlying47 ty
theorem MapR.store {w : World} {b n cnt : Nat} {R : Int → Bool} (h : MapR w b n R cnt) {id : Int} (ht : (Lit.int .u64 id).wf = true) (hn : n < maxLen) :
    ∃ w', (Instr.mapUpdate 47 (.map (some b)) (.int .u64 id) (.int .i64 1)).run Try.prog w = .ok () w' ∧ MapR w' b (n + 1) (fun y => if y = id then true else R y) (if R id then cnt else cnt + 1) ∧ w.grownBy w' (some b) := by
  obtain ⟨D, ho, hc, hf⟩ := h
  have hk := Maps.keyOf_int_mk (P := Try.prog) Try.underlying27 ht
  obtain ⟨w', hr, ho', ht'⟩ := ho.store id_keyed Try.underlying47 hn hk (plainElem_int (q := .i64) Try.underlying3 (a := 1) (by decide))
  refine ⟨w', hr, ⟨_, ho', ?_, fun y hy => ?_⟩, ht'.grown⟩
  · rw [Maps.size_put (ho.tidy id_keyed), (hf id ht).1, hc]
  · by_cases e : y = id
    · subst e
      refine ⟨by rw [Maps.has_put_same ho.isMap (id_keyed.key hk)]; simp, fun z => ?_⟩
      rw [Maps.atKey_put_same ho.isMap (id_keyed.key hk)]
      simp
    · have hne : Lit.int .u64 y ≠ Lit.int .u64 id := fun q => e (by injection q)
      refine ⟨by rw [Maps.has_put_other hne, (hf y hy).1]; simp [e], fun z => ?_⟩
      rw [Maps.atKey_put_other hne, (hf y hy).2]
      simp [e]
theorem MapR.drop {w : World} {b n cnt : Nat} {R : Int → Bool} (h : MapR w b n R cnt) {id : Int} (ht : (Lit.int .u64 id).wf = true) (ty : TypeId) :
    ∃ w', (Builtin.delete_ #[47, 27] ty #[.map (some b), .int .u64 id]).run Try.prog w = .ok (.tuple #[]) w' ∧ MapR w' b n (fun y => if y = id then false else R y) (if R id then cnt - 1 else cnt) ∧ w.grownBy w' (some b) := by
  obtain ⟨D, ho, hc, hf⟩ := h
  have hk := Maps.keyOf_int_mk (P := Try.prog) Try.underlying27 ht
  obtain ⟨w', hr, ho', ht'⟩ := ho.drop id_keyed Try.underlying47 hk ty
  refine ⟨w', hr, ⟨_, ho', ?_, fun y hy => ?_⟩, ht'.grown⟩
  · have := Maps.size_del (k := .int .u64 id) (ho.tidy id_keyed)
    rw [(hf id ht).1, hc] at this
    split at this <;> simp_all <;> omega
  · by_cases e : y = id
    · subst e
      refine ⟨by rw [Maps.has_del_same]; simp, fun z => ?_⟩
      rw [Maps.atKey_del_same]
      simp
    · have hne : Lit.int .u64 y ≠ Lit.int .u64 id := fun q => e (by injection q)
      refine ⟨by rw [Maps.has_del_other hne, (hf y hy).1]; simp [e], fun z => ?_⟩
      rw [Maps.atKey_del_other hne, (hf y hy).2]
      simp [e]
theorem MapR.keptE {w w' : World} {b n cnt : Nat} {R : Int → Bool} (h : MapR w b n R cnt) (e : w'.heap[b]? = w.heap[b]?) : MapR w' b n R cnt := by
  obtain ⟨D, ⟨es, clock, hb, F, hs, hD⟩, hf⟩ := h
  exact ⟨D, ⟨es, clock, e.trans hb, F, hs, hD⟩, hf⟩
theorem MapR.lt {w : World} {b n cnt : Nat} {R : Int → Bool} (h : MapR w b n R cnt) : b < w.heap.size := by
  obtain ⟨D, ho, hf⟩ := h
  exact ho.lt
theorem MapR.isMap {w : World} {b n cnt : Nat} {R : Int → Bool} (h : MapR w b n R cnt) : ∃ es ck, w.heap[b]? = some (.map es ck) := by
  obtain ⟨D, ⟨es, ck, hm, _⟩, _⟩ := h
  exact ⟨es, ck, hm⟩
theorem MapR.made (w : World) : MapR (w.alloc (.map #[] 0)) w.heap.size 0 (fun _ => false) 0 := ⟨.map [], World.ownsMap_made w _ _ _, rfl, fun id ht => ⟨rfl, fun z => rfl⟩⟩
end Go.Proofs.Ytdpomneoiagpiaa
