/- The document's wheel: At, Next, Stop, Same. -/
import Derived.Test.YtdebaoimhijnkaaSmall
import Derived.Test.YtdebaoimhijnkaaSet
import Derived.Test.YtdebaoimhijnkaaTkLaw
set_option linter.unusedVariables false
namespace Go.Proofs.Ytdebaoimhijnkaa
open Go.RowKit Go.Deep Go.BigFrame
attribute [local go_sem ↓] Go.wp_at_zero Go.wp_at_succ
set_option maxHeartbeats 3200000
set_option maxRecDepth 100000
structure Rw (w : World) (r : Nat) (s : WS) : Prop where
  heap : ∃ A c, w.heap[r]? = some (.cells #[.int .u64 s.now, .slice A s.L.length c] 29 (0, 0)) ∧ AlsAt 68 w A s.L ∧ s.L.length ≤ c
def One (r : Nat) : Nat → Prop := fun k => k = r
theorem Rw.lt {w : World} {r : Nat} {s : WS} (h : Rw w r s) : r < w.heap.size := by
  obtain ⟨A, c, h1, _⟩ := h.heap
  exact (Array.getElem?_eq_some_iff.1 h1).1
theorem Rw.keptE {w w' : World} {r : Nat} {s : WS} (h : Rw w r s) (hs : w.heap.size ≤ w'.heap.size) (er : w'.heap[r]? = w.heap[r]?)
    (k : ∀ b, b < w.heap.size → (∃ cs fr, w.heap[b]? = some (.cells cs 68 fr)) → w'.heap[b]? = w.heap[b]?) : Rw w' r s := by
  obtain ⟨A, c, h1, h2, h3⟩ := h.heap
  exact ⟨A, c, er.trans h1, h2.keptE hs k, h3⟩
theorem Rw.below {w w' : World} {r : Nat} {s : WS} (h : Rw w r s) (hb : Below w.heap.size w w') : Rw w' r s :=
  h.keptE hb.size (hb.block _ h.lt) fun k hk _ => hb.block k hk
/-- A wheel of the program's turns: the document's stays. -/
theorem Rw.other {w w' : World} {r g b nn : Nat} {s t : WS} (h : Rw w r s) (hw : Wh w g b nn t) (ht : Turns (Two g b) w w') : Rw w' r s := by
  obtain ⟨A, c, h1, h2, h3⟩ := h.heap
  obtain ⟨cs, g1, _⟩ := hw.heap
  obtain ⟨es, ck, b1⟩ := hw.map.isMap
  refine h.keptE ht.size (ht.block r h.lt ?_) fun k hk ⟨cs2, fr, hc⟩ => ht.block k hk ?_
  · rintro (e | e)
    · subst e; rw [g1] at h1; injection h1 with h1; injection h1 with _ h1 _; cases h1
    · subst e; rw [b1] at h1; cases h1
  · rintro (e | e)
    · subst e; rw [g1] at hc; injection hc with hc; injection hc with _ hc _; cases hc
    · subst e; rw [b1] at hc; cases hc
/-- The document's wheel turns: a wheel of the program's stays. -/
theorem Wh.ref {w w' : World} {r g b nn : Nat} {s t : WS} (h : Rw w r s) (hw : Wh w g b nn t) (ht : Turns (One r) w w') : Wh w' g b nn t := by
  obtain ⟨A, c, h1, h2, h3⟩ := h.heap
  obtain ⟨cs, g1, _⟩ := hw.heap
  obtain ⟨es, ck, b1⟩ := hw.map.isMap
  refine hw.keptE ht.size (ht.block g hw.glt ?_) (ht.block b hw.blt ?_) fun k hk ⟨cs2, fr, hc⟩ => ht.block k hk ?_
  · intro e
    have e : g = r := e
    subst e; rw [g1] at h1; injection h1 with h1; injection h1 with _ h1 _; cases h1
  · intro e
    have e : b = r := e
    subst e; rw [b1] at h1; cases h1
  · intro e
    have e : k = r := e
    subst e; rw [h1] at hc; injection hc with hc; injection hc with _ hc _; cases hc
theorem rnext_any {w : World} {r : Nat} {s : WS} (h : Rw w r s) : Calls Try.prog 18 #[.pointer (some ⟨r, 0, none⟩)] w fun e w' => e = .returned (.tuple #[.int .u64 (nextF s), .bool (!s.L.isEmpty)]) ∧ w = w' := by
  obtain ⟨A, c, h1, h2, h3⟩ := h.heap
  have c1 : w.cell? ⟨r, 1, none⟩ = some (.slice A s.L.length c) := cell_of h1 1
  cases hs : s.L with
  | nil =>
    have e1 : nextF s = 0 := by unfold nextF; rw [hs]; rfl
    rw [e1]
    rw [hs] at c1
    simp only [List.isEmpty_nil, Bool.not_true, List.length_nil] at c1 ⊢
    clear h h1 h2 h3 hs e1
    go_enter Try.func18, Try.ntmps18
    go_wp2_with fail
    go_ret2
    exact ⟨rfl, rfl⟩
  | cons a q =>
    have e1 : nextF s = a.t := by unfold nextF; rw [hs]; rfl
    rw [e1]
    obtain ⟨b, o, rfl, k0, k1⟩ := h2.2 0 a (by rw [hs]; rfl)
    simp only [Nat.zero_mul, Nat.add_zero] at k0 k1
    obtain ⟨n, hn⟩ : ∃ n, s.L.length = n := ⟨_, rfl⟩
    have hn0 : 0 < n := by rw [← hn, hs]; simp
    have hn1 : ((n : Int) == 0) = false := by simp; omega
    rw [hn] at c1
    simp only [List.isEmpty_cons, Bool.not_false]
    clear h h1 h2 h3 hs e1 hn
    go_enter Try.func18, Try.ntmps18
    go_wp2_with fail
    go_ret2
    exact ⟨rfl, rfl⟩
theorem rat_any {w : World} {r : Nat} {s : WS} (h : Rw w r s) (hl : s.L.length ≤ 1000) (id : Int) : Calls Try.prog 20 #[.pointer (some ⟨r, 0, none⟩), .int .u64 id] w fun e w' => e = .returned (.tuple #[.int .u64 (atA s.L id), .bool (findA s.L id).isSome]) ∧ w = w' := by
  obtain ⟨A, c, h1, h2, h3⟩ := h.heap
  have c1 : w.cell? ⟨r, 1, none⟩ = some (.slice A s.L.length c) := cell_of h1 1
  obtain ⟨n, hn⟩ : ∃ n, s.L.length = n := ⟨_, rfl⟩
  rw [hn] at c1 hl
  have HL := Lib.hid (And.intro h2 hn)
  clear h h1 h2 h3 hn
  go_enter Try.func20, Try.ntmps20
  go_wp2_with fail
  go_loop [6] (fun v6 => ∃ i : Nat, v6 = .int .i64 i ∧ i ≤ n ∧ Hid (∀ j z, j < i → s.L[j]? = some z → z.id ≠ id)) (fun v6 => n - (intOf v6).toNat)
  case atStart => exact ⟨0, rfl, Nat.zero_le _, Lib.hid (fun j z hj => by omega)⟩
  case round =>
    obtain ⟨i, rfl, hi, hno⟩ := hrel
    by_cases hlt : i < n
    · obtain ⟨a, ha⟩ : ∃ a, s.L[i]? = some a := ⟨_, List.getElem?_eq_getElem (by rw [HL.out.2]; exact hlt)⟩
      obtain ⟨b, o, rfl, k0, k1⟩ := HL.out.1.2 i a ha
      have HA := Lib.hid ha
      clear ha
      by_cases he : a.id = id
      · have t1 : (a.id == id) = true := by simpa using he
        have HE := Lib.hid he
        clear he
        go_wp2_with fail
        go_ret2
        have hf : findA s.L id = some a := by
          unfold findA
          rw [List.find?_eq_some_iff_getElem]
          obtain ⟨l1, r1⟩ := List.getElem?_eq_some_iff.1 HA.out
          refine ⟨by simpa using HE.out, i, l1, r1, fun j hj => ?_⟩
          simpa using hno.out j _ hj (List.getElem?_eq_getElem (by omega))
        unfold atA
        rw [hf]
        exact ⟨rfl, rfl⟩
      · have t1 : (a.id == id) = false := by simpa using he
        have HE := Lib.hid he
        clear he
        go_wp2_with fail
        go_round
        case rel =>
          refine ⟨i + 1, by simp, by omega, Lib.hid (fun j z hj hz => ?_)⟩
          rcases Nat.lt_or_ge j i with q | q
          · exact hno.out j z q hz
          · obtain rfl : j = i := by omega
            rw [HA.out] at hz
            injection hz with hz
            rw [← hz]
            exact HE.out
        case measure => simp [intOf]; omega
    · obtain rfl : i = n := by omega
      go_wp2_with fail
      go_ret2
      have hf : findA s.L id = none := by
        unfold findA
        rw [List.find?_eq_none]
        intro z hz
        obtain ⟨j, hj⟩ := List.getElem?_of_mem hz
        simpa using hno.out j z (by have := (List.getElem?_eq_some_iff.1 hj).1; rw [HL.out.2] at this; exact this) hj
      unfold atA
      rw [hf]
      exact ⟨rfl, rfl⟩
theorem same_any {w : World} (A A2 : Option Addr) (c c2 n : Nat) (L : List Int) (hn : L.length = n) (hm : n ≤ 100000) (h1 : UsAt w A L) (h2 : UsAt w A2 L) :
    Calls Try.prog 15 #[.slice A n c, .slice A2 n c2] w fun e w' => e = .returned (.bool true) ∧ Below w.heap.size w w' := by
  have HL := Lib.hid (And.intro hn (And.intro h1 h2))
  clear hn h1 h2
  go_enter Try.func15, Try.ntmps15
  go_wp2_with fail
  go_loopw [5] (fun v5 wr => ∃ i : Nat, v5 = .int .i64 i ∧ i ≤ n ∧ Hid (Below w.heap.size w wr)) (fun v5 _ => n - (intOf v5).toNat)
  case atStart => exact ⟨0, rfl, Nat.zero_le _, Lib.hid (Below.refl _ _)⟩
  case round =>
    obtain ⟨i, rfl, hi, hB⟩ := hrel
    by_cases hlt : i < n
    · obtain ⟨x, hx⟩ : ∃ x, L[i]? = some x := ⟨_, List.getElem?_eq_getElem (by rw [HL.out.1]; exact hlt)⟩
      obtain ⟨b, o, rfl, _, k0⟩ := (HL.out.2.1.below hB.out) i x hx
      obtain ⟨b', o', rfl, _, k1⟩ := (HL.out.2.2.below hB.out) i x hx
      have t1 : (x != x) = false := by simp
      clear hx
      go_wp2_with fail
      go_quiet (fail)
      go_wp2_with fail
      go_roundw
      case rel => exact ⟨i + 1, by simp, by omega, Lib.hid (below_drewN hB.out _)⟩
      case measure => simp [intOf]; omega
    · obtain rfl : i = n := by omega
      go_wp2_with fail
      go_ret
      exact ⟨rfl, hB.out⟩
theorem drop_take {L : List Al} {id : Int} {i : Nat} {a : Al} (h : L[i]? = some a) : dropA (L.take (i + 1)) id = dropA (L.take i) id ++ (if a.id = id then [] else [a]) := by
  unfold dropA
  rw [List.take_add_one, h, List.filter_append]
  congr 1
  by_cases q : a.id = id <;> simp [q]
theorem rstop_any {w : World} {r : Nat} {s : WS} (h : Rw w r s) (hok : s.Ok) (hl : s.L.length ≤ 1000) (id : Int) :
    Calls Try.prog 12 #[.pointer (some ⟨r, 0, none⟩), .int .u64 id] w fun e w' => e = .returned (.int .i64 (if (findA s.L id).isSome then 0 else 6)) ∧ Rw w' r (takeS s id) ∧ Turns (One r) w w' := by
  obtain ⟨A, c, h1, h2, h3⟩ := h.heap
  obtain ⟨n, hn⟩ : ∃ n, s.L.length = n := ⟨_, rfl⟩
  rw [hn] at h1 hl h3
  have hrl := h.lt
  obtain ⟨rv, hrv⟩ : ∃ rv : Int, (if (findA s.L id).isSome then (0 : Int) else 6) = rv := ⟨_, rfl⟩
  rw [hrv]
  have HRV := Lib.hid hrv
  clear hrv
  have HL := Lib.hid (And.intro h2 (And.intro hn (And.intro h1 (And.intro h hok))))
  clear h h1 h2 hn hok
  go_enter Try.func12, Try.ntmps12
  go_wp2_with fail
  go_loopw [5, 6] (fun v5 v6 wr => ∃ (i : Nat) (A2 : Option Addr) (n2 c2 : Nat), v6 = .int .i64 i ∧ v5 = .slice A2 n2 c2 ∧ i ≤ n ∧ n2 ≤ i ∧ Hid ((dropA (s.L.take i) id).length = n2 ∧ wr.ownsRow w.heap.size 68 2 (.slice A2 n2 c2) n2 (row (dropA (s.L.take i) id)) ∧ Below w.heap.size w wr)) (fun _ v6 _ => n - (intOf v6).toNat)
  case atStart => exact ⟨0, none, 0, 0, rfl, rfl, Nat.zero_le _, Nat.le_refl _, Lib.hid ⟨by simp [dropA], World.ownsRow_nil _ _ _ _, Below.refl _ _⟩⟩
  case round =>
    obtain ⟨i, A2, n2, c2, rfl, rfl, hi, hn2, hR⟩ := hrel
    have hrr := (hR.out.2.2.block r hrl).trans HL.out.2.2.1
    have r1 : wr.cell? ⟨r, 1, none⟩ = some (.slice A n c) := cell_of hrr 1
    by_cases hlt : i < n
    · obtain ⟨a, ha⟩ : ∃ a, s.L[i]? = some a := ⟨_, List.getElem?_eq_getElem (by rw [HL.out.2.1]; exact hlt)⟩
      obtain ⟨b, o, rfl, k0, k1⟩ := (HL.out.1.below hR.out.2.2).2 i a ha
      have HA := Lib.hid ha
      clear ha hrr
      by_cases he : a.id = id
      · have t1 : (a.id != id) = false := by simpa using he
        have HE := Lib.hid he
        clear he
        go_wp2_with fail
        go_roundw
        case rel => exact ⟨i + 1, A2, n2, c2, by simp, rfl, by omega, by omega, Lib.hid (by rw [drop_take HA.out, if_pos HE.out, List.append_nil]; exact hR.out)⟩
        case measure => simp [intOf]; omega
      · have t1 : (a.id != id) = true := by simpa using he
        have HE := Lib.hid he
        obtain ⟨v2, V, a2, ow2, gv⟩ := app68 (wr.alloc (.cells a.arr 68)) w.heap.size (.slice A2 n2 c2) n2 (dropA (s.L.take i) id) (row_below hR.out.2.1 (bel_alloc _ _)) (some ⟨wr.heap.size, 0, none⟩) 1 1 [a] rfl (als_one (heap_alloc_new _ _)) (by rw [World.size_alloc]; have := hR.out.2.2.size; omega) (by omega)
        have hbV : Below w.heap.size w V := grown_bel (hR.out.2.2.trans ((bel_alloc _ _).mono hR.out.2.2.size)) gv (fun j e => (hR.out.2.1.lt j e).1)
        obtain ⟨A3, c3, rfl⟩ := own_len ow2
        have HA2 := Lib.hid a2
        unfold Al.arr at HA2
        have HV := Lib.hid (And.intro ow2 hbV)
        clear he a2 ow2 gv hbV
        go_wp2_with (at_builtin; refine Lib.wpList_append_run _ rfl _ _ 27 27 rfl _ _ rfl rfl _ _ (by exact HA2.out _) ?_)
        go_roundw
        case rel => exact ⟨i + 1, A3, n2 + 1, c3, by simp, rfl, by omega, by omega, Lib.hid (by rw [drop_take HA.out, if_neg HE.out]; exact ⟨by rw [List.length_append, hR.out.1]; rfl, HV.out⟩)⟩
        case measure => simp [intOf]; omega
    · obtain rfl : i = n := by omega
      have e1 : s.L.take i = s.L := List.take_of_length_le (by rw [HL.out.2.1]; exact Nat.le_refl _)
      have hR2 := hR.out
      rw [e1] at hR2
      have HR2 := Lib.hid hR2
      clear hR2 e1
      cases hf : findA s.L id with
      | none =>
        have hni : n2 = i := by
          have := HR2.out.1
          rw [drop_none hf, HL.out.2.1] at this
          exact this.symm
        subst hni
        have HFN := Lib.hid hf
        clear hrr hf
        go_wp2_with fail
        go_ret
        exact ⟨ret_int (by rw [← HRV.out, HFN.out]; rfl), by rw [takeS_none HFN.out]; exact HL.out.2.2.2.1.below HR2.out.2.2, Turns.of HR2.out.2.2⟩
      | some a =>
        have hni : n2 < i := by
          have h1 := HR2.out.1
          have h2 := drop_len HL.out.2.2.2.2.als.2 hf
          rw [h1, HL.out.2.1] at h2
          omega
        have t1 : ((n2 : Int) == (i : Int)) = false := by simp; omega
        have f1 : wr.frozen? ⟨r, 1, none⟩ = false := free_of hrr _
        have HF := Lib.hid (And.intro hrr hf)
        clear hrr hf
        go_wp2_with fail
        refine post_name fun W hW => ?_
        have hgr : wr.grownBy W (some r) := by rw [hW]; exact grown_setCell _ _ _ _
        have hrW : W.heap[r]? = some (.cells #[.int .u64 s.now, .slice A2 n2 c2] 29 (0, 0)) := by rw [hW]; exact heap_set HF.out.1 _
        have HW := Lib.hid (And.intro hgr hrW)
        clear hW hgr hrW
        go_ret
        obtain ⟨hgr, hrW⟩ := HW.out
        have how : W.ownsRow w.heap.size 68 2 (.slice A2 n2 c2) n2 (row (dropA s.L id)) := row_keptE HR2.out.2.1 (fun j e => hgr.block j (row_lt HR2.out.2.1 e).1 (by
          have := own_from HR2.out.2.1 j e
          intro q
          injection q with q
          omega))
        refine ⟨ret_int (by rw [← HRV.out, HF.out.2]; rfl), ⟨A2, c2, ?_, AlsAt.own (B := w.heap.size) (c := c2) ?_, ?_⟩, Turns.step (Turns.of HR2.out.2.2) hgr (fun j e => by injection e with e; exact .inl e.symm)⟩
        · show W.heap[r]? = some (.cells #[.int .u64 s.now, .slice A2 (dropA s.L id).length c2] 29 (0, 0))
          rw [HR2.out.1]
          exact hrW
        · show W.ownsRow w.heap.size 68 2 (.slice A2 (dropA s.L id).length c2) (dropA s.L id).length (row (dropA s.L id))
          rw [HR2.out.1]
          exact how
        · show (dropA s.L id).length ≤ c2
          rw [HR2.out.1]
          exact own_cap how
end Go.Proofs.Ytdebaoimhijnkaa
