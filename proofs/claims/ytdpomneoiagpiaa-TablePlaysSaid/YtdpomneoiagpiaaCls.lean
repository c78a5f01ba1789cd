/- The calls that do something with the flow of an id: Drop, Ready, Flow. -/
import Derived.Test.YtdpomneoiagpiaaGone
set_option linter.unusedVariables false
namespace Go.Proofs.Ytdpomneoiagpiaa
open Go.RowKit Go.Deep Go.BigFrame
attribute [local go_sem ↓] Go.wp_at_zero Go.wp_at_succ
theorem find_hit {L : List Fl} {id : Int} {k : Nat} (h : findK L id = some k) : ∃ f, L[k]? = some f ∧ f.id = id ∧ idx (fun f => f.id == id) L = k ∧ k < L.length := by
  unfold findK at h
  have h2 := h
  rw [List.findIdx?_eq_some_iff_getElem] at h2
  obtain ⟨hl, hp, _⟩ := h2
  refine ⟨L[k], List.getElem?_eq_getElem hl, by simpa using hp, ?_, hl⟩
  unfold idx
  rw [h]
theorem find_none {L : List Fl} {id : Int} (h : findK L id = none) : idx (fun f => f.id == id) L = -1 := by
  unfold findK at h
  unfold idx
  rw [h]
section
variable {w : World} {g c b1 b2 N : Nat} {A : Option Addr} {s : TS}
set_option maxHeartbeats 1600000
theorem drop1_any (h : Tb w g A c b1 b2 N s) (ho : s.Ok) (k : Nat) (f : Fl) (hf : s.L[k]? = some f) (q p : Addr) (hp : w.cell? p = some (.pointer (some ⟨g, 0, none⟩))) :
    Calls Try.prog 43 #[.int .i64 k, .pointer (some q), .pointer (some p)] w fun e w' => ∃ n, e = .returned (.int .i64 n) ∧ n = 0 ∧ Tb w' g A c b1 b2 N (delS s k) ∧ Turns (Blk g A b1 b2) w w' := by
  have H := Lib.hid (gone_any h ho k f hf)
  clear h ho hf
  go_enter Try.func43, Try.ntmps43
  go_wp2_with fail
  refine H.out.mono ?_
  rintro e w' ⟨rfl, ht, hT⟩
  have HT := Lib.hid (And.intro ht hT)
  clear ht hT
  go_wp2_with fail
  go_ret
  exact ⟨0, rfl, rfl, HT.out⟩
theorem drop_any (h : Tb w g A c b1 b2 N s) (ho : s.Ok) (id : Int) :
    Calls Try.prog 18 #[.pointer (some ⟨g, 0, none⟩), .int .u64 id] w fun e w' => e = .returned (.int .i64 (atE s id)) ∧ Tb w' g A c b1 b2 N (dropS s id) ∧ Turns (Blk g A b1 b2) w w' := by
  have hB : ∀ o, Below w.heap.size w (w.alloc o) := fun o => (Below.refl w.heap.size w).alloc (Nat.le_refl _) o
  have H := Lib.hid (fun o => h.below (hB o))
  have HO := Lib.hid ho
  cases hk : findK s.L id with
  | none =>
    have e1 : atE s id = 6 := by unfold atE; rw [hk]
    have e2 : dropS s id = s := by unfold dropS; rw [hk]
    rw [e1, e2]
    have HC := Lib.hid (fun o p => at_none43 (H.out o) ho id (find_none hk) p)
    have HK := Lib.hid hk
    clear h ho hk e1 e2
    go_enter Try.func18, Try.ntmps18
    go_wp2_with fail
    refine (HC.out _ _).mono ?_
    rintro e w' ⟨rfl, hb⟩
    go_wp2_with fail
    go_ret
    have hb' := (hB (Obj.cells #[.pointer (some ⟨g, 0, none⟩)] 22)).trans (hb.mono (by simp))
    exact ⟨rfl, (H.out _).below hb, Turns.below hb'⟩
  | some k =>
    have e1 : atE s id = 0 := by unfold atE; rw [hk]
    have e2 : dropS s id = delS s k := by unfold dropS; rw [hk]
    rw [e1, e2]
    obtain ⟨f, hf, hid, hix, hkl⟩ := find_hit hk
    obtain ⟨ba, cur, rfl, -⟩ := h.at hf
    have HC := Lib.hid (fun o p (hp : (w.alloc o).cell? p = some (.pointer (some ⟨g, 0, none⟩))) (hpl : p.block < (w.alloc o).heap.size) => at_hit43 (H.out o) ho id k hix hkl ba rfl p (fun n w' => n = 0 ∧ Tb w' g (some ⟨ba, 0, none⟩) c b1 b2 N (delS s k) ∧ Turns (Blk g (some ⟨ba, 0, none⟩) b1 b2) w w')
      (fun W hW => (drop1_any ((H.out o).below hW) ho k f hf _ p ((hW.cell hpl).trans hp)).mono fun e w' ⟨n, a1, a2, a3, a4⟩ => ⟨n, a1, a2, a3, (Turns.below ((hB o).trans (hW.mono (by simp)))).trans a4 (fun i hi => .inl hi)⟩))
    clear h ho hk hf hid hix hkl e1 e2
    go_enter Try.func18, Try.ntmps18
    go_wp2_with fail
    refine (HC.out _ _ (by go_simp) (by simp)).mono ?_
    rintro e w' ⟨n, rfl, rfl, ht, hT⟩
    have HT := Lib.hid (And.intro ht hT)
    clear ht hT
    go_wp2_with fail
    go_ret
    exact ⟨rfl, HT.out⟩
end
end Go.Proofs.Ytdpomneoiagpiaa
