/- The reference: a flow more; without. -/
import Derived.Test.YtdpomneoiagpiaaROut
import Derived.Maps.AppendAt
set_option linter.unusedVariables false
namespace Go.Proofs.Ytdpomneoiagpiaa
open Go.RowKit Go.Deep Go.BigFrame
attribute [local go_sem ↓] Go.wp_at_zero Go.wp_at_succ
theorem info62 : (Try.prog.info? 62).map (fun i => (i.zero, i.size, i.bytes)) = some (some (.agg #[.int .u64 0, .int .u8 0, .int .u32 0, .int .u32 0, .int .u16 0, .int .u16 0, .int .u8 0, .int .u32 0, .int .u32 0, .int .u16 0, .int .u16 0, .bool false]), 12, 48) := by kernel_rfl
theorem fls_one62 {w : World} {q : Nat} {f : Fl} (hh : w.heap[q]? = some (.cells f.arr 62 (0, 0))) : FlsAt w (some ⟨q, 0, none⟩) [f] := by
  intro i g hg
  have hi := (List.getElem?_eq_some_iff.1 hg).1
  obtain rfl : i = 0 := by simpa using hi
  simp at hg
  subst hg
  exact ⟨q, 0, rfl, (Array.getElem?_eq_some_iff.1 hh).1, ⟨cell_of hh 0, cell_of hh 1, cell_of hh 2, cell_of hh 3, cell_of hh 4, cell_of hh 5, cell_of hh 6, cell_of hh 7, cell_of hh 8, cell_of hh 9, cell_of hh 10, cell_of hh 11⟩⟩
theorem push_at62 {w : World} (v : Value) (n : Nat) (M : List Fl) (hown : w.ownsRow 0 62 12 v n (row M)) (q : Nat) (f : Fl) (hq : w.heap[q]? = some (.cells f.arr 62 (0, 0))) (hsm : n ≤ 99999) :
    ∃ A' c' w', (Builtin.append_ #[65, 65] 65 #[v, .slice (some ⟨q, 0, none⟩) 1 1]).run Try.prog w = .ok (.slice A' (n + 1) c') w' ∧ w'.ownsRow 0 62 12 (.slice A' (n + 1) c') (n + 1) (row (M ++ [f])) ∧ w.grownBy w' v.ownBlock ∧
      ∀ k, A' = some ⟨k, 0, none⟩ → v.ownBlock = some k ∨ w.heap.size ≤ k := by
  obtain ⟨i0, hi, hz0, hz1, hz2⟩ := info_parts info62
  have h := fls_one62 hq
  obtain ⟨v', w', hr, ho, hg, _, hat⟩ := run_append_own_at (P := Try.prog) w 0 65 65 62 i0 _ 12 48 Try.underlying65 hi hz0 hz1 hz2 rfl (by decide) v n (row M) hown ⟨q, 0, none⟩ 1 1 (row [f]) (row_len [f])
    (fun j u hu => h.cell j u hu) (one_row [f]) (by unfold maxLen; omega) (by omega) (Nat.zero_le _)
  rw [← row_append] at ho
  obtain ⟨A', c', rfl⟩ := own_len ho
  refine ⟨A', c', w', hr, ho, hg, fun k hk => ?_⟩
  rcases hat with e | e
  · left
    rw [← e, hk]
    rfl
  · right
    rw [hk] at e
    simp [Value.ownBlock] at e
    omega
def withoutL (L : List Fl) (at_ : Int) (j : Nat) : List Fl := ((List.range j).filter (fun (i : Nat) => (i : Int) != at_)).filterMap (fun i => L[i]?)
theorem withoutL_succ {L : List Fl} {at_ : Int} {j : Nat} {f : Fl} (hf : L[j]? = some f) : withoutL L at_ (j + 1) = if (j : Int) = at_ then withoutL L at_ j else withoutL L at_ j ++ [f] := by
  unfold withoutL
  rw [List.range_succ, List.filter_append]
  by_cases h : (j : Int) = at_
  · rw [if_pos h]
    simp [h]
  · rw [if_neg h, List.filterMap_append]
    simp [h, hf]
set_option maxHeartbeats 1600000
theorem without_any {w : World} {h c : Nat} {A : Option Addr} {s : TS} (r : Rt w h A c s) (ho : s.Ok) (at_ : Int) (ha0 : -1 ≤ at_) (ha1 : at_ ≤ 100000) :
    Calls Try.prog 45 #[.pointer (some ⟨h, 0, none⟩), .int .i64 at_] w fun e w' => ∃ A' c' l, e = .returned (.slice A' l c') ∧ w'.ownsRow w.heap.size 62 12 (.slice A' l c') l (row (withoutL s.L at_ s.L.length)) ∧ Below w.heap.size w w' ∧ l ≤ s.L.length := by
  have R := Lib.hid r
  have hm : s.L.length ≤ 1024 := Nat.le_trans ho.len ho.most2
  obtain ⟨n, hn⟩ : ∃ n, s.L.length = n := ⟨_, rfl⟩
  have HN := Lib.hid hn
  rw [hn] at hm ⊢
  clear r ho hn
  go_enter Try.func45, Try.ntmps45
  go_wp2_with fail
  go_loopw [5, 6] (fun v5 v6 wr => ∃ (k l cc : Nat) (A2 : Option Addr), v5 = .slice A2 l cc ∧ v6 = .int .i64 k ∧ k ≤ n ∧ l ≤ k ∧ Below w.heap.size w wr ∧ wr.ownsRow w.heap.size 62 12 (.slice A2 l cc) l (row (withoutL s.L at_ k))) (fun _ v6 _ => n - (intOf v6).toNat)
  case atStart => exact ⟨0, 0, 0, none, rfl, rfl, Nat.zero_le _, Nat.zero_le _, Below.refl _ _, World.ownsRow_nil _ _ _ _⟩
  case round =>
    obtain ⟨k, l, cc, A2, rfl, rfl, hk, hl, hb, ho⟩ := hrel
    have HB := Lib.hid hb
    have HO := Lib.hid ho
    have hr := R.out.below hb
    have c0 := hr.c0
    rw [HN.out] at c0
    have HR := Lib.hid hr
    clear hb ho hr
    by_cases hlt : k < n
    · obtain ⟨f, hf⟩ : ∃ f, s.L[k]? = some f := ⟨s.L[k]'(by have := HN.out; omega), List.getElem?_eq_getElem _⟩
      have HF := Lib.hid hf
      by_cases hka : (k : Int) = at_
      · have HK := Lib.hid hka
        subst hka
        clear hf
        go_wp2_with fail
        go_roundw
        case rel => exact ⟨k + 1, l, cc, A2, rfl, by simp, by omega, by omega, HB.out, by rw [withoutL_succ HF.out, if_pos rfl]; exact HO.out⟩
        case measure => simp [intOf]; omega
      · have HK := Lib.hid hka
        have hbt : ((k : Int) != at_) = true := by simpa using hka
        obtain ⟨b, o, rfl, hl2, ha⟩ := HR.out.fls k f hf
        obtain ⟨k0, k1, k2, k3, k4, k5, k6, k7, k8, k9, k10, k11⟩ := ha
        have hown1 := (HO.out.alloc (.cells f.arr 62))
        obtain ⟨i0, hi, hz0, hz1, hz2⟩ := info_parts info62
        have hfl := fls_one62 (heap_alloc_new wr (.cells f.arr 62))
        obtain ⟨v', w2, hr2, ho2, hg2, -, hat⟩ := run_append_own_at (P := Try.prog) (wr.alloc (.cells f.arr 62)) w.heap.size 65 65 62 i0 _ 12 48 Try.underlying65 hi hz0 hz1 hz2 rfl (by decide) (.slice A2 l cc) l _ hown1 ⟨wr.heap.size, 0, none⟩ 1 1 (row [f]) (row_len [f])
          (fun j u hu => hfl.cell j u hu) (one_row [f]) (by unfold maxLen; omega) (by omega) (by have := HB.out.size; simp; omega)
        rw [← row_append] at ho2
        obtain ⟨A3, c3, rfl⟩ := own_len ho2
        have HR2 := Lib.hid hr2
        have HO2 := Lib.hid (And.intro ho2 hg2)
        clear hf hka hown1 hi hz0 hz1 hz2 hfl hr2 ho2 hg2 hat
        go_wp2_with (at_builtin; refine Lib.wpList_append_run _ rfl _ _ 65 65 rfl _ _ rfl rfl _ _ (by exact HR2.out) ?_)
        go_roundw
        case rel =>
          refine ⟨k + 1, l + 1, c3, A3, rfl, by simp, by omega, by omega, ?_, by rw [withoutL_succ HF.out, if_neg HK.out]; exact HO2.out.1⟩
          refine grown_bel (HB.out.trans ((Below.refl _ _).alloc HB.out.size _)) HO2.out.2 (fun b hb => ?_)
          rcases HO.out.2 with ⟨h3, _⟩ | ⟨g, cap, cur, h3, hgb, _⟩
          · injection h3 with h3
            rw [h3] at hb
            simp [Value.ownBlock] at hb
          · injection h3 with h3
            rw [h3] at hb
            simp [Value.ownBlock] at hb
            omega
        case measure => simp [intOf]; omega
    · obtain rfl : k = n := by omega
      go_wp2_with fail
      go_ret
      exact ⟨A2, cc, l, rfl, HO.out, HB.out, hl⟩
end Go.Proofs.Ytdpomneoiagpiaa
