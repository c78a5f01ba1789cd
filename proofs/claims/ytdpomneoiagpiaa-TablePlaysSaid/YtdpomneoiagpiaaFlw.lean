/- Flow. -/
import Derived.Test.YtdpomneoiagpiaaRdy
set_option linter.unusedVariables false
namespace Go.Proofs.Ytdpomneoiagpiaa
open Go.RowKit Go.Deep Go.BigFrame
attribute [local go_sem ↓] Go.wp_at_zero Go.wp_at_succ
def Fl.none : Fl := ⟨0, Tup.zero, Tup.zero, false⟩
def flowF (s : TS) (id : Int) : Fl := match findK s.L id with | .none => Fl.none | some k => (s.L[k]?).getD Fl.none
theorem store12 {w : World} {q : Nat} {cs : Array Value} (hq : w.heap[q]? = some (.cells cs 38 (0, 0))) (hs : cs.size = 12) (f : Fl) : (w.setCells q 0 f.cells).heap[q]? = some (.cells f.arr 38 (0, 0)) := by
  obtain ⟨cur', h1, h2, h3⟩ := heap_setCells f.cells 0 hq
  have e : cur' = f.arr := by
    obtain ⟨a, ha⟩ : ∃ a, f.arr = a := ⟨_, rfl⟩
    have hz : a.size = 12 := by rw [← ha]; rfl
    have hl : f.cells = a.toList := by rw [← ha]; rfl
    rw [hl] at h3
    rw [ha]
    clear ha hl h1
    apply Array.ext_getElem?
    intro j
    rw [h3 j]
    by_cases hj : j < 12
    · rw [if_pos ⟨Nat.zero_le _, by rw [Array.length_toList]; omega, by omega⟩, Nat.sub_zero, Array.getElem?_toList]
    · rw [if_neg (by rw [Array.length_toList]; omega), Array.getElem?_eq_none (by omega), Array.getElem?_eq_none (by omega)]
  rw [h1, e]
theorem set12 (w : World) (q : Nat) (f : Fl) : w.setCells q 0 f.cells = ((((((((((((w.setCell ⟨q, 0, none⟩ (.int .u64 f.id)).setCell ⟨q, 1, none⟩ (.int .u8 f.inn.proto)).setCell ⟨q, 2, none⟩ (.int .u32 f.inn.src)).setCell ⟨q, 3, none⟩ (.int .u32 f.inn.dst)).setCell ⟨q, 4, none⟩ (.int .u16 f.inn.sp)).setCell ⟨q, 5, none⟩ (.int .u16 f.inn.dp)).setCell ⟨q, 6, none⟩ (.int .u8 f.out.proto)).setCell ⟨q, 7, none⟩ (.int .u32 f.out.src)).setCell ⟨q, 8, none⟩ (.int .u32 f.out.dst)).setCell ⟨q, 9, none⟩ (.int .u16 f.out.sp)).setCell ⟨q, 10, none⟩ (.int .u16 f.out.dp)).setCell ⟨q, 11, none⟩ (.bool f.emb)) := rfl
theorem post_name {P : Program} {fn : Func} {R : Ending → World → Prop} {e : Exit} {a : Act} {w : World} (h : ∀ W, W = w → bodyPost P fn R e a W) : bodyPost P fn R e a w := h _ rfl
section
variable {w : World} {g c b1 b2 N : Nat} {A : Option Addr} {s : TS}
set_option maxHeartbeats 1600000
theorem flow1_any (f : Fl) (ba o q : Nat) (k : Int) (w : World) (hat : FlAt w ba o f) (cs : Array Value) (hq : w.heap[q]? = some (.cells cs 38 (0, 0))) (hs : cs.size = 12) :
    Calls Try.prog 40 #[.int .i64 k, .pointer (some ⟨ba, o, none⟩), .pointer (some ⟨q, 0, none⟩)] w fun e w' => ∃ n, e = .returned (.int .i64 n) ∧ n = 0 ∧ w'.heap[q]? = some (.cells f.arr 38 (0, 0)) ∧ w.grownBy w' (some q) := by
  obtain ⟨k0, k1, k2, k3, k4, k5, k6, k7, k8, k9, k10, k11⟩ := hat
  have HQ := Lib.hid hq
  have HS := Lib.hid hs
  have hc : ∀ i, i < 12 → (w.cell? ⟨q, i, none⟩).isSome = true := fun i hi => by rw [cell_of hq, Array.getElem?_eq_getElem (by omega)]; rfl
  have hf : ∀ i, w.frozen? ⟨q, i, none⟩ = false := fun i => free_of hq i
  obtain ⟨x0, y0⟩ := Option.isSome_iff_exists.1 (hc 0 (by omega))
  obtain ⟨x1, y1⟩ := Option.isSome_iff_exists.1 (hc 1 (by omega))
  obtain ⟨x2, y2⟩ := Option.isSome_iff_exists.1 (hc 2 (by omega))
  obtain ⟨x3, y3⟩ := Option.isSome_iff_exists.1 (hc 3 (by omega))
  obtain ⟨x4, y4⟩ := Option.isSome_iff_exists.1 (hc 4 (by omega))
  obtain ⟨x5, y5⟩ := Option.isSome_iff_exists.1 (hc 5 (by omega))
  obtain ⟨x6, y6⟩ := Option.isSome_iff_exists.1 (hc 6 (by omega))
  obtain ⟨x7, y7⟩ := Option.isSome_iff_exists.1 (hc 7 (by omega))
  obtain ⟨x8, y8⟩ := Option.isSome_iff_exists.1 (hc 8 (by omega))
  obtain ⟨x9, y9⟩ := Option.isSome_iff_exists.1 (hc 9 (by omega))
  obtain ⟨x10, y10⟩ := Option.isSome_iff_exists.1 (hc 10 (by omega))
  obtain ⟨x11, y11⟩ := Option.isSome_iff_exists.1 (hc 11 (by omega))
  clear hc hq hs
  go_enter Try.func40, Try.ntmps40
  go_wp2
  go_ret
  rw [← set12]
  exact ⟨0, rfl, rfl, store12 HQ.out HS.out f, grown_setCells _ _ _ _⟩
/-- What the result's cells hold. -/
theorem res13 {f : Fl} {W : World} {q : Nat} (hh : W.heap[q]? = some (.cells f.arr 38 (0, 0))) (t : Array Value) (b : Bool) (h4 : t.getD 4 undef = .pointer (some ⟨q, 0, none⟩)) (h5 : t.getD 5 undef = .bool b) :
    (results Try.f13 t).run Try.prog W = .ok (.tuple #[f.val, .bool b]) W := by
  have u0 : W.cell? ⟨q, 0, .none⟩ = some (.int .u64 f.id) := cell_of hh 0
  have u1 : W.cell? ⟨q, 1, .none⟩ = some (.int .u8 f.inn.proto) := cell_of hh 1
  have u2 : W.cell? ⟨q, 2, .none⟩ = some (.int .u32 f.inn.src) := cell_of hh 2
  have u3 : W.cell? ⟨q, 3, .none⟩ = some (.int .u32 f.inn.dst) := cell_of hh 3
  have u4 : W.cell? ⟨q, 4, .none⟩ = some (.int .u16 f.inn.sp) := cell_of hh 4
  have u5 : W.cell? ⟨q, 5, .none⟩ = some (.int .u16 f.inn.dp) := cell_of hh 5
  have u6 : W.cell? ⟨q, 6, .none⟩ = some (.int .u8 f.out.proto) := cell_of hh 6
  have u7 : W.cell? ⟨q, 7, .none⟩ = some (.int .u32 f.out.src) := cell_of hh 7
  have u8 : W.cell? ⟨q, 8, .none⟩ = some (.int .u32 f.out.dst) := cell_of hh 8
  have u9 : W.cell? ⟨q, 9, .none⟩ = some (.int .u16 f.out.sp) := cell_of hh 9
  have u10 : W.cell? ⟨q, 10, .none⟩ = some (.int .u16 f.out.dp) := cell_of hh 10
  have u11 : W.cell? ⟨q, 11, .none⟩ = some (.bool f.emb) := cell_of hh 11
  simp only [Array.getD_eq_getD_getElem?] at h4 h5
  simp [results, Try.results13, go_sem, h4, h5, u0, u1, u2, u3, u4, u5, u6, u7, u8, u9, u10, u11]
  rfl
theorem flow_any (h : Tb w g A c b1 b2 N s) (ho : s.Ok) (id : Int) :
    Calls Try.prog 13 #[.pointer (some ⟨g, 0, none⟩), .int .u64 id] w fun e w' => e = .returned (.tuple #[(flowF s id).val, .bool (findK s.L id).isSome]) ∧ Below w.heap.size w w' := by
  have hB : ∀ o, Below w.heap.size w (w.alloc o) := fun o => (Below.refl w.heap.size w).alloc (Nat.le_refl _) o
  have H := Lib.hid (fun o => h.below (hB o))
  have HO := Lib.hid ho
  cases hk : findK s.L id with
  | none =>
    have e1 : flowF s id = Fl.none := by unfold flowF; rw [hk]
    rw [e1]
    have HC := Lib.hid (fun o p => at_none40 (H.out o) ho id (find_none hk) p)
    clear h ho hk e1
    go_enter Try.func13, Try.ntmps13
    go_wp2_with fail
    refine (HC.out _ _).mono ?_
    rintro e w' ⟨rfl, hb⟩
    have HBB := Lib.hid hb
    have hh : w'.heap[w.heap.size]? = some (.cells Fl.none.arr 38 (0, 0)) := (hb.block _ (by simp)).trans (heap_alloc_new w _)
    have u0 : w'.cell? ⟨w.heap.size, 0, .none⟩ = some (.int .u64 0) := cell_of hh 0
    have u1 : w'.cell? ⟨w.heap.size, 1, .none⟩ = some (.int .u8 0) := cell_of hh 1
    have u2 : w'.cell? ⟨w.heap.size, 2, .none⟩ = some (.int .u32 0) := cell_of hh 2
    have u3 : w'.cell? ⟨w.heap.size, 3, .none⟩ = some (.int .u32 0) := cell_of hh 3
    have u4 : w'.cell? ⟨w.heap.size, 4, .none⟩ = some (.int .u16 0) := cell_of hh 4
    have u5 : w'.cell? ⟨w.heap.size, 5, .none⟩ = some (.int .u16 0) := cell_of hh 5
    have u6 : w'.cell? ⟨w.heap.size, 6, .none⟩ = some (.int .u8 0) := cell_of hh 6
    have u7 : w'.cell? ⟨w.heap.size, 7, .none⟩ = some (.int .u32 0) := cell_of hh 7
    have u8 : w'.cell? ⟨w.heap.size, 8, .none⟩ = some (.int .u32 0) := cell_of hh 8
    have u9 : w'.cell? ⟨w.heap.size, 9, .none⟩ = some (.int .u16 0) := cell_of hh 9
    have u10 : w'.cell? ⟨w.heap.size, 10, .none⟩ = some (.int .u16 0) := cell_of hh 10
    have u11 : w'.cell? ⟨w.heap.size, 11, .none⟩ = some (.bool false) := cell_of hh 11
    have hf : ∀ i, w'.frozen? ⟨w.heap.size, i, .none⟩ = false := fun i => free_of hh i
    have HH := Lib.hid hh
    clear hh hb
    go_wp2_with fail
    refine post_name fun W hW => ?_
    have hW' : W = w'.setCells w.heap.size 0 Fl.none.cells := hW
    clear hW
    have hh2 : W.heap[w.heap.size]? = some (.cells Fl.none.arr 38 (0, 0)) := by rw [hW']; exact store12 HH.out rfl Fl.none
    refine bodyPost_ret (res13 hh2 _ false rfl rfl) rfl ⟨rfl, ?_⟩
    rw [hW']
    exact grown_bel ((hB _).trans (HBB.out.mono (by simp))) (grown_setCells _ _ _ _) (by rintro k e; cases e; exact Nat.le_refl _)
  | some k =>
    obtain ⟨f, hf, hid, hix, hkl⟩ := find_hit hk
    have e1 : flowF s id = f := by unfold flowF; rw [hk]; simp [hf]
    rw [e1]
    obtain ⟨ba, cur, rfl, hbl, hat, -⟩ := h.at hf
    have HC := Lib.hid (fun o q cs (hq : (w.alloc o).heap[q]? = some (.cells cs 38 (0, 0))) (hs : cs.size = 12) => at_hit40 (H.out o) ho id k hix hkl ba rfl ⟨q, 0, .none⟩ (fun n w' => n = 0 ∧ w'.heap[q]? = some (.cells f.arr 38 (0, 0)) ∧ (w.alloc o).grownBy w' (some q))
      (fun W hW => (flow1_any f ba (k * 12) q k W ((hat.below (hB o) hbl).below hW (by simp; omega)) cs ((hW.block q (Array.getElem?_eq_some_iff.1 hq).1).trans hq) hs).mono fun e w' ⟨n, a1, a2, a3, a4⟩ => ⟨n, a1, a2, a3, grown_trans (grown_below hW) a4⟩))
    have HZ := fun cs => Lib.hid (heap_alloc_new w (Obj.cells cs 38))
    have HS := Lib.hid (show (Fl.none.arr).size = 12 from rfl)
    clear h ho hk hf hid hix hkl e1 hat hbl
    go_enter Try.func13, Try.ntmps13
    go_wp2_with fail
    refine (HC.out _ _ _ (HZ _).out HS.out).mono ?_
    rintro e w' ⟨n, rfl, rfl, hh, hg⟩
    have HG := Lib.hid hg
    have HH := Lib.hid hh
    have u0 : w'.cell? ⟨w.heap.size, 0, .none⟩ = some (.int .u64 f.id) := cell_of hh 0
    have u1 : w'.cell? ⟨w.heap.size, 1, .none⟩ = some (.int .u8 f.inn.proto) := cell_of hh 1
    have u2 : w'.cell? ⟨w.heap.size, 2, .none⟩ = some (.int .u32 f.inn.src) := cell_of hh 2
    have u3 : w'.cell? ⟨w.heap.size, 3, .none⟩ = some (.int .u32 f.inn.dst) := cell_of hh 3
    have u4 : w'.cell? ⟨w.heap.size, 4, .none⟩ = some (.int .u16 f.inn.sp) := cell_of hh 4
    have u5 : w'.cell? ⟨w.heap.size, 5, .none⟩ = some (.int .u16 f.inn.dp) := cell_of hh 5
    have u6 : w'.cell? ⟨w.heap.size, 6, .none⟩ = some (.int .u8 f.out.proto) := cell_of hh 6
    have u7 : w'.cell? ⟨w.heap.size, 7, .none⟩ = some (.int .u32 f.out.src) := cell_of hh 7
    have u8 : w'.cell? ⟨w.heap.size, 8, .none⟩ = some (.int .u32 f.out.dst) := cell_of hh 8
    have u9 : w'.cell? ⟨w.heap.size, 9, .none⟩ = some (.int .u16 f.out.sp) := cell_of hh 9
    have u10 : w'.cell? ⟨w.heap.size, 10, .none⟩ = some (.int .u16 f.out.dp) := cell_of hh 10
    have u11 : w'.cell? ⟨w.heap.size, 11, .none⟩ = some (.bool f.emb) := cell_of hh 11
    have hf : ∀ i, w'.frozen? ⟨w.heap.size, i, .none⟩ = false := fun i => free_of hh i
    clear hh hg
    go_wp2_with fail
    refine post_name fun W hW => ?_
    have hW' : W = w'.setCells w.heap.size 0 f.cells := hW
    clear hW
    have hh2 : W.heap[w.heap.size]? = some (.cells f.arr 38 (0, 0)) := by rw [hW']; exact store12 HH.out rfl f
    refine bodyPost_ret (res13 hh2 _ true rfl rfl) rfl ⟨rfl, ?_⟩
    rw [hW']
    refine grown_bel (grown_bel ((Below.refl _ _).alloc (Nat.le_refl _) _) HG.out (by rintro k e; cases e; exact Nat.le_refl _)) (grown_setCells _ _ _ _) (by rintro k e; cases e; exact Nat.le_refl _)
end
end Go.Proofs.Ytdpomneoiagpiaa
