/- Flows in memory; the calls that look through them. -/
import Derived.Test.YtdpomneoiagpiaaBase
set_option linter.unusedVariables false
namespace Go.Proofs.Ytdpomneoiagpiaa
open Go.RowKit Go.Deep Go.BigFrame
attribute [local go_sem ↓] Go.wp_at_zero Go.wp_at_succ
structure Fl where
  id : Int
  inn : Tup
  out : Tup
  emb : Bool
deriving DecidableEq
def Fl.arr (f : Fl) : Array Value := #[.int .u64 f.id, .int .u8 f.inn.proto, .int .u32 f.inn.src, .int .u32 f.inn.dst, .int .u16 f.inn.sp, .int .u16 f.inn.dp, .int .u8 f.out.proto, .int .u32 f.out.src, .int .u32 f.out.dst, .int .u16 f.out.sp, .int .u16 f.out.dp, .bool f.emb]
def Fl.cells (f : Fl) : List Value := f.arr.toList
def Fl.val (f : Fl) : Value := .agg f.arr
theorem Fl.len (f : Fl) : f.cells.length = 12 := rfl
/-- All flows' cells, in a row. -/
def row (L : List Fl) : List Value := L.flatMap Fl.cells
theorem row_len : ∀ L : List Fl, (row L).length = L.length * 12
  | [] => rfl
  | f :: r => by
    have := row_len r
    simp only [row, List.flatMap_cons, List.length_append, Fl.len, List.length_cons] at this ⊢
    omega
theorem row_at : ∀ (L : List Fl) (i : Nat) (f : Fl), L[i]? = some f → ∀ j, j < 12 → (row L)[i * 12 + j]? = f.arr[j]?
  | [], i, f, h, j, hj => by simp at h
  | g :: r, 0, f, h, j, hj => by
    simp at h
    subst h
    simp only [row, List.flatMap_cons, Nat.zero_mul, Nat.zero_add]
    rw [List.getElem?_append_left (by rw [Fl.len]; exact hj)]
    simp [Fl.cells]
  | g :: r, i + 1, f, h, j, hj => by
    have := row_at r i f (by simpa using h) j hj
    simp only [row, List.flatMap_cons]
    rw [List.getElem?_append_right (by rw [Fl.len]; omega), Fl.len, show (i + 1) * 12 + j - 12 = i * 12 + j by omega]
    exact this
theorem row_append (L M : List Fl) : row (L ++ M) = row L ++ row M := by simp [row]
/-- A flow, as it lies at a place. -/
structure FlAt (w : World) (b o : Nat) (f : Fl) : Prop where
  k0 : w.cell? ⟨b, o, none⟩ = some (.int .u64 f.id)
  k1 : w.cell? ⟨b, o + 1, none⟩ = some (.int .u8 f.inn.proto)
  k2 : w.cell? ⟨b, o + 2, none⟩ = some (.int .u32 f.inn.src)
  k3 : w.cell? ⟨b, o + 3, none⟩ = some (.int .u32 f.inn.dst)
  k4 : w.cell? ⟨b, o + 4, none⟩ = some (.int .u16 f.inn.sp)
  k5 : w.cell? ⟨b, o + 5, none⟩ = some (.int .u16 f.inn.dp)
  k6 : w.cell? ⟨b, o + 6, none⟩ = some (.int .u8 f.out.proto)
  k7 : w.cell? ⟨b, o + 7, none⟩ = some (.int .u32 f.out.src)
  k8 : w.cell? ⟨b, o + 8, none⟩ = some (.int .u32 f.out.dst)
  k9 : w.cell? ⟨b, o + 9, none⟩ = some (.int .u16 f.out.sp)
  k10 : w.cell? ⟨b, o + 10, none⟩ = some (.int .u16 f.out.dp)
  k11 : w.cell? ⟨b, o + 11, none⟩ = some (.bool f.emb)
/-- Flows that can be read. -/
def FlsAt (w : World) (A : Option Addr) (L : List Fl) : Prop := ∀ (i : Nat) (f : Fl), L[i]? = some f → ∃ b o, A = some ⟨b, o, none⟩ ∧ b < w.heap.size ∧ FlAt w b (o + i * 12) f
theorem FlAt.below {w w' : World} {b o B : Nat} {f : Fl} (h : FlAt w b o f) (hb : Below B w w') (hl : b < B) : FlAt w' b o f :=
  ⟨(hb.cell (p := ⟨b, _, none⟩) hl).trans h.k0, (hb.cell (p := ⟨b, _, none⟩) hl).trans h.k1, (hb.cell (p := ⟨b, _, none⟩) hl).trans h.k2, (hb.cell (p := ⟨b, _, none⟩) hl).trans h.k3, (hb.cell (p := ⟨b, _, none⟩) hl).trans h.k4, (hb.cell (p := ⟨b, _, none⟩) hl).trans h.k5,
   (hb.cell (p := ⟨b, _, none⟩) hl).trans h.k6, (hb.cell (p := ⟨b, _, none⟩) hl).trans h.k7, (hb.cell (p := ⟨b, _, none⟩) hl).trans h.k8, (hb.cell (p := ⟨b, _, none⟩) hl).trans h.k9, (hb.cell (p := ⟨b, _, none⟩) hl).trans h.k10, (hb.cell (p := ⟨b, _, none⟩) hl).trans h.k11⟩
theorem FlsAt.below {w w' : World} {A : Option Addr} {L : List Fl} (h : FlsAt w A L) (hb : Below w.heap.size w w') : FlsAt w' A L := by
  intro i f hf
  obtain ⟨b, o, e, hl, ha⟩ := h i f hf
  exact ⟨b, o, e, Nat.lt_of_lt_of_le hl hb.size, ha.below hb hl⟩
theorem FlsAt.own {w : World} {B c : Nat} {A : Option Addr} {L : List Fl} (h : w.ownsRow B 38 12 (.slice A L.length c) L.length (row L)) : FlsAt w A L := by
  intro i f hf
  have hi := (List.getElem?_eq_some_iff.1 hf).1
  rcases h.2 with ⟨h3, h4⟩ | ⟨g, cap, cur, h3, hb, hg, q1, q2, q3, q4⟩
  · omega
  · injection h3 with h3 _ _
    subst h3
    have key : ∀ j, j < 12 → w.cell? ⟨g, 0 + i * 12 + j, none⟩ = f.arr[j]? := by
      intro j hj
      rw [cell_of hg, ← row_at L i f hf j hj, ← q4, List.getElem?_take_of_lt (by omega), Array.getElem?_toList]
      congr 1
      omega
    exact ⟨g, 0, rfl, (Array.getElem?_eq_some_iff.1 hg).1, ⟨key 0 (by omega), key 1 (by omega), key 2 (by omega), key 3 (by omega), key 4 (by omega), key 5 (by omega), key 6 (by omega), key 7 (by omega), key 8 (by omega), key 9 (by omega), key 10 (by omega), key 11 (by omega)⟩⟩

set_option maxHeartbeats 800000 in
theorem isId_any (f : Fl) (p : Addr) (id : Int) (w : World) (hp : w.cell? p = some (.int .u64 id)) :
    Calls Try.prog 48 #[f.val, .pointer (some p)] w fun e w' => e = .returned (.bool (f.id == id)) ∧ Below w.heap.size w w' := by
  have hp2 := fun o => (((Below.refl w.heap.size w).alloc (Nat.le_refl _) o).cell (p := p) (World.block_lt_of_cell? w _ hp)).trans hp
  unfold Fl.val Fl.arr
  clear hp
  go_enter Try.func48, Try.ntmps48
  go_wp2
  go_ret
  exact ⟨rfl, (Below.refl _ _).alloc (Nat.le_refl _) _⟩
set_option maxHeartbeats 800000 in
theorem isEmb_any (f : Fl) (w : World) :
    Calls Try.prog 35 #[f.val] w fun e w' => e = .returned (.bool f.emb) ∧ Below w.heap.size w w' := by
  unfold Fl.val Fl.arr
  go_enter Try.func35, Try.ntmps35
  go_wp2
  go_ret
  exact ⟨rfl, (Below.refl _ _).alloc (Nat.le_refl _) _⟩
def idx (p : Fl → Bool) (L : List Fl) : Int := match L.findIdx? p with | some i => i | none => -1
theorem idx_hit {p : Fl → Bool} {L : List Fl} {k : Nat} {f : Fl} (hf : L[k]? = some f) (hp : p f = true) (hn : ∀ j g, j < k → L[j]? = some g → p g = false) : idx p L = k := by
  have hk := (List.getElem?_eq_some_iff.1 hf)
  have : L.findIdx? p = some k := by
    rw [List.findIdx?_eq_some_iff_getElem]
    refine ⟨hk.1, by rw [hk.2]; exact hp, fun j hj => ?_⟩
    have hlt := hk.1
    have := hn j _ hj (List.getElem?_eq_getElem (by omega))
    simp [this]
  unfold idx
  rw [this]
theorem idx_none {p : Fl → Bool} {L : List Fl} (hn : ∀ j g, j < L.length → L[j]? = some g → p g = false) : idx p L = -1 := by
  have : L.findIdx? p = none := by
    rw [List.findIdx?_eq_none_iff]
    intro g hg
    obtain ⟨j, hj, e⟩ := List.getElem_of_mem hg
    exact hn j g hj (by rw [List.getElem?_eq_getElem hj, e])
  unfold idx
  rw [this]
set_option maxHeartbeats 1600000 in
theorem idxId_any (A : Option Addr) (c : Nat) (L : List Fl) (n : Nat) (p : Addr) (id : Int) (w : World) (hn : L.length = n) (h : FlsAt w A L) (hm : n ≤ 100000) (hp : w.cell? p = some (.int .u64 id)) :
    Calls Try.prog 34 #[.slice A n c, .func (.func 48) #[] #[.pointer (some p)]] w fun e w' => e = .returned (.int .i64 (idx (fun f => f.id == id) L)) ∧ Below w.heap.size w w' := by
  have H := Lib.hid h
  have HN := Lib.hid hn
  have HP := Lib.hid (fun W (hW : Below w.heap.size w W) => (hW.cell (p := p) (World.block_lt_of_cell? w _ hp)).trans hp)
  clear hp
  clear h hn
  go_enter Try.func34, Try.ntmps34
  go_wp2_with fail
  go_loopw [8] (fun v8 wr => ∃ k : Nat, v8 = .int .i64 k ∧ k ≤ n ∧ Below w.heap.size w wr ∧ ∀ j g, j < k → L[j]? = some g → (g.id == id) = false) (fun v8 _ => n - (intOf v8).toNat)
  case atStart => exact ⟨0, rfl, Nat.zero_le _, Below.refl _ _, fun j g hj => by omega⟩
  case round =>
    obtain ⟨k, rfl, hk, hb, hnot⟩ := hrel
    have HNOT := Lib.hid hnot
    have HB := Lib.hid hb
    clear hnot hb
    by_cases hlt : k < n
    · obtain ⟨f, hf⟩ : ∃ f, L[k]? = some f := ⟨L[k]'(by have := HN.out; omega), List.getElem?_eq_getElem _⟩
      obtain ⟨b, o, rfl, hl, ha⟩ := H.out k f hf
      obtain ⟨k0, k1, k2, k3, k4, k5, k6, k7, k8, k9, k10, k11⟩ := ha.below HB.out hl
      have HF := Lib.hid hf
      have HC := Lib.hid (fun W (hW : Below w.heap.size w W) => isId_any f p id W (HP.out W hW))
      clear ha hf hl
      cases hp : (f.id == id) with
      | true =>
        rw [hp] at HC
        have HPB := Lib.hid hp
        clear hp
        go_wp2_with fail
        refine (HC.out _ HB.out).mono ?_
        rintro e w2 ⟨rfl, hb2⟩
        go_wp2_with fail
        go_ret
        exact ⟨ret_int (idx_hit HF.out HPB.out HNOT.out).symm, HB.out.trans (hb2.mono HB.out.size)⟩
      | false =>
        rw [hp] at HC
        have HPB := Lib.hid hp
        clear hp
        go_wp2_with fail
        refine (HC.out _ HB.out).mono ?_
        rintro e w2 ⟨rfl, hb2⟩
        go_wp2_with fail
        go_roundw
        case rel =>
          refine ⟨k + 1, by simp, by omega, HB.out.trans (hb2.mono HB.out.size), fun j g hj hg => ?_⟩
          by_cases e : j < k
          · exact HNOT.out j g e hg
          · obtain rfl : j = k := by omega
            rw [HF.out] at hg
            cases hg
            exact HPB.out
        case measure => simp [intOf]; omega
    · have hkn : decide ((k : Int) < (n : Int)) = false := decide_eq_false (by omega)
      obtain rfl : k = n := by omega
      go_wp2_with fail
      go_ret
      exact ⟨ret_int (idx_none (by rw [HN.out]; exact HNOT.out)).symm, HB.out⟩
set_option maxHeartbeats 1600000 in
theorem idxEmb_any (A : Option Addr) (c : Nat) (L : List Fl) (n : Nat) (w : World) (hn : L.length = n) (h : FlsAt w A L) (hm : n ≤ 100000) :
    Calls Try.prog 34 #[.slice A n c, .func (.func 35) #[] #[]] w fun e w' => e = .returned (.int .i64 (idx (fun f => f.emb) L)) ∧ Below w.heap.size w w' := by
  have H := Lib.hid h
  have HN := Lib.hid hn
  clear h hn
  go_enter Try.func34, Try.ntmps34
  go_wp2_with fail
  go_loopw [8] (fun v8 wr => ∃ k : Nat, v8 = .int .i64 k ∧ k ≤ n ∧ Below w.heap.size w wr ∧ ∀ j g, j < k → L[j]? = some g → (g.emb) = false) (fun v8 _ => n - (intOf v8).toNat)
  case atStart => exact ⟨0, rfl, Nat.zero_le _, Below.refl _ _, fun j g hj => by omega⟩
  case round =>
    obtain ⟨k, rfl, hk, hb, hnot⟩ := hrel
    have HNOT := Lib.hid hnot
    have HB := Lib.hid hb
    clear hnot hb
    by_cases hlt : k < n
    · obtain ⟨f, hf⟩ : ∃ f, L[k]? = some f := ⟨L[k]'(by have := HN.out; omega), List.getElem?_eq_getElem _⟩
      obtain ⟨b, o, rfl, hl, ha⟩ := H.out k f hf
      obtain ⟨k0, k1, k2, k3, k4, k5, k6, k7, k8, k9, k10, k11⟩ := ha.below HB.out hl
      have HF := Lib.hid hf
      have HC := Lib.hid (fun W (hW : Below w.heap.size w W) => isEmb_any f W)
      clear ha hf hl
      cases hp : (f.emb) with
      | true =>
        rw [hp] at HC
        have HPB := Lib.hid hp
        clear hp
        go_wp2_with fail
        refine (HC.out _ HB.out).mono ?_
        rintro e w2 ⟨rfl, hb2⟩
        go_wp2_with fail
        go_ret
        exact ⟨ret_int (idx_hit HF.out HPB.out HNOT.out).symm, HB.out.trans (hb2.mono HB.out.size)⟩
      | false =>
        rw [hp] at HC
        have HPB := Lib.hid hp
        clear hp
        go_wp2_with fail
        refine (HC.out _ HB.out).mono ?_
        rintro e w2 ⟨rfl, hb2⟩
        go_wp2_with fail
        go_roundw
        case rel =>
          refine ⟨k + 1, by simp, by omega, HB.out.trans (hb2.mono HB.out.size), fun j g hj hg => ?_⟩
          by_cases e : j < k
          · exact HNOT.out j g e hg
          · obtain rfl : j = k := by omega
            rw [HF.out] at hg
            cases hg
            exact HPB.out
        case measure => simp [intOf]; omega
    · have hkn : decide ((k : Int) < (n : Int)) = false := decide_eq_false (by omega)
      obtain rfl : k = n := by omega
      go_wp2_with fail
      go_ret
      exact ⟨ret_int (idx_none (by rw [HN.out]; exact HNOT.out)).symm, HB.out⟩
end Go.Proofs.Ytdpomneoiagpiaa
