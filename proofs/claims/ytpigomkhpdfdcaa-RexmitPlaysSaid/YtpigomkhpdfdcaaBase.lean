/- Chapter 19's ground: the calls of packages seq, culvertref01 and bytes that it comes to; slices of bytes; regions that draw. -/
import Derived.Test.YtpigomkhpdfdcaaRows
import Derived.WalkKit
import Derived.WalkSpells
import Derived.WalkLawsBesides
import Derived.OpenShut
import Derived.Lib.Hide
import Derived.Lib.Bytes
import Derived.Lib.SlBytesConst
import Derived.Lib.AppendZeros
import Derived.Lib.SmallJoins
import Derived.Deep.OwnRows
import Derived.Deep.Slices
import Derived.Deep.RegionHeld3
import Derived.Deep.DrawnRows
import Derived.Laws.CopyOwn
import Derived.BigQuiet
set_option linter.unusedVariables false
namespace Go.Proofs.Ytpigomkhpdfdcaa
open Go.RowKit Go.Deep Go.BigFrame

def addU (a n : Int) : Int := (a + n) % 4294967296
def ahd (a b : Int) : Int := (b - a + 2147483648) % 4294967296 - 2147483648
def lessB (a b : Int) : Bool := decide (0 < ahd a b)
def withB (x f l : Int) : Bool := decide ((x - f) % 4294967296 < l)
theorem ret_int {k : IntKind} {a b : Int} (h : a = b) : Ending.returned (.int k a) = .returned (.int k b) := by rw [h]
theorem ret_bool {a b : Bool} (h : a = b) : Ending.returned (.bool a) = .returned (.bool b) := by rw [h]

theorem addU_bd (a n : Int) : 0 ≤ addU a n ∧ addU a n ≤ 4294967295 := by unfold addU; omega
theorem ahd_bd (a b : Int) : -2147483648 ≤ ahd a b ∧ ahd a b ≤ 2147483647 := by unfold ahd; omega

theorem tmod_round (a : Int) : a.tmod 4294967296 = if 0 ≤ a then a % 4294967296 else -((-a) % 4294967296) := by
  split
  · exact Int.tmod_eq_emod_of_nonneg ‹_›
  · have h : a.tmod 4294967296 = -((-a).tmod 4294967296) := by rw [Int.neg_tmod]; omega
    rw [h, Int.tmod_eq_emod_of_nonneg (by omega)]

theorem modNeg (a : Int) (h : a.tmod 4294967296 < 0) : wrap64 (a.tmod 4294967296 + 4294967296) = a % 4294967296 := by
  rw [tmod_round] at h ⊢; unfold wrap64; split at h <;> omega
theorem modPos (a : Int) (h : 0 ≤ a.tmod 4294967296) : a.tmod 4294967296 = a % 4294967296 := by
  rw [tmod_round] at h ⊢; split at h <;> omega

set_option maxHeartbeats 400000 in
theorem add_any (a n : Int) (w : World) :
    Calls Try.prog 16 #[.int .u32 a, .int .i64 n] w fun e w' => e = .returned (.int .u32 (addU a n)) ∧ w = w' := by
  go_enter Try.func16, Try.ntmps16
  go_wp2
  go_ret
  exact ⟨ret_int (by unfold addU; omega), rfl⟩

set_option maxHeartbeats 400000 in
theorem ahead_any (a b : Int) (w : World) :
    Calls Try.prog 22 #[.int .u32 a, .int .u32 b] w fun e w' => e = .returned (.int .i32 (ahd a b)) ∧ w = w' := by
  go_enter Try.func22, Try.ntmps22
  go_wp2
  go_ret
  exact ⟨ret_int (by unfold ahd wrap32; omega), rfl⟩

set_option maxHeartbeats 400000 in
theorem less_any (a b : Int) (w : World) :
    Calls Try.prog 26 #[.int .u32 a, .int .u32 b] w fun e w' => e = .returned (.bool (lessB a b)) ∧ w = w' := by
  go_enter Try.func26, Try.ntmps26
  go_wp2_with (go_at_call 22; refine (ahead_any _ _ _).mono ?_; rintro e w' ⟨rfl, rfl⟩)
  go_ret
  exact ⟨ret_bool (by simp [lessB]), rfl⟩

set_option maxHeartbeats 400000 in
theorem within_any (a b c : Int) (w : World) :
    Calls Try.prog 23 #[.int .u32 a, .int .u32 b, .int .u32 c] w fun e w' => e = .returned (.bool (withB a b c)) ∧ w = w' := by
  go_enter Try.func23, Try.ntmps23
  go_wp2
  go_ret
  exact ⟨ret_bool (by simp [withB]), rfl⟩

set_option maxHeartbeats 400000 in
theorem mod_any (a : Int) (w : World) :
    Calls Try.prog 52 #[.int .i64 a] w fun e w' => e = .returned (.int .i64 (a % 4294967296)) ∧ w = w' := by
  go_enter Try.func52, Try.ntmps52
  go_wp2
  all_goals go_ret
  · exact ⟨ret_int (modNeg a ‹_›), rfl⟩
  · exact ⟨ret_int (modPos a ‹_›), rfl⟩

set_option maxHeartbeats 400000 in
theorem radd_any (a n : Int) (w : World) (h0 : 0 ≤ a) (h1 : a ≤ 4294967295) :
    Calls Try.prog 51 #[.int .u32 a, .int .i64 n] w fun e w' => e = .returned (.int .u32 (addU a n)) ∧ w = w' := by
  go_enter Try.func51, Try.ntmps51
  go_wp2_with (go_at_call 52; refine (mod_any _ _).mono ?_; rintro e w' ⟨rfl, rfl⟩)
  go_ret
  exact ⟨ret_int (by rw [tmod_round]; unfold addU wrap64; split <;> omega), rfl⟩

set_option maxHeartbeats 400000 in
theorem rahead_any (a b : Int) (w : World) (ha0 : 0 ≤ a) (ha1 : a ≤ 4294967295) (hb0 : 0 ≤ b) (hb1 : b ≤ 4294967295) :
    Calls Try.prog 50 #[.int .u32 a, .int .u32 b] w fun e w' => e = .returned (.int .i32 (ahd a b)) ∧ w = w' := by
  go_enter Try.func50, Try.ntmps50
  go_wp2_with (go_at_call 52; refine (mod_any _ _).mono ?_; rintro e w' ⟨rfl, rfl⟩)
  all_goals go_ret
  all_goals exact ⟨ret_int (by unfold ahd; (try unfold wrap32); (try unfold wrap64); omega), rfl⟩

/-- A slice of bytes that holds the numbers xs. -/
def Byt (w : World) (v : Value) (xs : List Int) : Prop :=
  ∃ A c, v = .slice A xs.length c ∧ xs.length ≤ c ∧ c ≤ maxLen ∧ (0 < xs.length → ∃ b o, A = some ⟨b, o, none⟩ ∧ b < w.heap.size ∧ ∀ i, i < xs.length → w.cell? ⟨b, o + i, none⟩ = some (.int .u8 (xs.getD i 0)))

def cutFirst (p f : Int) : Int := max (-(ahd f p)) 0
def cutLast (p f l : Int) (n : Nat) : Int := min (min l 2147483647 - ahd f p) n
def cutAt (p f l : Int) (n : Nat) : Int := if cutLast p f l n ≤ cutFirst p f then f else addU p (cutFirst p f)
def cutBs (p : Int) (xs : List Int) (f l : Int) : List Int :=
  if cutLast p f l xs.length ≤ cutFirst p f then [] else (xs.take (cutLast p f l xs.length).toNat).drop (cutFirst p f).toNat

theorem info5 : (Try.prog.info? 5).map (fun i => (i.zero, i.size, i.bytes)) = some (some (.int .u8 0), 1, 1) := by kernel_rfl

theorem fFacts (p f : Int) : (if 0 < ahd f p then 0 else -ahd f p) = cutFirst p f ∧ 0 ≤ cutFirst p f := by
  unfold cutFirst; constructor
  · split <;> omega
  · omega
theorem lFacts (p f l : Int) (n : Nat) : (if (n : Int) < (if 2147483647 < l then 2147483647 else l) - ahd f p then (n : Int) else (if 2147483647 < l then 2147483647 else l) - ahd f p) = cutLast p f l n ∧ cutLast p f l n ≤ n := by
  unfold cutLast; constructor
  · split <;> split <;> omega
  · omega

set_option maxHeartbeats 800000 in
theorem cut_any (p f l : Int) (A : Option Addr) (c : Nat) (xs : List Int) (w : World) (hb : Byt w (.slice A xs.length c) xs)
   (hp0 : 0 ≤ p) (hp1 : p ≤ 4294967295) (hf0 : 0 ≤ f) (hf1 : f ≤ 4294967295) (hl0 : 0 ≤ l) (hl1 : l ≤ 4294967295) :
    Calls Try.prog 25 #[.int .u32 p, .slice A xs.length c, .int .u32 f, .int .u32 l] w fun e w' => 
      ∃ v, e = .returned (.tuple #[.int .u32 (cutAt p f l xs.length), v]) ∧ w'.ownsRow w.heap.size 5 1 v (cutBs p xs f l).length ((cutBs p xs f l).map (.int .u8)) ∧ Below w.heap.size w w' := by
  have hbd := ahd_bd f p
  obtain ⟨n, hn⟩ : ∃ n, xs.length = n := ⟨_, rfl⟩
  have F1 := fFacts p f
  have L1 := lFacts p f l n
  obtain ⟨M, hM⟩ : ∃ M, (if 2147483647 < l then 2147483647 else l) = M := ⟨_, rfl⟩
  have hM0 : 0 ≤ M ∧ M ≤ 2147483647 := by rw [← hM]; split <;> omega
  rw [hM] at L1
  by_cases h : cutLast p f l xs.length ≤ cutFirst p f
  · rw [hn] at h ⊢
    have Hf : Hid (cutFirst p f = cutFirst p f) := rfl
    obtain ⟨F, hF⟩ : ∃ F, cutFirst p f = F := ⟨_, rfl⟩
    obtain ⟨L, hL⟩ : ∃ L, cutLast p f l n = L := ⟨_, rfl⟩
    have HF := Lib.hid hF
    have HL := Lib.hid hL
    rw [hF] at F1 h
    rw [hL] at L1 h
    clear hF hL
    obtain ⟨F1, F2⟩ := F1
    obtain ⟨L1, L2⟩ := L1
    go_enter Try.func25, Try.ntmps25
    go_wp2_with (first | (go_at_call 22; refine (ahead_any _ _ _).mono ?_; rintro e w' ⟨rfl, rfl⟩))
    go_ret2
    refine ⟨.slice none 0 0, ?_, ?_, Below.refl _ _⟩
    · rw [cutAt, HF.out, HL.out, if_pos h]; rfl
    · rw [cutBs, HF.out, hn, HL.out, if_pos h]; exact World.ownsRow_nil _ _ _ _
  · obtain ⟨A', c', hv, hc1, hc2, hb⟩ := hb
    cases hv
    obtain ⟨b, o, rfl, hbl, hcell⟩ := hb (by unfold cutLast cutFirst at h; omega)
    unfold maxLen at hc2
    rw [hn] at h hc1 ⊢
    obtain ⟨F, hF⟩ : ∃ F : Nat, cutFirst p f = F := ⟨(cutFirst p f).toNat, by omega⟩
    obtain ⟨k, hL⟩ : ∃ k : Nat, cutLast p f l n = (F : Int) + k := ⟨(cutLast p f l n - F).toNat, by omega⟩
    have HF := Lib.hid hF
    have HL := Lib.hid hL
    rw [hF] at F1 h
    rw [hL] at L1 h
    clear hF hL
    obtain ⟨F1, F2⟩ := F1
    obtain ⟨L1, L2⟩ := L1
    have hk : 0 < k := by omega
    have hmk := run_make_row' (P := Try.prog) 34 5 (.int .u8 0) 1 Try.underlying34 info5 rfl .i64 .i64 k (by omega) (by omega)
    obtain ⟨cs, hcs⟩ : ∃ cs, cs = ((xs.drop F).take k).map (Value.int .u8) := ⟨_, rfl⟩
    have HCS := Lib.hid hcs
    have hcl : cs.length = k := by rw [hcs]; simp; omega
    have hsrc : ∀ j v, cs[j]? = some v → w.cell? ⟨b, o + F + j, none⟩ = some v := by
      intro j v hj
      have hjk : j < k := by
        rcases Nat.lt_or_ge j k with h1 | h1
        · exact h1
        · rw [List.getElem?_eq_none (by omega)] at hj; cases hj
      have := hcell (F + j) (by omega)
      rw [show o + F + j = o + (F + j) from by omega, this]
      rw [hcs] at hj
      simp only [List.getElem?_map, List.getElem?_take, List.getElem?_drop, if_pos hjk] at hj
      rw [List.getElem?_eq_getElem (by omega)] at hj
      simp only [List.getD, List.getElem?_eq_getElem (show F + j < xs.length by omega)]
      exact hj
    have Hone : ∀ v ∈ cs, v.oneCell' = true := by
      intro v hv; rw [hcs] at hv; obtain ⟨x, _, rfl⟩ := List.mem_map.1 hv; rfl
    have hrun := run_copy_row (P := Try.prog) (w.alloc (Obj.cells (madeCells #[Value.int IntKind.u8 0] k) 5)) 34 34 3 5 w.heap.size 0 k k ⟨b, o + F, none⟩ k k (madeCells #[Value.int IntKind.u8 0] k) 5 cs Try.underlying34 (by kernel_rfl) (heap_alloc_new w _) (by rw [hcl]; simp) (fun j v hj => by rw [Go.WideShapes.add_plain, World.cell?_alloc_lt _ _ _ (by simpa using hbl)]; exact hsrc j v hj) (by rw [size_madeCells]; omega) Hone
    obtain ⟨W2, hW2⟩ : ∃ W2, W2 = (w.alloc (Obj.cells (madeCells #[Value.int IntKind.u8 0] k) 5)).setRow w.heap.size ((madeCells #[Value.int IntKind.u8 0] k).toList.take 0 ++ cs ++ (madeCells #[Value.int IntKind.u8 0] k).toList.drop (0 + cs.length)).toArray := ⟨_, rfl⟩
    rw [← hW2] at hrun
    have hB2 : Below w.heap.size w W2 := by rw [hW2]; exact below_setRow ((Below.refl _ _).alloc (Nat.le_refl _) _) (Nat.le_refl _) _
    have hH2 : W2.heap[w.heap.size]? = some (.cells cs.toArray 5 (0, 0)) := by
      rw [hW2, setRow_heap _ _ _ _ _ _ (heap_alloc_new w _)]
      congr 2
      simp [hcl, size_madeCells]
    have HB2 := Lib.hid hB2
    have HH2 := Lib.hid hH2
    have HCL := Lib.hid hcl
    clear hcs hsrc hcl hcell hb Hone hW2 hB2 hH2 hbl
    go_enter Try.func25, Try.ntmps25
    go_wp2_with (first | (go_at_call 22; refine (ahead_any _ _ _).mono ?_; rintro e w' ⟨rfl, rfl⟩) | (go_at_call 16; refine (add_any _ _ _).mono ?_; rintro e w' ⟨rfl, rfl⟩))
    go_ret2
    refine ⟨.slice (some ⟨w.heap.size, 0, none⟩) k k, ?_, ?_, HB2.out⟩
    · rw [cutAt, HF.out, HL.out, if_neg (by omega)]; rfl
    · rw [cutBs, HF.out, hn, HL.out, if_neg (by omega)]
      have e : (((F : Int) + k).toNat) = F + k := by omega
      have e2 : List.drop (F : Int).toNat (List.take ((F : Int) + k).toNat xs) = (xs.drop F).take k := by
        rw [e, Int.toNat_natCast, List.drop_take]; congr 1; omega
      rw [e2, ← HCS.out, ← List.length_map (f := Value.int .u8), ← HCS.out, HCL.out]
      exact ⟨by rw [HCL.out]; omega, .inr ⟨_, k, cs.toArray, rfl, Nat.le_refl _, HH2.out, Nat.le_refl _, by unfold maxLen; omega, by simp [HCL.out], by simpa using List.take_of_length_le (by rw [HCL.out]; omega)⟩⟩

theorem Byt.of_own {w : World} {base : Nat} {v : Value} {xs : List Int} (h : w.ownsRow base 5 1 v xs.length (xs.map (.int .u8))) : Byt w v xs := by
  rcases h.2 with ⟨rfl, h0⟩ | ⟨g, cap, cur, rfl, hb, hg, hn, hc, hs, ht⟩
  · exact ⟨none, 0, by rw [h0], by omega, by simp [maxLen], fun h => by omega⟩
  · refine ⟨_, cap, rfl, hn, hc, fun hp => ⟨g, 0, rfl, (Array.getElem?_eq_some_iff.1 hg).1, fun i hi => ?_⟩⟩
    have := h.cells (g := g) rfl i (.int .u8 (xs.getD i 0)) (by simp [List.getD, hi])
    rw [Go.WideShapes.add_plain] at this
    exact this
theorem Byt.below {w w' : World} {v : Value} {xs : List Int} (h : Byt w v xs) (hb : Below w.heap.size w w') : Byt w' v xs := by
  obtain ⟨A, c, rfl, h1, h2, h3⟩ := h
  refine ⟨A, c, rfl, h1, h2, fun hp => ?_⟩
  obtain ⟨b, o, rfl, hl, hc⟩ := h3 hp
  exact ⟨b, o, rfl, Nat.lt_of_lt_of_le hl hb.size, fun i hi => (hb.cell (p := ⟨b, o + i, none⟩) hl).trans (hc i hi)⟩

theorem Byt.str {w : World} {v : Value} {xs : List Int} (h : Byt w v xs) : (convert 34 9 v).run Try.prog w = .ok (.string (strOfNums xs)) w := by
  obtain ⟨A, c, rfl, _, _, h3⟩ := h
  rcases Nat.eq_zero_or_pos xs.length with h0 | h0
  · obtain rfl : xs = [] := List.eq_nil_of_length_eq_zero h0
    rw [run_convert_bytes_string w 34 9 5 _ _ c Try.underlying34 Try.underlying5 Try.underlying9]
    cases A <;> simp [Conv.bytesToString, loadCells]
    all_goals rfl
  · obtain ⟨b, o, rfl, hl, hc⟩ := h3 h0
    exact run_convert_bytes_arg (P := Try.prog) w 34 5 Try.underlying34 Try.underlying5 b o _ c xs rfl hc 9 Try.underlying9

theorem u8_inj : ∀ (xs ys : List Int), (∀ x ∈ xs, 0 ≤ x ∧ x ≤ 255) → (∀ x ∈ ys, 0 ≤ x ∧ x ≤ 255) → (xs.map fun n => UInt8.ofNat n.toNat) = (ys.map fun n => UInt8.ofNat n.toNat) → xs = ys
  | [], [], _, _, _ => rfl
  | [], _ :: _, _, _, h => by simp at h
  | _ :: _, [], _, _, h => by simp at h
  | x :: xs, y :: ys, h1, h2, h => by
    simp only [List.map_cons, List.cons.injEq] at h
    have hx := h1 x (by simp)
    have hy := h2 y (by simp)
    have e := congrArg UInt8.toNat h.1
    simp at e
    rw [u8_inj xs ys (fun z hz => h1 z (by simp [hz])) (fun z hz => h2 z (by simp [hz])) h.2]
    congr 1
    omega

def eqB (xs ys : List Int) : Bool := decide (xs = ys)

theorem strOf_toList (xs : List Int) : (strOfNums xs).toList = xs.map fun n => UInt8.ofNat n.toNat := by
  rw [Lib.toList_data]; rfl
theorem str_eq (xs ys : List Int) (h1 : ∀ x ∈ xs, 0 ≤ x ∧ x ≤ 255) (h2 : ∀ x ∈ ys, 0 ≤ x ∧ x ≤ 255) : ((strOfNums xs).toList == (strOfNums ys).toList) = eqB xs ys := by
  rw [strOf_toList, strOf_toList]
  unfold eqB
  by_cases h : xs = ys
  · subst h; simp
  · rw [decide_eq_false h]
    apply beq_eq_false_iff_ne.2
    intro e
    exact h (u8_inj xs ys h1 h2 e)

set_option maxHeartbeats 400000 in
theorem equal_any (v1 v2 : Value) (xs ys : List Int) (w : World) (h1 : Byt w v1 xs) (h2 : Byt w v2 ys) (r1 : ∀ x ∈ xs, 0 ≤ x ∧ x ≤ 255) (r2 : ∀ x ∈ ys, 0 ≤ x ∧ x ≤ 255) :
    Calls Try.prog 48 #[v1, v2] w fun e w' => e = .returned (.bool (eqB xs ys)) ∧ w = w' := by
  have HE := Lib.hid (str_eq xs ys r1 r2)
  have c1 := h1.str
  have c2 := h2.str
  clear h1 h2 r1 r2
  go_enter Try.func48, Try.ntmps48
  go_wp2
  go_ret
  exact ⟨ret_bool HE.out, rfl⟩

theorem Byt.const (w : World) (xs : List Int) (n : Nat) (fr : Nat × Nat) (hx : xs.length = n) (hm : n ≤ maxLen) : Byt (w.alloc (.cells (xs.map (.int .u8)).toArray 5 fr)) (.slice (some ⟨w.heap.size, 0, none⟩) n n) xs := by
  subst hx
  refine ⟨_, _, rfl, Nat.le_refl _, hm, fun hp => ⟨_, _, rfl, by simp, fun i hi => ?_⟩⟩
  rw [Nat.zero_add, cell_of_row _ _ i _ 5 fr (heap_alloc_new w _)]
  simp [List.getD, hi]

theorem bd_u32 {a : Int} (h : (Lit.int .u32 a).wf = true) : 0 ≤ a ∧ a ≤ 4294967295 := by
  simp [Lit.wf, IntKind.min, IntKind.max, IntKind.signed, IntKind.bits] at h; omega
theorem bd_u64 {a : Int} (h : (Lit.int .u64 a).wf = true) : 0 ≤ a ∧ a ≤ 18446744073709551615 := by
  simp [Lit.wf, IntKind.min, IntKind.max, IntKind.signed, IntKind.bits] at h; omega
theorem bd_i64 {a : Int} (h : (Lit.int .i64 a).wf = true) : -9223372036854775808 ≤ a ∧ a ≤ 9223372036854775807 := by
  simp [Lit.wf, IntKind.min, IntKind.max, IntKind.signed, IntKind.bits] at h; omega

theorem own_len {w : World} {base : Nat} {e : TypeId} {size n : Nat} {v : Value} {xs : List Value} (h : w.ownsRow base e size v n xs) : ∃ A c, v = .slice A n c := by
  rcases h.2 with ⟨rfl, h0⟩ | ⟨g, cap, cur, rfl, _⟩
  · exact ⟨none, 0, by rw [h0]⟩
  · exact ⟨_, cap, rfl⟩

/-- An argument that is a slice of bytes, read. -/
theorem open_byt {H : Type} {enc : TypeId × Value → H} {W : World} {fuel : Nat} {v : Value} {y : DataW H × List MemPlace}
    (hf : DataW.trod enc Try.prog W 0 (fun _ => true) true fuel 34 [v] = some y) : ∃ xs, Byt W v xs ∧ (∀ x ∈ xs, 0 ≤ x ∧ x ≤ 255) := by
  rcases Go.ChangeShapes.open_ints Try.underlying34 Try.underlying5 (by kernel_rfl) hf with ⟨hcs, _⟩ | ⟨a, l, c, zs, hcs, _, hl, hm, hz, _, hcell, hwz⟩
  · simp at hcs
    subst hcs
    exact ⟨[], ⟨none, 0, rfl, Nat.le_refl _, by simp [maxLen], fun h => by simp at h⟩, fun x hx => by simp at hx⟩
  · simp at hcs hz
    subst hcs
    refine ⟨zs.take l, ⟨some a, c, ?_, ?_, hm, ?_⟩, ?_⟩
    · rw [List.length_take, Nat.min_eq_left (by omega)]
    · rw [List.length_take]; omega
    · rw [List.length_take]
      intro hp
      obtain ⟨b, o, s⟩ := a
      obtain rfl : s = none := by simpa [Addr.add] using World.cell?_spot (hcell 0 (by omega))
      have h0 := hcell 0 (by omega)
      refine ⟨b, o, rfl, World.block_lt_of_cell? W _ h0, fun i hi => ?_⟩
      have := hcell i (by omega)
      rw [Go.WideShapes.add_plain] at this
      rw [this]
      simp [List.getD, show i < l by omega]
    · intro x hx
      have := hwz x (List.mem_of_mem_take hx)
      simp [Lit.wf, IntKind.min, IntKind.max, IntKind.signed, IntKind.bits] at this
      omega

theorem Byt.cut {w : World} {A : Option Addr} {n c : Nat} {xs : List Int} (h : Byt w (.slice A n c) xs) (k : Nat) (hk : k ≤ n) : Byt w (.slice A k c) (xs.take k) := by
  obtain ⟨A', c', hv, h1, h2, h3⟩ := h
  cases hv
  refine ⟨A, c, ?_, ?_, h2, ?_⟩
  · rw [List.length_take, Nat.min_eq_left hk]
  · rw [List.length_take]; omega
  · rw [List.length_take]
    intro hp
    obtain ⟨b, o, rfl, hl, hc⟩ := h3 (by omega)
    exact ⟨b, o, rfl, hl, fun i hi => by rw [hc i (by omega)]; simp [List.getD, show i < k by omega]⟩

/-- A world of a class. -/
structure ClsW (p : World → Prop) where
  val : World
  prop : p val
/-- A region that draws its order, walked once in the order of the text, in whatever world of a class. -/
theorem wp_region_class {P : Program} (p : World → Prop) {id : Nat} {Q : Exit → Act → World → Prop} {a : Act} {w : World} {l : List Oper} (hm : P.follows .mixedOrders = true) (hB : Region.lexB .any l.toArray = true) (h0 : p { w with drawn := w.drawn + 1 })
    (h : Nonempty (ClsW p) → wpQuiet P l.toArray (fun w' => ∃ W : ClsW p, w' = W.val) (fun a' => ∀ w', (∃ W : ClsW p, w' = W.val) → Q .normal a' w') l a) : (Code.region id l.toArray true).wp P Q a w :=
  wp_region_quiet (C := fun w' => ∃ W : ClsW p, w' = W.val) hm hB ⟨⟨_, h0⟩, rfl⟩ (by simpa using h ⟨⟨_, h0⟩⟩)
theorem class_same {P : Program} {p : World → Prop} {f : FuncId} {args : Array Value} {W : ClsW p} {v : Value}
    (h : Calls P f args W.val fun e w' => e = .returned v ∧ W.val = w') : Calls P f args W.val fun e w'' => e = .returned v ∧ ∃ W' : ClsW p, w'' = W'.val :=
  h.mono fun _ _ ⟨he, hm⟩ => ⟨he, W, hm.symm⟩
/-- The class of the worlds that are, below block B, as w0. -/
def InB (B : Nat) (w0 : World) (W : World) : Prop := Below B w0 W ∧ B ≤ W.heap.size
theorem class_below {P : Program} {B : Nat} {w0 : World} {f : FuncId} {args : Array Value} {W : ClsW (InB B w0)} {v : Value}
    (h : Calls P f args W.val fun e w' => e = .returned v ∧ Below W.val.heap.size W.val w') : Calls P f args W.val fun e w'' => e = .returned v ∧ ∃ W' : ClsW (InB B w0), w'' = W'.val :=
  h.mono fun _ w' ⟨he, hm⟩ => ⟨he, ⟨w', W.2.1.trans (hm.mono W.2.2), Nat.le_trans W.2.2 hm.size⟩, rfl⟩
theorem class_cell {B : Nat} {w0 : World} (W : ClsW (InB B w0)) {p : Addr} {v : Value} (h : w0.cell? p = some v) (hp : p.block < B) : W.val.cell? p = some v := (W.2.1.cell hp).trans h

theorem cutBs_mem (a b l : Int) (xs : List Int) (h : ∀ x ∈ xs, 0 ≤ x ∧ x ≤ 255) : ∀ x ∈ cutBs a xs b l, 0 ≤ x ∧ x ≤ 255 := by
  intro x hx
  unfold cutBs at hx
  split at hx
  · cases hx
  · exact h x (List.mem_of_mem_take (List.mem_of_mem_drop hx))
theorem eqB_self (xs : List Int) : eqB xs xs = true := by simp [eqB]
theorem mod_bd (a : Int) : 0 ≤ a % 4294967296 ∧ a % 4294967296 ≤ 4294967295 := by omega

theorem cut_n (p f l : Int) (A : Option Addr) (c : Nat) (xs : List Int) (n : Nat) (w : World) (hn : xs.length = n) (hb : Byt w (.slice A n c) xs)
   (hp0 : 0 ≤ p) (hp1 : p ≤ 4294967295) (hf0 : 0 ≤ f) (hf1 : f ≤ 4294967295) (hl0 : 0 ≤ l) (hl1 : l ≤ 4294967295) :
    Calls Try.prog 25 #[.int .u32 p, .slice A n c, .int .u32 f, .int .u32 l] w fun e w' =>
      ∃ v, e = .returned (.tuple #[.int .u32 (cutAt p f l n), v]) ∧ w'.ownsRow w.heap.size 5 1 v (cutBs p xs f l).length ((cutBs p xs f l).map (.int .u8)) ∧ Below w.heap.size w w' := by
  subst hn
  exact cut_any p f l A c xs w hb hp0 hp1 hf0 hf1 hl0 hl1
theorem grown_trans {a b c : World} {row : Option Nat} (h : a.grownBy b row) (k : b.grownBy c row) : a.grownBy c row :=
  ⟨k.os.trans h.os, k.tape.trans h.tape, k.output.trans h.output, Nat.le_trans h.size k.size, fun i hi hr => (k.block i (Nat.lt_of_lt_of_le hi h.size) hr).trans (h.block i hi hr)⟩
theorem grown_setCell (w : World) (g i : Nat) (u : Value) : w.grownBy (w.setCell ⟨g, i, none⟩ u) (some g) :=
  ⟨rfl, rfl, rfl, by simp [World.setCell], fun k _ hk => Below.heap_setCell w ⟨g, i, none⟩ u k (fun e => hk (by rw [e]))⟩

/-- An owned row of one-cell elements: one of its cells. -/
theorem own_at {w : World} {base : Nat} {e : TypeId} {ao : Option Addr} {n cap : Nat} {xs : List Value} (h : w.ownsRow base e 1 (.slice ao n cap) n xs) {i : Nat} (hi : i < n) :
    ∃ g, ao = some ⟨g, 0, none⟩ ∧ base ≤ g ∧ g < w.heap.size ∧ n ≤ cap ∧ cap ≤ maxLen ∧ w.cell? ⟨g, i, none⟩ = some (xs.getD i undef) ∧ w.frozen? ⟨g, i, none⟩ = false ∧
      ∀ u, (w.setCell ⟨g, i, none⟩ u).ownsRow base e 1 (.slice ao n cap) n (xs.set i u) := by
  rcases h.2 with ⟨h0, h1⟩ | ⟨g, cap', cur, hv, hb, hg, hn, hc, hs, ht⟩
  · omega
  · injection hv with h1 h2 h3
    subst h1; subst h3
    have hx := h.1
    refine ⟨g, rfl, hb, (Array.getElem?_eq_some_iff.1 hg).1, hn, hc, ?_, ?_, fun u => ⟨by simp [hx], .inr ⟨g, cap, cur.setIfInBounds i u, rfl, hb, ?_, hn, hc, by simp [hs], ?_⟩⟩⟩
    · rw [cell_of_row _ _ i _ e (0, 0) hg, ← ht]
      simp only [List.getD, List.getElem?_take, Nat.mul_one, if_pos hi]
      rw [Array.getElem?_toList, Array.getElem?_eq_getElem (by omega)]
      rfl
    · simp [World.frozen?, hg]
    · simp [World.setCell, Array.getElem?_modify, hg]
    · rw [← ht]
      simp [List.take_set]

/-- Appending a slice of bytes, nil or not, to a row of the call's own. -/
theorem run_append_byt {w : World} (base : Nat) (v : Value) (n : Nat) (xs : List Value) (hown : w.ownsRow base 5 1 v n xs) (A : Option Addr) (m c : Nat) (ys : List Int) (hy : ys.length = m) (hb : Byt w (.slice A m c) ys)
    (hsm : n + m ≤ 1000000) (hbase : base ≤ w.heap.size) :
    ∃ v' w', (Builtin.append_ #[34, 34] 34 #[v, .slice A m c]).run Try.prog w = .ok v' w' ∧ w'.ownsRow base 5 1 v' (n + m) (xs ++ ys.map (.int .u8)) ∧ w.grownBy w' v.ownBlock := by
  obtain ⟨i0, hi, hz0, hz1, hz2⟩ := info_parts info5
  subst hy
  obtain ⟨A', c', hv, h1, h2, h3⟩ := hb
  cases hv
  cases A with
  | none =>
    have h0 : ys.length = 0 := by
      rcases Nat.eq_zero_or_pos ys.length with h | h
      · exact h
      · obtain ⟨b, o, h', _⟩ := h3 h; cases h'
    obtain rfl : ys = [] := List.eq_nil_of_length_eq_zero h0
    refine ⟨v, w, ?_, by simpa using hown, ⟨rfl, rfl, rfl, Nat.le_refl _, fun _ _ _ => rfl⟩⟩
    rcases hown.2 with ⟨rfl, rfl⟩ | ⟨g, cap, cur, rfl, _, _, hnc, _⟩
    · simp [Builtin.append_, run_underlying Try.underlying34, sizeOf, typeInfo, hi, Builtin.lenOf, Builtin.firstCells]
    · simp [Builtin.append_, run_underlying Try.underlying34, sizeOf, typeInfo, hi, Builtin.lenOf, Builtin.firstCells, hnc, storeCells]
  | some ad =>
    obtain ⟨v', w', hr, ho, hg, _⟩ := run_append_own (P := Try.prog) w base 34 34 5 i0 (.int .u8 0) 1 1 Try.underlying34 hi hz0 hz1 hz2 rfl (by decide) v n xs hown ad ys.length c (ys.map (.int .u8)) (by simp)
      (fun j u hu => by
        have hj : j < ys.length := by
          rcases Nat.lt_or_ge j ys.length with h | h
          · exact h
          · rw [List.getElem?_eq_none (by simpa using h)] at hu; cases hu
        obtain ⟨b, o, hab, _, hc⟩ := h3 (by omega)
        cases hab
        rw [Go.WideShapes.add_plain, hc j hj]
        rw [List.getElem?_map, List.getElem?_eq_getElem hj] at hu
        simp only [List.getD, List.getElem?_eq_getElem hj]
        exact hu)
      (fun u hu => by obtain ⟨x, _, rfl⟩ := List.mem_map.1 hu; rfl) (by unfold maxLen; omega) (by omega) hbase
    exact ⟨v', w', hr, ho, hg⟩

theorem Byt.other {w w' : World} {base : Nat} {v : Value} {xs : List Int} {g : Nat} (h : w.ownsRow base 5 1 v xs.length (xs.map (.int .u8))) (hg : w.grownBy w' (some g)) (hne : v.ownBlock ≠ some g) : Byt w' v xs :=
  Byt.of_own (h.kept hg (.inr hne))
theorem Byt.grown {w w' : World} {v : Value} {xs : List Int} {row : Option Nat} (h : Byt w v xs) (hg : w.grownBy w' row) (hne : ∀ b, v.ownBlock = some b → row ≠ some b) : Byt w' v xs := by
  obtain ⟨A, c, rfl, h1, h2, h3⟩ := h
  refine ⟨A, c, rfl, h1, h2, fun hp => ?_⟩
  obtain ⟨b, o, rfl, hl, hc⟩ := h3 hp
  exact ⟨b, o, rfl, Nat.lt_of_lt_of_le hl hg.size, fun i hi => (World.cell?_of_block (a := ⟨b, o + i, none⟩) (hg.block b hl (fun e => hne b rfl e.symm))).trans (hc i hi)⟩

theorem wpList_append_runG {P : Program} (w : World) {ops : Array Oper} {rest : List Oper} {o : Oper} {a : Act} {Q : Exit → Act → World → Prop} (hw : Region.wanted o (yielded ops a.tmps) = true) (s x : Operand) (t tn : TypeId)
    (ho : o.op = .call { callee := .builtin .append, args := #[s, x], argTypes := #[t, tn] }) (vs vx : Value) (hs : a.eval s = vs) (hx : a.eval x = vx)
    (v' : Value) (w' : World) (hr : (Builtin.append_ #[t, tn] o.type #[vs, vx]).run P w = .ok v' w') (h : wpList P ops Q rest (a.put o.dst v') w') : wpList P ops Q (o :: rest) a w :=
  wpList_want hw fun _ hK => Lib.wp_append_run w s x t tn ho vs vx hs hx v' w' hr (hK _ _ h)

end Go.Proofs.Ytpigomkhpdfdcaa
