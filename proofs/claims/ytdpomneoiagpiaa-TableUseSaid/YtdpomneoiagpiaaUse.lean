/- TableUse, walked. -/
import Derived.Test.YtdpomneoiagpiaaUsLaw
import Derived.Maps.AppendAt
set_option linter.unusedVariables false
namespace Go.Proofs.Ytdpomneoiagpiaa
open Go.RowKit Go.Deep Go.BigFrame
attribute [local go_sem ↓] Go.wp_at_zero Go.wp_at_succ
theorem use_add1 {m n : Nat} (hn : n < m) :
    addE ⟨m, fillL useI useO n, n⟩ (useI n) (useO n) = 0 ∧ addN ⟨m, fillL useI useO n, n⟩ (useI n) (useO n) = (n : Int) + 1 ∧ addW ⟨m, fillL useI useO n, n⟩ (useI n) (useO n) = 0 ∧ addS ⟨m, fillL useI useO n, n⟩ (useI n) (useO n) = ⟨m, fillL useI useO (n + 1), n + 1⟩ :=
  fill_add hn (fun j hj e => by have := of_inj e; omega) (fun e => by have := of_zero.1 e; omega) (fun h => absurd rfl h)
theorem Tab.other {w0 w w' : World} {g b1 b2 N b : Nat} {s : TS} {cur : Array Value} (h : Tab w0 w g b1 b2 N s) (hg : w.grownBy w' (some b)) (hb : w0.heap.size ≤ b) (hc : b < w.heap.size → ∃ cur fr, w.heap[b]? = some (.cells cur 27 fr)) : Tab w0 w' g b1 b2 N s := by
  obtain ⟨A, c, ht, hk⟩ := h.tb
  refine ⟨⟨A, c, ht.keptE fun i hi => hg.block i (ht.blk hi) (fun e => ?_), hk⟩, h.ok, grown_bel h.bel hg (by rintro k e; cases e; exact hb)⟩
  injection e with e
  subst e
  obtain ⟨cur, fr, hh⟩ := hc (ht.blk hi)
  rcases hi with rfl | rfl | rfl | hi
  · rw [ht.heap] at hh
    injection hh with hh
    injection hh with _ hh
    cases hh
  · obtain ⟨es, ck, hm⟩ := ht.inn.isMap
    rw [hm] at hh
    cases hh
  · obtain ⟨es, ck, hm⟩ := ht.out.isMap
    rw [hm] at hh
    cases hh
  · obtain ⟨_, cs, fr', hx⟩ := row_lt ht.own hi
    rw [hx] at hh
    injection hh with hh
    injection hh with _ hh
    cases hh
def nums (L : List Nat) : List Value := L.map (fun (x : Nat) => .int .u64 (x : Int))
theorem push_u64 {w : World} (B : Nat) (A : Option Addr) (c n : Nat) (L : List Nat) (hown : w.ownsRow B 27 1 (.slice A n c) n (nums L)) (x : Nat) (hsm : n ≤ 40000) (hB : B ≤ w.heap.size) :
    ∃ A' c' w', (Builtin.append_ #[35, 35] 35 #[.slice A n c, .slice (some ⟨w.heap.size, 0, none⟩) 1 1]).run Try.prog (w.alloc (.cells #[.int .u64 (x : Int)] 27)) = .ok (.slice A' (n + 1) c') w' ∧ w'.ownsRow B 27 1 (.slice A' (n + 1) c') (n + 1) (nums (L ++ [x])) ∧ (w.alloc (.cells #[.int .u64 (x : Int)] 27)).grownBy w' (Value.slice A n c).ownBlock := by
  obtain ⟨i0, hi, hz0, hz1, hz2⟩ := info_parts info27
  obtain ⟨v', w', hr, ho, hg, _, hat⟩ := run_append_own_at (P := Try.prog) (w.alloc (.cells #[.int .u64 (x : Int)] 27)) B 35 35 27 i0 _ 1 8 Try.underlying35 hi hz0 hz1 hz2 rfl (by decide) (.slice A n c) n (nums L) (hown.alloc _) ⟨w.heap.size, 0, none⟩ 1 1 [.int .u64 (x : Int)] rfl
    (fun j u hu => by
      have hj := (List.getElem?_eq_some_iff.1 hu).1
      obtain rfl : j = 0 := by simpa using hj
      rw [Go.WideShapes.add_plain, cell_of (heap_alloc_new w _)]
      exact hu) (one27 _) (by unfold maxLen; omega) (by omega) (by simp; omega)
  obtain ⟨A', c', rfl⟩ := own_len ho
  exact ⟨A', c', w', hr, by simpa [nums] using ho, hg⟩
theorem own_usl {w : World} {B c n : Nat} {A : Option Addr} {L : List Nat} (h : w.ownsRow B 27 1 (.slice A n c) n (nums L)) (hn : 0 < n) : ∃ b, A = some ⟨b, 0, none⟩ ∧ B ≤ b ∧ USl w b 0 n c L := by
  have hl := h.1
  rcases h.2 with ⟨_, h4⟩ | ⟨g, cap, cur, h3, hb, hg, q1, q2, q3, q4⟩
  · omega
  · injection h3 with h3 _ h5
    subst h3 h5
    refine ⟨g, rfl, hb, ⟨⟨cur, hg, by omega, fun i x hx => ?_⟩, q1, q2, by simpa [nums] using hl⟩⟩
    have hi := (List.getElem?_eq_some_iff.1 hx).1
    have hl2 : L.length = n := by simpa [nums] using hl
    have e1 : cur[0 + i]? = (cur.toList.take (n * 1))[i]? := by
      rw [List.getElem?_take_of_lt (by omega), Array.getElem?_toList]
      congr 1
      omega
    rw [e1, q4]
    unfold nums
    rw [List.getElem?_map, hx]
    rfl
def leftL (keep j : Nat) : List Nat := ((List.range j).map (· + 1)).filter (fun x => x != keep)
theorem leftL_succ (keep j : Nat) : leftL keep (j + 1) = if j + 1 = keep then leftL keep j else leftL keep j ++ [j + 1] := by
  unfold leftL
  rw [List.range_succ, List.map_append, List.filter_append]
  by_cases h : j + 1 = keep
  · rw [if_pos h]
    simp [h]
  · rw [if_neg h]
    simp [h]
theorem left_split {keep n : Nat} (h0 : 1 ≤ keep) (h1 : keep ≤ n) : ∃ X Y, (List.range n).map (· + 1) = X ++ keep :: Y ∧ leftL keep n = X ++ Y ∧ keep ∉ X ++ Y ∧ (X ++ Y).length + 1 = n ∧ ∀ id ∈ X ++ keep :: Y, id ≤ n := by
  have hm : keep ∈ (List.range n).map (· + 1) := by
    rw [List.mem_map]
    exact ⟨keep - 1, List.mem_range.2 (by omega), by omega⟩
  obtain ⟨X, Y, e⟩ := List.append_of_mem hm
  have hnd : ((List.range n).map (· + 1)).Nodup := by
    rw [List.nodup_iff_pairwise_ne, List.pairwise_map]
    exact (List.nodup_iff_pairwise_ne.1 List.nodup_range).imp (fun h q => h (by omega))
  rw [e, List.nodup_append, List.nodup_cons] at hnd
  have hX : keep ∉ X := fun q => hnd.2.2 keep q keep (by simp) rfl
  have hY : keep ∉ Y := hnd.2.1.1
  refine ⟨X, Y, e, ?_, by simp [hX, hY], ?_, fun id hid => ?_⟩
  · unfold leftL
    rw [e, List.filter_append, List.filter_cons]
    have f1 : X.filter (fun x => x != keep) = X := List.filter_eq_self.2 (fun x hx => by simp; intro q; exact hX (by rw [← q]; exact hx))
    have f2 : Y.filter (fun x => x != keep) = Y := List.filter_eq_self.2 (fun x hx => by simp; intro q; exact hY (by rw [← q]; exact hx))
    rw [f1, f2]
    simp
  · have := congrArg List.length e
    simp at this ⊢
    omega
  · rw [← e, List.mem_map] at hid
    obtain ⟨j, hj, rfl⟩ := hid
    have := List.mem_range.1 hj
    omega
theorem use_round {w V4 w' : World} {g d1 d2 j r l b o cc b' o' c' h K R : Nat} {t X Y : List Nat} {wx : World} (hj : j ≤ 100) (hr : r < R) (hw : Below w.heap.size w wx) (hT : Tab w V4 g d1 d2 (j + r + 1) ⟨j, useL j (t ++ [K + 1] ++ [j + r + 1]), j + r + 1⟩)
    (hU : USl V4 b o l cc (h :: t)) (hU' : USl w' b' o' l c' (t ++ [j + r + 1])) (hg : (V4.alloc (.cells #[.int .u64 ((j + r + 1 : Nat) : Int)] 27)).grownBy w' (some b)) (hb' : b' = b ∨ (V4.alloc (.cells #[.int .u64 ((j + r + 1 : Nat) : Int)] 27)).heap.size ≤ b')
    (hbb : w.heap.size ≤ b) (hni : K + 1 ∉ X ++ Y) (hXY : X ++ Y = h :: t) (hid : ∀ id ∈ X ++ (K + 1) :: Y, id ≤ j + r) (hKj : K + 1 ≤ j) :
    ∃ (r' b1 o1 cc1 : Nat) (X1 Y1 : List Nat), Value.slice (some ⟨b', o', none⟩) l c' = .slice (some ⟨b1, o1, none⟩) l cc1 ∧ Value.int .i64 ((r : Int) + 1) = .int .i64 r' ∧ r' ≤ R ∧ Tab w w' g d1 d2 (j + r') ⟨j, useL j (X1 ++ (K + 1) :: Y1), j + r'⟩ ∧ USl w' b1 o1 l cc1 (X1 ++ Y1) ∧ w.heap.size ≤ b1 ∧ K + 1 ∉ X1 ++ Y1 ∧ ∀ id ∈ X1 ++ (K + 1) :: Y1, id ≤ j + r' := by
  obtain ⟨cur, h1, _⟩ := hU.ex
  have hbl := hU.lt
  have hT1 := (hT.below ((Below.refl _ _).alloc (Nat.le_refl _) (.cells #[.int .u64 ((j + r + 1 : Nat) : Int)] 27))).other (cur := #[]) hg hbb (fun _ => ⟨cur, _, (((Below.refl V4.heap.size V4).alloc (Nat.le_refl _) _).block b hbl).trans h1⟩)
  refine ⟨r + 1, b', o', c', t, [j + r + 1], rfl, by simp, by omega, by simpa [List.append_assoc, Nat.add_assoc] using hT1, hU', ?_, ?_, ?_⟩
  · rcases hb' with rfl | hb'
    · exact hbb
    · have := hT.bel.size
      simp at hb'
      omega
  · intro q
    rcases List.mem_append.1 q with q | q
    · exact hni (by rw [hXY]; exact List.mem_cons_of_mem _ q)
    · simp at q
      omega
  · intro id q
    have hmem : ∀ y ∈ t, y ≤ j + r := fun y hy => by
      have : y ∈ X ++ Y := by rw [hXY]; exact List.mem_cons_of_mem _ hy
      rcases List.mem_append.1 this with z | z
      · exact hid y (List.mem_append_left _ z)
      · exact hid y (List.mem_append_right _ (List.mem_cons_of_mem _ z))
    rcases List.mem_append.1 q with q | q
    · have := hmem id q
      omega
    · simp at q
      rcases q with rfl | rfl <;> omega
set_option maxHeartbeats 1600000 in
set_option maxRecDepth 100000 in
theorem use_walk (a b c : Int) (w : World) (a0 : 0 ≤ a) (a1 : a ≤ 255) (b0 : 0 ≤ b) (b1 : b ≤ 255) (c0 : 0 ≤ c) (c1 : c ≤ 255) :
    Calls Try.prog 3 #[.int .u8 a, .int .u8 b, .int .u8 c] w fun e w' => e = .returned (.bool true) ∧ Below w.heap.size w w' := by
  obtain ⟨m, hm, hm2, hm3⟩ : ∃ m : Nat, 2 + a % 19 = (m : Int) ∧ 2 ≤ m ∧ m ≤ 20 := ⟨(2 + a % 19).toNat, by omega, by omega, by omega⟩
  have HNEW := Lib.hid (fun W => tab_new m w W (by omega) (by omega))
  have HOF := Lib.hid of_any
  have HAW := Lib.hid awake_any
  obtain ⟨K, hK, hKm⟩ : ∃ x : Nat, c % (m : Int) = (x : Int) ∧ x < m := ⟨(c % m).toNat, by have := Int.emod_nonneg c (show (m : Int) ≠ 0 by omega); omega, by have := Int.emod_lt_of_pos c (show (0 : Int) < m by omega); have := Int.emod_nonneg c (show (m : Int) ≠ 0 by omega); omega⟩
  obtain ⟨R, hR, hRm⟩ : ∃ x : Nat, b % 60 = (x : Int) ∧ x < 60 := ⟨(b % 60).toNat, by omega, by omega⟩
  have HKR := Lib.hid (And.intro hK (And.intro hKm (And.intro hR hRm)))
  clear hK hKm hR hRm
  go_enter Try.func3, Try.ntmps3
  go_wp2_with fail
  with_reducible refine (HNEW.out _ (Below.refl _ _)).mono ?_
  rintro e W ⟨g, d1, d2, rfl, hT, -⟩
  have HT := Lib.hid hT
  clear hT
  go_wp2_with fail
  with_reducible refine (HAW.out _).mono ?_
  rintro e W1 ⟨rfl, hb⟩
  have HT := Lib.hid (HT.out.below hb)
  clear hb hm
  go_wp2_with fail
  go_loopw [40] (fun v40 wr => ∃ n : Nat, v40 = .int .i64 n ∧ n ≤ m ∧ Tab w wr g d1 d2 n ⟨m, fillL useI useO n, n⟩) (fun v40 _ => m - (intOf v40).toNat)
  case atStart => exact ⟨0, rfl, Nat.zero_le _, HT.out⟩
  case round =>
    obtain ⟨n, rfl, hn, hT⟩ := hrel
    have HTN := Lib.hid hT
    clear hT
    by_cases hlt : n < m
    · have HL := Lib.hid (use_add1 hlt)
      go_wp2_with fail
      with_reducible refine (HOF.out _ _).mono ?_
      rintro e W2 ⟨rfl, hb⟩
      have HT2 := Lib.hid (HTN.out.below hb)
      clear hb
      go_wp2_with fail
      with_reducible refine (HOF.out _ _).mono ?_
      rintro e W3 ⟨rfl, hb⟩
      have HT3 := Lib.hid (HT2.out.below hb)
      clear hb
      have HA := Lib.hid (tab_addE HT3.out (useI n) (useO n) (of_ok (by omega) (by omega)) (of_ok (by omega) (by omega)) (by show n < _; omega) (by omega) HL.out.2.1 HL.out.2.2.1 HL.out.1 HL.out.2.2.2)
      unfold useI useO at HA
      go_wp2_with fail
      (with_reducible refine HA.out.mono ?_)
      rintro e W4 ⟨rfl, hT, -⟩
      have HT4 := Lib.hid hT
      clear hT
      go_wp2_with fail
      go_roundw
      case rel => exact ⟨n + 1, by simp, by omega, HT4.out⟩
      case measure => simp [intOf]; omega
    · obtain rfl : n = m := by omega
      have hK := HKR.out.1
      have hKm := HKR.out.2.1
      have hn0 : ¬ (n : Int) = 0 := by omega
      go_wp2_with fail
      clear hK
      go_loopw [15, 75] (fun v15 v75 ws => ∃ (j l cc : Nat) (A : Option Addr), v15 = .slice A l cc ∧ v75 = .int .i64 j ∧ j ≤ n ∧ l ≤ j ∧ Tab w ws g d1 d2 n ⟨n, fillL useI useO n, n⟩ ∧ ws.ownsRow w.heap.size 27 1 (.slice A l cc) l (nums (leftL (K + 1) j))) (fun _ v75 _ => n - (intOf v75).toNat)
      case atStart => exact ⟨0, 0, 0, none, rfl, rfl, Nat.zero_le _, Nat.zero_le _, HTN.out, World.ownsRow_nil _ _ _ _⟩
      case round =>
        obtain ⟨j, l, cc, A, rfl, rfl, hj, hl, hT, ho⟩ := hrel
        have HTJ := Lib.hid hT
        have HOJ := Lib.hid ho
        clear hT ho
        by_cases hjn : j < n
        · by_cases hjk : j + 1 = K + 1
          · have hjk2 : j = K := by omega
            subst hjk2
            go_wp2_with fail
            go_roundw
            case rel => exact ⟨j + 1, l, cc, A, rfl, by simp, by omega, by omega, HTJ.out, by rw [leftL_succ, if_pos rfl]; exact HOJ.out⟩
            case measure => simp [intOf]; omega
          · have hbt : (((j : Int) + 1) != 1 + (K : Int)) = true := by simp; omega
            obtain ⟨A2, c2, w2, hr, ho2, hg2⟩ := push_u64 w.heap.size A cc l _ HOJ.out (j + 1) (by omega) HTJ.out.bel.size
            have HR := Lib.hid hr
            have HO2 := Lib.hid ho2
            have HG2 := Lib.hid hg2
            clear hr ho2 hg2
            go_wp2_with (at_builtin; refine Lib.wpList_append_run _ rfl _ _ 35 35 rfl _ _ rfl rfl _ _ (by exact HR.out) ?_)
            go_roundw
            case rel =>
              refine ⟨j + 1, l + 1, c2, A2, rfl, by simp, by omega, by omega, ?_, by rw [leftL_succ, if_neg hjk]; exact HO2.out⟩
              have hT1 := HTJ.out.below ((Below.refl _ _).alloc (Nat.le_refl _) (Obj.cells #[.int .u64 ((j + 1 : Nat) : Int)] 27))
              rcases HOJ.out.2 with ⟨h3, h4⟩ | ⟨gg, cap, cur, h3, hb3, hg3, _⟩
              · injection h3 with h3
                have hG := HG2.out
                rw [h3] at hG
                exact hT1.below ⟨hG.os, hG.tape, hG.output, hG.size, fun k hk => hG.block k hk (by simp [Value.ownBlock])⟩
              · injection h3 with h3
                have hG := HG2.out
                rw [h3] at hG
                exact hT1.other (cur := #[]) hG hb3 (fun _ => ⟨cur, _, (((Below.refl wr.heap.size _).alloc (Nat.le_refl _) _).block gg (Array.getElem?_eq_some_iff.1 hg3).1).trans hg3⟩)
            case measure => simp [intOf]; omega
        · obtain rfl : j = n := by omega
          obtain ⟨X, Y, e1, e2, e3, e4, e5⟩ := left_split (keep := K + 1) (n := j) (by omega) (by omega)
          have hll : (leftL (K + 1) j).length = l := by have := HOJ.out.1; simpa [nums] using this
          rw [e2] at hll
          have hlj : l + 1 = j := by omega
          obtain ⟨bb, rfl, hbb, hU⟩ := own_usl HOJ.out (by omega)
          rw [e2] at hU
          have hT0 := HTJ.out
          rw [use_fill j j (Nat.le_refl _), e1] at hT0
          have H0 := Lib.hid (And.intro hT0 (And.intro hU (And.intro hbb (And.intro e3 e5))))
          have hR := HKR.out.2.2.1
          have hRm := HKR.out.2.2.2
          clear hT0 hU hbb e1 e2 e3 e4 e5 hll
          go_wp2_with fail
          clear hR
          go_loopw [15, 92] (fun v15 v92 wt => ∃ (r b o cc : Nat) (X Y : List Nat), v15 = .slice (some ⟨b, o, none⟩) l cc ∧ v92 = .int .i64 r ∧ r ≤ R ∧ Tab w wt g d1 d2 (j + r) ⟨j, useL j (X ++ (K + 1) :: Y), j + r⟩ ∧ USl wt b o l cc (X ++ Y) ∧ w.heap.size ≤ b ∧ K + 1 ∉ X ++ Y ∧ ∀ id ∈ X ++ (K + 1) :: Y, id ≤ j + r) (fun _ v92 _ => R - (intOf v92).toNat)
          case atStart => exact ⟨0, bb, 0, cc, X, Y, rfl, rfl, Nat.zero_le _, H0.out.1, H0.out.2.1, H0.out.2.2.1, H0.out.2.2.2.1, H0.out.2.2.2.2⟩
          case round =>
            clear H0
            obtain ⟨r, b, o, cc, X, Y, rfl, rfl, hr, hT, hU, hbb, hni, hid⟩ := hrel
            have HTR := Lib.hid hT
            have HUR := Lib.hid hU
            have HBB := Lib.hid (And.intro hbb (And.intro hni hid))
            clear hT hU hbb hni hid
            have ek : ((K + 1 : Nat) : Int) = 1 + (K : Int) := by push_cast; omega
            by_cases hrR : r < R
            · obtain ⟨h, t, hXY⟩ : ∃ h t, X ++ Y = h :: t := by
                have := HUR.out.len
                match hq : X ++ Y with
                | [] => rw [hq] at this; simp at this; omega
                | h :: t => exact ⟨h, t, rfl⟩
              have hlt2 : t.length + 1 = l := by have := HUR.out.len; rw [hXY] at this; simpa using this
              have hnX : K + 1 ∉ X := fun q => HBB.out.2.1 (List.mem_append_left _ q)
              obtain ⟨u1, u2⟩ := use_touch (n := j) (last := j + r) (keep := K + 1) (X := X) (Y := Y) hnX
              rw [hXY] at u2
              rw [ek] at u1 u2
              have HTC := Lib.hid (tab_touchE HTR.out (1 + (K : Int)) u1 u2)
              have hids : ∀ id ∈ h :: (t ++ [K + 1]), id ≤ j + r := fun id hq => by
                refine HBB.out.2.2 id ?_
                have hm : id ∈ (h :: t) ++ [K + 1] := hq
                rw [← hXY] at hm
                rcases List.mem_append.1 hm with q | q
                · rcases List.mem_append.1 q with q | q
                  · exact List.mem_append_left _ q
                  · exact List.mem_append_right _ (List.mem_cons_of_mem _ q)
                · simp at q
                  subst q
                  simp
              have HADD := Lib.hid (use_add (n := j) (r := r) (h := h) (T := t ++ [K + 1]) (by simp; omega) hids)
              rw [hXY] at HUR
              have HXY := Lib.hid (And.intro hXY (And.intro hlt2 hids))
              clear u1 u2 hids hXY hlt2 hnX ek
              go_wp2_with fail
              with_reducible refine HTC.out.mono ?_
              rintro e V1 ⟨rfl, hT, hA⟩
              have HT1 := Lib.hid hT
              have HU1 := Lib.hid (HUR.out.apart hA)
              clear hT hA HTC
              go_wp2_with fail
              with_reducible refine (HOF.out _ _).mono ?_
              rintro e V2 ⟨rfl, hb⟩
              have HT2 := Lib.hid (HT1.out.below hb)
              have HU2 := Lib.hid (HU1.out.keep (hb.block _ HU1.out.lt))
              clear hb
              go_wp2_with fail
              with_reducible refine (HOF.out _ _).mono ?_
              rintro e V3 ⟨rfl, hb⟩
              have HT3 := Lib.hid (HT2.out.below hb)
              have HU3 := Lib.hid (HU2.out.keep (hb.block _ HU2.out.lt))
              clear hb
              have HA := Lib.hid (tab_addE HT3.out (.of ((j : Int) + r + 1)) (.of ((r : Int) + 1)) (of_ok (by omega) (by omega)) (of_ok (by omega) (by omega)) (by show j + r < _; omega) (by omega) HADD.out.2.1 HADD.out.2.2.1 HADD.out.1 HADD.out.2.2.2)
              go_wp2_with fail
              (with_reducible refine HA.out.mono ?_)
              rintro e V4 ⟨rfl, hT, hA⟩
              have HT4 := Lib.hid hT
              have HU4 := Lib.hid (HU3.out.apart hA)
              clear hT hA
              have y0 := HU4.out.head
              have hl0 : (0 : Int) < (l : Int) := by omega
              have hcut := HU4.out.cut 0
              by_cases hc1 : cc = 1
              · subst hc1
                rw [if_pos rfl] at hcut
                obtain ⟨b', o', c', w', hrun, hU', hg', hb'⟩ := USl.push (w := V4.alloc (.cells #[.int .u64 ((j + r + 1 : Nat) : Int)] 27)) (hcut.keep (((Below.refl V4.heap.size V4).alloc (Nat.le_refl _) _).block b hcut.lt)) (j + r + 1) (heap_alloc_new V4 _) (by omega)
                rw [show l - 1 + 1 = l by omega] at hrun hU'
                have HR := Lib.hid hrun
                have HU5 := Lib.hid (And.intro hU' (And.intro hg' hb'))
                clear hrun hU' hg' hb'
                go_wp2_with (at_builtin; refine Lib.wpList_append_run _ rfl _ _ 35 35 rfl _ _ rfl rfl _ _ (by exact HR.out) ?_)
                go_roundw
                case rel => exact use_round (by omega) hrR HTJ.out.bel HT4.out HU4.out HU5.out.1 HU5.out.2.1 HU5.out.2.2 HBB.out.1 HBB.out.2.1 HXY.out.1 HBB.out.2.2 (by omega)
                case measure => simp [intOf]; omega
              · rw [if_neg hc1] at hcut
                obtain ⟨b', o', c', w', hrun, hU', hg', hb'⟩ := USl.push (w := V4.alloc (.cells #[.int .u64 ((j + r + 1 : Nat) : Int)] 27)) (hcut.keep (((Below.refl V4.heap.size V4).alloc (Nat.le_refl _) _).block b hcut.lt)) (j + r + 1) (heap_alloc_new V4 _) (by omega)
                rw [show l - 1 + 1 = l by omega] at hrun hU'
                have HR := Lib.hid hrun
                have HU5 := Lib.hid (And.intro hU' (And.intro hg' hb'))
                clear hrun hU' hg' hb'
                go_wp2_with (at_builtin; refine Lib.wpList_append_run _ rfl _ _ 35 35 rfl _ _ rfl rfl _ _ (by exact HR.out) ?_)
                go_roundw
                case rel => exact use_round (by omega) hrR HTJ.out.bel HT4.out HU4.out HU5.out.1 HU5.out.2.1 HU5.out.2.2 HBB.out.1 HBB.out.2.1 HXY.out.1 HBB.out.2.2 (by omega)
                case measure => simp [intOf]; omega
            · obtain rfl : r = R := by omega
              have hnX : K + 1 ∉ X := fun q => HBB.out.2.1 (List.mem_append_left _ q)
              have hfd := use_find (n := j) (keep := K + 1) (X := X) (Y := Y) hnX
              rw [ek] at hfd
              have HF := Lib.hid (tab_flow HTR.out (1 + (K : Int)))
              rw [hfd] at HF
              have hlen : (useL j (X ++ (K + 1) :: Y)).length = j := by have := HUR.out.len; simp [useL] at this ⊢; omega
              have HLEN := Lib.hid hlen
              obtain ⟨f, hf⟩ : ∃ f, flowF ⟨j, useL j (X ++ (K + 1) :: Y), j + r⟩ (1 + (K : Int)) = f := ⟨_, rfl⟩
              rw [hf] at HF
              clear hlen hf hfd hnX ek
              go_wp2_with fail
              with_reducible refine HF.out.mono ?_
              rintro e V1 ⟨rfl, hb⟩
              have HLN := Lib.hid (fun W (hW : Below V1.heap.size V1 W) => tab_len ((HTR.out.below hb).below hW))
              have HB1 := Lib.hid ((HTR.out.below hb).bel)
              rw [HLEN.out] at HLN
              clear hb
              unfold Fl.val Fl.arr
              go_wp2_with fail
              with_reducible refine (HLN.out _ ((Below.refl _ _).alloc (Nat.le_refl _) _)).mono ?_
              rintro e V2 ⟨rfl, rfl⟩
              go_wp2_with fail
              go_ret
              exact ⟨rfl, HB1.out.trans ((Below.refl _ _).alloc HB1.out.size _)⟩
end Go.Proofs.Ytdpomneoiagpiaa
