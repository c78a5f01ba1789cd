/- Tick. -/
import Derived.Test.YtdebaoimhijnkaaTkLaw
import Derived.Shelf.SlSortCmp.NoneTotal
import Derived.Deep.DeepCutAuto
import Derived.Deep.CutBlock
set_option linter.unusedVariables false
namespace Go.Proofs.Ytdebaoimhijnkaa
open Go.RowKit Go.Deep Go.BigFrame
attribute [local go_sem ↓] Go.wp_at_zero Go.wp_at_succ
set_option maxHeartbeats 16000000
set_option maxRecDepth 100000
theorem tick_arg {w : World} {g b nn : Nat} {s : WS} (h : Wh w g b nn s) (now : Int) (hn : now < s.now ∨ 1099511627776 < now) :
    Calls Try.prog 13 #[.pointer (some ⟨g, 0, none⟩), .int .u64 now] w fun e w' => e = .returned (.tuple #[.slice none 0 0, .int .i64 1]) ∧ w = w' := by
  have HN := Lib.hid (none_any h)
  obtain ⟨cs, h1, h2, h3, h4, h5⟩ := h.heap
  have c0 : w.cell? ⟨g, 0, none⟩ = some (.int .u64 s.now) := by rw [cell_of h1, h3]
  obtain ⟨sn, hsn⟩ : ∃ sn, s.now = sn := ⟨_, rfl⟩
  rw [hsn] at c0 hn
  clear h h1 h2 h3 h4 h5 hsn
  by_cases hlt : now < sn
  · clear hn
    go_enter Try.func13, Try.ntmps13
    go_wp2_with (go_at_call 25; refine HN.out.mono ?_; rintro e w' ⟨rfl, rfl⟩)
    go_ret2
    exact ⟨rfl, rfl⟩
  · have hM : 1099511627776 < now := by omega
    clear hn
    go_enter Try.func13, Try.ntmps13
    go_wp2_with (go_at_call 25; refine HN.out.mono ?_; rintro e w' ⟨rfl, rfl⟩)
    go_ret2
    exact ⟨rfl, rfl⟩
theorem sort_all {w : World} {B c n : Nat} {A : Option Addr} {D : List Al} (hn : D.length = n) (h : w.ownsRow B 66 2 (.slice A n c) n (row D)) (hs : Als D) (hB : n ≤ 100000) :
    Calls Try.prog 28 #[.slice A n c, .func (.func 29) #[] #[]] w fun e w' => e = .returned (.tuple #[]) ∧ ∃ S, Srt D S ∧ w'.ownsRow B 66 2 (.slice A n c) n (row S) ∧ Below B w w' := by
  rcases h.2 with ⟨h0, h1⟩ | ⟨g, cap, cur, h0, _⟩
  · injection h0 with h0 h2 h3
    subst h0 h2 h3
    obtain rfl : D = [] := List.eq_nil_of_length_eq_zero hn
    have HS := AnyF.slices_SortFunc_none Try.sortAl none 0 (.func (.func 29) #[] #[]) w
    change Calls Try.prog 28 _ _ _ at HS
    refine HS.mono fun e w' ⟨h1, h2⟩ => ?_
    subst h2
    exact ⟨h1, [], ⟨List.Perm.refl _, List.Pairwise.nil⟩, h, Below.refl _ _⟩
  · injection h0 with h0 _ h3
    subst h0 h3
    exact sort_any hn h hs hB
theorem due_take {M : List Al} {now : Int} {j : Nat} {a : Al} (h : M[j]? = some a) : dueL (M.take (j + 1)) now = dueL (M.take j) now ++ (if a.t ≤ now then [a] else []) := by
  unfold dueL
  rw [List.take_add_one, h, List.filter_append]
  congr 1
  by_cases q : a.t ≤ now <;> simp [q]
theorem due_len {L : List Al} {now : Int} {n : Nat} (h : L.length ≤ n) : (dueL L now).length ≤ n := Nat.le_trans (due_sub L now).length_le h
theorem ids_take {T : List Al} {j : Nat} {a : Al} (h : T[j]? = some a) : (T.take (j + 1)).map Al.id = (T.take j).map Al.id ++ [a.id] := by
  rw [List.take_add_one, h, List.map_append]
  rfl
theorem tick_ok {w : World} {g b nn : Nat} {s : WS} (h : Wh w g b nn s) (now : Int) (h0 : s.now ≤ now) (hM : now ≤ 1099511627776) (hnn : nn ≤ 900) :
    Calls Try.prog 13 #[.pointer (some ⟨g, 0, none⟩), .int .u64 now] w fun e w' => ∃ A c, e = .returned (.tuple #[.slice A (dueL s.L now).length c, .int .i64 0]) ∧ w'.ownsRow w.heap.size 23 1 (.slice A (dueL s.L now).length c) (dueL s.L now).length (rowU ((dueL s.L now).map Al.id)) ∧ Wh w' g b nn (tickS s now) ∧ Turns (Two g b) w w' := by
  have HN := Lib.hid (none_any h)
  obtain ⟨W1, hW1⟩ : ∃ W1, w.setCell ⟨g, 0, none⟩ (.int .u64 now) = W1 := ⟨_, rfl⟩
  have hw1 : Wh W1 g b nn ⟨now, s.L⟩ := by rw [← hW1]; exact h.setNow h0 hM
  have ht1 : Turns (Two g b) w W1 := by rw [← hW1]; exact Turns.step (Turns.refl _ w) (grown_setCell _ _ _ _) (fun j e => by injection e with e; exact .inl (.inl e.symm))
  obtain ⟨cs, h1, h2, h3, h4, h5⟩ := h.heap
  have c0 : w.cell? ⟨g, 0, none⟩ = some (.int .u64 s.now) := by rw [cell_of h1, h3]
  have f0 : w.frozen? ⟨g, 0, none⟩ = false := free_of h1 _
  obtain ⟨sn, hsn⟩ : ∃ sn, s.now = sn := ⟨_, rfl⟩
  rw [hsn] at c0 h0
  have HW := Lib.hid (And.intro hw1 (And.intro ht1 (And.intro h.ok (And.intro h.len (And.intro hsn hW1)))))
  clear h h1 h2 h3 h4 h5 hsn hw1 ht1 hW1
  go_enter Try.func13, Try.ntmps13
  go_upto_region 6 with (go_at_call 25; refine HN.out.mono ?_; rintro e w' ⟨rfl, rfl⟩)
  rw [HW.out.2.2.2.2.2]
  clear c0 f0 h0
  go_wp2_with fail
  go_loopw [6, 31] (fun v6 v31 wr => ∃ (k : Nat) (A : Option Addr) (c n : Nat) (D : List Al), v31 = .int .i64 k ∧ v6 = .slice A n c ∧ k ≤ 64 ∧ n ≤ 900 ∧ Hid (D.length = n ∧ D.Perm (dueK s.L now k) ∧ wr.ownsRow W1.heap.size 66 2 (.slice A n c) n (row D) ∧ Below W1.heap.size W1 wr)) (fun _ v31 _ => 64 - (intOf v31).toNat)
  case atStart => exact ⟨0, none, 0, 0, [], rfl, rfl, by omega, by omega, Lib.hid ⟨rfl, by rw [dueK_zero], World.ownsRow_nil _ _ _ _, Below.refl _ _⟩⟩
  case round =>
    obtain ⟨k, A, c, n, D, rfl, rfl, hk, hn9, hR⟩ := hrel
    by_cases hlt : k < 64
    · obtain ⟨cs, q1, q2, q3, q4, q5⟩ := HW.out.1.heap
      obtain ⟨AM, cM, M, em, hal, hper⟩ := q5 k hlt
      obtain ⟨m, hm⟩ : ∃ m, M.length = m := ⟨_, rfl⟩
      have hm9 : m ≤ 900 := by
        rw [← hm, hper.length_eq]
        exact Nat.le_trans (List.length_filter_le _ _) (Nat.le_trans HW.out.2.2.2.1 hnn)
      have ck : wr.cell? ⟨g, 1 + k, none⟩ = some (.slice AM m cM) := by rw [cell_of ((hR.out.2.2.2.block _ (Array.getElem?_eq_some_iff.1 q1).1).trans q1), Nat.add_comm, em, hm]
      obtain ⟨wo, hwo⟩ : ∃ x, x = wr := ⟨_, rfl⟩
      subst hwo
      have HMM := Lib.hid (And.intro hal (And.intro hper hm))
      clear q1 q2 q3 q4 q5 em hal hper hm
      go_wp2_with fail
      go_loopw [6, 41] (fun v6 v41 wr => ∃ (j : Nat) (A : Option Addr) (c n : Nat) (D2 : List Al), v41 = .int .i64 j ∧ v6 = .slice A n c ∧ j ≤ m ∧ n ≤ 900 + j ∧ Hid (D2.length = n ∧ D2 = D ++ dueL (M.take j) now ∧ wr.ownsRow W1.heap.size 66 2 (.slice A n c) n (row D2) ∧ Below W1.heap.size W1 wr)) (fun _ v41 _ => m - (intOf v41).toNat)
      case atStart => exact ⟨0, A, c, n, D, rfl, rfl, by omega, by omega, Lib.hid ⟨hR.out.1, by simp [dueL], hR.out.2.2.1, hR.out.2.2.2⟩⟩
      case round =>
        obtain ⟨j, A, c, n, D2, rfl, rfl, hj, hn10, hS⟩ := hrel
        by_cases hltj : j < m
        · obtain ⟨a, ha⟩ : ∃ a, M[j]? = some a := ⟨_, List.getElem?_eq_getElem (by rw [HMM.out.2.2]; exact hltj)⟩
          obtain ⟨b2, o2, rfl, k0, k1⟩ := (HMM.out.1.below hS.out.2.2.2).2 j a ha
          have HA := Lib.hid ha
          clear ha ck
          by_cases hdue : a.t ≤ now
          · have hX : Below wr.heap.size wr ((wr.alloc (.cells a.arr 66)).alloc (.cells a.arr 66)) := (bel_alloc _ _).trans ((bel_alloc _ _).mono (by simp))
            obtain ⟨v2, V, a2, ow2, gv⟩ := app66 ((wr.alloc (.cells a.arr 66)).alloc (.cells a.arr 66)) W1.heap.size (.slice A n c) n D2 (row_below hS.out.2.2.1 hX) (some ⟨wr.heap.size + 1, 0, none⟩) 1 1 [a] rfl (als_one (by have := heap_alloc_new (wr.alloc (.cells a.arr 66)) (.cells a.arr 66); rwa [World.size_alloc] at this)) (Nat.le_trans hS.out.2.2.2.size hX.size) (by omega)
            have hbV : Below W1.heap.size W1 V := grown_bel (hS.out.2.2.2.trans (hX.mono hS.out.2.2.2.size)) gv (fun i e => (hS.out.2.2.1.lt i e).1)
            obtain ⟨A2, c2, rfl⟩ := own_len ow2
            have HA2 := Lib.hid a2
            unfold Al.arr at HA2
            have HV := Lib.hid (And.intro ow2 hbV)
            clear a2 ow2 gv hbV hX
            go_wp2_with (at_builtin; refine Lib.wpList_append_run _ rfl _ _ 50 50 rfl _ _ rfl rfl _ _ (by exact HA2.out _) ?_)
            go_roundw
            case rel => exact ⟨j + 1, A2, c2, n + 1, D2 ++ [a], by simp, rfl, by omega, by omega, Lib.hid ⟨by rw [List.length_append, hS.out.1]; rfl, by rw [due_take HA.out, if_pos hdue, hS.out.2.1, List.append_assoc], HV.out⟩⟩
            case measure => simp [intOf]; omega
          · have hX : Below wr.heap.size wr (wr.alloc (.cells a.arr 66)) := bel_alloc _ _
            have HX : Hid (Below W1.heap.size W1 (wr.alloc (.cells a.arr 66)) ∧ (wr.alloc (.cells a.arr 66)).ownsRow W1.heap.size 66 2 (.slice A n c) n (row D2)) := Lib.hid ⟨hS.out.2.2.2.trans (hX.mono hS.out.2.2.2.size), row_below hS.out.2.2.1 hX⟩
            have hd2 : now < a.t := by omega
            clear hX hdue
            go_wp2_with fail
            go_roundw
            case rel => exact ⟨j + 1, A, c, n, D2, by simp, rfl, by omega, by omega, Lib.hid ⟨hS.out.1, by rw [due_take HA.out, if_neg (by omega), hS.out.2.1, List.append_nil], HX.out.2, HX.out.1⟩⟩
            case measure => simp [intOf]; omega
        · obtain rfl : j = m := by omega
          go_wp2_with fail
          go_roundw
          case rel =>
            have e1 : M.take j = M := List.take_of_length_le (by rw [HMM.out.2.2]; exact Nat.le_refl _)
            have hperm : D2.Perm (dueK s.L now (k + 1)) := by
              rw [hS.out.2.1, e1]
              exact ((List.Perm.append_right _ hR.out.2.1).trans (List.Perm.append_left _ (due_perm HMM.out.2.1 now))).trans (dueK_succ s.L now k)
            refine ⟨k + 1, A, c, n, D2, by simp, rfl, by omega, ?_, Lib.hid ⟨hS.out.1, hperm, hS.out.2.2.1, hS.out.2.2.2⟩⟩
            rw [← hS.out.1, hperm.length_eq]
            have := List.length_filter_le (fun a => decide (a.t ≤ now) && decide (slotOf a < k + 1)) s.L
            have := HW.out.2.2.2.1
            unfold dueK
            omega
          case measure => simp [intOf]; omega
    · obtain rfl : k = 64 := by omega
      have hperm : D.Perm (dueL s.L now) := by
        have := hR.out.2.1
        rwa [dueK_all now (fun a ha => (bd_u64 (HW.out.2.2.1.als.1 a ha).2).1)] at this
      have hals : Als D := ⟨fun a ha => HW.out.2.2.1.als.1 a ((due_sub _ _).subset (hperm.subset ha)), (hperm.pairwise_iff (fun {a b} q => q.symm)).2 (HW.out.2.2.1.als.2.sublist (due_sub _ _))⟩
      have HS := Lib.hid (sort_all hR.out.1 hR.out.2.2.1 hals (by omega))
      have HP := Lib.hid hperm
      clear hals hperm
      go_wp2_with fail
      refine HS.out.mono ?_
      rintro e W2 ⟨rfl, T, hT, hoT, hbT⟩
      obtain rfl : T = dueL s.L now := due_srt HW.out.2.2.1 now HP.out hT
      have hlen : (dueL s.L now).length = n := by rw [← HP.out.length_eq]; exact hR.out.1
      have hbW2 : Below W1.heap.size W1 W2 := hR.out.2.2.2.trans hbT
      have HT := Lib.hid (And.intro hlen (And.intro hoT hbW2))
      have HT2 : Hid (AlsAt 66 W2 A (dueL s.L now)) := Lib.hid (AlsAt.own (B := W1.heap.size) (c := c) (by rw [hlen]; exact hoT))
      clear hT hoT hbT hlen hbW2 HS
      go_wp2_with fail
      go_loopw [10, 59] (fun v10 v59 wr => ∃ (j : Nat) (Ai : Option Addr) (ci : Nat), v59 = .int .i64 j ∧ v10 = .slice Ai j ci ∧ j ≤ n ∧ Hid (wr.ownsRow W1.heap.size 23 1 (.slice Ai j ci) j (rowU (((dueL s.L now).take j).map Al.id)) ∧ Wh wr g b nn ⟨now, dropAll s.L ((dueL s.L now).take j)⟩ ∧ Turns (Two g b) W1 wr ∧ AlsAt 66 wr A (dueL s.L now))) (fun _ v59 _ => n - (intOf v59).toNat)
      case atStart => exact ⟨0, none, 0, rfl, rfl, by omega, Lib.hid ⟨World.ownsRow_nil _ _ _ _, HW.out.1.below HT.out.2.2, Turns.of HT.out.2.2, HT2.out⟩⟩
      case round =>
        obtain ⟨j, Ai, ci, rfl, rfl, hj, hQ⟩ := hrel
        by_cases hltj : j < n
        · obtain ⟨a, ha⟩ : ∃ a, (dueL s.L now)[j]? = some a := ⟨_, List.getElem?_eq_getElem (by rw [HT.out.1]; exact hltj)⟩
          obtain ⟨b2, o2, rfl, k0, k1⟩ := hQ.out.2.2.2.2 j a ha
          have haL : a ∈ s.L := (due_sub _ _).subset (List.mem_of_getElem? ha)
          have HA := Lib.hid (And.intro ha (HW.out.2.2.1.als.1 a haL).1)
          obtain ⟨X, hX⟩ : ∃ X, wr.alloc (.cells a.arr 66) = X := ⟨_, rfl⟩
          have hbX : Below wr.heap.size wr X := by rw [← hX]; exact bel_alloc _ _
          have hxv : X.heap[wr.heap.size]? = some (.cells a.arr 66 (0, 0)) := by rw [← hX]; exact heap_alloc_new _ _
          have HTK := Lib.hid (take_any (hQ.out.2.1.below hbX) a.id HA.out.2 (by omega))
          obtain ⟨rb, hrb⟩ : ∃ rb, (findA (⟨now, dropAll s.L ((dueL s.L now).take j)⟩ : WS).L a.id).isSome = rb := ⟨_, rfl⟩
          rw [hrb] at HTK
          have x0 : X.cell? ⟨wr.heap.size, 0, none⟩ = some (.int .u64 a.id) := cell_of hxv 0
          have HX := Lib.hid (And.intro hbX (And.intro hxv hX))
          clear ha haL hbX hxv hrb hX
          go_upto_region 22 with (fail)
          rw [show wr.alloc (Obj.cells #[Value.int IntKind.u64 a.id, Value.int IntKind.u64 a.t] 66) = X from HX.out.2.2]
          clear k0 k1
          go_wp2_with fail
          refine HTK.out.mono ?_
          rintro e V ⟨rfl, hwV, htV⟩
          have hXw := hQ.out.2.1.below HX.out.1
          have hapV := hXw.apart htV
          have hvV : V.heap[wr.heap.size]? = some (.cells a.arr 66 (0, 0)) := (hapV _ (Array.getElem?_eq_some_iff.1 HX.out.2.1).1 ⟨_, _, HX.out.2.1⟩).trans HX.out.2.1
          have v0 : V.cell? ⟨wr.heap.size, 0, none⟩ = some (.int .u64 a.id) := cell_of hvV 0
          have hidsV : V.ownsRow W1.heap.size 23 1 (.slice Ai j ci) j (rowU (((dueL s.L now).take j).map Al.id)) := own_turns hXw htV (by decide) (row_below hQ.out.1 HX.out.1)
          have halV : AlsAt 66 V (some ⟨b2, o2, none⟩) (dueL s.L now) := (hQ.out.2.2.2.below HX.out.1).keptE htV.size hapV
          have htWV : Turns (Two g b) W1 V := (hQ.out.2.2.1.below HX.out.1).trans htV (fun i e => .inl e)
          obtain ⟨v2, R, a2, o3, gR⟩ := app23 (V.alloc (.cells #[.int .u64 a.id] 23)) W1.heap.size (.slice Ai j ci) j (((dueL s.L now).take j).map Al.id) (row_below hidsV (bel_alloc _ _)) (some ⟨V.heap.size, 0, none⟩) 1 1 [a.id] rfl (us_one (heap_alloc_new _ _)) (by rw [World.size_alloc]; have := htWV.size; omega) (by omega)
          obtain ⟨A2, c2, rfl⟩ := own_len o3
          have HA2 := Lib.hid a2
          have hVa : Below V.heap.size V (V.alloc (.cells #[.int .u64 a.id] 23)) := bel_alloc _ _
          have hwR : Wh R g b nn (takeS ⟨now, dropAll s.L ((dueL s.L now).take j)⟩ a.id) := (hwV.below hVa).grown (row_below hidsV hVa) (by decide) (by decide) gR
          have halR : AlsAt 66 R (some ⟨b2, o2, none⟩) (dueL s.L now) := (halV.below hVa).keptE gR.size (fun k hk ⟨cs2, fr2, hc2⟩ => gR.block k hk (fun q => by
            rcases hidsV.2 with ⟨e0, _⟩ | ⟨r, cap, cur, e0, _⟩
            · injection e0 with e0 _ _
              subst e0
              simp [Value.ownBlock] at q
            · injection e0 with e0 _ _
              subst e0
              simp [Value.ownBlock] at q
              subst q
              obtain ⟨_, cs3, fr3, hc3⟩ := row_lt (row_below hidsV hVa) rfl
              rw [hc3] at hc2
              injection hc2 with hc2
              injection hc2 with _ hc2 _
              cases hc2))
          have htR : Turns (Two g b) W1 R := Turns.step (htWV.below hVa) gR (fun i e => .inr (hidsV.lt i e).1)
          have HR := Lib.hid (And.intro o3 (And.intro hwR (And.intro htR halR)))
          clear hwV htV hXw hapV hvV hidsV halV htWV a2 o3 gR hVa hwR halR htR x0
          go_wp2_with (at_builtin; refine Lib.wpList_append_run _ rfl _ _ 37 37 rfl _ _ rfl rfl _ _ (by exact HA2.out _) ?_)
          go_roundw
          case rel =>
            refine ⟨j + 1, A2, c2, by simp, rfl, by omega, Lib.hid ⟨?_, ?_, HR.out.2.2⟩⟩
            · rw [ids_take HA.out.1]
              exact HR.out.1
            · rw [dropAll_take HA.out.1]
              exact HR.out.2.1
          case measure => simp [intOf]; omega
        · obtain rfl : j = n := by omega
          go_wp2_with fail
          have e1 : (dueL s.L now).take j = dueL s.L now := List.take_of_length_le (by rw [HT.out.1]; exact Nat.le_refl _)
          have hQ2 := hQ.out
          rw [e1, drop_due HW.out.2.2.1.als.2] at hQ2
          have HQ2 := Lib.hid hQ2
          clear hQ2 e1
          go_ret2
          refine ⟨Ai, ci, ?_, ?_, HQ2.out.2.1, HW.out.2.1.trans HQ2.out.2.2.1 (fun i e => .inl e)⟩
          · rw [HT.out.1]
            rfl
          · rw [HT.out.1]
            have := own_low HQ2.out.1 HW.out.2.1.size
            exact this
end Go.Proofs.Ytdebaoimhijnkaa
