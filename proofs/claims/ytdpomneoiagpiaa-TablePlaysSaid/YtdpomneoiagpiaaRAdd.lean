/- The reference's Add. -/
import Derived.Test.YtdpomneoiagpiaaRTouch
import Derived.Test.YtdpomneoiagpiaaRSml
import Derived.Deep.CutBlock
set_option linter.unusedVariables false
namespace Go.Proofs.Ytdpomneoiagpiaa
open Go.RowKit Go.Deep Go.BigFrame
attribute [local go_sem ↓] Go.wp_at_zero Go.wp_at_succ
theorem rappend_nil {w : World} (A : Option Addr) (m c : Nat) (L : List Fl) (hL : L.length = m) (h : FlsAt w A L) (hsm : m ≤ 90000) :
    ∃ A' c' w', (Builtin.append_ #[65, 65] 65 #[.slice none 0 0, .slice A m c]).run Try.prog w = .ok (.slice A' m c') w' ∧ w'.ownsRow w.heap.size 62 12 (.slice A' m c') m (row L) ∧ Below w.heap.size w w' := by
  obtain ⟨i0, hi, hz0, hz1, hz2⟩ := info_parts info62
  subst hL
  cases A with
  | none =>
    have h0 : L.length = 0 := by
      rcases Nat.eq_zero_or_pos L.length with h' | h'
      · exact h'
      · obtain ⟨b, o, h', _⟩ := h 0 _ (List.getElem?_eq_getElem h'); cases h'
    obtain rfl : L = [] := List.eq_nil_of_length_eq_zero h0
    refine ⟨none, 0, w, ?_, World.ownsRow_nil _ _ _ _, Below.refl _ _⟩
    simp [Builtin.append_, run_underlying Try.underlying65, sizeOf, typeInfo, hi, Builtin.lenOf, Builtin.firstCells]
  | some ad =>
    obtain ⟨v', w', hr, ho, hg, _⟩ := run_append_own (P := Try.prog) w w.heap.size 65 65 62 i0 _ 12 48 Try.underlying65 hi hz0 hz1 hz2 rfl (by decide) (.slice none 0 0) 0 [] (World.ownsRow_nil _ _ _ _) ad L.length c (row L) (row_len L)
      (fun j u hu => h.cell j u hu) (one_row L) (by unfold maxLen; omega) (by omega) (Nat.le_refl _)
    rw [Nat.zero_add, List.nil_append] at ho
    obtain ⟨A', c', rfl⟩ := own_len ho
    exact ⟨A', c', w', hr, ho, grown_bel (Below.refl _ _) hg (by intro b hb; simp [Value.ownBlock] at hb)⟩
def embI (L : List Fl) (j : Nat) : Int := match (L.drop j).findIdx? (fun f => f.emb) with | none => -1 | some d => ((j + d : Nat) : Int)
theorem embI_len (L : List Fl) : embI L L.length = -1 := by unfold embI; rw [List.drop_length]; rfl
theorem embI_step {L : List Fl} {j : Nat} {f : Fl} (hf : L[j]? = some f) : embI L j = if f.emb then (j : Int) else embI L (j + 1) := by
  obtain ⟨hj, e⟩ := List.getElem?_eq_some_iff.1 hf
  unfold embI
  rw [List.drop_eq_getElem_cons hj, e, List.findIdx?_cons]
  cases hE : f.emb with
  | true => simp
  | false =>
    simp only [Bool.false_eq_true, if_false]
    cases (L.drop (j + 1)).findIdx? (fun f => f.emb) with
    | none => rfl
    | some d =>
      simp
      omega
theorem embI_zero (L : List Fl) : embI L 0 = match embK L with | none => -1 | some k => (k : Int) := by
  unfold embI embK
  rw [List.drop_zero]
  cases L.findIdx? (fun f => f.emb) with
  | none => rfl
  | some d => simp
/-- The last number put up by one. -/
theorem rbump {B : World} {h c : Nat} {A : Option Addr} {s' : TS} (r : Rt B h A c s') : Rt (B.setCell ⟨h, 2, none⟩ (.int .u64 ((s'.last : Int) + 1))) h A c { s' with last := s'.last + 1 } ∧ B.grownBy (B.setCell ⟨h, 2, none⟩ (.int .u64 ((s'.last : Int) + 1))) (some h) := by
  have hg := grown_setCell B h 2 (.int .u64 ((s'.last : Int) + 1))
  refine ⟨⟨by rw [heap_set r.heap]; rfl, row_keptE r.own fun i hi => hg.block i (row_lt r.own hi).1 fun e => ?_⟩, hg⟩
  injection e with e
  subst e
  obtain ⟨_, cs, fr, hx⟩ := row_lt r.own hi
  rw [r.heap] at hx
  injection hx with hx
  injection hx with _ hx
  cases hx
set_option maxHeartbeats 6400000
set_option maxRecDepth 100000
theorem radd_any {w : World} {h c : Nat} {A : Option Addr} {s : TS} (r : Rt w h A c s) (ho : s.Ok) (i o : Tup) (hoi : i.Ok) (hoo : o.Ok) (hl9 : s.last < 1000000) :
    Calls Try.prog 22 #[.pointer (some ⟨h, 0, none⟩), i.val, o.val] w fun e w' => e = .returned (.tuple #[.int .u64 (addN s i o), .int .u64 (addW s i o), .int .i64 (addE s i o)]) ∧ ∃ A' c', Rt w' h A' c' (addS s i o) ∧ Turns (RBlk h A) w w' ∧ NewA w A A' := by
  have R := Lib.hid r
  have HO := Lib.hid ho
  have HIN := Lib.hid (fun W (hW : Below w.heap.size w W) => rinner_any (r.below hW) ho i hoi)
  have HOU := Lib.hid (fun W (hW : Below w.heap.size w W) => router_any (r.below hW) ho o hoo)
  have hlm : s.L.length ≤ 1024 := Nat.le_trans ho.len ho.most2
  have hmm := ho.most2
  have hm1 := ho.most1
  obtain ⟨n, hn⟩ : ∃ n, s.L.length = n := ⟨_, rfl⟩
  rw [hn] at hlm
  have HN := Lib.hid hn
  obtain ⟨IN, hIN⟩ : ∃ x, innF s.L i = x := ⟨_, rfl⟩
  obtain ⟨OU, hOU⟩ : ∃ x, outF s.L o = x := ⟨_, rfl⟩
  rw [hIN] at HIN
  rw [hOU] at HOU
  have HIO := Lib.hid (And.intro hIN hOU)
  have E2 : ∀ W, (binOp .eql 33 i.val Tup.zero.val).run Try.prog W = Result.ok (.bool (decide (i = Tup.zero))) W := fun W => tup_eql i Tup.zero W
  obtain ⟨zz, hzz⟩ : ∃ zz : Bool, decide (i = Tup.zero) = zz := ⟨_, rfl⟩
  rw [hzz] at E2
  have HZZ := Lib.hid hzz
  unfold Tup.val at *
  unfold Tup.zero at E2
  clear r ho hn hIN hOU hzz
  go_enter Try.func22, Try.ntmps22
  go_upto_region 2 with (fail)
  refine wp_name fun W0 hW0 => ?_
  have hB0 : Below w.heap.size w W0 := by rw [hW0]; exact (((Below.refl _ _).alloc (Nat.le_refl _) _).alloc (by simp) _).alloc (by simp; omega) _
  have hi0 : W0.heap[w.heap.size]? = some (.cells #[.int .u8 i.proto, .int .u32 i.src, .int .u32 i.dst, .int .u16 i.sp, .int .u16 i.dp] 33 (0, 0)) := by
    rw [hW0, Below.heap_alloc _ _ _ (by simp; omega), Below.heap_alloc _ _ _ (by simp)]
    exact heap_alloc_new w _
  have ho0 : W0.heap[w.heap.size + 1]? = some (.cells #[.int .u8 o.proto, .int .u32 o.src, .int .u32 o.dst, .int .u16 o.sp, .int .u16 o.dp] 33 (0, 0)) := by
    rw [hW0, Below.heap_alloc _ _ _ (by simp)]
    have := heap_alloc_new (w.alloc (.cells #[.int .u8 i.proto, .int .u32 i.src, .int .u32 i.dst, .int .u16 i.sp, .int .u16 i.dp] 33)) (.cells #[.int .u8 o.proto, .int .u32 o.src, .int .u32 o.dst, .int .u16 o.sp, .int .u16 o.dp] 33)
    rwa [World.size_alloc] at this
  have hz0 : W0.heap[w.heap.size + 1 + 1]? = some (.cells #[.int .u8 0, .int .u32 0, .int .u32 0, .int .u16 0, .int .u16 0] 33 (0, 0)) := by
    rw [hW0]
    have := heap_alloc_new ((w.alloc (.cells #[.int .u8 i.proto, .int .u32 i.src, .int .u32 i.dst, .int .u16 i.sp, .int .u16 i.dp] 33)).alloc (.cells #[.int .u8 o.proto, .int .u32 o.src, .int .u32 o.dst, .int .u16 o.sp, .int .u16 o.dp] 33)) (.cells #[.int .u8 0, .int .u32 0, .int .u32 0, .int .u16 0, .int .u16 0] 33)
    rwa [World.size_alloc, World.size_alloc] at this
  have i0 : W0.cell? ⟨w.heap.size, 0, none⟩ = some (.int .u8 i.proto) := cell_of hi0 0
  have i1 : W0.cell? ⟨w.heap.size, 1, none⟩ = some (.int .u32 i.src) := cell_of hi0 1
  have i2 : W0.cell? ⟨w.heap.size, 2, none⟩ = some (.int .u32 i.dst) := cell_of hi0 2
  have i3 : W0.cell? ⟨w.heap.size, 3, none⟩ = some (.int .u16 i.sp) := cell_of hi0 3
  have i4 : W0.cell? ⟨w.heap.size, 4, none⟩ = some (.int .u16 i.dp) := cell_of hi0 4
  have o0 : W0.cell? ⟨w.heap.size + 1, 0, none⟩ = some (.int .u8 o.proto) := cell_of ho0 0
  have o1 : W0.cell? ⟨w.heap.size + 1, 1, none⟩ = some (.int .u32 o.src) := cell_of ho0 1
  have o2 : W0.cell? ⟨w.heap.size + 1, 2, none⟩ = some (.int .u32 o.dst) := cell_of ho0 2
  have o3 : W0.cell? ⟨w.heap.size + 1, 3, none⟩ = some (.int .u16 o.sp) := cell_of ho0 3
  have o4 : W0.cell? ⟨w.heap.size + 1, 4, none⟩ = some (.int .u16 o.dp) := cell_of ho0 4
  have z0 : W0.cell? ⟨w.heap.size + 1 + 1, 0, none⟩ = some (.int .u8 0) := cell_of hz0 0
  have z1 : W0.cell? ⟨w.heap.size + 1 + 1, 1, none⟩ = some (.int .u32 0) := cell_of hz0 1
  have z2 : W0.cell? ⟨w.heap.size + 1 + 1, 2, none⟩ = some (.int .u32 0) := cell_of hz0 2
  have z3 : W0.cell? ⟨w.heap.size + 1 + 1, 3, none⟩ = some (.int .u16 0) := cell_of hz0 3
  have z4 : W0.cell? ⟨w.heap.size + 1 + 1, 4, none⟩ = some (.int .u16 0) := cell_of hz0 4
  have HW0 := Lib.hid (And.intro hB0 (And.intro hi0 ho0))
  clear hB0 hi0 ho0 hz0 hW0
  cases zz with
  | true =>
    have hz : i = Tup.zero := of_decide_eq_true HZZ.out
    have e1 : addE s i o = 1 := by unfold addE; rw [if_pos hz]
    have e2 : addS s i o = s := by unfold addS; rw [e1]; rfl
    have e3 : addN s i o = 0 := by unfold addN; rw [e1]; rfl
    have e4 : addW s i o = 0 := by unfold addW; rw [e1]; rfl
    have HE := Lib.hid (And.intro e1 (And.intro e2 (And.intro e3 e4)))
    clear e1 e2 e3 e4 hz
    go_wp2_with fail
    go_ret3
    rw [HE.out.1, HE.out.2.1, HE.out.2.2.1, HE.out.2.2.2]
    exact ⟨rfl, A, ⟨c, R.out.below HW0.out.1⟩, Turns.below HW0.out.1, fun k e => .inl e⟩
  | false =>
    have hz : i ≠ Tup.zero := of_decide_eq_false HZZ.out
    have HZ := Lib.hid hz
    clear hz
    go_wp2_with fail
    refine (HIN.out W0 HW0.out.1).mono ?_
    rintro e V0 ⟨rfl, hb1⟩
    have HV0 := Lib.hid (And.intro (HW0.out.1.trans (hb1.mono HW0.out.1.size)) (And.intro ((hb1.block _ (Array.getElem?_eq_some_iff.1 HW0.out.2.1).1).trans HW0.out.2.1) ((hb1.block _ (Array.getElem?_eq_some_iff.1 HW0.out.2.2).1).trans HW0.out.2.2)))
    clear hb1 i0 i1 i2 i3 i4 o0 o1 o2 o3 o4 z0 z1 z2 z3 z4 E2
    have p0 : V0.cell? ⟨w.heap.size + 1, 0, none⟩ = some (.int .u8 o.proto) := cell_of HV0.out.2.2 0
    have p1 : V0.cell? ⟨w.heap.size + 1, 1, none⟩ = some (.int .u32 o.src) := cell_of HV0.out.2.2 1
    have p2 : V0.cell? ⟨w.heap.size + 1, 2, none⟩ = some (.int .u32 o.dst) := cell_of HV0.out.2.2 2
    have p3 : V0.cell? ⟨w.heap.size + 1, 3, none⟩ = some (.int .u16 o.sp) := cell_of HV0.out.2.2 3
    have p4 : V0.cell? ⟨w.heap.size + 1, 4, none⟩ = some (.int .u16 o.dp) := cell_of HV0.out.2.2 4
    go_wp2_with fail
    refine (HOU.out V0 HV0.out.1).mono ?_
    rintro e V ⟨rfl, hb1⟩
    have HV := Lib.hid (And.intro (HV0.out.1.trans (hb1.mono HV0.out.1.size)) (And.intro ((hb1.block _ (Array.getElem?_eq_some_iff.1 HV0.out.2.1).1).trans HV0.out.2.1) ((hb1.block _ (Array.getElem?_eq_some_iff.1 HV0.out.2.2).1).trans HV0.out.2.2)))
    clear hb1 p0 p1 p2 p3 p4
    by_cases h9 : IN ≠ 0 ∨ OU ≠ 0
    · have e1 : addE s i o = 9 := by unfold addE; rw [if_neg HZ.out, HIO.out.1, HIO.out.2, if_pos h9]
      have e2 : addS s i o = s := by unfold addS; rw [e1]; rfl
      have e3 : addN s i o = 0 := by unfold addN; rw [e1]; rfl
      have e4 : addW s i o = 0 := by unfold addW; rw [e1]; rfl
      have HE := Lib.hid (And.intro e1 (And.intro e2 (And.intro e3 e4)))
      clear e1 e2 e3 e4
      by_cases hI0 : IN = 0
      · have hO0 : OU ≠ 0 := by rcases h9 with q | q; exact absurd hI0 q; exact q
        have t1 : (IN != 0) = false := by simpa using hI0
        have t2 : (OU != 0) = true := by simpa using hO0
        clear h9 hI0 hO0
        go_wp2_with fail
        go_ret3
        rw [HE.out.1, HE.out.2.1, HE.out.2.2.1, HE.out.2.2.2]
        exact ⟨rfl, A, c, R.out.below HV.out.1, Turns.below HV.out.1, fun k e => .inl e⟩
      · have t1 : (IN != 0) = true := by simpa using hI0
        clear h9 hI0
        go_wp2_with fail
        go_ret3
        rw [HE.out.1, HE.out.2.1, HE.out.2.2.1, HE.out.2.2.2]
        exact ⟨rfl, A, c, R.out.below HV.out.1, Turns.below HV.out.1, fun k e => .inl e⟩
    · have hI0 : IN = 0 := Classical.byContradiction fun q => h9 (.inl q)
      have hO0 : OU = 0 := Classical.byContradiction fun q => h9 (.inr q)
      have H9 := Lib.hid h9
      have t1 : (IN != 0) = false := by simpa using hI0
      have t2 : (OU != 0) = false := by simpa using hO0
      have hrV := R.out.below HV.out.1
      have c0 := hrV.c0
      have c1 := hrV.c1
      rw [HN.out] at c0
      clear h9 hI0 hO0 hrV
      by_cases hfull : s.most ≤ n
      · go_wp2_with fail
        go_quiet (fail)
        go_upto_region 10 with (fail)
        refine wp_name fun U1 hU1 => ?_
        have hB1 : Below V.heap.size V U1 := by rw [hU1]; exact below_drewN (Below.refl _ _) _
        have hbw : Below w.heap.size w U1 := HV.out.1.trans (hB1.mono HV.out.1.size)
        have HRU := Lib.hid (R.out.below hbw)
        have HXU : Hid (U1.heap[w.heap.size]? = some (.cells #[.int .u8 i.proto, .int .u32 i.src, .int .u32 i.dst, .int .u16 i.sp, .int .u16 i.dp] 33 (0, 0)) ∧ U1.heap[w.heap.size + 1]? = some (.cells #[.int .u8 o.proto, .int .u32 o.src, .int .u32 o.dst, .int .u16 o.sp, .int .u16 o.dp] 33 (0, 0))) := Lib.hid ⟨(hB1.block _ (Array.getElem?_eq_some_iff.1 HV.out.2.1).1).trans HV.out.2.1, (hB1.block _ (Array.getElem?_eq_some_iff.1 HV.out.2.2).1).trans HV.out.2.2⟩
        have HBW := Lib.hid hbw
        have v0 : U1.cell? ⟨h, 0, none⟩ = some (.slice A n c) := by
          have q := HRU.out.c0
          rw [HN.out] at q
          exact q
        have hn1 : 1 ≤ n := by omega
        have HFUL := Lib.hid hfull
        clear hU1 hB1 hbw c0 c1 t1 t2 hfull
        go_wp2_with fail
        go_loopw [15, 16] (fun v15 v16 wr => ∃ (j : Nat) (x : Int), x = (j : Int) - 1 ∧ v16 = .int .i64 x ∧ v15 = .int .i64 (embI s.L j) ∧ j ≤ n ∧ U1 = wr) (fun _ v16 _ => ((intOf v16) + 1).toNat)
        case atStart => exact ⟨n, _, rfl, rfl, by rw [← HN.out, embI_len], Nat.le_refl _, rfl⟩
        case round =>
          obtain ⟨j, x, hx, rfl, rfl, hj, rfl⟩ := hrel
          cases j with
          | zero =>
            obtain rfl : x = -1 := by simpa using hx
            rw [embI_zero]
            clear hx
            cases hk : embK s.L with
            | none =>
              have e1 : addE s i o = 7 := by unfold addE; rw [if_neg HZ.out, HIO.out.1, HIO.out.2, if_neg H9.out, if_pos ⟨by rw [HN.out]; exact HFUL.out, hk⟩]
              have e2 : addS s i o = s := by unfold addS; rw [e1]; rfl
              have e3 : addN s i o = 0 := by unfold addN; rw [e1]; rfl
              have e4 : addW s i o = 0 := by unfold addW; rw [e1]; rfl
              have HE := Lib.hid (And.intro e1 (And.intro e2 (And.intro e3 e4)))
              clear e1 e2 e3 e4 hk
              dsimp only
              go_wp2_with fail
              go_ret3
              rw [HE.out.1, HE.out.2.1, HE.out.2.2.1, HE.out.2.2.2]
              exact ⟨rfl, A, c, HRU.out, Turns.below HBW.out, fun k e => .inl e⟩
            | some k =>
              have hk2 := hk
              unfold embK at hk2
              rw [List.findIdx?_eq_some_iff_getElem] at hk2
              obtain ⟨hkl, -, -⟩ := hk2
              have hf : s.L[k]? = some s.L[k] := List.getElem?_eq_getElem hkl
              obtain ⟨f, hff⟩ : ∃ f, s.L[k] = f := ⟨_, rfl⟩
              rw [hff] at hf
              have e1 : addE s i o = 0 := by unfold addE; rw [if_neg HZ.out, HIO.out.1, HIO.out.2, if_neg H9.out, if_neg (fun q => by rw [hk] at q; cases q.2)]
              have hev : evict s = s.L.eraseIdx k := by unfold evict; rw [if_pos (by rw [HN.out]; exact HFUL.out), hk]
              have e2 : addS s i o = pushS (delS s k) i o := by
                unfold addS
                rw [if_pos e1, hev]
                rfl
              have e3 : addN s i o = (s.last : Int) + 1 := by unfold addN; rw [if_pos e1]
              have e4 : addW s i o = f.id := by unfold addW wentF; rw [if_pos e1, if_pos (by rw [HN.out]; exact HFUL.out), hk]; simp only [hf]
              have HE := Lib.hid (And.intro e1 (And.intro e2 (And.intro e3 e4)))
              obtain ⟨ba, bo, hA, hbl, hat⟩ := HRU.out.fls k f hf
              rw [hA] at v0
              have ky := hat.k0
              have hdl : (delS s k).L.length = n - 1 := by
                show (s.L.eraseIdx k).length = n - 1
                rw [List.length_eraseIdx, if_pos hkl, HN.out]
              obtain ⟨n1, hn1e⟩ : ∃ n1, n - 1 = n1 := ⟨_, rfl⟩
              rw [hn1e] at hdl
              have hn1b : n1 ≤ 1024 := by omega
              have HN1 := Lib.hid hdl
              have HWO := Lib.hid (rwo_any HRU.out HO.out k hkl)
              rw [HN.out] at hkl HWO
              rw [hn1e] at HWO
              clear hn1e
              have hk0 : ¬ ((k : Int) < 0) := by omega
              clear e1 e2 e3 e4 hk hev hff hf hat hdl hbl hA
              dsimp only
              go_wp2_with fail
              refine HWO.out.mono ?_
              rintro e V2 ⟨A1, c1, rfl, hown, hb2⟩
              have hbw : Below w.heap.size w V2 := HBW.out.trans (hb2.mono HBW.out.size)
              have hst := rt_store (s' := delS s k) R.out hbw HN1.out rfl rfl (own_up hown) (fun k hk => Nat.le_trans HBW.out.size (own_from hown k hk))
              have hi2 := (hb2.block _ (Array.getElem?_eq_some_iff.1 HXU.out.1).1).trans HXU.out.1
              have ho2 := (hb2.block _ (Array.getElem?_eq_some_iff.1 HXU.out.2).1).trans HXU.out.2
              have hr2 := R.out.below hbw
              have w0 : ∃ v, V2.cell? ⟨h, 0, none⟩ = some v := ⟨_, hr2.c0⟩
              obtain ⟨vw0, w0⟩ := w0
              have fw0 : V2.frozen? ⟨h, 0, none⟩ = false := free_of hr2.heap 0
              have HST := Lib.hid (And.intro hst (And.intro hi2 ho2))
              clear hown hb2 hbw hst hi2 ho2 hr2 v0 ky
              go_upto_region 20 with (fail)
              refine wp_name fun V1 hV1 => ?_
              have hV1' : V1 = V2.setCell ⟨h, 0, none⟩ (.slice A1 n1 c1) := hV1
              obtain ⟨hst, hi2, ho2⟩ := HST.out
              rw [← hV1'] at hst
              have hgv : V2.grownBy V1 (some h) := by rw [hV1']; exact grown_setCell _ _ _ _
              have HR1 := Lib.hid hst.1
              have HT1 := Lib.hid hst.2.1
              have HNA := Lib.hid hst.2.2
              have HX1 : Hid (V1.heap[w.heap.size]? = some (.cells #[.int .u8 i.proto, .int .u32 i.src, .int .u32 i.dst, .int .u16 i.sp, .int .u16 i.dp] 33 (0, 0)) ∧ V1.heap[w.heap.size + 1]? = some (.cells #[.int .u8 o.proto, .int .u32 o.src, .int .u32 o.dst, .int .u16 o.sp, .int .u16 o.dp] 33 (0, 0))) := Lib.hid ⟨(hgv.block _ (Array.getElem?_eq_some_iff.1 hi2).1 (by have := R.out.lt; simp; omega)).trans hi2, (hgv.block _ (Array.getElem?_eq_some_iff.1 ho2).1 (by have := R.out.lt; simp; omega)).trans ho2⟩
              clear hst hi2 ho2 hgv hV1 hV1' w0 fw0 HST
              obtain ⟨hrY, hgY⟩ : Rt (V1.setCell ⟨h, 2, none⟩ (.int .u64 ((s.last : Int) + 1))) h A1 c1 { delS s k with last := s.last + 1 } ∧ V1.grownBy (V1.setCell ⟨h, 2, none⟩ (.int .u64 ((s.last : Int) + 1))) (some h) := rbump HR1.out
              obtain ⟨Y, hY⟩ : ∃ Y, V1.setCell ⟨h, 2, none⟩ (.int .u64 ((s.last : Int) + 1)) = Y := ⟨_, rfl⟩
              rw [hY] at hrY hgY
              have d2 : V1.cell? ⟨h, 2, none⟩ = some (.int .u64 (s.last : Int)) := HR1.out.c2
              have f2 : V1.frozen? ⟨h, 2, none⟩ = false := free_of HR1.out.heap 2
              have hl9' : ((s.last : Int) + 1) ≤ 2000000 := by have := hl9; omega
              have nh0 : w.heap.size ≠ h := by have := R.out.lt; omega
              have nh1 : w.heap.size + 1 ≠ h := by have := R.out.lt; omega
              have hYi : Y.heap[w.heap.size]? = some (.cells #[.int .u8 i.proto, .int .u32 i.src, .int .u32 i.dst, .int .u16 i.sp, .int .u16 i.dp] 33 (0, 0)) := (hgY.block _ (Array.getElem?_eq_some_iff.1 HX1.out.1).1 (by simpa using nh0)).trans HX1.out.1
              have hYo : Y.heap[w.heap.size + 1]? = some (.cells #[.int .u8 o.proto, .int .u32 o.src, .int .u32 o.dst, .int .u16 o.sp, .int .u16 o.dp] 33 (0, 0)) := (hgY.block _ (Array.getElem?_eq_some_iff.1 HX1.out.2).1 (by simpa using nh1)).trans HX1.out.2
              have hTY : Turns (RBlk h A) w Y := HT1.out.step hgY (by rintro k e; cases e; exact .inl (.inl rfl))
              have HY := Lib.hid (And.intro hYi (And.intro hYo (And.intro hTY hrY)))
              have y0 : Y.cell? ⟨h, 0, none⟩ = some (.slice A1 (n1) c1) := by
                have q := hrY.c0
                rw [show ({ delS s k with last := s.last + 1 } : TS).L.length = n1 from HN1.out] at q
                exact q
              obtain ⟨A2, c2, Z, hr2, hown2, hb2⟩ := rappend_nil A1 (n1) c1 (delS s k).L HN1.out hrY.fls (by omega)
              have HR2 := Lib.hid hr2
              have hrZ := hrY.below hb2
              have z2 : Z.cell? ⟨h, 2, none⟩ = some (.int .u64 ((s.last + 1 : Nat) : Int)) := hrZ.c2
              have hZi := (hb2.block _ (Array.getElem?_eq_some_iff.1 hYi).1).trans hYi
              have hZo := (hb2.block _ (Array.getElem?_eq_some_iff.1 hYo).1).trans hYo
              have p0 : Z.cell? ⟨w.heap.size, 0, none⟩ = some (.int .u8 i.proto) := cell_of hZi 0
              have p1 : Z.cell? ⟨w.heap.size, 1, none⟩ = some (.int .u32 i.src) := cell_of hZi 1
              have p2 : Z.cell? ⟨w.heap.size, 2, none⟩ = some (.int .u32 i.dst) := cell_of hZi 2
              have p3 : Z.cell? ⟨w.heap.size, 3, none⟩ = some (.int .u16 i.sp) := cell_of hZi 3
              have p4 : Z.cell? ⟨w.heap.size, 4, none⟩ = some (.int .u16 i.dp) := cell_of hZi 4
              have q0 : Z.cell? ⟨w.heap.size + 1, 0, none⟩ = some (.int .u8 o.proto) := cell_of hZo 0
              have q1 : Z.cell? ⟨w.heap.size + 1, 1, none⟩ = some (.int .u32 o.src) := cell_of hZo 1
              have q2 : Z.cell? ⟨w.heap.size + 1, 2, none⟩ = some (.int .u32 o.dst) := cell_of hZo 2
              have q3 : Z.cell? ⟨w.heap.size + 1, 3, none⟩ = some (.int .u16 o.sp) := cell_of hZo 3
              have q4 : Z.cell? ⟨w.heap.size + 1, 4, none⟩ = some (.int .u16 o.dp) := cell_of hZo 4
              obtain ⟨A3, c3, Z3, hr3, hown3, hg3, hn3⟩ := push_at62 (w := Z.drew.alloc (.cells (⟨((s.last + 1 : Nat) : Int), i, o, true⟩ : Fl).arr 62)) (.slice A2 (n1) c2) (n1) (delS s k).L (own_up (hown2.drew.alloc _)) Z.heap.size (⟨((s.last + 1 : Nat) : Int), i, o, true⟩ : Fl) (heap_alloc_new Z.drew _) (by omega)
              have hob : ∀ b, (Value.slice A2 (n1) c2).ownBlock = some b → Y.heap.size ≤ b := fun b hb => by
                rcases hown2.2 with ⟨q, _⟩ | ⟨g, cap, cur, q1, q2, _⟩
                · rw [q] at hb
                  simp [Value.ownBlock] at hb
                · rw [q1] at hb
                  simp [Value.ownBlock] at hb
                  omega
              have hb3 : Below Y.heap.size Y Z3 := grown_bel ((hb2.drew).alloc hb2.size _) hg3 hob
              have hr3' := hrY.below hb3
              have x0 : ∃ v, Z3.cell? ⟨h, 0, none⟩ = some v := ⟨_, hr3'.c0⟩
              obtain ⟨vx0, x0⟩ := x0
              have fx0 : Z3.frozen? ⟨h, 0, none⟩ = false := free_of hr3'.heap 0
              have hfin := rt_store (s' := { delS s k with L := (delS s k).L ++ [(⟨((s.last + 1 : Nat) : Int), i, o, true⟩ : Fl)], last := s.last + 1 }) (n := n1 + 1) hrY hb3 (by rw [List.length_append]; exact congrArg (· + 1) HN1.out) rfl rfl hown3 (fun k hk => by
                rcases hn3 k hk with e | e
                · exact hob k e
                · have := hb2.size
                  simp at e
                  omega)
              have HFIN := Lib.hid hfin
              have x3 : Z3.cell? ⟨h, 2, none⟩ = some (.int .u64 ((s.last + 1 : Nat) : Int)) := hr3'.c2
              have HR3 := Lib.hid hr3
              clear hr3' hr3 hr2 hrZ hZi hZo hown2 hb2 hown3 hg3 hn3 hb3 hfin hrY hYi hYo hTY hgY hob
              go_upto_region 23 with (at_builtin; refine Lib.wpList_append_run _ rfl _ _ 65 65 rfl _ _ rfl rfl _ _ (by exact HR2.out) ?_)
              go_region_law (refine step_append_run rfl (.tmp 96) (.tmp 104) 65 65 rfl _ _ rfl rfl _ Z3 (by exact HR3.out) ?_)
              all_goals
                go_wp2
                go_ret3
                first
                  | refine ⟨by rw [HE.out.1, HE.out.2.2.1, HE.out.2.2.2]; rfl, A3, c3, ?_, ?_, ?_⟩
                  | refine ⟨by rw [HE.out.1, HE.out.2.2.1, HE.out.2.2.2]; rfl, A3, ⟨c3, ?_⟩, ?_, ?_⟩
                · rw [HE.out.2.1]
                  exact HFIN.out.1
                · exact HY.out.2.2.1.trans HFIN.out.2.1 (fun k hk => by
                    rcases hk with rfl | hk
                    · exact .inl (.inl rfl)
                    · rcases HNA.out k hk with q | q
                      · exact .inl (.inr q)
                      · exact .inr q)
                · intro k hk
                  rcases HFIN.out.2.2 k hk with q | q
                  · exact HNA.out k q
                  · exact .inr (Nat.le_trans HY.out.2.2.1.size q)
          | succ j =>
            obtain rfl : x = (j : Int) := by simp at hx; omega
            obtain ⟨f, hf⟩ : ∃ f, s.L[j]? = some f := ⟨s.L[j]'(by have := HN.out; omega), List.getElem?_eq_getElem _⟩
            obtain ⟨ba, bo, hA, hbl, hat⟩ := HRU.out.fls j f hf
            rw [hA] at v0
            have ky := hat.k11
            have HF := Lib.hid (embI_step hf)
            clear hx hf hat hbl hA
            cases hem : f.emb with
            | true =>
              rw [hem] at ky HF
              clear hem
              go_wp2_with fail
              go_roundw
              case rel => exact ⟨j, _, rfl, rfl, by rw [HF.out]; rfl, by omega, by first | trivial | rfl⟩
              case measure => simp [intOf]
            | false =>
              rw [hem] at ky HF
              clear hem
              go_wp2_with fail
              go_roundw
              case rel => exact ⟨j, _, rfl, rfl, by rw [HF.out]; rfl, by omega, by first | trivial | rfl⟩
              case measure => simp [intOf]
      · have hfl : n < s.most := by omega
        have e1 : addE s i o = 0 := by unfold addE; rw [if_neg HZ.out, HIO.out.1, HIO.out.2, if_neg H9.out, if_neg (fun q => hfull (by rw [← HN.out]; exact q.1))]
        have e2 : addS s i o = pushS s i o := by
          unfold addS evict
          rw [if_pos e1, if_neg (by rw [HN.out]; exact hfull)]
        have e3 : addN s i o = (s.last : Int) + 1 := by unfold addN; rw [if_pos e1]
        have e4 : addW s i o = 0 := by unfold addW wentF; rw [if_pos e1, if_neg (by rw [HN.out]; exact hfull)]
        have HE := Lib.hid (And.intro e1 (And.intro e2 (And.intro e3 e4)))
        clear e1 e2 e3 e4
        go_wp2_with fail
        go_quiet (fail)
        clear c0 c1 t1 t2
        go_upto_region 20 with (fail)
        refine wp_name fun V1 hV1 => ?_
        have hB1 : Below V.heap.size V V1 := by rw [hV1]; exact below_drewN (Below.refl _ _) _
        clear hV1
        have HR1 : Hid (Rt V1 h A c s) := Lib.hid (R.out.below (HV.out.1.trans (hB1.mono HV.out.1.size)))
        have HT1 : Hid (Turns (RBlk h A) w V1) := Lib.hid (Turns.below (HV.out.1.trans (hB1.mono HV.out.1.size)))
        have HX1 : Hid (V1.heap[w.heap.size]? = some (.cells #[.int .u8 i.proto, .int .u32 i.src, .int .u32 i.dst, .int .u16 i.sp, .int .u16 i.dp] 33 (0, 0)) ∧ V1.heap[w.heap.size + 1]? = some (.cells #[.int .u8 o.proto, .int .u32 o.src, .int .u32 o.dst, .int .u16 o.sp, .int .u16 o.dp] 33 (0, 0))) := Lib.hid ⟨(hB1.block _ (Array.getElem?_eq_some_iff.1 HV.out.2.1).1).trans HV.out.2.1, (hB1.block _ (Array.getElem?_eq_some_iff.1 HV.out.2.2).1).trans HV.out.2.2⟩
        clear hB1
        have HN1 := HN
        have HNA : Hid (NewA w A A) := Lib.hid (fun k e => .inl e)
        obtain ⟨hrY, hgY⟩ : Rt (V1.setCell ⟨h, 2, none⟩ (.int .u64 ((s.last : Int) + 1))) h A c { s with last := s.last + 1 } ∧ V1.grownBy (V1.setCell ⟨h, 2, none⟩ (.int .u64 ((s.last : Int) + 1))) (some h) := rbump HR1.out
        obtain ⟨Y, hY⟩ : ∃ Y, V1.setCell ⟨h, 2, none⟩ (.int .u64 ((s.last : Int) + 1)) = Y := ⟨_, rfl⟩
        rw [hY] at hrY hgY
        have d2 : V1.cell? ⟨h, 2, none⟩ = some (.int .u64 (s.last : Int)) := HR1.out.c2
        have f2 : V1.frozen? ⟨h, 2, none⟩ = false := free_of HR1.out.heap 2
        have hl9' : ((s.last : Int) + 1) ≤ 2000000 := by have := hl9; omega
        have nh0 : w.heap.size ≠ h := by have := R.out.lt; omega
        have nh1 : w.heap.size + 1 ≠ h := by have := R.out.lt; omega
        have hYi : Y.heap[w.heap.size]? = some (.cells #[.int .u8 i.proto, .int .u32 i.src, .int .u32 i.dst, .int .u16 i.sp, .int .u16 i.dp] 33 (0, 0)) := (hgY.block _ (Array.getElem?_eq_some_iff.1 HX1.out.1).1 (by simpa using nh0)).trans HX1.out.1
        have hYo : Y.heap[w.heap.size + 1]? = some (.cells #[.int .u8 o.proto, .int .u32 o.src, .int .u32 o.dst, .int .u16 o.sp, .int .u16 o.dp] 33 (0, 0)) := (hgY.block _ (Array.getElem?_eq_some_iff.1 HX1.out.2).1 (by simpa using nh1)).trans HX1.out.2
        have hTY : Turns (RBlk h A) w Y := HT1.out.step hgY (by rintro k e; cases e; exact .inl (.inl rfl))
        have HY := Lib.hid (And.intro hYi (And.intro hYo (And.intro hTY hrY)))
        have y0 : Y.cell? ⟨h, 0, none⟩ = some (.slice A (n) c) := by
          have q := hrY.c0
          rw [show ({ s with last := s.last + 1 } : TS).L.length = n from HN1.out] at q
          exact q
        obtain ⟨A2, c2, Z, hr2, hown2, hb2⟩ := rappend_nil A (n) c (s).L HN1.out hrY.fls (by omega)
        have HR2 := Lib.hid hr2
        have hrZ := hrY.below hb2
        have z2 : Z.cell? ⟨h, 2, none⟩ = some (.int .u64 ((s.last + 1 : Nat) : Int)) := hrZ.c2
        have hZi := (hb2.block _ (Array.getElem?_eq_some_iff.1 hYi).1).trans hYi
        have hZo := (hb2.block _ (Array.getElem?_eq_some_iff.1 hYo).1).trans hYo
        have p0 : Z.cell? ⟨w.heap.size, 0, none⟩ = some (.int .u8 i.proto) := cell_of hZi 0
        have p1 : Z.cell? ⟨w.heap.size, 1, none⟩ = some (.int .u32 i.src) := cell_of hZi 1
        have p2 : Z.cell? ⟨w.heap.size, 2, none⟩ = some (.int .u32 i.dst) := cell_of hZi 2
        have p3 : Z.cell? ⟨w.heap.size, 3, none⟩ = some (.int .u16 i.sp) := cell_of hZi 3
        have p4 : Z.cell? ⟨w.heap.size, 4, none⟩ = some (.int .u16 i.dp) := cell_of hZi 4
        have q0 : Z.cell? ⟨w.heap.size + 1, 0, none⟩ = some (.int .u8 o.proto) := cell_of hZo 0
        have q1 : Z.cell? ⟨w.heap.size + 1, 1, none⟩ = some (.int .u32 o.src) := cell_of hZo 1
        have q2 : Z.cell? ⟨w.heap.size + 1, 2, none⟩ = some (.int .u32 o.dst) := cell_of hZo 2
        have q3 : Z.cell? ⟨w.heap.size + 1, 3, none⟩ = some (.int .u16 o.sp) := cell_of hZo 3
        have q4 : Z.cell? ⟨w.heap.size + 1, 4, none⟩ = some (.int .u16 o.dp) := cell_of hZo 4
        obtain ⟨A3, c3, Z3, hr3, hown3, hg3, hn3⟩ := push_at62 (w := Z.drew.alloc (.cells (⟨((s.last + 1 : Nat) : Int), i, o, true⟩ : Fl).arr 62)) (.slice A2 (n) c2) (n) (s).L (own_up (hown2.drew.alloc _)) Z.heap.size (⟨((s.last + 1 : Nat) : Int), i, o, true⟩ : Fl) (heap_alloc_new Z.drew _) (by omega)
        have hob : ∀ b, (Value.slice A2 (n) c2).ownBlock = some b → Y.heap.size ≤ b := fun b hb => by
          rcases hown2.2 with ⟨q, _⟩ | ⟨g, cap, cur, q1, q2, _⟩
          · rw [q] at hb
            simp [Value.ownBlock] at hb
          · rw [q1] at hb
            simp [Value.ownBlock] at hb
            omega
        have hb3 : Below Y.heap.size Y Z3 := grown_bel ((hb2.drew).alloc hb2.size _) hg3 hob
        have hr3' := hrY.below hb3
        have x0 : ∃ v, Z3.cell? ⟨h, 0, none⟩ = some v := ⟨_, hr3'.c0⟩
        obtain ⟨vx0, x0⟩ := x0
        have fx0 : Z3.frozen? ⟨h, 0, none⟩ = false := free_of hr3'.heap 0
        have hfin := rt_store (s' := { s with L := (s).L ++ [(⟨((s.last + 1 : Nat) : Int), i, o, true⟩ : Fl)], last := s.last + 1 }) (n := n + 1) hrY hb3 (by rw [List.length_append]; exact congrArg (· + 1) HN1.out) rfl rfl hown3 (fun k hk => by
          rcases hn3 k hk with e | e
          · exact hob k e
          · have := hb2.size
            simp at e
            omega)
        have HFIN := Lib.hid hfin
        have x3 : Z3.cell? ⟨h, 2, none⟩ = some (.int .u64 ((s.last + 1 : Nat) : Int)) := hr3'.c2
        have HR3 := Lib.hid hr3
        clear hr3' hr3 hr2 hrZ hZi hZo hown2 hb2 hown3 hg3 hn3 hb3 hfin hrY hYi hYo hTY hgY hob
        go_upto_region 23 with (at_builtin; refine Lib.wpList_append_run _ rfl _ _ 65 65 rfl _ _ rfl rfl _ _ (by exact HR2.out) ?_)
        go_region_law (refine step_append_run rfl (.tmp 96) (.tmp 104) 65 65 rfl _ _ rfl rfl _ Z3 (by exact HR3.out) ?_)
        all_goals
          go_wp2
          go_ret3
          first
            | refine ⟨by rw [HE.out.1, HE.out.2.2.1, HE.out.2.2.2]; rfl, A3, c3, ?_, ?_, ?_⟩
            | refine ⟨by rw [HE.out.1, HE.out.2.2.1, HE.out.2.2.2]; rfl, A3, ⟨c3, ?_⟩, ?_, ?_⟩
          · rw [HE.out.2.1]
            exact HFIN.out.1
          · exact HY.out.2.2.1.trans HFIN.out.2.1 (fun k hk => by
              rcases hk with rfl | hk
              · exact .inl (.inl rfl)
              · rcases HNA.out k hk with q | q
                · exact .inl (.inr q)
                · exact .inr q)
          · intro k hk
            rcases HFIN.out.2.2 k hk with q | q
            · exact HNA.out k q
            · exact .inr (Nat.le_trans HY.out.2.2.1.size q)
end Go.Proofs.Ytdpomneoiagpiaa
