/- ForwardCalls, walked. -/
import Derived.Test.YthlohgldcnicbaaLess
import Derived.Test.YthlohgldcnicbaaRInw
import Derived.Test.YthlohgldcnicbaaROutw
import Derived.Test.YthlohgldcnicbaaRAll
import Derived.Test.YthlohgldcnicbaaRMay
set_option linter.unusedVariables false
namespace Go.Proofs.Ythlohgldcnicbaa
open Go.RowKit Go.Deep Go.BigFrame
attribute [local go_sem ↓] Go.wp_at_zero Go.wp_at_succ
/-- What holds in every world of the walk. -/
structure ClW (w : World) (q g b nn : Nat) (A : Option Addr) (x : Tup) (l : List Fw) (W : World) : Prop where
  bel : Below w.heap.size w W
  tup : W.heap[q + 1]? = some (.cells x.arr 44 (0, 0))
  src : FwsAt W A l
  tb : Tb W g b nn l
theorem ClW.below {w W W' : World} {q g b nn : Nat} {A : Option Addr} {x : Tup} {l : List Fw} (h : ClW w q g b nn A x l W) (hb : Below W.heap.size W W') : ClW w q g b nn A x l W' :=
  ⟨h.bel.trans (hb.mono h.bel.size), kept_heap h.tup hb, h.src.below hb, h.tb.below hb⟩
/-- One row of forwards of its own is written. -/
theorem ClW.own {w W W' : World} {q g b nn ga : Nat} {A : Option Addr} {x : Tup} {l : List Fw} (h : ClW w q g b nn A x l W) (hq : w.heap.size = q) (hsrc : FwsAt w A l) (hg : W.grownBy W' (some ga)) (hga : w.heap.size ≤ ga) (ht : ∃ cs fr, W.heap[ga]? = some (.cells cs 37 fr)) : ClW w q g b nn A x l W' := by
  obtain ⟨cs, fr, hc⟩ := ht
  have hbel : Below w.heap.size w W' := grown_bel h.bel hg (fun k e => by injection e with e; omega)
  have hgb : W'.heap[g]? = W.heap[g]? := hg.block g (Array.getElem?_eq_some_iff.1 h.tb.heap).1 (fun e => by
    injection e with e
    have h1 := h.tb.heap
    rw [e, hc] at h1
    injection h1 with h1
    injection h1 with _ h1 _
    cases h1)
  have hbb : W'.heap[b]? = W.heap[b]? := hg.block b h.tb.map.lt (fun e => by
    injection e with e
    obtain ⟨D, ⟨es, ck, hm, _⟩, _⟩ := h.tb.map.own
    rw [e, hc] at hm
    cases hm)
  have htu : W'.heap[q + 1]? = W.heap[q + 1]? := hg.block _ (Array.getElem?_eq_some_iff.1 h.tup).1 (fun e => by
    injection e with e
    have h1 := h.tup
    rw [e, hc] at h1
    injection h1 with h1
    injection h1 with _ h1 _
    cases h1)
  exact ⟨hbel, htu.trans h.tup, hsrc.below hbel, ⟨hgb.trans h.tb.heap, h.tb.map.keptE hbb, h.tb.ok, h.tb.len⟩⟩
/-- A cell of every forward of a row. -/
def Cells (k : IntKind) (f : Nat) (W : World) (A : Option Addr) (n : Nat) : Prop := ∀ j, j < n → ∃ ga y, A = some ⟨ga, 0, none⟩ ∧ W.cell? ⟨ga, j * 4 + f, none⟩ = some (.int k y) ∧ W.frozen? ⟨ga, j * 4 + f, none⟩ = false ∧ (∃ cs, W.heap[ga]? = some (.cells cs 37 (0, 0)))
theorem cells_own {W : World} {B c n : Nat} {A : Option Addr} {L : List Fw} (h : W.ownsRow B 37 4 (.slice A n c) n (row L)) (hn : L.length = n) (k : IntKind) (f : Nat) (hf : f < 4) (hk : ∀ g ∈ L, ∃ y, g.arr[f]? = some (.int k y)) : Cells k f W A n := by
  subst hn
  intro j hj
  obtain ⟨b, o, e, hl, ha⟩ := FwsAt.own h j _ (List.getElem?_eq_getElem hj)
  rcases h.2 with ⟨h3, h4⟩ | ⟨g', cap', cur, h3, hb, hg, q1, q2, q3, q4⟩
  · omega
  · injection h3 with h3 _ _
    obtain ⟨y, hy⟩ := hk L[j] (List.getElem_mem hj)
    refine ⟨g', y, h3, ?_, free_of hg _, cur, hg⟩
    rw [cell_of hg, ← hy, ← row_at L j _ (List.getElem?_eq_getElem hj) f hf, ← q4, List.getElem?_take_of_lt (by omega), Array.getElem?_toList]
theorem cells_set {W : World} {k : IntKind} {f n i ga : Nat} {A : Option Addr} {y : Int} (h : Cells k f W A n) (hA : A = some ⟨ga, 0, none⟩) (hi : i < n) (hf : f < 4) : Cells k f (W.setCell ⟨ga, i * 4 + f, none⟩ (.int k y)) A n := by
  intro j hj
  obtain ⟨g', z, e, hc, hfz, cs, hg⟩ := h j hj
  rw [hA] at e
  injection e with e
  injection e with e
  subst e
  have hs := heap_set (i := i * 4 + f) hg (.int k y)
  refine ⟨ga, if j = i then y else z, hA, ?_, free_of hs _, _, hs⟩
  have hcs : j * 4 + f < cs.size := by
    rw [cell_of hg] at hc
    exact (Array.getElem?_eq_some_iff.1 hc).1
  rw [cell_of hs]
  by_cases q : j = i
  · subst q
    rw [if_pos rfl, Array.getElem?_setIfInBounds_self_of_lt hcs]
  · rw [if_neg q, Array.getElem?_setIfInBounds_ne (by omega), ← cell_of hg]
    exact hc
set_option maxHeartbeats 32000000
set_option maxRecDepth 100000
theorem calls_walk (c : Cfg) (hc : c.Ok) (A : Option Addr) (n cp : Nat) (L : List Fw) (x : Tup) (hx : x.Ok) (outer : Int) (w : World) (hn : L.length = n) (hfs : FwsAt w A L) (hok : ∀ f ∈ L, f.Ok) (hcp : n ≤ cp) (hmx : cp ≤ maxLen) :
    Calls Try.prog 4 #[c.val, .slice A n cp, x.val, .int .u32 outer] w fun e w' => e = .returned (.bool true) ∧ Below w.heap.size w w' := by
  have HWK := Lib.hid wakes_any
  obtain ⟨q, hq⟩ : ∃ q, w.heap.size = q := ⟨_, rfl⟩
  have HL := Lib.hid (And.intro hn (And.intro hok (And.intro hc (And.intro hx (And.intro hfs hq)))))
  unfold maxLen at hmx
  clear hc hx hn hfs hok hq
  unfold Cfg.val Cfg.arr Tup.val Tup.arr
  go_enter Try.func4, Try.ntmps4
  go_upto_region 1 with (fail)
  refine wp_name fun W hW => ?_
  have hW' : W = (w.alloc (.cells c.arr 29)).alloc (.cells x.arr 44) := hW
  have hB : Below w.heap.size w W := by rw [hW']; exact ((Below.refl _ _).alloc (Nat.le_refl _) _).alloc (by simp) _
  have hg : W.heap[q]? = some (.cells c.arr 29 (0, 0)) := by rw [hW', ← HL.out.2.2.2.2.2, Below.heap_alloc _ _ _ (by simp)]; exact heap_alloc_new w _
  have hxx : W.heap[q + 1]? = some (.cells x.arr 44 (0, 0)) := by
    rw [hW', ← HL.out.2.2.2.2.2]
    have := heap_alloc_new (w.alloc (.cells c.arr 29)) (.cells x.arr 44)
    rwa [World.size_alloc] at this
  have HW := Lib.hid (And.intro hB (And.intro hg hxx))
  rw [HL.out.2.2.2.2.2]
  clear hW hW' hB hg hxx
  by_cases hlong : 70 < n
  · as_aux_lemma =>
    go_wp2_with fail
    refine (HWK.out W).mono ?_
    rintro e U ⟨rfl, hU⟩
    have HU := Lib.hid (HW.out.1.trans (hU.mono HW.out.1.size))
    clear hU
    go_wp2_with fail
    go_ret
    exact ⟨rfl, HU.out⟩
  · have hn70 : n ≤ 70 := by omega
    obtain ⟨v1, W1, a1, o1, gr1⟩ := app37 W W.heap.size (.slice none 0 0) 0 [] (own_nil37 _ _) A n cp L HL.out.1 (HL.out.2.2.2.2.1.below HW.out.1) (Nat.le_refl _) (by omega)
    rw [Nat.zero_add, List.nil_append] at o1
    have hb1 : Below W.heap.size W W1 := grown_bel (Below.refl _ _) gr1 (fun j e => by cases e)
    obtain ⟨A1, c1, rfl⟩ := own_len o1
    have HA1 := Lib.hid a1
    have H1 : Hid (Below w.heap.size w W1 ∧ W1.heap[q]? = some (.cells c.arr 29 (0, 0)) ∧ W1.heap[q + 1]? = some (.cells x.arr 44 (0, 0)) ∧ W1.ownsRow w.heap.size 37 4 (.slice A1 n c1) n (row L) ∧ FwsAt W1 A L) := Lib.hid ⟨HW.out.1.trans (hb1.mono HW.out.1.size), kept_heap HW.out.2.1 hb1, kept_heap HW.out.2.2 hb1, own_low o1 HW.out.1.size, (HL.out.2.2.2.2.1.below HW.out.1).below hb1⟩
    have HLD := Lib.hid (load29 H1.out.2.1)
    unfold Cfg.val Cfg.arr at HLD
    clear a1 o1 gr1 hb1 HW
    have hsrc1 : FwsAt W1 A1 L := FwsAt.own (B := w.heap.size) (c := c1) (by rw [HL.out.1]; exact H1.out.2.2.2.1)
    have HS1 := Lib.hid hsrc1
    clear hsrc1
    go_upto_region 4 with (at_builtin; refine Lib.wpList_append_run _ rfl _ _ 27 27 rfl _ _ rfl rfl _ _ (by exact HA1.out _) ?_)
    by_cases hmay : mayF c L = true
    case neg =>
      have hmay' : mayF c L = false := by simpa using hmay
      have HMAY := Lib.hid hmay'
      have HNEW := Lib.hid (new_no HL.out.2.2.1 A1 n c1 L W1 HL.out.1 HS1.out HL.out.2.1 (by omega) hmay')
      unfold Cfg.val Cfg.arr at HNEW
      clear hmay hmay'
      as_aux_lemma =>
      go_wp2_with (refine wpList_load_at _ 29 _ rfl rfl _ (by exact HLD.out) ?_)
      refine HNEW.out.mono ?_
      rintro e V0 ⟨rfl, h4⟩
      have H4 : Hid (Below w.heap.size w V0 ∧ V0.heap[q]? = some (.cells c.arr 29 (0, 0)) ∧ V0.heap[q + 1]? = some (.cells x.arr 44 (0, 0)) ∧ True ∧ FwsAt V0 A L ∧ FwsAt V0 A1 L ∧ True) := Lib.hid ⟨H1.out.1.trans (h4.mono H1.out.1.size), kept_heap H1.out.2.1 h4, kept_heap H1.out.2.2.1 h4, trivial, H1.out.2.2.2.2.below h4, HS1.out.below h4, trivial⟩
      clear h4 HNEW HLD H1 HS1
      go_upto_region 5 with (fail)
      obtain ⟨X, hX⟩ : ∃ X, V0.drew = X := ⟨_, rfl⟩
      have hbX : Below V0.heap.size V0 X := by rw [← hX]; exact bel_drew0 _
      have hp0 : { V0 with drawn := V0.drawn + 1 } = X := hX
      have HXX := Lib.hid (And.intro hbX (And.intro hp0 (And.intro (kept_heap H4.out.2.1 hbX) (And.intro (kept_heap H4.out.2.2.1 hbX) (H4.out.2.2.2.2.1.below hbX)))))
      have HM := Lib.hid (fun (Z : ClsW (InB X.heap.size X)) => And.intro (may_any HL.out.2.2.1 A n cp L Z.val HL.out.1 (HXX.out.2.2.2.2.below Z.2.1) HL.out.2.1 (by omega)) (rmay_any c A n cp L Z.val HL.out.1 (HXX.out.2.2.2.2.below Z.2.1) (by omega)))
      have HNS := Lib.hid (fun (Z : ClsW (InB X.heap.size X)) => And.intro (inside_any HL.out.2.2.1 (a := x.src) HL.out.2.2.2.1.2.1 Z.val) (rinside_any c x.src Z.val))
      obtain ⟨ns, hns⟩ : ∃ ns, insF c x.src = ns := ⟨_, rfl⟩
      rw [HMAY.out] at HM
      rw [hns] at HNS
      have hne : Nonempty (ClsW (InB X.heap.size X)) := ⟨⟨X, Below.refl _ _, Nat.le_refl _⟩⟩
      have x1 : ∀ Z : ClsW (InB X.heap.size X), Z.val.cell? ⟨q + 1, 1, none⟩ = some (.int .u32 x.src) := fun Z => class_cell Z (cell_of HXX.out.2.2.2.1 1) (Array.getElem?_eq_some_iff.1 HXX.out.2.2.2.1).1
      have HLX : Hid (∀ Y : World, (∃ Z : ClsW (InB X.heap.size X), Y = Z.val) → (Instr.loadAt 29 (.pointer (some ⟨q, 0, none⟩))).run Try.prog Y = .ok c.val Y) := Lib.hid (fun Y hY => by
        obtain ⟨Z, rfl⟩ := hY
        exact load29 ((Z.2.1.block _ (Array.getElem?_eq_some_iff.1 HXX.out.2.2.1).1).trans HXX.out.2.2.1))
      unfold Cfg.val Cfg.arr at HM HNS HLX
      clear hX hbX hp0 hns
      refine wp_region_class (InB X.heap.size X) (by kernel_rfl) (by kernel_rfl) (by rw [HXX.out.2.1]; exact ⟨Below.refl _ _, Nat.le_refl _⟩) fun _ => ?_
      repeat (first
        | (refine wpQuiet_load 29 _ rfl (by rfl) _ (by exact HLX.out) ?_; try simp only [Act.put, List.setIfInBounds_toArray, List.set_cons_succ, List.set_cons_zero])
        | go_big_quiet_step ((first
            | (go_at_call 13; exact class_below (HM.out _).2)
            | (go_at_call 7; exact class_below (HM.out _).1)
            | (go_at_call 14; exact class_below (HNS.out _).1)
            | (go_at_call 15; exact class_below (HNS.out _).2))))
      refine wpQuiet_nil ?_
      rintro V ⟨⟨V', hV⟩, eV⟩
      have eV2 : V = V' := eV
      clear eV
      subst eV2
      have HV : Hid (Below V0.heap.size V0 V) := Lib.hid (HXX.out.1.trans (hV.1.mono HXX.out.1.size))
      try dsimp only
      clear hV x1 hne
      go_wp2_with fail
      refine (HWK.out V).mono ?_
      rintro e Z ⟨rfl, hz⟩
      have HZ := Lib.hid (H4.out.1.trans ((HV.out.trans (hz.mono HV.out.size)).mono H4.out.1.size))
      clear hz
      go_wp2_with fail
      go_ret
      exact ⟨rfl, HZ.out⟩
    case pos =>
      have HMAY := Lib.hid hmay
      have HNEW := Lib.hid (new_yes HL.out.2.2.1 A1 n c1 L W1 HL.out.1 HS1.out HL.out.2.1 (by omega) hmay)
      unfold Cfg.val Cfg.arr at HNEW
      clear hmay
      as_aux_lemma =>
      go_wp2_with (refine wpList_load_at _ 29 _ rfl rfl _ (by exact HLD.out) ?_)
      refine HNEW.out.mono ?_
      rintro e V0 ⟨g, b, nn, rfl, hT, h4⟩
      have H4 : Hid (Below w.heap.size w V0 ∧ V0.heap[q]? = some (.cells c.arr 29 (0, 0)) ∧ V0.heap[q + 1]? = some (.cells x.arr 44 (0, 0)) ∧ Tb V0 g b nn L ∧ FwsAt V0 A L ∧ FwsAt V0 A1 L ∧ V0.ownsRow w.heap.size 37 4 (.slice A1 n c1) n (row L)) := Lib.hid ⟨H1.out.1.trans (h4.mono H1.out.1.size), kept_heap H1.out.2.1 h4, kept_heap H1.out.2.2.1 h4, hT, H1.out.2.2.2.2.below h4, HS1.out.below h4, row_below H1.out.2.2.2.1 h4⟩
      clear h4 hT HNEW HLD H1 HS1
      go_upto_region 5 with (fail)
      obtain ⟨X, hX⟩ : ∃ X, V0.drew = X := ⟨_, rfl⟩
      have hbX : Below V0.heap.size V0 X := by rw [← hX]; exact bel_drew0 _
      have hp0 : { V0 with drawn := V0.drawn + 1 } = X := hX
      have HXX := Lib.hid (And.intro hbX (And.intro hp0 (And.intro (kept_heap H4.out.2.1 hbX) (And.intro (kept_heap H4.out.2.2.1 hbX) (H4.out.2.2.2.2.1.below hbX)))))
      have HM := Lib.hid (fun (Z : ClsW (InB X.heap.size X)) => And.intro (may_any HL.out.2.2.1 A n cp L Z.val HL.out.1 (HXX.out.2.2.2.2.below Z.2.1) HL.out.2.1 (by omega)) (rmay_any c A n cp L Z.val HL.out.1 (HXX.out.2.2.2.2.below Z.2.1) (by omega)))
      have HNS := Lib.hid (fun (Z : ClsW (InB X.heap.size X)) => And.intro (inside_any HL.out.2.2.1 (a := x.src) HL.out.2.2.2.1.2.1 Z.val) (rinside_any c x.src Z.val))
      obtain ⟨ns, hns⟩ : ∃ ns, insF c x.src = ns := ⟨_, rfl⟩
      rw [HMAY.out] at HM
      rw [hns] at HNS
      have hne : Nonempty (ClsW (InB X.heap.size X)) := ⟨⟨X, Below.refl _ _, Nat.le_refl _⟩⟩
      have x1 : ∀ Z : ClsW (InB X.heap.size X), Z.val.cell? ⟨q + 1, 1, none⟩ = some (.int .u32 x.src) := fun Z => class_cell Z (cell_of HXX.out.2.2.2.1 1) (Array.getElem?_eq_some_iff.1 HXX.out.2.2.2.1).1
      have HLX : Hid (∀ Y : World, (∃ Z : ClsW (InB X.heap.size X), Y = Z.val) → (Instr.loadAt 29 (.pointer (some ⟨q, 0, none⟩))).run Try.prog Y = .ok c.val Y) := Lib.hid (fun Y hY => by
        obtain ⟨Z, rfl⟩ := hY
        exact load29 ((Z.2.1.block _ (Array.getElem?_eq_some_iff.1 HXX.out.2.2.1).1).trans HXX.out.2.2.1))
      unfold Cfg.val Cfg.arr at HM HNS HLX
      clear hX hbX hp0 hns
      refine wp_region_class (InB X.heap.size X) (by kernel_rfl) (by kernel_rfl) (by rw [HXX.out.2.1]; exact ⟨Below.refl _ _, Nat.le_refl _⟩) fun _ => ?_
      repeat (first
        | (refine wpQuiet_load 29 _ rfl (by rfl) _ (by exact HLX.out) ?_; try simp only [Act.put, List.setIfInBounds_toArray, List.set_cons_succ, List.set_cons_zero])
        | go_big_quiet_step ((first
            | (go_at_call 13; exact class_below (HM.out _).2)
            | (go_at_call 7; exact class_below (HM.out _).1)
            | (go_at_call 14; exact class_below (HNS.out _).1)
            | (go_at_call 15; exact class_below (HNS.out _).2))))
      refine wpQuiet_nil ?_
      rintro V ⟨⟨V', hV⟩, eV⟩
      have eV2 : V = V' := eV
      clear eV
      subst eV2
      have HV : Hid (Below V0.heap.size V0 V) := Lib.hid (HXX.out.1.trans (hV.1.mono HXX.out.1.size))
      try dsimp only
      clear hV x1 hne
      have HC : Hid (ClW w q g b nn A x L V ∧ V.ownsRow w.heap.size 37 4 (.slice A1 n c1) n (row L)) := Lib.hid ⟨⟨H4.out.1.trans (HV.out.mono H4.out.1.size), kept_heap H4.out.2.2.1 HV.out, H4.out.2.2.2.2.1.below HV.out, H4.out.2.2.2.1.below HV.out⟩, row_below H4.out.2.2.2.2.2.2 HV.out⟩
      clear HV HXX HM HNS HLX H4
      obtain ⟨S, hS⟩ := srt_exists HC.out.1.tb.ok
      have HSS := Lib.hid hS
      clear hS
      as_aux_lemma =>
      go_wp2_with fail
      go_loopw [12] (fun v12 wr => ∃ i : Nat, v12 = .int .i64 i ∧ i ≤ n ∧ Hid (ClW w q g b nn A x L wr ∧ Cells .u16 3 wr A1 n)) (fun v12 _ => n - (intOf v12).toNat)
      case atStart => exact ⟨0, rfl, Nat.zero_le _, Lib.hid ⟨HC.out.1, cells_own HC.out.2 HL.out.1 .u16 3 (by decide) (fun f _ => ⟨f.dest, rfl⟩)⟩⟩
      case round =>
        obtain ⟨i, rfl, hi, hR⟩ := hrel
        by_cases hlt : i < n
        · obtain ⟨ga, y, hA, hcell, hfz, cs, hcs⟩ := hR.out.2 i hlt
          subst hA
          have hgaw : w.heap.size ≤ ga := own_from HC.out.2 ga rfl
          have HG : Hid (∀ z : Int, ClW w q g b nn A x L (wr.setCell ⟨ga, i * 4 + 3, none⟩ (.int .u16 z)) ∧ Cells .u16 3 (wr.setCell ⟨ga, i * 4 + 3, none⟩ (.int .u16 z)) (some ⟨ga, 0, none⟩) n) := Lib.hid (fun z => ⟨hR.out.1.own HL.out.2.2.2.2.2 HL.out.2.2.2.2.1 (grown_setCell _ _ _ _) hgaw ⟨cs, (0, 0), hcs⟩, cells_set hR.out.2 rfl hlt (by decide)⟩)
          clear hcs hgaw
          go_wp2_with fail
          go_roundw
          case rel => exact ⟨i + 1, by simp, by omega, Lib.hid (HG.out _)⟩
          case measure => simp [intOf]; omega
        · obtain rfl : i = n := by omega
          have HR := Lib.hid hR.out.1
          clear hR
          as_aux_lemma =>
          obtain ⟨f, hf⟩ : ∃ f, getF L ⟨x.proto, x.dp⟩ = f := ⟨_, rfl⟩
          obtain ⟨bi, hbi⟩ : ∃ bi, (findD L ⟨x.proto, x.dp⟩).isSome = bi := ⟨_, rfl⟩
          obtain ⟨t1, ht1⟩ : ∃ t, inT x (getF L ⟨x.proto, x.dp⟩) (findD L ⟨x.proto, x.dp⟩).isSome = t := ⟨_, rfl⟩
          obtain ⟨t2, ht2⟩ : ∃ t, outT S x outer = t := ⟨_, rfl⟩
          obtain ⟨bo, hbo⟩ : ∃ bo, (outO S x).isSome = bo := ⟨_, rfl⟩
          have hxo := HL.out.2.2.2.1
          have HC1 : Hid (∀ W, ClW w q g b nn A x L W → Calls Try.prog 10 #[.pointer (some ⟨g, 0, none⟩), .int .u8 x.proto, .int .u16 x.dp] W fun e w' => e = .returned (.tuple #[f.val, .bool bi]) ∧ Below W.heap.size W w') := Lib.hid (fun W hW => by
            have := find_any hW.tb x.proto x.dp ⟨hxo.1, hxo.2.2.2.2⟩
            rwa [hf, hbi] at this)
          have HC2 : Hid (∀ W, ClW w q g b nn A x L W → Calls Try.prog 16 #[.slice A i cp, .int .u8 x.proto, .int .u16 x.dp] W fun e w' => e = .returned (.tuple #[f.val, .bool bi]) ∧ Below W.heap.size W w') := Lib.hid (fun W hW => by
            have := rfind_any A i cp L x.proto x.dp W HL.out.1 hW.src (by omega)
            rwa [hf, hbi] at this)
          have HC3 : Hid (∀ W, ClW w q g b nn A x L W → Calls Try.prog 17 #[.pointer (some ⟨g, 0, none⟩), x.val] W fun e w' => e = .returned (.tuple #[t1.val, .bool bi]) ∧ Below W.heap.size W w') := Lib.hid (fun W hW => by
            have := inward_any hW.tb x hxo
            rwa [ht1, hbi] at this)
          have HC4 : Hid (∀ W, ClW w q g b nn A x L W → Calls Try.prog 18 #[.slice A i cp, x.val] W fun e w' => e = .returned (.tuple #[t1.val, .bool bi]) ∧ Below W.heap.size W w') := Lib.hid (fun W hW => by
            have := rinward_any A i cp L x W HL.out.1 hW.src (by omega)
            rwa [ht1, hbi] at this)
          have HC5 : Hid (∀ W, ClW w q g b nn A x L W → Calls Try.prog 19 #[.pointer (some ⟨g, 0, none⟩), x.val, .int .u32 outer] W fun e w' => e = .returned (.tuple #[t2.val, .bool bo]) ∧ Below W.heap.size W w') := Lib.hid (fun W hW => by
            have := outward_any hW.tb HSS.out x outer
            rwa [ht2, hbo] at this)
          have HC6 : Hid (∀ W, ClW w q g b nn A x L W → Calls Try.prog 20 #[.slice A i cp, x.val, .int .u32 outer] W fun e w' => e = .returned (.tuple #[t2.val, .bool bo]) ∧ Below W.heap.size W w') := Lib.hid (fun W hW => by
            have := routward_any A i cp L S HSS.out x outer W HL.out.1 hW.src hW.tb.ok (by omega)
            rwa [ht2, hbo] at this)
          have HALL : Hid (∀ W, ClW w q g b nn A x L W → Calls Try.prog 12 #[.pointer (some ⟨g, 0, none⟩)] W fun e w' => ∃ A' c', e = .returned (.slice A' S.length c') ∧ w'.ownsRow W.heap.size 37 4 (.slice A' S.length c') S.length (row S) ∧ Below W.heap.size W w') := Lib.hid (fun W hW => (all_any hW.tb).mono fun e w' ⟨A', c', S', a1, a2, a3, a4⟩ => by
            obtain rfl := a2.uniq HSS.out
            exact ⟨A', c', a1, a3, a4⟩)
          have HRALL : Hid (∀ W, ClW w q g b nn A x L W → Calls Try.prog 21 #[.slice A i cp] W fun e w' => ∃ A' c', e = .returned (.slice A' S.length c') ∧ w'.ownsRow W.heap.size 37 4 (.slice A' S.length c') S.length (row S) ∧ Below W.heap.size W w') := Lib.hid (fun W hW => (rall_any A i cp L W HL.out.1 hW.src hW.tb.ok (by omega)).mono fun e w' ⟨A', c', S', a1, a2, a3, a4⟩ => by
            obtain rfl := a2.uniq HSS.out
            exact ⟨A', c', a1, a3, a4⟩)
          obtain ⟨sn, hsn⟩ : ∃ sn, S.length = sn := ⟨_, rfl⟩
          have hsnb : sn ≤ 64 := by rw [← hsn, HSS.out.perm.length_eq]; exact HR.out.tb.len
          rw [hsn] at HALL HRALL
          have HSN := Lib.hid hsn
          have HR0 : Hid (ClW w q g b nn A x L wr ∧ True) := Lib.hid ⟨HR.out, trivial⟩
          clear hf hbi ht1 ht2 hbo hxo hsn HR
          simp only [Fw.val, Fw.arr, Tup.val, Tup.arr] at HC1 HC2 HC3 HC4 HC5 HC6
          have hxu := HR0.out.1.tup
          have x0 : wr.cell? ⟨q + 1, 0, none⟩ = some (.int .u8 x.proto) := cell_of hxu 0
          have x1 : wr.cell? ⟨q + 1, 1, none⟩ = some (.int .u32 x.src) := cell_of hxu 1
          have x2 : wr.cell? ⟨q + 1, 2, none⟩ = some (.int .u32 x.dst) := cell_of hxu 2
          have x3 : wr.cell? ⟨q + 1, 3, none⟩ = some (.int .u16 x.sp) := cell_of hxu 3
          have x4 : wr.cell? ⟨q + 1, 4, none⟩ = some (.int .u16 x.dp) := cell_of hxu 4
          clear hxu
          go_wp2_with fail
          refine (HC1.out _ HR0.out.1).mono ?_
          rintro e Z1 ⟨rfl, hv⟩
          obtain ⟨p1, hp1⟩ : ∃ p, Z1.heap.size = p := ⟨_, rfl⟩
          have hvW := HR0.out.1.below hv
          clear x0 x1 x2 x3 x4
          go_upto_region 14 with (fail)
          refine wp_name fun Y1 hU => ?_
          have hU' : Y1 = Z1.alloc (.cells f.arr 37) := hU
          have hb1 : Below Z1.heap.size Z1 Y1 := by rw [hU']; exact bel_alloc _ _
          have hi1 : Y1.heap[p1]? = some (.cells f.arr 37 (0, 0)) := by rw [hU', ← hp1]; exact heap_alloc_new _ _
          have HB1 := Lib.hid (And.intro (hvW.below hb1) (hi1))
          try rw [hp1]
          clear hU hU' hb1 hi1 hp1 hvW hv
          as_aux_lemma =>
          have hxu := HB1.out.1.tup
          have x0 : Y1.cell? ⟨q + 1, 0, none⟩ = some (.int .u8 x.proto) := cell_of hxu 0
          have x1 : Y1.cell? ⟨q + 1, 1, none⟩ = some (.int .u32 x.src) := cell_of hxu 1
          have x2 : Y1.cell? ⟨q + 1, 2, none⟩ = some (.int .u32 x.dst) := cell_of hxu 2
          have x3 : Y1.cell? ⟨q + 1, 3, none⟩ = some (.int .u16 x.sp) := cell_of hxu 3
          have x4 : Y1.cell? ⟨q + 1, 4, none⟩ = some (.int .u16 x.dp) := cell_of hxu 4
          clear hxu
          go_wp2_with fail
          refine (HC2.out _ HB1.out.1).mono ?_
          rintro e Z2 ⟨rfl, hv⟩
          obtain ⟨p2, hp2⟩ : ∃ p, Z2.heap.size = p := ⟨_, rfl⟩
          have hvW := HB1.out.1.below hv
          have hk0 := kept_heap HB1.out.2 hv
          clear x0 x1 x2 x3 x4
          go_upto_region 15 with (fail)
          refine wp_name fun Y2 hU => ?_
          have hU' : Y2 = Z2.alloc (.cells f.arr 37) := hU
          have hb1 : Below Z2.heap.size Z2 Y2 := by rw [hU']; exact bel_alloc _ _
          have hi1 : Y2.heap[p2]? = some (.cells f.arr 37 (0, 0)) := by rw [hU', ← hp2]; exact heap_alloc_new _ _
          have HB2 := Lib.hid (And.intro (hvW.below hb1) (And.intro (kept_heap hk0 hb1) (hi1)))
          try rw [hp2]
          clear hU hU' hb1 hi1 hp2 hvW hv hk0
          as_aux_lemma =>
          have hxu := HB2.out.1.tup
          have x0 : Y2.cell? ⟨q + 1, 0, none⟩ = some (.int .u8 x.proto) := cell_of hxu 0
          have x1 : Y2.cell? ⟨q + 1, 1, none⟩ = some (.int .u32 x.src) := cell_of hxu 1
          have x2 : Y2.cell? ⟨q + 1, 2, none⟩ = some (.int .u32 x.dst) := cell_of hxu 2
          have x3 : Y2.cell? ⟨q + 1, 3, none⟩ = some (.int .u16 x.sp) := cell_of hxu 3
          have x4 : Y2.cell? ⟨q + 1, 4, none⟩ = some (.int .u16 x.dp) := cell_of hxu 4
          clear hxu
          go_wp2_with fail
          refine (HC3.out _ HB2.out.1).mono ?_
          rintro e Z3 ⟨rfl, hv⟩
          obtain ⟨p3, hp3⟩ : ∃ p, Z3.heap.size = p := ⟨_, rfl⟩
          have hvW := HB2.out.1.below hv
          have hk0 := kept_heap HB2.out.2.1 hv
          have hk1 := kept_heap HB2.out.2.2 hv
          clear x0 x1 x2 x3 x4
          go_upto_region 16 with (fail)
          refine wp_name fun Y3 hU => ?_
          have hU' : Y3 = Z3.alloc (.cells t1.arr 44) := hU
          have hb1 : Below Z3.heap.size Z3 Y3 := by rw [hU']; exact bel_alloc _ _
          have hi1 : Y3.heap[p3]? = some (.cells t1.arr 44 (0, 0)) := by rw [hU', ← hp3]; exact heap_alloc_new _ _
          have HB3 := Lib.hid (And.intro (hvW.below hb1) (And.intro (kept_heap hk0 hb1) (And.intro (kept_heap hk1 hb1) (hi1))))
          try rw [hp3]
          clear hU hU' hb1 hi1 hp3 hvW hv hk0 hk1
          as_aux_lemma =>
          have hxu := HB3.out.1.tup
          have x0 : Y3.cell? ⟨q + 1, 0, none⟩ = some (.int .u8 x.proto) := cell_of hxu 0
          have x1 : Y3.cell? ⟨q + 1, 1, none⟩ = some (.int .u32 x.src) := cell_of hxu 1
          have x2 : Y3.cell? ⟨q + 1, 2, none⟩ = some (.int .u32 x.dst) := cell_of hxu 2
          have x3 : Y3.cell? ⟨q + 1, 3, none⟩ = some (.int .u16 x.sp) := cell_of hxu 3
          have x4 : Y3.cell? ⟨q + 1, 4, none⟩ = some (.int .u16 x.dp) := cell_of hxu 4
          clear hxu
          go_wp2_with fail
          refine (HC4.out _ HB3.out.1).mono ?_
          rintro e Z4 ⟨rfl, hv⟩
          obtain ⟨p4, hp4⟩ : ∃ p, Z4.heap.size = p := ⟨_, rfl⟩
          have hvW := HB3.out.1.below hv
          have hk0 := kept_heap HB3.out.2.1 hv
          have hk1 := kept_heap HB3.out.2.2.1 hv
          have hk2 := kept_heap HB3.out.2.2.2 hv
          clear x0 x1 x2 x3 x4
          go_upto_region 17 with (fail)
          refine wp_name fun Y4 hU => ?_
          have hU' : Y4 = Z4.alloc (.cells t1.arr 44) := hU
          have hb1 : Below Z4.heap.size Z4 Y4 := by rw [hU']; exact bel_alloc _ _
          have hi1 : Y4.heap[p4]? = some (.cells t1.arr 44 (0, 0)) := by rw [hU', ← hp4]; exact heap_alloc_new _ _
          have HB4 := Lib.hid (And.intro (hvW.below hb1) (And.intro (kept_heap hk0 hb1) (And.intro (kept_heap hk1 hb1) (And.intro (kept_heap hk2 hb1) (hi1)))))
          try rw [hp4]
          clear hU hU' hb1 hi1 hp4 hvW hv hk0 hk1 hk2
          as_aux_lemma =>
          have hxu := HB4.out.1.tup
          have x0 : Y4.cell? ⟨q + 1, 0, none⟩ = some (.int .u8 x.proto) := cell_of hxu 0
          have x1 : Y4.cell? ⟨q + 1, 1, none⟩ = some (.int .u32 x.src) := cell_of hxu 1
          have x2 : Y4.cell? ⟨q + 1, 2, none⟩ = some (.int .u32 x.dst) := cell_of hxu 2
          have x3 : Y4.cell? ⟨q + 1, 3, none⟩ = some (.int .u16 x.sp) := cell_of hxu 3
          have x4 : Y4.cell? ⟨q + 1, 4, none⟩ = some (.int .u16 x.dp) := cell_of hxu 4
          clear hxu
          go_wp2_with fail
          refine (HC5.out _ HB4.out.1).mono ?_
          rintro e Z5 ⟨rfl, hv⟩
          obtain ⟨p5, hp5⟩ : ∃ p, Z5.heap.size = p := ⟨_, rfl⟩
          have hvW := HB4.out.1.below hv
          have hk0 := kept_heap HB4.out.2.1 hv
          have hk1 := kept_heap HB4.out.2.2.1 hv
          have hk2 := kept_heap HB4.out.2.2.2.1 hv
          have hk3 := kept_heap HB4.out.2.2.2.2 hv
          clear x0 x1 x2 x3 x4
          go_upto_region 18 with (fail)
          refine wp_name fun Y5 hU => ?_
          have hU' : Y5 = Z5.alloc (.cells t2.arr 44) := hU
          have hb1 : Below Z5.heap.size Z5 Y5 := by rw [hU']; exact bel_alloc _ _
          have hi1 : Y5.heap[p5]? = some (.cells t2.arr 44 (0, 0)) := by rw [hU', ← hp5]; exact heap_alloc_new _ _
          have HB5 := Lib.hid (And.intro (hvW.below hb1) (And.intro (kept_heap hk0 hb1) (And.intro (kept_heap hk1 hb1) (And.intro (kept_heap hk2 hb1) (And.intro (kept_heap hk3 hb1) (hi1))))))
          try rw [hp5]
          clear hU hU' hb1 hi1 hp5 hvW hv hk0 hk1 hk2 hk3
          as_aux_lemma =>
          have hxu := HB5.out.1.tup
          have x0 : Y5.cell? ⟨q + 1, 0, none⟩ = some (.int .u8 x.proto) := cell_of hxu 0
          have x1 : Y5.cell? ⟨q + 1, 1, none⟩ = some (.int .u32 x.src) := cell_of hxu 1
          have x2 : Y5.cell? ⟨q + 1, 2, none⟩ = some (.int .u32 x.dst) := cell_of hxu 2
          have x3 : Y5.cell? ⟨q + 1, 3, none⟩ = some (.int .u16 x.sp) := cell_of hxu 3
          have x4 : Y5.cell? ⟨q + 1, 4, none⟩ = some (.int .u16 x.dp) := cell_of hxu 4
          clear hxu
          go_wp2_with fail
          refine (HC6.out _ HB5.out.1).mono ?_
          rintro e Z6 ⟨rfl, hv⟩
          obtain ⟨p6, hp6⟩ : ∃ p, Z6.heap.size = p := ⟨_, rfl⟩
          have hvW := HB5.out.1.below hv
          have hk0 := kept_heap HB5.out.2.1 hv
          have hk1 := kept_heap HB5.out.2.2.1 hv
          have hk2 := kept_heap HB5.out.2.2.2.1 hv
          have hk3 := kept_heap HB5.out.2.2.2.2.1 hv
          have hk4 := kept_heap HB5.out.2.2.2.2.2 hv
          clear x0 x1 x2 x3 x4
          go_upto_region 19 with (fail)
          refine wp_name fun Y6 hU => ?_
          have hU' : Y6 = Z6.alloc (.cells t2.arr 44) := hU
          have hb1 : Below Z6.heap.size Z6 Y6 := by rw [hU']; exact bel_alloc _ _
          have hi1 : Y6.heap[p6]? = some (.cells t2.arr 44 (0, 0)) := by rw [hU', ← hp6]; exact heap_alloc_new _ _
          have HB6 := Lib.hid (And.intro (hvW.below hb1) (And.intro (kept_heap hk0 hb1) (And.intro (kept_heap hk1 hb1) (And.intro (kept_heap hk2 hb1) (And.intro (kept_heap hk3 hb1) (And.intro (kept_heap hk4 hb1) (hi1)))))))
          try rw [hp6]
          clear hU hU' hb1 hi1 hp6 hvW hv hk0 hk1 hk2 hk3 hk4
          as_aux_lemma =>

          go_wp2_with fail
          refine (HALL.out _ HB6.out.1).mono ?_
          rintro e V7 ⟨A7, c7, rfl, o7, h7⟩
          have hk0 := kept_heap HB6.out.2.1 h7
          have hk1 := kept_heap HB6.out.2.2.1 h7
          have hk2 := kept_heap HB6.out.2.2.2.1 h7
          have hk3 := kept_heap HB6.out.2.2.2.2.1 h7
          have hk4 := kept_heap HB6.out.2.2.2.2.2.1 h7
          have hk5 := kept_heap HB6.out.2.2.2.2.2.2 h7
          have H7 : Hid (ClW w q g b nn A x L V7 ∧ V7.ownsRow Y6.heap.size 37 4 (.slice A7 sn c7) sn (row S)) := Lib.hid ⟨HB6.out.1.below h7, o7⟩
          have HWZ : Hid (w.heap.size ≤ Y6.heap.size) := Lib.hid HB6.out.1.bel.size
          have y10 : V7.cell? ⟨p1, 0, none⟩ = some (.int .u8 f.proto) := cell_of hk0 0
          have y11 : V7.cell? ⟨p1, 1, none⟩ = some (.int .u16 f.port) := cell_of hk0 1
          have y12 : V7.cell? ⟨p1, 2, none⟩ = some (.int .u32 f.addr) := cell_of hk0 2
          have y13 : V7.cell? ⟨p1, 3, none⟩ = some (.int .u16 f.dest) := cell_of hk0 3
          have y20 : V7.cell? ⟨p2, 0, none⟩ = some (.int .u8 f.proto) := cell_of hk1 0
          have y21 : V7.cell? ⟨p2, 1, none⟩ = some (.int .u16 f.port) := cell_of hk1 1
          have y22 : V7.cell? ⟨p2, 2, none⟩ = some (.int .u32 f.addr) := cell_of hk1 2
          have y23 : V7.cell? ⟨p2, 3, none⟩ = some (.int .u16 f.dest) := cell_of hk1 3
          have y30 : V7.cell? ⟨p3, 0, none⟩ = some (.int .u8 t1.proto) := cell_of hk2 0
          have y31 : V7.cell? ⟨p3, 1, none⟩ = some (.int .u32 t1.src) := cell_of hk2 1
          have y32 : V7.cell? ⟨p3, 2, none⟩ = some (.int .u32 t1.dst) := cell_of hk2 2
          have y33 : V7.cell? ⟨p3, 3, none⟩ = some (.int .u16 t1.sp) := cell_of hk2 3
          have y34 : V7.cell? ⟨p3, 4, none⟩ = some (.int .u16 t1.dp) := cell_of hk2 4
          have y40 : V7.cell? ⟨p4, 0, none⟩ = some (.int .u8 t1.proto) := cell_of hk3 0
          have y41 : V7.cell? ⟨p4, 1, none⟩ = some (.int .u32 t1.src) := cell_of hk3 1
          have y42 : V7.cell? ⟨p4, 2, none⟩ = some (.int .u32 t1.dst) := cell_of hk3 2
          have y43 : V7.cell? ⟨p4, 3, none⟩ = some (.int .u16 t1.sp) := cell_of hk3 3
          have y44 : V7.cell? ⟨p4, 4, none⟩ = some (.int .u16 t1.dp) := cell_of hk3 4
          have y50 : V7.cell? ⟨p5, 0, none⟩ = some (.int .u8 t2.proto) := cell_of hk4 0
          have y51 : V7.cell? ⟨p5, 1, none⟩ = some (.int .u32 t2.src) := cell_of hk4 1
          have y52 : V7.cell? ⟨p5, 2, none⟩ = some (.int .u32 t2.dst) := cell_of hk4 2
          have y53 : V7.cell? ⟨p5, 3, none⟩ = some (.int .u16 t2.sp) := cell_of hk4 3
          have y54 : V7.cell? ⟨p5, 4, none⟩ = some (.int .u16 t2.dp) := cell_of hk4 4
          have y60 : V7.cell? ⟨p6, 0, none⟩ = some (.int .u8 t2.proto) := cell_of hk5 0
          have y61 : V7.cell? ⟨p6, 1, none⟩ = some (.int .u32 t2.src) := cell_of hk5 1
          have y62 : V7.cell? ⟨p6, 2, none⟩ = some (.int .u32 t2.dst) := cell_of hk5 2
          have y63 : V7.cell? ⟨p6, 3, none⟩ = some (.int .u16 t2.sp) := cell_of hk5 3
          have y64 : V7.cell? ⟨p6, 4, none⟩ = some (.int .u16 t2.dp) := cell_of hk5 4
          have E1 := fw_eql f f
          have E2 := tup_eql t1 t1
          have E3 := tup_eql t2 t2
          simp only [decide_true, Fw.val, Fw.arr, Tup.val, Tup.arr] at E1 E2 E3
          clear o7 h7 hk0 hk1 hk2 hk3 hk4 hk5 HB1 HB2 HB3 HB4 HB5 HB6
          go_wp2_with fail
          refine (HRALL.out _ H7.out.1).mono ?_
          rintro e V8 ⟨A8, c8, rfl, o8, h8⟩
          have H8 : Hid (ClW w q g b nn A x L V8 ∧ V8.ownsRow w.heap.size 37 4 (.slice A7 sn c7) sn (row S) ∧ FwsAt V8 A8 S) := Lib.hid ⟨H7.out.1.below h8, own_low (row_below H7.out.2 h8) HWZ.out, FwsAt.own (B := V7.heap.size) (c := c8) (by rw [HSN.out]; exact o8)⟩
          clear o8 h8 y10 y11 y12 y13 y20 y21 y22 y23 y30 y31 y32 y33 y34 y40 y41 y42 y43 y44 y50 y51 y52 y53 y54 y60 y61 y62 y63 y64 E1 E2 E3
          have HSM := Lib.hid (same_any A7 A8 c7 c8 sn S HSN.out (by omega) (FwsAt.own (B := w.heap.size) (c := c7) (by rw [HSN.out]; exact H8.out.2.1)) H8.out.2.2)
          go_wp2_with fail
          refine HSM.out.mono ?_
          rintro e V9 ⟨rfl, h9⟩
          have H9 : Hid (ClW w q g b nn A x L V9 ∧ V9.ownsRow w.heap.size 37 4 (.slice A7 sn c7) sn (row S)) := Lib.hid ⟨H8.out.1.below h9, row_below H8.out.2.1 h9⟩
          clear h9 HSM H8
          as_aux_lemma =>
          go_wp2_with fail
          go_loopw [27] (fun v27 wr => ∃ j : Nat, v27 = .int .i64 j ∧ j ≤ sn ∧ Hid (ClW w q g b nn A x L wr ∧ Cells .u32 2 wr A7 sn)) (fun v27 _ => sn - (intOf v27).toNat)
          case atStart => exact ⟨0, rfl, Nat.zero_le _, Lib.hid ⟨H9.out.1, cells_own H9.out.2 HSN.out .u32 2 (by decide) (fun f _ => ⟨f.addr, rfl⟩)⟩⟩
          case round =>
            obtain ⟨j, rfl, hj, hR⟩ := hrel
            by_cases hlt : j < sn
            · obtain ⟨ga, y, hA, hcell, hfz, cs, hcs⟩ := hR.out.2 j hlt
              subst hA
              have hgaw : w.heap.size ≤ ga := own_from H9.out.2 ga rfl
              have HG : Hid (∀ z : Int, ClW w q g b nn A x L (wr.setCell ⟨ga, j * 4 + 2, none⟩ (.int .u32 z)) ∧ Cells .u32 2 (wr.setCell ⟨ga, j * 4 + 2, none⟩ (.int .u32 z)) (some ⟨ga, 0, none⟩) sn) := Lib.hid (fun z => ⟨hR.out.1.own HL.out.2.2.2.2.2 HL.out.2.2.2.2.1 (grown_setCell _ _ _ _) hgaw ⟨cs, (0, 0), hcs⟩, cells_set hR.out.2 rfl hlt (by decide)⟩)
              clear hcs hgaw
              go_wp2_with fail
              go_roundw
              case rel => exact ⟨j + 1, by simp, by omega, Lib.hid (HG.out _)⟩
              case measure => simp [intOf]; omega
            · obtain rfl : j = sn := by omega
              have HR := Lib.hid hR.out.1
              clear hR
              as_aux_lemma =>
              go_wp2_with fail
              refine (HALL.out _ HR.out).mono ?_
              rintro e X1 ⟨A10, c10, rfl, o10, h10⟩
              have H10 : Hid (ClW w q g b nn A x L X1 ∧ FwsAt X1 A10 S) := Lib.hid ⟨HR.out.below h10, FwsAt.own (B := wr.heap.size) (c := c10) (by rw [HSN.out]; exact o10)⟩
              clear o10 h10
              go_wp2_with fail
              refine (HRALL.out _ H10.out.1).mono ?_
              rintro e X2 ⟨A11, c11, rfl, o11, h11⟩
              have H11 : Hid (ClW w q g b nn A x L X2) := Lib.hid (H10.out.1.below h11)
              have HSM := Lib.hid (same_any A10 A11 c10 c11 j S HSN.out (by omega) (H10.out.2.below h11) (FwsAt.own (B := X1.heap.size) (c := c11) (by rw [HSN.out]; exact o11)))
              clear o11 h11
              go_wp2_with fail
              refine HSM.out.mono ?_
              rintro e X3 ⟨rfl, h12⟩
              have H12 := Lib.hid (H11.out.below h12)
              clear h12
              go_wp2_with fail
              refine (HWK.out X3).mono ?_
              rintro e X4 ⟨rfl, h13⟩
              have H13 := Lib.hid (H12.out.below h13)
              clear h13
              go_wp2_with fail
              go_ret
              exact ⟨rfl, H13.out.bel⟩
end Go.Proofs.Ythlohgldcnicbaa
