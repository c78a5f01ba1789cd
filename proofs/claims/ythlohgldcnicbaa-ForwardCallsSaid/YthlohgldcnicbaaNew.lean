/- New. -/
import Derived.Test.YthlohgldcnicbaaMay
set_option linter.unusedVariables false
namespace Go.Proofs.Ythlohgldcnicbaa
open Go.RowKit Go.Deep Go.BigFrame
attribute [local go_sem ↓] Go.wp_at_zero Go.wp_at_succ
theorem Fws.take_none {L : List Fw} (h : Fws L) {k : Nat} {f : Fw} (hf : L[k]? = some f) : findD (L.take k) f.door = none := by
  unfold findD
  rw [List.find?_eq_none]
  intro g hg
  have e2 : L = L.take k ++ L.drop k := (List.take_append_drop k L).symm
  have hd := h.dis
  rw [e2, List.pairwise_append] at hd
  have hm : f ∈ L.drop k := by
    obtain ⟨hk, e3⟩ := List.getElem?_eq_some_iff.1 hf
    rw [List.drop_eq_getElem_cons hk, e3]
    simp
  simpa using hd.2.2 g hg f hm
set_option maxHeartbeats 3200000
set_option maxRecDepth 100000
theorem new_no {c : Cfg} (hc : c.Ok) (A : Option Addr) (n cp : Nat) (L : List Fw) (w : World) (hn : L.length = n) (hfs : FwsAt w A L) (hok : ∀ f ∈ L, f.Ok) (hm : n ≤ 100000) (hmay : mayF c L = false) :
    Calls Try.prog 9 #[c.val, .slice A n cp] w fun e w' => e = .returned (.tuple #[.pointer none, .int .i64 1]) ∧ Below w.heap.size w w' := by
  have hB : Below w.heap.size w (w.alloc (.cells c.arr 29)) := (Below.refl _ _).alloc (Nat.le_refl _) _
  have HM := Lib.hid (may_any hc A n cp L (w.alloc (.cells c.arr 29)) hn (hfs.below hB) hok hm)
  rw [hmay] at HM
  have HB := Lib.hid hB
  have HLD := Lib.hid (load29 (heap_alloc_new w (.cells c.arr 29)))
  clear hc hn hfs hok hB hmay
  unfold Cfg.val Cfg.arr at *
  go_enter Try.func9, Try.ntmps9
  go_wp2_with (refine wpList_load_eq _ rfl 29 _ rfl _ (by exact HLD.out) ?_)
  refine HM.out.mono ?_
  rintro e w' ⟨rfl, hb⟩
  have HB2 := Lib.hid (HB.out.trans (hb.mono HB.out.size))
  clear hb
  go_wp2_with fail
  go_ret2
  exact ⟨rfl, HB2.out⟩
theorem new_yes {c : Cfg} (hc : c.Ok) (A : Option Addr) (n cp : Nat) (L : List Fw) (w : World) (hn : L.length = n) (hfs : FwsAt w A L) (hok : ∀ f ∈ L, f.Ok) (hm : n ≤ 100000) (hmay : mayF c L = true) :
    Calls Try.prog 9 #[c.val, .slice A n cp] w fun e w' => ∃ g b nn, e = .returned (.tuple #[.pointer (some ⟨g, 0, none⟩), .int .i64 0]) ∧ Tb w' g b nn L ∧ Below w.heap.size w w' := by
  have hB : Below w.heap.size w (w.alloc (.cells c.arr 29)) := (Below.refl _ _).alloc (Nat.le_refl _) _
  have HM := Lib.hid (may_any hc A n cp L (w.alloc (.cells c.arr 29)) hn (hfs.below hB) hok hm)
  rw [hmay] at HM
  obtain ⟨hws, hl64, -⟩ := may_fws hmay hok
  have HB := Lib.hid hB
  have HL := Lib.hid (And.intro hws (And.intro hn (And.intro hfs (And.intro hok hl64))))
  have HLD := Lib.hid (load29 (heap_alloc_new w (.cells c.arr 29)))
  have hmm := @run_makeMap Try.prog
  clear hc hn hfs hok hB hmay hws hl64
  unfold Cfg.val Cfg.arr at *
  go_enter Try.func9, Try.ntmps9
  go_wp2_with (refine wpList_load_eq _ rfl 29 _ rfl _ (by exact HLD.out) ?_)
  refine HM.out.mono ?_
  rintro e w1 ⟨rfl, hb⟩
  have HB1 := Lib.hid (HB.out.trans (hb.mono HB.out.size))
  clear hb HM HLD
  go_wp2_with fail
  refine wp_name fun W0 hW0 => ?_
  obtain ⟨b, hb⟩ : ∃ b, w1.heap.size = b := ⟨_, rfl⟩
  have hB0 : Below w.heap.size w W0 := by rw [hW0]; exact (HB1.out.alloc HB1.out.size _).alloc (by have := HB1.out.size; simp; omega) _
  have hg0 : W0.heap[b + 1]? = some (.cells #[.map (some b)] 63 (0, 0)) := by
    rw [hW0, ← hb]
    have := heap_alloc_new (w1.alloc (.map #[] 0)) (.cells #[.map (some w1.heap.size)] 63)
    rwa [World.size_alloc] at this
  have hm0 : MapD W0 b 0 [] := by
    rw [hW0, ← hb]
    exact (MapD.made w1).below ((Below.refl _ _).alloc (Nat.le_refl _) _)
  have HW := Lib.hid (And.intro hB0 (And.intro hg0 (And.intro hm0 (by rw [← hb]; exact HB1.out.size : w.heap.size ≤ b))))
  rw [hb]
  clear hB0 hg0 hm0 hb hW0
  go_loopw [18] (fun v18 wr => ∃ k : Nat, v18 = .int .i64 k ∧ k ≤ n ∧ Below w.heap.size w wr ∧ wr.heap[b + 1]? = some (.cells #[.map (some b)] 63 (0, 0)) ∧ ∃ nk, nk ≤ k ∧ MapD wr b nk (L.take k)) (fun v18 _ => n - (intOf v18).toNat)
  case atStart => exact ⟨0, rfl, Nat.zero_le _, HW.out.1, HW.out.2.1, 0, Nat.le_refl _, by simpa using HW.out.2.2.1⟩
  case round =>
    obtain ⟨k, rfl, hk, hbr, hgr, nk, hnk, hmr⟩ := hrel
    have HR := Lib.hid (And.intro hbr (And.intro hgr hmr))
    clear hbr hgr hmr
    by_cases hlt : k < n
    · obtain ⟨f, hf⟩ : ∃ f, L[k]? = some f := ⟨L[k]'(by have := HL.out.2.1; omega), List.getElem?_eq_getElem _⟩
      have hfo := HL.out.2.2.2.1 f (List.mem_of_getElem? hf)
      obtain ⟨fb, fo, rfl, hbl, hat⟩ := HL.out.2.2.1 k f hf
      obtain ⟨k0, k1, k2, k3⟩ := hat.below HR.out.1 hbl
      have HF := Lib.hid (And.intro hf hfo)
      obtain ⟨q, hq⟩ : ∃ q, wr.heap.size = q := ⟨_, rfl⟩
      have HQ := Lib.hid hq
      clear hf hfo hat hbl hq
      go_upto_region 7 with (fail)
      refine wp_name fun V hV => ?_
      have hVB : Below wr.heap.size wr V := by rw [hV]; exact (Below.refl _ _).alloc (Nat.le_refl _) _
      have hVf : V.heap[q]? = some (.cells f.arr 37 (0, 0)) := by rw [hV, ← HQ.out]; exact heap_alloc_new wr _
      have hVg : V.heap[b + 1]? = some (.cells #[.map (some b)] 63 (0, 0)) := (hVB.block _ (Array.getElem?_eq_some_iff.1 HR.out.2.1).1).trans HR.out.2.1
      have hVm : MapD V b nk (L.take k) := HR.out.2.2.below hVB
      rw [HQ.out]
      have x0 : V.cell? ⟨q, 0, none⟩ = some (.int .u8 f.proto) := cell_of hVf 0
      have x1 : V.cell? ⟨q, 1, none⟩ = some (.int .u16 f.port) := cell_of hVf 1
      have x2 : V.cell? ⟨q, 2, none⟩ = some (.int .u32 f.addr) := cell_of hVf 2
      have x3 : V.cell? ⟨q, 3, none⟩ = some (.int .u16 f.dest) := cell_of hVf 3
      have g0 : V.cell? ⟨b + 1, 0, none⟩ = some (.map (some b)) := cell_of hVg 0
      have hVd : MapD V.drew b nk (L.take k) := hVm.keptE rfl
      obtain ⟨V2, hu, hm2, hg2⟩ := hVd.store HF.out.2 (by unfold maxLen; have := HL.out.2.2.2.2; omega) (HL.out.1.take_none HF.out.1)
      unfold Door.val Fw.door Fw.val Fw.arr at hu
      have H2 := Lib.hid (And.intro hm2 (And.intro hg2 (And.intro hVg hVB)))
      clear hm2 hg2 hVg hVB hVf hVm hVd hV k0 k1 k2 k3
      refine wp_region_tail 10 (by kernel_rfl) (by kernel_rfl) ?_
      simp only [List.take_succ_cons, List.take_zero, List.drop_succ_cons, List.drop_zero]
      repeat still_step
      refine wpStill_nil ?_
      go_wp2_with fail
      go_roundw
      case rel =>
        obtain ⟨hm2, hg2, hVg, hVB⟩ := H2.out
        refine ⟨k + 1, by simp, by omega, grown_bel (HR.out.1.trans (hVB.mono HR.out.1.size)).drew hg2 (by rintro j e; cases e; exact HW.out.2.2.2), (hg2.block _ (Array.getElem?_eq_some_iff.1 hVg).1 (by simp)).trans hVg, nk + 1, by omega, ?_⟩
        rw [take_at HF.out.1]
        exact hm2
      case measure => simp [intOf]; omega
    · obtain rfl : k = n := by omega
      go_wp2_with fail
      go_ret2
      refine ⟨b + 1, b, nk, rfl, ⟨HR.out.2.1, ?_, HL.out.1, HL.out.2.2.2.2⟩, HR.out.1⟩
      have := HR.out.2.2
      rw [← HL.out.2.1, List.take_length] at this
      exact this
end Go.Proofs.Ythlohgldcnicbaa
