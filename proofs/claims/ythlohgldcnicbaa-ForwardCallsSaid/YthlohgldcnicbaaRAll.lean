/- The reference's All: insertion. -/
import Derived.Test.YthlohgldcnicbaaApp
import Derived.Test.YthlohgldcnicbaaMisc
import Derived.BigQuiet
set_option linter.unusedVariables false
namespace Go.Proofs.Ythlohgldcnicbaa
open Go.RowKit Go.Deep Go.BigFrame
attribute [local go_sem ↓] Go.wp_at_zero Go.wp_at_succ
/-- One more forward, at its place. -/
theorem srt_ins {P S : List Fw} {f : Fw} {k : Nat} (hd : (P ++ [f]).Pairwise (fun f g => f.door ≠ g.door)) (h : Srt P S) (hlt : ∀ j g, j < k → S[j]? = some g → ltF g f) (hk : k ≤ S.length) (hn : ∀ g, S[k]? = some g → ¬ ltF g f) :
    Srt (P ++ [f]) (S.take k ++ [f] ++ S.drop k) := by
  have hS : (S ++ [f]).Perm (P ++ [f]) := h.perm.append_right _
  have hdS : (S ++ [f]).Pairwise (fun f g => f.door ≠ g.door) := (hS.pairwise_iff (fun {a b} q => q.symm)).2 hd
  rw [List.pairwise_append] at hdS
  have hp : (S.take k ++ [f] ++ S.drop k).Perm (S ++ [f]) := by
    have h1 : (S.take k ++ ([f] ++ S.drop k)).Perm (S.take k ++ (S.drop k ++ [f])) := List.perm_append_comm.append_left _
    rw [← List.append_assoc, ← List.append_assoc, List.take_append_drop] at h1
    exact h1
  refine ⟨hp.trans hS, ?_⟩
  have hsrt := h.srt
  have hs2 := hsrt
  rw [← List.take_append_drop k S, List.pairwise_append] at hs2
  have lo : ∀ a ∈ S.take k, ltF a f := by
    intro a ha
    obtain ⟨j, hj⟩ := List.getElem?_of_mem ha
    rcases Nat.lt_or_ge j k with r | r
    · rw [List.getElem?_take_of_lt r] at hj
      exact hlt j a r hj
    · rw [List.getElem?_eq_none (by rw [List.length_take]; omega)] at hj
      cases hj
  have hi : ∀ b ∈ S.drop k, ltF f b := by
    intro b hb
    obtain ⟨j, hj⟩ := List.getElem?_of_mem hb
    rw [List.getElem?_drop] at hj
    obtain ⟨q, e⟩ := List.getElem?_eq_some_iff.1 hj
    have hkl : k < S.length := by omega
    have hnk := hn _ (List.getElem?_eq_getElem hkl)
    have hne : (S[k]).door ≠ f.door := hdS.2.2 _ (List.getElem_mem hkl) f (by simp)
    have h1 : ltF f (S[k]) := by
      rcases ltF_tri hne with r | r
      · exact absurd r hnk
      · exact r
    cases j with
    | zero =>
      have : b = S[k] := by rw [← e]; simp
      rw [this]
      exact h1
    | succ j =>
      rw [List.pairwise_iff_getElem] at hsrt
      have := hsrt k (k + (j + 1)) hkl q (by omega)
      rw [e] at this
      exact ltF_trans h1 this
  rw [List.pairwise_append, List.pairwise_append]
  refine ⟨⟨hs2.1, by simp, ?_⟩, hs2.2.1, ?_⟩
  · intro a ha b hb
    simp at hb
    subst hb
    exact lo a ha
  · intro a ha b hb
    rw [List.mem_append] at ha
    rcases ha with ha | ha
    · exact ltF_trans (lo a ha) (hi b hb)
    · simp at ha
      subst ha
      exact hi b hb
theorem own_nil (w : World) (B : Nat) : w.ownsRow B 37 4 (.slice none 0 0) 0 (row []) := World.ownsRow_nil _ _ _ _
theorem own_below {w w' : World} {B n : Nat} {v : Value} {xs : List Value} (h : w.ownsRow B 37 4 v n xs) (hb : Below w.heap.size w w') : w'.ownsRow B 37 4 v n xs := by
  obtain ⟨A, c, rfl⟩ := own_len h
  exact row_below h hb
theorem own_cap {w : World} {B n m c : Nat} {A : Option Addr} {xs : List Value} (h : w.ownsRow B 37 4 (.slice A m c) n xs) : m ≤ c := by
  rcases h.2 with ⟨h0, _⟩ | ⟨g, cap, cur, h0, _, _, h1, _⟩
  · injection h0; omega
  · injection h0; omega
/-- What an append leaves: all but the row appended to stays. -/
theorem grown_own {w0 w w' : World} {n : Nat} {v : Value} {xs : List Value} (hb : Below w0.heap.size w0 w) (h : w.ownsRow w0.heap.size 37 4 v n xs) (hg : w.grownBy w' v.ownBlock) : Below w0.heap.size w0 w' :=
  grown_bel hb hg (fun k e => (h.lt k e).1)
set_option maxHeartbeats 32000000
set_option maxRecDepth 100000
theorem rall_any (A : Option Addr) (n cp : Nat) (L : List Fw) (w : World) (hn : L.length = n) (hfs : FwsAt w A L) (hL : Fws L) (hm : n ≤ 10000) :
    Calls Try.prog 21 #[.slice A n cp] w fun e w' => ∃ A' c S, e = .returned (.slice A' S.length c) ∧ Srt L S ∧ w'.ownsRow w.heap.size 37 4 (.slice A' S.length c) S.length (row S) ∧ Below w.heap.size w w' := by
  have HF := Lib.hid hfs
  have HN := Lib.hid hn
  have HLL := Lib.hid hL
  clear hfs hn hL
  go_enter Try.func21, Try.ntmps21
  go_wp2_with fail
  go_loopw [3, 4] (fun v3 v4 wr => ∃ (i : Nat) (A' : Option Addr) (c m : Nat) (S : List Fw), v4 = .int .i64 i ∧ v3 = .slice A' m c ∧ i ≤ n ∧ S.length = m ∧ m = i ∧ Srt (L.take i) S ∧ wr.ownsRow w.heap.size 37 4 (.slice A' m c) m (row S) ∧ Below w.heap.size w wr) (fun _ v4 _ => n - (intOf v4).toNat)
  case atStart => exact ⟨0, none, 0, 0, [], rfl, rfl, Nat.zero_le _, rfl, rfl, ⟨by simp, List.Pairwise.nil⟩, own_nil _ _, Below.refl _ _⟩
  case round =>
    obtain ⟨i, A', c, m, S, rfl, rfl, hi, hSl, hmi, hS, ho, hb⟩ := hrel
    have HR := Lib.hid (And.intro hSl (And.intro hS (And.intro ho (And.intro hb hmi))))
    have hm2 : m ≤ 10000 := by omega
    clear hSl hS ho hb hmi
    by_cases hlt : i < n
    · obtain ⟨f, hf⟩ : ∃ f, L[i]? = some f := ⟨L[i]'(by have := HN.out; omega), List.getElem?_eq_getElem _⟩
      have HFK := Lib.hid hf
      clear hf
      go_wp2_with fail
      obtain ⟨wo, hwo⟩ : ∃ x, x = wr := ⟨_, rfl⟩
      subst hwo
      have hFo : FwsAt wo (some ⟨0, 0, none⟩) [] := fun i f hf => by simp at hf
      have hFS : FwsAt wo A' S := FwsAt.own (by rw [HR.out.1]; exact HR.out.2.2.1)
      have HFS := Lib.hid hFS
      have hFL : FwsAt wo A L := HF.out.below HR.out.2.2.2.1
      have HFL := Lib.hid hFL
      clear hFo hFS hFL
      go_loopw [5] (fun v5 wr => ∃ k : Nat, v5 = .int .i64 k ∧ k ≤ m ∧ Below wo.heap.size wo wr ∧ ∀ (j : Nat) (g : Fw), j < k → S[j]? = some g → ltF g f) (fun v5 _ => m - (intOf v5).toNat)
      case atStart => exact ⟨0, rfl, Nat.zero_le _, Below.refl _ _, fun j g hj => by omega⟩
      case round =>
        obtain ⟨k, rfl, hk, hbr, hall⟩ := hrel
        have HK := Lib.hid (And.intro hbr hall)
        clear hbr hall
        obtain ⟨lb, lo, rfl, hll, hla⟩ := (HFL.out.below HK.out.1) i f HFK.out
        obtain ⟨l0, l1, l2, l3⟩ := hla
        clear hll
        by_cases hlk : k < m
        · obtain ⟨g, hg⟩ : ∃ g, S[k]? = some g := ⟨S[k]'(by have := HR.out.1; omega), List.getElem?_eq_getElem _⟩
          obtain ⟨sb, so, rfl, hsl, hsa⟩ := (HFS.out.below HK.out.1) k g hg
          obtain ⟨k0, k1, k2, k3⟩ := hsa
          have HG := Lib.hid hg
          clear hg hsl
          by_cases h1 : g.proto < f.proto
          · have hlg : ltF g f := by unfold ltF; omega
            have s1 : decide (g.proto < f.proto) = true := decide_eq_true h1
            have HLG := Lib.hid hlg
            clear hlg h1
            as_aux_lemma =>
              go_wp2_with fail
              go_quiet (fail)
              go_wp2_with fail
              go_roundw
              case rel =>
                refine ⟨k + 1, by simp, by omega, HK.out.1.trans (below_drewN (Below.refl _ _) _ |>.mono HK.out.1.size), fun j x hj hx => ?_⟩
                rcases Nat.lt_or_ge j k with r | r
                · exact HK.out.2 j x r hx
                · obtain rfl : j = k := by omega
                  rw [HG.out] at hx
                  cases hx
                  exact HLG.out
              case measure => simp [intOf]; omega
          · have s1 : decide (g.proto < f.proto) = false := decide_eq_false h1
            by_cases h2 : g.proto = f.proto
            · have s2 : (g.proto == f.proto) = true := by simpa using h2
              by_cases h3 : g.port < f.port
              · have s3 : decide (g.port < f.port) = true := decide_eq_true h3
                have hlg : ltF g f := by unfold ltF; omega
                have HLG := Lib.hid hlg
                clear hlg h1 h2 h3
                as_aux_lemma =>
                  go_wp2_with fail
                  go_quiet (fail)
                  go_wp2_with fail
                  go_roundw
                  case rel =>
                    refine ⟨k + 1, by simp, by omega, HK.out.1.trans (below_drewN (Below.refl _ _) _ |>.mono HK.out.1.size), fun j x hj hx => ?_⟩
                    rcases Nat.lt_or_ge j k with r | r
                    · exact HK.out.2 j x r hx
                    · obtain rfl : j = k := by omega
                      rw [HG.out] at hx
                      cases hx
                      exact HLG.out
                  case measure => simp [intOf]; omega
              · have s3 : decide (g.port < f.port) = false := decide_eq_false h3
                have hlg : ¬ ltF g f := by unfold ltF; omega
                have HLG := Lib.hid (fun (x : Fw) (hx : S[k]? = some x) => (by rw [HG.out] at hx; cases hx; exact hlg) : ∀ x, S[k]? = some x → ¬ ltF x f)
                clear hlg h1 h2 h3
                as_aux_lemma =>
                  go_wp2_with fail
                  go_quiet (fail)
                  go_upto_region 9 with (fail)
                  refine wp_name fun V hV => ?_
                  have hbV : Below wo.heap.size wo V := by rw [hV]; exact HK.out.1.trans (below_drewN (Below.refl _ _) _ |>.mono HK.out.1.size)
                  have hbW : Below w.heap.size w V := HR.out.2.2.2.1.trans (hbV.mono HR.out.2.2.2.1.size)
                  have hmc : m ≤ c := own_cap HR.out.2.2.1
                  obtain ⟨v1, w1, a1, o1, g1⟩ := app37 V V.heap.size (.slice none 0 0) 0 [] (own_nil _ _) (some ⟨sb, so, none⟩) k c (S.take k) (by rw [List.length_take, HR.out.1]; omega) ((HFS.out.below hbV).took k) (Nat.le_refl _) (by omega)
                  rw [Nat.zero_add, List.nil_append] at o1
                  have hb1 : Below V.heap.size V w1 := grown_bel (Below.refl _ _) g1 (fun j e => by cases e)
                  obtain ⟨A1, c1, rfl⟩ := own_len o1
                  have HA1 := Lib.hid a1
                  have HO1 := Lib.hid (And.intro o1 hb1)
                  have HV := Lib.hid (And.intro hbV hbW)
                  have hsl := fun W => run_slice_hi (some ⟨sb, so, none⟩) m c k (by omega) W
                  clear hV hbV hbW a1 o1 g1 hb1 l0 l1 l2 l3 k0 k1 k2 k3
                  go_upto_region 10 with (at_builtin; refine Lib.wpList_append_run _ rfl _ _ 27 27 rfl _ _ rfl rfl _ _ (by exact HA1.out _) ?_)
                  clear hsl
                  obtain ⟨lb2, lo2, e2, hll, l0, l1, l2, l3⟩ := (HFL.out.below (HV.out.1.trans (HO1.out.2.mono HV.out.1.size))) i f HFK.out
                  cases e2
                  obtain ⟨v2, w2, a2, o2, g2⟩ := app37 (w1.alloc (.cells f.arr 37)) V.heap.size (.slice A1 k c1) k (S.take k) (own_below HO1.out.1 (bel_alloc _ _)) (some ⟨w1.heap.size, 0, none⟩) 1 1 [f] rfl (fws_one (heap_alloc_new _ _)) (by rw [World.size_alloc]; have := HO1.out.2.size; omega) (by omega)
                  have hb2 : Below V.heap.size V w2 := grown_own (HO1.out.2.trans ((bel_alloc _ _).mono HO1.out.2.size)) (own_below HO1.out.1 (bel_alloc _ _)) g2
                  obtain ⟨A2, c2, rfl⟩ := own_len o2
                  have HA2 := Lib.hid a2
                  unfold Fw.arr at HA2
                  have HO2 := Lib.hid (And.intro o2 hb2)
                  clear a2 o2 g2 hb2 hll
                  go_upto_region 11 with (at_builtin; refine Lib.wpList_append_run _ rfl _ _ 27 27 rfl _ _ rfl rfl _ _ (by exact HA2.out _) ?_)
                  obtain ⟨v3, w3, a3, o3, g3⟩ := app37 w2 V.heap.size (.slice A2 (k + 1) c2) (k + 1) (S.take k ++ [f]) HO2.out.1 (cutA (some ⟨sb, so, none⟩) k c) (m - k) (c - k) (S.drop k) (by rw [List.length_drop, HR.out.1]) (((HFS.out.below HV.out.1).below HO2.out.2).from k (by rw [HR.out.1]; exact hmc)) HO2.out.2.size (by omega)
                  rw [show k + 1 + (m - k) = m + 1 by omega] at o3
                  have hb3 : Below V.heap.size V w3 := grown_own HO2.out.2 HO2.out.1 g3
                  obtain ⟨A3, c3, rfl⟩ := own_len o3
                  have HA3 := Lib.hid a3
                  have hsl := fun W => run_slice_lo (some ⟨sb, so, none⟩) m c k (by omega) W
                  have HO3 := Lib.hid (And.intro (own_low o3 HV.out.2.size) (HV.out.2.trans (hb3.mono HV.out.2.size)))
                  clear a3 o3 g3 hb3 l0 l1 l2 l3
                  go_wp2_with (at_builtin; refine Lib.wpList_append_run _ rfl _ _ 27 27 rfl _ _ rfl rfl _ _ (by exact HA3.out _) ?_)
                  go_roundw
                  case rel =>
                    refine ⟨i + 1, A3, c3, m + 1, S.take k ++ [f] ++ S.drop k, by simp, rfl, by omega, ?_, by have := HR.out.2.2.2.2; omega, ?_, HO3.out.1, HO3.out.2⟩
                    · rw [List.length_append, List.length_append, List.length_take, List.length_drop, HR.out.1]
                      simp
                      omega
                    · rw [take_at HFK.out]
                      refine srt_ins ?_ HR.out.2.1 HK.out.2 (by rw [HR.out.1]; exact hk) HLG.out
                      rw [← take_at HFK.out]
                      exact HLL.out.dis.sublist (List.take_sublist _ _)
                  case measure => simp [intOf]; omega
            · have s2 : (g.proto == f.proto) = false := by simpa using h2
              have hlg : ¬ ltF g f := by unfold ltF; omega
              have HLG := Lib.hid (fun (x : Fw) (hx : S[k]? = some x) => (by rw [HG.out] at hx; cases hx; exact hlg) : ∀ x, S[k]? = some x → ¬ ltF x f)
              clear hlg h1 h2
              as_aux_lemma =>
                go_wp2_with fail
                go_quiet (fail)
                go_upto_region 9 with (fail)
                refine wp_name fun V hV => ?_
                have hbV : Below wo.heap.size wo V := by rw [hV]; exact HK.out.1.trans (below_drewN (Below.refl _ _) _ |>.mono HK.out.1.size)
                have hbW : Below w.heap.size w V := HR.out.2.2.2.1.trans (hbV.mono HR.out.2.2.2.1.size)
                have hmc : m ≤ c := own_cap HR.out.2.2.1
                obtain ⟨v1, w1, a1, o1, g1⟩ := app37 V V.heap.size (.slice none 0 0) 0 [] (own_nil _ _) (some ⟨sb, so, none⟩) k c (S.take k) (by rw [List.length_take, HR.out.1]; omega) ((HFS.out.below hbV).took k) (Nat.le_refl _) (by omega)
                rw [Nat.zero_add, List.nil_append] at o1
                have hb1 : Below V.heap.size V w1 := grown_bel (Below.refl _ _) g1 (fun j e => by cases e)
                obtain ⟨A1, c1, rfl⟩ := own_len o1
                have HA1 := Lib.hid a1
                have HO1 := Lib.hid (And.intro o1 hb1)
                have HV := Lib.hid (And.intro hbV hbW)
                have hsl := fun W => run_slice_hi (some ⟨sb, so, none⟩) m c k (by omega) W
                clear hV hbV hbW a1 o1 g1 hb1 l0 l1 l2 l3 k0 k1 k2 k3
                go_upto_region 10 with (at_builtin; refine Lib.wpList_append_run _ rfl _ _ 27 27 rfl _ _ rfl rfl _ _ (by exact HA1.out _) ?_)
                clear hsl
                obtain ⟨lb2, lo2, e2, hll, l0, l1, l2, l3⟩ := (HFL.out.below (HV.out.1.trans (HO1.out.2.mono HV.out.1.size))) i f HFK.out
                cases e2
                obtain ⟨v2, w2, a2, o2, g2⟩ := app37 (w1.alloc (.cells f.arr 37)) V.heap.size (.slice A1 k c1) k (S.take k) (own_below HO1.out.1 (bel_alloc _ _)) (some ⟨w1.heap.size, 0, none⟩) 1 1 [f] rfl (fws_one (heap_alloc_new _ _)) (by rw [World.size_alloc]; have := HO1.out.2.size; omega) (by omega)
                have hb2 : Below V.heap.size V w2 := grown_own (HO1.out.2.trans ((bel_alloc _ _).mono HO1.out.2.size)) (own_below HO1.out.1 (bel_alloc _ _)) g2
                obtain ⟨A2, c2, rfl⟩ := own_len o2
                have HA2 := Lib.hid a2
                unfold Fw.arr at HA2
                have HO2 := Lib.hid (And.intro o2 hb2)
                clear a2 o2 g2 hb2 hll
                go_upto_region 11 with (at_builtin; refine Lib.wpList_append_run _ rfl _ _ 27 27 rfl _ _ rfl rfl _ _ (by exact HA2.out _) ?_)
                obtain ⟨v3, w3, a3, o3, g3⟩ := app37 w2 V.heap.size (.slice A2 (k + 1) c2) (k + 1) (S.take k ++ [f]) HO2.out.1 (cutA (some ⟨sb, so, none⟩) k c) (m - k) (c - k) (S.drop k) (by rw [List.length_drop, HR.out.1]) (((HFS.out.below HV.out.1).below HO2.out.2).from k (by rw [HR.out.1]; exact hmc)) HO2.out.2.size (by omega)
                rw [show k + 1 + (m - k) = m + 1 by omega] at o3
                have hb3 : Below V.heap.size V w3 := grown_own HO2.out.2 HO2.out.1 g3
                obtain ⟨A3, c3, rfl⟩ := own_len o3
                have HA3 := Lib.hid a3
                have hsl := fun W => run_slice_lo (some ⟨sb, so, none⟩) m c k (by omega) W
                have HO3 := Lib.hid (And.intro (own_low o3 HV.out.2.size) (HV.out.2.trans (hb3.mono HV.out.2.size)))
                clear a3 o3 g3 hb3 l0 l1 l2 l3
                go_wp2_with (at_builtin; refine Lib.wpList_append_run _ rfl _ _ 27 27 rfl _ _ rfl rfl _ _ (by exact HA3.out _) ?_)
                go_roundw
                case rel =>
                  refine ⟨i + 1, A3, c3, m + 1, S.take k ++ [f] ++ S.drop k, by simp, rfl, by omega, ?_, by have := HR.out.2.2.2.2; omega, ?_, HO3.out.1, HO3.out.2⟩
                  · rw [List.length_append, List.length_append, List.length_take, List.length_drop, HR.out.1]
                    simp
                    omega
                  · rw [take_at HFK.out]
                    refine srt_ins ?_ HR.out.2.1 HK.out.2 (by rw [HR.out.1]; exact hk) HLG.out
                    rw [← take_at HFK.out]
                    exact HLL.out.dis.sublist (List.take_sublist _ _)
                case measure => simp [intOf]; omega
        · have HKM := Lib.hid (show m ≤ k by omega)
          have HLG := Lib.hid (fun (x : Fw) (hx : S[k]? = some x) => (by rw [List.getElem?_eq_none (by rw [HR.out.1]; exact HKM.out)] at hx; cases hx) : ∀ x, S[k]? = some x → ¬ ltF x f)
          as_aux_lemma =>
            go_wp2_with fail
            go_quiet (fail)
            go_upto_region 9 with (fail)
            refine wp_name fun V hV => ?_
            have hbV : Below wo.heap.size wo V := by rw [hV]; exact HK.out.1.trans (below_drewN (Below.refl _ _) _ |>.mono HK.out.1.size)
            have hbW : Below w.heap.size w V := HR.out.2.2.2.1.trans (hbV.mono HR.out.2.2.2.1.size)
            have hmc : m ≤ c := own_cap HR.out.2.2.1
            obtain ⟨v1, w1, a1, o1, g1⟩ := app37 V V.heap.size (.slice none 0 0) 0 [] (own_nil _ _) A' k c (S.take k) (by rw [List.length_take, HR.out.1]; omega) ((HFS.out.below hbV).took k) (Nat.le_refl _) (by omega)
            rw [Nat.zero_add, List.nil_append] at o1
            have hb1 : Below V.heap.size V w1 := grown_bel (Below.refl _ _) g1 (fun j e => by cases e)
            obtain ⟨A1, c1, rfl⟩ := own_len o1
            have HA1 := Lib.hid a1
            have HO1 := Lib.hid (And.intro o1 hb1)
            have HV := Lib.hid (And.intro hbV hbW)
            have hsl := fun W => run_slice_hi A' m c k (by omega) W
            clear hV hbV hbW a1 o1 g1 hb1 l0 l1 l2 l3
            go_upto_region 10 with (at_builtin; refine Lib.wpList_append_run _ rfl _ _ 27 27 rfl _ _ rfl rfl _ _ (by exact HA1.out _) ?_)
            clear hsl
            obtain ⟨lb2, lo2, e2, hll, l0, l1, l2, l3⟩ := (HFL.out.below (HV.out.1.trans (HO1.out.2.mono HV.out.1.size))) i f HFK.out
            cases e2
            obtain ⟨v2, w2, a2, o2, g2⟩ := app37 (w1.alloc (.cells f.arr 37)) V.heap.size (.slice A1 k c1) k (S.take k) (own_below HO1.out.1 (bel_alloc _ _)) (some ⟨w1.heap.size, 0, none⟩) 1 1 [f] rfl (fws_one (heap_alloc_new _ _)) (by rw [World.size_alloc]; have := HO1.out.2.size; omega) (by omega)
            have hb2 : Below V.heap.size V w2 := grown_own (HO1.out.2.trans ((bel_alloc _ _).mono HO1.out.2.size)) (own_below HO1.out.1 (bel_alloc _ _)) g2
            obtain ⟨A2, c2, rfl⟩ := own_len o2
            have HA2 := Lib.hid a2
            unfold Fw.arr at HA2
            have HO2 := Lib.hid (And.intro o2 hb2)
            clear a2 o2 g2 hb2 hll
            go_upto_region 11 with (at_builtin; refine Lib.wpList_append_run _ rfl _ _ 27 27 rfl _ _ rfl rfl _ _ (by exact HA2.out _) ?_)
            obtain ⟨v3, w3, a3, o3, g3⟩ := app37 w2 V.heap.size (.slice A2 (k + 1) c2) (k + 1) (S.take k ++ [f]) HO2.out.1 (cutA A' k c) (m - k) (c - k) (S.drop k) (by rw [List.length_drop, HR.out.1]) (((HFS.out.below HV.out.1).below HO2.out.2).from k (by rw [HR.out.1]; exact hmc)) HO2.out.2.size (by omega)
            rw [show k + 1 + (m - k) = m + 1 by omega] at o3
            have hb3 : Below V.heap.size V w3 := grown_own HO2.out.2 HO2.out.1 g3
            obtain ⟨A3, c3, rfl⟩ := own_len o3
            have HA3 := Lib.hid a3
            have hsl := fun W => run_slice_lo A' m c k (by omega) W
            have HO3 := Lib.hid (And.intro (own_low o3 HV.out.2.size) (HV.out.2.trans (hb3.mono HV.out.2.size)))
            clear a3 o3 g3 hb3 l0 l1 l2 l3
            go_wp2_with (at_builtin; refine Lib.wpList_append_run _ rfl _ _ 27 27 rfl _ _ rfl rfl _ _ (by exact HA3.out _) ?_)
            go_roundw
            case rel =>
              refine ⟨i + 1, A3, c3, m + 1, S.take k ++ [f] ++ S.drop k, by simp, rfl, by omega, ?_, by have := HR.out.2.2.2.2; omega, ?_, HO3.out.1, HO3.out.2⟩
              · rw [List.length_append, List.length_append, List.length_take, List.length_drop, HR.out.1]
                simp
                omega
              · rw [take_at HFK.out]
                refine srt_ins ?_ HR.out.2.1 HK.out.2 (by rw [HR.out.1]; exact hk) HLG.out
                rw [← take_at HFK.out]
                exact HLL.out.dis.sublist (List.take_sublist _ _)
            case measure => simp [intOf]; omega
    · obtain rfl : i = n := by omega
      go_wp2_with fail
      go_ret
      have hS := HR.out.2.1
      rw [List.take_of_length_le (by rw [HN.out]; exact Nat.le_refl _)] at hS
      have h1 := HR.out.1
      subst h1
      exact ⟨_, _, S, rfl, hS, HR.out.2.2.1, HR.out.2.2.2.1⟩
end Go.Proofs.Ythlohgldcnicbaa
