/- The reference's Touch. -/
import Derived.Test.YtdpomneoiagpiaaRLead
set_option linter.unusedVariables false
namespace Go.Proofs.Ytdpomneoiagpiaa
open Go.RowKit Go.Deep Go.BigFrame
attribute [local go_sem ↓] Go.wp_at_zero Go.wp_at_succ
theorem own_up {w : World} {B : Nat} {e : TypeId} {z n : Nat} {v : Value} {xs : List Value} (h : w.ownsRow B e z v n xs) : w.ownsRow 0 e z v n xs :=
  ⟨h.1, by
    rcases h.2 with q | ⟨g, cap, cur, q1, q2, q3⟩
    · exact .inl q
    · exact .inr ⟨g, cap, cur, q1, Nat.zero_le _, q3⟩⟩
theorem own_low {w : World} {B B' : Nat} {e : TypeId} {z n : Nat} {v : Value} {xs : List Value} (h : w.ownsRow B e z v n xs) (hl : B' ≤ B) : w.ownsRow B' e z v n xs :=
  ⟨h.1, by
    rcases h.2 with q | ⟨g, cap, cur, q1, q2, q3⟩
    · exact .inl q
    · exact .inr ⟨g, cap, cur, q1, Nat.le_trans hl q2, q3⟩⟩
theorem own_from {w : World} {B n c : Nat} {e : TypeId} {z : Nat} {A : Option Addr} {m : Nat} {xs : List Value} (h : w.ownsRow B e z (.slice A n c) m xs) : ∀ k, A = some ⟨k, 0, none⟩ → B ≤ k := by
  intro k hk
  rcases h.2 with ⟨q, _⟩ | ⟨g, cap, cur, q1, q2, _⟩
  · injection q with q
    rw [q] at hk
    cases hk
  · injection q1 with q1
    rw [q1] at hk
    injection hk with hk
    injection hk with hk
    omega
/-- without, of a place that is there. -/
theorem rwo_any {w : World} {h c : Nat} {A : Option Addr} {s : TS} (r : Rt w h A c s) (ho : s.Ok) (k : Nat) (hk : k < s.L.length) :
    Calls Try.prog 45 #[.pointer (some ⟨h, 0, none⟩), .int .i64 k] w fun e w' => ∃ A' c', e = .returned (.slice A' (s.L.length - 1) c') ∧ w'.ownsRow w.heap.size 62 12 (.slice A' (s.L.length - 1) c') (s.L.length - 1) (row (s.L.eraseIdx k)) ∧ Below w.heap.size w w' := by
  refine (without_any r ho k (by omega) (by have := ho.len; have := ho.most2; omega)).mono ?_
  rintro e w' ⟨A', c', l, rfl, hown, hb, hl⟩
  rw [withoutL_all] at hown
  have hll : l = s.L.length - 1 := by
    have := hown.1
    rw [row_len, List.length_eraseIdx, if_pos hk] at this
    omega
  subst hll
  exact ⟨A', c', rfl, hown, hb⟩
/-- A slice of the reference's laid into its table. -/
theorem rt_store {w Z : World} {h c : Nat} {A A' : Option Addr} {s s' : TS} {n c' : Nat} (r : Rt w h A c s) (hb : Below w.heap.size w Z) (hn : s'.L.length = n) (hm : s'.most = s.most) (hl : s'.last = s.last)
    (hown : Z.ownsRow 0 62 12 (.slice A' n c') n (row s'.L)) (hfrom : ∀ k, A' = some ⟨k, 0, none⟩ → w.heap.size ≤ k) :
    Rt (Z.setCell ⟨h, 0, none⟩ (.slice A' n c')) h A' c' s' ∧ Turns (RBlk h A) w (Z.setCell ⟨h, 0, none⟩ (.slice A' n c')) ∧ NewA w A A' := by
  subst hn
  have hh : Z.heap[h]? = some (.cells (rcells s A c) 67 (0, 0)) := (hb.block h r.lt).trans r.heap
  have hg := grown_setCell Z h 0 (.slice A' s'.L.length c')
  refine ⟨⟨?_, ?_⟩, (Turns.below hb).step hg (by rintro k e; cases e; exact .inl (.inl rfl)), fun k hk => .inr (hfrom k hk)⟩
  · rw [heap_set hh]
    unfold rcells
    rw [hm, hl]
    rfl
  · refine row_keptE hown fun i hi => hg.block i (row_lt hown hi).1 fun e => ?_
    injection e with e
    subst e
    obtain ⟨_, cs, fr, hx⟩ := row_lt hown hi
    rw [hh] at hx
    injection hx with hx
    injection hx with _ hx
    cases hx
set_option maxHeartbeats 6400000
theorem rtouch_any {w : World} {h c : Nat} {A : Option Addr} {s : TS} (r : Rt w h A c s) (ho : s.Ok) (id : Int) :
    Calls Try.prog 24 #[.pointer (some ⟨h, 0, none⟩), .int .u64 id] w fun e w' => e = .returned (.int .i64 (atE s id)) ∧ ∃ A' c', Rt w' h A' c' (touchS s id) ∧ Turns (RBlk h A) w w' ∧ NewA w A A' := by
  have R := Lib.hid r
  have HAT := Lib.hid (rat_any r ho id)
  cases hk : findK s.L id with
  | none =>
    have e1 : atE s id = 6 := by unfold atE; rw [hk]
    have e2 : touchS s id = s := by unfold touchS; rw [hk]
    rw [e1, e2]
    rw [find_none hk] at HAT
    clear r ho hk e1 e2
    go_enter Try.func24, Try.ntmps24
    go_wp2_with fail
    refine HAT.out.mono ?_
    rintro e w' ⟨rfl, rfl⟩
    go_wp2_with fail
    go_ret
    exact ⟨rfl, A, c, R.out, Turns.refl _ _, fun k e => .inl e⟩
  | some k =>
    obtain ⟨f, hf, hid, hix, hkl⟩ := find_hit hk
    have e1 : atE s id = 0 := by unfold atE; rw [hk]
    have e2 : touchS s id = { s with L := s.L.eraseIdx k ++ [f] } := by unfold touchS; rw [hk]; simp [hf]
    rw [e1, e2]
    rw [hix] at HAT
    obtain ⟨ba, cur, rfl, hbl, hat, hbc, hbh⟩ := r.at hf
    have c0 := r.c0
    have hlm : s.L.length ≤ 1024 := Nat.le_trans ho.len ho.most2
    have HWO := Lib.hid (fun W (hW : Below w.heap.size w W) => rwo_any (r.below hW) ho k hkl)
    obtain ⟨n, hn⟩ : ∃ n, s.L.length = n := ⟨_, rfl⟩
    rw [hn] at c0 hlm hkl HWO
    have HN := Lib.hid hn
    have hk0 : ¬ ((k : Int) < 0) := by omega
    obtain ⟨k0, k1, k2, k3, k4, k5, k6, k7, k8, k9, k10, k11⟩ := hat
    have PA : Hid (∀ (Y : World) (q : Nat) (A1 : Option Addr) (c1 : Nat), Below w.heap.size w Y → Y.ownsRow w.heap.size 62 12 (.slice A1 (n - 1) c1) (n - 1) (row (s.L.eraseIdx k)) → Y.heap[q]? = some (.cells f.arr 62 (0, 0)) →
        ∃ A2 c2 Z, (Builtin.append_ #[65, 65] 65 #[.slice A1 (n - 1) c1, .slice (some ⟨q, 0, none⟩) 1 1]).run Try.prog Y = .ok (.slice A2 (n - 1 + 1) c2) Z ∧ Z.ownsRow 0 62 12 (.slice A2 (n - 1 + 1) c2) (n - 1 + 1) (row (s.L.eraseIdx k ++ [f])) ∧ Below w.heap.size w Z ∧ ∀ k, A2 = some ⟨k, 0, none⟩ → w.heap.size ≤ k) :=
      Lib.hid (fun Y q A1 c1 hY ho hq => by
        obtain ⟨A2, c2, Z, a1, a2, a3, a4⟩ := push_at62 _ _ _ (own_up ho) q f hq (by omega)
        have hfr := own_from ho
        have hob : ∀ b, (Value.slice A1 (n - 1) c1).ownBlock = some b → w.heap.size ≤ b := fun b hb => by
          rcases ho.2 with ⟨q, _⟩ | ⟨g, cap, cur, q1, q2, _⟩
          · rw [q] at hb
            simp [Value.ownBlock] at hb
          · rw [q1] at hb
            simp [Value.ownBlock] at hb
            omega
        refine ⟨A2, c2, Z, a1, a2, grown_bel hY a3 hob, fun k hk => ?_⟩
        rcases a4 k hk with e | e
        · exact hob k e
        · exact Nat.le_trans hY.size e)
    have HC0 := Lib.hid c0
    have HK := Lib.hid hkl
    clear r ho hk hid hix e1 e2 hf hbc hn
    go_enter Try.func24, Try.ntmps24
    go_wp2_with fail
    refine HAT.out.mono ?_
    rintro e w' ⟨rfl, rfl⟩
    go_upto_region 5 with (fail)
    refine wp_name fun W hW => ?_
    have hBW : Below w.heap.size w W := by rw [hW]; exact (Below.refl _ _).alloc (Nat.le_refl _) _
    have hWs : W.heap.size = w.heap.size + 1 := by rw [hW]; simp
    have hh : W.heap[w.heap.size]? = some (.cells f.arr 62 (0, 0)) := by rw [hW]; exact heap_alloc_new w _
    have HW := Lib.hid (And.intro hBW (And.intro hWs hh))
    have x0 : W.cell? ⟨w.heap.size, 0, none⟩ = some (.int .u64 f.id) := cell_of hh 0
    have x1 : W.cell? ⟨w.heap.size, 1, none⟩ = some (.int .u8 f.inn.proto) := cell_of hh 1
    have x2 : W.cell? ⟨w.heap.size, 2, none⟩ = some (.int .u32 f.inn.src) := cell_of hh 2
    have x3 : W.cell? ⟨w.heap.size, 3, none⟩ = some (.int .u32 f.inn.dst) := cell_of hh 3
    have x4 : W.cell? ⟨w.heap.size, 4, none⟩ = some (.int .u16 f.inn.sp) := cell_of hh 4
    have x5 : W.cell? ⟨w.heap.size, 5, none⟩ = some (.int .u16 f.inn.dp) := cell_of hh 5
    have x6 : W.cell? ⟨w.heap.size, 6, none⟩ = some (.int .u8 f.out.proto) := cell_of hh 6
    have x7 : W.cell? ⟨w.heap.size, 7, none⟩ = some (.int .u32 f.out.src) := cell_of hh 7
    have x8 : W.cell? ⟨w.heap.size, 8, none⟩ = some (.int .u32 f.out.dst) := cell_of hh 8
    have x9 : W.cell? ⟨w.heap.size, 9, none⟩ = some (.int .u16 f.out.sp) := cell_of hh 9
    have x10 : W.cell? ⟨w.heap.size, 10, none⟩ = some (.int .u16 f.out.dp) := cell_of hh 10
    have x11 : W.cell? ⟨w.heap.size, 11, none⟩ = some (.bool f.emb) := cell_of hh 11
    have FY : Hid (∀ Y, Below w.heap.size w Y → (Y.cell? ⟨h, 0, none⟩ = some (.slice (some ⟨ba, 0, none⟩) n c) ∧ Y.frozen? ⟨h, 0, none⟩ = false)) := Lib.hid (fun Y hY => by
      have q : Y.heap[h]? = some (.cells (rcells s (some ⟨ba, 0, none⟩) c) 67 (0, 0)) := (hY.block h R.out.lt).trans R.out.heap
      exact ⟨(hY.cell (p := ⟨h, 0, none⟩) R.out.lt).trans HC0.out, free_of q 0⟩)
    have FZ : Hid (∀ Y, Below W.heap.size W Y → Y.heap[w.heap.size]? = some (.cells f.arr 62 (0, 0))) := Lib.hid (fun Y hY => (hY.block _ (by have := HW.out.2.1; omega)).trans HW.out.2.2)
    have DA : Hid (Calls Try.prog 45 #[.pointer (some ⟨h, 0, none⟩), .int .i64 k] W.drew fun e Y => ∃ A1 c1, e = .returned (.slice A1 (n - 1) c1) ∧ Y.ownsRow w.heap.size 62 12 (.slice A1 (n - 1) c1) (n - 1) (row (s.L.eraseIdx k)) ∧ Below w.heap.size w Y ∧ Below W.heap.size W Y) := Lib.hid (
      (HWO.out W.drew HW.out.1.drew).mono fun e Y ⟨A1, c1, a1, a2, a3⟩ => ⟨A1, c1, a1, own_low a2 (by simp; exact HW.out.1.size), HW.out.1.drew.trans (a3.mono HW.out.1.size), (Below.refl _ _).drew.trans a3⟩)
    have DB : Hid (Calls Try.prog 45 #[.pointer (some ⟨h, 0, none⟩), .int .i64 k] (W.alloc (.cells f.arr 62)).drew fun e Y => ∃ A1 c1, e = .returned (.slice A1 (n - 1) c1) ∧ Y.ownsRow w.heap.size 62 12 (.slice A1 (n - 1) c1) (n - 1) (row (s.L.eraseIdx k)) ∧ Below w.heap.size w Y ∧ Below W.heap.size W Y ∧ Y.heap[W.heap.size]? = some (.cells f.arr 62 (0, 0))) := Lib.hid (
      (HWO.out (W.drew.alloc (.cells f.arr 62)) (HW.out.1.drew.alloc HW.out.1.size _)).mono fun e Y ⟨A1, c1, a1, a2, a3⟩ => ⟨A1, c1, a1, own_low a2 (by have := HW.out.1.size; simp; omega), (HW.out.1.drew.alloc HW.out.1.size _).trans (a3.mono (by have := HW.out.1.size; simp; omega)), ((Below.refl W.heap.size W).drew.alloc (Nat.le_refl _) _).trans (a3.mono (by simp)),
        (a3.block _ (by simp)).trans (heap_alloc_new W.drew _)⟩)
    unfold Fl.arr at DB
    clear hBW hWs hh hW c0 k0 k1 k2 k3 k4 k5 k6 k7 k8 k9 k10 k11 hbl hbh
    go_region_law (first
      | (obtain ⟨A2, c2, Z, hr, hZo, hZb, hnew⟩ := PA.out Y _ A1 c1 hYb hYo hYn; refine step_append_run rfl (.tmp 22) (.tmp 24) 65 65 rfl _ _ rfl rfl _ Z hr ?_; obtain ⟨zc, zf⟩ := FY.out Z hZb)
      | (obtain ⟨A2, c2, Z, hr, hZo, hZb, hnew⟩ := PA.out (Y.alloc (.cells f.arr 62)) _ A1 c1 (hYb.alloc hYb.size _) (hYo.alloc _) (heap_alloc_new Y _); refine step_append_run rfl (.tmp 22) (.tmp 24) 65 65 rfl _ _ rfl rfl _ Z hr ?_; obtain ⟨zc, zf⟩ := FY.out Z hZb)
      | (go_wp2_with (go_at_call 45; (first | (with_reducible refine DA.out.mono ?_; rintro e Y ⟨A1, c1, rfl, hYo, hYb, hYW⟩) | (with_reducible refine DB.out.mono ?_; rintro e Y ⟨A1, c1, rfl, hYo, hYb, hYW, hYn⟩)); have yh := FZ.out Y hYW; have y0 : Y.cell? ⟨w.heap.size, 0, none⟩ = some (.int .u64 f.id) := cell_of yh 0; have y1 : Y.cell? ⟨w.heap.size, 1, none⟩ = some (.int .u8 f.inn.proto) := cell_of yh 1; have y2 : Y.cell? ⟨w.heap.size, 2, none⟩ = some (.int .u32 f.inn.src) := cell_of yh 2; have y3 : Y.cell? ⟨w.heap.size, 3, none⟩ = some (.int .u32 f.inn.dst) := cell_of yh 3; have y4 : Y.cell? ⟨w.heap.size, 4, none⟩ = some (.int .u16 f.inn.sp) := cell_of yh 4; have y5 : Y.cell? ⟨w.heap.size, 5, none⟩ = some (.int .u16 f.inn.dp) := cell_of yh 5; have y6 : Y.cell? ⟨w.heap.size, 6, none⟩ = some (.int .u8 f.out.proto) := cell_of yh 6; have y7 : Y.cell? ⟨w.heap.size, 7, none⟩ = some (.int .u32 f.out.src) := cell_of yh 7; have y8 : Y.cell? ⟨w.heap.size, 8, none⟩ = some (.int .u32 f.out.dst) := cell_of yh 8; have y9 : Y.cell? ⟨w.heap.size, 9, none⟩ = some (.int .u16 f.out.sp) := cell_of yh 9; have y10 : Y.cell? ⟨w.heap.size, 10, none⟩ = some (.int .u16 f.out.dp) := cell_of yh 10; have y11 : Y.cell? ⟨w.heap.size, 11, none⟩ = some (.bool f.emb) := cell_of yh 11)))
    all_goals
      go_wp2
      go_ret
      refine ⟨rfl, A2, c2, ?_⟩
      have hn1 : n - 1 + 1 = (s.L.eraseIdx k ++ [f]).length := by
        have := HK.out
        rw [List.length_append, List.length_eraseIdx, if_pos (by rw [HN.out]; exact this), HN.out]
        rfl
      exact rt_store R.out hZb hn1.symm rfl rfl hZo hnew
end Go.Proofs.Ytdpomneoiagpiaa
