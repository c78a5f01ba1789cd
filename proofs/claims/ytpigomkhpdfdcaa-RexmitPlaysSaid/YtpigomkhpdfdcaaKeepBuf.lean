/- One buffer stays while another one is written. -/
import Derived.Test.YtpigomkhpdfdcaaSend
set_option linter.unusedVariables false
namespace Go.Proofs.Ytpigomkhpdfdcaa
open Go.RowKit Go.Deep
/-- A buffer behind writes to another block than its own and its bytes'. -/
theorem Buf.other {w w' : World} {g h c : Nat} {A : Option Addr} {s : St} (hb : Buf w g A c s) (hg : w.grownBy w' (some h)) (hne : g ≠ h) (ha : ∀ b, (Value.slice A s.data.length c).ownBlock = some b → 0 < s.data.length → b ≠ h) : Buf w' g A c s :=
  ⟨(hg.block g hb.lt (by intro e; injection e with e; exact hne e)).trans hb.1, hb.2.keep hg ha⟩
/-- Bytes never lie in a buffer's own block: its cells hold no uint8. -/
theorem Byt.apart {w : World} {h c2 : Nat} {B : Option Addr} {s2 : St} {A : Option Addr} {n c : Nat} {xs : List Int} (hy : Byt w (.slice A n c) xs) (hb : Buf w h B c2 s2) :
    ∀ b, (Value.slice A n c).ownBlock = some b → 0 < n → b ≠ h := by
  intro b hbl hp e
  obtain ⟨A', c', hv, _, _, h3⟩ := hy
  injection hv with e1 e2 e3
  subst e1
  subst e2
  obtain ⟨b', o, rfl, hl, hc⟩ := h3 hp
  simp [Value.ownBlock] at hbl
  subst hbl
  subst e
  have h0 := hc 0 hp
  rw [cell_of hb.1] at h0
  have key : ∀ i : Nat, (s2.cells B c2)[i]? ≠ some (Value.int IntKind.u8 (xs.getD 0 0)) := by
    intro i
    unfold St.cells
    match i with
    | 0 | 1 | 2 | 3 | 4 | 5 | 6 | 7 | 8 => simp
    | n + 9 => simp
  exact key _ h0
theorem Buf.beside {w w' : World} {g h c c2 : Nat} {A B : Option Addr} {s s2 : St} (hb : Buf w g A c s) (hb2 : Buf w h B c2 s2) (hg : w.grownBy w' (some h)) (hne : g ≠ h) : Buf w' g A c s :=
  hb.other hg hne (hb.2.apart hb2)
end Go.Proofs.Ytpigomkhpdfdcaa
