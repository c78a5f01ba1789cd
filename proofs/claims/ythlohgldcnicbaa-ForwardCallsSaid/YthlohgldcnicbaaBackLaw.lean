/- The plain laws of ForwardBack. -/
import Derived.Test.YthlohgldcnicbaaArgs
set_option linter.unusedVariables false
namespace Go.Proofs.Ythlohgldcnicbaa
open Go.RowKit Go.Deep Go.BigFrame
theorem findD_some {L : List Fw} {d : Door} {f : Fw} (h : findD L d = some f) : f ∈ L ∧ f.door = d := by
  unfold findD at h
  exact ⟨List.mem_of_find?_eq_some h, by simpa using List.find?_some h⟩
theorem outO_some {S : List Fw} {x : Tup} {f : Fw} (hf : f ∈ S) (hl : leads x f) : ∃ g, outO S x = some g ∧ g ∈ S ∧ leads x g := by
  cases h : outO S x with
  | none =>
    unfold outO at h
    rw [List.find?_eq_none] at h
    exact absurd (by simpa using hl) (h f hf)
  | some g =>
    unfold outO at h
    exact ⟨g, rfl, List.mem_of_find?_eq_some h, by simpa using List.find?_some h⟩
/-- Another forward that leads to where this one does. -/
def twin (f g : Fw) : Bool := g.proto == f.proto && g.addr == f.addr && g.dest == f.dest && g.port != f.port
/-- No twin among these. -/
def aloneB (f : Fw) (P : List Fw) : Bool := !P.any (twin f)
theorem alone_succ {f g : Fw} {S : List Fw} {k : Nat} (hg : S[k]? = some g) : aloneB f (S.take (k + 1)) = (aloneB f (S.take k) && !twin f g) := by
  unfold aloneB
  rw [take_at hg]
  simp [List.any_append]
/-- What comes in. -/
def backIn (x : Tup) (f : Fw) : Tup := ⟨x.proto, x.src, f.addr, x.sp, f.dest⟩
/-- What goes out again. -/
def backOut (x : Tup) (g : Fw) : Tup := ⟨x.proto, x.dst, x.src, g.port, x.sp⟩
theorem back_law {c : Cfg} {L S : List Fw} {x : Tup} {f : Fw} (hm : mayF c L = true) (hok : ∀ f ∈ L, f.Ok) (hS : Srt L S) (hf : findD L ⟨x.proto, x.dp⟩ = some f) :
    insF c f.addr = true ∧ f.proto = x.proto ∧ f.port = x.dp ∧ f.Ok ∧ revT (backIn x f) = ⟨x.proto, f.addr, x.src, f.dest, x.sp⟩ ∧
    revT x = ⟨x.proto, x.dst, x.src, x.dp, x.sp⟩ ∧
    ∃ g, outO S ⟨x.proto, f.addr, x.src, f.dest, x.sp⟩ = some g ∧ outT S ⟨x.proto, f.addr, x.src, f.dest, x.sp⟩ x.dst = backOut x g ∧ (aloneB f S = true → g.port = x.dp) := by
  obtain ⟨hws, hl, hall⟩ := may_fws hm hok
  obtain ⟨hmem, hd⟩ := findD_some hf
  have hfo := hall f hmem
  unfold fwOk at hfo
  simp only [Bool.and_eq_true] at hfo
  obtain ⟨⟨⟨⟨hp, _⟩, _⟩, hi⟩, _⟩ := hfo
  unfold Fw.door at hd
  injection hd with d1 d2
  have hp1 : x.proto ≠ 1 := by
    unfold protoF at hp
    rw [d1] at hp
    intro e
    rw [e] at hp
    simp at hp
  have hmS : f ∈ S := hS.perm.mem_iff.2 hmem
  obtain ⟨g, h1, h2, h3⟩ := outO_some (x := ⟨x.proto, f.addr, x.src, f.dest, x.sp⟩) hmS ⟨d1, rfl, rfl⟩
  refine ⟨hi, d1, d2, hok f hmem, ?_, ?_, g, h1, ?_, fun ha => ?_⟩
  · unfold revT backIn
    rw [if_neg hp1]
  · unfold revT
    rw [if_neg hp1]
  · unfold outT
    rw [h1]
    rfl
  · unfold aloneB at ha
    have ha' : S.any (twin f) = false := by simpa using ha
    rw [List.any_eq_false] at ha'
    have := ha' g h2
    obtain ⟨q1, q2, q3⟩ := h3
    unfold twin at this
    simp at this
    rw [← d2]
    refine this ?_ q2 q3
    rw [d1]
    exact q1
end Go.Proofs.Ythlohgldcnicbaa
