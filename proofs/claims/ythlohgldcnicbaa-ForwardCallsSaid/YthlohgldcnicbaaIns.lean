/- Inside. -/
import Derived.Test.YthlohgldcnicbaaFind
import Derived.Laws.BitsAllLaws
set_option linter.unusedVariables false
namespace Go.Proofs.Ythlohgldcnicbaa
open Go.RowKit Go.Deep Go.BigFrame
attribute [local go_sem ↓] Go.wp_at_zero Go.wp_at_succ
theorem wpList_load_eq {P : Program} (w : World) {ops : Array Oper} {rest : List Oper} {o : Oper} {a : Act} {Q : Exit → Act → World → Prop} (hw : Region.wanted o (yielded ops a.tmps) = true) (t : TypeId) (p : Operand)
    (ho : o.op = .load t p) (v : Value) (hr : (Instr.loadAt t (a.eval p)).run P w = .ok v w) (h : wpList P ops Q rest (a.put o.dst v) w) : wpList P ops Q (o :: rest) a w :=
  wpList_want hw fun K hK => by
    unfold Oper.wp execOp
    simp only [ho, Sem.run_bind, Sem.run_pure, Result.andThen_ok, hr]
    exact hK _ _ h
theorem load29 {W : World} {q : Nat} {c : Cfg} (h : W.heap[q]? = some (.cells c.arr 29 (0, 0))) : (Instr.loadAt 29 (.pointer (some ⟨q, 0, none⟩))).run Try.prog W = .ok c.val W := by
  have h1 := run_loadCells_list (P := Try.prog) W ⟨q, 0, none⟩ c.arr.toList (fun j v hv => by
    rw [add_at, Nat.zero_add, cell_of h]
    rw [Array.getElem?_toList] at hv
    exact hv)
  rw [show c.arr.toList.length = 19 from rfl] at h1
  have hs : (Instr.sureAddr (.pointer (some ⟨q, 0, none⟩))).run Try.prog W = .ok ⟨q, 0, none⟩ W := by simp [Instr.sureAddr, go_sem]
  unfold Instr.loadAt
  simp [loadVar, Try.isAgg29, Try.sizeOf29, h1, hs, Sem.run_bind, Result.andThen]
  rfl
def insF (c : Cfg) (a : Int) : Bool := bits .and .u32 a c.mask == bits .and .u32 c.inn c.mask
theorem insF_xor {c : Cfg} (hc : c.Ok) {a : Int} (ha : (Lit.int .u32 a).wf = true) : (bits BinOp.and IntKind.u32 (bits BinOp.xor IntKind.u32 a c.inn) c.mask == 0) = insF c a := by
  obtain ⟨a0, a1⟩ := bd_u32 ha
  obtain ⟨i0, i1⟩ := bd_u32 hc.1
  obtain ⟨m0, m1⟩ := bd_u32 hc.2
  obtain ⟨A, rfl⟩ : ∃ A : Nat, a = (A : Int) := ⟨a.toNat, by omega⟩
  obtain ⟨I, hI⟩ : ∃ I : Nat, c.inn = (I : Int) := ⟨c.inn.toNat, by omega⟩
  obtain ⟨M, hM⟩ : ∃ M : Nat, c.mask = (M : Int) := ⟨c.mask.toNat, by omega⟩
  unfold insF
  rw [hI] at i0 i1 ⊢
  rw [hM] at m0 m1 ⊢
  have hx : A ^^^ I < 4294967296 := Nat.xor_lt_two_pow (n := 32) (by omega) (by omega)
  rw [u32_xor_nat A I (by omega) (by omega), u32_and_nat (A ^^^ I) M hx (by omega), u32_and_nat A M (by omega) (by omega), u32_and_nat I M (by omega) (by omega), Nat.and_xor_distrib_right]
  rw [Bool.eq_iff_iff]
  simp only [beq_iff_eq]
  constructor
  · intro h
    have h' : (A &&& M) ^^^ (I &&& M) = 0 := by exact_mod_cast h
    have h2 : ((A &&& M) ^^^ (I &&& M)) ^^^ (I &&& M) = 0 ^^^ (I &&& M) := by rw [h']
    rw [Nat.xor_assoc, Nat.xor_self, Nat.xor_zero, Nat.zero_xor] at h2
    rw [h2]
  · intro h
    have h' : A &&& M = I &&& M := by exact_mod_cast h
    rw [h', Nat.xor_self]
    rfl
set_option maxHeartbeats 800000
theorem inside_any {c : Cfg} (hc : c.Ok) {a : Int} (ha : (Lit.int .u32 a).wf = true) (w : World) :
    Calls Try.prog 14 #[c.val, .int .u32 a] w fun e w' => e = .returned (.bool (insF c a)) ∧ Below w.heap.size w w' := by
  have HX := Lib.hid (insF_xor hc ha)
  unfold Cfg.val Cfg.arr
  clear hc ha
  go_enter Try.func14, Try.ntmps14
  go_wp2
  go_ret
  exact ⟨ret_bool HX.out, (Below.refl _ _).alloc (Nat.le_refl _) _⟩
theorem rinside_any (c : Cfg) (a : Int) (w : World) :
    Calls Try.prog 15 #[c.val, .int .u32 a] w fun e w' => e = .returned (.bool (insF c a)) ∧ Below w.heap.size w w' := by
  unfold Cfg.val Cfg.arr
  go_enter Try.func15, Try.ntmps15
  go_wp2
  go_ret
  exact ⟨rfl, (Below.refl _ _).alloc (Nat.le_refl _) _⟩
end Go.Proofs.Ythlohgldcnicbaa
