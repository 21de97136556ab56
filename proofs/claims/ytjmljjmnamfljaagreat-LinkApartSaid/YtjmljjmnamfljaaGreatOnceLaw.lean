/- LinkOnce: monitors that are told, and those that are left. Plain facts; two monitors held side by side. -/
import Derived.Test.YtjmljjmnamfljaaGreatDos
import Derived.Laws.StructEq
namespace Go.Proofs.YtjmljjmnamfljaaGreat
set_option maxRecDepth 100000
open Go.RowKit Go.Maps

def eqMb (x y : Mon) : Bool := x.ref == y.ref && (x.who == y.who && x.whom == y.whom)
theorem eqMb_self (x : Mon) : eqMb x x = true := by unfold eqMb; simp
theorem eqI36 (x y : Mon) (w : World) : (Op.equalIn 10000 33 (monV x) (monV y)).run Tryz.prog w = .ok (eqMb x y) w := by
  have u3 := Tryz.underlying3
  have a3 := Tryz.isAgg3
  have z3 := Tryz.sizeOf3
  have hS : Tryz.prog.underlying 33 = some (.struct (Tryz.prog.fieldsOf 33)) := by kernel_rfl
  have hp : Tryz.prog.stoodInHeld 33 = false := by kernel_rfl
  obtain ⟨r, a, b⟩ := x
  obtain ⟨r', a', b'⟩ := y
  unfold monV eqMb
  rw [show (10000 : Nat) = 9999 + 1 from rfl, run_equalIn_agg w 9999 33 _ _ hS hp]
  simp only [Program.fieldsOf, Tryz.underlying33]
  cases h1 : (r == r') <;> cases h2 : (a == a') <;> cases h3 : (b == b') <;> go_simp
theorem eql36 (x y : Mon) (w : World) : (binOp .eql 33 (monV x) (monV y)).run Tryz.prog w = .ok (.bool (eqMb x y)) w := by
  rw [show monV x = .agg #[.int .i64 x.ref, .int .i64 x.who, .int .i64 x.whom] from rfl, show monV y = .agg #[.int .i64 y.ref, .int .i64 y.who, .int .i64 y.whom] from rfl, run_eql_struct]
  have := eqI36 x y w
  unfold monV at this
  rw [this]; rfl
theorem guard36 (p q : Operand) (x y : Mon) (w : World) : (eqGuard .eql 33 p q (monV x) (monV y)).run Tryz.prog w = .ok () w := by kernel_rfl
theorem exec36 (o : Oper) (a : Act) (p q : Operand) (r : TypeId) (x y : Mon) (ho : o.op = .binOp .eql 33 p q r) (hx : a.eval p = monV x) (hy : a.eval q = monV y) (w : World) : (execOp a.eval o).run Tryz.prog w = .ok (.value (.bool (eqMb x y))) w := by
  unfold execOp
  simp only [ho, hx, hy, Sem.run_bind, guard36, Result.andThen_ok, eql36, Sem.run_pure]

def notX (r p : Int) (M : List Mon) : List Mon := M.filter fun x => !(x.ref == r && x.who == p)
theorem endM_take {a : Int} {M : List Mon} {i : Nat} {x : Mon} (h : M[i]? = some x) : endM a (M.take (i + 1)) = endM a (M.take i) ++ (if keepM a x = true then [x] else []) := by
  unfold endM
  rw [List.take_add_one, h, List.filter_append]
  congr 1
  by_cases e : keepM a x = true <;> simp [e]
theorem notX_take {r p : Int} {M : List Mon} {i : Nat} {x : Mon} (h : M[i]? = some x) : notX r p (M.take (i + 1)) = notX r p (M.take i) ++ (if (x.ref == r && x.who == p) = true then [] else [x]) := by
  unfold notX
  rw [List.take_add_one, h, List.filter_append]
  congr 1
  simp only [Option.toList_some]
  by_cases e : (x.ref == r && x.who == p) = true
  · rw [if_pos e, List.filter_cons_of_neg (by rw [e]; decide)]; rfl
  · have e2 : (x.ref == r && x.who == p) = false := by cases h : (x.ref == r && x.who == p) with
      | true => exact absurd h e
      | false => rfl
    rw [if_neg e, List.filter_cons_of_pos (by rw [e2]; rfl)]; rfl
theorem canX_take {r p : Int} {M : List Mon} {i : Nat} {x : Mon} (h : M[i]? = some x) : canX r p (M.take (i + 1)) = (canX r p (M.take i) || (x.ref == r && x.who == p)) := by
  unfold canX
  rw [List.take_add_one, h]; simp
theorem anyM_take {T : List Mon} {x y : Mon} {i : Nat} (h : T[i]? = some y) : (T.take (i + 1)).any (fun z => eqMb z x) = ((T.take i).any (fun z => eqMb z x) || eqMb y x) := by
  rw [List.take_add_one, h]; simp
theorem filter_take_len {M : List Mon} (f : Mon → Bool) (i : Nat) : ((M.take i).filter f).length ≤ i := Nat.le_trans (List.length_filter_le _ _) (List.length_take_le _ _)
section
variable {V M : List Mon} (h : V.Perm M)
include h
theorem told_perm (a : Int) : (toldM a V).Perm (toldM a M) := h.filter _
theorem end_perm (a : Int) : (endM a V).Perm (endM a M) := h.filter _
theorem canX_perm (r p : Int) : canX r p V = canX r p M := by
  rw [Bool.eq_iff_iff, canX_iff, canX_iff]
  constructor
  · rintro ⟨x, hx, e⟩; exact ⟨x, h.mem_iff.1 hx, e⟩
  · rintro ⟨x, hx, e⟩; exact ⟨x, h.mem_iff.2 hx, e⟩
theorem notX_perm (hu : UpM M) (r p : Int) : (notX r p V).Perm (goX r p M) := by
  refine (h.filter _ : (notX r p V).Perm (notX r p M)).trans (List.Perm.of_eq ?_)
  unfold goX
  split
  · rename_i e
    obtain ⟨x, hx, rfl, rfl⟩ := canX_iff.1 e
    unfold dropRef
    refine List.filter_congr fun y hy => ?_
    by_cases e2 : y.ref = x.ref
    · obtain rfl := hu.one hy hx e2
      simp
    · simp [e2]
  · rename_i e
    refine List.filter_eq_self.2 fun y hy => ?_
    by_cases e2 : y.ref = r
    · have : y.who ≠ p := fun e3 => e (canX_iff.2 ⟨y, hy, e2, e3⟩)
      simp [this]
    · simp [e2]
theorem put_perm (x : Mon) : (V ++ [x]).Perm (insM x M) := by
  have hi : ∀ M : List Mon, (insM x M).Perm (x :: M) := by
    intro M
    induction M with
    | nil => exact List.Perm.refl _
    | cons y M ih =>
      unfold insM
      split
      · exact List.Perm.refl _
      · exact (ih.cons y).trans (List.Perm.swap _ _ _)
  exact (List.perm_append_comm.trans (h.cons x)).trans (hi M).symm
end
end Go.Proofs.YtjmljjmnamfljaaGreat
