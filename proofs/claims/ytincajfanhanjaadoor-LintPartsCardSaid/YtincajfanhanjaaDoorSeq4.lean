/- A region that draws its order, gone through by what holds whichever operations have come up. Plain law over whatever program. -/
import Derived.Test.YtincajfanhanjaaDoorSeq
namespace Go.Proofs.YtincajfanhanjaaDoor

section
variable {P : Program} {ops : Array Oper} {Q : Exit → Act → World → Prop}
def setB (d : Nat → Bool) (i : Nat) : Nat → Bool := fun j => j == i || d j
theorem setB_self (d : Nat → Bool) (i : Nat) : setB d i i = true := by simp [setB]
theorem setB_ne (d : Nat → Bool) {i j : Nat} (h : j ≠ i) : setB d i j = d j := by simp [setB, h]
/-- Each operation waits for earlier ones alone. -/
def downward (ops : Array Oper) : Bool := (List.range ops.size).all fun i => match ops[i]? with
  | some o => o.after.all fun e => decide (e.on < i)
  | none => true
def leftB (n : Nat) (d : Nat → Bool) : Nat := ((List.range n).filter fun j => !d j).length
theorem leftB_set {n i : Nat} {d : Nat → Bool} (hi : i < n) (hd : d i = false) : leftB n (setB d i) < leftB n d := by
  unfold leftB
  have h : (List.range n).filter (fun j => !setB d i j) = ((List.range n).filter fun j => !d j).filter (fun j => j != i) := by
    rw [List.filter_filter]
    refine List.filter_congr fun j _ => ?_
    simp only [setB, bne]
    cases (j == i) <;> cases d j <;> rfl
  rw [h]
  exact List.length_filter_lt_length_iff_exists.2 ⟨i, List.mem_filter.2 ⟨List.mem_range.2 hi, by simp [hd]⟩, by simp⟩
theorem all_of_ready {d : Nat → Bool} (hw : downward ops = true) (h : ∀ i oi, ops[i]? = some oi → d i = false → ¬ ∀ e ∈ oi.after, Region.binds .any e = true → d e.on = true) : ∀ i, i < ops.size → d i = true := by
  intro i
  induction i using Nat.strongRecOn with
  | _ i ih =>
    intro hi
    cases hd : d i with
    | true => rfl
    | false =>
      have ho : ops[i]? = some ops[i] := Array.getElem?_eq_getElem hi
      refine absurd (fun e he _ => ?_) (h i _ ho hd)
      simp only [downward, List.all_eq_true, List.mem_range] at hw
      have h1 := hw i hi
      rw [ho] at h1
      have h2 := Array.all_eq_true_iff_forall_mem.1 h1 e he
      have h3 : e.on < i := by simpa using h2
      exact ih _ h3 (Nat.lt_trans h3 hi)
theorem inv_walk (I : (Nat → Bool) → Act → World → Prop) (hw : (wellOrdered ops && downward ops) = true)
    (hstep : ∀ d a w i oi, ops[i]? = some oi → I d a w → d i = false → (∀ e ∈ oi.after, Region.binds .any e = true → d e.on = true) → ∀ K : Act → World → Prop, (∀ a' w', I (setB d i) a' w' → K a' w') →
      if Region.wanted oi (yielded ops a.tmps) then oi.wp P a w K Q else K (a.put oi.dst undef) w)
    (hend : ∀ d a w, I d a w → (∀ i, i < ops.size → d i = true) → Q .normal a w) :
    ∀ (fuel : Nat) (listed : Array Bool) (d : Nat → Bool) (a : Act) (w : World), listed.size = ops.size → (∀ j, j < ops.size → listed.getD j false = d j) → leftB ops.size d ≤ fuel → I d a w → wpAny P .any ops Q fuel listed a w := by
  rw [Bool.and_eq_true] at hw
  have hw2 := hw.1
  simp only [wellOrdered, Bool.and_eq_true] at hw2
  have hready : ∀ (listed : Array Bool) (d : Nat → Bool), listed.size = ops.size → (∀ j, j < ops.size → listed.getD j false = d j) → ∀ i, i ∈ Region.ready .any ops listed ↔ ∃ oi, ops[i]? = some oi ∧ d i = false ∧ ∀ e ∈ oi.after, Region.binds .any e = true → d e.on = true := by
    intro listed d hs hl i
    rw [mem_ready]
    constructor
    · rintro ⟨h1, oi, h2, h3⟩
      have hi : i < ops.size := (Array.getElem?_eq_some_iff.1 h2).1
      refine ⟨oi, h2, ?_, fun e he hb => ?_⟩
      · rw [← hl i hi]; rw [getD_true_of (by omega)] at h1; exact h1
      · have := h3 e he hb
        have hall := Array.all_eq_true_iff_forall_mem.1 (Array.all_eq_true_iff_forall_mem.1 hw2.2 oi (Array.mem_of_getElem? h2)) e he
        simp only [decide_eq_true_eq] at hall
        rw [← hl e.on hall]; exact this
    · rintro ⟨oi, h2, h1, h3⟩
      have hi : i < ops.size := (Array.getElem?_eq_some_iff.1 h2).1
      refine ⟨?_, oi, h2, fun e he hb => ?_⟩
      · rw [getD_true_of (by omega), hl i hi]; exact h1
      · have := h3 e he hb
        have hall := Array.all_eq_true_iff_forall_mem.1 (Array.all_eq_true_iff_forall_mem.1 hw2.2 oi (Array.mem_of_getElem? h2)) e he
        simp only [decide_eq_true_eq] at hall
        rw [hl e.on hall]; exact this
  have hdone : ∀ (listed : Array Bool) (d : Nat → Bool), listed.size = ops.size → (∀ j, j < ops.size → listed.getD j false = d j) → Region.ready .any ops listed = [] → ∀ i, i < ops.size → d i = true := by
    intro listed d hs hl h
    refine all_of_ready hw.2 (fun i oi h1 h2 h3 => ?_)
    have := (hready listed d hs hl i).2 ⟨oi, h1, h2, h3⟩
    rw [h] at this; cases this
  intro fuel
  induction fuel with
  | zero =>
    intro listed d a w hs hl hf hI
    have h0 : Region.ready .any ops listed = [] := by
      cases hr : Region.ready .any ops listed with
      | nil => rfl
      | cons i l =>
        obtain ⟨oi, h1, h2, _⟩ := (hready listed d hs hl i).1 (by rw [hr]; exact List.mem_cons_self)
        have := leftB_set (Array.getElem?_eq_some_iff.1 h1).1 h2
        omega
    exact ⟨h0, hend d a w hI (hdone listed d hs hl h0)⟩
  | succ fuel ih =>
    intro listed d a w hs hl hf hI
    refine ⟨fun h0 => hend d a w hI (hdone listed d hs hl h0), fun i hi => ?_⟩
    obtain ⟨oi, h1, h2, h3⟩ := (hready listed d hs hl i).1 hi
    have hlt := (Array.getElem?_eq_some_iff.1 h1).1
    have hK := hstep d a w i oi h1 hI h2 h3 (wpAny P .any ops Q fuel (listed.setIfInBounds i true)) (fun a' w' h' => ih _ (setB d i) a' w' (by simp [hs]) (fun j hj => by
      by_cases e : i = j
      · subst e; rw [setB_self]; simp [Array.getD, hs, hlt]
      · rw [getD_set_ne false e, setB_ne d (fun e' => e e'.symm)]; exact hl j hj) (by have := leftB_set hlt h2; omega) h')
    unfold wpOp
    simp only [h1]
    split
    · rename_i hwt; rw [if_pos hwt] at hK; exact .inl hK
    · rename_i hwt; rw [if_neg hwt] at hK; exact hK
/-- The whole region. -/
theorem order_inv {id : Nat} {a : Act} {w : World} (I : (Nat → Bool) → Act → World → Prop) (hm : P.follows .mixedOrders = true) (hw : (wellOrdered ops && downward ops) = true) (hI : I (fun _ => false) a w.drew)
    (hstep : ∀ d a w i oi, ops[i]? = some oi → I d a w → d i = false → (∀ e ∈ oi.after, Region.binds .any e = true → d e.on = true) → ∀ K : Act → World → Prop, (∀ a' w', I (setB d i) a' w' → K a' w') →
      if Region.wanted oi (yielded ops a.tmps) then oi.wp P a w K Q else K (a.put oi.dst undef) w)
    (hend : ∀ d a w, I d a w → (∀ i, i < ops.size → d i = true) → Q .normal a w) : (Code.region id ops true).wp P Q a w :=
  wp_region_any hm (inv_walk I hw hstep hend ops.size _ (fun _ => false) a _ (by simp) (fun j hj => by simp [Array.getD, hj]) (by unfold leftB; exact Nat.le_trans (List.length_filter_le _ _) (by simp)) hI)
end
end Go.Proofs.YtincajfanhanjaaDoor
