/- A region that draws its order, gone through by what holds whichever operations have come up. Plain law over whatever program. A region that draws its order, gone through by facts: what is known of each operation's value; one store at most, into a block that one of the operations made. Plain laws over whatever program. A region that draws its order, in two parts: first the operations that turn nothing old, gone through by facts; then the rest, that waits for all of them, one behind the other. Plain laws over whatever program. -/
import Derived.Test.YtjdbjjjbgibpaaaGreatDoorTermLawJn
namespace Go.Proofs.YtjdbjjjbgibpaaaGreatDoor

section
variable {P : Program} {ops : Array Oper} {Q : Exit → Act → World → Prop}
def setB (d : Nat → Bool) (i : Nat) : Nat → Bool := fun j => j == i || d j
theorem setB_self (d : Nat → Bool) (i : Nat) : setB d i i = true := by simp [setB]
theorem setB_ne (d : Nat → Bool) {i j : Nat} (h : j ≠ i) : setB d i j = d j := by simp [setB, h]
/-- Each operation waits for earlier ones alone. -/
def downward (ops : Array Oper) : Bool := (List.range ops.size).all fun i => match ops[i]? with
  | some o => o.after.all fun e => !Region.binds .any e || decide (e.on < i)
  | none => true
def leftB (n : Nat) (d : Nat → Bool) : Nat := ((List.range n).filter fun j => !d j).length
theorem leftB_set {n i : Nat} {d : Nat → Bool} (hi : i < n) (hd : d i = false) : leftB n (setB d i) < leftB n d := by
  unfold leftB
  have h : (List.range n).filter (fun j => !setB d i j) = ((List.range n).filter fun j => !d j).filter (fun j => j != i) := by
    rw [List.filter_filter]
    refine List.filter_congr fun j _ => ?_
    simp only [setB, bne]
    cases (j == i) <;> cases d j <;> rfl
  rw [h]
  exact List.length_filter_lt_length_iff_exists.2 ⟨i, List.mem_filter.2 ⟨List.mem_range.2 hi, by simp [hd]⟩, by simp⟩
theorem all_of_ready {d : Nat → Bool} (hw : downward ops = true) (h : ∀ i oi, ops[i]? = some oi → d i = false → ¬ ∀ e ∈ oi.after, Region.binds .any e = true → d e.on = true) : ∀ i, i < ops.size → d i = true := by
  intro i
  induction i using Nat.strongRecOn with
  | _ i ih =>
    intro hi
    cases hd : d i with
    | true => rfl
    | false =>
      have ho : ops[i]? = some ops[i] := Array.getElem?_eq_getElem hi
      refine absurd (fun e he hbe => ?_) (h i _ ho hd)
      simp only [downward, List.all_eq_true, List.mem_range] at hw
      have h1 := hw i hi
      rw [ho] at h1
      have h2 := Array.all_eq_true_iff_forall_mem.1 h1 e he
      have h3 : e.on < i := by simpa [hbe] using h2
      exact ih _ h3 (Nat.lt_trans h3 hi)
theorem inv_walk (I : (Nat → Bool) → Act → World → Prop) (hw : (wellOrdered ops && downward ops) = true)
    (hstep : ∀ d a w i oi, ops[i]? = some oi → I d a w → d i = false → (∀ e ∈ oi.after, Region.binds .any e = true → d e.on = true) → ∀ K : Act → World → Prop, (∀ a' w', I (setB d i) a' w' → K a' w') →
      if Region.wanted oi (yielded ops a.tmps) then oi.wp P a w K Q else K (a.put oi.dst undef) w)
    (hend : ∀ d a w, I d a w → (∀ i, i < ops.size → d i = true) → Q .normal a w) :
    ∀ (fuel : Nat) (listed : Array Bool) (d : Nat → Bool) (a : Act) (w : World), listed.size = ops.size → (∀ j, j < ops.size → listed.getD j false = d j) → leftB ops.size d ≤ fuel → I d a w → wpAny P .any ops Q fuel listed a w := by
  rw [Bool.and_eq_true] at hw
  have hw2 := hw.1
  simp only [wellOrdered, Bool.and_eq_true] at hw2
  have hready : ∀ (listed : Array Bool) (d : Nat → Bool), listed.size = ops.size → (∀ j, j < ops.size → listed.getD j false = d j) → ∀ i, i ∈ Region.ready .any ops listed ↔ ∃ oi, ops[i]? = some oi ∧ d i = false ∧ ∀ e ∈ oi.after, Region.binds .any e = true → d e.on = true := by
    intro listed d hs hl i
    rw [mem_ready]
    constructor
    · rintro ⟨h1, oi, h2, h3⟩
      have hi : i < ops.size := (Array.getElem?_eq_some_iff.1 h2).1
      refine ⟨oi, h2, ?_, fun e he hb => ?_⟩
      · rw [← hl i hi]; rw [getD_true_of (by omega)] at h1; exact h1
      · have := h3 e he hb
        have hall := Array.all_eq_true_iff_forall_mem.1 (Array.all_eq_true_iff_forall_mem.1 hw2.2 oi (Array.mem_of_getElem? h2)) e he
        simp only [decide_eq_true_eq] at hall
        rw [← hl e.on hall]; exact this
    · rintro ⟨oi, h2, h1, h3⟩
      have hi : i < ops.size := (Array.getElem?_eq_some_iff.1 h2).1
      refine ⟨?_, oi, h2, fun e he hb => ?_⟩
      · rw [getD_true_of (by omega), hl i hi]; exact h1
      · have := h3 e he hb
        have hall := Array.all_eq_true_iff_forall_mem.1 (Array.all_eq_true_iff_forall_mem.1 hw2.2 oi (Array.mem_of_getElem? h2)) e he
        simp only [decide_eq_true_eq] at hall
        rw [hl e.on hall]; exact this
  have hdone : ∀ (listed : Array Bool) (d : Nat → Bool), listed.size = ops.size → (∀ j, j < ops.size → listed.getD j false = d j) → Region.ready .any ops listed = [] → ∀ i, i < ops.size → d i = true := by
    intro listed d hs hl h
    refine all_of_ready hw.2 (fun i oi h1 h2 h3 => ?_)
    have := (hready listed d hs hl i).2 ⟨oi, h1, h2, h3⟩
    rw [h] at this; cases this
  intro fuel
  induction fuel with
  | zero =>
    intro listed d a w hs hl hf hI
    have h0 : Region.ready .any ops listed = [] := by
      cases hr : Region.ready .any ops listed with
      | nil => rfl
      | cons i l =>
        obtain ⟨oi, h1, h2, _⟩ := (hready listed d hs hl i).1 (by rw [hr]; exact List.mem_cons_self)
        have := leftB_set (Array.getElem?_eq_some_iff.1 h1).1 h2
        omega
    exact ⟨h0, hend d a w hI (hdone listed d hs hl h0)⟩
  | succ fuel ih =>
    intro listed d a w hs hl hf hI
    refine ⟨fun h0 => hend d a w hI (hdone listed d hs hl h0), fun i hi => ?_⟩
    obtain ⟨oi, h1, h2, h3⟩ := (hready listed d hs hl i).1 hi
    have hlt := (Array.getElem?_eq_some_iff.1 h1).1
    have hK := hstep d a w i oi h1 hI h2 h3 (wpAny P .any ops Q fuel (listed.setIfInBounds i true)) (fun a' w' h' => ih _ (setB d i) a' w' (by simp [hs]) (fun j hj => by
      by_cases e : i = j
      · subst e; rw [setB_self]; simp [Array.getD, hs, hlt]
      · rw [getD_set_ne false e, setB_ne d (fun e' => e e'.symm)]; exact hl j hj) (by have := leftB_set hlt h2; omega) h')
    unfold wpOp
    simp only [h1]
    split
    · rename_i hwt; rw [if_pos hwt] at hK; exact .inl hK
    · rename_i hwt; rw [if_neg hwt] at hK; exact hK
/-- The whole region. -/
theorem order_inv {id : Nat} {a : Act} {w : World} (I : (Nat → Bool) → Act → World → Prop) (hm : P.follows .mixedOrders = true) (hw : (wellOrdered ops && downward ops) = true) (hI : I (fun _ => false) a w.drew)
    (hstep : ∀ d a w i oi, ops[i]? = some oi → I d a w → d i = false → (∀ e ∈ oi.after, Region.binds .any e = true → d e.on = true) → ∀ K : Act → World → Prop, (∀ a' w', I (setB d i) a' w' → K a' w') →
      if Region.wanted oi (yielded ops a.tmps) then oi.wp P a w K Q else K (a.put oi.dst undef) w)
    (hend : ∀ d a w, I d a w → (∀ i, i < ops.size → d i = true) → Q .normal a w) : (Code.region id ops true).wp P Q a w :=
  wp_region_any hm (inv_walk I hw hstep hend ops.size _ (fun _ => false) a _ (by simp) (fun j hj => by simp [Array.getD, hj]) (by unfold leftB; exact Nat.le_trans (List.length_filter_le _ _) (by simp)) hI)
end
end Go.Proofs.YtjdbjjjbgibpaaaGreatDoor
namespace Go.Proofs.YtjdbjjjbgibpaaaGreatDoor

section
variable {P : Program} {ops : Array Oper} {Q : Exit → Act → World → Prop}
def updX (xs : Nat → Value) (i : Nat) (v : Value) : Nat → Value := fun j => if j = i then v else xs j
theorem updX_self (xs : Nat → Value) (i : Nat) (v : Value) : updX xs i v i = v := by simp [updX]
theorem updX_ne (xs : Nat → Value) {i j : Nat} (v : Value) (h : j ≠ i) : updX xs i v j = xs j := by simp [updX, h]
/-- A fact of a value, that lasts while nothing old is turned. -/
structure KF where
  say : World → Value → Prop
  keep : ∀ w w' v, Keeps NoB w w' → say w v → say w' v
def KF.any : KF := ⟨fun _ _ => True, fun _ _ _ _ h => h⟩
def KF.eq (v0 : Value) : KF := ⟨fun _ v => v = v0, fun _ _ _ _ h => h⟩
def KF.of (p : Value → Prop) : KF := ⟨fun _ v => p v, fun _ _ _ _ h => h⟩
def atF (l : List KF) (w : World) (i : Nat) (v : Value) : Prop := match l[i]? with | some f => f.say w v | none => True
theorem atF_keep {l : List KF} {w w' : World} {i : Nat} {v : Value} (hk : Keeps NoB w w') (h : atF l w i v) : atF l w' i v := by
  unfold atF at *
  cases hl : l[i]? with
  | none => trivial
  | some f => rw [hl] at h; exact f.keep _ _ _ hk h
def atG (l : List (Value → Prop)) (i : Nat) (v : Value) : Prop := match l[i]? with | some f => f v | none => True

/-- No store: each operation tells a value and turns nothing old. -/
theorem order_facts {rid : Nat} {a : Act} {w : World} (l : List KF) (FR : (Nat → Value) → Act) (xs0 : Nat → Value) (hm : P.follows .mixedOrders = true) (hw : (wellOrdered ops && downward ops) = true) (ha : a = FR xs0)
    (hstep : ∀ (d : Nat → Bool) (xs : Nat → Value) (wx : World) (i : Nat) (oi : Oper), ops[i]? = some oi → d i = false → Keeps NoB w.drew wx → (∀ j, d j = true → atF l wx j (xs j)) → (∀ e ∈ oi.after, Region.binds .any e = true → d e.on = true) →
      ∀ K : Act → World → Prop, (∀ v w', Keeps NoB wx w' → atF l w' i v → K (FR (updX xs i v)) w') → if Region.wanted oi (yielded ops (FR xs).tmps) then oi.wp P (FR xs) wx K Q else K ((FR xs).put oi.dst undef) wx)
    (hend : ∀ (xs : Nat → Value) (wx : World), Keeps NoB w.drew wx → (∀ i, i < ops.size → atF l wx i (xs i)) → Q .normal (FR xs) wx) : (Code.region rid ops true).wp P Q a w := by
  refine order_inv (fun d a wx => ∃ xs, a = FR xs ∧ Keeps NoB w.drew wx ∧ ∀ j, d j = true → atF l wx j (xs j)) hm hw ⟨xs0, ha, Keeps.refl _ _, fun j h => Bool.noConfusion h⟩ ?_ ?_
  · rintro d a wx i oi hoi ⟨xs, rfl, hk, hx⟩ hdi hdep K hK
    refine hstep d xs wx i oi hoi hdi hk hx hdep K (fun v w' hk' hv => hK _ _ ⟨updX xs i v, rfl, hk.trans' hk' (fun _ _ => id) (fun _ _ => id), fun j hj => ?_⟩)
    by_cases e : j = i
    · subst e; rw [updX_self]; exact hv
    · rw [updX_ne _ _ e]; exact atF_keep hk' (hx j (by rw [setB_ne d e] at hj; exact hj))
  · rintro d a wx ⟨xs, rfl, hk, hx⟩ hall
    exact hend xs wx hk (fun i hi => hx i (hall i hi))

theorem direct_of {st i : Nat} {so : Oper} (hs : ops[st]? = some so) (h : direct ops st i = true) : ∃ e ∈ so.after, Region.binds .any e = true ∧ e.on = i := by
  obtain ⟨oj, hoj, e, he, hb, heq⟩ := direct_spec h
  rw [hs] at hoj; injection hoj with hoj; subst hoj
  exact ⟨e, he, hb, heq⟩

/-- One store, into the block that operation 'al' made; 'late': what may come up behind the store (it asks for no memory). -/
theorem order_store {rid : Nat} {a : Act} {w : World} (st al : Nat) (late : Nat → Bool) (l : List KF) (g : List (Value → Prop)) (H : World → Value → Prop) (FR : (Nat → Value) → Act) (xs0 : Nat → Value)
    (hm : P.follows .mixedOrders = true) (hw : (wellOrdered ops && downward ops) = true)
    (hl : ((List.range ops.size).all fun i => i == st || late i || direct ops st i) = true) (hal : direct ops st al = true) (ha : a = FR xs0)
    (hstep : ∀ (d : Nat → Bool) (xs : Nat → Value) (wx : World) (i : Nat) (oi : Oper), ops[i]? = some oi → i ≠ st → d st = false → d i = false → Keeps NoB w.drew wx → (∀ j, j ≠ st → d j = true → atF l wx j (xs j)) → (∀ j, j ≠ st → d j = true → atG g j (xs j)) → (∀ e ∈ oi.after, Region.binds .any e = true → d e.on = true) →
      ∀ K : Act → World → Prop, (∀ v w', Keeps NoB wx w' → atF l w' i v → atG g i v → K (FR (updX xs i v)) w') → if Region.wanted oi (yielded ops (FR xs).tmps) then oi.wp P (FR xs) wx K Q else K ((FR xs).put oi.dst undef) wx)
    (hlate : ∀ (d : Nat → Bool) (xs : Nat → Value) (wx : World) (i : Nat) (oi : Oper), ops[i]? = some oi → late i = true → i ≠ st → (∀ j, j ≠ st → d j = true → atG g j (xs j)) → (∀ e ∈ oi.after, Region.binds .any e = true → d e.on = true) →
      ∀ K : Act → World → Prop, (∀ v, atG g i v → K (FR (updX xs i v)) wx) → if Region.wanted oi (yielded ops (FR xs).tmps) then oi.wp P (FR xs) wx K Q else K ((FR xs).put oi.dst undef) wx)
    (hst : ∀ (d : Nat → Bool) (xs : Nat → Value) (wx : World) (oi : Oper), ops[st]? = some oi → Keeps NoB w.drew wx → (∀ j, j ≠ st → d j = true → atF l wx j (xs j)) → (∀ j, j ≠ st → d j = true → atG g j (xs j)) → (∀ e ∈ oi.after, Region.binds .any e = true → d e.on = true) →
      ∀ K : Act → World → Prop, (∀ w', H w' (xs al) → K (FR xs) w') → if Region.wanted oi (yielded ops (FR xs).tmps) then oi.wp P (FR xs) wx K Q else K ((FR xs).put oi.dst undef) wx)
    (hend : ∀ (xs : Nat → Value) (wx : World), (∀ i, i < ops.size → i ≠ st → atG g i (xs i)) → H wx (xs al) → Q .normal (FR xs) wx) : (Code.region rid ops true).wp P Q a w := by
  obtain ⟨so0, hso0, e0, he0, hb0, hon0⟩ := direct_spec hal
  have hstn : st < ops.size := (Array.getElem?_eq_some_iff.1 hso0).1
  have hals : al ≠ st := by
    have h := hw
    rw [Bool.and_eq_true] at h
    have h := h.2
    simp only [downward, List.all_eq_true, List.mem_range] at h
    have h1 := h st hstn
    rw [hso0] at h1
    have h2 := Array.all_eq_true_iff_forall_mem.1 h1 e0 he0
    have h3 : e0.on < st := by simpa [hb0] using h2
    omega
  refine order_inv (fun d a wx => ∃ xs, a = FR xs ∧ (d st = true → ∀ i, i < ops.size → direct ops st i = true → d i = true) ∧ (∀ j, j ≠ st → d j = true → atG g j (xs j)) ∧ (d st = false → Keeps NoB w.drew wx ∧ ∀ j, j ≠ st → d j = true → atF l wx j (xs j)) ∧ (d st = true → H wx (xs al))) hm hw ⟨xs0, ha, fun h => Bool.noConfusion h, fun j _ h => Bool.noConfusion h, fun _ => ⟨Keeps.refl _ _, fun j _ h => Bool.noConfusion h⟩, fun h => Bool.noConfusion h⟩ ?_ ?_
  · rintro d a wx i oi hoi ⟨xs, rfl, hsh, hg, hF, hH⟩ hdi hdep K hK
    have hi : i < ops.size := (Array.getElem?_eq_some_iff.1 hoi).1
    by_cases his : i = st
    · subst his
      obtain ⟨hk, hx⟩ := hF hdi
      refine hst d xs wx oi hoi hk hx hg hdep K (fun w' hw' => hK _ _ ⟨xs, rfl, fun _ j hj hjd => ?_, fun j hji hj => hg j hji (by rw [setB_ne d hji] at hj; exact hj), fun h => (by rw [setB_self] at h; cases h), fun _ => hw'⟩)
      obtain ⟨e, he, hb, hon⟩ := direct_of hoi hjd
      have := hdep e he hb
      rw [hon] at this
      by_cases e : j = i
      · subst e; exact setB_self d j
      · rw [setB_ne d e]; exact this
    · have hst' : setB d i st = d st := setB_ne d (fun e => his e.symm)
      have hsh' : setB d i st = true → ∀ j, j < ops.size → direct ops st j = true → setB d i j = true := fun h j hj hd => by
        rw [hst'] at h
        by_cases e : j = i
        · subst e; exact setB_self d j
        · rw [setB_ne d e]; exact hsh h j hj hd
      have hG' : ∀ v, atG g i v → ∀ j, j ≠ st → setB d i j = true → atG g j (updX xs i v j) := fun v hv j hjs hj => by
        by_cases e : j = i
        · subst e; rw [updX_self]; exact hv
        · rw [updX_ne _ _ e]; exact hg j hjs (by rw [setB_ne d e] at hj; exact hj)
      cases hds : d st with
      | false =>
        obtain ⟨hk, hx⟩ := hF hds
        refine hstep d xs wx i oi hoi his hds hdi hk hx hg hdep K (fun v w' hk' hv hgv => hK _ _ ⟨updX xs i v, rfl, hsh', hG' v hgv, fun _ => ⟨hk.trans' hk' (fun _ _ => id) (fun _ _ => id), fun j hjs hj => ?_⟩, fun h => (by rw [hst', hds] at h; cases h)⟩)
        by_cases e : j = i
        · subst e; rw [updX_self]; exact hv
        · rw [updX_ne _ _ e]; exact atF_keep hk' (hx j hjs (by rw [setB_ne d e] at hj; exact hj))
      | true =>
        have hli : late i = true := by
          have h := List.all_eq_true.1 hl i (List.mem_range.2 hi)
          simp only [Bool.or_eq_true, beq_iff_eq] at h
          rcases h with (h | h) | h
          · exact absurd h his
          · exact h
          · have := hsh hds i hi h
            rw [hdi] at this; cases this
        have hal' : d al = true := by
          have hal2 : al < ops.size := by
            have h := hw
            rw [Bool.and_eq_true] at h
            have h := h.2
            simp only [downward, List.all_eq_true, List.mem_range] at h
            have h1 := h st hstn
            rw [hso0] at h1
            have h2 := Array.all_eq_true_iff_forall_mem.1 h1 e0 he0
            have h3 : e0.on < st := by simpa [hb0] using h2
            omega
          exact hsh hds al hal2 hal
        refine hlate d xs wx i oi hoi hli his hg hdep K (fun v hgv => hK _ _ ⟨updX xs i v, rfl, hsh', hG' v hgv, fun h => (by rw [hst', hds] at h; cases h), fun _ => ?_⟩)
        rw [updX_ne _ _ (fun e => by rw [e, hdi] at hal'; cases hal')]
        exact hH hds
  · rintro d a wx ⟨xs, rfl, _, hg, _, hH⟩ hall
    exact hend xs wx (fun i hi his => hg i his (hall i hi)) (hH (hall st hstn))
end
end Go.Proofs.YtjdbjjjbgibpaaaGreatDoor
namespace Go.Proofs.YtjdbjjjbgibpaaaGreatDoor

section
variable {P : Program} {ops : Array Oper} {Q : Exit → Act → World → Prop} {S : World → Prop} {need : Nat → Bool}
theorem wpAny_succ : ∀ (fuel : Nat) (listed : Array Bool) (a : Act) (w : World), wpAny P .any ops Q fuel listed a w → wpAny P .any ops Q (fuel + 1) listed a w
  | 0, _, _, _, h => ⟨fun _ => h.2, fun i hi => by rw [h.1] at hi; cases hi⟩
  | fuel + 1, _, _, _, h => ⟨h.1, fun i hi => wpOp_mono (fun a' w' h' => wpAny_succ fuel _ a' w' h') (h.2 i hi)⟩
theorem wpAny_more {fuel m : Nat} {listed : Array Bool} {a : Act} {w : World} (hm : fuel ≤ m) (h : wpAny P .any ops Q fuel listed a w) : wpAny P .any ops Q m listed a w := by
  induction m with
  | zero => obtain rfl : fuel = 0 := by omega
            exact h
  | succ m ih =>
    by_cases e : fuel = m + 1
    · subst e; exact h
    · exact wpAny_succ _ _ _ _ (ih (by omega))
/-- Whatever is not of the first n waits for all of them. -/
def waitAll (ops : Array Oper) (n : Nat) : Bool := (List.range ops.size).all fun i => decide (i < n) || (List.range n).all fun j => waits ops i j
theorem leftB_lower {N n : Nat} {d : Nat → Bool} (hn : n ≤ N) (h : ∀ i, n ≤ i → d i = false) : N - n ≤ leftB N d := by
  unfold leftB
  have h1 : ((List.range N).filter fun j => decide (n ≤ j)).length ≤ ((List.range N).filter fun j => !d j).length := by
    refine List.Sublist.length_le ?_
    have e : (List.range N).filter (fun j => decide (n ≤ j)) = ((List.range N).filter fun j => !d j).filter (fun j => decide (n ≤ j)) := by
      rw [List.filter_filter]
      refine List.filter_congr fun j _ => ?_
      by_cases hj : n ≤ j
      · simp [hj, h j hj]
      · simp [hj]
    rw [e]
    exact List.filter_sublist
  have h2 : ((List.range N).filter fun j => decide (n ≤ j)).length = N - n := by
    obtain ⟨k, rfl⟩ : ∃ k, N = n + k := ⟨N - n, by omega⟩
    rw [List.range_add, List.filter_append, List.length_append]
    have e1 : (List.range n).filter (fun j => decide (n ≤ j)) = [] := by
      rw [List.filter_eq_nil_iff]
      intro a ha; have := List.mem_range.1 ha; simp; omega
    have e2 : ((List.range k).map (n + ·)).filter (fun j => decide (n ≤ j)) = (List.range k).map (n + ·) := by
      rw [List.filter_eq_self]
      intro a ha
      obtain ⟨x, _, rfl⟩ := List.mem_map.1 ha
      simp
    rw [e1, e2]
    simp
  omega
theorem inv_then (n : Nat) (done : List Nat) (hdone : ∀ j, done.contains j = decide (j < n)) (I : (Nat → Bool) → Act → World → Prop) (hn : n ≤ ops.size) (hw : ((wellOrdered ops && downward ops) && waitAll ops n) = true)
    (hstep : ∀ d a w i oi, ops[i]? = some oi → i < n → I d a w → d i = false → (∀ e ∈ oi.after, Region.binds .any e = true → d e.on = true) → ∀ K : Act → World → Prop, (∀ a' w', I (setB d i) a' w' → K a' w') →
      if Region.wanted oi (yielded ops a.tmps) then oi.wp P a w K Q else K (a.put oi.dst undef) w)
    (hrest : ∀ d a w, I d a w → (∀ i, i < n → d i = true) → Order P ops Q S need (ops.size - n) done a w) :
    ∀ (fuel : Nat) (listed : Array Bool) (d : Nat → Bool) (a : Act) (w : World), listed.size = ops.size → (∀ j, j < ops.size → listed.getD j false = d j) → (∀ j, n ≤ j → d j = false) → Shut ops listed → leftB ops.size d ≤ fuel → I d a w → wpAny P .any ops Q fuel listed a w := by
  rw [Bool.and_eq_true] at hw
  obtain ⟨hw0, hwa⟩ := hw
  rw [Bool.and_eq_true] at hw0
  have hw2 := hw0.1
  simp only [wellOrdered, Bool.and_eq_true] at hw2
  have hready : ∀ (listed : Array Bool) (d : Nat → Bool), listed.size = ops.size → (∀ j, j < ops.size → listed.getD j false = d j) → ∀ i, i ∈ Region.ready .any ops listed ↔ ∃ oi, ops[i]? = some oi ∧ d i = false ∧ ∀ e ∈ oi.after, Region.binds .any e = true → d e.on = true := by
    intro listed d hs hl i
    rw [mem_ready]
    constructor
    · rintro ⟨h1, oi, h2, h3⟩
      have hi : i < ops.size := (Array.getElem?_eq_some_iff.1 h2).1
      refine ⟨oi, h2, ?_, fun e he hb => ?_⟩
      · rw [← hl i hi]; rw [getD_true_of (by omega)] at h1; exact h1
      · have := h3 e he hb
        have hall := Array.all_eq_true_iff_forall_mem.1 (Array.all_eq_true_iff_forall_mem.1 hw2.2 oi (Array.mem_of_getElem? h2)) e he
        simp only [decide_eq_true_eq] at hall
        rw [← hl e.on hall]; exact this
    · rintro ⟨oi, h2, h1, h3⟩
      have hi : i < ops.size := (Array.getElem?_eq_some_iff.1 h2).1
      refine ⟨?_, oi, h2, fun e he hb => ?_⟩
      · rw [getD_true_of (by omega), hl i hi]; exact h1
      · have := h3 e he hb
        have hall := Array.all_eq_true_iff_forall_mem.1 (Array.all_eq_true_iff_forall_mem.1 hw2.2 oi (Array.mem_of_getElem? h2)) e he
        simp only [decide_eq_true_eq] at hall
        rw [hl e.on hall]; exact this
  have hlast : ∀ (fuel : Nat) (listed : Array Bool) (d : Nat → Bool) (a : Act) (w : World), listed.size = ops.size → (∀ j, j < ops.size → listed.getD j false = d j) → (∀ j, n ≤ j → d j = false) → leftB ops.size d ≤ fuel → I d a w → (∀ i, i < n → d i = true) → wpAny P .any ops Q fuel listed a w := by
    intro fuel listed d a w hs hl hd hf hI hall
    have hle := leftB_lower hn hd
    refine wpAny_more (by omega) (wpAny_of_need (S := S) (need := need) _ _ _ _ (hrest d a w hI hall listed ⟨hs, fun j => ?_⟩))
    rw [hdone]
    by_cases hj : j < ops.size
    · rw [hl j hj]
      by_cases hjn : j < n
      · simp [hall j hjn, hjn, hj]
      · simp [hd j (by omega), hjn]
    · have : listed.getD j false = false := by simp [Array.getD, hs, hj]
      rw [this]; simp [hj]
  intro fuel
  induction fuel with
  | zero =>
    intro listed d a w hs hl hd hsh hf hI
    have h0 : ∀ i, i < n → d i = true := by
      intro i hi
      cases hdi : d i with
      | true => rfl
      | false => have := leftB_set (n := ops.size) (by omega) hdi; omega
    exact hlast 0 listed d a w hs hl hd hf hI h0
  | succ fuel ih =>
    intro listed d a w hs hl hd hsh hf hI
    by_cases hall : ∀ i, i < n → d i = true
    · exact hlast _ listed d a w hs hl hd hf hI hall
    · have hlow : ∀ i, i ∈ Region.ready .any ops listed → i < n := by
        intro i hi
        rcases Nat.lt_or_ge i n with h | h
        · exact h
        · refine absurd (fun j hj => ?_) hall
          have hio : i < ops.size := by
            obtain ⟨oi, h2, _⟩ := (hready listed d hs hl i).1 hi
            exact (Array.getElem?_eq_some_iff.1 h2).1
          have h1 := List.all_eq_true.1 hwa i (List.mem_range.2 hio)
          simp only [Bool.or_eq_true, decide_eq_true_eq, List.all_eq_true, List.mem_range] at h1
          have h2 := (h1.resolve_left (by omega)) j hj
          have hjo : j < ops.size := by omega
          cases hdj : d j with
          | true => rfl
          | false =>
            have h3 := waits_spec hsh hi (by rw [hl j hjo]; exact hdj)
            rw [h2] at h3; cases h3
      refine ⟨fun h0 => absurd (fun i hi => ?_) hall, fun i hi => ?_⟩
      · exact all_of_ready hw0.2 (fun i oi h1 h2 h3 => by
          have := (hready listed d hs hl i).2 ⟨oi, h1, h2, h3⟩
          rw [h0] at this; cases this) i (by omega)
      · obtain ⟨oi, h1, h2, h3⟩ := (hready listed d hs hl i).1 hi
        have hlt := (Array.getElem?_eq_some_iff.1 h1).1
        have hin := hlow i hi
        have hK := hstep d a w i oi h1 hin hI h2 h3 (wpAny P .any ops Q fuel (listed.setIfInBounds i true)) (fun a' w' h' => ih _ (setB d i) a' w' (by simp [hs]) (fun j hj => by
          by_cases e : i = j
          · subst e; rw [setB_self]; simp [Array.getD, hs, hlt]
          · rw [Go.getD_set_ne false e, setB_ne d (fun e' => e e'.symm)]; exact hl j hj) (fun j hj => by rw [setB_ne d (by omega)]; exact hd j hj) (hsh.step hi) (by have := leftB_set hlt h2; omega) h')
        unfold wpOp
        simp only [h1]
        split
        · rename_i hwt; rw [if_pos hwt] at hK; exact .inl hK
        · rename_i hwt; rw [if_neg hwt] at hK; exact hK
/-- A fact of a value whose lists lie in allowed blocks. -/
structure KB where
  say : World → (Nat → Prop) → Value → Prop
  keep : ∀ (w w' : World) (B : Nat → Prop) (v : Value), Keeps NoB w w' → say w B v → say w' B v
  more : ∀ (w : World) (B B' : Nat → Prop) (v : Value), (∀ k, k < w.heap.size → B k → B' k) → say w B v → say w B' v
def KB.any : KB := ⟨fun _ _ _ => True, fun _ _ _ _ _ h => h, fun _ _ _ _ _ h => h⟩
def KB.eq (v0 : Value) : KB := ⟨fun _ _ v => v = v0, fun _ _ _ _ _ h => h, fun _ _ _ _ _ h => h⟩
def KB.of (p : Value → Prop) : KB := ⟨fun _ _ v => p v, fun _ _ _ _ _ h => h, fun _ _ _ _ _ h => h⟩
def atB (l : List KB) (w : World) (B : Nat → Prop) (i : Nat) (v : Value) : Prop := match l[i]? with | some f => f.say w B v | none => True
theorem atB_keep {l : List KB} {w w' : World} {B : Nat → Prop} {i : Nat} {v : Value} (hk : Keeps NoB w w') (h : atB l w B i v) : atB l w' B i v := by
  unfold atB at *
  cases hl : l[i]? with
  | none => trivial
  | some f => rw [hl] at h; exact f.keep _ _ _ _ hk h
theorem atB_more {l : List KB} {w : World} {B B' : Nat → Prop} {i : Nat} {v : Value} (hB : ∀ k, k < w.heap.size → B k → B' k) (h : atB l w B i v) : atB l w B' i v := by
  unfold atB at *
  cases hl : l[i]? with
  | none => trivial
  | some f => rw [hl] at h; exact f.more _ _ _ _ hB h
/-- The allowed blocks: all but the one that operation 'al' made. -/
def Bx (B0 : Nat → Prop) (x : Value) (k : Nat) : Prop := B0 k ∧ x ≠ .pointer (some ⟨k, 0, none⟩)
theorem undef_ne {p : Option Addr} (h : (undef : Value) = .pointer p) : False := by cases h
theorem order_parts {rid : Nat} {a : Act} {w : World} (n al : Nat) (done : List Nat) (B0 : Nat → Prop) (l : List KB) (S : World → Prop) (need : Nat → Bool) (FR : (Nat → Value) → Act) (xs0 : Nat → Value)
    (hm : P.follows .mixedOrders = true) (hdone : ∀ j, done.contains j = decide (j < n)) (hn : n ≤ ops.size) (hw : ((wellOrdered ops && downward ops) && waitAll ops n) = true) (ha : a = FR xs0) (h0 : xs0 al = undef)
    (hstep : ∀ (d : Nat → Bool) (xs : Nat → Value) (wx : World) (i : Nat) (oi : Oper), ops[i]? = some oi → i < n → d i = false → Keeps NoB w.drew wx → (∀ k, k < w.drew.heap.size ∨ wx.heap.size ≤ k → xs al ≠ .pointer (some ⟨k, 0, none⟩)) → (∀ j, d j = true → atB l wx (Bx B0 (xs al)) j (xs j)) → (∀ e ∈ oi.after, Region.binds .any e = true → d e.on = true) →
      ∀ K : Act → World → Prop, (i ≠ al → ∀ v w', Keeps NoB wx w' → atB l w' (Bx B0 (xs al)) i v → K (FR (updX xs i v)) w') → (i = al → ∀ v w', Keeps NoB wx w' → (∀ k, k < wx.heap.size → v ≠ .pointer (some ⟨k, 0, none⟩)) → (∀ k, w'.heap.size ≤ k → v ≠ .pointer (some ⟨k, 0, none⟩)) → (∀ B, atB l w' B i v) → K (FR (updX xs i v)) w') →
      if Region.wanted oi (yielded ops (FR xs).tmps) then oi.wp P (FR xs) wx K Q else K ((FR xs).put oi.dst undef) wx)
    (hrest : ∀ (xs : Nat → Value) (wx : World), Keeps NoB w.drew wx → (∀ k, k < w.drew.heap.size ∨ wx.heap.size ≤ k → xs al ≠ .pointer (some ⟨k, 0, none⟩)) → (∀ i, i < n → atB l wx (Bx B0 (xs al)) i (xs i)) → Order P ops Q S need (ops.size - n) done (FR xs) wx) : (Code.region rid ops true).wp P Q a w := by
  refine wp_region_any hm (inv_then (S := S) (need := need) n done hdone (fun d a wx => ∃ xs, a = FR xs ∧ Keeps NoB w.drew wx ∧ (∀ k, k < w.drew.heap.size ∨ wx.heap.size ≤ k → xs al ≠ .pointer (some ⟨k, 0, none⟩)) ∧ ∀ j, d j = true → atB l wx (Bx B0 (xs al)) j (xs j)) hn hw ?_ ?_ ops.size _ (fun _ => false) a _ (by simp) (fun j hj => by simp [Array.getD, hj]) (fun _ _ => rfl) ?_ (by unfold leftB; exact Nat.le_trans (List.length_filter_le _ _) (by simp)) ⟨xs0, ha, Keeps.refl _ _, fun _ _ e => (by rw [h0] at e; exact undef_ne e), fun j h => Bool.noConfusion h⟩)
  · rintro d a wx i oi hoi hin ⟨xs, rfl, hk, hu, hx⟩ hdi hdep K hK
    refine hstep d xs wx i oi hoi hin hdi hk hu hx hdep K (fun hne v w' hk' hv => hK _ _ ⟨updX xs i v, rfl, hk.trans' hk' (fun _ _ => id) (fun _ _ => id), fun k hkk => ?_, fun j hj => ?_⟩) (fun he v w' hk' hnew hfr hv => hK _ _ ⟨updX xs i v, rfl, hk.trans' hk' (fun _ _ => id) (fun _ _ => id), fun k hkk => ?_, fun j hj => ?_⟩)
    · rw [updX_ne _ _ (fun e => hne e.symm)]
      exact hu k (hkk.imp id (fun h => Nat.le_trans hk'.size h))
    · rw [updX_ne _ _ (fun e => hne e.symm)]
      by_cases e : j = i
      · subst e; rw [updX_self]; exact hv
      · rw [updX_ne _ _ e]; exact atB_keep hk' (hx j (by rw [setB_ne d e] at hj; exact hj))
    · subst he; rw [updX_self]
      rcases hkk with h | h
      · exact hnew k (Nat.lt_of_lt_of_le h hk.size)
      · exact hfr k h
    · subst he
      rw [updX_self]
      by_cases e : j = i
      · subst e; rw [updX_self]; exact hv _
      · rw [updX_ne _ _ e]
        refine atB_keep hk' (atB_more (fun k hk hB => ⟨hB.1, hnew k hk⟩) (hx j (by rw [setB_ne d e] at hj; exact hj)))
  · rintro d a wx ⟨xs, rfl, hk, hu, hx⟩ hall
    exact hrest xs wx hk hu (fun i hi => hx i (hall i hi))
  · intro k ok hk hl
    have : (Array.replicate ops.size false).getD k false = false := by
      by_cases h : k < ops.size <;> simp [Array.getD, h]
    rw [this] at hl; cases hl
end
end Go.Proofs.YtjdbjjjbgibpaaaGreatDoor
