/- A region that draws its order: what only reads is taken first; what is left goes on in each order that its edges allow. Plain laws over whatever program. -/
import Derived.OrdersHeld
import Derived.Tactics
import Derived.Tactics2
namespace Go.Proofs.YtincajfanhanjaaDoor

section
variable {P : Program} {ops : Array Oper} {Q : Exit → Act → World → Prop} {S : World → Prop} {need : Nat → Bool}

/-- Whatever order is picked; behind each operation that 'need' names S holds. -/
def wpAnyN (P : Program) (ops : Array Oper) (Q : Exit → Act → World → Prop) (S : World → Prop) (need : Nat → Bool) : Nat → Array Bool → Act → World → Prop
  | 0, listed, a, w => Region.ready .any ops listed = [] ∧ Q .normal a w
  | fuel + 1, listed, a, w =>
    (Region.ready .any ops listed = [] → Q .normal a w) ∧
    ∀ i ∈ Region.ready .any ops listed, wpOp P ops Q i (fun a' w' => (need i = true → S w → S w') ∧ wpAnyN P ops Q S need fuel (listed.setIfInBounds i true) a' w') a w

theorem wpAny_of_need : ∀ (fuel : Nat) (listed : Array Bool) (a : Act) (w : World), wpAnyN P ops Q S need fuel listed a w → wpAny P .any ops Q fuel listed a w
  | 0, _, _, _, h => h
  | fuel + 1, _, _, _, h => ⟨h.1, fun i hi => wpOp_mono (fun a' w' h' => wpAny_of_need fuel _ a' w' h'.2) (h.2 i hi)⟩

theorem not_listed_of_ready {i : Nat} {listed : Array Bool} (h : i ∈ Region.ready .any ops listed) : listed.getD i false = false := by
  have h0 := (mem_ready.1 h).1
  rcases Nat.lt_or_ge i listed.size with h' | h'
  · simp [h'] at h0 ⊢; exact h0
  · simp [Array.getElem?_eq_none h']

def direct (ops : Array Oper) (j i : Nat) : Bool :=
  match ops[j]? with
  | some oj => oj.after.any fun e => Region.binds .any e && e.on == i
  | none => false
/-- j waits for i, at once or by way of others. -/
def reach (ops : Array Oper) : Nat → Nat → Nat → Bool
  | 0, j, i => direct ops j i
  | f + 1, j, i => direct ops j i || (match ops[j]? with
    | some oj => oj.after.any fun e => Region.binds .any e && reach ops f e.on i
    | none => false)
def waits (ops : Array Oper) (j i : Nat) : Bool := reach ops 3 j i
/-- What has come up has come up behind what it waits for. -/
def Shut (ops : Array Oper) (listed : Array Bool) : Prop := ∀ k ok, ops[k]? = some ok → listed.getD k false = true → ∀ e ∈ ok.after, Region.binds .any e = true → listed.getD e.on false = true

theorem Shut.step {listed : Array Bool} (h : Shut ops listed) {j : Nat} (hj : j ∈ Region.ready .any ops listed) : Shut ops (listed.setIfInBounds j true) := by
  obtain ⟨_, oj, hoj, hall⟩ := mem_ready.1 hj
  intro k ok hk hl e he hb
  by_cases hkj : j = k
  · subst hkj
    have : ok = oj := by rw [hk] at hoj; injection hoj
    subst this
    exact getD_set_true (hall e he hb)
  · rw [getD_set_ne false hkj] at hl
    exact getD_set_true (h k ok hk hl e he hb)

theorem direct_spec {j i : Nat} (h : direct ops j i = true) : ∃ oj, ops[j]? = some oj ∧ ∃ e ∈ oj.after, Region.binds .any e = true ∧ e.on = i := by
  unfold direct at h
  split at h
  · rename_i oj hoj
    obtain ⟨e, he, hb⟩ := Array.any_eq_true'.1 h
    simp only [Bool.and_eq_true, beq_iff_eq] at hb
    exact ⟨oj, hoj, e, he, hb.1, hb.2⟩
  · cases h

theorem reach_spec {listed : Array Bool} (h : Shut ops listed) {i : Nat} : ∀ (f j : Nat), (∀ oj, ops[j]? = some oj → ∀ e ∈ oj.after, Region.binds .any e = true → listed.getD e.on false = true) → reach ops f j i = true → listed.getD i false = true
  | 0, j, hj, hr => by
    obtain ⟨oj, hoj, e, he, hb, heq⟩ := direct_spec hr
    rw [← heq]; exact hj oj hoj e he hb
  | f + 1, j, hj, hr => by
    unfold reach at hr
    rw [Bool.or_eq_true] at hr
    rcases hr with hr | hr
    · obtain ⟨oj, hoj, e, he, hb, heq⟩ := direct_spec hr
      rw [← heq]; exact hj oj hoj e he hb
    · split at hr
      · rename_i oj hoj
        obtain ⟨e, he, hb⟩ := Array.any_eq_true'.1 hr
        rw [Bool.and_eq_true] at hb
        have hl := hj oj hoj e he hb.1
        exact reach_spec h f e.on (fun ok hk e2 he2 hb2 => h e.on ok hk hl e2 he2 hb2) hb.2
      · cases hr

theorem waits_spec {listed : Array Bool} (h : Shut ops listed) {i j : Nat} (hj : j ∈ Region.ready .any ops listed) (hi : listed.getD i false = false) : waits ops j i = false := by
  obtain ⟨_, oj, hoj, hall⟩ := mem_ready.1 hj
  cases hw : waits ops j i with
  | false => rfl
  | true =>
    have := reach_spec h 3 j (fun ok hk e he hb => by rw [hoj] at hk; injection hk with hk; subst hk; exact hall e he hb) hw
    rw [hi] at this; cases this

theorem wpAnyN_first {i : Nat} {oi : Oper} {v : Value} (hi : ops[i]? = some oi) (hsel : ∀ (j : Nat) (o : Oper) cs b, ops[j]? = some o → o.op ≠ .select cs b)
    (hQ : ∀ c a w, Q (.panic c) (a.put oi.dst v) w → Q (.panic c) a w)
    (hneed : ∀ j, j < ops.size → j ≠ i → need j = false → waits ops j i = true) :
    ∀ (fuel : Nat) (listed : Array Bool) (a : Act) (w : World), Shut ops listed →
      (∀ j oj, ops[j]? = some oj → j ≠ i → listed.getD j true = false → (∀ e ∈ oj.after, Region.binds .any e = true → e.on ≠ i) → oi.apart ops oj = true) →
      i ∈ Region.ready .any ops listed → YieldsIf P ops S oi v a → S w →
      wpAnyN P ops Q S need fuel (listed.setIfInBounds i true) (a.put oi.dst v) w → wpAnyN P ops Q S need (fuel + 1) listed a w := by
  intro fuel
  induction fuel with
  | zero =>
    intro listed a w _ _ hr hy hS H
    refine ⟨fun h => (by rw [h] at hr; cases hr), fun j hj => ?_⟩
    by_cases hji : j = i
    · subst hji; exact hy.wpOp hi hS ⟨fun _ h => h, H⟩
    · have := ready_mono hj hji
      rw [H.1] at this
      cases this
  | succ fuel ih =>
    intro listed a w hsh hfree hr hy hS H
    refine ⟨fun h => (by rw [h] at hr; cases hr), fun j hj => ?_⟩
    by_cases hji : j = i
    · subst hji; exact hy.wpOp hi hS ⟨fun _ h => h, H⟩
    · have h1 := H.2 j (ready_mono hj hji)
      obtain ⟨hjun, oj, hoj, hall⟩ := mem_ready.1 hj
      have hnot : ∀ e ∈ oj.after, Region.binds .any e = true → e.on ≠ i := fun e he hb heq => by
        have h1 := hall e he hb
        rw [heq, not_listed_of_ready hr] at h1
        cases h1
      have hnj : need j = true := by
        cases hn : need j with
        | true => rfl
        | false =>
          have h1 := hneed j (Array.getElem?_eq_some_iff.1 hoj).1 hji hn
          rw [waits_spec hsh hj (not_listed_of_ready hr)] at h1
          cases h1
      have h2 := wpOp_putIf hoj (hfree j oj hoj hji hjun hnot) (fun cs b => hsel i oi cs b hi) (fun cs b => hsel j oj cs b hoj) hQ hy h1
      have hfree' : ∀ k ok, ops[k]? = some ok → k ≠ i → (listed.setIfInBounds j true).getD k true = false →
          (∀ e ∈ ok.after, Region.binds .any e = true → e.on ≠ i) → oi.apart ops ok = true := fun k ok hk hki hun hno => by
        refine hfree k ok hk hki ?_ hno
        by_cases hjk : j = k
        · subst hjk; exact hjun
        · rw [getD_set_ne true hjk] at hun; exact hun
      refine wpOp_mono (fun a' w' h3 => ⟨h3.2.1, ih (listed.setIfInBounds j true) a' w' (hsh.step hj) hfree' (ready_mono hr (Ne.symm hji)) h3.1 (h3.2.1 hnj hS) ?_⟩) h2
      rw [Array.setIfInBounds_comm _ _ hji]
      exact h3.2.2

theorem wpAnyN_pure {i : Nat} {oi : Oper} {v : Value} (hi : ops[i]? = some oi) (hsel : ∀ (j : Nat) (o : Oper) cs b, ops[j]? = some o → o.op ≠ .select cs b)
    (hQ : ∀ c a w, Q (.panic c) (a.put oi.dst v) w → Q (.panic c) a w) :
    ∀ (fuel : Nat) (listed : Array Bool) (a : Act) (w : World),
      (∀ j oj, ops[j]? = some oj → j ≠ i → listed.getD j true = false → (∀ e ∈ oj.after, Region.binds .any e = true → e.on ≠ i) → oi.apart ops oj = true) →
      i ∈ Region.ready .any ops listed → Yields P ops oi v a →
      wpAnyN P ops Q S need fuel (listed.setIfInBounds i true) (a.put oi.dst v) w → wpAnyN P ops Q S need (fuel + 1) listed a w := by
  intro fuel
  induction fuel with
  | zero =>
    intro listed a w _ hr hy H
    refine ⟨fun h => (by rw [h] at hr; cases hr), fun j hj => ?_⟩
    by_cases hji : j = i
    · subst hji; exact hy.wpOp hi ⟨fun _ h => h, H⟩
    · have := ready_mono hj hji
      rw [H.1] at this
      cases this
  | succ fuel ih =>
    intro listed a w hfree hr hy H
    refine ⟨fun h => (by rw [h] at hr; cases hr), fun j hj => ?_⟩
    by_cases hji : j = i
    · subst hji; exact hy.wpOp hi ⟨fun _ h => h, H⟩
    · have h1 := H.2 j (ready_mono hj hji)
      obtain ⟨hjun, oj, hoj, hall⟩ := mem_ready.1 hj
      have hnot : ∀ e ∈ oj.after, Region.binds .any e = true → e.on ≠ i := fun e he hb heq => by
        have h1 := hall e he hb
        rw [heq, not_listed_of_ready hr] at h1
        cases h1
      have h2 := wpOp_put hoj (hfree j oj hoj hji hjun hnot) (fun cs b => hsel i oi cs b hi) (fun cs b => hsel j oj cs b hoj) hQ hy h1
      have hfree' : ∀ k ok, ops[k]? = some ok → k ≠ i → (listed.setIfInBounds j true).getD k true = false →
          (∀ e ∈ ok.after, Region.binds .any e = true → e.on ≠ i) → oi.apart ops ok = true := fun k ok hk hki hun hno => by
        refine hfree k ok hk hki ?_ hno
        by_cases hjk : j = k
        · subst hjk; exact hjun
        · rw [getD_set_ne true hjk] at hun; exact hun
      refine wpOp_mono (fun a' w' h3 => ⟨h3.2.1, ih (listed.setIfInBounds j true) a' w' hfree' (ready_mono hr (Ne.symm hji)) h3.1 ?_⟩) h2
      rw [Array.setIfInBounds_comm _ _ hji]
      exact h3.2.2

/-! ### The walk's own form: what has come up, as a list -/
def upNext (ops : Array Oper) (done : List Nat) : List Nat :=
  (List.range ops.size).filter fun i => !done.contains i && ((ops[i]?).map (·.after.all fun e => !Region.binds .any e || done.contains e.on)).getD false

/-- The array that says what has come up agrees with the list. -/
def Agrees (ops : Array Oper) (listed : Array Bool) (done : List Nat) : Prop := listed.size = ops.size ∧ ∀ j, listed.getD j false = (done.contains j && decide (j < ops.size))

theorem getD_true_of {listed : Array Bool} {j : Nat} (h : j < listed.size) : listed.getD j true = listed.getD j false := by simp [h]

theorem Agrees.ready {listed : Array Bool} {done : List Nat} (h : Agrees ops listed done) (hw : ops.all (fun o => o.after.all fun e => decide (e.on < ops.size)) = true) : Region.ready .any ops listed = upNext ops done := by
  unfold Region.ready upNext
  refine List.filter_congr fun i hi => ?_
  have hi' : i < ops.size := List.mem_range.1 hi
  have e1 : listed.getD i true = done.contains i := by
    rw [getD_true_of (by rw [h.1]; exact hi'), h.2 i]; simp [hi']
  rw [e1]
  congr 1
  have ho : ops[i]? = some ops[i] := Array.getElem?_eq_getElem hi'
  rw [ho, Option.map_some, Option.map_some, Option.getD_some, Option.getD_some]
  have hall := Array.all_eq_true_iff_forall_mem.1 hw ops[i] (Array.getElem_mem hi')
  have hall := Array.all_eq_true_iff_forall_mem.1 hall
  rw [Bool.eq_iff_iff, Array.all_eq_true_iff_forall_mem, Array.all_eq_true_iff_forall_mem]
  refine ⟨fun h2 e he => ?_, fun h2 e he => ?_⟩
  · have := h2 e he; rw [h.2] at this; have hb := hall e he; simp only [decide_eq_true_eq] at hb; simpa [hb] using this
  · have := h2 e he; rw [h.2]; have hb := hall e he; simp only [decide_eq_true_eq] at hb; simpa [hb] using this

theorem Agrees.step {listed : Array Bool} {done : List Nat} (h : Agrees ops listed done) (i : Nat) : Agrees ops (listed.setIfInBounds i true) (i :: done) := by
  refine ⟨by simp [h.1], fun j => ?_⟩
  by_cases hij : i = j
  · subst hij
    by_cases hl : i < ops.size
    · simp [Array.getD, h.1, hl]
    · simp [Array.getD, h.1, hl]
  · rw [getD_set_ne false hij, h.2]
    simp [List.contains_cons, Ne.symm hij]

theorem Agrees.start : Agrees ops (Array.replicate ops.size false) [] := by
  refine ⟨by simp, fun j => ?_⟩
  by_cases hl : j < ops.size <;> simp [Array.getD, hl]

/-- The goal of the walk through a region. -/
def Order (P : Program) (ops : Array Oper) (Q : Exit → Act → World → Prop) (S : World → Prop) (need : Nat → Bool) (fuel : Nat) (done : List Nat) (a : Act) (w : World) : Prop :=
  ∀ listed, Agrees ops listed done → wpAnyN P ops Q S need fuel listed a w

def wellOrdered (ops : Array Oper) : Bool := Region.noSelect ops && ops.all (fun o => o.after.all fun e => decide (e.on < ops.size))

theorem order_begin {id : Nat} {a : Act} {w : World} (S : World → Prop) (need : Nat → Bool) (hm : P.follows .mixedOrders = true) (n : Nat) (hn : ops.size = n)
    (h : Order P ops Q S need n [] a w.drew) : (Code.region id ops true).wp P Q a w := by
  subst hn
  exact wp_region_any hm (wpAny_of_need _ _ _ _ (h _ Agrees.start))

def freeNow (ops : Array Oper) (done : List Nat) (i : Nat) : Bool :=
  match ops[i]? with
  | none => false
  | some oi => (List.range ops.size).all fun j => j == i || done.contains j || match ops[j]? with
      | some oj => oj.after.any (fun e => Region.binds .any e && e.on == i) || oi.apart ops oj
      | none => true

theorem freeNow_spec {i : Nat} {oi : Oper} {listed : Array Bool} {done : List Nat} (hag : Agrees ops listed done) (hi : ops[i]? = some oi) (h : freeNow ops done i = true) (j : Nat) (oj : Oper)
    (hj : ops[j]? = some oj) (hne : j ≠ i) (hun : listed.getD j true = false) (hno : ∀ e ∈ oj.after, Region.binds .any e = true → e.on ≠ i) :
    oi.apart ops oj = true := by
  have hlt : j < ops.size := (Array.getElem?_eq_some_iff.1 hj).1
  simp only [freeNow, hi, List.all_eq_true, List.mem_range] at h
  have h1 := h j hlt
  rw [getD_true_of (by rw [hag.1]; exact hlt), hag.2] at hun
  have hd : done.contains j = false := by simpa [hlt] using hun
  rw [hd] at h1
  simp only [hj, Bool.or_eq_true, beq_iff_eq, hne, false_or, Bool.false_eq_true] at h1
  rcases h1 with h1 | h1
  · obtain ⟨e, he, hb⟩ := Array.any_eq_true'.1 h1
    simp only [Bool.and_eq_true, beq_iff_eq] at hb
    exact absurd hb.2 (hno e he hb.1)
  · exact h1

/-- What 'need' leaves out waits for number i. -/
def waitFor (ops : Array Oper) (need : Nat → Bool) (i : Nat) : Bool := (List.range ops.size).all fun j => j == i || need j || waits ops j i
def shutList (ops : Array Oper) (done : List Nat) : Bool := done.all fun k => match ops[k]? with
  | some ok => ok.after.all fun e => !Region.binds .any e || done.contains e.on
  | none => true

theorem shutList_spec {listed : Array Bool} {done : List Nat} (hag : Agrees ops listed done) (hw : ops.all (fun o => o.after.all fun e => decide (e.on < ops.size)) = true) (h : shutList ops done = true) : Shut ops listed := by
  intro k ok hk hl e he hb
  rw [hag.2] at hl ⊢
  simp only [Bool.and_eq_true, decide_eq_true_eq] at hl
  have hkd : k ∈ done := by simpa using hl.1
  simp only [shutList, List.all_eq_true] at h
  have h1 := h k hkd
  rw [hk] at h1
  have h2 := Array.all_eq_true_iff_forall_mem.1 h1 e he
  have hall := Array.all_eq_true_iff_forall_mem.1 (Array.all_eq_true_iff_forall_mem.1 hw ok (Array.mem_of_getElem? hk)) e he
  simp only [decide_eq_true_eq] at hall
  simpa [hb, hall] using h2

theorem drop_get {i : Nat} {oi : Oper} {r : List Oper} (h : ops.toList.drop i = oi :: r) : ops[i]? = some oi := by
  have h1 : (ops.toList.drop i)[0]? = some oi := by rw [h]; rfl
  rw [List.getElem?_drop, Nat.add_zero] at h1
  simpa using h1

/-- One that may come up, gives v in each world that meets S, and touches nothing of the others': taken first. -/
theorem order_held {i : Nat} {oi : Oper} {r : List Oper} {v : Value} {fuel : Nat} {done : List Nat} {a : Act} {w : World} (hi0 : ops.toList.drop i = oi :: r)
    (hc : (wellOrdered ops && (upNext ops done).contains i && freeNow ops done i && waitFor ops need i && shutList ops done) = true)
    (hQ : ∀ c a w, Q (.panic c) (a.put oi.dst v) w → Q (.panic c) a w) (hy : YieldsIf P ops S oi v a) (hS : S w)
    (h : Order P ops Q S need fuel (i :: done) (a.put oi.dst v) w) : Order P ops Q S need (fuel + 1) done a w := by
  have hi := drop_get hi0
  simp only [Bool.and_eq_true] at hc
  obtain ⟨⟨⟨⟨hw, hr⟩, hf⟩, hn⟩, hs⟩ := hc
  simp only [wellOrdered, Bool.and_eq_true] at hw
  intro listed hag
  have hr' : i ∈ Region.ready .any ops listed := by rw [hag.ready hw.2]; simpa using hr
  refine wpAnyN_first hi (Region.noSelect_spec hw.1) hQ (fun j hj hne hnd => ?_) fuel listed a w (shutList_spec hag hw.2 hs) (freeNow_spec hag hi hf) hr' hy hS (h _ (hag.step i))
  simp only [waitFor, List.all_eq_true, List.mem_range] at hn
  have h1 := hn j hj
  simpa [hnd, hne] using h1

theorem order_pure {i : Nat} {oi : Oper} {r : List Oper} {v : Value} {fuel : Nat} {done : List Nat} {a : Act} {w : World} (hi0 : ops.toList.drop i = oi :: r)
    (hc : (wellOrdered ops && (upNext ops done).contains i && freeNow ops done i) = true)
    (hQ : ∀ c a w, Q (.panic c) (a.put oi.dst v) w → Q (.panic c) a w) (hy : Yields P ops oi v a)
    (h : Order P ops Q S need fuel (i :: done) (a.put oi.dst v) w) : Order P ops Q S need (fuel + 1) done a w := by
  have hi := drop_get hi0
  simp only [Bool.and_eq_true] at hc
  obtain ⟨⟨hw, hr⟩, hf⟩ := hc
  simp only [wellOrdered, Bool.and_eq_true] at hw
  intro listed hag
  have hr' : i ∈ Region.ready .any ops listed := by rw [hag.ready hw.2]; simpa using hr
  exact wpAnyN_pure hi (Region.noSelect_spec hw.1) hQ fuel listed a w (freeNow_spec hag hi hf) hr' hy (h _ (hag.step i))

/-- One whose guard says no. -/
theorem order_skip {i : Nat} {oi : Oper} {r : List Oper} {fuel : Nat} {done : List Nat} {a : Act} {w : World} (hi0 : ops.toList.drop i = oi :: r)
    (hc : (wellOrdered ops && (upNext ops done).contains i && freeNow ops done i) = true)
    (hQ : ∀ c a w, Q (.panic c) (a.put oi.dst undef) w → Q (.panic c) a w) (hw : Region.wanted oi (yielded ops a.tmps) = false)
    (h : Order P ops Q S need fuel (i :: done) (a.put oi.dst undef) w) : Order P ops Q S need (fuel + 1) done a w :=
  order_pure hi0 hc hQ (.inr ⟨hw, rfl⟩) h

/-- Number i alone may come up. -/
theorem order_one {i : Nat} {oi : Oper} {r : List Oper} {fuel : Nat} {done : List Nat} {a : Act} {w : World} (hi0 : ops.toList.drop i = oi :: r)
    (hc : (wellOrdered ops && (upNext ops done == [i])) = true)
    (h : ∀ K : Act → World → Prop, (∀ a' w', (need i = true → S w → S w') → Order P ops Q S need fuel (i :: done) a' w' → K a' w') →
      if Region.wanted oi (yielded ops a.tmps) then oi.wp P a w K Q else K (a.put oi.dst undef) w) : Order P ops Q S need (fuel + 1) done a w := by
  have hi := drop_get hi0
  simp only [Bool.and_eq_true, beq_iff_eq] at hc
  obtain ⟨hw, hr⟩ := hc
  simp only [wellOrdered, Bool.and_eq_true] at hw
  intro listed hag
  have hr' : Region.ready .any ops listed = [i] := by rw [hag.ready hw.2]; exact hr
  refine ⟨fun h0 => (by rw [h0] at hr'; cases hr'), fun j hj => ?_⟩
  rw [hr', List.mem_singleton] at hj
  subst hj
  have h1 := h (fun a' w' => (need j = true → S w → S w') ∧ wpAnyN P ops Q S need fuel (listed.setIfInBounds j true) a' w') (fun a' w' h2 h3 => ⟨h2, h3 _ (hag.step j)⟩)
  unfold wpOp
  simp only [hi]
  split
  · rename_i hwt; rw [if_pos hwt] at h1; exact .inl h1
  · rename_i hwt; rw [if_neg hwt] at h1; exact h1

/-- Two may come up. -/
theorem order_two {i j : Nat} {oi oj : Oper} {r r' : List Oper} {fuel : Nat} {done : List Nat} {a : Act} {w : World} (hi0 : ops.toList.drop i = oi :: r) (hj0 : ops.toList.drop j = oj :: r')
    (hc : (wellOrdered ops && (upNext ops done == [i, j])) = true)
    (h : ∀ K : Act → World → Prop, (∀ a' w', (need i = true → S w → S w') → Order P ops Q S need fuel (i :: done) a' w' → K a' w') →
      if Region.wanted oi (yielded ops a.tmps) then oi.wp P a w K Q else K (a.put oi.dst undef) w)
    (h' : ∀ K : Act → World → Prop, (∀ a' w', (need j = true → S w → S w') → Order P ops Q S need fuel (j :: done) a' w' → K a' w') →
      if Region.wanted oj (yielded ops a.tmps) then oj.wp P a w K Q else K (a.put oj.dst undef) w) : Order P ops Q S need (fuel + 1) done a w := by
  have hi := drop_get hi0
  have hj := drop_get hj0
  simp only [Bool.and_eq_true, beq_iff_eq] at hc
  obtain ⟨hw, hr⟩ := hc
  simp only [wellOrdered, Bool.and_eq_true] at hw
  intro listed hag
  have hr' : Region.ready .any ops listed = [i, j] := by rw [hag.ready hw.2]; exact hr
  refine ⟨fun h0 => (by rw [h0] at hr'; cases hr'), fun k hk => ?_⟩
  rw [hr', List.mem_cons, List.mem_singleton] at hk
  rcases hk with rfl | rfl
  · have h1 := h (fun a' w' => (need k = true → S w → S w') ∧ wpAnyN P ops Q S need fuel (listed.setIfInBounds k true) a' w') (fun a' w' h2 h3 => ⟨h2, h3 _ (hag.step k)⟩)
    unfold wpOp
    simp only [hi]
    split
    · rename_i hwt; rw [if_pos hwt] at h1; exact .inl h1
    · rename_i hwt; rw [if_neg hwt] at h1; exact h1
  · have h1 := h' (fun a' w' => (need k = true → S w → S w') ∧ wpAnyN P ops Q S need fuel (listed.setIfInBounds k true) a' w') (fun a' w' h2 h3 => ⟨h2, h3 _ (hag.step k)⟩)
    unfold wpOp
    simp only [hj]
    split
    · rename_i hwt; rw [if_pos hwt] at h1; exact .inl h1
    · rename_i hwt; rw [if_neg hwt] at h1; exact h1

/-- All have come up. -/
theorem order_done {fuel : Nat} {done : List Nat} {a : Act} {w : World} (hc : (wellOrdered ops && (upNext ops done == [])) = true) (h : Q .normal a w) : Order P ops Q S need fuel done a w := by
  simp only [Bool.and_eq_true, beq_iff_eq] at hc
  obtain ⟨hw, hr⟩ := hc
  simp only [wellOrdered, Bool.and_eq_true] at hw
  intro listed hag
  have hr' : Region.ready .any ops listed = [] := by rw [hag.ready hw.2]; exact hr
  cases fuel with
  | zero => exact ⟨hr', h⟩
  | succ _ => exact ⟨fun _ => h, by rw [hr']; simp⟩

end
end Go.Proofs.YtincajfanhanjaaDoor
