/- Links of processes as lists that rise; monitors as a list that rises; maps of numbers as read. Plain lemmas. -/
import Derived.Maps.OwnSet
import Derived.Lib.SlKeysI
namespace Go.Proofs.YtjmljjmnamfljaaGreat
set_option maxRecDepth 100000
open Go.RowKit Go.Maps

def IntOk (p : Int) : Prop := (Lit.int .i64 p).wf = true
abbrev Rise (l : List Int) : Prop := l.Pairwise (· < ·)
def insI (x : Int) : List Int → List Int
  | [] => [x]
  | y :: l => if x < y then x :: y :: l else y :: insI x l
def delI (x : Int) (l : List Int) : List Int := l.filter fun y => decide (y ≠ x)

theorem mem_insI {x z : Int} : ∀ {l : List Int}, z ∈ insI x l ↔ z = x ∨ z ∈ l
  | [] => by simp [insI]
  | y :: l => by
    unfold insI
    split
    · simp
    · simp only [List.mem_cons, mem_insI (l := l)]
      constructor
      · rintro (h | h | h)
        · exact .inr (.inl h)
        · exact .inl h
        · exact .inr (.inr h)
      · rintro (h | h | h)
        · exact .inr (.inl h)
        · exact .inl h
        · exact .inr (.inr h)
theorem insI_len (x : Int) : ∀ l : List Int, (insI x l).length = l.length + 1
  | [] => rfl
  | y :: l => by unfold insI; split <;> simp [insI_len x l]
theorem rise_insI {x : Int} : ∀ {l : List Int}, Rise l → x ∉ l → Rise (insI x l)
  | [], _, _ => by simp [insI]
  | y :: l, h, hx => by
    obtain ⟨h1, h2⟩ := List.pairwise_cons.1 h
    simp only [List.mem_cons, not_or] at hx
    unfold insI
    split
    · rename_i hlt
      refine List.pairwise_cons.2 ⟨fun z hz => ?_, h⟩
      rcases List.mem_cons.1 hz with rfl | hz
      · exact hlt
      · exact Int.lt_trans hlt (h1 z hz)
    · rename_i hlt
      refine List.pairwise_cons.2 ⟨fun z hz => ?_, rise_insI h2 hx.2⟩
      rcases mem_insI.1 hz with rfl | hz
      · omega
      · exact h1 z hz
theorem mem_delI {x z : Int} {l : List Int} : z ∈ delI x l ↔ z ∈ l ∧ z ≠ x := by unfold delI; rw [List.mem_filter]; simp
theorem Rise.filter {l : List Int} (h : Rise l) (f : Int → Bool) : Rise (l.filter f) := List.Pairwise.filter f h
theorem Rise.nodup {l : List Int} (h : Rise l) : l.Nodup := List.Pairwise.imp (fun h => by omega) h
theorem rise_ext {l m : List Int} (h : Rise l) (k : Rise m) (e : ∀ z, z ∈ l ↔ z ∈ m) : l = m :=
  List.Perm.eq_of_pairwise (le := fun a b => a < b) (fun a b _ _ h1 h2 => by omega) h k ((List.perm_ext_iff_of_nodup h.nodup k.nodup).2 e)
theorem delI_none {x : Int} {l : List Int} (h : x ∉ l) : delI x l = l := List.filter_eq_self.2 fun y hy => by simp; rintro rfl; exact h hy
theorem delI_head {x : Int} {l : List Int} (h : Rise (x :: l)) : delI x (x :: l) = l := by
  obtain ⟨h1, _⟩ := List.pairwise_cons.1 h
  have e : delI x (x :: l) = delI x l := by simp [delI]
  rw [e]; exact delI_none fun hx => by have := h1 x hx; omega
theorem delI_delI (x : Int) (l : List Int) : delI x (delI x l) = delI x l := delI_none fun h => (mem_delI.1 h).2 rfl
theorem delI_len (x : Int) (l : List Int) : (delI x l).length ≤ l.length := List.length_filter_le _ _

/-- A map of numbers as read, and a list of what it holds. -/
structure LMap {H X : Type} (code : X → DataW H) (key : X → Int) (D : DataW H) (l : List X) : Prop where
  has : ∀ p, Maps.has D (.int .i64 p) = true ↔ p ∈ l.map key
  at' : ∀ x ∈ l, ∀ z, D.atKey (.int .i64 (key x)) z = code x
section
variable {H X : Type} {code : X → DataW H} {key : X → Int} {D : DataW H} {l l' : List X}
theorem LMap.empty : LMap code key (.map [] : DataW H) [] := ⟨fun s => by simp [Maps.has], fun x hx => by cases hx⟩
theorem LMap.not (h : LMap code key D l) {p : Int} (hs : p ∉ l.map key) : Maps.has D (.int .i64 p) = false := by
  cases e : Maps.has D (.int .i64 p) with
  | false => rfl
  | true => exact absurd ((h.has p).1 e) hs
theorem LMap.zero (h : LMap code key D l) {p : Int} (hs : p ∉ l.map key) (z : DataW H) : D.atKey (.int .i64 p) z = z := Maps.atKey_of_not_has (h.not hs) z
theorem int_key (a : Int) : WideAt.IsKeyLit (.int .i64 a) := trivial
theorem int_ne {a b : Int} (h : a ≠ b) : Lit.int .i64 a ≠ Lit.int .i64 b := fun e => by injection e with _ e; exact h e
theorem LMap.put (h : LMap code key D l) (hD : IsMap D) (x : X) (hx : key x ∉ l.map key) (hl : ∀ y, y ∈ l' ↔ y = x ∨ y ∈ l) : LMap code key (D.put (.int .i64 (key x)) (code x)) l' := by
  refine ⟨fun p => ?_, fun y hy z => ?_⟩
  · by_cases e : p = key x
    · subst e
      rw [has_put_same hD (int_key _)]
      simp only [true_iff, List.mem_map]
      exact ⟨x, (hl x).2 (.inl rfl), rfl⟩
    · rw [has_put_other (int_ne e), h.has]
      simp only [List.mem_map]
      constructor
      · rintro ⟨y, hy, rfl⟩; exact ⟨y, (hl y).2 (.inr hy), rfl⟩
      · rintro ⟨y, hy, rfl⟩
        rcases (hl y).1 hy with rfl | hy
        · exact absurd rfl e
        · exact ⟨y, hy, rfl⟩
  · rcases (hl y).1 hy with rfl | hy
    · exact atKey_put_same hD (int_key _) _ _
    · have e : key y ≠ key x := fun e => hx (e ▸ List.mem_map_of_mem hy)
      rw [atKey_put_other (int_ne e)]; exact h.at' y hy z
theorem LMap.del (h : LMap code key D l) (k : Int) (hl : ∀ y, y ∈ l' ↔ y ∈ l ∧ key y ≠ k) : LMap code key (D.del (.int .i64 k)) l' := by
  refine ⟨fun p => ?_, fun y hy z => ?_⟩
  · by_cases e : p = k
    · subst e
      rw [has_del_same]
      simp only [Bool.false_eq_true, false_iff, List.mem_map, not_exists, not_and]
      intro y hy; exact ((hl y).1 hy).2
    · rw [has_del_other (int_ne e), h.has]
      simp only [List.mem_map]
      constructor
      · rintro ⟨y, hy, rfl⟩; exact ⟨y, (hl y).2 ⟨hy, e⟩, rfl⟩
      · rintro ⟨y, hy, rfl⟩; exact ⟨y, ((hl y).1 hy).1, rfl⟩
  · obtain ⟨h1, h2⟩ := (hl y).1 hy
    rw [atKey_del_other (int_ne h2)]; exact h.at' y h1 z
/-- The keys of the map are the list's. -/
theorem LMap.keys {P : Program} {k : TypeId} {R : Value → Option (DataW H × List MemPlace)} {w : World} {b n : Nat} (h : LMap code key D l) (hown : w.ownsMap P k R b n D) (K : Keyed P k) (hk : P.underlying k = some (.int .i64)) (hu : (l.map key).Nodup) : (intKeys D).Perm (l.map key) := by
  obtain ⟨es, rfl, hes⟩ := hown.keysOf
  obtain ⟨es', e, hp⟩ := hown.tidy K
  cases e
  refine (perm_intKeys hp (fun p hp' => ?_) hu (fun x => ?_)).symm
  · obtain ⟨v, hv⟩ := hes p hp'
    obtain ⟨x, _, h2, _⟩ := Maps.keyOf_i64 hk hv
    exact ⟨x, h2⟩
  · exact (h.has x).symm
end
theorem sorted_rise {ss l : List Int} (hu : Rise l) (hp : ss.Perm l) : ss.mergeSort (fun x y => decide (x ≤ y)) = l := by
  have tr : ∀ a b c : Int, leI a b = true → leI b c = true → leI a c = true := fun a b c h1 h2 => by simp only [leI, decide_eq_true_eq] at *; exact Int.le_trans h1 h2
  have to : ∀ a b : Int, (leI a b || leI b a) = true := fun a b => by simp only [leI, Bool.or_eq_true, decide_eq_true_eq]; exact Int.le_total a b
  refine List.Perm.eq_of_pairwise (le := fun a b => leI a b = true) (fun a b _ _ h1 h2 => ?_) (List.pairwise_mergeSort tr to ss) ?_ ((List.mergeSort_perm ss leI).trans hp)
  · simp only [leI, decide_eq_true_eq] at h1 h2
    omega
  · exact List.Pairwise.imp (fun h => by simp only [leI, decide_eq_true_eq]; omega) hu

/-- Whom each one is linked with, rising. -/
abbrev LK := Int → List Int
def linkL (a b : Int) (L : LK) : LK := fun x => if x = a then insI b (L a) else if x = b then insI a (L b) else L x
def unlinkL (a b : Int) (L : LK) : LK := fun x => if x = a then delI b (L a) else if x = b then delI a (L b) else L x
def endL (a : Int) (L : LK) : LK := fun x => if x = a then [] else delI a (L x)
def unl (a : Int) : List Int → LK → LK
  | [], L => L
  | b :: bs, L => unl a bs (unlinkL a b L)
structure Good (L : LK) : Prop where
  rise : ∀ a, Rise (L a)
  sym : ∀ a b, b ∈ L a → a ∈ L b
  irr : ∀ a, a ∉ L a
  ok : ∀ a b, b ∈ L a → IntOk b
theorem Good.none : Good (fun _ => []) := ⟨fun _ => List.Pairwise.nil, (fun _ _ h => by cases h), (fun _ h => by cases h), (fun _ _ h => by cases h)⟩
section
variable {L : LK} {a b : Int}
theorem mem_linkL {x y : Int} : y ∈ linkL a b L x ↔ (x = a ∧ y = b) ∨ (x = b ∧ x ≠ a ∧ y = a) ∨ y ∈ L x := by
  unfold linkL
  split
  · rename_i e; subst e; rw [mem_insI]; simp
  · rename_i e
    split
    · rename_i e2; subst e2; rw [mem_insI]; simp [e]
    · rename_i e2; simp [e, e2]
theorem Good.link (h : Good L) (hab : a ≠ b) (hno : b ∉ L a) (ha : IntOk a) (hb : IntOk b) : Good (linkL a b L) := by
  have hno2 : a ∉ L b := fun e => hno (h.sym _ _ e)
  refine ⟨fun x => ?_, fun x y hy => ?_, fun x hx => ?_, fun x y hy => ?_⟩
  · unfold linkL
    split
    · exact rise_insI (h.rise a) hno
    · split
      · exact rise_insI (h.rise b) hno2
      · exact h.rise x
  · rw [mem_linkL] at hy ⊢
    rcases hy with ⟨rfl, rfl⟩ | ⟨rfl, _, rfl⟩ | hy
    · exact .inr (.inl ⟨rfl, Ne.symm hab, rfl⟩)
    · exact .inl ⟨rfl, rfl⟩
    · exact .inr (.inr (h.sym _ _ hy))
  · rw [mem_linkL] at hx
    rcases hx with ⟨rfl, e⟩ | ⟨rfl, _, e⟩ | hx
    · exact hab e
    · exact hab e.symm
    · exact h.irr x hx
  · rw [mem_linkL] at hy
    rcases hy with ⟨_, rfl⟩ | ⟨_, _, rfl⟩ | hy
    · exact hb
    · exact ha
    · exact h.ok _ _ hy
theorem mem_unlinkL {x y : Int} : y ∈ unlinkL a b L x ↔ y ∈ L x ∧ ¬ (x = a ∧ y = b) ∧ ¬ (x = b ∧ x ≠ a ∧ y = a) := by
  unfold unlinkL
  split
  · rename_i e; subst e; rw [mem_delI]; simp
  · rename_i e
    split
    · rename_i e2; subst e2; rw [mem_delI]; simp [e]
    · rename_i e2; simp [e, e2]
theorem Good.unlink (h : Good L) (hab : a ≠ b) : Good (unlinkL a b L) := by
  refine ⟨fun x => ?_, fun x y hy => ?_, fun x hx => ?_, fun x y hy => ?_⟩
  · unfold unlinkL
    split
    · exact (h.rise a).filter _
    · split
      · exact (h.rise b).filter _
      · exact h.rise x
  · rw [mem_unlinkL] at hy ⊢
    obtain ⟨h1, h2, h3⟩ := hy
    refine ⟨h.sym _ _ h1, fun ⟨e1, e2⟩ => ?_, fun ⟨e1, _, e2⟩ => h2 ⟨e2, e1⟩⟩
    subst e1 e2; exact h3 ⟨rfl, Ne.symm hab, rfl⟩
  · rw [mem_unlinkL] at hx; exact h.irr x hx.1
  · rw [mem_unlinkL] at hy; exact h.ok _ _ hy.1
theorem mem_endL {x y : Int} : y ∈ endL a L x ↔ y ∈ L x ∧ x ≠ a ∧ y ≠ a := by
  unfold endL
  split
  · rename_i e; subst e; simp
  · rename_i e; rw [mem_delI]; simp [e]
theorem Good.end (h : Good L) : Good (endL a L) := by
  refine ⟨fun x => ?_, fun x y hy => ?_, fun x hx => ?_, fun x y hy => ?_⟩
  · unfold endL
    split
    · exact List.Pairwise.nil
    · exact (h.rise x).filter _
  · rw [mem_endL] at hy ⊢; exact ⟨h.sym _ _ hy.1, hy.2.2, hy.2.1⟩
  · rw [mem_endL] at hx; exact h.irr x hx.1
  · rw [mem_endL] at hy; exact h.ok _ _ hy.1
theorem unl_end : ∀ (bs : List Int) (L : LK), Good L → L a = bs → unl a bs L = endL a L
  | [], L, h, e => by
    funext x
    show L x = endL a L x
    unfold endL
    split
    · rename_i e2; rw [e2, e]
    · refine (delI_none fun hx => ?_).symm
      have := h.sym _ _ hx; rw [e] at this; cases this
  | b :: bs, L, h, e => by
    have hba : b ∈ L a := by rw [e]; exact List.mem_cons_self
    have hab : a ≠ b := fun e2 => h.irr a (e2 ▸ hba)
    have e1 : unlinkL a b L a = bs := by
      have := h.rise a
      rw [e] at this
      unfold unlinkL; rw [if_pos rfl, e]; exact delI_head this
    show unl a bs (unlinkL a b L) = _
    rw [unl_end bs _ (h.unlink hab) e1]
    funext x
    unfold endL
    split
    · rfl
    · rename_i ex
      unfold unlinkL
      rw [if_neg ex]
      split
      · rename_i e2; subst e2; exact delI_delI _ _
      · rfl
/-- The one step of it that a round does. -/
theorem unl_take {bs : List Int} {i : Nat} {b : Int} (h : bs[i]? = some b) : ∀ L, unl a (bs.take (i + 1)) L = unlinkL a b (unl a (bs.take i) L) := by
  induction bs generalizing i with
  | nil => simp at h
  | cons c bs ih =>
    intro L
    cases i with
    | zero => obtain rfl : c = b := by simpa using h
              rfl
    | succ i => exact ih (by simpa using h) _
theorem unl_good : ∀ (bs : List Int) (L : LK), Good L → a ∉ bs → Good (unl a bs L)
  | [], _, h, _ => h
  | b :: bs, L, h, hn => by
    simp only [List.mem_cons, not_or] at hn
    exact unl_good bs _ (h.unlink hn.1) hn.2
/-- What is left of a's own behind i rounds. -/
theorem unl_left : ∀ (bs cs : List Int) (L : LK), Good L → L a = bs ++ cs → a ∉ bs → unl a bs L a = cs
  | [], _, _, _, e, _ => e
  | b :: bs, cs, L, h, e, hn => by
    simp only [List.mem_cons, not_or] at hn
    refine unl_left bs cs _ (h.unlink hn.1) ?_ hn.2
    have := h.rise a
    rw [e] at this
    unfold unlinkL; rw [if_pos rfl, e]; exact delI_head this
end

/-- Monitors. -/
structure Mon where
  ref : Int
  who : Int
  whom : Int
def refs (M : List Mon) : List Int := M.map (·.ref)
def insM (x : Mon) : List Mon → List Mon
  | [] => [x]
  | y :: M => if x.ref < y.ref then x :: y :: M else y :: insM x M
def dropRef (r : Int) (M : List Mon) : List Mon := M.filter fun x => decide (x.ref ≠ r)
def toldM (a : Int) (M : List Mon) : List Mon := M.filter fun x => decide (x.whom = a)
def keepM (a : Int) (x : Mon) : Bool := decide (x.whom ≠ a ∧ x.who ≠ a)
def endM (a : Int) (M : List Mon) : List Mon := M.filter (keepM a)
abbrev UpM (M : List Mon) : Prop := Rise (refs M)
def MonOk (x : Mon) : Prop := IntOk x.ref ∧ IntOk x.who ∧ IntOk x.whom
section
variable {M : List Mon} {x y z : Mon}
theorem mem_insM : ∀ {M : List Mon}, z ∈ insM x M ↔ z = x ∨ z ∈ M
  | [] => by simp [insM]
  | y :: M => by
    unfold insM
    split
    · simp
    · simp only [List.mem_cons, mem_insM (M := M)]
      constructor
      · rintro (h | h | h)
        · exact .inr (.inl h)
        · exact .inl h
        · exact .inr (.inr h)
      · rintro (h | h | h)
        · exact .inr (.inl h)
        · exact .inl h
        · exact .inr (.inr h)
theorem refs_insM (x : Mon) : ∀ M : List Mon, refs (insM x M) = insI x.ref (refs M)
  | [] => rfl
  | y :: M => by
    show refs (if x.ref < y.ref then x :: y :: M else y :: insM x M) = if x.ref < y.ref then x.ref :: y.ref :: refs M else y.ref :: insI x.ref (refs M)
    split
    · rfl
    · show y.ref :: refs (insM x M) = _; rw [refs_insM x M]
theorem insM_len (x : Mon) (M : List Mon) : (insM x M).length = M.length + 1 := by
  have h := congrArg List.length (refs_insM x M)
  rw [insI_len] at h
  simpa [refs] using h
theorem up_insM (h : UpM M) (hx : x.ref ∉ refs M) : UpM (insM x M) := by unfold UpM; rw [refs_insM]; exact rise_insI h hx
theorem UpM.filter (h : UpM M) (f : Mon → Bool) : UpM (M.filter f) := by
  unfold UpM Rise refs at *
  rw [List.pairwise_map] at *
  exact List.Pairwise.filter f h
theorem UpM.one (h : UpM M) (hx : x ∈ M) (hy : y ∈ M) (e : x.ref = y.ref) : x = y := by
  induction M with
  | nil => cases hx
  | cons z M ih =>
    unfold UpM refs at h
    rw [List.map_cons] at h
    obtain ⟨h1, h2⟩ := List.pairwise_cons.1 h
    rcases List.mem_cons.1 hx with e1 | hx'
    · rcases List.mem_cons.1 hy with e2 | hy'
      · rw [e1, e2]
      · have := h1 y.ref (List.mem_map_of_mem hy'); rw [← e, e1] at this; omega
    · rcases List.mem_cons.1 hy with e2 | hy'
      · have := h1 x.ref (List.mem_map_of_mem hx'); rw [e, e2] at this; omega
      · exact ih h2 hx' hy'
theorem mem_refs (h : x ∈ M) : x.ref ∈ refs M := List.mem_map_of_mem h
theorem mem_dropRef {r : Int} : z ∈ dropRef r M ↔ z ∈ M ∧ z.ref ≠ r := by unfold dropRef; rw [List.mem_filter]; simp
theorem endM_len (a : Int) (M : List Mon) : (endM a M).length ≤ M.length := List.length_filter_le _ _
theorem toldM_len (a : Int) (M : List Mon) : (toldM a M).length ≤ M.length := List.length_filter_le _ _
/-- Behind i rounds of End. -/
def midM (a : Int) (i : Nat) (M : List Mon) : List Mon := (M.take i).filter (keepM a) ++ M.drop i
theorem midM_zero (a : Int) (M : List Mon) : midM a 0 M = M := by simp [midM]
theorem midM_all (a : Int) (M : List Mon) : midM a M.length M = endM a M := by simp [midM, endM]
theorem midM_keep {a : Int} {i : Nat} (h : M[i]? = some x) (hk : keepM a x = true) : midM a (i + 1) M = midM a i M := by
  obtain ⟨hi, hx⟩ := List.getElem?_eq_some_iff.1 h
  unfold midM
  rw [List.take_add_one, h]
  rw [List.drop_eq_getElem_cons hi, hx]
  simp [hk]
theorem midM_sub (a : Int) (i : Nat) (M : List Mon) : (midM a i M).Sublist M := by
  unfold midM
  conv => rhs; rw [← List.take_append_drop i M]
  exact (List.filter_sublist).append (List.Sublist.refl _)
theorem UpM.sub {N : List Mon} (h : UpM M) (hs : N.Sublist M) : UpM N := List.Pairwise.sublist (hs.map _) h
theorem midM_drop {a : Int} {i : Nat} (hu : UpM M) (h : M[i]? = some x) (hk : keepM a x = false) : midM a (i + 1) M = dropRef x.ref (midM a i M) := by
  obtain ⟨hi, hx⟩ := List.getElem?_eq_some_iff.1 h
  have e1 : midM a i M = (M.take i).filter (keepM a) ++ x :: M.drop (i + 1) := by unfold midM; rw [List.drop_eq_getElem_cons hi, hx]
  have e2 : midM a (i + 1) M = (M.take i).filter (keepM a) ++ M.drop (i + 1) := by unfold midM; rw [List.take_add_one, h]; simp [hk]
  have hu2 : UpM ((M.take i).filter (keepM a) ++ x :: M.drop (i + 1)) := by rw [← e1]; exact hu.sub (midM_sub a i M)
  rw [e1, e2]
  unfold dropRef
  rw [List.filter_append, List.filter_cons_of_neg (by simp)]
  unfold UpM Rise refs at hu2
  rw [List.map_append, List.map_cons, List.pairwise_append] at hu2
  obtain ⟨_, h2, h3⟩ := hu2
  obtain ⟨h4, _⟩ := List.pairwise_cons.1 h2
  congr 1
  · refine (List.filter_eq_self.2 fun y hy => ?_).symm
    have := h3 y.ref (List.mem_map_of_mem hy) x.ref List.mem_cons_self
    simp; omega
  · refine (List.filter_eq_self.2 fun y hy => ?_).symm
    have := h4 y.ref (List.mem_map_of_mem hy)
    simp; omega
end
end Go.Proofs.YtjmljjmnamfljaaGreat
