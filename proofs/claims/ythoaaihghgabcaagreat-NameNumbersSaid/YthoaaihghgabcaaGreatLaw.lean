/- Names of processes as a list that rises: what put, take, find, end come to. Plain lemmas. -/
import Derived.Maps.OwnSet
import Derived.Sort.KeysCollected
import Derived.Sort.Walk0
namespace Go.Proofs.YthoaaihghgabcaaGreat
open Go.RowKit Go.Maps

/-- One name, and whose it is. -/
abbrev Nm := ByteArray × Int
abbrev key (s : ByteArray) : List UInt8 := s.data.toList
theorem key_inj {s t : ByteArray} (h : key s = key t) : s = t := by
  cases s; cases t
  simp only [key] at h
  congr 1
  exact Array.ext' h
/-- Rising by names. -/
def Up (L : List Nm) : Prop := L.Pairwise fun x y => key x.1 < key y.1
def OncePid (L : List Nm) : Prop := L.Pairwise fun x y => x.2 ≠ y.2
def ins (x : Nm) : List Nm → List Nm
  | [] => [x]
  | y :: L => if key x.1 < key y.1 then x :: y :: L else y :: ins x L
def names (L : List Nm) : List ByteArray := L.map (·.1)
def pids (L : List Nm) : List Int := L.map (·.2)
def hasN (s : ByteArray) (L : List Nm) : Bool := L.any fun x => decide (x.1 = s)
def hasP (p : Int) (L : List Nm) : Bool := L.any fun x => decide (x.2 = p)
theorem hasN_iff {s : ByteArray} {L : List Nm} : hasN s L = true ↔ s ∈ names L := by
  unfold hasN names; rw [List.any_eq_true, List.mem_map]; simp
theorem hasP_iff {p : Int} {L : List Nm} : hasP p L = true ↔ p ∈ pids L := by
  unfold hasP pids; rw [List.any_eq_true, List.mem_map]; simp
def dropName (s : ByteArray) (L : List Nm) : List Nm := L.filter fun x => decide (x.1 ≠ s)
def dropPid (p : Int) (L : List Nm) : List Nm := L.filter fun x => decide (x.2 ≠ p)

theorem lt_trans' {a b c : List UInt8} (h : a < b) (k : b < c) : a < c := List.lt_trans h k
theorem lt_irrefl' (a : List UInt8) : ¬ a < a := List.lt_irrefl a
theorem lt_total {a b : List UInt8} (h : ¬ a < b) (hne : a ≠ b) : b < a := by
  have h2 : b ≤ a := List.not_lt.1 h
  rcases List.le_iff_lt_or_eq.1 h2 with h3 | h3
  · exact h3
  · exact absurd h3.symm hne

theorem mem_ins {x z : Nm} : ∀ {L : List Nm}, z ∈ ins x L ↔ z = x ∨ z ∈ L
  | [] => by simp [ins]
  | y :: L => by
    unfold ins
    split
    · simp
    · simp only [List.mem_cons, mem_ins (L := L)]
      constructor
      · rintro (h | h | h)
        · exact .inr (.inl h)
        · exact .inl h
        · exact .inr (.inr h)
      · rintro (h | h | h)
        · exact .inr (.inl h)
        · exact .inl h
        · exact .inr (.inr h)
theorem ins_len (x : Nm) : ∀ L : List Nm, (ins x L).length = L.length + 1
  | [] => rfl
  | y :: L => by unfold ins; split <;> simp [ins_len x L]
theorem ins_up {x : Nm} : ∀ {L : List Nm}, Up L → x.1 ∉ names L → Up (ins x L)
  | [], _, _ => by simp [ins, Up]
  | y :: L, h, hx => by
    obtain ⟨h1, h2⟩ := List.pairwise_cons.1 h
    simp only [names, List.map_cons, List.mem_cons, not_or] at hx
    unfold ins
    split
    · rename_i hlt
      refine List.pairwise_cons.2 ⟨fun z hz => ?_, h⟩
      rcases List.mem_cons.1 hz with rfl | hz
      · exact hlt
      · exact lt_trans' hlt (h1 z hz)
    · rename_i hlt
      refine List.pairwise_cons.2 ⟨fun z hz => ?_, ins_up h2 hx.2⟩
      rcases mem_ins.1 hz with rfl | hz
      · exact lt_total hlt (fun e => hx.1 (key_inj e))
      · exact h1 z hz
theorem ins_once {x : Nm} : ∀ {L : List Nm}, OncePid L → x.2 ∉ pids L → OncePid (ins x L)
  | [], _, _ => by simp [ins, OncePid]
  | y :: L, h, hx => by
    obtain ⟨h1, h2⟩ := List.pairwise_cons.1 h
    simp only [pids, List.map_cons, List.mem_cons, not_or] at hx
    have hxL : ∀ z ∈ L, x.2 ≠ z.2 := fun z hz e => hx.2 (List.mem_map.2 ⟨z, hz, e.symm⟩)
    unfold ins
    split
    · refine List.pairwise_cons.2 ⟨fun z hz => ?_, h⟩
      rcases List.mem_cons.1 hz with rfl | hz
      · exact hx.1
      · exact hxL z hz
    · refine List.pairwise_cons.2 ⟨fun z hz => ?_, ins_once h2 hx.2⟩
      rcases mem_ins.1 hz with rfl | hz
      · exact fun e => hx.1 e.symm
      · exact h1 z hz
theorem Up.filter {L : List Nm} (h : Up L) (f : Nm → Bool) : Up (L.filter f) := List.Pairwise.filter f h
theorem OncePid.filter {L : List Nm} (h : OncePid L) (f : Nm → Bool) : OncePid (L.filter f) := List.Pairwise.filter f h
theorem Up.names_nodup {L : List Nm} (h : Up L) : (L.map fun x => key x.1).Nodup := by
  unfold List.Nodup
  rw [List.pairwise_map]
  exact List.Pairwise.imp (fun h e => by rw [e] at h; exact lt_irrefl' _ h) h
theorem Up.name_one {L : List Nm} (h : Up L) {x y : Nm} (hx : x ∈ L) (hy : y ∈ L) (e : x.1 = y.1) : x = y := by
  induction L with
  | nil => cases hx
  | cons z L ih =>
    obtain ⟨h1, h2⟩ := List.pairwise_cons.1 h
    rcases List.mem_cons.1 hx with e1 | hx'
    · rcases List.mem_cons.1 hy with e2 | hy'
      · rw [e1, e2]
      · exact absurd (h1 y hy') (by rw [← e, e1]; exact lt_irrefl' _)
    · rcases List.mem_cons.1 hy with e2 | hy'
      · exact absurd (h1 x hx') (by rw [e, e2]; exact lt_irrefl' _)
      · exact ih h2 hx' hy'
theorem OncePid.pid_one {L : List Nm} (h : OncePid L) {x y : Nm} (hx : x ∈ L) (hy : y ∈ L) (e : x.2 = y.2) : x = y := by
  induction L with
  | nil => cases hx
  | cons z L ih =>
    obtain ⟨h1, h2⟩ := List.pairwise_cons.1 h
    rcases List.mem_cons.1 hx with e1 | hx'
    · rcases List.mem_cons.1 hy with e2 | hy'
      · rw [e1, e2]
      · exact absurd (by rw [← e, e1]) (h1 y hy')
    · rcases List.mem_cons.1 hy with e2 | hy'
      · exact absurd (by rw [e, e2]) (h1 x hx')
      · exact ih h2 hx' hy'

/-- A map from names to numbers as read, and the list. -/
structure SMap {H : Type} (D : DataW H) (L : List Nm) : Prop where
  has : ∀ s, Maps.has D (.string (key s)) = true ↔ s ∈ names L
  at' : ∀ x ∈ L, ∀ z, D.atKey (.string (key x.1)) z = .lit (.int .i64 x.2)
/-- A map from numbers to names as read, and the list. -/
structure PMap {H : Type} (D : DataW H) (L : List Nm) : Prop where
  has : ∀ p, Maps.has D (.int .i64 p) = true ↔ p ∈ pids L
  at' : ∀ x ∈ L, ∀ z, D.atKey (.int .i64 x.2) z = .lit (.string (key x.1))

section
variable {H : Type} {D : DataW H} {L : List Nm}
theorem SMap.empty : SMap (.map [] : DataW H) [] := ⟨fun s => by simp [Maps.has, names], fun x hx => by cases hx⟩
theorem PMap.empty : PMap (.map [] : DataW H) [] := ⟨fun s => by simp [Maps.has, pids], fun x hx => by cases hx⟩
theorem SMap.not (h : SMap D L) {s : ByteArray} (hs : s ∉ names L) : Maps.has D (.string (key s)) = false := by
  cases e : Maps.has D (.string (key s)) with
  | false => rfl
  | true => exact absurd ((h.has s).1 e) hs
theorem PMap.not (h : PMap D L) {p : Int} (hs : p ∉ pids L) : Maps.has D (.int .i64 p) = false := by
  cases e : Maps.has D (.int .i64 p) with
  | false => rfl
  | true => exact absurd ((h.has p).1 e) hs
theorem mem_names {x : Nm} (h : x ∈ L) : x.1 ∈ names L := List.mem_map_of_mem h
theorem mem_pids {x : Nm} (h : x ∈ L) : x.2 ∈ pids L := List.mem_map_of_mem h
theorem names_ins (x : Nm) (s : ByteArray) : s ∈ names (ins x L) ↔ s = x.1 ∨ s ∈ names L := by
  unfold names
  constructor
  · intro h
    obtain ⟨z, hz, rfl⟩ := List.mem_map.1 h
    rcases mem_ins.1 hz with rfl | hz
    · exact .inl rfl
    · exact .inr (List.mem_map_of_mem hz)
  · rintro (rfl | h)
    · exact List.mem_map.2 ⟨x, mem_ins.2 (.inl rfl), rfl⟩
    · obtain ⟨z, hz, rfl⟩ := List.mem_map.1 h
      exact List.mem_map.2 ⟨z, mem_ins.2 (.inr hz), rfl⟩
theorem pids_ins (x : Nm) (s : Int) : s ∈ pids (ins x L) ↔ s = x.2 ∨ s ∈ pids L := by
  unfold pids
  constructor
  · intro h
    obtain ⟨z, hz, rfl⟩ := List.mem_map.1 h
    rcases mem_ins.1 hz with rfl | hz
    · exact .inl rfl
    · exact .inr (List.mem_map_of_mem hz)
  · rintro (rfl | h)
    · exact List.mem_map.2 ⟨x, mem_ins.2 (.inl rfl), rfl⟩
    · obtain ⟨z, hz, rfl⟩ := List.mem_map.1 h
      exact List.mem_map.2 ⟨z, mem_ins.2 (.inr hz), rfl⟩
theorem str_ne {s t : ByteArray} (h : s ≠ t) : (Lit.string (key s)) ≠ .string (key t) := fun e => h (key_inj (by injection e))
theorem int_ne' {p q : Int} (h : p ≠ q) : (Lit.int .i64 p) ≠ .int .i64 q := fun e => h (by injection e)
theorem SMap.put (h : SMap D L) (hD : IsMap D) (x : Nm) (hk : WideAt.IsKeyLit (.string (key x.1))) : SMap (D.put (.string (key x.1)) (.lit (.int .i64 x.2))) (ins x (dropName x.1 L)) := by
  have hn : ∀ s, s ∈ names (dropName x.1 L) ↔ s ≠ x.1 ∧ s ∈ names L := fun s => by
    unfold names dropName
    constructor
    · intro hs
      obtain ⟨z, hz, rfl⟩ := List.mem_map.1 hs
      obtain ⟨h1, h2⟩ := List.mem_filter.1 hz
      exact ⟨by simpa using h2, List.mem_map_of_mem h1⟩
    · rintro ⟨h1, hs⟩
      obtain ⟨z, hz, rfl⟩ := List.mem_map.1 hs
      exact List.mem_map.2 ⟨z, List.mem_filter.2 ⟨hz, by simpa using h1⟩, rfl⟩
  refine ⟨fun s => ?_, fun z hz w => ?_⟩
  · rw [names_ins, hn]
    by_cases e : s = x.1
    · subst e
      simp [has_put_same hD hk]
    · rw [has_put_other (str_ne e), h.has]
      simp [e]
  · rcases mem_ins.1 hz with rfl | hz
    · exact atKey_put_same hD hk _ _
    · obtain ⟨h1, h2⟩ := List.mem_filter.1 hz
      rw [atKey_put_other (str_ne (by simpa using h2))]
      exact h.at' z h1 w
theorem SMap.del (h : SMap D L) (s : ByteArray) : SMap (D.del (.string (key s))) (dropName s L) := by
  refine ⟨fun t => ?_, fun z hz w => ?_⟩
  · by_cases e : t = s
    · subst e
      rw [has_del_same]
      constructor
      · intro h; cases h
      · intro h
        obtain ⟨z, hz, e⟩ := List.mem_map.1 h
        have := (List.mem_filter.1 hz).2
        simp only [decide_eq_true_eq] at this
        exact absurd e this
    · rw [has_del_other (str_ne e), h.has]
      simp only [names, dropName, List.mem_map, List.mem_filter]
      constructor
      · rintro ⟨z, hz, rfl⟩; exact ⟨z, ⟨hz, by simpa using e⟩, rfl⟩
      · rintro ⟨z, ⟨hz, _⟩, rfl⟩; exact ⟨z, hz, rfl⟩
  · obtain ⟨h1, h2⟩ := List.mem_filter.1 hz
    rw [atKey_del_other (str_ne (by simpa using h2))]
    exact h.at' z h1 w
theorem PMap.put (h : PMap D L) (hD : IsMap D) (x : Nm) (hk : WideAt.IsKeyLit (.int .i64 x.2)) (hx : x.2 ∉ pids L) : PMap (D.put (.int .i64 x.2) (.lit (.string (key x.1)))) (ins x L) := by
  refine ⟨fun s => ?_, fun z hz w => ?_⟩
  · rw [pids_ins]
    by_cases e : s = x.2
    · subst e
      simp [has_put_same hD hk]
    · rw [has_put_other (int_ne' e), h.has]
      simp [e]
  · rcases mem_ins.1 hz with rfl | hz
    · exact atKey_put_same hD hk _ _
    · rw [atKey_put_other (int_ne' (fun e => hx (by rw [← e]; exact mem_pids hz)))]
      exact h.at' z hz w
theorem PMap.del (h : PMap D L) (p : Int) : PMap (D.del (.int .i64 p)) (dropPid p L) := by
  refine ⟨fun t => ?_, fun z hz w => ?_⟩
  · by_cases e : t = p
    · subst e
      rw [has_del_same]
      constructor
      · intro h; cases h
      · intro h
        obtain ⟨z, hz, e⟩ := List.mem_map.1 h
        have := (List.mem_filter.1 hz).2
        simp only [decide_eq_true_eq] at this
        exact absurd e this
    · rw [has_del_other (int_ne' e), h.has]
      simp only [pids, dropPid, List.mem_map, List.mem_filter]
      constructor
      · rintro ⟨z, hz, rfl⟩; exact ⟨z, ⟨hz, by simpa using e⟩, rfl⟩
      · rintro ⟨z, ⟨hz, _⟩, rfl⟩; exact ⟨z, hz, rfl⟩
  · obtain ⟨h1, h2⟩ := List.mem_filter.1 hz
    rw [atKey_del_other (int_ne' (by simpa using h2))]
    exact h.at' z h1 w
theorem dropName_none {s : ByteArray} (h : s ∉ names L) : dropName s L = L := by
  unfold dropName
  rw [List.filter_eq_self]
  intro x hx
  simp only [decide_eq_true_eq]
  exact fun e => h (e ▸ mem_names hx)
/-- Who has a name has that alone: to strike the name is to strike the process. -/
theorem drop_same (hu : Up L) (ho : OncePid L) {x : Nm} (hx : x ∈ L) : dropPid x.2 L = dropName x.1 L := by
  unfold dropPid dropName
  apply List.filter_congr
  intro z hz
  by_cases e : z = x
  · subst e; simp
  · have h1 : z.1 ≠ x.1 := fun e2 => e (hu.name_one hz hx e2)
    have h2 : z.2 ≠ x.2 := fun e2 => e (ho.pid_one hz hx e2)
    simp [h1, h2]

/-- The keys of the map are the list's names. -/
theorem SMap.keys {P : Program} {k : TypeId} {R : Value → Option (DataW H × List MemPlace)} {w : World} {b n : Nat} (h : SMap D L) (hown : w.ownsMap P k R b n D) (K : Keyed P k) (hk : P.underlying k = some .string) (hu : Up L) : (strKeys D).Perm (L.map fun x => key x.1) := by
  obtain ⟨es, rfl, hes⟩ := hown.keysOf
  obtain ⟨es', e, hp⟩ := hown.tidy K
  cases e
  refine (perm_strKeys hp (fun p hp' => ?_) hu.names_nodup (fun x => ?_)).symm
  · obtain ⟨v, hv⟩ := hes p hp'
    obtain ⟨x, _, h2, _⟩ := Maps.keyOf_str hk hv
    exact ⟨x, h2⟩
  · have h1 := h.has ⟨x.toArray⟩
    have e : key ⟨x.toArray⟩ = x := by simp [key]
    rw [e] at h1
    rw [h1]
    unfold names
    constructor
    · intro hx
      obtain ⟨z, hz, rfl⟩ := List.mem_map.1 hx
      exact List.mem_map.2 ⟨z, hz, key_inj e.symm⟩
    · intro hx
      obtain ⟨z, hz, e2⟩ := List.mem_map.1 hx
      exact List.mem_map.2 ⟨z, hz, by rw [e2, e]⟩
theorem sorted_names {ss : List (List UInt8)} (hu : Up L) (hp : ss.Perm (L.map fun x => key x.1)) : ss.mergeSort (fun x y => decide (x ≤ y)) = L.map fun x => key x.1 := by
  have tr : ∀ a b c : List UInt8, leB a b = true → leB b c = true → leB a c = true := fun a b c h1 h2 => by simp only [leB, decide_eq_true_eq] at *; exact List.le_trans h1 h2
  have to : ∀ a b : List UInt8, (leB a b || leB b a) = true := fun a b => by simp only [leB, Bool.or_eq_true, decide_eq_true_eq]; exact List.le_total a b
  refine List.Perm.eq_of_pairwise (le := fun a b => leB a b = true) (fun a b _ _ h1 h2 => ?_) (List.pairwise_mergeSort tr to ss) ?_ ((List.mergeSort_perm ss leB).trans hp)
  · simp only [leB, decide_eq_true_eq] at h1 h2
    exact List.le_antisymm h1 h2
  · rw [List.pairwise_map]
    exact List.Pairwise.imp (fun h => by simp only [leB, decide_eq_true_eq]; exact List.le_of_lt h) hu
end
end Go.Proofs.YthoaaihghgabcaaGreat
