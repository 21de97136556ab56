/- Six processes, and which of them has which name. Plain lemmas. -/
import Derived.Test.YthoaaihghgabcaaLaw
namespace Go.Proofs.Ythoaaihghgabcaa
open Go.RowKit Go.Maps

/-- Those that have a name: its name, its number. -/
def mk (i : Nat) : List Bool → List ByteArray → List Nm
  | true :: hs, m :: ms => (m, (i : Int)) :: mk (i + 1) hs ms
  | false :: hs, _ :: ms => mk (i + 1) hs ms
  | _, _ => []
theorem mk_len : ∀ (i : Nat) (hs : List Bool) (ms : List ByteArray), hs.length = ms.length → (mk i hs ms).length = hs.countP id
  | _, [], [], _ => rfl
  | i, true :: hs, m :: ms, h => by
    have := mk_len (i + 1) hs ms (by simpa using h)
    simp [mk, this]
  | i, false :: hs, m :: ms, h => by
    have := mk_len (i + 1) hs ms (by simpa using h)
    simp [mk, this]
theorem mk_mem {x : Nm} : ∀ {i : Nat} {hs : List Bool} {ms : List ByteArray}, x ∈ mk i hs ms ↔ ∃ k : Nat, hs[k]? = some true ∧ ms[k]? = some x.1 ∧ x.2 = ((i + k : Nat) : Int)
  | i, [], ms => by simp [mk]
  | i, true :: hs, [] => by simp [mk]
  | i, false :: hs, [] => by simp [mk]
  | i, true :: hs, m :: ms => by
    have ih := mk_mem (x := x) (i := i + 1) (hs := hs) (ms := ms)
    unfold mk
    rw [List.mem_cons, ih]
    constructor
    · rintro (rfl | ⟨k, h1, h2, h3⟩)
      · exact ⟨0, rfl, rfl, by simp⟩
      · exact ⟨k + 1, by simpa using h1, by simpa using h2, by rw [h3]; congr 1; omega⟩
    · rintro ⟨k, h1, h2, h3⟩
      cases k with
      | zero =>
        left
        obtain rfl : m = x.1 := by simpa using h2
        exact Prod.ext rfl (by simpa using h3)
      | succ k => exact .inr ⟨k, by simpa using h1, by simpa using h2, by rw [h3]; congr 1; omega⟩
  | i, false :: hs, m :: ms => by
    have ih := mk_mem (x := x) (i := i + 1) (hs := hs) (ms := ms)
    unfold mk
    rw [ih]
    constructor
    · rintro ⟨k, h1, h2, h3⟩
      exact ⟨k + 1, by simpa using h1, by simpa using h2, by rw [h3]; congr 1; omega⟩
    · rintro ⟨k, h1, h2, h3⟩
      cases k with
      | zero => simp at h1
      | succ k => exact ⟨k, by simpa using h1, by simpa using h2, by rw [h3]; congr 1; omega⟩
theorem mk_on {s : ByteArray} : ∀ {i k : Nat} {hs : List Bool} {ms : List ByteArray}, hs[k]? = some false → k < ms.length → (mk i (hs.set k true) (ms.set k s)).Perm ((s, ((i + k : Nat) : Int)) :: mk i hs ms)
  | i, k, [], ms, h, _ => by simp at h
  | i, k, _ :: _, [], _, h => by simp at h
  | i, 0, h0 :: hs, m :: ms, h, _ => by
    obtain rfl : h0 = false := by simpa using h
    simp only [List.set_cons_zero, mk, Nat.add_zero]
    exact List.Perm.refl _
  | i, k + 1, true :: hs, m :: ms, h, hk => by
    have ih := mk_on (s := s) (i := i + 1) (k := k) (hs := hs) (ms := ms) (by simpa using h) (by simpa using hk)
    simp only [List.set_cons_succ, mk]
    rw [show i + 1 + k = i + (k + 1) from by omega] at ih
    exact (List.Perm.cons _ ih).trans (List.Perm.swap _ _ _)
  | i, k + 1, false :: hs, m :: ms, h, hk => by
    have ih := mk_on (s := s) (i := i + 1) (k := k) (hs := hs) (ms := ms) (by simpa using h) (by simpa using hk)
    simp only [List.set_cons_succ, mk]
    rw [show i + 1 + k = i + (k + 1) from by omega] at ih
    exact ih
theorem mk_off {m : ByteArray} : ∀ {i k : Nat} {hs : List Bool} {ms : List ByteArray}, hs[k]? = some true → ms[k]? = some m → (mk i hs ms).Perm ((m, ((i + k : Nat) : Int)) :: mk i (hs.set k false) ms)
  | i, k, [], ms, h, _ => by simp at h
  | i, k, _ :: _, [], _, h => by simp at h
  | i, 0, h0 :: hs, m0 :: ms, h, hm => by
    obtain rfl : h0 = true := by simpa using h
    obtain rfl : m0 = m := by simpa using hm
    simp only [List.set_cons_zero, mk, Nat.add_zero]
    exact List.Perm.refl _
  | i, k + 1, true :: hs, m0 :: ms, h, hk => by
    have ih := mk_off (m := m) (i := i + 1) (k := k) (hs := hs) (ms := ms) (by simpa using h) (by simpa using hk)
    simp only [List.set_cons_succ, mk]
    rw [show i + 1 + k = i + (k + 1) from by omega] at ih
    exact (List.Perm.cons _ ih).trans (List.Perm.swap _ _ _)
  | i, k + 1, false :: hs, m0 :: ms, h, hk => by
    have ih := mk_off (m := m) (i := i + 1) (k := k) (hs := hs) (ms := ms) (by simpa using h) (by simpa using hk)
    simp only [List.set_cons_succ, mk]
    rw [show i + 1 + k = i + (k + 1) from by omega] at ih
    exact ih
theorem ins_perm (x : Nm) : ∀ L : List Nm, (ins x L).Perm (x :: L)
  | [] => List.Perm.refl _
  | y :: L => by
    unfold ins
    split
    · exact List.Perm.refl _
    · exact (List.Perm.cons _ (ins_perm x L)).trans (List.Perm.swap _ _ _)
theorem drop_perm : ∀ {L : List Nm} {x : Nm}, Up L → x ∈ L → L.Perm (x :: dropName x.1 L)
  | [], x, _, h => by cases h
  | y :: L, x, hu, h => by
    obtain ⟨h1, h2⟩ := List.pairwise_cons.1 hu
    by_cases e : y = x
    · subst e
      have : dropName y.1 (y :: L) = L := by
        unfold dropName
        rw [List.filter_cons_of_neg (by simp), List.filter_eq_self]
        intro z hz
        simp only [decide_eq_true_eq]
        exact fun e => absurd (h1 z hz) (by rw [e]; exact lt_irrefl' _)
      rw [this]
    · have hx : x ∈ L := (List.mem_cons.1 h).resolve_left (fun e2 => e e2.symm)
      have hne : y.1 ≠ x.1 := fun e2 => absurd (h1 x hx) (by rw [e2]; exact lt_irrefl' _)
      have : dropName x.1 (y :: L) = y :: dropName x.1 L := by
        unfold dropName
        rw [List.filter_cons_of_pos (by simpa using hne)]
      rw [this]
      exact (List.Perm.cons _ (drop_perm h2 hx)).trans (List.Perm.swap _ _ _)

/-- The names that there are, and what the six are said to have, agree. -/
structure One (L : List Nm) (hs : List Bool) (ms : List ByteArray) : Prop where
  l1 : hs.length = 6
  l2 : ms.length = 6
  perm : L.Perm (mk 0 hs ms)
section
variable {L : List Nm} {hs : List Bool} {ms : List ByteArray}
theorem One.start : One [] (List.replicate 6 false) (List.replicate 6 ByteArray.empty) := ⟨rfl, rfl, List.Perm.refl _⟩
theorem One.mem (h : One L hs ms) {s : ByteArray} {p : Int} : (s, p) ∈ L ↔ ∃ k : Nat, k < 6 ∧ p = (k : Int) ∧ hs[k]? = some true ∧ ms[k]? = some s := by
  rw [h.perm.mem_iff, mk_mem]
  constructor
  · rintro ⟨k, h1, h2, h3⟩
    exact ⟨k, by have := (List.getElem?_eq_some_iff.1 h1).1; have := h.l1; omega, by simpa using h3, h1, h2⟩
  · rintro ⟨k, _, h3, h1, h2⟩
    exact ⟨k, h1, h2, by simpa using h3⟩
theorem One.len (h : One L hs ms) : L.length = hs.countP id := by rw [h.perm.length_eq, mk_len 0 hs ms (by rw [h.l1, h.l2])]
theorem One.put (h : One L hs ms) {k : Nat} {s : ByteArray} (hk : hs[k]? = some false) : One (ins (s, (k : Int)) L) (hs.set k true) (ms.set k s) := by
  have hk6 := (List.getElem?_eq_some_iff.1 hk).1
  refine ⟨by simp [h.l1], by simp [h.l2], (ins_perm _ _).trans ?_⟩
  have := mk_on (s := s) (i := 0) hk (ms := ms) (by rw [h.l2, ← h.l1]; exact hk6)
  rw [Nat.zero_add] at this
  exact (List.Perm.cons _ h.perm).trans this.symm
theorem One.drop (h : One L hs ms) (hu : Up L) {k : Nat} {s : ByteArray} (hk : hs[k]? = some true) (hm : ms[k]? = some s) : One (dropName s L) (hs.set k false) ms := by
  have hx : (s, (k : Int)) ∈ L := h.mem.2 ⟨k, by have := (List.getElem?_eq_some_iff.1 hk).1; have := h.l1; omega, rfl, hk, hm⟩
  refine ⟨by simp [h.l1], h.l2, ?_⟩
  have h1 := drop_perm hu hx
  have h2 := mk_off (i := 0) hk hm
  rw [Nat.zero_add] at h2
  exact List.Perm.cons_inv ((h1.symm.trans h.perm).trans h2)
theorem set_same {k : Nat} (h : hs[k]? = some false) : hs.set k false = hs := by
  obtain ⟨h1, h2⟩ := List.getElem?_eq_some_iff.1 h
  have := List.set_getElem_self h1
  rwa [h2] at this
theorem One.hasP (h : One L hs ms) {k : Nat} (hk : k < 6) : hasP (k : Int) L = true ↔ hs[k]? = some true := by
  rw [hasP_iff]
  unfold pids
  constructor
  · intro hm
    obtain ⟨⟨s, p⟩, hx, e⟩ := List.mem_map.1 hm
    obtain ⟨j, hj, e2, h1, _⟩ := h.mem.1 hx
    have : j = k := by simp only at e; omega
    exact this ▸ h1
  · intro h1
    obtain ⟨m, hm⟩ : ∃ m, ms[k]? = some m := ⟨_, List.getElem?_eq_getElem (by rw [h.l2]; exact hk)⟩
    exact List.mem_map.2 ⟨(m, (k : Int)), h.mem.2 ⟨k, hk, rfl, h1, hm⟩, rfl⟩
end
end Go.Proofs.Ythoaaihghgabcaa
