/- MailOrder's plain law: numbers that were put and not taken. -/
import Derived.Test.YtmkidkfofbnjgaaAwake
import Derived.Test.YtmkidkfofbnjgaaSameTs
namespace Go.Proofs.Ytmkidkfofbnjgaa
open Go.RowKit

theorem map_eraseIdx' {α β : Type} (f : α → β) : ∀ (xs : List α) (i : Nat), (xs.eraseIdx i).map f = (xs.map f).eraseIdx i
  | [], _ => rfl
  | _ :: _, 0 => rfl
  | x :: xs, i + 1 => by simp [map_eraseIdx' f xs i]

def goneAt (G : List Bool) (k : Nat) : Bool := G.getD k false
def kept (G : List Bool) (count : Nat) : List Nat := (List.range count).filter (fun k => !goneAt G k)

theorem kept_succ (G : List Bool) (k : Nat) : kept G (k + 1) = if goneAt G k then kept G k else kept G k ++ [k] := by
  unfold kept
  rw [List.range_succ, List.filter_append]
  cases h : goneAt G k <;> simp [h]

theorem kept_lt {G : List Bool} {count k : Nat} (h : k ∈ kept G count) : k < count ∧ goneAt G k = false := by
  unfold kept at h
  simpa using h

theorem kept_at {G : List Bool} {k : Nat} (hg : goneAt G k = false) : ∀ {count : Nat}, k < count → (kept G count)[(kept G k).length]? = some k
  | 0, h => absurd h (by omega)
  | count + 1, h => by
    rw [kept_succ]
    by_cases hk : k = count
    · subst hk; simp [hg]
    · have ih := kept_at hg (count := count) (by omega)
      by_cases hc : goneAt G count = true
      · rw [if_pos hc]; exact ih
      · rw [if_neg hc, List.getElem?_append_left (by
          obtain ⟨h1, _⟩ := List.getElem?_eq_some_iff.1 ih; exact h1)]
        exact ih

theorem kept_sorted (G : List Bool) (count : Nat) : (kept G count).Pairwise (· < ·) := List.Pairwise.filter _ List.pairwise_lt_range

theorem eraseIdx_filter : ∀ {xs : List Nat} {i k : Nat}, xs.Pairwise (· < ·) → xs[i]? = some k → xs.eraseIdx i = xs.filter (· != k)
  | [], i, k, _, h => by simp at h
  | x :: xs, 0, k, hp, h => by
    obtain rfl : x = k := by simpa using h
    have h2 : ∀ a ∈ xs, x < a := fun a ha => List.rel_of_pairwise_cons hp ha
    rw [List.eraseIdx_cons_zero, List.filter_cons_of_neg (by simp), List.filter_eq_self.2]
    intro a ha; have := h2 a ha; simp; omega
  | x :: xs, i + 1, k, hp, h => by
    have h' : xs[i]? = some k := by simpa using h
    have hlt : x < k := List.rel_of_pairwise_cons hp (List.mem_of_getElem? h')
    rw [List.eraseIdx_cons_succ, List.filter_cons_of_pos (by simp; omega), eraseIdx_filter (List.Pairwise.of_cons hp) h']

theorem kept_set {G : List Bool} {count k : Nat} (hk : k < G.length) : kept (G.set k true) count = (kept G count).filter (· != k) := by
  unfold kept
  rw [List.filter_filter]
  apply List.filter_congr
  intro a _
  unfold goneAt
  by_cases h : a = k
  · subst h; simp [List.getD, hk]
  · have h1 : (G.set k true).getD a false = G.getD a false := by simp [List.getD, List.getElem?_set_ne (Ne.symm h)]
    rw [h1]; simp [h]

/-- What a letter numbered k is. -/
abbrev numT (k : Nat) : Tm := flatT 3 ByteArray.empty (k : Int)

def OrdInv (w0 wr : World) (b : Nat) (count : Nat) : Prop := ∃ sv L i G, Run w0 wr b sv L i ∧ i ≤ L.length ∧ L.map (·.t) = (kept G count).map numT ∧ G.length = 80 ∧ Blk wr (b + 1) 47 (G.map Value.bool).toArray ∧ sv.ownBlock ≠ some (b + 1) ∧ (∀ k, count ≤ k → goneAt G k = false) ∧ (∀ x ∈ L, b + 1 < x.lo) ∧ w0.heap.size ≤ b

theorem kept_len (G : List Bool) (count : Nat) : (kept G count).length ≤ count := by
  unfold kept; exact Nat.le_trans (List.length_filter_le _ _) (by simp)

theorem nth_of {L : List Lt} {xs : List Nat} (h : L.map (·.t) = xs.map numT) {i : Nat} {x : Lt} (hx : L[i]? = some x) : ∃ k, xs[i]? = some k ∧ x.t = numT k := by
  have h1 : (L.map (·.t))[i]? = some x.t := by simp [hx]
  rw [h, List.getElem?_map] at h1
  cases hk : xs[i]? with
  | none => rw [hk] at h1; simp at h1
  | some k => rw [hk] at h1; exact ⟨k, rfl, by simpa using h1.symm⟩

theorem nums_len {L : List Lt} {xs : List Nat} (h : L.map (·.t) = xs.map numT) : L.length = xs.length := by
  have := congrArg List.length h; simpa using this

/-- Behind Begin and Skip. -/
theorem OrdInv.moved {w0 wr w' : World} {b count i' : Nat} {sv : Value} {L : List Lt} {i : Nat} {G : List Bool} (hr : Run w0 wr b sv L i) (hm : L.map (·.t) = (kept G count).map numT) (hG : G.length = 80) (hB : Blk wr (b + 1) 47 (G.map Value.bool).toArray) (hne : sv.ownBlock ≠ some (b + 1)) (hz : ∀ k, count ≤ k → goneAt G k = false) (hlo : ∀ x ∈ L, b + 1 < x.lo) (h0 : w0.heap.size ≤ b)
    (hbox : BoxAt w' b sv L i') (hk : Keeps (fun k => k = b) wr w') (hi : i' ≤ L.length) : OrdInv w0 w' b count :=
  ⟨sv, L, i', G, hr.turn (hk.mono (fun _ _ e => .inl e)) hbox (.inl rfl), hi, hm, hG, hB.keep hk (by omega), hne, hz, hlo, h0⟩

theorem OrdInv.same {w0 wr w' : World} {b count : Nat} (h : OrdInv w0 wr b count) (hk : Keeps NoB wr w') : OrdInv w0 w' b count := by
  obtain ⟨sv, L, i, G, h1, h2, h3, h4, h5, h6, h7, h8, h9⟩ := h
  exact ⟨sv, L, i, G, h1.fresh hk, h2, h3, h4, h5.keep hk id, h6, h7, h8, h9⟩

/-- Behind Put. -/
theorem OrdInv.put {w0 wr w' : World} {b count : Nat} {sv sv' : Value} {L : List Lt} {x : Lt} {i : Nat} {G : List Bool} (hr : Run w0 wr b sv L i) (hi : i ≤ L.length) (hm : L.map (·.t) = (kept G count).map numT) (hG : G.length = 80) (hB : Blk wr (b + 1) 47 (G.map Value.bool).toArray) (hne : sv.ownBlock ≠ some (b + 1)) (hz : ∀ k, count ≤ k → goneAt G k = false) (hlo : ∀ x ∈ L, b + 1 < x.lo) (h0 : w0.heap.size ≤ b)
    (hxt : x.t = numT count) (hx0 : wr.heap.size ≤ x.lo) (hbox : BoxAt w' b sv' (L ++ [x]) i) (hk : Keeps (boxFp b sv) wr w') (hsv : sv'.ownBlock = sv.ownBlock ∨ ∃ g, sv'.ownBlock = some g ∧ wr.heap.size ≤ g) : OrdInv w0 w' b (count + 1) := by
  have hlt := hB.lt
  refine ⟨sv', L ++ [x], i, G, hr.turn hk hbox hsv, by simp; omega, ?_, hG, hB.keep hk ?_, ?_, fun k hk' => hz k (by omega), ?_, h0⟩
  · rw [kept_succ, if_neg (by simp [hz count (Nat.le_refl _)]), List.map_append, List.map_append, hm]; simp [hxt]
  · rintro (h | h)
    · omega
    · exact hne h
  · rcases hsv with h | ⟨g, h, hg⟩
    · rw [h]; exact hne
    · rw [h]; intro e; injection e with e; omega
  · intro y hy
    rcases List.mem_append.1 hy with hy | hy
    · exact hlo y hy
    · obtain rfl : y = x := by simpa using hy
      omega

/-- Behind Take, and the mark. -/
theorem OrdInv.take {w0 wr w1 w' : World} {b count : Nat} {sv sv' : Value} {L : List Lt} {x : Lt} {i k : Nat} {G : List Bool} (hr : Run w0 wr b sv L i) (hm : L.map (·.t) = (kept G count).map numT) (hG : G.length = 80) (hB : Blk w1 (b + 1) 47 (G.map Value.bool).toArray) (hne : sv.ownBlock ≠ some (b + 1)) (hz : ∀ k, count ≤ k → goneAt G k = false) (hlo : ∀ x ∈ L, b + 1 < x.lo) (h0 : w0.heap.size ≤ b)
    (hx : L[i]? = some x) (hxt : x.t = numT k) (hk8 : k < 80) (hbox : BoxAt w1 b sv' (L.eraseIdx i) 0) (hk : Keeps (boxFp b sv) wr w1) (hsv : sv'.ownBlock = sv.ownBlock) (hw : w1.setCell ⟨b + 1, k, none⟩ (.bool true) = w') : OrdInv w0 w' b count := by
  subst hw
  obtain ⟨k', hk', hkt⟩ := nth_of hm hx
  obtain rfl : k = k' := by
    rw [hxt] at hkt; injection hkt with _ _ _ _ h; omega
  have hset : (G.set k true).map Value.bool = (G.map Value.bool).set k (.bool true) := by rw [List.map_set]
  have hks : Keeps (fun j => j = b + 1) w1 (w1.setCell ⟨b + 1, k, none⟩ (.bool true)) := (Keeps.refl (fun j => j = b + 1) w1).setCell (p := ⟨b + 1, k, none⟩) (.inl rfl) _
  have hmis : ∀ y ∈ L.eraseIdx i, b + 1 < y.lo := fun y hy => hlo y (List.mem_of_mem_eraseIdx hy)
  have hR1 : Run w0 w1 b sv' (L.eraseIdx i) 0 := hr.turn hk hbox (.inl hsv)
  refine ⟨sv', L.eraseIdx i, 0, G.set k true, ⟨?_, ?_, hR1.hb, hR1.hg⟩, Nat.zero_le _, ?_, by simp [hG], ?_, by rw [hsv]; exact hne, ?_, hmis, h0⟩
  · exact hR1.box.keep hks (by omega) (fun g hg e => hne (by rw [← hsv, hg, e])) (fun y hy j e => .inl (by have := hmis y hy; omega))
  · exact hR1.keep.trans' hks (fun _ _ => id) (fun j hj e => by omega)
  · rw [kept_set (by omega), ← eraseIdx_filter (kept_sorted G count) hk', map_eraseIdx', map_eraseIdx', hm]
  · have := hB.put k (.bool true)
    rw [hset]; simpa using this
  · intro j hj
    have hkc := (kept_lt (List.mem_of_getElem? hk')).1
    unfold goneAt
    rw [List.getD, List.getElem?_set_ne (by omega)]
    exact hz j hj
end Go.Proofs.Ytmkidkfofbnjgaa
