/- mail.own: terms in memory of their own. -/
import Derived.Test.YtmkidkfofbnjgaaClone
import Derived.Test.YtmkidkfofbnjgaaSeq
import Derived.Deep.LoopGhost
namespace Go.Proofs.Ytmkidkfofbnjgaa
open Go.RowKit

/-- What own hands back: a row of its own, and below it terms of their own, made behind the row. -/
def OwnPost (w : World) (n : Nat) (ts : List Tm) (e : Ending) (w' : World) : Prop :=
  ∃ A' c' css' m, e = .returned (.slice A' n c') ∧ n ≤ c' ∧ m ≤ w'.heap.size ∧ w.heap.size ≤ m ∧ Reads w' (fun k => w.heap.size ≤ k ∧ k < m) true 7 A' n (List.flatten css') ∧ TermsIn w' (fun k => m ≤ k ∧ k < w'.heap.size) true css' ts ∧ Below w.heap.size w w'

def EachAt (w : World) (eB : Nat) : Prop := w.cell? ⟨eB, 0, none⟩ = some (.func (.func 42) #[] #[.pointer (some ⟨eB, 0, none⟩)])

/-- The loop's state: the first k rows are own copies by now. -/
def OwnInv (w w1 : World) (A' : Option Addr) (n : Nat) (css : List (List Value)) (ts : List Tm) (k : Nat) (wr : World) : Prop :=
  ∃ css', css'.length = k ∧ Reads wr (Fresh w w1) true 7 A' n (List.flatten (css' ++ css.drop k)) ∧ TermsIn wr (Fresh w1 wr) true css' (ts.take k) ∧ Keeps NoB w wr ∧ w1.heap.size ≤ wr.heap.size

theorem own_step {w w1 wr W5 : World} {gb go n k : Nat} {css css' : List (List Value)} {ts : List Tm} {t : Tm} {v0 v1 v2 v3 v4 v5 v6 : Value}
    (hk' : css'.length = k) (hr : Reads wr (Fresh w w1) true 7 (some ⟨gb, go, none⟩) n (List.flatten (css' ++ css.drop k))) (ht : TermsIn wr (Fresh w1 wr) true css' (ts.take k)) (hb : Keeps NoB w wr) (h1 : w1.heap.size ≤ wr.heap.size)
    (hlt : k < css.length) (hcl : css.length = n) (h7 : ∀ c ∈ css, c.length = 7) (hww : w.heap.size ≤ gb) (hgw : gb < w1.heap.size)
    (h5 : Keeps NoB wr W5) (htk : ts[k]? = some t) (htm : TermIn W5 (Fresh wr W5) true [v0, v1, v2, v3, v4, v5, v6] t) :
    OwnInv w w1 (some ⟨gb, go, none⟩) n css ts (k + 1) (((((((W5.setCell ⟨gb, go + k * 7, none⟩ v0).setCell ⟨gb, go + k * 7 + 1, none⟩ v1).setCell ⟨gb, go + k * 7 + 2, none⟩ v2).setCell ⟨gb, go + k * 7 + 3, none⟩ v3).setCell ⟨gb, go + k * 7 + 4, none⟩ v4).setCell ⟨gb, go + k * 7 + 5, none⟩ v5).setCell ⟨gb, go + k * 7 + 6, none⟩ v6) := by
  have hl7 : ∀ c ∈ css' ++ css.drop k, c.length = 7 := by
    intro c hc
    rcases List.mem_append.1 hc with hc | hc
    · exact ht.lens.2 c hc
    · exact h7 c (List.mem_of_mem_drop hc)
  have hlen : (css' ++ css.drop k).flatten.length = n * 7 := hr.1
  have hkn : k * 7 + 6 < n * 7 := by omega
  have hK : Keeps (fun x => x = gb) W5 (((((((W5.setCell ⟨gb, go + k * 7, none⟩ v0).setCell ⟨gb, go + k * 7 + 1, none⟩ v1).setCell ⟨gb, go + k * 7 + 2, none⟩ v2).setCell ⟨gb, go + k * 7 + 3, none⟩ v3).setCell ⟨gb, go + k * 7 + 4, none⟩ v4).setCell ⟨gb, go + k * 7 + 5, none⟩ v5).setCell ⟨gb, go + k * 7 + 6, none⟩ v6) :=
    ((((((((Keeps.refl (fun x => x = gb) W5).setCell (p := ⟨gb, go + k * 7, none⟩) (.inl rfl) v0).setCell (p := ⟨gb, go + k * 7 + 1, none⟩) (.inl rfl) v1).setCell (p := ⟨gb, go + k * 7 + 2, none⟩) (.inl rfl) v2).setCell (p := ⟨gb, go + k * 7 + 3, none⟩) (.inl rfl) v3).setCell (p := ⟨gb, go + k * 7 + 4, none⟩) (.inl rfl) v4).setCell (p := ⟨gb, go + k * 7 + 5, none⟩) (.inl rfl) v5).setCell (p := ⟨gb, go + k * 7 + 6, none⟩) (.inl rfl) v6)
  have hr5 := hr.keep h5 (fun _ _ => id)
  have q0 := hr5.put1 (j := k * 7) (by omega) v0
  have q1 := q0.put1 (j := k * 7 + 1) (by simp only [List.length_set]; omega) v1
  have q2 := q1.put1 (j := k * 7 + 2) (by simp only [List.length_set]; omega) v2
  have q3 := q2.put1 (j := k * 7 + 3) (by simp only [List.length_set]; omega) v3
  have q4 := q3.put1 (j := k * 7 + 4) (by simp only [List.length_set]; omega) v4
  have q5 := q4.put1 (j := k * 7 + 5) (by simp only [List.length_set]; omega) v5
  have q6 := q5.put1 (j := k * 7 + 6) (by simp only [List.length_set]; omega) v6
  rw [flat_set7 hl7 k (by rw [List.length_append, List.length_drop]; omega)] at q6
  have eset : (css' ++ css.drop k).set k [v0, v1, v2, v3, v4, v5, v6] = css' ++ [[v0, v1, v2, v3, v4, v5, v6]] ++ css.drop (k + 1) := by
    rw [List.set_append_right _ _ (by omega), hk', Nat.sub_self, List.drop_eq_getElem_cons hlt, List.set_cons_zero]
    simp
  rw [eset] at q6
  refine ⟨css' ++ [[v0, v1, v2, v3, v4, v5, v6]], by simp [hk'], q6, ?_, ?_, ?_⟩
  · have e : ts.take (k + 1) = ts.take k ++ [t] := by
      rw [List.take_add_one, htk]; rfl
    rw [e]
    have hsz : W5.heap.size = (((((((W5.setCell ⟨gb, go + k * 7, none⟩ v0).setCell ⟨gb, go + k * 7 + 1, none⟩ v1).setCell ⟨gb, go + k * 7 + 2, none⟩ v2).setCell ⟨gb, go + k * 7 + 3, none⟩ v3).setCell ⟨gb, go + k * 7 + 4, none⟩ v4).setCell ⟨gb, go + k * 7 + 5, none⟩ v5).setCell ⟨gb, go + k * 7 + 6, none⟩ v6).heap.size := by simp [World.setCell]
    have a1 := TermsIn.keep hK (fun x hx e => by have := hx.1; omega) _ _ (TermsIn.keep h5 (fun _ _ => id) _ _ ht)
    have a2 := TermIn.keep hK (fun x hx e => by have := hx.1; omega) _ _ htm
    refine TermsIn.append (TermsIn.more (fun x hx hB => ⟨hB.1, hx⟩) _ _ a1) (TermsIn.one (TermIn.more (fun x hx hB => ⟨by have := hB.1; omega, hx⟩) _ _ a2))
  · exact (hb.trans' h5 (fun _ _ => id) (fun _ _ => id)).trans' hK (fun _ _ => id) (fun x hx e => by omega)
  · exact Nat.le_trans h1 (Nat.le_trans h5.size hK.size)

end Go.Proofs.Ytmkidkfofbnjgaa
