/- NameNumbers: six names, six processes. Plain facts. -/
import Derived.Test.YthoaaihghgabcaaGreatSum
import Derived.Test.YthoaaihghgabcaaGreatRef
namespace Go.Proofs.YthoaaihghgabcaaGreat
open Go.RowKit Go.Maps

def sN : Nat → ByteArray
  | 0 => ⟨#[]⟩
  | 1 => ⟨#[97]⟩
  | 2 => ⟨#[97, 0]⟩
  | 3 => ⟨#[97, 98]⟩
  | 4 => ⟨#[98]⟩
  | _ => ⟨#[255]⟩
def pN : Nat → Int
  | 0 => -9223372036854775808
  | 1 => -1
  | 2 => 0
  | 3 => 1
  | 4 => 9223372036854775807
  | _ => 7
/-- Behind i Puts. -/
def LN (i : Nat) : List Nm := (List.range i).map fun j => (sN (6 - i + j), pN (i - 1 - j))
theorem six {i : Nat} (h : i < 6) : i = 0 ∨ i = 1 ∨ i = 2 ∨ i = 3 ∨ i = 4 ∨ i = 5 := by omega
theorem ns_at {i : Nat} (h : i < 6) : (#[Value.string { data := #[] }, Value.string { data := #[97] }, Value.string { data := #[97, 0] }, Value.string { data := #[97, 98] }, Value.string { data := #[98] }, Value.string { data := #[255] }] : Array Value)[i]? = some (.string (sN i)) := by rcases six h with rfl | rfl | rfl | rfl | rfl | rfl <;> rfl
theorem ps_at {i : Nat} (h : i < 6) : (#[Value.int .i64 (-9223372036854775808), Value.int .i64 (-1), Value.int .i64 0, Value.int .i64 1, Value.int .i64 9223372036854775807, Value.int .i64 7] : Array Value)[i]? = some (.int .i64 (pN i)) := by rcases six h with rfl | rfl | rfl | rfl | rfl | rfl <;> rfl
theorem sN_ok (i : Nat) : (sN i).size ≤ maxLen := by
  have : (sN i).size ≤ 2 := by
    unfold sN; split <;> decide
  unfold maxLen; omega
theorem pN_ok (i : Nat) : IntOk (pN i) := by
  unfold IntOk pN
  split <;> decide
structure NumFacts (i : Nat) : Prop where
  n1 : hasN (sN (5 - i)) (LN i) = false
  p1 : hasP (pN i) (LN i) = false
  nx : LN (i + 1) = ins (sN (5 - i), pN i) (LN i)
  n2 : hasN (sN (5 - i)) (LN (i + 1)) = true
  p2 : hasP (pN i) (LN (i + 1)) = true
set_option maxRecDepth 100000 in
theorem num_facts {i : Nat} (h : i < 6) : NumFacts i := by
  rcases six h with rfl | rfl | rfl | rfl | rfl | rfl <;> exact ⟨by decide +kernel, by decide +kernel, by decide +kernel, by decide +kernel, by decide +kernel⟩
theorem LN_at {i : Nat} (h : i < 6) : (LN 6)[i]? = some (sN i, pN (5 - i)) := by rcases six h with rfl | rfl | rfl | rfl | rfl | rfl <;> rfl
theorem LN_len (i : Nat) : (LN i).length = i := by unfold LN; simp
theorem LN_sz {i : Nat} : ∀ x ∈ LN i, x.1.size ≤ maxLen := by
  intro x hx
  obtain ⟨j, _, rfl⟩ := List.mem_map.1 hx
  exact sN_ok _

/-- Steps as cells. -/
def dosC (D : List Dx) : List Value := D.flatMap fun x => [.int .i64 x.op, .int .i64 x.pid, .string x.nm]
def DOk (D : List Dx) : Prop := ∀ x ∈ D, x.nm.size ≤ maxLen ∧ IntOk x.pid
theorem dosC_append (D E : List Dx) : dosC (D ++ E) = dosC D ++ dosC E := by unfold dosC; rw [List.flatMap_append]
theorem dosC_len : ∀ D : List Dx, (dosC D).length = D.length * 3
  | [] => rfl
  | x :: D => by
    show ([Value.int .i64 x.op, .int .i64 x.pid, .string x.nm] ++ dosC D).length = _
    rw [List.length_append, dosC_len D, List.length_cons]; simp; omega
theorem dosC_at : ∀ {D : List Dx} {i : Nat} {x : Dx}, D[i]? = some x → (dosC D)[i * 3]? = some (.int .i64 x.op) ∧ (dosC D)[i * 3 + 1]? = some (.int .i64 x.pid) ∧ (dosC D)[i * 3 + 2]? = some (.string x.nm)
  | [], _, _, h => by simp at h
  | y :: D, 0, x, h => by
    obtain rfl : y = x := by simpa using h
    exact ⟨rfl, rfl, rfl⟩
  | y :: D, i + 1, x, h => by
    obtain ⟨h1, h2, h3⟩ := dosC_at (D := D) (i := i) (x := x) (by simpa using h)
    have e : dosC (y :: D) = [Value.int .i64 y.op, .int .i64 y.pid, .string y.nm] ++ dosC D := rfl
    rw [e]
    refine ⟨?_, ?_, ?_⟩
    · rw [List.getElem?_append_right (by simp; omega), ← h1]; congr 1; simp; omega
    · rw [List.getElem?_append_right (by simp; omega), ← h2]; congr 1; simp; omega
    · rw [List.getElem?_append_right (by simp; omega), ← h3]; congr 1; simp; omega
theorem dos_at {w : World} {A : Option Addr} {n c : Nat} {D : List Dx} (h : Slab w 33 3 A n c (dosC D)) (hok : DOk D) : DosAt w A n D := by
  have hl : D.length = n := by have := h.1; rw [dosC_len] at this; omega
  refine ⟨hl, fun i x hx => ?_⟩
  have hin := (List.getElem?_eq_some_iff.1 hx).1
  obtain ⟨⟨g, o, sp⟩, hA, hs, _, _, hc⟩ := h.reads.2 (by omega)
  simp only at hs
  subst hs
  obtain ⟨h1, h2⟩ := hok x (List.mem_of_getElem? hx)
  obtain ⟨e0, e1, e2⟩ := dosC_at hx
  exact ⟨h1, h2, g, o, hA, (hc _ _ e0).1, (hc _ _ e1).1, (hc _ _ e2).1⟩
end Go.Proofs.YthoaaihghgabcaaGreat
