/- The place of one that waits: find, and slices.IndexFunc. -/
import Derived.Test.YtaiphjgklfioeaaSmall
namespace Go.Proofs.Ytaiphjgklfioeaa
open Go.RowKit

/-- One that waits, as two cells. -/
abbrev prc (x : Wt) : List Value := [.int .i64 x.1, .int .i64 x.2]
abbrev prs (L : List Wt) : List Value := (L.map prc).flatten
theorem prs_two (L : List Wt) : ∀ c ∈ L.map prc, c.length = 2 := by
  intro c hc
  obtain ⟨x, _, rfl⟩ := List.mem_map.1 hc
  rfl
theorem prs_len (L : List Wt) : (prs L).length = L.length * 2 := by
  rw [flat_len (k := 2) (prs_two L), List.length_map]
theorem prs_at {L : List Wt} {k : Nat} {x : Wt} (h : L[k]? = some x) : (prs L)[k * 2]? = some (.int .i64 x.1) ∧ (prs L)[k * 2 + 1]? = some (.int .i64 x.2) := by
  obtain ⟨hk, he⟩ := List.getElem?_eq_some_iff.1 h
  have g := fun j hj => flat_get (k := 2) (css := L.map prc) (prs_two L) k (by simpa using hk) j hj
  have g0 := g 0 (by omega); have g1 := g 1 (by omega)
  simp only [List.getElem_map, he] at g0 g1
  exact ⟨by simpa using g0, by simpa using g1⟩
theorem prs_ones {L : List Wt} : ∀ u ∈ prs L, u.oneCell' = true := by
  intro u hu
  obtain ⟨c, hc, h⟩ := List.mem_flatten.1 hu
  obtain ⟨x, _, rfl⟩ := List.mem_map.1 hc
  simp only [prc, List.mem_cons, List.not_mem_nil, or_false] at h
  rcases h with rfl | rfl <;> rfl
theorem prs_append (L M : List Wt) : prs (L ++ M) = prs L ++ prs M := by simp [prs]
theorem prs_drop (L : List Wt) (i : Nat) : (prs L).drop (i * 2) = prs (L.drop i) := by
  unfold prs; rw [← flat_drop (prs_two L), List.map_drop]
theorem prs_take (L : List Wt) (i : Nat) : (prs L).take (i * 2) = prs (L.take i) := by
  unfold prs; rw [← flat_take (prs_two L), List.map_take]

theorem find1_any (t p pid : Int) (B : Nat) (w : World) (hB : B < w.heap.size) (h : w.cell? ⟨B, 0, none⟩ = some (.int .i64 pid)) :
    Calls Try.prog 36 #[.agg #[.int .i64 t, .int .i64 p], .pointer (some ⟨B, 0, none⟩)] w fun e w' => e = .returned (.bool (p == pid)) ∧ w.alloc (.cells #[.int .i64 t, .int .i64 p] 53) = w' := by
  go_enter Try.func36, Try.ntmps36
  go_wp2
  go_ret
  exact ⟨rfl, rfl⟩

def IdxInv (w : World) (L : List Wt) (pid : Int) (k : Nat) (wr : World) : Prop := Keeps NoB w wr ∧ ∀ j (h : j < L.length), j < k → (L[j]).2 ≠ pid
def IdxPost (w : World) (L : List Wt) (pid : Int) (e : Ending) (w' : World) : Prop := Keeps NoB w w' ∧ ((findPid pid L < L.length ∧ e = .returned (.int .i64 (findPid pid L))) ∨ (findPid pid L = L.length ∧ e = .returned (.int .i64 (-1))))

set_option maxRecDepth 100000 in
theorem index_any (A : Option Addr) (n c : Nat) (L : List Wt) (pid : Int) (B : Nat) (w : World) (BB : Nat → Prop) (F : Bool) (hr : Reads w BB F 2 A n (prs L)) (hn : n ≤ 9223372036854775807) (h : w.cell? ⟨B, 0, none⟩ = some (.int .i64 pid)) :
    Calls Try.prog 35 #[.slice A n c, .func (.func 36) #[] #[.pointer (some ⟨B, 0, none⟩)]] w (IdxPost w L pid) := by
  have hB := World.block_lt_of_cell? w _ h
  have hl : L.length = n := by have := hr.1; rw [prs_len] at this; omega
  have HR := hide hr; have HC := hide h; have HB := hide hB
  clear hr h hB
  go_enter Try.func35, Try.ntmps35
  go_wp2
  go_loopw [5, 8] (fun _ i wr => ∃ k : Nat, k ≤ n ∧ i = .int .i64 k ∧ IdxInv w L pid k wr) (fun _ i _ => n - (intOf i).toNat)
  case atStart => exact ⟨0, Nat.zero_le _, rfl, Keeps.refl _ _, fun j _ h => by omega⟩
  case round =>
    obtain ⟨k, hk, rfl, hinv⟩ := hrel
    have HI := hide hinv; clear hinv
    by_cases hlt : k < n
    · obtain ⟨⟨g, o, sp⟩, hA, hs, _, _, hc⟩ := (HR.out.keep HI.out.1 (fun _ _ => id)).2 (by omega)
      simp only at hs
      subst hs hA
      obtain ⟨x, hx⟩ : ∃ x, L[k]? = some x := ⟨_, List.getElem?_eq_getElem (by omega)⟩
      obtain ⟨e0, e1⟩ := prs_at hx
      obtain ⟨t, p⟩ := x
      have c0 : wr.cell? ⟨g, o + k * 2, none⟩ = some (.int .i64 t) := (hc _ _ e0).1
      have c1 : wr.cell? ⟨g, o + k * 2 + 1, none⟩ = some (.int .i64 p) := (hc _ _ e1).1
      have HX := hide hx
      have hz : (k : Int) < n := by omega
      have hz0 : (0 : Int) ≤ k := by omega
      clear hc e0 e1 hx
      have hf := find1_any t p pid B wr (Nat.lt_of_lt_of_le HB.out HI.out.1.size) (HI.out.1.cell (p := ⟨B, 0, none⟩) id HC.out)
      have HL := hide hl
      clear hl
      by_cases hp : p = pid
      · have hb : (p == pid) = true := by simp [hp]
        rw [hb] at hf
        have HP := hide hp
        clear hp hb
        go_wp2_with (go_at_call 36; refine hf.mono ?_; rintro e w' ⟨rfl, rfl⟩)
        go_ret
        have hkl : k < L.length := by rw [HL.out]; exact hlt
        have e : findPid pid L = k := findPid_eq hkl (by rw [← HP.out]; obtain ⟨_, h⟩ := List.getElem?_eq_some_iff.1 HX.out; rw [h]) HI.out.2
        exact ⟨HI.out.1.alloc _, .inl ⟨by omega, by rw [e]; rfl⟩⟩
      · have hb : (p == pid) = false := by simp [hp]
        rw [hb] at hf
        have HP := hide hp
        clear hp hb
        go_wp2_with (go_at_call 36; refine hf.mono ?_; rintro e w' ⟨rfl, rfl⟩)
        go_roundw
        case rel => exact ⟨k + 1, by omega, by go_num, HI.out.1.alloc _, fun j hj hjk => by
          by_cases e : j = k
          · subst e; obtain ⟨_, h⟩ := List.getElem?_eq_some_iff.1 HX.out; rw [h]; exact HP.out
          · exact HI.out.2 j hj (by omega)⟩
        case measure => simp [intOf]; omega
    · have : k = n := by omega
      subst this
      have HL := hide hl
      clear hl
      go_wp2
      go_ret
      have hno : pid ∉ pidsOf L := findPid_none (fun j hj => HI.out.2 j hj (by rw [HL.out] at hj; exact hj))
      have : findPid pid L = L.length := by
        have h1 : ¬ findPid pid L < L.length := fun e => hno (findPid_mem.2 e)
        have h2 := findPid_le (pid := pid) (L := L)
        omega
      exact ⟨HI.out.1, .inr ⟨this, rfl⟩⟩
end Go.Proofs.Ytaiphjgklfioeaa
