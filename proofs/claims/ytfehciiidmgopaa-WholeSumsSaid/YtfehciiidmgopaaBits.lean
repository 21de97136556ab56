/- Rows of bits in memory; cut, at, below. -/
import Derived.Test.YtfehciiidmgopaaBitLaw
import Derived.Test.YtfehciiidmgopaaBoth
namespace Go.Proofs.Ytfehciiidmgopaa
open Go.RowKit

def bools (l : List Bool) : List Value := l.map Value.bool
theorem bools_len (l : List Bool) : (bools l).length = l.length := List.length_map _
theorem bools_get {l : List Bool} {i : Nat} (h : i < l.length) : (bools l)[i]? = some (.bool (l.getD i false)) := by
  unfold bools; rw [List.getElem?_map, List.getD_eq_getElem?_getD, List.getElem?_eq_getElem h]; rfl
theorem bools_ones (l : List Bool) : ∀ u ∈ bools l, u.oneCell' = true := by
  intro u hu; obtain ⟨x, _, rfl⟩ := List.mem_map.1 hu; rfl
theorem bools_append (l m : List Bool) : bools (l ++ m) = bools l ++ bools m := List.map_append
theorem bools_take (l : List Bool) (n : Nat) : bools (l.take n) = (bools l).take n := List.map_take
theorem bools_set (l : List Bool) (i : Nat) (v : Bool) : bools (l.set i v) = (bools l).set i (.bool v) := by unfold bools; rw [List.map_set]
theorem bools_zeros (n : Nat) : bools (List.replicate n false) = List.replicate n (.bool false) := List.map_replicate

/-- A slice that reads as these bits. -/
structure BitsIn (w : World) (B : Nat → Prop) (A : Option Addr) (n c : Nat) (l : List Bool) : Prop where
  reads : ∃ F, Reads w B F 1 A n (bools l)
  cap : n ≤ c
  max : c ≤ maxLen
section
variable {w w' : World} {B B' fp : Nat → Prop} {A : Option Addr} {n c k : Nat} {l : List Bool}
theorem BitsIn.len (h : BitsIn w B A n c l) : l.length = n := by
  obtain ⟨F, hr⟩ := h.reads
  have := hr.1
  rw [bools_len] at this; omega
theorem BitsIn.keep (h : BitsIn w B A n c l) (hk : Keeps NoB w w') : BitsIn w' B A n c l := by
  obtain ⟨F, hr⟩ := h.reads
  exact ⟨⟨F, hr.keep hk (fun _ _ => id)⟩, h.cap, h.max⟩
theorem BitsIn.far (h : BitsIn w B A n c l) (hk : Keeps fp w w') (hf : ∀ k, B k → ¬ fp k) : BitsIn w' B A n c l := by
  obtain ⟨F, hr⟩ := h.reads
  exact ⟨⟨F, hr.keep hk hf⟩, h.cap, h.max⟩
theorem BitsIn.more (h : BitsIn w B A n c l) (hB : ∀ k, k < w.heap.size → B k → B' k) : BitsIn w B' A n c l := by
  obtain ⟨F, hr⟩ := h.reads
  exact ⟨⟨F, hr.more hB⟩, h.cap, h.max⟩
theorem BitsIn.at (h : BitsIn w B A n c l) (hn : 0 < n) : ∃ b o, A = some ⟨b, o, none⟩ ∧ b < w.heap.size ∧ ∀ i, i < n → w.cell? ⟨b, o + i, none⟩ = some (.bool (l.getD i false)) := by
  have hl := h.len
  obtain ⟨F, hr⟩ := h.reads
  obtain ⟨⟨b, o, sp⟩, hA, hs, _, hb, hc⟩ := hr.2 hn
  simp only at hs
  subst hs
  exact ⟨b, o, hA, hb, fun i hi => (hc i _ (bools_get (by omega))).1⟩
theorem BitsIn.upto (h : BitsIn w B A n c l) (hk : k ≤ n) : BitsIn w B A k c (l.take k) := by
  obtain ⟨F, hr⟩ := h.reads
  exact ⟨⟨F, by rw [bools_take]; exact hr.upto hk⟩, Nat.le_trans hk h.cap, h.max⟩
end
theorem BitsIn.nil (w : World) (B : Nat → Prop) (A : Option Addr) (c : Nat) (hc : c ≤ maxLen) : BitsIn w B A 0 c [] := ⟨⟨false, Reads.zero _ _ _ _ _⟩, Nat.zero_le _, hc⟩
theorem BitsIn.of_slab {w : World} {e : TypeId} {A : Option Addr} {n c : Nat} {l : List Bool} (h : Slab w e 1 A n c (bools l)) : BitsIn w (rowB A) A n c l := ⟨⟨_, h.reads⟩, h.2.1, h.2.2.1⟩

def intN : Value → Nat
  | .int _ n => n.toNat
  | _ => 0
set_option maxRecDepth 100000 in
theorem cutb_any (A : Option Addr) (n c : Nat) (l : List Bool) (w : World) (B : Nat → Prop) (h : BitsIn w B A n c l) (hn : n ≤ 1000000) :
    Calls Try.prog 59 #[.slice A n c] w fun e w' => ∃ m, e = .returned (.slice A m c) ∧ m = lenB (natB l) ∧ BitsIn w' B A m c (digB (natB l)) ∧ Keeps NoB w w' := by
  have hl := h.len
  have hcap := h.cap
  have hcm := h.max
  have HL := hide h
  unfold maxLen at hcm
  clear h
  go_enter Try.func59, Try.ntmps59
  go_wp2
  go_loop [3] (fun s => ∃ m : Nat, s = .int .i64 (m : Int) ∧ m ≤ n ∧ Hid (∀ j, m ≤ j → j < l.length → l.getD j false = false)) (fun s => intN s)
  case atStart => exact ⟨n, rfl, Nat.le_refl _, hide (fun j h1 h2 => by omega)⟩
  case round =>
    obtain ⟨m, rfl, hm, hz⟩ := hrel
    rcases m with _ | k
    · obtain ⟨e1, e2⟩ := cut_dig (l := l) (k := 0) (Nat.zero_le _) hz.out (.inl rfl)
      have HE := hide (And.intro e2 (e1 ▸ HL.out.upto (Nat.zero_le n)))
      clear e1 e2
      go_wp2
      go_ret
      exact ⟨0, rfl, HE.out.1, HE.out.2, Keeps.refl _ _⟩
    · obtain ⟨b, o, rfl, hb, hc⟩ := HL.out.at (by omega)
      have q := hc k (by omega)
      have hk0 : (0 : Int) ≤ (k : Int) := by omega
      have hk1 : (k : Int) < (n : Int) := by omega
      have hk2 : ((k + 1 : Nat) : Int) - 1 = (k : Int) := by omega
      have hk3 : k < n := by omega
      have hd : decide ((0 : Int) < ((k + 1 : Nat) : Int)) = true := decide_eq_true (by omega)
      cases hx : l.getD k false with
      | false =>
        rw [hx] at q
        have HX := hide hx
        clear hc hx
        go_wp2
        go_round
        case rel => exact ⟨k, congrArg (Value.int .i64) (by omega), by omega, hide (fun j h1 h2 => by
          by_cases e : j = k
          · subst e; exact HX.out
          · exact hz.out j (by omega) h2)⟩
        case measure => simp [intN]
      | true =>
        rw [hx] at q
        obtain ⟨e1, e2⟩ := cut_dig (l := l) (k := k + 1) (by omega) hz.out (.inr hx)
        have HE := hide (And.intro e2 (e1 ▸ HL.out.upto hm))
        clear hc hx e1 e2
        obtain ⟨m, hmm⟩ : ∃ m, k + 1 = m := ⟨_, rfl⟩
        rw [hmm] at HE hm hd hk2 hz ⊢
        have hm0 : (0 : Int) ≤ (m : Int) := by omega
        have hm1 : (m : Int) ≤ (c : Int) := by omega
        clear hmm
        go_wp2
        go_ret
        exact ⟨m, rfl, HE.out.1, HE.out.2, Keeps.refl _ _⟩
set_option maxRecDepth 100000 in
theorem bit_any (A : Option Addr) (n c i : Nat) (l : List Bool) (w : World) (B : Nat → Prop) (h : BitsIn w B A n c l) (hi : i ≤ 1000000) (hn : n ≤ 1000000) :
    Calls Try.prog 60 #[.slice A n c, .int .i64 (i : Int)] w fun e w' => e = .returned (.bool (l.getD i false)) ∧ Keeps NoB w w' := by
  have hl := h.len
  by_cases hlt : i < n
  · obtain ⟨b, o, rfl, hb, hc⟩ := h.at (by omega)
    have q := hc i hlt
    have h0 : (0 : Int) ≤ (i : Int) := by omega
    have h1 : (i : Int) < (n : Int) := by omega
    clear hc h
    generalize l.getD i false = x at *
    go_enter Try.func60, Try.ntmps60
    go_wp2
    go_ret
    exact ⟨rfl, Keeps.refl _ _⟩
  · have e : l.getD i false = false := by rw [List.getD_eq_getElem?_getD, List.getElem?_eq_none (by omega)]; rfl
    rw [e]
    have h1 : ¬ (i : Int) < (n : Int) := by omega
    have h2 : decide ((i : Int) < (n : Int)) = false := decide_eq_false h1
    have h3 : decide (i < n) = false := decide_eq_false hlt
    clear h h1 hlt
    go_enter Try.func60, Try.ntmps60
    go_wp2
    go_ret
    exact ⟨rfl, Keeps.refl _ _⟩
/-- A bit of a number's row. -/
theorem dig_bit (a i : Nat) : (digB a).getD i false = a.testBit i := by rw [← natB_test, natB_dig]
end Go.Proofs.Ytfehciiidmgopaa
