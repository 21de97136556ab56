/- sum, less: those of amounts. -/
import Derived.Test.YtfehciiidmgopaaSame
namespace Go.Proofs.Ytfehciiidmgopaa
open Go.RowKit

theorem not32 (x : Nat) : Nat.testBit (4294967295 ^^^ x) 31 = !Nat.testBit x 31 := by
  rw [Nat.testBit_xor, show Nat.testBit 4294967295 31 = true from by decide]; simp
theorem top32 {x : Nat} (h : x < 4294967296) : x / 2147483648 = (Nat.testBit x 31).toNat := by
  rw [Nat.toNat_testBit]
  have : x / 2147483648 < 2 := Nat.div_lt_of_lt_mul (by omega)
  omega
theorem or32 {a b : Nat} (ha : a < 4294967296) (hb : b < 4294967296) : a ||| b < 4294967296 := Nat.or_lt_two_pow (n := 32) ha hb
theorem and32 {a b : Nat} (hb : b < 4294967296) : a &&& b < 4294967296 := Nat.and_lt_two_pow (n := 32) a hb
theorem xor32 {a b : Nat} (ha : a < 4294967296) (hb : b < 4294967296) : a ^^^ b < 4294967296 := Nat.xor_lt_two_pow (n := 32) ha hb
theorem borrow32 {x y b d c : Nat} (hx : x < 4294967296) (hy : y < 4294967296) (hd : d < 4294967296) (hb : b ≤ 1) (hc : c ≤ 1) (h : d + y + b = x + 4294967296 * c) :
    (((4294967295 ^^^ x) &&& y) ||| ((4294967295 ^^^ (x ^^^ y)) &&& d)) / 2147483648 = c := by
  rw [top32 (or32 (and32 hy) (and32 hd)), Nat.testBit_or, Nat.testBit_and, Nat.testBit_and, not32, not32, Nat.testBit_xor]
  have tx := top32 hx
  have ty := top32 hy
  have td := top32 hd
  cases h1 : Nat.testBit x 31 <;> cases h2 : Nat.testBit y 31 <;> cases h3 : Nat.testBit d 31 <;> rw [h1] at tx <;> rw [h2] at ty <;> rw [h3] at td <;> simp at tx ty td ⊢ <;> omega

/-- A sum's step, a difference's step. -/
def SumR (x y c s c' : Nat) : Prop := x + y + c = s + B32 * c'
def LessR (x y c s c' : Nat) : Prop := s + y + c = x + B32 * c'
/-- What a step is told. -/
def StepP (R : Nat → Nat → Nat → Nat → Nat → Prop) (w : World) (x y c : Nat) (e : Ending) (w' : World) : Prop := ∃ s c' : Nat, e = .returned (.tuple #[.int .u32 (s : Int), .int .u32 (c' : Int)]) ∧ s < B32 ∧ c' ≤ 1 ∧ R x y c s c' ∧ Keeps NoB w w'

set_option maxRecDepth 100000 in
theorem add32_any (x y c : Nat) (hx : x < B32) (hy : y < B32) (hc : c ≤ 1) (w : World) : Calls Try.prog 65 #[.int .u32 (x : Int), .int .u32 (y : Int), .int .u32 (c : Int)] w (StepP SumR w x y c) := by
  unfold B32 at hx hy
  go_enter Try.func65, Try.ntmps65
  go_wp2
  go_ret2
  have e1 : ((x : Int) + (y : Int) + (c : Int)) % 4294967296 = (((x + y + c) % B32 : Nat) : Int) := by unfold B32; omega
  have e2 : ((x : Int) + (y : Int) + (c : Int)) / 4294967296 = (((x + y + c) / B32 : Nat) : Int) := by unfold B32; omega
  refine ⟨(x + y + c) % B32, (x + y + c) / B32, ?_, Nat.mod_lt _ (by decide), by unfold B32; omega, (Nat.mod_add_div _ _).symm, Keeps.refl _ _⟩
  show Ending.returned (.tuple #[.int .u32 (((x : Int) + (y : Int) + (c : Int)) % 4294967296), .int .u32 (((x : Int) + (y : Int) + (c : Int)) / 4294967296)]) = _
  rw [e1, e2]
set_option maxRecDepth 100000 in
theorem sub32_any (x y c : Nat) (hx : x < B32) (hy : y < B32) (hc : c ≤ 1) (w : World) : Calls Try.prog 64 #[.int .u32 (x : Int), .int .u32 (y : Int), .int .u32 (c : Int)] w (StepP LessR w x y c) := by
  unfold B32 at hx hy
  obtain ⟨d, c', hd, hd2, hc', hdc⟩ : ∃ d c' : Nat, ((x : Int) - (y : Int) - (c : Int)) % 4294967296 = (d : Int) ∧ d < 4294967296 ∧ c' ≤ 1 ∧ d + y + c = x + 4294967296 * c' := by
    by_cases h : x < y + c
    · exact ⟨x + 4294967296 - y - c, 1, by omega, by omega, Nat.le_refl _, by omega⟩
    · exact ⟨x - y - c, 0, by omega, by omega, by omega, by omega⟩
  have HB := hide (borrow32 hx hy hd2 hc hc' hdc)
  have HD := hide (And.intro hd (And.intro hd2 (And.intro hc' hdc)))
  have hs : IntKind.u32.signed = false := rfl
  clear hd hd2 hc' hdc
  go_enter Try.func64, Try.ntmps64
  go_wp2
  go_ret2
  refine ⟨d, c', ?_, HD.out.2.1, HD.out.2.2.1, HD.out.2.2.2, Keeps.refl _ _⟩
  show Ending.returned (.tuple #[.int .u32 ((((x : Int) - (y : Int)) % 4294967296 - (c : Int)) % 4294967296), .int .u32 (bits .or .u32 (bits .and .u32 (bits .xor .u32 IntKind.u32.max (x : Int)) (y : Int)) (bits .and .u32 (bits .xor .u32 IntKind.u32.max (bits .xor .u32 (x : Int) (y : Int))) (((x : Int) - (y : Int) - (c : Int)) % 4294967296)) / 2147483648)]) = _
  have hm : IntKind.u32.max = ((4294967295 : Nat) : Int) := rfl
  rw [show (((x : Int) - (y : Int)) % 4294967296 - (c : Int)) % 4294967296 = ((x : Int) - (y : Int) - (c : Int)) % 4294967296 from by omega, HD.out.1, hm, u32_xor_nat 4294967295 x (by decide) hx, u32_xor_nat x y hx hy, u32_xor_nat 4294967295 _ (by decide) (xor32 hx hy), u32_and_nat _ y (xor32 (by decide) hx) hy, u32_and_nat _ d (xor32 (by decide) (xor32 hx hy)) HD.out.2.1, u32_or_nat _ _ (and32 hy) (and32 HD.out.2.1)]
  have := HB.out
  rw [show ∀ n : Nat, ((n : Int) / 2147483648) = ((n / 2147483648 : Nat) : Int) from fun n => rfl, this]
set_option maxRecDepth 100000 in
theorem sumC_any (x y c : Nat) (hx : x < B32) (hy : y < B32) (hc : c ≤ 1) (w : World) : Calls Try.prog 68 #[.int .u32 (x : Int), .int .u32 (y : Int), .int .u32 (c : Int)] w (StepP SumR w x y c) := by
  have H := hide (add32_any x y c hx hy hc w)
  go_enter Try.func68, Try.ntmps68
  go_wp2_with (go_at_call 65; refine H.out.mono ?_; rintro e w' ⟨s, c', rfl, h1, h2, h3, hk⟩)
  go_ret2
  exact ⟨s, c', rfl, h1, h2, h3, hk⟩
set_option maxRecDepth 100000 in
theorem lessC_any (x y c : Nat) (hx : x < B32) (hy : y < B32) (hc : c ≤ 1) (w : World) : Calls Try.prog 69 #[.int .u32 (x : Int), .int .u32 (y : Int), .int .u32 (c : Int)] w (StepP LessR w x y c) := by
  have H := hide (sub32_any x y c hx hy hc w)
  go_enter Try.func69, Try.ntmps69
  go_wp2_with (go_at_call 64; refine H.out.mono ?_; rintro e w' ⟨s, c', rfl, h1, h2, h3, hk⟩)
  go_ret2
  exact ⟨s, c', rfl, h1, h2, h3, hk⟩
set_option maxRecDepth 100000 in
theorem limb_any (A : Option Addr) (n c i : Nat) (l : List Nat) (w : World) (B : Nat → Prop) (h : LimbsIn w B A n c l) (hi : i ≤ 1000) :
    Calls Try.prog 74 #[.slice A n c, .int .i64 (i : Int)] w fun e w' => e = .returned (.int .u32 ((l.getD i 0 : Nat) : Int)) ∧ Keeps NoB w w' := by
  have hl := h.len
  have hm := Nat.le_trans h.cap h.max
  unfold maxLen at hm
  by_cases hlt : i < n
  · obtain ⟨b, o, rfl, hb, hc⟩ := h.at (by omega)
    have q := hc i hlt
    have h0 : (0 : Int) ≤ (i : Int) := by omega
    have h1 : (i : Int) < (n : Int) := by omega
    clear hc h
    generalize l.getD i 0 = x at *
    go_enter Try.func74, Try.ntmps74
    go_wp2
    go_ret
    exact ⟨rfl, Keeps.refl _ _⟩
  · have e : l.getD i 0 = 0 := by rw [List.getD_eq_getElem?_getD, List.getElem?_eq_none (by omega)]; rfl
    rw [e]
    have h1 : ¬ (i : Int) < (n : Int) := by omega
    have h2 : decide ((i : Int) < (n : Int)) = false := decide_eq_false h1
    have h3 : decide (i < n) = false := decide_eq_false hlt
    clear h h1 hlt
    go_enter Try.func74, Try.ntmps74
    go_wp2
    go_ret
    exact ⟨rfl, Keeps.refl _ _⟩
end Go.Proofs.Ytfehciiidmgopaa
