/- sum, less: those of amounts. both: two rows of limbs, gone through with a carry; sum and less. Add, Sub: sum and difference of two integers. -/
import Derived.Test.YthbbalkhmofndaaGreatDoorTextJn
namespace Go.Proofs.YthbbalkhmofndaaGreatDoor
set_option maxRecDepth 100000
open Go.RowKit

theorem not32 (x : Nat) : Nat.testBit (4294967295 ^^^ x) 31 = !Nat.testBit x 31 := by
  rw [Nat.testBit_xor, show Nat.testBit 4294967295 31 = true from by decide]; simp
theorem top32 {x : Nat} (h : x < 4294967296) : x / 2147483648 = (Nat.testBit x 31).toNat := by
  rw [Nat.toNat_testBit]
  have : x / 2147483648 < 2 := Nat.div_lt_of_lt_mul (by omega)
  omega
theorem or32 {a b : Nat} (ha : a < 4294967296) (hb : b < 4294967296) : a ||| b < 4294967296 := Nat.or_lt_two_pow (n := 32) ha hb
theorem and32 {a b : Nat} (hb : b < 4294967296) : a &&& b < 4294967296 := Nat.and_lt_two_pow (n := 32) a hb
theorem xor32 {a b : Nat} (ha : a < 4294967296) (hb : b < 4294967296) : a ^^^ b < 4294967296 := Nat.xor_lt_two_pow (n := 32) ha hb
theorem borrow32 {x y b d c : Nat} (hx : x < 4294967296) (hy : y < 4294967296) (hd : d < 4294967296) (hb : b ≤ 1) (hc : c ≤ 1) (h : d + y + b = x + 4294967296 * c) :
    (((4294967295 ^^^ x) &&& y) ||| ((4294967295 ^^^ (x ^^^ y)) &&& d)) / 2147483648 = c := by
  rw [top32 (or32 (and32 hy) (and32 hd)), Nat.testBit_or, Nat.testBit_and, Nat.testBit_and, not32, not32, Nat.testBit_xor]
  have tx := top32 hx
  have ty := top32 hy
  have td := top32 hd
  cases h1 : Nat.testBit x 31 <;> cases h2 : Nat.testBit y 31 <;> cases h3 : Nat.testBit d 31 <;> rw [h1] at tx <;> rw [h2] at ty <;> rw [h3] at td <;> simp at tx ty td ⊢ <;> omega

/-- A sum's step, a difference's step. -/
def SumR (x y c s c' : Nat) : Prop := x + y + c = s + B32 * c'
def LessR (x y c s c' : Nat) : Prop := s + y + c = x + B32 * c'
/-- What a step is told. -/
def StepP (R : Nat → Nat → Nat → Nat → Nat → Prop) (w : World) (x y c : Nat) (e : Ending) (w' : World) : Prop := ∃ s c' : Nat, e = .returned (.tuple #[.int .u32 (s : Int), .int .u32 (c' : Int)]) ∧ s < B32 ∧ c' ≤ 1 ∧ R x y c s c' ∧ Keeps NoB w w'

set_option maxRecDepth 100000 in
theorem add32_any (x y c : Nat) (hx : x < B32) (hy : y < B32) (hc : c ≤ 1) (w : World) : Calls Tryz.prog 110 #[.int .u32 (x : Int), .int .u32 (y : Int), .int .u32 (c : Int)] w (StepP SumR w x y c) := by
  unfold B32 at hx hy
  go_enter Tryz.func110, Tryz.ntmps110
  go_wp2
  go_ret2
  have e1 : ((x : Int) + (y : Int) + (c : Int)) % 4294967296 = (((x + y + c) % B32 : Nat) : Int) := by unfold B32; omega
  have e2 : ((x : Int) + (y : Int) + (c : Int)) / 4294967296 = (((x + y + c) / B32 : Nat) : Int) := by unfold B32; omega
  refine ⟨(x + y + c) % B32, (x + y + c) / B32, ?_, Nat.mod_lt _ (by decide), by unfold B32; omega, (Nat.mod_add_div _ _).symm, Keeps.refl _ _⟩
  show Ending.returned (.tuple #[.int .u32 (((x : Int) + (y : Int) + (c : Int)) % 4294967296), .int .u32 (((x : Int) + (y : Int) + (c : Int)) / 4294967296)]) = _
  rw [e1, e2]
set_option maxRecDepth 100000 in
theorem sub32_any (x y c : Nat) (hx : x < B32) (hy : y < B32) (hc : c ≤ 1) (w : World) : Calls Tryz.prog 112 #[.int .u32 (x : Int), .int .u32 (y : Int), .int .u32 (c : Int)] w (StepP LessR w x y c) := by
  unfold B32 at hx hy
  obtain ⟨d, c', hd, hd2, hc', hdc⟩ : ∃ d c' : Nat, ((x : Int) - (y : Int) - (c : Int)) % 4294967296 = (d : Int) ∧ d < 4294967296 ∧ c' ≤ 1 ∧ d + y + c = x + 4294967296 * c' := by
    by_cases h : x < y + c
    · exact ⟨x + 4294967296 - y - c, 1, by omega, by omega, Nat.le_refl _, by omega⟩
    · exact ⟨x - y - c, 0, by omega, by omega, by omega, by omega⟩
  have HB := hide (borrow32 hx hy hd2 hc hc' hdc)
  have HD := hide (And.intro hd (And.intro hd2 (And.intro hc' hdc)))
  have hs : IntKind.u32.signed = false := rfl
  clear hd hd2 hc' hdc
  go_enter Tryz.func112, Tryz.ntmps112
  go_wp2
  go_ret2
  refine ⟨d, c', ?_, HD.out.2.1, HD.out.2.2.1, HD.out.2.2.2, Keeps.refl _ _⟩
  show Ending.returned (.tuple #[.int .u32 ((((x : Int) - (y : Int)) % 4294967296 - (c : Int)) % 4294967296), .int .u32 (bits .or .u32 (bits .and .u32 (bits .xor .u32 IntKind.u32.max (x : Int)) (y : Int)) (bits .and .u32 (bits .xor .u32 IntKind.u32.max (bits .xor .u32 (x : Int) (y : Int))) (((x : Int) - (y : Int) - (c : Int)) % 4294967296)) / 2147483648)]) = _
  have hm : IntKind.u32.max = ((4294967295 : Nat) : Int) := rfl
  rw [show (((x : Int) - (y : Int)) % 4294967296 - (c : Int)) % 4294967296 = ((x : Int) - (y : Int) - (c : Int)) % 4294967296 from by omega, HD.out.1, hm, u32_xor_nat 4294967295 x (by decide) hx, u32_xor_nat x y hx hy, u32_xor_nat 4294967295 _ (by decide) (xor32 hx hy), u32_and_nat _ y (xor32 (by decide) hx) hy, u32_and_nat _ d (xor32 (by decide) (xor32 hx hy)) HD.out.2.1, u32_or_nat _ _ (and32 hy) (and32 HD.out.2.1)]
  have := HB.out
  rw [show ∀ n : Nat, ((n : Int) / 2147483648) = ((n / 2147483648 : Nat) : Int) from fun n => rfl, this]
set_option maxRecDepth 100000 in
theorem sumC_any (x y c : Nat) (hx : x < B32) (hy : y < B32) (hc : c ≤ 1) (w : World) : Calls Tryz.prog 109 #[.int .u32 (x : Int), .int .u32 (y : Int), .int .u32 (c : Int)] w (StepP SumR w x y c) := by
  have H := hide (add32_any x y c hx hy hc w)
  go_enter Tryz.func109, Tryz.ntmps109
  go_wp2_with (go_at_call 110; refine H.out.mono ?_; rintro e w' ⟨s, c', rfl, h1, h2, h3, hk⟩)
  go_ret2
  exact ⟨s, c', rfl, h1, h2, h3, hk⟩
set_option maxRecDepth 100000 in
theorem lessC_any (x y c : Nat) (hx : x < B32) (hy : y < B32) (hc : c ≤ 1) (w : World) : Calls Tryz.prog 111 #[.int .u32 (x : Int), .int .u32 (y : Int), .int .u32 (c : Int)] w (StepP LessR w x y c) := by
  have H := hide (sub32_any x y c hx hy hc w)
  go_enter Tryz.func111, Tryz.ntmps111
  go_wp2_with (go_at_call 112; refine H.out.mono ?_; rintro e w' ⟨s, c', rfl, h1, h2, h3, hk⟩)
  go_ret2
  exact ⟨s, c', rfl, h1, h2, h3, hk⟩
set_option maxRecDepth 100000 in
theorem limb_any (A : Option Addr) (n c i : Nat) (l : List Nat) (w : World) (B : Nat → Prop) (h : LimbsIn w B A n c l) (hi : i ≤ 1000) :
    Calls Tryz.prog 129 #[.slice A n c, .int .i64 (i : Int)] w fun e w' => e = .returned (.int .u32 ((l.getD i 0 : Nat) : Int)) ∧ Keeps NoB w w' := by
  have hl := h.len
  have hm := Nat.le_trans h.cap h.max
  unfold maxLen at hm
  by_cases hlt : i < n
  · obtain ⟨b, o, rfl, hb, hc⟩ := h.at (by omega)
    have q := hc i hlt
    have h0 : (0 : Int) ≤ (i : Int) := by omega
    have h1 : (i : Int) < (n : Int) := by omega
    clear hc h
    generalize l.getD i 0 = x at *
    go_enter Tryz.func129, Tryz.ntmps129
    go_wp2
    go_ret
    exact ⟨rfl, Keeps.refl _ _⟩
  · have e : l.getD i 0 = 0 := by rw [List.getD_eq_getElem?_getD, List.getElem?_eq_none (by omega)]; rfl
    rw [e]
    have h1 : ¬ (i : Int) < (n : Int) := by omega
    have h2 : decide ((i : Int) < (n : Int)) = false := decide_eq_false h1
    have h3 : decide (i < n) = false := decide_eq_false hlt
    clear h h1 hlt
    go_enter Tryz.func129, Tryz.ntmps129
    go_wp2
    go_ret
    exact ⟨rfl, Keeps.refl _ _⟩
end Go.Proofs.YthbbalkhmofndaaGreatDoor
namespace Go.Proofs.YthbbalkhmofndaaGreatDoor
set_option maxRecDepth 100000
open Go.RowKit


theorem made_row (m : Nat) : madeCells (Value.int .u32 0).cells (m * 1) = (u32s (List.replicate m 0)).toArray := by
  apply Array.toList_inj.1
  rw [show (Value.int .u32 0).cells = #[Value.int .u32 0] from rfl, Nat.mul_one, toList_madeCells_one, u32s_zeros]
theorem wpList_make_row {P : Program} (w : World) {ops : Array Oper} {rest : List Oper} {o : Oper} {a : Act} {Q : Exit → Act → World → Prop}
    (hg : o.guard = none) (l c : Operand) (t : TypeId) (hop : o.op = Op.makeSlice t l c)
    (i : TypeInfo) (h1 : P.underlying t = some (.slice 44)) (h2 : P.info? 44 = some i) (h3 : i.zero = some (.int .u32 0)) (h4 : i.size = 1) (h5 : i.bytes = 4)
    (L C : Int) (n m : Nat) (hl : a.eval l = .int .i64 L) (hc : a.eval c = .int .i64 C) (hL : L = n) (hC : C = m) (hnm : n ≤ m) (hm : m ≤ 1000)
    (hK : ∀ w', RowAt w' w.heap.size (List.replicate m 0) → Keeps NoB w w' → wpList P ops Q rest (a.put o.dst (.slice (some ⟨w.heap.size, 0, none⟩) n m)) w') :
    wpList P ops Q (o :: rest) a w := by
  refine wpList_plain hg fun K hK' => ?_
  have hrun := run_make (P := P) w t 44 i (.int .u32 0) h1 h2 h3 .i64 .i64 n m (by omega) (by omega) (by rw [h5]; omega) (by omega)
  simp only [Int.toNat_natCast] at hrun
  rw [h4, made_row] at hrun
  subst hL hC
  have hr : RowAt (w.alloc (.cells (u32s (List.replicate m 0)).toArray 44)) w.heap.size (List.replicate m 0) := Blk.new w 44 _
  unfold Oper.wp
  simp [execOp, hop, hl, hc, hrun, Result.andThen]
  exact hK' _ _ (hK _ hr ((Keeps.refl NoB w).alloc _))

def SumT (i a b p c : Nat) : Prop := a + b = p + B32 ^ i * c
def LessT (i a b p c : Nat) : Prop := p + b = a + B32 ^ i * c
structure BothAt (T : Nat → Nat → Nat → Nat → Nat → Prop) (w1 : World) (O N : Nat) (la lb : List Nat) (i c : Nat) (wr : World) (os : List Nat) : Prop where
  keep : Keeps (fun k => k = O) w1 wr
  row : RowAt wr O os
  len : os.length = N + 1
  low : Low os
  carry : c ≤ 1
  val : T i (pre la i) (pre lb i) (pre os i) c
theorem BothAt.step {T R : Nat → Nat → Nat → Nat → Nat → Prop} (hT : ∀ i a b p c x y s c', T i a b p c → R x y c s c' → T (i + 1) (a + B32 ^ i * x) (b + B32 ^ i * y) (p + B32 ^ i * s) c')
    {w1 wr w' : World} {O N i c s c' : Nat} {la lb os : List Nat} (h : BothAt T w1 O N la lb i c wr os) (hi : i < N) (hR : R (la.getD i 0) (lb.getD i 0) c s c') (hs : s < B32) (hc : c' ≤ 1)
    (hr : RowAt w' O (os.set i s)) (hk : Keeps (fun k => k = O) w1 w') : BothAt T w1 O N la lb (i + 1) c' w' (os.set i s) := by
  refine ⟨hk, hr, by rw [List.length_set]; exact h.len, h.low.set _ _ hs, hc, ?_⟩
  rw [pre, pre, pre_put _ _ (by rw [h.len]; omega)]
  exact hT _ _ _ _ _ _ _ _ _ h.val hR
theorem sumT_step : ∀ i a b p c x y s c', SumT i a b p c → SumR x y c s c' → SumT (i + 1) (a + B32 ^ i * x) (b + B32 ^ i * y) (p + B32 ^ i * s) c' := fun _ _ _ _ _ _ _ _ _ h hs => add_step h hs
theorem lessT_step : ∀ i a b p c x y s c', LessT i a b p c → LessR x y c s c' → LessT (i + 1) (a + B32 ^ i * x) (b + B32 ^ i * y) (p + B32 ^ i * s) c' := fun _ _ _ _ _ _ _ _ _ h hs => sub_step h hs

/-- What both tells. -/
def BothP (T : Nat → Nat → Nat → Nat → Nat → Prop) (w : World) (N a b : Nat) (e : Ending) (w' : World) : Prop := ∃ A n c l os cy, e = .returned (.slice A n c) ∧ LimbsIn w' (fun k => w.heap.size ≤ k) A n c l ∧ n = N + 1 ∧ nat l = nat os + B32 ^ N * cy ∧ os.length = N ∧ Low os ∧ T N a b (nat os) cy ∧ Keeps NoB w w'

set_option maxHeartbeats 2000000 in
set_option maxRecDepth 100000 in
theorem sum_both (A A' : Option Addr) (n c n' c' N : Nat) (la lb : List Nat) (w : World) (B B' : Nat → Prop) (h : LimbsIn w B A n c la) (h' : LimbsIn w B' A' n' c' lb) (hN : N = max n n') (hN2 : N ≤ 40) :
    Calls Tryz.prog 108 #[.slice A n c, .slice A' n' c', .func (.func 109) #[] #[]] w (BothP SumT w N (nat la) (nat lb)) := by
  have hl := h.len; have hl' := h'.len
  have HA := hide (h.more (B' := fun k => k < w.heap.size) (fun k h _ => h)); have HA' := hide (h'.more (B' := fun k => k < w.heap.size) (fun k h _ => h))
  clear h h'
  obtain ⟨i0, hi0, hz0, hz1, hz2⟩ := info_parts Tryz.info44
  have hmax : (if (n : Int) < (n' : Int) then (n' : Int) else (n : Int)) = (N : Int) := by split <;> omega
  have hmax2 : (if n < n' then (n' : Int) else (n : Int)) = (N : Int) := by split <;> omega
  have HN := hide hN
  clear hN
  go_enter Tryz.func108, Tryz.ntmps108
  go_wp2_with (at_make; refine wpList_make_row _ rfl _ _ 23 rfl i0 Tryz.underlying23 hi0 hz0 hz1 hz2 _ _ N (N + 1) rfl rfl (by omega) (by omega) (by omega) (by omega) ?_)
  intro w1 hro hk1
  obtain ⟨O, hO⟩ : ∃ O, w.heap.size = O := ⟨_, rfl⟩
  rw [hO] at hro ⊢
  have HA1 := hide (HA.out.keep hk1); have HA1' := hide (HA'.out.keep hk1)
  have HK1 := hide hk1
  have HF := hide (show ∀ k, k < w.heap.size → ¬ k = O by omega)
  have HO := hide hO
  have H0 := hide (⟨Keeps.refl _ _, hro, by simp, Low.zeros _, Nat.zero_le _, by show _ = _; simp [pre]⟩ : BothAt SumT w1 O N la lb 0 0 w1 (List.replicate (N + 1) 0))
  clear hk1 hro hO HA HA' hmax hmax2
  go_wp2
  go_loopw [9, 22] (fun cv iv wr => ∃ (i cy : Nat) (os : List Nat), cv = .int .u32 (cy : Int) ∧ iv = .int .i64 (i : Int) ∧ i ≤ N ∧ Hid (BothAt SumT w1 O N la lb i cy wr os)) (fun _ iv _ => N - (intOf iv).toNat)
  case atStart => exact ⟨0, 0, _, rfl, rfl, Nat.zero_le _, H0⟩
  case round =>
    obtain ⟨i, cy, os, rfl, rfl, hi, HM⟩ := hrel
    have hlen := HM.out.len
    have hcy := HM.out.carry
    by_cases hlt : i < N
    · have hi0 : (0 : Int) ≤ (i : Int) := by omega
      have hi1 : (i : Int) < (N : Int) := by omega
      have HL1 := hide (limb_any A n c i la wr _ (HA1.out.far HM.out.keep HF.out) (by omega))
      have HL2 := hide (fun w2 (hk : Keeps NoB wr w2) => limb_any A' n' c' i lb w2 _ ((HA1'.out.far HM.out.keep HF.out).keep hk) (by omega))
      have HC := hide (fun w2 => sumC_any (la.getD i 0) (lb.getD i 0) cy (HA1.out.low.get i) (HA1'.out.low.get i) hcy w2)
      have HST := hide (fun s c' w' (hR : SumR (la.getD i 0) (lb.getD i 0) cy s c') hs hc hr hk => HM.out.step (w' := w') sumT_step hlt hR hs hc hr hk)
      have HR := hide HM.out.row; have HKP := hide HM.out.keep
      obtain ⟨X, hX⟩ : ∃ X, la.getD i 0 = X := ⟨_, rfl⟩
      obtain ⟨Y, hY⟩ : ∃ Y, lb.getD i 0 = Y := ⟨_, rfl⟩
      rw [hX] at HL1 HC HST
      rw [hY] at HL2 HC HST
      clear HM hX hY
      have M1 := hide True.intro
      go_wp2_with first | (clear M1; go_at_call 129; refine HL1.out.mono ?_; rintro e w2 ⟨rfl, hk2⟩; have HK2 := hide hk2; clear hk2) | (go_at_call 129; refine (HL2.out w2 HK2.out).mono ?_; rintro e w3 ⟨rfl, hk3⟩; have HK3 := hide (HK2.out.trans' hk3 (fun _ _ h => h) (fun _ _ h => h)); clear hk3 HK2) | (go_at_call 109; refine (HC.out w3).mono ?_; rintro e w4 ⟨s, c2, rfl, hs, hc2, hR, hk4⟩; have hk5 := HK3.out.trans' hk4 (fun _ _ h => h) (fun _ _ h => h.elim); have HR4 := hide (HR.out.keep hk5 id); have HKP4 := hide (HKP.out.trans' hk5 (fun _ _ h => h) (fun _ _ h => h.elim)); have HS := hide (And.intro hR (And.intro hs hc2)); have r1 : w4.cell? ⟨O, i, none⟩ = some (.int .u32 ((os.getD i 0 : Nat) : Int)) := HR4.out.cell (by omega); have r2 : w4.frozen? ⟨O, i, none⟩ = false := HR4.out.free i; clear hs hc2 hR hk4 hk5 HK3 HR HKP; generalize os.getD i 0 = old at *) | fail
      go_roundw
      case rel => exact ⟨i + 1, c2, os.set i s, rfl, rfl, by omega, hide (HST.out s c2 _ HS.out.1 HS.out.2.1 HS.out.2.2 (HR4.out.put i rfl) (HKP4.out.setCell (p := ⟨O, i, none⟩) (.inl rfl) _))⟩
      case measure => simp [intOf]; omega
    · obtain rfl : i = N := by omega
      have hn1 : n ≤ i := by have := HN.out; omega
      have hn2 : n' ≤ i := by have := HN.out; omega
      have hsl : Slab wr 44 1 (some ⟨O, 0, none⟩) i (i + 1) (u32s (os.take i)) := Slab.mk' (by rw [u32s_len, List.length_take]; omega) (by omega) (by unfold maxLen; omega) HM.out.row (by simp [u32s_len, hlen]) (fun j hj => by rw [Nat.zero_add, List.getElem?_toArray, u32s_take, List.getElem?_take_of_lt (by omega)])
      have hv := HM.out.val
      rw [pre_ge la i (by omega), pre_ge lb i (by omega)] at hv
      have HV := hide (show SumT i (nat la) (nat lb) (nat (os.take i)) cy from by rw [nat_take os (by omega)]; exact hv)
      have HLT := hide (show (os.take i).length = i from by rw [List.length_take]; omega)
      have HLW := hide (HM.out.low.take i)
      generalize os.take i = ts at *
      have HS4 := hide (hsl.fresh ((Keeps.refl NoB wr).alloc (.cells #[.int .u32 (cy : Int)] 44)))
      have HR4 := hide (one_reads (Blk.new wr 44 #[.int .u32 (cy : Int)]))
      have HK4 := hide ((HK1.out.trans' HM.out.keep (fun _ _ h => h) (fun k h1 h2 => by have := HO.out; omega) : Keeps NoB w wr).alloc (.cells #[.int .u32 (cy : Int)] 44))
      have hnw : ∀ k, rowB (some ⟨O, 0, none⟩) k → w.heap.size ≤ k := fun k ⟨o, e⟩ => by injection e with e; injection e with e; have := HO.out; omega
      have HNW := hide hnw
      clear hsl hv HM hn1 hn2 hnw
      go_wp2_with (at_builtin; refine wpList_append_slab _ rfl (.tmp 43) (.tmp 45) 23 rfl 44 i0 _ 1 4 Tryz.underlying23 hi0 hz0 hz1 hz2 rfl (by omega) (some ⟨O, 0, none⟩) i (i + 1) (u32s ts) rfl HS4.out (fun _ => True) true (some ⟨wr.heap.size, 0, none⟩) 1 1 [.int .u32 (cy : Int)] rfl HR4.out (Nat.zero_lt_one) (fun u hu => by simp at hu; subst hu; rfl) (by unfold maxLen; omega) (by omega) ?_)
      intro A5 c5 w5 h1 h2 h3
      have hk5 : Keeps NoB w w5 := HK4.out.trans' h2 (fun _ _ h => h) (fun k hk hr => absurd (HNW.out k hr) (Nat.not_le.2 hk))
      have hl5 : LimbsIn w5 (fun k => w.heap.size ≤ k) A5 (i + 1) c5 (ts ++ [cy]) := (LimbsIn.of_slab (l := ts ++ [cy]) (by rw [u32s_append]; exact h1) (HLW.out.append (fun x hx => by simp at hx; subst hx; unfold B32; omega))).more (fun k _ hr => by
        rcases h3 k hr with h | h
        · exact HNW.out k h
        · exact Nat.le_trans HK4.out.size h)
      have HK5 := hide hk5; have HL5 := hide hl5
      clear h1 h2 h3 hk5 hl5
      go_wp2
      go_ret
      exact ⟨A5, i + 1, c5, ts ++ [cy], ts, cy, rfl, HL5.out, rfl, by rw [nat_append, HLT.out]; simp [nat], HLT.out, HLW.out, HV.out, HK5.out⟩
set_option maxHeartbeats 2000000 in
set_option maxRecDepth 100000 in
theorem less_both (A A' : Option Addr) (n c n' c' N : Nat) (la lb : List Nat) (w : World) (B B' : Nat → Prop) (h : LimbsIn w B A n c la) (h' : LimbsIn w B' A' n' c' lb) (hN : N = max n n') (hN2 : N ≤ 40) :
    Calls Tryz.prog 108 #[.slice A n c, .slice A' n' c', .func (.func 111) #[] #[]] w (BothP LessT w N (nat la) (nat lb)) := by
  have hl := h.len; have hl' := h'.len
  have HA := hide (h.more (B' := fun k => k < w.heap.size) (fun k h _ => h)); have HA' := hide (h'.more (B' := fun k => k < w.heap.size) (fun k h _ => h))
  clear h h'
  obtain ⟨i0, hi0, hz0, hz1, hz2⟩ := info_parts Tryz.info44
  have hmax : (if (n : Int) < (n' : Int) then (n' : Int) else (n : Int)) = (N : Int) := by split <;> omega
  have hmax2 : (if n < n' then (n' : Int) else (n : Int)) = (N : Int) := by split <;> omega
  have HN := hide hN
  clear hN
  go_enter Tryz.func108, Tryz.ntmps108
  go_wp2_with (at_make; refine wpList_make_row _ rfl _ _ 23 rfl i0 Tryz.underlying23 hi0 hz0 hz1 hz2 _ _ N (N + 1) rfl rfl (by omega) (by omega) (by omega) (by omega) ?_)
  intro w1 hro hk1
  obtain ⟨O, hO⟩ : ∃ O, w.heap.size = O := ⟨_, rfl⟩
  rw [hO] at hro ⊢
  have HA1 := hide (HA.out.keep hk1); have HA1' := hide (HA'.out.keep hk1)
  have HK1 := hide hk1
  have HF := hide (show ∀ k, k < w.heap.size → ¬ k = O by omega)
  have HO := hide hO
  have H0 := hide (⟨Keeps.refl _ _, hro, by simp, Low.zeros _, Nat.zero_le _, by show _ = _; simp [pre]⟩ : BothAt LessT w1 O N la lb 0 0 w1 (List.replicate (N + 1) 0))
  clear hk1 hro hO HA HA' hmax hmax2
  go_wp2
  go_loopw [9, 22] (fun cv iv wr => ∃ (i cy : Nat) (os : List Nat), cv = .int .u32 (cy : Int) ∧ iv = .int .i64 (i : Int) ∧ i ≤ N ∧ Hid (BothAt LessT w1 O N la lb i cy wr os)) (fun _ iv _ => N - (intOf iv).toNat)
  case atStart => exact ⟨0, 0, _, rfl, rfl, Nat.zero_le _, H0⟩
  case round =>
    obtain ⟨i, cy, os, rfl, rfl, hi, HM⟩ := hrel
    have hlen := HM.out.len
    have hcy := HM.out.carry
    by_cases hlt : i < N
    · have hi0 : (0 : Int) ≤ (i : Int) := by omega
      have hi1 : (i : Int) < (N : Int) := by omega
      have HL1 := hide (limb_any A n c i la wr _ (HA1.out.far HM.out.keep HF.out) (by omega))
      have HL2 := hide (fun w2 (hk : Keeps NoB wr w2) => limb_any A' n' c' i lb w2 _ ((HA1'.out.far HM.out.keep HF.out).keep hk) (by omega))
      have HC := hide (fun w2 => lessC_any (la.getD i 0) (lb.getD i 0) cy (HA1.out.low.get i) (HA1'.out.low.get i) hcy w2)
      have HST := hide (fun s c' w' (hR : LessR (la.getD i 0) (lb.getD i 0) cy s c') hs hc hr hk => HM.out.step (w' := w') lessT_step hlt hR hs hc hr hk)
      have HR := hide HM.out.row; have HKP := hide HM.out.keep
      obtain ⟨X, hX⟩ : ∃ X, la.getD i 0 = X := ⟨_, rfl⟩
      obtain ⟨Y, hY⟩ : ∃ Y, lb.getD i 0 = Y := ⟨_, rfl⟩
      rw [hX] at HL1 HC HST
      rw [hY] at HL2 HC HST
      clear HM hX hY
      have M1 := hide True.intro
      go_wp2_with first | (clear M1; go_at_call 129; refine HL1.out.mono ?_; rintro e w2 ⟨rfl, hk2⟩; have HK2 := hide hk2; clear hk2) | (go_at_call 129; refine (HL2.out w2 HK2.out).mono ?_; rintro e w3 ⟨rfl, hk3⟩; have HK3 := hide (HK2.out.trans' hk3 (fun _ _ h => h) (fun _ _ h => h)); clear hk3 HK2) | (go_at_call 111; refine (HC.out w3).mono ?_; rintro e w4 ⟨s, c2, rfl, hs, hc2, hR, hk4⟩; have hk5 := HK3.out.trans' hk4 (fun _ _ h => h) (fun _ _ h => h.elim); have HR4 := hide (HR.out.keep hk5 id); have HKP4 := hide (HKP.out.trans' hk5 (fun _ _ h => h) (fun _ _ h => h.elim)); have HS := hide (And.intro hR (And.intro hs hc2)); have r1 : w4.cell? ⟨O, i, none⟩ = some (.int .u32 ((os.getD i 0 : Nat) : Int)) := HR4.out.cell (by omega); have r2 : w4.frozen? ⟨O, i, none⟩ = false := HR4.out.free i; clear hs hc2 hR hk4 hk5 HK3 HR HKP; generalize os.getD i 0 = old at *) | fail
      go_roundw
      case rel => exact ⟨i + 1, c2, os.set i s, rfl, rfl, by omega, hide (HST.out s c2 _ HS.out.1 HS.out.2.1 HS.out.2.2 (HR4.out.put i rfl) (HKP4.out.setCell (p := ⟨O, i, none⟩) (.inl rfl) _))⟩
      case measure => simp [intOf]; omega
    · obtain rfl : i = N := by omega
      have hn1 : n ≤ i := by have := HN.out; omega
      have hn2 : n' ≤ i := by have := HN.out; omega
      have hsl : Slab wr 44 1 (some ⟨O, 0, none⟩) i (i + 1) (u32s (os.take i)) := Slab.mk' (by rw [u32s_len, List.length_take]; omega) (by omega) (by unfold maxLen; omega) HM.out.row (by simp [u32s_len, hlen]) (fun j hj => by rw [Nat.zero_add, List.getElem?_toArray, u32s_take, List.getElem?_take_of_lt (by omega)])
      have hv := HM.out.val
      rw [pre_ge la i (by omega), pre_ge lb i (by omega)] at hv
      have HV := hide (show LessT i (nat la) (nat lb) (nat (os.take i)) cy from by rw [nat_take os (by omega)]; exact hv)
      have HLT := hide (show (os.take i).length = i from by rw [List.length_take]; omega)
      have HLW := hide (HM.out.low.take i)
      generalize os.take i = ts at *
      have HS4 := hide (hsl.fresh ((Keeps.refl NoB wr).alloc (.cells #[.int .u32 (cy : Int)] 44)))
      have HR4 := hide (one_reads (Blk.new wr 44 #[.int .u32 (cy : Int)]))
      have HK4 := hide ((HK1.out.trans' HM.out.keep (fun _ _ h => h) (fun k h1 h2 => by have := HO.out; omega) : Keeps NoB w wr).alloc (.cells #[.int .u32 (cy : Int)] 44))
      have hnw : ∀ k, rowB (some ⟨O, 0, none⟩) k → w.heap.size ≤ k := fun k ⟨o, e⟩ => by injection e with e; injection e with e; have := HO.out; omega
      have HNW := hide hnw
      clear hsl hv HM hn1 hn2 hnw
      go_wp2_with (at_builtin; refine wpList_append_slab _ rfl (.tmp 43) (.tmp 45) 23 rfl 44 i0 _ 1 4 Tryz.underlying23 hi0 hz0 hz1 hz2 rfl (by omega) (some ⟨O, 0, none⟩) i (i + 1) (u32s ts) rfl HS4.out (fun _ => True) true (some ⟨wr.heap.size, 0, none⟩) 1 1 [.int .u32 (cy : Int)] rfl HR4.out (Nat.zero_lt_one) (fun u hu => by simp at hu; subst hu; rfl) (by unfold maxLen; omega) (by omega) ?_)
      intro A5 c5 w5 h1 h2 h3
      have hk5 : Keeps NoB w w5 := HK4.out.trans' h2 (fun _ _ h => h) (fun k hk hr => absurd (HNW.out k hr) (Nat.not_le.2 hk))
      have hl5 : LimbsIn w5 (fun k => w.heap.size ≤ k) A5 (i + 1) c5 (ts ++ [cy]) := (LimbsIn.of_slab (l := ts ++ [cy]) (by rw [u32s_append]; exact h1) (HLW.out.append (fun x hx => by simp at hx; subst hx; unfold B32; omega))).more (fun k _ hr => by
        rcases h3 k hr with h | h
        · exact HNW.out k h
        · exact Nat.le_trans HK4.out.size h)
      have HK5 := hide hk5; have HL5 := hide hl5
      clear h1 h2 h3 hk5 hl5
      go_wp2
      go_ret
      exact ⟨A5, i + 1, c5, ts ++ [cy], ts, cy, rfl, HL5.out, rfl, by rw [nat_append, HLT.out]; simp [nat], HLT.out, HLW.out, HV.out, HK5.out⟩
end Go.Proofs.YthbbalkhmofndaaGreatDoor
namespace Go.Proofs.YthbbalkhmofndaaGreatDoor
set_option maxRecDepth 100000
open Go.RowKit


/-- An amount is told. -/
def AmtP (w : World) (N : Nat) (e : Ending) (w' : World) : Prop := ∃ A n c l, e = .returned (.slice A n c) ∧ LimbsIn w' (fun k => w.heap.size ≤ k) A n c l ∧ nat l = N ∧ Keeps NoB w w'
set_option maxRecDepth 100000 in
theorem sum_any (A A' : Option Addr) (n c n' c' : Nat) (la lb : List Nat) (w : World) (B B' : Nat → Prop) (h : LimbsIn w B A n c la) (h' : LimbsIn w B' A' n' c' lb) (hn : n ≤ 32) (hn' : n' ≤ 32) :
    Calls Tryz.prog 92 #[.slice A n c, .slice A' n' c'] w (AmtP w (nat la + nat lb)) := by
  have H := hide (sum_both A A' n c n' c' (max n n') la lb w B B' h h' rfl (by omega))
  clear h h'
  go_enter Tryz.func92, Tryz.ntmps92
  go_wp2_with (go_at_call 108; refine H.out.mono ?_; rintro e w' ⟨A5, n5, c5, l, os, cy, rfl, hl, hn5, hv, hlen, hlow, hT, hk⟩; have HL := hide hl; have HV := hide (And.intro hv hT); have HK := hide hk; clear hl hv hlen hlow hT hk hn5)
  go_ret
  exact ⟨A5, n5, c5, l, rfl, HL.out, HV.out.1.trans HV.out.2.symm, HK.out⟩
set_option maxRecDepth 100000 in
theorem less_any (A A' : Option Addr) (n c n' c' : Nat) (la lb : List Nat) (w : World) (B B' : Nat → Prop) (h : LimbsIn w B A n c la) (h' : LimbsIn w B' A' n' c' lb) (hn : n ≤ 32) (hn' : n' ≤ 32) (hle : nat lb ≤ nat la) :
    Calls Tryz.prog 93 #[.slice A n c, .slice A' n' c'] w (AmtP w (nat la - nat lb)) := by
  have H := hide (less_both A A' n c n' c' (max n n') la lb w B B' h h' rfl (by omega))
  have HLE := hide hle
  clear h h' hle
  go_enter Tryz.func93, Tryz.ntmps93
  go_wp2_with (go_at_call 108; refine H.out.mono ?_; rintro e w' ⟨A5, n5, c5, l, os, cy, rfl, hl, hn5, hv, hlen, hlow, hT, hk⟩; have HL := hide hl; have hse := sub_end hT (hlen ▸ nat_lt hlow) HLE.out; have HV := hide (And.intro hv hse); have HK := hide hk; clear hl hv hlen hlow hT hk hn5 hse)
  go_ret
  exact ⟨A5, n5, c5, l, rfl, HL.out, by have h1 := HV.out.1; have h2 := HV.out.2; rw [h2.1] at h1; omega, HK.out⟩

theorem add_same {ng ng' : Bool} {x y : Int} (h1 : ng = decide (x < 0)) (h2 : ng' = decide (y < 0)) (h : ng = ng') : sgn ng (x.natAbs + y.natAbs) = x + y := by
  unfold sgn
  cases ng with
  | true =>
    have e1 := of_decide_eq_true h1.symm
    have e2 := of_decide_eq_true (h.trans h2).symm
    rw [if_pos rfl]; omega
  | false =>
    have e1 := of_decide_eq_false h1.symm
    have e2 := of_decide_eq_false (h.trans h2).symm
    rw [if_neg (by decide)]; omega
theorem add_less {ng ng' : Bool} {x y : Int} (h1 : ng = decide (x < 0)) (h2 : ng' = decide (y < 0)) (h : ¬ ng = ng') (hl : y.natAbs ≤ x.natAbs) : sgn ng (x.natAbs - y.natAbs) = x + y := by
  unfold sgn
  cases ng with
  | true =>
    have e1 := of_decide_eq_true h1.symm
    have e2 : ¬ y < 0 := fun e => h (by rw [h2, decide_eq_true e])
    rw [if_pos rfl]; omega
  | false =>
    have e1 := of_decide_eq_false h1.symm
    have e2 : y < 0 := by
      cases ng' with
      | true => exact of_decide_eq_true h2.symm
      | false => exact absurd rfl h
    rw [if_neg (by decide)]; omega

set_option maxHeartbeats 4000000 in
set_option maxRecDepth 100000 in
theorem add_like (ng ng' : Bool) (A A' ia ta ia' ta' : Option Addr) (n c n' c' ic tc ic' tc' : Nat) (x y : Int) (w : World) (B B' : Nat → Prop) (h : IA w B ng A n c x) (h' : IA w B' ng' A' n' c' y) (hg : ng = ng') :
    Calls Tryz.prog 75 #[.agg #[.int .u8 1, .bool ng, .slice A n c, .string { data := #[] }, .int .i64 0, .slice ia 0 ic, .slice ta 0 tc], .agg #[.int .u8 1, .bool ng', .slice A' n' c', .string { data := #[] }, .int .i64 0, .slice ia' 0 ic', .slice ta' 0 tc']] w (AnyP w (x + y)) := by
  have hn := h.len; have hn' := h'.len
  have hsg := h.sign; have hsg' := h'.sign
  have HI := hide h; have HI' := hide h'
  have HN := hide (And.intro (nat_dig x.natAbs) (nat_dig y.natAbs))
  clear h h'
  have HZS := hide (add_same hsg hsg' hg)
  have hb : (ng == ng') = true := by rw [hg]; simp
  clear hg
  clear hsg hsg'
  go_enter Tryz.func75, Tryz.ntmps75
  have HX0 := hide (((Blk.new w 26 #[.int .u8 1, .bool ng, .slice A n c, .string { data := #[] }, .int .i64 0, .slice ia 0 ic, .slice ta 0 tc]).alloc (.cells #[.int .u8 1, .bool ng', .slice A' n' c', .string { data := #[] }, .int .i64 0, .slice ia' 0 ic', .slice ta' 0 tc'] 26)).alloc (.cells #[.int .u8 0, .bool false, .slice none 0 0, .string { data := #[] }, .int .i64 0, .slice none 0 0, .slice none 0 0] 26))
  have HY0 := hide ((Blk.new2' w (.cells #[.int .u8 1, .bool ng, .slice A n c, .string { data := #[] }, .int .i64 0, .slice ia 0 ic, .slice ta 0 tc] 26) 26 #[.int .u8 1, .bool ng', .slice A' n' c', .string { data := #[] }, .int .i64 0, .slice ia' 0 ic', .slice ta' 0 tc']).alloc (.cells #[.int .u8 0, .bool false, .slice none 0 0, .string { data := #[] }, .int .i64 0, .slice none 0 0, .slice none 0 0] 26))
  have HZ0 := hide (Blk.new3' w (.cells #[.int .u8 1, .bool ng, .slice A n c, .string { data := #[] }, .int .i64 0, .slice ia 0 ic, .slice ta 0 tc] 26) (.cells #[.int .u8 1, .bool ng', .slice A' n' c', .string { data := #[] }, .int .i64 0, .slice ia' 0 ic', .slice ta' 0 tc'] 26) 26 #[.int .u8 0, .bool false, .slice none 0 0, .string { data := #[] }, .int .i64 0, .slice none 0 0, .slice none 0 0])
  have HK0 := hide ((((Keeps.refl NoB w).alloc (.cells #[.int .u8 1, .bool ng, .slice A n c, .string { data := #[] }, .int .i64 0, .slice ia 0 ic, .slice ta 0 tc] 26)).alloc (.cells #[.int .u8 1, .bool ng', .slice A' n' c', .string { data := #[] }, .int .i64 0, .slice ia' 0 ic', .slice ta' 0 tc'] 26)).alloc (.cells #[.int .u8 0, .bool false, .slice none 0 0, .string { data := #[] }, .int .i64 0, .slice none 0 0, .slice none 0 0] 26))
  have HR1 := hide True.intro
  go_wp2_with first | (clear HR1; go_at_call 11; refine ((HI.out.keep HK0.out).right _ _ _ _).mono ?_; rintro e w1 ⟨rfl, hk1⟩; have HK1 := hide (HK0.out.trans' hk1 (fun _ _ => id) (fun _ _ => id)); have HX1 := hide (HX0.out.keep hk1 id); have HY1 := hide (HY0.out.keep hk1 id); have HZ1 := hide (HZ0.out.keep hk1 id); clear hk1 HX0 HY0 HZ0 HK0; obtain ⟨y0, y1, y2, y3, y4, y5, y6⟩ := Blk.c7 (show Blk w1 (w.heap.size + 1) _ #[.int .u8 1, .bool ng', .slice A' n' c', .string { data := #[] }, .int .i64 0, .slice ia' 0 ic', .slice ta' 0 tc'] from HY1.out)) | (go_at_call 11; refine ((HI'.out.keep HK1.out).right _ _ _ _).mono ?_; rintro e w2 ⟨rfl, hk2⟩; have HK2 := hide (HK1.out.trans' hk2 (fun _ _ => id) (fun _ _ => id)); have HX2 := hide (HX1.out.keep hk2 id); have HY2 := hide (HY1.out.keep hk2 id); have HZ2 := hide (HZ1.out.keep hk2 id); clear hk2 HX1 HY1 HZ1 HK1 y0 y1 y2 y3 y4 y5 y6; have x1 : w2.cell? ⟨w.heap.size, 1, none⟩ = some (.bool ng) := HX2.out.cell 1; have y1 : w2.cell? ⟨w.heap.size + 1, 1, none⟩ = some (.bool ng') := HY2.out.cell 1; have x2 : w2.cell? ⟨w.heap.size, 2, none⟩ = some (.slice A n c) := HX2.out.cell 2; have y2 : w2.cell? ⟨w.heap.size + 1, 2, none⟩ = some (.slice A' n' c') := HY2.out.cell 2) | fail | fail
  refine order_begin (fun W => Keeps NoB w2.drew W) (fun k => k != 10) (by kernel_rfl) 12 rfl ?_
  have HX := hide (HX2.out.drew); have HY := hide (HY2.out.drew); have HZ := hide (HZ2.out.drew); have HK := hide (HK2.out.drew)
  clear HX2 HY2 HZ2 HK2 x1 y1 x2 y2
  generalize w2.drew = W0 at *
  have HS : Keeps NoB W0 W0 := Keeps.refl _ _
  refine order_pure (i := 0) rfl (by kernel_rfl) (fun _ _ _ h => h) (.inl ⟨rfl, fun _ => by go_simp; rfl⟩) ?_
  try simp only [Act.put, List.setIfInBounds_toArray, List.set_cons_succ, List.set_cons_zero]
  refine order_pure (i := 2) rfl (by kernel_rfl) (fun _ _ _ h => h) (.inl ⟨rfl, fun _ => by go_simp; rfl⟩) ?_
  try simp only [Act.put, List.setIfInBounds_toArray, List.set_cons_succ, List.set_cons_zero]
  refine order_pure (i := 5) rfl (by kernel_rfl) (fun _ _ _ h => h) (.inl ⟨rfl, fun _ => by go_simp; rfl⟩) ?_
  try simp only [Act.put, List.setIfInBounds_toArray, List.set_cons_succ, List.set_cons_zero]
  refine order_held (i := 1) rfl (by kernel_rfl) (fun _ _ _ h => h) (.inl ⟨rfl, fun W hW => by
    have q0 : W.cell? ⟨w.heap.size, 2, none⟩ = some (.slice A n c) := hW.cell id (HX.out.cell 2)
    go_simp; rfl⟩) HS ?_
  try simp only [Act.put, List.setIfInBounds_toArray, List.set_cons_succ, List.set_cons_zero]
  refine order_held (i := 3) rfl (by kernel_rfl) (fun _ _ _ h => h) (.inl ⟨rfl, fun W hW => by
    have q0 : W.cell? ⟨w.heap.size + 1, 2, none⟩ = some (.slice A' n' c') := hW.cell id (HY.out.cell 2)
    go_simp; rfl⟩) HS ?_
  try simp only [Act.put, List.setIfInBounds_toArray, List.set_cons_succ, List.set_cons_zero]
  refine order_held (i := 6) rfl (by kernel_rfl) (fun _ _ _ h => h) (.inl ⟨rfl, fun W hW => by
    have q0 : W.cell? ⟨w.heap.size, 1, none⟩ = some (.bool ng) := hW.cell id (HX.out.cell 1)
    go_simp; rfl⟩) HS ?_
  try simp only [Act.put, List.setIfInBounds_toArray, List.set_cons_succ, List.set_cons_zero]
  refine order_one (i := 4) rfl (by kernel_rfl) (fun K hK => ?_)
  go_simp
  refine (sum_any A A' n c n' c' _ _ W0 _ _ (HI.out.keep HK.out).limbs (HI'.out.keep HK.out).limbs hn hn').mono ?_
  rintro e w5 ⟨A5, n5, c5, l, rfl, hl5, hv5, hk5⟩
  refine hK _ _ (fun _ hS => hS.trans' hk5 (fun _ _ => id) (fun _ _ => id)) ?_
  clear hK
  try simp only [Act.put, List.setIfInBounds_toArray, List.set_cons_succ, List.set_cons_zero]
  rw [HN.out.1, HN.out.2] at hv5
  have HL5 := hide hl5; have HV5 := hide hv5
  have HZ5 := hide (HZ.out.keep hk5 id); have HK5 := hide (HK.out.trans' hk5 (fun _ _ h => h) (fun _ _ h => h))
  clear hl5 hv5 hk5 HX HY HZ HK
  refine order_one (i := 7) rfl (by kernel_rfl) (fun K hK => ?_)
  go_simp
  refine (made_any A5 n5 c5 ng l (x + y) w5 _ HL5.out (by rw [HV5.out]; exact HZS.out)).mono ?_
  rintro e w6 ⟨kd, ng, A, n, c, ok, rfl, hr, hk6⟩
  refine hK _ _ (fun _ hS => hS.trans' (Keeps.trans' (Keeps.refl NoB w5) hk6 (fun _ _ h => h) (fun _ _ h => h)) (fun _ _ => id) (fun _ _ => id)) ?_
  clear hK
  try simp only [Act.put, List.setIfInBounds_toArray, List.set_cons_succ, List.set_cons_zero]
  have HB6 := hide (HZ5.out.keep hk6 id)
  have HA6 := hide hr
  have HK6 := hide (HK5.out.trans' hk6 (fun _ _ h => h) (fun _ _ h => h))
  have hsz := HZ5.out.lt
  clear hr hk6 HZ5 HK5 HS
  refine order_pure (i := 8) rfl (by kernel_rfl) (fun _ _ _ h => h) (.inl ⟨rfl, fun _ => by go_simp; rfl⟩) ?_
  try simp only [Act.put, List.setIfInBounds_toArray, List.set_cons_succ, List.set_cons_zero]
  refine order_pure (i := 9) rfl (by kernel_rfl) (fun _ _ _ h => h) (.inl ⟨rfl, fun _ => by go_simp; rfl⟩) ?_
  try simp only [Act.put, List.setIfInBounds_toArray, List.set_cons_succ, List.set_cons_zero]
  obtain ⟨z0, z1, z2, z3, z4, z5, z6⟩ := Blk.c7 (show Blk w6 (w.heap.size + 1 + 1) _ #[.int .u8 0, .bool false, .slice none 0 0, .string { data := #[] }, .int .i64 0, .slice none 0 0, .slice none 0 0] from HB6.out)
  obtain ⟨f0, f1, f2, f3, f4, f5, f6⟩ := Blk.f7 (w := w6) (g := w.heap.size + 1 + 1) HB6.out
  refine order_one (i := 10) rfl (by kernel_rfl) (fun K hK => ?_)
  go_simp
  refine hK _ _ (fun h => by cases h) ?_
  clear hK
  try simp only [Act.put, List.setIfInBounds_toArray, List.set_cons_succ, List.set_cons_zero]
  refine order_pure (i := 11) rfl (by kernel_rfl) (fun _ _ _ h => h) (.inl ⟨rfl, fun _ => by go_simp; rfl⟩) ?_
  try simp only [Act.put, List.setIfInBounds_toArray, List.set_cons_succ, List.set_cons_zero]
  refine order_done (by kernel_rfl) ?_
  go_wp2
  have HBf := hide (HB6.out.put7 (.int .u8 kd) (.bool ng) (.slice A n c) (.string { data := #[] }) (.int .i64 0) (.slice none 0 0) (.slice none 0 0))
  have HKf := hide (HK6.out.set7 (g := w.heap.size + 1 + 1) (by omega) (.int .u8 kd) (.bool ng) (.slice A n c) (.string { data := #[] }) (.int .i64 0) (.slice none 0 0) (.slice none 0 0))
  have HAf := hide ((HA6.out.far (Keeps.set7' (g := w.heap.size + 1 + 1) (.int .u8 kd) (.bool ng) (.slice A n c) (.string { data := #[] }) (.int .i64 0) (.slice none 0 0) (.slice none 0 0)) (fun k hk e => by first | omega | (simp at hk; omega))).more (B' := fun k => w.heap.size ≤ k) (fun k _ hk => by first | omega | (simp at hk; omega)))
  clear z0 z1 z2 z3 z4 z5 z6 f0 f1 f2 f3 f4 f5 f6 HB6 HK6 HA6
  generalize (((((((w6.setCell ⟨w.heap.size + 1 + 1, 0, none⟩ (.int .u8 kd)).setCell ⟨w.heap.size + 1 + 1, 1, none⟩ (.bool ng)).setCell ⟨w.heap.size + 1 + 1, 2, none⟩ (.slice A n c)).setCell ⟨w.heap.size + 1 + 1, 3, none⟩ (.string { data := #[] })).setCell ⟨w.heap.size + 1 + 1, 4, none⟩ (.int .i64 0)).setCell ⟨w.heap.size + 1 + 1, 5, none⟩ (.slice none 0 0)).setCell ⟨w.heap.size + 1 + 1, 6, none⟩ (.slice none 0 0)) = wf at *
  have d0 : wf.cell? ⟨w.heap.size + 1 + 1, 0, none⟩ = some (.int .u8 kd) := HBf.out.cell 0
  have d1 : wf.cell? ⟨w.heap.size + 1 + 1, 1, none⟩ = some (.bool ng) := HBf.out.cell 1
  have d2 : wf.cell? ⟨w.heap.size + 1 + 1, 2, none⟩ = some (.slice A n c) := HBf.out.cell 2
  have d3 : wf.cell? ⟨w.heap.size + 1 + 1, 3, none⟩ = some (.string { data := #[] }) := HBf.out.cell 3
  have d4 : wf.cell? ⟨w.heap.size + 1 + 1, 4, none⟩ = some (.int .i64 0) := HBf.out.cell 4
  have d5 : wf.cell? ⟨w.heap.size + 1 + 1, 5, none⟩ = some (.slice none 0 0) := HBf.out.cell 5
  have d6 : wf.cell? ⟨w.heap.size + 1 + 1, 6, none⟩ = some (.slice none 0 0) := HBf.out.cell 6
  refine bodyPost_ret (v := .tuple #[.agg #[.int .u8 kd, .bool ng, .slice A n c, .string { data := #[] }, .int .i64 0, .slice none 0 0, .slice none 0 0], .bool ok]) (by simp [results, Tryz.results75, go_sem, d0, d1, d2, d3, d4, d5, d6]) rfl ?_
  exact ⟨kd, ng, A, n, c, ok, rfl, HAf.out, HKf.out⟩
set_option maxHeartbeats 4000000 in
set_option maxRecDepth 100000 in
theorem add_below (ng ng' : Bool) (A A' ia ta ia' ta' : Option Addr) (n c n' c' ic tc ic' tc' : Nat) (x y : Int) (w : World) (B B' : Nat → Prop) (h : IA w B ng A n c x) (h' : IA w B' ng' A' n' c' y) (hg : ¬ ng = ng') (hl : x.natAbs < y.natAbs) :
    Calls Tryz.prog 75 #[.agg #[.int .u8 1, .bool ng, .slice A n c, .string { data := #[] }, .int .i64 0, .slice ia 0 ic, .slice ta 0 tc], .agg #[.int .u8 1, .bool ng', .slice A' n' c', .string { data := #[] }, .int .i64 0, .slice ia' 0 ic', .slice ta' 0 tc']] w (AnyP w (x + y)) := by
  have hn := h.len; have hn' := h'.len
  have hsg := h.sign; have hsg' := h'.sign
  have HI := hide h; have HI' := hide h'
  have HN := hide (And.intro (nat_dig x.natAbs) (nat_dig y.natAbs))
  clear h h'
  have HZS := hide (show sgn ng' (y.natAbs - x.natAbs) = x + y from by rw [Int.add_comm]; exact add_less hsg' hsg (fun e => hg e.symm) (Nat.le_of_lt hl))
  have hb : (ng == ng') = false := by simp [hg]
  have HLT := hide hl
  clear hg hl
  clear hsg hsg'
  go_enter Tryz.func75, Tryz.ntmps75
  have HX0 := hide (((Blk.new w 26 #[.int .u8 1, .bool ng, .slice A n c, .string { data := #[] }, .int .i64 0, .slice ia 0 ic, .slice ta 0 tc]).alloc (.cells #[.int .u8 1, .bool ng', .slice A' n' c', .string { data := #[] }, .int .i64 0, .slice ia' 0 ic', .slice ta' 0 tc'] 26)).alloc (.cells #[.int .u8 0, .bool false, .slice none 0 0, .string { data := #[] }, .int .i64 0, .slice none 0 0, .slice none 0 0] 26))
  have HY0 := hide ((Blk.new2' w (.cells #[.int .u8 1, .bool ng, .slice A n c, .string { data := #[] }, .int .i64 0, .slice ia 0 ic, .slice ta 0 tc] 26) 26 #[.int .u8 1, .bool ng', .slice A' n' c', .string { data := #[] }, .int .i64 0, .slice ia' 0 ic', .slice ta' 0 tc']).alloc (.cells #[.int .u8 0, .bool false, .slice none 0 0, .string { data := #[] }, .int .i64 0, .slice none 0 0, .slice none 0 0] 26))
  have HZ0 := hide (Blk.new3' w (.cells #[.int .u8 1, .bool ng, .slice A n c, .string { data := #[] }, .int .i64 0, .slice ia 0 ic, .slice ta 0 tc] 26) (.cells #[.int .u8 1, .bool ng', .slice A' n' c', .string { data := #[] }, .int .i64 0, .slice ia' 0 ic', .slice ta' 0 tc'] 26) 26 #[.int .u8 0, .bool false, .slice none 0 0, .string { data := #[] }, .int .i64 0, .slice none 0 0, .slice none 0 0])
  have HK0 := hide ((((Keeps.refl NoB w).alloc (.cells #[.int .u8 1, .bool ng, .slice A n c, .string { data := #[] }, .int .i64 0, .slice ia 0 ic, .slice ta 0 tc] 26)).alloc (.cells #[.int .u8 1, .bool ng', .slice A' n' c', .string { data := #[] }, .int .i64 0, .slice ia' 0 ic', .slice ta' 0 tc'] 26)).alloc (.cells #[.int .u8 0, .bool false, .slice none 0 0, .string { data := #[] }, .int .i64 0, .slice none 0 0, .slice none 0 0] 26))
  have HR1 := hide True.intro
  go_wp2_with first | (clear HR1; go_at_call 11; refine ((HI.out.keep HK0.out).right _ _ _ _).mono ?_; rintro e w1 ⟨rfl, hk1⟩; have HK1 := hide (HK0.out.trans' hk1 (fun _ _ => id) (fun _ _ => id)); have HX1 := hide (HX0.out.keep hk1 id); have HY1 := hide (HY0.out.keep hk1 id); have HZ1 := hide (HZ0.out.keep hk1 id); clear hk1 HX0 HY0 HZ0 HK0; obtain ⟨y0, y1, y2, y3, y4, y5, y6⟩ := Blk.c7 (show Blk w1 (w.heap.size + 1) _ #[.int .u8 1, .bool ng', .slice A' n' c', .string { data := #[] }, .int .i64 0, .slice ia' 0 ic', .slice ta' 0 tc'] from HY1.out)) | (go_at_call 11; refine ((HI'.out.keep HK1.out).right _ _ _ _).mono ?_; rintro e w2 ⟨rfl, hk2⟩; have HK2 := hide (HK1.out.trans' hk2 (fun _ _ => id) (fun _ _ => id)); have HX2 := hide (HX1.out.keep hk2 id); have HY2 := hide (HY1.out.keep hk2 id); have HZ2 := hide (HZ1.out.keep hk2 id); clear hk2 HX1 HY1 HZ1 HK1 y0 y1 y2 y3 y4 y5 y6; have x1 : w2.cell? ⟨w.heap.size, 1, none⟩ = some (.bool ng) := HX2.out.cell 1; have y1 : w2.cell? ⟨w.heap.size + 1, 1, none⟩ = some (.bool ng') := HY2.out.cell 1; have x2 : w2.cell? ⟨w.heap.size, 2, none⟩ = some (.slice A n c) := HX2.out.cell 2; have y2 : w2.cell? ⟨w.heap.size + 1, 2, none⟩ = some (.slice A' n' c') := HY2.out.cell 2) | (go_at_call 71; refine (amounts_any _ _ _ _ _ _ _ _ _ _ _ ((HI.out.keep HK2.out).limbs) ((HI'.out.keep HK2.out).limbs)).mono ?_; rintro e w3 ⟨r, rfl, hr1, hr2, hr3, hr4, hk3⟩; have hr0 : decide (r < 0) = true := decide_eq_true (hr3.2 HLT.out); have HK3 := hide (HK2.out.trans' hk3 (fun _ _ => id) (fun _ _ => id)); have HX3 := hide (HX2.out.keep hk3 id); have HY3 := hide (HY2.out.keep hk3 id); have HZ3 := hide (HZ2.out.keep hk3 id); clear hr1 hr2 hr3 hr4 hk3 HX2 HY2 HZ2 HK2 x1 y1 x2 y2) | fail
  refine order_begin (fun W => Keeps NoB w3.drew W) (fun k => k != 10) (by kernel_rfl) 12 rfl ?_
  have HX := hide (HX3.out.drew); have HY := hide (HY3.out.drew); have HZ := hide (HZ3.out.drew); have HK := hide (HK3.out.drew)
  clear HX3 HY3 HZ3 HK3 hr0
  generalize w3.drew = W0 at *
  have HS : Keeps NoB W0 W0 := Keeps.refl _ _
  refine order_pure (i := 0) rfl (by kernel_rfl) (fun _ _ _ h => h) (.inl ⟨rfl, fun _ => by go_simp; rfl⟩) ?_
  try simp only [Act.put, List.setIfInBounds_toArray, List.set_cons_succ, List.set_cons_zero]
  refine order_pure (i := 2) rfl (by kernel_rfl) (fun _ _ _ h => h) (.inl ⟨rfl, fun _ => by go_simp; rfl⟩) ?_
  try simp only [Act.put, List.setIfInBounds_toArray, List.set_cons_succ, List.set_cons_zero]
  refine order_pure (i := 5) rfl (by kernel_rfl) (fun _ _ _ h => h) (.inl ⟨rfl, fun _ => by go_simp; rfl⟩) ?_
  try simp only [Act.put, List.setIfInBounds_toArray, List.set_cons_succ, List.set_cons_zero]
  refine order_held (i := 1) rfl (by kernel_rfl) (fun _ _ _ h => h) (.inl ⟨rfl, fun W hW => by
    have q0 : W.cell? ⟨w.heap.size + 1, 2, none⟩ = some (.slice A' n' c') := hW.cell id (HY.out.cell 2)
    go_simp; rfl⟩) HS ?_
  try simp only [Act.put, List.setIfInBounds_toArray, List.set_cons_succ, List.set_cons_zero]
  refine order_held (i := 3) rfl (by kernel_rfl) (fun _ _ _ h => h) (.inl ⟨rfl, fun W hW => by
    have q0 : W.cell? ⟨w.heap.size, 2, none⟩ = some (.slice A n c) := hW.cell id (HX.out.cell 2)
    go_simp; rfl⟩) HS ?_
  try simp only [Act.put, List.setIfInBounds_toArray, List.set_cons_succ, List.set_cons_zero]
  refine order_held (i := 6) rfl (by kernel_rfl) (fun _ _ _ h => h) (.inl ⟨rfl, fun W hW => by
    have q0 : W.cell? ⟨w.heap.size + 1, 1, none⟩ = some (.bool ng') := hW.cell id (HY.out.cell 1)
    go_simp; rfl⟩) HS ?_
  try simp only [Act.put, List.setIfInBounds_toArray, List.set_cons_succ, List.set_cons_zero]
  refine order_one (i := 4) rfl (by kernel_rfl) (fun K hK => ?_)
  go_simp
  refine (less_any A' A n' c' n c _ _ W0 _ _ (HI'.out.keep HK.out).limbs (HI.out.keep HK.out).limbs hn' hn (by rw [HN.out.1, HN.out.2]; exact Nat.le_of_lt HLT.out)).mono ?_
  rintro e w5 ⟨A5, n5, c5, l, rfl, hl5, hv5, hk5⟩
  refine hK _ _ (fun _ hS => hS.trans' hk5 (fun _ _ => id) (fun _ _ => id)) ?_
  clear hK
  try simp only [Act.put, List.setIfInBounds_toArray, List.set_cons_succ, List.set_cons_zero]
  rw [HN.out.1, HN.out.2] at hv5
  have HL5 := hide hl5; have HV5 := hide hv5
  have HZ5 := hide (HZ.out.keep hk5 id); have HK5 := hide (HK.out.trans' hk5 (fun _ _ h => h) (fun _ _ h => h))
  clear hl5 hv5 hk5 HX HY HZ HK
  refine order_one (i := 7) rfl (by kernel_rfl) (fun K hK => ?_)
  go_simp
  refine (made_any A5 n5 c5 ng' l (x + y) w5 _ HL5.out (by rw [HV5.out]; exact HZS.out)).mono ?_
  rintro e w6 ⟨kd, ng, A, n, c, ok, rfl, hr, hk6⟩
  refine hK _ _ (fun _ hS => hS.trans' (Keeps.trans' (Keeps.refl NoB w5) hk6 (fun _ _ h => h) (fun _ _ h => h)) (fun _ _ => id) (fun _ _ => id)) ?_
  clear hK
  try simp only [Act.put, List.setIfInBounds_toArray, List.set_cons_succ, List.set_cons_zero]
  have HB6 := hide (HZ5.out.keep hk6 id)
  have HA6 := hide hr
  have HK6 := hide (HK5.out.trans' hk6 (fun _ _ h => h) (fun _ _ h => h))
  have hsz := HZ5.out.lt
  clear hr hk6 HZ5 HK5 HS
  refine order_pure (i := 8) rfl (by kernel_rfl) (fun _ _ _ h => h) (.inl ⟨rfl, fun _ => by go_simp; rfl⟩) ?_
  try simp only [Act.put, List.setIfInBounds_toArray, List.set_cons_succ, List.set_cons_zero]
  refine order_pure (i := 9) rfl (by kernel_rfl) (fun _ _ _ h => h) (.inl ⟨rfl, fun _ => by go_simp; rfl⟩) ?_
  try simp only [Act.put, List.setIfInBounds_toArray, List.set_cons_succ, List.set_cons_zero]
  obtain ⟨z0, z1, z2, z3, z4, z5, z6⟩ := Blk.c7 (show Blk w6 (w.heap.size + 1 + 1) _ #[.int .u8 0, .bool false, .slice none 0 0, .string { data := #[] }, .int .i64 0, .slice none 0 0, .slice none 0 0] from HB6.out)
  obtain ⟨f0, f1, f2, f3, f4, f5, f6⟩ := Blk.f7 (w := w6) (g := w.heap.size + 1 + 1) HB6.out
  refine order_one (i := 10) rfl (by kernel_rfl) (fun K hK => ?_)
  go_simp
  refine hK _ _ (fun h => by cases h) ?_
  clear hK
  try simp only [Act.put, List.setIfInBounds_toArray, List.set_cons_succ, List.set_cons_zero]
  refine order_pure (i := 11) rfl (by kernel_rfl) (fun _ _ _ h => h) (.inl ⟨rfl, fun _ => by go_simp; rfl⟩) ?_
  try simp only [Act.put, List.setIfInBounds_toArray, List.set_cons_succ, List.set_cons_zero]
  refine order_done (by kernel_rfl) ?_
  go_wp2
  have HBf := hide (HB6.out.put7 (.int .u8 kd) (.bool ng) (.slice A n c) (.string { data := #[] }) (.int .i64 0) (.slice none 0 0) (.slice none 0 0))
  have HKf := hide (HK6.out.set7 (g := w.heap.size + 1 + 1) (by omega) (.int .u8 kd) (.bool ng) (.slice A n c) (.string { data := #[] }) (.int .i64 0) (.slice none 0 0) (.slice none 0 0))
  have HAf := hide ((HA6.out.far (Keeps.set7' (g := w.heap.size + 1 + 1) (.int .u8 kd) (.bool ng) (.slice A n c) (.string { data := #[] }) (.int .i64 0) (.slice none 0 0) (.slice none 0 0)) (fun k hk e => by first | omega | (simp at hk; omega))).more (B' := fun k => w.heap.size ≤ k) (fun k _ hk => by first | omega | (simp at hk; omega)))
  clear z0 z1 z2 z3 z4 z5 z6 f0 f1 f2 f3 f4 f5 f6 HB6 HK6 HA6
  generalize (((((((w6.setCell ⟨w.heap.size + 1 + 1, 0, none⟩ (.int .u8 kd)).setCell ⟨w.heap.size + 1 + 1, 1, none⟩ (.bool ng)).setCell ⟨w.heap.size + 1 + 1, 2, none⟩ (.slice A n c)).setCell ⟨w.heap.size + 1 + 1, 3, none⟩ (.string { data := #[] })).setCell ⟨w.heap.size + 1 + 1, 4, none⟩ (.int .i64 0)).setCell ⟨w.heap.size + 1 + 1, 5, none⟩ (.slice none 0 0)).setCell ⟨w.heap.size + 1 + 1, 6, none⟩ (.slice none 0 0)) = wf at *
  have d0 : wf.cell? ⟨w.heap.size + 1 + 1, 0, none⟩ = some (.int .u8 kd) := HBf.out.cell 0
  have d1 : wf.cell? ⟨w.heap.size + 1 + 1, 1, none⟩ = some (.bool ng) := HBf.out.cell 1
  have d2 : wf.cell? ⟨w.heap.size + 1 + 1, 2, none⟩ = some (.slice A n c) := HBf.out.cell 2
  have d3 : wf.cell? ⟨w.heap.size + 1 + 1, 3, none⟩ = some (.string { data := #[] }) := HBf.out.cell 3
  have d4 : wf.cell? ⟨w.heap.size + 1 + 1, 4, none⟩ = some (.int .i64 0) := HBf.out.cell 4
  have d5 : wf.cell? ⟨w.heap.size + 1 + 1, 5, none⟩ = some (.slice none 0 0) := HBf.out.cell 5
  have d6 : wf.cell? ⟨w.heap.size + 1 + 1, 6, none⟩ = some (.slice none 0 0) := HBf.out.cell 6
  refine bodyPost_ret (v := .tuple #[.agg #[.int .u8 kd, .bool ng, .slice A n c, .string { data := #[] }, .int .i64 0, .slice none 0 0, .slice none 0 0], .bool ok]) (by simp [results, Tryz.results75, go_sem, d0, d1, d2, d3, d4, d5, d6]) rfl ?_
  exact ⟨kd, ng, A, n, c, ok, rfl, HAf.out, HKf.out⟩
set_option maxHeartbeats 4000000 in
set_option maxRecDepth 100000 in
theorem add_above (ng ng' : Bool) (A A' ia ta ia' ta' : Option Addr) (n c n' c' ic tc ic' tc' : Nat) (x y : Int) (w : World) (B B' : Nat → Prop) (h : IA w B ng A n c x) (h' : IA w B' ng' A' n' c' y) (hg : ¬ ng = ng') (hl : y.natAbs ≤ x.natAbs) :
    Calls Tryz.prog 75 #[.agg #[.int .u8 1, .bool ng, .slice A n c, .string { data := #[] }, .int .i64 0, .slice ia 0 ic, .slice ta 0 tc], .agg #[.int .u8 1, .bool ng', .slice A' n' c', .string { data := #[] }, .int .i64 0, .slice ia' 0 ic', .slice ta' 0 tc']] w (AnyP w (x + y)) := by
  have hn := h.len; have hn' := h'.len
  have hsg := h.sign; have hsg' := h'.sign
  have HI := hide h; have HI' := hide h'
  have HN := hide (And.intro (nat_dig x.natAbs) (nat_dig y.natAbs))
  clear h h'
  have HZS := hide (add_less hsg hsg' hg hl)
  have hb : (ng == ng') = false := by simp [hg]
  have HLT := hide hl
  clear hg hl
  clear hsg hsg'
  go_enter Tryz.func75, Tryz.ntmps75
  have HX0 := hide (((Blk.new w 26 #[.int .u8 1, .bool ng, .slice A n c, .string { data := #[] }, .int .i64 0, .slice ia 0 ic, .slice ta 0 tc]).alloc (.cells #[.int .u8 1, .bool ng', .slice A' n' c', .string { data := #[] }, .int .i64 0, .slice ia' 0 ic', .slice ta' 0 tc'] 26)).alloc (.cells #[.int .u8 0, .bool false, .slice none 0 0, .string { data := #[] }, .int .i64 0, .slice none 0 0, .slice none 0 0] 26))
  have HY0 := hide ((Blk.new2' w (.cells #[.int .u8 1, .bool ng, .slice A n c, .string { data := #[] }, .int .i64 0, .slice ia 0 ic, .slice ta 0 tc] 26) 26 #[.int .u8 1, .bool ng', .slice A' n' c', .string { data := #[] }, .int .i64 0, .slice ia' 0 ic', .slice ta' 0 tc']).alloc (.cells #[.int .u8 0, .bool false, .slice none 0 0, .string { data := #[] }, .int .i64 0, .slice none 0 0, .slice none 0 0] 26))
  have HZ0 := hide (Blk.new3' w (.cells #[.int .u8 1, .bool ng, .slice A n c, .string { data := #[] }, .int .i64 0, .slice ia 0 ic, .slice ta 0 tc] 26) (.cells #[.int .u8 1, .bool ng', .slice A' n' c', .string { data := #[] }, .int .i64 0, .slice ia' 0 ic', .slice ta' 0 tc'] 26) 26 #[.int .u8 0, .bool false, .slice none 0 0, .string { data := #[] }, .int .i64 0, .slice none 0 0, .slice none 0 0])
  have HK0 := hide ((((Keeps.refl NoB w).alloc (.cells #[.int .u8 1, .bool ng, .slice A n c, .string { data := #[] }, .int .i64 0, .slice ia 0 ic, .slice ta 0 tc] 26)).alloc (.cells #[.int .u8 1, .bool ng', .slice A' n' c', .string { data := #[] }, .int .i64 0, .slice ia' 0 ic', .slice ta' 0 tc'] 26)).alloc (.cells #[.int .u8 0, .bool false, .slice none 0 0, .string { data := #[] }, .int .i64 0, .slice none 0 0, .slice none 0 0] 26))
  have HR1 := hide True.intro
  go_wp2_with first | (clear HR1; go_at_call 11; refine ((HI.out.keep HK0.out).right _ _ _ _).mono ?_; rintro e w1 ⟨rfl, hk1⟩; have HK1 := hide (HK0.out.trans' hk1 (fun _ _ => id) (fun _ _ => id)); have HX1 := hide (HX0.out.keep hk1 id); have HY1 := hide (HY0.out.keep hk1 id); have HZ1 := hide (HZ0.out.keep hk1 id); clear hk1 HX0 HY0 HZ0 HK0; obtain ⟨y0, y1, y2, y3, y4, y5, y6⟩ := Blk.c7 (show Blk w1 (w.heap.size + 1) _ #[.int .u8 1, .bool ng', .slice A' n' c', .string { data := #[] }, .int .i64 0, .slice ia' 0 ic', .slice ta' 0 tc'] from HY1.out)) | (go_at_call 11; refine ((HI'.out.keep HK1.out).right _ _ _ _).mono ?_; rintro e w2 ⟨rfl, hk2⟩; have HK2 := hide (HK1.out.trans' hk2 (fun _ _ => id) (fun _ _ => id)); have HX2 := hide (HX1.out.keep hk2 id); have HY2 := hide (HY1.out.keep hk2 id); have HZ2 := hide (HZ1.out.keep hk2 id); clear hk2 HX1 HY1 HZ1 HK1 y0 y1 y2 y3 y4 y5 y6; have x1 : w2.cell? ⟨w.heap.size, 1, none⟩ = some (.bool ng) := HX2.out.cell 1; have y1 : w2.cell? ⟨w.heap.size + 1, 1, none⟩ = some (.bool ng') := HY2.out.cell 1; have x2 : w2.cell? ⟨w.heap.size, 2, none⟩ = some (.slice A n c) := HX2.out.cell 2; have y2 : w2.cell? ⟨w.heap.size + 1, 2, none⟩ = some (.slice A' n' c') := HY2.out.cell 2) | (go_at_call 71; refine (amounts_any _ _ _ _ _ _ _ _ _ _ _ ((HI.out.keep HK2.out).limbs) ((HI'.out.keep HK2.out).limbs)).mono ?_; rintro e w3 ⟨r, rfl, hr1, hr2, hr3, hr4, hk3⟩; have hr0 : decide (r < 0) = false := decide_eq_false (fun e => absurd (hr3.1 e) (Nat.not_lt.2 HLT.out)); have HK3 := hide (HK2.out.trans' hk3 (fun _ _ => id) (fun _ _ => id)); have HX3 := hide (HX2.out.keep hk3 id); have HY3 := hide (HY2.out.keep hk3 id); have HZ3 := hide (HZ2.out.keep hk3 id); clear hr1 hr2 hr3 hr4 hk3 HX2 HY2 HZ2 HK2 x1 y1 x2 y2) | fail
  refine order_begin (fun W => Keeps NoB w3.drew W) (fun k => k != 10) (by kernel_rfl) 12 rfl ?_
  have HX := hide (HX3.out.drew); have HY := hide (HY3.out.drew); have HZ := hide (HZ3.out.drew); have HK := hide (HK3.out.drew)
  clear HX3 HY3 HZ3 HK3 hr0
  generalize w3.drew = W0 at *
  have HS : Keeps NoB W0 W0 := Keeps.refl _ _
  refine order_pure (i := 0) rfl (by kernel_rfl) (fun _ _ _ h => h) (.inl ⟨rfl, fun _ => by go_simp; rfl⟩) ?_
  try simp only [Act.put, List.setIfInBounds_toArray, List.set_cons_succ, List.set_cons_zero]
  refine order_pure (i := 2) rfl (by kernel_rfl) (fun _ _ _ h => h) (.inl ⟨rfl, fun _ => by go_simp; rfl⟩) ?_
  try simp only [Act.put, List.setIfInBounds_toArray, List.set_cons_succ, List.set_cons_zero]
  refine order_pure (i := 5) rfl (by kernel_rfl) (fun _ _ _ h => h) (.inl ⟨rfl, fun _ => by go_simp; rfl⟩) ?_
  try simp only [Act.put, List.setIfInBounds_toArray, List.set_cons_succ, List.set_cons_zero]
  refine order_held (i := 1) rfl (by kernel_rfl) (fun _ _ _ h => h) (.inl ⟨rfl, fun W hW => by
    have q0 : W.cell? ⟨w.heap.size, 2, none⟩ = some (.slice A n c) := hW.cell id (HX.out.cell 2)
    go_simp; rfl⟩) HS ?_
  try simp only [Act.put, List.setIfInBounds_toArray, List.set_cons_succ, List.set_cons_zero]
  refine order_held (i := 3) rfl (by kernel_rfl) (fun _ _ _ h => h) (.inl ⟨rfl, fun W hW => by
    have q0 : W.cell? ⟨w.heap.size + 1, 2, none⟩ = some (.slice A' n' c') := hW.cell id (HY.out.cell 2)
    go_simp; rfl⟩) HS ?_
  try simp only [Act.put, List.setIfInBounds_toArray, List.set_cons_succ, List.set_cons_zero]
  refine order_held (i := 6) rfl (by kernel_rfl) (fun _ _ _ h => h) (.inl ⟨rfl, fun W hW => by
    have q0 : W.cell? ⟨w.heap.size, 1, none⟩ = some (.bool ng) := hW.cell id (HX.out.cell 1)
    go_simp; rfl⟩) HS ?_
  try simp only [Act.put, List.setIfInBounds_toArray, List.set_cons_succ, List.set_cons_zero]
  refine order_one (i := 4) rfl (by kernel_rfl) (fun K hK => ?_)
  go_simp
  refine (less_any A A' n c n' c' _ _ W0 _ _ (HI.out.keep HK.out).limbs (HI'.out.keep HK.out).limbs hn hn' (by rw [HN.out.1, HN.out.2]; exact HLT.out)).mono ?_
  rintro e w5 ⟨A5, n5, c5, l, rfl, hl5, hv5, hk5⟩
  refine hK _ _ (fun _ hS => hS.trans' hk5 (fun _ _ => id) (fun _ _ => id)) ?_
  clear hK
  try simp only [Act.put, List.setIfInBounds_toArray, List.set_cons_succ, List.set_cons_zero]
  rw [HN.out.1, HN.out.2] at hv5
  have HL5 := hide hl5; have HV5 := hide hv5
  have HZ5 := hide (HZ.out.keep hk5 id); have HK5 := hide (HK.out.trans' hk5 (fun _ _ h => h) (fun _ _ h => h))
  clear hl5 hv5 hk5 HX HY HZ HK
  refine order_one (i := 7) rfl (by kernel_rfl) (fun K hK => ?_)
  go_simp
  refine (made_any A5 n5 c5 ng l (x + y) w5 _ HL5.out (by rw [HV5.out]; exact HZS.out)).mono ?_
  rintro e w6 ⟨kd, ng, A, n, c, ok, rfl, hr, hk6⟩
  refine hK _ _ (fun _ hS => hS.trans' (Keeps.trans' (Keeps.refl NoB w5) hk6 (fun _ _ h => h) (fun _ _ h => h)) (fun _ _ => id) (fun _ _ => id)) ?_
  clear hK
  try simp only [Act.put, List.setIfInBounds_toArray, List.set_cons_succ, List.set_cons_zero]
  have HB6 := hide (HZ5.out.keep hk6 id)
  have HA6 := hide hr
  have HK6 := hide (HK5.out.trans' hk6 (fun _ _ h => h) (fun _ _ h => h))
  have hsz := HZ5.out.lt
  clear hr hk6 HZ5 HK5 HS
  refine order_pure (i := 8) rfl (by kernel_rfl) (fun _ _ _ h => h) (.inl ⟨rfl, fun _ => by go_simp; rfl⟩) ?_
  try simp only [Act.put, List.setIfInBounds_toArray, List.set_cons_succ, List.set_cons_zero]
  refine order_pure (i := 9) rfl (by kernel_rfl) (fun _ _ _ h => h) (.inl ⟨rfl, fun _ => by go_simp; rfl⟩) ?_
  try simp only [Act.put, List.setIfInBounds_toArray, List.set_cons_succ, List.set_cons_zero]
  obtain ⟨z0, z1, z2, z3, z4, z5, z6⟩ := Blk.c7 (show Blk w6 (w.heap.size + 1 + 1) _ #[.int .u8 0, .bool false, .slice none 0 0, .string { data := #[] }, .int .i64 0, .slice none 0 0, .slice none 0 0] from HB6.out)
  obtain ⟨f0, f1, f2, f3, f4, f5, f6⟩ := Blk.f7 (w := w6) (g := w.heap.size + 1 + 1) HB6.out
  refine order_one (i := 10) rfl (by kernel_rfl) (fun K hK => ?_)
  go_simp
  refine hK _ _ (fun h => by cases h) ?_
  clear hK
  try simp only [Act.put, List.setIfInBounds_toArray, List.set_cons_succ, List.set_cons_zero]
  refine order_pure (i := 11) rfl (by kernel_rfl) (fun _ _ _ h => h) (.inl ⟨rfl, fun _ => by go_simp; rfl⟩) ?_
  try simp only [Act.put, List.setIfInBounds_toArray, List.set_cons_succ, List.set_cons_zero]
  refine order_done (by kernel_rfl) ?_
  go_wp2
  have HBf := hide (HB6.out.put7 (.int .u8 kd) (.bool ng) (.slice A n c) (.string { data := #[] }) (.int .i64 0) (.slice none 0 0) (.slice none 0 0))
  have HKf := hide (HK6.out.set7 (g := w.heap.size + 1 + 1) (by omega) (.int .u8 kd) (.bool ng) (.slice A n c) (.string { data := #[] }) (.int .i64 0) (.slice none 0 0) (.slice none 0 0))
  have HAf := hide ((HA6.out.far (Keeps.set7' (g := w.heap.size + 1 + 1) (.int .u8 kd) (.bool ng) (.slice A n c) (.string { data := #[] }) (.int .i64 0) (.slice none 0 0) (.slice none 0 0)) (fun k hk e => by first | omega | (simp at hk; omega))).more (B' := fun k => w.heap.size ≤ k) (fun k _ hk => by first | omega | (simp at hk; omega)))
  clear z0 z1 z2 z3 z4 z5 z6 f0 f1 f2 f3 f4 f5 f6 HB6 HK6 HA6
  generalize (((((((w6.setCell ⟨w.heap.size + 1 + 1, 0, none⟩ (.int .u8 kd)).setCell ⟨w.heap.size + 1 + 1, 1, none⟩ (.bool ng)).setCell ⟨w.heap.size + 1 + 1, 2, none⟩ (.slice A n c)).setCell ⟨w.heap.size + 1 + 1, 3, none⟩ (.string { data := #[] })).setCell ⟨w.heap.size + 1 + 1, 4, none⟩ (.int .i64 0)).setCell ⟨w.heap.size + 1 + 1, 5, none⟩ (.slice none 0 0)).setCell ⟨w.heap.size + 1 + 1, 6, none⟩ (.slice none 0 0)) = wf at *
  have d0 : wf.cell? ⟨w.heap.size + 1 + 1, 0, none⟩ = some (.int .u8 kd) := HBf.out.cell 0
  have d1 : wf.cell? ⟨w.heap.size + 1 + 1, 1, none⟩ = some (.bool ng) := HBf.out.cell 1
  have d2 : wf.cell? ⟨w.heap.size + 1 + 1, 2, none⟩ = some (.slice A n c) := HBf.out.cell 2
  have d3 : wf.cell? ⟨w.heap.size + 1 + 1, 3, none⟩ = some (.string { data := #[] }) := HBf.out.cell 3
  have d4 : wf.cell? ⟨w.heap.size + 1 + 1, 4, none⟩ = some (.int .i64 0) := HBf.out.cell 4
  have d5 : wf.cell? ⟨w.heap.size + 1 + 1, 5, none⟩ = some (.slice none 0 0) := HBf.out.cell 5
  have d6 : wf.cell? ⟨w.heap.size + 1 + 1, 6, none⟩ = some (.slice none 0 0) := HBf.out.cell 6
  refine bodyPost_ret (v := .tuple #[.agg #[.int .u8 kd, .bool ng, .slice A n c, .string { data := #[] }, .int .i64 0, .slice none 0 0, .slice none 0 0], .bool ok]) (by simp [results, Tryz.results75, go_sem, d0, d1, d2, d3, d4, d5, d6]) rfl ?_
  exact ⟨kd, ng, A, n, c, ok, rfl, HAf.out, HKf.out⟩
theorem add_any (ng ng' : Bool) (A A' ia ta ia' ta' : Option Addr) (n c n' c' ic tc ic' tc' : Nat) (x y : Int) (w : World) (B B' : Nat → Prop) (h : IA w B ng A n c x) (h' : IA w B' ng' A' n' c' y) :
    Calls Tryz.prog 75 #[.agg #[.int .u8 1, .bool ng, .slice A n c, .string { data := #[] }, .int .i64 0, .slice ia 0 ic, .slice ta 0 tc], .agg #[.int .u8 1, .bool ng', .slice A' n' c', .string { data := #[] }, .int .i64 0, .slice ia' 0 ic', .slice ta' 0 tc']] w (AnyP w (x + y)) := by
  by_cases hg : ng = ng'
  · exact add_like ng ng' A A' ia ta ia' ta' n c n' c' ic tc ic' tc' x y w B B' h h' hg
  · rcases Nat.lt_or_ge x.natAbs y.natAbs with hl | hl
    · exact add_below ng ng' A A' ia ta ia' ta' n c n' c' ic tc ic' tc' x y w B B' h h' hg hl
    · exact add_above ng ng' A A' ia ta ia' ta' n c n' c' ic tc ic' tc' x y w B B' h h' hg hl
end Go.Proofs.YthbbalkhmofndaaGreatDoor
