/- both: two rows of limbs, gone through with a carry; sum and less. -/
import Derived.Test.YtfehciiidmgopaaSum
namespace Go.Proofs.Ytfehciiidmgopaa
open Go.RowKit


theorem made_row (m : Nat) : madeCells (Value.int .u32 0).cells (m * 1) = (u32s (List.replicate m 0)).toArray := by
  apply Array.toList_inj.1
  rw [show (Value.int .u32 0).cells = #[Value.int .u32 0] from rfl, Nat.mul_one, toList_madeCells_one, u32s_zeros]
theorem wpList_make_row {P : Program} (w : World) {ops : Array Oper} {rest : List Oper} {o : Oper} {a : Act} {Q : Exit → Act → World → Prop}
    (hg : o.guard = none) (l c : Operand) (t : TypeId) (hop : o.op = Op.makeSlice t l c)
    (i : TypeInfo) (h1 : P.underlying t = some (.slice 44)) (h2 : P.info? 44 = some i) (h3 : i.zero = some (.int .u32 0)) (h4 : i.size = 1) (h5 : i.bytes = 4)
    (L C : Int) (n m : Nat) (hl : a.eval l = .int .i64 L) (hc : a.eval c = .int .i64 C) (hL : L = n) (hC : C = m) (hnm : n ≤ m) (hm : m ≤ 1000)
    (hK : ∀ w', RowAt w' w.heap.size (List.replicate m 0) → Keeps NoB w w' → wpList P ops Q rest (a.put o.dst (.slice (some ⟨w.heap.size, 0, none⟩) n m)) w') :
    wpList P ops Q (o :: rest) a w := by
  refine wpList_plain hg fun K hK' => ?_
  have hrun := run_make (P := P) w t 44 i (.int .u32 0) h1 h2 h3 .i64 .i64 n m (by omega) (by omega) (by rw [h5]; omega) (by omega)
  simp only [Int.toNat_natCast] at hrun
  rw [h4, made_row] at hrun
  subst hL hC
  have hr : RowAt (w.alloc (.cells (u32s (List.replicate m 0)).toArray 44)) w.heap.size (List.replicate m 0) := Blk.new w 44 _
  unfold Oper.wp
  simp [execOp, hop, hl, hc, hrun, Result.andThen]
  exact hK' _ _ (hK _ hr ((Keeps.refl NoB w).alloc _))

def SumT (i a b p c : Nat) : Prop := a + b = p + B32 ^ i * c
def LessT (i a b p c : Nat) : Prop := p + b = a + B32 ^ i * c
structure BothAt (T : Nat → Nat → Nat → Nat → Nat → Prop) (w1 : World) (O N : Nat) (la lb : List Nat) (i c : Nat) (wr : World) (os : List Nat) : Prop where
  keep : Keeps (fun k => k = O) w1 wr
  row : RowAt wr O os
  len : os.length = N + 1
  low : Low os
  carry : c ≤ 1
  val : T i (pre la i) (pre lb i) (pre os i) c
theorem BothAt.step {T R : Nat → Nat → Nat → Nat → Nat → Prop} (hT : ∀ i a b p c x y s c', T i a b p c → R x y c s c' → T (i + 1) (a + B32 ^ i * x) (b + B32 ^ i * y) (p + B32 ^ i * s) c')
    {w1 wr w' : World} {O N i c s c' : Nat} {la lb os : List Nat} (h : BothAt T w1 O N la lb i c wr os) (hi : i < N) (hR : R (la.getD i 0) (lb.getD i 0) c s c') (hs : s < B32) (hc : c' ≤ 1)
    (hr : RowAt w' O (os.set i s)) (hk : Keeps (fun k => k = O) w1 w') : BothAt T w1 O N la lb (i + 1) c' w' (os.set i s) := by
  refine ⟨hk, hr, by rw [List.length_set]; exact h.len, h.low.set _ _ hs, hc, ?_⟩
  rw [pre, pre, pre_put _ _ (by rw [h.len]; omega)]
  exact hT _ _ _ _ _ _ _ _ _ h.val hR
theorem sumT_step : ∀ i a b p c x y s c', SumT i a b p c → SumR x y c s c' → SumT (i + 1) (a + B32 ^ i * x) (b + B32 ^ i * y) (p + B32 ^ i * s) c' := fun _ _ _ _ _ _ _ _ _ h hs => add_step h hs
theorem lessT_step : ∀ i a b p c x y s c', LessT i a b p c → LessR x y c s c' → LessT (i + 1) (a + B32 ^ i * x) (b + B32 ^ i * y) (p + B32 ^ i * s) c' := fun _ _ _ _ _ _ _ _ _ h hs => sub_step h hs

/-- What both tells. -/
def BothP (T : Nat → Nat → Nat → Nat → Nat → Prop) (w : World) (N a b : Nat) (e : Ending) (w' : World) : Prop := ∃ A n c l os cy, e = .returned (.slice A n c) ∧ LimbsIn w' (fun k => w.heap.size ≤ k) A n c l ∧ n = N + 1 ∧ nat l = nat os + B32 ^ N * cy ∧ os.length = N ∧ Low os ∧ T N a b (nat os) cy ∧ Keeps NoB w w'

set_option maxHeartbeats 2000000 in
set_option maxRecDepth 100000 in
theorem sum_both (A A' : Option Addr) (n c n' c' N : Nat) (la lb : List Nat) (w : World) (B B' : Nat → Prop) (h : LimbsIn w B A n c la) (h' : LimbsIn w B' A' n' c' lb) (hN : N = max n n') (hN2 : N ≤ 40) :
    Calls Try.prog 67 #[.slice A n c, .slice A' n' c', .func (.func 68) #[] #[]] w (BothP SumT w N (nat la) (nat lb)) := by
  have hl := h.len; have hl' := h'.len
  have HA := hide (h.more (B' := fun k => k < w.heap.size) (fun k h _ => h)); have HA' := hide (h'.more (B' := fun k => k < w.heap.size) (fun k h _ => h))
  clear h h'
  obtain ⟨i0, hi0, hz0, hz1, hz2⟩ := info_parts Try.info44
  have hmax : (if (n : Int) < (n' : Int) then (n' : Int) else (n : Int)) = (N : Int) := by split <;> omega
  have hmax2 : (if n < n' then (n' : Int) else (n : Int)) = (N : Int) := by split <;> omega
  have HN := hide hN
  clear hN
  go_enter Try.func67, Try.ntmps67
  go_wp2_with (at_make; refine wpList_make_row _ rfl _ _ 23 rfl i0 Try.underlying23 hi0 hz0 hz1 hz2 _ _ N (N + 1) rfl rfl (by omega) (by omega) (by omega) (by omega) ?_)
  intro w1 hro hk1
  obtain ⟨O, hO⟩ : ∃ O, w.heap.size = O := ⟨_, rfl⟩
  rw [hO] at hro ⊢
  have HA1 := hide (HA.out.keep hk1); have HA1' := hide (HA'.out.keep hk1)
  have HK1 := hide hk1
  have HF := hide (show ∀ k, k < w.heap.size → ¬ k = O by omega)
  have HO := hide hO
  have H0 := hide (⟨Keeps.refl _ _, hro, by simp, Low.zeros _, Nat.zero_le _, by show _ = _; simp [pre]⟩ : BothAt SumT w1 O N la lb 0 0 w1 (List.replicate (N + 1) 0))
  clear hk1 hro hO HA HA' hmax hmax2
  go_wp2
  go_loopw [9, 22] (fun cv iv wr => ∃ (i cy : Nat) (os : List Nat), cv = .int .u32 (cy : Int) ∧ iv = .int .i64 (i : Int) ∧ i ≤ N ∧ Hid (BothAt SumT w1 O N la lb i cy wr os)) (fun _ iv _ => N - (intOf iv).toNat)
  case atStart => exact ⟨0, 0, _, rfl, rfl, Nat.zero_le _, H0⟩
  case round =>
    obtain ⟨i, cy, os, rfl, rfl, hi, HM⟩ := hrel
    have hlen := HM.out.len
    have hcy := HM.out.carry
    by_cases hlt : i < N
    · have hi0 : (0 : Int) ≤ (i : Int) := by omega
      have hi1 : (i : Int) < (N : Int) := by omega
      have HL1 := hide (limb_any A n c i la wr _ (HA1.out.far HM.out.keep HF.out) (by omega))
      have HL2 := hide (fun w2 (hk : Keeps NoB wr w2) => limb_any A' n' c' i lb w2 _ ((HA1'.out.far HM.out.keep HF.out).keep hk) (by omega))
      have HC := hide (fun w2 => sumC_any (la.getD i 0) (lb.getD i 0) cy (HA1.out.low.get i) (HA1'.out.low.get i) hcy w2)
      have HST := hide (fun s c' w' (hR : SumR (la.getD i 0) (lb.getD i 0) cy s c') hs hc hr hk => HM.out.step (w' := w') sumT_step hlt hR hs hc hr hk)
      have HR := hide HM.out.row; have HKP := hide HM.out.keep
      obtain ⟨X, hX⟩ : ∃ X, la.getD i 0 = X := ⟨_, rfl⟩
      obtain ⟨Y, hY⟩ : ∃ Y, lb.getD i 0 = Y := ⟨_, rfl⟩
      rw [hX] at HL1 HC HST
      rw [hY] at HL2 HC HST
      clear HM hX hY
      have M1 := hide True.intro
      go_wp2_with first | (clear M1; go_at_call 74; refine HL1.out.mono ?_; rintro e w2 ⟨rfl, hk2⟩; have HK2 := hide hk2; clear hk2) | (go_at_call 74; refine (HL2.out w2 HK2.out).mono ?_; rintro e w3 ⟨rfl, hk3⟩; have HK3 := hide (HK2.out.trans' hk3 (fun _ _ h => h) (fun _ _ h => h)); clear hk3 HK2) | (go_at_call 68; refine (HC.out w3).mono ?_; rintro e w4 ⟨s, c2, rfl, hs, hc2, hR, hk4⟩; have hk5 := HK3.out.trans' hk4 (fun _ _ h => h) (fun _ _ h => h.elim); have HR4 := hide (HR.out.keep hk5 id); have HKP4 := hide (HKP.out.trans' hk5 (fun _ _ h => h) (fun _ _ h => h.elim)); have HS := hide (And.intro hR (And.intro hs hc2)); have r1 : w4.cell? ⟨O, i, none⟩ = some (.int .u32 ((os.getD i 0 : Nat) : Int)) := HR4.out.cell (by omega); have r2 : w4.frozen? ⟨O, i, none⟩ = false := HR4.out.free i; clear hs hc2 hR hk4 hk5 HK3 HR HKP; generalize os.getD i 0 = old at *) | fail
      go_roundw
      case rel => exact ⟨i + 1, c2, os.set i s, rfl, rfl, by omega, hide (HST.out s c2 _ HS.out.1 HS.out.2.1 HS.out.2.2 (HR4.out.put i rfl) (HKP4.out.setCell (p := ⟨O, i, none⟩) (.inl rfl) _))⟩
      case measure => simp [intOf]; omega
    · obtain rfl : i = N := by omega
      have hn1 : n ≤ i := by have := HN.out; omega
      have hn2 : n' ≤ i := by have := HN.out; omega
      have hsl : Slab wr 44 1 (some ⟨O, 0, none⟩) i (i + 1) (u32s (os.take i)) := Slab.mk' (by rw [u32s_len, List.length_take]; omega) (by omega) (by unfold maxLen; omega) HM.out.row (by simp [u32s_len, hlen]) (fun j hj => by rw [Nat.zero_add, List.getElem?_toArray, u32s_take, List.getElem?_take_of_lt (by omega)])
      have hv := HM.out.val
      rw [pre_ge la i (by omega), pre_ge lb i (by omega)] at hv
      have HV := hide (show SumT i (nat la) (nat lb) (nat (os.take i)) cy from by rw [nat_take os (by omega)]; exact hv)
      have HLT := hide (show (os.take i).length = i from by rw [List.length_take]; omega)
      have HLW := hide (HM.out.low.take i)
      generalize os.take i = ts at *
      have HS4 := hide (hsl.fresh ((Keeps.refl NoB wr).alloc (.cells #[.int .u32 (cy : Int)] 44)))
      have HR4 := hide (one_reads (Blk.new wr 44 #[.int .u32 (cy : Int)]))
      have HK4 := hide ((HK1.out.trans' HM.out.keep (fun _ _ h => h) (fun k h1 h2 => by have := HO.out; omega) : Keeps NoB w wr).alloc (.cells #[.int .u32 (cy : Int)] 44))
      have hnw : ∀ k, rowB (some ⟨O, 0, none⟩) k → w.heap.size ≤ k := fun k ⟨o, e⟩ => by injection e with e; injection e with e; have := HO.out; omega
      have HNW := hide hnw
      clear hsl hv HM hn1 hn2 hnw
      go_wp2_with (at_builtin; refine wpList_append_slab _ rfl (.tmp 43) (.tmp 45) 23 rfl 44 i0 _ 1 4 Try.underlying23 hi0 hz0 hz1 hz2 rfl (by omega) (some ⟨O, 0, none⟩) i (i + 1) (u32s ts) rfl HS4.out (fun _ => True) true (some ⟨wr.heap.size, 0, none⟩) 1 1 [.int .u32 (cy : Int)] rfl HR4.out (Nat.zero_lt_one) (fun u hu => by simp at hu; subst hu; rfl) (by unfold maxLen; omega) (by omega) ?_)
      intro A5 c5 w5 h1 h2 h3
      have hk5 : Keeps NoB w w5 := HK4.out.trans' h2 (fun _ _ h => h) (fun k hk hr => absurd (HNW.out k hr) (Nat.not_le.2 hk))
      have hl5 : LimbsIn w5 (fun k => w.heap.size ≤ k) A5 (i + 1) c5 (ts ++ [cy]) := (LimbsIn.of_slab (l := ts ++ [cy]) (by rw [u32s_append]; exact h1) (HLW.out.append (fun x hx => by simp at hx; subst hx; unfold B32; omega))).more (fun k _ hr => by
        rcases h3 k hr with h | h
        · exact HNW.out k h
        · exact Nat.le_trans HK4.out.size h)
      have HK5 := hide hk5; have HL5 := hide hl5
      clear h1 h2 h3 hk5 hl5
      go_wp2
      go_ret
      exact ⟨A5, i + 1, c5, ts ++ [cy], ts, cy, rfl, HL5.out, rfl, by rw [nat_append, HLT.out]; simp [nat], HLT.out, HLW.out, HV.out, HK5.out⟩
set_option maxHeartbeats 2000000 in
set_option maxRecDepth 100000 in
theorem less_both (A A' : Option Addr) (n c n' c' N : Nat) (la lb : List Nat) (w : World) (B B' : Nat → Prop) (h : LimbsIn w B A n c la) (h' : LimbsIn w B' A' n' c' lb) (hN : N = max n n') (hN2 : N ≤ 40) :
    Calls Try.prog 67 #[.slice A n c, .slice A' n' c', .func (.func 69) #[] #[]] w (BothP LessT w N (nat la) (nat lb)) := by
  have hl := h.len; have hl' := h'.len
  have HA := hide (h.more (B' := fun k => k < w.heap.size) (fun k h _ => h)); have HA' := hide (h'.more (B' := fun k => k < w.heap.size) (fun k h _ => h))
  clear h h'
  obtain ⟨i0, hi0, hz0, hz1, hz2⟩ := info_parts Try.info44
  have hmax : (if (n : Int) < (n' : Int) then (n' : Int) else (n : Int)) = (N : Int) := by split <;> omega
  have hmax2 : (if n < n' then (n' : Int) else (n : Int)) = (N : Int) := by split <;> omega
  have HN := hide hN
  clear hN
  go_enter Try.func67, Try.ntmps67
  go_wp2_with (at_make; refine wpList_make_row _ rfl _ _ 23 rfl i0 Try.underlying23 hi0 hz0 hz1 hz2 _ _ N (N + 1) rfl rfl (by omega) (by omega) (by omega) (by omega) ?_)
  intro w1 hro hk1
  obtain ⟨O, hO⟩ : ∃ O, w.heap.size = O := ⟨_, rfl⟩
  rw [hO] at hro ⊢
  have HA1 := hide (HA.out.keep hk1); have HA1' := hide (HA'.out.keep hk1)
  have HK1 := hide hk1
  have HF := hide (show ∀ k, k < w.heap.size → ¬ k = O by omega)
  have HO := hide hO
  have H0 := hide (⟨Keeps.refl _ _, hro, by simp, Low.zeros _, Nat.zero_le _, by show _ = _; simp [pre]⟩ : BothAt LessT w1 O N la lb 0 0 w1 (List.replicate (N + 1) 0))
  clear hk1 hro hO HA HA' hmax hmax2
  go_wp2
  go_loopw [9, 22] (fun cv iv wr => ∃ (i cy : Nat) (os : List Nat), cv = .int .u32 (cy : Int) ∧ iv = .int .i64 (i : Int) ∧ i ≤ N ∧ Hid (BothAt LessT w1 O N la lb i cy wr os)) (fun _ iv _ => N - (intOf iv).toNat)
  case atStart => exact ⟨0, 0, _, rfl, rfl, Nat.zero_le _, H0⟩
  case round =>
    obtain ⟨i, cy, os, rfl, rfl, hi, HM⟩ := hrel
    have hlen := HM.out.len
    have hcy := HM.out.carry
    by_cases hlt : i < N
    · have hi0 : (0 : Int) ≤ (i : Int) := by omega
      have hi1 : (i : Int) < (N : Int) := by omega
      have HL1 := hide (limb_any A n c i la wr _ (HA1.out.far HM.out.keep HF.out) (by omega))
      have HL2 := hide (fun w2 (hk : Keeps NoB wr w2) => limb_any A' n' c' i lb w2 _ ((HA1'.out.far HM.out.keep HF.out).keep hk) (by omega))
      have HC := hide (fun w2 => lessC_any (la.getD i 0) (lb.getD i 0) cy (HA1.out.low.get i) (HA1'.out.low.get i) hcy w2)
      have HST := hide (fun s c' w' (hR : LessR (la.getD i 0) (lb.getD i 0) cy s c') hs hc hr hk => HM.out.step (w' := w') lessT_step hlt hR hs hc hr hk)
      have HR := hide HM.out.row; have HKP := hide HM.out.keep
      obtain ⟨X, hX⟩ : ∃ X, la.getD i 0 = X := ⟨_, rfl⟩
      obtain ⟨Y, hY⟩ : ∃ Y, lb.getD i 0 = Y := ⟨_, rfl⟩
      rw [hX] at HL1 HC HST
      rw [hY] at HL2 HC HST
      clear HM hX hY
      have M1 := hide True.intro
      go_wp2_with first | (clear M1; go_at_call 74; refine HL1.out.mono ?_; rintro e w2 ⟨rfl, hk2⟩; have HK2 := hide hk2; clear hk2) | (go_at_call 74; refine (HL2.out w2 HK2.out).mono ?_; rintro e w3 ⟨rfl, hk3⟩; have HK3 := hide (HK2.out.trans' hk3 (fun _ _ h => h) (fun _ _ h => h)); clear hk3 HK2) | (go_at_call 69; refine (HC.out w3).mono ?_; rintro e w4 ⟨s, c2, rfl, hs, hc2, hR, hk4⟩; have hk5 := HK3.out.trans' hk4 (fun _ _ h => h) (fun _ _ h => h.elim); have HR4 := hide (HR.out.keep hk5 id); have HKP4 := hide (HKP.out.trans' hk5 (fun _ _ h => h) (fun _ _ h => h.elim)); have HS := hide (And.intro hR (And.intro hs hc2)); have r1 : w4.cell? ⟨O, i, none⟩ = some (.int .u32 ((os.getD i 0 : Nat) : Int)) := HR4.out.cell (by omega); have r2 : w4.frozen? ⟨O, i, none⟩ = false := HR4.out.free i; clear hs hc2 hR hk4 hk5 HK3 HR HKP; generalize os.getD i 0 = old at *) | fail
      go_roundw
      case rel => exact ⟨i + 1, c2, os.set i s, rfl, rfl, by omega, hide (HST.out s c2 _ HS.out.1 HS.out.2.1 HS.out.2.2 (HR4.out.put i rfl) (HKP4.out.setCell (p := ⟨O, i, none⟩) (.inl rfl) _))⟩
      case measure => simp [intOf]; omega
    · obtain rfl : i = N := by omega
      have hn1 : n ≤ i := by have := HN.out; omega
      have hn2 : n' ≤ i := by have := HN.out; omega
      have hsl : Slab wr 44 1 (some ⟨O, 0, none⟩) i (i + 1) (u32s (os.take i)) := Slab.mk' (by rw [u32s_len, List.length_take]; omega) (by omega) (by unfold maxLen; omega) HM.out.row (by simp [u32s_len, hlen]) (fun j hj => by rw [Nat.zero_add, List.getElem?_toArray, u32s_take, List.getElem?_take_of_lt (by omega)])
      have hv := HM.out.val
      rw [pre_ge la i (by omega), pre_ge lb i (by omega)] at hv
      have HV := hide (show LessT i (nat la) (nat lb) (nat (os.take i)) cy from by rw [nat_take os (by omega)]; exact hv)
      have HLT := hide (show (os.take i).length = i from by rw [List.length_take]; omega)
      have HLW := hide (HM.out.low.take i)
      generalize os.take i = ts at *
      have HS4 := hide (hsl.fresh ((Keeps.refl NoB wr).alloc (.cells #[.int .u32 (cy : Int)] 44)))
      have HR4 := hide (one_reads (Blk.new wr 44 #[.int .u32 (cy : Int)]))
      have HK4 := hide ((HK1.out.trans' HM.out.keep (fun _ _ h => h) (fun k h1 h2 => by have := HO.out; omega) : Keeps NoB w wr).alloc (.cells #[.int .u32 (cy : Int)] 44))
      have hnw : ∀ k, rowB (some ⟨O, 0, none⟩) k → w.heap.size ≤ k := fun k ⟨o, e⟩ => by injection e with e; injection e with e; have := HO.out; omega
      have HNW := hide hnw
      clear hsl hv HM hn1 hn2 hnw
      go_wp2_with (at_builtin; refine wpList_append_slab _ rfl (.tmp 43) (.tmp 45) 23 rfl 44 i0 _ 1 4 Try.underlying23 hi0 hz0 hz1 hz2 rfl (by omega) (some ⟨O, 0, none⟩) i (i + 1) (u32s ts) rfl HS4.out (fun _ => True) true (some ⟨wr.heap.size, 0, none⟩) 1 1 [.int .u32 (cy : Int)] rfl HR4.out (Nat.zero_lt_one) (fun u hu => by simp at hu; subst hu; rfl) (by unfold maxLen; omega) (by omega) ?_)
      intro A5 c5 w5 h1 h2 h3
      have hk5 : Keeps NoB w w5 := HK4.out.trans' h2 (fun _ _ h => h) (fun k hk hr => absurd (HNW.out k hr) (Nat.not_le.2 hk))
      have hl5 : LimbsIn w5 (fun k => w.heap.size ≤ k) A5 (i + 1) c5 (ts ++ [cy]) := (LimbsIn.of_slab (l := ts ++ [cy]) (by rw [u32s_append]; exact h1) (HLW.out.append (fun x hx => by simp at hx; subst hx; unfold B32; omega))).more (fun k _ hr => by
        rcases h3 k hr with h | h
        · exact HNW.out k h
        · exact Nat.le_trans HK4.out.size h)
      have HK5 := hide hk5; have HL5 := hide hl5
      clear h1 h2 h3 hk5 hl5
      go_wp2
      go_ret
      exact ⟨A5, i + 1, c5, ts ++ [cy], ts, cy, rfl, HL5.out, rfl, by rw [nat_append, HLT.out]; simp [nat], HLT.out, HLW.out, HV.out, HK5.out⟩
end Go.Proofs.Ytfehciiidmgopaa
