/- Times: the product of two integers. -/
import Derived.Test.YtfehciiidmgopaaRow
namespace Go.Proofs.Ytfehciiidmgopaa
open Go.RowKit



/-- The outer loop's state: i digits of the first one are done. -/
structure MulAt (w1 : World) (O : Nat) (la lb : List Nat) (i : Nat) (wr : World) (os : List Nat) : Prop where
  keep : Keeps (fun k => k = O) w1 wr
  row : RowAt wr O os
  len : os.length = la.length + lb.length
  low : Low os
  zero : ∀ j, i + lb.length ≤ j → os.getD j 0 = 0
  val : nat os = pre la i * nat lb
/-- The inner one's: of digit x, k of the second one's. -/
structure MulIn (w1 : World) (O : Nat) (la lb : List Nat) (i k x c : Nat) (wr : World) (os : List Nat) : Prop where
  keep : Keeps (fun k => k = O) w1 wr
  row : RowAt wr O os
  len : os.length = la.length + lb.length
  low : Low os
  zero : ∀ j, i + lb.length ≤ j → os.getD j 0 = 0
  carry : c < B32
  val : nat os + B32 ^ (i + k) * c = pre la i * nat lb + x * (B32 ^ i * pre lb k)
theorem MulAt.start {w1 : World} {O : Nat} {la lb : List Nat} (h : RowAt w1 O (List.replicate (la.length + lb.length) 0)) : MulAt w1 O la lb 0 w1 (List.replicate (la.length + lb.length) 0) :=
  ⟨Keeps.refl _ _, h, by simp, Low.zeros _, fun j _ => getD_zeros _ _, by rw [nat_zeros]; simp [pre]⟩
theorem MulAt.into {w1 wr : World} {O i : Nat} {la lb os : List Nat} (h : MulAt w1 O la lb i wr os) (x : Nat) : MulIn w1 O la lb i 0 x 0 wr os :=
  ⟨h.keep, h.row, h.len, h.low, h.zero, by decide, by rw [h.val]; simp [pre]⟩
theorem MulIn.step {w1 wr w' : World} {O i k x c j y old s : Nat} {la lb os : List Nat} (h : MulIn w1 O la lb i k x c wr os) (hj : j = i + k) (hk : k < lb.length) (hi : i < la.length) (hy : lb.getD k 0 = y) (ho : os.getD j 0 = old) (hs : c + x * y + old = s) (hs2 : s < B32 * B32)
    (hr : RowAt w' O (os.set j (s % B32))) (hkp : Keeps (fun k => k = O) w1 w') : MulIn w1 O la lb i (k + 1) x (s / B32) w' (os.set j (s % B32)) := by
  subst hj hy ho
  refine ⟨hkp, hr, by rw [List.length_set]; exact h.len, h.low.set _ _ (Nat.mod_lt _ (by decide)), fun j hj => ?_, Nat.div_lt_of_lt_mul hs2, ?_⟩
  · rw [getD_set_ne _ _ (by omega)]; exact h.zero j hj
  · exact mul_step h.val (nat_set os _ (by rw [h.len]; omega)) (by rw [hs]; exact (Nat.mod_add_div s B32).symm)
theorem MulIn.done {w1 wr w' : World} {O i x c j : Nat} {la lb os : List Nat} (h : MulIn w1 O la lb i lb.length x c wr os) (hj : j = i + lb.length) (hi : i < la.length) (hx : la.getD i 0 = x)
    (hr : RowAt w' O (os.set j c)) (hkp : Keeps (fun k => k = O) w1 w') : MulAt w1 O la lb (i + 1) w' (os.set j c) := by
  subst hj hx
  refine ⟨hkp, hr, by rw [List.length_set]; exact h.len, h.low.set _ _ h.carry, fun j hj => ?_, ?_⟩
  · rw [getD_set_ne _ _ (by omega)]; exact h.zero j (by omega)
  · have h1 := nat_put0 os c (i := i + lb.length) (by rw [h.len]; omega) (h.zero _ (Nat.le_refl _))
    have h2 := h.val
    rw [pre_len] at h2
    exact mul_end h2 h1
theorem mul_small {x y : Nat} (hx : x < B32) (hy : y < B32) : x * y ≤ 18446744065119617025 := by
  have h1 : x ≤ 4294967295 := by unfold B32 at hx; omega
  have h2 : y ≤ 4294967295 := by unfold B32 at hy; omega
  exact Nat.mul_le_mul h1 h2

theorem mul_abs (x y : Int) : (x * y).natAbs = x.natAbs * y.natAbs := Int.natAbs_mul x y
theorem mul_sgn {ng ng' : Bool} {x y : Int} (h1 : ng = decide (x < 0)) (h2 : ng' = decide (y < 0)) : sgn (ng != ng') (x.natAbs * y.natAbs) = x * y := by
  subst h1 h2
  unfold sgn
  rcases Int.lt_or_le x 0 with e | e <;> rcases Int.lt_or_le y 0 with e' | e'
  · have h : (decide (x < 0) != decide (y < 0)) = false := by simp [e, e']
    rw [h, if_neg (by decide)]
    obtain ⟨a, rfl⟩ : ∃ a : Nat, x = -(a : Int) := ⟨x.natAbs, by omega⟩
    obtain ⟨b, rfl⟩ : ∃ b : Nat, y = -(b : Int) := ⟨y.natAbs, by omega⟩
    rw [Int.neg_mul_neg, Int.natAbs_neg, Int.natAbs_neg]; rfl
  · have h : (decide (x < 0) != decide (y < 0)) = true := by simp [e]; exact e'
    rw [h, if_pos rfl]
    obtain ⟨a, rfl⟩ : ∃ a : Nat, x = -(a : Int) := ⟨x.natAbs, by omega⟩
    obtain ⟨b, rfl⟩ : ∃ b : Nat, y = (b : Int) := ⟨y.natAbs, by omega⟩
    rw [Int.neg_mul, Int.natAbs_neg]; rfl
  · have h : (decide (x < 0) != decide (y < 0)) = true := by simp [e']; exact e
    rw [h, if_pos rfl]
    obtain ⟨a, rfl⟩ : ∃ a : Nat, x = (a : Int) := ⟨x.natAbs, by omega⟩
    obtain ⟨b, rfl⟩ : ∃ b : Nat, y = -(b : Int) := ⟨y.natAbs, by omega⟩
    rw [Int.mul_neg, Int.natAbs_neg]; rfl
  · have h : (decide (x < 0) != decide (y < 0)) = false := by
      rw [decide_eq_false (by omega), decide_eq_false (by omega)]; rfl
    rw [h, if_neg (by decide)]
    obtain ⟨a, rfl⟩ : ∃ a : Nat, x = (a : Int) := ⟨x.natAbs, by omega⟩
    obtain ⟨b, rfl⟩ : ∃ b : Nat, y = (b : Int) := ⟨y.natAbs, by omega⟩
    rfl

theorem Blk.new3' (w : World) (o o' : Obj) (t : TypeId) (cs : Array Value) : Blk (((w.alloc o).alloc o').alloc (.cells cs t)) (w.heap.size + 1 + 1) t cs := by
  have := Blk.new ((w.alloc o).alloc o') t cs
  simpa using this
theorem times_room {n n' : Nat} (h : n ≤ 32) (h' : n' ≤ 32) : n + n' ≤ 64 := by omega
set_option maxRecDepth 100000 in
theorem times_any (ng ng' : Bool) (A A' ia ta ia' ta' : Option Addr) (n c n' c' ic tc ic' tc' : Nat) (x y : Int) (w : World) (B B' : Nat → Prop) (h : IA w B ng A n c x) (h' : IA w B' ng' A' n' c' y) :
    Calls Try.prog 11 #[.agg #[.int .u8 1, .bool ng, .slice A n c, .string { data := #[] }, .int .i64 0, .slice ia 0 ic, .slice ta 0 tc], .agg #[.int .u8 1, .bool ng', .slice A' n' c', .string { data := #[] }, .int .i64 0, .slice ia' 0 ic', .slice ta' 0 tc']] w (AnyP w (x * y)) := by
  have HI := hide h; have HI' := hide h'
  have hn := h.len; have hn' := h'.len
  have hln := h.limbs.len; have hln' := h'.limbs.len
  have HS := hide (mul_sgn h.sign h'.sign)
  have HN := hide (And.intro (nat_dig x.natAbs) (nat_dig y.natAbs))
  clear h h'
  obtain ⟨L, hL⟩ : ∃ L, n + n' = L := ⟨_, rfl⟩
  have hL' : (n : Int) + (n' : Int) = (L : Int) := by omega
  have hL0 : L ≤ 64 := by omega
  obtain ⟨i0, hi0, hz0, hz1, hz2⟩ := info_parts Try.info44
  go_enter Try.func11, Try.ntmps11
  have HX0 := hide (((Blk.new w 26 #[.int .u8 1, .bool ng, .slice A n c, .string { data := #[] }, .int .i64 0, .slice ia 0 ic, .slice ta 0 tc]).alloc (.cells #[.int .u8 1, .bool ng', .slice A' n' c', .string { data := #[] }, .int .i64 0, .slice ia' 0 ic', .slice ta' 0 tc'] 26)).alloc (.cells #[.int .u8 0, .bool false, .slice none 0 0, .string { data := #[] }, .int .i64 0, .slice none 0 0, .slice none 0 0] 26))
  have HY0 := hide ((Blk.new2' w (.cells #[.int .u8 1, .bool ng, .slice A n c, .string { data := #[] }, .int .i64 0, .slice ia 0 ic, .slice ta 0 tc] 26) 26 #[.int .u8 1, .bool ng', .slice A' n' c', .string { data := #[] }, .int .i64 0, .slice ia' 0 ic', .slice ta' 0 tc']).alloc (.cells #[.int .u8 0, .bool false, .slice none 0 0, .string { data := #[] }, .int .i64 0, .slice none 0 0, .slice none 0 0] 26))
  have HZ0 := hide (Blk.new3' w (.cells #[.int .u8 1, .bool ng, .slice A n c, .string { data := #[] }, .int .i64 0, .slice ia 0 ic, .slice ta 0 tc] 26) (.cells #[.int .u8 1, .bool ng', .slice A' n' c', .string { data := #[] }, .int .i64 0, .slice ia' 0 ic', .slice ta' 0 tc'] 26) 26 #[.int .u8 0, .bool false, .slice none 0 0, .string { data := #[] }, .int .i64 0, .slice none 0 0, .slice none 0 0])
  have HK0 := hide ((((Keeps.refl NoB w).alloc (.cells #[.int .u8 1, .bool ng, .slice A n c, .string { data := #[] }, .int .i64 0, .slice ia 0 ic, .slice ta 0 tc] 26)).alloc (.cells #[.int .u8 1, .bool ng', .slice A' n' c', .string { data := #[] }, .int .i64 0, .slice ia' 0 ic', .slice ta' 0 tc'] 26)).alloc (.cells #[.int .u8 0, .bool false, .slice none 0 0, .string { data := #[] }, .int .i64 0, .slice none 0 0, .slice none 0 0] 26))
  have HR1 := hide True.intro
  go_wp2_with first | (clear HR1; go_at_call 24; refine ((HI.out.keep HK0.out).right _ _ _ _).mono ?_; rintro e w1 ⟨rfl, hk1⟩; have HK1 := hide (HK0.out.trans' hk1 (fun _ _ => id) (fun _ _ => id)); have HX1 := hide (HX0.out.keep hk1 id); have HY1 := hide (HY0.out.keep hk1 id); have HZ1 := hide (HZ0.out.keep hk1 id); clear hk1 HX0 HY0 HZ0 HK0; have y0 : w1.cell? ⟨w.heap.size + 1, 0, none⟩ = some (.int .u8 1) := HY1.out.cell 0; have y1 : w1.cell? ⟨w.heap.size + 1, 1, none⟩ = some (.bool ng') := HY1.out.cell 1; have y2 : w1.cell? ⟨w.heap.size + 1, 2, none⟩ = some (.slice A' n' c') := HY1.out.cell 2; have y3 : w1.cell? ⟨w.heap.size + 1, 3, none⟩ = some (.string { data := #[] }) := HY1.out.cell 3; have y4 : w1.cell? ⟨w.heap.size + 1, 4, none⟩ = some (.int .i64 0) := HY1.out.cell 4; have y5 : w1.cell? ⟨w.heap.size + 1, 5, none⟩ = some (.slice ia' 0 ic') := HY1.out.cell 5; have y6 : w1.cell? ⟨w.heap.size + 1, 6, none⟩ = some (.slice ta' 0 tc') := HY1.out.cell 6) | (go_at_call 24; refine ((HI'.out.keep HK1.out).right _ _ _ _).mono ?_; rintro e w2 ⟨rfl, hk2⟩; have HK2 := hide (HK1.out.trans' hk2 (fun _ _ => id) (fun _ _ => id)); have HX2 := hide (HX1.out.keep hk2 id); have HY2 := hide (HY1.out.keep hk2 id); have HZ2 := hide (HZ1.out.keep hk2 id); clear hk2 HX1 HY1 HZ1 HK1 y0 y1 y2 y3 y4 y5 y6; have x2 : w2.cell? ⟨w.heap.size, 2, none⟩ = some (.slice A n c) := HX2.out.cell 2; have y2 : w2.cell? ⟨w.heap.size + 1, 2, none⟩ = some (.slice A' n' c') := HY2.out.cell 2) | (at_make; refine wpList_make_full _ rfl _ _ 23 rfl w2.heap.size 44 i0 _ 1 Try.underlying23 hi0 hz0 hz1 .i64 .i64 _ _ L rfl rfl rfl rfl (by rw [hz2]; omega) (by unfold maxLen; omega) (Nat.le_refl _) ?_) | fail
  intro w3 hown hgrow
  obtain ⟨O, hO⟩ : ∃ O, w2.heap.size = O := ⟨_, rfl⟩
  rw [hO] at hown ⊢
  have hro := row_made hown
  have hk3 : Keeps NoB w2 w3 := (Keeps.refl NoB w2).grown hgrow (fun k h => by cases h)
  have hgo : w.heap.size + 1 + 1 < O := by rw [← hO]; exact HZ2.out.lt
  have HX3 := hide (HX2.out.keep hk3 id); have HY3 := hide (HY2.out.keep hk3 id); have HZ3 := hide (HZ2.out.keep hk3 id)
  have HK3 := hide (HK2.out.trans' hk3 (fun _ _ => id) (fun _ _ => id))
  clear hk3 hown hgrow hO x2 y2 HX2 HY2 HZ2 HK2 i0 hi0 hz0 hz1 hz2
  have HA := hide ((HI.out.limbs.more (B' := fun k => k < w.heap.size) (fun k h _ => h)).keep HK3.out); have HB := hide ((HI'.out.limbs.more (B' := fun k => k < w.heap.size) (fun k h _ => h)).keep HK3.out)
  have hfo : ∀ k, k < w.heap.size → ¬ k = O := by omega
  have hfg : ¬ w.heap.size + 1 = O := by omega
  have hf0 : ¬ w.heap.size = O := by omega
  have hf2 : ¬ w.heap.size + 1 + 1 = O := by omega
  have HF := hide hfo; have HFG := hide hfg; have HFG0 := hide hf0; have HFG2 := hide hf2; clear hfo hfg hf0 hf2
  have hBO : ∀ k, k = O → w.heap.size ≤ k := by omega
  generalize dig x.natAbs = la at *
  generalize dig y.natAbs = lb at *
  rw [← hL, ← hln, ← hln'] at hro
  have HM0 := hide (MulAt.start hro)
  clear hro
  have y2 : w3.cell? ⟨w.heap.size + 1, 2, none⟩ = some (.slice A' n' c') := HY3.out.cell 2
  have x2 : w3.cell? ⟨w.heap.size, 2, none⟩ = some (.slice A n c) := HX3.out.cell 2
  go_wp2
  go_loopw [32] (fun iv wr => ∃ (i : Nat) (os : List Nat), iv = .int .i64 (i : Int) ∧ i ≤ n ∧ Hid (MulAt w3 O la lb i wr os)) (fun iv _ => n - (intOf iv).toNat)
  case atStart => exact ⟨0, _, rfl, Nat.zero_le _, HM0⟩
  case round =>
    obtain ⟨i, os, rfl, hi, HM⟩ := hrel
    by_cases hlt : i < n
    · obtain ⟨b, o, rfl, hb, hc⟩ := (HA.out.far HM.out.keep HF.out).at (by omega)
      have q := hc i hlt
      have hx : la.getD i 0 < B32 := HA.out.low.get i
      have HX := hide (show la.getD i 0 = la.getD i 0 from rfl)
      obtain ⟨X, hX⟩ : ∃ X, la.getD i 0 = X := ⟨_, rfl⟩
      have HXX := hide hX
      rw [hX] at q hx
      unfold B32 at hx
      have hi0 : (0 : Int) ≤ (i : Int) := by omega
      have hi1 : (i : Int) < (n : Int) := by omega
      have y2 : wr.cell? ⟨w.heap.size + 1, 2, none⟩ = some (.slice A' n' c') := HM.out.keep.cell HFG.out (HY3.out.cell 2)
      clear hc hX HX
      go_wp2
      go_loopw [9, 40] (fun cv kv wi => ∃ (k cy : Nat) (os2 : List Nat), cv = .int .u64 (cy : Int) ∧ kv = .int .i64 (k : Int) ∧ k ≤ n' ∧ Hid (MulIn w3 O la lb i k X cy wi os2)) (fun _ kv _ => n' - (intOf kv).toNat)
      case atStart => exact ⟨0, 0, os, rfl, rfl, Nat.zero_le _, hide (HM.out.into X)⟩
      case round =>
        obtain ⟨k, cy, os2, rfl, rfl, hk, HN2⟩ := hrel
        have hlen2 := HN2.out.len
        by_cases hlt2 : k < n'
        · obtain ⟨b', o', rfl, hb', hc'⟩ := (HB.out.far HN2.out.keep HF.out).at (by omega)
          have q' := hc' k hlt2
          obtain ⟨Y, hY⟩ : ∃ Y, lb.getD k 0 = Y := ⟨_, rfl⟩
          obtain ⟨j, hj⟩ : ∃ j, j = i + k := ⟨_, rfl⟩
          obtain ⟨old, ho⟩ : ∃ old, os2.getD j 0 = old := ⟨_, rfl⟩
          have hold : old < B32 := ho ▸ HN2.out.low.get j
          have hy : Y < B32 := hY ▸ HB.out.low.get k
          have hcy := HN2.out.carry
          obtain ⟨p, hp⟩ : ∃ p, X * Y = p := ⟨_, rfl⟩
          have hp2 : p ≤ 18446744065119617025 := hp ▸ mul_small (by unfold B32; exact hx) hy
          have hp1 : (X : Int) * (Y : Int) = (p : Int) := by rw [← hp]; rfl
          have e0 : w.heap.size = w.heap.size := rfl
          have r1 : wr.cell? ⟨O, j, none⟩ = some (.int .u32 (old : Int)) := ho ▸ HN2.out.row.cell (by omega)
          have r2 : wr.frozen? ⟨O, j, none⟩ = false := HN2.out.row.free j
          rw [hY] at q'
          have HST := hide (fun w' s hs hs2 hr hkp => HN2.out.step (w' := w') (s := s) hj (by omega) (by omega) hY ho hs hs2 hr hkp)
          rw [hp] at HST
          have hj1 : (i : Int) + (k : Int) = (j : Int) := by omega
          have hj2 : (j : Int) < (L : Int) := by omega
          have hj3 : (0 : Int) ≤ (j : Int) := by omega
          have hj4 : j < L := by omega
          have hk0 : (0 : Int) ≤ (k : Int) := by omega
          have hk1 : (k : Int) < (n' : Int) := by omega
          unfold B32 at hold hy hcy
          clear hc' hY hj ho hp e0
          have HR := hide HN2.out.row; have HKP := hide HN2.out.keep
          clear HN2
          go_wp2
          go_roundw
          case rel => exact ⟨k + 1, (cy + p + old) / B32, os2.set j ((cy + p + old) % B32), congrArg (Value.int .u64) (by unfold B32; omega), rfl, by omega, hide (HST.out _ _ rfl (by unfold B32; omega) (HR.out.put j (by unfold B32; omega)) (HKP.out.setCell (p := ⟨O, j, none⟩) (.inl rfl) _))⟩
          case measure => simp [intOf]; omega
        · obtain rfl : k = n' := by omega
          have hcy := HN2.out.carry
          unfold B32 at hcy
          obtain ⟨j, hj⟩ : ∃ j, j = i + k := ⟨_, rfl⟩
          have hj1 : (i : Int) + (k : Int) = (j : Int) := by omega
          have hj2 : (j : Int) < (L : Int) := by omega
          have hj3 : (0 : Int) ≤ (j : Int) := by omega
          have hj4 : j < L := by omega
          have r2 : wr.frozen? ⟨O, j, none⟩ = false := HN2.out.row.free j
          have r1 : wr.cell? ⟨O, j, none⟩ = some (.int .u32 ((os2.getD j 0 : Nat) : Int)) := HN2.out.row.cell (by omega)
          have y2 : wr.cell? ⟨w.heap.size + 1, 2, none⟩ = some (.slice A' k c') := HN2.out.keep.cell HFG.out (HY3.out.cell 2)
          have HST := hide (fun w' hr hkp => MulIn.done (w' := w') (hln' ▸ HN2.out) (hln' ▸ hj) (by omega) HXX.out hr hkp)
          have HR := hide HN2.out.row; have HKP := hide HN2.out.keep
          generalize os2.getD j 0 = oldv at *
          clear HN2 hj
          go_wp2
          go_roundw
          case rel => exact ⟨i + 1, os2.set j cy, rfl, by omega, hide (HST.out _ (HR.out.put j rfl) (HKP.out.setCell (p := ⟨O, j, none⟩) (.inl rfl) _))⟩
          case measure => simp [intOf]; omega
    · obtain rfl : i = n := by omega
      have HRL := hide (HM.out.row.limbs (n := L) (by rw [HM.out.len]; omega) (by unfold maxLen; omega) HM.out.low)
      have HV := hide (show nat os = x.natAbs * y.natAbs from by rw [HM.out.val, ← hln, pre_len, HN.out.1, HN.out.2])
      have HK4 := hide (HM.out.keep)
      have x1 : wr.cell? ⟨w.heap.size, 1, none⟩ = some (.bool ng) := HM.out.keep.cell HFG0.out (HX3.out.cell 1)
      have y1 : wr.cell? ⟨w.heap.size + 1, 1, none⟩ = some (.bool ng') := HM.out.keep.cell HFG.out (HY3.out.cell 1)
      have HZ4 := hide (HZ3.out.keep HM.out.keep HFG2.out)
      have HK5 := hide (HK3.out.trans' HM.out.keep (fun _ _ h => h) (fun k h1 h2 => by omega) : Keeps NoB w wr)
      clear HM HX3 HY3 HZ3 HK3 HK4
      go_wp2_with (go_at_call 35; refine (made_any _ _ _ (ng != ng') os (x * y) wr _ HRL.out (by rw [HV.out]; exact HS.out)).mono ?_; rintro e w5 ⟨kd, ng, A, n, c, ok, rfl, hr, hk⟩; have HB5 := hide (HZ4.out.keep hk id); have HA5 := hide hr; have HK6 := hide (HK5.out.trans' hk (fun _ _ => id) (fun _ _ => id)); clear hr hk; have z0 : w5.cell? ⟨w.heap.size + 1 + 1, 0, none⟩ = some (.int .u8 0) := HB5.out.cell 0; have z1 : w5.cell? ⟨w.heap.size + 1 + 1, 1, none⟩ = some (.bool false) := HB5.out.cell 1; have z2 : w5.cell? ⟨w.heap.size + 1 + 1, 2, none⟩ = some (.slice none 0 0) := HB5.out.cell 2; have z3 : w5.cell? ⟨w.heap.size + 1 + 1, 3, none⟩ = some (.string { data := #[] }) := HB5.out.cell 3; have z4 : w5.cell? ⟨w.heap.size + 1 + 1, 4, none⟩ = some (.int .i64 0) := HB5.out.cell 4; have z5 : w5.cell? ⟨w.heap.size + 1 + 1, 5, none⟩ = some (.slice none 0 0) := HB5.out.cell 5; have z6 : w5.cell? ⟨w.heap.size + 1 + 1, 6, none⟩ = some (.slice none 0 0) := HB5.out.cell 6; have f0 : w5.frozen? ⟨w.heap.size + 1 + 1, 0, none⟩ = false := HB5.out.free 0; have f1 : w5.frozen? ⟨w.heap.size + 1 + 1, 1, none⟩ = false := HB5.out.free 1; have f2 : w5.frozen? ⟨w.heap.size + 1 + 1, 2, none⟩ = false := HB5.out.free 2; have f3 : w5.frozen? ⟨w.heap.size + 1 + 1, 3, none⟩ = false := HB5.out.free 3; have f4 : w5.frozen? ⟨w.heap.size + 1 + 1, 4, none⟩ = false := HB5.out.free 4; have f5 : w5.frozen? ⟨w.heap.size + 1 + 1, 5, none⟩ = false := HB5.out.free 5; have f6 : w5.frozen? ⟨w.heap.size + 1 + 1, 6, none⟩ = false := HB5.out.free 6)
      have hsz := HZ4.out.lt
      have HBf := hide (HB5.out.put7 (.int .u8 kd) (.bool ng) (.slice A n c) (.string { data := #[] }) (.int .i64 0) (.slice none 0 0) (.slice none 0 0))
      have HKf := hide (HK6.out.set7 (g := w.heap.size + 1 + 1) (by omega) (.int .u8 kd) (.bool ng) (.slice A n c) (.string { data := #[] }) (.int .i64 0) (.slice none 0 0) (.slice none 0 0))
      have HAf := hide ((HA5.out.far (Keeps.set7' (g := w.heap.size + 1 + 1) (.int .u8 kd) (.bool ng) (.slice A n c) (.string { data := #[] }) (.int .i64 0) (.slice none 0 0) (.slice none 0 0)) (fun k hk e => by first | omega | (simp at hk; omega))).more (B' := fun k => w.heap.size ≤ k) (fun k _ hk => by first | omega | (simp at hk; omega)))
      clear z0 z1 z2 z3 z4 z5 z6 f0 f1 f2 f3 f4 f5 f6 HB5 HK6 HA5
      generalize (((((((w5.setCell ⟨w.heap.size + 1 + 1, 0, none⟩ (.int .u8 kd)).setCell ⟨w.heap.size + 1 + 1, 1, none⟩ (.bool ng)).setCell ⟨w.heap.size + 1 + 1, 2, none⟩ (.slice A n c)).setCell ⟨w.heap.size + 1 + 1, 3, none⟩ (.string { data := #[] })).setCell ⟨w.heap.size + 1 + 1, 4, none⟩ (.int .i64 0)).setCell ⟨w.heap.size + 1 + 1, 5, none⟩ (.slice none 0 0)).setCell ⟨w.heap.size + 1 + 1, 6, none⟩ (.slice none 0 0)) = wf at *
      have d0 : wf.cell? ⟨w.heap.size + 1 + 1, 0, none⟩ = some (.int .u8 kd) := HBf.out.cell 0
      have d1 : wf.cell? ⟨w.heap.size + 1 + 1, 1, none⟩ = some (.bool ng) := HBf.out.cell 1
      have d2 : wf.cell? ⟨w.heap.size + 1 + 1, 2, none⟩ = some (.slice A n c) := HBf.out.cell 2
      have d3 : wf.cell? ⟨w.heap.size + 1 + 1, 3, none⟩ = some (.string { data := #[] }) := HBf.out.cell 3
      have d4 : wf.cell? ⟨w.heap.size + 1 + 1, 4, none⟩ = some (.int .i64 0) := HBf.out.cell 4
      have d5 : wf.cell? ⟨w.heap.size + 1 + 1, 5, none⟩ = some (.slice none 0 0) := HBf.out.cell 5
      have d6 : wf.cell? ⟨w.heap.size + 1 + 1, 6, none⟩ = some (.slice none 0 0) := HBf.out.cell 6
      refine bodyPost_ret (v := .tuple #[.agg #[.int .u8 kd, .bool ng, .slice A n c, .string { data := #[] }, .int .i64 0, .slice none 0 0, .slice none 0 0], .bool ok]) (by simp [results, Try.results11, go_sem, d0, d1, d2, d3, d4, d5, d6]) rfl ?_
      exact ⟨kd, ng, A, n, c, ok, rfl, HAf.out, HKf.out⟩
end Go.Proofs.Ytfehciiidmgopaa
