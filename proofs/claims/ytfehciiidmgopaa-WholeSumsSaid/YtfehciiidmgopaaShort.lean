/- short: an amount parted by a limb. -/
import Derived.Test.YtfehciiidmgopaaTimes
import Derived.Laws.BitsAllLaws
namespace Go.Proofs.Ytfehciiidmgopaa
open Go.RowKit

set_option maxRecDepth 100000 in
theorem div32_any (hi lo y : Nat) (h1 : hi < y) (h2 : y < B32) (h3 : lo < B32) (w : World) :
    Calls Try.prog 61 #[.int .u32 (hi : Int), .int .u32 (lo : Int), .int .u32 (y : Int)] w fun e w' => e = .returned (.tuple #[.int .u32 (((hi * B32 + lo) / y : Nat) : Int), .int .u32 (((hi * B32 + lo) % y : Nat) : Int)]) ∧ Keeps NoB w w' := by
  have hb : ((y : Int) != 0) = true := by simp; omega
  have hb2 : decide (y ≤ hi) = false := decide_eq_false (by omega)
  have hb3 : decide ((y : Int) ≤ (hi : Int)) = false := by simp; omega
  obtain ⟨N, hN⟩ : ∃ N, N = hi * 4294967296 + lo := ⟨_, rfl⟩
  unfold B32 at *
  have e1 : bits .or .u64 ((hi : Int) * 4294967296) (lo : Int) = (N : Int) := by
    have := u64_or_nat (hi * 4294967296) lo (by omega) (by omega)
    rw [nat_join 32 _ _ (by omega) (by omega), ← hN] at this
    rw [← this]; rfl
  have hq : N / y < 4294967296 := Nat.div_lt_of_lt_mul (by
    have : (hi + 1) * 4294967296 ≤ y * 4294967296 := Nat.mul_le_mul_right _ h1
    omega)
  have hr : N % y < y := Nat.mod_lt _ (by omega)
  have hN2 : (N : Int) < 18446744073709551616 := by omega
  have hy0 : ((y : Int) == 0) = false := by simp; omega
  have hy1 : ¬ (y : Int) = 0 := by omega
  obtain ⟨q, hq0⟩ : ∃ q, N / y = q := ⟨_, rfl⟩
  obtain ⟨r, hr0⟩ : ∃ r, N % y = r := ⟨_, rfl⟩
  rw [← hN, hq0, hr0]
  rw [hq0] at hq
  rw [hr0] at hr
  have hq1 : IntKind.u64.wrap ((N : Int) / (y : Int)) = (q : Int) := by
    have : (N : Int) / (y : Int) = (q : Int) := by rw [← hq0]; rfl
    rw [this]; unfold IntKind.wrap; simp [IntKind.bits, IntKind.signed]; omega
  have hr1 : (N : Int) % (y : Int) = (r : Int) := by rw [← hr0]; rfl
  clear hN hq0 hr0
  go_enter Try.func61, Try.ntmps61
  go_wp2_with (go_quiet (fail))
  go_ret2
  exact ⟨rfl, (Keeps.refl _ _).drewN _⟩

/-- The loop's state: the digits from k on are done. -/
structure DivAt (w1 : World) (O : Nat) (l : List Nat) (y k r : Nat) (wr : World) (qs : List Nat) : Prop where
  keep : Keeps (fun j => j = O) w1 wr
  row : RowAt wr O qs
  len : qs.length = l.length
  low : Low qs
  zero : ∀ j, j < k → qs.getD j 0 = 0
  rest : r < y
  val : nat qs * y + B32 ^ k * r + pre l k = nat l
theorem DivAt.start {w1 : World} {O y n : Nat} {l : List Nat} (h : RowAt w1 O (List.replicate n 0)) (hn : l.length = n) (hy : 0 < y) : DivAt w1 O l y n 0 w1 (List.replicate n 0) :=
  ⟨Keeps.refl _ _, h, by simp [hn], Low.zeros _, fun j _ => getD_zeros _ _, hy, by rw [nat_zeros, ← hn, pre_len]; simp⟩
theorem DivAt.step {w1 wr w' : World} {O y k r x d r' : Nat} {l qs : List Nat} (h : DivAt w1 O l y (k + 1) r wr qs) (hx : l.getD k 0 = x) (hk : k < l.length) (hs : r * B32 + x = d * y + r') (hd : d < B32) (hr' : r' < y)
    (hr : RowAt w' O (qs.set k d)) (hkp : Keeps (fun j => j = O) w1 w') : DivAt w1 O l y k r' w' (qs.set k d) := by
  subst hx
  refine ⟨hkp, hr, by rw [List.length_set]; exact h.len, h.low.set _ _ hd, fun j hj => ?_, hr', ?_⟩
  · rw [getD_set_ne _ _ (by omega)]; exact h.zero j (by omega)
  · have hv := h.val
    rw [pre] at hv
    exact div_step hv (nat_put0 qs d (by rw [h.len]; omega) (h.zero k (by omega))) hs

def ShortP (w : World) (n N y : Nat) (e : Ending) (w' : World) : Prop := ∃ (O r : Nat) (qs : List Nat), e = .returned (.tuple #[.slice (some ⟨O, 0, none⟩) n n, .int .u32 (r : Int)]) ∧ w.heap.size ≤ O ∧ RowAt w' O qs ∧ qs.length = n ∧ Low qs ∧ r < y ∧ nat qs * y + r = N ∧ Keeps NoB w w'

set_option maxRecDepth 100000 in
theorem short_any (A : Option Addr) (n c y : Nat) (l : List Nat) (w : World) (B : Nat → Prop) (h : LimbsIn w B A n c l) (hn : n ≤ 32) (hy : 0 < y) (hy2 : y < B32) :
    Calls Try.prog 40 #[.slice A n c, .int .u32 (y : Int)] w (ShortP w n (nat l) y) := by
  have hln := h.len
  have HA := hide (h.more (B' := fun k => k < w.heap.size) (fun k h _ => h))
  clear h
  obtain ⟨i0, hi0, hz0, hz1, hz2⟩ := info_parts Try.info44
  have HY := hide (And.intro hy hy2)
  go_enter Try.func40, Try.ntmps40
  go_wp2_with (at_make; refine wpList_make_full _ rfl _ _ 23 rfl w.heap.size 44 i0 _ 1 Try.underlying23 hi0 hz0 hz1 .i64 .i64 _ _ n rfl rfl rfl rfl (by rw [hz2]; omega) (by unfold maxLen; omega) (Nat.le_refl _) ?_)
  intro w1 hown hgrow
  have hro := row_made hown
  have hk1 : Keeps NoB w w1 := (Keeps.refl NoB w).grown hgrow (fun k h => by cases h)
  obtain ⟨O, hO⟩ : ∃ O, w.heap.size = O := ⟨_, rfl⟩
  rw [hO] at hro ⊢
  have HA1 := hide (HA.out.keep hk1)
  have HK1 := hide hk1
  have HM0 := hide (DivAt.start hro hln hy)
  have HF := hide (show ∀ k, k < w.heap.size → ¬ k = O by omega)
  have HO := hide hO
  clear hk1 hown hgrow hro hO i0 hi0 hz0 hz1 hz2 HA
  go_wp2
  go_loopw [7, 8] (fun rv iv wr => ∃ (k r : Nat) (qs : List Nat), rv = .int .u32 (r : Int) ∧ iv = .int .i64 ((k : Int) - 1) ∧ k ≤ n ∧ Hid (DivAt w1 O l y k r wr qs)) (fun _ iv _ => (intOf iv + 1).toNat)
  case atStart => exact ⟨n, 0, _, rfl, rfl, Nat.le_refl _, HM0⟩
  case round =>
    obtain ⟨k, r, qs, rfl, rfl, hk, HM⟩ := hrel
    rcases k with _ | k
    · have HV := hide (show nat qs * y + r = nat l from by have := HM.out.val; rw [Nat.pow_zero, Nat.one_mul] at this; exact this)
      go_wp2
      go_ret2
      exact ⟨O, r, qs, rfl, by have := HO.out; omega, HM.out.row, by rw [HM.out.len, hln], HM.out.low, HM.out.rest, HV.out, HK1.out.trans' HM.out.keep (fun _ _ h => h) (fun k h1 h2 => by have := HO.out; omega)⟩
    · obtain ⟨b, o, rfl, hb, hc⟩ := (HA1.out.far HM.out.keep HF.out).at (by omega)
      have q := hc k (by omega)
      obtain ⟨X, hX⟩ : ∃ X, l.getD k 0 = X := ⟨_, rfl⟩
      have HXX := hide hX
      have hx : X < B32 := hX ▸ HA1.out.low.get k
      have hr := HM.out.rest
      rw [hX] at q
      have hk0 : (0 : Int) ≤ (k : Int) := by omega
      have hk1 : (k : Int) < (n : Int) := by omega
      have hk2 : ((k + 1 : Nat) : Int) - 1 = (k : Int) := by omega
      have hk3 : k < n := by omega
      rw [hk2]
      have hlen := HM.out.len
      have r1 : wr.cell? ⟨O, k, none⟩ = some (.int .u32 ((qs.getD k 0 : Nat) : Int)) := HM.out.row.cell (by omega)
      have r2 : wr.frozen? ⟨O, k, none⟩ = false := HM.out.row.free k
      have HD := hide (div32_any r X y hr HY.out.2 hx wr)
      have hN : (r * B32 + X) / y < B32 := Nat.div_lt_of_lt_mul (by
        have : (r + 1) * B32 ≤ y * B32 := Nat.mul_le_mul_right _ hr
        rw [Nat.add_mul, Nat.one_mul] at this
        omega)
      have hR : (r * B32 + X) % y < y := Nat.mod_lt _ HY.out.1
      have hE : r * B32 + X = (r * B32 + X) / y * y + (r * B32 + X) % y := by have := Nat.div_add_mod (r * B32 + X) y; rw [Nat.mul_comm y] at this; exact this.symm
      generalize (r * B32 + X) / y = d at *
      generalize (r * B32 + X) % y = r' at *
      have HST := hide (fun w' hr hkp => HM.out.step (w' := w') HXX.out (by omega) hE hN hR hr hkp)
      have HR := hide HM.out.row; have HKP := hide HM.out.keep
      generalize qs.getD k 0 = old at *
      unfold B32 at hx hN
      clear hc hX HM hE hR hk2
      go_wp2_with (go_at_call 61; refine HD.out.mono ?_; rintro e w2 ⟨rfl, hk2⟩; have HR2 := hide (HR.out.keep hk2 id); have HKP2 := hide (HKP.out.trans' hk2 (fun _ _ h => h) (fun _ _ h => h.elim)); have r1' := hk2.cell id r1; have r2' := HR2.out.free k; clear hk2 HR HKP r1 r2)
      go_roundw
      case rel => exact ⟨k, r', qs.set k d, rfl, rfl, by omega, hide (HST.out _ (HR2.out.put k rfl) (HKP2.out.setCell (p := ⟨O, k, none⟩) (.inl rfl) _))⟩
      case measure => simp [intOf]
end Go.Proofs.Ytfehciiidmgopaa
