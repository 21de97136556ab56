/- parts: quotient and rest of two rows of bits. -/
import Derived.Test.YtfehciiidmgopaaBitOf
import Derived.Test.YtfehciiidmgopaaPartLaw
import Derived.Test.YtfehciiidmgopaaDiv
namespace Go.Proofs.Ytfehciiidmgopaa
open Go.RowKit

/-- Block g is just these bits. -/
def RowB (w : World) (g : Nat) (l : List Bool) : Prop := Blk w g 4 (bools l).toArray
section
variable {w w' : World} {g : Nat} {l : List Bool} {fp : Nat → Prop}
theorem RowB.cell (h : RowB w g l) {i : Nat} (hi : i < l.length) : w.cell? ⟨g, i, none⟩ = some (.bool (l.getD i false)) := by
  rw [Blk.cell h i, List.getElem?_toArray, bools_get hi]
theorem RowB.free (h : RowB w g l) (i : Nat) : w.frozen? ⟨g, i, none⟩ = false := Blk.free h i
theorem RowB.lt (h : RowB w g l) : g < w.heap.size := Blk.lt h
theorem RowB.keep (h : RowB w g l) (hk : Keeps fp w w') (hg : ¬ fp g) : RowB w' g l := Blk.keep h hk hg
theorem RowB.put (h : RowB w g l) (i : Nat) (v : Bool) : RowB (w.setCell ⟨g, i, none⟩ (.bool v)) g (l.set i v) := by
  have := Blk.put h i (.bool v)
  unfold RowB
  rw [bools_set]
  simpa using this
theorem RowB.bits (h : RowB w g l) {n : Nat} (hn : l.length = n) (hm : n ≤ maxLen) : BitsIn w (fun k => k = g) (some ⟨g, 0, none⟩) n n l := by
  have hs : Slab w 4 1 (some ⟨g, 0, none⟩) n n (bools l) := Slab.mk' (by rw [bools_len]; omega) (Nat.le_refl _) hm h (by simp [bools_len, hn]) (fun j hj => by rw [List.getElem?_toArray, Nat.zero_add])
  exact (BitsIn.of_slab hs).more (fun k _ ⟨o, e⟩ => by injection e with e; injection e with e; exact e.symm)
end
theorem rowB_made {w : World} {base g n : Nat} (h : w.ownsRow base 4 1 (.slice (some ⟨g, 0, none⟩) n n) n (madeCells #[Value.bool false] n).toList) : RowB w g (List.replicate n false) := by
  rw [toList_madeCells_one] at h
  unfold RowB
  rw [bools_zeros]
  rcases h.2 with ⟨hv, _⟩ | ⟨g', cap, cur, hv, hb, hg, hnc, hcm, hcs, htake⟩
  · cases hv
  · injection hv with hv _ hc
    injection hv with hv
    injection hv with hv _ _
    subst hv hc
    rw [Nat.mul_one] at hcs htake
    have : cur.toList = List.replicate n (Value.bool false) := by
      rw [← htake, List.take_of_length_le (by simp [hcs])]
    unfold Blk
    rw [hg, ← this]

/-- k bits are left. -/
structure PartAt (w0 w1 : World) (Oq a b : Nat) (n k : Nat) (A : Option Addr) (m c R : Nat) (qs : List Bool) (wr : World) : Prop where
  keep : Keeps (fun k => k = Oq) w1 wr
  rowq : RowB wr Oq qs
  len : qs.length = n
  zero : ∀ j, j < k → qs.getD j false = false
  rest : R < b
  bits : BitsIn wr (fun k => w0.heap.size ≤ k ∧ ¬ k = Oq) A m c (digB R)
  val : natB qs * b + 2 ^ k * R + a % 2 ^ k = a
/-- What parts tells. -/
def PartP (w : World) (a b : Nat) (e : Ending) (w' : World) : Prop := ∃ Aq mq cq Ar mr cr, e = .returned (.tuple #[.slice Aq mq cq, .slice Ar mr cr]) ∧ mq = lenB (a / b) ∧ mr = lenB (a % b) ∧ BitsIn w' (fun k => w.heap.size ≤ k) Aq mq cq (digB (a / b)) ∧ BitsIn w' (fun k => w.heap.size ≤ k) Ar mr cr (digB (a % b)) ∧ Keeps NoB w w'
set_option maxHeartbeats 4000000 in
set_option maxRecDepth 100000 in
theorem parts_any (A A' : Option Addr) (n c n' c' : Nat) (la lb : List Bool) (w : World) (B B' : Nat → Prop) (h : BitsIn w B A n c la) (h' : BitsIn w B' A' n' c' lb) (hn : n ≤ 5000) (hn' : n' ≤ 5000) (hb0 : 0 < natB lb) :
    Calls Try.prog 42 #[.slice A n c, .slice A' n' c'] w (PartP w (natB la) (natB lb)) := by
  have hl := h.len
  have HA := hide (h.more (B' := fun k => k < w.heap.size) (fun k h _ => h)); have HA' := hide (h'.more (B' := fun k => k < w.heap.size) (fun k h _ => h))
  obtain ⟨i0, hi0, hz0, hz1, hz2⟩ := info_parts Try.info4
  have HB0 := hide hb0
  have HL := hide hl
  clear h h' hb0 hl
  go_enter Try.func42, Try.ntmps42
  go_wp2_with (at_make; refine wpList_make_full _ rfl _ _ 48 rfl w.heap.size 4 i0 _ 1 Try.underlying48 hi0 hz0 hz1 .i64 .i64 _ _ n rfl rfl rfl rfl (by rw [hz2]; omega) (by unfold maxLen; omega) (Nat.le_refl _) ?_)
  intro w1 hown hgrow
  have hro := rowB_made hown
  have hk1 : Keeps NoB w w1 := (Keeps.refl NoB w).grown hgrow (fun k h => by cases h)
  obtain ⟨O, hO⟩ : ∃ O, w.heap.size = O := ⟨_, rfl⟩
  rw [hO] at hro ⊢
  have HK1 := hide hk1
  have HOw := hide hO
  have HP0 := hide (⟨Keeps.refl _ _, hro, by simp, fun j _ => by rw [List.getD_eq_getElem?_getD, List.getElem?_replicate]; split <;> rfl, HB0.out, (by show BitsIn w1 _ none 0 0 (digB 0); exact BitsIn.nil _ _ _ _ (Nat.zero_le _)), by
    rw [show natB (List.replicate n false) = 0 from by
      have := natB_bits 0 n
      rw [Nat.zero_mod] at this
      rw [← this]; congr 1
      exact ext_getD (by rw [bitsOf_len]; simp) (fun i _ => by rw [bitsOf_get, Nat.zero_testBit, Bool.and_false, List.getD_eq_getElem?_getD, List.getElem?_replicate]; split <;> rfl)]
    rw [Nat.mod_eq_of_lt (HL.out ▸ natB_lt la)]; simp⟩ : PartAt w w1 O (natB la) (natB lb) n n none 0 0 0 (List.replicate n false) w1)
  clear hown hgrow hro hk1 hO
  go_wp2
  go_loopw [7, 8] (fun rv iv wr => ∃ (k : Nat) (AR : Option Addr) (m c R : Nat) (qs : List Bool), rv = .slice AR m c ∧ iv = .int .i64 ((k : Int) - 1) ∧ k ≤ n ∧ Hid (PartAt w w1 O (natB la) (natB lb) n k AR m c R qs wr)) (fun _ iv _ => (intOf iv + 1).toNat)
  case atStart => exact ⟨n, none, 0, 0, 0, _, rfl, rfl, Nat.le_refl _, HP0⟩
  case round =>
    obtain ⟨k, AR, m, cR, R, qs, rfl, rfl, hk, HM⟩ := hrel
    rcases k with _ | k
    · obtain ⟨hq, hr⟩ := div_mod_of (q := natB qs) (b := natB lb) (r := R) (a := natB la) (by have := HM.out.val; simpa [Nat.mod_one] using this) HM.out.rest
      have HC := hide (cutb_any (some ⟨O, 0, none⟩) n n qs wr _ (HM.out.rowq.bits HM.out.len (by unfold maxLen; omega)) (by omega))
      rw [hq] at HC
      have HRB := hide (hr ▸ HM.out.bits)
      have HMR := hide (show m = lenB (natB la % natB lb) from by rw [← hr, ← digB_len]; exact HM.out.bits.len.symm)
      have HKw := hide (HK1.out.trans' HM.out.keep (fun _ _ h => h) (fun k h1 h2 => by have := HOw.out; omega) : Keeps NoB w wr)
      clear hq hr
      go_wp2_with (go_at_call 59; refine HC.out.mono ?_; rintro e w5 ⟨mq, rfl, hm, hb, hk⟩; have HB5 := hide (hb.more (B' := fun k => w.heap.size ≤ k) (fun k _ h => by have := HOw.out; omega)); have HR5 := hide ((HRB.out.keep hk).more (B' := fun k => w.heap.size ≤ k) (fun k _ h => h.1)); have HM5 := hide hm; have HK5 := hide (HKw.out.trans' hk (fun _ _ h => h) (fun _ _ h => h)); clear hb hm hk)
      go_ret2
      exact ⟨_, mq, n, AR, m, cR, rfl, HM5.out, HMR.out, HB5.out, HR5.out, HK5.out⟩
    · have hk2 : ((k + 1 : Nat) : Int) - 1 = (k : Int) := by omega
      rw [hk2]
      obtain ⟨bb, ob, rfl, hbb, hcb⟩ := ((HA.out.keep HK1.out).far HM.out.keep (fun k h e => by have := HOw.out; omega)).at (by omega)
      have q := hcb k (by omega)
      obtain ⟨X, hX⟩ : ∃ X, la.getD k false = X := ⟨_, rfl⟩
      rw [hX] at q
      have HX := hide (show (natB la).testBit k = X from by rw [natB_test]; exact hX)
      have hk0 : (0 : Int) ≤ (k : Int) := by omega
      have hk1 : (k : Int) < (n : Int) := by omega
      have hmm : m ≤ 5000 := by
        have h1 := HM.out.bits.len
        have h2 : R < 2 ^ n' := Nat.lt_trans HM.out.rest (HA'.out.len ▸ natB_lt lb)
        rw [digB_len] at h1
        have := lenB_le.2 h2
        omega
      obtain ⟨F, hrr⟩ := (HM.out.bits.keep ((Keeps.refl NoB wr).alloc (.cells #[.bool X] 4))).reads
      have HRR := hide hrr
      clear hcb hX hbb hk2 hrr
      go_wp2_with (at_builtin; go_must (refine wpList_append_reads _ rfl (.tmp 23) (.tmp 24) 48 rfl wr.heap.size 4 i0 _ 1 1 Try.underlying48 hi0 hz0 hz1 hz2 rfl (by omega) (.slice (some ⟨wr.heap.size, 0, none⟩) 1 1) 1 [.bool X] rfl ?z1 _ F AR m cR (bools (digB R)) rfl HRR.out (bools_ones _) ?z3 ?z4 ?z5 ?_))
      case z1 => exact ⟨by simp, .inr ⟨wr.heap.size, 1, #[.bool X], rfl, Nat.le_refl _, heap_alloc_new wr _, Nat.le_refl 1, by unfold maxLen; omega, rfl, rfl⟩⟩
      case z3 => unfold maxLen; omega
      case z4 => omega
      case z5 => simp
      intro v' w5 hown hg hbl
      obtain ⟨A5, c5, hv, hs⟩ := Slab.of_own hown
      subst hv
      have hfr : ∀ k, rowB A5 k → wr.heap.size ≤ k := by
        rintro k ⟨o, rfl⟩
        rcases hown.2 with ⟨hv, _⟩ | ⟨g, cap, cur, hv, hb, _⟩
        · injection hv with hv _ _; cases hv
        · injection hv with hv _ _; injection hv with hv; injection hv with hv _ _; omega
      have hk5 : Keeps NoB wr w5 := ((Keeps.refl NoB wr).alloc (.cells #[.bool X] 4)).grown hg (fun k h hk => by simp [Value.ownBlock] at h; omega)
      have HOl := hide HM.out.rowq.lt
      have hw0 : w.heap.size ≤ wr.heap.size := Nat.le_trans HK1.out.size HM.out.keep.size
      have HB5 := hide ((BitsIn.of_slab (l := X :: digB R) hs).more (B' := fun k => w.heap.size ≤ k ∧ ¬ k = O) (fun k _ hr => by have h1 := hfr k hr; have h2 := HOl.out; omega))
      have HK5 := hide hk5
      obtain ⟨Z, hZ⟩ : ∃ Z, X.toNat + 2 * R = Z := ⟨_, rfl⟩
      have hnZ : natB (X :: digB R) = Z := by rw [natB_cons, natB_dig]; exact hZ
      have HC := hide (cutb_any A5 (1 + m) c5 _ w5 _ HB5.out (by omega))
      rw [hnZ] at HC
      have hmZ : lenB Z ≤ 1 + m := by rw [← HB5.out.len, ← hnZ]; exact lenB_le.2 (natB_lt _)
      have HZ := hide hZ
      clear hown hg hbl hs hfr hk5 hnZ hZ HRR
      have HQ := hide HM.out.val
      have HRQ := hide HM.out.rowq
      have HKQ := hide HM.out.keep
      have HLN := hide HM.out.len
      have r1 : wr.cell? ⟨O, k, none⟩ = some (.bool false) := HM.out.zero k (by omega) ▸ HM.out.rowq.cell (by rw [HM.out.len]; omega)
      have HAq := hide ((HA'.out.keep HK1.out).far HKQ.out (fun k h e => by have := HOw.out; omega))
      by_cases hlt : Z < natB lb
      · have HD := hide (show decide (Z < natB lb) = true from decide_eq_true hlt)
        have HNX := hide (part_no HQ.out HX.out)
        rw [HZ.out] at HNX
        have HLT := hide hlt
        clear hlt
        go_wp2_with first | (go_at_call 59; refine HC.out.mono ?_; rintro e w6 ⟨m6, rfl, hm6, hb6, hk6⟩; have HB6 := hide hb6; have HK6 := hide (HK5.out.trans' hk6 (fun _ _ h => h) (fun _ _ h => h)); have hm6' : m6 ≤ 5001 := (by omega); clear hm6 hb6 hk6) | (go_at_call 54; refine (below_any A5 A' m6 _ n' c' (max m6 n') (digB Z) lb _ _ _ HB6.out (HAq.out.keep HK6.out) rfl (by omega)).mono ?_; rintro e w7 ⟨rfl, hk7⟩; rw [natB_dig, HD.out]; have HB7 := hide (HB6.out.keep hk7); have HK7 := hide (HK6.out.trans' hk7 (fun _ _ h => h) (fun _ _ h => h)); clear hk7) | fail
        go_roundw
        case rel => exact ⟨k, A5, m6, _, Z, qs, rfl, rfl, by omega, hide ⟨HKQ.out.trans' HK7.out (fun _ _ h => h) (fun _ _ h => h.elim), HRQ.out.keep HK7.out id, HLN.out, fun j hj => HM.out.zero j (by omega), HLT.out, HB7.out, HNX.out⟩⟩
        case measure => simp [intOf]
      · have HD := hide (show decide (Z < natB lb) = false from decide_eq_false hlt)
        have hle : natB lb ≤ Z := Nat.le_of_not_lt hlt
        have HLE := hide hle
        have HNX := hide (part_yes HQ.out HX.out (by rw [HZ.out]; exact hle))
        have HLT := hide (show Z - natB lb < natB lb from HZ.out ▸ part_room HM.out.rest)
        rw [HZ.out] at HNX
        have HPT := hide (natB_put qs k (by rw [HLN.out]; omega) (HM.out.zero k (by omega)))
        clear hlt hle
        go_wp2_with first | (go_at_call 59; refine HC.out.mono ?_; rintro e w6 ⟨m6, rfl, hm6, hb6, hk6⟩; have HB6 := hide hb6; have HK6 := hide (HK5.out.trans' hk6 (fun _ _ h => h) (fun _ _ h => h)); have hm6' : m6 ≤ 5001 := (by omega); clear hm6 hb6 hk6) | (go_at_call 54; refine (below_any A5 A' m6 _ n' c' (max m6 n') (digB Z) lb _ _ _ HB6.out (HAq.out.keep HK6.out) rfl (by omega)).mono ?_; rintro e w7 ⟨rfl, hk7⟩; rw [natB_dig, HD.out]; have HB7 := hide (HB6.out.keep hk7); have HK7 := hide (HK6.out.trans' hk7 (fun _ _ h => h) (fun _ _ h => h)); clear hk7) | (go_at_call 55; refine (bless_any A5 A' m6 _ n' c' (digB Z) lb w7 _ _ HB7.out (HAq.out.keep HK7.out) (by omega) (by omega) (by rw [natB_dig]; exact HLE.out)).mono ?_; rintro e w8 ⟨A8, m8, c8, rfl, hm8, hb8, hk8⟩; rw [natB_dig] at hb8; have HK8 := hide (HK7.out.trans' hk8 (fun _ _ h => h) (fun _ _ h => h)); have HB8 := hide (hb8.more (B' := fun k => w.heap.size ≤ k ∧ ¬ k = O) (fun k _ hr => by have h1 := HK7.out.size; have h2 := HOl.out; have h3 : w7.heap.size ≤ k := hr; omega)); have HR8 := hide (HRQ.out.keep HK8.out id); have r2 : w8.cell? ⟨O, k, none⟩ = some (.bool false) := HK8.out.cell id r1; have r3 : w8.frozen? ⟨O, k, none⟩ = false := HR8.out.free k; clear hm8 hb8 hk8) | fail
        go_roundw
        case rel => exact ⟨k, A8, m8, c8, Z - natB lb, qs.set k true, rfl, rfl, by omega, hide ⟨(HKQ.out.trans' HK8.out (fun _ _ h => h) (fun _ _ h => h.elim)).setCell (p := ⟨O, k, none⟩) (.inl rfl) _, HR8.out.put k true, by rw [List.length_set]; exact HLN.out, fun j hj => by rw [List.getD_eq_getElem?_getD, List.getElem?_set_ne (by omega), ← List.getD_eq_getElem?_getD]; exact HM.out.zero j (by omega), HLT.out, HB8.out.far (Keeps.setCell (Keeps.refl (fun k => k = O) w8) (p := ⟨O, k, none⟩) (.inl rfl) _) (fun k h e => h.2 e), by rw [HPT.out]; exact HNX.out⟩⟩
        case measure => simp [intOf]
end Go.Proofs.Ytfehciiidmgopaa
