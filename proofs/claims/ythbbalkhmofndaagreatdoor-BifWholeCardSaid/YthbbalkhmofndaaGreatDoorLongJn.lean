/- long: the walk. -/
import Derived.Test.YthbbalkhmofndaaGreatDoorLongLawJn
import Derived.Deep.CutRange
import Derived.Deep.CutBlock
import Derived.Deep.DeepCutAuto
namespace Go.Proofs.YthbbalkhmofndaaGreatDoor
set_option maxRecDepth 100000
open Go.RowKit


def ShiftQ (w : World) (m s N : Nat) (e : Ending) (w' : World) : Prop := ∃ (O : Nat) (os : List Nat), e = .returned (.slice (some ⟨O, 0, none⟩) m m) ∧ w.heap.size ≤ O ∧ RowAt w' O os ∧ os.length = m ∧ Low os ∧ nat os = N * 2 ^ s ∧ Keeps NoB w w'
theorem shift_to (A : Option Addr) (n c s m : Nat) (l : List Nat) (w : World) (B : Nat → Prop) (h : LimbsIn w B A n c l) (hn : n ≤ 40) (hs : s < 32) (hm : n + 1 = m) :
    Calls Tryz.prog 114 #[.slice A n c, .int .i64 (s : Int)] w (ShiftQ w m s (nat l)) := by
  subst hm; exact shift_any A n c s l w B h hn hs
/-- The divisor, shifted, and its highest limb cut off. -/
theorem start_div {lb vs : List Nat} {m2 s x : Nat} (hl : lb.length = m2 + 2) (hlow : Low lb) (hx : lb.getD (m2 + 1) 0 = x) (h1 : x * 2 ^ s < B32) (h2 : B32 ≤ 2 * (x * 2 ^ s)) (hs : s < 32) (hv : nat vs = nat lb * 2 ^ s) (hvl : Low vs) (hn : vs.length = m2 + 3) :
    nat (vs.take (m2 + 2)) = nat lb * 2 ^ s ∧ B32 ≤ 2 * (vs.take (m2 + 2)).getD (m2 + 1) 0 := by
  have e : (B32 : Nat) = 2 ^ s * 2 ^ (32 - s) := by rw [← Nat.pow_add, show s + (32 - s) = 32 from by omega]
  have hp : 0 < 2 ^ s := Nat.pow_pos (by decide)
  have hp1 : 0 < B32 ^ (m2 + 1) := Nat.pow_pos (by decide)
  have hlb : nat lb = pre lb (m2 + 1) + B32 ^ (m2 + 1) * x := by rw [← pre_len, hl, pre, hx]
  have hpl := pre_lt hlow (m2 + 1)
  have hxD : (x + 1) * 2 ^ s ≤ B32 := by
    rw [e, Nat.mul_comm (2 ^ s)] at h1 ⊢
    exact Nat.mul_le_mul_right _ (Nat.lt_of_mul_lt_mul_right h1)
  have hlt : nat lb < (x + 1) * B32 ^ (m2 + 1) := by rw [hlb, Nat.add_mul, Nat.mul_comm x]; omega
  have hV : nat vs < B32 ^ (m2 + 2) := by
    rw [hv]
    have h3 : nat lb * 2 ^ s < (x + 1) * B32 ^ (m2 + 1) * 2 ^ s := (Nat.mul_lt_mul_right hp).2 hlt
    rw [Nat.mul_right_comm] at h3
    have h4 : (x + 1) * 2 ^ s * B32 ^ (m2 + 1) ≤ B32 * B32 ^ (m2 + 1) := Nat.mul_le_mul_right _ hxD
    rw [show m2 + 2 = (m2 + 1) + 1 from rfl, Nat.pow_succ, Nat.mul_comm (B32 ^ (m2 + 1))]
    omega
  have hcut : nat (vs.take (m2 + 2)) = nat vs := nat_cut (by omega) (fun j h1 _ => high_zero hV h1)
  refine ⟨hcut.trans hv, ?_⟩
  have hlen : (vs.take (m2 + 2)).length = m2 + 2 := by rw [List.length_take]; omega
  have h5 : nat (vs.take (m2 + 2)) = pre (vs.take (m2 + 2)) (m2 + 1) + B32 ^ (m2 + 1) * (vs.take (m2 + 2)).getD (m2 + 1) 0 := by rw [← pre_len (vs.take (m2 + 2)), hlen, pre]
  have h6 := pre_lt (hvl.take (m2 + 2)) (m2 + 1)
  rw [hcut, hv] at h5
  generalize (vs.take (m2 + 2)).getD (m2 + 1) 0 = v at *
  have h7 : B32 ^ (m2 + 1) * x * 2 ^ s ≤ nat lb * 2 ^ s := Nat.mul_le_mul_right _ (by omega)
  have h8 : B32 ^ (m2 + 1) * (x * 2 ^ s) < B32 ^ (m2 + 1) * (v + 1) := by rw [← Nat.mul_assoc, Nat.mul_add]; omega
  have h9 := Nat.lt_of_mul_lt_mul_left h8
  omega
theorem start_num {la lb : List Nat} {n m2 L s x : Nat} (hl : la.length = n) (hlow : Low la) (_hlb : lb.length = m2 + 2) (hx : lb.getD (m2 + 1) 0 = x) (h0 : 0 < x) (hn : n + 1 = L + (m2 + 2)) : nat la * 2 ^ s < nat lb * 2 ^ s * B32 ^ L := by
  have hp : 0 < 2 ^ s := Nat.pow_pos (by decide)
  have h1 := nat_lt hlow
  have h2 : B32 ^ (m2 + 1) * 1 ≤ nat lb := Nat.le_trans (Nat.mul_le_mul_left _ (hx ▸ h0)) (digit_le lb (m2 + 1))
  have h3 : B32 ^ (m2 + 1) * 1 * B32 ^ L ≤ nat lb * B32 ^ L := Nat.mul_le_mul_right _ h2
  rw [Nat.mul_one, ← Nat.pow_add, show m2 + 1 + L = la.length from by omega] at h3
  rw [Nat.mul_right_comm]
  exact (Nat.mul_lt_mul_right hp).2 (Nat.lt_of_lt_of_le h1 h3)
/-- What long tells. -/
def LongP (w : World) (n M N D : Nat) (e : Ending) (w' : World) : Prop := ∃ (L Oq Or : Nat) (qs rs : List Nat), e = .returned (.tuple #[.slice (some ⟨Oq, 0, none⟩) L L, .slice (some ⟨Or, 0, none⟩) M M]) ∧ n + 1 = L + M ∧ w.heap.size ≤ Oq ∧ w.heap.size ≤ Or ∧ RowAt w' Oq qs ∧ RowAt w' Or rs ∧ qs.length = L ∧ rs.length = M ∧ Low qs ∧ Low rs ∧ nat qs * D + nat rs = N ∧ nat rs < D ∧ Keeps NoB w w'

theorem or_join {a b : Nat} (ha : a < B32) (hb : b < B32) : bits .or .u64 ((a : Int) * 4294967296) (b : Int) = ((a * B32 + b : Nat) : Int) := by
  unfold B32 at *
  have := u64_or_nat (a * 4294967296) b (by omega) (by omega)
  rw [nat_join 32 _ _ (by omega) (by omega)] at this
  rw [← this]; rfl
set_option maxHeartbeats 16000000 in
set_option maxRecDepth 100000 in
theorem long_any (A A' : Option Addr) (n c M c' : Nat) (la lb : List Nat) (w : World) (B B' : Nat → Prop) (h : LimbsIn w B A n c la) (h' : LimbsIn w B' A' M c' lb) (h2 : 2 ≤ M) (hn : M ≤ n) (hn2 : n ≤ 32) (htop : lb.getD (M - 1) 0 ≠ 0) :
    Calls Tryz.prog 94 #[.slice A n c, .slice A' M c'] w (LongP w n M (nat la) (nat lb)) := by
  have hla := h.len; have hlb := h'.len
  obtain ⟨m2, hm2⟩ : ∃ m2, M = m2 + 2 := ⟨M - 2, by omega⟩
  obtain ⟨i1, hi1⟩ : ∃ i1, i1 = m2 + 1 := ⟨_, rfl⟩
  obtain ⟨L, hL⟩ : ∃ L, n + 1 = L + M := ⟨n + 1 - M, by omega⟩
  obtain ⟨Lu, hLu⟩ : ∃ Lu, n + 1 = Lu := ⟨_, rfl⟩
  obtain ⟨Lv, hLv⟩ : ∃ Lv, M + 1 = Lv := ⟨_, rfl⟩
  have a1 : (M : Int) - 1 = (i1 : Int) := by omega
  have a2 : (M : Int) - 2 = (m2 : Int) := by omega
  have a3 : (Lu : Int) - (M : Int) = (L : Int) := by omega
  have b1 : (i1 : Int) < (M : Int) := by omega
  have b2 : (0 : Int) ≤ (i1 : Int) := by omega
  have b3 : i1 < M := by omega
  have b4 : (m2 : Int) < (M : Int) := by omega
  have b5 : (0 : Int) ≤ (m2 : Int) := by omega
  have b6 : m2 < M := by omega
  have b7 : (M : Int) ≤ (Lv : Int) := by omega
  have b8 : M ≤ Lv := by omega
  have c1 : M ≤ 32 := by omega
  have c2 : Lu ≤ 33 := by omega
  have c3 : L ≤ 33 := by omega
  have c4 : Lv ≤ 33 := by omega
  have c5 : n ≤ 32 := by omega
  have c6 : M ≤ n := hn
  have HLA := hide h.low; have HLB := hide h'.low
  have HA := hide (h.more (B' := fun k => k < w.heap.size) (fun k h _ => h)); have HB := hide (h'.more (B' := fun k => k < w.heap.size) (fun k h _ => h))
  obtain ⟨bb, ob, rfl, hbb, hcb⟩ := h'.at (by omega)
  have q1 := hcb i1 (by omega)
  obtain ⟨X, hX⟩ : ∃ X, lb.getD i1 0 = X := ⟨_, rfl⟩
  rw [hX] at q1
  have hx0 : 0 < X := by rw [← hX, hi1, show m2 + 1 = M - 1 from by omega]; omega
  have hx1 : X < B32 := hX ▸ h'.low.get _
  have HX := hide (lead_any X w hx0 hx1)
  have HN := hide (And.intro hn2 (And.intro hm2 (And.intro hi1 (And.intro hL (And.intro hLu (And.intro hLv (And.intro hX (And.intro hx0 (And.intro hla hlb)))))))))
  clear h h' hcb htop hn hn2 hm2 hi1 hL hLu hLv hX hx0 hx1 h2 hla hlb
  go_enter Tryz.func94, Tryz.ntmps94
  go_wp2_with first | (go_at_call 113; refine HX.out.mono ?_; rintro e w' ⟨⟨s, rfl, hs1, hs2, hs3⟩, hw⟩; have hw2 := hw.symm; clear hw; subst hw2; have HS := hide (And.intro hs1 (And.intro hs2 hs3)); clear hs1 hs2 hs3 HX) | fail
  obtain ⟨i0, hi0, hz0, hz1, hz2⟩ := info_parts Tryz.info44
  refine order_begin (fun W => Keeps NoB w.drew W) (fun _ => true) (by kernel_rfl) 11 rfl ?_
  have HS1 := hide (fun W (hl : LimbsIn W (fun k => k < w.heap.size) A n c la) => shift_to A n c s Lu la W _ hl (Nat.le_trans HN.out.1 (by decide)) HS.out.1 HN.out.2.2.2.2.1)
  have HS2 := hide (fun W (hl : LimbsIn W (fun k => k < w.heap.size) (some ⟨bb, ob, none⟩) M c' lb) => shift_to _ M c' s Lv lb W _ hl (Nat.le_trans c1 (by decide)) HS.out.1 HN.out.2.2.2.2.2.1)
  have HA0 := hide HA.out.drew; have HB0 := hide HB.out.drew
  have hsz : w.drew.heap.size = w.heap.size := rfl
  have HK0 := hide (Keeps.refl NoB w).drew
  clear HA HB q1 hbb
  generalize w.drew = W0 at *
  have HK00 : Keeps NoB W0 W0 := Keeps.refl _ _
  refine order_pure (i := 0) rfl (by kernel_rfl) (fun _ _ _ h => h) (.inl ⟨rfl, fun _ => by go_simp; rfl⟩) ?_
  try simp only [Act.put, List.setIfInBounds_toArray, List.set_cons_succ, List.set_cons_zero]
  refine order_pure (i := 1) rfl (by kernel_rfl) (fun _ _ _ h => h) (.inl ⟨rfl, fun _ => by go_simp; rfl⟩) ?_
  try simp only [Act.put, List.setIfInBounds_toArray, List.set_cons_succ, List.set_cons_zero]
  refine order_pure (i := 3) rfl (by kernel_rfl) (fun _ _ _ h => h) (.inl ⟨rfl, fun _ => by go_simp; rfl⟩) ?_
  try simp only [Act.put, List.setIfInBounds_toArray, List.set_cons_succ, List.set_cons_zero]
  refine order_pure (i := 4) rfl (by kernel_rfl) (fun _ _ _ h => h) (.inl ⟨rfl, fun _ => by go_simp; rfl⟩) ?_
  try simp only [Act.put, List.setIfInBounds_toArray, List.set_cons_succ, List.set_cons_zero]
  refine order_pure (i := 6) rfl (by kernel_rfl) (fun _ _ _ h => h) (.inl ⟨rfl, fun _ => by go_simp; rfl⟩) ?_
  try simp only [Act.put, List.setIfInBounds_toArray, List.set_cons_succ, List.set_cons_zero]
  refine order_pure (i := 7) rfl (by kernel_rfl) (fun _ _ _ h => h) (.inl ⟨rfl, fun _ => by go_simp; rfl⟩) ?_
  try simp only [Act.put, List.setIfInBounds_toArray, List.set_cons_succ, List.set_cons_zero]
  refine order_one (i := 2) rfl (by kernel_rfl) (fun K hK => ?_)
  go_simp
  refine (HS1.out W0 HA0.out).mono ?_
  rintro e w5 ⟨Ou, us, rfl, hOu, hru, hlu, hlowu, hvu, hk5⟩
  refine hK _ _ (fun _ hS => hS.trans' hk5 (fun _ _ => id) (fun _ _ => id)) ?_
  clear hK
  try simp only [Act.put, List.setIfInBounds_toArray, List.set_cons_succ, List.set_cons_zero]
  have HB5 := hide (HB0.out.keep hk5); have HK5 := hide (HK0.out.trans' hk5 (fun _ _ h => h) (fun _ _ h => h)); have HU5 := hide hru
  have HU := hide (And.intro (hsz ▸ hOu) (And.intro hlu (And.intro hlowu hvu)))
  clear hOu hru hlu hlowu hvu hk5 HA0 HB0 HK0 HK00 HS1
  refine order_one (i := 5) rfl (by kernel_rfl) (fun K hK => ?_)
  go_simp
  refine (HS2.out w5 HB5.out).mono ?_
  rintro e w6 ⟨Ov, vs, rfl, hOv, hrv, hlv, hlowv, hvv, hk6⟩
  refine hK _ _ (fun _ hS => hS.trans' hk6 (fun _ _ => id) (fun _ _ => id)) ?_
  clear hK
  try simp only [Act.put, List.setIfInBounds_toArray, List.set_cons_succ, List.set_cons_zero]
  have hlt := HU5.out.lt
  have HK6 := hide (HK5.out.trans' hk6 (fun _ _ h => h) (fun _ _ h => h)); have HU6 := hide (HU5.out.keep hk6 id); have HV6 := hide hrv
  have HV := hide (And.intro (show Ou < Ov by omega) (And.intro hlv (And.intro hlowv hvv)))
  clear hOv hrv hlv hlowv hvv hk6 HB5 HK5 HU5 HS2 hlt
  refine order_pure (i := 9) rfl (by kernel_rfl) (fun _ _ _ h => h) (.inl ⟨rfl, fun _ => by go_simp; rfl⟩) ?_
  try simp only [Act.put, List.setIfInBounds_toArray, List.set_cons_succ, List.set_cons_zero]
  refine order_one (i := 8) rfl (by kernel_rfl) (fun K hK => ?_)
  go_simp
  refine hK _ _ (fun _ hS => hS) ?_
  clear hK
  try simp only [Act.put, List.setIfInBounds_toArray, List.set_cons_succ, List.set_cons_zero]
  refine order_pure (i := 10) rfl (by kernel_rfl) (fun _ _ _ h => h) (.inl ⟨rfl, fun _ => by go_simp; rfl⟩) ?_
  try simp only [Act.put, List.setIfInBounds_toArray, List.set_cons_succ, List.set_cons_zero]
  refine order_done (by kernel_rfl) ?_
  have hltv := HV6.out.lt
  go_wp2_with (at_make; refine wpList_make_full _ rfl _ _ 23 rfl w6.heap.size 44 i0 _ 1 Tryz.underlying23 hi0 hz0 hz1 .i64 .i64 _ _ L rfl rfl rfl rfl (by rw [hz2]; omega) (by unfold maxLen; omega) (Nat.le_refl _) ?_)
  intro w7 hown hgrow
  have hrq := row_made hown
  have hk7 : Keeps NoB w6 w7 := (Keeps.refl NoB w6).grown hgrow (fun k h => by cases h)
  obtain ⟨Oq, hOq⟩ : ∃ Oq, w6.heap.size = Oq := ⟨_, rfl⟩
  rw [hOq] at hrq ⊢
  have HO := hide (show Ov < Oq by omega)
  have HU7 := hide (HU6.out.keep hk7 id); have HV7 := hide (HV6.out.keep hk7 id); have HK7 := hide (HK6.out.trans' hk7 (fun _ _ h => h) (fun _ _ h => h))
  have HQ7 := hide hrq
  clear hown hgrow hrq hk7 hOq hltv HU6 HV6 HK6
  obtain ⟨hd1, hd2⟩ := start_div (m2 := m2) (x := X) (s := s) (lb := lb) (vs := vs) (by rw [HN.out.2.2.2.2.2.2.2.2.2]; exact HN.out.2.1) HLB.out (HN.out.2.2.1 ▸ HN.out.2.2.2.2.2.2.1) HS.out.2.1 HS.out.2.2 HS.out.1 HV.out.2.2.2 HV.out.2.2.1 (by rw [HV.out.2.1, ← HN.out.2.2.2.2.2.1, HN.out.2.1])
  obtain ⟨vt, hvt⟩ : ∃ vt, vs.take (m2 + 2) = vt := ⟨_, rfl⟩
  have HVC := hide (show ∀ i, i < M → vs.getD i 0 = vt.getD i 0 from fun i hi => by rw [← hvt, List.getD_eq_getElem?_getD, List.getD_eq_getElem?_getD, List.getElem?_take_of_lt (by rw [← HN.out.2.1]; exact hi)])
  rw [hvt] at hd1 hd2
  obtain ⟨V, v1, v2, vl, HD0⟩ : ∃ V v1 v2 vl, Divisor vt m2 V v1 v2 vl := ⟨_, _, _, _, Divisor.of (by rw [← hvt, List.length_take, HV.out.2.1, ← HN.out.2.2.2.2.2.1, HN.out.2.1]; omega) (hvt ▸ HV.out.2.2.1.take _) hd2⟩
  have HD := hide HD0
  have HVV := hide (show V = nat lb * 2 ^ s from HD0.sum ▸ hd1)
  have HL0 := hide (⟨Keeps.refl _ _, HU7.out, by rw [HU.out.2.1, ← HN.out.2.2.2.2.1, HN.out.2.2.2.1, HN.out.2.1], HU.out.2.2.1, HQ7.out, by simp, Low.zeros _, fun j _ => getD_zeros _ _, ⟨by rw [nat_zeros]; simp, by
    rw [HU.out.2.2.2, HVV.out]
    exact start_num HN.out.2.2.2.2.2.2.2.2.1 HLA.out (by rw [HN.out.2.2.2.2.2.2.2.2.2]; exact HN.out.2.1) (HN.out.2.2.1 ▸ HN.out.2.2.2.2.2.2.1) HN.out.2.2.2.2.2.2.2.1 (by rw [HN.out.2.2.2.1, HN.out.2.1])⟩⟩ : LongSt w7 Ou Oq (nat us) V m2 L L w7 us (List.replicate L 0))
  have HFV := hide (show ∀ k, k = Ov → ¬ (k = Ou ∨ k = Oq) from fun k e => by have := HV.out.1; have := HO.out; omega)
  have hv1 := HD0.v1_lt; have hv2 := HD0.v2_lt; have hv0 := HD0.top
  clear HD0 hd1 hd2 hvt HU7 HQ7
  go_wp2
  go_loopw [10] (fun iv wr => ∃ (k : Nat) (us2 qs : List Nat), iv = .int .i64 ((k : Int) - 1) ∧ k ≤ L ∧ Hid (LongSt w7 Ou Oq (nat us) V m2 L k wr us2 qs)) (fun iv _ => (intOf iv + 1).toNat)
  case atStart => exact ⟨L, us, _, rfl, Nat.le_refl _, HL0⟩
  case round =>
    obtain ⟨k, us2, qs, rfl, hk, HM⟩ := hrel
    rcases k with _ | j
    · have hv := HM.out.at'.val
      have hr := HM.out.at'.rest
      rw [HVV.out, HU.out.2.2.2] at hv
      rw [HVV.out, Nat.pow_zero, Nat.mul_one] at hr
      obtain ⟨r, hr1, hr2, hr3⟩ := unshift hv hr
      have HRT := hide (And.intro hr1 (And.intro hr2 hr3))
      have HLW := hide (rest_low HS.out.1 hr1)
      have hs := HS.out.1
      clear hv hr hr1 hr2 hr3 hv0 hv1 hv2
      go_wp2_with (at_make; refine wpList_make_full _ rfl _ _ 23 rfl wr.heap.size 44 i0 _ 1 Tryz.underlying23 hi0 hz0 hz1 .i64 .i64 _ _ M rfl rfl rfl rfl (by rw [hz2]; omega) (by unfold maxLen; omega) (Nat.le_refl _) ?_)
      intro w8 hown hgrow
      have hrr := row_made hown
      have hk8 : Keeps NoB wr w8 := (Keeps.refl NoB wr).grown hgrow (fun k h => by cases h)
      obtain ⟨Or, hOr⟩ : ∃ Or, wr.heap.size = Or := ⟨_, rfl⟩
      have hq3 := HM.out.rowq.lt; have hu3 := HM.out.rowu.lt
      rw [hOr] at hrr hq3 hu3 ⊢
      have HU8 := hide (HM.out.rowu.keep hk8 id); have HQ8 := hide (HM.out.rowq.keep hk8 id)
      have HKL := HM.out.keep
      have HK8 := hide ((HK7.out.trans' HM.out.keep (fun _ _ h => h) (fun k h1 h2 => by
        have h3 := HU.out.1; have h4 := HV.out.1; have h5 := HO.out
        rcases h2 with e | e <;> omega)).trans' hk8 (fun _ _ h => h) (fun _ _ h => h) : Keeps NoB w w8)
      have HOr := hide (show w.heap.size ≤ Or from by have h3 := HU.out.1; omega)
      have HR0 := hide (ShrAt.start (m := M) hrr HLW.out)
      have HNE := hide (And.intro (show ¬ Ou = Or by omega) (show ¬ Oq = Or by omega))
      clear hown hgrow hrr hk8 hOr hq3 hu3 HKL
      go_wp2
      go_loopw [219] (fun iv wy => ∃ (i : Nat) (rs : List Nat), iv = .int .i64 (i : Int) ∧ i ≤ M ∧ Hid (ShrAt w8 Or us2 s M i wy rs)) (fun iv _ => M - (intOf iv).toNat)
      case atStart => exact ⟨0, _, rfl, Nat.zero_le _, HR0⟩
      case round =>
        obtain ⟨i, rs, rfl, hi, HT⟩ := hrel
        have hM2 := HN.out.2.1; have hLM := HN.out.2.2.2.1; have hLu := HN.out.2.2.2.2.1
        have hlenu := HM.out.lenu
        have hlenr := HT.out.len
        by_cases hlt : i < M
        · obtain ⟨t, ht⟩ : ∃ t, t = i + 1 := ⟨_, rfl⟩
          obtain ⟨Y, hY⟩ : ∃ Y, us2.getD t 0 = Y := ⟨_, rfl⟩
          obtain ⟨Z, hZ⟩ : ∃ Z, us2.getD i 0 = Z := ⟨_, rfl⟩
          have hYl : Y < B32 := hY ▸ HM.out.lowu.get t
          have hZl : Z < B32 := hZ ▸ HM.out.lowu.get i
          have hor := or_join hYl hZl
          obtain ⟨Q, hQ⟩ : ∃ Q, Y * B32 + Z = Q := ⟨_, rfl⟩
          rw [hQ] at hor
          obtain ⟨v, hv⟩ : ∃ v, Q / 2 ^ s % B32 = v := ⟨_, rfl⟩
          have HST := hide (fun w' => HT.out.step (w' := w') (v := v) hlt hs HM.out.lowu hZ (ht ▸ hY) (by rw [hQ]; exact hv))
          have f1 : (i : Int) + 1 = (t : Int) := by omega
          have f2 : (t : Int) < (Lu : Int) := by omega
          have f3 : t < Lu := by omega
          have f4 : (i : Int) < (M : Int) := by omega
          have f5 : (0 : Int) ≤ (i : Int) := by omega
          have f6 : (0 : Int) ≤ (t : Int) := by omega
          have f7 : (i : Int) < (Lu : Int) := by omega
          have f8 : i < Lu := by omega
          have y1 : wr.cell? ⟨Ou, t, none⟩ = some (.int .u32 (Y : Int)) := hY ▸ (HU8.out.keep HT.out.keep HNE.out.1).cell (by omega)
          have y2 : wr.cell? ⟨Ou, i, none⟩ = some (.int .u32 (Z : Int)) := hZ ▸ (HU8.out.keep HT.out.keep HNE.out.1).cell (by omega)
          have y3 : wr.cell? ⟨Or, i, none⟩ = some (.int .u32 ((rs.getD i 0 : Nat) : Int)) := HT.out.row.cell (by omega)
          have y4 : wr.frozen? ⟨Or, i, none⟩ = false := HT.out.row.free i
          generalize rs.getD i 0 = oldr at *
          have HR := hide HT.out.row; have HKP := hide HT.out.keep
          unfold B32 at hYl hZl
          have HVQ := hide (show ((Q : Int) / 2 ^ s) % 4294967296 = (v : Int) from by
            have e : (2 : Int) ^ s = ((2 ^ s : Nat) : Int) := by push_cast; rfl
            rw [e, ← hv]; rfl)
          clear HT hZ hY ht hlenr hlenu hM2 hLM hLu hQ hv
          go_wp2_with fail
          have hwt : IntKind.i64.wrap (t : Int) = (t : Int) := by unfold IntKind.wrap; simp [IntKind.bits, IntKind.signed]; omega
          have hw1 : IntKind.u64.wrap (Y : Int) = (Y : Int) := by unfold IntKind.wrap; simp [IntKind.bits, IntKind.signed]; omega
          have hw2 : IntKind.u64.wrap (Z : Int) = (Z : Int) := by unfold IntKind.wrap; simp [IntKind.bits, IntKind.signed]; omega
          have hw3 : IntKind.u64.wrap ((Y : Int) * 4294967296) = (Y : Int) * 4294967296 := by unfold IntKind.wrap; simp [IntKind.bits, IntKind.signed]; omega
          refine order_begin (fun W => Keeps NoB wr.drew W) (fun k => k != 19) (by kernel_rfl) 20 rfl ?_
          have y1 : wr.drew.cell? ⟨Ou, t, none⟩ = some (.int .u32 (Y : Int)) := y1
          have y2 : wr.drew.cell? ⟨Ou, i, none⟩ = some (.int .u32 (Z : Int)) := y2
          have y3 : wr.drew.cell? ⟨Or, i, none⟩ = some (.int .u32 (oldr : Int)) := y3
          have y4 : wr.drew.frozen? ⟨Or, i, none⟩ = false := y4
          have HR := hide HR.out.drew; have HKP := hide HKP.out.drew
          generalize wr.drew = W0 at *
          have HS0 : Keeps NoB W0 W0 := Keeps.refl _ _
          have HS := HS0
          refine order_pure (i := 0) rfl (by kernel_rfl) (fun _ _ _ h => h) (.inl ⟨rfl, fun _ => by go_simp; rfl⟩) ?_
          try simp only [Act.put, List.setIfInBounds_toArray, List.set_cons_succ, List.set_cons_zero]
          refine order_pure (i := 1) rfl (by kernel_rfl) (fun _ _ _ h => h) (.inl ⟨rfl, fun _ => by go_simp; rfl⟩) ?_
          try simp only [Act.put, List.setIfInBounds_toArray, List.set_cons_succ, List.set_cons_zero]
          refine order_pure (i := 2) rfl (by kernel_rfl) (fun _ _ _ h => h) (.inl ⟨rfl, fun _ => by go_simp; rfl⟩) ?_
          try simp only [Act.put, List.setIfInBounds_toArray, List.set_cons_succ, List.set_cons_zero]
          refine order_pure (i := 3) rfl (by kernel_rfl) (fun _ _ _ h => h) (.inl ⟨rfl, fun _ => by go_simp; rfl⟩) ?_
          try simp only [Act.put, List.setIfInBounds_toArray, List.set_cons_succ, List.set_cons_zero]
          refine order_pure (i := 4) rfl (by kernel_rfl) (fun _ _ _ h => h) (.inl ⟨rfl, fun _ => by go_simp; rfl⟩) ?_
          try simp only [Act.put, List.setIfInBounds_toArray, List.set_cons_succ, List.set_cons_zero]
          refine order_pure (i := 5) rfl (by kernel_rfl) (fun _ _ _ h => h) (.inl ⟨rfl, fun _ => by go_simp; rfl⟩) ?_
          try simp only [Act.put, List.setIfInBounds_toArray, List.set_cons_succ, List.set_cons_zero]
          refine order_held (i := 6) rfl (by kernel_rfl) (fun _ _ _ h => h) (.inl ⟨rfl, fun W hW => by
            have q0 : W.cell? ⟨Ou, t, none⟩ = some (.int .u32 (Y : Int)) := hW.cell id y1
            go_simp; rfl⟩) HS ?_
          try simp only [Act.put, List.setIfInBounds_toArray, List.set_cons_succ, List.set_cons_zero]
          refine order_pure (i := 7) rfl (by kernel_rfl) (fun _ _ _ h => h) (.inl ⟨rfl, fun _ => by go_simp; rfl⟩) ?_
          try simp only [Act.put, List.setIfInBounds_toArray, List.set_cons_succ, List.set_cons_zero]
          refine order_pure (i := 8) rfl (by kernel_rfl) (fun _ _ _ h => h) (.inl ⟨rfl, fun _ => by go_simp; rfl⟩) ?_
          try simp only [Act.put, List.setIfInBounds_toArray, List.set_cons_succ, List.set_cons_zero]
          refine order_pure (i := 9) rfl (by kernel_rfl) (fun _ _ _ h => h) (.inl ⟨rfl, fun _ => by go_simp; rfl⟩) ?_
          try simp only [Act.put, List.setIfInBounds_toArray, List.set_cons_succ, List.set_cons_zero]
          refine order_pure (i := 10) rfl (by kernel_rfl) (fun _ _ _ h => h) (.inl ⟨rfl, fun _ => by go_simp; rfl⟩) ?_
          try simp only [Act.put, List.setIfInBounds_toArray, List.set_cons_succ, List.set_cons_zero]
          refine order_pure (i := 11) rfl (by kernel_rfl) (fun _ _ _ h => h) (.inl ⟨rfl, fun _ => by go_simp; rfl⟩) ?_
          try simp only [Act.put, List.setIfInBounds_toArray, List.set_cons_succ, List.set_cons_zero]
          refine order_held (i := 12) rfl (by kernel_rfl) (fun _ _ _ h => h) (.inl ⟨rfl, fun W hW => by
            have q0 : W.cell? ⟨Ou, i, none⟩ = some (.int .u32 (Z : Int)) := hW.cell id y2
            go_simp; rfl⟩) HS ?_
          try simp only [Act.put, List.setIfInBounds_toArray, List.set_cons_succ, List.set_cons_zero]
          refine order_pure (i := 13) rfl (by kernel_rfl) (fun _ _ _ h => h) (.inl ⟨rfl, fun _ => by go_simp; rfl⟩) ?_
          try simp only [Act.put, List.setIfInBounds_toArray, List.set_cons_succ, List.set_cons_zero]
          refine order_pure (i := 14) rfl (by kernel_rfl) (fun _ _ _ h => h) (.inl ⟨rfl, fun _ => by go_simp; rfl⟩) ?_
          try simp only [Act.put, List.setIfInBounds_toArray, List.set_cons_succ, List.set_cons_zero]
          refine order_pure (i := 15) rfl (by kernel_rfl) (fun _ _ _ h => h) (.inl ⟨rfl, fun _ => by go_simp; rfl⟩) ?_
          try simp only [Act.put, List.setIfInBounds_toArray, List.set_cons_succ, List.set_cons_zero]
          refine order_pure (i := 16) rfl (by kernel_rfl) (fun _ _ _ h => h) (.inl ⟨rfl, fun _ => by go_simp; rfl⟩) ?_
          try simp only [Act.put, List.setIfInBounds_toArray, List.set_cons_succ, List.set_cons_zero]
          refine order_pure (i := 17) rfl (by kernel_rfl) (fun _ _ _ h => h) (.inl ⟨rfl, fun _ => by go_simp; rfl⟩) ?_
          try simp only [Act.put, List.setIfInBounds_toArray, List.set_cons_succ, List.set_cons_zero]
          refine order_pure (i := 18) rfl (by kernel_rfl) (fun _ _ _ h => h) (.inl ⟨rfl, fun _ => by go_simp; rfl⟩) ?_
          try simp only [Act.put, List.setIfInBounds_toArray, List.set_cons_succ, List.set_cons_zero]
          refine order_one (i := 19) rfl (by kernel_rfl) (fun K hK => ?_)
          go_simp
          refine hK _ _ (fun h => by cases h) ?_
          clear hK
          try simp only [Act.put, List.setIfInBounds_toArray, List.set_cons_succ, List.set_cons_zero]
          refine order_done (by kernel_rfl) ?_
          clear hwt hw1 hw2 hw3
          go_wp2
          go_roundw
          case rel =>
            have hrr := HR.out.put i HVQ.out
            have hkk := HKP.out.setCell (p := ⟨Or, i, none⟩) (.inl rfl) (.int .u32 (((Q : Int) / 2 ^ s) % 4294967296))
            have hbb := hide (HST.out _ hrr hkk)
            exact ⟨i + 1, rs.set i v, congrArg (Value.int .i64) (by omega), Nat.succ_le_of_lt hlt, hbb⟩
          case measure => simp [intOf]; omega
        · obtain rfl : M = i := by omega
          have hval := HT.out.val
          have hu0 : us2.getD M 0 = 0 := high_zero (i := M) (by
            have h1 := HM.out.at'.rest
            rw [Nat.pow_zero, Nat.mul_one] at h1
            exact Nat.lt_trans h1 (by rw [hM2]; exact HD.out.lt)) (Nat.le_refl _)
          have hpre : pre us2 M = nat us2 := by
            have h1 := HM.out.at'.rest
            rw [Nat.pow_zero, Nat.mul_one] at h1
            have h2 := Nat.lt_trans h1 HD.out.lt
            rw [← hM2] at h2
            rw [← nat_take us2 (by omega)]
            exact nat_cut (by omega) (fun k h3 _ => high_zero h2 h3)
          rw [hu0, hpre, Nat.zero_mod, Nat.mul_zero, Nat.add_zero, HRT.out.1] at hval
          have hrs := Nat.eq_of_mul_eq_mul_left (Nat.pow_pos (by decide)) hval
          have HQf := hide (HQ8.out.keep HT.out.keep HNE.out.2)
          have HKf := hide (HK8.out.trans' HT.out.keep (fun _ _ h => h) (fun k h1 h2 => by have := HOr.out; omega) : Keeps NoB w wr)
          have HRf := hide HT.out.row
          have HEND := hide (And.intro hlenr (And.intro HT.out.low (And.intro HM.out.lenq (And.intro HM.out.lowq (And.intro (show nat qs * nat lb + nat rs = nat la from hrs ▸ HRT.out.2.1) (show nat rs < nat lb from hrs ▸ HRT.out.2.2))))))
          have HOq := hide (show w.heap.size ≤ Oq from by have h3 := HU.out.1; have h4 := HV.out.1; have h5 := HO.out; omega)
          have HLM := hide hLM
          clear HT hlenr hlenu hM2 hLM hLu hval hu0 hpre hrs
          go_wp2
          go_ret2
          exact ⟨L, Oq, Or, qs, rs, rfl, HLM.out, HOq.out, HOr.out, HQf.out, HRf.out, HEND.out.2.2.1, HEND.out.1, HEND.out.2.2.2.1, HEND.out.2.1, HEND.out.2.2.2.2.1, HEND.out.2.2.2.2.2, HKf.out⟩
    · have hk2 : ((j + 1 : Nat) : Int) - 1 = (j : Int) := by omega
      rw [hk2]
      obtain ⟨p, hp⟩ : ∃ p, p = j + M := ⟨_, rfl⟩
      obtain ⟨p1, hp1⟩ : ∃ p1, p1 = j + m2 + 1 := ⟨_, rfl⟩
      obtain ⟨p2, hp2⟩ : ∃ p2, p2 = j + m2 := ⟨_, rfl⟩
      have hM2 := HN.out.2.1; have hLM := HN.out.2.2.2.1; have hLu := HN.out.2.2.2.2.1
      have d1 : (j : Int) + (M : Int) = (p : Int) := by omega
      have d2 : (p : Int) - 1 = (p1 : Int) := by omega
      have d3 : (p : Int) - 2 = (p2 : Int) := by omega
      have d4 : (p : Int) < (Lu : Int) := by omega
      have d5 : (p1 : Int) < (Lu : Int) := by omega
      have d6 : (p2 : Int) < (Lu : Int) := by omega
      have d7 : p < Lu := by omega
      have d8 : p1 < Lu := by omega
      have d9 : p2 < Lu := by omega
      have dj : j < L := by omega
      have djj : (j : Int) < (L : Int) := by omega
      have HP := hide (And.intro (show p = j + m2 + 2 by omega) (And.intro hp1 hp2))
      have hlen := HM.out.lenu
      rw [show L + (m2 + 2) = Lu from by omega] at hlen
      obtain ⟨hf1, hf2⟩ := HM.out.first HD.out dj
      have hth := three hf2 (by omega)
      have hul := pre_lt HM.out.lowu j
      rw [← HP.out.1] at hf1
      rw [← HP.out.1, ← hp1, ← hp2] at hth
      obtain ⟨U1, hU1⟩ : ∃ U1, us2.getD p 0 = U1 := ⟨_, rfl⟩
      obtain ⟨U2, hU2⟩ : ∃ U2, us2.getD p1 0 = U2 := ⟨_, rfl⟩
      obtain ⟨U0, hU0⟩ : ∃ U0, us2.getD p2 0 = U0 := ⟨_, rfl⟩
      have hl1 : U1 < B32 := hU1 ▸ HM.out.lowu.get p
      have hl2 : U2 < B32 := hU2 ▸ HM.out.lowu.get p1
      have hl0 : U0 < B32 := hU0 ▸ HM.out.lowu.get p2
      rw [hU1] at hf1
      rw [hU1, hU2, hU0] at hth
      have HGS := GuessAt.start (u0 := U0) (v2 := v2) hf1 hl2 hl0 hv0 hv1
      have hor := or_join hl1 hl2
      have hvp : 0 < v1 := by unfold B32 at hv0; omega
      have hN2 : U1 * B32 + U2 < 18446744073709551616 := by
        have : U1 * B32 ≤ 4294967295 * B32 := Nat.mul_le_mul_right _ (by unfold B32 at hl1; omega)
        unfold B32 at *; omega
      obtain ⟨T, hT⟩ : ∃ T, U1 * B32 + U2 = T := ⟨_, rfl⟩
      rw [hT] at hor HGS hN2 hth
      obtain ⟨g0, hg0⟩ : ∃ g0, T / v1 = g0 := ⟨_, rfl⟩
      obtain ⟨r0, hr0⟩ : ∃ r0, T % v1 = r0 := ⟨_, rfl⟩
      rw [hg0, hr0] at HGS
      have HG0 := hide HGS
      have HV8 := hide (HV7.out.keep HM.out.keep (HFV.out Ov rfl))
      have hlv := HV.out.2.1
      have y1 : wr.cell? ⟨Ou, p, none⟩ = some (.int .u32 (U1 : Int)) := hU1 ▸ HM.out.rowu.cell (by omega)
      have y2 : wr.cell? ⟨Ou, p1, none⟩ = some (.int .u32 (U2 : Int)) := hU2 ▸ HM.out.rowu.cell (by omega)
      have y3 : wr.cell? ⟨Ov, i1, none⟩ = some (.int .u32 (v1 : Int)) := by
        have := HV8.out.cell (i := i1) (by have := HN.out.2.2.2.2.2.1; omega)
        rw [HVC.out i1 b3, HN.out.2.2.1, HD.out.one] at this
        rw [HN.out.2.2.1]; exact this
      have y4 : wr.cell? ⟨Ov, m2, none⟩ = some (.int .u32 (v2 : Int)) := by
        have := HV8.out.cell (i := m2) (by have := HN.out.2.2.2.2.2.1; omega)
        rw [HVC.out m2 b6, HD.out.two] at this
        exact this
      have y5 : wr.cell? ⟨Ou, p2, none⟩ = some (.int .u32 (U0 : Int)) := hU0 ▸ HM.out.rowu.cell (by omega)
      have hb0 : ((v1 : Int) == 0) = false := by simp; omega
      have hb1 : ¬ (v1 : Int) = 0 := by omega
      have hb2 : ((v1 : Int) != 0) = true := by simp; omega
      have hq1 : IntKind.u64.wrap ((T : Int) / (v1 : Int)) = (g0 : Int) := by
        have : (T : Int) / (v1 : Int) = (g0 : Int) := by rw [← hg0]; rfl
        rw [this]; have := HG0.out.most; unfold B32 at this; unfold IntKind.wrap; simp [IntKind.bits, IntKind.signed]; omega
      have hr1 : (T : Int) % (v1 : Int) = (r0 : Int) := by rw [← hr0]; rfl
      have hr2 : r0 < v1 := hr0 ▸ Nat.mod_lt _ hvp
      have hN3 : (T : Int) < 18446744073709551616 := by omega
      have hv1l : v1 < 4294967296 := hv1
      have HTH := hide (And.intro hth hul)
      have HF2 := hide hf2
      have HT := hide hT
      unfold B32 at hl1 hl2 hl0
      clear hth hul hf1 hf2 hlen hU1 hU2 hU0 HGS hg0 hr0 hT hp hp1 hp2 hM2 hLM hLu hk2 hlv hN2 hvp
      go_upto_block 2 with (go_quiet (fail))
      go_cut [12, 13] (fun gv rv wx => Hid (Keeps NoB wr wx) ∧ ∃ G R : Nat, gv = .int .u64 (G : Int) ∧ rv = .int .u64 (R : Int) ∧ Hid (GuessEnd T U0 v1 v2 G))
      case first =>
        go_wp2_with fail
        go_loopw [12, 13] (fun gv rv wx => ∃ G R : Nat, gv = .int .u64 (G : Int) ∧ rv = .int .u64 (R : Int) ∧ Hid (GuessAt T U0 v1 v2 G R) ∧ Hid (Keeps NoB wr wx)) (fun gv _ _ => (intOf gv).toNat)
        case atStart => exact ⟨g0, r0, rfl, congrArg (Value.int .u64) hr1, HG0, hide (((Keeps.refl NoB wr).drewN _).drewN _)⟩
        case round =>
          obtain ⟨G, R, rfl, rfl, HG, HKx⟩ := hrel
          have y3x := HKx.out.cell id y3; have y4x := HKx.out.cell id y4; have y5x := HKx.out.cell id y5
          have hR := HG.out.rest; have hGm := HG.out.most
          have hor2 := or_join hR (show U0 < B32 from hl0)
          obtain ⟨Q, hQ⟩ : ∃ Q, R * B32 + U0 = Q := ⟨_, rfl⟩
          rw [hQ] at hor2
          have HV2 := hide hv2
          have hv2l : v2 < 4294967296 := hv2
          have hv1' := hv1
          unfold B32 at hR hGm hv1'
          clear y1 y2 y3 y4 y5 hor hq1 hr1 hv0 hv2 hN3 hr2 hv1l
          by_cases hc : B32 ≤ G
          · have hcd : decide ((4294967296 : Int) ≤ (G : Int)) = true := by unfold B32 at hc; simp; omega
            have hg0 : 1 ≤ G := by unfold B32 at hc; omega
            have hst := HG.out.step (.inl hc) hg0
            by_cases hb : R + v1 < B32
            · have HE := hide (hst.1 hb)
              have hbd : decide ((4294967296 : Int) ≤ (R : Int) + (v1 : Int)) = false := by unfold B32 at hb; simp; omega
              have hb1 : R + v1 < 4294967296 := hb
              clear hst hc hb hQ
              go_wp2_with (go_quiet (fail))
              go_roundw
              case rel => exact ⟨G - 1, R + v1, congrArg (Value.int .u64) (by omega), rfl, HE, hide (HKx.out.drewN _)⟩
              case measure => simp [intOf]; omega
            · have HE := hide (hst.2 (Nat.le_of_not_lt hb) HV2.out)
              have hbd : decide ((4294967296 : Int) ≤ (R : Int) + (v1 : Int)) = true := by unfold B32 at hb; simp; omega
              have hb1 : 4294967296 ≤ R + v1 := Nat.le_of_not_lt hb
              clear hst hc hb hQ
              go_wp2_with (go_quiet (fail))
              go_meet
              exact ⟨hide (HKx.out.drewN _), G - 1, R + v1, congrArg (Value.int .u64) (by omega), rfl, HE⟩
          · have hcd : decide ((4294967296 : Int) ≤ (G : Int)) = false := by unfold B32 at hc; simp; omega
            obtain ⟨P, hP⟩ : ∃ P, G * v2 = P := ⟨_, rfl⟩
            have hP1 : (G : Int) * (v2 : Int) = (P : Int) := by rw [← hP]; rfl
            have hP2 : P ≤ 18446744065119617025 := hP ▸ mul_small (by omega) HV2.out
            by_cases hlt : Q < P
            · have hld : decide ((Q : Int) < (P : Int)) = true := by simp; omega
              have hg0 : 1 ≤ G := by
                rcases Nat.eq_zero_or_pos G with e | e
                · rw [e, Nat.zero_mul] at hP; omega
                · exact e
              have hst := HG.out.step (.inr (by rw [hQ, hP]; exact hlt)) hg0
              by_cases hb : R + v1 < B32
              · have HE := hide (hst.1 hb)
                have hbd : decide ((4294967296 : Int) ≤ (R : Int) + (v1 : Int)) = false := by unfold B32 at hb; simp; omega
                have hb1 : R + v1 < 4294967296 := hb
                clear hst hc hb hQ
                go_wp2_with (go_quiet (fail))
                go_roundw
                case rel => exact ⟨G - 1, R + v1, congrArg (Value.int .u64) (by omega), rfl, HE, hide (HKx.out.drewN _)⟩
                case measure => simp [intOf]; omega
              · have HE := hide (hst.2 (Nat.le_of_not_lt hb) HV2.out)
                have hbd : decide ((4294967296 : Int) ≤ (R : Int) + (v1 : Int)) = true := by unfold B32 at hb; simp; omega
                have hb1 : 4294967296 ≤ R + v1 := Nat.le_of_not_lt hb
                clear hst hc hb hQ
                go_wp2_with (go_quiet (fail))
                go_meet
                exact ⟨hide (HKx.out.drewN _), G - 1, R + v1, congrArg (Value.int .u64) (by omega), rfl, HE⟩
            · have hld : decide ((Q : Int) < (P : Int)) = false := by simp; omega
              have HE := hide (HG.out.done (by omega) (by rw [hP, hQ]; omega))
              have hlt2 : P ≤ Q := Nat.le_of_not_lt hlt
              clear hc hlt hP hQ
              go_wp2_with (go_quiet (fail))
              go_meet
              exact ⟨hide (HKx.out.drewN _), G, R, rfl, rfl, HE⟩
      case rest =>
        obtain ⟨HKx, G, R, rfl, rfl, HGE⟩ := hcut
        have HVx := hide (HV8.out.keep HKx.out id)
        have HRQ := hide (HM.out.rowq.keep HKx.out id)
        have HKM := hide (HM.out.keep.trans' HKx.out (fun _ _ h => h) (fun _ _ h => h.elim))
        have HT0 := hide (⟨Keeps.refl _ _, HM.out.rowu.keep HKx.out id, rfl, HM.out.lowu, fun k hk => high_zero HF2.out hk, by decide, by decide, by simp [pre]⟩ : TakeAt wc Ou us2 vt j m2 G 0 0 0 wc us2)
        have HLen := hide (show j + m2 + 2 < us2.length from by rw [HM.out.lenu]; omega)
        have hG := HGE.out.most
        have HU1 := hide (HGE.out.up rfl (pre_lt (fun x hx => HM.out.lowu x (List.mem_of_mem_drop hx)) m2) HD.out.val (part_lt HTH.out.1 HM.out.at'.rest))
        have HU2 := hide (HGE.out.down (ul := pre (us2.drop j) m2) rfl HD.out.lo HD.out.val (by have := HD.out.top; unfold B32 at this; omega))
        have HOQ := hide (show ¬ Oq = Ou from by have := HV.out.1; have := HO.out; omega)
        have HOV := hide (show ¬ Ov = Ou from by have := HV.out.1; omega)
        unfold B32 at hG
        clear y1 y2 y3 y4 y5 hor hq1 hr1 hv0 hv1 hv2 hN3 hr2 hv1l HG0 HV8 hb0 hb1 hb2 HGE
        go_wp2
        go_loopw [14, 15, 122] (fun bv cv iv wy => ∃ (i b cy : Nat) (us3 : List Nat), bv = .int .u32 (b : Int) ∧ cv = .int .u64 (cy : Int) ∧ iv = .int .i64 (i : Int) ∧ i ≤ M ∧ Hid (TakeAt wc Ou us2 vt j m2 G i cy b wy us3)) (fun _ _ iv _ => M - (intOf iv).toNat)
        case atStart => exact ⟨0, 0, 0, us2, rfl, rfl, rfl, Nat.zero_le _, HT0⟩
        case round =>
          obtain ⟨i, b, cy, us3, rfl, rfl, rfl, hi, HT⟩ := hrel
          have hcy := HT.out.carry; have hbo := HT.out.borrow
          have hlen3 := HT.out.len
          have hlenU := HLen.out
          have hM2 := HN.out.2.1
          by_cases hlt : i < M
          · obtain ⟨t, ht⟩ : ∃ t, t = j + i := ⟨_, rfl⟩
            obtain ⟨Y, hY⟩ : ∃ Y, vt.getD i 0 = Y := ⟨_, rfl⟩
            obtain ⟨Z, hZ⟩ : ∃ Z, us3.getD t 0 = Z := ⟨_, rfl⟩
            have hYl : Y < B32 := hY ▸ HD.out.low.get i
            have hZl : Z < B32 := hZ ▸ HT.out.low.get t
            obtain ⟨P, hP⟩ : ∃ P, G * Y = P := ⟨_, rfl⟩
            have e1 : (G : Int) * (Y : Int) = (P : Int) := by rw [← hP]; rfl
            have hP2 : P ≤ 18446744065119617025 := hP ▸ mul_small hG hYl
            unfold B32 at hcy hYl
            obtain ⟨S, hS⟩ : ∃ S, cy + P = S := ⟨_, rfl⟩
            have hS2 : S < B32 * B32 := by unfold B32; omega
            have hS3 : S ≤ 18446744069414584320 := by omega
            have e2 : (cy : Int) + (P : Int) = (S : Int) := by omega
            obtain ⟨lo, hlo⟩ : ∃ lo, S % B32 = lo := ⟨_, rfl⟩
            obtain ⟨hh, hhi⟩ : ∃ hh, S / B32 = hh := ⟨_, rfl⟩
            have hlol : lo < B32 := hlo ▸ Nat.mod_lt _ (by decide)
            have HST := hide (fun w' d b' => HT.out.step (w' := w') (d := d) (b' := b') ht (by omega) hlenU hZ hY (by rw [hP]; exact hS) hS2)
            rw [hlo, hhi] at HST
            have e3 : (S : Int) % 4294967296 = (lo : Int) := by rw [← hlo]; rfl
            have e4 : (S : Int) / 4294967296 = (hh : Int) := by rw [← hhi]; rfl
            have HC := hide (sub32_any Z lo b hZl hlol hbo wr)
            have f1 : (i : Int) + (j : Int) = (t : Int) := by omega
            have f2 : (t : Int) < (Lu : Int) := by omega
            have f3 : t < Lu := by omega
            have f4 : (i : Int) < (M : Int) := by omega
            have f5 : (0 : Int) ≤ (i : Int) := by omega
            have f6 : (0 : Int) ≤ (t : Int) := by omega
            have f7 : (i : Int) < (Lv : Int) := by omega
            have y1 : wr.cell? ⟨Ou, t, none⟩ = some (.int .u32 (Z : Int)) := hZ ▸ HT.out.row.cell (by rw [hlen3, HM.out.lenu]; omega)
            have y2 : wr.cell? ⟨Ov, i, none⟩ = some (.int .u32 (Y : Int)) := by
              have := (HVx.out.keep HT.out.keep HOV.out).cell (i := i) (by rw [HV.out.2.1]; omega)
              rw [HVC.out i hlt, hY] at this; exact this
            have HR := hide HT.out.row; have HKP := hide HT.out.keep
            unfold B32 at hlol
            clear HT hS hP hlo hhi hZ hY hS2 ht hlen3 hlenU hM2
            go_wp2_with first | (go_at_call 112; refine HC.out.mono ?_; rintro e w4 ⟨d, b2, rfl, hd, hb2, hR, hk4⟩; have HR4 := hide (HR.out.keep hk4 id); have HKP4 := hide (HKP.out.trans' hk4 (fun _ _ h => h) (fun _ _ h => h.elim)); have HX4 := hide (And.intro hd (And.intro hb2 hR)); have r1 : w4.cell? ⟨Ou, t, none⟩ = some (.int .u32 (Z : Int)) := hk4.cell id y1; have r2 : w4.frozen? ⟨Ou, t, none⟩ = false := HR4.out.free t; clear hd hb2 hR hk4 y1 y2 HR HKP HC) | fail
            go_roundw
            case rel => exact ⟨i + 1, b2, hh, us3.set t d, rfl, rfl, rfl, by omega, hide (HST.out _ d b2 HX4.out.2.2 HX4.out.1 HX4.out.2.1 (HR4.out.put t rfl) (HKP4.out.setCell (p := ⟨Ou, t, none⟩) (.inl rfl) _))⟩
            case measure => simp [intOf]; omega
          · obtain rfl : M = i := by omega
            obtain ⟨Z, hZ⟩ : ∃ Z, us3.getD p 0 = Z := ⟨_, rfl⟩
            have hZl : Z < B32 := hZ ▸ HT.out.low.get p
            have HLS := hide (fun w' d b' => (by rw [← hM2]; exact HT.out : TakeAt wc Ou us2 vt j m2 G (m2 + 2) cy b wr us3).last (w' := w') (d := d) (b' := b') HP.out.1 hlenU hZ (by rw [← HD.out.len, pre_len, HD.out.sum]))
            have HC := hide (sub32_any Z cy b hZl hcy hbo wr)
            unfold B32 at hcy
            have y1 : wr.cell? ⟨Ou, p, none⟩ = some (.int .u32 (Z : Int)) := hZ ▸ HT.out.row.cell (by rw [hlen3, HM.out.lenu]; omega)
            have hp0 : (0 : Int) ≤ (p : Int) := by omega
            have hj0 : (0 : Int) ≤ (j : Int) := by omega
            have HR := hide HT.out.row; have HKP := hide HT.out.keep
            have HM2 := hide hM2
            clear HT hZ hlen3 hM2
            go_upto_if 174 with first | (go_at_call 112; refine HC.out.mono ?_; rintro e w4 ⟨d, b2, rfl, hd, hb2, hR, hk4⟩; have HR4 := hide (HR.out.keep hk4 id); have HKP4 := hide (HKP.out.trans' hk4 (fun _ _ h => h) (fun _ _ h => h.elim)); have HX4 := hide (And.intro hd (And.intro hb2 hR)); have r1 : w4.cell? ⟨Ou, p, none⟩ = some (.int .u32 (Z : Int)) := hk4.cell id y1; have r2 : w4.frozen? ⟨Ou, p, none⟩ = false := HR4.out.free p; clear hd hb2 hR hk4 y1 HR HKP HC) | fail
            obtain ⟨us4, hus4⟩ : ∃ us4, us3.set p d = us4 := ⟨_, rfl⟩
            have HRU := HR4.out.put p (v := (d : Int)) rfl
            have HKU := HKP4.out.setCell (p := ⟨Ou, p, none⟩) (.inl rfl) (.int .u32 (d : Int))
            obtain ⟨we, hwe⟩ : ∃ we, w4.setCell ⟨Ou, p, none⟩ (.int .u32 (d : Int)) = we := ⟨_, rfl⟩
            rw [hwe] at HRU HKU ⊢
            obtain ⟨hl1, hl2, hl3, hl4⟩ := HLS.out we d b2 HX4.out.2.2 HX4.out.1 HRU HKU
            rw [hus4] at HRU hl1 hl2 hl3 hl4
            have HRQ4 := hide (HRQ.out.keep HKU HOQ.out)
            have HV4 := hide (HVx.out.keep HKU HOV.out)
            have HKM4 := hide (HKM.out.trans' HKU (fun _ _ h => h) (fun _ _ h => .inl h))
            have HRU4 := hide HRU
            clear hwe hus4 HLS HR4 HKP4 HRU HKU r1 r2
            have hb2 := HX4.out.2.1
            have q1 : we.cell? ⟨Oq, j, none⟩ = some (.int .u32 ((qs.getD j 0 : Nat) : Int)) := HRQ4.out.cell (by rw [HM.out.lenq]; omega)
            have q2 : we.frozen? ⟨Oq, j, none⟩ = false := HRQ4.out.free j
            generalize qs.getD j 0 = oldq at *
            have hUe : nat us2 = B32 ^ j * ((T * B32 + U0) * B32 ^ m2 + pre (us2.drop j) m2) + pre us2 j := HTH.out.1
            rcases b2 with _ | b2
            · have hat := HM.out.at'.none hUe HTH.out.2 HU1.out hl1
              have HN4 := hide (fun w' (hru : RowAt w' Ou us4) hrq hk => HM.out.next (w' := w') dj (show G < B32 from hG) hat hl4 hl3 hru hrq hk)
              clear hat hl1 hl2 hl3 hl4 hUe hb2 HX4
              go_wp2
              go_roundw
              case rel => exact ⟨j, us4, qs.set j G, rfl, by omega, hide (HN4.out _ (HRU4.out.keep ((Keeps.refl (fun k => k = Oq) we).setCell (p := ⟨Oq, j, none⟩) (.inl rfl) _) (fun e => HOQ.out e.symm)) (HRQ4.out.put j (by omega)) (HKM4.out.setCell (p := ⟨Oq, j, none⟩) (.inl (.inr rfl)) _))⟩
              case measure => simp [intOf]
            · obtain rfl : b2 = 0 := by omega
              rw [show (0 : Nat) + 1 = 1 from rfl] at hl1
              have hG0 : 1 ≤ G := by
                rcases Nat.eq_zero_or_pos G with e | e
                · have := borrow_more hl1 hl2; rw [e, Nat.zero_mul, Nat.mul_zero] at this; omega
                · exact e
              have HBK := hide (fun u3 c' => HM.out.at'.back (u3 := u3) (c' := c') hUe HTH.out.2 HU2.out hG0 hl1 hl2)
              have HB0 := hide (⟨Keeps.refl _ _, HRU4.out, rfl, hl3, fun k hk => high_zero hl2 hk, by decide, by simp [pre]⟩ : BackAt we Ou us4 vt j m2 0 0 we us4)
              have HL4 := hide hl4
              clear hl1 hl2 hl3 hl4 hUe hb2 HX4 q1 q2
              rw [show (((0 + 1 : Nat) : Int)) = 1 from rfl, show decide ((0 : Nat) < 0 + 1) = true from rfl]
              go_wp2
              go_loopw [17, 178] (fun cv iv wy => ∃ (i cy : Nat) (us5 : List Nat), cv = .int .u32 (cy : Int) ∧ iv = .int .i64 (i : Int) ∧ i ≤ M ∧ Hid (BackAt we Ou us4 vt j m2 i cy wy us5)) (fun _ iv _ => M - (intOf iv).toNat)
              case atStart => exact ⟨0, 0, us4, rfl, rfl, Nat.zero_le _, HB0⟩
              case round =>
                obtain ⟨i, cy, us5, rfl, rfl, hi, HT⟩ := hrel
                have hcy := HT.out.carry
                have hlen5 := HT.out.len
                have hl4 := HL4.out
                have hM2 := HM2.out
                have hlenM := HM.out.lenu
                by_cases hlt : i < M
                · obtain ⟨t, ht⟩ : ∃ t, t = j + i := ⟨_, rfl⟩
                  obtain ⟨Y, hY⟩ : ∃ Y, vt.getD i 0 = Y := ⟨_, rfl⟩
                  obtain ⟨Z, hZ⟩ : ∃ Z, us5.getD t 0 = Z := ⟨_, rfl⟩
                  have hYl : Y < B32 := hY ▸ HD.out.low.get i
                  have hZl : Z < B32 := hZ ▸ HT.out.low.get t
                  have HST := hide (fun w' d b' => HT.out.step (w' := w') (s := d) (c' := b') ht (by omega) (by omega) hZ hY)
                  have HC := hide (add32_any Z Y cy hZl hYl hcy)
                  have f1 : (i : Int) + (j : Int) = (t : Int) := by omega
                  have f2 : (t : Int) < (Lu : Int) := by omega
                  have f3 : t < Lu := by omega
                  have f4 : (i : Int) < (M : Int) := by omega
                  have f5 : (0 : Int) ≤ (i : Int) := by omega
                  have f6 : (0 : Int) ≤ (t : Int) := by omega
                  have f7 : (i : Int) < (Lv : Int) := by omega
                  have y1 : wr.cell? ⟨Ou, t, none⟩ = some (.int .u32 (Z : Int)) := hZ ▸ HT.out.row.cell (by omega)
                  have y2 : wr.cell? ⟨Ov, i, none⟩ = some (.int .u32 (Y : Int)) := by
                    have := (HV4.out.keep HT.out.keep HOV.out).cell (i := i) (by rw [HV.out.2.1]; omega)
                    rw [HVC.out i hlt, hY] at this; exact this
                  have HR := hide HT.out.row; have HKP := hide HT.out.keep
                  unfold B32 at hYl hZl
                  clear HT hZ hY ht hlen5 hl4 hM2 hlenM
                  go_wp2_with fail
                  have hwt : IntKind.i64.wrap (t : Int) = (t : Int) := by unfold IntKind.wrap; simp [IntKind.bits, IntKind.signed]; omega
                  refine order_begin (fun W => Keeps NoB wr.drew W) (fun k => k != 20) (by kernel_rfl) 22 rfl ?_
                  have y1 : wr.drew.cell? ⟨Ou, t, none⟩ = some (.int .u32 (Z : Int)) := y1
                  have y2 : wr.drew.cell? ⟨Ov, i, none⟩ = some (.int .u32 (Y : Int)) := y2
                  have HR := hide HR.out.drew; have HKP := hide HKP.out.drew
                  generalize wr.drew = W0 at *
                  have HS : Keeps NoB W0 W0 := Keeps.refl _ _
                  refine order_pure (i := 0) rfl (by kernel_rfl) (fun _ _ _ h => h) (.inl ⟨rfl, fun _ => by go_simp; rfl⟩) ?_
                  try simp only [Act.put, List.setIfInBounds_toArray, List.set_cons_succ, List.set_cons_zero]
                  refine order_pure (i := 1) rfl (by kernel_rfl) (fun _ _ _ h => h) (.inl ⟨rfl, fun _ => by go_simp; rfl⟩) ?_
                  try simp only [Act.put, List.setIfInBounds_toArray, List.set_cons_succ, List.set_cons_zero]
                  refine order_pure (i := 2) rfl (by kernel_rfl) (fun _ _ _ h => h) (.inl ⟨rfl, fun _ => by go_simp; rfl⟩) ?_
                  try simp only [Act.put, List.setIfInBounds_toArray, List.set_cons_succ, List.set_cons_zero]
                  refine order_pure (i := 3) rfl (by kernel_rfl) (fun _ _ _ h => h) (.inl ⟨rfl, fun _ => by go_simp; rfl⟩) ?_
                  try simp only [Act.put, List.setIfInBounds_toArray, List.set_cons_succ, List.set_cons_zero]
                  refine order_pure (i := 4) rfl (by kernel_rfl) (fun _ _ _ h => h) (.inl ⟨rfl, fun _ => by go_simp; rfl⟩) ?_
                  try simp only [Act.put, List.setIfInBounds_toArray, List.set_cons_succ, List.set_cons_zero]
                  refine order_pure (i := 5) rfl (by kernel_rfl) (fun _ _ _ h => h) (.inl ⟨rfl, fun _ => by go_simp; rfl⟩) ?_
                  try simp only [Act.put, List.setIfInBounds_toArray, List.set_cons_succ, List.set_cons_zero]
                  refine order_pure (i := 6) rfl (by kernel_rfl) (fun _ _ _ h => h) (.inl ⟨rfl, fun _ => by go_simp; rfl⟩) ?_
                  try simp only [Act.put, List.setIfInBounds_toArray, List.set_cons_succ, List.set_cons_zero]
                  refine order_pure (i := 7) rfl (by kernel_rfl) (fun _ _ _ h => h) (.inl ⟨rfl, fun _ => by go_simp; rfl⟩) ?_
                  try simp only [Act.put, List.setIfInBounds_toArray, List.set_cons_succ, List.set_cons_zero]
                  refine order_pure (i := 8) rfl (by kernel_rfl) (fun _ _ _ h => h) (.inl ⟨rfl, fun _ => by go_simp; rfl⟩) ?_
                  try simp only [Act.put, List.setIfInBounds_toArray, List.set_cons_succ, List.set_cons_zero]
                  refine order_pure (i := 10) rfl (by kernel_rfl) (fun _ _ _ h => h) (.inl ⟨rfl, fun _ => by go_simp; rfl⟩) ?_
                  try simp only [Act.put, List.setIfInBounds_toArray, List.set_cons_succ, List.set_cons_zero]
                  refine order_pure (i := 11) rfl (by kernel_rfl) (fun _ _ _ h => h) (.inl ⟨rfl, fun _ => by go_simp; rfl⟩) ?_
                  try simp only [Act.put, List.setIfInBounds_toArray, List.set_cons_succ, List.set_cons_zero]
                  refine order_pure (i := 12) rfl (by kernel_rfl) (fun _ _ _ h => h) (.inl ⟨rfl, fun _ => by go_simp; rfl⟩) ?_
                  try simp only [Act.put, List.setIfInBounds_toArray, List.set_cons_succ, List.set_cons_zero]
                  refine order_pure (i := 14) rfl (by kernel_rfl) (fun _ _ _ h => h) (.inl ⟨rfl, fun _ => by go_simp; rfl⟩) ?_
                  try simp only [Act.put, List.setIfInBounds_toArray, List.set_cons_succ, List.set_cons_zero]
                  refine order_held (i := 9) rfl (by kernel_rfl) (fun _ _ _ h => h) (.inl ⟨rfl, fun W hW => by
                    have q0 : W.cell? ⟨Ou, t, none⟩ = some (.int .u32 (Z : Int)) := hW.cell id y1
                    go_simp; rfl⟩) HS ?_
                  try simp only [Act.put, List.setIfInBounds_toArray, List.set_cons_succ, List.set_cons_zero]
                  refine order_held (i := 13) rfl (by kernel_rfl) (fun _ _ _ h => h) (.inl ⟨rfl, fun W hW => by
                    have q0 : W.cell? ⟨Ov, i, none⟩ = some (.int .u32 (Y : Int)) := hW.cell id y2
                    go_simp; rfl⟩) HS ?_
                  try simp only [Act.put, List.setIfInBounds_toArray, List.set_cons_succ, List.set_cons_zero]
                  refine order_one (i := 15) rfl (by kernel_rfl) (fun K hK => ?_)
                  go_simp
                  refine (HC.out W0).mono ?_
                  rintro e w4 ⟨d, b2, rfl, hd, hb2, hR, hk4⟩
                  refine hK _ _ (fun _ hS => hS.trans' hk4 (fun _ _ => id) (fun _ _ => id)) ?_
                  clear hK
                  try simp only [Act.put, List.setIfInBounds_toArray, List.set_cons_succ, List.set_cons_zero]
                  have HR4 := hide (HR.out.keep hk4 id); have HKP4 := hide (HKP.out.trans' hk4 (fun _ _ h => h) (fun _ _ h => h.elim))
                  have HX4 := hide (And.intro hd (And.intro hb2 hR))
                  have r1 : w4.cell? ⟨Ou, t, none⟩ = some (.int .u32 (Z : Int)) := hk4.cell id y1
                  have r2 : w4.frozen? ⟨Ou, t, none⟩ = false := HR4.out.free t
                  clear hd hb2 hR hk4 y1 y2 HR HKP HC HS
                  refine order_pure (i := 16) rfl (by kernel_rfl) (fun _ _ _ h => h) (.inl ⟨rfl, fun _ => by go_simp; rfl⟩) ?_
                  try simp only [Act.put, List.setIfInBounds_toArray, List.set_cons_succ, List.set_cons_zero]
                  refine order_pure (i := 17) rfl (by kernel_rfl) (fun _ _ _ h => h) (.inl ⟨rfl, fun _ => by go_simp; rfl⟩) ?_
                  try simp only [Act.put, List.setIfInBounds_toArray, List.set_cons_succ, List.set_cons_zero]
                  refine order_pure (i := 18) rfl (by kernel_rfl) (fun _ _ _ h => h) (.inl ⟨rfl, fun _ => by go_simp; rfl⟩) ?_
                  try simp only [Act.put, List.setIfInBounds_toArray, List.set_cons_succ, List.set_cons_zero]
                  refine order_pure (i := 19) rfl (by kernel_rfl) (fun _ _ _ h => h) (.inl ⟨rfl, fun _ => by go_simp; rfl⟩) ?_
                  try simp only [Act.put, List.setIfInBounds_toArray, List.set_cons_succ, List.set_cons_zero]
                  refine order_one (i := 20) rfl (by kernel_rfl) (fun K hK => ?_)
                  go_simp
                  refine hK _ _ (fun h => by cases h) ?_
                  clear hK
                  try simp only [Act.put, List.setIfInBounds_toArray, List.set_cons_succ, List.set_cons_zero]
                  refine order_pure (i := 21) rfl (by kernel_rfl) (fun _ _ _ h => h) (.inl ⟨rfl, fun _ => by go_simp; rfl⟩) ?_
                  try simp only [Act.put, List.setIfInBounds_toArray, List.set_cons_succ, List.set_cons_zero]
                  refine order_done (by kernel_rfl) ?_
                  clear hwt
                  go_wp2
                  go_roundw
                  case rel =>
                    have hrr := HR4.out.put t (v := (d : Int)) rfl
                    have hkk := HKP4.out.setCell (p := ⟨Ou, t, none⟩) (.inl rfl) (.int .u32 (d : Int))
                    have hbb := hide (HST.out _ d b2 HX4.out.2.2 HX4.out.1 HX4.out.2.1 hrr hkk)
                    exact ⟨i + 1, b2, us5.set t d, rfl, rfl, Nat.succ_le_of_lt hlt, hbb⟩
                  case measure => simp [intOf]; omega
                · obtain rfl : M = i := by omega
                  obtain ⟨Z, hZ⟩ : ∃ Z, us5.getD p 0 = Z := ⟨_, rfl⟩
                  have hZl : Z < B32 := hZ ▸ HT.out.low.get p
                  have hln : j + m2 + 2 < us4.length := by rw [hl4]; exact hlenU
                  have hBT : BackAt we Ou us4 vt j m2 (m2 + 2) cy wr us5 := by rw [← hM2]; exact HT.out
                  have hpv : pre vt (m2 + 2) = V := by rw [← HD.out.len, pre_len, HD.out.sum]
                  obtain ⟨e1, e2, e3, e4, e5⟩ := hBT.last HP.out.1 hln hZ hpv
                  clear hln hBT hpv
                  have hat := HBK.out _ _ e1 e2 e5
                  have y1 : wr.cell? ⟨Ou, p, none⟩ = some (.int .u32 (Z : Int)) := hZ ▸ HT.out.row.cell (by omega)
                  have y2 : wr.frozen? ⟨Ou, p, none⟩ = false := HT.out.row.free p
                  have HRQ5 := hide (HRQ4.out.keep HT.out.keep HOQ.out)
                  have HKM5 := hide (HKM4.out.trans' HT.out.keep (fun _ _ h => h) (fun _ _ h => .inl h))
                  obtain ⟨zz, hzz⟩ : ∃ zz, (Z + cy) % B32 = zz := ⟨_, rfl⟩
                  have ez : ((Z : Int) + (cy : Int)) % 4294967296 = (zz : Int) := by rw [← hzz]; rfl
                  rw [hzz] at hat e3 e4
                  have HR5 := hide (HT.out.row.put p (v := (zz : Int)) rfl)
                  have HK5 := hide ((Keeps.refl (fun k => k = Ou) wr).setCell (p := ⟨Ou, p, none⟩) (.inl rfl) (.int .u32 (zz : Int)))
                  have q1 : wr.cell? ⟨Oq, j, none⟩ = some (.int .u32 ((qs.getD j 0 : Nat) : Int)) := HRQ5.out.cell (by rw [HM.out.lenq]; omega)
                  have q2 : wr.frozen? ⟨Oq, j, none⟩ = false := HRQ5.out.free j
                  generalize qs.getD j 0 = oldq at *
                  have HN4 := hide (fun w' hru hrq hk => HM.out.next (w' := w') dj (show G - 1 < B32 from by unfold B32; omega) hat (e4.trans hl4) e3 hru hrq hk)
                  have hne : ¬ Ou = Oq := fun e => HOQ.out e.symm
                  unfold B32 at hZl
                  clear HT hZ hat e1 e2 e3 e4 e5 hlen5 hl4 hM2 hlenM hzz HBK
                  go_wp2
                  go_roundw
                  case rel => exact ⟨j, us5.set p zz, qs.set j (G - 1), rfl, by omega, hide (HN4.out _ (HR5.out.keep ((Keeps.refl (fun k => k = Oq) _).setCell (p := ⟨Oq, j, none⟩) (.inl rfl) _) hne) ((HRQ5.out.keep HK5.out HOQ.out).put j (by omega)) ((HKM5.out.trans' HK5.out (fun _ _ h => h) (fun _ _ h => .inl h)).setCell (p := ⟨Oq, j, none⟩) (.inl (.inr rfl)) _))⟩
                  case measure => simp [intOf]
end Go.Proofs.YthbbalkhmofndaaGreatDoor
