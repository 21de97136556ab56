/- kit.NodesOf, law07.small, law07.longest. -/
import Derived.Test.YtincajfanhanjaaDoorKinds
import Derived.Test.YtincajfanhanjaaDoorChRen2
namespace Go.Proofs.YtincajfanhanjaaDoor
open Go.RowKit

mutual
/-- kit.NodesOf -/
def nodesN : Nd → Int → Int
  | .mk _ tx _ _ kids, most => nodesL kids most (1 + (tx.size : Int) / 8)
def nodesL : List Nd → Int → Int → Int
  | [], _, n => n
  | t :: ts, most, n => if n ≤ most then nodesL ts most (n + nodesN t (most - n)) else n
end
mutual
theorem nodes_pos : ∀ (t : Nd) (most : Int), 1 ≤ nodesN t most
  | .mk _ tx _ _ kids, most => by
    unfold nodesN
    have := nodesL_ge kids most (1 + (tx.size : Int) / 8)
    omega
theorem nodesL_ge : ∀ (ts : List Nd) (most n : Int), n ≤ nodesL ts most n
  | [], _, n => by unfold nodesL; omega
  | t :: ts, most, n => by
    unfold nodesL
    split
    · have h1 := nodes_pos t (most - n)
      have h2 := nodesL_ge ts most (n + nodesN t (most - n))
      omega
    · omega
end
def textCap : Int := 17592186044417
mutual
theorem nodes_le : ∀ (t : Nd) (most : Int), okN t → 0 ≤ most → nodesN t most ≤ most + textCap
  | .mk _ tx _ _ kids, most, ho, hm => by
    unfold okN at ho
    unfold nodesN
    exact nodesL_le kids most _ ho.2.2.2.2 hm (by unfold textCap; have := ho.2.1; omega)
theorem nodesL_le : ∀ (ts : List Nd) (most n : Int), okNs ts → 0 ≤ most → n ≤ most + textCap → nodesL ts most n ≤ most + textCap
  | [], _, n, _, _, h => by unfold nodesL; exact h
  | t :: ts, most, n, ho, hm, h => by
    unfold okNs at ho
    unfold nodesL
    split
    · exact nodesL_le ts most _ ho.2 hm (by have := nodes_le t (most - n) ho.1 (by omega); omega)
    · exact h
end
mutual
/-- A tree that is small has no more nodes. -/
theorem nodes_many : ∀ (t : Nd) (most : Int), nodesN t most ≤ most → (manyN t : Int) ≤ nodesN t most
  | .mk _ tx _ _ kids, most, h => by
    unfold nodesN at h ⊢
    unfold manyN
    have := nodesL_many kids most _ h
    omega
theorem nodesL_many : ∀ (ts : List Nd) (most n : Int), nodesL ts most n ≤ most → (manysN ts : Int) + n ≤ nodesL ts most n
  | [], _, n, _ => by unfold nodesL manysN; omega
  | t :: ts, most, n, h => by
    unfold nodesL at h ⊢
    unfold manysN
    by_cases hn : n ≤ most
    · rw [if_pos hn] at h ⊢
      have h2 := nodesL_ge ts most (n + nodesN t (most - n))
      have h1 := nodes_many t (most - n) (by omega)
      have h3 := nodesL_many ts most _ h
      omega
    · rw [if_neg hn] at h
      omega
end
theorem nodesL_step : ∀ {ts : List Nd} {k : Nat} {t : Nd} {most n : Int}, ts[k]? = some t → nodesL (ts.take k) most n ≤ most → nodesL (ts.take (k + 1)) most n = nodesL (ts.take k) most n + nodesN t (most - nodesL (ts.take k) most n)
  | [], k, t, _, _, h, _ => by simp at h
  | a :: ts, 0, t, most, n, h, hm => by
    obtain rfl : a = t := by simpa using h
    simp only [List.take_zero, nodesL] at hm
    simp only [List.take_succ_cons, List.take_zero, nodesL]
    rw [if_pos hm]
  | a :: ts, k + 1, t, most, n, h, hm => by
    simp only [List.take_succ_cons, nodesL] at hm ⊢
    by_cases hn : n ≤ most
    · rw [if_pos hn] at hm ⊢
      rw [if_pos hn]
      exact nodesL_step (by simpa using h) hm
    · rw [if_neg hn] at hm
      omega
/-- Where it is too much already, it stays. -/
theorem nodesL_stay : ∀ {ts : List Nd} {k : Nat} {most n : Int}, most < nodesL (ts.take k) most n → nodesL ts most n = nodesL (ts.take k) most n
  | [], k, most, n, h => by simp
  | a :: ts, 0, most, n, h => by
    simp only [List.take_zero, nodesL] at h ⊢
    rw [if_neg (by omega)]
  | a :: ts, k + 1, most, n, h => by
    simp only [List.take_succ_cons, nodesL] at h ⊢
    by_cases hn : n ≤ most
    · rw [if_pos hn] at h ⊢
      rw [if_pos hn]
      exact nodesL_stay h
    · rw [if_neg hn, if_neg hn]
theorem okNs_of : ∀ (ts : List Nd), (∀ t ∈ ts, okN t) → okNs ts
  | [], _ => by unfold okNs; trivial
  | t :: ts, h => by unfold okNs; exact ⟨h t List.mem_cons_self, okNs_of ts (fun x hx => h x (List.mem_cons_of_mem _ hx))⟩
def NodesSaid (M : Nat) : Prop := ∀ t : Nd, t.size ≤ M → okN t → ∀ (most : Int), 0 ≤ most → most ≤ 1000000 → ∀ (w : World) (B : Nat → Prop) (F : Bool) (kd : Int) (tx : ByteArray) (nm pl : Int) (ka : Option Addr) (kn kc : Nat), NodeIn w B F [.int .u8 kd, .string tx, .int .i64 nm, .int .i64 pl, .slice ka kn kc] t →
  Calls Tryd.prog 16 #[.agg #[.int .u8 kd, .string tx, .int .i64 nm, .int .i64 pl, .slice ka kn kc], .int .i64 most] w fun e w' => e = .returned (.int .i64 (nodesN t most)) ∧ Keeps NoB w w'
set_option maxRecDepth 100000 in
set_option maxHeartbeats 2000000 in
theorem nodes_walk (M : Nat) (IH : NodesSaid M) (t : Nd) (hM : t.size ≤ M + 1) (ho : okN t) (most : Int) (hm0 : 0 ≤ most) (hm1 : most ≤ 1000000) (w : World) (B : Nat → Prop) (F : Bool) (kd : Int) (tx : ByteArray) (nm pl : Int) (ka : Option Addr) (kn kc : Nat) (ht : NodeIn w B F [.int .u8 kd, .string tx, .int .i64 nm, .int .i64 pl, .slice ka kn kc] t) :
    Calls Tryd.prog 16 #[.agg #[.int .u8 kd, .string tx, .int .i64 nm, .int .i64 pl, .slice ka kn kc], .int .i64 most] w fun e w' => e = .returned (.int .i64 (nodesN t most)) ∧ Keeps NoB w w' := by
  obtain ⟨kids, css, rfl, hroom, hr, hc, hkl⟩ := ht.kidsIn
  have hnm : kn ≤ 9223372036854775807 := by have := hroom.1.len (by omega); unfold maxLen at this; exact this
  have hks : Nd.size.sizes kids ≤ M := by simp only [Nd.size] at hM; omega
  unfold okN at ho
  have htx := ho.2.1
  have HE : Hid (nodesN (.mk kd tx nm pl kids) most = nodesL kids most (1 + (tx.size : Int) / 8)) := hide (by unfold nodesN; rfl)
  have hokk := okNs_mem ho.2.2.2.2
  have HLE := hide (fun k => And.intro (nodesL_ge (kids.take k) most (1 + (tx.size : Int) / 8)) (nodesL_le (kids.take k) most (1 + (tx.size : Int) / 8) (okNs_of _ (fun t ht => hokk t (List.mem_of_mem_take ht))) hm0 (by unfold textCap; omega)))
  have HKS := hide hks; have HR := hide hr; have HC := hide hc; have HKL := hide hkl; have HIH := hide IH; have HOK := hide hokk; have HM := hide (And.intro hm0 hm1)
  have HK0 := hide ((Keeps.refl NoB w).alloc (.cells #[.int .u8 kd, .string tx, .int .i64 nm, .int .i64 pl, .slice ka kn kc] 29))
  have HBX := hide (Blk.new w 29 #[.int .u8 kd, .string tx, .int .i64 nm, .int .i64 pl, .slice ka kn kc])
  have htxi : (tx.size : Int) ≤ 140737488355328 := by omega
  have hn1 : 1 ≤ 1 + (tx.size : Int) / 8 := by omega
  have hn2 : 1 + (tx.size : Int) / 8 ≤ 17592186044417 := by omega
  clear ht ho hroom hr hc hkl hks hM IH hokk
  go_enter Tryd.func16, Tryd.ntmps16
  go_wp2
  go_loopg [5, 6] kn (fun g s5 s6 wx => ∃ k : Nat, k ≤ kn ∧ g = kn - k ∧ s6 = .int .i64 k ∧ s5 = .int .i64 (nodesL (kids.take k) most (1 + (tx.size : Int) / 8)) ∧ Keeps NoB (w.alloc (.cells #[.int .u8 kd, .string tx, .int .i64 nm, .int .i64 pl, .slice ka kn kc] 29)) wx)
  case atStart => exact ⟨0, Nat.zero_le _, rfl, rfl, by simp only [List.take_zero, nodesL], Keeps.refl _ _⟩
  case round =>
    obtain ⟨k, hk, rfl, rfl, rfl, hkw⟩ := hrel
    have q4 : wr.cell? ⟨w.heap.size, 4, none⟩ = some (.slice ka kn kc) := hkw.cell id (HBX.out.cell 4)
    have HKW := hide (HK0.out.trans' hkw (fun _ _ => id) (fun _ _ => id) : Keeps NoB w wr); have HKV := hide hkw; clear hkw
    obtain ⟨n, hn⟩ : ∃ n, nodesL (kids.take k) most (1 + (tx.size : Int) / 8) = n := ⟨_, rfl⟩
    have hb := HLE.out k
    rw [hn] at hb ⊢
    have HN := hide hn
    unfold textCap at hb
    have hn0 : 1 ≤ n ∧ n ≤ 17592187044417 := by have := HM.out; omega
    clear hn hb
    by_cases hlt : k < kn
    · have hk1 : (k : Int) < (kn : Int) := by omega
      have hk0 : (0 : Int) ≤ (k : Int) := by omega
      by_cases hle : n ≤ most
      · obtain ⟨b1, o1, kd1, tx1, nm1, pl1, ka1, kn1, kc1, t1, hA, _, _, h1, hsz, hu, f0, f1, f2, f3, f4⟩ := node_at (HR.out.keep HKW.out (fun _ _ => id)) (NodesIn.keep HKW.out (fun _ _ => id) _ _ HC.out) k hlt
        subst hA
        have hm0 := HM.out.1; have hm1 := HM.out.2
        have hsub : most - n ≤ 1000000 ∧ 0 ≤ most - n := by omega
        have HI := hide (HIH.out t1 (Nat.le_trans hsz HKS.out) (HOK.out _ (List.mem_of_getElem? h1)) (most - n) (by omega) (by omega) wr B F kd1 tx1 nm1 pl1 ka1 kn1 kc1 hu)
        have hnx := nodesL_step (most := most) (n := 1 + (tx.size : Int) / 8) h1 (by rw [HN.out]; exact hle)
        rw [HN.out] at hnx
        have hp := nodes_pos t1 (most - n)
        have hq := nodes_le t1 (most - n) (HOK.out _ (List.mem_of_getElem? h1)) (by omega)
        unfold textCap at hq
        have HNX := hide hnx
        obtain ⟨v, hv⟩ : ∃ v, nodesN t1 (most - n) = v := ⟨_, rfl⟩
        rw [hv] at hp hq hnx
        have HV := hide hv
        have HNX2 := hide hnx
        clear hu h1 hsz hnx hv
        go_wp2_with
          first
          | (go_at_call 16
             refine HI.out.mono ?_
             rintro e w2 ⟨rfl, hk2⟩
             rw [HV.out]
             have HK2 := hide (HKV.out.trans' hk2 (fun _ _ => id) (fun _ _ => id) : Keeps NoB (w.alloc (.cells #[.int .u8 kd, .string tx, .int .i64 nm, .int .i64 pl, .slice (some ⟨b1, o1, none⟩) kn kc] 29)) w2)
             clear hk2)
          | fail
        go_roundg (kn - (k + 1))
        case measure => omega
        case rel => exact ⟨k + 1, by omega, rfl, by go_num, by rw [HNX2.out], HK2.out⟩
      · have hnle : most < n := by omega
        have hst := nodesL_stay (ts := kids) (k := k) (most := most) (n := 1 + (tx.size : Int) / 8) (by rw [HN.out]; exact hnle)
        have HST := hide hst
        clear hst
        go_wp2
        go_ret
        exact ⟨by rw [HE.out, HST.out, HN.out]; rfl, HKW.out⟩
    · obtain rfl : k = kn := by omega
      have he : kids.take k = kids := List.take_of_length_le (by have := HKL.out; omega)
      have hfin : nodesL kids most (1 + (tx.size : Int) / 8) = n := by rw [← HN.out, he]
      have HFIN := hide hfin
      clear he hfin
      go_wp2
      go_ret
      exact ⟨by rw [HE.out, HFIN.out]; rfl, HKW.out⟩
theorem nodes_any (t : Nd) (ho : okN t) (most : Int) (hm0 : 0 ≤ most) (hm1 : most ≤ 1000000) (w : World) (B : Nat → Prop) (F : Bool) (kd : Int) (tx : ByteArray) (nm pl : Int) (ka : Option Addr) (kn kc : Nat) (ht : NodeIn w B F [.int .u8 kd, .string tx, .int .i64 nm, .int .i64 pl, .slice ka kn kc] t) :
    Calls Tryd.prog 16 #[.agg #[.int .u8 kd, .string tx, .int .i64 nm, .int .i64 pl, .slice ka kn kc], .int .i64 most] w fun e w' => e = .returned (.int .i64 (nodesN t most)) ∧ Keeps NoB w w' := by
  have H : ∀ M, NodesSaid M := by
    intro M
    induction M with
    | zero => intro t h; have := t.size_pos; omega
    | succ M IH => intro t h ho most h0 h1 w B F kd tx nm pl ka kn kc ht; exact nodes_walk M IH t h ho most h0 h1 w B F kd tx nm pl ka kn kc ht
  exact H _ t (Nat.le_refl _) ho most hm0 hm1 w B F kd tx nm pl ka kn kc ht
def smallN (t : Nd) : Bool := decide (nodesN t 3000 ≤ 3000)
set_option maxRecDepth 100000 in
theorem small_any (t : Nd) (ho : okN t) (w : World) (B : Nat → Prop) (F : Bool) (kd : Int) (tx : ByteArray) (nm pl : Int) (ka : Option Addr) (kn kc : Nat) (ht : NodeIn w B F [.int .u8 kd, .string tx, .int .i64 nm, .int .i64 pl, .slice ka kn kc] t) :
    Calls Tryd.prog 10 #[.agg #[.int .u8 kd, .string tx, .int .i64 nm, .int .i64 pl, .slice ka kn kc]] w fun e w' => e = .returned (.bool (smallN t)) ∧ Keeps NoB w w' := by
  have hk0 : Keeps NoB w (w.alloc (.cells #[.int .u8 kd, .string tx, .int .i64 nm, .int .i64 pl, .slice ka kn kc] 29)) := (Keeps.refl NoB w).alloc _
  have HK := hide hk0
  have HI := hide (nodes_any t ho 3000 (by omega) (by omega) _ B F kd tx nm pl ka kn kc (NodeIn.keep hk0 (fun _ _ => id) _ _ ht))
  have HV : Hid (smallN t = decide (nodesN t 3000 ≤ 3000)) := hide rfl
  clear hk0 ht ho
  go_enter Tryd.func10, Tryd.ntmps10
  go_wp2_with
    first
    | (go_at_call 16
       refine HI.out.mono ?_
       rintro e w2 ⟨rfl, hk⟩
       have HK2 := hide (HK.out.trans' hk (fun _ _ => id) (fun _ _ => id) : Keeps NoB w w2)
       clear hk)
    | fail
  go_ret
  exact ⟨by rw [HV.out]; rfl, HK2.out⟩
theorem small_many {t : Nd} (h : smallN t = true) : manyN t ≤ 3000 := by
  unfold smallN at h
  have h1 : nodesN t 3000 ≤ 3000 := by simpa using h
  have := nodes_many t 3000 h1
  omega
theorem longs_take : ∀ {ts : List Nd} {k : Nat} {t : Nd}, ts[k]? = some t → longsN (ts.take (k + 1)) = max (longsN (ts.take k)) (longN t)
  | [], k, t, h => by simp at h
  | a :: ts, 0, t, h => by
    have e : a = t := by simpa using h
    subst e
    simp only [List.take_succ_cons, List.take_zero, longsN]; omega
  | a :: ts, k + 1, t, h => by
    have e := longs_take (ts := ts) (k := k) (t := t) (by simpa using h)
    simp only [List.take_succ_cons, longsN] at e ⊢; rw [e]; omega
mutual
theorem long_ok : ∀ t : Nd, okN t → longN t ≤ 140737488355328
  | .mk k tx _ _ kids, h => by
    unfold okN at h
    have := longs_ok kids h.2.2.2.2
    have := h.2.1
    unfold longN
    split <;> omega
theorem longs_ok : ∀ ts : List Nd, okNs ts → longsN ts ≤ 140737488355328
  | [], _ => by unfold longsN; omega
  | t :: ts, h => by
    unfold okNs at h
    have := long_ok t h.1; have := longs_ok ts h.2
    unfold longsN; omega
end
def LongSaid (M : Nat) : Prop := ∀ t : Nd, t.size ≤ M → okN t → ∀ (w : World) (B : Nat → Prop) (F : Bool) (kd : Int) (tx : ByteArray) (nm pl : Int) (ka : Option Addr) (kn kc : Nat), NodeIn w B F [.int .u8 kd, .string tx, .int .i64 nm, .int .i64 pl, .slice ka kn kc] t →
  Calls Tryd.prog 12 #[.agg #[.int .u8 kd, .string tx, .int .i64 nm, .int .i64 pl, .slice ka kn kc]] w fun e w' => e = .returned (.int .i64 ((longN t : Nat) : Int)) ∧ Keeps NoB w w'
set_option maxRecDepth 100000 in
set_option maxHeartbeats 2000000 in
theorem long_walk (M : Nat) (IH : LongSaid M) (t : Nd) (hM : t.size ≤ M + 1) (ho : okN t) (w : World) (B : Nat → Prop) (F : Bool) (kd : Int) (tx : ByteArray) (nm pl : Int) (ka : Option Addr) (kn kc : Nat) (ht : NodeIn w B F [.int .u8 kd, .string tx, .int .i64 nm, .int .i64 pl, .slice ka kn kc] t) :
    Calls Tryd.prog 12 #[.agg #[.int .u8 kd, .string tx, .int .i64 nm, .int .i64 pl, .slice ka kn kc]] w fun e w' => e = .returned (.int .i64 ((longN t : Nat) : Int)) ∧ Keeps NoB w w' := by
  obtain ⟨kids, css, rfl, hroom, hr, hc, hkl⟩ := ht.kidsIn
  have hnm : kn ≤ 9223372036854775807 := by have := hroom.1.len (by omega); unfold maxLen at this; exact this
  have hks : Nd.size.sizes kids ≤ M := by simp only [Nd.size] at hM; omega
  unfold okN at ho
  have htx := ho.2.1
  have hokk := okNs_mem ho.2.2.2.2
  have HE : Hid (longN (.mk kd tx nm pl kids) = max (if kd = 3 then tx.size else 0) (longsN kids)) := hide (by unfold longN; rfl)
  have HLE := hide (fun k => longs_ok (kids.take k) (okNs_of _ (fun t ht => hokk t (List.mem_of_mem_take ht))))
  have HKS := hide hks; have HR := hide hr; have HC := hide hc; have HKL := hide hkl; have HIH := hide IH; have HOK := hide hokk
  have HK0 := hide ((Keeps.refl NoB w).alloc (.cells #[.int .u8 kd, .string tx, .int .i64 nm, .int .i64 pl, .slice ka kn kc] 29))
  have HBX := hide (Blk.new w 29 #[.int .u8 kd, .string tx, .int .i64 nm, .int .i64 pl, .slice ka kn kc])
  clear ht ho hroom hr hc hkl hks hM IH hokk
  by_cases h3 : kd = 3
  · subst h3
    go_enter Tryd.func12, Tryd.ntmps12
    go_wp2
    go_loopg [3, 4] kn (fun g s3 s4 wx => ∃ k : Nat, k ≤ kn ∧ g = kn - k ∧ s4 = .int .i64 k ∧ s3 = .int .i64 ((max tx.size (longsN (kids.take k)) : Nat) : Int) ∧ Keeps NoB (w.alloc (.cells #[.int .u8 3, .string tx, .int .i64 nm, .int .i64 pl, .slice ka kn kc] 29)) wx)
    case atStart => exact ⟨0, Nat.zero_le _, rfl, rfl, by simp [longsN], Keeps.refl _ _⟩
    case round =>
      obtain ⟨k, hk, rfl, rfl, rfl, hkw⟩ := hrel
      have q4 : wr.cell? ⟨w.heap.size, 4, none⟩ = some (.slice ka kn kc) := hkw.cell id (HBX.out.cell 4)
      have HKW := hide (HK0.out.trans' hkw (fun _ _ => id) (fun _ _ => id) : Keeps NoB w wr); have HKV := hide hkw; clear hkw
      have hb := HLE.out k
      obtain ⟨n, hn⟩ : ∃ n, max tx.size (longsN (kids.take k)) = n := ⟨_, rfl⟩
      rw [hn]
      have HN := hide hn
      have hn0 : n ≤ 140737488355328 := by omega
      clear hn hb
      by_cases hlt : k < kn
      · have hk1 : (k : Int) < (kn : Int) := by omega
        have hk0 : (0 : Int) ≤ (k : Int) := by omega
        obtain ⟨b1, o1, kd1, tx1, nm1, pl1, ka1, kn1, kc1, t1, hA, _, _, h1, hsz, hu, f0, f1, f2, f3, f4⟩ := node_at (HR.out.keep HKW.out (fun _ _ => id)) (NodesIn.keep HKW.out (fun _ _ => id) _ _ HC.out) k hlt
        subst hA
        have HI := hide (HIH.out t1 (Nat.le_trans hsz HKS.out) (HOK.out _ (List.mem_of_getElem? h1)) wr B F kd1 tx1 nm1 pl1 ka1 kn1 kc1 hu)
        have hT := longs_take h1
        have hv0 := long_ok t1 (HOK.out _ (List.mem_of_getElem? h1))
        obtain ⟨v, hv⟩ : ∃ v, longN t1 = v := ⟨_, rfl⟩
        rw [hv] at hT hv0
        have HV := hide hv
        have HT := hide (show max tx.size (longsN (kids.take (k + 1))) = max n v by rw [hT, ← HN.out]; omega)
        clear hu h1 hsz hT hv
        go_wp2_with
          first
          | (go_at_call 12
             refine HI.out.mono ?_
             rintro e w2 ⟨rfl, hk2⟩
             rw [HV.out]
             have HK2 := hide (HKV.out.trans' hk2 (fun _ _ => id) (fun _ _ => id) : Keeps NoB (w.alloc (.cells #[.int .u8 3, .string tx, .int .i64 nm, .int .i64 pl, .slice (some ⟨b1, o1, none⟩) kn kc] 29)) w2)
             clear hk2)
          | fail
        go_roundg (kn - (k + 1))
        case measure => omega
        case rel => exact ⟨k + 1, by omega, rfl, by go_num, by rw [HT.out]; go_num, HK2.out⟩
      · obtain rfl : k = kn := by omega
        have he : kids.take k = kids := List.take_of_length_le (by have := HKL.out; omega)
        have hfin : max tx.size (longsN kids) = n := by rw [← HN.out, he]
        have HFIN := hide hfin
        clear he hfin
        go_wp2
        go_ret
        exact ⟨by rw [HE.out, if_pos trivial, HFIN.out]; rfl, HKW.out⟩
  · have hkb : (kd == 3) = false := by simpa using h3
    have H3 := hide h3
    clear h3
    go_enter Tryd.func12, Tryd.ntmps12
    go_wp2
    go_loopg [3, 4] kn (fun g s3 s4 wx => ∃ k : Nat, k ≤ kn ∧ g = kn - k ∧ s4 = .int .i64 k ∧ s3 = .int .i64 ((max 0 (longsN (kids.take k)) : Nat) : Int) ∧ Keeps NoB (w.alloc (.cells #[.int .u8 kd, .string tx, .int .i64 nm, .int .i64 pl, .slice ka kn kc] 29)) wx)
    case atStart => exact ⟨0, Nat.zero_le _, rfl, rfl, by simp [longsN], Keeps.refl _ _⟩
    case round =>
      obtain ⟨k, hk, rfl, rfl, rfl, hkw⟩ := hrel
      have q4 : wr.cell? ⟨w.heap.size, 4, none⟩ = some (.slice ka kn kc) := hkw.cell id (HBX.out.cell 4)
      have HKW := hide (HK0.out.trans' hkw (fun _ _ => id) (fun _ _ => id) : Keeps NoB w wr); have HKV := hide hkw; clear hkw
      have hb := HLE.out k
      obtain ⟨n, hn⟩ : ∃ n, max 0 (longsN (kids.take k)) = n := ⟨_, rfl⟩
      rw [hn]
      have HN := hide hn
      have hn0 : n ≤ 140737488355328 := by omega
      clear hn hb
      by_cases hlt : k < kn
      · have hk1 : (k : Int) < (kn : Int) := by omega
        have hk0 : (0 : Int) ≤ (k : Int) := by omega
        obtain ⟨b1, o1, kd1, tx1, nm1, pl1, ka1, kn1, kc1, t1, hA, _, _, h1, hsz, hu, f0, f1, f2, f3, f4⟩ := node_at (HR.out.keep HKW.out (fun _ _ => id)) (NodesIn.keep HKW.out (fun _ _ => id) _ _ HC.out) k hlt
        subst hA
        have HI := hide (HIH.out t1 (Nat.le_trans hsz HKS.out) (HOK.out _ (List.mem_of_getElem? h1)) wr B F kd1 tx1 nm1 pl1 ka1 kn1 kc1 hu)
        have hT := longs_take h1
        have hv0 := long_ok t1 (HOK.out _ (List.mem_of_getElem? h1))
        obtain ⟨v, hv⟩ : ∃ v, longN t1 = v := ⟨_, rfl⟩
        rw [hv] at hT hv0
        have HV := hide hv
        have HT := hide (show max 0 (longsN (kids.take (k + 1))) = max n v by rw [hT, ← HN.out]; omega)
        clear hu h1 hsz hT hv
        go_wp2_with
          first
          | (go_at_call 12
             refine HI.out.mono ?_
             rintro e w2 ⟨rfl, hk2⟩
             rw [HV.out]
             have HK2 := hide (HKV.out.trans' hk2 (fun _ _ => id) (fun _ _ => id) : Keeps NoB (w.alloc (.cells #[.int .u8 kd, .string tx, .int .i64 nm, .int .i64 pl, .slice (some ⟨b1, o1, none⟩) kn kc] 29)) w2)
             clear hk2)
          | fail
        go_roundg (kn - (k + 1))
        case measure => omega
        case rel => exact ⟨k + 1, by omega, rfl, by go_num, by rw [HT.out]; go_num, HK2.out⟩
      · obtain rfl : k = kn := by omega
        have he : kids.take k = kids := List.take_of_length_le (by have := HKL.out; omega)
        have hfin : max 0 (longsN kids) = n := by rw [← HN.out, he]
        have HFIN := hide hfin
        clear he hfin
        go_wp2
        go_ret
        exact ⟨by rw [HE.out, if_neg H3.out, HFIN.out]; rfl, HKW.out⟩
theorem long_any (t : Nd) (ho : okN t) (w : World) (B : Nat → Prop) (F : Bool) (kd : Int) (tx : ByteArray) (nm pl : Int) (ka : Option Addr) (kn kc : Nat) (ht : NodeIn w B F [.int .u8 kd, .string tx, .int .i64 nm, .int .i64 pl, .slice ka kn kc] t) :
    Calls Tryd.prog 12 #[.agg #[.int .u8 kd, .string tx, .int .i64 nm, .int .i64 pl, .slice ka kn kc]] w fun e w' => e = .returned (.int .i64 ((longN t : Nat) : Int)) ∧ Keeps NoB w w' := by
  have H : ∀ M, LongSaid M := by
    intro M
    induction M with
    | zero => intro t h; have := t.size_pos; omega
    | succ M IH => intro t h ho w B F kd tx nm pl ka kn kc ht; exact long_walk M IH t h ho w B F kd tx nm pl ka kn kc ht
  exact H _ t (Nat.le_refl _) ho w B F kd tx nm pl ka kn kc ht
end Go.Proofs.YtincajfanhanjaaDoor
