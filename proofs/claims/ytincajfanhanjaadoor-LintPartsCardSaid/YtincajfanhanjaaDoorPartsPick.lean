/- kit.Pick, law07.calls: their contracts. -/
import Derived.Test.YtincajfanhanjaaDoorNames
import Derived.Test.YtincajfanhanjaaDoorChParts
namespace Go.Proofs.YtincajfanhanjaaDoor
open Go.RowKit

set_option maxRecDepth 100000 in
/-- kit.Pick: a place in a list that is not empty. -/
theorem pick_any (x : Int) (n : Nat) (w : World) (hx : -9223372036854775808 ≤ x ∧ x ≤ 9223372036854775807) (h0 : 0 < n) (hn : n ≤ 1000000) : Calls Tryd.prog 14 #[.int .i64 x, .int .i64 n] w fun e w' => w' = w ∧ ∃ k : Nat, k < n ∧ e = .returned (.int .i64 k) := by
  have hn1 : ¬ (n : Int) < 1 := by omega
  have hn0 : ¬ (n : Int) = 0 := by omega
  have h1 : -(n : Int) < Int.tmod x n := by have := Int.lt_tmod_of_pos x (b := (n : Int)) (by omega); omega
  have h2 : Int.tmod x n < n := Int.tmod_lt_of_pos x (by omega)
  obtain ⟨r, hr⟩ : ∃ r, Int.tmod x n = r := ⟨_, rfl⟩
  rw [hr] at h1 h2
  by_cases hneg : r < 0
  · go_enter Tryd.func14, Tryd.ntmps14
    go_wp2
    go_ret
    exact ⟨rfl, (r + n).toNat, by omega, by rw [show (((r + n).toNat : Nat) : Int) = r + n by omega]; rfl⟩
  · go_enter Tryd.func14, Tryd.ntmps14
    go_wp2
    go_ret
    exact ⟨rfl, r.toNat, by omega, by rw [show ((r.toNat : Nat) : Int) = r by omega]; rfl⟩
theorem str_eq {a b : ByteArray} (h : a.toList = b.toList) : a = b := by
  rw [Lib.toList_data, Lib.toList_data] at h; exact key_inj h
def CallsSaid (M : Nat) (u : ByteArray) (ar : Int) : Prop := ∀ t : Nd, t.size ≤ M → ∀ (w : World) (B : Nat → Prop) (F : Bool) (kd : Int) (tx : ByteArray) (nm pl : Int) (ka : Option Addr) (kn kc : Nat), NodeIn w B F [.int .u8 kd, .string tx, .int .i64 nm, .int .i64 pl, .slice ka kn kc] t →
  Calls Tryd.prog 15 #[.agg #[.int .u8 kd, .string tx, .int .i64 nm, .int .i64 pl, .slice ka kn kc], .string u, .int .i64 ar] w fun e w' => e = .returned (.bool (callsN u ar t)) ∧ Keeps NoB w w'
theorem callss_stop {u : ByteArray} {ar : Int} {t : Nd} : ∀ {ts : List Nd} {k : Nat}, ts[k]? = some t → callsN u ar t = true → callssN u ar ts = true
  | [], _, h, _ => by simp at h
  | a :: ts, 0, h, ht => by
    obtain rfl : a = t := by simpa using h
    unfold callssN; rw [ht]; rfl
  | a :: ts, k + 1, h, ht => by unfold callssN; rw [callss_stop (by simpa using h) ht]; simp
theorem callss_step {u : ByteArray} {ar : Int} {t : Nd} : ∀ {ts : List Nd} {k : Nat}, ts[k]? = some t → callssN u ar (ts.take k) = false → callsN u ar t = false → callssN u ar (ts.take (k + 1)) = false
  | [], _, h, _, _ => by simp at h
  | a :: ts, 0, h, _, ht => by
    obtain rfl : a = t := by simpa using h
    simp only [List.take_succ_cons, List.take_zero, callssN, ht]; rfl
  | a :: ts, k + 1, h, hk, ht => by
    simp only [List.take_succ_cons, callssN, Bool.or_eq_false_iff] at hk ⊢
    exact ⟨hk.1, callss_step (by simpa using h) hk.2 ht⟩
set_option maxRecDepth 100000 in
set_option maxHeartbeats 4000000 in
theorem calls_walk (M : Nat) (u : ByteArray) (ar : Int) (har : 0 ≤ ar ∧ ar ≤ 1000000) (IH : CallsSaid M u ar) (t : Nd) (hM : t.size ≤ M + 1) (w : World) (B : Nat → Prop) (F : Bool) (kd : Int) (tx : ByteArray) (nm pl : Int) (ka : Option Addr) (kn kc : Nat) (ht : NodeIn w B F [.int .u8 kd, .string tx, .int .i64 nm, .int .i64 pl, .slice ka kn kc] t) :
    Calls Tryd.prog 15 #[.agg #[.int .u8 kd, .string tx, .int .i64 nm, .int .i64 pl, .slice ka kn kc], .string u, .int .i64 ar] w fun e w' => e = .returned (.bool (callsN u ar t)) ∧ Keeps NoB w w' := by
  obtain ⟨kids, css, rfl, hroom, hr, hc, hkl⟩ := ht.kidsIn
  have hnm : kn ≤ 9223372036854775807 := by have := hroom.1.len (by omega); unfold maxLen at this; exact this
  have hks : Nd.size.sizes kids ≤ M := by simp only [Nd.size] at hM; omega
  have HE : Hid (callsN u ar (.mk kd tx nm pl kids) = (hereN u ar (.mk kd tx nm pl kids) || callssN u ar kids)) := hide (by unfold callsN; rfl)
  have HKS := hide hks; have HR := hide hr; have HC := hide hc; have HKL := hide hkl; have HIH := hide IH
  have HK0 := hide ((Keeps.refl NoB w).alloc (.cells #[.int .u8 kd, .string tx, .int .i64 nm, .int .i64 pl, .slice ka kn kc] 29))
  have HBX := hide (Blk.new w 29 #[.int .u8 kd, .string tx, .int .i64 nm, .int .i64 pl, .slice ka kn kc])
  clear ht hroom hr hc hkl hks hM IH
  by_cases h11 : kd = 11
  · subst h11
    by_cases ht : tx.toList = u.toList
    · by_cases hn : nm = ar
      · subst hn
        have hnb : (nm == nm) = true := by simp
        have HT := hide (str_eq ht)
        go_enter Tryd.func15, Tryd.ntmps15
        go_wp2
        go_ret
        exact ⟨by rw [HE.out]; unfold hereN; simp [HT.out], HK0.out⟩
      · have hnb : (nm == ar) = false := by simpa using hn
        have HH : Hid (hereN u ar (.mk 11 tx nm pl kids) = false) := hide (by unfold hereN; simp [hn])
        go_enter Tryd.func15, Tryd.ntmps15
        go_wp2
        go_loopg [7] kn (fun g s7 wx => ∃ k : Nat, k ≤ kn ∧ g = kn - k ∧ s7 = .int .i64 k ∧ callssN u ar (kids.take k) = false ∧ Keeps NoB (w.alloc (.cells #[.int .u8 11, .string tx, .int .i64 nm, .int .i64 pl, .slice ka kn kc] 29)) wx)
        case atStart => exact ⟨0, Nat.zero_le _, rfl, rfl, by simp only [List.take_zero, callssN], Keeps.refl _ _⟩
        case round =>
          obtain ⟨k, hk, rfl, rfl, hno, hkw⟩ := hrel
          have q4 : wr.cell? ⟨w.heap.size, 4, none⟩ = some (.slice ka kn kc) := hkw.cell id (HBX.out.cell 4)
          have HKW := hide (HK0.out.trans' hkw (fun _ _ => id) (fun _ _ => id) : Keeps NoB w wr); have HKV := hide hkw; have HNO := hide hno
          clear hkw hno
          by_cases hlt : k < kn
          · have hk1 : (k : Int) < (kn : Int) := by omega
            have hk0 : (0 : Int) ≤ (k : Int) := by omega
            obtain ⟨b9, o9, kd9, tx9, nm9, pl9, ka9, kn9, kc9, t9, hA9, _, _, h9, hsz9, hu9, z0, z1, z2, z3, z4⟩ := node_at (HR.out.keep HKW.out (fun _ _ => id)) (NodesIn.keep HKW.out (fun _ _ => id) _ _ HC.out) k hlt
            subst hA9
            have HI := hide (HIH.out t9 (Nat.le_trans hsz9 HKS.out) wr B F kd9 tx9 nm9 pl9 ka9 kn9 kc9 hu9)
            have H9 := hide h9
            cases hv : callsN u ar t9 with
            | true =>
              have HV := hide hv
              clear hu9 h9 hsz9 hv
              go_wp2_with
                first
                | (go_at_call 15
                   refine HI.out.mono ?_
                   rintro e w2 ⟨rfl, hk2⟩
                   rw [HV.out]
                   have HK2 := hide (HKW.out.trans' hk2 (fun _ _ => id) (fun _ _ => id) : Keeps NoB w w2)
                   clear hk2)
                | fail
              go_ret
              exact ⟨by rw [HE.out, callss_stop H9.out HV.out, Bool.or_true]; rfl, HK2.out⟩
            | false =>
              have HV := hide hv
              clear hu9 h9 hsz9 hv
              go_wp2_with
                first
                | (go_at_call 15
                   refine HI.out.mono ?_
                   rintro e w2 ⟨rfl, hk2⟩
                   rw [HV.out]
                   have HK2 := hide (HKV.out.trans' hk2 (fun _ _ => id) (fun _ _ => id) : Keeps NoB (w.alloc (.cells #[.int .u8 11, .string tx, .int .i64 nm, .int .i64 pl, .slice (some ⟨b9, o9, none⟩) kn kc] 29)) w2)
                   clear hk2)
                | fail
              go_roundg (kn - (k + 1))
              case measure => omega
              case rel => exact ⟨k + 1, by omega, rfl, by go_num, callss_step H9.out HNO.out HV.out, HK2.out⟩
          · obtain rfl : k = kn := by omega
            have he : kids.take k = kids := List.take_of_length_le (by have := HKL.out; omega)
            have HF := hide (show callssN u ar kids = false from by rw [← he]; exact HNO.out)
            clear he
            have hkz : ¬ (k : Int) < (k : Int) := by omega
            go_wp2
            go_ret
            exact ⟨by rw [HE.out, HH.out, HF.out]; rfl, HKW.out⟩
    · have HH : Hid (hereN u ar (.mk 11 tx nm pl kids) = false) := hide (by have hne : ¬ tx = u := fun e => ht (by rw [e]); unfold hereN; simp [hne])
      go_enter Tryd.func15, Tryd.ntmps15
      go_wp2
      go_loopg [7] kn (fun g s7 wx => ∃ k : Nat, k ≤ kn ∧ g = kn - k ∧ s7 = .int .i64 k ∧ callssN u ar (kids.take k) = false ∧ Keeps NoB (w.alloc (.cells #[.int .u8 11, .string tx, .int .i64 nm, .int .i64 pl, .slice ka kn kc] 29)) wx)
      case atStart => exact ⟨0, Nat.zero_le _, rfl, rfl, by simp only [List.take_zero, callssN], Keeps.refl _ _⟩
      case round =>
        obtain ⟨k, hk, rfl, rfl, hno, hkw⟩ := hrel
        have q4 : wr.cell? ⟨w.heap.size, 4, none⟩ = some (.slice ka kn kc) := hkw.cell id (HBX.out.cell 4)
        have HKW := hide (HK0.out.trans' hkw (fun _ _ => id) (fun _ _ => id) : Keeps NoB w wr); have HKV := hide hkw; have HNO := hide hno
        clear hkw hno
        by_cases hlt : k < kn
        · have hk1 : (k : Int) < (kn : Int) := by omega
          have hk0 : (0 : Int) ≤ (k : Int) := by omega
          obtain ⟨b9, o9, kd9, tx9, nm9, pl9, ka9, kn9, kc9, t9, hA9, _, _, h9, hsz9, hu9, z0, z1, z2, z3, z4⟩ := node_at (HR.out.keep HKW.out (fun _ _ => id)) (NodesIn.keep HKW.out (fun _ _ => id) _ _ HC.out) k hlt
          subst hA9
          have HI := hide (HIH.out t9 (Nat.le_trans hsz9 HKS.out) wr B F kd9 tx9 nm9 pl9 ka9 kn9 kc9 hu9)
          have H9 := hide h9
          cases hv : callsN u ar t9 with
          | true =>
            have HV := hide hv
            clear hu9 h9 hsz9 hv
            go_wp2_with
              first
              | (go_at_call 15
                 refine HI.out.mono ?_
                 rintro e w2 ⟨rfl, hk2⟩
                 rw [HV.out]
                 have HK2 := hide (HKW.out.trans' hk2 (fun _ _ => id) (fun _ _ => id) : Keeps NoB w w2)
                 clear hk2)
              | fail
            go_ret
            exact ⟨by rw [HE.out, callss_stop H9.out HV.out, Bool.or_true]; rfl, HK2.out⟩
          | false =>
            have HV := hide hv
            clear hu9 h9 hsz9 hv
            go_wp2_with
              first
              | (go_at_call 15
                 refine HI.out.mono ?_
                 rintro e w2 ⟨rfl, hk2⟩
                 rw [HV.out]
                 have HK2 := hide (HKV.out.trans' hk2 (fun _ _ => id) (fun _ _ => id) : Keeps NoB (w.alloc (.cells #[.int .u8 11, .string tx, .int .i64 nm, .int .i64 pl, .slice (some ⟨b9, o9, none⟩) kn kc] 29)) w2)
                 clear hk2)
              | fail
            go_roundg (kn - (k + 1))
            case measure => omega
            case rel => exact ⟨k + 1, by omega, rfl, by go_num, callss_step H9.out HNO.out HV.out, HK2.out⟩
        · obtain rfl : k = kn := by omega
          have he : kids.take k = kids := List.take_of_length_le (by have := HKL.out; omega)
          have HF := hide (show callssN u ar kids = false from by rw [← he]; exact HNO.out)
          clear he
          have hkz : ¬ (k : Int) < (k : Int) := by omega
          go_wp2
          go_ret
          exact ⟨by rw [HE.out, HH.out, HF.out]; rfl, HKW.out⟩
  · have h11b : (kd == 11) = false := by simpa using h11
    by_cases h9 : kd = 9
    · subst h9
      have HBW := hide (Keeps.refl NoB w |>.alloc (.cells #[.int .u8 9, .string tx, .int .i64 nm, .int .i64 pl, .slice ka kn kc] 29))
      by_cases h0 : kn = 0
      · subst h0
        have HH : Hid (hereN u ar (.mk 9 tx nm pl kids) = false) := hide (by rw [List.length_eq_zero_iff.1 HKL.out]; unfold hereN; simp)
        go_enter Tryd.func15, Tryd.ntmps15
        go_wp2
        go_loopg [7] 0 (fun g s7 wx => s7 = .int .i64 0 ∧ Keeps NoB (w.alloc (.cells #[.int .u8 9, .string tx, .int .i64 nm, .int .i64 pl, .slice ka 0 kc] 29)) wx)
        case atStart => exact ⟨rfl, Keeps.refl _ _⟩
        case round =>
          obtain ⟨rfl, hkw⟩ := hrel
          have q4 : wr.cell? ⟨w.heap.size, 4, none⟩ = some (.slice ka 0 kc) := hkw.cell id (HBX.out.cell 4)
          have HKW := hide (HK0.out.trans' hkw (fun _ _ => id) (fun _ _ => id) : Keeps NoB w wr)
          have HF := hide (show callssN u ar kids = false from by rw [List.length_eq_zero_iff.1 HKL.out]; unfold callssN; rfl)
          clear hkw
          go_wp2
          go_ret
          exact ⟨by rw [HE.out, HH.out, HF.out]; rfl, HKW.out⟩
      · have hk0' : (0 : Int) < (kn : Int) := by omega
        obtain ⟨b1, o1, kd1, tx1, nm1, pl1, ka1, kn1, kc1, t1, hA, _, _, h1, _, hu1, f0, f1, _, _, _⟩ := node_at (HR.out.keep HBW.out (fun _ _ => id)) (NodesIn.keep HBW.out (fun _ _ => id) _ _ HC.out) 0 (by omega)
        subst hA
        obtain ⟨e1, e2, _⟩ := nd_text hu1
        obtain ⟨cs, hkids⟩ : ∃ cs, kids = t1 :: cs := by
          cases kids with
          | nil => simp at h1
          | cons a l => simp at h1; subst h1; exact ⟨l, rfl⟩
        have hcl := HKL.out
        rw [hkids] at hcl
        have HKI := hide hkids
        clear hkids
        rw [Nat.zero_mul, Nat.add_zero] at f0 f1
        by_cases h2 : kd1 = 2
        · subst h2
          by_cases ht : tx1.toList = u.toList
          · have HT := hide (str_eq ht)
            by_cases hn : (kn : Int) = ar + 1
            · go_enter Tryd.func15, Tryd.ntmps15
              go_wp2
              go_ret
              exact ⟨by rw [HE.out, HKI.out]; unfold hereN; dsimp only; rw [hcl, e1, e2, HT.out]; simp [hn], HK0.out⟩
            · have hnb : ((kn : Int) == ar + 1) = false := by simpa using hn
              have HH : Hid (hereN u ar (.mk 9 tx nm pl kids) = false) := hide (by rw [HKI.out]; unfold hereN; dsimp only; rw [hcl]; simp [hn])
              clear h1 hu1 hcl
              go_enter Tryd.func15, Tryd.ntmps15
              go_wp2
              go_loopg [7] kn (fun g s7 wx => ∃ k : Nat, k ≤ kn ∧ g = kn - k ∧ s7 = .int .i64 k ∧ callssN u ar (kids.take k) = false ∧ Keeps NoB (w.alloc (.cells #[.int .u8 9, .string tx, .int .i64 nm, .int .i64 pl, .slice (some ⟨b1, o1, none⟩) kn kc] 29)) wx)
              case atStart => exact ⟨0, Nat.zero_le _, rfl, rfl, by simp only [List.take_zero, callssN], Keeps.refl _ _⟩
              case round =>
                obtain ⟨k, hk, rfl, rfl, hno, hkw⟩ := hrel
                have q4 : wr.cell? ⟨w.heap.size, 4, none⟩ = some (.slice (some ⟨b1, o1, none⟩) kn kc) := hkw.cell id (HBX.out.cell 4)
                have HKW := hide (HK0.out.trans' hkw (fun _ _ => id) (fun _ _ => id) : Keeps NoB w wr); have HKV := hide hkw; have HNO := hide hno
                clear hkw hno
                by_cases hlt : k < kn
                · have hk1 : (k : Int) < (kn : Int) := by omega
                  have hk0 : (0 : Int) ≤ (k : Int) := by omega
                  obtain ⟨b9, o9, kd9, tx9, nm9, pl9, ka9, kn9, kc9, t9, hA9, _, _, h9, hsz9, hu9, z0, z1, z2, z3, z4⟩ := node_at (HR.out.keep HKW.out (fun _ _ => id)) (NodesIn.keep HKW.out (fun _ _ => id) _ _ HC.out) k hlt
                  (injection hA9 with g1; injection g1 with g1 g2; subst g1; subst g2)
                  have HI := hide (HIH.out t9 (Nat.le_trans hsz9 HKS.out) wr B F kd9 tx9 nm9 pl9 ka9 kn9 kc9 hu9)
                  have H9 := hide h9
                  cases hv : callsN u ar t9 with
                  | true =>
                    have HV := hide hv
                    clear hu9 h9 hsz9 hv
                    go_wp2_with
                      first
                      | (go_at_call 15
                         refine HI.out.mono ?_
                         rintro e w2 ⟨rfl, hk2⟩
                         rw [HV.out]
                         have HK2 := hide (HKW.out.trans' hk2 (fun _ _ => id) (fun _ _ => id) : Keeps NoB w w2)
                         clear hk2)
                      | fail
                    go_ret
                    exact ⟨by rw [HE.out, callss_stop H9.out HV.out, Bool.or_true]; rfl, HK2.out⟩
                  | false =>
                    have HV := hide hv
                    clear hu9 h9 hsz9 hv
                    go_wp2_with
                      first
                      | (go_at_call 15
                         refine HI.out.mono ?_
                         rintro e w2 ⟨rfl, hk2⟩
                         rw [HV.out]
                         have HK2 := hide (HKV.out.trans' hk2 (fun _ _ => id) (fun _ _ => id) : Keeps NoB (w.alloc (.cells #[.int .u8 9, .string tx, .int .i64 nm, .int .i64 pl, .slice (some ⟨b1, o1, none⟩) kn kc] 29)) w2)
                         clear hk2)
                      | fail
                    go_roundg (kn - (k + 1))
                    case measure => omega
                    case rel => exact ⟨k + 1, by omega, rfl, by go_num, callss_step H9.out HNO.out HV.out, HK2.out⟩
                · obtain rfl : k = kn := by omega
                  have he : kids.take k = kids := List.take_of_length_le (by have := HKL.out; omega)
                  have HF := hide (show callssN u ar kids = false from by rw [← he]; exact HNO.out)
                  clear he
                  have hkz : ¬ (k : Int) < (k : Int) := by omega
                  go_wp2
                  go_ret
                  exact ⟨by rw [HE.out, HH.out, HF.out]; rfl, HKW.out⟩
          · have HH : Hid (hereN u ar (.mk 9 tx nm pl kids) = false) := hide (by have hne : ¬ t1.text = u := fun e => ht (by rw [← e2, e]); rw [HKI.out]; unfold hereN; simp [hne])
            clear h1 hu1 hcl
            go_enter Tryd.func15, Tryd.ntmps15
            go_wp2
            go_loopg [7] kn (fun g s7 wx => ∃ k : Nat, k ≤ kn ∧ g = kn - k ∧ s7 = .int .i64 k ∧ callssN u ar (kids.take k) = false ∧ Keeps NoB (w.alloc (.cells #[.int .u8 9, .string tx, .int .i64 nm, .int .i64 pl, .slice (some ⟨b1, o1, none⟩) kn kc] 29)) wx)
            case atStart => exact ⟨0, Nat.zero_le _, rfl, rfl, by simp only [List.take_zero, callssN], Keeps.refl _ _⟩
            case round =>
              obtain ⟨k, hk, rfl, rfl, hno, hkw⟩ := hrel
              have q4 : wr.cell? ⟨w.heap.size, 4, none⟩ = some (.slice (some ⟨b1, o1, none⟩) kn kc) := hkw.cell id (HBX.out.cell 4)
              have HKW := hide (HK0.out.trans' hkw (fun _ _ => id) (fun _ _ => id) : Keeps NoB w wr); have HKV := hide hkw; have HNO := hide hno
              clear hkw hno
              by_cases hlt : k < kn
              · have hk1 : (k : Int) < (kn : Int) := by omega
                have hk0 : (0 : Int) ≤ (k : Int) := by omega
                obtain ⟨b9, o9, kd9, tx9, nm9, pl9, ka9, kn9, kc9, t9, hA9, _, _, h9, hsz9, hu9, z0, z1, z2, z3, z4⟩ := node_at (HR.out.keep HKW.out (fun _ _ => id)) (NodesIn.keep HKW.out (fun _ _ => id) _ _ HC.out) k hlt
                (injection hA9 with g1; injection g1 with g1 g2; subst g1; subst g2)
                have HI := hide (HIH.out t9 (Nat.le_trans hsz9 HKS.out) wr B F kd9 tx9 nm9 pl9 ka9 kn9 kc9 hu9)
                have H9 := hide h9
                cases hv : callsN u ar t9 with
                | true =>
                  have HV := hide hv
                  clear hu9 h9 hsz9 hv
                  go_wp2_with
                    first
                    | (go_at_call 15
                       refine HI.out.mono ?_
                       rintro e w2 ⟨rfl, hk2⟩
                       rw [HV.out]
                       have HK2 := hide (HKW.out.trans' hk2 (fun _ _ => id) (fun _ _ => id) : Keeps NoB w w2)
                       clear hk2)
                    | fail
                  go_ret
                  exact ⟨by rw [HE.out, callss_stop H9.out HV.out, Bool.or_true]; rfl, HK2.out⟩
                | false =>
                  have HV := hide hv
                  clear hu9 h9 hsz9 hv
                  go_wp2_with
                    first
                    | (go_at_call 15
                       refine HI.out.mono ?_
                       rintro e w2 ⟨rfl, hk2⟩
                       rw [HV.out]
                       have HK2 := hide (HKV.out.trans' hk2 (fun _ _ => id) (fun _ _ => id) : Keeps NoB (w.alloc (.cells #[.int .u8 9, .string tx, .int .i64 nm, .int .i64 pl, .slice (some ⟨b1, o1, none⟩) kn kc] 29)) w2)
                       clear hk2)
                    | fail
                  go_roundg (kn - (k + 1))
                  case measure => omega
                  case rel => exact ⟨k + 1, by omega, rfl, by go_num, callss_step H9.out HNO.out HV.out, HK2.out⟩
              · obtain rfl : k = kn := by omega
                have he : kids.take k = kids := List.take_of_length_le (by have := HKL.out; omega)
                have HF := hide (show callssN u ar kids = false from by rw [← he]; exact HNO.out)
                clear he
                have hkz : ¬ (k : Int) < (k : Int) := by omega
                go_wp2
                go_ret
                exact ⟨by rw [HE.out, HH.out, HF.out]; rfl, HKW.out⟩
        · have h2b : (kd1 == 2) = false := by simpa using h2
          have HH : Hid (hereN u ar (.mk 9 tx nm pl kids) = false) := hide (by have hne : ¬ t1.kind = 2 := fun e => h2 (by rw [← e1, e]); rw [HKI.out]; unfold hereN; simp [hne])
          clear h1 hu1 hcl
          go_enter Tryd.func15, Tryd.ntmps15
          go_wp2
          go_loopg [7] kn (fun g s7 wx => ∃ k : Nat, k ≤ kn ∧ g = kn - k ∧ s7 = .int .i64 k ∧ callssN u ar (kids.take k) = false ∧ Keeps NoB (w.alloc (.cells #[.int .u8 9, .string tx, .int .i64 nm, .int .i64 pl, .slice (some ⟨b1, o1, none⟩) kn kc] 29)) wx)
          case atStart => exact ⟨0, Nat.zero_le _, rfl, rfl, by simp only [List.take_zero, callssN], Keeps.refl _ _⟩
          case round =>
            obtain ⟨k, hk, rfl, rfl, hno, hkw⟩ := hrel
            have q4 : wr.cell? ⟨w.heap.size, 4, none⟩ = some (.slice (some ⟨b1, o1, none⟩) kn kc) := hkw.cell id (HBX.out.cell 4)
            have HKW := hide (HK0.out.trans' hkw (fun _ _ => id) (fun _ _ => id) : Keeps NoB w wr); have HKV := hide hkw; have HNO := hide hno
            clear hkw hno
            by_cases hlt : k < kn
            · have hk1 : (k : Int) < (kn : Int) := by omega
              have hk0 : (0 : Int) ≤ (k : Int) := by omega
              obtain ⟨b9, o9, kd9, tx9, nm9, pl9, ka9, kn9, kc9, t9, hA9, _, _, h9, hsz9, hu9, z0, z1, z2, z3, z4⟩ := node_at (HR.out.keep HKW.out (fun _ _ => id)) (NodesIn.keep HKW.out (fun _ _ => id) _ _ HC.out) k hlt
              (injection hA9 with g1; injection g1 with g1 g2; subst g1; subst g2)
              have HI := hide (HIH.out t9 (Nat.le_trans hsz9 HKS.out) wr B F kd9 tx9 nm9 pl9 ka9 kn9 kc9 hu9)
              have H9 := hide h9
              cases hv : callsN u ar t9 with
              | true =>
                have HV := hide hv
                clear hu9 h9 hsz9 hv
                go_wp2_with
                  first
                  | (go_at_call 15
                     refine HI.out.mono ?_
                     rintro e w2 ⟨rfl, hk2⟩
                     rw [HV.out]
                     have HK2 := hide (HKW.out.trans' hk2 (fun _ _ => id) (fun _ _ => id) : Keeps NoB w w2)
                     clear hk2)
                  | fail
                go_ret
                exact ⟨by rw [HE.out, callss_stop H9.out HV.out, Bool.or_true]; rfl, HK2.out⟩
              | false =>
                have HV := hide hv
                clear hu9 h9 hsz9 hv
                go_wp2_with
                  first
                  | (go_at_call 15
                     refine HI.out.mono ?_
                     rintro e w2 ⟨rfl, hk2⟩
                     rw [HV.out]
                     have HK2 := hide (HKV.out.trans' hk2 (fun _ _ => id) (fun _ _ => id) : Keeps NoB (w.alloc (.cells #[.int .u8 9, .string tx, .int .i64 nm, .int .i64 pl, .slice (some ⟨b1, o1, none⟩) kn kc] 29)) w2)
                     clear hk2)
                  | fail
                go_roundg (kn - (k + 1))
                case measure => omega
                case rel => exact ⟨k + 1, by omega, rfl, by go_num, callss_step H9.out HNO.out HV.out, HK2.out⟩
            · obtain rfl : k = kn := by omega
              have he : kids.take k = kids := List.take_of_length_le (by have := HKL.out; omega)
              have HF := hide (show callssN u ar kids = false from by rw [← he]; exact HNO.out)
              clear he
              have hkz : ¬ (k : Int) < (k : Int) := by omega
              go_wp2
              go_ret
              exact ⟨by rw [HE.out, HH.out, HF.out]; rfl, HKW.out⟩
    · have h9b : (kd == 9) = false := by simpa using h9
      have HH : Hid (hereN u ar (.mk kd tx nm pl kids) = false) := hide (by unfold hereN; simp [h11, h9])
      clear h11 h9
      go_enter Tryd.func15, Tryd.ntmps15
      go_wp2
      go_loopg [7] kn (fun g s7 wx => ∃ k : Nat, k ≤ kn ∧ g = kn - k ∧ s7 = .int .i64 k ∧ callssN u ar (kids.take k) = false ∧ Keeps NoB (w.alloc (.cells #[.int .u8 kd, .string tx, .int .i64 nm, .int .i64 pl, .slice ka kn kc] 29)) wx)
      case atStart => exact ⟨0, Nat.zero_le _, rfl, rfl, by simp only [List.take_zero, callssN], Keeps.refl _ _⟩
      case round =>
        obtain ⟨k, hk, rfl, rfl, hno, hkw⟩ := hrel
        have q4 : wr.cell? ⟨w.heap.size, 4, none⟩ = some (.slice ka kn kc) := hkw.cell id (HBX.out.cell 4)
        have HKW := hide (HK0.out.trans' hkw (fun _ _ => id) (fun _ _ => id) : Keeps NoB w wr); have HKV := hide hkw; have HNO := hide hno
        clear hkw hno
        by_cases hlt : k < kn
        · have hk1 : (k : Int) < (kn : Int) := by omega
          have hk0 : (0 : Int) ≤ (k : Int) := by omega
          obtain ⟨b9, o9, kd9, tx9, nm9, pl9, ka9, kn9, kc9, t9, hA9, _, _, h9, hsz9, hu9, z0, z1, z2, z3, z4⟩ := node_at (HR.out.keep HKW.out (fun _ _ => id)) (NodesIn.keep HKW.out (fun _ _ => id) _ _ HC.out) k hlt
          subst hA9
          have HI := hide (HIH.out t9 (Nat.le_trans hsz9 HKS.out) wr B F kd9 tx9 nm9 pl9 ka9 kn9 kc9 hu9)
          have H9 := hide h9
          cases hv : callsN u ar t9 with
          | true =>
            have HV := hide hv
            clear hu9 h9 hsz9 hv
            go_wp2_with
              first
              | (go_at_call 15
                 refine HI.out.mono ?_
                 rintro e w2 ⟨rfl, hk2⟩
                 rw [HV.out]
                 have HK2 := hide (HKW.out.trans' hk2 (fun _ _ => id) (fun _ _ => id) : Keeps NoB w w2)
                 clear hk2)
              | fail
            go_ret
            exact ⟨by rw [HE.out, callss_stop H9.out HV.out, Bool.or_true]; rfl, HK2.out⟩
          | false =>
            have HV := hide hv
            clear hu9 h9 hsz9 hv
            go_wp2_with
              first
              | (go_at_call 15
                 refine HI.out.mono ?_
                 rintro e w2 ⟨rfl, hk2⟩
                 rw [HV.out]
                 have HK2 := hide (HKV.out.trans' hk2 (fun _ _ => id) (fun _ _ => id) : Keeps NoB (w.alloc (.cells #[.int .u8 kd, .string tx, .int .i64 nm, .int .i64 pl, .slice (some ⟨b9, o9, none⟩) kn kc] 29)) w2)
                 clear hk2)
              | fail
            go_roundg (kn - (k + 1))
            case measure => omega
            case rel => exact ⟨k + 1, by omega, rfl, by go_num, callss_step H9.out HNO.out HV.out, HK2.out⟩
        · obtain rfl : k = kn := by omega
          have he : kids.take k = kids := List.take_of_length_le (by have := HKL.out; omega)
          have HF := hide (show callssN u ar kids = false from by rw [← he]; exact HNO.out)
          clear he
          have hkz : ¬ (k : Int) < (k : Int) := by omega
          go_wp2
          go_ret
          exact ⟨by rw [HE.out, HH.out, HF.out]; rfl, HKW.out⟩
theorem calls_any (u : ByteArray) (ar : Int) (har : 0 ≤ ar ∧ ar ≤ 1000000) (t : Nd) (w : World) (B : Nat → Prop) (F : Bool) (kd : Int) (tx : ByteArray) (nm pl : Int) (ka : Option Addr) (kn kc : Nat) (ht : NodeIn w B F [.int .u8 kd, .string tx, .int .i64 nm, .int .i64 pl, .slice ka kn kc] t) :
    Calls Tryd.prog 15 #[.agg #[.int .u8 kd, .string tx, .int .i64 nm, .int .i64 pl, .slice ka kn kc], .string u, .int .i64 ar] w fun e w' => e = .returned (.bool (callsN u ar t)) ∧ Keeps NoB w w' := by
  have H : ∀ M, CallsSaid M u ar := by
    intro M
    induction M with
    | zero => intro t h; have := t.size_pos; omega
    | succ M IH => intro t h w B F kd tx nm pl ka kn kc ht; exact calls_walk M u ar har IH t h w B F kd tx nm pl ka kn kc ht
  exact H _ t (Nat.le_refl _) w B F kd tx nm pl ka kn kc ht
end Go.Proofs.YtincajfanhanjaaDoor
