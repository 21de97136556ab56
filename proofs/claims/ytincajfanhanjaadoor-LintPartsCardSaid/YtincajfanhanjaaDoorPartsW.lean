/- LintParts: its walk. -/
import Derived.Test.YtincajfanhanjaaDoorPartsNew
import Derived.Deep.CutRange
import Derived.Deep.CutBlock
import Derived.Deep.DeepCutAuto
namespace Go.Proofs.YtincajfanhanjaaDoor
open Go.RowKit

theorem kids_len (t : Nd) : t.kids.length ≤ manyN t := by cases t; exact many_kids
theorem num_of {f : Nd} (h : functionN f = true) : 0 ≤ f.num ∧ f.num ≤ manyN f := by
  unfold functionN at h
  simp only [Bool.and_eq_true, decide_eq_true_eq] at h
  have hg : ∀ (t d : Nd), manyN d ≤ manyN f → manyN t ≤ manyN f → manyN (t.kids.getD 0 d) ≤ manyN f := fun t d hd ht => by
    cases hk : t.kids with
    | nil => exact hd
    | cons a l =>
      have : manyN a ≤ manysN t.kids := by rw [hk]; unfold manysN; omega
      have : manysN t.kids ≤ manyN t := by cases t; unfold manyN; simp only [Nd.kids]; omega
      show manyN a ≤ manyN f
      omega
  have h1 := hg _ f (Nat.le_refl _) (hg f f (Nat.le_refl _) (Nat.le_refl _))
  have h2 := kids_len ((f.kids.getD 0 f).kids.getD 0 f)
  omega
theorem oks_iff : ∀ ts : List Nd, okNs ts ↔ ∀ t ∈ ts, okN t
  | [] => by unfold okNs; simp
  | a :: l => by unfold okNs; rw [oks_iff l]; simp
theorem ok_mod {pl : Int} {kids : List Nd} (hp : -9223372036854775808 ≤ pl ∧ pl ≤ 9223372036854775807) (h : ∀ t ∈ kids, okN t) : okN (.mk 22 ⟨#[]⟩ 0 pl kids) := by
  unfold okN
  exact ⟨by omega, by show 0 ≤ _; omega, by omega, hp, (oks_iff kids).2 h⟩
theorem many_mod {pl : Int} {kids : List Nd} {M : Nat} (h : manysN kids ≤ M) : manyN (.mk 22 ⟨#[]⟩ 0 pl kids) ≤ M + 1 := by unfold manyN; omega
theorem manys_split {ts : List Nd} (k : Nat) : manysN (ts.take k ++ ts.drop (k + 1)) ≤ manysN ts := by
  have h1 := manys_app (ts.take k) (ts.drop k)
  rw [List.take_append_drop] at h1
  rw [manys_app]
  have : manysN (ts.drop (k + 1)) ≤ manysN (ts.drop k) := by
    rw [← List.tail_drop]
    cases ts.drop k with
    | nil => exact Nat.le_refl _
    | cons a l => simp only [List.tail_cons]; conv => rhs; unfold manysN
                  omega
  omega
def ApartT (x : Nd) (l : List Nd) : Prop := ∀ y ∈ l, ¬ (x.text = y.text ∧ x.num = y.num)
theorem ApartT.step {x y : Nd} {l : List Nd} {j : Nat} (h : ApartT x (l.take j)) (hy : l[j]? = some y) (hn : ¬ (x.text = y.text ∧ x.num = y.num)) : ApartT x (l.take (j + 1)) := by
  intro z hz
  rw [List.take_add_one, hy] at hz
  rcases List.mem_append.1 hz with hz | hz
  · exact h z hz
  · rw [show z = y by simpa using hz]; exact hn
theorem apart_step {x : Nd} {l m : List Nd} {i : Nat} (h : ∀ z ∈ l.take i, ApartT z m) (hx : l[i]? = some x) (hn : ApartT x m) : ∀ z ∈ l.take (i + 1), ApartT z m := by
  intro z hz
  rw [List.take_add_one, hx] at hz
  rcases List.mem_append.1 hz with hz | hz
  · exact h z hz
  · rw [show z = x by simpa using hz]; exact hn
set_option maxRecDepth 100000 in
set_option maxHeartbeats 4000000 in
theorem parts_any (x : Int) (hx : -9223372036854775808 ≤ x ∧ x ≤ 9223372036854775807) (t : Nd) (t2 : Nd) (w : World) (B B2 : Nat → Prop) (F F2 : Bool) (kd : Int) (tx : ByteArray) (nm pl : Int) (ka : Option Addr) (kn kc : Nat) (kd2 : Int) (tx2 : ByteArray) (nm2 pl2 : Int) (ka2 : Option Addr) (kn2 kc2 : Nat) (hL : LaidN w) (ho : okN t) (ht : NodeIn w B F [.int .u8 kd, .string tx, .int .i64 nm, .int .i64 pl, .slice ka kn kc] t) (ho2 : okN t2) (ht2 : NodeIn w B2 F2 [.int .u8 kd2, .string tx2, .int .i64 nm2, .int .i64 pl2, .slice ka2 kn2 kc2] t2) :
    Calls Tryd.prog 6 #[.agg #[.int .u8 kd, .string tx, .int .i64 nm, .int .i64 pl, .slice ka kn kc], .agg #[.int .u8 kd2, .string tx2, .int .i64 nm2, .int .i64 pl2, .slice ka2 kn2 kc2], .int .i64 x] w (TrueP w) := by
  have HK0 := hide (((Keeps.refl NoB w).alloc (.cells #[.int .u8 kd, .string tx, .int .i64 nm, .int .i64 pl, .slice ka kn kc] 29)).alloc (.cells #[.int .u8 kd2, .string tx2, .int .i64 nm2, .int .i64 pl2, .slice ka2 kn2 kc2] 29))
  have HB0 := hide (two_blks w 29 29 #[.int .u8 kd, .string tx, .int .i64 nm, .int .i64 pl, .slice ka kn kc] #[.int .u8 kd2, .string tx2, .int .i64 nm2, .int .i64 pl2, .slice ka2 kn2 kc2]).1
  have HD0 := hide (two_blks w 29 29 #[.int .u8 kd, .string tx, .int .i64 nm, .int .i64 pl, .slice ka kn kc] #[.int .u8 kd2, .string tx2, .int .i64 nm2, .int .i64 pl2, .slice ka2 kn2 kc2]).2
  have HL := hide hL; have HT := hide ht; have HO := hide ho; have HT2 := hide ht2; have HO2 := hide ho2
  obtain ⟨kids, css, hte, hroom, hr, hc, hkl⟩ := ht.kidsIn
  have HTE := hide hte; have HR := hide hr; have HC := hide hc; have HKL := hide hkl
  have hnm : kn ≤ kc := hroom.2
  have hnm9 : kn ≤ 9223372036854775807 := by have := hroom.1.len (by omega); unfold maxLen at this; exact this
  obtain ⟨kids2, css2, hte2, hroom2, hr2, hc2, hkl2⟩ := ht2.kidsIn
  have HTE2 := hide hte2; have HR2 := hide hr2; have HC2 := hide hc2; have HKL2 := hide hkl2
  have hnm2 : kn2 ≤ kc2 := hroom2.2
  have hnm29 : kn2 ≤ 9223372036854775807 := by have := hroom2.1.len (by omega); unfold maxLen at this; exact this
  clear hL ht ho ht2 ho2 hte hroom hr hc hkl hte2 hroom2 hr2 hc2 hkl2
  have hfd : ∀ (w : World) (a b : Int), (Instr.field 33 (.agg #[.int .i64 a, .int .i64 b]) 0).run Tryd.prog w = .ok (.int .i64 a) w := fun _ _ _ => by kernel_rfl
  have M1 : Hid (1 = 1) := hide rfl
  cases hs : smallN t with
  | false =>
    have HS := hide hs
    clear hs
    go_enter Tryd.func6, Tryd.ntmps6
    go_wp2_with
      first
      | (go_at_call 7
         refine (awake_any _ (HL.out.keep HK0.out)).mono ?_
         rintro e w1 ⟨rfl, hk⟩
         have HB1 := hide (HB0.out.keep hk id)
         have HD1 := hide (HD0.out.keep hk id)
         have HK1 := hide (HK0.out.trans' hk (fun _ _ => id) (fun _ _ => id) : Keeps NoB w w1)
         have a0 : w1.cell? ⟨w.heap.size, 0, none⟩ = some (.int .u8 kd) := HB1.out.cell 0; have a1 : w1.cell? ⟨w.heap.size, 1, none⟩ = some (.string tx) := HB1.out.cell 1; have a2 : w1.cell? ⟨w.heap.size, 2, none⟩ = some (.int .i64 nm) := HB1.out.cell 2; have a3 : w1.cell? ⟨w.heap.size, 3, none⟩ = some (.int .i64 pl) := HB1.out.cell 3; have a4 : w1.cell? ⟨w.heap.size, 4, none⟩ = some (.slice ka kn kc) := HB1.out.cell 4
         have aa0 : w1.cell? ⟨w.heap.size + 1, 0, none⟩ = some (.int .u8 kd2) := HD1.out.cell 0; have aa1 : w1.cell? ⟨w.heap.size + 1, 1, none⟩ = some (.string tx2) := HD1.out.cell 1; have aa2 : w1.cell? ⟨w.heap.size + 1, 2, none⟩ = some (.int .i64 nm2) := HD1.out.cell 2; have aa3 : w1.cell? ⟨w.heap.size + 1, 3, none⟩ = some (.int .i64 pl2) := HD1.out.cell 3; have aa4 : w1.cell? ⟨w.heap.size + 1, 4, none⟩ = some (.slice ka2 kn2 kc2) := HD1.out.cell 4
         clear hk)
      | (go_at_call 10
         clear M1
         refine (small_any t HO.out w1 B F kd tx nm pl ka kn kc (NodeIn.keep HK1.out (fun _ _ => id) _ _ HT.out)).mono ?_
         rintro e w2 ⟨rfl, hk⟩
         rw [HS.out]
         have HB2 := hide (HB1.out.keep hk id)
         have HD2 := hide (HD1.out.keep hk id)
         have HK2 := hide (HK1.out.trans' hk (fun _ _ => id) (fun _ _ => id) : Keeps NoB w w2)
         have b0 : w2.cell? ⟨w.heap.size, 0, none⟩ = some (.int .u8 kd) := HB2.out.cell 0; have b1 : w2.cell? ⟨w.heap.size, 1, none⟩ = some (.string tx) := HB2.out.cell 1; have b2 : w2.cell? ⟨w.heap.size, 2, none⟩ = some (.int .i64 nm) := HB2.out.cell 2; have b3 : w2.cell? ⟨w.heap.size, 3, none⟩ = some (.int .i64 pl) := HB2.out.cell 3; have b4 : w2.cell? ⟨w.heap.size, 4, none⟩ = some (.slice ka kn kc) := HB2.out.cell 4
         have bb0 : w2.cell? ⟨w.heap.size + 1, 0, none⟩ = some (.int .u8 kd2) := HD2.out.cell 0; have bb1 : w2.cell? ⟨w.heap.size + 1, 1, none⟩ = some (.string tx2) := HD2.out.cell 1; have bb2 : w2.cell? ⟨w.heap.size + 1, 2, none⟩ = some (.int .i64 nm2) := HD2.out.cell 2; have bb3 : w2.cell? ⟨w.heap.size + 1, 3, none⟩ = some (.int .i64 pl2) := HD2.out.cell 3; have bb4 : w2.cell? ⟨w.heap.size + 1, 4, none⟩ = some (.slice ka2 kn2 kc2) := HD2.out.cell 4
         clear hk)
      | (go_at_call 10
         refine (small_any t2 HO2.out w2 B2 F2 kd2 tx2 nm2 pl2 ka2 kn2 kc2 (NodeIn.keep HK2.out (fun _ _ => id) _ _ HT2.out)).mono ?_
         rintro e w3 ⟨rfl, hk⟩
         rw [HS2.out]
         have HB3 := hide (HB2.out.keep hk id)
         have HD3 := hide (HD2.out.keep hk id)
         have HK3 := hide (HK2.out.trans' hk (fun _ _ => id) (fun _ _ => id) : Keeps NoB w w3)
         have c0 : w3.cell? ⟨w.heap.size, 0, none⟩ = some (.int .u8 kd) := HB3.out.cell 0; have c1 : w3.cell? ⟨w.heap.size, 1, none⟩ = some (.string tx) := HB3.out.cell 1; have c2 : w3.cell? ⟨w.heap.size, 2, none⟩ = some (.int .i64 nm) := HB3.out.cell 2; have c3 : w3.cell? ⟨w.heap.size, 3, none⟩ = some (.int .i64 pl) := HB3.out.cell 3; have c4 : w3.cell? ⟨w.heap.size, 4, none⟩ = some (.slice ka kn kc) := HB3.out.cell 4
         clear hk)
      | (go_at_call 11
         refine (check_any t w3 B F kd tx nm pl ka kn kc (HL.out.keep HK3.out) HO.out HM.out (NodeIn.keep HK3.out (fun _ _ => id) _ _ HT.out)).mono ?_
         rintro e w4 ⟨rfl, hk⟩
         rw [HCK.out]
         have HB4 := hide (HB3.out.keep hk id)
         have HD4 := hide (HD3.out.keep hk id)
         have HK4 := hide (HK3.out.trans' hk (fun _ _ => id) (fun _ _ => id) : Keeps NoB w w4)
         have d0 : w4.cell? ⟨w.heap.size, 0, none⟩ = some (.int .u8 kd) := HB4.out.cell 0; have d1 : w4.cell? ⟨w.heap.size, 1, none⟩ = some (.string tx) := HB4.out.cell 1; have d2 : w4.cell? ⟨w.heap.size, 2, none⟩ = some (.int .i64 nm) := HB4.out.cell 2; have d3 : w4.cell? ⟨w.heap.size, 3, none⟩ = some (.int .i64 pl) := HB4.out.cell 3; have d4 : w4.cell? ⟨w.heap.size, 4, none⟩ = some (.slice ka kn kc) := HB4.out.cell 4
         clear hk)
      | (go_at_call 14
         refine (pick_any x kn w4 hx (by omega) (by omega)).mono ?_
         rintro e w4' ⟨rfl, k, hk, rfl⟩
         obtain ⟨b9, o9, kf, tf, nf, pf, af, lf, cf, f, hA9, _, _, hf, hfs, hfu, f0, f1, f2, f3, f4⟩ := node_at (HR.out.keep HK4.out (fun _ _ => id)) (NodesIn.keep HK4.out (fun _ _ => id) _ _ HC.out) k hk
         injection hA9 with hA9
         injection hA9 with g1 g2
         subst g1 g2
         have HF := hide hf; have HFU := hide hfu
         have hk0 : (0 : Int) ≤ (k : Int) := by omega
         have hk1 : (k : Int) < (kn : Int) := by omega
         clear hfs hf hfu)
      | fail
    go_ret
    exact ⟨rfl, HK2.out⟩
  | true =>
    have HM := hide (show manyN t ≤ 4611686018427387904 from by have := small_many hs; omega)
    have HM3 := hide (show manyN t ≤ 3000 from by have := small_many hs; omega)
    have HS := hide hs
    clear hs
    cases hs2 : smallN t2 with
    | false =>
      have HS2 := hide hs2
      clear hs2
      go_enter Tryd.func6, Tryd.ntmps6
      go_wp2_with
        first
        | (go_at_call 7
           refine (awake_any _ (HL.out.keep HK0.out)).mono ?_
           rintro e w1 ⟨rfl, hk⟩
           have HB1 := hide (HB0.out.keep hk id)
           have HD1 := hide (HD0.out.keep hk id)
           have HK1 := hide (HK0.out.trans' hk (fun _ _ => id) (fun _ _ => id) : Keeps NoB w w1)
           have a0 : w1.cell? ⟨w.heap.size, 0, none⟩ = some (.int .u8 kd) := HB1.out.cell 0; have a1 : w1.cell? ⟨w.heap.size, 1, none⟩ = some (.string tx) := HB1.out.cell 1; have a2 : w1.cell? ⟨w.heap.size, 2, none⟩ = some (.int .i64 nm) := HB1.out.cell 2; have a3 : w1.cell? ⟨w.heap.size, 3, none⟩ = some (.int .i64 pl) := HB1.out.cell 3; have a4 : w1.cell? ⟨w.heap.size, 4, none⟩ = some (.slice ka kn kc) := HB1.out.cell 4
           have aa0 : w1.cell? ⟨w.heap.size + 1, 0, none⟩ = some (.int .u8 kd2) := HD1.out.cell 0; have aa1 : w1.cell? ⟨w.heap.size + 1, 1, none⟩ = some (.string tx2) := HD1.out.cell 1; have aa2 : w1.cell? ⟨w.heap.size + 1, 2, none⟩ = some (.int .i64 nm2) := HD1.out.cell 2; have aa3 : w1.cell? ⟨w.heap.size + 1, 3, none⟩ = some (.int .i64 pl2) := HD1.out.cell 3; have aa4 : w1.cell? ⟨w.heap.size + 1, 4, none⟩ = some (.slice ka2 kn2 kc2) := HD1.out.cell 4
           clear hk)
        | (go_at_call 10
           clear M1
           refine (small_any t HO.out w1 B F kd tx nm pl ka kn kc (NodeIn.keep HK1.out (fun _ _ => id) _ _ HT.out)).mono ?_
           rintro e w2 ⟨rfl, hk⟩
           rw [HS.out]
           have HB2 := hide (HB1.out.keep hk id)
           have HD2 := hide (HD1.out.keep hk id)
           have HK2 := hide (HK1.out.trans' hk (fun _ _ => id) (fun _ _ => id) : Keeps NoB w w2)
           have b0 : w2.cell? ⟨w.heap.size, 0, none⟩ = some (.int .u8 kd) := HB2.out.cell 0; have b1 : w2.cell? ⟨w.heap.size, 1, none⟩ = some (.string tx) := HB2.out.cell 1; have b2 : w2.cell? ⟨w.heap.size, 2, none⟩ = some (.int .i64 nm) := HB2.out.cell 2; have b3 : w2.cell? ⟨w.heap.size, 3, none⟩ = some (.int .i64 pl) := HB2.out.cell 3; have b4 : w2.cell? ⟨w.heap.size, 4, none⟩ = some (.slice ka kn kc) := HB2.out.cell 4
           have bb0 : w2.cell? ⟨w.heap.size + 1, 0, none⟩ = some (.int .u8 kd2) := HD2.out.cell 0; have bb1 : w2.cell? ⟨w.heap.size + 1, 1, none⟩ = some (.string tx2) := HD2.out.cell 1; have bb2 : w2.cell? ⟨w.heap.size + 1, 2, none⟩ = some (.int .i64 nm2) := HD2.out.cell 2; have bb3 : w2.cell? ⟨w.heap.size + 1, 3, none⟩ = some (.int .i64 pl2) := HD2.out.cell 3; have bb4 : w2.cell? ⟨w.heap.size + 1, 4, none⟩ = some (.slice ka2 kn2 kc2) := HD2.out.cell 4
           clear hk)
        | (go_at_call 10
           refine (small_any t2 HO2.out w2 B2 F2 kd2 tx2 nm2 pl2 ka2 kn2 kc2 (NodeIn.keep HK2.out (fun _ _ => id) _ _ HT2.out)).mono ?_
           rintro e w3 ⟨rfl, hk⟩
           rw [HS2.out]
           have HB3 := hide (HB2.out.keep hk id)
           have HD3 := hide (HD2.out.keep hk id)
           have HK3 := hide (HK2.out.trans' hk (fun _ _ => id) (fun _ _ => id) : Keeps NoB w w3)
           have c0 : w3.cell? ⟨w.heap.size, 0, none⟩ = some (.int .u8 kd) := HB3.out.cell 0; have c1 : w3.cell? ⟨w.heap.size, 1, none⟩ = some (.string tx) := HB3.out.cell 1; have c2 : w3.cell? ⟨w.heap.size, 2, none⟩ = some (.int .i64 nm) := HB3.out.cell 2; have c3 : w3.cell? ⟨w.heap.size, 3, none⟩ = some (.int .i64 pl) := HB3.out.cell 3; have c4 : w3.cell? ⟨w.heap.size, 4, none⟩ = some (.slice ka kn kc) := HB3.out.cell 4
           clear hk)
        | (go_at_call 11
           refine (check_any t w3 B F kd tx nm pl ka kn kc (HL.out.keep HK3.out) HO.out HM.out (NodeIn.keep HK3.out (fun _ _ => id) _ _ HT.out)).mono ?_
           rintro e w4 ⟨rfl, hk⟩
           rw [HCK.out]
           have HB4 := hide (HB3.out.keep hk id)
           have HD4 := hide (HD3.out.keep hk id)
           have HK4 := hide (HK3.out.trans' hk (fun _ _ => id) (fun _ _ => id) : Keeps NoB w w4)
           have d0 : w4.cell? ⟨w.heap.size, 0, none⟩ = some (.int .u8 kd) := HB4.out.cell 0; have d1 : w4.cell? ⟨w.heap.size, 1, none⟩ = some (.string tx) := HB4.out.cell 1; have d2 : w4.cell? ⟨w.heap.size, 2, none⟩ = some (.int .i64 nm) := HB4.out.cell 2; have d3 : w4.cell? ⟨w.heap.size, 3, none⟩ = some (.int .i64 pl) := HB4.out.cell 3; have d4 : w4.cell? ⟨w.heap.size, 4, none⟩ = some (.slice ka kn kc) := HB4.out.cell 4
           clear hk)
        | (go_at_call 14
           refine (pick_any x kn w4 hx (by omega) (by omega)).mono ?_
           rintro e w4' ⟨rfl, k, hk, rfl⟩
           obtain ⟨b9, o9, kf, tf, nf, pf, af, lf, cf, f, hA9, _, _, hf, hfs, hfu, f0, f1, f2, f3, f4⟩ := node_at (HR.out.keep HK4.out (fun _ _ => id)) (NodesIn.keep HK4.out (fun _ _ => id) _ _ HC.out) k hk
           injection hA9 with hA9
           injection hA9 with g1 g2
           subst g1 g2
           have HF := hide hf; have HFU := hide hfu
           have hk0 : (0 : Int) ≤ (k : Int) := by omega
           have hk1 : (k : Int) < (kn : Int) := by omega
           clear hfs hf hfu)
        | fail
      go_ret
      exact ⟨rfl, HK3.out⟩
    | true =>
      have HM2 := hide (show manyN t2 ≤ 4611686018427387904 from by have := small_many hs2; omega)
      have HS2 := hide hs2
      clear hs2
      obtain ⟨c, hc⟩ : ∃ c, checkN t = c := ⟨_, rfl⟩
      obtain ⟨er, pc⟩ := c
      have HCK := hide hc
      clear hc
      by_cases h0 : er = 0
      · subst h0
        by_cases hkn : kn = 0
        · subst hkn
          go_enter Tryd.func6, Tryd.ntmps6
          go_wp2_with
            first
            | (go_at_call 7
               refine (awake_any _ (HL.out.keep HK0.out)).mono ?_
               rintro e w1 ⟨rfl, hk⟩
               have HB1 := hide (HB0.out.keep hk id)
               have HD1 := hide (HD0.out.keep hk id)
               have HK1 := hide (HK0.out.trans' hk (fun _ _ => id) (fun _ _ => id) : Keeps NoB w w1)
               have a0 : w1.cell? ⟨w.heap.size, 0, none⟩ = some (.int .u8 kd) := HB1.out.cell 0; have a1 : w1.cell? ⟨w.heap.size, 1, none⟩ = some (.string tx) := HB1.out.cell 1; have a2 : w1.cell? ⟨w.heap.size, 2, none⟩ = some (.int .i64 nm) := HB1.out.cell 2; have a3 : w1.cell? ⟨w.heap.size, 3, none⟩ = some (.int .i64 pl) := HB1.out.cell 3; have a4 : w1.cell? ⟨w.heap.size, 4, none⟩ = some (.slice ka 0 kc) := HB1.out.cell 4
               have aa0 : w1.cell? ⟨w.heap.size + 1, 0, none⟩ = some (.int .u8 kd2) := HD1.out.cell 0; have aa1 : w1.cell? ⟨w.heap.size + 1, 1, none⟩ = some (.string tx2) := HD1.out.cell 1; have aa2 : w1.cell? ⟨w.heap.size + 1, 2, none⟩ = some (.int .i64 nm2) := HD1.out.cell 2; have aa3 : w1.cell? ⟨w.heap.size + 1, 3, none⟩ = some (.int .i64 pl2) := HD1.out.cell 3; have aa4 : w1.cell? ⟨w.heap.size + 1, 4, none⟩ = some (.slice ka2 kn2 kc2) := HD1.out.cell 4
               clear hk)
            | (go_at_call 10
               clear M1
               refine (small_any t HO.out w1 B F kd tx nm pl ka 0 kc (NodeIn.keep HK1.out (fun _ _ => id) _ _ HT.out)).mono ?_
               rintro e w2 ⟨rfl, hk⟩
               rw [HS.out]
               have HB2 := hide (HB1.out.keep hk id)
               have HD2 := hide (HD1.out.keep hk id)
               have HK2 := hide (HK1.out.trans' hk (fun _ _ => id) (fun _ _ => id) : Keeps NoB w w2)
               have b0 : w2.cell? ⟨w.heap.size, 0, none⟩ = some (.int .u8 kd) := HB2.out.cell 0; have b1 : w2.cell? ⟨w.heap.size, 1, none⟩ = some (.string tx) := HB2.out.cell 1; have b2 : w2.cell? ⟨w.heap.size, 2, none⟩ = some (.int .i64 nm) := HB2.out.cell 2; have b3 : w2.cell? ⟨w.heap.size, 3, none⟩ = some (.int .i64 pl) := HB2.out.cell 3; have b4 : w2.cell? ⟨w.heap.size, 4, none⟩ = some (.slice ka 0 kc) := HB2.out.cell 4
               have bb0 : w2.cell? ⟨w.heap.size + 1, 0, none⟩ = some (.int .u8 kd2) := HD2.out.cell 0; have bb1 : w2.cell? ⟨w.heap.size + 1, 1, none⟩ = some (.string tx2) := HD2.out.cell 1; have bb2 : w2.cell? ⟨w.heap.size + 1, 2, none⟩ = some (.int .i64 nm2) := HD2.out.cell 2; have bb3 : w2.cell? ⟨w.heap.size + 1, 3, none⟩ = some (.int .i64 pl2) := HD2.out.cell 3; have bb4 : w2.cell? ⟨w.heap.size + 1, 4, none⟩ = some (.slice ka2 kn2 kc2) := HD2.out.cell 4
               clear hk)
            | (go_at_call 10
               refine (small_any t2 HO2.out w2 B2 F2 kd2 tx2 nm2 pl2 ka2 kn2 kc2 (NodeIn.keep HK2.out (fun _ _ => id) _ _ HT2.out)).mono ?_
               rintro e w3 ⟨rfl, hk⟩
               rw [HS2.out]
               have HB3 := hide (HB2.out.keep hk id)
               have HD3 := hide (HD2.out.keep hk id)
               have HK3 := hide (HK2.out.trans' hk (fun _ _ => id) (fun _ _ => id) : Keeps NoB w w3)
               have c0 : w3.cell? ⟨w.heap.size, 0, none⟩ = some (.int .u8 kd) := HB3.out.cell 0; have c1 : w3.cell? ⟨w.heap.size, 1, none⟩ = some (.string tx) := HB3.out.cell 1; have c2 : w3.cell? ⟨w.heap.size, 2, none⟩ = some (.int .i64 nm) := HB3.out.cell 2; have c3 : w3.cell? ⟨w.heap.size, 3, none⟩ = some (.int .i64 pl) := HB3.out.cell 3; have c4 : w3.cell? ⟨w.heap.size, 4, none⟩ = some (.slice ka 0 kc) := HB3.out.cell 4
               clear hk)
            | (go_at_call 11
               refine (check_any t w3 B F kd tx nm pl ka 0 kc (HL.out.keep HK3.out) HO.out HM.out (NodeIn.keep HK3.out (fun _ _ => id) _ _ HT.out)).mono ?_
               rintro e w4 ⟨rfl, hk⟩
               rw [HCK.out]
               have HB4 := hide (HB3.out.keep hk id)
               have HD4 := hide (HD3.out.keep hk id)
               have HK4 := hide (HK3.out.trans' hk (fun _ _ => id) (fun _ _ => id) : Keeps NoB w w4)
               have d0 : w4.cell? ⟨w.heap.size, 0, none⟩ = some (.int .u8 kd) := HB4.out.cell 0; have d1 : w4.cell? ⟨w.heap.size, 1, none⟩ = some (.string tx) := HB4.out.cell 1; have d2 : w4.cell? ⟨w.heap.size, 2, none⟩ = some (.int .i64 nm) := HB4.out.cell 2; have d3 : w4.cell? ⟨w.heap.size, 3, none⟩ = some (.int .i64 pl) := HB4.out.cell 3; have d4 : w4.cell? ⟨w.heap.size, 4, none⟩ = some (.slice ka 0 kc) := HB4.out.cell 4
               clear hk)
            | (go_at_call 14
               refine (pick_any x 0 w4 hx (by omega) (by omega)).mono ?_
               rintro e w4' ⟨rfl, k, hk, rfl⟩
               obtain ⟨b9, o9, kf, tf, nf, pf, af, lf, cf, f, hA9, _, _, hf, hfs, hfu, f0, f1, f2, f3, f4⟩ := node_at (HR.out.keep HK4.out (fun _ _ => id)) (NodesIn.keep HK4.out (fun _ _ => id) _ _ HC.out) k hk
               injection hA9 with hA9
               injection hA9 with g1 g2
               subst g1 g2
               have HF := hide hf; have HFU := hide hfu
               have hk0 : (0 : Int) ≤ (k : Int) := by omega
               have hk1 : (k : Int) < (0 : Int) := by omega
               clear hfs hf hfu)
            | fail
          go_ret
          exact ⟨rfl, HK4.out⟩
        · have hknb : ((kn : Int) == 0) = false := by simp; omega
          have hkn6 : kn ≤ 3000 := by have := HM3.out; have := HKL.out; have := kids_len t; rw [HTE.out] at *; simp only [Nd.kids] at *; omega
          obtain ⟨bo, oo, _, _, _, _, _, _, _, _, hA, _⟩ := node_at HR.out HC.out 0 (by omega)
          subst hA
          go_enter Tryd.func6, Tryd.ntmps6
          go_upto_region 7 with
            first
            | (go_at_call 7
               refine (awake_any _ (HL.out.keep HK0.out)).mono ?_
               rintro e w1 ⟨rfl, hk⟩
               have HB1 := hide (HB0.out.keep hk id)
               have HD1 := hide (HD0.out.keep hk id)
               have HK1 := hide (HK0.out.trans' hk (fun _ _ => id) (fun _ _ => id) : Keeps NoB w w1)
               have a0 : w1.cell? ⟨w.heap.size, 0, none⟩ = some (.int .u8 kd) := HB1.out.cell 0; have a1 : w1.cell? ⟨w.heap.size, 1, none⟩ = some (.string tx) := HB1.out.cell 1; have a2 : w1.cell? ⟨w.heap.size, 2, none⟩ = some (.int .i64 nm) := HB1.out.cell 2; have a3 : w1.cell? ⟨w.heap.size, 3, none⟩ = some (.int .i64 pl) := HB1.out.cell 3; have a4 : w1.cell? ⟨w.heap.size, 4, none⟩ = some (.slice (some ⟨bo,oo,none⟩) kn kc) := HB1.out.cell 4
               have aa0 : w1.cell? ⟨w.heap.size + 1, 0, none⟩ = some (.int .u8 kd2) := HD1.out.cell 0; have aa1 : w1.cell? ⟨w.heap.size + 1, 1, none⟩ = some (.string tx2) := HD1.out.cell 1; have aa2 : w1.cell? ⟨w.heap.size + 1, 2, none⟩ = some (.int .i64 nm2) := HD1.out.cell 2; have aa3 : w1.cell? ⟨w.heap.size + 1, 3, none⟩ = some (.int .i64 pl2) := HD1.out.cell 3; have aa4 : w1.cell? ⟨w.heap.size + 1, 4, none⟩ = some (.slice ka2 kn2 kc2) := HD1.out.cell 4
               clear hk)
            | (go_at_call 10
               clear M1
               refine (small_any t HO.out w1 B F kd tx nm pl (some ⟨bo,oo,none⟩) kn kc (NodeIn.keep HK1.out (fun _ _ => id) _ _ HT.out)).mono ?_
               rintro e w2 ⟨rfl, hk⟩
               rw [HS.out]
               have HB2 := hide (HB1.out.keep hk id)
               have HD2 := hide (HD1.out.keep hk id)
               have HK2 := hide (HK1.out.trans' hk (fun _ _ => id) (fun _ _ => id) : Keeps NoB w w2)
               have b0 : w2.cell? ⟨w.heap.size, 0, none⟩ = some (.int .u8 kd) := HB2.out.cell 0; have b1 : w2.cell? ⟨w.heap.size, 1, none⟩ = some (.string tx) := HB2.out.cell 1; have b2 : w2.cell? ⟨w.heap.size, 2, none⟩ = some (.int .i64 nm) := HB2.out.cell 2; have b3 : w2.cell? ⟨w.heap.size, 3, none⟩ = some (.int .i64 pl) := HB2.out.cell 3; have b4 : w2.cell? ⟨w.heap.size, 4, none⟩ = some (.slice (some ⟨bo,oo,none⟩) kn kc) := HB2.out.cell 4
               have bb0 : w2.cell? ⟨w.heap.size + 1, 0, none⟩ = some (.int .u8 kd2) := HD2.out.cell 0; have bb1 : w2.cell? ⟨w.heap.size + 1, 1, none⟩ = some (.string tx2) := HD2.out.cell 1; have bb2 : w2.cell? ⟨w.heap.size + 1, 2, none⟩ = some (.int .i64 nm2) := HD2.out.cell 2; have bb3 : w2.cell? ⟨w.heap.size + 1, 3, none⟩ = some (.int .i64 pl2) := HD2.out.cell 3; have bb4 : w2.cell? ⟨w.heap.size + 1, 4, none⟩ = some (.slice ka2 kn2 kc2) := HD2.out.cell 4
               clear hk)
            | (go_at_call 10
               refine (small_any t2 HO2.out w2 B2 F2 kd2 tx2 nm2 pl2 ka2 kn2 kc2 (NodeIn.keep HK2.out (fun _ _ => id) _ _ HT2.out)).mono ?_
               rintro e w3 ⟨rfl, hk⟩
               rw [HS2.out]
               have HB3 := hide (HB2.out.keep hk id)
               have HD3 := hide (HD2.out.keep hk id)
               have HK3 := hide (HK2.out.trans' hk (fun _ _ => id) (fun _ _ => id) : Keeps NoB w w3)
               have c0 : w3.cell? ⟨w.heap.size, 0, none⟩ = some (.int .u8 kd) := HB3.out.cell 0; have c1 : w3.cell? ⟨w.heap.size, 1, none⟩ = some (.string tx) := HB3.out.cell 1; have c2 : w3.cell? ⟨w.heap.size, 2, none⟩ = some (.int .i64 nm) := HB3.out.cell 2; have c3 : w3.cell? ⟨w.heap.size, 3, none⟩ = some (.int .i64 pl) := HB3.out.cell 3; have c4 : w3.cell? ⟨w.heap.size, 4, none⟩ = some (.slice (some ⟨bo,oo,none⟩) kn kc) := HB3.out.cell 4
               clear hk)
            | (go_at_call 11
               refine (check_any t w3 B F kd tx nm pl (some ⟨bo,oo,none⟩) kn kc (HL.out.keep HK3.out) HO.out HM.out (NodeIn.keep HK3.out (fun _ _ => id) _ _ HT.out)).mono ?_
               rintro e w4 ⟨rfl, hk⟩
               rw [HCK.out]
               have HB4 := hide (HB3.out.keep hk id)
               have HD4 := hide (HD3.out.keep hk id)
               have HK4 := hide (HK3.out.trans' hk (fun _ _ => id) (fun _ _ => id) : Keeps NoB w w4)
               have d0 : w4.cell? ⟨w.heap.size, 0, none⟩ = some (.int .u8 kd) := HB4.out.cell 0; have d1 : w4.cell? ⟨w.heap.size, 1, none⟩ = some (.string tx) := HB4.out.cell 1; have d2 : w4.cell? ⟨w.heap.size, 2, none⟩ = some (.int .i64 nm) := HB4.out.cell 2; have d3 : w4.cell? ⟨w.heap.size, 3, none⟩ = some (.int .i64 pl) := HB4.out.cell 3; have d4 : w4.cell? ⟨w.heap.size, 4, none⟩ = some (.slice (some ⟨bo,oo,none⟩) kn kc) := HB4.out.cell 4
               clear hk)
            | (go_at_call 14
               refine (pick_any x kn w4 hx (by omega) (by omega)).mono ?_
               rintro e w4' ⟨rfl, k, hk, rfl⟩
               obtain ⟨b9, o9, kf, tf, nf, pf, af, lf, cf, f, hA9, _, _, hf, hfs, hfu, f0, f1, f2, f3, f4⟩ := node_at (HR.out.keep HK4.out (fun _ _ => id)) (NodesIn.keep HK4.out (fun _ _ => id) _ _ HC.out) k hk
               injection hA9 with hA9
               injection hA9 with g1 g2
               subst g1 g2
               have HF := hide hf; have HFU := hide hfu
               have hk0 : (0 : Int) ≤ (k : Int) := by omega
               have hk1 : (k : Int) < (kn : Int) := by omega
               clear hfs hf hfu)
            | fail
          have HB5 := hide (HB4.out.alloc (.cells #[.int .u8 kf, .string tf, .int .i64 nf, .int .i64 pf, .slice af lf cf] 29)); have HD5 := hide (HD4.out.alloc (.cells #[.int .u8 kf, .string tf, .int .i64 nf, .int .i64 pf, .slice af lf cf] 29)); have HG5 := hide (Blk.new w4' 29 #[.int .u8 kf, .string tf, .int .i64 nf, .int .i64 pf, .slice af lf cf])
          have HK5 := hide (HK4.out.alloc (.cells #[.int .u8 kf, .string tf, .int .i64 nf, .int .i64 pf, .slice af lf cf] 29))
          have HFV := hide (NodeIn.keep ((Keeps.refl NoB w4').alloc (.cells #[.int .u8 kf, .string tf, .int .i64 nf, .int .i64 pf, .slice af lf cf] 29)) (fun _ _ => id) _ _ HFU.out)
          have hkc : (k : Int) ≤ (kc : Int) := by omega
          obtain ⟨k1, hk1e⟩ : ∃ k1, k + 1 = k1 := ⟨_, rfl⟩
          have hk2 : (k1 : Int) ≤ (kn : Int) := by omega
          have hk20 : (0 : Int) ≤ (k1 : Int) := by omega
          have HWK := hide (show IntKind.i64.wrap ((k : Int) + 1) = (k1 : Int) from by rw [show (k : Int) + 1 = k1 from by omega]; exact IntWalk.i64_in _ (by omega))
          have HK1E := hide hk1e
          clear hk1e
          obtain ⟨n9, hn9e⟩ : ∃ n9, k + (kn - k1) = n9 := ⟨_, rfl⟩
          have HN9E := hide hn9e
          clear hn9e
          clear a0 a1 a2 a3 a4 aa0 aa1 aa2 aa3 aa4 b0 b1 b2 b3 b4 bb0 bb1 bb2 bb3 bb4 c0 c1 c2 c3 c4 d0 d1 d2 d3 d4 f0 f1 f2 f3 f4 HB1 HD1 HB2 HD2 HB3 HD3 HB4 HD4 HFU HK1 HK2 HK3 HK4
          generalize hw5 : w4'.alloc (.cells #[.int .u8 kf, .string tf, .int .i64 nf, .int .i64 pf, .slice af lf cf] 29) = w5 at *
          generalize w4'.heap.size = g8 at *
          clear hw5 w1 w2 w3
          go_cut [9] (fun s9 wx => ∃ (g : Nat) (A : Option Addr) (c : Nat), s9 = .pointer (some ⟨g, 0, none⟩) ∧ Keeps NoB w5 wx ∧ Blk wx g 29 #[.int .u8 22, .string ByteArray.empty, .int .i64 0, .int .i64 pl, .slice A n9 c] ∧ NodeIn wx (fun _ => True) false [.int .u8 22, .string ByteArray.empty, .int .i64 0, .int .i64 pl, .slice A n9 c] (.mk 22 ⟨#[]⟩ 0 pl (kids.take k ++ kids.drop k1)))
          case first => -- slow
            go_wp2_with fail
            refine order_begin (fun W => Keeps NoB w5 W) (fun _ => true) (by kernel_rfl) 17 rfl ?_
            have HS : Keeps NoB w5 w5.drew := (Keeps.refl _ _).drew
            refine order_pure (i := 0) rfl (by kernel_rfl) (fun _ _ _ h => h) (.inl ⟨rfl, fun _ => by go_simp; rfl⟩) ?_
            try simp only [Act.put, List.setIfInBounds_toArray, List.set_cons_succ, List.set_cons_zero]
            refine order_held (i := 1) rfl (by kernel_rfl) (fun _ _ _ h => h) (.inl ⟨rfl, fun W hW => by
              have q0 : W.cell? ⟨w.heap.size, 3, none⟩ = some (.int .i64 pl) := hW.cell id (HB5.out.cell 3)
              go_simp; rfl⟩) HS ?_
            try simp only [Act.put, List.setIfInBounds_toArray, List.set_cons_succ, List.set_cons_zero]
            refine order_pure (i := 3) rfl (by kernel_rfl) (fun _ _ _ h => h) (.inl ⟨rfl, fun _ => by go_simp; rfl⟩) ?_
            try simp only [Act.put, List.setIfInBounds_toArray, List.set_cons_succ, List.set_cons_zero]
            refine order_held (i := 4) rfl (by kernel_rfl) (fun _ _ _ h => h) (.inl ⟨rfl, fun W hW => by
              have q0 : W.cell? ⟨w.heap.size, 4, none⟩ = some (.slice (some ⟨bo, oo, none⟩) kn kc) := hW.cell id (HB5.out.cell 4)
              go_simp; rfl⟩) HS ?_
            try simp only [Act.put, List.setIfInBounds_toArray, List.set_cons_succ, List.set_cons_zero]
            refine order_pure (i := 5) rfl (by kernel_rfl) (fun _ _ _ h => h) (.inl ⟨rfl, fun _ => by go_simp; rfl⟩) ?_
            try simp only [Act.put, List.setIfInBounds_toArray, List.set_cons_succ, List.set_cons_zero]
            refine order_pure (i := 8) rfl (by kernel_rfl) (fun _ _ _ h => h) (.inl ⟨rfl, fun _ => by go_simp; rfl⟩) ?_
            try simp only [Act.put, List.setIfInBounds_toArray, List.set_cons_succ, List.set_cons_zero]
            refine order_held (i := 9) rfl (by kernel_rfl) (fun _ _ _ h => h) (.inl ⟨rfl, fun W hW => by
              have q0 : W.cell? ⟨w.heap.size, 4, none⟩ = some (.slice (some ⟨bo, oo, none⟩) kn kc) := hW.cell id (HB5.out.cell 4)
              go_simp; rfl⟩) HS ?_
            try simp only [Act.put, List.setIfInBounds_toArray, List.set_cons_succ, List.set_cons_zero]
            refine order_pure (i := 10) rfl (by kernel_rfl) (fun _ _ _ h => h) (.inl ⟨rfl, fun _ => by go_simp; rfl⟩) ?_
            try simp only [Act.put, List.setIfInBounds_toArray, List.set_cons_succ, List.set_cons_zero]
            refine order_pure (i := 11) rfl (by kernel_rfl) (fun _ _ _ h => h) (.inl ⟨rfl, fun _ => by go_simp; rfl⟩) ?_
            try simp only [Act.put, List.setIfInBounds_toArray, List.set_cons_succ, List.set_cons_zero]
            rw [HWK.out]
            refine order_pure (i := 6) rfl (by kernel_rfl) (fun _ _ _ h => h) (.inl ⟨rfl, fun _ => by go_simp; rfl⟩) ?_
            try simp only [Act.put, List.setIfInBounds_toArray, List.set_cons_succ, List.set_cons_zero]
            refine order_pure (i := 12) rfl (by kernel_rfl) (fun _ _ _ h => h) (.inl ⟨rfl, fun _ => by go_simp; rfl⟩) ?_
            try simp only [Act.put, List.setIfInBounds_toArray, List.set_cons_succ, List.set_cons_zero]
            obtain ⟨A7, hA7⟩ : ∃ A7 : Option Addr, (if kc = k1 then some ⟨bo, oo, none⟩ else some ⟨bo, oo + k1 * 5, none⟩) = A7 := ⟨_, rfl⟩
            rw [hA7]
            have HRT := hide (show Reads w5 B F 5 (some ⟨bo, oo, none⟩) k (css.take k).flatten from (Reads.upto' HR.out HC.out.lens.2 (by omega)).keep HK5.out (fun _ _ => id))
            have HCT := hide (show NodesIn w5 B F (css.take k) (kids.take k) from NodesIn.keep HK5.out (fun _ _ => id) _ _ (NodesIn.take k HC.out))
            have HRD := hide (show Reads w5 B F 5 A7 (kn - k1) (css.drop k1).flatten from by
              have h := (Reads.from' (i := k1) HR.out HC.out.lens.2 (by omega) hnm).keep HK5.out (fun _ _ => id)
              rw [← hA7]
              by_cases e : kc = k1
              · rw [if_pos e] at h ⊢; exact h
              · rw [if_neg e] at h ⊢; exact h)
            have HCD := hide (show NodesIn w5 B F (css.drop k1) (kids.drop k1) from NodesIn.keep HK5.out (fun _ _ => id) _ _ (NodesIn.drop k1 HC.out))
            have HSD := hide HS
            clear hA7 HS
            refine order_rest (fun d a wx => ∃ x1 x2 x3 x4 x6, a = { tmps := #[.agg #[.int .u8 kd, .string tx, .int .i64 nm, .int .i64 pl, .slice (some ⟨bo, oo, none⟩) kn kc], .agg #[.int .u8 kd2, .string tx2, .int .i64 nm2, .int .i64 pl2, .slice ka2 kn2 kc2], .int .i64 x, .pointer (some ⟨w.heap.size, 0, none⟩), .pointer (some ⟨w.heap.size + 1, 0, none⟩), undef, .bool false, .int .i64 ↑k, .pointer (some ⟨g8, 0, none⟩), x4, undef, undef, undef, undef, undef, .bool true, .bool false, .agg #[.int .u8 kd, .string tx, .int .i64 nm, .int .i64 pl, .slice (some ⟨bo, oo, none⟩) kn kc], .bool true, .bool false, .bool false, .agg #[.int .u8 kd2, .string tx2, .int .i64 nm2, .int .i64 pl2, .slice ka2 kn2 kc2], .bool true, .bool false, .bool false, .bool false, .agg #[.int .u8 kd, .string tx, .int .i64 nm, .int .i64 pl, .slice (some ⟨bo, oo, none⟩) kn kc], .agg #[.int .i64 0, .int .i64 pc], .int .i64 0, .bool false, .bool false, .bool false, .pointer (some ⟨w.heap.size, 4, none⟩), .slice (some ⟨bo, oo, none⟩) kn kc, .int .i64 ↑kn, .bool false, .bool false, .int .i64 x, .pointer (some ⟨w.heap.size, 4, none⟩), .slice (some ⟨bo, oo, none⟩) kn kc, .int .i64 ↑kn, .int .i64 ↑k, .pointer (some ⟨w.heap.size, 4, none⟩), .slice (some ⟨bo, oo, none⟩) kn kc, .int .i64 ↑k, .pointer (some ⟨bo, oo + k * 5, none⟩), .agg #[.int .u8 kf, .string tf, .int .i64 nf, .int .i64 pf, .slice af lf cf], .pointer (some ⟨w.heap.size, 3, none⟩), .int .i64 pl, x1, .pointer (some ⟨w.heap.size, 4, none⟩), .slice (some ⟨bo, oo, none⟩) kn kc, .int .i64 ↑k, .slice (some ⟨bo, oo, none⟩) k kc, x2, .pointer (some ⟨w.heap.size, 4, none⟩), .slice (some ⟨bo, oo, none⟩) kn kc, .int .i64 ↑k, .int .i64 ↑k1, .slice A7 (kn - k1) (kc - k1), x3, x6, undef, undef, undef, undef, undef, undef, undef, undef, undef, undef, undef, undef, undef, undef, undef, undef, undef, undef, undef, undef, undef, undef, undef, undef, undef, undef, undef, undef, undef, undef, undef, undef, undef, undef, undef, undef, undef, undef, undef, undef, undef, undef, undef, undef, undef, undef, undef, undef, undef, undef, undef, undef, undef, undef, undef, undef, undef, undef, undef, undef, undef, undef, undef, undef, undef, undef, undef, undef, undef, undef, undef, undef, undef, undef, undef, undef, undef, undef, undef, undef, undef, undef, undef, undef, undef, undef, undef, undef, undef, undef, undef, undef, undef, undef, undef, undef, undef, undef, undef, undef, undef, undef, undef], defers := [] } ∧ RowsI w5.drew wx k (css.take k).flatten (kn - k1) (css.drop k1).flatten #[] pl (d 2) (d 7) (d 13) (d 15) false (d 14) (d 16) x1 x2 x3 x4 undef x6) (by kernel_rfl) (fun _ _ _ ⟨_, _, _, _, _, _, h⟩ => (HSD.out.trans' h.keep (fun _ _ => id) (fun _ _ => id) : Keeps NoB w5 _)) ?_ ?_ ?_
            · exact ⟨undef, undef, undef, undef, undef, rfl, RowsI.begin _⟩
            · intro d a wx i oi hoi hnd hI hdi hdep K hK
              obtain ⟨x1, x2, x3, x4, x6, rfl, hR⟩ := hI
              have hi : i < 17 := by have h := (Array.getElem?_eq_some_iff.1 hoi).1; simpa using h
              have hcases : i = 2 ∨ i = 7 ∨ i = 13 ∨ i = 14 ∨ i = 15 ∨ i = 16 := by simp at hnd; omega
              have HDI := hide hdi; have HRI := hide hR
              have HKX := hide (HSD.out.trans' hR.keep (fun _ _ => id) (fun _ _ => id) : Keeps NoB w5 wx)
              clear hnd hi hdi hR
              rcases hcases with rfl | rfl | rfl | rfl | rfl | rfl
              · simp at hoi
                subst hoi
                go_simp
                exact hK _ _ ⟨_, x2, x3, x4, x6, rfl, HRI.out.s1 HDI.out⟩
              · simp at hoi
                subst hoi
                simp [Region.binds] at hdep
                simp only [Region.wanted, reduceIte]
                refine wp_append_new (W0 := w5.drew) _ _ rfl 0 [] x1 rfl (HRI.out.h1 hdep.1 HDI.out) HRI.out.keep.size B F _ k _ (css.take k) (kids.take k) rfl (HRT.out.keep HKX.out (fun _ _ => id)) (NodesIn.keep HKX.out (fun _ _ => id) _ _ HCT.out) (by omega) (by omega) (fun v' w' h1 h2 h3 => hK _ _ ⟨x1, v', x3, x4, x6, rfl, HRI.out.s2 hdep.1 HDI.out h1 h2 h3⟩) HRI.out.keep
              · simp at hoi
                subst hoi
                simp [Region.binds] at hdep
                simp only [Region.wanted, reduceIte]
                refine wp_append_new (W0 := w5.drew) _ _ rfl k (css.take k).flatten x2 rfl (HRI.out.h2 hdep.1 HDI.out) HRI.out.keep.size B F _ (kn - k1) _ (css.drop k1) (kids.drop k1) rfl (HRD.out.keep HKX.out (fun _ _ => id)) (NodesIn.keep HKX.out (fun _ _ => id) _ _ HCD.out) (by omega) (by omega) (fun v' w' h1 h2 h3 => hK _ _ ⟨x1, x2, v', x4, x6, rfl, HRI.out.s3 hdep.1 HDI.out h1 h2 h3⟩) HRI.out.keep
              · simp at hoi
                subst hoi
                simp [Region.binds] at hdep
                have hs6 := HRI.out.s6 hdep.2
                have hn3 := HRI.out.h3 hdep.2
                obtain ⟨A3, c3, rfl, _⟩ := hn3
                have HS6 := hide hs6
                clear hs6
                go_simp
                exact hK _ _ ⟨x1, x2, _, x4, _, rfl, HS6.out⟩
              · simp at hoi
                subst hoi
                go_simp
                exact hK _ _ ⟨x1, x2, x3, _, x6, rfl, HRI.out.s4 HDI.out⟩
              · simp at hoi
                subst hoi
                simp [Region.binds] at hdep
                have hd13 : d 13 = true := hdep.2.2.1
                have hd14 : d 14 = true := hdep.2.1
                have hd15 : d 15 = true := hdep.1
                clear hdep
                have h3 := HRI.out.h3 hd13
                have h4 := HRI.out.h4 hd15
                have h6 := (HRI.out.h6 hd14).2
                obtain ⟨A3, c3, rfl, _⟩ := h3
                obtain ⟨g, c5, rfl, hg, hb5, hc5, _, hoff⟩ := h4
                obtain rfl := hc5 HDI.out
                subst h6
                have z0 := hb5.free 0; have z1 := hb5.free 1; have z2 := hb5.free 2; have z3 := hb5.free 3; have z4 := hb5.free 4
                have v0 : wx.cell? ⟨g, 0, none⟩ = some (.int .u8 0) := hb5.cell 0; have v1 : wx.cell? ⟨g, 1, none⟩ = some (.string ByteArray.empty) := hb5.cell 1; have v2 : wx.cell? ⟨g, 2, none⟩ = some (.int .i64 0) := hb5.cell 2; have v3 : wx.cell? ⟨g, 3, none⟩ = some (.int .i64 0) := hb5.cell 3; have v4 : wx.cell? ⟨g, 4, none⟩ = some (.slice none 0 0) := hb5.cell 4
                have HS7 := hide (HRI.out.s7 hd13 rfl hg (hoff.2.2 hd13) hd15 (keeps_put5 wx g _ _ _ _ _) (hb5.put5 _ _ _ _ _))
                clear hb5 hc5 hoff hd13 hd14 hd15
                go_simp
                exact hK _ _ ⟨x1, x2, _, _, _, rfl, HS7.out⟩
            · intro d a wx hI hall
              obtain ⟨x1, x2, x3, x4, x6, rfl, hR⟩ := hI
              have e2 := hall 2 (by decide); have e7 := hall 7 (by decide); have e13 := hall 13 (by decide); have e14 := hall 14 (by decide); have e15 := hall 15 (by decide); have e16 := hall 16 (by decide)
              rw [e2, e7, e13, e14, e15, e16] at hR
              clear hall e2 e7 e13 e14 e15 e16
              have hnode := hR.node (css := css.take k ++ css.drop k1) (ts := kids.take k ++ kids.drop k1) (NodesIn.keep HSD.out (fun _ _ => id) _ _ (NodesIn.append HCT.out HCD.out)) (by rw [List.flatten_append]) (by have := HK1E.out; omega)
              have HKF := hide (HSD.out.trans' hR.keep (fun _ _ => id) (fun _ _ => id) : Keeps NoB w5 wx)
              clear hR
              obtain ⟨g, A, c, rfl, hg, hb, _, hn⟩ := hnode
              rw [HN9E.out] at hb hn
              go_wp2_with fail
              go_meet
              exact ⟨g, A, c, rfl, HKF.out, hb, hn⟩
          case rest =>
            obtain ⟨g9, A9, c9, rfl, hk6, hb9, hn9⟩ := hcut
            obtain ⟨w6, rfl⟩ : ∃ w6, w6 = wc := ⟨_, rfl⟩
            have HB6 := hide (HB5.out.keep hk6 id); have HD6 := hide (HD5.out.keep hk6 id); have HG6 := hide (HG5.out.keep hk6 id); have HB9 := hide hb9; have HN9 := hide hn9
            have HK6 := hide (HK5.out.trans' hk6 (fun _ _ => id) (fun _ _ => id) : Keeps NoB w w6)
            have HFW := hide (NodeIn.keep hk6 (fun _ _ => id) _ _ HFV.out)
            clear hk6 hb9 hn9 HB5 HD5 HG5 HK5 HFV
            obtain ⟨fk, fcs, rfl, _⟩ := HFW.out.kidsIn
            obtain ⟨R, hRe⟩ : ∃ R, Nd.mk 22 { data := #[] } 0 pl (List.take k kids ++ List.drop k1 kids) = R := ⟨_, rfl⟩
            rw [hRe] at HN9
            have HRE := hide hRe
            clear hRe
            have hc0 : (checkN t).1 = 0 := by rw [HCK.out]
            have hfm : Nd.mk kf tf nf pf fk ∈ t.kids := by rw [HTE.out]; exact List.mem_of_getElem? HF.out
            have hmod := module_of (check_zero hc0).1 (check_zero hc0).2.1
            have hfn := hmod.1 _ hfm
            have hff : manyN (Nd.mk kf tf nf pf fk) ≤ 3000 := by have h1 := many_mem hfm; have h2 := HM3.out; have h3 : manysN t.kids ≤ manyN t := (by cases t; unfold manyN; simp only [Nd.kids]; omega); omega
            have hnf : 0 ≤ nf ∧ nf ≤ 1000000 := by have h := num_of hfn; simp only [Nd.num] at h; omega
            have HPF := hide (show (-9223372036854775808 ≤ pl ∧ pl ≤ 9223372036854775807) ∧ ∀ u ∈ kids, okN u from by
              have h := HO.out; rw [HTE.out] at h; unfold okN at h; exact ⟨h.2.2.2.1, (oks_iff _).1 h.2.2.2.2⟩)
            have HKM := hide (show manysN kids ≤ 3000 from by have h2 := HM3.out; rw [HTE.out] at h2; unfold manyN at h2; omega)
            have HFM := hide hfm
            have HRO := hide (show okN R from by rw [← HRE.out]; exact ok_mod HPF.out.1 (fun u hu => HPF.out.2 u ((List.mem_append.1 hu).elim List.mem_of_mem_take List.mem_of_mem_drop)))
            have HRM := hide (show manyN R ≤ 4611686018427387904 from by rw [← HRE.out]; have h := manys_split (ts := kids) k; rw [HK1E.out] at h; have := many_mod (pl := pl) (Nat.le_trans h HKM.out); omega)
            clear hc0 hfm hmod hfn hff
            have e0 : w6.cell? ⟨g8, 0, none⟩ = some (.int .u8 kf) := HG6.out.cell 0; have e1 : w6.cell? ⟨g8, 1, none⟩ = some (.string tf) := HG6.out.cell 1; have e2 : w6.cell? ⟨g8, 2, none⟩ = some (.int .i64 nf) := HG6.out.cell 2; have e3 : w6.cell? ⟨g8, 3, none⟩ = some (.int .i64 pf) := HG6.out.cell 3; have e4 : w6.cell? ⟨g8, 4, none⟩ = some (.slice af lf cf) := HG6.out.cell 4
            have h0 : w6.cell? ⟨g9, 0, none⟩ = some (.int .u8 22) := HB9.out.cell 0; have h1 : w6.cell? ⟨g9, 1, none⟩ = some (.string ByteArray.empty) := HB9.out.cell 1; have h2 : w6.cell? ⟨g9, 2, none⟩ = some (.int .i64 0) := HB9.out.cell 2; have h3 : w6.cell? ⟨g9, 3, none⟩ = some (.int .i64 pl) := HB9.out.cell 3; have h4 : w6.cell? ⟨g9, 4, none⟩ = some (.slice A9 n9 c9) := HB9.out.cell 4
            go_upto_region 8 with fail
            go_cut [80] (fun s80 wx => s80 = .bool false ∧ Keeps NoB w6 wx)
            case first => -- slow
              by_cases h9 : n9 = 0
              · subst h9
                go_wp2_with fail
                go_meet
                exact ⟨rfl, Keeps.refl _ _⟩
              · have h9i : (0 : Int) < (n9 : Int) := by omega
                cases hcl : callsN tf nf R with
                | true =>
                  have HCL := hide hcl
                  clear hcl
                  go_wp2_with
                    first
                    | (go_at_call 15
                       refine (calls_any tf nf hnf R w6 _ false 22 ByteArray.empty 0 pl A9 n9 c9 HN9.out).mono ?_
                       rintro e w7 ⟨rfl, hk⟩
                       rw [HCL.out]
                       have HK7 := hide hk
                       have HB7 := hide (HB9.out.keep hk id)
                       have i0 : w7.cell? ⟨g9, 0, none⟩ = some (.int .u8 22) := HB7.out.cell 0; have i1 : w7.cell? ⟨g9, 1, none⟩ = some (.string ByteArray.empty) := HB7.out.cell 1; have i2 : w7.cell? ⟨g9, 2, none⟩ = some (.int .i64 0) := HB7.out.cell 2; have i3 : w7.cell? ⟨g9, 3, none⟩ = some (.int .i64 pl) := HB7.out.cell 3; have i4 : w7.cell? ⟨g9, 4, none⟩ = some (.slice A9 n9 c9) := HB7.out.cell 4
                       clear hk)
                    | (go_at_call 11
                       refine (check_any R w7 _ false 22 ByteArray.empty 0 pl A9 n9 c9 ((HL.out.keep HK6.out).keep HK7.out) HRO.out HRM.out (NodeIn.keep HK7.out (fun _ _ => id) _ _ HN9.out)).mono ?_
                       rintro e w8 ⟨rfl, hk⟩
                       rw [HCR.out]
                       have HK8 := hide (HK7.out.trans' hk (fun _ _ => id) (fun _ _ => id) : Keeps NoB w6 w8)
                       clear hk)
                    | fail
                  go_meet
                  exact ⟨rfl, HK7.out⟩
                | false =>
                  obtain ⟨c, hc⟩ : ∃ c, checkN R = c := ⟨_, rfl⟩
                  obtain ⟨er, pr⟩ := c
                  obtain rfl : er = 0 := by
                    have h := law_rest (a := t) (f := .mk kf tf nf pf fk) (k := k) (by rw [HCK.out]) (by rw [HTE.out]; exact HF.out) (by
                      rw [← HRE.out] at hcl
                      unfold callsN hereN at hcl
                      rw [HTE.out, HK1E.out]
                      simpa [Nd.text, Nd.num, Nd.kids] using hcl)
                    rw [HTE.out, HK1E.out] at h
                    have h2 : (checkN R).1 = 0 := by rw [← HRE.out]; exact h
                    rw [hc] at h2
                    exact h2
                  have HCR := hide hc
                  have HCL := hide hcl
                  clear hcl hc
                  go_wp2_with
                    first
                    | (go_at_call 15
                       refine (calls_any tf nf hnf R w6 _ false 22 ByteArray.empty 0 pl A9 n9 c9 HN9.out).mono ?_
                       rintro e w7 ⟨rfl, hk⟩
                       rw [HCL.out]
                       have HK7 := hide hk
                       have HB7 := hide (HB9.out.keep hk id)
                       have i0 : w7.cell? ⟨g9, 0, none⟩ = some (.int .u8 22) := HB7.out.cell 0; have i1 : w7.cell? ⟨g9, 1, none⟩ = some (.string ByteArray.empty) := HB7.out.cell 1; have i2 : w7.cell? ⟨g9, 2, none⟩ = some (.int .i64 0) := HB7.out.cell 2; have i3 : w7.cell? ⟨g9, 3, none⟩ = some (.int .i64 pl) := HB7.out.cell 3; have i4 : w7.cell? ⟨g9, 4, none⟩ = some (.slice A9 n9 c9) := HB7.out.cell 4
                       clear hk)
                    | (go_at_call 11
                       refine (check_any R w7 _ false 22 ByteArray.empty 0 pl A9 n9 c9 ((HL.out.keep HK6.out).keep HK7.out) HRO.out HRM.out (NodeIn.keep HK7.out (fun _ _ => id) _ _ HN9.out)).mono ?_
                       rintro e w8 ⟨rfl, hk⟩
                       rw [HCR.out]
                       have HK8 := hide (HK7.out.trans' hk (fun _ _ => id) (fun _ _ => id) : Keeps NoB w6 w8)
                       clear hk)
                    | fail
                  go_meet
                  exact ⟨rfl, HK8.out⟩
            case rest =>
              obtain ⟨rfl, hk7⟩ := hcut
              obtain ⟨w7, rfl⟩ : ∃ w7, w7 = wc := ⟨_, rfl⟩
              have HB7 := hide (HB6.out.keep hk7 id); have HD7 := hide (HD6.out.keep hk7 id); have HG7 := hide (HG6.out.keep hk7 id)
              have HK7 := hide (HK6.out.trans' hk7 (fun _ _ => id) (fun _ _ => id) : Keeps NoB w w7)
              have HFX := hide (NodeIn.keep hk7 (fun _ _ => id) _ _ HFW.out)
              clear hk7 HB6 HD6 HG6 HK6 HFW HB9 HN9 e0 e1 e2 e3 e4 h0 h1 h2 h3 h4 HRE HRO HRM
              obtain ⟨n1, hn1⟩ : ∃ n1, nodesN t 3000 = n1 := ⟨_, rfl⟩
              obtain ⟨n2, hn2⟩ : ∃ n2, nodesN t2 3000 = n2 := ⟨_, rfl⟩
              have hb1 : (manyN t : Int) ≤ n1 ∧ n1 ≤ 3000 := by
                have h := HS.out; unfold smallN at h; have h1 : nodesN t 3000 ≤ 3000 := by simpa using h
                rw [← hn1]; exact ⟨nodes_many t 3000 h1, h1⟩
              have hb2 : (manyN t2 : Int) ≤ n2 ∧ n2 ≤ 3000 := by
                have h := HS2.out; unfold smallN at h; have h1 : nodesN t2 3000 ≤ 3000 := by simpa using h
                rw [← hn2]; exact ⟨nodes_many t2 3000 h1, h1⟩
              have HN1 := hide hn1; have HN2 := hide hn2
              have HWS := hide (show IntKind.i64.wrap (n1 + n2) = n1 + n2 from IntWalk.i64_in _ (by omega))
              clear hn1 hn2
              go_upto_region 10 with fail
              go_cut [86] (fun s86 wx => s86 = .bool (decide (2000 < n1 + n2)) ∧ Keeps NoB w7 wx)
              case first => -- slow
                go_wp2_with fail
                refine order_begin (fun W => Keeps NoB w7 W) (fun _ => true) (by kernel_rfl) 6 rfl ?_
                have HS : Keeps NoB w7 w7.drew := (Keeps.refl _ _).drew
                refine order_held (i := 0) rfl (by kernel_rfl) (fun _ _ _ h => h) (.inl ⟨rfl, fun W hW => by
                  have q0 : W.cell? ⟨w.heap.size, 0, none⟩ = some (.int .u8 kd) := hW.cell id (HB7.out.cell 0)
                  have q1 : W.cell? ⟨w.heap.size, 1, none⟩ = some (.string tx) := hW.cell id (HB7.out.cell 1)
                  have q2 : W.cell? ⟨w.heap.size, 2, none⟩ = some (.int .i64 nm) := hW.cell id (HB7.out.cell 2)
                  have q3 : W.cell? ⟨w.heap.size, 3, none⟩ = some (.int .i64 pl) := hW.cell id (HB7.out.cell 3)
                  have q4 : W.cell? ⟨w.heap.size, 4, none⟩ = some (.slice (some ⟨bo,oo,none⟩) kn kc) := hW.cell id (HB7.out.cell 4)
                  go_simp; rfl⟩) HS ?_
                try simp only [Act.put, List.setIfInBounds_toArray, List.set_cons_succ, List.set_cons_zero]
                refine order_held (i := 2) rfl (by kernel_rfl) (fun _ _ _ h => h) (.inl ⟨rfl, fun W hW => by
                  have q0 : W.cell? ⟨w.heap.size + 1, 0, none⟩ = some (.int .u8 kd2) := hW.cell id (HD7.out.cell 0)
                  have q1 : W.cell? ⟨w.heap.size + 1, 1, none⟩ = some (.string tx2) := hW.cell id (HD7.out.cell 1)
                  have q2 : W.cell? ⟨w.heap.size + 1, 2, none⟩ = some (.int .i64 nm2) := hW.cell id (HD7.out.cell 2)
                  have q3 : W.cell? ⟨w.heap.size + 1, 3, none⟩ = some (.int .i64 pl2) := hW.cell id (HD7.out.cell 3)
                  have q4 : W.cell? ⟨w.heap.size + 1, 4, none⟩ = some (.slice ka2 kn2 kc2) := hW.cell id (HD7.out.cell 4)
                  go_simp; rfl⟩) HS ?_
                try simp only [Act.put, List.setIfInBounds_toArray, List.set_cons_succ, List.set_cons_zero]
                refine order_one (i := 1) rfl (by kernel_rfl) (fun K hK => ?_)
                go_simp
                refine (nodes_any t HO.out 3000 (by omega) (by omega) w7.drew B F _ _ _ _ _ _ _ (NodeIn.keep (HK7.out.trans' HS (fun _ _ => id) (fun _ _ => id) : Keeps NoB w w7.drew) (fun _ _ => id) _ _ HT.out)).mono ?_
                rintro e w8 ⟨rfl, hk8⟩
                rw [HN1.out]
                have HK8 := hide (HS.trans' hk8 (fun _ _ => id) (fun _ _ => id) : Keeps NoB w7 w8)
                refine hK _ _ (fun _ _ => HK8.out) ?_
                clear hK hk8
                try simp only [Act.put, List.setIfInBounds_toArray, List.set_cons_succ, List.set_cons_zero]
                refine order_one (i := 3) rfl (by kernel_rfl) (fun K hK => ?_)
                go_simp
                refine (nodes_any t2 HO2.out 3000 (by omega) (by omega) w8 B2 F2 _ _ _ _ _ _ _ (NodeIn.keep (HK7.out.trans' HK8.out (fun _ _ => id) (fun _ _ => id) : Keeps NoB w w8) (fun _ _ => id) _ _ HT2.out)).mono ?_
                rintro e w9 ⟨rfl, hk9⟩
                rw [HN2.out]
                have HK9 := hide (HK8.out.trans' hk9 (fun _ _ => id) (fun _ _ => id) : Keeps NoB w7 w9)
                refine hK _ _ (fun _ _ => HK9.out) ?_
                clear hK hk9
                try simp only [Act.put, List.setIfInBounds_toArray, List.set_cons_succ, List.set_cons_zero]
                refine order_pure (i := 4) rfl (by kernel_rfl) (fun _ _ _ h => h) (.inl ⟨rfl, fun _ => by go_simp; rfl⟩) ?_
                try simp only [Act.put, List.setIfInBounds_toArray, List.set_cons_succ, List.set_cons_zero]
                rw [HWS.out]
                refine order_pure (i := 5) rfl (by kernel_rfl) (fun _ _ _ h => h) (.inl ⟨rfl, fun _ => by go_simp; rfl⟩) ?_
                try simp only [Act.put, List.setIfInBounds_toArray, List.set_cons_succ, List.set_cons_zero]
                refine order_done (by kernel_rfl) ?_
                go_wp2_with fail
                go_meet
                exact ⟨rfl, HK9.out⟩
              case rest =>
                obtain ⟨rfl, hk8⟩ := hcut
                obtain ⟨w8, rfl⟩ : ∃ w8, w8 = wc := ⟨_, rfl⟩
                have HB8 := hide (HB7.out.keep hk8 id); have HD8 := hide (HD7.out.keep hk8 id); have HG8 := hide (HG7.out.keep hk8 id)
                have HK8 := hide (HK7.out.trans' hk8 (fun _ _ => id) (fun _ _ => id) : Keeps NoB w w8)
                have HFX8 := hide (NodeIn.keep hk8 (fun _ _ => id) _ _ HFX.out)
                clear hk8 HB7 HD7 HG7 HK7 HFX
                by_cases hsum : 2000 < n1 + n2
                · go_wp2_with fail
                  go_ret
                  exact ⟨rfl, HK8.out⟩
                · go_upto_region 12 with fail
                  go_cut [10] (fun s10 wx => ∃ (g : Nat) (A : Option Addr) (c : Nat), s10 = .pointer (some ⟨g, 0, none⟩) ∧ Keeps NoB w8 wx ∧ Blk wx g 29 #[.int .u8 22, .string ByteArray.empty, .int .i64 0, .int .i64 0, .slice A (kn + 1) c] ∧ NodeIn wx (fun _ => True) false [.int .u8 22, .string ByteArray.empty, .int .i64 0, .int .i64 0, .slice A (kn + 1) c] (.mk 22 ⟨#[]⟩ 0 0 (kids ++ [.mk kf tf nf pf fk])))
                  case first => -- slow
                    go_wp2_with fail
                    refine order_begin (fun W => Keeps NoB w8 W) (fun _ => true) (by kernel_rfl) 10 rfl ?_
                    have HS : Keeps NoB w8 w8.drew := (Keeps.refl _ _).drew
                    refine order_pure (i := 1) rfl (by kernel_rfl) (fun _ _ _ h => h) (.inl ⟨rfl, fun _ => by go_simp; rfl⟩) ?_
                    try simp only [Act.put, List.setIfInBounds_toArray, List.set_cons_succ, List.set_cons_zero]
                    refine order_held (i := 2) rfl (by kernel_rfl) (fun _ _ _ h => h) (.inl ⟨rfl, fun W hW => by
                      have q0 : W.cell? ⟨w.heap.size, 4, none⟩ = some (.slice (some ⟨bo, oo, none⟩) kn kc) := hW.cell id (HB8.out.cell 4)
                      go_simp; rfl⟩) HS ?_
                    try simp only [Act.put, List.setIfInBounds_toArray, List.set_cons_succ, List.set_cons_zero]
                    refine order_held (i := 4) rfl (by kernel_rfl) (fun _ _ _ h => h) (.inl ⟨rfl, fun W hW => by
                      have q0 : W.cell? ⟨g8, 0, none⟩ = some (.int .u8 kf) := hW.cell id (HG8.out.cell 0)
                      have q1 : W.cell? ⟨g8, 1, none⟩ = some (.string tf) := hW.cell id (HG8.out.cell 1)
                      have q2 : W.cell? ⟨g8, 2, none⟩ = some (.int .i64 nf) := hW.cell id (HG8.out.cell 2)
                      have q3 : W.cell? ⟨g8, 3, none⟩ = some (.int .i64 pf) := hW.cell id (HG8.out.cell 3)
                      have q4 : W.cell? ⟨g8, 4, none⟩ = some (.slice af lf cf) := hW.cell id (HG8.out.cell 4)
                      go_simp; rfl⟩) HS ?_
                    try simp only [Act.put, List.setIfInBounds_toArray, List.set_cons_succ, List.set_cons_zero]
                    have HRA := hide (show Reads w8 B F 5 (some ⟨bo, oo, none⟩) kn css.flatten from HR.out.keep HK8.out (fun _ _ => id))
                    have HCA := hide (show NodesIn w8 B F css kids from NodesIn.keep HK8.out (fun _ _ => id) _ _ HC.out)
                    have HSD := hide HS
                    clear HS
                    refine order_rest (fun d a wx => ∃ x1 x2 x3 x4 x5 x6, a = { tmps := #[.agg #[.int .u8 kd, .string tx, .int .i64 nm, .int .i64 pl, .slice (some ⟨bo, oo, none⟩) kn kc], .agg #[.int .u8 kd2, .string tx2, .int .i64 nm2, .int .i64 pl2, .slice ka2 kn2 kc2], .int .i64 x, .pointer (some ⟨w.heap.size, 0, none⟩), .pointer (some ⟨w.heap.size + 1, 0, none⟩), undef, .bool false, .int .i64 ↑k, .pointer (some ⟨g8, 0, none⟩), .pointer (some ⟨g9, 0, none⟩), x4, undef, undef, undef, undef, u15, u16, u17, u18, u19, u20, u21, u22, u23, u24, u25, u26, u27, u28, u29, u30, u31, u32, u33, u34, u35, u36, u37, u38, u39, u40, u41, u42, u43, u44, u45, u46, u47, u48, u49, u50, u51, u52, u53, u54, u55, u56, u57, u58, u59, u60, u61, u62, u63, u64, u65, u66, u67, u68, u69, u70, u71, u72, u73, u74, u75, u76, u77, u78, u79, u80, u81, u82, u83, u84, u85, .bool (decide (2000 < n1 + n2)), x1, .pointer (some ⟨w.heap.size, 4, none⟩), .slice (some ⟨bo, oo, none⟩) kn kc, x2, .agg #[.int .u8 kf, .string tf, .int .i64 nf, .int .i64 pf, .slice af lf cf], x5, x3, x6, u95, u96, u97, u98, u99, u100, u101, u102, u103, u104, u105, u106, u107, u108, u109, u110, u111, u112, u113, u114, u115, u116, u117, u118, u119, u120, u121, u122, u123, u124, u125, u126, u127, u128, u129, u130, u131, u132, u133, u134, u135, u136, u137, u138, u139, u140, u141, u142, u143, u144, u145, u146, u147, u148, u149, u150, u151, u152, u153, u154, u155, u156, u157, u158, u159, u160, u161, u162, u163, u164], defers := [] } ∧ RowsI w8.drew wx kn css.flatten 1 [.int .u8 kf, .string tf, .int .i64 nf, .int .i64 pf, .slice af lf cf] #[.int .u8 kf, .string tf, .int .i64 nf, .int .i64 pf, .slice af lf cf] 0 (d 0) (d 3) (d 6) (d 8) (d 5) (d 7) (d 9) x1 x2 x3 x4 x5 x6) (by kernel_rfl) (fun _ _ _ ⟨_, _, _, _, _, _, _, h⟩ => (HSD.out.trans' h.keep (fun _ _ => id) (fun _ _ => id) : Keeps NoB w8 _)) ?_ ?_ ?_
                    · exact ⟨u87, u90, u93, undef, u92, u94, rfl, RowsI.begin _⟩
                    · intro d a wx i oi hoi hnd hI hdi hdep K hK
                      obtain ⟨x1, x2, x3, x4, x5, x6, rfl, hR⟩ := hI
                      have hi : i < 10 := by have h := (Array.getElem?_eq_some_iff.1 hoi).1; simpa using h
                      have hcases : i = 0 ∨ i = 3 ∨ i = 5 ∨ i = 6 ∨ i = 7 ∨ i = 8 ∨ i = 9 := by simp at hnd; omega
                      have HDI := hide hdi; have HRI := hide hR
                      have HKX := hide (HSD.out.trans' hR.keep (fun _ _ => id) (fun _ _ => id) : Keeps NoB w8 wx)
                      clear hnd hi hdi hR
                      rcases hcases with rfl | rfl | rfl | rfl | rfl | rfl | rfl
                      · simp at hoi
                        subst hoi
                        go_simp
                        exact hK _ _ ⟨_, x2, x3, x4, x5, x6, rfl, HRI.out.s1 HDI.out⟩
                      · simp at hoi
                        subst hoi
                        simp [Region.binds] at hdep
                        simp only [Region.wanted, reduceIte]
                        refine wp_append_new (W0 := w8.drew) _ _ rfl 0 [] x1 rfl (HRI.out.h1 hdep.1 HDI.out) HRI.out.keep.size B F _ kn _ css kids rfl (HRA.out.keep HKX.out (fun _ _ => id)) (NodesIn.keep HKX.out (fun _ _ => id) _ _ HCA.out) (by omega) (by omega) (fun v' w' h1 h2 h3 => hK _ _ ⟨x1, v', x3, x4, x5, x6, rfl, HRI.out.s2 hdep.1 HDI.out h1 h2 h3⟩) HRI.out.keep
                      · simp at hoi
                        subst hoi
                        go_simp
                        exact hK _ _ ⟨x1, x2, x3, x4, _, x6, rfl, HRI.out.s5⟩
                      · simp at hoi
                        subst hoi
                        simp [Region.binds] at hdep
                        have hd3 : d 3 = true := hdep.1
                        have h5 := HRI.out.h5 hdep.2.1 HDI.out
                        obtain ⟨g, rfl, _, hb5, _⟩ := h5
                        simp only [Region.wanted, reduceIte]
                        refine wp_append_new (W0 := w8.drew) _ _ rfl kn css.flatten x2 rfl (HRI.out.h2 hd3 HDI.out) HRI.out.keep.size (fun _ => True) false (some ⟨g, 0, none⟩) 1 1 [[.int .u8 kf, .string tf, .int .i64 nf, .int .i64 pf, .slice af lf cf]] [.mk kf tf nf pf fk] rfl (by rw [List.flatten_cons, List.flatten_nil, List.append_nil]; exact nd_reads hb5) (NodesIn.one (NodeIn.more (fun _ _ _ => trivial) _ _ (NodeIn.weak _ _ (NodeIn.keep HKX.out (fun _ _ => id) _ _ HFX8.out)))) (by omega) (by omega) (fun v' w' h1 h2 h3 => ?_) HRI.out.keep
                        rw [List.flatten_cons, List.flatten_nil, List.append_nil] at h1
                        exact hK _ _ ⟨x1, x2, v', x4, _, x6, rfl, HRI.out.s3 hd3 HDI.out h1 h2 h3⟩
                      · simp at hoi
                        subst hoi
                        simp [Region.binds] at hdep
                        have hs6 := HRI.out.s6 hdep
                        have hn3 := HRI.out.h3 hdep
                        obtain ⟨A3, c3, rfl, _⟩ := hn3
                        have HS6 := hide hs6
                        clear hs6
                        go_simp
                        exact hK _ _ ⟨x1, x2, _, x4, x5, _, rfl, HS6.out⟩
                      · simp at hoi
                        subst hoi
                        go_simp
                        exact hK _ _ ⟨x1, x2, x3, _, x5, x6, rfl, HRI.out.s4 HDI.out⟩
                      · simp at hoi
                        subst hoi
                        simp [Region.binds] at hdep
                        have hd6 : d 6 = true := hdep.2.2.1
                        have hd7 : d 7 = true := hdep.2.1
                        have hd8 : d 8 = true := hdep.1
                        clear hdep
                        have h3 := HRI.out.h3 hd6
                        have h4 := HRI.out.h4 hd8
                        have h6 := (HRI.out.h6 hd7).2
                        obtain ⟨A3, c3, rfl, _⟩ := h3
                        obtain ⟨g, c5, rfl, hg, hb5, hc5, _, hoff⟩ := h4
                        obtain rfl := hc5 HDI.out
                        subst h6
                        have z0 := hb5.free 0; have z1 := hb5.free 1; have z2 := hb5.free 2; have z3 := hb5.free 3; have z4 := hb5.free 4
                        have v0 : wx.cell? ⟨g, 0, none⟩ = some (.int .u8 0) := hb5.cell 0; have v1 : wx.cell? ⟨g, 1, none⟩ = some (.string ByteArray.empty) := hb5.cell 1; have v2 : wx.cell? ⟨g, 2, none⟩ = some (.int .i64 0) := hb5.cell 2; have v3 : wx.cell? ⟨g, 3, none⟩ = some (.int .i64 0) := hb5.cell 3; have v4 : wx.cell? ⟨g, 4, none⟩ = some (.slice none 0 0) := hb5.cell 4
                        have HS7 := hide (HRI.out.s7 hd6 rfl hg (hoff.2.2 hd6) hd8 (keeps_put5 wx g _ _ _ _ _) (hb5.put5 _ _ _ _ _))
                        clear hb5 hc5 hoff hd6 hd7 hd8
                        go_simp
                        exact hK _ _ ⟨x1, x2, _, _, x5, _, rfl, HS7.out⟩
                    · intro d a wx hI hall
                      obtain ⟨x1, x2, x3, x4, x5, x6, rfl, hR⟩ := hI
                      have e0 := hall 0 (by decide); have e3 := hall 3 (by decide); have e6 := hall 6 (by decide); have e7 := hall 7 (by decide); have e8 := hall 8 (by decide); have e9 := hall 9 (by decide)
                      rw [e0, e3, e6, e7, e8, e9] at hR
                      clear hall e0 e3 e6 e7 e8 e9
                      have hnode := hR.node (css := css ++ [[.int .u8 kf, .string tf, .int .i64 nf, .int .i64 pf, .slice af lf cf]]) (ts := kids ++ [.mk kf tf nf pf fk]) (NodesIn.keep HSD.out (fun _ _ => id) _ _ (NodesIn.append HCA.out (NodesIn.one HFX8.out))) (by simp) (by omega)
                      have HKF := hide (HSD.out.trans' hR.keep (fun _ _ => id) (fun _ _ => id) : Keeps NoB w8 wx)
                      clear hR
                      obtain ⟨g, A, c, rfl, hg, hb, _, hn⟩ := hnode
                      go_wp2_with fail
                      go_meet
                      exact ⟨g, A, c, rfl, HKF.out, hb, hn⟩
                  case rest =>
                    obtain ⟨g10, A10, c10, rfl, hk9, hb10, hn10⟩ := hcut
                    obtain ⟨w9, rfl⟩ : ∃ w9, w9 = wc := ⟨_, rfl⟩
                    have HB9 := hide (HB8.out.keep hk9 id); have HD9 := hide (HD8.out.keep hk9 id); have HG9 := hide (HG8.out.keep hk9 id); have HX9 := hide hb10; have HN9 := hide hn10
                    have HK9 := hide (HK8.out.trans' hk9 (fun _ _ => id) (fun _ _ => id) : Keeps NoB w w9)
                    clear hk9 hb10 hn10 HB8 HD8 HG8 HK8 HFX8
                    obtain ⟨R, hRe⟩ : ∃ R, Nd.mk 22 { data := #[] } 0 0 (kids ++ [Nd.mk kf tf nf pf fk]) = R := ⟨_, rfl⟩
                    rw [hRe] at HN9
                    have HKM2 := hide (show manysN kids + manyN (Nd.mk kf tf nf pf fk) ≤ 4000 from by
                      have h1 := hb1.1; rw [HTE.out] at h1; unfold manyN at h1
                      have h2 := HFM.out; rw [HTE.out] at h2; have h3 := many_mem h2; simp only [Nd.kids] at h3
                      omega)
                    have HRO := hide (show okN R from by
                      rw [← hRe]; exact ok_mod (by omega) (fun u hu => (List.mem_append.1 hu).elim (HPF.out.2 u) (fun h => by rw [List.mem_singleton.1 h]; have h2 := HFM.out; rw [HTE.out] at h2; exact HPF.out.2 _ h2)))
                    have HRM := hide (show manyN R ≤ 4611686018427387904 from by
                      rw [← hRe]; have h := manys_app kids [Nd.mk kf tf nf pf fk]; have h2 := HKM2.out; have h3 : manysN [Nd.mk kf tf nf pf fk] ≤ manyN (Nd.mk kf tf nf pf fk) := by conv => lhs; unfold manysN manysN
                                                                                                                                                                                     omega
                      have := many_mod (pl := 0) (kids := kids ++ [Nd.mk kf tf nf pf fk]) (M := 4000) (by omega); omega)
                    have HCR := hide (show checkN R = (210, pf) from by
                      have h := law_twice (a := t) (by rw [HCK.out]) HFM.out (by rw [HTE.out]; have := HKM2.out; simp only [Nd.kids]; omega)
                      rw [← hRe]; rw [HTE.out] at h; exact h)
                    clear hRe
                    have e0 : w9.cell? ⟨g10, 0, none⟩ = some (.int .u8 22) := HX9.out.cell 0; have e1 : w9.cell? ⟨g10, 1, none⟩ = some (.string ByteArray.empty) := HX9.out.cell 1; have e2 : w9.cell? ⟨g10, 2, none⟩ = some (.int .i64 0) := HX9.out.cell 2; have e3 : w9.cell? ⟨g10, 3, none⟩ = some (.int .i64 0) := HX9.out.cell 3; have e4 : w9.cell? ⟨g10, 4, none⟩ = some (.slice A10 (kn+1) c10) := HX9.out.cell 4
                    go_upto_region 14 with
                      first
                      | (go_at_call 11
                         refine (check_any R w9 _ false 22 ByteArray.empty 0 0 A10 (kn + 1) c10 (HL.out.keep HK9.out) HRO.out HRM.out HN9.out).mono ?_
                         rintro e w10 ⟨rfl, hk⟩
                         rw [HCR.out]
                         have HK10 := hide (HK9.out.trans' hk (fun _ _ => id) (fun _ _ => id) : Keeps NoB w w10)
                         have HB10 := hide (HB9.out.keep hk id); have HD10 := hide (HD9.out.keep hk id); have HG10 := hide (HG9.out.keep hk id)
                         clear hk)
                      | fail
                    have HF11 := hide (Blk.new w10 33 #[.int .i64 210, .int .i64 pf])
                    have HB11 := hide (HB10.out.alloc (.cells #[.int .i64 210, .int .i64 pf] 33)); have HD11 := hide (HD10.out.alloc (.cells #[.int .i64 210, .int .i64 pf] 33)); have HG11 := hide (HG10.out.alloc (.cells #[.int .i64 210, .int .i64 pf] 33))
                    have HK11 := hide (HK10.out.alloc (.cells #[.int .i64 210, .int .i64 pf] 33))
                    clear e0 e1 e2 e3 e4 HB10 HD10 HG10 HK10 HB9 HD9 HG9 HK9 HX9 HN9 HRO HRM HCR
                    generalize hw11 : w10.alloc (.cells #[.int .i64 210, .int .i64 pf] 33) = w11 at *
                    generalize w10.heap.size = g11 at *
                    clear hw11 w9 R
                    have f0 : w11.cell? ⟨g11, 0, none⟩ = some (.int .i64 210) := HF11.out.cell 0; have f1 : w11.cell? ⟨g11, 1, none⟩ = some (.int .i64 pf) := HF11.out.cell 1
                    have g0 : w11.cell? ⟨g8, 0, none⟩ = some (.int .u8 kf) := HG11.out.cell 0; have g1 : w11.cell? ⟨g8, 1, none⟩ = some (.string tf) := HG11.out.cell 1; have g2 : w11.cell? ⟨g8, 2, none⟩ = some (.int .i64 nf) := HG11.out.cell 2; have g3 : w11.cell? ⟨g8, 3, none⟩ = some (.int .i64 pf) := HG11.out.cell 3; have g4 : w11.cell? ⟨g8, 4, none⟩ = some (.slice af lf cf) := HG11.out.cell 4
                    have h0 : w11.cell? ⟨w.heap.size + 1, 0, none⟩ = some (.int .u8 kd2) := HD11.out.cell 0; have h1 : w11.cell? ⟨w.heap.size + 1, 1, none⟩ = some (.string tx2) := HD11.out.cell 1; have h2 : w11.cell? ⟨w.heap.size + 1, 2, none⟩ = some (.int .i64 nm2) := HD11.out.cell 2; have h3 : w11.cell? ⟨w.heap.size + 1, 3, none⟩ = some (.int .i64 pl2) := HD11.out.cell 3; have h4 : w11.cell? ⟨w.heap.size + 1, 4, none⟩ = some (.slice ka2 kn2 kc2) := HD11.out.cell 4
                    obtain ⟨c, hc⟩ : ∃ c, checkN t2 = c := ⟨_, rfl⟩
                    obtain ⟨er2, pc2⟩ := c
                    have HC2K := hide hc
                    clear hc
                    by_cases h20 : er2 = 0
                    · subst h20
                      go_wp2_with
                        first
                        | (go_at_call 11
                           refine (check_any t2 w11 B2 F2 kd2 tx2 nm2 pl2 ka2 kn2 kc2 (HL.out.keep HK11.out) HO2.out HM2.out (NodeIn.keep HK11.out (fun _ _ => id) _ _ HT2.out)).mono ?_
                           rintro e w12 ⟨rfl, hk⟩
                           rw [HC2K.out]
                           have HK12 := hide (HK11.out.trans' hk (fun _ _ => id) (fun _ _ => id) : Keeps NoB w w12)
                           have HB12 := hide (HB11.out.keep hk id); have HD12 := hide (HD11.out.keep hk id)
                           clear hk)
                        | fail
                      clear f0 f1 g0 g1 g2 g3 g4 h0 h1 h2 h3 h4 HB11 HD11 HG11 HF11 HK11
                      go_loopg [12] kn (fun g s12 wx => ∃ i : Nat, i ≤ kn ∧ g = kn - i ∧ s12 = .int .i64 i ∧ Keeps NoB w12 wx ∧ Hid (∀ z ∈ kids.take i, ApartT z kids2))
                      case atStart => exact ⟨0, Nat.zero_le _, rfl, rfl, Keeps.refl _ _, hide (fun z hz => by simp at hz)⟩
                      case round =>
                        obtain ⟨i, hi, rfl, rfl, hkw, HAP⟩ := hrel
                        obtain ⟨wi, rfl⟩ : ∃ wi, wi = wr := ⟨_, rfl⟩
                        have HKI := hide (HK12.out.trans' hkw (fun _ _ => id) (fun _ _ => id) : Keeps NoB w wi); have HKJ := hide hkw
                        have HBI := hide (HB12.out.keep hkw id); have HDI := hide (HD12.out.keep hkw id)
                        clear hkw
                        have p0 : wi.cell? ⟨w.heap.size, 0, none⟩ = some (.int .u8 kd) := HBI.out.cell 0; have p1 : wi.cell? ⟨w.heap.size, 1, none⟩ = some (.string tx) := HBI.out.cell 1; have p2 : wi.cell? ⟨w.heap.size, 2, none⟩ = some (.int .i64 nm) := HBI.out.cell 2; have p3 : wi.cell? ⟨w.heap.size, 3, none⟩ = some (.int .i64 pl) := HBI.out.cell 3; have p4 : wi.cell? ⟨w.heap.size, 4, none⟩ = some (.slice (some ⟨bo,oo,none⟩) kn kc) := HBI.out.cell 4
                        by_cases hlt : i < kn
                        · have hi1 : (i : Int) < (kn : Int) := by omega
                          have hi0 : (0 : Int) ≤ (i : Int) := by omega
                          go_wp2_with fail
                          go_loopg [13] kn2 (fun g s13 wx => ∃ j : Nat, j ≤ kn2 ∧ g = kn2 - j ∧ s13 = .int .i64 j ∧ Keeps NoB wi wx ∧ Hid (∀ z, kids[i]? = some z → ApartT z (kids2.take j)))
                          case atStart => exact ⟨0, Nat.zero_le _, rfl, rfl, Keeps.refl _ _, hide (fun z _ y hy => by simp at hy)⟩
                          case round => -- slow
                            clear p0 p1 p2 p3 p4
                            obtain ⟨j, hj, rfl, rfl, hkw, HAJ⟩ := hrel
                            have HKR := hide (HKI.out.trans' hkw (fun _ _ => id) (fun _ _ => id) : Keeps NoB w wr); have HKV := hide (HKJ.out.trans' hkw (fun _ _ => id) (fun _ _ => id) : Keeps NoB w12 wr); have HKS := hide hkw
                            have HBR := hide (HBI.out.keep hkw id); have HDR := hide (HDI.out.keep hkw id)
                            clear hkw
                            have q0 : wr.cell? ⟨w.heap.size + 1, 0, none⟩ = some (.int .u8 kd2) := HDR.out.cell 0; have q1 : wr.cell? ⟨w.heap.size + 1, 1, none⟩ = some (.string tx2) := HDR.out.cell 1; have q2 : wr.cell? ⟨w.heap.size + 1, 2, none⟩ = some (.int .i64 nm2) := HDR.out.cell 2; have q3 : wr.cell? ⟨w.heap.size + 1, 3, none⟩ = some (.int .i64 pl2) := HDR.out.cell 3; have q4 : wr.cell? ⟨w.heap.size + 1, 4, none⟩ = some (.slice ka2 kn2 kc2) := HDR.out.cell 4
                            by_cases hlt2 : j < kn2
                            · have hj1 : (j : Int) < (kn2 : Int) := by omega
                              have hj0 : (0 : Int) ≤ (j : Int) := by omega
                              obtain ⟨b8, o8, kx, tx8, nx, px, ax, lx, cx, X, hA8, _, _, hX, _, hXu, _, u1, u2, _, _⟩ := node_at (HR.out.keep HKR.out (fun _ _ => id)) (NodesIn.keep HKR.out (fun _ _ => id) _ _ HC.out) i hlt
                              injection hA8 with hA8
                              injection hA8 with g1 g2
                              subst g1 g2
                              obtain ⟨b7, o7, ky, ty7, ny, py, ay, ly, cy, Y, hA7, _, _, hY, _, hYu, _, v1, v2, _, _⟩ := node_at (HR2.out.keep HKR.out (fun _ _ => id)) (NodesIn.keep HKR.out (fun _ _ => id) _ _ HC2.out) j hlt2
                              subst hA7
                              obtain ⟨_, eX1, eX2, _⟩ := nd_text hXu
                              obtain ⟨_, eY1, eY2, _⟩ := nd_text hYu
                              have HU1 := hide u1; have HU2 := hide u2; have HV1 := hide v1; have HV2 := hide v2
                              have HX := hide hX; have HY := hide hY
                              have HXE := hide (show X.text = tx8 ∧ X.num = nx from ⟨eX1, eX2⟩); have HYE := hide (show Y.text = ty7 ∧ Y.num = ny from ⟨eY1, eY2⟩)
                              clear u1 u2 v1 v2 hX hY hXu hYu eX1 eX2 eY1 eY2
                              by_cases ht : tx8.toList = ty7.toList
                              · by_cases hn : nx = ny
                                · subst hn
                                  have hnb : (nx == nx) = true := by simp
                                  go_wp2_with fail
                                  refine order_begin (fun W => Keeps NoB wr W) (fun _ => true) (by kernel_rfl) 28 rfl ?_
                                  have HS : Keeps NoB wr wr.drew := (Keeps.refl _ _).drew
                                  refine order_pure (i := 0) rfl (by kernel_rfl) (fun _ _ _ h => h) (.inl ⟨rfl, fun _ => by go_simp; rfl⟩) ?_
                                  try simp only [Act.put, List.setIfInBounds_toArray, List.set_cons_succ, List.set_cons_zero]
                                  refine order_held (i := 1) rfl (by kernel_rfl) (fun _ _ _ h => h) (.inl ⟨rfl, fun W hW => by
                                    have q0 : W.cell? ⟨w.heap.size, 4, none⟩ = some (.slice (some ⟨bo, oo, none⟩) kn kc) := hW.cell id (HBR.out.cell 4)
                                    go_simp; rfl⟩) HS ?_
                                  try simp only [Act.put, List.setIfInBounds_toArray, List.set_cons_succ, List.set_cons_zero]
                                  refine order_pure (i := 2) rfl (by kernel_rfl) (fun _ _ _ h => h) (.inl ⟨rfl, fun _ => by go_simp; rfl⟩) ?_
                                  try simp only [Act.put, List.setIfInBounds_toArray, List.set_cons_succ, List.set_cons_zero]
                                  refine order_pure (i := 3) rfl (by kernel_rfl) (fun _ _ _ h => h) (.inl ⟨rfl, fun _ => by go_simp; rfl⟩) ?_
                                  try simp only [Act.put, List.setIfInBounds_toArray, List.set_cons_succ, List.set_cons_zero]
                                  refine order_pure (i := 4) rfl (by kernel_rfl) (fun _ _ _ h => h) (.inl ⟨rfl, fun _ => by go_simp; rfl⟩) ?_
                                  try simp only [Act.put, List.setIfInBounds_toArray, List.set_cons_succ, List.set_cons_zero]
                                  refine order_held (i := 5) rfl (by kernel_rfl) (fun _ _ _ h => h) (.inl ⟨rfl, fun W hW => by
                                    have q0 : W.cell? ⟨bo, oo + i * 5 + 1, none⟩ = some (.string tx8) := hW.cell id HU1.out
                                    go_simp; rfl⟩) HS ?_
                                  try simp only [Act.put, List.setIfInBounds_toArray, List.set_cons_succ, List.set_cons_zero]
                                  refine order_pure (i := 6) rfl (by kernel_rfl) (fun _ _ _ h => h) (.inl ⟨rfl, fun _ => by go_simp; rfl⟩) ?_
                                  try simp only [Act.put, List.setIfInBounds_toArray, List.set_cons_succ, List.set_cons_zero]
                                  refine order_held (i := 7) rfl (by kernel_rfl) (fun _ _ _ h => h) (.inl ⟨rfl, fun W hW => by
                                    have q0 : W.cell? ⟨w.heap.size + 1, 4, none⟩ = some (.slice (some ⟨b7, o7, none⟩) kn2 kc2) := hW.cell id (HDR.out.cell 4)
                                    go_simp; rfl⟩) HS ?_
                                  try simp only [Act.put, List.setIfInBounds_toArray, List.set_cons_succ, List.set_cons_zero]
                                  refine order_pure (i := 8) rfl (by kernel_rfl) (fun _ _ _ h => h) (.inl ⟨rfl, fun _ => by go_simp; rfl⟩) ?_
                                  try simp only [Act.put, List.setIfInBounds_toArray, List.set_cons_succ, List.set_cons_zero]
                                  refine order_pure (i := 9) rfl (by kernel_rfl) (fun _ _ _ h => h) (.inl ⟨rfl, fun _ => by go_simp; rfl⟩) ?_
                                  try simp only [Act.put, List.setIfInBounds_toArray, List.set_cons_succ, List.set_cons_zero]
                                  refine order_pure (i := 10) rfl (by kernel_rfl) (fun _ _ _ h => h) (.inl ⟨rfl, fun _ => by go_simp; rfl⟩) ?_
                                  try simp only [Act.put, List.setIfInBounds_toArray, List.set_cons_succ, List.set_cons_zero]
                                  refine order_held (i := 11) rfl (by kernel_rfl) (fun _ _ _ h => h) (.inl ⟨rfl, fun W hW => by
                                    have q0 : W.cell? ⟨b7, o7 + j * 5 + 1, none⟩ = some (.string ty7) := hW.cell id HV1.out
                                    go_simp; rfl⟩) HS ?_
                                  try simp only [Act.put, List.setIfInBounds_toArray, List.set_cons_succ, List.set_cons_zero]
                                  refine order_pure (i := 12) rfl (by kernel_rfl) (fun _ _ _ h => h) (.inl ⟨rfl, fun _ => by go_simp; rfl⟩) ?_
                                  try simp only [Act.put, List.setIfInBounds_toArray, List.set_cons_succ, List.set_cons_zero]
                                  refine order_pure (i := 13) rfl (by kernel_rfl) (fun _ _ _ h => h) (.inl ⟨rfl, fun _ => by go_simp; rfl⟩) ?_
                                  try simp only [Act.put, List.setIfInBounds_toArray, List.set_cons_succ, List.set_cons_zero]
                                  refine order_pure (i := 14) rfl (by kernel_rfl) (fun _ _ _ h => h) (.inl ⟨rfl, fun _ => by go_simp; rfl⟩) ?_
                                  try simp only [Act.put, List.setIfInBounds_toArray, List.set_cons_succ, List.set_cons_zero]
                                  refine order_held (i := 15) rfl (by kernel_rfl) (fun _ _ _ h => h) (.inl ⟨rfl, fun W hW => by
                                    have q0 : W.cell? ⟨w.heap.size, 4, none⟩ = some (.slice (some ⟨bo, oo, none⟩) kn kc) := hW.cell id (HBR.out.cell 4)
                                    go_simp; rfl⟩) HS ?_
                                  try simp only [Act.put, List.setIfInBounds_toArray, List.set_cons_succ, List.set_cons_zero]
                                  refine order_pure (i := 16) rfl (by kernel_rfl) (fun _ _ _ h => h) (.inl ⟨rfl, fun _ => by go_simp; rfl⟩) ?_
                                  try simp only [Act.put, List.setIfInBounds_toArray, List.set_cons_succ, List.set_cons_zero]
                                  refine order_pure (i := 17) rfl (by kernel_rfl) (fun _ _ _ h => h) (.inl ⟨rfl, fun _ => by go_simp; rfl⟩) ?_
                                  try simp only [Act.put, List.setIfInBounds_toArray, List.set_cons_succ, List.set_cons_zero]
                                  refine order_pure (i := 18) rfl (by kernel_rfl) (fun _ _ _ h => h) (.inl ⟨rfl, fun _ => by go_simp; rfl⟩) ?_
                                  try simp only [Act.put, List.setIfInBounds_toArray, List.set_cons_succ, List.set_cons_zero]
                                  refine order_held (i := 19) rfl (by kernel_rfl) (fun _ _ _ h => h) (.inl ⟨rfl, fun W hW => by
                                    have q0 : W.cell? ⟨bo, oo + i * 5 + 2, none⟩ = some (.int .i64 nx) := hW.cell id HU2.out
                                    go_simp; rfl⟩) HS ?_
                                  try simp only [Act.put, List.setIfInBounds_toArray, List.set_cons_succ, List.set_cons_zero]
                                  refine order_pure (i := 20) rfl (by kernel_rfl) (fun _ _ _ h => h) (.inl ⟨rfl, fun _ => by go_simp; rfl⟩) ?_
                                  try simp only [Act.put, List.setIfInBounds_toArray, List.set_cons_succ, List.set_cons_zero]
                                  refine order_held (i := 21) rfl (by kernel_rfl) (fun _ _ _ h => h) (.inl ⟨rfl, fun W hW => by
                                    have q0 : W.cell? ⟨w.heap.size + 1, 4, none⟩ = some (.slice (some ⟨b7, o7, none⟩) kn2 kc2) := hW.cell id (HDR.out.cell 4)
                                    go_simp; rfl⟩) HS ?_
                                  try simp only [Act.put, List.setIfInBounds_toArray, List.set_cons_succ, List.set_cons_zero]
                                  refine order_pure (i := 22) rfl (by kernel_rfl) (fun _ _ _ h => h) (.inl ⟨rfl, fun _ => by go_simp; rfl⟩) ?_
                                  try simp only [Act.put, List.setIfInBounds_toArray, List.set_cons_succ, List.set_cons_zero]
                                  refine order_pure (i := 23) rfl (by kernel_rfl) (fun _ _ _ h => h) (.inl ⟨rfl, fun _ => by go_simp; rfl⟩) ?_
                                  try simp only [Act.put, List.setIfInBounds_toArray, List.set_cons_succ, List.set_cons_zero]
                                  refine order_pure (i := 24) rfl (by kernel_rfl) (fun _ _ _ h => h) (.inl ⟨rfl, fun _ => by go_simp; rfl⟩) ?_
                                  try simp only [Act.put, List.setIfInBounds_toArray, List.set_cons_succ, List.set_cons_zero]
                                  refine order_held (i := 25) rfl (by kernel_rfl) (fun _ _ _ h => h) (.inl ⟨rfl, fun W hW => by
                                    have q0 : W.cell? ⟨b7, o7 + j * 5 + 2, none⟩ = some (.int .i64 nx) := hW.cell id HV2.out
                                    go_simp; rfl⟩) HS ?_
                                  try simp only [Act.put, List.setIfInBounds_toArray, List.set_cons_succ, List.set_cons_zero]
                                  refine order_pure (i := 26) rfl (by kernel_rfl) (fun _ _ _ h => h) (.inl ⟨rfl, fun _ => by go_simp; rfl⟩) ?_
                                  try simp only [Act.put, List.setIfInBounds_toArray, List.set_cons_succ, List.set_cons_zero]
                                  refine order_pure (i := 27) rfl (by kernel_rfl) (fun _ _ _ h => h) (.inl ⟨rfl, fun _ => by go_simp; rfl⟩) ?_
                                  try simp only [Act.put, List.setIfInBounds_toArray, List.set_cons_succ, List.set_cons_zero]
                                  refine order_done (by kernel_rfl) ?_
                                  go_wp2_with fail
                                  go_ret
                                  exact ⟨rfl, HKR.out.drew⟩
                                · have hnb : (nx == ny) = false := by simpa using hn
                                  have HNE := hide (show ¬ (X.text = Y.text ∧ X.num = Y.num) from fun e => hn (by rw [← HXE.out.2, ← HYE.out.2]; exact e.2))
                                  go_wp2_with fail
                                  refine order_begin (fun W => Keeps NoB wr W) (fun _ => true) (by kernel_rfl) 28 rfl ?_
                                  have HS : Keeps NoB wr wr.drew := (Keeps.refl _ _).drew
                                  refine order_pure (i := 0) rfl (by kernel_rfl) (fun _ _ _ h => h) (.inl ⟨rfl, fun _ => by go_simp; rfl⟩) ?_
                                  try simp only [Act.put, List.setIfInBounds_toArray, List.set_cons_succ, List.set_cons_zero]
                                  refine order_held (i := 1) rfl (by kernel_rfl) (fun _ _ _ h => h) (.inl ⟨rfl, fun W hW => by
                                    have q0 : W.cell? ⟨w.heap.size, 4, none⟩ = some (.slice (some ⟨bo, oo, none⟩) kn kc) := hW.cell id (HBR.out.cell 4)
                                    go_simp; rfl⟩) HS ?_
                                  try simp only [Act.put, List.setIfInBounds_toArray, List.set_cons_succ, List.set_cons_zero]
                                  refine order_pure (i := 2) rfl (by kernel_rfl) (fun _ _ _ h => h) (.inl ⟨rfl, fun _ => by go_simp; rfl⟩) ?_
                                  try simp only [Act.put, List.setIfInBounds_toArray, List.set_cons_succ, List.set_cons_zero]
                                  refine order_pure (i := 3) rfl (by kernel_rfl) (fun _ _ _ h => h) (.inl ⟨rfl, fun _ => by go_simp; rfl⟩) ?_
                                  try simp only [Act.put, List.setIfInBounds_toArray, List.set_cons_succ, List.set_cons_zero]
                                  refine order_pure (i := 4) rfl (by kernel_rfl) (fun _ _ _ h => h) (.inl ⟨rfl, fun _ => by go_simp; rfl⟩) ?_
                                  try simp only [Act.put, List.setIfInBounds_toArray, List.set_cons_succ, List.set_cons_zero]
                                  refine order_held (i := 5) rfl (by kernel_rfl) (fun _ _ _ h => h) (.inl ⟨rfl, fun W hW => by
                                    have q0 : W.cell? ⟨bo, oo + i * 5 + 1, none⟩ = some (.string tx8) := hW.cell id HU1.out
                                    go_simp; rfl⟩) HS ?_
                                  try simp only [Act.put, List.setIfInBounds_toArray, List.set_cons_succ, List.set_cons_zero]
                                  refine order_pure (i := 6) rfl (by kernel_rfl) (fun _ _ _ h => h) (.inl ⟨rfl, fun _ => by go_simp; rfl⟩) ?_
                                  try simp only [Act.put, List.setIfInBounds_toArray, List.set_cons_succ, List.set_cons_zero]
                                  refine order_held (i := 7) rfl (by kernel_rfl) (fun _ _ _ h => h) (.inl ⟨rfl, fun W hW => by
                                    have q0 : W.cell? ⟨w.heap.size + 1, 4, none⟩ = some (.slice (some ⟨b7, o7, none⟩) kn2 kc2) := hW.cell id (HDR.out.cell 4)
                                    go_simp; rfl⟩) HS ?_
                                  try simp only [Act.put, List.setIfInBounds_toArray, List.set_cons_succ, List.set_cons_zero]
                                  refine order_pure (i := 8) rfl (by kernel_rfl) (fun _ _ _ h => h) (.inl ⟨rfl, fun _ => by go_simp; rfl⟩) ?_
                                  try simp only [Act.put, List.setIfInBounds_toArray, List.set_cons_succ, List.set_cons_zero]
                                  refine order_pure (i := 9) rfl (by kernel_rfl) (fun _ _ _ h => h) (.inl ⟨rfl, fun _ => by go_simp; rfl⟩) ?_
                                  try simp only [Act.put, List.setIfInBounds_toArray, List.set_cons_succ, List.set_cons_zero]
                                  refine order_pure (i := 10) rfl (by kernel_rfl) (fun _ _ _ h => h) (.inl ⟨rfl, fun _ => by go_simp; rfl⟩) ?_
                                  try simp only [Act.put, List.setIfInBounds_toArray, List.set_cons_succ, List.set_cons_zero]
                                  refine order_held (i := 11) rfl (by kernel_rfl) (fun _ _ _ h => h) (.inl ⟨rfl, fun W hW => by
                                    have q0 : W.cell? ⟨b7, o7 + j * 5 + 1, none⟩ = some (.string ty7) := hW.cell id HV1.out
                                    go_simp; rfl⟩) HS ?_
                                  try simp only [Act.put, List.setIfInBounds_toArray, List.set_cons_succ, List.set_cons_zero]
                                  refine order_pure (i := 12) rfl (by kernel_rfl) (fun _ _ _ h => h) (.inl ⟨rfl, fun _ => by go_simp; rfl⟩) ?_
                                  try simp only [Act.put, List.setIfInBounds_toArray, List.set_cons_succ, List.set_cons_zero]
                                  refine order_pure (i := 13) rfl (by kernel_rfl) (fun _ _ _ h => h) (.inl ⟨rfl, fun _ => by go_simp; rfl⟩) ?_
                                  try simp only [Act.put, List.setIfInBounds_toArray, List.set_cons_succ, List.set_cons_zero]
                                  refine order_pure (i := 14) rfl (by kernel_rfl) (fun _ _ _ h => h) (.inl ⟨rfl, fun _ => by go_simp; rfl⟩) ?_
                                  try simp only [Act.put, List.setIfInBounds_toArray, List.set_cons_succ, List.set_cons_zero]
                                  refine order_held (i := 15) rfl (by kernel_rfl) (fun _ _ _ h => h) (.inl ⟨rfl, fun W hW => by
                                    have q0 : W.cell? ⟨w.heap.size, 4, none⟩ = some (.slice (some ⟨bo, oo, none⟩) kn kc) := hW.cell id (HBR.out.cell 4)
                                    go_simp; rfl⟩) HS ?_
                                  try simp only [Act.put, List.setIfInBounds_toArray, List.set_cons_succ, List.set_cons_zero]
                                  refine order_pure (i := 16) rfl (by kernel_rfl) (fun _ _ _ h => h) (.inl ⟨rfl, fun _ => by go_simp; rfl⟩) ?_
                                  try simp only [Act.put, List.setIfInBounds_toArray, List.set_cons_succ, List.set_cons_zero]
                                  refine order_pure (i := 17) rfl (by kernel_rfl) (fun _ _ _ h => h) (.inl ⟨rfl, fun _ => by go_simp; rfl⟩) ?_
                                  try simp only [Act.put, List.setIfInBounds_toArray, List.set_cons_succ, List.set_cons_zero]
                                  refine order_pure (i := 18) rfl (by kernel_rfl) (fun _ _ _ h => h) (.inl ⟨rfl, fun _ => by go_simp; rfl⟩) ?_
                                  try simp only [Act.put, List.setIfInBounds_toArray, List.set_cons_succ, List.set_cons_zero]
                                  refine order_held (i := 19) rfl (by kernel_rfl) (fun _ _ _ h => h) (.inl ⟨rfl, fun W hW => by
                                    have q0 : W.cell? ⟨bo, oo + i * 5 + 2, none⟩ = some (.int .i64 nx) := hW.cell id HU2.out
                                    go_simp; rfl⟩) HS ?_
                                  try simp only [Act.put, List.setIfInBounds_toArray, List.set_cons_succ, List.set_cons_zero]
                                  refine order_pure (i := 20) rfl (by kernel_rfl) (fun _ _ _ h => h) (.inl ⟨rfl, fun _ => by go_simp; rfl⟩) ?_
                                  try simp only [Act.put, List.setIfInBounds_toArray, List.set_cons_succ, List.set_cons_zero]
                                  refine order_held (i := 21) rfl (by kernel_rfl) (fun _ _ _ h => h) (.inl ⟨rfl, fun W hW => by
                                    have q0 : W.cell? ⟨w.heap.size + 1, 4, none⟩ = some (.slice (some ⟨b7, o7, none⟩) kn2 kc2) := hW.cell id (HDR.out.cell 4)
                                    go_simp; rfl⟩) HS ?_
                                  try simp only [Act.put, List.setIfInBounds_toArray, List.set_cons_succ, List.set_cons_zero]
                                  refine order_pure (i := 22) rfl (by kernel_rfl) (fun _ _ _ h => h) (.inl ⟨rfl, fun _ => by go_simp; rfl⟩) ?_
                                  try simp only [Act.put, List.setIfInBounds_toArray, List.set_cons_succ, List.set_cons_zero]
                                  refine order_pure (i := 23) rfl (by kernel_rfl) (fun _ _ _ h => h) (.inl ⟨rfl, fun _ => by go_simp; rfl⟩) ?_
                                  try simp only [Act.put, List.setIfInBounds_toArray, List.set_cons_succ, List.set_cons_zero]
                                  refine order_pure (i := 24) rfl (by kernel_rfl) (fun _ _ _ h => h) (.inl ⟨rfl, fun _ => by go_simp; rfl⟩) ?_
                                  try simp only [Act.put, List.setIfInBounds_toArray, List.set_cons_succ, List.set_cons_zero]
                                  refine order_held (i := 25) rfl (by kernel_rfl) (fun _ _ _ h => h) (.inl ⟨rfl, fun W hW => by
                                    have q0 : W.cell? ⟨b7, o7 + j * 5 + 2, none⟩ = some (.int .i64 ny) := hW.cell id HV2.out
                                    go_simp; rfl⟩) HS ?_
                                  try simp only [Act.put, List.setIfInBounds_toArray, List.set_cons_succ, List.set_cons_zero]
                                  refine order_pure (i := 26) rfl (by kernel_rfl) (fun _ _ _ h => h) (.inl ⟨rfl, fun _ => by go_simp; rfl⟩) ?_
                                  try simp only [Act.put, List.setIfInBounds_toArray, List.set_cons_succ, List.set_cons_zero]
                                  refine order_pure (i := 27) rfl (by kernel_rfl) (fun _ _ _ h => h) (.inl ⟨rfl, fun _ => by go_simp; rfl⟩) ?_
                                  try simp only [Act.put, List.setIfInBounds_toArray, List.set_cons_succ, List.set_cons_zero]
                                  refine order_done (by kernel_rfl) ?_
                                  have HAN := hide (show ∀ z, kids[i]? = some z → ApartT z (kids2.take (j + 1)) from fun z hz => by
                                    rw [HX.out] at hz; injection hz with hz; subst hz
                                    exact ApartT.step (HAJ.out _ HX.out) HY.out HNE.out)
                                  go_wp2_with fail
                                  go_roundg (kn2 - (j + 1))
                                  case measure => omega
                                  case rel => exact ⟨j + 1, by omega, rfl, by go_num, HKS.out.drew, HAN⟩
                              · have HNE := hide (show ¬ (X.text = Y.text ∧ X.num = Y.num) from fun e => ht (by rw [← HXE.out.1, ← HYE.out.1, e.1]))
                                have htb : (tx8.toList == ty7.toList) = false := by simpa using ht
                                go_wp2_with fail
                                refine order_begin (fun W => Keeps NoB wr W) (fun _ => true) (by kernel_rfl) 28 rfl ?_
                                have HS : Keeps NoB wr wr.drew := (Keeps.refl _ _).drew
                                refine order_pure (i := 0) rfl (by kernel_rfl) (fun _ _ _ h => h) (.inl ⟨rfl, fun _ => by go_simp; rfl⟩) ?_
                                try simp only [Act.put, List.setIfInBounds_toArray, List.set_cons_succ, List.set_cons_zero]
                                refine order_held (i := 1) rfl (by kernel_rfl) (fun _ _ _ h => h) (.inl ⟨rfl, fun W hW => by
                                  have q0 : W.cell? ⟨w.heap.size, 4, none⟩ = some (.slice (some ⟨bo, oo, none⟩) kn kc) := hW.cell id (HBR.out.cell 4)
                                  go_simp; rfl⟩) HS ?_
                                try simp only [Act.put, List.setIfInBounds_toArray, List.set_cons_succ, List.set_cons_zero]
                                refine order_pure (i := 2) rfl (by kernel_rfl) (fun _ _ _ h => h) (.inl ⟨rfl, fun _ => by go_simp; rfl⟩) ?_
                                try simp only [Act.put, List.setIfInBounds_toArray, List.set_cons_succ, List.set_cons_zero]
                                refine order_pure (i := 3) rfl (by kernel_rfl) (fun _ _ _ h => h) (.inl ⟨rfl, fun _ => by go_simp; rfl⟩) ?_
                                try simp only [Act.put, List.setIfInBounds_toArray, List.set_cons_succ, List.set_cons_zero]
                                refine order_pure (i := 4) rfl (by kernel_rfl) (fun _ _ _ h => h) (.inl ⟨rfl, fun _ => by go_simp; rfl⟩) ?_
                                try simp only [Act.put, List.setIfInBounds_toArray, List.set_cons_succ, List.set_cons_zero]
                                refine order_held (i := 5) rfl (by kernel_rfl) (fun _ _ _ h => h) (.inl ⟨rfl, fun W hW => by
                                  have q0 : W.cell? ⟨bo, oo + i * 5 + 1, none⟩ = some (.string tx8) := hW.cell id HU1.out
                                  go_simp; rfl⟩) HS ?_
                                try simp only [Act.put, List.setIfInBounds_toArray, List.set_cons_succ, List.set_cons_zero]
                                refine order_pure (i := 6) rfl (by kernel_rfl) (fun _ _ _ h => h) (.inl ⟨rfl, fun _ => by go_simp; rfl⟩) ?_
                                try simp only [Act.put, List.setIfInBounds_toArray, List.set_cons_succ, List.set_cons_zero]
                                refine order_held (i := 7) rfl (by kernel_rfl) (fun _ _ _ h => h) (.inl ⟨rfl, fun W hW => by
                                  have q0 : W.cell? ⟨w.heap.size + 1, 4, none⟩ = some (.slice (some ⟨b7, o7, none⟩) kn2 kc2) := hW.cell id (HDR.out.cell 4)
                                  go_simp; rfl⟩) HS ?_
                                try simp only [Act.put, List.setIfInBounds_toArray, List.set_cons_succ, List.set_cons_zero]
                                refine order_pure (i := 8) rfl (by kernel_rfl) (fun _ _ _ h => h) (.inl ⟨rfl, fun _ => by go_simp; rfl⟩) ?_
                                try simp only [Act.put, List.setIfInBounds_toArray, List.set_cons_succ, List.set_cons_zero]
                                refine order_pure (i := 9) rfl (by kernel_rfl) (fun _ _ _ h => h) (.inl ⟨rfl, fun _ => by go_simp; rfl⟩) ?_
                                try simp only [Act.put, List.setIfInBounds_toArray, List.set_cons_succ, List.set_cons_zero]
                                refine order_pure (i := 10) rfl (by kernel_rfl) (fun _ _ _ h => h) (.inl ⟨rfl, fun _ => by go_simp; rfl⟩) ?_
                                try simp only [Act.put, List.setIfInBounds_toArray, List.set_cons_succ, List.set_cons_zero]
                                refine order_held (i := 11) rfl (by kernel_rfl) (fun _ _ _ h => h) (.inl ⟨rfl, fun W hW => by
                                  have q0 : W.cell? ⟨b7, o7 + j * 5 + 1, none⟩ = some (.string ty7) := hW.cell id HV1.out
                                  go_simp; rfl⟩) HS ?_
                                try simp only [Act.put, List.setIfInBounds_toArray, List.set_cons_succ, List.set_cons_zero]
                                refine order_pure (i := 12) rfl (by kernel_rfl) (fun _ _ _ h => h) (.inl ⟨rfl, fun _ => by go_simp; rfl⟩) ?_
                                try simp only [Act.put, List.setIfInBounds_toArray, List.set_cons_succ, List.set_cons_zero]
                                refine order_pure (i := 13) rfl (by kernel_rfl) (fun _ _ _ h => h) (.inl ⟨rfl, fun _ => by go_simp; rfl⟩) ?_
                                try simp only [Act.put, List.setIfInBounds_toArray, List.set_cons_succ, List.set_cons_zero]
                                refine order_skip (i := 14) rfl (by kernel_rfl) (fun _ _ _ h => h) (by kernel_rfl) ?_
                                try simp only [Act.put, List.setIfInBounds_toArray, List.set_cons_succ, List.set_cons_zero]
                                refine order_skip (i := 15) rfl (by kernel_rfl) (fun _ _ _ h => h) (by kernel_rfl) ?_
                                try simp only [Act.put, List.setIfInBounds_toArray, List.set_cons_succ, List.set_cons_zero]
                                refine order_skip (i := 16) rfl (by kernel_rfl) (fun _ _ _ h => h) (by kernel_rfl) ?_
                                try simp only [Act.put, List.setIfInBounds_toArray, List.set_cons_succ, List.set_cons_zero]
                                refine order_skip (i := 17) rfl (by kernel_rfl) (fun _ _ _ h => h) (by kernel_rfl) ?_
                                try simp only [Act.put, List.setIfInBounds_toArray, List.set_cons_succ, List.set_cons_zero]
                                refine order_skip (i := 18) rfl (by kernel_rfl) (fun _ _ _ h => h) (by kernel_rfl) ?_
                                try simp only [Act.put, List.setIfInBounds_toArray, List.set_cons_succ, List.set_cons_zero]
                                refine order_skip (i := 19) rfl (by kernel_rfl) (fun _ _ _ h => h) (by kernel_rfl) ?_
                                try simp only [Act.put, List.setIfInBounds_toArray, List.set_cons_succ, List.set_cons_zero]
                                refine order_skip (i := 20) rfl (by kernel_rfl) (fun _ _ _ h => h) (by kernel_rfl) ?_
                                try simp only [Act.put, List.setIfInBounds_toArray, List.set_cons_succ, List.set_cons_zero]
                                refine order_skip (i := 21) rfl (by kernel_rfl) (fun _ _ _ h => h) (by kernel_rfl) ?_
                                try simp only [Act.put, List.setIfInBounds_toArray, List.set_cons_succ, List.set_cons_zero]
                                refine order_skip (i := 22) rfl (by kernel_rfl) (fun _ _ _ h => h) (by kernel_rfl) ?_
                                try simp only [Act.put, List.setIfInBounds_toArray, List.set_cons_succ, List.set_cons_zero]
                                refine order_skip (i := 23) rfl (by kernel_rfl) (fun _ _ _ h => h) (by kernel_rfl) ?_
                                try simp only [Act.put, List.setIfInBounds_toArray, List.set_cons_succ, List.set_cons_zero]
                                refine order_skip (i := 24) rfl (by kernel_rfl) (fun _ _ _ h => h) (by kernel_rfl) ?_
                                try simp only [Act.put, List.setIfInBounds_toArray, List.set_cons_succ, List.set_cons_zero]
                                refine order_skip (i := 25) rfl (by kernel_rfl) (fun _ _ _ h => h) (by kernel_rfl) ?_
                                try simp only [Act.put, List.setIfInBounds_toArray, List.set_cons_succ, List.set_cons_zero]
                                refine order_skip (i := 26) rfl (by kernel_rfl) (fun _ _ _ h => h) (by kernel_rfl) ?_
                                try simp only [Act.put, List.setIfInBounds_toArray, List.set_cons_succ, List.set_cons_zero]
                                refine order_pure (i := 27) rfl (by kernel_rfl) (fun _ _ _ h => h) (.inl ⟨rfl, fun _ => by go_simp; rfl⟩) ?_
                                try simp only [Act.put, List.setIfInBounds_toArray, List.set_cons_succ, List.set_cons_zero]
                                refine order_done (by kernel_rfl) ?_
                                have HAN := hide (show ∀ z, kids[i]? = some z → ApartT z (kids2.take (j + 1)) from fun z hz => by
                                  rw [HX.out] at hz; injection hz with hz; subst hz
                                  exact ApartT.step (HAJ.out _ HX.out) HY.out HNE.out)
                                go_wp2_with fail
                                go_roundg (kn2 - (j + 1))
                                case measure => omega
                                case rel => exact ⟨j + 1, by omega, rfl, by go_num, HKS.out.drew, HAN⟩
                            · obtain rfl : j = kn2 := by omega
                              have hkz : ¬ (j : Int) < (j : Int) := by omega
                              obtain ⟨X, hX⟩ : ∃ X, kids[i]? = some X := ⟨_, List.getElem?_eq_getElem (by have := HKL.out; omega)⟩
                              have HAN := hide (show ∀ z ∈ kids.take (i + 1), ApartT z kids2 from apart_step HAP.out hX (by
                                have h := HAJ.out X hX
                                rwa [List.take_of_length_le (by have := HKL2.out; omega)] at h))
                              clear hX
                              go_wp2_with fail
                              go_roundg (kn - (i + 1))
                              case measure => omega
                              case rel => exact ⟨i + 1, by omega, rfl, by go_num, HKV.out, HAN⟩
                        · obtain rfl : kn = i := by omega
                          have hkz : ¬ (kn : Int) < (kn : Int) := by omega
                          have HALL := hide (show ∀ x ∈ kids, ApartT x kids2 from by
                            have h := HAP.out
                            rwa [List.take_of_length_le (by have := HKL.out; omega)] at h)
                          have hkn26 : kn2 ≤ 3000 := by have h1 := hb2; have := HKL2.out; have := kids_len t2; rw [HTE2.out] at *; simp only [Nd.kids] at *; omega
                          go_upto_region 26 with fail
                          clear p0 p1 p2 p3 p4
                          go_cut [14] (fun s14 wx => ∃ (g : Nat) (A : Option Addr) (c : Nat), s14 = .pointer (some ⟨g, 0, none⟩) ∧ Keeps NoB wi wx ∧ Blk wx g 29 #[.int .u8 22, .string ByteArray.empty, .int .i64 0, .int .i64 0, .slice A (kn + kn2) c] ∧ NodeIn wx (fun _ => True) false [.int .u8 22, .string ByteArray.empty, .int .i64 0, .int .i64 0, .slice A (kn + kn2) c] (.mk 22 ⟨#[]⟩ 0 0 (kids ++ kids2)))
                          case first =>
                            go_wp2_with fail
                            refine order_begin (fun W => Keeps NoB wi W) (fun _ => true) (by kernel_rfl) 10 rfl ?_
                            have HS : Keeps NoB wi wi.drew := (Keeps.refl _ _).drew
                            refine order_pure (i := 1) rfl (by kernel_rfl) (fun _ _ _ h => h) (.inl ⟨rfl, fun _ => by go_simp; rfl⟩) ?_
                            try simp only [Act.put, List.setIfInBounds_toArray, List.set_cons_succ, List.set_cons_zero]
                            refine order_held (i := 2) rfl (by kernel_rfl) (fun _ _ _ h => h) (.inl ⟨rfl, fun W hW => by
                              have q0 : W.cell? ⟨w.heap.size, 4, none⟩ = some (.slice (some ⟨bo, oo, none⟩) kn kc) := hW.cell id (HBI.out.cell 4)
                              go_simp; rfl⟩) HS ?_
                            try simp only [Act.put, List.setIfInBounds_toArray, List.set_cons_succ, List.set_cons_zero]
                            refine order_pure (i := 4) rfl (by kernel_rfl) (fun _ _ _ h => h) (.inl ⟨rfl, fun _ => by go_simp; rfl⟩) ?_
                            try simp only [Act.put, List.setIfInBounds_toArray, List.set_cons_succ, List.set_cons_zero]
                            refine order_held (i := 5) rfl (by kernel_rfl) (fun _ _ _ h => h) (.inl ⟨rfl, fun W hW => by
                              have q0 : W.cell? ⟨w.heap.size + 1, 4, none⟩ = some (.slice ka2 kn2 kc2) := hW.cell id (HDI.out.cell 4)
                              go_simp; rfl⟩) HS ?_
                            try simp only [Act.put, List.setIfInBounds_toArray, List.set_cons_succ, List.set_cons_zero]
                            have HRA := hide (show Reads wi B F 5 (some ⟨bo, oo, none⟩) kn css.flatten from HR.out.keep HKI.out (fun _ _ => id))
                            have HCA := hide (show NodesIn wi B F css kids from NodesIn.keep HKI.out (fun _ _ => id) _ _ HC.out)
                            have HRB := hide (show Reads wi B2 F2 5 ka2 kn2 css2.flatten from HR2.out.keep HKI.out (fun _ _ => id))
                            have HCB := hide (show NodesIn wi B2 F2 css2 kids2 from NodesIn.keep HKI.out (fun _ _ => id) _ _ HC2.out)
                            have HSD := hide HS
                            clear HS
                            refine order_rest (fun d a wx => ∃ x1 x2 x3 x4 x6, a = { tmps := #[.agg #[.int .u8 kd, .string tx, .int .i64 nm, .int .i64 pl, .slice (some ⟨bo, oo, none⟩) kn kc], .agg #[.int .u8 kd2, .string tx2, .int .i64 nm2, .int .i64 pl2, .slice ka2 kn2 kc2], .int .i64 x, .pointer (some ⟨w.heap.size, 0, none⟩), .pointer (some ⟨w.heap.size + 1, 0, none⟩), undef, u6, .int .i64 ↑k, .pointer (some ⟨g8, 0, none⟩), .pointer (some ⟨g9, 0, none⟩), .pointer (some ⟨g10, 0, none⟩), .pointer (some ⟨g11, 0, none⟩), .int .i64 ↑kn, u13, x4, u15, u16, u17, u18, u19, u20, u21, u22, u23, u24, u25, u26, u27, u28, u29, u30, u31, u32, u33, u34, u35, u36, u37, u38, u39, u40, u41, u42, u43, u44, u45, u46, u47, u48, u49, u50, u51, u52, u53, u54, u55, u56, u57, u58, u59, u60, u61, u62, u63, u64, u65, u66, u67, u68, u69, u70, u71, u72, u73, u74, u75, u76, u77, u78, u79, u80, u81, u82, u83, u84, u85, u86, u87, u88, u89, u90, u91, u92, u93, u94, .agg #[.int .u8 22, .string ByteArray.empty, .int .i64 0, .int .i64 0, .slice A10 (kn + 1) c10], .agg #[.int .i64 210, .int .i64 pf], .pointer (some ⟨g11, 0, none⟩), .int .i64 210, .bool false, .bool false, .pointer (some ⟨g11, 1, none⟩), .int .i64 pf, .pointer (some ⟨g8, 3, none⟩), .int .i64 pf, .bool false, .bool false, .agg #[.int .u8 kd2, .string tx2, .int .i64 nm2, .int .i64 pl2, .slice ka2 kn2 kc2], .agg #[.int .i64 0, .int .i64 pc2], .int .i64 0, .bool false, .int .i64 ↑kn, .pointer (some ⟨w.heap.size, 4, none⟩), .slice (some ⟨bo, oo, none⟩) kn kc, .int .i64 ↑kn, .bool false, u116, u117, u118, u119, u120, u121, u122, u123, u124, u125, u126, u127, u128, u129, u130, u131, u132, u133, u134, u135, u136, u137, u138, u139, u140, u141, u142, u143, u144, u145, u146, u147, u148, u149, u150, u151, u152, x1, .pointer (some ⟨w.heap.size, 4, none⟩), .slice (some ⟨bo, oo, none⟩) kn kc, x2, .pointer (some ⟨w.heap.size + 1, 4, none⟩), .slice ka2 kn2 kc2, x3, x6, u161, u162, u163, u164], defers := [] } ∧ RowsI wi.drew wx kn css.flatten kn2 css2.flatten #[] 0 (d 0) (d 3) (d 6) (d 8) false (d 7) (d 9) x1 x2 x3 x4 undef x6) (by kernel_rfl) (fun _ _ _ ⟨_, _, _, _, _, _, h⟩ => (HSD.out.trans' h.keep (fun _ _ => id) (fun _ _ => id) : Keeps NoB wi _)) ?_ ?_ ?_
                            · exact ⟨u153, u156, u159, undef, u160, rfl, RowsI.begin _⟩
                            · intro d a wx i oi hoi hnd hI hdi hdep K hK
                              obtain ⟨x1, x2, x3, x4, x6, rfl, hR⟩ := hI
                              have hi : i < 10 := by have h := (Array.getElem?_eq_some_iff.1 hoi).1; simpa using h
                              have hcases : i = 0 ∨ i = 3 ∨ i = 6 ∨ i = 7 ∨ i = 8 ∨ i = 9 := by simp at hnd; omega
                              have HDI := hide hdi; have HRI := hide hR
                              have HKX := hide (HSD.out.trans' hR.keep (fun _ _ => id) (fun _ _ => id) : Keeps NoB wi wx)
                              clear hnd hi hdi hR
                              rcases hcases with rfl | rfl | rfl | rfl | rfl | rfl
                              · simp at hoi
                                subst hoi
                                go_simp
                                exact hK _ _ ⟨_, x2, x3, x4, x6, rfl, HRI.out.s1 HDI.out⟩
                              · simp at hoi
                                subst hoi
                                simp [Region.binds] at hdep
                                simp only [Region.wanted, reduceIte]
                                refine wp_append_new (W0 := wi.drew) _ _ rfl 0 [] x1 rfl (HRI.out.h1 hdep.1 HDI.out) HRI.out.keep.size B F _ kn _ css kids rfl (HRA.out.keep HKX.out (fun _ _ => id)) (NodesIn.keep HKX.out (fun _ _ => id) _ _ HCA.out) (by omega) (by omega) (fun v' w' h1 h2 h3 => hK _ _ ⟨x1, v', x3, x4, x6, rfl, HRI.out.s2 hdep.1 HDI.out h1 h2 h3⟩) HRI.out.keep
                              · simp at hoi
                                subst hoi
                                simp [Region.binds] at hdep
                                simp only [Region.wanted, reduceIte]
                                refine wp_append_new (W0 := wi.drew) _ _ rfl kn css.flatten x2 rfl (HRI.out.h2 hdep.1 HDI.out) HRI.out.keep.size B2 F2 _ kn2 _ css2 kids2 rfl (HRB.out.keep HKX.out (fun _ _ => id)) (NodesIn.keep HKX.out (fun _ _ => id) _ _ HCB.out) (by omega) (by omega) (fun v' w' h1 h2 h3 => hK _ _ ⟨x1, x2, v', x4, x6, rfl, HRI.out.s3 hdep.1 HDI.out h1 h2 h3⟩) HRI.out.keep
                              · simp at hoi
                                subst hoi
                                simp [Region.binds] at hdep
                                have hs6 := HRI.out.s6 hdep
                                have hn3 := HRI.out.h3 hdep
                                obtain ⟨A3, c3, rfl, _⟩ := hn3
                                have HS6 := hide hs6
                                clear hs6
                                go_simp
                                exact hK _ _ ⟨x1, x2, _, x4, _, rfl, HS6.out⟩
                              · simp at hoi
                                subst hoi
                                go_simp
                                exact hK _ _ ⟨x1, x2, x3, _, x6, rfl, HRI.out.s4 HDI.out⟩
                              · simp at hoi
                                subst hoi
                                simp [Region.binds] at hdep
                                have hd6 : d 6 = true := hdep.2.2.1
                                have hd7 : d 7 = true := hdep.2.1
                                have hd8 : d 8 = true := hdep.1
                                clear hdep
                                have h3 := HRI.out.h3 hd6
                                have h4 := HRI.out.h4 hd8
                                have h6 := (HRI.out.h6 hd7).2
                                obtain ⟨A3, c3, rfl, _⟩ := h3
                                obtain ⟨g, c5, rfl, hg, hb5, hc5, _, hoff⟩ := h4
                                obtain rfl := hc5 HDI.out
                                subst h6
                                have z0 := hb5.free 0; have z1 := hb5.free 1; have z2 := hb5.free 2; have z3 := hb5.free 3; have z4 := hb5.free 4
                                have v0 : wx.cell? ⟨g, 0, none⟩ = some (.int .u8 0) := hb5.cell 0; have v1 : wx.cell? ⟨g, 1, none⟩ = some (.string ByteArray.empty) := hb5.cell 1; have v2 : wx.cell? ⟨g, 2, none⟩ = some (.int .i64 0) := hb5.cell 2; have v3 : wx.cell? ⟨g, 3, none⟩ = some (.int .i64 0) := hb5.cell 3; have v4 : wx.cell? ⟨g, 4, none⟩ = some (.slice none 0 0) := hb5.cell 4
                                have HS7 := hide (HRI.out.s7 hd6 rfl hg (hoff.2.2 hd6) hd8 (keeps_put5 wx g _ _ _ _ _) (hb5.put5 _ _ _ _ _))
                                clear hb5 hc5 hoff hd6 hd7 hd8
                                go_simp
                                exact hK _ _ ⟨x1, x2, _, _, _, rfl, HS7.out⟩
                            · intro d a wx hI hall
                              obtain ⟨x1, x2, x3, x4, x6, rfl, hR⟩ := hI
                              have e0 := hall 0 (by decide); have e3 := hall 3 (by decide); have e6 := hall 6 (by decide); have e7 := hall 7 (by decide); have e8 := hall 8 (by decide); have e9 := hall 9 (by decide)
                              rw [e0, e3, e6, e7, e8, e9] at hR
                              clear hall e0 e3 e6 e7 e8 e9
                              have hnode := hR.node (B := fun k => B k ∨ B2 k) (F := false) (css := css ++ css2) (ts := kids ++ kids2) (NodesIn.keep HSD.out (fun _ _ => id) _ _ (NodesIn.append (NodesIn.weak _ _ (NodesIn.more (fun _ _ h => Or.inl h) _ _ HCA.out)) (NodesIn.weak _ _ (NodesIn.more (fun _ _ h => Or.inr h) _ _ HCB.out)))) (by rw [List.flatten_append]) (by omega)
                              have HKF := hide (HSD.out.trans' hR.keep (fun _ _ => id) (fun _ _ => id) : Keeps NoB wi wx)
                              clear hR
                              obtain ⟨g, A, c, rfl, hg, hb, _, hn⟩ := hnode
                              go_wp2_with fail
                              go_meet
                              exact ⟨g, A, c, rfl, HKF.out, hb, hn⟩
                          case rest =>
                            obtain ⟨g14, A14, c14, rfl, hkw, hb14, hn14⟩ := hcut
                            obtain ⟨wj, rfl⟩ : ∃ wj, wj = wc := ⟨_, rfl⟩
                            have HKW := hide (HKI.out.trans' hkw (fun _ _ => id) (fun _ _ => id) : Keeps NoB w wj)
                            have HX14 := hide hb14; have HN14 := hide hn14
                            clear hkw hb14 hn14
                            obtain ⟨R, hRe⟩ : ∃ R, Nd.mk 22 { data := #[] } 0 0 (kids ++ kids2) = R := ⟨_, rfl⟩
                            rw [hRe] at HN14
                            have hms : manysN kids + manysN kids2 ≤ 2000 := by
                              have h1 := hb1.1; have h2 := hb2.1; rw [HTE.out] at h1; rw [HTE2.out] at h2; unfold manyN at h1 h2; omega
                            have HRO := hide (show okN R from by
                              have h2 := HO2.out; rw [HTE2.out] at h2; unfold okN at h2
                              rw [← hRe]; exact ok_mod (by omega) (fun u hu => (List.mem_append.1 hu).elim (HPF.out.2 u) ((oks_iff _).1 h2.2.2.2.2 u)))
                            have HRM := hide (show manyN R ≤ 4611686018427387904 from by
                              rw [← hRe]; have h := manys_app kids kids2; have := many_mod (pl := 0) (kids := kids ++ kids2) (M := 2000) (by omega); omega)
                            obtain ⟨c, hc⟩ : ∃ c, checkN R = c := ⟨_, rfl⟩
                            obtain ⟨er, pr⟩ := c
                            obtain rfl : er = 0 := by
                              have h := law_both (a := t) (b := t2) (by rw [HCK.out]) (by rw [HC2K.out]) (by rw [HTE.out, HTE2.out]; exact HALL.out) (by rw [HTE.out, HTE2.out]; simp only [Nd.kids]; omega)
                              rw [HTE.out, HTE2.out] at h
                              have h2 : (checkN R).1 = 0 := by rw [← hRe]; exact h
                              rw [hc] at h2
                              exact h2
                            have HCR := hide hc
                            clear hc hRe hms
                            have e0 : wj.cell? ⟨g14, 0, none⟩ = some (.int .u8 22) := HX14.out.cell 0; have e1 : wj.cell? ⟨g14, 1, none⟩ = some (.string ByteArray.empty) := HX14.out.cell 1; have e2 : wj.cell? ⟨g14, 2, none⟩ = some (.int .i64 0) := HX14.out.cell 2; have e3 : wj.cell? ⟨g14, 3, none⟩ = some (.int .i64 0) := HX14.out.cell 3; have e4 : wj.cell? ⟨g14, 4, none⟩ = some (.slice A14 (kn+kn2) c14) := HX14.out.cell 4
                            go_wp2_with
                              first
                              | (go_at_call 11
                                 refine (check_any R wj _ false 22 ByteArray.empty 0 0 A14 (kn + kn2) c14 (HL.out.keep HKW.out) HRO.out HRM.out HN14.out).mono ?_
                                 rintro e w15 ⟨rfl, hk⟩
                                 rw [HCR.out]
                                 have HK15 := hide (HKW.out.trans' hk (fun _ _ => id) (fun _ _ => id) : Keeps NoB w w15)
                                 clear hk)
                              | fail
                            go_ret
                            exact ⟨rfl, HK15.out⟩
                    · have h20b : (er2 == 0) = false := by simpa using h20
                      go_wp2_with
                        first
                        | (go_at_call 11
                           refine (check_any t2 w11 B2 F2 kd2 tx2 nm2 pl2 ka2 kn2 kc2 (HL.out.keep HK11.out) HO2.out HM2.out (NodeIn.keep HK11.out (fun _ _ => id) _ _ HT2.out)).mono ?_
                           rintro e w12 ⟨rfl, hk⟩
                           rw [HC2K.out]
                           have HK12 := hide (HK11.out.trans' hk (fun _ _ => id) (fun _ _ => id) : Keeps NoB w w12)
                           have HB12 := hide (HB11.out.keep hk id); have HD12 := hide (HD11.out.keep hk id)
                           clear hk)
                        | fail
                      go_ret
                      exact ⟨rfl, HK12.out⟩
      · have h0b : (er == 0) = false := by simpa using h0
        go_enter Tryd.func6, Tryd.ntmps6
        go_wp2_with
          first
          | (go_at_call 7
             refine (awake_any _ (HL.out.keep HK0.out)).mono ?_
             rintro e w1 ⟨rfl, hk⟩
             have HB1 := hide (HB0.out.keep hk id)
             have HD1 := hide (HD0.out.keep hk id)
             have HK1 := hide (HK0.out.trans' hk (fun _ _ => id) (fun _ _ => id) : Keeps NoB w w1)
             have a0 : w1.cell? ⟨w.heap.size, 0, none⟩ = some (.int .u8 kd) := HB1.out.cell 0; have a1 : w1.cell? ⟨w.heap.size, 1, none⟩ = some (.string tx) := HB1.out.cell 1; have a2 : w1.cell? ⟨w.heap.size, 2, none⟩ = some (.int .i64 nm) := HB1.out.cell 2; have a3 : w1.cell? ⟨w.heap.size, 3, none⟩ = some (.int .i64 pl) := HB1.out.cell 3; have a4 : w1.cell? ⟨w.heap.size, 4, none⟩ = some (.slice ka kn kc) := HB1.out.cell 4
             have aa0 : w1.cell? ⟨w.heap.size + 1, 0, none⟩ = some (.int .u8 kd2) := HD1.out.cell 0; have aa1 : w1.cell? ⟨w.heap.size + 1, 1, none⟩ = some (.string tx2) := HD1.out.cell 1; have aa2 : w1.cell? ⟨w.heap.size + 1, 2, none⟩ = some (.int .i64 nm2) := HD1.out.cell 2; have aa3 : w1.cell? ⟨w.heap.size + 1, 3, none⟩ = some (.int .i64 pl2) := HD1.out.cell 3; have aa4 : w1.cell? ⟨w.heap.size + 1, 4, none⟩ = some (.slice ka2 kn2 kc2) := HD1.out.cell 4
             clear hk)
          | (go_at_call 10
             clear M1
             refine (small_any t HO.out w1 B F kd tx nm pl ka kn kc (NodeIn.keep HK1.out (fun _ _ => id) _ _ HT.out)).mono ?_
             rintro e w2 ⟨rfl, hk⟩
             rw [HS.out]
             have HB2 := hide (HB1.out.keep hk id)
             have HD2 := hide (HD1.out.keep hk id)
             have HK2 := hide (HK1.out.trans' hk (fun _ _ => id) (fun _ _ => id) : Keeps NoB w w2)
             have b0 : w2.cell? ⟨w.heap.size, 0, none⟩ = some (.int .u8 kd) := HB2.out.cell 0; have b1 : w2.cell? ⟨w.heap.size, 1, none⟩ = some (.string tx) := HB2.out.cell 1; have b2 : w2.cell? ⟨w.heap.size, 2, none⟩ = some (.int .i64 nm) := HB2.out.cell 2; have b3 : w2.cell? ⟨w.heap.size, 3, none⟩ = some (.int .i64 pl) := HB2.out.cell 3; have b4 : w2.cell? ⟨w.heap.size, 4, none⟩ = some (.slice ka kn kc) := HB2.out.cell 4
             have bb0 : w2.cell? ⟨w.heap.size + 1, 0, none⟩ = some (.int .u8 kd2) := HD2.out.cell 0; have bb1 : w2.cell? ⟨w.heap.size + 1, 1, none⟩ = some (.string tx2) := HD2.out.cell 1; have bb2 : w2.cell? ⟨w.heap.size + 1, 2, none⟩ = some (.int .i64 nm2) := HD2.out.cell 2; have bb3 : w2.cell? ⟨w.heap.size + 1, 3, none⟩ = some (.int .i64 pl2) := HD2.out.cell 3; have bb4 : w2.cell? ⟨w.heap.size + 1, 4, none⟩ = some (.slice ka2 kn2 kc2) := HD2.out.cell 4
             clear hk)
          | (go_at_call 10
             refine (small_any t2 HO2.out w2 B2 F2 kd2 tx2 nm2 pl2 ka2 kn2 kc2 (NodeIn.keep HK2.out (fun _ _ => id) _ _ HT2.out)).mono ?_
             rintro e w3 ⟨rfl, hk⟩
             rw [HS2.out]
             have HB3 := hide (HB2.out.keep hk id)
             have HD3 := hide (HD2.out.keep hk id)
             have HK3 := hide (HK2.out.trans' hk (fun _ _ => id) (fun _ _ => id) : Keeps NoB w w3)
             have c0 : w3.cell? ⟨w.heap.size, 0, none⟩ = some (.int .u8 kd) := HB3.out.cell 0; have c1 : w3.cell? ⟨w.heap.size, 1, none⟩ = some (.string tx) := HB3.out.cell 1; have c2 : w3.cell? ⟨w.heap.size, 2, none⟩ = some (.int .i64 nm) := HB3.out.cell 2; have c3 : w3.cell? ⟨w.heap.size, 3, none⟩ = some (.int .i64 pl) := HB3.out.cell 3; have c4 : w3.cell? ⟨w.heap.size, 4, none⟩ = some (.slice ka kn kc) := HB3.out.cell 4
             clear hk)
          | (go_at_call 11
             refine (check_any t w3 B F kd tx nm pl ka kn kc (HL.out.keep HK3.out) HO.out HM.out (NodeIn.keep HK3.out (fun _ _ => id) _ _ HT.out)).mono ?_
             rintro e w4 ⟨rfl, hk⟩
             rw [HCK.out]
             have HB4 := hide (HB3.out.keep hk id)
             have HD4 := hide (HD3.out.keep hk id)
             have HK4 := hide (HK3.out.trans' hk (fun _ _ => id) (fun _ _ => id) : Keeps NoB w w4)
             have d0 : w4.cell? ⟨w.heap.size, 0, none⟩ = some (.int .u8 kd) := HB4.out.cell 0; have d1 : w4.cell? ⟨w.heap.size, 1, none⟩ = some (.string tx) := HB4.out.cell 1; have d2 : w4.cell? ⟨w.heap.size, 2, none⟩ = some (.int .i64 nm) := HB4.out.cell 2; have d3 : w4.cell? ⟨w.heap.size, 3, none⟩ = some (.int .i64 pl) := HB4.out.cell 3; have d4 : w4.cell? ⟨w.heap.size, 4, none⟩ = some (.slice ka kn kc) := HB4.out.cell 4
             clear hk)
          | (go_at_call 14
             refine (pick_any x kn w4 hx (by omega) (by omega)).mono ?_
             rintro e w4' ⟨rfl, k, hk, rfl⟩
             obtain ⟨b9, o9, kf, tf, nf, pf, af, lf, cf, f, hA9, _, _, hf, hfs, hfu, f0, f1, f2, f3, f4⟩ := node_at (HR.out.keep HK4.out (fun _ _ => id)) (NodesIn.keep HK4.out (fun _ _ => id) _ _ HC.out) k hk
             injection hA9 with hA9
             injection hA9 with g1 g2
             subst g1 g2
             have HF := hide hf; have HFU := hide hfu
             have hk0 : (0 : Int) ≤ (k : Int) := by omega
             have hk1 : (k : Int) < (kn : Int) := by omega
             clear hfs hf hfu)
          | fail
        go_ret
        exact ⟨rfl, HK4.out⟩
end Go.Proofs.YtincajfanhanjaaDoor
