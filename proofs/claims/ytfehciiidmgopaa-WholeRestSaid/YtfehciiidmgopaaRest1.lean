/- WholeRest: the walk. -/
import Derived.Test.YtfehciiidmgopaaRestBad
import Derived.Test.YtfehciiidmgopaaRestLaw
import Derived.Deep.CutRange
import Derived.Deep.DeepCutAuto
namespace Go.Proofs.Ytfehciiidmgopaa
open Go.RowKit

set_option maxHeartbeats 16000000 in
set_option maxRecDepth 100000 in
theorem rest_some (ng ng' : Bool) (A A' ia ta ia' ta' : Option Addr) (n c n' c' ic tc ic' tc' : Nat) (x y : Int) (w : World) (B B' : Nat → Prop) (ha : IA w B ng A n c x) (hb : IA w B' ng' A' n' c' y) (hy : y ≠ 0) (hz : x.tmod y ≠ 0) :
    Calls Try.prog 6 #[.agg #[.int .u8 1, .bool ng, .slice A n c, .string { data := #[] }, .int .i64 0, .slice ia 0 ic, .slice ta 0 tc], .agg #[.int .u8 1, .bool ng', .slice A' n' c', .string { data := #[] }, .int .i64 0, .slice ia' 0 ic', .slice ta' 0 tc']] w fun e w' => e = .returned (.bool true) ∧ Keeps NoB w w' := by
  have HY0 := hide hy; have HZ := hide hz
  have HSR := hide (rest_sign ha.sign hz)
  have HP := hide (rest_room ha.room y); have HSM := hide (rest_sum ha.room y); have C1 := hide (cmp_self (rest_eq x y)); have C2 := hide (rest_cmp x hy)
  have hnz : ((n' : Int) == 0) = false := by have h1 := hb.limbs.len; have h2 := (dig_pos_len (n := y.natAbs)).2 (Int.natAbs_pos.2 hy); simp; omega
  have Ia0 := ha; have Ib0 := hb
  clear ha hb hy hz
  go_enter Try.func6, Try.ntmps6
  have Ba0 := hide ((Blk.new w 26 #[.int .u8 1, .bool ng, .slice A n c, .string { data := #[] }, .int .i64 0, .slice ia 0 ic, .slice ta 0 tc]).alloc (.cells #[.int .u8 1, .bool ng', .slice A' n' c', .string { data := #[] }, .int .i64 0, .slice ia' 0 ic', .slice ta' 0 tc'] 26))
  have Bb0 := hide (Blk.new2' w (.cells #[.int .u8 1, .bool ng, .slice A n c, .string { data := #[] }, .int .i64 0, .slice ia 0 ic, .slice ta 0 tc] 26) 26 #[.int .u8 1, .bool ng', .slice A' n' c', .string { data := #[] }, .int .i64 0, .slice ia' 0 ic', .slice ta' 0 tc'])
  have HKS := ((Keeps.refl NoB w).alloc (.cells #[.int .u8 1, .bool ng, .slice A n c, .string { data := #[] }, .int .i64 0, .slice ia 0 ic, .slice ta 0 tc] 26)).alloc (.cells #[.int .u8 1, .bool ng', .slice A' n' c', .string { data := #[] }, .int .i64 0, .slice ia' 0 ic', .slice ta' 0 tc'] 26)
  have HK0 := hide HKS
  have Ia0 := hide (Ia0.keep HKS); have Ib0 := hide (Ib0.keep HKS)
  clear HKS
  have MM0 := hide True.intro; have MM1 := hide True.intro; have MM2 := hide True.intro; have MM3 := hide True.intro
  go_wp2_with first | (go_at_call 9; refine (awake_any _).mono ?_; rintro e w1 ⟨rfl, hk1⟩; have hka := hk1; have HK1 := hide (HK0.out.trans' hka (fun _ _ h => h) (fun _ _ h => h)); have Ia1 := hide (Ia0.out.keep hka); have Ib1 := hide (Ib0.out.keep hka); have Ba1 := hide (Ba0.out.keep hka id); have Bb1 := hide (Bb0.out.keep hka id); clear hk1 hka HK0 Ia0 Ib0 Ba0 Bb0; have fa0 : w1.cell? ⟨w.heap.size, 0, none⟩ = some (.int .u8 1) := Ba1.out.cell 0; have fa1 : w1.cell? ⟨w.heap.size, 1, none⟩ = some (.bool ng) := Ba1.out.cell 1; have fa2 : w1.cell? ⟨w.heap.size, 2, none⟩ = some (.slice A n c) := Ba1.out.cell 2; have fa3 : w1.cell? ⟨w.heap.size, 3, none⟩ = some (.string { data := #[] }) := Ba1.out.cell 3; have fa4 : w1.cell? ⟨w.heap.size, 4, none⟩ = some (.int .i64 0) := Ba1.out.cell 4; have fa5 : w1.cell? ⟨w.heap.size, 5, none⟩ = some (.slice ia 0 ic) := Ba1.out.cell 5; have fa6 : w1.cell? ⟨w.heap.size, 6, none⟩ = some (.slice ta 0 tc) := Ba1.out.cell 6) | (clear MM0; go_at_call 24; refine (Ia1.out.right ia ta ic tc).mono ?_; rintro e w2 ⟨rfl, hk2⟩; have hka := hk2; have HK2 := hide (HK1.out.trans' hka (fun _ _ h => h) (fun _ _ h => h)); have Ia2 := hide (Ia1.out.keep hka); have Ib2 := hide (Ib1.out.keep hka); have Ba2 := hide (Ba1.out.keep hka id); have Bb2 := hide (Bb1.out.keep hka id); clear hk2 hka HK1 fa0 fa1 fa2 fa3 fa4 fa5 fa6 Ia1 Ib1 Ba1 Bb1; have fb0 : w2.cell? ⟨w.heap.size + 1, 0, none⟩ = some (.int .u8 1) := Bb2.out.cell 0; have fb1 : w2.cell? ⟨w.heap.size + 1, 1, none⟩ = some (.bool ng') := Bb2.out.cell 1; have fb2 : w2.cell? ⟨w.heap.size + 1, 2, none⟩ = some (.slice A' n' c') := Bb2.out.cell 2; have fb3 : w2.cell? ⟨w.heap.size + 1, 3, none⟩ = some (.string { data := #[] }) := Bb2.out.cell 3; have fb4 : w2.cell? ⟨w.heap.size + 1, 4, none⟩ = some (.int .i64 0) := Bb2.out.cell 4; have fb5 : w2.cell? ⟨w.heap.size + 1, 5, none⟩ = some (.slice ia' 0 ic') := Bb2.out.cell 5; have fb6 : w2.cell? ⟨w.heap.size + 1, 6, none⟩ = some (.slice ta' 0 tc') := Bb2.out.cell 6) | (clear MM1; go_at_call 24; refine (Ib2.out.right ia' ta' ic' tc').mono ?_; rintro e w3 ⟨rfl, hk3⟩; have hka := hk3; have HK3 := hide (HK2.out.trans' hka (fun _ _ h => h) (fun _ _ h => h)); have Ia3 := hide (Ia2.out.keep hka); have Ib3 := hide (Ib2.out.keep hka); have Ba3 := hide (Ba2.out.keep hka id); have Bb3 := hide (Bb2.out.keep hka id); clear hk3 hka HK2 fb0 fb1 fb2 fb3 fb4 fb5 fb6 Ia2 Ib2 Ba2 Bb2; have fa0 : w3.cell? ⟨w.heap.size, 0, none⟩ = some (.int .u8 1) := Ba3.out.cell 0; have fa1 : w3.cell? ⟨w.heap.size, 1, none⟩ = some (.bool ng) := Ba3.out.cell 1; have fa2 : w3.cell? ⟨w.heap.size, 2, none⟩ = some (.slice A n c) := Ba3.out.cell 2; have fa3 : w3.cell? ⟨w.heap.size, 3, none⟩ = some (.string { data := #[] }) := Ba3.out.cell 3; have fa4 : w3.cell? ⟨w.heap.size, 4, none⟩ = some (.int .i64 0) := Ba3.out.cell 4; have fa5 : w3.cell? ⟨w.heap.size, 5, none⟩ = some (.slice ia 0 ic) := Ba3.out.cell 5; have fa6 : w3.cell? ⟨w.heap.size, 6, none⟩ = some (.slice ta 0 tc) := Ba3.out.cell 6; have fb0 : w3.cell? ⟨w.heap.size + 1, 0, none⟩ = some (.int .u8 1) := Bb3.out.cell 0; have fb1 : w3.cell? ⟨w.heap.size + 1, 1, none⟩ = some (.bool ng') := Bb3.out.cell 1; have fb2 : w3.cell? ⟨w.heap.size + 1, 2, none⟩ = some (.slice A' n' c') := Bb3.out.cell 2; have fb3 : w3.cell? ⟨w.heap.size + 1, 3, none⟩ = some (.string { data := #[] }) := Bb3.out.cell 3; have fb4 : w3.cell? ⟨w.heap.size + 1, 4, none⟩ = some (.int .i64 0) := Bb3.out.cell 4; have fb5 : w3.cell? ⟨w.heap.size + 1, 5, none⟩ = some (.slice ia' 0 ic') := Bb3.out.cell 5; have fb6 : w3.cell? ⟨w.heap.size + 1, 6, none⟩ = some (.slice ta' 0 tc') := Bb3.out.cell 6) | (go_at_call 13; refine (div_any ng ng' A A' ia ta ia' ta' n c n' c' ic tc ic' tc' x y _ _ _ Ia3.out Ib3.out HY0.out).mono ?_; rintro e w4 ⟨ngq, Aq, nq, cq, ngr, Ar, nr, cr, rfl, iq, ir, hk4⟩; have hsr : ng = ngr := HSR.out _ ir.sign; subst hsr; have hrl : 0 < nr := (by have h1 := ir.limbs.len; have h2 := (dig_pos_len (n := (x.tmod y).natAbs)).2 (Int.natAbs_pos.2 HZ.out); omega); have hka := ((hk4.alloc (.cells #[.int .u8 1, .bool ngq, .slice Aq nq cq, .string { data := #[] }, .int .i64 0, .slice none 0 0, .slice none 0 0] 26)).alloc (.cells #[.int .u8 1, .bool ng, .slice Ar nr cr, .string { data := #[] }, .int .i64 0, .slice none 0 0, .slice none 0 0] 26)); have HK4 := hide (HK3.out.trans' hka (fun _ _ h => h) (fun _ _ h => h)); have Ia4 := hide (Ia3.out.keep hka); have Ib4 := hide (Ib3.out.keep hka); have Ba4 := hide (Ba3.out.keep hka id); have Bb4 := hide (Bb3.out.keep hka id); have Iq4 := hide (iq.keep ((((Keeps.refl NoB w4).alloc (.cells #[.int .u8 1, .bool ngq, .slice Aq nq cq, .string { data := #[] }, .int .i64 0, .slice none 0 0, .slice none 0 0] 26)).alloc (.cells #[.int .u8 1, .bool ng, .slice Ar nr cr, .string { data := #[] }, .int .i64 0, .slice none 0 0, .slice none 0 0] 26)))); have Ir4 := hide (ir.keep ((((Keeps.refl NoB w4).alloc (.cells #[.int .u8 1, .bool ngq, .slice Aq nq cq, .string { data := #[] }, .int .i64 0, .slice none 0 0, .slice none 0 0] 26)).alloc (.cells #[.int .u8 1, .bool ng, .slice Ar nr cr, .string { data := #[] }, .int .i64 0, .slice none 0 0, .slice none 0 0] 26)))); have Bq4 := hide ((Blk.new w4 26 #[.int .u8 1, .bool ngq, .slice Aq nq cq, .string { data := #[] }, .int .i64 0, .slice none 0 0, .slice none 0 0]).alloc (.cells #[.int .u8 1, .bool ng, .slice Ar nr cr, .string { data := #[] }, .int .i64 0, .slice none 0 0, .slice none 0 0] 26)); have Br4 := hide (Blk.new2' w4 (.cells #[.int .u8 1, .bool ngq, .slice Aq nq cq, .string { data := #[] }, .int .i64 0, .slice none 0 0, .slice none 0 0] 26) 26 #[.int .u8 1, .bool ng, .slice Ar nr cr, .string { data := #[] }, .int .i64 0, .slice none 0 0, .slice none 0 0]); clear hk4 hka HK3 fa0 fa1 fa2 fa3 fa4 fa5 fa6 fb0 fb1 fb2 fb3 fb4 fb5 fb6 Ia3 Ib3 Ba3 Bb3 iq ir; have fq0 : ((w4.alloc (.cells #[.int .u8 1, .bool ngq, .slice Aq nq cq, .string { data := #[] }, .int .i64 0, .slice none 0 0, .slice none 0 0] 26)).alloc (.cells #[.int .u8 1, .bool ng, .slice Ar nr cr, .string { data := #[] }, .int .i64 0, .slice none 0 0, .slice none 0 0] 26)).cell? ⟨w4.heap.size, 0, none⟩ = some (.int .u8 1) := Bq4.out.cell 0; have fq1 : ((w4.alloc (.cells #[.int .u8 1, .bool ngq, .slice Aq nq cq, .string { data := #[] }, .int .i64 0, .slice none 0 0, .slice none 0 0] 26)).alloc (.cells #[.int .u8 1, .bool ng, .slice Ar nr cr, .string { data := #[] }, .int .i64 0, .slice none 0 0, .slice none 0 0] 26)).cell? ⟨w4.heap.size, 1, none⟩ = some (.bool ngq) := Bq4.out.cell 1; have fq2 : ((w4.alloc (.cells #[.int .u8 1, .bool ngq, .slice Aq nq cq, .string { data := #[] }, .int .i64 0, .slice none 0 0, .slice none 0 0] 26)).alloc (.cells #[.int .u8 1, .bool ng, .slice Ar nr cr, .string { data := #[] }, .int .i64 0, .slice none 0 0, .slice none 0 0] 26)).cell? ⟨w4.heap.size, 2, none⟩ = some (.slice Aq nq cq) := Bq4.out.cell 2; have fq3 : ((w4.alloc (.cells #[.int .u8 1, .bool ngq, .slice Aq nq cq, .string { data := #[] }, .int .i64 0, .slice none 0 0, .slice none 0 0] 26)).alloc (.cells #[.int .u8 1, .bool ng, .slice Ar nr cr, .string { data := #[] }, .int .i64 0, .slice none 0 0, .slice none 0 0] 26)).cell? ⟨w4.heap.size, 3, none⟩ = some (.string { data := #[] }) := Bq4.out.cell 3; have fq4 : ((w4.alloc (.cells #[.int .u8 1, .bool ngq, .slice Aq nq cq, .string { data := #[] }, .int .i64 0, .slice none 0 0, .slice none 0 0] 26)).alloc (.cells #[.int .u8 1, .bool ng, .slice Ar nr cr, .string { data := #[] }, .int .i64 0, .slice none 0 0, .slice none 0 0] 26)).cell? ⟨w4.heap.size, 4, none⟩ = some (.int .i64 0) := Bq4.out.cell 4; have fq5 : ((w4.alloc (.cells #[.int .u8 1, .bool ngq, .slice Aq nq cq, .string { data := #[] }, .int .i64 0, .slice none 0 0, .slice none 0 0] 26)).alloc (.cells #[.int .u8 1, .bool ng, .slice Ar nr cr, .string { data := #[] }, .int .i64 0, .slice none 0 0, .slice none 0 0] 26)).cell? ⟨w4.heap.size, 5, none⟩ = some (.slice none 0 0) := Bq4.out.cell 5; have fq6 : ((w4.alloc (.cells #[.int .u8 1, .bool ngq, .slice Aq nq cq, .string { data := #[] }, .int .i64 0, .slice none 0 0, .slice none 0 0] 26)).alloc (.cells #[.int .u8 1, .bool ng, .slice Ar nr cr, .string { data := #[] }, .int .i64 0, .slice none 0 0, .slice none 0 0] 26)).cell? ⟨w4.heap.size, 6, none⟩ = some (.slice none 0 0) := Bq4.out.cell 6; have fb0 : ((w4.alloc (.cells #[.int .u8 1, .bool ngq, .slice Aq nq cq, .string { data := #[] }, .int .i64 0, .slice none 0 0, .slice none 0 0] 26)).alloc (.cells #[.int .u8 1, .bool ng, .slice Ar nr cr, .string { data := #[] }, .int .i64 0, .slice none 0 0, .slice none 0 0] 26)).cell? ⟨w.heap.size + 1, 0, none⟩ = some (.int .u8 1) := Bb4.out.cell 0; have fb1 : ((w4.alloc (.cells #[.int .u8 1, .bool ngq, .slice Aq nq cq, .string { data := #[] }, .int .i64 0, .slice none 0 0, .slice none 0 0] 26)).alloc (.cells #[.int .u8 1, .bool ng, .slice Ar nr cr, .string { data := #[] }, .int .i64 0, .slice none 0 0, .slice none 0 0] 26)).cell? ⟨w.heap.size + 1, 1, none⟩ = some (.bool ng') := Bb4.out.cell 1; have fb2 : ((w4.alloc (.cells #[.int .u8 1, .bool ngq, .slice Aq nq cq, .string { data := #[] }, .int .i64 0, .slice none 0 0, .slice none 0 0] 26)).alloc (.cells #[.int .u8 1, .bool ng, .slice Ar nr cr, .string { data := #[] }, .int .i64 0, .slice none 0 0, .slice none 0 0] 26)).cell? ⟨w.heap.size + 1, 2, none⟩ = some (.slice A' n' c') := Bb4.out.cell 2; have fb3 : ((w4.alloc (.cells #[.int .u8 1, .bool ngq, .slice Aq nq cq, .string { data := #[] }, .int .i64 0, .slice none 0 0, .slice none 0 0] 26)).alloc (.cells #[.int .u8 1, .bool ng, .slice Ar nr cr, .string { data := #[] }, .int .i64 0, .slice none 0 0, .slice none 0 0] 26)).cell? ⟨w.heap.size + 1, 3, none⟩ = some (.string { data := #[] }) := Bb4.out.cell 3; have fb4 : ((w4.alloc (.cells #[.int .u8 1, .bool ngq, .slice Aq nq cq, .string { data := #[] }, .int .i64 0, .slice none 0 0, .slice none 0 0] 26)).alloc (.cells #[.int .u8 1, .bool ng, .slice Ar nr cr, .string { data := #[] }, .int .i64 0, .slice none 0 0, .slice none 0 0] 26)).cell? ⟨w.heap.size + 1, 4, none⟩ = some (.int .i64 0) := Bb4.out.cell 4; have fb5 : ((w4.alloc (.cells #[.int .u8 1, .bool ngq, .slice Aq nq cq, .string { data := #[] }, .int .i64 0, .slice none 0 0, .slice none 0 0] 26)).alloc (.cells #[.int .u8 1, .bool ng, .slice Ar nr cr, .string { data := #[] }, .int .i64 0, .slice none 0 0, .slice none 0 0] 26)).cell? ⟨w.heap.size + 1, 5, none⟩ = some (.slice ia' 0 ic') := Bb4.out.cell 5; have fb6 : ((w4.alloc (.cells #[.int .u8 1, .bool ngq, .slice Aq nq cq, .string { data := #[] }, .int .i64 0, .slice none 0 0, .slice none 0 0] 26)).alloc (.cells #[.int .u8 1, .bool ng, .slice Ar nr cr, .string { data := #[] }, .int .i64 0, .slice none 0 0, .slice none 0 0] 26)).cell? ⟨w.heap.size + 1, 6, none⟩ = some (.slice ta' 0 tc') := Bb4.out.cell 6) | (clear MM2; go_at_call 11; refine (times_yes ngq ng' Aq A' none none ia' ta' nq cq n' c' 0 0 ic' tc' (x.tdiv y) y _ _ _ Iq4.out Ib4.out HP.out).mono ?_; rintro e w5 ⟨ngp, Ap, np, cp, rfl, ip, hk5⟩; have hka := (hk5.alloc (.cells #[.int .u8 1, .bool ngp, .slice Ap np cp, .string { data := #[] }, .int .i64 0, .slice none 0 0, .slice none 0 0] 26)); have HK5 := hide (HK4.out.trans' hka (fun _ _ h => h) (fun _ _ h => h)); have Ia5 := hide (Ia4.out.keep hka); have Ib5 := hide (Ib4.out.keep hka); have Iq5 := hide (Iq4.out.keep hka); have Ir5 := hide (Ir4.out.keep hka); have Ba5 := hide (Ba4.out.keep hka id); have Bb5 := hide (Bb4.out.keep hka id); have Bq5 := hide (Bq4.out.keep hka id); have Br5 := hide (Br4.out.keep hka id); have Ip5 := hide (ip.keep (((Keeps.refl NoB w5).alloc (.cells #[.int .u8 1, .bool ngp, .slice Ap np cp, .string { data := #[] }, .int .i64 0, .slice none 0 0, .slice none 0 0] 26)))); have Bp5 := hide ((Blk.new w5 26 #[.int .u8 1, .bool ngp, .slice Ap np cp, .string { data := #[] }, .int .i64 0, .slice none 0 0, .slice none 0 0])); clear hk5 hka HK4 fq0 fq1 fq2 fq3 fq4 fq5 fq6 fb0 fb1 fb2 fb3 fb4 fb5 fb6 Ia4 Ib4 Iq4 Ir4 Ba4 Bb4 Bq4 Br4 ip; have fq0 : (w5.alloc (.cells #[.int .u8 1, .bool ngp, .slice Ap np cp, .string { data := #[] }, .int .i64 0, .slice none 0 0, .slice none 0 0] 26)).cell? ⟨w4.heap.size, 0, none⟩ = some (.int .u8 1) := Bq5.out.cell 0; have fq1 : (w5.alloc (.cells #[.int .u8 1, .bool ngp, .slice Ap np cp, .string { data := #[] }, .int .i64 0, .slice none 0 0, .slice none 0 0] 26)).cell? ⟨w4.heap.size, 1, none⟩ = some (.bool ngq) := Bq5.out.cell 1; have fq2 : (w5.alloc (.cells #[.int .u8 1, .bool ngp, .slice Ap np cp, .string { data := #[] }, .int .i64 0, .slice none 0 0, .slice none 0 0] 26)).cell? ⟨w4.heap.size, 2, none⟩ = some (.slice Aq nq cq) := Bq5.out.cell 2; have fq3 : (w5.alloc (.cells #[.int .u8 1, .bool ngp, .slice Ap np cp, .string { data := #[] }, .int .i64 0, .slice none 0 0, .slice none 0 0] 26)).cell? ⟨w4.heap.size, 3, none⟩ = some (.string { data := #[] }) := Bq5.out.cell 3; have fq4 : (w5.alloc (.cells #[.int .u8 1, .bool ngp, .slice Ap np cp, .string { data := #[] }, .int .i64 0, .slice none 0 0, .slice none 0 0] 26)).cell? ⟨w4.heap.size, 4, none⟩ = some (.int .i64 0) := Bq5.out.cell 4; have fq5 : (w5.alloc (.cells #[.int .u8 1, .bool ngp, .slice Ap np cp, .string { data := #[] }, .int .i64 0, .slice none 0 0, .slice none 0 0] 26)).cell? ⟨w4.heap.size, 5, none⟩ = some (.slice none 0 0) := Bq5.out.cell 5; have fq6 : (w5.alloc (.cells #[.int .u8 1, .bool ngp, .slice Ap np cp, .string { data := #[] }, .int .i64 0, .slice none 0 0, .slice none 0 0] 26)).cell? ⟨w4.heap.size, 6, none⟩ = some (.slice none 0 0) := Bq5.out.cell 6) | (clear MM3; go_at_call 24; refine (Iq5.out.right none none 0 0).mono ?_; rintro e w6 ⟨rfl, hk6⟩; have hka := hk6; have HK6 := hide (HK5.out.trans' hka (fun _ _ h => h) (fun _ _ h => h)); have Ia6 := hide (Ia5.out.keep hka); have Ib6 := hide (Ib5.out.keep hka); have Iq6 := hide (Iq5.out.keep hka); have Ir6 := hide (Ir5.out.keep hka); have Ip6 := hide (Ip5.out.keep hka); have Ba6 := hide (Ba5.out.keep hka id); have Bb6 := hide (Bb5.out.keep hka id); have Bq6 := hide (Bq5.out.keep hka id); have Br6 := hide (Br5.out.keep hka id); have Bp6 := hide (Bp5.out.keep hka id); clear hk6 hka HK5 fq0 fq1 fq2 fq3 fq4 fq5 fq6 Ia5 Ib5 Iq5 Ir5 Ip5 Ba5 Bb5 Bq5 Br5 Bp5; have fr0 : w6.cell? ⟨w4.heap.size + 1, 0, none⟩ = some (.int .u8 1) := Br6.out.cell 0; have fr1 : w6.cell? ⟨w4.heap.size + 1, 1, none⟩ = some (.bool ng) := Br6.out.cell 1; have fr2 : w6.cell? ⟨w4.heap.size + 1, 2, none⟩ = some (.slice Ar nr cr) := Br6.out.cell 2; have fr3 : w6.cell? ⟨w4.heap.size + 1, 3, none⟩ = some (.string { data := #[] }) := Br6.out.cell 3; have fr4 : w6.cell? ⟨w4.heap.size + 1, 4, none⟩ = some (.int .i64 0) := Br6.out.cell 4; have fr5 : w6.cell? ⟨w4.heap.size + 1, 5, none⟩ = some (.slice none 0 0) := Br6.out.cell 5; have fr6 : w6.cell? ⟨w4.heap.size + 1, 6, none⟩ = some (.slice none 0 0) := Br6.out.cell 6) | (go_at_call 24; refine (Ir6.out.right none none 0 0).mono ?_; rintro e w7 ⟨rfl, hk7⟩; have hka := hk7; have HK7 := hide (HK6.out.trans' hka (fun _ _ h => h) (fun _ _ h => h)); have Ia7 := hide (Ia6.out.keep hka); have Ib7 := hide (Ib6.out.keep hka); have Ir7 := hide (Ir6.out.keep hka); have Ip7 := hide (Ip6.out.keep hka); have Ba7 := hide (Ba6.out.keep hka id); have Bb7 := hide (Bb6.out.keep hka id); have Br7 := hide (Br6.out.keep hka id); have Bp7 := hide (Bp6.out.keep hka id); clear hk7 hka HK6 fr0 fr1 fr2 fr3 fr4 fr5 fr6 Ia6 Ib6 Iq6 Ir6 Ip6 Ba6 Bb6 Bq6 Br6 Bp6; have fr0 : w7.cell? ⟨w4.heap.size + 1, 0, none⟩ = some (.int .u8 1) := Br7.out.cell 0; have fr1 : w7.cell? ⟨w4.heap.size + 1, 1, none⟩ = some (.bool ng) := Br7.out.cell 1; have fr2 : w7.cell? ⟨w4.heap.size + 1, 2, none⟩ = some (.slice Ar nr cr) := Br7.out.cell 2; have fr3 : w7.cell? ⟨w4.heap.size + 1, 3, none⟩ = some (.string { data := #[] }) := Br7.out.cell 3; have fr4 : w7.cell? ⟨w4.heap.size + 1, 4, none⟩ = some (.int .i64 0) := Br7.out.cell 4; have fr5 : w7.cell? ⟨w4.heap.size + 1, 5, none⟩ = some (.slice none 0 0) := Br7.out.cell 5; have fr6 : w7.cell? ⟨w4.heap.size + 1, 6, none⟩ = some (.slice none 0 0) := Br7.out.cell 6; have fa0 : w7.cell? ⟨w.heap.size, 0, none⟩ = some (.int .u8 1) := Ba7.out.cell 0; have fa1 : w7.cell? ⟨w.heap.size, 1, none⟩ = some (.bool ng) := Ba7.out.cell 1; have fa2 : w7.cell? ⟨w.heap.size, 2, none⟩ = some (.slice A n c) := Ba7.out.cell 2; have fa3 : w7.cell? ⟨w.heap.size, 3, none⟩ = some (.string { data := #[] }) := Ba7.out.cell 3; have fa4 : w7.cell? ⟨w.heap.size, 4, none⟩ = some (.int .i64 0) := Ba7.out.cell 4; have fa5 : w7.cell? ⟨w.heap.size, 5, none⟩ = some (.slice ia 0 ic) := Ba7.out.cell 5; have fa6 : w7.cell? ⟨w.heap.size, 6, none⟩ = some (.slice ta 0 tc) := Ba7.out.cell 6; have fp0 : w7.cell? ⟨w5.heap.size, 0, none⟩ = some (.int .u8 1) := Bp7.out.cell 0; have fp1 : w7.cell? ⟨w5.heap.size, 1, none⟩ = some (.bool ngp) := Bp7.out.cell 1; have fp2 : w7.cell? ⟨w5.heap.size, 2, none⟩ = some (.slice Ap np cp) := Bp7.out.cell 2; have fp3 : w7.cell? ⟨w5.heap.size, 3, none⟩ = some (.string { data := #[] }) := Bp7.out.cell 3; have fp4 : w7.cell? ⟨w5.heap.size, 4, none⟩ = some (.int .i64 0) := Bp7.out.cell 4; have fp5 : w7.cell? ⟨w5.heap.size, 5, none⟩ = some (.slice none 0 0) := Bp7.out.cell 5; have fp6 : w7.cell? ⟨w5.heap.size, 6, none⟩ = some (.slice none 0 0) := Bp7.out.cell 6) | (go_at_call 25; refine (add_yes ngp ng Ap Ar none none none none np cp nr cr 0 0 0 0 (x.tdiv y * y) (x.tmod y) _ _ _ Ip7.out Ir7.out HSM.out).mono ?_; rintro e w8 ⟨ngs, As, ns, cs, rfl, is, hk8⟩; have hka := (hk8.alloc (.cells #[.int .u8 1, .bool ngs, .slice As ns cs, .string { data := #[] }, .int .i64 0, .slice none 0 0, .slice none 0 0] 26)); have HK8 := hide (HK7.out.trans' hka (fun _ _ h => h) (fun _ _ h => h)); have Ia8 := hide (Ia7.out.keep hka); have Ib8 := hide (Ib7.out.keep hka); have Ir8 := hide (Ir7.out.keep hka); have Ba8 := hide (Ba7.out.keep hka id); have Bb8 := hide (Bb7.out.keep hka id); have Br8 := hide (Br7.out.keep hka id); have Is8 := hide (is.keep (((Keeps.refl NoB w8).alloc (.cells #[.int .u8 1, .bool ngs, .slice As ns cs, .string { data := #[] }, .int .i64 0, .slice none 0 0, .slice none 0 0] 26)))); have Bs8 := hide ((Blk.new w8 26 #[.int .u8 1, .bool ngs, .slice As ns cs, .string { data := #[] }, .int .i64 0, .slice none 0 0, .slice none 0 0])); clear hk8 hka HK7 fr0 fr1 fr2 fr3 fr4 fr5 fr6 fa0 fa1 fa2 fa3 fa4 fa5 fa6 fp0 fp1 fp2 fp3 fp4 fp5 fp6 Ia7 Ib7 Ir7 Ip7 Ba7 Bb7 Br7 Bp7 is; have fr0 : (w8.alloc (.cells #[.int .u8 1, .bool ngs, .slice As ns cs, .string { data := #[] }, .int .i64 0, .slice none 0 0, .slice none 0 0] 26)).cell? ⟨w4.heap.size + 1, 0, none⟩ = some (.int .u8 1) := Br8.out.cell 0; have fr1 : (w8.alloc (.cells #[.int .u8 1, .bool ngs, .slice As ns cs, .string { data := #[] }, .int .i64 0, .slice none 0 0, .slice none 0 0] 26)).cell? ⟨w4.heap.size + 1, 1, none⟩ = some (.bool ng) := Br8.out.cell 1; have fr2 : (w8.alloc (.cells #[.int .u8 1, .bool ngs, .slice As ns cs, .string { data := #[] }, .int .i64 0, .slice none 0 0, .slice none 0 0] 26)).cell? ⟨w4.heap.size + 1, 2, none⟩ = some (.slice Ar nr cr) := Br8.out.cell 2; have fr3 : (w8.alloc (.cells #[.int .u8 1, .bool ngs, .slice As ns cs, .string { data := #[] }, .int .i64 0, .slice none 0 0, .slice none 0 0] 26)).cell? ⟨w4.heap.size + 1, 3, none⟩ = some (.string { data := #[] }) := Br8.out.cell 3; have fr4 : (w8.alloc (.cells #[.int .u8 1, .bool ngs, .slice As ns cs, .string { data := #[] }, .int .i64 0, .slice none 0 0, .slice none 0 0] 26)).cell? ⟨w4.heap.size + 1, 4, none⟩ = some (.int .i64 0) := Br8.out.cell 4; have fr5 : (w8.alloc (.cells #[.int .u8 1, .bool ngs, .slice As ns cs, .string { data := #[] }, .int .i64 0, .slice none 0 0, .slice none 0 0] 26)).cell? ⟨w4.heap.size + 1, 5, none⟩ = some (.slice none 0 0) := Br8.out.cell 5; have fr6 : (w8.alloc (.cells #[.int .u8 1, .bool ngs, .slice As ns cs, .string { data := #[] }, .int .i64 0, .slice none 0 0, .slice none 0 0] 26)).cell? ⟨w4.heap.size + 1, 6, none⟩ = some (.slice none 0 0) := Br8.out.cell 6; have fb0 : (w8.alloc (.cells #[.int .u8 1, .bool ngs, .slice As ns cs, .string { data := #[] }, .int .i64 0, .slice none 0 0, .slice none 0 0] 26)).cell? ⟨w.heap.size + 1, 0, none⟩ = some (.int .u8 1) := Bb8.out.cell 0; have fb1 : (w8.alloc (.cells #[.int .u8 1, .bool ngs, .slice As ns cs, .string { data := #[] }, .int .i64 0, .slice none 0 0, .slice none 0 0] 26)).cell? ⟨w.heap.size + 1, 1, none⟩ = some (.bool ng') := Bb8.out.cell 1; have fb2 : (w8.alloc (.cells #[.int .u8 1, .bool ngs, .slice As ns cs, .string { data := #[] }, .int .i64 0, .slice none 0 0, .slice none 0 0] 26)).cell? ⟨w.heap.size + 1, 2, none⟩ = some (.slice A' n' c') := Bb8.out.cell 2; have fb3 : (w8.alloc (.cells #[.int .u8 1, .bool ngs, .slice As ns cs, .string { data := #[] }, .int .i64 0, .slice none 0 0, .slice none 0 0] 26)).cell? ⟨w.heap.size + 1, 3, none⟩ = some (.string { data := #[] }) := Bb8.out.cell 3; have fb4 : (w8.alloc (.cells #[.int .u8 1, .bool ngs, .slice As ns cs, .string { data := #[] }, .int .i64 0, .slice none 0 0, .slice none 0 0] 26)).cell? ⟨w.heap.size + 1, 4, none⟩ = some (.int .i64 0) := Bb8.out.cell 4; have fb5 : (w8.alloc (.cells #[.int .u8 1, .bool ngs, .slice As ns cs, .string { data := #[] }, .int .i64 0, .slice none 0 0, .slice none 0 0] 26)).cell? ⟨w.heap.size + 1, 5, none⟩ = some (.slice ia' 0 ic') := Bb8.out.cell 5; have fb6 : (w8.alloc (.cells #[.int .u8 1, .bool ngs, .slice As ns cs, .string { data := #[] }, .int .i64 0, .slice none 0 0, .slice none 0 0] 26)).cell? ⟨w.heap.size + 1, 6, none⟩ = some (.slice ta' 0 tc') := Bb8.out.cell 6) | fail
  -- the two copies
  obtain ⟨wv, hwv⟩ : ∃ wv, (w8.alloc (.cells #[.int .u8 1, .bool ngs, .slice As ns cs, .string { data := #[] }, .int .i64 0, .slice none 0 0, .slice none 0 0] 26)) = wv := ⟨_, rfl⟩
  rw [hwv] at HK8 Ia8 Ib8 Ir8 Is8 Ba8 Bb8 Br8 Bs8 fr0 fr1 fr2 fr3 fr4 fr5 fr6 fb0 fb1 fb2 fb3 fb4 fb5 fb6 ⊢
  clear hwv
  go_cut [15, 16] (fun px py wx => ∃ gx gy Ax cx Ay cy, px = .pointer (some ⟨gx, 0, none⟩) ∧ py = .pointer (some ⟨gy, 0, none⟩) ∧ Hid (RestAt wv gx gy ng ng' Ax Ay nr cx n' cy (x.tmod y) y wx))
  case first =>
    refine order_begin (fun W => Keeps NoB wv.drew W) (fun k => k != 6 && k != 7) (by kernel_rfl) 8 rfl ?_
    have IR0 := hide (Ir8.out.keep (Keeps.refl NoB wv).drew); have IB0 := hide (Ib8.out.keep (Keeps.refl NoB wv).drew)
    have RB0 := hide (Br8.out.drew); have BB0 := hide (Bb8.out.drew)
    have HSZ := hide (show wv.drew.heap.size = wv.heap.size from rfl)
    clear fr0 fr1 fr2 fr3 fr4 fr5 fr6 fb0 fb1 fb2 fb3 fb4 fb5 fb6 Ir8 Ib8 Is8 Ia8 Br8 Bb8 Bs8 Ba8 HK8
    have HK00 := hide (Keeps.refl NoB wv.drew)
    have HWV := hide ((Keeps.refl NoB wv).drew)
    generalize wv.drew = W0 at *
    have HS : Keeps NoB W0 W0 := HK00.out
    refine order_held (i := 0) rfl (by kernel_rfl) (fun _ _ _ h => h) (.inl ⟨rfl, fun W hW => by
      have q0 : W.cell? ⟨w4.heap.size + 1, 0, none⟩ = some (.int .u8 1) := hW.cell id (RB0.out.cell 0)
      have q1 : W.cell? ⟨w4.heap.size + 1, 1, none⟩ = some (.bool ng) := hW.cell id (RB0.out.cell 1)
      have q2 : W.cell? ⟨w4.heap.size + 1, 2, none⟩ = some (.slice Ar nr cr) := hW.cell id (RB0.out.cell 2)
      have q3 : W.cell? ⟨w4.heap.size + 1, 3, none⟩ = some (.string { data := #[] }) := hW.cell id (RB0.out.cell 3)
      have q4 : W.cell? ⟨w4.heap.size + 1, 4, none⟩ = some (.int .i64 0) := hW.cell id (RB0.out.cell 4)
      have q5 : W.cell? ⟨w4.heap.size + 1, 5, none⟩ = some (.slice none 0 0) := hW.cell id (RB0.out.cell 5)
      have q6 : W.cell? ⟨w4.heap.size + 1, 6, none⟩ = some (.slice none 0 0) := hW.cell id (RB0.out.cell 6)
      go_simp; rfl⟩) HS ?_
    try simp only [Act.put, List.setIfInBounds_toArray, List.set_cons_succ, List.set_cons_zero]
    refine order_held (i := 2) rfl (by kernel_rfl) (fun _ _ _ h => h) (.inl ⟨rfl, fun W hW => by
      have q0 : W.cell? ⟨w.heap.size + 1, 0, none⟩ = some (.int .u8 1) := hW.cell id (BB0.out.cell 0)
      have q1 : W.cell? ⟨w.heap.size + 1, 1, none⟩ = some (.bool ng') := hW.cell id (BB0.out.cell 1)
      have q2 : W.cell? ⟨w.heap.size + 1, 2, none⟩ = some (.slice A' n' c') := hW.cell id (BB0.out.cell 2)
      have q3 : W.cell? ⟨w.heap.size + 1, 3, none⟩ = some (.string { data := #[] }) := hW.cell id (BB0.out.cell 3)
      have q4 : W.cell? ⟨w.heap.size + 1, 4, none⟩ = some (.int .i64 0) := hW.cell id (BB0.out.cell 4)
      have q5 : W.cell? ⟨w.heap.size + 1, 5, none⟩ = some (.slice ia' 0 ic') := hW.cell id (BB0.out.cell 5)
      have q6 : W.cell? ⟨w.heap.size + 1, 6, none⟩ = some (.slice ta' 0 tc') := hW.cell id (BB0.out.cell 6)
      go_simp; rfl⟩) HS ?_
    try simp only [Act.put, List.setIfInBounds_toArray, List.set_cons_succ, List.set_cons_zero]
    clear HS
    refine order_three (i := 1) (j := 4) (k := 5) rfl rfl rfl (by kernel_rfl) (fun K hK => ?_) (fun K hK => ?_) (fun K hK => ?_)
    · skip
      go_simp
      refine (copy_int ng Ar none none nr cr 0 0 (x.tmod y) _ _ (IR0.out.keep HK00.out)).mono ?_
      rintro e V1 ⟨Ax, cx, rfl, icx, hk⟩
      refine hK _ _ (fun _ hS => hS.trans' hk (fun _ _ => id) (fun _ _ => id)) ?_
      clear hK
      try simp only [Act.put, List.setIfInBounds_toArray, List.set_cons_succ, List.set_cons_zero]
      have HV1 := hide (HK00.out.trans' hk (fun _ _ h => h) (fun _ _ h => h))
      have IX1 := hide (icx.more (B' := fun k => True) (fun k _ hB => by have hB' : W0.heap.size ≤ k := hB; exact trivial))
      clear icx hk
      refine order_three (i := 3) (j := 4) (k := 5) rfl rfl rfl (by kernel_rfl) (fun K hK => ?_) (fun K hK => ?_) (fun K hK => ?_)
      · skip
        go_simp
        refine (copy_int ng' A' ia' ta' n' c' ic' tc' y _ _ (IB0.out.keep HV1.out)).mono ?_
        rintro e V2 ⟨Ay, cy, rfl, icx, hk⟩
        refine hK _ _ (fun _ hS => hS.trans' hk (fun _ _ => id) (fun _ _ => id)) ?_
        clear hK
        try simp only [Act.put, List.setIfInBounds_toArray, List.set_cons_succ, List.set_cons_zero]
        have HV2 := hide (HV1.out.trans' hk (fun _ _ h => h) (fun _ _ h => h))
        have IY2 := hide (icx.more (B' := fun k => True) (fun k _ hB => by have hB' : V1.heap.size ≤ k := hB; exact trivial))
        have IX2 := hide (IX1.out.keep hk)
        clear HV1 icx hk IX1
        refine order_two (i := 4) (j := 5) rfl rfl (by kernel_rfl) (fun K hK => ?_) (fun K hK => ?_)
        · skip
          go_simp
          refine hK _ _ (fun _ hS => hS.alloc _) ?_
          clear hK
          try simp only [Act.put, List.setIfInBounds_toArray, List.set_cons_succ, List.set_cons_zero]
          obtain ⟨gx, hgx⟩ : ∃ gx, V2.heap.size = gx := ⟨_, rfl⟩
          have HV3 := hide (HV2.out.alloc (.cells #[.int .u8 0, .bool false, .slice none 0 0, .string { data := #[] }, .int .i64 0, .slice none 0 0, .slice none 0 0] 26))
          have Lx := hide (show W0.heap.size ≤ gx from hgx ▸ HV2.out.size)
          have BX3 := hide (Blk.new V2 26 #[.int .u8 0, .bool false, .slice none 0 0, .string { data := #[] }, .int .i64 0, .slice none 0 0, .slice none 0 0])
          have IX3 := hide (((IX2.out.more (B' := fun k => True ∧ ¬ k = V2.heap.size) (fun k hk h => ⟨trivial, Nat.ne_of_lt hk⟩)).keep ((Keeps.refl NoB V2).alloc (.cells #[.int .u8 0, .bool false, .slice none 0 0, .string { data := #[] }, .int .i64 0, .slice none 0 0, .slice none 0 0] 26))))
          have IY3 := hide (((IY2.out.more (B' := fun k => True ∧ ¬ k = V2.heap.size) (fun k hk h => ⟨trivial, Nat.ne_of_lt hk⟩)).keep ((Keeps.refl NoB V2).alloc (.cells #[.int .u8 0, .bool false, .slice none 0 0, .string { data := #[] }, .int .i64 0, .slice none 0 0, .slice none 0 0] 26))))
          clear HV2 IX2 IY2
          rw [hgx] at BX3 IX3 IY3 ⊢
          generalize V2.alloc (.cells #[.int .u8 0, .bool false, .slice none 0 0, .string { data := #[] }, .int .i64 0, .slice none 0 0, .slice none 0 0] 26) = V3 at *
          clear hgx
          refine order_one (i := 5) rfl (by kernel_rfl) (fun K hK => ?_)
          go_simp
          refine hK _ _ (fun _ hS => hS.alloc _) ?_
          clear hK
          try simp only [Act.put, List.setIfInBounds_toArray, List.set_cons_succ, List.set_cons_zero]
          obtain ⟨gy, hgy⟩ : ∃ gy, V3.heap.size = gy := ⟨_, rfl⟩
          have HV4 := hide (HV3.out.alloc (.cells #[.int .u8 0, .bool false, .slice none 0 0, .string { data := #[] }, .int .i64 0, .slice none 0 0, .slice none 0 0] 26))
          have Ly := hide (show W0.heap.size ≤ gy from hgy ▸ HV3.out.size)
          have BY4 := hide (Blk.new V3 26 #[.int .u8 0, .bool false, .slice none 0 0, .string { data := #[] }, .int .i64 0, .slice none 0 0, .slice none 0 0])
          have BX4 := hide (BX3.out.alloc (.cells #[.int .u8 0, .bool false, .slice none 0 0, .string { data := #[] }, .int .i64 0, .slice none 0 0, .slice none 0 0] 26))
          have HNE := hide (show ¬ gx = gy from by have := BX3.out.lt; omega)
          have IX4 := hide (((IX3.out.more (B' := fun k => True ∧ ¬ k = gx ∧ ¬ k = V3.heap.size) (fun k hk h => ⟨h.1, h.2, Nat.ne_of_lt hk⟩)).keep ((Keeps.refl NoB V3).alloc (.cells #[.int .u8 0, .bool false, .slice none 0 0, .string { data := #[] }, .int .i64 0, .slice none 0 0, .slice none 0 0] 26))))
          have IY4 := hide (((IY3.out.more (B' := fun k => True ∧ ¬ k = gx ∧ ¬ k = V3.heap.size) (fun k hk h => ⟨h.1, h.2, Nat.ne_of_lt hk⟩)).keep ((Keeps.refl NoB V3).alloc (.cells #[.int .u8 0, .bool false, .slice none 0 0, .string { data := #[] }, .int .i64 0, .slice none 0 0, .slice none 0 0] 26))))
          clear HV3 BX3 IX3 IY3
          rw [hgy] at BY4 IX4 IY4 ⊢
          generalize V3.alloc (.cells #[.int .u8 0, .bool false, .slice none 0 0, .string { data := #[] }, .int .i64 0, .slice none 0 0, .slice none 0 0] 26) = V4 at *
          clear hgy
          have IXa := hide (IX4.out.more (B' := fun k => ¬ k = gx ∧ ¬ k = gy) (fun k _ h => ⟨h.2.1, h.2.2⟩)); have IYa := hide (IY4.out.more (B' := fun k => ¬ k = gx ∧ ¬ k = gy) (fun k _ h => ⟨h.2.1, h.2.2⟩))
          have z0 : V4.cell? ⟨gx, 0, none⟩ = some (.int .u8 0) := BX4.out.cell 0; have z1 : V4.cell? ⟨gx, 1, none⟩ = some (.bool false) := BX4.out.cell 1; have z2 : V4.cell? ⟨gx, 2, none⟩ = some (.slice none 0 0) := BX4.out.cell 2; have z3 : V4.cell? ⟨gx, 3, none⟩ = some (.string { data := #[] }) := BX4.out.cell 3; have z4 : V4.cell? ⟨gx, 4, none⟩ = some (.int .i64 0) := BX4.out.cell 4; have z5 : V4.cell? ⟨gx, 5, none⟩ = some (.slice none 0 0) := BX4.out.cell 5; have z6 : V4.cell? ⟨gx, 6, none⟩ = some (.slice none 0 0) := BX4.out.cell 6
          have f0 : V4.frozen? ⟨gx, 0, none⟩ = false := BX4.out.free 0; have f1 : V4.frozen? ⟨gx, 1, none⟩ = false := BX4.out.free 1; have f2 : V4.frozen? ⟨gx, 2, none⟩ = false := BX4.out.free 2; have f3 : V4.frozen? ⟨gx, 3, none⟩ = false := BX4.out.free 3; have f4 : V4.frozen? ⟨gx, 4, none⟩ = false := BX4.out.free 4; have f5 : V4.frozen? ⟨gx, 5, none⟩ = false := BX4.out.free 5; have f6 : V4.frozen? ⟨gx, 6, none⟩ = false := BX4.out.free 6
          refine order_one (i := 6) rfl (by kernel_rfl) (fun K hK => ?_)
          go_simp
          refine hK _ _ (fun h => by cases h) ?_
          clear hK
          try simp only [Act.put, List.setIfInBounds_toArray, List.set_cons_succ, List.set_cons_zero]
          have hs := Keeps.set7' (w := V4) (g := gx) (.int .u8 1) (.bool ng) (.slice Ax nr cx) (.string { data := #[] }) (.int .i64 0) (.slice none 0 0) (.slice none 0 0)
          have BXb := hide (BX4.out.put7 (.int .u8 1) (.bool ng) (.slice Ax nr cx) (.string { data := #[] }) (.int .i64 0) (.slice none 0 0) (.slice none 0 0)); have BYb := hide (BY4.out.keep hs (fun e => HNE.out e.symm)); have IXb := hide (IXa.out.far hs (fun k h => h.1)); have IYb := hide (IYa.out.far hs (fun k h => h.1)); have HKb := hide (HV4.out.set7 Lx.out (.int .u8 1) (.bool ng) (.slice Ax nr cx) (.string { data := #[] }) (.int .i64 0) (.slice none 0 0) (.slice none 0 0))
          clear hs z0 z1 z2 z3 z4 z5 z6 f0 f1 f2 f3 f4 f5 f6 IXa IYa BX4 BY4 IX4 IY4 HV4
          generalize (((((((V4.setCell ⟨gx, 0, none⟩ (.int .u8 1)).setCell ⟨gx, 1, none⟩ (.bool ng)).setCell ⟨gx, 2, none⟩ (.slice Ax nr cx)).setCell ⟨gx, 3, none⟩ (.string { data := #[] })).setCell ⟨gx, 4, none⟩ (.int .i64 0)).setCell ⟨gx, 5, none⟩ (.slice none 0 0)).setCell ⟨gx, 6, none⟩ (.slice none 0 0)) = Wb at *
          have z0 : Wb.cell? ⟨gy, 0, none⟩ = some (.int .u8 0) := BYb.out.cell 0; have z1 : Wb.cell? ⟨gy, 1, none⟩ = some (.bool false) := BYb.out.cell 1; have z2 : Wb.cell? ⟨gy, 2, none⟩ = some (.slice none 0 0) := BYb.out.cell 2; have z3 : Wb.cell? ⟨gy, 3, none⟩ = some (.string { data := #[] }) := BYb.out.cell 3; have z4 : Wb.cell? ⟨gy, 4, none⟩ = some (.int .i64 0) := BYb.out.cell 4; have z5 : Wb.cell? ⟨gy, 5, none⟩ = some (.slice none 0 0) := BYb.out.cell 5; have z6 : Wb.cell? ⟨gy, 6, none⟩ = some (.slice none 0 0) := BYb.out.cell 6
          have f0 : Wb.frozen? ⟨gy, 0, none⟩ = false := BYb.out.free 0; have f1 : Wb.frozen? ⟨gy, 1, none⟩ = false := BYb.out.free 1; have f2 : Wb.frozen? ⟨gy, 2, none⟩ = false := BYb.out.free 2; have f3 : Wb.frozen? ⟨gy, 3, none⟩ = false := BYb.out.free 3; have f4 : Wb.frozen? ⟨gy, 4, none⟩ = false := BYb.out.free 4; have f5 : Wb.frozen? ⟨gy, 5, none⟩ = false := BYb.out.free 5; have f6 : Wb.frozen? ⟨gy, 6, none⟩ = false := BYb.out.free 6
          refine order_one (i := 7) rfl (by kernel_rfl) (fun K hK => ?_)
          go_simp
          refine hK _ _ (fun h => by cases h) ?_
          clear hK
          try simp only [Act.put, List.setIfInBounds_toArray, List.set_cons_succ, List.set_cons_zero]
          have hs := Keeps.set7' (w := Wb) (g := gy) (.int .u8 1) (.bool ng') (.slice Ay n' cy) (.string { data := #[] }) (.int .i64 0) (.slice none 0 0) (.slice none 0 0)
          have BXc := hide (BXb.out.keep hs HNE.out); have BYc := hide (BYb.out.put7 (.int .u8 1) (.bool ng') (.slice Ay n' cy) (.string { data := #[] }) (.int .i64 0) (.slice none 0 0) (.slice none 0 0)); have IXc := hide (IXb.out.far hs (fun k h => h.2)); have IYc := hide (IYb.out.far hs (fun k h => h.2)); have HKc := hide (HKb.out.set7 Ly.out (.int .u8 1) (.bool ng') (.slice Ay n' cy) (.string { data := #[] }) (.int .i64 0) (.slice none 0 0) (.slice none 0 0))
          clear hs z0 z1 z2 z3 z4 z5 z6 f0 f1 f2 f3 f4 f5 f6 BXb BYb IXb IYb HKb
          generalize (((((((Wb.setCell ⟨gy, 0, none⟩ (.int .u8 1)).setCell ⟨gy, 1, none⟩ (.bool ng')).setCell ⟨gy, 2, none⟩ (.slice Ay n' cy)).setCell ⟨gy, 3, none⟩ (.string { data := #[] })).setCell ⟨gy, 4, none⟩ (.int .i64 0)).setCell ⟨gy, 5, none⟩ (.slice none 0 0)).setCell ⟨gy, 6, none⟩ (.slice none 0 0)) = Wc at *
          refine order_done (by kernel_rfl) ?_
          go_wp2_with fail
          go_meet
          exact ⟨gx, gy, Ax, cx, Ay, cy, rfl, rfl, hide ⟨HWV.out.trans' HKc.out (fun _ _ h => h) (fun _ _ h => h), BXc.out, BYc.out, IXc.out, IYc.out, HNE.out, HSZ.out ▸ Lx.out, HSZ.out ▸ Ly.out⟩⟩
        · skip
          go_simp
          refine hK _ _ (fun _ hS => hS.alloc _) ?_
          clear hK
          try simp only [Act.put, List.setIfInBounds_toArray, List.set_cons_succ, List.set_cons_zero]
          obtain ⟨gy, hgy⟩ : ∃ gy, V2.heap.size = gy := ⟨_, rfl⟩
          have HV5 := hide (HV2.out.alloc (.cells #[.int .u8 0, .bool false, .slice none 0 0, .string { data := #[] }, .int .i64 0, .slice none 0 0, .slice none 0 0] 26))
          have Ly := hide (show W0.heap.size ≤ gy from hgy ▸ HV2.out.size)
          have BY5 := hide (Blk.new V2 26 #[.int .u8 0, .bool false, .slice none 0 0, .string { data := #[] }, .int .i64 0, .slice none 0 0, .slice none 0 0])
          have IX5 := hide (((IX2.out.more (B' := fun k => True ∧ ¬ k = V2.heap.size) (fun k hk h => ⟨trivial, Nat.ne_of_lt hk⟩)).keep ((Keeps.refl NoB V2).alloc (.cells #[.int .u8 0, .bool false, .slice none 0 0, .string { data := #[] }, .int .i64 0, .slice none 0 0, .slice none 0 0] 26))))
          have IY5 := hide (((IY2.out.more (B' := fun k => True ∧ ¬ k = V2.heap.size) (fun k hk h => ⟨trivial, Nat.ne_of_lt hk⟩)).keep ((Keeps.refl NoB V2).alloc (.cells #[.int .u8 0, .bool false, .slice none 0 0, .string { data := #[] }, .int .i64 0, .slice none 0 0, .slice none 0 0] 26))))
          clear HV2 IX2 IY2
          rw [hgy] at BY5 IX5 IY5 ⊢
          generalize V2.alloc (.cells #[.int .u8 0, .bool false, .slice none 0 0, .string { data := #[] }, .int .i64 0, .slice none 0 0, .slice none 0 0] 26) = V5 at *
          clear hgy
          refine order_one (i := 4) rfl (by kernel_rfl) (fun K hK => ?_)
          go_simp
          refine hK _ _ (fun _ hS => hS.alloc _) ?_
          clear hK
          try simp only [Act.put, List.setIfInBounds_toArray, List.set_cons_succ, List.set_cons_zero]
          obtain ⟨gx, hgx⟩ : ∃ gx, V5.heap.size = gx := ⟨_, rfl⟩
          have HV6 := hide (HV5.out.alloc (.cells #[.int .u8 0, .bool false, .slice none 0 0, .string { data := #[] }, .int .i64 0, .slice none 0 0, .slice none 0 0] 26))
          have Lx := hide (show W0.heap.size ≤ gx from hgx ▸ HV5.out.size)
          have BX6 := hide (Blk.new V5 26 #[.int .u8 0, .bool false, .slice none 0 0, .string { data := #[] }, .int .i64 0, .slice none 0 0, .slice none 0 0])
          have BY6 := hide (BY5.out.alloc (.cells #[.int .u8 0, .bool false, .slice none 0 0, .string { data := #[] }, .int .i64 0, .slice none 0 0, .slice none 0 0] 26))
          have HNE := hide (show ¬ gx = gy from by have := BY5.out.lt; omega)
          have IX6 := hide (((IX5.out.more (B' := fun k => True ∧ ¬ k = gy ∧ ¬ k = V5.heap.size) (fun k hk h => ⟨h.1, h.2, Nat.ne_of_lt hk⟩)).keep ((Keeps.refl NoB V5).alloc (.cells #[.int .u8 0, .bool false, .slice none 0 0, .string { data := #[] }, .int .i64 0, .slice none 0 0, .slice none 0 0] 26))))
          have IY6 := hide (((IY5.out.more (B' := fun k => True ∧ ¬ k = gy ∧ ¬ k = V5.heap.size) (fun k hk h => ⟨h.1, h.2, Nat.ne_of_lt hk⟩)).keep ((Keeps.refl NoB V5).alloc (.cells #[.int .u8 0, .bool false, .slice none 0 0, .string { data := #[] }, .int .i64 0, .slice none 0 0, .slice none 0 0] 26))))
          clear HV5 BY5 IX5 IY5
          rw [hgx] at BX6 IX6 IY6 ⊢
          generalize V5.alloc (.cells #[.int .u8 0, .bool false, .slice none 0 0, .string { data := #[] }, .int .i64 0, .slice none 0 0, .slice none 0 0] 26) = V6 at *
          clear hgx
          have IXa := hide (IX6.out.more (B' := fun k => ¬ k = gx ∧ ¬ k = gy) (fun k _ h => ⟨h.2.2, h.2.1⟩)); have IYa := hide (IY6.out.more (B' := fun k => ¬ k = gx ∧ ¬ k = gy) (fun k _ h => ⟨h.2.2, h.2.1⟩))
          have z0 : V6.cell? ⟨gx, 0, none⟩ = some (.int .u8 0) := BX6.out.cell 0; have z1 : V6.cell? ⟨gx, 1, none⟩ = some (.bool false) := BX6.out.cell 1; have z2 : V6.cell? ⟨gx, 2, none⟩ = some (.slice none 0 0) := BX6.out.cell 2; have z3 : V6.cell? ⟨gx, 3, none⟩ = some (.string { data := #[] }) := BX6.out.cell 3; have z4 : V6.cell? ⟨gx, 4, none⟩ = some (.int .i64 0) := BX6.out.cell 4; have z5 : V6.cell? ⟨gx, 5, none⟩ = some (.slice none 0 0) := BX6.out.cell 5; have z6 : V6.cell? ⟨gx, 6, none⟩ = some (.slice none 0 0) := BX6.out.cell 6
          have f0 : V6.frozen? ⟨gx, 0, none⟩ = false := BX6.out.free 0; have f1 : V6.frozen? ⟨gx, 1, none⟩ = false := BX6.out.free 1; have f2 : V6.frozen? ⟨gx, 2, none⟩ = false := BX6.out.free 2; have f3 : V6.frozen? ⟨gx, 3, none⟩ = false := BX6.out.free 3; have f4 : V6.frozen? ⟨gx, 4, none⟩ = false := BX6.out.free 4; have f5 : V6.frozen? ⟨gx, 5, none⟩ = false := BX6.out.free 5; have f6 : V6.frozen? ⟨gx, 6, none⟩ = false := BX6.out.free 6
          refine order_one (i := 6) rfl (by kernel_rfl) (fun K hK => ?_)
          go_simp
          refine hK _ _ (fun h => by cases h) ?_
          clear hK
          try simp only [Act.put, List.setIfInBounds_toArray, List.set_cons_succ, List.set_cons_zero]
          have hs := Keeps.set7' (w := V6) (g := gx) (.int .u8 1) (.bool ng) (.slice Ax nr cx) (.string { data := #[] }) (.int .i64 0) (.slice none 0 0) (.slice none 0 0)
          have BXb := hide (BX6.out.put7 (.int .u8 1) (.bool ng) (.slice Ax nr cx) (.string { data := #[] }) (.int .i64 0) (.slice none 0 0) (.slice none 0 0)); have BYb := hide (BY6.out.keep hs (fun e => HNE.out e.symm)); have IXb := hide (IXa.out.far hs (fun k h => h.1)); have IYb := hide (IYa.out.far hs (fun k h => h.1)); have HKb := hide (HV6.out.set7 Lx.out (.int .u8 1) (.bool ng) (.slice Ax nr cx) (.string { data := #[] }) (.int .i64 0) (.slice none 0 0) (.slice none 0 0))
          clear hs z0 z1 z2 z3 z4 z5 z6 f0 f1 f2 f3 f4 f5 f6 IXa IYa BX6 BY6 IX6 IY6 HV6
          generalize (((((((V6.setCell ⟨gx, 0, none⟩ (.int .u8 1)).setCell ⟨gx, 1, none⟩ (.bool ng)).setCell ⟨gx, 2, none⟩ (.slice Ax nr cx)).setCell ⟨gx, 3, none⟩ (.string { data := #[] })).setCell ⟨gx, 4, none⟩ (.int .i64 0)).setCell ⟨gx, 5, none⟩ (.slice none 0 0)).setCell ⟨gx, 6, none⟩ (.slice none 0 0)) = Wb at *
          have z0 : Wb.cell? ⟨gy, 0, none⟩ = some (.int .u8 0) := BYb.out.cell 0; have z1 : Wb.cell? ⟨gy, 1, none⟩ = some (.bool false) := BYb.out.cell 1; have z2 : Wb.cell? ⟨gy, 2, none⟩ = some (.slice none 0 0) := BYb.out.cell 2; have z3 : Wb.cell? ⟨gy, 3, none⟩ = some (.string { data := #[] }) := BYb.out.cell 3; have z4 : Wb.cell? ⟨gy, 4, none⟩ = some (.int .i64 0) := BYb.out.cell 4; have z5 : Wb.cell? ⟨gy, 5, none⟩ = some (.slice none 0 0) := BYb.out.cell 5; have z6 : Wb.cell? ⟨gy, 6, none⟩ = some (.slice none 0 0) := BYb.out.cell 6
          have f0 : Wb.frozen? ⟨gy, 0, none⟩ = false := BYb.out.free 0; have f1 : Wb.frozen? ⟨gy, 1, none⟩ = false := BYb.out.free 1; have f2 : Wb.frozen? ⟨gy, 2, none⟩ = false := BYb.out.free 2; have f3 : Wb.frozen? ⟨gy, 3, none⟩ = false := BYb.out.free 3; have f4 : Wb.frozen? ⟨gy, 4, none⟩ = false := BYb.out.free 4; have f5 : Wb.frozen? ⟨gy, 5, none⟩ = false := BYb.out.free 5; have f6 : Wb.frozen? ⟨gy, 6, none⟩ = false := BYb.out.free 6
          refine order_one (i := 7) rfl (by kernel_rfl) (fun K hK => ?_)
          go_simp
          refine hK _ _ (fun h => by cases h) ?_
          clear hK
          try simp only [Act.put, List.setIfInBounds_toArray, List.set_cons_succ, List.set_cons_zero]
          have hs := Keeps.set7' (w := Wb) (g := gy) (.int .u8 1) (.bool ng') (.slice Ay n' cy) (.string { data := #[] }) (.int .i64 0) (.slice none 0 0) (.slice none 0 0)
          have BXc := hide (BXb.out.keep hs HNE.out); have BYc := hide (BYb.out.put7 (.int .u8 1) (.bool ng') (.slice Ay n' cy) (.string { data := #[] }) (.int .i64 0) (.slice none 0 0) (.slice none 0 0)); have IXc := hide (IXb.out.far hs (fun k h => h.2)); have IYc := hide (IYb.out.far hs (fun k h => h.2)); have HKc := hide (HKb.out.set7 Ly.out (.int .u8 1) (.bool ng') (.slice Ay n' cy) (.string { data := #[] }) (.int .i64 0) (.slice none 0 0) (.slice none 0 0))
          clear hs z0 z1 z2 z3 z4 z5 z6 f0 f1 f2 f3 f4 f5 f6 BXb BYb IXb IYb HKb
          generalize (((((((Wb.setCell ⟨gy, 0, none⟩ (.int .u8 1)).setCell ⟨gy, 1, none⟩ (.bool ng')).setCell ⟨gy, 2, none⟩ (.slice Ay n' cy)).setCell ⟨gy, 3, none⟩ (.string { data := #[] })).setCell ⟨gy, 4, none⟩ (.int .i64 0)).setCell ⟨gy, 5, none⟩ (.slice none 0 0)).setCell ⟨gy, 6, none⟩ (.slice none 0 0)) = Wc at *
          refine order_done (by kernel_rfl) ?_
          go_wp2_with fail
          go_meet
          exact ⟨gx, gy, Ax, cx, Ay, cy, rfl, rfl, hide ⟨HWV.out.trans' HKc.out (fun _ _ h => h) (fun _ _ h => h), BXc.out, BYc.out, IXc.out, IYc.out, HNE.out, HSZ.out ▸ Lx.out, HSZ.out ▸ Ly.out⟩⟩
      · skip
        go_simp
        refine hK _ _ (fun _ hS => hS.alloc _) ?_
        clear hK
        try simp only [Act.put, List.setIfInBounds_toArray, List.set_cons_succ, List.set_cons_zero]
        obtain ⟨gx, hgx⟩ : ∃ gx, V1.heap.size = gx := ⟨_, rfl⟩
        have HV7 := hide (HV1.out.alloc (.cells #[.int .u8 0, .bool false, .slice none 0 0, .string { data := #[] }, .int .i64 0, .slice none 0 0, .slice none 0 0] 26))
        have Lx := hide (show W0.heap.size ≤ gx from hgx ▸ HV1.out.size)
        have BX7 := hide (Blk.new V1 26 #[.int .u8 0, .bool false, .slice none 0 0, .string { data := #[] }, .int .i64 0, .slice none 0 0, .slice none 0 0])
        have IX7 := hide (((IX1.out.more (B' := fun k => True ∧ ¬ k = V1.heap.size) (fun k hk h => ⟨trivial, Nat.ne_of_lt hk⟩)).keep ((Keeps.refl NoB V1).alloc (.cells #[.int .u8 0, .bool false, .slice none 0 0, .string { data := #[] }, .int .i64 0, .slice none 0 0, .slice none 0 0] 26))))
        clear HV1 IX1
        rw [hgx] at BX7 IX7 ⊢
        generalize V1.alloc (.cells #[.int .u8 0, .bool false, .slice none 0 0, .string { data := #[] }, .int .i64 0, .slice none 0 0, .slice none 0 0] 26) = V7 at *
        clear hgx
        refine order_two (i := 3) (j := 5) rfl rfl (by kernel_rfl) (fun K hK => ?_) (fun K hK => ?_)
        · skip
          go_simp
          refine (copy_int ng' A' ia' ta' n' c' ic' tc' y _ _ (IB0.out.keep HV7.out)).mono ?_
          rintro e V8 ⟨Ay, cy, rfl, icx, hk⟩
          refine hK _ _ (fun _ hS => hS.trans' hk (fun _ _ => id) (fun _ _ => id)) ?_
          clear hK
          try simp only [Act.put, List.setIfInBounds_toArray, List.set_cons_succ, List.set_cons_zero]
          have HV8 := hide (HV7.out.trans' hk (fun _ _ h => h) (fun _ _ h => h))
          have IY8 := hide (icx.more (B' := fun k => True ∧ ¬ k = gx) (fun k _ hB => by have lx := BX7.out.lt; have hB' : V7.heap.size ≤ k := hB; exact ⟨trivial, by omega⟩))
          have BX8 := hide (BX7.out.keep hk id)
          have IX8 := hide (IX7.out.keep hk)
          clear HV7 icx hk BX7 IX7
          refine order_one (i := 5) rfl (by kernel_rfl) (fun K hK => ?_)
          go_simp
          refine hK _ _ (fun _ hS => hS.alloc _) ?_
          clear hK
          try simp only [Act.put, List.setIfInBounds_toArray, List.set_cons_succ, List.set_cons_zero]
          obtain ⟨gy, hgy⟩ : ∃ gy, V8.heap.size = gy := ⟨_, rfl⟩
          have HV9 := hide (HV8.out.alloc (.cells #[.int .u8 0, .bool false, .slice none 0 0, .string { data := #[] }, .int .i64 0, .slice none 0 0, .slice none 0 0] 26))
          have Ly := hide (show W0.heap.size ≤ gy from hgy ▸ HV8.out.size)
          have BY9 := hide (Blk.new V8 26 #[.int .u8 0, .bool false, .slice none 0 0, .string { data := #[] }, .int .i64 0, .slice none 0 0, .slice none 0 0])
          have BX9 := hide (BX8.out.alloc (.cells #[.int .u8 0, .bool false, .slice none 0 0, .string { data := #[] }, .int .i64 0, .slice none 0 0, .slice none 0 0] 26))
          have HNE := hide (show ¬ gx = gy from by have := BX8.out.lt; omega)
          have IX9 := hide (((IX8.out.more (B' := fun k => True ∧ ¬ k = gx ∧ ¬ k = V8.heap.size) (fun k hk h => ⟨h.1, h.2, Nat.ne_of_lt hk⟩)).keep ((Keeps.refl NoB V8).alloc (.cells #[.int .u8 0, .bool false, .slice none 0 0, .string { data := #[] }, .int .i64 0, .slice none 0 0, .slice none 0 0] 26))))
          have IY9 := hide (((IY8.out.more (B' := fun k => True ∧ ¬ k = gx ∧ ¬ k = V8.heap.size) (fun k hk h => ⟨h.1, h.2, Nat.ne_of_lt hk⟩)).keep ((Keeps.refl NoB V8).alloc (.cells #[.int .u8 0, .bool false, .slice none 0 0, .string { data := #[] }, .int .i64 0, .slice none 0 0, .slice none 0 0] 26))))
          clear HV8 BX8 IX8 IY8
          rw [hgy] at BY9 IX9 IY9 ⊢
          generalize V8.alloc (.cells #[.int .u8 0, .bool false, .slice none 0 0, .string { data := #[] }, .int .i64 0, .slice none 0 0, .slice none 0 0] 26) = V9 at *
          clear hgy
          have IXa := hide (IX9.out.more (B' := fun k => ¬ k = gx ∧ ¬ k = gy) (fun k _ h => ⟨h.2.1, h.2.2⟩)); have IYa := hide (IY9.out.more (B' := fun k => ¬ k = gx ∧ ¬ k = gy) (fun k _ h => ⟨h.2.1, h.2.2⟩))
          have z0 : V9.cell? ⟨gx, 0, none⟩ = some (.int .u8 0) := BX9.out.cell 0; have z1 : V9.cell? ⟨gx, 1, none⟩ = some (.bool false) := BX9.out.cell 1; have z2 : V9.cell? ⟨gx, 2, none⟩ = some (.slice none 0 0) := BX9.out.cell 2; have z3 : V9.cell? ⟨gx, 3, none⟩ = some (.string { data := #[] }) := BX9.out.cell 3; have z4 : V9.cell? ⟨gx, 4, none⟩ = some (.int .i64 0) := BX9.out.cell 4; have z5 : V9.cell? ⟨gx, 5, none⟩ = some (.slice none 0 0) := BX9.out.cell 5; have z6 : V9.cell? ⟨gx, 6, none⟩ = some (.slice none 0 0) := BX9.out.cell 6
          have f0 : V9.frozen? ⟨gx, 0, none⟩ = false := BX9.out.free 0; have f1 : V9.frozen? ⟨gx, 1, none⟩ = false := BX9.out.free 1; have f2 : V9.frozen? ⟨gx, 2, none⟩ = false := BX9.out.free 2; have f3 : V9.frozen? ⟨gx, 3, none⟩ = false := BX9.out.free 3; have f4 : V9.frozen? ⟨gx, 4, none⟩ = false := BX9.out.free 4; have f5 : V9.frozen? ⟨gx, 5, none⟩ = false := BX9.out.free 5; have f6 : V9.frozen? ⟨gx, 6, none⟩ = false := BX9.out.free 6
          refine order_one (i := 6) rfl (by kernel_rfl) (fun K hK => ?_)
          go_simp
          refine hK _ _ (fun h => by cases h) ?_
          clear hK
          try simp only [Act.put, List.setIfInBounds_toArray, List.set_cons_succ, List.set_cons_zero]
          have hs := Keeps.set7' (w := V9) (g := gx) (.int .u8 1) (.bool ng) (.slice Ax nr cx) (.string { data := #[] }) (.int .i64 0) (.slice none 0 0) (.slice none 0 0)
          have BXb := hide (BX9.out.put7 (.int .u8 1) (.bool ng) (.slice Ax nr cx) (.string { data := #[] }) (.int .i64 0) (.slice none 0 0) (.slice none 0 0)); have BYb := hide (BY9.out.keep hs (fun e => HNE.out e.symm)); have IXb := hide (IXa.out.far hs (fun k h => h.1)); have IYb := hide (IYa.out.far hs (fun k h => h.1)); have HKb := hide (HV9.out.set7 Lx.out (.int .u8 1) (.bool ng) (.slice Ax nr cx) (.string { data := #[] }) (.int .i64 0) (.slice none 0 0) (.slice none 0 0))
          clear hs z0 z1 z2 z3 z4 z5 z6 f0 f1 f2 f3 f4 f5 f6 IXa IYa BX9 BY9 IX9 IY9 HV9
          generalize (((((((V9.setCell ⟨gx, 0, none⟩ (.int .u8 1)).setCell ⟨gx, 1, none⟩ (.bool ng)).setCell ⟨gx, 2, none⟩ (.slice Ax nr cx)).setCell ⟨gx, 3, none⟩ (.string { data := #[] })).setCell ⟨gx, 4, none⟩ (.int .i64 0)).setCell ⟨gx, 5, none⟩ (.slice none 0 0)).setCell ⟨gx, 6, none⟩ (.slice none 0 0)) = Wb at *
          have z0 : Wb.cell? ⟨gy, 0, none⟩ = some (.int .u8 0) := BYb.out.cell 0; have z1 : Wb.cell? ⟨gy, 1, none⟩ = some (.bool false) := BYb.out.cell 1; have z2 : Wb.cell? ⟨gy, 2, none⟩ = some (.slice none 0 0) := BYb.out.cell 2; have z3 : Wb.cell? ⟨gy, 3, none⟩ = some (.string { data := #[] }) := BYb.out.cell 3; have z4 : Wb.cell? ⟨gy, 4, none⟩ = some (.int .i64 0) := BYb.out.cell 4; have z5 : Wb.cell? ⟨gy, 5, none⟩ = some (.slice none 0 0) := BYb.out.cell 5; have z6 : Wb.cell? ⟨gy, 6, none⟩ = some (.slice none 0 0) := BYb.out.cell 6
          have f0 : Wb.frozen? ⟨gy, 0, none⟩ = false := BYb.out.free 0; have f1 : Wb.frozen? ⟨gy, 1, none⟩ = false := BYb.out.free 1; have f2 : Wb.frozen? ⟨gy, 2, none⟩ = false := BYb.out.free 2; have f3 : Wb.frozen? ⟨gy, 3, none⟩ = false := BYb.out.free 3; have f4 : Wb.frozen? ⟨gy, 4, none⟩ = false := BYb.out.free 4; have f5 : Wb.frozen? ⟨gy, 5, none⟩ = false := BYb.out.free 5; have f6 : Wb.frozen? ⟨gy, 6, none⟩ = false := BYb.out.free 6
          refine order_one (i := 7) rfl (by kernel_rfl) (fun K hK => ?_)
          go_simp
          refine hK _ _ (fun h => by cases h) ?_
          clear hK
          try simp only [Act.put, List.setIfInBounds_toArray, List.set_cons_succ, List.set_cons_zero]
          have hs := Keeps.set7' (w := Wb) (g := gy) (.int .u8 1) (.bool ng') (.slice Ay n' cy) (.string { data := #[] }) (.int .i64 0) (.slice none 0 0) (.slice none 0 0)
          have BXc := hide (BXb.out.keep hs HNE.out); have BYc := hide (BYb.out.put7 (.int .u8 1) (.bool ng') (.slice Ay n' cy) (.string { data := #[] }) (.int .i64 0) (.slice none 0 0) (.slice none 0 0)); have IXc := hide (IXb.out.far hs (fun k h => h.2)); have IYc := hide (IYb.out.far hs (fun k h => h.2)); have HKc := hide (HKb.out.set7 Ly.out (.int .u8 1) (.bool ng') (.slice Ay n' cy) (.string { data := #[] }) (.int .i64 0) (.slice none 0 0) (.slice none 0 0))
          clear hs z0 z1 z2 z3 z4 z5 z6 f0 f1 f2 f3 f4 f5 f6 BXb BYb IXb IYb HKb
          generalize (((((((Wb.setCell ⟨gy, 0, none⟩ (.int .u8 1)).setCell ⟨gy, 1, none⟩ (.bool ng')).setCell ⟨gy, 2, none⟩ (.slice Ay n' cy)).setCell ⟨gy, 3, none⟩ (.string { data := #[] })).setCell ⟨gy, 4, none⟩ (.int .i64 0)).setCell ⟨gy, 5, none⟩ (.slice none 0 0)).setCell ⟨gy, 6, none⟩ (.slice none 0 0)) = Wc at *
          refine order_done (by kernel_rfl) ?_
          go_wp2_with fail
          go_meet
          exact ⟨gx, gy, Ax, cx, Ay, cy, rfl, rfl, hide ⟨HWV.out.trans' HKc.out (fun _ _ h => h) (fun _ _ h => h), BXc.out, BYc.out, IXc.out, IYc.out, HNE.out, HSZ.out ▸ Lx.out, HSZ.out ▸ Ly.out⟩⟩
        · skip
          go_simp
          refine hK _ _ (fun _ hS => hS.alloc _) ?_
          clear hK
          try simp only [Act.put, List.setIfInBounds_toArray, List.set_cons_succ, List.set_cons_zero]
          obtain ⟨gy, hgy⟩ : ∃ gy, V7.heap.size = gy := ⟨_, rfl⟩
          have HV10 := hide (HV7.out.alloc (.cells #[.int .u8 0, .bool false, .slice none 0 0, .string { data := #[] }, .int .i64 0, .slice none 0 0, .slice none 0 0] 26))
          have Ly := hide (show W0.heap.size ≤ gy from hgy ▸ HV7.out.size)
          have BY10 := hide (Blk.new V7 26 #[.int .u8 0, .bool false, .slice none 0 0, .string { data := #[] }, .int .i64 0, .slice none 0 0, .slice none 0 0])
          have BX10 := hide (BX7.out.alloc (.cells #[.int .u8 0, .bool false, .slice none 0 0, .string { data := #[] }, .int .i64 0, .slice none 0 0, .slice none 0 0] 26))
          have HNE := hide (show ¬ gx = gy from by have := BX7.out.lt; omega)
          have IX10 := hide (((IX7.out.more (B' := fun k => True ∧ ¬ k = gx ∧ ¬ k = V7.heap.size) (fun k hk h => ⟨h.1, h.2, Nat.ne_of_lt hk⟩)).keep ((Keeps.refl NoB V7).alloc (.cells #[.int .u8 0, .bool false, .slice none 0 0, .string { data := #[] }, .int .i64 0, .slice none 0 0, .slice none 0 0] 26))))
          clear HV7 BX7 IX7
          rw [hgy] at BY10 IX10 ⊢
          generalize V7.alloc (.cells #[.int .u8 0, .bool false, .slice none 0 0, .string { data := #[] }, .int .i64 0, .slice none 0 0, .slice none 0 0] 26) = V10 at *
          clear hgy
          refine order_one (i := 3) rfl (by kernel_rfl) (fun K hK => ?_)
          go_simp
          refine (copy_int ng' A' ia' ta' n' c' ic' tc' y _ _ (IB0.out.keep HV10.out)).mono ?_
          rintro e V11 ⟨Ay, cy, rfl, icx, hk⟩
          refine hK _ _ (fun _ hS => hS.trans' hk (fun _ _ => id) (fun _ _ => id)) ?_
          clear hK
          try simp only [Act.put, List.setIfInBounds_toArray, List.set_cons_succ, List.set_cons_zero]
          have HV11 := hide (HV10.out.trans' hk (fun _ _ h => h) (fun _ _ h => h))
          have IY11 := hide (icx.more (B' := fun k => True ∧ ¬ k = gx ∧ ¬ k = gy) (fun k _ hB => by have lx := BX10.out.lt; have ly := BY10.out.lt; have hB' : V10.heap.size ≤ k := hB; exact ⟨trivial, by omega, by omega⟩))
          have BX11 := hide (BX10.out.keep hk id)
          have BY11 := hide (BY10.out.keep hk id)
          have IX11 := hide (IX10.out.keep hk)
          clear HV10 icx hk BX10 BY10 IX10
          have IXa := hide (IX11.out.more (B' := fun k => ¬ k = gx ∧ ¬ k = gy) (fun k _ h => ⟨h.2.1, h.2.2⟩)); have IYa := hide (IY11.out.more (B' := fun k => ¬ k = gx ∧ ¬ k = gy) (fun k _ h => ⟨h.2.1, h.2.2⟩))
          have z0 : V11.cell? ⟨gx, 0, none⟩ = some (.int .u8 0) := BX11.out.cell 0; have z1 : V11.cell? ⟨gx, 1, none⟩ = some (.bool false) := BX11.out.cell 1; have z2 : V11.cell? ⟨gx, 2, none⟩ = some (.slice none 0 0) := BX11.out.cell 2; have z3 : V11.cell? ⟨gx, 3, none⟩ = some (.string { data := #[] }) := BX11.out.cell 3; have z4 : V11.cell? ⟨gx, 4, none⟩ = some (.int .i64 0) := BX11.out.cell 4; have z5 : V11.cell? ⟨gx, 5, none⟩ = some (.slice none 0 0) := BX11.out.cell 5; have z6 : V11.cell? ⟨gx, 6, none⟩ = some (.slice none 0 0) := BX11.out.cell 6
          have f0 : V11.frozen? ⟨gx, 0, none⟩ = false := BX11.out.free 0; have f1 : V11.frozen? ⟨gx, 1, none⟩ = false := BX11.out.free 1; have f2 : V11.frozen? ⟨gx, 2, none⟩ = false := BX11.out.free 2; have f3 : V11.frozen? ⟨gx, 3, none⟩ = false := BX11.out.free 3; have f4 : V11.frozen? ⟨gx, 4, none⟩ = false := BX11.out.free 4; have f5 : V11.frozen? ⟨gx, 5, none⟩ = false := BX11.out.free 5; have f6 : V11.frozen? ⟨gx, 6, none⟩ = false := BX11.out.free 6
          refine order_one (i := 6) rfl (by kernel_rfl) (fun K hK => ?_)
          go_simp
          refine hK _ _ (fun h => by cases h) ?_
          clear hK
          try simp only [Act.put, List.setIfInBounds_toArray, List.set_cons_succ, List.set_cons_zero]
          have hs := Keeps.set7' (w := V11) (g := gx) (.int .u8 1) (.bool ng) (.slice Ax nr cx) (.string { data := #[] }) (.int .i64 0) (.slice none 0 0) (.slice none 0 0)
          have BXb := hide (BX11.out.put7 (.int .u8 1) (.bool ng) (.slice Ax nr cx) (.string { data := #[] }) (.int .i64 0) (.slice none 0 0) (.slice none 0 0)); have BYb := hide (BY11.out.keep hs (fun e => HNE.out e.symm)); have IXb := hide (IXa.out.far hs (fun k h => h.1)); have IYb := hide (IYa.out.far hs (fun k h => h.1)); have HKb := hide (HV11.out.set7 Lx.out (.int .u8 1) (.bool ng) (.slice Ax nr cx) (.string { data := #[] }) (.int .i64 0) (.slice none 0 0) (.slice none 0 0))
          clear hs z0 z1 z2 z3 z4 z5 z6 f0 f1 f2 f3 f4 f5 f6 IXa IYa BX11 BY11 IX11 IY11 HV11
          generalize (((((((V11.setCell ⟨gx, 0, none⟩ (.int .u8 1)).setCell ⟨gx, 1, none⟩ (.bool ng)).setCell ⟨gx, 2, none⟩ (.slice Ax nr cx)).setCell ⟨gx, 3, none⟩ (.string { data := #[] })).setCell ⟨gx, 4, none⟩ (.int .i64 0)).setCell ⟨gx, 5, none⟩ (.slice none 0 0)).setCell ⟨gx, 6, none⟩ (.slice none 0 0)) = Wb at *
          have z0 : Wb.cell? ⟨gy, 0, none⟩ = some (.int .u8 0) := BYb.out.cell 0; have z1 : Wb.cell? ⟨gy, 1, none⟩ = some (.bool false) := BYb.out.cell 1; have z2 : Wb.cell? ⟨gy, 2, none⟩ = some (.slice none 0 0) := BYb.out.cell 2; have z3 : Wb.cell? ⟨gy, 3, none⟩ = some (.string { data := #[] }) := BYb.out.cell 3; have z4 : Wb.cell? ⟨gy, 4, none⟩ = some (.int .i64 0) := BYb.out.cell 4; have z5 : Wb.cell? ⟨gy, 5, none⟩ = some (.slice none 0 0) := BYb.out.cell 5; have z6 : Wb.cell? ⟨gy, 6, none⟩ = some (.slice none 0 0) := BYb.out.cell 6
          have f0 : Wb.frozen? ⟨gy, 0, none⟩ = false := BYb.out.free 0; have f1 : Wb.frozen? ⟨gy, 1, none⟩ = false := BYb.out.free 1; have f2 : Wb.frozen? ⟨gy, 2, none⟩ = false := BYb.out.free 2; have f3 : Wb.frozen? ⟨gy, 3, none⟩ = false := BYb.out.free 3; have f4 : Wb.frozen? ⟨gy, 4, none⟩ = false := BYb.out.free 4; have f5 : Wb.frozen? ⟨gy, 5, none⟩ = false := BYb.out.free 5; have f6 : Wb.frozen? ⟨gy, 6, none⟩ = false := BYb.out.free 6
          refine order_one (i := 7) rfl (by kernel_rfl) (fun K hK => ?_)
          go_simp
          refine hK _ _ (fun h => by cases h) ?_
          clear hK
          try simp only [Act.put, List.setIfInBounds_toArray, List.set_cons_succ, List.set_cons_zero]
          have hs := Keeps.set7' (w := Wb) (g := gy) (.int .u8 1) (.bool ng') (.slice Ay n' cy) (.string { data := #[] }) (.int .i64 0) (.slice none 0 0) (.slice none 0 0)
          have BXc := hide (BXb.out.keep hs HNE.out); have BYc := hide (BYb.out.put7 (.int .u8 1) (.bool ng') (.slice Ay n' cy) (.string { data := #[] }) (.int .i64 0) (.slice none 0 0) (.slice none 0 0)); have IXc := hide (IXb.out.far hs (fun k h => h.2)); have IYc := hide (IYb.out.far hs (fun k h => h.2)); have HKc := hide (HKb.out.set7 Ly.out (.int .u8 1) (.bool ng') (.slice Ay n' cy) (.string { data := #[] }) (.int .i64 0) (.slice none 0 0) (.slice none 0 0))
          clear hs z0 z1 z2 z3 z4 z5 z6 f0 f1 f2 f3 f4 f5 f6 BXb BYb IXb IYb HKb
          generalize (((((((Wb.setCell ⟨gy, 0, none⟩ (.int .u8 1)).setCell ⟨gy, 1, none⟩ (.bool ng')).setCell ⟨gy, 2, none⟩ (.slice Ay n' cy)).setCell ⟨gy, 3, none⟩ (.string { data := #[] })).setCell ⟨gy, 4, none⟩ (.int .i64 0)).setCell ⟨gy, 5, none⟩ (.slice none 0 0)).setCell ⟨gy, 6, none⟩ (.slice none 0 0)) = Wc at *
          refine order_done (by kernel_rfl) ?_
          go_wp2_with fail
          go_meet
          exact ⟨gx, gy, Ax, cx, Ay, cy, rfl, rfl, hide ⟨HWV.out.trans' HKc.out (fun _ _ h => h) (fun _ _ h => h), BXc.out, BYc.out, IXc.out, IYc.out, HNE.out, HSZ.out ▸ Lx.out, HSZ.out ▸ Ly.out⟩⟩
      · skip
        go_simp
        refine hK _ _ (fun _ hS => hS.alloc _) ?_
        clear hK
        try simp only [Act.put, List.setIfInBounds_toArray, List.set_cons_succ, List.set_cons_zero]
        obtain ⟨gy, hgy⟩ : ∃ gy, V1.heap.size = gy := ⟨_, rfl⟩
        have HV12 := hide (HV1.out.alloc (.cells #[.int .u8 0, .bool false, .slice none 0 0, .string { data := #[] }, .int .i64 0, .slice none 0 0, .slice none 0 0] 26))
        have Ly := hide (show W0.heap.size ≤ gy from hgy ▸ HV1.out.size)
        have BY12 := hide (Blk.new V1 26 #[.int .u8 0, .bool false, .slice none 0 0, .string { data := #[] }, .int .i64 0, .slice none 0 0, .slice none 0 0])
        have IX12 := hide (((IX1.out.more (B' := fun k => True ∧ ¬ k = V1.heap.size) (fun k hk h => ⟨trivial, Nat.ne_of_lt hk⟩)).keep ((Keeps.refl NoB V1).alloc (.cells #[.int .u8 0, .bool false, .slice none 0 0, .string { data := #[] }, .int .i64 0, .slice none 0 0, .slice none 0 0] 26))))
        clear HV1 IX1
        rw [hgy] at BY12 IX12 ⊢
        generalize V1.alloc (.cells #[.int .u8 0, .bool false, .slice none 0 0, .string { data := #[] }, .int .i64 0, .slice none 0 0, .slice none 0 0] 26) = V12 at *
        clear hgy
        refine order_two (i := 3) (j := 4) rfl rfl (by kernel_rfl) (fun K hK => ?_) (fun K hK => ?_)
        · skip
          go_simp
          refine (copy_int ng' A' ia' ta' n' c' ic' tc' y _ _ (IB0.out.keep HV12.out)).mono ?_
          rintro e V13 ⟨Ay, cy, rfl, icx, hk⟩
          refine hK _ _ (fun _ hS => hS.trans' hk (fun _ _ => id) (fun _ _ => id)) ?_
          clear hK
          try simp only [Act.put, List.setIfInBounds_toArray, List.set_cons_succ, List.set_cons_zero]
          have HV13 := hide (HV12.out.trans' hk (fun _ _ h => h) (fun _ _ h => h))
          have IY13 := hide (icx.more (B' := fun k => True ∧ ¬ k = gy) (fun k _ hB => by have ly := BY12.out.lt; have hB' : V12.heap.size ≤ k := hB; exact ⟨trivial, by omega⟩))
          have BY13 := hide (BY12.out.keep hk id)
          have IX13 := hide (IX12.out.keep hk)
          clear HV12 icx hk BY12 IX12
          refine order_one (i := 4) rfl (by kernel_rfl) (fun K hK => ?_)
          go_simp
          refine hK _ _ (fun _ hS => hS.alloc _) ?_
          clear hK
          try simp only [Act.put, List.setIfInBounds_toArray, List.set_cons_succ, List.set_cons_zero]
          obtain ⟨gx, hgx⟩ : ∃ gx, V13.heap.size = gx := ⟨_, rfl⟩
          have HV14 := hide (HV13.out.alloc (.cells #[.int .u8 0, .bool false, .slice none 0 0, .string { data := #[] }, .int .i64 0, .slice none 0 0, .slice none 0 0] 26))
          have Lx := hide (show W0.heap.size ≤ gx from hgx ▸ HV13.out.size)
          have BX14 := hide (Blk.new V13 26 #[.int .u8 0, .bool false, .slice none 0 0, .string { data := #[] }, .int .i64 0, .slice none 0 0, .slice none 0 0])
          have BY14 := hide (BY13.out.alloc (.cells #[.int .u8 0, .bool false, .slice none 0 0, .string { data := #[] }, .int .i64 0, .slice none 0 0, .slice none 0 0] 26))
          have HNE := hide (show ¬ gx = gy from by have := BY13.out.lt; omega)
          have IX14 := hide (((IX13.out.more (B' := fun k => True ∧ ¬ k = gy ∧ ¬ k = V13.heap.size) (fun k hk h => ⟨h.1, h.2, Nat.ne_of_lt hk⟩)).keep ((Keeps.refl NoB V13).alloc (.cells #[.int .u8 0, .bool false, .slice none 0 0, .string { data := #[] }, .int .i64 0, .slice none 0 0, .slice none 0 0] 26))))
          have IY14 := hide (((IY13.out.more (B' := fun k => True ∧ ¬ k = gy ∧ ¬ k = V13.heap.size) (fun k hk h => ⟨h.1, h.2, Nat.ne_of_lt hk⟩)).keep ((Keeps.refl NoB V13).alloc (.cells #[.int .u8 0, .bool false, .slice none 0 0, .string { data := #[] }, .int .i64 0, .slice none 0 0, .slice none 0 0] 26))))
          clear HV13 BY13 IX13 IY13
          rw [hgx] at BX14 IX14 IY14 ⊢
          generalize V13.alloc (.cells #[.int .u8 0, .bool false, .slice none 0 0, .string { data := #[] }, .int .i64 0, .slice none 0 0, .slice none 0 0] 26) = V14 at *
          clear hgx
          have IXa := hide (IX14.out.more (B' := fun k => ¬ k = gx ∧ ¬ k = gy) (fun k _ h => ⟨h.2.2, h.2.1⟩)); have IYa := hide (IY14.out.more (B' := fun k => ¬ k = gx ∧ ¬ k = gy) (fun k _ h => ⟨h.2.2, h.2.1⟩))
          have z0 : V14.cell? ⟨gx, 0, none⟩ = some (.int .u8 0) := BX14.out.cell 0; have z1 : V14.cell? ⟨gx, 1, none⟩ = some (.bool false) := BX14.out.cell 1; have z2 : V14.cell? ⟨gx, 2, none⟩ = some (.slice none 0 0) := BX14.out.cell 2; have z3 : V14.cell? ⟨gx, 3, none⟩ = some (.string { data := #[] }) := BX14.out.cell 3; have z4 : V14.cell? ⟨gx, 4, none⟩ = some (.int .i64 0) := BX14.out.cell 4; have z5 : V14.cell? ⟨gx, 5, none⟩ = some (.slice none 0 0) := BX14.out.cell 5; have z6 : V14.cell? ⟨gx, 6, none⟩ = some (.slice none 0 0) := BX14.out.cell 6
          have f0 : V14.frozen? ⟨gx, 0, none⟩ = false := BX14.out.free 0; have f1 : V14.frozen? ⟨gx, 1, none⟩ = false := BX14.out.free 1; have f2 : V14.frozen? ⟨gx, 2, none⟩ = false := BX14.out.free 2; have f3 : V14.frozen? ⟨gx, 3, none⟩ = false := BX14.out.free 3; have f4 : V14.frozen? ⟨gx, 4, none⟩ = false := BX14.out.free 4; have f5 : V14.frozen? ⟨gx, 5, none⟩ = false := BX14.out.free 5; have f6 : V14.frozen? ⟨gx, 6, none⟩ = false := BX14.out.free 6
          refine order_one (i := 6) rfl (by kernel_rfl) (fun K hK => ?_)
          go_simp
          refine hK _ _ (fun h => by cases h) ?_
          clear hK
          try simp only [Act.put, List.setIfInBounds_toArray, List.set_cons_succ, List.set_cons_zero]
          have hs := Keeps.set7' (w := V14) (g := gx) (.int .u8 1) (.bool ng) (.slice Ax nr cx) (.string { data := #[] }) (.int .i64 0) (.slice none 0 0) (.slice none 0 0)
          have BXb := hide (BX14.out.put7 (.int .u8 1) (.bool ng) (.slice Ax nr cx) (.string { data := #[] }) (.int .i64 0) (.slice none 0 0) (.slice none 0 0)); have BYb := hide (BY14.out.keep hs (fun e => HNE.out e.symm)); have IXb := hide (IXa.out.far hs (fun k h => h.1)); have IYb := hide (IYa.out.far hs (fun k h => h.1)); have HKb := hide (HV14.out.set7 Lx.out (.int .u8 1) (.bool ng) (.slice Ax nr cx) (.string { data := #[] }) (.int .i64 0) (.slice none 0 0) (.slice none 0 0))
          clear hs z0 z1 z2 z3 z4 z5 z6 f0 f1 f2 f3 f4 f5 f6 IXa IYa BX14 BY14 IX14 IY14 HV14
          generalize (((((((V14.setCell ⟨gx, 0, none⟩ (.int .u8 1)).setCell ⟨gx, 1, none⟩ (.bool ng)).setCell ⟨gx, 2, none⟩ (.slice Ax nr cx)).setCell ⟨gx, 3, none⟩ (.string { data := #[] })).setCell ⟨gx, 4, none⟩ (.int .i64 0)).setCell ⟨gx, 5, none⟩ (.slice none 0 0)).setCell ⟨gx, 6, none⟩ (.slice none 0 0)) = Wb at *
          have z0 : Wb.cell? ⟨gy, 0, none⟩ = some (.int .u8 0) := BYb.out.cell 0; have z1 : Wb.cell? ⟨gy, 1, none⟩ = some (.bool false) := BYb.out.cell 1; have z2 : Wb.cell? ⟨gy, 2, none⟩ = some (.slice none 0 0) := BYb.out.cell 2; have z3 : Wb.cell? ⟨gy, 3, none⟩ = some (.string { data := #[] }) := BYb.out.cell 3; have z4 : Wb.cell? ⟨gy, 4, none⟩ = some (.int .i64 0) := BYb.out.cell 4; have z5 : Wb.cell? ⟨gy, 5, none⟩ = some (.slice none 0 0) := BYb.out.cell 5; have z6 : Wb.cell? ⟨gy, 6, none⟩ = some (.slice none 0 0) := BYb.out.cell 6
          have f0 : Wb.frozen? ⟨gy, 0, none⟩ = false := BYb.out.free 0; have f1 : Wb.frozen? ⟨gy, 1, none⟩ = false := BYb.out.free 1; have f2 : Wb.frozen? ⟨gy, 2, none⟩ = false := BYb.out.free 2; have f3 : Wb.frozen? ⟨gy, 3, none⟩ = false := BYb.out.free 3; have f4 : Wb.frozen? ⟨gy, 4, none⟩ = false := BYb.out.free 4; have f5 : Wb.frozen? ⟨gy, 5, none⟩ = false := BYb.out.free 5; have f6 : Wb.frozen? ⟨gy, 6, none⟩ = false := BYb.out.free 6
          refine order_one (i := 7) rfl (by kernel_rfl) (fun K hK => ?_)
          go_simp
          refine hK _ _ (fun h => by cases h) ?_
          clear hK
          try simp only [Act.put, List.setIfInBounds_toArray, List.set_cons_succ, List.set_cons_zero]
          have hs := Keeps.set7' (w := Wb) (g := gy) (.int .u8 1) (.bool ng') (.slice Ay n' cy) (.string { data := #[] }) (.int .i64 0) (.slice none 0 0) (.slice none 0 0)
          have BXc := hide (BXb.out.keep hs HNE.out); have BYc := hide (BYb.out.put7 (.int .u8 1) (.bool ng') (.slice Ay n' cy) (.string { data := #[] }) (.int .i64 0) (.slice none 0 0) (.slice none 0 0)); have IXc := hide (IXb.out.far hs (fun k h => h.2)); have IYc := hide (IYb.out.far hs (fun k h => h.2)); have HKc := hide (HKb.out.set7 Ly.out (.int .u8 1) (.bool ng') (.slice Ay n' cy) (.string { data := #[] }) (.int .i64 0) (.slice none 0 0) (.slice none 0 0))
          clear hs z0 z1 z2 z3 z4 z5 z6 f0 f1 f2 f3 f4 f5 f6 BXb BYb IXb IYb HKb
          generalize (((((((Wb.setCell ⟨gy, 0, none⟩ (.int .u8 1)).setCell ⟨gy, 1, none⟩ (.bool ng')).setCell ⟨gy, 2, none⟩ (.slice Ay n' cy)).setCell ⟨gy, 3, none⟩ (.string { data := #[] })).setCell ⟨gy, 4, none⟩ (.int .i64 0)).setCell ⟨gy, 5, none⟩ (.slice none 0 0)).setCell ⟨gy, 6, none⟩ (.slice none 0 0)) = Wc at *
          refine order_done (by kernel_rfl) ?_
          go_wp2_with fail
          go_meet
          exact ⟨gx, gy, Ax, cx, Ay, cy, rfl, rfl, hide ⟨HWV.out.trans' HKc.out (fun _ _ h => h) (fun _ _ h => h), BXc.out, BYc.out, IXc.out, IYc.out, HNE.out, HSZ.out ▸ Lx.out, HSZ.out ▸ Ly.out⟩⟩
        · skip
          go_simp
          refine hK _ _ (fun _ hS => hS.alloc _) ?_
          clear hK
          try simp only [Act.put, List.setIfInBounds_toArray, List.set_cons_succ, List.set_cons_zero]
          obtain ⟨gx, hgx⟩ : ∃ gx, V12.heap.size = gx := ⟨_, rfl⟩
          have HV15 := hide (HV12.out.alloc (.cells #[.int .u8 0, .bool false, .slice none 0 0, .string { data := #[] }, .int .i64 0, .slice none 0 0, .slice none 0 0] 26))
          have Lx := hide (show W0.heap.size ≤ gx from hgx ▸ HV12.out.size)
          have BX15 := hide (Blk.new V12 26 #[.int .u8 0, .bool false, .slice none 0 0, .string { data := #[] }, .int .i64 0, .slice none 0 0, .slice none 0 0])
          have BY15 := hide (BY12.out.alloc (.cells #[.int .u8 0, .bool false, .slice none 0 0, .string { data := #[] }, .int .i64 0, .slice none 0 0, .slice none 0 0] 26))
          have HNE := hide (show ¬ gx = gy from by have := BY12.out.lt; omega)
          have IX15 := hide (((IX12.out.more (B' := fun k => True ∧ ¬ k = gy ∧ ¬ k = V12.heap.size) (fun k hk h => ⟨h.1, h.2, Nat.ne_of_lt hk⟩)).keep ((Keeps.refl NoB V12).alloc (.cells #[.int .u8 0, .bool false, .slice none 0 0, .string { data := #[] }, .int .i64 0, .slice none 0 0, .slice none 0 0] 26))))
          clear HV12 BY12 IX12
          rw [hgx] at BX15 IX15 ⊢
          generalize V12.alloc (.cells #[.int .u8 0, .bool false, .slice none 0 0, .string { data := #[] }, .int .i64 0, .slice none 0 0, .slice none 0 0] 26) = V15 at *
          clear hgx
          refine order_one (i := 3) rfl (by kernel_rfl) (fun K hK => ?_)
          go_simp
          refine (copy_int ng' A' ia' ta' n' c' ic' tc' y _ _ (IB0.out.keep HV15.out)).mono ?_
          rintro e V16 ⟨Ay, cy, rfl, icx, hk⟩
          refine hK _ _ (fun _ hS => hS.trans' hk (fun _ _ => id) (fun _ _ => id)) ?_
          clear hK
          try simp only [Act.put, List.setIfInBounds_toArray, List.set_cons_succ, List.set_cons_zero]
          have HV16 := hide (HV15.out.trans' hk (fun _ _ h => h) (fun _ _ h => h))
          have IY16 := hide (icx.more (B' := fun k => True ∧ ¬ k = gy ∧ ¬ k = gx) (fun k _ hB => by have ly := BY15.out.lt; have lx := BX15.out.lt; have hB' : V15.heap.size ≤ k := hB; exact ⟨trivial, by omega, by omega⟩))
          have BX16 := hide (BX15.out.keep hk id)
          have BY16 := hide (BY15.out.keep hk id)
          have IX16 := hide (IX15.out.keep hk)
          clear HV15 icx hk BX15 BY15 IX15
          have IXa := hide (IX16.out.more (B' := fun k => ¬ k = gx ∧ ¬ k = gy) (fun k _ h => ⟨h.2.2, h.2.1⟩)); have IYa := hide (IY16.out.more (B' := fun k => ¬ k = gx ∧ ¬ k = gy) (fun k _ h => ⟨h.2.2, h.2.1⟩))
          have z0 : V16.cell? ⟨gx, 0, none⟩ = some (.int .u8 0) := BX16.out.cell 0; have z1 : V16.cell? ⟨gx, 1, none⟩ = some (.bool false) := BX16.out.cell 1; have z2 : V16.cell? ⟨gx, 2, none⟩ = some (.slice none 0 0) := BX16.out.cell 2; have z3 : V16.cell? ⟨gx, 3, none⟩ = some (.string { data := #[] }) := BX16.out.cell 3; have z4 : V16.cell? ⟨gx, 4, none⟩ = some (.int .i64 0) := BX16.out.cell 4; have z5 : V16.cell? ⟨gx, 5, none⟩ = some (.slice none 0 0) := BX16.out.cell 5; have z6 : V16.cell? ⟨gx, 6, none⟩ = some (.slice none 0 0) := BX16.out.cell 6
          have f0 : V16.frozen? ⟨gx, 0, none⟩ = false := BX16.out.free 0; have f1 : V16.frozen? ⟨gx, 1, none⟩ = false := BX16.out.free 1; have f2 : V16.frozen? ⟨gx, 2, none⟩ = false := BX16.out.free 2; have f3 : V16.frozen? ⟨gx, 3, none⟩ = false := BX16.out.free 3; have f4 : V16.frozen? ⟨gx, 4, none⟩ = false := BX16.out.free 4; have f5 : V16.frozen? ⟨gx, 5, none⟩ = false := BX16.out.free 5; have f6 : V16.frozen? ⟨gx, 6, none⟩ = false := BX16.out.free 6
          refine order_one (i := 6) rfl (by kernel_rfl) (fun K hK => ?_)
          go_simp
          refine hK _ _ (fun h => by cases h) ?_
          clear hK
          try simp only [Act.put, List.setIfInBounds_toArray, List.set_cons_succ, List.set_cons_zero]
          have hs := Keeps.set7' (w := V16) (g := gx) (.int .u8 1) (.bool ng) (.slice Ax nr cx) (.string { data := #[] }) (.int .i64 0) (.slice none 0 0) (.slice none 0 0)
          have BXb := hide (BX16.out.put7 (.int .u8 1) (.bool ng) (.slice Ax nr cx) (.string { data := #[] }) (.int .i64 0) (.slice none 0 0) (.slice none 0 0)); have BYb := hide (BY16.out.keep hs (fun e => HNE.out e.symm)); have IXb := hide (IXa.out.far hs (fun k h => h.1)); have IYb := hide (IYa.out.far hs (fun k h => h.1)); have HKb := hide (HV16.out.set7 Lx.out (.int .u8 1) (.bool ng) (.slice Ax nr cx) (.string { data := #[] }) (.int .i64 0) (.slice none 0 0) (.slice none 0 0))
          clear hs z0 z1 z2 z3 z4 z5 z6 f0 f1 f2 f3 f4 f5 f6 IXa IYa BX16 BY16 IX16 IY16 HV16
          generalize (((((((V16.setCell ⟨gx, 0, none⟩ (.int .u8 1)).setCell ⟨gx, 1, none⟩ (.bool ng)).setCell ⟨gx, 2, none⟩ (.slice Ax nr cx)).setCell ⟨gx, 3, none⟩ (.string { data := #[] })).setCell ⟨gx, 4, none⟩ (.int .i64 0)).setCell ⟨gx, 5, none⟩ (.slice none 0 0)).setCell ⟨gx, 6, none⟩ (.slice none 0 0)) = Wb at *
          have z0 : Wb.cell? ⟨gy, 0, none⟩ = some (.int .u8 0) := BYb.out.cell 0; have z1 : Wb.cell? ⟨gy, 1, none⟩ = some (.bool false) := BYb.out.cell 1; have z2 : Wb.cell? ⟨gy, 2, none⟩ = some (.slice none 0 0) := BYb.out.cell 2; have z3 : Wb.cell? ⟨gy, 3, none⟩ = some (.string { data := #[] }) := BYb.out.cell 3; have z4 : Wb.cell? ⟨gy, 4, none⟩ = some (.int .i64 0) := BYb.out.cell 4; have z5 : Wb.cell? ⟨gy, 5, none⟩ = some (.slice none 0 0) := BYb.out.cell 5; have z6 : Wb.cell? ⟨gy, 6, none⟩ = some (.slice none 0 0) := BYb.out.cell 6
          have f0 : Wb.frozen? ⟨gy, 0, none⟩ = false := BYb.out.free 0; have f1 : Wb.frozen? ⟨gy, 1, none⟩ = false := BYb.out.free 1; have f2 : Wb.frozen? ⟨gy, 2, none⟩ = false := BYb.out.free 2; have f3 : Wb.frozen? ⟨gy, 3, none⟩ = false := BYb.out.free 3; have f4 : Wb.frozen? ⟨gy, 4, none⟩ = false := BYb.out.free 4; have f5 : Wb.frozen? ⟨gy, 5, none⟩ = false := BYb.out.free 5; have f6 : Wb.frozen? ⟨gy, 6, none⟩ = false := BYb.out.free 6
          refine order_one (i := 7) rfl (by kernel_rfl) (fun K hK => ?_)
          go_simp
          refine hK _ _ (fun h => by cases h) ?_
          clear hK
          try simp only [Act.put, List.setIfInBounds_toArray, List.set_cons_succ, List.set_cons_zero]
          have hs := Keeps.set7' (w := Wb) (g := gy) (.int .u8 1) (.bool ng') (.slice Ay n' cy) (.string { data := #[] }) (.int .i64 0) (.slice none 0 0) (.slice none 0 0)
          have BXc := hide (BXb.out.keep hs HNE.out); have BYc := hide (BYb.out.put7 (.int .u8 1) (.bool ng') (.slice Ay n' cy) (.string { data := #[] }) (.int .i64 0) (.slice none 0 0) (.slice none 0 0)); have IXc := hide (IXb.out.far hs (fun k h => h.2)); have IYc := hide (IYb.out.far hs (fun k h => h.2)); have HKc := hide (HKb.out.set7 Ly.out (.int .u8 1) (.bool ng') (.slice Ay n' cy) (.string { data := #[] }) (.int .i64 0) (.slice none 0 0) (.slice none 0 0))
          clear hs z0 z1 z2 z3 z4 z5 z6 f0 f1 f2 f3 f4 f5 f6 BXb BYb IXb IYb HKb
          generalize (((((((Wb.setCell ⟨gy, 0, none⟩ (.int .u8 1)).setCell ⟨gy, 1, none⟩ (.bool ng')).setCell ⟨gy, 2, none⟩ (.slice Ay n' cy)).setCell ⟨gy, 3, none⟩ (.string { data := #[] })).setCell ⟨gy, 4, none⟩ (.int .i64 0)).setCell ⟨gy, 5, none⟩ (.slice none 0 0)).setCell ⟨gy, 6, none⟩ (.slice none 0 0)) = Wc at *
          refine order_done (by kernel_rfl) ?_
          go_wp2_with fail
          go_meet
          exact ⟨gx, gy, Ax, cx, Ay, cy, rfl, rfl, hide ⟨HWV.out.trans' HKc.out (fun _ _ h => h) (fun _ _ h => h), BXc.out, BYc.out, IXc.out, IYc.out, HNE.out, HSZ.out ▸ Lx.out, HSZ.out ▸ Ly.out⟩⟩
    · skip
      go_simp
      refine hK _ _ (fun _ hS => hS.alloc _) ?_
      clear hK
      try simp only [Act.put, List.setIfInBounds_toArray, List.set_cons_succ, List.set_cons_zero]
      obtain ⟨gx, hgx⟩ : ∃ gx, W0.heap.size = gx := ⟨_, rfl⟩
      have HV17 := hide (HK00.out.alloc (.cells #[.int .u8 0, .bool false, .slice none 0 0, .string { data := #[] }, .int .i64 0, .slice none 0 0, .slice none 0 0] 26))
      have Lx := hide (show W0.heap.size ≤ gx from hgx ▸ HK00.out.size)
      have BX17 := hide (Blk.new W0 26 #[.int .u8 0, .bool false, .slice none 0 0, .string { data := #[] }, .int .i64 0, .slice none 0 0, .slice none 0 0])
      rw [hgx] at BX17 ⊢
      generalize W0.alloc (.cells #[.int .u8 0, .bool false, .slice none 0 0, .string { data := #[] }, .int .i64 0, .slice none 0 0, .slice none 0 0] 26) = V17 at *
      clear hgx
      refine order_two (i := 1) (j := 5) rfl rfl (by kernel_rfl) (fun K hK => ?_) (fun K hK => ?_)
      · skip
        go_simp
        refine (copy_int ng Ar none none nr cr 0 0 (x.tmod y) _ _ (IR0.out.keep HV17.out)).mono ?_
        rintro e V18 ⟨Ax, cx, rfl, icx, hk⟩
        refine hK _ _ (fun _ hS => hS.trans' hk (fun _ _ => id) (fun _ _ => id)) ?_
        clear hK
        try simp only [Act.put, List.setIfInBounds_toArray, List.set_cons_succ, List.set_cons_zero]
        have HV18 := hide (HV17.out.trans' hk (fun _ _ h => h) (fun _ _ h => h))
        have IX18 := hide (icx.more (B' := fun k => True ∧ ¬ k = gx) (fun k _ hB => by have lx := BX17.out.lt; have hB' : V17.heap.size ≤ k := hB; exact ⟨trivial, by omega⟩))
        have BX18 := hide (BX17.out.keep hk id)
        clear HV17 icx hk BX17
        refine order_two (i := 3) (j := 5) rfl rfl (by kernel_rfl) (fun K hK => ?_) (fun K hK => ?_)
        · skip
          go_simp
          refine (copy_int ng' A' ia' ta' n' c' ic' tc' y _ _ (IB0.out.keep HV18.out)).mono ?_
          rintro e V19 ⟨Ay, cy, rfl, icx, hk⟩
          refine hK _ _ (fun _ hS => hS.trans' hk (fun _ _ => id) (fun _ _ => id)) ?_
          clear hK
          try simp only [Act.put, List.setIfInBounds_toArray, List.set_cons_succ, List.set_cons_zero]
          have HV19 := hide (HV18.out.trans' hk (fun _ _ h => h) (fun _ _ h => h))
          have IY19 := hide (icx.more (B' := fun k => True ∧ ¬ k = gx) (fun k _ hB => by have lx := BX18.out.lt; have hB' : V18.heap.size ≤ k := hB; exact ⟨trivial, by omega⟩))
          have BX19 := hide (BX18.out.keep hk id)
          have IX19 := hide (IX18.out.keep hk)
          clear HV18 icx hk BX18 IX18
          refine order_one (i := 5) rfl (by kernel_rfl) (fun K hK => ?_)
          go_simp
          refine hK _ _ (fun _ hS => hS.alloc _) ?_
          clear hK
          try simp only [Act.put, List.setIfInBounds_toArray, List.set_cons_succ, List.set_cons_zero]
          obtain ⟨gy, hgy⟩ : ∃ gy, V19.heap.size = gy := ⟨_, rfl⟩
          have HV20 := hide (HV19.out.alloc (.cells #[.int .u8 0, .bool false, .slice none 0 0, .string { data := #[] }, .int .i64 0, .slice none 0 0, .slice none 0 0] 26))
          have Ly := hide (show W0.heap.size ≤ gy from hgy ▸ HV19.out.size)
          have BY20 := hide (Blk.new V19 26 #[.int .u8 0, .bool false, .slice none 0 0, .string { data := #[] }, .int .i64 0, .slice none 0 0, .slice none 0 0])
          have BX20 := hide (BX19.out.alloc (.cells #[.int .u8 0, .bool false, .slice none 0 0, .string { data := #[] }, .int .i64 0, .slice none 0 0, .slice none 0 0] 26))
          have HNE := hide (show ¬ gx = gy from by have := BX19.out.lt; omega)
          have IX20 := hide (((IX19.out.more (B' := fun k => True ∧ ¬ k = gx ∧ ¬ k = V19.heap.size) (fun k hk h => ⟨h.1, h.2, Nat.ne_of_lt hk⟩)).keep ((Keeps.refl NoB V19).alloc (.cells #[.int .u8 0, .bool false, .slice none 0 0, .string { data := #[] }, .int .i64 0, .slice none 0 0, .slice none 0 0] 26))))
          have IY20 := hide (((IY19.out.more (B' := fun k => True ∧ ¬ k = gx ∧ ¬ k = V19.heap.size) (fun k hk h => ⟨h.1, h.2, Nat.ne_of_lt hk⟩)).keep ((Keeps.refl NoB V19).alloc (.cells #[.int .u8 0, .bool false, .slice none 0 0, .string { data := #[] }, .int .i64 0, .slice none 0 0, .slice none 0 0] 26))))
          clear HV19 BX19 IX19 IY19
          rw [hgy] at BY20 IX20 IY20 ⊢
          generalize V19.alloc (.cells #[.int .u8 0, .bool false, .slice none 0 0, .string { data := #[] }, .int .i64 0, .slice none 0 0, .slice none 0 0] 26) = V20 at *
          clear hgy
          have IXa := hide (IX20.out.more (B' := fun k => ¬ k = gx ∧ ¬ k = gy) (fun k _ h => ⟨h.2.1, h.2.2⟩)); have IYa := hide (IY20.out.more (B' := fun k => ¬ k = gx ∧ ¬ k = gy) (fun k _ h => ⟨h.2.1, h.2.2⟩))
          have z0 : V20.cell? ⟨gx, 0, none⟩ = some (.int .u8 0) := BX20.out.cell 0; have z1 : V20.cell? ⟨gx, 1, none⟩ = some (.bool false) := BX20.out.cell 1; have z2 : V20.cell? ⟨gx, 2, none⟩ = some (.slice none 0 0) := BX20.out.cell 2; have z3 : V20.cell? ⟨gx, 3, none⟩ = some (.string { data := #[] }) := BX20.out.cell 3; have z4 : V20.cell? ⟨gx, 4, none⟩ = some (.int .i64 0) := BX20.out.cell 4; have z5 : V20.cell? ⟨gx, 5, none⟩ = some (.slice none 0 0) := BX20.out.cell 5; have z6 : V20.cell? ⟨gx, 6, none⟩ = some (.slice none 0 0) := BX20.out.cell 6
          have f0 : V20.frozen? ⟨gx, 0, none⟩ = false := BX20.out.free 0; have f1 : V20.frozen? ⟨gx, 1, none⟩ = false := BX20.out.free 1; have f2 : V20.frozen? ⟨gx, 2, none⟩ = false := BX20.out.free 2; have f3 : V20.frozen? ⟨gx, 3, none⟩ = false := BX20.out.free 3; have f4 : V20.frozen? ⟨gx, 4, none⟩ = false := BX20.out.free 4; have f5 : V20.frozen? ⟨gx, 5, none⟩ = false := BX20.out.free 5; have f6 : V20.frozen? ⟨gx, 6, none⟩ = false := BX20.out.free 6
          refine order_one (i := 6) rfl (by kernel_rfl) (fun K hK => ?_)
          go_simp
          refine hK _ _ (fun h => by cases h) ?_
          clear hK
          try simp only [Act.put, List.setIfInBounds_toArray, List.set_cons_succ, List.set_cons_zero]
          have hs := Keeps.set7' (w := V20) (g := gx) (.int .u8 1) (.bool ng) (.slice Ax nr cx) (.string { data := #[] }) (.int .i64 0) (.slice none 0 0) (.slice none 0 0)
          have BXb := hide (BX20.out.put7 (.int .u8 1) (.bool ng) (.slice Ax nr cx) (.string { data := #[] }) (.int .i64 0) (.slice none 0 0) (.slice none 0 0)); have BYb := hide (BY20.out.keep hs (fun e => HNE.out e.symm)); have IXb := hide (IXa.out.far hs (fun k h => h.1)); have IYb := hide (IYa.out.far hs (fun k h => h.1)); have HKb := hide (HV20.out.set7 Lx.out (.int .u8 1) (.bool ng) (.slice Ax nr cx) (.string { data := #[] }) (.int .i64 0) (.slice none 0 0) (.slice none 0 0))
          clear hs z0 z1 z2 z3 z4 z5 z6 f0 f1 f2 f3 f4 f5 f6 IXa IYa BX20 BY20 IX20 IY20 HV20
          generalize (((((((V20.setCell ⟨gx, 0, none⟩ (.int .u8 1)).setCell ⟨gx, 1, none⟩ (.bool ng)).setCell ⟨gx, 2, none⟩ (.slice Ax nr cx)).setCell ⟨gx, 3, none⟩ (.string { data := #[] })).setCell ⟨gx, 4, none⟩ (.int .i64 0)).setCell ⟨gx, 5, none⟩ (.slice none 0 0)).setCell ⟨gx, 6, none⟩ (.slice none 0 0)) = Wb at *
          have z0 : Wb.cell? ⟨gy, 0, none⟩ = some (.int .u8 0) := BYb.out.cell 0; have z1 : Wb.cell? ⟨gy, 1, none⟩ = some (.bool false) := BYb.out.cell 1; have z2 : Wb.cell? ⟨gy, 2, none⟩ = some (.slice none 0 0) := BYb.out.cell 2; have z3 : Wb.cell? ⟨gy, 3, none⟩ = some (.string { data := #[] }) := BYb.out.cell 3; have z4 : Wb.cell? ⟨gy, 4, none⟩ = some (.int .i64 0) := BYb.out.cell 4; have z5 : Wb.cell? ⟨gy, 5, none⟩ = some (.slice none 0 0) := BYb.out.cell 5; have z6 : Wb.cell? ⟨gy, 6, none⟩ = some (.slice none 0 0) := BYb.out.cell 6
          have f0 : Wb.frozen? ⟨gy, 0, none⟩ = false := BYb.out.free 0; have f1 : Wb.frozen? ⟨gy, 1, none⟩ = false := BYb.out.free 1; have f2 : Wb.frozen? ⟨gy, 2, none⟩ = false := BYb.out.free 2; have f3 : Wb.frozen? ⟨gy, 3, none⟩ = false := BYb.out.free 3; have f4 : Wb.frozen? ⟨gy, 4, none⟩ = false := BYb.out.free 4; have f5 : Wb.frozen? ⟨gy, 5, none⟩ = false := BYb.out.free 5; have f6 : Wb.frozen? ⟨gy, 6, none⟩ = false := BYb.out.free 6
          refine order_one (i := 7) rfl (by kernel_rfl) (fun K hK => ?_)
          go_simp
          refine hK _ _ (fun h => by cases h) ?_
          clear hK
          try simp only [Act.put, List.setIfInBounds_toArray, List.set_cons_succ, List.set_cons_zero]
          have hs := Keeps.set7' (w := Wb) (g := gy) (.int .u8 1) (.bool ng') (.slice Ay n' cy) (.string { data := #[] }) (.int .i64 0) (.slice none 0 0) (.slice none 0 0)
          have BXc := hide (BXb.out.keep hs HNE.out); have BYc := hide (BYb.out.put7 (.int .u8 1) (.bool ng') (.slice Ay n' cy) (.string { data := #[] }) (.int .i64 0) (.slice none 0 0) (.slice none 0 0)); have IXc := hide (IXb.out.far hs (fun k h => h.2)); have IYc := hide (IYb.out.far hs (fun k h => h.2)); have HKc := hide (HKb.out.set7 Ly.out (.int .u8 1) (.bool ng') (.slice Ay n' cy) (.string { data := #[] }) (.int .i64 0) (.slice none 0 0) (.slice none 0 0))
          clear hs z0 z1 z2 z3 z4 z5 z6 f0 f1 f2 f3 f4 f5 f6 BXb BYb IXb IYb HKb
          generalize (((((((Wb.setCell ⟨gy, 0, none⟩ (.int .u8 1)).setCell ⟨gy, 1, none⟩ (.bool ng')).setCell ⟨gy, 2, none⟩ (.slice Ay n' cy)).setCell ⟨gy, 3, none⟩ (.string { data := #[] })).setCell ⟨gy, 4, none⟩ (.int .i64 0)).setCell ⟨gy, 5, none⟩ (.slice none 0 0)).setCell ⟨gy, 6, none⟩ (.slice none 0 0)) = Wc at *
          refine order_done (by kernel_rfl) ?_
          go_wp2_with fail
          go_meet
          exact ⟨gx, gy, Ax, cx, Ay, cy, rfl, rfl, hide ⟨HWV.out.trans' HKc.out (fun _ _ h => h) (fun _ _ h => h), BXc.out, BYc.out, IXc.out, IYc.out, HNE.out, HSZ.out ▸ Lx.out, HSZ.out ▸ Ly.out⟩⟩
        · skip
          go_simp
          refine hK _ _ (fun _ hS => hS.alloc _) ?_
          clear hK
          try simp only [Act.put, List.setIfInBounds_toArray, List.set_cons_succ, List.set_cons_zero]
          obtain ⟨gy, hgy⟩ : ∃ gy, V18.heap.size = gy := ⟨_, rfl⟩
          have HV21 := hide (HV18.out.alloc (.cells #[.int .u8 0, .bool false, .slice none 0 0, .string { data := #[] }, .int .i64 0, .slice none 0 0, .slice none 0 0] 26))
          have Ly := hide (show W0.heap.size ≤ gy from hgy ▸ HV18.out.size)
          have BY21 := hide (Blk.new V18 26 #[.int .u8 0, .bool false, .slice none 0 0, .string { data := #[] }, .int .i64 0, .slice none 0 0, .slice none 0 0])
          have BX21 := hide (BX18.out.alloc (.cells #[.int .u8 0, .bool false, .slice none 0 0, .string { data := #[] }, .int .i64 0, .slice none 0 0, .slice none 0 0] 26))
          have HNE := hide (show ¬ gx = gy from by have := BX18.out.lt; omega)
          have IX21 := hide (((IX18.out.more (B' := fun k => True ∧ ¬ k = gx ∧ ¬ k = V18.heap.size) (fun k hk h => ⟨h.1, h.2, Nat.ne_of_lt hk⟩)).keep ((Keeps.refl NoB V18).alloc (.cells #[.int .u8 0, .bool false, .slice none 0 0, .string { data := #[] }, .int .i64 0, .slice none 0 0, .slice none 0 0] 26))))
          clear HV18 BX18 IX18
          rw [hgy] at BY21 IX21 ⊢
          generalize V18.alloc (.cells #[.int .u8 0, .bool false, .slice none 0 0, .string { data := #[] }, .int .i64 0, .slice none 0 0, .slice none 0 0] 26) = V21 at *
          clear hgy
          refine order_one (i := 3) rfl (by kernel_rfl) (fun K hK => ?_)
          go_simp
          refine (copy_int ng' A' ia' ta' n' c' ic' tc' y _ _ (IB0.out.keep HV21.out)).mono ?_
          rintro e V22 ⟨Ay, cy, rfl, icx, hk⟩
          refine hK _ _ (fun _ hS => hS.trans' hk (fun _ _ => id) (fun _ _ => id)) ?_
          clear hK
          try simp only [Act.put, List.setIfInBounds_toArray, List.set_cons_succ, List.set_cons_zero]
          have HV22 := hide (HV21.out.trans' hk (fun _ _ h => h) (fun _ _ h => h))
          have IY22 := hide (icx.more (B' := fun k => True ∧ ¬ k = gx ∧ ¬ k = gy) (fun k _ hB => by have lx := BX21.out.lt; have ly := BY21.out.lt; have hB' : V21.heap.size ≤ k := hB; exact ⟨trivial, by omega, by omega⟩))
          have BX22 := hide (BX21.out.keep hk id)
          have BY22 := hide (BY21.out.keep hk id)
          have IX22 := hide (IX21.out.keep hk)
          clear HV21 icx hk BX21 BY21 IX21
          have IXa := hide (IX22.out.more (B' := fun k => ¬ k = gx ∧ ¬ k = gy) (fun k _ h => ⟨h.2.1, h.2.2⟩)); have IYa := hide (IY22.out.more (B' := fun k => ¬ k = gx ∧ ¬ k = gy) (fun k _ h => ⟨h.2.1, h.2.2⟩))
          have z0 : V22.cell? ⟨gx, 0, none⟩ = some (.int .u8 0) := BX22.out.cell 0; have z1 : V22.cell? ⟨gx, 1, none⟩ = some (.bool false) := BX22.out.cell 1; have z2 : V22.cell? ⟨gx, 2, none⟩ = some (.slice none 0 0) := BX22.out.cell 2; have z3 : V22.cell? ⟨gx, 3, none⟩ = some (.string { data := #[] }) := BX22.out.cell 3; have z4 : V22.cell? ⟨gx, 4, none⟩ = some (.int .i64 0) := BX22.out.cell 4; have z5 : V22.cell? ⟨gx, 5, none⟩ = some (.slice none 0 0) := BX22.out.cell 5; have z6 : V22.cell? ⟨gx, 6, none⟩ = some (.slice none 0 0) := BX22.out.cell 6
          have f0 : V22.frozen? ⟨gx, 0, none⟩ = false := BX22.out.free 0; have f1 : V22.frozen? ⟨gx, 1, none⟩ = false := BX22.out.free 1; have f2 : V22.frozen? ⟨gx, 2, none⟩ = false := BX22.out.free 2; have f3 : V22.frozen? ⟨gx, 3, none⟩ = false := BX22.out.free 3; have f4 : V22.frozen? ⟨gx, 4, none⟩ = false := BX22.out.free 4; have f5 : V22.frozen? ⟨gx, 5, none⟩ = false := BX22.out.free 5; have f6 : V22.frozen? ⟨gx, 6, none⟩ = false := BX22.out.free 6
          refine order_one (i := 6) rfl (by kernel_rfl) (fun K hK => ?_)
          go_simp
          refine hK _ _ (fun h => by cases h) ?_
          clear hK
          try simp only [Act.put, List.setIfInBounds_toArray, List.set_cons_succ, List.set_cons_zero]
          have hs := Keeps.set7' (w := V22) (g := gx) (.int .u8 1) (.bool ng) (.slice Ax nr cx) (.string { data := #[] }) (.int .i64 0) (.slice none 0 0) (.slice none 0 0)
          have BXb := hide (BX22.out.put7 (.int .u8 1) (.bool ng) (.slice Ax nr cx) (.string { data := #[] }) (.int .i64 0) (.slice none 0 0) (.slice none 0 0)); have BYb := hide (BY22.out.keep hs (fun e => HNE.out e.symm)); have IXb := hide (IXa.out.far hs (fun k h => h.1)); have IYb := hide (IYa.out.far hs (fun k h => h.1)); have HKb := hide (HV22.out.set7 Lx.out (.int .u8 1) (.bool ng) (.slice Ax nr cx) (.string { data := #[] }) (.int .i64 0) (.slice none 0 0) (.slice none 0 0))
          clear hs z0 z1 z2 z3 z4 z5 z6 f0 f1 f2 f3 f4 f5 f6 IXa IYa BX22 BY22 IX22 IY22 HV22
          generalize (((((((V22.setCell ⟨gx, 0, none⟩ (.int .u8 1)).setCell ⟨gx, 1, none⟩ (.bool ng)).setCell ⟨gx, 2, none⟩ (.slice Ax nr cx)).setCell ⟨gx, 3, none⟩ (.string { data := #[] })).setCell ⟨gx, 4, none⟩ (.int .i64 0)).setCell ⟨gx, 5, none⟩ (.slice none 0 0)).setCell ⟨gx, 6, none⟩ (.slice none 0 0)) = Wb at *
          have z0 : Wb.cell? ⟨gy, 0, none⟩ = some (.int .u8 0) := BYb.out.cell 0; have z1 : Wb.cell? ⟨gy, 1, none⟩ = some (.bool false) := BYb.out.cell 1; have z2 : Wb.cell? ⟨gy, 2, none⟩ = some (.slice none 0 0) := BYb.out.cell 2; have z3 : Wb.cell? ⟨gy, 3, none⟩ = some (.string { data := #[] }) := BYb.out.cell 3; have z4 : Wb.cell? ⟨gy, 4, none⟩ = some (.int .i64 0) := BYb.out.cell 4; have z5 : Wb.cell? ⟨gy, 5, none⟩ = some (.slice none 0 0) := BYb.out.cell 5; have z6 : Wb.cell? ⟨gy, 6, none⟩ = some (.slice none 0 0) := BYb.out.cell 6
          have f0 : Wb.frozen? ⟨gy, 0, none⟩ = false := BYb.out.free 0; have f1 : Wb.frozen? ⟨gy, 1, none⟩ = false := BYb.out.free 1; have f2 : Wb.frozen? ⟨gy, 2, none⟩ = false := BYb.out.free 2; have f3 : Wb.frozen? ⟨gy, 3, none⟩ = false := BYb.out.free 3; have f4 : Wb.frozen? ⟨gy, 4, none⟩ = false := BYb.out.free 4; have f5 : Wb.frozen? ⟨gy, 5, none⟩ = false := BYb.out.free 5; have f6 : Wb.frozen? ⟨gy, 6, none⟩ = false := BYb.out.free 6
          refine order_one (i := 7) rfl (by kernel_rfl) (fun K hK => ?_)
          go_simp
          refine hK _ _ (fun h => by cases h) ?_
          clear hK
          try simp only [Act.put, List.setIfInBounds_toArray, List.set_cons_succ, List.set_cons_zero]
          have hs := Keeps.set7' (w := Wb) (g := gy) (.int .u8 1) (.bool ng') (.slice Ay n' cy) (.string { data := #[] }) (.int .i64 0) (.slice none 0 0) (.slice none 0 0)
          have BXc := hide (BXb.out.keep hs HNE.out); have BYc := hide (BYb.out.put7 (.int .u8 1) (.bool ng') (.slice Ay n' cy) (.string { data := #[] }) (.int .i64 0) (.slice none 0 0) (.slice none 0 0)); have IXc := hide (IXb.out.far hs (fun k h => h.2)); have IYc := hide (IYb.out.far hs (fun k h => h.2)); have HKc := hide (HKb.out.set7 Ly.out (.int .u8 1) (.bool ng') (.slice Ay n' cy) (.string { data := #[] }) (.int .i64 0) (.slice none 0 0) (.slice none 0 0))
          clear hs z0 z1 z2 z3 z4 z5 z6 f0 f1 f2 f3 f4 f5 f6 BXb BYb IXb IYb HKb
          generalize (((((((Wb.setCell ⟨gy, 0, none⟩ (.int .u8 1)).setCell ⟨gy, 1, none⟩ (.bool ng')).setCell ⟨gy, 2, none⟩ (.slice Ay n' cy)).setCell ⟨gy, 3, none⟩ (.string { data := #[] })).setCell ⟨gy, 4, none⟩ (.int .i64 0)).setCell ⟨gy, 5, none⟩ (.slice none 0 0)).setCell ⟨gy, 6, none⟩ (.slice none 0 0)) = Wc at *
          refine order_done (by kernel_rfl) ?_
          go_wp2_with fail
          go_meet
          exact ⟨gx, gy, Ax, cx, Ay, cy, rfl, rfl, hide ⟨HWV.out.trans' HKc.out (fun _ _ h => h) (fun _ _ h => h), BXc.out, BYc.out, IXc.out, IYc.out, HNE.out, HSZ.out ▸ Lx.out, HSZ.out ▸ Ly.out⟩⟩
      · skip
        go_simp
        refine hK _ _ (fun _ hS => hS.alloc _) ?_
        clear hK
        try simp only [Act.put, List.setIfInBounds_toArray, List.set_cons_succ, List.set_cons_zero]
        obtain ⟨gy, hgy⟩ : ∃ gy, V17.heap.size = gy := ⟨_, rfl⟩
        have HV23 := hide (HV17.out.alloc (.cells #[.int .u8 0, .bool false, .slice none 0 0, .string { data := #[] }, .int .i64 0, .slice none 0 0, .slice none 0 0] 26))
        have Ly := hide (show W0.heap.size ≤ gy from hgy ▸ HV17.out.size)
        have BY23 := hide (Blk.new V17 26 #[.int .u8 0, .bool false, .slice none 0 0, .string { data := #[] }, .int .i64 0, .slice none 0 0, .slice none 0 0])
        have BX23 := hide (BX17.out.alloc (.cells #[.int .u8 0, .bool false, .slice none 0 0, .string { data := #[] }, .int .i64 0, .slice none 0 0, .slice none 0 0] 26))
        have HNE := hide (show ¬ gx = gy from by have := BX17.out.lt; omega)
        clear HV17 BX17
        rw [hgy] at BY23 ⊢
        generalize V17.alloc (.cells #[.int .u8 0, .bool false, .slice none 0 0, .string { data := #[] }, .int .i64 0, .slice none 0 0, .slice none 0 0] 26) = V23 at *
        clear hgy
        refine order_one (i := 1) rfl (by kernel_rfl) (fun K hK => ?_)
        go_simp
        refine (copy_int ng Ar none none nr cr 0 0 (x.tmod y) _ _ (IR0.out.keep HV23.out)).mono ?_
        rintro e V24 ⟨Ax, cx, rfl, icx, hk⟩
        refine hK _ _ (fun _ hS => hS.trans' hk (fun _ _ => id) (fun _ _ => id)) ?_
        clear hK
        try simp only [Act.put, List.setIfInBounds_toArray, List.set_cons_succ, List.set_cons_zero]
        have HV24 := hide (HV23.out.trans' hk (fun _ _ h => h) (fun _ _ h => h))
        have IX24 := hide (icx.more (B' := fun k => True ∧ ¬ k = gx ∧ ¬ k = gy) (fun k _ hB => by have lx := BX23.out.lt; have ly := BY23.out.lt; have hB' : V23.heap.size ≤ k := hB; exact ⟨trivial, by omega, by omega⟩))
        have BX24 := hide (BX23.out.keep hk id)
        have BY24 := hide (BY23.out.keep hk id)
        clear HV23 icx hk BX23 BY23
        refine order_one (i := 3) rfl (by kernel_rfl) (fun K hK => ?_)
        go_simp
        refine (copy_int ng' A' ia' ta' n' c' ic' tc' y _ _ (IB0.out.keep HV24.out)).mono ?_
        rintro e V25 ⟨Ay, cy, rfl, icx, hk⟩
        refine hK _ _ (fun _ hS => hS.trans' hk (fun _ _ => id) (fun _ _ => id)) ?_
        clear hK
        try simp only [Act.put, List.setIfInBounds_toArray, List.set_cons_succ, List.set_cons_zero]
        have HV25 := hide (HV24.out.trans' hk (fun _ _ h => h) (fun _ _ h => h))
        have IY25 := hide (icx.more (B' := fun k => True ∧ ¬ k = gx ∧ ¬ k = gy) (fun k _ hB => by have lx := BX24.out.lt; have ly := BY24.out.lt; have hB' : V24.heap.size ≤ k := hB; exact ⟨trivial, by omega, by omega⟩))
        have BX25 := hide (BX24.out.keep hk id)
        have BY25 := hide (BY24.out.keep hk id)
        have IX25 := hide (IX24.out.keep hk)
        clear HV24 icx hk BX24 BY24 IX24
        have IXa := hide (IX25.out.more (B' := fun k => ¬ k = gx ∧ ¬ k = gy) (fun k _ h => ⟨h.2.1, h.2.2⟩)); have IYa := hide (IY25.out.more (B' := fun k => ¬ k = gx ∧ ¬ k = gy) (fun k _ h => ⟨h.2.1, h.2.2⟩))
        have z0 : V25.cell? ⟨gx, 0, none⟩ = some (.int .u8 0) := BX25.out.cell 0; have z1 : V25.cell? ⟨gx, 1, none⟩ = some (.bool false) := BX25.out.cell 1; have z2 : V25.cell? ⟨gx, 2, none⟩ = some (.slice none 0 0) := BX25.out.cell 2; have z3 : V25.cell? ⟨gx, 3, none⟩ = some (.string { data := #[] }) := BX25.out.cell 3; have z4 : V25.cell? ⟨gx, 4, none⟩ = some (.int .i64 0) := BX25.out.cell 4; have z5 : V25.cell? ⟨gx, 5, none⟩ = some (.slice none 0 0) := BX25.out.cell 5; have z6 : V25.cell? ⟨gx, 6, none⟩ = some (.slice none 0 0) := BX25.out.cell 6
        have f0 : V25.frozen? ⟨gx, 0, none⟩ = false := BX25.out.free 0; have f1 : V25.frozen? ⟨gx, 1, none⟩ = false := BX25.out.free 1; have f2 : V25.frozen? ⟨gx, 2, none⟩ = false := BX25.out.free 2; have f3 : V25.frozen? ⟨gx, 3, none⟩ = false := BX25.out.free 3; have f4 : V25.frozen? ⟨gx, 4, none⟩ = false := BX25.out.free 4; have f5 : V25.frozen? ⟨gx, 5, none⟩ = false := BX25.out.free 5; have f6 : V25.frozen? ⟨gx, 6, none⟩ = false := BX25.out.free 6
        refine order_one (i := 6) rfl (by kernel_rfl) (fun K hK => ?_)
        go_simp
        refine hK _ _ (fun h => by cases h) ?_
        clear hK
        try simp only [Act.put, List.setIfInBounds_toArray, List.set_cons_succ, List.set_cons_zero]
        have hs := Keeps.set7' (w := V25) (g := gx) (.int .u8 1) (.bool ng) (.slice Ax nr cx) (.string { data := #[] }) (.int .i64 0) (.slice none 0 0) (.slice none 0 0)
        have BXb := hide (BX25.out.put7 (.int .u8 1) (.bool ng) (.slice Ax nr cx) (.string { data := #[] }) (.int .i64 0) (.slice none 0 0) (.slice none 0 0)); have BYb := hide (BY25.out.keep hs (fun e => HNE.out e.symm)); have IXb := hide (IXa.out.far hs (fun k h => h.1)); have IYb := hide (IYa.out.far hs (fun k h => h.1)); have HKb := hide (HV25.out.set7 Lx.out (.int .u8 1) (.bool ng) (.slice Ax nr cx) (.string { data := #[] }) (.int .i64 0) (.slice none 0 0) (.slice none 0 0))
        clear hs z0 z1 z2 z3 z4 z5 z6 f0 f1 f2 f3 f4 f5 f6 IXa IYa BX25 BY25 IX25 IY25 HV25
        generalize (((((((V25.setCell ⟨gx, 0, none⟩ (.int .u8 1)).setCell ⟨gx, 1, none⟩ (.bool ng)).setCell ⟨gx, 2, none⟩ (.slice Ax nr cx)).setCell ⟨gx, 3, none⟩ (.string { data := #[] })).setCell ⟨gx, 4, none⟩ (.int .i64 0)).setCell ⟨gx, 5, none⟩ (.slice none 0 0)).setCell ⟨gx, 6, none⟩ (.slice none 0 0)) = Wb at *
        have z0 : Wb.cell? ⟨gy, 0, none⟩ = some (.int .u8 0) := BYb.out.cell 0; have z1 : Wb.cell? ⟨gy, 1, none⟩ = some (.bool false) := BYb.out.cell 1; have z2 : Wb.cell? ⟨gy, 2, none⟩ = some (.slice none 0 0) := BYb.out.cell 2; have z3 : Wb.cell? ⟨gy, 3, none⟩ = some (.string { data := #[] }) := BYb.out.cell 3; have z4 : Wb.cell? ⟨gy, 4, none⟩ = some (.int .i64 0) := BYb.out.cell 4; have z5 : Wb.cell? ⟨gy, 5, none⟩ = some (.slice none 0 0) := BYb.out.cell 5; have z6 : Wb.cell? ⟨gy, 6, none⟩ = some (.slice none 0 0) := BYb.out.cell 6
        have f0 : Wb.frozen? ⟨gy, 0, none⟩ = false := BYb.out.free 0; have f1 : Wb.frozen? ⟨gy, 1, none⟩ = false := BYb.out.free 1; have f2 : Wb.frozen? ⟨gy, 2, none⟩ = false := BYb.out.free 2; have f3 : Wb.frozen? ⟨gy, 3, none⟩ = false := BYb.out.free 3; have f4 : Wb.frozen? ⟨gy, 4, none⟩ = false := BYb.out.free 4; have f5 : Wb.frozen? ⟨gy, 5, none⟩ = false := BYb.out.free 5; have f6 : Wb.frozen? ⟨gy, 6, none⟩ = false := BYb.out.free 6
        refine order_one (i := 7) rfl (by kernel_rfl) (fun K hK => ?_)
        go_simp
        refine hK _ _ (fun h => by cases h) ?_
        clear hK
        try simp only [Act.put, List.setIfInBounds_toArray, List.set_cons_succ, List.set_cons_zero]
        have hs := Keeps.set7' (w := Wb) (g := gy) (.int .u8 1) (.bool ng') (.slice Ay n' cy) (.string { data := #[] }) (.int .i64 0) (.slice none 0 0) (.slice none 0 0)
        have BXc := hide (BXb.out.keep hs HNE.out); have BYc := hide (BYb.out.put7 (.int .u8 1) (.bool ng') (.slice Ay n' cy) (.string { data := #[] }) (.int .i64 0) (.slice none 0 0) (.slice none 0 0)); have IXc := hide (IXb.out.far hs (fun k h => h.2)); have IYc := hide (IYb.out.far hs (fun k h => h.2)); have HKc := hide (HKb.out.set7 Ly.out (.int .u8 1) (.bool ng') (.slice Ay n' cy) (.string { data := #[] }) (.int .i64 0) (.slice none 0 0) (.slice none 0 0))
        clear hs z0 z1 z2 z3 z4 z5 z6 f0 f1 f2 f3 f4 f5 f6 BXb BYb IXb IYb HKb
        generalize (((((((Wb.setCell ⟨gy, 0, none⟩ (.int .u8 1)).setCell ⟨gy, 1, none⟩ (.bool ng')).setCell ⟨gy, 2, none⟩ (.slice Ay n' cy)).setCell ⟨gy, 3, none⟩ (.string { data := #[] })).setCell ⟨gy, 4, none⟩ (.int .i64 0)).setCell ⟨gy, 5, none⟩ (.slice none 0 0)).setCell ⟨gy, 6, none⟩ (.slice none 0 0)) = Wc at *
        refine order_done (by kernel_rfl) ?_
        go_wp2_with fail
        go_meet
        exact ⟨gx, gy, Ax, cx, Ay, cy, rfl, rfl, hide ⟨HWV.out.trans' HKc.out (fun _ _ h => h) (fun _ _ h => h), BXc.out, BYc.out, IXc.out, IYc.out, HNE.out, HSZ.out ▸ Lx.out, HSZ.out ▸ Ly.out⟩⟩
    · skip
      go_simp
      refine hK _ _ (fun _ hS => hS.alloc _) ?_
      clear hK
      try simp only [Act.put, List.setIfInBounds_toArray, List.set_cons_succ, List.set_cons_zero]
      obtain ⟨gy, hgy⟩ : ∃ gy, W0.heap.size = gy := ⟨_, rfl⟩
      have HV26 := hide (HK00.out.alloc (.cells #[.int .u8 0, .bool false, .slice none 0 0, .string { data := #[] }, .int .i64 0, .slice none 0 0, .slice none 0 0] 26))
      have Ly := hide (show W0.heap.size ≤ gy from hgy ▸ HK00.out.size)
      have BY26 := hide (Blk.new W0 26 #[.int .u8 0, .bool false, .slice none 0 0, .string { data := #[] }, .int .i64 0, .slice none 0 0, .slice none 0 0])
      rw [hgy] at BY26 ⊢
      generalize W0.alloc (.cells #[.int .u8 0, .bool false, .slice none 0 0, .string { data := #[] }, .int .i64 0, .slice none 0 0, .slice none 0 0] 26) = V26 at *
      clear hgy
      refine order_two (i := 1) (j := 4) rfl rfl (by kernel_rfl) (fun K hK => ?_) (fun K hK => ?_)
      · skip
        go_simp
        refine (copy_int ng Ar none none nr cr 0 0 (x.tmod y) _ _ (IR0.out.keep HV26.out)).mono ?_
        rintro e V27 ⟨Ax, cx, rfl, icx, hk⟩
        refine hK _ _ (fun _ hS => hS.trans' hk (fun _ _ => id) (fun _ _ => id)) ?_
        clear hK
        try simp only [Act.put, List.setIfInBounds_toArray, List.set_cons_succ, List.set_cons_zero]
        have HV27 := hide (HV26.out.trans' hk (fun _ _ h => h) (fun _ _ h => h))
        have IX27 := hide (icx.more (B' := fun k => True ∧ ¬ k = gy) (fun k _ hB => by have ly := BY26.out.lt; have hB' : V26.heap.size ≤ k := hB; exact ⟨trivial, by omega⟩))
        have BY27 := hide (BY26.out.keep hk id)
        clear HV26 icx hk BY26
        refine order_two (i := 3) (j := 4) rfl rfl (by kernel_rfl) (fun K hK => ?_) (fun K hK => ?_)
        · skip
          go_simp
          refine (copy_int ng' A' ia' ta' n' c' ic' tc' y _ _ (IB0.out.keep HV27.out)).mono ?_
          rintro e V28 ⟨Ay, cy, rfl, icx, hk⟩
          refine hK _ _ (fun _ hS => hS.trans' hk (fun _ _ => id) (fun _ _ => id)) ?_
          clear hK
          try simp only [Act.put, List.setIfInBounds_toArray, List.set_cons_succ, List.set_cons_zero]
          have HV28 := hide (HV27.out.trans' hk (fun _ _ h => h) (fun _ _ h => h))
          have IY28 := hide (icx.more (B' := fun k => True ∧ ¬ k = gy) (fun k _ hB => by have ly := BY27.out.lt; have hB' : V27.heap.size ≤ k := hB; exact ⟨trivial, by omega⟩))
          have BY28 := hide (BY27.out.keep hk id)
          have IX28 := hide (IX27.out.keep hk)
          clear HV27 icx hk BY27 IX27
          refine order_one (i := 4) rfl (by kernel_rfl) (fun K hK => ?_)
          go_simp
          refine hK _ _ (fun _ hS => hS.alloc _) ?_
          clear hK
          try simp only [Act.put, List.setIfInBounds_toArray, List.set_cons_succ, List.set_cons_zero]
          obtain ⟨gx, hgx⟩ : ∃ gx, V28.heap.size = gx := ⟨_, rfl⟩
          have HV29 := hide (HV28.out.alloc (.cells #[.int .u8 0, .bool false, .slice none 0 0, .string { data := #[] }, .int .i64 0, .slice none 0 0, .slice none 0 0] 26))
          have Lx := hide (show W0.heap.size ≤ gx from hgx ▸ HV28.out.size)
          have BX29 := hide (Blk.new V28 26 #[.int .u8 0, .bool false, .slice none 0 0, .string { data := #[] }, .int .i64 0, .slice none 0 0, .slice none 0 0])
          have BY29 := hide (BY28.out.alloc (.cells #[.int .u8 0, .bool false, .slice none 0 0, .string { data := #[] }, .int .i64 0, .slice none 0 0, .slice none 0 0] 26))
          have HNE := hide (show ¬ gx = gy from by have := BY28.out.lt; omega)
          have IX29 := hide (((IX28.out.more (B' := fun k => True ∧ ¬ k = gy ∧ ¬ k = V28.heap.size) (fun k hk h => ⟨h.1, h.2, Nat.ne_of_lt hk⟩)).keep ((Keeps.refl NoB V28).alloc (.cells #[.int .u8 0, .bool false, .slice none 0 0, .string { data := #[] }, .int .i64 0, .slice none 0 0, .slice none 0 0] 26))))
          have IY29 := hide (((IY28.out.more (B' := fun k => True ∧ ¬ k = gy ∧ ¬ k = V28.heap.size) (fun k hk h => ⟨h.1, h.2, Nat.ne_of_lt hk⟩)).keep ((Keeps.refl NoB V28).alloc (.cells #[.int .u8 0, .bool false, .slice none 0 0, .string { data := #[] }, .int .i64 0, .slice none 0 0, .slice none 0 0] 26))))
          clear HV28 BY28 IX28 IY28
          rw [hgx] at BX29 IX29 IY29 ⊢
          generalize V28.alloc (.cells #[.int .u8 0, .bool false, .slice none 0 0, .string { data := #[] }, .int .i64 0, .slice none 0 0, .slice none 0 0] 26) = V29 at *
          clear hgx
          have IXa := hide (IX29.out.more (B' := fun k => ¬ k = gx ∧ ¬ k = gy) (fun k _ h => ⟨h.2.2, h.2.1⟩)); have IYa := hide (IY29.out.more (B' := fun k => ¬ k = gx ∧ ¬ k = gy) (fun k _ h => ⟨h.2.2, h.2.1⟩))
          have z0 : V29.cell? ⟨gx, 0, none⟩ = some (.int .u8 0) := BX29.out.cell 0; have z1 : V29.cell? ⟨gx, 1, none⟩ = some (.bool false) := BX29.out.cell 1; have z2 : V29.cell? ⟨gx, 2, none⟩ = some (.slice none 0 0) := BX29.out.cell 2; have z3 : V29.cell? ⟨gx, 3, none⟩ = some (.string { data := #[] }) := BX29.out.cell 3; have z4 : V29.cell? ⟨gx, 4, none⟩ = some (.int .i64 0) := BX29.out.cell 4; have z5 : V29.cell? ⟨gx, 5, none⟩ = some (.slice none 0 0) := BX29.out.cell 5; have z6 : V29.cell? ⟨gx, 6, none⟩ = some (.slice none 0 0) := BX29.out.cell 6
          have f0 : V29.frozen? ⟨gx, 0, none⟩ = false := BX29.out.free 0; have f1 : V29.frozen? ⟨gx, 1, none⟩ = false := BX29.out.free 1; have f2 : V29.frozen? ⟨gx, 2, none⟩ = false := BX29.out.free 2; have f3 : V29.frozen? ⟨gx, 3, none⟩ = false := BX29.out.free 3; have f4 : V29.frozen? ⟨gx, 4, none⟩ = false := BX29.out.free 4; have f5 : V29.frozen? ⟨gx, 5, none⟩ = false := BX29.out.free 5; have f6 : V29.frozen? ⟨gx, 6, none⟩ = false := BX29.out.free 6
          refine order_one (i := 6) rfl (by kernel_rfl) (fun K hK => ?_)
          go_simp
          refine hK _ _ (fun h => by cases h) ?_
          clear hK
          try simp only [Act.put, List.setIfInBounds_toArray, List.set_cons_succ, List.set_cons_zero]
          have hs := Keeps.set7' (w := V29) (g := gx) (.int .u8 1) (.bool ng) (.slice Ax nr cx) (.string { data := #[] }) (.int .i64 0) (.slice none 0 0) (.slice none 0 0)
          have BXb := hide (BX29.out.put7 (.int .u8 1) (.bool ng) (.slice Ax nr cx) (.string { data := #[] }) (.int .i64 0) (.slice none 0 0) (.slice none 0 0)); have BYb := hide (BY29.out.keep hs (fun e => HNE.out e.symm)); have IXb := hide (IXa.out.far hs (fun k h => h.1)); have IYb := hide (IYa.out.far hs (fun k h => h.1)); have HKb := hide (HV29.out.set7 Lx.out (.int .u8 1) (.bool ng) (.slice Ax nr cx) (.string { data := #[] }) (.int .i64 0) (.slice none 0 0) (.slice none 0 0))
          clear hs z0 z1 z2 z3 z4 z5 z6 f0 f1 f2 f3 f4 f5 f6 IXa IYa BX29 BY29 IX29 IY29 HV29
          generalize (((((((V29.setCell ⟨gx, 0, none⟩ (.int .u8 1)).setCell ⟨gx, 1, none⟩ (.bool ng)).setCell ⟨gx, 2, none⟩ (.slice Ax nr cx)).setCell ⟨gx, 3, none⟩ (.string { data := #[] })).setCell ⟨gx, 4, none⟩ (.int .i64 0)).setCell ⟨gx, 5, none⟩ (.slice none 0 0)).setCell ⟨gx, 6, none⟩ (.slice none 0 0)) = Wb at *
          have z0 : Wb.cell? ⟨gy, 0, none⟩ = some (.int .u8 0) := BYb.out.cell 0; have z1 : Wb.cell? ⟨gy, 1, none⟩ = some (.bool false) := BYb.out.cell 1; have z2 : Wb.cell? ⟨gy, 2, none⟩ = some (.slice none 0 0) := BYb.out.cell 2; have z3 : Wb.cell? ⟨gy, 3, none⟩ = some (.string { data := #[] }) := BYb.out.cell 3; have z4 : Wb.cell? ⟨gy, 4, none⟩ = some (.int .i64 0) := BYb.out.cell 4; have z5 : Wb.cell? ⟨gy, 5, none⟩ = some (.slice none 0 0) := BYb.out.cell 5; have z6 : Wb.cell? ⟨gy, 6, none⟩ = some (.slice none 0 0) := BYb.out.cell 6
          have f0 : Wb.frozen? ⟨gy, 0, none⟩ = false := BYb.out.free 0; have f1 : Wb.frozen? ⟨gy, 1, none⟩ = false := BYb.out.free 1; have f2 : Wb.frozen? ⟨gy, 2, none⟩ = false := BYb.out.free 2; have f3 : Wb.frozen? ⟨gy, 3, none⟩ = false := BYb.out.free 3; have f4 : Wb.frozen? ⟨gy, 4, none⟩ = false := BYb.out.free 4; have f5 : Wb.frozen? ⟨gy, 5, none⟩ = false := BYb.out.free 5; have f6 : Wb.frozen? ⟨gy, 6, none⟩ = false := BYb.out.free 6
          refine order_one (i := 7) rfl (by kernel_rfl) (fun K hK => ?_)
          go_simp
          refine hK _ _ (fun h => by cases h) ?_
          clear hK
          try simp only [Act.put, List.setIfInBounds_toArray, List.set_cons_succ, List.set_cons_zero]
          have hs := Keeps.set7' (w := Wb) (g := gy) (.int .u8 1) (.bool ng') (.slice Ay n' cy) (.string { data := #[] }) (.int .i64 0) (.slice none 0 0) (.slice none 0 0)
          have BXc := hide (BXb.out.keep hs HNE.out); have BYc := hide (BYb.out.put7 (.int .u8 1) (.bool ng') (.slice Ay n' cy) (.string { data := #[] }) (.int .i64 0) (.slice none 0 0) (.slice none 0 0)); have IXc := hide (IXb.out.far hs (fun k h => h.2)); have IYc := hide (IYb.out.far hs (fun k h => h.2)); have HKc := hide (HKb.out.set7 Ly.out (.int .u8 1) (.bool ng') (.slice Ay n' cy) (.string { data := #[] }) (.int .i64 0) (.slice none 0 0) (.slice none 0 0))
          clear hs z0 z1 z2 z3 z4 z5 z6 f0 f1 f2 f3 f4 f5 f6 BXb BYb IXb IYb HKb
          generalize (((((((Wb.setCell ⟨gy, 0, none⟩ (.int .u8 1)).setCell ⟨gy, 1, none⟩ (.bool ng')).setCell ⟨gy, 2, none⟩ (.slice Ay n' cy)).setCell ⟨gy, 3, none⟩ (.string { data := #[] })).setCell ⟨gy, 4, none⟩ (.int .i64 0)).setCell ⟨gy, 5, none⟩ (.slice none 0 0)).setCell ⟨gy, 6, none⟩ (.slice none 0 0)) = Wc at *
          refine order_done (by kernel_rfl) ?_
          go_wp2_with fail
          go_meet
          exact ⟨gx, gy, Ax, cx, Ay, cy, rfl, rfl, hide ⟨HWV.out.trans' HKc.out (fun _ _ h => h) (fun _ _ h => h), BXc.out, BYc.out, IXc.out, IYc.out, HNE.out, HSZ.out ▸ Lx.out, HSZ.out ▸ Ly.out⟩⟩
        · skip
          go_simp
          refine hK _ _ (fun _ hS => hS.alloc _) ?_
          clear hK
          try simp only [Act.put, List.setIfInBounds_toArray, List.set_cons_succ, List.set_cons_zero]
          obtain ⟨gx, hgx⟩ : ∃ gx, V27.heap.size = gx := ⟨_, rfl⟩
          have HV30 := hide (HV27.out.alloc (.cells #[.int .u8 0, .bool false, .slice none 0 0, .string { data := #[] }, .int .i64 0, .slice none 0 0, .slice none 0 0] 26))
          have Lx := hide (show W0.heap.size ≤ gx from hgx ▸ HV27.out.size)
          have BX30 := hide (Blk.new V27 26 #[.int .u8 0, .bool false, .slice none 0 0, .string { data := #[] }, .int .i64 0, .slice none 0 0, .slice none 0 0])
          have BY30 := hide (BY27.out.alloc (.cells #[.int .u8 0, .bool false, .slice none 0 0, .string { data := #[] }, .int .i64 0, .slice none 0 0, .slice none 0 0] 26))
          have HNE := hide (show ¬ gx = gy from by have := BY27.out.lt; omega)
          have IX30 := hide (((IX27.out.more (B' := fun k => True ∧ ¬ k = gy ∧ ¬ k = V27.heap.size) (fun k hk h => ⟨h.1, h.2, Nat.ne_of_lt hk⟩)).keep ((Keeps.refl NoB V27).alloc (.cells #[.int .u8 0, .bool false, .slice none 0 0, .string { data := #[] }, .int .i64 0, .slice none 0 0, .slice none 0 0] 26))))
          clear HV27 BY27 IX27
          rw [hgx] at BX30 IX30 ⊢
          generalize V27.alloc (.cells #[.int .u8 0, .bool false, .slice none 0 0, .string { data := #[] }, .int .i64 0, .slice none 0 0, .slice none 0 0] 26) = V30 at *
          clear hgx
          refine order_one (i := 3) rfl (by kernel_rfl) (fun K hK => ?_)
          go_simp
          refine (copy_int ng' A' ia' ta' n' c' ic' tc' y _ _ (IB0.out.keep HV30.out)).mono ?_
          rintro e V31 ⟨Ay, cy, rfl, icx, hk⟩
          refine hK _ _ (fun _ hS => hS.trans' hk (fun _ _ => id) (fun _ _ => id)) ?_
          clear hK
          try simp only [Act.put, List.setIfInBounds_toArray, List.set_cons_succ, List.set_cons_zero]
          have HV31 := hide (HV30.out.trans' hk (fun _ _ h => h) (fun _ _ h => h))
          have IY31 := hide (icx.more (B' := fun k => True ∧ ¬ k = gy ∧ ¬ k = gx) (fun k _ hB => by have ly := BY30.out.lt; have lx := BX30.out.lt; have hB' : V30.heap.size ≤ k := hB; exact ⟨trivial, by omega, by omega⟩))
          have BX31 := hide (BX30.out.keep hk id)
          have BY31 := hide (BY30.out.keep hk id)
          have IX31 := hide (IX30.out.keep hk)
          clear HV30 icx hk BX30 BY30 IX30
          have IXa := hide (IX31.out.more (B' := fun k => ¬ k = gx ∧ ¬ k = gy) (fun k _ h => ⟨h.2.2, h.2.1⟩)); have IYa := hide (IY31.out.more (B' := fun k => ¬ k = gx ∧ ¬ k = gy) (fun k _ h => ⟨h.2.2, h.2.1⟩))
          have z0 : V31.cell? ⟨gx, 0, none⟩ = some (.int .u8 0) := BX31.out.cell 0; have z1 : V31.cell? ⟨gx, 1, none⟩ = some (.bool false) := BX31.out.cell 1; have z2 : V31.cell? ⟨gx, 2, none⟩ = some (.slice none 0 0) := BX31.out.cell 2; have z3 : V31.cell? ⟨gx, 3, none⟩ = some (.string { data := #[] }) := BX31.out.cell 3; have z4 : V31.cell? ⟨gx, 4, none⟩ = some (.int .i64 0) := BX31.out.cell 4; have z5 : V31.cell? ⟨gx, 5, none⟩ = some (.slice none 0 0) := BX31.out.cell 5; have z6 : V31.cell? ⟨gx, 6, none⟩ = some (.slice none 0 0) := BX31.out.cell 6
          have f0 : V31.frozen? ⟨gx, 0, none⟩ = false := BX31.out.free 0; have f1 : V31.frozen? ⟨gx, 1, none⟩ = false := BX31.out.free 1; have f2 : V31.frozen? ⟨gx, 2, none⟩ = false := BX31.out.free 2; have f3 : V31.frozen? ⟨gx, 3, none⟩ = false := BX31.out.free 3; have f4 : V31.frozen? ⟨gx, 4, none⟩ = false := BX31.out.free 4; have f5 : V31.frozen? ⟨gx, 5, none⟩ = false := BX31.out.free 5; have f6 : V31.frozen? ⟨gx, 6, none⟩ = false := BX31.out.free 6
          refine order_one (i := 6) rfl (by kernel_rfl) (fun K hK => ?_)
          go_simp
          refine hK _ _ (fun h => by cases h) ?_
          clear hK
          try simp only [Act.put, List.setIfInBounds_toArray, List.set_cons_succ, List.set_cons_zero]
          have hs := Keeps.set7' (w := V31) (g := gx) (.int .u8 1) (.bool ng) (.slice Ax nr cx) (.string { data := #[] }) (.int .i64 0) (.slice none 0 0) (.slice none 0 0)
          have BXb := hide (BX31.out.put7 (.int .u8 1) (.bool ng) (.slice Ax nr cx) (.string { data := #[] }) (.int .i64 0) (.slice none 0 0) (.slice none 0 0)); have BYb := hide (BY31.out.keep hs (fun e => HNE.out e.symm)); have IXb := hide (IXa.out.far hs (fun k h => h.1)); have IYb := hide (IYa.out.far hs (fun k h => h.1)); have HKb := hide (HV31.out.set7 Lx.out (.int .u8 1) (.bool ng) (.slice Ax nr cx) (.string { data := #[] }) (.int .i64 0) (.slice none 0 0) (.slice none 0 0))
          clear hs z0 z1 z2 z3 z4 z5 z6 f0 f1 f2 f3 f4 f5 f6 IXa IYa BX31 BY31 IX31 IY31 HV31
          generalize (((((((V31.setCell ⟨gx, 0, none⟩ (.int .u8 1)).setCell ⟨gx, 1, none⟩ (.bool ng)).setCell ⟨gx, 2, none⟩ (.slice Ax nr cx)).setCell ⟨gx, 3, none⟩ (.string { data := #[] })).setCell ⟨gx, 4, none⟩ (.int .i64 0)).setCell ⟨gx, 5, none⟩ (.slice none 0 0)).setCell ⟨gx, 6, none⟩ (.slice none 0 0)) = Wb at *
          have z0 : Wb.cell? ⟨gy, 0, none⟩ = some (.int .u8 0) := BYb.out.cell 0; have z1 : Wb.cell? ⟨gy, 1, none⟩ = some (.bool false) := BYb.out.cell 1; have z2 : Wb.cell? ⟨gy, 2, none⟩ = some (.slice none 0 0) := BYb.out.cell 2; have z3 : Wb.cell? ⟨gy, 3, none⟩ = some (.string { data := #[] }) := BYb.out.cell 3; have z4 : Wb.cell? ⟨gy, 4, none⟩ = some (.int .i64 0) := BYb.out.cell 4; have z5 : Wb.cell? ⟨gy, 5, none⟩ = some (.slice none 0 0) := BYb.out.cell 5; have z6 : Wb.cell? ⟨gy, 6, none⟩ = some (.slice none 0 0) := BYb.out.cell 6
          have f0 : Wb.frozen? ⟨gy, 0, none⟩ = false := BYb.out.free 0; have f1 : Wb.frozen? ⟨gy, 1, none⟩ = false := BYb.out.free 1; have f2 : Wb.frozen? ⟨gy, 2, none⟩ = false := BYb.out.free 2; have f3 : Wb.frozen? ⟨gy, 3, none⟩ = false := BYb.out.free 3; have f4 : Wb.frozen? ⟨gy, 4, none⟩ = false := BYb.out.free 4; have f5 : Wb.frozen? ⟨gy, 5, none⟩ = false := BYb.out.free 5; have f6 : Wb.frozen? ⟨gy, 6, none⟩ = false := BYb.out.free 6
          refine order_one (i := 7) rfl (by kernel_rfl) (fun K hK => ?_)
          go_simp
          refine hK _ _ (fun h => by cases h) ?_
          clear hK
          try simp only [Act.put, List.setIfInBounds_toArray, List.set_cons_succ, List.set_cons_zero]
          have hs := Keeps.set7' (w := Wb) (g := gy) (.int .u8 1) (.bool ng') (.slice Ay n' cy) (.string { data := #[] }) (.int .i64 0) (.slice none 0 0) (.slice none 0 0)
          have BXc := hide (BXb.out.keep hs HNE.out); have BYc := hide (BYb.out.put7 (.int .u8 1) (.bool ng') (.slice Ay n' cy) (.string { data := #[] }) (.int .i64 0) (.slice none 0 0) (.slice none 0 0)); have IXc := hide (IXb.out.far hs (fun k h => h.2)); have IYc := hide (IYb.out.far hs (fun k h => h.2)); have HKc := hide (HKb.out.set7 Ly.out (.int .u8 1) (.bool ng') (.slice Ay n' cy) (.string { data := #[] }) (.int .i64 0) (.slice none 0 0) (.slice none 0 0))
          clear hs z0 z1 z2 z3 z4 z5 z6 f0 f1 f2 f3 f4 f5 f6 BXb BYb IXb IYb HKb
          generalize (((((((Wb.setCell ⟨gy, 0, none⟩ (.int .u8 1)).setCell ⟨gy, 1, none⟩ (.bool ng')).setCell ⟨gy, 2, none⟩ (.slice Ay n' cy)).setCell ⟨gy, 3, none⟩ (.string { data := #[] })).setCell ⟨gy, 4, none⟩ (.int .i64 0)).setCell ⟨gy, 5, none⟩ (.slice none 0 0)).setCell ⟨gy, 6, none⟩ (.slice none 0 0)) = Wc at *
          refine order_done (by kernel_rfl) ?_
          go_wp2_with fail
          go_meet
          exact ⟨gx, gy, Ax, cx, Ay, cy, rfl, rfl, hide ⟨HWV.out.trans' HKc.out (fun _ _ h => h) (fun _ _ h => h), BXc.out, BYc.out, IXc.out, IYc.out, HNE.out, HSZ.out ▸ Lx.out, HSZ.out ▸ Ly.out⟩⟩
      · skip
        go_simp
        refine hK _ _ (fun _ hS => hS.alloc _) ?_
        clear hK
        try simp only [Act.put, List.setIfInBounds_toArray, List.set_cons_succ, List.set_cons_zero]
        obtain ⟨gx, hgx⟩ : ∃ gx, V26.heap.size = gx := ⟨_, rfl⟩
        have HV32 := hide (HV26.out.alloc (.cells #[.int .u8 0, .bool false, .slice none 0 0, .string { data := #[] }, .int .i64 0, .slice none 0 0, .slice none 0 0] 26))
        have Lx := hide (show W0.heap.size ≤ gx from hgx ▸ HV26.out.size)
        have BX32 := hide (Blk.new V26 26 #[.int .u8 0, .bool false, .slice none 0 0, .string { data := #[] }, .int .i64 0, .slice none 0 0, .slice none 0 0])
        have BY32 := hide (BY26.out.alloc (.cells #[.int .u8 0, .bool false, .slice none 0 0, .string { data := #[] }, .int .i64 0, .slice none 0 0, .slice none 0 0] 26))
        have HNE := hide (show ¬ gx = gy from by have := BY26.out.lt; omega)
        clear HV26 BY26
        rw [hgx] at BX32 ⊢
        generalize V26.alloc (.cells #[.int .u8 0, .bool false, .slice none 0 0, .string { data := #[] }, .int .i64 0, .slice none 0 0, .slice none 0 0] 26) = V32 at *
        clear hgx
        refine order_one (i := 1) rfl (by kernel_rfl) (fun K hK => ?_)
        go_simp
        refine (copy_int ng Ar none none nr cr 0 0 (x.tmod y) _ _ (IR0.out.keep HV32.out)).mono ?_
        rintro e V33 ⟨Ax, cx, rfl, icx, hk⟩
        refine hK _ _ (fun _ hS => hS.trans' hk (fun _ _ => id) (fun _ _ => id)) ?_
        clear hK
        try simp only [Act.put, List.setIfInBounds_toArray, List.set_cons_succ, List.set_cons_zero]
        have HV33 := hide (HV32.out.trans' hk (fun _ _ h => h) (fun _ _ h => h))
        have IX33 := hide (icx.more (B' := fun k => True ∧ ¬ k = gy ∧ ¬ k = gx) (fun k _ hB => by have ly := BY32.out.lt; have lx := BX32.out.lt; have hB' : V32.heap.size ≤ k := hB; exact ⟨trivial, by omega, by omega⟩))
        have BX33 := hide (BX32.out.keep hk id)
        have BY33 := hide (BY32.out.keep hk id)
        clear HV32 icx hk BX32 BY32
        refine order_one (i := 3) rfl (by kernel_rfl) (fun K hK => ?_)
        go_simp
        refine (copy_int ng' A' ia' ta' n' c' ic' tc' y _ _ (IB0.out.keep HV33.out)).mono ?_
        rintro e V34 ⟨Ay, cy, rfl, icx, hk⟩
        refine hK _ _ (fun _ hS => hS.trans' hk (fun _ _ => id) (fun _ _ => id)) ?_
        clear hK
        try simp only [Act.put, List.setIfInBounds_toArray, List.set_cons_succ, List.set_cons_zero]
        have HV34 := hide (HV33.out.trans' hk (fun _ _ h => h) (fun _ _ h => h))
        have IY34 := hide (icx.more (B' := fun k => True ∧ ¬ k = gy ∧ ¬ k = gx) (fun k _ hB => by have ly := BY33.out.lt; have lx := BX33.out.lt; have hB' : V33.heap.size ≤ k := hB; exact ⟨trivial, by omega, by omega⟩))
        have BX34 := hide (BX33.out.keep hk id)
        have BY34 := hide (BY33.out.keep hk id)
        have IX34 := hide (IX33.out.keep hk)
        clear HV33 icx hk BX33 BY33 IX33
        have IXa := hide (IX34.out.more (B' := fun k => ¬ k = gx ∧ ¬ k = gy) (fun k _ h => ⟨h.2.2, h.2.1⟩)); have IYa := hide (IY34.out.more (B' := fun k => ¬ k = gx ∧ ¬ k = gy) (fun k _ h => ⟨h.2.2, h.2.1⟩))
        have z0 : V34.cell? ⟨gx, 0, none⟩ = some (.int .u8 0) := BX34.out.cell 0; have z1 : V34.cell? ⟨gx, 1, none⟩ = some (.bool false) := BX34.out.cell 1; have z2 : V34.cell? ⟨gx, 2, none⟩ = some (.slice none 0 0) := BX34.out.cell 2; have z3 : V34.cell? ⟨gx, 3, none⟩ = some (.string { data := #[] }) := BX34.out.cell 3; have z4 : V34.cell? ⟨gx, 4, none⟩ = some (.int .i64 0) := BX34.out.cell 4; have z5 : V34.cell? ⟨gx, 5, none⟩ = some (.slice none 0 0) := BX34.out.cell 5; have z6 : V34.cell? ⟨gx, 6, none⟩ = some (.slice none 0 0) := BX34.out.cell 6
        have f0 : V34.frozen? ⟨gx, 0, none⟩ = false := BX34.out.free 0; have f1 : V34.frozen? ⟨gx, 1, none⟩ = false := BX34.out.free 1; have f2 : V34.frozen? ⟨gx, 2, none⟩ = false := BX34.out.free 2; have f3 : V34.frozen? ⟨gx, 3, none⟩ = false := BX34.out.free 3; have f4 : V34.frozen? ⟨gx, 4, none⟩ = false := BX34.out.free 4; have f5 : V34.frozen? ⟨gx, 5, none⟩ = false := BX34.out.free 5; have f6 : V34.frozen? ⟨gx, 6, none⟩ = false := BX34.out.free 6
        refine order_one (i := 6) rfl (by kernel_rfl) (fun K hK => ?_)
        go_simp
        refine hK _ _ (fun h => by cases h) ?_
        clear hK
        try simp only [Act.put, List.setIfInBounds_toArray, List.set_cons_succ, List.set_cons_zero]
        have hs := Keeps.set7' (w := V34) (g := gx) (.int .u8 1) (.bool ng) (.slice Ax nr cx) (.string { data := #[] }) (.int .i64 0) (.slice none 0 0) (.slice none 0 0)
        have BXb := hide (BX34.out.put7 (.int .u8 1) (.bool ng) (.slice Ax nr cx) (.string { data := #[] }) (.int .i64 0) (.slice none 0 0) (.slice none 0 0)); have BYb := hide (BY34.out.keep hs (fun e => HNE.out e.symm)); have IXb := hide (IXa.out.far hs (fun k h => h.1)); have IYb := hide (IYa.out.far hs (fun k h => h.1)); have HKb := hide (HV34.out.set7 Lx.out (.int .u8 1) (.bool ng) (.slice Ax nr cx) (.string { data := #[] }) (.int .i64 0) (.slice none 0 0) (.slice none 0 0))
        clear hs z0 z1 z2 z3 z4 z5 z6 f0 f1 f2 f3 f4 f5 f6 IXa IYa BX34 BY34 IX34 IY34 HV34
        generalize (((((((V34.setCell ⟨gx, 0, none⟩ (.int .u8 1)).setCell ⟨gx, 1, none⟩ (.bool ng)).setCell ⟨gx, 2, none⟩ (.slice Ax nr cx)).setCell ⟨gx, 3, none⟩ (.string { data := #[] })).setCell ⟨gx, 4, none⟩ (.int .i64 0)).setCell ⟨gx, 5, none⟩ (.slice none 0 0)).setCell ⟨gx, 6, none⟩ (.slice none 0 0)) = Wb at *
        have z0 : Wb.cell? ⟨gy, 0, none⟩ = some (.int .u8 0) := BYb.out.cell 0; have z1 : Wb.cell? ⟨gy, 1, none⟩ = some (.bool false) := BYb.out.cell 1; have z2 : Wb.cell? ⟨gy, 2, none⟩ = some (.slice none 0 0) := BYb.out.cell 2; have z3 : Wb.cell? ⟨gy, 3, none⟩ = some (.string { data := #[] }) := BYb.out.cell 3; have z4 : Wb.cell? ⟨gy, 4, none⟩ = some (.int .i64 0) := BYb.out.cell 4; have z5 : Wb.cell? ⟨gy, 5, none⟩ = some (.slice none 0 0) := BYb.out.cell 5; have z6 : Wb.cell? ⟨gy, 6, none⟩ = some (.slice none 0 0) := BYb.out.cell 6
        have f0 : Wb.frozen? ⟨gy, 0, none⟩ = false := BYb.out.free 0; have f1 : Wb.frozen? ⟨gy, 1, none⟩ = false := BYb.out.free 1; have f2 : Wb.frozen? ⟨gy, 2, none⟩ = false := BYb.out.free 2; have f3 : Wb.frozen? ⟨gy, 3, none⟩ = false := BYb.out.free 3; have f4 : Wb.frozen? ⟨gy, 4, none⟩ = false := BYb.out.free 4; have f5 : Wb.frozen? ⟨gy, 5, none⟩ = false := BYb.out.free 5; have f6 : Wb.frozen? ⟨gy, 6, none⟩ = false := BYb.out.free 6
        refine order_one (i := 7) rfl (by kernel_rfl) (fun K hK => ?_)
        go_simp
        refine hK _ _ (fun h => by cases h) ?_
        clear hK
        try simp only [Act.put, List.setIfInBounds_toArray, List.set_cons_succ, List.set_cons_zero]
        have hs := Keeps.set7' (w := Wb) (g := gy) (.int .u8 1) (.bool ng') (.slice Ay n' cy) (.string { data := #[] }) (.int .i64 0) (.slice none 0 0) (.slice none 0 0)
        have BXc := hide (BXb.out.keep hs HNE.out); have BYc := hide (BYb.out.put7 (.int .u8 1) (.bool ng') (.slice Ay n' cy) (.string { data := #[] }) (.int .i64 0) (.slice none 0 0) (.slice none 0 0)); have IXc := hide (IXb.out.far hs (fun k h => h.2)); have IYc := hide (IYb.out.far hs (fun k h => h.2)); have HKc := hide (HKb.out.set7 Ly.out (.int .u8 1) (.bool ng') (.slice Ay n' cy) (.string { data := #[] }) (.int .i64 0) (.slice none 0 0) (.slice none 0 0))
        clear hs z0 z1 z2 z3 z4 z5 z6 f0 f1 f2 f3 f4 f5 f6 BXb BYb IXb IYb HKb
        generalize (((((((Wb.setCell ⟨gy, 0, none⟩ (.int .u8 1)).setCell ⟨gy, 1, none⟩ (.bool ng')).setCell ⟨gy, 2, none⟩ (.slice Ay n' cy)).setCell ⟨gy, 3, none⟩ (.string { data := #[] })).setCell ⟨gy, 4, none⟩ (.int .i64 0)).setCell ⟨gy, 5, none⟩ (.slice none 0 0)).setCell ⟨gy, 6, none⟩ (.slice none 0 0)) = Wc at *
        refine order_done (by kernel_rfl) ?_
        go_wp2_with fail
        go_meet
        exact ⟨gx, gy, Ax, cx, Ay, cy, rfl, rfl, hide ⟨HWV.out.trans' HKc.out (fun _ _ h => h) (fun _ _ h => h), BXc.out, BYc.out, IXc.out, IYc.out, HNE.out, HSZ.out ▸ Lx.out, HSZ.out ▸ Ly.out⟩⟩
  case rest =>
    obtain ⟨gx, gy, Ax, cx, Ay, cy, rfl, rfl, HR⟩ := hcut
    have hkx := HR.out.keep
    have hgx := HR.out.lx; have hgy := HR.out.ly; have hne := HR.out.ne
    have HKr := hide (HK8.out.trans' hkx (fun _ _ h => h) (fun _ _ h => h))
    have ISr := hide ((Is8.out.more (B' := fun k => ¬ k = gx ∧ ¬ k = gy) (fun k hk _ => by omega)).keep hkx); have IAr := hide ((Ia8.out.more (B' := fun k => ¬ k = gx ∧ ¬ k = gy) (fun k hk _ => by omega)).keep hkx)
    have BSr := hide (Bs8.out.keep hkx id); have BAr := hide (Ba8.out.keep hkx id)
    have hls := Bs8.out.lt; have hla := Ba8.out.lt
    have HSA := hide (And.intro (show ¬ w8.heap.size = gx by omega) (And.intro (show ¬ w8.heap.size = gy by omega) (And.intro (show ¬ w.heap.size = gx by omega) (show ¬ w.heap.size = gy by omega))))
    have HGG := hide (show w.heap.size ≤ gx ∧ w.heap.size ≤ gy from by have := HK8.out.size; omega)
    have BX := hide HR.out.bx; have BY := hide HR.out.by'; have IX := hide HR.out.ix; have IY := hide HR.out.iy; have HNE := hide hne
    have x1 : wc.cell? ⟨gx, 1, none⟩ = some (.bool ng) := BX.out.cell 1; have x2 : wc.frozen? ⟨gx, 1, none⟩ = false := BX.out.free 1
    have hs1 := Keeps.setCell (Keeps.refl (fun k => k = gx) wc) (p := ⟨gx, 1, none⟩) (.inl rfl) (.bool false)
    have y1 : (wc.setCell ⟨gx, 1, none⟩ (.bool false)).cell? ⟨gy, 1, none⟩ = some (.bool ng') := (BY.out.keep hs1 (fun e => hne e.symm)).cell 1
    have y2 : (wc.setCell ⟨gx, 1, none⟩ (.bool false)).frozen? ⟨gy, 1, none⟩ = false := (BY.out.keep hs1 (fun e => hne e.symm)).free 1
    clear hkx hgx hgy hls hla hs1 HR HK8 Ia8 Ib8 Ir8 Is8 Ba8 Bb8 Br8 Bs8 fr0 fr1 fr2 fr3 fr4 fr5 fr6 fb0 fb1 fb2 fb3 fb4 fb5 fb6
    go_upto_region 13 with fail
    have hs1 := Keeps.setCell (Keeps.refl (fun k => k = gx) wc) (p := ⟨gx, 1, none⟩) (.inl rfl) (.bool false)
    have hs2 := Keeps.setCell (Keeps.refl (fun k => k = gy) (wc.setCell ⟨gx, 1, none⟩ (.bool false))) (p := ⟨gy, 1, none⟩) (.inl rfl) (.bool false)
    have BXd := hide ((show Blk _ gx 26 #[.int .u8 1, .bool false, .slice Ax nr cx, .string { data := #[] }, .int .i64 0, .slice none 0 0, .slice none 0 0] from BX.out.put 1 (.bool false)).keep hs2 hne)
    have BYd := hide (show Blk _ gy 26 #[.int .u8 1, .bool false, .slice Ay n' cy, .string { data := #[] }, .int .i64 0, .slice none 0 0, .slice none 0 0] from (BY.out.keep hs1 (fun e => hne e.symm)).put 1 (.bool false))
    have BSd := hide ((BSr.out.keep hs1 HSA.out.1).keep hs2 HSA.out.2.1); have BAd := hide ((BAr.out.keep hs1 HSA.out.2.2.1).keep hs2 HSA.out.2.2.2)
    have ISd := hide ((ISr.out.far hs1 (fun k h => h.1)).far hs2 (fun k h => h.2))
    have IAd := hide ((IAr.out.far hs1 (fun k h => h.1)).far hs2 (fun k h => h.2))
    have IXd := hide ((IX.out.abs.far hs1 (fun k h => h.1)).far hs2 (fun k h => h.2))
    have IYd := hide ((IY.out.abs.far hs1 (fun k h => h.1)).far hs2 (fun k h => h.2))
    have HKd := hide ((HKr.out.setCell (p := ⟨gx, 1, none⟩) (.inr HGG.out.1) (.bool false)).setCell (p := ⟨gy, 1, none⟩) (.inr HGG.out.2) (.bool false))
    clear hs1 hs2 x1 x2 y1 y2 BX BY BSr BAr ISr IAr IX IY HKr hne
    generalize (wc.setCell ⟨gx, 1, none⟩ (.bool false)).setCell ⟨gy, 1, none⟩ (.bool false) = wd at *
    have s0 : wd.cell? ⟨w8.heap.size, 0, none⟩ = some (.int .u8 1) := BSd.out.cell 0; have s1 : wd.cell? ⟨w8.heap.size, 1, none⟩ = some (.bool ngs) := BSd.out.cell 1; have s2 : wd.cell? ⟨w8.heap.size, 2, none⟩ = some (.slice As ns cs) := BSd.out.cell 2; have s3 : wd.cell? ⟨w8.heap.size, 3, none⟩ = some (.string { data := #[] }) := BSd.out.cell 3; have s4 : wd.cell? ⟨w8.heap.size, 4, none⟩ = some (.int .i64 0) := BSd.out.cell 4; have s5 : wd.cell? ⟨w8.heap.size, 5, none⟩ = some (.slice none 0 0) := BSd.out.cell 5; have s6 : wd.cell? ⟨w8.heap.size, 6, none⟩ = some (.slice none 0 0) := BSd.out.cell 6
    have a0 : wd.cell? ⟨w.heap.size, 0, none⟩ = some (.int .u8 1) := BAd.out.cell 0; have a1 : wd.cell? ⟨w.heap.size, 1, none⟩ = some (.bool ng) := BAd.out.cell 1; have a2 : wd.cell? ⟨w.heap.size, 2, none⟩ = some (.slice A n c) := BAd.out.cell 2; have a3 : wd.cell? ⟨w.heap.size, 3, none⟩ = some (.string { data := #[] }) := BAd.out.cell 3; have a4 : wd.cell? ⟨w.heap.size, 4, none⟩ = some (.int .i64 0) := BAd.out.cell 4; have a5 : wd.cell? ⟨w.heap.size, 5, none⟩ = some (.slice ia 0 ic) := BAd.out.cell 5; have a6 : wd.cell? ⟨w.heap.size, 6, none⟩ = some (.slice ta 0 tc) := BAd.out.cell 6
    obtain ⟨cv, hcv⟩ : ∃ cv, cmpZ ((x.tmod y).natAbs : Int) (y.natAbs : Int) = cv := ⟨_, rfl⟩
    have hcd : decide (cv < 0) = true := hcv ▸ C2.out
    have HCV := hide hcv; clear hcv
    have M1 := hide True.intro
    go_wp2_with first | (clear M1; go_at_call 23; refine (compare_any ngs ng As A none none ia ta ns cs n c 0 0 ic tc (x.tdiv y * y + x.tmod y) x _ _ _ ISd.out IAd.out).mono ?_; rintro e we ⟨rfl, hk⟩; rw [C1.out]; have IXe := hide (IXd.out.keep hk); have IYe := hide (IYd.out.keep hk); have BXe := hide (BXd.out.keep hk id); have BYe := hide (BYd.out.keep hk id); have HKe := hide (HKd.out.trans' hk (fun _ _ h => h) (fun _ _ h => h)); clear hk ISd IAd IXd IYd BXd BYd BSd BAd HKd s0 s1 s2 s3 s4 s5 s6 a0 a1 a2 a3 a4 a5 a6; have x0 : we.cell? ⟨gx, 0, none⟩ = some (.int .u8 1) := BXe.out.cell 0; have x1 : we.cell? ⟨gx, 1, none⟩ = some (.bool false) := BXe.out.cell 1; have x2 : we.cell? ⟨gx, 2, none⟩ = some (.slice Ax nr cx) := BXe.out.cell 2; have x3 : we.cell? ⟨gx, 3, none⟩ = some (.string { data := #[] }) := BXe.out.cell 3; have x4 : we.cell? ⟨gx, 4, none⟩ = some (.int .i64 0) := BXe.out.cell 4; have x5 : we.cell? ⟨gx, 5, none⟩ = some (.slice none 0 0) := BXe.out.cell 5; have x6 : we.cell? ⟨gx, 6, none⟩ = some (.slice none 0 0) := BXe.out.cell 6; have y0 : we.cell? ⟨gy, 0, none⟩ = some (.int .u8 1) := BYe.out.cell 0; have y1 : we.cell? ⟨gy, 1, none⟩ = some (.bool false) := BYe.out.cell 1; have y2 : we.cell? ⟨gy, 2, none⟩ = some (.slice Ay n' cy) := BYe.out.cell 2; have y3 : we.cell? ⟨gy, 3, none⟩ = some (.string { data := #[] }) := BYe.out.cell 3; have y4 : we.cell? ⟨gy, 4, none⟩ = some (.int .i64 0) := BYe.out.cell 4; have y5 : we.cell? ⟨gy, 5, none⟩ = some (.slice none 0 0) := BYe.out.cell 5; have y6 : we.cell? ⟨gy, 6, none⟩ = some (.slice none 0 0) := BYe.out.cell 6) | (go_at_call 23; refine (compare_any false false Ax Ay none none none none nr cx n' cy 0 0 0 0 _ _ we _ _ IXe.out IYe.out).mono ?_; rintro e wf ⟨rfl, hk⟩; rw [HCV.out]; have HKf := hide (HKe.out.trans' hk (fun _ _ h => h) (fun _ _ h => h)); clear hk) | fail
    go_ret
    exact ⟨rfl, HKf.out⟩
end Go.Proofs.Ytfehciiidmgopaa
