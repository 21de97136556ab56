/- WholeLaws: for any three terms. -/
import Derived.Test.YtfehciiidmgopaaLaws0
import Derived.Test.YtfehciiidmgopaaLaws1
namespace Go.Proofs.Ytfehciiidmgopaa
open Go.RowKit

set_option maxHeartbeats 1000000 in
set_option maxRecDepth 100000 in
theorem laws_bad1 {w : World} {B B' BC : Nat → Prop} {r r' : Bool} {cs ds es : Array Value} (ha : TermA w B false cs) (hb : TermA w B' r ds) (hc : TermA w BC r' es) : Calls Try.prog 7 #[.agg cs, .agg ds, .agg es] w fun e w' => e = .returned (.bool true) ∧ Keeps NoB w w' := by
  have HTA := hide ha; have HTB := hide hb; have HTC := hide hc
  obtain ⟨kd, ng, la, ln, lc, tx, nm, ia, im, ic, ta, tm, tc, l, rfl, hl, hi, ht, hr⟩ := ha
  clear hl hi ht hr
  obtain ⟨kd', ng', la', ln', lc', tx', nm', ia', im', ic', ta', tm', tc', l', rfl, hl, hi, ht, hr⟩ := hb
  clear hl hi ht hr
  obtain ⟨kdc, ngc, lac, lnc, lcc, txc, nmc, iac, imc, icc, tac, tmc, tcc, l3, rfl, hl, hi, ht, hr⟩ := hc
  clear hl hi ht hr
  have Ba0 := hide (((Blk.new w 26 #[.int .u8 kd, .bool ng, .slice la ln lc, .string tx, .int .i64 nm, .slice ia im ic, .slice ta tm tc]).alloc (.cells #[.int .u8 kd', .bool ng', .slice la' ln' lc', .string tx', .int .i64 nm', .slice ia' im' ic', .slice ta' tm' tc'] 26)).alloc (.cells #[.int .u8 kdc, .bool ngc, .slice lac lnc lcc, .string txc, .int .i64 nmc, .slice iac imc icc, .slice tac tmc tcc] 26))
  have Bb0 := hide ((Blk.new2' w (.cells #[.int .u8 kd, .bool ng, .slice la ln lc, .string tx, .int .i64 nm, .slice ia im ic, .slice ta tm tc] 26) 26 #[.int .u8 kd', .bool ng', .slice la' ln' lc', .string tx', .int .i64 nm', .slice ia' im' ic', .slice ta' tm' tc']).alloc (.cells #[.int .u8 kdc, .bool ngc, .slice lac lnc lcc, .string txc, .int .i64 nmc, .slice iac imc icc, .slice tac tmc tcc] 26))
  have Bc0 := hide (Blk.new3' w (.cells #[.int .u8 kd, .bool ng, .slice la ln lc, .string tx, .int .i64 nm, .slice ia im ic, .slice ta tm tc] 26) (.cells #[.int .u8 kd', .bool ng', .slice la' ln' lc', .string tx', .int .i64 nm', .slice ia' im' ic', .slice ta' tm' tc'] 26) 26 #[.int .u8 kdc, .bool ngc, .slice lac lnc lcc, .string txc, .int .i64 nmc, .slice iac imc icc, .slice tac tmc tcc])
  have HK0 := hide ((((Keeps.refl NoB w).alloc (.cells #[.int .u8 kd, .bool ng, .slice la ln lc, .string tx, .int .i64 nm, .slice ia im ic, .slice ta tm tc] 26)).alloc (.cells #[.int .u8 kd', .bool ng', .slice la' ln' lc', .string tx', .int .i64 nm', .slice ia' im' ic', .slice ta' tm' tc'] 26)).alloc (.cells #[.int .u8 kdc, .bool ngc, .slice lac lnc lcc, .string txc, .int .i64 nmc, .slice iac imc icc, .slice tac tmc tcc] 26))
  have MM0 := hide True.intro; have MM1 := hide True.intro
  go_enter Try.func7, Try.ntmps7
  go_wp2_with first | (go_at_call 9; refine (awake_any _).mono ?_; rintro e w1 ⟨rfl, hk⟩; have HK1 := hide (HK0.out.trans' hk (fun _ _ h => h) (fun _ _ h => h)); have Ba1 := hide (Ba0.out.keep hk id); have Bb1 := hide (Bb0.out.keep hk id); have Bc1 := hide (Bc0.out.keep hk id); clear hk HK0 Ba0 Bb0 Bc0; have a0 : w1.cell? ⟨w.heap.size, 0, none⟩ = some (.int .u8 kd) := Ba1.out.cell 0; have a1 : w1.cell? ⟨w.heap.size, 1, none⟩ = some (.bool ng) := Ba1.out.cell 1; have a2 : w1.cell? ⟨w.heap.size, 2, none⟩ = some (.slice la ln lc) := Ba1.out.cell 2; have a3 : w1.cell? ⟨w.heap.size, 3, none⟩ = some (.string tx) := Ba1.out.cell 3; have a4 : w1.cell? ⟨w.heap.size, 4, none⟩ = some (.int .i64 nm) := Ba1.out.cell 4; have a5 : w1.cell? ⟨w.heap.size, 5, none⟩ = some (.slice ia im ic) := Ba1.out.cell 5; have a6 : w1.cell? ⟨w.heap.size, 6, none⟩ = some (.slice ta tm tc) := Ba1.out.cell 6) | (clear MM0; go_at_call 24; refine (HTA.out.keep HK1.out).right.mono ?_; rintro e w2 ⟨rfl, hk⟩; have HK2 := hide (HK1.out.trans' hk (fun _ _ h => h) (fun _ _ h => h)); have Bb2 := hide (Bb1.out.keep hk id); have Bc2 := hide (Bc1.out.keep hk id); clear hk HK1 Ba1 Bb1 Bc1 a0 a1 a2 a3 a4 a5 a6; have a0 : w2.cell? ⟨w.heap.size + 1, 0, none⟩ = some (.int .u8 kd') := Bb2.out.cell 0; have a1 : w2.cell? ⟨w.heap.size + 1, 1, none⟩ = some (.bool ng') := Bb2.out.cell 1; have a2 : w2.cell? ⟨w.heap.size + 1, 2, none⟩ = some (.slice la' ln' lc') := Bb2.out.cell 2; have a3 : w2.cell? ⟨w.heap.size + 1, 3, none⟩ = some (.string tx') := Bb2.out.cell 3; have a4 : w2.cell? ⟨w.heap.size + 1, 4, none⟩ = some (.int .i64 nm') := Bb2.out.cell 4; have a5 : w2.cell? ⟨w.heap.size + 1, 5, none⟩ = some (.slice ia' im' ic') := Bb2.out.cell 5; have a6 : w2.cell? ⟨w.heap.size + 1, 6, none⟩ = some (.slice ta' tm' tc') := Bb2.out.cell 6) | fail
  go_ret
  exact ⟨rfl, HK2.out⟩
set_option maxHeartbeats 1000000 in
set_option maxRecDepth 100000 in
theorem laws_bad2 {w : World} {B B' BC : Nat → Prop} {r' : Bool} {cs ds es : Array Value} (ha : TermA w B true cs) (hb : TermA w B' false ds) (hc : TermA w BC r' es) : Calls Try.prog 7 #[.agg cs, .agg ds, .agg es] w fun e w' => e = .returned (.bool true) ∧ Keeps NoB w w' := by
  have HTA := hide ha; have HTB := hide hb; have HTC := hide hc
  obtain ⟨kd, ng, la, ln, lc, tx, nm, ia, im, ic, ta, tm, tc, l, rfl, hl, hi, ht, hr⟩ := ha
  clear hl hi ht hr
  obtain ⟨kd', ng', la', ln', lc', tx', nm', ia', im', ic', ta', tm', tc', l', rfl, hl, hi, ht, hr⟩ := hb
  clear hl hi ht hr
  obtain ⟨kdc, ngc, lac, lnc, lcc, txc, nmc, iac, imc, icc, tac, tmc, tcc, l3, rfl, hl, hi, ht, hr⟩ := hc
  clear hl hi ht hr
  have Ba0 := hide (((Blk.new w 26 #[.int .u8 kd, .bool ng, .slice la ln lc, .string tx, .int .i64 nm, .slice ia im ic, .slice ta tm tc]).alloc (.cells #[.int .u8 kd', .bool ng', .slice la' ln' lc', .string tx', .int .i64 nm', .slice ia' im' ic', .slice ta' tm' tc'] 26)).alloc (.cells #[.int .u8 kdc, .bool ngc, .slice lac lnc lcc, .string txc, .int .i64 nmc, .slice iac imc icc, .slice tac tmc tcc] 26))
  have Bb0 := hide ((Blk.new2' w (.cells #[.int .u8 kd, .bool ng, .slice la ln lc, .string tx, .int .i64 nm, .slice ia im ic, .slice ta tm tc] 26) 26 #[.int .u8 kd', .bool ng', .slice la' ln' lc', .string tx', .int .i64 nm', .slice ia' im' ic', .slice ta' tm' tc']).alloc (.cells #[.int .u8 kdc, .bool ngc, .slice lac lnc lcc, .string txc, .int .i64 nmc, .slice iac imc icc, .slice tac tmc tcc] 26))
  have Bc0 := hide (Blk.new3' w (.cells #[.int .u8 kd, .bool ng, .slice la ln lc, .string tx, .int .i64 nm, .slice ia im ic, .slice ta tm tc] 26) (.cells #[.int .u8 kd', .bool ng', .slice la' ln' lc', .string tx', .int .i64 nm', .slice ia' im' ic', .slice ta' tm' tc'] 26) 26 #[.int .u8 kdc, .bool ngc, .slice lac lnc lcc, .string txc, .int .i64 nmc, .slice iac imc icc, .slice tac tmc tcc])
  have HK0 := hide ((((Keeps.refl NoB w).alloc (.cells #[.int .u8 kd, .bool ng, .slice la ln lc, .string tx, .int .i64 nm, .slice ia im ic, .slice ta tm tc] 26)).alloc (.cells #[.int .u8 kd', .bool ng', .slice la' ln' lc', .string tx', .int .i64 nm', .slice ia' im' ic', .slice ta' tm' tc'] 26)).alloc (.cells #[.int .u8 kdc, .bool ngc, .slice lac lnc lcc, .string txc, .int .i64 nmc, .slice iac imc icc, .slice tac tmc tcc] 26))
  have MM0 := hide True.intro; have MM1 := hide True.intro
  go_enter Try.func7, Try.ntmps7
  go_wp2_with first | (go_at_call 9; refine (awake_any _).mono ?_; rintro e w1 ⟨rfl, hk⟩; have HK1 := hide (HK0.out.trans' hk (fun _ _ h => h) (fun _ _ h => h)); have Ba1 := hide (Ba0.out.keep hk id); have Bb1 := hide (Bb0.out.keep hk id); have Bc1 := hide (Bc0.out.keep hk id); clear hk HK0 Ba0 Bb0 Bc0; have a0 : w1.cell? ⟨w.heap.size, 0, none⟩ = some (.int .u8 kd) := Ba1.out.cell 0; have a1 : w1.cell? ⟨w.heap.size, 1, none⟩ = some (.bool ng) := Ba1.out.cell 1; have a2 : w1.cell? ⟨w.heap.size, 2, none⟩ = some (.slice la ln lc) := Ba1.out.cell 2; have a3 : w1.cell? ⟨w.heap.size, 3, none⟩ = some (.string tx) := Ba1.out.cell 3; have a4 : w1.cell? ⟨w.heap.size, 4, none⟩ = some (.int .i64 nm) := Ba1.out.cell 4; have a5 : w1.cell? ⟨w.heap.size, 5, none⟩ = some (.slice ia im ic) := Ba1.out.cell 5; have a6 : w1.cell? ⟨w.heap.size, 6, none⟩ = some (.slice ta tm tc) := Ba1.out.cell 6) | (clear MM0; go_at_call 24; refine (HTA.out.keep HK1.out).right.mono ?_; rintro e w2 ⟨rfl, hk⟩; have HK2 := hide (HK1.out.trans' hk (fun _ _ h => h) (fun _ _ h => h)); have Bb2 := hide (Bb1.out.keep hk id); have Bc2 := hide (Bc1.out.keep hk id); clear hk HK1 Ba1 Bb1 Bc1 a0 a1 a2 a3 a4 a5 a6; have a0 : w2.cell? ⟨w.heap.size + 1, 0, none⟩ = some (.int .u8 kd') := Bb2.out.cell 0; have a1 : w2.cell? ⟨w.heap.size + 1, 1, none⟩ = some (.bool ng') := Bb2.out.cell 1; have a2 : w2.cell? ⟨w.heap.size + 1, 2, none⟩ = some (.slice la' ln' lc') := Bb2.out.cell 2; have a3 : w2.cell? ⟨w.heap.size + 1, 3, none⟩ = some (.string tx') := Bb2.out.cell 3; have a4 : w2.cell? ⟨w.heap.size + 1, 4, none⟩ = some (.int .i64 nm') := Bb2.out.cell 4; have a5 : w2.cell? ⟨w.heap.size + 1, 5, none⟩ = some (.slice ia' im' ic') := Bb2.out.cell 5; have a6 : w2.cell? ⟨w.heap.size + 1, 6, none⟩ = some (.slice ta' tm' tc') := Bb2.out.cell 6) | (clear MM1; go_at_call 24; refine (HTB.out.keep HK2.out).right.mono ?_; rintro e w3 ⟨rfl, hk⟩; have HK3 := hide (HK2.out.trans' hk (fun _ _ h => h) (fun _ _ h => h)); have Bc3 := hide (Bc2.out.keep hk id); clear hk HK2 Bb2 Bc2 a0 a1 a2 a3 a4 a5 a6; have a0 : w3.cell? ⟨w.heap.size + 1 + 1, 0, none⟩ = some (.int .u8 kdc) := Bc3.out.cell 0; have a1 : w3.cell? ⟨w.heap.size + 1 + 1, 1, none⟩ = some (.bool ngc) := Bc3.out.cell 1; have a2 : w3.cell? ⟨w.heap.size + 1 + 1, 2, none⟩ = some (.slice lac lnc lcc) := Bc3.out.cell 2; have a3 : w3.cell? ⟨w.heap.size + 1 + 1, 3, none⟩ = some (.string txc) := Bc3.out.cell 3; have a4 : w3.cell? ⟨w.heap.size + 1 + 1, 4, none⟩ = some (.int .i64 nmc) := Bc3.out.cell 4; have a5 : w3.cell? ⟨w.heap.size + 1 + 1, 5, none⟩ = some (.slice iac imc icc) := Bc3.out.cell 5; have a6 : w3.cell? ⟨w.heap.size + 1 + 1, 6, none⟩ = some (.slice tac tmc tcc) := Bc3.out.cell 6) | fail
  go_ret
  exact ⟨rfl, HK3.out⟩
set_option maxHeartbeats 1000000 in
set_option maxRecDepth 100000 in
theorem laws_bad3 {w : World} {B B' BC : Nat → Prop} {cs ds es : Array Value} (ha : TermA w B true cs) (hb : TermA w B' true ds) (hc : TermA w BC false es) : Calls Try.prog 7 #[.agg cs, .agg ds, .agg es] w fun e w' => e = .returned (.bool true) ∧ Keeps NoB w w' := by
  have HTA := hide ha; have HTB := hide hb; have HTC := hide hc
  obtain ⟨kd, ng, la, ln, lc, tx, nm, ia, im, ic, ta, tm, tc, l, rfl, hl, hi, ht, hr⟩ := ha
  clear hl hi ht hr
  obtain ⟨kd', ng', la', ln', lc', tx', nm', ia', im', ic', ta', tm', tc', l', rfl, hl, hi, ht, hr⟩ := hb
  clear hl hi ht hr
  obtain ⟨kdc, ngc, lac, lnc, lcc, txc, nmc, iac, imc, icc, tac, tmc, tcc, l3, rfl, hl, hi, ht, hr⟩ := hc
  clear hl hi ht hr
  have Ba0 := hide (((Blk.new w 26 #[.int .u8 kd, .bool ng, .slice la ln lc, .string tx, .int .i64 nm, .slice ia im ic, .slice ta tm tc]).alloc (.cells #[.int .u8 kd', .bool ng', .slice la' ln' lc', .string tx', .int .i64 nm', .slice ia' im' ic', .slice ta' tm' tc'] 26)).alloc (.cells #[.int .u8 kdc, .bool ngc, .slice lac lnc lcc, .string txc, .int .i64 nmc, .slice iac imc icc, .slice tac tmc tcc] 26))
  have Bb0 := hide ((Blk.new2' w (.cells #[.int .u8 kd, .bool ng, .slice la ln lc, .string tx, .int .i64 nm, .slice ia im ic, .slice ta tm tc] 26) 26 #[.int .u8 kd', .bool ng', .slice la' ln' lc', .string tx', .int .i64 nm', .slice ia' im' ic', .slice ta' tm' tc']).alloc (.cells #[.int .u8 kdc, .bool ngc, .slice lac lnc lcc, .string txc, .int .i64 nmc, .slice iac imc icc, .slice tac tmc tcc] 26))
  have Bc0 := hide (Blk.new3' w (.cells #[.int .u8 kd, .bool ng, .slice la ln lc, .string tx, .int .i64 nm, .slice ia im ic, .slice ta tm tc] 26) (.cells #[.int .u8 kd', .bool ng', .slice la' ln' lc', .string tx', .int .i64 nm', .slice ia' im' ic', .slice ta' tm' tc'] 26) 26 #[.int .u8 kdc, .bool ngc, .slice lac lnc lcc, .string txc, .int .i64 nmc, .slice iac imc icc, .slice tac tmc tcc])
  have HK0 := hide ((((Keeps.refl NoB w).alloc (.cells #[.int .u8 kd, .bool ng, .slice la ln lc, .string tx, .int .i64 nm, .slice ia im ic, .slice ta tm tc] 26)).alloc (.cells #[.int .u8 kd', .bool ng', .slice la' ln' lc', .string tx', .int .i64 nm', .slice ia' im' ic', .slice ta' tm' tc'] 26)).alloc (.cells #[.int .u8 kdc, .bool ngc, .slice lac lnc lcc, .string txc, .int .i64 nmc, .slice iac imc icc, .slice tac tmc tcc] 26))
  have MM0 := hide True.intro; have MM1 := hide True.intro
  go_enter Try.func7, Try.ntmps7
  go_wp2_with first | (go_at_call 9; refine (awake_any _).mono ?_; rintro e w1 ⟨rfl, hk⟩; have HK1 := hide (HK0.out.trans' hk (fun _ _ h => h) (fun _ _ h => h)); have Ba1 := hide (Ba0.out.keep hk id); have Bb1 := hide (Bb0.out.keep hk id); have Bc1 := hide (Bc0.out.keep hk id); clear hk HK0 Ba0 Bb0 Bc0; have a0 : w1.cell? ⟨w.heap.size, 0, none⟩ = some (.int .u8 kd) := Ba1.out.cell 0; have a1 : w1.cell? ⟨w.heap.size, 1, none⟩ = some (.bool ng) := Ba1.out.cell 1; have a2 : w1.cell? ⟨w.heap.size, 2, none⟩ = some (.slice la ln lc) := Ba1.out.cell 2; have a3 : w1.cell? ⟨w.heap.size, 3, none⟩ = some (.string tx) := Ba1.out.cell 3; have a4 : w1.cell? ⟨w.heap.size, 4, none⟩ = some (.int .i64 nm) := Ba1.out.cell 4; have a5 : w1.cell? ⟨w.heap.size, 5, none⟩ = some (.slice ia im ic) := Ba1.out.cell 5; have a6 : w1.cell? ⟨w.heap.size, 6, none⟩ = some (.slice ta tm tc) := Ba1.out.cell 6) | (clear MM0; go_at_call 24; refine (HTA.out.keep HK1.out).right.mono ?_; rintro e w2 ⟨rfl, hk⟩; have HK2 := hide (HK1.out.trans' hk (fun _ _ h => h) (fun _ _ h => h)); have Bb2 := hide (Bb1.out.keep hk id); have Bc2 := hide (Bc1.out.keep hk id); clear hk HK1 Ba1 Bb1 Bc1 a0 a1 a2 a3 a4 a5 a6; have a0 : w2.cell? ⟨w.heap.size + 1, 0, none⟩ = some (.int .u8 kd') := Bb2.out.cell 0; have a1 : w2.cell? ⟨w.heap.size + 1, 1, none⟩ = some (.bool ng') := Bb2.out.cell 1; have a2 : w2.cell? ⟨w.heap.size + 1, 2, none⟩ = some (.slice la' ln' lc') := Bb2.out.cell 2; have a3 : w2.cell? ⟨w.heap.size + 1, 3, none⟩ = some (.string tx') := Bb2.out.cell 3; have a4 : w2.cell? ⟨w.heap.size + 1, 4, none⟩ = some (.int .i64 nm') := Bb2.out.cell 4; have a5 : w2.cell? ⟨w.heap.size + 1, 5, none⟩ = some (.slice ia' im' ic') := Bb2.out.cell 5; have a6 : w2.cell? ⟨w.heap.size + 1, 6, none⟩ = some (.slice ta' tm' tc') := Bb2.out.cell 6) | (clear MM1; go_at_call 24; refine (HTB.out.keep HK2.out).right.mono ?_; rintro e w3 ⟨rfl, hk⟩; have HK3 := hide (HK2.out.trans' hk (fun _ _ h => h) (fun _ _ h => h)); have Bc3 := hide (Bc2.out.keep hk id); clear hk HK2 Bb2 Bc2 a0 a1 a2 a3 a4 a5 a6; have a0 : w3.cell? ⟨w.heap.size + 1 + 1, 0, none⟩ = some (.int .u8 kdc) := Bc3.out.cell 0; have a1 : w3.cell? ⟨w.heap.size + 1 + 1, 1, none⟩ = some (.bool ngc) := Bc3.out.cell 1; have a2 : w3.cell? ⟨w.heap.size + 1 + 1, 2, none⟩ = some (.slice lac lnc lcc) := Bc3.out.cell 2; have a3 : w3.cell? ⟨w.heap.size + 1 + 1, 3, none⟩ = some (.string txc) := Bc3.out.cell 3; have a4 : w3.cell? ⟨w.heap.size + 1 + 1, 4, none⟩ = some (.int .i64 nmc) := Bc3.out.cell 4; have a5 : w3.cell? ⟨w.heap.size + 1 + 1, 5, none⟩ = some (.slice iac imc icc) := Bc3.out.cell 5; have a6 : w3.cell? ⟨w.heap.size + 1 + 1, 6, none⟩ = some (.slice tac tmc tcc) := Bc3.out.cell 6) | (go_at_call 24; refine (HTC.out.keep HK3.out).right.mono ?_; rintro e w4 ⟨rfl, hk⟩; have HK4 := hide (HK3.out.trans' hk (fun _ _ h => h) (fun _ _ h => h)); clear hk HK3 Bc3 a0 a1 a2 a3 a4 a5 a6) | fail
  go_ret
  exact ⟨rfl, HK4.out⟩
theorem laws_any {w : World} {B B' BC : Nat → Prop} {r r' r3 : Bool} {cs ds es : Array Value} (ha : TermA w B r cs) (hb : TermA w B' r' ds) (hc : TermA w BC r3 es) : Calls Try.prog 7 #[.agg cs, .agg ds, .agg es] w fun e w' => e = .returned (.bool true) ∧ Keeps NoB w w' := by
  cases r with
  | false => exact laws_bad1 ha hb hc
  | true => cases r' with
    | false => exact laws_bad2 ha hb hc
    | true => cases r3 with
      | false => exact laws_bad3 ha hb hc
      | true =>
        obtain ⟨ng, A, n, c, x, ia, ta, ic, tc, rfl, i1⟩ := ha.int
        obtain ⟨ng', A', n', c', y, ia', ta', ic', tc', rfl, i2⟩ := hb.int
        obtain ⟨ngc, Ac, nc, cc, z, iac, tac, icc, tcc, rfl, i3⟩ := hc.int
        rcases Nat.lt_or_ge (x * y).natAbs Big with hp | hp
        ·
          rcases Nat.lt_or_ge (x + y).natAbs Big with hs | hs
          · rcases Nat.lt_or_ge ((x + y) * z).natAbs Big with hx | hx
            · rcases Nat.lt_or_ge (x * z).natAbs Big with hv | hv
              · rcases Nat.lt_or_ge (y * z).natAbs Big with hu | hu
                · exact laws_all1 _ _ _ _ _ _ _ _ _ _ _ _ _ _ _ _ _ _ _ _ _ _ _ _ x y z w _ _ _ i1 i2 i3 hs hp hx hv hu
                · exact laws_zno1 _ _ _ _ _ _ _ _ _ _ _ _ _ _ _ _ _ _ _ _ _ _ _ _ x y z w _ _ _ i1 i2 i3 hs hp hx hv hu
              · exact laws_yno1 _ _ _ _ _ _ _ _ _ _ _ _ _ _ _ _ _ _ _ _ _ _ _ _ x y z w _ _ _ i1 i2 i3 hs hp hx hv
            · exact laws_xno1 _ _ _ _ _ _ _ _ _ _ _ _ _ _ _ _ _ _ _ _ _ _ _ _ x y z w _ _ _ i1 i2 i3 hs hp hx
          · exact laws_sno1 _ _ _ _ _ _ _ _ _ _ _ _ _ _ _ _ _ _ _ _ _ _ _ _ x y z w _ _ _ i1 i2 i3 hs hp
        ·
          rcases Nat.lt_or_ge (x + y).natAbs Big with hs | hs
          · rcases Nat.lt_or_ge ((x + y) * z).natAbs Big with hx | hx
            · rcases Nat.lt_or_ge (x * z).natAbs Big with hv | hv
              · rcases Nat.lt_or_ge (y * z).natAbs Big with hu | hu
                · exact laws_all0 _ _ _ _ _ _ _ _ _ _ _ _ _ _ _ _ _ _ _ _ _ _ _ _ x y z w _ _ _ i1 i2 i3 hs hp hx hv hu
                · exact laws_zno0 _ _ _ _ _ _ _ _ _ _ _ _ _ _ _ _ _ _ _ _ _ _ _ _ x y z w _ _ _ i1 i2 i3 hs hp hx hv hu
              · exact laws_yno0 _ _ _ _ _ _ _ _ _ _ _ _ _ _ _ _ _ _ _ _ _ _ _ _ x y z w _ _ _ i1 i2 i3 hs hp hx hv
            · exact laws_xno0 _ _ _ _ _ _ _ _ _ _ _ _ _ _ _ _ _ _ _ _ _ _ _ _ x y z w _ _ _ i1 i2 i3 hs hp hx
          · exact laws_sno0 _ _ _ _ _ _ _ _ _ _ _ _ _ _ _ _ _ _ _ _ _ _ _ _ x y z w _ _ _ i1 i2 i3 hs hp
end Go.Proofs.Ytfehciiidmgopaa
