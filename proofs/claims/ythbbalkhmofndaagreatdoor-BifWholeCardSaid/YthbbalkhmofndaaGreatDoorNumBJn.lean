/- bif.raise: its contract. Printed by mkraise.py. bif.bad: its contract. Printed by mkraise.py. slices.ContainsFunc at bif.are's own function: are terms all of a kind? A whole as a tree, and back. slices.ContainsFunc at bif.proper's own function: are terms all proper lists? bif.Call at one and at two arguments, by what one and two tell. Printed by mkcallr.py. bif.number: its contracts. Printed by mknum.py. -/
import Derived.Test.YthbbalkhmofndaaGreatDoorNumLJn
import Derived.Test.YthbbalkhmofndaaGreatDoorTwoJn
import Derived.Test.YthbbalkhmofndaaGreatDoorTextJn
namespace Go.Proofs.YthbbalkhmofndaaGreatDoor
open Go.RowKit

def RaiseP (w : World) (cs : Array Value) (e : Ending) (w' : World) : Prop := ∃ g, e = .returned (.agg #[.int .u8 0, .bool false, .slice none 0 0, .string ⟨#[]⟩, .int .i64 0, .slice none 0 0, .slice none 0 0, .int .u8 6, .bool false, .slice none 0 0, .string ⟨#[]⟩, .int .i64 0, .slice (some ⟨g, 0, none⟩) 2 2, .slice none 0 0]) ∧ w.heap.size ≤ g ∧ Blk w' g 26 cs ∧ Keeps NoB w w'
set_option maxRecDepth 100000 in
set_option maxHeartbeats 1000000 in
theorem raise_any (s : ByteArray) (kd : Int) (ng : Bool) (la : Option Addr) (ln lc : Nat) (tx : ByteArray) (nm : Int) (ia : Option Addr) (im ic : Nat) (ta : Option Addr) (tn tc : Nat) (w : World) : Calls Tryz.prog 46 #[.string s, .agg #[.int .u8 kd, .bool ng, .slice la ln lc, .string tx, .int .i64 nm, .slice ia im ic, .slice ta tn tc]] w (RaiseP w #[.int .u8 2, .bool false, .slice none 0 0, .string s, .int .i64 0, .slice none 0 0, .slice none 0 0, .int .u8 kd, .bool ng, .slice la ln lc, .string tx, .int .i64 nm, .slice ia im ic, .slice ta tn tc]) := by
  have HC := hide ((Blk.new w 26 #[.int .u8 kd, .bool ng, .slice la ln lc, .string tx, .int .i64 nm, .slice ia im ic, .slice ta tn tc]).alloc (.cells #[.int .u8 0, .bool false, .slice none 0 0, .string ⟨#[]⟩, .int .i64 0, .slice none 0 0, .slice none 0 0, .int .u8 0, .bool false, .slice none 0 0, .string ⟨#[]⟩, .int .i64 0, .slice none 0 0, .slice none 0 0] 48))
  have HB := hide (Blk.new2 w (.cells #[.int .u8 kd, .bool ng, .slice la ln lc, .string tx, .int .i64 nm, .slice ia im ic, .slice ta tn tc] 26) 48 #[.int .u8 0, .bool false, .slice none 0 0, .string ⟨#[]⟩, .int .i64 0, .slice none 0 0, .slice none 0 0, .int .u8 0, .bool false, .slice none 0 0, .string ⟨#[]⟩, .int .i64 0, .slice none 0 0, .slice none 0 0])
  have HK := hide (((Keeps.refl NoB w).alloc (.cells #[.int .u8 kd, .bool ng, .slice la ln lc, .string tx, .int .i64 nm, .slice ia im ic, .slice ta tn tc] 26)).alloc (.cells #[.int .u8 0, .bool false, .slice none 0 0, .string ⟨#[]⟩, .int .i64 0, .slice none 0 0, .slice none 0 0, .int .u8 0, .bool false, .slice none 0 0, .string ⟨#[]⟩, .int .i64 0, .slice none 0 0, .slice none 0 0] 48))
  go_enter Tryz.func46, Tryz.ntmps46
  go_upto_region 1 with fail
  generalize (w.alloc (.cells #[.int .u8 kd, .bool ng, .slice la ln lc, .string tx, .int .i64 nm, .slice ia im ic, .slice ta tn tc] 26)).alloc (.cells #[.int .u8 0, .bool false, .slice none 0 0, .string ⟨#[]⟩, .int .i64 0, .slice none 0 0, .slice none 0 0, .int .u8 0, .bool false, .slice none 0 0, .string ⟨#[]⟩, .int .i64 0, .slice none 0 0, .slice none 0 0] 48) = w1 at *
  refine order_begin (fun W => Keeps NoB w1 W) (fun i => !(i == 6)) (by kernel_rfl) 7 rfl ?_
  have HS : Keeps NoB w1 w1.drew := (Keeps.refl _ _).drew
  refine order_pure (i := 0) rfl (by kernel_rfl) (fun _ _ _ h => h) (.inl ⟨rfl, fun _ => by go_simp; rfl⟩) ?_
  try simp only [Act.put, List.setIfInBounds_toArray, List.set_cons_succ, List.set_cons_zero]
  refine order_held (i := 2) rfl (by kernel_rfl) (fun _ _ _ h => h) (.inl ⟨rfl, fun W hW => by
    have q0 : W.cell? ⟨w.heap.size, 0, none⟩ = some (.int .u8 kd) := hW.cell id (HC.out.cell 0)
    have q1 : W.cell? ⟨w.heap.size, 1, none⟩ = some (.bool ng) := hW.cell id (HC.out.cell 1)
    have q2 : W.cell? ⟨w.heap.size, 2, none⟩ = some (.slice la ln lc) := hW.cell id (HC.out.cell 2)
    have q3 : W.cell? ⟨w.heap.size, 3, none⟩ = some (.string tx) := hW.cell id (HC.out.cell 3)
    have q4 : W.cell? ⟨w.heap.size, 4, none⟩ = some (.int .i64 nm) := hW.cell id (HC.out.cell 4)
    have q5 : W.cell? ⟨w.heap.size, 5, none⟩ = some (.slice ia im ic) := hW.cell id (HC.out.cell 5)
    have q6 : W.cell? ⟨w.heap.size, 6, none⟩ = some (.slice ta tn tc) := hW.cell id (HC.out.cell 6)
    go_simp; rfl⟩) HS ?_
  try simp only [Act.put, List.setIfInBounds_toArray, List.set_cons_succ, List.set_cons_zero]
  refine order_one (i := 1) rfl (by kernel_rfl) (fun K hK => ?_)
  go_simp
  refine (atom_any s _).mono ?_
  rintro e w2 ⟨rfl, hk2⟩
  unfold atomV
  have HK2 := hide (HS.trans' hk2 (fun _ _ => id) (fun _ _ => id) : Keeps NoB w1 w2)
  refine hK _ _ (fun _ _ => HK2.out) ?_
  clear hK hk2
  try simp only [Act.put, List.setIfInBounds_toArray, List.set_cons_succ, List.set_cons_zero]
  refine order_one (i := 3) rfl (by kernel_rfl) (fun K hK => ?_)
  go_simp
  refine hK _ _ (fun _ h => h.alloc _) ?_
  clear hK
  try simp only [Act.put, List.setIfInBounds_toArray, List.set_cons_succ, List.set_cons_zero]
  have HN := hide (Blk.new w2 26 #[.int .u8 2, .bool false, .slice none 0 0, .string s, .int .i64 0, .slice none 0 0, .slice none 0 0, .int .u8 kd, .bool ng, .slice la ln lc, .string tx, .int .i64 nm, .slice ia im ic, .slice ta tn tc])
  have HK3 := hide (HK2.out.alloc (.cells #[.int .u8 2, .bool false, .slice none 0 0, .string s, .int .i64 0, .slice none 0 0, .slice none 0 0, .int .u8 kd, .bool ng, .slice la ln lc, .string tx, .int .i64 nm, .slice ia im ic, .slice ta tn tc] 26))
  have HG := hide (show w.heap.size ≤ w2.heap.size from Nat.le_trans HK.out.size HK2.out.size)
  have HLT := hide HB.out.lt
  generalize w2.alloc (.cells #[.int .u8 2, .bool false, .slice none 0 0, .string s, .int .i64 0, .slice none 0 0, .slice none 0 0, .int .u8 kd, .bool ng, .slice la ln lc, .string tx, .int .i64 nm, .slice ia im ic, .slice ta tn tc] 26) = w3 at *
  have HLU := hide HK2.out.size
  generalize w2.heap.size = g at *
  refine order_one (i := 4) rfl (by kernel_rfl) (fun K hK => ?_)
  go_simp
  refine (bif_tuple (some ⟨g, 0, none⟩) 2 2 w3).mono ?_
  rintro e w4 ⟨rfl, hk4⟩
  have HK4 := hide (HK3.out.trans' hk4 (fun _ _ => id) (fun _ _ => id) : Keeps NoB w1 w4)
  have HN4 := hide (HN.out.keep hk4 id)
  have HB4 := hide (HB.out.keep HK4.out id)
  refine hK _ _ (fun _ _ => HK4.out) ?_
  clear hK hk4
  try simp only [Act.put, List.setIfInBounds_toArray, List.set_cons_succ, List.set_cons_zero]
  refine order_pure (i := 5) rfl (by kernel_rfl) (fun _ _ _ h => h) (.inl ⟨rfl, fun _ => by go_simp; rfl⟩) ?_
  try simp only [Act.put, List.setIfInBounds_toArray, List.set_cons_succ, List.set_cons_zero]
  obtain ⟨z0, z1, z2, z3, z4, z5, z6, z7, z8, z9, z10, z11, z12, z13⟩ := Blk.f14 (w := w4) (g := w.heap.size + 1) HB4.out
  obtain ⟨v0, v1, v2, v3, v4, v5, v6, v7, v8, v9, v10, v11, v12, v13⟩ := Blk.c14 (show Blk w4 (w.heap.size + 1) _ #[.int .u8 0, .bool false, .slice none 0 0, .string ⟨#[]⟩, .int .i64 0, .slice none 0 0, .slice none 0 0, .int .u8 0, .bool false, .slice none 0 0, .string ⟨#[]⟩, .int .i64 0, .slice none 0 0, .slice none 0 0] from HB4.out)
  refine order_one (i := 6) rfl (by kernel_rfl) (fun K hK => ?_)
  go_simp
  refine hK _ _ (fun h => absurd h (by decide)) ?_
  clear hK
  try simp only [Act.put, List.setIfInBounds_toArray, List.set_cons_succ, List.set_cons_zero]
  refine order_done (by kernel_rfl) ?_
  go_wp2_with fail
  refine bodyPost_ret (results14 Tryz.f46 4 (by kernel_rfl) _ _ _ _ _ _ _ _ _ _ _ _ _ _ _ _ _ rfl (HB4.out.tput14 _ _ _ _ _ _ _ _ _ _ _ _ _ _)) rfl ?_
  exact ⟨g, rfl, HG.out, HN4.out.keep (keeps_tput14 w4 (w.heap.size + 1) _ _ _ _ _ _ _ _ _ _ _ _ _ _) (fun e => by have := HLT.out; have := HLU.out; omega), (HK.out.trans' HK4.out (fun _ _ => id) (fun _ _ => id) : Keeps NoB w w4).trans' (keeps_tput14 w4 (w.heap.size + 1) _ _ _ _ _ _ _ _ _ _ _ _ _ _) (fun _ _ => id) (fun i hi e => by omega)⟩
end Go.Proofs.YthbbalkhmofndaaGreatDoor
namespace Go.Proofs.YthbbalkhmofndaaGreatDoor
open Go.RowKit

set_option maxRecDepth 100000 in
set_option maxHeartbeats 1000000 in
theorem bad_any (s : ByteArray) (w : World) : Calls Tryz.prog 27 #[.string s] w (RaiseP w #[.int .u8 2, .bool false, .slice none 0 0, .string ⟨#[101, 114, 114, 111, 114]⟩, .int .i64 0, .slice none 0 0, .slice none 0 0, .int .u8 2, .bool false, .slice none 0 0, .string s, .int .i64 0, .slice none 0 0, .slice none 0 0]) := by
  have HB0 := hide (Blk.new w 48 #[.int .u8 0, .bool false, .slice none 0 0, .string ⟨#[]⟩, .int .i64 0, .slice none 0 0, .slice none 0 0, .int .u8 0, .bool false, .slice none 0 0, .string ⟨#[]⟩, .int .i64 0, .slice none 0 0, .slice none 0 0])
  have HK0 := hide ((Keeps.refl NoB w).alloc (.cells #[.int .u8 0, .bool false, .slice none 0 0, .string ⟨#[]⟩, .int .i64 0, .slice none 0 0, .slice none 0 0, .int .u8 0, .bool false, .slice none 0 0, .string ⟨#[]⟩, .int .i64 0, .slice none 0 0, .slice none 0 0] 48))
  have HL := hide HB0.out.lt
  go_enter Tryz.func27, Tryz.ntmps27
  go_upto_region 1 with fail
  generalize w.alloc (.cells #[.int .u8 0, .bool false, .slice none 0 0, .string ⟨#[]⟩, .int .i64 0, .slice none 0 0, .slice none 0 0, .int .u8 0, .bool false, .slice none 0 0, .string ⟨#[]⟩, .int .i64 0, .slice none 0 0, .slice none 0 0] 48) = w0 at *
  go_wp2_with
    first
    | (go_at_call 64
       refine (atom_any s w0).mono ?_
       rintro e w1 ⟨rfl, hk1⟩
       unfold atomV
       have HK1 := hide (HK0.out.trans' hk1 (fun _ _ => id) (fun _ _ => id) : Keeps NoB w w1)
       have HB1 := hide (HB0.out.keep hk1 id)
       have HS1 := hide hk1.size
       clear hk1)
    | (go_at_call 46
       refine (raise_any ⟨#[101, 114, 114, 111, 114]⟩ _ _ _ _ _ _ _ _ _ _ _ _ _ w1).mono ?_
       rintro e w2 ⟨g, rfl, hg, hb, hk2⟩
       have HK2 := hide (HK1.out.trans' hk2 (fun _ _ => id) (fun _ _ => id) : Keeps NoB w w2)
       have HB2 := hide (HB1.out.keep hk2 id)
       have HG := hide hg; have HN := hide hb
       obtain ⟨z0, z1, z2, z3, z4, z5, z6, z7, z8, z9, z10, z11, z12, z13⟩ := Blk.f14 (w := w2) (g := w.heap.size) HB2.out
       obtain ⟨v0, v1, v2, v3, v4, v5, v6, v7, v8, v9, v10, v11, v12, v13⟩ := Blk.c14 (show Blk w2 (w.heap.size) _ #[.int .u8 0, .bool false, .slice none 0 0, .string ⟨#[]⟩, .int .i64 0, .slice none 0 0, .slice none 0 0, .int .u8 0, .bool false, .slice none 0 0, .string ⟨#[]⟩, .int .i64 0, .slice none 0 0, .slice none 0 0] from HB2.out)
       clear hk2 hg hb)
    | fail
  refine bodyPost_ret (results14 Tryz.f27 2 (by kernel_rfl) _ _ _ _ _ _ _ _ _ _ _ _ _ _ _ _ _ rfl (HB2.out.tput14 _ _ _ _ _ _ _ _ _ _ _ _ _ _)) rfl ?_
  exact ⟨g, rfl, by have := HG.out; have := HS1.out; have := HL.out; omega, HN.out.keep (keeps_tput14 w2 w.heap.size _ _ _ _ _ _ _ _ _ _ _ _ _ _) (fun e => by have := HG.out; have := HS1.out; have := HL.out; omega), HK2.out.trans' (keeps_tput14 w2 w.heap.size _ _ _ _ _ _ _ _ _ _ _ _ _ _) (fun _ _ => id) (fun i hi e => by omega)⟩
end Go.Proofs.YthbbalkhmofndaaGreatDoor
namespace Go.Proofs.YthbbalkhmofndaaGreatDoor
open Go.RowKit

def ofK (q : Int) (t : Tm) : Bool := decide (t.kind = q)
set_option maxRecDepth 100000 in
theorem aref_any (q : Int) (gk : Nat) (t : Tm) (w : World) (hk : Blk w gk 22 #[.int .u8 q]) (kd : Int) (ng : Bool) (la : Option Addr) (ln lc : Nat) (tx : ByteArray) (nm : Int) (ia : Option Addr) (im ic : Nat) (ta : Option Addr) (tn tc : Nat) (ht : t.kind = kd) : Calls Tryz.prog 91 #[.agg #[.int .u8 kd, .bool ng, .slice la ln lc, .string tx, .int .i64 nm, .slice ia im ic, .slice ta tn tc], .pointer (some ⟨gk, 0, none⟩)] w fun e w' => e = .returned (.bool (!ofK q t)) ∧ Keeps NoB w w' := by
  have HB := hide (hk.alloc (.cells #[.int .u8 kd, .bool ng, .slice la ln lc, .string tx, .int .i64 nm, .slice ia im ic, .slice ta tn tc] 26))
  have p : (w.alloc (.cells #[.int .u8 kd, .bool ng, .slice la ln lc, .string tx, .int .i64 nm, .slice ia im ic, .slice ta tn tc] 26)).cell? ⟨gk, 0, none⟩ = some (.int .u8 q) := HB.out.cell 0
  clear hk
  by_cases h : kd = q
  · subst h
    have HV := hide (show ofK kd t = true from decide_eq_true ht)
    clear ht
    go_enter Tryz.func91, Tryz.ntmps91
    go_wp2
    go_ret
    exact ⟨by rw [HV.out]; rfl, (Keeps.refl _ _).alloc _⟩
  · have hb : (kd == q) = false := by simpa using h
    have hb2 : (kd != q) = true := by simpa using h
    have HV := hide (show ofK q t = false from decide_eq_false (by rw [ht]; exact h))
    clear ht
    go_enter Tryz.func91, Tryz.ntmps91
    go_wp2
    go_ret
    exact ⟨by rw [HV.out]; rfl, (Keeps.refl _ _).alloc _⟩
set_option maxRecDepth 100000 in
set_option maxHeartbeats 2000000 in
theorem idx_kind (q : Int) (gk : Nat) (ts : List Tm) (css : List (List Value)) (A : Option Addr) (n c : Nat) (w : World) (B : Nat → Prop) (F : Bool) (hr : Reads w B F 7 A n css.flatten) (ht : TermsIn w B F css ts) (hn : n ≤ 1000000) (hgk : Blk w gk 22 #[.int .u8 q]) :
    Calls Tryz.prog 44 #[.slice A n c, .func (.func 91) #[] #[.pointer (some ⟨gk, 0, none⟩)]] w fun e w' => ∃ i : Int, e = .returned (.int .i64 i) ∧ (decide (0 ≤ i) = !ts.all (ofK q)) ∧ Keeps NoB w w' := by
  have hl : ts.length = n := by have h1 := hr.1; rw [flat_len ht.lens.2, ht.lens.1] at h1; omega
  have HR := hide hr; have HT := hide ht; have HL := hide hl; have HGK := hide hgk
  clear hr ht hl hgk
  go_enter Tryz.func44, Tryz.ntmps44
  go_wp2
  go_loopg [8] n (fun g s8 wx => ∃ k : Nat, k ≤ n ∧ g = n - k ∧ s8 = .int .i64 k ∧ Keeps NoB w wx ∧ Hid ((ts.take k).all (ofK q) = true))
  case atStart => exact ⟨0, Nat.zero_le _, rfl, rfl, Keeps.refl _ _, hide (by simp)⟩
  case round =>
    obtain ⟨k, hk, rfl, rfl, hkw, HALL⟩ := hrel
    have HKW := hide hkw
    clear hkw
    by_cases hlt : k < n
    · have hk1 : (k : Int) < (n : Int) := by omega
      have hk0 : (0 : Int) ≤ (k : Int) := by omega
      obtain ⟨b, o, kd, ng, la, ln, lc, tx, nm, ia, im, ic, ta, tn, tc, t, hA, h1, h2, h3, f0, f1, f2, f3, f4, f5, f6⟩ := cells_at (HR.out.keep HKW.out (fun _ _ => id)) (TermsIn.keep HKW.out (fun _ _ => id) _ _ HT.out) k hlt
      subst hA
      have H1 := hide h1; have HKK := hide (show t.kind = kd from by obtain ⟨_, _, _, _, _, _, _, _, _, _, _, _, _, he, e1, _⟩ := h2.cells; simp only [List.cons.injEq, Value.int.injEq, true_and] at he; exact (he.1.trans e1).symm)
      clear h1 h2 h3
      cases hv : ofK q t with
      | true =>
        have HV := hide hv
        clear hv
        go_wp2_with
          first
          | (go_at_call 91
             refine (aref_any q gk t _ (HGK.out.keep HKW.out id) _ _ _ _ _ _ _ _ _ _ _ _ _ HKK.out).mono ?_
             rintro e w2 ⟨rfl, hk2⟩
             rw [HV.out]
             have HK2 := hide (HKW.out.trans' hk2 (fun _ _ => id) (fun _ _ => id) : Keeps NoB w w2)
             clear hk2)
          | fail
        go_roundg (n - (k + 1))
        case measure => omega
        case rel => exact ⟨k + 1, by omega, rfl, by go_num, HK2.out, hide (by rw [List.take_add_one, H1.out, List.all_append, HALL.out]; simp [HV.out])⟩
      | false =>
        have HV := hide hv
        clear hv
        go_wp2_with
          first
          | (go_at_call 91
             refine (aref_any q gk t _ (HGK.out.keep HKW.out id) _ _ _ _ _ _ _ _ _ _ _ _ _ HKK.out).mono ?_
             rintro e w2 ⟨rfl, hk2⟩
             rw [HV.out]
             have HK2 := hide (HKW.out.trans' hk2 (fun _ _ => id) (fun _ _ => id) : Keeps NoB w w2)
             clear hk2)
          | fail
        go_ret
        refine ⟨k, rfl, ?_, HK2.out⟩
        have h : ts.all (ofK q) = false := by
          rw [List.all_eq_false]
          exact ⟨t, List.mem_of_getElem? H1.out, by rw [HV.out]; simp⟩
        rw [h]
        simp
    · obtain rfl : n = k := by omega
      have hkz : ¬ (n : Int) < (n : Int) := by omega
      go_wp2
      go_ret
      refine ⟨-1, rfl, ?_, HKW.out⟩
      have h := HALL.out
      rw [List.take_of_length_le (by have := HL.out; omega)] at h
      rw [h]
      decide
set_option maxRecDepth 100000 in
theorem contains_kind (q : Int) (gk : Nat) (ts : List Tm) (css : List (List Value)) (A : Option Addr) (n c : Nat) (w : World) (B : Nat → Prop) (F : Bool) (hr : Reads w B F 7 A n css.flatten) (ht : TermsIn w B F css ts) (hn : n ≤ 1000000) (hgk : Blk w gk 22 #[.int .u8 q]) :
    Calls Tryz.prog 22 #[.slice A n c, .func (.func 91) #[] #[.pointer (some ⟨gk, 0, none⟩)]] w fun e w' => e = .returned (.bool (!ts.all (ofK q))) ∧ Keeps NoB w w' := by
  have HI := hide (idx_kind q gk ts css A n c w B F hr ht hn hgk)
  clear hr ht hgk
  go_enter Tryz.func22, Tryz.ntmps22
  go_wp2_with
    first
    | (go_at_call 44
       refine HI.out.mono ?_
       rintro e w1 ⟨i, rfl, hi, hk1⟩
       have HK1 := hide hk1; have HII := hide hi
       clear hk1 hi)
    | fail
  go_ret
  exact ⟨by rw [← HII.out]; rfl, HK1.out⟩
set_option maxRecDepth 100000 in
theorem are_any (q : Int) (ts : List Tm) (css : List (List Value)) (A : Option Addr) (n c : Nat) (w : World) (B : Nat → Prop) (F : Bool) (hr : Reads w B F 7 A n css.flatten) (ht : TermsIn w B F css ts) (hn : n ≤ 1000000) :
    Calls Tryz.prog 74 #[.int .u8 q, .slice A n c] w fun e w' => e = .returned (.bool (ts.all (ofK q))) ∧ Keeps NoB w w' := by
  have hk0 : Keeps NoB w (w.alloc (.cells #[.int .u8 q] 22)) := (Keeps.refl NoB w).alloc _
  have HI := hide (contains_kind q w.heap.size ts css A n c (w.alloc (.cells #[.int .u8 q] 22)) B F (hr.keep hk0 (fun _ _ => id)) (TermsIn.keep hk0 (fun _ _ => id) _ _ ht) hn (Blk.new w 22 #[.int .u8 q]))
  have HK0 := hide hk0
  clear hr ht hk0
  obtain ⟨b, hb⟩ : ∃ b, ts.all (ofK q) = b := ⟨_, rfl⟩
  rw [hb] at HI
  rw [hb]
  clear hb
  go_enter Tryz.func74, Tryz.ntmps74
  go_wp2_with
    first
    | (go_at_call 22
       refine HI.out.mono ?_
       rintro e w1 ⟨rfl, hk1⟩
       have HK1 := hide (HK0.out.trans' hk1 (fun _ _ => id) (fun _ _ => id) : Keeps NoB w w1)
       clear hk1)
    | fail
  go_ret
  exact ⟨by cases b <;> rfl, HK1.out⟩
end Go.Proofs.YthbbalkhmofndaaGreatDoor
namespace Go.Proofs.YthbbalkhmofndaaGreatDoor
open Go.RowKit

def intTm (z : Int) : Tm := .mk 1 (decide (z < 0)) ((dig z.natAbs).map Int.ofNat) ByteArray.empty 0 [] []
theorem u32s_ofNat (l : List Nat) : (l.map Int.ofNat).map (Value.int .u32) = u32s l := by
  unfold u32s
  rw [List.map_map]
  rfl
theorem IA.tm {w : World} {B : Nat → Prop} {ng : Bool} {A : Option Addr} {n c : Nat} {z : Int} (h : IA w B ng A n c z) : TermIn w B false [.int .u8 1, .bool ng, .slice A n c, .string ⟨#[]⟩, .int .i64 0, .slice none 0 0, .slice none 0 0] (intTm z) := by
  obtain ⟨⟨F, hr⟩, _, hnc, hc⟩ := h.limbs
  have hn : n ≤ 32 := h.len
  unfold intTm TermIn
  rw [u32s_ofNat]
  refine ⟨A, n, c, none, 0, 0, none, 0, 0, [], [], by rw [← h.sign]; rfl, ⟨⟨by unfold Roomy; omega, hnc, hc⟩, RoomC.zero _, RoomC.zero _⟩, ?_, Reads.zero _ _ _ _ _, by unfold TermsIn; trivial, Reads.zero _ _ _ _ _, by unfold TermsIn; trivial⟩
  cases F with
  | true => exact hr.weak
  | false => exact hr
theorem intTm_ok (z : Int) : okT (intTm z) := by
  unfold intTm okT
  refine ⟨by omega, fun x hx => ?_, by show 0 ≤ _; omega, by omega, by unfold okTs; trivial, by unfold okTs; trivial⟩
  obtain ⟨y, hy, rfl⟩ := List.mem_map.1 hx
  have := dig_low z.natAbs y hy
  unfold B32 at this
  show (0 : Int) ≤ (y : Int) ∧ (y : Int) ≤ 4294967295
  omega
theorem intTm_right {z : Int} (hz : z.natAbs < Big) : rightT (intTm z) = true := by
  have hl : (dig z.natAbs).length ≤ 32 := dig_big.2 hz
  unfold rightT intTm
  refine decide_eq_true ?_
  unfold sizeT
  rw [if_pos rfl, if_pos ?_]
  · omega
  · unfold intT
    simp only [Bool.and_eq_true, decide_eq_true_eq, List.length_map, List.length_nil]
    refine ⟨⟨⟨⟨⟨trivial, trivial⟩, trivial⟩, trivial⟩, hl⟩, ?_⟩
    split
    · rename_i h0
      have h1 : z.natAbs = 0 := by rw [← nat_dig z.natAbs, List.eq_nil_of_length_eq_zero h0]; rfl
      have h2 : ¬ z < 0 := by omega
      simp [h2]
    · rename_i h0
      rcases dig_norm z.natAbs with e | e
      · rw [e] at h0; exact absurd rfl h0
      · refine decide_eq_true ?_
        have hlt : (dig z.natAbs).length - 1 < (dig z.natAbs).length := by omega
        rw [List.getD_eq_getElem?_getD, List.getElem?_map, List.getElem?_eq_getElem hlt]
        rw [List.getD_eq_getElem?_getD, List.getElem?_eq_getElem hlt] at e
        simp only [Option.map_some, Option.getD_some] at e ⊢
        intro h2
        apply e
        have h3 : ((dig z.natAbs)[(dig z.natAbs).length - 1] : Int) = 0 := h2
        omega
theorem intTm_good {z : Int} (hz : z.natAbs < Big) : goodT (intTm z) := ⟨intTm_right hz, intTm_ok z⟩
theorem intTm_V (z : Int) : intV (intTm z) = z := by
  unfold intV
  show sgn (decide (z < 0)) (nat (((dig z.natAbs).map Int.ofNat).map Int.toNat)) = z
  rw [List.map_map, show (Int.toNat ∘ Int.ofNat) = id from rfl, List.map_id, nat_dig]
  unfold sgn
  split <;> rename_i h <;> simp only [decide_eq_true_eq] at h <;> omega
end Go.Proofs.YthbbalkhmofndaaGreatDoor
namespace Go.Proofs.YthbbalkhmofndaaGreatDoor
open Go.RowKit

def listT (t : Tm) : Bool := decide (t.kind = 7) && decide (t.tail.length = 0)
set_option maxRecDepth 100000 in
theorem propf_any (t : Tm) (w : World) (kd : Int) (ng : Bool) (la : Option Addr) (ln lc : Nat) (tx : ByteArray) (nm : Int) (ia : Option Addr) (im ic : Nat) (ta : Option Addr) (tn tc : Nat) (ht : t.kind = kd) (hl : t.tail.length = tn) : Calls Tryz.prog 79 #[.agg #[.int .u8 kd, .bool ng, .slice la ln lc, .string tx, .int .i64 nm, .slice ia im ic, .slice ta tn tc]] w fun e w' => e = .returned (.bool (!listT t)) ∧ Keeps NoB w w' := by
  by_cases h : kd = 7
  · subst h
    rcases Nat.eq_zero_or_pos tn with h0 | h0
    · subst h0
      have HV := hide (show listT t = true from by simp [listT, ht, hl])
      clear ht hl
      go_enter Tryz.func79, Tryz.ntmps79
      go_wp2
      go_ret
      exact ⟨by rw [HV.out]; rfl, (Keeps.refl _ _).alloc _⟩
    · have HV := hide (show listT t = false from by unfold listT; rw [hl, Bool.and_eq_false_iff]; exact Or.inr (decide_eq_false (by omega)))
      have h1 : (0 : Int) < (tn : Int) := by omega
      have HP := hide h0
      clear ht hl h0
      go_enter Tryz.func79, Tryz.ntmps79
      go_wp2
      go_ret
      exact ⟨by rw [HV.out]; show Ending.returned (.bool (decide (0 < tn))) = _; rw [decide_eq_true HP.out]; rfl, (Keeps.refl _ _).alloc _⟩
  · have hb : (kd == 7) = false := by simpa using h
    have hb2 : (kd != 7) = true := by simpa using h
    have HV := hide (show listT t = false from by unfold listT; rw [Bool.and_eq_false_iff]; exact Or.inl (decide_eq_false (by rw [ht]; exact h)))
    clear ht hl
    go_enter Tryz.func79, Tryz.ntmps79
    go_wp2
    go_ret
    exact ⟨by rw [HV.out]; rfl, (Keeps.refl _ _).alloc _⟩
set_option maxRecDepth 100000 in
set_option maxHeartbeats 2000000 in
theorem idx_list (ts : List Tm) (css : List (List Value)) (A : Option Addr) (n c : Nat) (w : World) (B : Nat → Prop) (F : Bool) (hr : Reads w B F 7 A n css.flatten) (ht : TermsIn w B F css ts) (hn : n ≤ 1000000) :
    Calls Tryz.prog 44 #[.slice A n c, .func (.func 79) #[] #[]] w fun e w' => ∃ i : Int, e = .returned (.int .i64 i) ∧ (decide (0 ≤ i) = !ts.all listT) ∧ Keeps NoB w w' := by
  have hl : ts.length = n := by have h1 := hr.1; rw [flat_len ht.lens.2, ht.lens.1] at h1; omega
  have HR := hide hr; have HT := hide ht; have HL := hide hl
  clear hr ht hl
  go_enter Tryz.func44, Tryz.ntmps44
  go_wp2
  go_loopg [8] n (fun g s8 wx => ∃ k : Nat, k ≤ n ∧ g = n - k ∧ s8 = .int .i64 k ∧ Keeps NoB w wx ∧ Hid ((ts.take k).all listT = true))
  case atStart => exact ⟨0, Nat.zero_le _, rfl, rfl, Keeps.refl _ _, hide (by simp)⟩
  case round =>
    obtain ⟨k, hk, rfl, rfl, hkw, HALL⟩ := hrel
    have HKW := hide hkw
    clear hkw
    by_cases hlt : k < n
    · have hk1 : (k : Int) < (n : Int) := by omega
      have hk0 : (0 : Int) ≤ (k : Int) := by omega
      obtain ⟨b, o, kd, ng, la, ln, lc, tx, nm, ia, im, ic, ta, tn, tc, t, hA, h1, h2, h3, f0, f1, f2, f3, f4, f5, f6⟩ := cells_at (HR.out.keep HKW.out (fun _ _ => id)) (TermsIn.keep HKW.out (fun _ _ => id) _ _ HT.out) k hlt
      subst hA
      have H1 := hide h1; have HKK := hide (show t.kind = kd from by obtain ⟨_, _, _, _, _, _, _, _, _, _, _, _, _, he, e1, _⟩ := h2.cells; simp only [List.cons.injEq, Value.int.injEq, true_and] at he; exact (he.1.trans e1).symm)
      have HTL := hide (show t.tail.length = tn from by obtain ⟨_, _, _, _, _, rfl, _, _, _, _, _, _, _, _, htl⟩ := h2.parts; exact htl)
      clear h1 h2 h3
      cases hv : listT t with
      | true =>
        have HV := hide hv
        clear hv
        go_wp2_with
          first
          | (go_at_call 79
             refine (propf_any t _ _ _ _ _ _ _ _ _ _ _ _ _ _ HKK.out HTL.out).mono ?_
             rintro e w2 ⟨rfl, hk2⟩
             rw [HV.out]
             have HK2 := hide (HKW.out.trans' hk2 (fun _ _ => id) (fun _ _ => id) : Keeps NoB w w2)
             clear hk2)
          | fail
        go_roundg (n - (k + 1))
        case measure => omega
        case rel => exact ⟨k + 1, by omega, rfl, by go_num, HK2.out, hide (by rw [List.take_add_one, H1.out, List.all_append, HALL.out]; simp [HV.out])⟩
      | false =>
        have HV := hide hv
        clear hv
        go_wp2_with
          first
          | (go_at_call 79
             refine (propf_any t _ _ _ _ _ _ _ _ _ _ _ _ _ _ HKK.out HTL.out).mono ?_
             rintro e w2 ⟨rfl, hk2⟩
             rw [HV.out]
             have HK2 := hide (HKW.out.trans' hk2 (fun _ _ => id) (fun _ _ => id) : Keeps NoB w w2)
             clear hk2)
          | fail
        go_ret
        refine ⟨k, rfl, ?_, HK2.out⟩
        have h : ts.all listT = false := by
          rw [List.all_eq_false]
          exact ⟨t, List.mem_of_getElem? H1.out, by rw [HV.out]; simp⟩
        rw [h]
        simp
    · obtain rfl : n = k := by omega
      have hkz : ¬ (n : Int) < (n : Int) := by omega
      go_wp2
      go_ret
      refine ⟨-1, rfl, ?_, HKW.out⟩
      have h := HALL.out
      rw [List.take_of_length_le (by have := HL.out; omega)] at h
      rw [h]
      decide
set_option maxRecDepth 100000 in
theorem contains_list (ts : List Tm) (css : List (List Value)) (A : Option Addr) (n c : Nat) (w : World) (B : Nat → Prop) (F : Bool) (hr : Reads w B F 7 A n css.flatten) (ht : TermsIn w B F css ts) (hn : n ≤ 1000000) :
    Calls Tryz.prog 22 #[.slice A n c, .func (.func 79) #[] #[]] w fun e w' => e = .returned (.bool (!ts.all listT)) ∧ Keeps NoB w w' := by
  have HI := hide (idx_list ts css A n c w B F hr ht hn)
  clear hr ht
  go_enter Tryz.func22, Tryz.ntmps22
  go_wp2_with
    first
    | (go_at_call 44
       refine HI.out.mono ?_
       rintro e w1 ⟨i, rfl, hi, hk1⟩
       have HK1 := hide hk1; have HII := hide hi
       clear hk1 hi)
    | fail
  go_ret
  exact ⟨by rw [← HII.out]; rfl, HK1.out⟩
set_option maxRecDepth 100000 in
theorem proper_any (ts : List Tm) (css : List (List Value)) (A : Option Addr) (n c : Nat) (w : World) (B : Nat → Prop) (F : Bool) (hr : Reads w B F 7 A n css.flatten) (ht : TermsIn w B F css ts) (hn : n ≤ 1000000) :
    Calls Tryz.prog 53 #[.slice A n c] w fun e w' => e = .returned (.bool (ts.all listT)) ∧ Keeps NoB w w' := by
  have HI := hide (contains_list ts css A n c w B F hr ht hn)
  clear hr ht
  obtain ⟨b, hb⟩ : ∃ b, ts.all listT = b := ⟨_, rfl⟩
  rw [hb] at HI
  rw [hb]
  clear hb
  go_enter Tryz.func53, Tryz.ntmps53
  go_wp2_with
    first
    | (go_at_call 22
       refine HI.out.mono ?_
       rintro e w1 ⟨rfl, hk1⟩
       have HK1 := hide hk1
       clear hk1)
    | fail
  go_ret
  exact ⟨by cases b <;> rfl, HK1.out⟩
end Go.Proofs.YthbbalkhmofndaaGreatDoor
namespace Go.Proofs.YthbbalkhmofndaaGreatDoor
open Go.RowKit

theorem one_readsC {w : World} {g : Nat} {kd : Int} {ng : Bool} {la : Option Addr} {ln lc : Nat} {tx : ByteArray} {nm : Int} {ia : Option Addr} {im ic : Nat} {ta : Option Addr} {tn tc : Nat} (h : Blk w g 26 #[.int .u8 kd, .bool ng, .slice la ln lc, .string tx, .int .i64 nm, .slice ia im ic, .slice ta tn tc]) : Reads w (fun _ => True) false 7 (some ⟨g, 0, none⟩) 1 [[.int .u8 kd, .bool ng, .slice la ln lc, .string tx, .int .i64 nm, .slice ia im ic, .slice ta tn tc]].flatten :=
  ⟨rfl, fun _ => ⟨_, rfl, rfl, trivial, h.lt, fun j u hu => ⟨by rw [h.cell, Nat.zero_add]; simpa using hu, fun h => by cases h⟩⟩⟩
def ResB (N : Nat) (w : World) : Nat → Prop := fun k => k < N ∨ w.heap.size ≤ k
/-- A value, and what is raised: what bif's inner functions answer. -/
def ResP (N : Nat) (w : World) (v r : Tm) (e : Ending) (w' : World) : Prop := ∃ (kv : Int) (gv : Bool) (lv : Option Addr) (lvn lvc : Nat) (sv : ByteArray) (mv : Int) (iv : Option Addr) (ivn ivc : Nat) (tv : Option Addr) (tvn tvc : Nat) (kr : Int) (gr : Bool) (lr : Option Addr) (lrn lrc : Nat) (sr : ByteArray) (mr : Int) (ir : Option Addr) (irn irc : Nat) (tr : Option Addr) (trn trc : Nat), e = .returned (.agg #[.int .u8 kv, .bool gv, .slice lv lvn lvc, .string sv, .int .i64 mv, .slice iv ivn ivc, .slice tv tvn tvc, .int .u8 kr, .bool gr, .slice lr lrn lrc, .string sr, .int .i64 mr, .slice ir irn irc, .slice tr trn trc]) ∧ TermIn w' (ResB N w) false [.int .u8 kv, .bool gv, .slice lv lvn lvc, .string sv, .int .i64 mv, .slice iv ivn ivc, .slice tv tvn tvc] v ∧ TermIn w' (ResB N w) false [.int .u8 kr, .bool gr, .slice lr lrn lrc, .string sr, .int .i64 mr, .slice ir irn irc, .slice tr trn trc] r ∧ Keeps NoB w w'
def CallR (w : World) (v r : Tm) (e : Ending) (w' : World) : Prop := ∃ (kv : Int) (gv : Bool) (lv : Option Addr) (lvn lvc : Nat) (sv : ByteArray) (mv : Int) (iv : Option Addr) (ivn ivc : Nat) (tv : Option Addr) (tvn tvc : Nat) (kr : Int) (gr : Bool) (lr : Option Addr) (lrn lrc : Nat) (sr : ByteArray) (mr : Int) (ir : Option Addr) (irn irc : Nat) (tr : Option Addr) (trn trc : Nat), e = .returned (.tuple #[.agg #[.int .u8 kv, .bool gv, .slice lv lvn lvc, .string sv, .int .i64 mv, .slice iv ivn ivc, .slice tv tvn tvc], .agg #[.int .u8 kr, .bool gr, .slice lr lrn lrc, .string sr, .int .i64 mr, .slice ir irn irc, .slice tr trn trc], .bool true]) ∧ TermIn w' (fun k => w.heap.size ≤ k) false [.int .u8 kv, .bool gv, .slice lv lvn lvc, .string sv, .int .i64 mv, .slice iv ivn ivc, .slice tv tvn tvc] v ∧ TermIn w' (fun k => w.heap.size ≤ k) false [.int .u8 kr, .bool gr, .slice lr lrn lrc, .string sr, .int .i64 mr, .slice ir irn irc, .slice tr trn trc] r ∧ Keeps NoB w w'
theorem kind_cells {w : World} {B : Nat → Prop} {F : Bool} {t : Tm} {k : Int} {v1 v2 v3 v4 v5 v6 : Value} (h : TermIn w B F [.int .u8 k, v1, v2, v3, v4, v5, v6] t) : k = t.kind := by
  obtain ⟨_, _, _, _, _, _, _, _, _, _, _, _, _, he, e1, _⟩ := h.cells
  simp only [List.cons.injEq, Value.int.injEq, true_and] at he
  exact he.1.trans e1
end Go.Proofs.YthbbalkhmofndaaGreatDoor
namespace Go.Proofs.YthbbalkhmofndaaGreatDoor
open Go.RowKit

def zeroT : Tm := flatT 0 ByteArray.empty 0
def errT (s : ByteArray) : Tm := .mk 6 false [] ByteArray.empty 0 [flatT 2 ⟨#[101, 114, 114, 111, 114]⟩ 0, flatT 2 s 0] []
theorem any_yes {w' : World} {B : Nat → Prop} {z kd : Int} {ng ok : Bool} {A : Option Addr} {n c : Nat} (h : AnyK w' B z kd ng A n c ok) (hz : z.natAbs < Big) : ok = true ∧ kd = 1 ∧ IA w' B ng A n c z := by
  rcases h with h | ⟨_, _, _, _, _, _, h⟩
  · exact h
  · omega
theorem ResB.up {N : Nat} {w : World} {k : Nat} (h : w.heap.size ≤ k) : ResB N w k := Or.inr h
theorem ResP.more {N : Nat} {w w' : World} {v r : Tm} {e : Ending} (h : ResP 0 w v r e w') : ResP N w v r e w' := by
  obtain ⟨kv, gv, lv, lvn, lvc, sv, mv, iv, ivn, ivc, tv, tvn, tvc, kr, gr, lr, lrn, lrc, sr, mr, ir, irn, irc, tr, trn, trc, he, h1, h2, h3⟩ := h
  have hb : ∀ k, k < w'.heap.size → ResB 0 w k → ResB N w k := fun k _ hk => by rcases hk with hk | hk; exact absurd hk (Nat.not_lt_zero k); exact Or.inr hk
  exact ⟨kv, gv, lv, lvn, lvc, sv, mv, iv, ivn, ivc, tv, tvn, tvc, kr, gr, lr, lrn, lrc, sr, mr, ir, irn, irc, tr, trn, trc, he, TermIn.more hb _ _ h1, TermIn.more hb _ _ h2, h3⟩
theorem err_in {w : World} {g : Nat} {s : ByteArray} (h : Blk w g 26 #[.int .u8 2, .bool false, .slice none 0 0, .string ⟨#[101, 114, 114, 111, 114]⟩, .int .i64 0, .slice none 0 0, .slice none 0 0, .int .u8 2, .bool false, .slice none 0 0, .string s, .int .i64 0, .slice none 0 0, .slice none 0 0]) : TermIn w (fun k => k = g) false [.int .u8 6, .bool false, .slice none 0 0, .string ⟨#[]⟩, .int .i64 0, .slice (some ⟨g, 0, none⟩) 2 2, .slice none 0 0] (errT s) := by
  unfold errT TermIn
  refine ⟨none, 0, 0, some ⟨g, 0, none⟩, 2, 2, none, 0, 0, [flatC 2 ⟨#[101, 114, 114, 111, 114]⟩ 0, flatC 2 s 0], [], rfl, ⟨RoomC.zero _, ⟨by unfold Roomy; omega, Nat.le_refl _, by unfold maxLen; omega⟩, RoomC.zero _⟩, Reads.zero _ _ _ _ _, ?_, two_terms (flat_in _ _ _ _ _ _) (flat_in _ _ _ _ _ _), Reads.zero _ _ _ _ _, by unfold TermsIn; trivial⟩
  exact ⟨rfl, fun _ => ⟨_, rfl, rfl, rfl, h.lt, fun j u hu => ⟨by rw [h.cell, Nat.zero_add]; simpa [flatC] using hu, fun h => by cases h⟩⟩⟩
end Go.Proofs.YthbbalkhmofndaaGreatDoor
