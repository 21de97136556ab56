/- bif.two, where two terms are held side by side; max, min: contracts. Printed by mktwo.py. -/
import Derived.Test.YthbbalkhmofndaaGreatDoorHeldJn
namespace Go.Proofs.YthbbalkhmofndaaGreatDoor
open Go.RowKit

theorem three_tblks (w : World) (t0 t1 t2 : TypeId) (c0 c1 c2 : Array Value) : Blk (((w.alloc (.cells c0 t0)).alloc (.cells c1 t1)).alloc (.cells c2 t2)) w.heap.size t0 c0 ∧ Blk (((w.alloc (.cells c0 t0)).alloc (.cells c1 t1)).alloc (.cells c2 t2)) (w.heap.size + 1) t1 c1 ∧ Blk (((w.alloc (.cells c0 t0)).alloc (.cells c1 t1)).alloc (.cells c2 t2)) (w.heap.size + 1 + 1) t2 c2 := by
  have h := two_tblks w t0 t1 c0 c1
  refine ⟨h.1.alloc _, h.2.alloc _, ?_⟩
  have h3 := Blk.new2 (w.alloc (.cells c0 t0)) (.cells c1 t1) t2 c2
  have e : (w.alloc (.cells c0 t0)).heap.size = w.heap.size + 1 := by simp
  rw [e] at h3
  exact h3
set_option maxRecDepth 100000 in
theorem two_held (s : ByteArray) (r : Bool) (a b : Tm) (hoa : okT a) (hob : okT b) (w : World) (B B' : Nat → Prop) (F F' : Bool) (kd : Int) (ng : Bool) (la : Option Addr) (ln lc : Nat) (tx : ByteArray) (nm : Int) (ia : Option Addr) (im ic : Nat) (ta : Option Addr) (tn tc : Nat) (kd' : Int) (ng' : Bool) (la' : Option Addr) (ln' lc' : Nat) (tx' : ByteArray) (nm' : Int) (ia' : Option Addr) (im' ic' : Nat) (ta' : Option Addr) (tn' tc' : Nat) (ha : TermIn w B F [.int .u8 kd, .bool ng, .slice la ln lc, .string tx, .int .i64 nm, .slice ia im ic, .slice ta tn tc] a) (hb : TermIn w B' F' [.int .u8 kd', .bool ng', .slice la' ln' lc', .string tx', .int .i64 nm', .slice ia' im' ic', .slice ta' tn' tc'] b) (hh : ∀ w, Calls Tryz.prog 56 #[.string s, .int .i64 (compT a b)] w (HeldP w r true)) :
    Calls Tryz.prog 25 #[.string s, .agg #[.int .u8 kd, .bool ng, .slice la ln lc, .string tx, .int .i64 nm, .slice ia im ic, .slice ta tn tc], .agg #[.int .u8 kd', .bool ng', .slice la' ln' lc', .string tx', .int .i64 nm', .slice ia' im' ic', .slice ta' tn' tc']] w (ValP w (truthV r)) := by
  have HK0 := hide ((((Keeps.refl NoB w).alloc (.cells #[.int .u8 kd, .bool ng, .slice la ln lc, .string tx, .int .i64 nm, .slice ia im ic, .slice ta tn tc] 26)).alloc (.cells #[.int .u8 kd', .bool ng', .slice la' ln' lc', .string tx', .int .i64 nm', .slice ia' im' ic', .slice ta' tn' tc'] 26)).alloc (.cells #[.int .u8 0, .bool false, .slice none 0 0, .string ⟨#[]⟩, .int .i64 0, .slice none 0 0, .slice none 0 0, .int .u8 0, .bool false, .slice none 0 0, .string ⟨#[]⟩, .int .i64 0, .slice none 0 0, .slice none 0 0] 48))
  have HA0 := hide (three_tblks w 26 26 48 #[.int .u8 kd, .bool ng, .slice la ln lc, .string tx, .int .i64 nm, .slice ia im ic, .slice ta tn tc] #[.int .u8 kd', .bool ng', .slice la' ln' lc', .string tx', .int .i64 nm', .slice ia' im' ic', .slice ta' tn' tc'] #[.int .u8 0, .bool false, .slice none 0 0, .string ⟨#[]⟩, .int .i64 0, .slice none 0 0, .slice none 0 0, .int .u8 0, .bool false, .slice none 0 0, .string ⟨#[]⟩, .int .i64 0, .slice none 0 0, .slice none 0 0]).1; have HB0 := hide (three_tblks w 26 26 48 #[.int .u8 kd, .bool ng, .slice la ln lc, .string tx, .int .i64 nm, .slice ia im ic, .slice ta tn tc] #[.int .u8 kd', .bool ng', .slice la' ln' lc', .string tx', .int .i64 nm', .slice ia' im' ic', .slice ta' tn' tc'] #[.int .u8 0, .bool false, .slice none 0 0, .string ⟨#[]⟩, .int .i64 0, .slice none 0 0, .slice none 0 0, .int .u8 0, .bool false, .slice none 0 0, .string ⟨#[]⟩, .int .i64 0, .slice none 0 0, .slice none 0 0]).2.1; have HR0 := hide (three_tblks w 26 26 48 #[.int .u8 kd, .bool ng, .slice la ln lc, .string tx, .int .i64 nm, .slice ia im ic, .slice ta tn tc] #[.int .u8 kd', .bool ng', .slice la' ln' lc', .string tx', .int .i64 nm', .slice ia' im' ic', .slice ta' tn' tc'] #[.int .u8 0, .bool false, .slice none 0 0, .string ⟨#[]⟩, .int .i64 0, .slice none 0 0, .slice none 0 0, .int .u8 0, .bool false, .slice none 0 0, .string ⟨#[]⟩, .int .i64 0, .slice none 0 0, .slice none 0 0]).2.2
  have HHA := hide ha; have HHB := hide hb; have HOA := hide hoa; have HOB := hide hob
  clear ha hb hoa hob
  obtain ⟨c, hc⟩ : ∃ c, compT a b = c := ⟨_, rfl⟩
  rw [hc] at hh
  have HC := hide hc; have HH := hide hh
  clear hc hh
  cases r with
  | true =>
    go_enter Tryz.func25, Tryz.ntmps25
    go_wp2_with
      first
      | (go_at_call 55
         refine (comp_any a b HOA.out HOB.out _ B B' F F' _ _ _ _ _ _ _ _ _ _ _ _ _ _ _ _ _ _ _ _ _ _ _ _ _ _ (TermIn.keep HK0.out (fun _ _ => id) _ _ HHA.out) (TermIn.keep HK0.out (fun _ _ => id) _ _ HHB.out)).mono ?_
         rintro e w1 ⟨rfl, hk1⟩
         rw [HC.out]
         have HK1 := hide (HK0.out.trans' hk1 (fun _ _ => id) (fun _ _ => id) : Keeps NoB w w1)
         have HA1 := hide (HA0.out.keep hk1 id); have HB1 := hide (HB0.out.keep hk1 id); have HR1 := hide (HR0.out.keep hk1 id)
         clear hk1)
      | (go_at_call 56
         refine (HH.out _).mono ?_
         rintro e w2 ⟨rfl, rfl⟩
         obtain ⟨x0, x1, x2, x3, x4, x5, x6⟩ := Blk.c7 (show Blk w2 (w.heap.size) _ #[.int .u8 kd, .bool ng, .slice la ln lc, .string tx, .int .i64 nm, .slice ia im ic, .slice ta tn tc] from HA1.out)
         obtain ⟨y0, y1, y2, y3, y4, y5, y6⟩ := Blk.c7 (show Blk w2 (w.heap.size + 1) _ #[.int .u8 kd', .bool ng', .slice la' ln' lc', .string tx', .int .i64 nm', .slice ia' im' ic', .slice ta' tn' tc'] from HB1.out))
      | (go_at_call 45
         refine (truth_any true _).mono ?_
         rintro e w3 ⟨rfl, hk3⟩
         have HR3 := hide (HR1.out.keep hk3 id)
         have HK3 := hide (HK1.out.trans' hk3 (fun _ _ => id) (fun _ _ => id) : Keeps NoB w w3)
         obtain ⟨z0, z1, z2, z3, z4, z5, z6, z7, z8, z9, z10, z11, z12, z13⟩ := Blk.f14 (w := w3) (g := w.heap.size + 1 + 1) HR3.out
         obtain ⟨v0, v1, v2, v3, v4, v5, v6, v7, v8, v9, v10, v11, v12, v13⟩ := Blk.c14 (show Blk w3 (w.heap.size + 1 + 1) _ #[.int .u8 0, .bool false, .slice none 0 0, .string ⟨#[]⟩, .int .i64 0, .slice none 0 0, .slice none 0 0, .int .u8 0, .bool false, .slice none 0 0, .string ⟨#[]⟩, .int .i64 0, .slice none 0 0, .slice none 0 0] from HR3.out)
         unfold truthV
         clear hk3)
      | fail
    refine bodyPost_ret (results14 Tryz.f25 6 (by kernel_rfl) _ _ _ _ _ _ _ _ _ _ _ _ _ _ _ _ _ rfl (HR3.out.tput14 _ _ _ _ _ _ _ _ _ _ _ _ _ _)) rfl ?_
    exact ⟨rfl, HK3.out.trans' (keeps_tput14 w3 (w.heap.size + 1 + 1) _ _ _ _ _ _ _ _ _ _ _ _ _ _) (fun _ _ => id) (fun i hi e => by omega)⟩
  | false =>
    go_enter Tryz.func25, Tryz.ntmps25
    go_wp2_with
      first
      | (go_at_call 55
         refine (comp_any a b HOA.out HOB.out _ B B' F F' _ _ _ _ _ _ _ _ _ _ _ _ _ _ _ _ _ _ _ _ _ _ _ _ _ _ (TermIn.keep HK0.out (fun _ _ => id) _ _ HHA.out) (TermIn.keep HK0.out (fun _ _ => id) _ _ HHB.out)).mono ?_
         rintro e w1 ⟨rfl, hk1⟩
         rw [HC.out]
         have HK1 := hide (HK0.out.trans' hk1 (fun _ _ => id) (fun _ _ => id) : Keeps NoB w w1)
         have HA1 := hide (HA0.out.keep hk1 id); have HB1 := hide (HB0.out.keep hk1 id); have HR1 := hide (HR0.out.keep hk1 id)
         clear hk1)
      | (go_at_call 56
         refine (HH.out _).mono ?_
         rintro e w2 ⟨rfl, rfl⟩
         obtain ⟨x0, x1, x2, x3, x4, x5, x6⟩ := Blk.c7 (show Blk w2 (w.heap.size) _ #[.int .u8 kd, .bool ng, .slice la ln lc, .string tx, .int .i64 nm, .slice ia im ic, .slice ta tn tc] from HA1.out)
         obtain ⟨y0, y1, y2, y3, y4, y5, y6⟩ := Blk.c7 (show Blk w2 (w.heap.size + 1) _ #[.int .u8 kd', .bool ng', .slice la' ln' lc', .string tx', .int .i64 nm', .slice ia' im' ic', .slice ta' tn' tc'] from HB1.out))
      | (go_at_call 45
         refine (truth_any false _).mono ?_
         rintro e w3 ⟨rfl, hk3⟩
         have HR3 := hide (HR1.out.keep hk3 id)
         have HK3 := hide (HK1.out.trans' hk3 (fun _ _ => id) (fun _ _ => id) : Keeps NoB w w3)
         obtain ⟨z0, z1, z2, z3, z4, z5, z6, z7, z8, z9, z10, z11, z12, z13⟩ := Blk.f14 (w := w3) (g := w.heap.size + 1 + 1) HR3.out
         obtain ⟨v0, v1, v2, v3, v4, v5, v6, v7, v8, v9, v10, v11, v12, v13⟩ := Blk.c14 (show Blk w3 (w.heap.size + 1 + 1) _ #[.int .u8 0, .bool false, .slice none 0 0, .string ⟨#[]⟩, .int .i64 0, .slice none 0 0, .slice none 0 0, .int .u8 0, .bool false, .slice none 0 0, .string ⟨#[]⟩, .int .i64 0, .slice none 0 0, .slice none 0 0] from HR3.out)
         unfold truthV
         clear hk3)
      | fail
    refine bodyPost_ret (results14 Tryz.f25 6 (by kernel_rfl) _ _ _ _ _ _ _ _ _ _ _ _ _ _ _ _ _ rfl (HR3.out.tput14 _ _ _ _ _ _ _ _ _ _ _ _ _ _)) rfl ?_
    exact ⟨rfl, HK3.out.trans' (keeps_tput14 w3 (w.heap.size + 1 + 1) _ _ _ _ _ _ _ _ _ _ _ _ _ _) (fun _ _ => id) (fun i hi e => by omega)⟩
set_option maxRecDepth 100000 in
theorem two_max_b (a b : Tm) (hoa : okT a) (hob : okT b) (w : World) (B B' : Nat → Prop) (F F' : Bool) (kd : Int) (ng : Bool) (la : Option Addr) (ln lc : Nat) (tx : ByteArray) (nm : Int) (ia : Option Addr) (im ic : Nat) (ta : Option Addr) (tn tc : Nat) (kd' : Int) (ng' : Bool) (la' : Option Addr) (ln' lc' : Nat) (tx' : ByteArray) (nm' : Int) (ia' : Option Addr) (im' ic' : Nat) (ta' : Option Addr) (tn' tc' : Nat) (ha : TermIn w B F [.int .u8 kd, .bool ng, .slice la ln lc, .string tx, .int .i64 nm, .slice ia im ic, .slice ta tn tc] a) (hb : TermIn w B' F' [.int .u8 kd', .bool ng', .slice la' ln' lc', .string tx', .int .i64 nm', .slice ia' im' ic', .slice ta' tn' tc'] b) (hc : compT a b < 0) :
    Calls Tryz.prog 25 #[.string ⟨#[109, 97, 120]⟩, .agg #[.int .u8 kd, .bool ng, .slice la ln lc, .string tx, .int .i64 nm, .slice ia im ic, .slice ta tn tc], .agg #[.int .u8 kd', .bool ng', .slice la' ln' lc', .string tx', .int .i64 nm', .slice ia' im' ic', .slice ta' tn' tc']] w (ValP w (.agg #[.int .u8 kd', .bool ng', .slice la' ln' lc', .string tx', .int .i64 nm', .slice ia' im' ic', .slice ta' tn' tc', .int .u8 0, .bool false, .slice none 0 0, .string ⟨#[]⟩, .int .i64 0, .slice none 0 0, .slice none 0 0])) := by
  have HK0 := hide ((((Keeps.refl NoB w).alloc (.cells #[.int .u8 kd, .bool ng, .slice la ln lc, .string tx, .int .i64 nm, .slice ia im ic, .slice ta tn tc] 26)).alloc (.cells #[.int .u8 kd', .bool ng', .slice la' ln' lc', .string tx', .int .i64 nm', .slice ia' im' ic', .slice ta' tn' tc'] 26)).alloc (.cells #[.int .u8 0, .bool false, .slice none 0 0, .string ⟨#[]⟩, .int .i64 0, .slice none 0 0, .slice none 0 0, .int .u8 0, .bool false, .slice none 0 0, .string ⟨#[]⟩, .int .i64 0, .slice none 0 0, .slice none 0 0] 48))
  have HA0 := hide (three_tblks w 26 26 48 #[.int .u8 kd, .bool ng, .slice la ln lc, .string tx, .int .i64 nm, .slice ia im ic, .slice ta tn tc] #[.int .u8 kd', .bool ng', .slice la' ln' lc', .string tx', .int .i64 nm', .slice ia' im' ic', .slice ta' tn' tc'] #[.int .u8 0, .bool false, .slice none 0 0, .string ⟨#[]⟩, .int .i64 0, .slice none 0 0, .slice none 0 0, .int .u8 0, .bool false, .slice none 0 0, .string ⟨#[]⟩, .int .i64 0, .slice none 0 0, .slice none 0 0]).1; have HB0 := hide (three_tblks w 26 26 48 #[.int .u8 kd, .bool ng, .slice la ln lc, .string tx, .int .i64 nm, .slice ia im ic, .slice ta tn tc] #[.int .u8 kd', .bool ng', .slice la' ln' lc', .string tx', .int .i64 nm', .slice ia' im' ic', .slice ta' tn' tc'] #[.int .u8 0, .bool false, .slice none 0 0, .string ⟨#[]⟩, .int .i64 0, .slice none 0 0, .slice none 0 0, .int .u8 0, .bool false, .slice none 0 0, .string ⟨#[]⟩, .int .i64 0, .slice none 0 0, .slice none 0 0]).2.1; have HR0 := hide (three_tblks w 26 26 48 #[.int .u8 kd, .bool ng, .slice la ln lc, .string tx, .int .i64 nm, .slice ia im ic, .slice ta tn tc] #[.int .u8 kd', .bool ng', .slice la' ln' lc', .string tx', .int .i64 nm', .slice ia' im' ic', .slice ta' tn' tc'] #[.int .u8 0, .bool false, .slice none 0 0, .string ⟨#[]⟩, .int .i64 0, .slice none 0 0, .slice none 0 0, .int .u8 0, .bool false, .slice none 0 0, .string ⟨#[]⟩, .int .i64 0, .slice none 0 0, .slice none 0 0]).2.2
  have HHA := hide ha; have HHB := hide hb; have HOA := hide hoa; have HOB := hide hob
  clear ha hb hoa hob
  obtain ⟨c, hcc⟩ : ∃ c, compT a b = c := ⟨_, rfl⟩
  rw [hcc] at hc
  have HC := hide hcc
  clear hcc
  go_enter Tryz.func25, Tryz.ntmps25
  go_wp2_with
    first
    | (go_at_call 55
       refine (comp_any a b HOA.out HOB.out _ B B' F F' _ _ _ _ _ _ _ _ _ _ _ _ _ _ _ _ _ _ _ _ _ _ _ _ _ _ (TermIn.keep HK0.out (fun _ _ => id) _ _ HHA.out) (TermIn.keep HK0.out (fun _ _ => id) _ _ HHB.out)).mono ?_
       rintro e w1 ⟨rfl, hk1⟩
       rw [HC.out]
       have HK1 := hide (HK0.out.trans' hk1 (fun _ _ => id) (fun _ _ => id) : Keeps NoB w w1)
       have HA1 := hide (HA0.out.keep hk1 id); have HB1 := hide (HB0.out.keep hk1 id); have HR1 := hide (HR0.out.keep hk1 id)
       clear hk1)
    | (go_at_call 56
       refine (held_no ⟨#[109, 97, 120]⟩ (by rw [Lib.toList_data]; decide) (by rw [Lib.toList_data]; decide) (by rw [Lib.toList_data]; decide) (by rw [Lib.toList_data]; decide) (by rw [Lib.toList_data]; decide) (by rw [Lib.toList_data]; decide) (by rw [Lib.toList_data]; decide) (by rw [Lib.toList_data]; decide) c _).mono ?_
       rintro e w2 ⟨rfl, rfl⟩
       obtain ⟨x0, x1, x2, x3, x4, x5, x6⟩ := Blk.c7 (show Blk w2 (w.heap.size) _ #[.int .u8 kd, .bool ng, .slice la ln lc, .string tx, .int .i64 nm, .slice ia im ic, .slice ta tn tc] from HA1.out)
       obtain ⟨y0, y1, y2, y3, y4, y5, y6⟩ := Blk.c7 (show Blk w2 (w.heap.size + 1) _ #[.int .u8 kd', .bool ng', .slice la' ln' lc', .string tx', .int .i64 nm', .slice ia' im' ic', .slice ta' tn' tc'] from HB1.out))
    | (go_at_call 49
       refine (of_term _ _ _ _ _ _ _ _ _ _ _ _ _ _).mono ?_
       rintro e w3 ⟨rfl, hk3⟩
       have HR3 := hide (HR1.out.keep hk3 id)
       have HK3 := hide (HK1.out.trans' hk3 (fun _ _ => id) (fun _ _ => id) : Keeps NoB w w3)
       obtain ⟨z0, z1, z2, z3, z4, z5, z6, z7, z8, z9, z10, z11, z12, z13⟩ := Blk.f14 (w := w3) (g := w.heap.size + 1 + 1) HR3.out
       obtain ⟨v0, v1, v2, v3, v4, v5, v6, v7, v8, v9, v10, v11, v12, v13⟩ := Blk.c14 (show Blk w3 (w.heap.size + 1 + 1) _ #[.int .u8 0, .bool false, .slice none 0 0, .string ⟨#[]⟩, .int .i64 0, .slice none 0 0, .slice none 0 0, .int .u8 0, .bool false, .slice none 0 0, .string ⟨#[]⟩, .int .i64 0, .slice none 0 0, .slice none 0 0] from HR3.out)
       clear hk3)
    | fail
  refine bodyPost_ret (results14 Tryz.f25 6 (by kernel_rfl) _ _ _ _ _ _ _ _ _ _ _ _ _ _ _ _ _ rfl (HR3.out.tput14 _ _ _ _ _ _ _ _ _ _ _ _ _ _)) rfl ?_
  exact ⟨rfl, HK3.out.trans' (keeps_tput14 w3 (w.heap.size + 1 + 1) _ _ _ _ _ _ _ _ _ _ _ _ _ _) (fun _ _ => id) (fun i hi e => by omega)⟩
set_option maxRecDepth 100000 in
theorem two_max_a (a b : Tm) (hoa : okT a) (hob : okT b) (w : World) (B B' : Nat → Prop) (F F' : Bool) (kd : Int) (ng : Bool) (la : Option Addr) (ln lc : Nat) (tx : ByteArray) (nm : Int) (ia : Option Addr) (im ic : Nat) (ta : Option Addr) (tn tc : Nat) (kd' : Int) (ng' : Bool) (la' : Option Addr) (ln' lc' : Nat) (tx' : ByteArray) (nm' : Int) (ia' : Option Addr) (im' ic' : Nat) (ta' : Option Addr) (tn' tc' : Nat) (ha : TermIn w B F [.int .u8 kd, .bool ng, .slice la ln lc, .string tx, .int .i64 nm, .slice ia im ic, .slice ta tn tc] a) (hb : TermIn w B' F' [.int .u8 kd', .bool ng', .slice la' ln' lc', .string tx', .int .i64 nm', .slice ia' im' ic', .slice ta' tn' tc'] b) (hc : ¬ compT a b < 0) :
    Calls Tryz.prog 25 #[.string ⟨#[109, 97, 120]⟩, .agg #[.int .u8 kd, .bool ng, .slice la ln lc, .string tx, .int .i64 nm, .slice ia im ic, .slice ta tn tc], .agg #[.int .u8 kd', .bool ng', .slice la' ln' lc', .string tx', .int .i64 nm', .slice ia' im' ic', .slice ta' tn' tc']] w (ValP w (.agg #[.int .u8 kd, .bool ng, .slice la ln lc, .string tx, .int .i64 nm, .slice ia im ic, .slice ta tn tc, .int .u8 0, .bool false, .slice none 0 0, .string ⟨#[]⟩, .int .i64 0, .slice none 0 0, .slice none 0 0])) := by
  have HK0 := hide ((((Keeps.refl NoB w).alloc (.cells #[.int .u8 kd, .bool ng, .slice la ln lc, .string tx, .int .i64 nm, .slice ia im ic, .slice ta tn tc] 26)).alloc (.cells #[.int .u8 kd', .bool ng', .slice la' ln' lc', .string tx', .int .i64 nm', .slice ia' im' ic', .slice ta' tn' tc'] 26)).alloc (.cells #[.int .u8 0, .bool false, .slice none 0 0, .string ⟨#[]⟩, .int .i64 0, .slice none 0 0, .slice none 0 0, .int .u8 0, .bool false, .slice none 0 0, .string ⟨#[]⟩, .int .i64 0, .slice none 0 0, .slice none 0 0] 48))
  have HA0 := hide (three_tblks w 26 26 48 #[.int .u8 kd, .bool ng, .slice la ln lc, .string tx, .int .i64 nm, .slice ia im ic, .slice ta tn tc] #[.int .u8 kd', .bool ng', .slice la' ln' lc', .string tx', .int .i64 nm', .slice ia' im' ic', .slice ta' tn' tc'] #[.int .u8 0, .bool false, .slice none 0 0, .string ⟨#[]⟩, .int .i64 0, .slice none 0 0, .slice none 0 0, .int .u8 0, .bool false, .slice none 0 0, .string ⟨#[]⟩, .int .i64 0, .slice none 0 0, .slice none 0 0]).1; have HB0 := hide (three_tblks w 26 26 48 #[.int .u8 kd, .bool ng, .slice la ln lc, .string tx, .int .i64 nm, .slice ia im ic, .slice ta tn tc] #[.int .u8 kd', .bool ng', .slice la' ln' lc', .string tx', .int .i64 nm', .slice ia' im' ic', .slice ta' tn' tc'] #[.int .u8 0, .bool false, .slice none 0 0, .string ⟨#[]⟩, .int .i64 0, .slice none 0 0, .slice none 0 0, .int .u8 0, .bool false, .slice none 0 0, .string ⟨#[]⟩, .int .i64 0, .slice none 0 0, .slice none 0 0]).2.1; have HR0 := hide (three_tblks w 26 26 48 #[.int .u8 kd, .bool ng, .slice la ln lc, .string tx, .int .i64 nm, .slice ia im ic, .slice ta tn tc] #[.int .u8 kd', .bool ng', .slice la' ln' lc', .string tx', .int .i64 nm', .slice ia' im' ic', .slice ta' tn' tc'] #[.int .u8 0, .bool false, .slice none 0 0, .string ⟨#[]⟩, .int .i64 0, .slice none 0 0, .slice none 0 0, .int .u8 0, .bool false, .slice none 0 0, .string ⟨#[]⟩, .int .i64 0, .slice none 0 0, .slice none 0 0]).2.2
  have HHA := hide ha; have HHB := hide hb; have HOA := hide hoa; have HOB := hide hob
  clear ha hb hoa hob
  obtain ⟨c, hcc⟩ : ∃ c, compT a b = c := ⟨_, rfl⟩
  rw [hcc] at hc
  have HC := hide hcc
  clear hcc
  go_enter Tryz.func25, Tryz.ntmps25
  go_wp2_with
    first
    | (go_at_call 55
       refine (comp_any a b HOA.out HOB.out _ B B' F F' _ _ _ _ _ _ _ _ _ _ _ _ _ _ _ _ _ _ _ _ _ _ _ _ _ _ (TermIn.keep HK0.out (fun _ _ => id) _ _ HHA.out) (TermIn.keep HK0.out (fun _ _ => id) _ _ HHB.out)).mono ?_
       rintro e w1 ⟨rfl, hk1⟩
       rw [HC.out]
       have HK1 := hide (HK0.out.trans' hk1 (fun _ _ => id) (fun _ _ => id) : Keeps NoB w w1)
       have HA1 := hide (HA0.out.keep hk1 id); have HB1 := hide (HB0.out.keep hk1 id); have HR1 := hide (HR0.out.keep hk1 id)
       clear hk1)
    | (go_at_call 56
       refine (held_no ⟨#[109, 97, 120]⟩ (by rw [Lib.toList_data]; decide) (by rw [Lib.toList_data]; decide) (by rw [Lib.toList_data]; decide) (by rw [Lib.toList_data]; decide) (by rw [Lib.toList_data]; decide) (by rw [Lib.toList_data]; decide) (by rw [Lib.toList_data]; decide) (by rw [Lib.toList_data]; decide) c _).mono ?_
       rintro e w2 ⟨rfl, rfl⟩
       obtain ⟨x0, x1, x2, x3, x4, x5, x6⟩ := Blk.c7 (show Blk w2 (w.heap.size) _ #[.int .u8 kd, .bool ng, .slice la ln lc, .string tx, .int .i64 nm, .slice ia im ic, .slice ta tn tc] from HA1.out)
       obtain ⟨y0, y1, y2, y3, y4, y5, y6⟩ := Blk.c7 (show Blk w2 (w.heap.size + 1) _ #[.int .u8 kd', .bool ng', .slice la' ln' lc', .string tx', .int .i64 nm', .slice ia' im' ic', .slice ta' tn' tc'] from HB1.out))
    | (go_at_call 49
       refine (of_term _ _ _ _ _ _ _ _ _ _ _ _ _ _).mono ?_
       rintro e w3 ⟨rfl, hk3⟩
       have HR3 := hide (HR1.out.keep hk3 id)
       have HK3 := hide (HK1.out.trans' hk3 (fun _ _ => id) (fun _ _ => id) : Keeps NoB w w3)
       obtain ⟨z0, z1, z2, z3, z4, z5, z6, z7, z8, z9, z10, z11, z12, z13⟩ := Blk.f14 (w := w3) (g := w.heap.size + 1 + 1) HR3.out
       obtain ⟨v0, v1, v2, v3, v4, v5, v6, v7, v8, v9, v10, v11, v12, v13⟩ := Blk.c14 (show Blk w3 (w.heap.size + 1 + 1) _ #[.int .u8 0, .bool false, .slice none 0 0, .string ⟨#[]⟩, .int .i64 0, .slice none 0 0, .slice none 0 0, .int .u8 0, .bool false, .slice none 0 0, .string ⟨#[]⟩, .int .i64 0, .slice none 0 0, .slice none 0 0] from HR3.out)
       clear hk3)
    | fail
  refine bodyPost_ret (results14 Tryz.f25 6 (by kernel_rfl) _ _ _ _ _ _ _ _ _ _ _ _ _ _ _ _ _ rfl (HR3.out.tput14 _ _ _ _ _ _ _ _ _ _ _ _ _ _)) rfl ?_
  exact ⟨rfl, HK3.out.trans' (keeps_tput14 w3 (w.heap.size + 1 + 1) _ _ _ _ _ _ _ _ _ _ _ _ _ _) (fun _ _ => id) (fun i hi e => by omega)⟩
set_option maxRecDepth 100000 in
theorem two_min_b (a b : Tm) (hoa : okT a) (hob : okT b) (w : World) (B B' : Nat → Prop) (F F' : Bool) (kd : Int) (ng : Bool) (la : Option Addr) (ln lc : Nat) (tx : ByteArray) (nm : Int) (ia : Option Addr) (im ic : Nat) (ta : Option Addr) (tn tc : Nat) (kd' : Int) (ng' : Bool) (la' : Option Addr) (ln' lc' : Nat) (tx' : ByteArray) (nm' : Int) (ia' : Option Addr) (im' ic' : Nat) (ta' : Option Addr) (tn' tc' : Nat) (ha : TermIn w B F [.int .u8 kd, .bool ng, .slice la ln lc, .string tx, .int .i64 nm, .slice ia im ic, .slice ta tn tc] a) (hb : TermIn w B' F' [.int .u8 kd', .bool ng', .slice la' ln' lc', .string tx', .int .i64 nm', .slice ia' im' ic', .slice ta' tn' tc'] b) (hc : 0 < compT a b) :
    Calls Tryz.prog 25 #[.string ⟨#[109, 105, 110]⟩, .agg #[.int .u8 kd, .bool ng, .slice la ln lc, .string tx, .int .i64 nm, .slice ia im ic, .slice ta tn tc], .agg #[.int .u8 kd', .bool ng', .slice la' ln' lc', .string tx', .int .i64 nm', .slice ia' im' ic', .slice ta' tn' tc']] w (ValP w (.agg #[.int .u8 kd', .bool ng', .slice la' ln' lc', .string tx', .int .i64 nm', .slice ia' im' ic', .slice ta' tn' tc', .int .u8 0, .bool false, .slice none 0 0, .string ⟨#[]⟩, .int .i64 0, .slice none 0 0, .slice none 0 0])) := by
  have HK0 := hide ((((Keeps.refl NoB w).alloc (.cells #[.int .u8 kd, .bool ng, .slice la ln lc, .string tx, .int .i64 nm, .slice ia im ic, .slice ta tn tc] 26)).alloc (.cells #[.int .u8 kd', .bool ng', .slice la' ln' lc', .string tx', .int .i64 nm', .slice ia' im' ic', .slice ta' tn' tc'] 26)).alloc (.cells #[.int .u8 0, .bool false, .slice none 0 0, .string ⟨#[]⟩, .int .i64 0, .slice none 0 0, .slice none 0 0, .int .u8 0, .bool false, .slice none 0 0, .string ⟨#[]⟩, .int .i64 0, .slice none 0 0, .slice none 0 0] 48))
  have HA0 := hide (three_tblks w 26 26 48 #[.int .u8 kd, .bool ng, .slice la ln lc, .string tx, .int .i64 nm, .slice ia im ic, .slice ta tn tc] #[.int .u8 kd', .bool ng', .slice la' ln' lc', .string tx', .int .i64 nm', .slice ia' im' ic', .slice ta' tn' tc'] #[.int .u8 0, .bool false, .slice none 0 0, .string ⟨#[]⟩, .int .i64 0, .slice none 0 0, .slice none 0 0, .int .u8 0, .bool false, .slice none 0 0, .string ⟨#[]⟩, .int .i64 0, .slice none 0 0, .slice none 0 0]).1; have HB0 := hide (three_tblks w 26 26 48 #[.int .u8 kd, .bool ng, .slice la ln lc, .string tx, .int .i64 nm, .slice ia im ic, .slice ta tn tc] #[.int .u8 kd', .bool ng', .slice la' ln' lc', .string tx', .int .i64 nm', .slice ia' im' ic', .slice ta' tn' tc'] #[.int .u8 0, .bool false, .slice none 0 0, .string ⟨#[]⟩, .int .i64 0, .slice none 0 0, .slice none 0 0, .int .u8 0, .bool false, .slice none 0 0, .string ⟨#[]⟩, .int .i64 0, .slice none 0 0, .slice none 0 0]).2.1; have HR0 := hide (three_tblks w 26 26 48 #[.int .u8 kd, .bool ng, .slice la ln lc, .string tx, .int .i64 nm, .slice ia im ic, .slice ta tn tc] #[.int .u8 kd', .bool ng', .slice la' ln' lc', .string tx', .int .i64 nm', .slice ia' im' ic', .slice ta' tn' tc'] #[.int .u8 0, .bool false, .slice none 0 0, .string ⟨#[]⟩, .int .i64 0, .slice none 0 0, .slice none 0 0, .int .u8 0, .bool false, .slice none 0 0, .string ⟨#[]⟩, .int .i64 0, .slice none 0 0, .slice none 0 0]).2.2
  have HHA := hide ha; have HHB := hide hb; have HOA := hide hoa; have HOB := hide hob
  clear ha hb hoa hob
  obtain ⟨c, hcc⟩ : ∃ c, compT a b = c := ⟨_, rfl⟩
  rw [hcc] at hc
  have HC := hide hcc
  clear hcc
  go_enter Tryz.func25, Tryz.ntmps25
  go_wp2_with
    first
    | (go_at_call 55
       refine (comp_any a b HOA.out HOB.out _ B B' F F' _ _ _ _ _ _ _ _ _ _ _ _ _ _ _ _ _ _ _ _ _ _ _ _ _ _ (TermIn.keep HK0.out (fun _ _ => id) _ _ HHA.out) (TermIn.keep HK0.out (fun _ _ => id) _ _ HHB.out)).mono ?_
       rintro e w1 ⟨rfl, hk1⟩
       rw [HC.out]
       have HK1 := hide (HK0.out.trans' hk1 (fun _ _ => id) (fun _ _ => id) : Keeps NoB w w1)
       have HA1 := hide (HA0.out.keep hk1 id); have HB1 := hide (HB0.out.keep hk1 id); have HR1 := hide (HR0.out.keep hk1 id)
       clear hk1)
    | (go_at_call 56
       refine (held_no ⟨#[109, 105, 110]⟩ (by rw [Lib.toList_data]; decide) (by rw [Lib.toList_data]; decide) (by rw [Lib.toList_data]; decide) (by rw [Lib.toList_data]; decide) (by rw [Lib.toList_data]; decide) (by rw [Lib.toList_data]; decide) (by rw [Lib.toList_data]; decide) (by rw [Lib.toList_data]; decide) c _).mono ?_
       rintro e w2 ⟨rfl, rfl⟩
       obtain ⟨x0, x1, x2, x3, x4, x5, x6⟩ := Blk.c7 (show Blk w2 (w.heap.size) _ #[.int .u8 kd, .bool ng, .slice la ln lc, .string tx, .int .i64 nm, .slice ia im ic, .slice ta tn tc] from HA1.out)
       obtain ⟨y0, y1, y2, y3, y4, y5, y6⟩ := Blk.c7 (show Blk w2 (w.heap.size + 1) _ #[.int .u8 kd', .bool ng', .slice la' ln' lc', .string tx', .int .i64 nm', .slice ia' im' ic', .slice ta' tn' tc'] from HB1.out))
    | (go_at_call 49
       refine (of_term _ _ _ _ _ _ _ _ _ _ _ _ _ _).mono ?_
       rintro e w3 ⟨rfl, hk3⟩
       have HR3 := hide (HR1.out.keep hk3 id)
       have HK3 := hide (HK1.out.trans' hk3 (fun _ _ => id) (fun _ _ => id) : Keeps NoB w w3)
       obtain ⟨z0, z1, z2, z3, z4, z5, z6, z7, z8, z9, z10, z11, z12, z13⟩ := Blk.f14 (w := w3) (g := w.heap.size + 1 + 1) HR3.out
       obtain ⟨v0, v1, v2, v3, v4, v5, v6, v7, v8, v9, v10, v11, v12, v13⟩ := Blk.c14 (show Blk w3 (w.heap.size + 1 + 1) _ #[.int .u8 0, .bool false, .slice none 0 0, .string ⟨#[]⟩, .int .i64 0, .slice none 0 0, .slice none 0 0, .int .u8 0, .bool false, .slice none 0 0, .string ⟨#[]⟩, .int .i64 0, .slice none 0 0, .slice none 0 0] from HR3.out)
       clear hk3)
    | fail
  refine bodyPost_ret (results14 Tryz.f25 6 (by kernel_rfl) _ _ _ _ _ _ _ _ _ _ _ _ _ _ _ _ _ rfl (HR3.out.tput14 _ _ _ _ _ _ _ _ _ _ _ _ _ _)) rfl ?_
  exact ⟨rfl, HK3.out.trans' (keeps_tput14 w3 (w.heap.size + 1 + 1) _ _ _ _ _ _ _ _ _ _ _ _ _ _) (fun _ _ => id) (fun i hi e => by omega)⟩
set_option maxRecDepth 100000 in
theorem two_min_a (a b : Tm) (hoa : okT a) (hob : okT b) (w : World) (B B' : Nat → Prop) (F F' : Bool) (kd : Int) (ng : Bool) (la : Option Addr) (ln lc : Nat) (tx : ByteArray) (nm : Int) (ia : Option Addr) (im ic : Nat) (ta : Option Addr) (tn tc : Nat) (kd' : Int) (ng' : Bool) (la' : Option Addr) (ln' lc' : Nat) (tx' : ByteArray) (nm' : Int) (ia' : Option Addr) (im' ic' : Nat) (ta' : Option Addr) (tn' tc' : Nat) (ha : TermIn w B F [.int .u8 kd, .bool ng, .slice la ln lc, .string tx, .int .i64 nm, .slice ia im ic, .slice ta tn tc] a) (hb : TermIn w B' F' [.int .u8 kd', .bool ng', .slice la' ln' lc', .string tx', .int .i64 nm', .slice ia' im' ic', .slice ta' tn' tc'] b) (hc : ¬ 0 < compT a b) :
    Calls Tryz.prog 25 #[.string ⟨#[109, 105, 110]⟩, .agg #[.int .u8 kd, .bool ng, .slice la ln lc, .string tx, .int .i64 nm, .slice ia im ic, .slice ta tn tc], .agg #[.int .u8 kd', .bool ng', .slice la' ln' lc', .string tx', .int .i64 nm', .slice ia' im' ic', .slice ta' tn' tc']] w (ValP w (.agg #[.int .u8 kd, .bool ng, .slice la ln lc, .string tx, .int .i64 nm, .slice ia im ic, .slice ta tn tc, .int .u8 0, .bool false, .slice none 0 0, .string ⟨#[]⟩, .int .i64 0, .slice none 0 0, .slice none 0 0])) := by
  have HK0 := hide ((((Keeps.refl NoB w).alloc (.cells #[.int .u8 kd, .bool ng, .slice la ln lc, .string tx, .int .i64 nm, .slice ia im ic, .slice ta tn tc] 26)).alloc (.cells #[.int .u8 kd', .bool ng', .slice la' ln' lc', .string tx', .int .i64 nm', .slice ia' im' ic', .slice ta' tn' tc'] 26)).alloc (.cells #[.int .u8 0, .bool false, .slice none 0 0, .string ⟨#[]⟩, .int .i64 0, .slice none 0 0, .slice none 0 0, .int .u8 0, .bool false, .slice none 0 0, .string ⟨#[]⟩, .int .i64 0, .slice none 0 0, .slice none 0 0] 48))
  have HA0 := hide (three_tblks w 26 26 48 #[.int .u8 kd, .bool ng, .slice la ln lc, .string tx, .int .i64 nm, .slice ia im ic, .slice ta tn tc] #[.int .u8 kd', .bool ng', .slice la' ln' lc', .string tx', .int .i64 nm', .slice ia' im' ic', .slice ta' tn' tc'] #[.int .u8 0, .bool false, .slice none 0 0, .string ⟨#[]⟩, .int .i64 0, .slice none 0 0, .slice none 0 0, .int .u8 0, .bool false, .slice none 0 0, .string ⟨#[]⟩, .int .i64 0, .slice none 0 0, .slice none 0 0]).1; have HB0 := hide (three_tblks w 26 26 48 #[.int .u8 kd, .bool ng, .slice la ln lc, .string tx, .int .i64 nm, .slice ia im ic, .slice ta tn tc] #[.int .u8 kd', .bool ng', .slice la' ln' lc', .string tx', .int .i64 nm', .slice ia' im' ic', .slice ta' tn' tc'] #[.int .u8 0, .bool false, .slice none 0 0, .string ⟨#[]⟩, .int .i64 0, .slice none 0 0, .slice none 0 0, .int .u8 0, .bool false, .slice none 0 0, .string ⟨#[]⟩, .int .i64 0, .slice none 0 0, .slice none 0 0]).2.1; have HR0 := hide (three_tblks w 26 26 48 #[.int .u8 kd, .bool ng, .slice la ln lc, .string tx, .int .i64 nm, .slice ia im ic, .slice ta tn tc] #[.int .u8 kd', .bool ng', .slice la' ln' lc', .string tx', .int .i64 nm', .slice ia' im' ic', .slice ta' tn' tc'] #[.int .u8 0, .bool false, .slice none 0 0, .string ⟨#[]⟩, .int .i64 0, .slice none 0 0, .slice none 0 0, .int .u8 0, .bool false, .slice none 0 0, .string ⟨#[]⟩, .int .i64 0, .slice none 0 0, .slice none 0 0]).2.2
  have HHA := hide ha; have HHB := hide hb; have HOA := hide hoa; have HOB := hide hob
  clear ha hb hoa hob
  obtain ⟨c, hcc⟩ : ∃ c, compT a b = c := ⟨_, rfl⟩
  rw [hcc] at hc
  have HC := hide hcc
  clear hcc
  go_enter Tryz.func25, Tryz.ntmps25
  go_wp2_with
    first
    | (go_at_call 55
       refine (comp_any a b HOA.out HOB.out _ B B' F F' _ _ _ _ _ _ _ _ _ _ _ _ _ _ _ _ _ _ _ _ _ _ _ _ _ _ (TermIn.keep HK0.out (fun _ _ => id) _ _ HHA.out) (TermIn.keep HK0.out (fun _ _ => id) _ _ HHB.out)).mono ?_
       rintro e w1 ⟨rfl, hk1⟩
       rw [HC.out]
       have HK1 := hide (HK0.out.trans' hk1 (fun _ _ => id) (fun _ _ => id) : Keeps NoB w w1)
       have HA1 := hide (HA0.out.keep hk1 id); have HB1 := hide (HB0.out.keep hk1 id); have HR1 := hide (HR0.out.keep hk1 id)
       clear hk1)
    | (go_at_call 56
       refine (held_no ⟨#[109, 105, 110]⟩ (by rw [Lib.toList_data]; decide) (by rw [Lib.toList_data]; decide) (by rw [Lib.toList_data]; decide) (by rw [Lib.toList_data]; decide) (by rw [Lib.toList_data]; decide) (by rw [Lib.toList_data]; decide) (by rw [Lib.toList_data]; decide) (by rw [Lib.toList_data]; decide) c _).mono ?_
       rintro e w2 ⟨rfl, rfl⟩
       obtain ⟨x0, x1, x2, x3, x4, x5, x6⟩ := Blk.c7 (show Blk w2 (w.heap.size) _ #[.int .u8 kd, .bool ng, .slice la ln lc, .string tx, .int .i64 nm, .slice ia im ic, .slice ta tn tc] from HA1.out)
       obtain ⟨y0, y1, y2, y3, y4, y5, y6⟩ := Blk.c7 (show Blk w2 (w.heap.size + 1) _ #[.int .u8 kd', .bool ng', .slice la' ln' lc', .string tx', .int .i64 nm', .slice ia' im' ic', .slice ta' tn' tc'] from HB1.out))
    | (go_at_call 49
       refine (of_term _ _ _ _ _ _ _ _ _ _ _ _ _ _).mono ?_
       rintro e w3 ⟨rfl, hk3⟩
       have HR3 := hide (HR1.out.keep hk3 id)
       have HK3 := hide (HK1.out.trans' hk3 (fun _ _ => id) (fun _ _ => id) : Keeps NoB w w3)
       obtain ⟨z0, z1, z2, z3, z4, z5, z6, z7, z8, z9, z10, z11, z12, z13⟩ := Blk.f14 (w := w3) (g := w.heap.size + 1 + 1) HR3.out
       obtain ⟨v0, v1, v2, v3, v4, v5, v6, v7, v8, v9, v10, v11, v12, v13⟩ := Blk.c14 (show Blk w3 (w.heap.size + 1 + 1) _ #[.int .u8 0, .bool false, .slice none 0 0, .string ⟨#[]⟩, .int .i64 0, .slice none 0 0, .slice none 0 0, .int .u8 0, .bool false, .slice none 0 0, .string ⟨#[]⟩, .int .i64 0, .slice none 0 0, .slice none 0 0] from HR3.out)
       clear hk3)
    | fail
  refine bodyPost_ret (results14 Tryz.f25 6 (by kernel_rfl) _ _ _ _ _ _ _ _ _ _ _ _ _ _ _ _ _ rfl (HR3.out.tput14 _ _ _ _ _ _ _ _ _ _ _ _ _ _)) rfl ?_
  exact ⟨rfl, HK3.out.trans' (keeps_tput14 w3 (w.heap.size + 1 + 1) _ _ _ _ _ _ _ _ _ _ _ _ _ _) (fun _ _ => id) (fun i hi e => by omega)⟩
end Go.Proofs.YthbbalkhmofndaaGreatDoor
