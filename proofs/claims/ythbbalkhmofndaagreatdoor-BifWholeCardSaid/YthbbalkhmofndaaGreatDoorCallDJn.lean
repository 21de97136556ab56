/- bif.two at + * div rem and ++: its contracts. Printed by mktwon.py. bif.Call at + * div rem. Printed by mkcalln.py. -/
import Derived.Test.YthbbalkhmofndaaGreatDoorNumBJn
import Derived.Test.YthbbalkhmofndaaGreatDoorCallR1Jn
import Derived.Test.YthbbalkhmofndaaGreatDoorCallR2Jn
import Derived.Test.YthbbalkhmofndaaGreatDoorNumZJn
namespace Go.Proofs.YthbbalkhmofndaaGreatDoor
open Go.RowKit

set_option maxRecDepth 100000 in
theorem two_times (N : Nat) (v r a b : Tm) (hoa : okT a) (hob : okT b) (w : World) (hN : N ≤ w.heap.size) (B B' : Nat → Prop) (F F' : Bool) (kd : Int) (ng : Bool) (la : Option Addr) (ln lc : Nat) (tx : ByteArray) (nm : Int) (ia : Option Addr) (im ic : Nat) (ta : Option Addr) (tn tc : Nat) (kd' : Int) (ng' : Bool) (la' : Option Addr) (ln' lc' : Nat) (tx' : ByteArray) (nm' : Int) (ia' : Option Addr) (im' ic' : Nat) (ta' : Option Addr) (tn' tc' : Nat) (ha : TermIn w B F [.int .u8 kd, .bool ng, .slice la ln lc, .string tx, .int .i64 nm, .slice ia im ic, .slice ta tn tc] a) (hb : TermIn w B' F' [.int .u8 kd', .bool ng', .slice la' ln' lc', .string tx', .int .i64 nm', .slice ia' im' ic', .slice ta' tn' tc'] b)
    (hn : ∀ w', Keeps NoB w w' → Calls Tryz.prog 47 #[.string ⟨#[42]⟩, .agg #[.int .u8 kd, .bool ng, .slice la ln lc, .string tx, .int .i64 nm, .slice ia im ic, .slice ta tn tc], .agg #[.int .u8 kd', .bool ng', .slice la' ln' lc', .string tx', .int .i64 nm', .slice ia' im' ic', .slice ta' tn' tc']] w' (ResP N w' v r)) :
    Calls Tryz.prog 25 #[.string ⟨#[42]⟩, .agg #[.int .u8 kd, .bool ng, .slice la ln lc, .string tx, .int .i64 nm, .slice ia im ic, .slice ta tn tc], .agg #[.int .u8 kd', .bool ng', .slice la' ln' lc', .string tx', .int .i64 nm', .slice ia' im' ic', .slice ta' tn' tc']] w (ResP N w v r) := by
  have HK0 := hide ((((Keeps.refl NoB w).alloc (.cells #[.int .u8 kd, .bool ng, .slice la ln lc, .string tx, .int .i64 nm, .slice ia im ic, .slice ta tn tc] 26)).alloc (.cells #[.int .u8 kd', .bool ng', .slice la' ln' lc', .string tx', .int .i64 nm', .slice ia' im' ic', .slice ta' tn' tc'] 26)).alloc (.cells #[.int .u8 0, .bool false, .slice none 0 0, .string ⟨#[]⟩, .int .i64 0, .slice none 0 0, .slice none 0 0, .int .u8 0, .bool false, .slice none 0 0, .string ⟨#[]⟩, .int .i64 0, .slice none 0 0, .slice none 0 0] 48))
  have HA0 := hide (three_tblks w 26 26 48 #[.int .u8 kd, .bool ng, .slice la ln lc, .string tx, .int .i64 nm, .slice ia im ic, .slice ta tn tc] #[.int .u8 kd', .bool ng', .slice la' ln' lc', .string tx', .int .i64 nm', .slice ia' im' ic', .slice ta' tn' tc'] #[.int .u8 0, .bool false, .slice none 0 0, .string ⟨#[]⟩, .int .i64 0, .slice none 0 0, .slice none 0 0, .int .u8 0, .bool false, .slice none 0 0, .string ⟨#[]⟩, .int .i64 0, .slice none 0 0, .slice none 0 0]).1; have HB0 := hide (three_tblks w 26 26 48 #[.int .u8 kd, .bool ng, .slice la ln lc, .string tx, .int .i64 nm, .slice ia im ic, .slice ta tn tc] #[.int .u8 kd', .bool ng', .slice la' ln' lc', .string tx', .int .i64 nm', .slice ia' im' ic', .slice ta' tn' tc'] #[.int .u8 0, .bool false, .slice none 0 0, .string ⟨#[]⟩, .int .i64 0, .slice none 0 0, .slice none 0 0, .int .u8 0, .bool false, .slice none 0 0, .string ⟨#[]⟩, .int .i64 0, .slice none 0 0, .slice none 0 0]).2.1; have HR0 := hide (three_tblks w 26 26 48 #[.int .u8 kd, .bool ng, .slice la ln lc, .string tx, .int .i64 nm, .slice ia im ic, .slice ta tn tc] #[.int .u8 kd', .bool ng', .slice la' ln' lc', .string tx', .int .i64 nm', .slice ia' im' ic', .slice ta' tn' tc'] #[.int .u8 0, .bool false, .slice none 0 0, .string ⟨#[]⟩, .int .i64 0, .slice none 0 0, .slice none 0 0, .int .u8 0, .bool false, .slice none 0 0, .string ⟨#[]⟩, .int .i64 0, .slice none 0 0, .slice none 0 0]).2.2
  have HHA := hide ha; have HHB := hide hb; have HOA := hide hoa; have HOB := hide hob
  clear ha hb hoa hob
  have HN := hide hn; have HNN := hide hN
  clear hn hN
  obtain ⟨c, hcc⟩ : ∃ c, compT a b = c := ⟨_, rfl⟩
  have HC := hide hcc
  clear hcc
  go_enter Tryz.func25, Tryz.ntmps25
  go_wp2_with
    first
    | (go_at_call 55
       refine (comp_any a b HOA.out HOB.out _ B B' F F' _ _ _ _ _ _ _ _ _ _ _ _ _ _ _ _ _ _ _ _ _ _ _ _ _ _ (TermIn.keep HK0.out (fun _ _ => id) _ _ HHA.out) (TermIn.keep HK0.out (fun _ _ => id) _ _ HHB.out)).mono ?_
       rintro e w1 ⟨rfl, hk1⟩
       rw [HC.out]
       have HK1 := hide (HK0.out.trans' hk1 (fun _ _ => id) (fun _ _ => id) : Keeps NoB w w1)
       have HA1 := hide (HA0.out.keep hk1 id); have HB1 := hide (HB0.out.keep hk1 id); have HR1 := hide (HR0.out.keep hk1 id)
       clear hk1)
    | (go_at_call 56
       refine (held_no ⟨#[42]⟩ (by rw [Lib.toList_data]; decide) (by rw [Lib.toList_data]; decide) (by rw [Lib.toList_data]; decide) (by rw [Lib.toList_data]; decide) (by rw [Lib.toList_data]; decide) (by rw [Lib.toList_data]; decide) (by rw [Lib.toList_data]; decide) (by rw [Lib.toList_data]; decide) c _).mono ?_
       rintro e w2 ⟨rfl, rfl⟩
       obtain ⟨x0, x1, x2, x3, x4, x5, x6⟩ := Blk.c7 (show Blk w2 (w.heap.size) _ #[.int .u8 kd, .bool ng, .slice la ln lc, .string tx, .int .i64 nm, .slice ia im ic, .slice ta tn tc] from HA1.out)
       obtain ⟨y0, y1, y2, y3, y4, y5, y6⟩ := Blk.c7 (show Blk w2 (w.heap.size + 1) _ #[.int .u8 kd', .bool ng', .slice la' ln' lc', .string tx', .int .i64 nm', .slice ia' im' ic', .slice ta' tn' tc'] from HB1.out))
    | (go_at_call 47
       refine (HN.out _ HK1.out).mono ?_
       rintro e w3 ⟨kv, gv, lv, lvn, lvc, sv, mv, iv, ivn, ivc, tv, tvn, tvc, kr, gr, lr, lrn, lrc, sr, mr, ir, irn, irc, tr, trn, trc, rfl, hv3, hr3, hk3⟩
       have HV3 := hide hv3; have HE3 := hide hr3
       have HR3 := hide (HR1.out.keep hk3 id)
       have HL1 := hide HR1.out.lt
       have HK3 := hide (HK1.out.trans' hk3 (fun _ _ => id) (fun _ _ => id) : Keeps NoB w w3)
       obtain ⟨z0, z1, z2, z3, z4, z5, z6, z7, z8, z9, z10, z11, z12, z13⟩ := Blk.f14 (w := w3) (g := w.heap.size + 1 + 1) HR3.out
       obtain ⟨v0, v1, v2, v3, v4, v5, v6, v7, v8, v9, v10, v11, v12, v13⟩ := Blk.c14 (show Blk w3 (w.heap.size + 1 + 1) _ #[.int .u8 0, .bool false, .slice none 0 0, .string ⟨#[]⟩, .int .i64 0, .slice none 0 0, .slice none 0 0, .int .u8 0, .bool false, .slice none 0 0, .string ⟨#[]⟩, .int .i64 0, .slice none 0 0, .slice none 0 0] from HR3.out)
       clear hk3 hv3 hr3)
    | fail
  refine bodyPost_ret (results14 Tryz.f25 6 (by kernel_rfl) _ _ _ _ _ _ _ _ _ _ _ _ _ _ _ _ _ rfl (HR3.out.tput14 _ _ _ _ _ _ _ _ _ _ _ _ _ _)) rfl ?_
  have hkt := keeps_tput14 w3 (w.heap.size + 1 + 1) (.int .u8 kv) (.bool gv) (.slice lv lvn lvc) (.string sv) (.int .i64 mv) (.slice iv ivn ivc) (.slice tv tvn tvc) (.int .u8 kr) (.bool gr) (.slice lr lrn lrc) (.string sr) (.int .i64 mr) (.slice ir irn irc) (.slice tr trn trc)
  have HB := hide (fun k (hk : ResB N w2 k) (e : k = w.heap.size + 1 + 1) => show False from by
    have h1 := HNN.out; have h2 := HL1.out
    rcases hk with hk | hk <;> omega)
  have hup : ∀ (W : World) k, k < W.heap.size → ResB N w2 k → ResB N w k := fun _ k _ hk => by
    rcases hk with hk | hk
    · exact Or.inl hk
    · exact Or.inr (Nat.le_trans (Nat.le_trans (by omega) (Nat.le_of_lt HL1.out)) hk)
  exact ⟨kv, gv, lv, lvn, lvc, sv, mv, iv, ivn, ivc, tv, tvn, tvc, kr, gr, lr, lrn, lrc, sr, mr, ir, irn, irc, tr, trn, trc, rfl, TermIn.more (hup _) _ _ (TermIn.keep hkt HB.out _ _ HV3.out), TermIn.more (hup _) _ _ (TermIn.keep hkt HB.out _ _ HE3.out), HK3.out.trans' hkt (fun _ _ => id) (fun i hi e => by omega)⟩
set_option maxRecDepth 100000 in
theorem two_div (N : Nat) (v r a b : Tm) (hoa : okT a) (hob : okT b) (w : World) (hN : N ≤ w.heap.size) (B B' : Nat → Prop) (F F' : Bool) (kd : Int) (ng : Bool) (la : Option Addr) (ln lc : Nat) (tx : ByteArray) (nm : Int) (ia : Option Addr) (im ic : Nat) (ta : Option Addr) (tn tc : Nat) (kd' : Int) (ng' : Bool) (la' : Option Addr) (ln' lc' : Nat) (tx' : ByteArray) (nm' : Int) (ia' : Option Addr) (im' ic' : Nat) (ta' : Option Addr) (tn' tc' : Nat) (ha : TermIn w B F [.int .u8 kd, .bool ng, .slice la ln lc, .string tx, .int .i64 nm, .slice ia im ic, .slice ta tn tc] a) (hb : TermIn w B' F' [.int .u8 kd', .bool ng', .slice la' ln' lc', .string tx', .int .i64 nm', .slice ia' im' ic', .slice ta' tn' tc'] b)
    (hn : ∀ w', Keeps NoB w w' → Calls Tryz.prog 47 #[.string ⟨#[100, 105, 118]⟩, .agg #[.int .u8 kd, .bool ng, .slice la ln lc, .string tx, .int .i64 nm, .slice ia im ic, .slice ta tn tc], .agg #[.int .u8 kd', .bool ng', .slice la' ln' lc', .string tx', .int .i64 nm', .slice ia' im' ic', .slice ta' tn' tc']] w' (ResP N w' v r)) :
    Calls Tryz.prog 25 #[.string ⟨#[100, 105, 118]⟩, .agg #[.int .u8 kd, .bool ng, .slice la ln lc, .string tx, .int .i64 nm, .slice ia im ic, .slice ta tn tc], .agg #[.int .u8 kd', .bool ng', .slice la' ln' lc', .string tx', .int .i64 nm', .slice ia' im' ic', .slice ta' tn' tc']] w (ResP N w v r) := by
  have HK0 := hide ((((Keeps.refl NoB w).alloc (.cells #[.int .u8 kd, .bool ng, .slice la ln lc, .string tx, .int .i64 nm, .slice ia im ic, .slice ta tn tc] 26)).alloc (.cells #[.int .u8 kd', .bool ng', .slice la' ln' lc', .string tx', .int .i64 nm', .slice ia' im' ic', .slice ta' tn' tc'] 26)).alloc (.cells #[.int .u8 0, .bool false, .slice none 0 0, .string ⟨#[]⟩, .int .i64 0, .slice none 0 0, .slice none 0 0, .int .u8 0, .bool false, .slice none 0 0, .string ⟨#[]⟩, .int .i64 0, .slice none 0 0, .slice none 0 0] 48))
  have HA0 := hide (three_tblks w 26 26 48 #[.int .u8 kd, .bool ng, .slice la ln lc, .string tx, .int .i64 nm, .slice ia im ic, .slice ta tn tc] #[.int .u8 kd', .bool ng', .slice la' ln' lc', .string tx', .int .i64 nm', .slice ia' im' ic', .slice ta' tn' tc'] #[.int .u8 0, .bool false, .slice none 0 0, .string ⟨#[]⟩, .int .i64 0, .slice none 0 0, .slice none 0 0, .int .u8 0, .bool false, .slice none 0 0, .string ⟨#[]⟩, .int .i64 0, .slice none 0 0, .slice none 0 0]).1; have HB0 := hide (three_tblks w 26 26 48 #[.int .u8 kd, .bool ng, .slice la ln lc, .string tx, .int .i64 nm, .slice ia im ic, .slice ta tn tc] #[.int .u8 kd', .bool ng', .slice la' ln' lc', .string tx', .int .i64 nm', .slice ia' im' ic', .slice ta' tn' tc'] #[.int .u8 0, .bool false, .slice none 0 0, .string ⟨#[]⟩, .int .i64 0, .slice none 0 0, .slice none 0 0, .int .u8 0, .bool false, .slice none 0 0, .string ⟨#[]⟩, .int .i64 0, .slice none 0 0, .slice none 0 0]).2.1; have HR0 := hide (three_tblks w 26 26 48 #[.int .u8 kd, .bool ng, .slice la ln lc, .string tx, .int .i64 nm, .slice ia im ic, .slice ta tn tc] #[.int .u8 kd', .bool ng', .slice la' ln' lc', .string tx', .int .i64 nm', .slice ia' im' ic', .slice ta' tn' tc'] #[.int .u8 0, .bool false, .slice none 0 0, .string ⟨#[]⟩, .int .i64 0, .slice none 0 0, .slice none 0 0, .int .u8 0, .bool false, .slice none 0 0, .string ⟨#[]⟩, .int .i64 0, .slice none 0 0, .slice none 0 0]).2.2
  have HHA := hide ha; have HHB := hide hb; have HOA := hide hoa; have HOB := hide hob
  clear ha hb hoa hob
  have HN := hide hn; have HNN := hide hN
  clear hn hN
  obtain ⟨c, hcc⟩ : ∃ c, compT a b = c := ⟨_, rfl⟩
  have HC := hide hcc
  clear hcc
  go_enter Tryz.func25, Tryz.ntmps25
  go_wp2_with
    first
    | (go_at_call 55
       refine (comp_any a b HOA.out HOB.out _ B B' F F' _ _ _ _ _ _ _ _ _ _ _ _ _ _ _ _ _ _ _ _ _ _ _ _ _ _ (TermIn.keep HK0.out (fun _ _ => id) _ _ HHA.out) (TermIn.keep HK0.out (fun _ _ => id) _ _ HHB.out)).mono ?_
       rintro e w1 ⟨rfl, hk1⟩
       rw [HC.out]
       have HK1 := hide (HK0.out.trans' hk1 (fun _ _ => id) (fun _ _ => id) : Keeps NoB w w1)
       have HA1 := hide (HA0.out.keep hk1 id); have HB1 := hide (HB0.out.keep hk1 id); have HR1 := hide (HR0.out.keep hk1 id)
       clear hk1)
    | (go_at_call 56
       refine (held_no ⟨#[100, 105, 118]⟩ (by rw [Lib.toList_data]; decide) (by rw [Lib.toList_data]; decide) (by rw [Lib.toList_data]; decide) (by rw [Lib.toList_data]; decide) (by rw [Lib.toList_data]; decide) (by rw [Lib.toList_data]; decide) (by rw [Lib.toList_data]; decide) (by rw [Lib.toList_data]; decide) c _).mono ?_
       rintro e w2 ⟨rfl, rfl⟩
       obtain ⟨x0, x1, x2, x3, x4, x5, x6⟩ := Blk.c7 (show Blk w2 (w.heap.size) _ #[.int .u8 kd, .bool ng, .slice la ln lc, .string tx, .int .i64 nm, .slice ia im ic, .slice ta tn tc] from HA1.out)
       obtain ⟨y0, y1, y2, y3, y4, y5, y6⟩ := Blk.c7 (show Blk w2 (w.heap.size + 1) _ #[.int .u8 kd', .bool ng', .slice la' ln' lc', .string tx', .int .i64 nm', .slice ia' im' ic', .slice ta' tn' tc'] from HB1.out))
    | (go_at_call 47
       refine (HN.out _ HK1.out).mono ?_
       rintro e w3 ⟨kv, gv, lv, lvn, lvc, sv, mv, iv, ivn, ivc, tv, tvn, tvc, kr, gr, lr, lrn, lrc, sr, mr, ir, irn, irc, tr, trn, trc, rfl, hv3, hr3, hk3⟩
       have HV3 := hide hv3; have HE3 := hide hr3
       have HR3 := hide (HR1.out.keep hk3 id)
       have HL1 := hide HR1.out.lt
       have HK3 := hide (HK1.out.trans' hk3 (fun _ _ => id) (fun _ _ => id) : Keeps NoB w w3)
       obtain ⟨z0, z1, z2, z3, z4, z5, z6, z7, z8, z9, z10, z11, z12, z13⟩ := Blk.f14 (w := w3) (g := w.heap.size + 1 + 1) HR3.out
       obtain ⟨v0, v1, v2, v3, v4, v5, v6, v7, v8, v9, v10, v11, v12, v13⟩ := Blk.c14 (show Blk w3 (w.heap.size + 1 + 1) _ #[.int .u8 0, .bool false, .slice none 0 0, .string ⟨#[]⟩, .int .i64 0, .slice none 0 0, .slice none 0 0, .int .u8 0, .bool false, .slice none 0 0, .string ⟨#[]⟩, .int .i64 0, .slice none 0 0, .slice none 0 0] from HR3.out)
       clear hk3 hv3 hr3)
    | fail
  refine bodyPost_ret (results14 Tryz.f25 6 (by kernel_rfl) _ _ _ _ _ _ _ _ _ _ _ _ _ _ _ _ _ rfl (HR3.out.tput14 _ _ _ _ _ _ _ _ _ _ _ _ _ _)) rfl ?_
  have hkt := keeps_tput14 w3 (w.heap.size + 1 + 1) (.int .u8 kv) (.bool gv) (.slice lv lvn lvc) (.string sv) (.int .i64 mv) (.slice iv ivn ivc) (.slice tv tvn tvc) (.int .u8 kr) (.bool gr) (.slice lr lrn lrc) (.string sr) (.int .i64 mr) (.slice ir irn irc) (.slice tr trn trc)
  have HB := hide (fun k (hk : ResB N w2 k) (e : k = w.heap.size + 1 + 1) => show False from by
    have h1 := HNN.out; have h2 := HL1.out
    rcases hk with hk | hk <;> omega)
  have hup : ∀ (W : World) k, k < W.heap.size → ResB N w2 k → ResB N w k := fun _ k _ hk => by
    rcases hk with hk | hk
    · exact Or.inl hk
    · exact Or.inr (Nat.le_trans (Nat.le_trans (by omega) (Nat.le_of_lt HL1.out)) hk)
  exact ⟨kv, gv, lv, lvn, lvc, sv, mv, iv, ivn, ivc, tv, tvn, tvc, kr, gr, lr, lrn, lrc, sr, mr, ir, irn, irc, tr, trn, trc, rfl, TermIn.more (hup _) _ _ (TermIn.keep hkt HB.out _ _ HV3.out), TermIn.more (hup _) _ _ (TermIn.keep hkt HB.out _ _ HE3.out), HK3.out.trans' hkt (fun _ _ => id) (fun i hi e => by omega)⟩
set_option maxRecDepth 100000 in
theorem two_rem (N : Nat) (v r a b : Tm) (hoa : okT a) (hob : okT b) (w : World) (hN : N ≤ w.heap.size) (B B' : Nat → Prop) (F F' : Bool) (kd : Int) (ng : Bool) (la : Option Addr) (ln lc : Nat) (tx : ByteArray) (nm : Int) (ia : Option Addr) (im ic : Nat) (ta : Option Addr) (tn tc : Nat) (kd' : Int) (ng' : Bool) (la' : Option Addr) (ln' lc' : Nat) (tx' : ByteArray) (nm' : Int) (ia' : Option Addr) (im' ic' : Nat) (ta' : Option Addr) (tn' tc' : Nat) (ha : TermIn w B F [.int .u8 kd, .bool ng, .slice la ln lc, .string tx, .int .i64 nm, .slice ia im ic, .slice ta tn tc] a) (hb : TermIn w B' F' [.int .u8 kd', .bool ng', .slice la' ln' lc', .string tx', .int .i64 nm', .slice ia' im' ic', .slice ta' tn' tc'] b)
    (hn : ∀ w', Keeps NoB w w' → Calls Tryz.prog 47 #[.string ⟨#[114, 101, 109]⟩, .agg #[.int .u8 kd, .bool ng, .slice la ln lc, .string tx, .int .i64 nm, .slice ia im ic, .slice ta tn tc], .agg #[.int .u8 kd', .bool ng', .slice la' ln' lc', .string tx', .int .i64 nm', .slice ia' im' ic', .slice ta' tn' tc']] w' (ResP N w' v r)) :
    Calls Tryz.prog 25 #[.string ⟨#[114, 101, 109]⟩, .agg #[.int .u8 kd, .bool ng, .slice la ln lc, .string tx, .int .i64 nm, .slice ia im ic, .slice ta tn tc], .agg #[.int .u8 kd', .bool ng', .slice la' ln' lc', .string tx', .int .i64 nm', .slice ia' im' ic', .slice ta' tn' tc']] w (ResP N w v r) := by
  have HK0 := hide ((((Keeps.refl NoB w).alloc (.cells #[.int .u8 kd, .bool ng, .slice la ln lc, .string tx, .int .i64 nm, .slice ia im ic, .slice ta tn tc] 26)).alloc (.cells #[.int .u8 kd', .bool ng', .slice la' ln' lc', .string tx', .int .i64 nm', .slice ia' im' ic', .slice ta' tn' tc'] 26)).alloc (.cells #[.int .u8 0, .bool false, .slice none 0 0, .string ⟨#[]⟩, .int .i64 0, .slice none 0 0, .slice none 0 0, .int .u8 0, .bool false, .slice none 0 0, .string ⟨#[]⟩, .int .i64 0, .slice none 0 0, .slice none 0 0] 48))
  have HA0 := hide (three_tblks w 26 26 48 #[.int .u8 kd, .bool ng, .slice la ln lc, .string tx, .int .i64 nm, .slice ia im ic, .slice ta tn tc] #[.int .u8 kd', .bool ng', .slice la' ln' lc', .string tx', .int .i64 nm', .slice ia' im' ic', .slice ta' tn' tc'] #[.int .u8 0, .bool false, .slice none 0 0, .string ⟨#[]⟩, .int .i64 0, .slice none 0 0, .slice none 0 0, .int .u8 0, .bool false, .slice none 0 0, .string ⟨#[]⟩, .int .i64 0, .slice none 0 0, .slice none 0 0]).1; have HB0 := hide (three_tblks w 26 26 48 #[.int .u8 kd, .bool ng, .slice la ln lc, .string tx, .int .i64 nm, .slice ia im ic, .slice ta tn tc] #[.int .u8 kd', .bool ng', .slice la' ln' lc', .string tx', .int .i64 nm', .slice ia' im' ic', .slice ta' tn' tc'] #[.int .u8 0, .bool false, .slice none 0 0, .string ⟨#[]⟩, .int .i64 0, .slice none 0 0, .slice none 0 0, .int .u8 0, .bool false, .slice none 0 0, .string ⟨#[]⟩, .int .i64 0, .slice none 0 0, .slice none 0 0]).2.1; have HR0 := hide (three_tblks w 26 26 48 #[.int .u8 kd, .bool ng, .slice la ln lc, .string tx, .int .i64 nm, .slice ia im ic, .slice ta tn tc] #[.int .u8 kd', .bool ng', .slice la' ln' lc', .string tx', .int .i64 nm', .slice ia' im' ic', .slice ta' tn' tc'] #[.int .u8 0, .bool false, .slice none 0 0, .string ⟨#[]⟩, .int .i64 0, .slice none 0 0, .slice none 0 0, .int .u8 0, .bool false, .slice none 0 0, .string ⟨#[]⟩, .int .i64 0, .slice none 0 0, .slice none 0 0]).2.2
  have HHA := hide ha; have HHB := hide hb; have HOA := hide hoa; have HOB := hide hob
  clear ha hb hoa hob
  have HN := hide hn; have HNN := hide hN
  clear hn hN
  obtain ⟨c, hcc⟩ : ∃ c, compT a b = c := ⟨_, rfl⟩
  have HC := hide hcc
  clear hcc
  go_enter Tryz.func25, Tryz.ntmps25
  go_wp2_with
    first
    | (go_at_call 55
       refine (comp_any a b HOA.out HOB.out _ B B' F F' _ _ _ _ _ _ _ _ _ _ _ _ _ _ _ _ _ _ _ _ _ _ _ _ _ _ (TermIn.keep HK0.out (fun _ _ => id) _ _ HHA.out) (TermIn.keep HK0.out (fun _ _ => id) _ _ HHB.out)).mono ?_
       rintro e w1 ⟨rfl, hk1⟩
       rw [HC.out]
       have HK1 := hide (HK0.out.trans' hk1 (fun _ _ => id) (fun _ _ => id) : Keeps NoB w w1)
       have HA1 := hide (HA0.out.keep hk1 id); have HB1 := hide (HB0.out.keep hk1 id); have HR1 := hide (HR0.out.keep hk1 id)
       clear hk1)
    | (go_at_call 56
       refine (held_no ⟨#[114, 101, 109]⟩ (by rw [Lib.toList_data]; decide) (by rw [Lib.toList_data]; decide) (by rw [Lib.toList_data]; decide) (by rw [Lib.toList_data]; decide) (by rw [Lib.toList_data]; decide) (by rw [Lib.toList_data]; decide) (by rw [Lib.toList_data]; decide) (by rw [Lib.toList_data]; decide) c _).mono ?_
       rintro e w2 ⟨rfl, rfl⟩
       obtain ⟨x0, x1, x2, x3, x4, x5, x6⟩ := Blk.c7 (show Blk w2 (w.heap.size) _ #[.int .u8 kd, .bool ng, .slice la ln lc, .string tx, .int .i64 nm, .slice ia im ic, .slice ta tn tc] from HA1.out)
       obtain ⟨y0, y1, y2, y3, y4, y5, y6⟩ := Blk.c7 (show Blk w2 (w.heap.size + 1) _ #[.int .u8 kd', .bool ng', .slice la' ln' lc', .string tx', .int .i64 nm', .slice ia' im' ic', .slice ta' tn' tc'] from HB1.out))
    | (go_at_call 47
       refine (HN.out _ HK1.out).mono ?_
       rintro e w3 ⟨kv, gv, lv, lvn, lvc, sv, mv, iv, ivn, ivc, tv, tvn, tvc, kr, gr, lr, lrn, lrc, sr, mr, ir, irn, irc, tr, trn, trc, rfl, hv3, hr3, hk3⟩
       have HV3 := hide hv3; have HE3 := hide hr3
       have HR3 := hide (HR1.out.keep hk3 id)
       have HL1 := hide HR1.out.lt
       have HK3 := hide (HK1.out.trans' hk3 (fun _ _ => id) (fun _ _ => id) : Keeps NoB w w3)
       obtain ⟨z0, z1, z2, z3, z4, z5, z6, z7, z8, z9, z10, z11, z12, z13⟩ := Blk.f14 (w := w3) (g := w.heap.size + 1 + 1) HR3.out
       obtain ⟨v0, v1, v2, v3, v4, v5, v6, v7, v8, v9, v10, v11, v12, v13⟩ := Blk.c14 (show Blk w3 (w.heap.size + 1 + 1) _ #[.int .u8 0, .bool false, .slice none 0 0, .string ⟨#[]⟩, .int .i64 0, .slice none 0 0, .slice none 0 0, .int .u8 0, .bool false, .slice none 0 0, .string ⟨#[]⟩, .int .i64 0, .slice none 0 0, .slice none 0 0] from HR3.out)
       clear hk3 hv3 hr3)
    | fail
  refine bodyPost_ret (results14 Tryz.f25 6 (by kernel_rfl) _ _ _ _ _ _ _ _ _ _ _ _ _ _ _ _ _ rfl (HR3.out.tput14 _ _ _ _ _ _ _ _ _ _ _ _ _ _)) rfl ?_
  have hkt := keeps_tput14 w3 (w.heap.size + 1 + 1) (.int .u8 kv) (.bool gv) (.slice lv lvn lvc) (.string sv) (.int .i64 mv) (.slice iv ivn ivc) (.slice tv tvn tvc) (.int .u8 kr) (.bool gr) (.slice lr lrn lrc) (.string sr) (.int .i64 mr) (.slice ir irn irc) (.slice tr trn trc)
  have HB := hide (fun k (hk : ResB N w2 k) (e : k = w.heap.size + 1 + 1) => show False from by
    have h1 := HNN.out; have h2 := HL1.out
    rcases hk with hk | hk <;> omega)
  have hup : ∀ (W : World) k, k < W.heap.size → ResB N w2 k → ResB N w k := fun _ k _ hk => by
    rcases hk with hk | hk
    · exact Or.inl hk
    · exact Or.inr (Nat.le_trans (Nat.le_trans (by omega) (Nat.le_of_lt HL1.out)) hk)
  exact ⟨kv, gv, lv, lvn, lvc, sv, mv, iv, ivn, ivc, tv, tvn, tvc, kr, gr, lr, lrn, lrc, sr, mr, ir, irn, irc, tr, trn, trc, rfl, TermIn.more (hup _) _ _ (TermIn.keep hkt HB.out _ _ HV3.out), TermIn.more (hup _) _ _ (TermIn.keep hkt HB.out _ _ HE3.out), HK3.out.trans' hkt (fun _ _ => id) (fun i hi e => by omega)⟩
end Go.Proofs.YthbbalkhmofndaaGreatDoor
namespace Go.Proofs.YthbbalkhmofndaaGreatDoor
open Go.RowKit

theorem quo_abs (x y : Int) : (x.tdiv y).natAbs ≤ x.natAbs := by rw [Int.natAbs_tdiv]; exact Nat.div_le_self _ _
theorem rem_abs (x y : Int) : (x.tmod y).natAbs ≤ x.natAbs := by rw [Int.natAbs_tmod]; exact Nat.mod_le _ _
theorem call_times (a b : Tm) (hga : goodT a) (hgb : goodT b) (hka : a.kind = 1) (hkb : b.kind = 1) (hz : (intV a * intV b).natAbs < Big) (w : World) (hL : LaidK w) (ga c : Nat) (kd : Int) (ng : Bool) (la : Option Addr) (ln lc : Nat) (tx : ByteArray) (nm : Int) (ia : Option Addr) (im ic : Nat) (ta : Option Addr) (tn tc : Nat) (kd' : Int) (ng' : Bool) (la' : Option Addr) (ln' lc' : Nat) (tx' : ByteArray) (nm' : Int) (ia' : Option Addr) (im' ic' : Nat) (ta' : Option Addr) (tn' tc' : Nat)
    (hA : Blk w ga 26 #[.int .u8 kd, .bool ng, .slice la ln lc, .string tx, .int .i64 nm, .slice ia im ic, .slice ta tn tc, .int .u8 kd', .bool ng', .slice la' ln' lc', .string tx', .int .i64 nm', .slice ia' im' ic', .slice ta' tn' tc']) (ha : TermIn w (fun _ => True) false [.int .u8 kd, .bool ng, .slice la ln lc, .string tx, .int .i64 nm, .slice ia im ic, .slice ta tn tc] a) (hb : TermIn w (fun _ => True) false [.int .u8 kd', .bool ng', .slice la' ln' lc', .string tx', .int .i64 nm', .slice ia' im' ic', .slice ta' tn' tc'] b) :
    Calls Tryz.prog 12 #[.string ⟨#[42]⟩, .slice (some ⟨ga, 0, none⟩) 2 c] w (CallR w (intTm (intV a * intV b)) zeroT) := by
  obtain rfl : kd = 1 := (kind_cells ha).trans hka
  obtain rfl : kd' = 1 := (kind_cells hb).trans hkb
  obtain ⟨rfl, rfl, rfl, rfl, hia⟩ := int_IA _ _ _ _ _ _ _ _ _ _ _ _ _ ha hga rfl
  obtain ⟨rfl, rfl, rfl, rfl, hib⟩ := int_IA _ _ _ _ _ _ _ _ _ _ _ _ _ hb hgb rfl
  skip
  exact call_two_value ⟨#[42]⟩ (by decide) 2 (Or.inr rfl) (by kernel_rfl) a b _ _ hga.1 hgb.1 (by rfl) (intTm_right (by first | exact hz | exact hzq)) w hL ga c _ _ _ _ _ _ _ _ _ _ _ _ _ _ _ _ _ _ _ _ _ _ _ _ _ _ hA ha hb
    (fun w' hk => two_times w.heap.size _ _ a b hga.2 hgb.2 w' hk.size _ _ false false _ _ _ _ _ _ _ _ _ _ _ _ _ _ _ _ _ _ _ _ _ _ _ _ _ _ (TermIn.keep hk (fun _ _ => id) _ _ ha) (TermIn.keep hk (fun _ _ => id) _ _ hb)
      (fun w'' hk2 => (number_times (intV a) (intV b) hz a b hka hkb ng ng' la la' ia ta ia' ta' ln lc ln' lc' ic tc ic' tc' w'' (fun _ => True) (fun _ => True) (TermIn.keep (hk.trans' hk2 (fun _ _ => id) (fun _ _ => id) : Keeps NoB w w'') (fun _ _ => id) _ _ ha) (TermIn.keep (hk.trans' hk2 (fun _ _ => id) (fun _ _ => id) : Keeps NoB w w'') (fun _ _ => id) _ _ hb) (hia.keep (hk.trans' hk2 (fun _ _ => id) (fun _ _ => id))) (hib.keep (hk.trans' hk2 (fun _ _ => id) (fun _ _ => id)))).mono fun _ _ h => h.more))
theorem call_div (a b : Tm) (hga : goodT a) (hgb : goodT b) (hka : a.kind = 1) (hkb : b.kind = 1) (hy : intV b ≠ 0) (w : World) (hL : LaidK w) (ga c : Nat) (kd : Int) (ng : Bool) (la : Option Addr) (ln lc : Nat) (tx : ByteArray) (nm : Int) (ia : Option Addr) (im ic : Nat) (ta : Option Addr) (tn tc : Nat) (kd' : Int) (ng' : Bool) (la' : Option Addr) (ln' lc' : Nat) (tx' : ByteArray) (nm' : Int) (ia' : Option Addr) (im' ic' : Nat) (ta' : Option Addr) (tn' tc' : Nat)
    (hA : Blk w ga 26 #[.int .u8 kd, .bool ng, .slice la ln lc, .string tx, .int .i64 nm, .slice ia im ic, .slice ta tn tc, .int .u8 kd', .bool ng', .slice la' ln' lc', .string tx', .int .i64 nm', .slice ia' im' ic', .slice ta' tn' tc']) (ha : TermIn w (fun _ => True) false [.int .u8 kd, .bool ng, .slice la ln lc, .string tx, .int .i64 nm, .slice ia im ic, .slice ta tn tc] a) (hb : TermIn w (fun _ => True) false [.int .u8 kd', .bool ng', .slice la' ln' lc', .string tx', .int .i64 nm', .slice ia' im' ic', .slice ta' tn' tc'] b) :
    Calls Tryz.prog 12 #[.string ⟨#[100, 105, 118]⟩, .slice (some ⟨ga, 0, none⟩) 2 c] w (CallR w (intTm ((intV a).tdiv (intV b))) zeroT) := by
  obtain rfl : kd = 1 := (kind_cells ha).trans hka
  obtain rfl : kd' = 1 := (kind_cells hb).trans hkb
  obtain ⟨rfl, rfl, rfl, rfl, hia⟩ := int_IA _ _ _ _ _ _ _ _ _ _ _ _ _ ha hga rfl
  obtain ⟨rfl, rfl, rfl, rfl, hib⟩ := int_IA _ _ _ _ _ _ _ _ _ _ _ _ _ hb hgb rfl
  have hzq : ((intV a).tdiv (intV b)).natAbs < Big := Nat.lt_of_le_of_lt (quo_abs _ _) hia.room
  exact call_two_value ⟨#[100, 105, 118]⟩ (by decide) 2 (Or.inr rfl) (by kernel_rfl) a b _ _ hga.1 hgb.1 (by rfl) (intTm_right (by first | exact hz | exact hzq)) w hL ga c _ _ _ _ _ _ _ _ _ _ _ _ _ _ _ _ _ _ _ _ _ _ _ _ _ _ hA ha hb
    (fun w' hk => two_div w.heap.size _ _ a b hga.2 hgb.2 w' hk.size _ _ false false _ _ _ _ _ _ _ _ _ _ _ _ _ _ _ _ _ _ _ _ _ _ _ _ _ _ (TermIn.keep hk (fun _ _ => id) _ _ ha) (TermIn.keep hk (fun _ _ => id) _ _ hb)
      (fun w'' hk2 => (number_div (intV a) (intV b) hy a b hka hkb ng ng' la la' ia ta ia' ta' ln lc ln' lc' ic tc ic' tc' w'' (fun _ => True) (fun _ => True) (TermIn.keep (hk.trans' hk2 (fun _ _ => id) (fun _ _ => id) : Keeps NoB w w'') (fun _ _ => id) _ _ ha) (TermIn.keep (hk.trans' hk2 (fun _ _ => id) (fun _ _ => id) : Keeps NoB w w'') (fun _ _ => id) _ _ hb) (hia.keep (hk.trans' hk2 (fun _ _ => id) (fun _ _ => id))) (hib.keep (hk.trans' hk2 (fun _ _ => id) (fun _ _ => id)))).mono fun _ _ h => h.more))
theorem call_rem (a b : Tm) (hga : goodT a) (hgb : goodT b) (hka : a.kind = 1) (hkb : b.kind = 1) (hy : intV b ≠ 0) (w : World) (hL : LaidK w) (ga c : Nat) (kd : Int) (ng : Bool) (la : Option Addr) (ln lc : Nat) (tx : ByteArray) (nm : Int) (ia : Option Addr) (im ic : Nat) (ta : Option Addr) (tn tc : Nat) (kd' : Int) (ng' : Bool) (la' : Option Addr) (ln' lc' : Nat) (tx' : ByteArray) (nm' : Int) (ia' : Option Addr) (im' ic' : Nat) (ta' : Option Addr) (tn' tc' : Nat)
    (hA : Blk w ga 26 #[.int .u8 kd, .bool ng, .slice la ln lc, .string tx, .int .i64 nm, .slice ia im ic, .slice ta tn tc, .int .u8 kd', .bool ng', .slice la' ln' lc', .string tx', .int .i64 nm', .slice ia' im' ic', .slice ta' tn' tc']) (ha : TermIn w (fun _ => True) false [.int .u8 kd, .bool ng, .slice la ln lc, .string tx, .int .i64 nm, .slice ia im ic, .slice ta tn tc] a) (hb : TermIn w (fun _ => True) false [.int .u8 kd', .bool ng', .slice la' ln' lc', .string tx', .int .i64 nm', .slice ia' im' ic', .slice ta' tn' tc'] b) :
    Calls Tryz.prog 12 #[.string ⟨#[114, 101, 109]⟩, .slice (some ⟨ga, 0, none⟩) 2 c] w (CallR w (intTm ((intV a).tmod (intV b))) zeroT) := by
  obtain rfl : kd = 1 := (kind_cells ha).trans hka
  obtain rfl : kd' = 1 := (kind_cells hb).trans hkb
  obtain ⟨rfl, rfl, rfl, rfl, hia⟩ := int_IA _ _ _ _ _ _ _ _ _ _ _ _ _ ha hga rfl
  obtain ⟨rfl, rfl, rfl, rfl, hib⟩ := int_IA _ _ _ _ _ _ _ _ _ _ _ _ _ hb hgb rfl
  have hzq : ((intV a).tmod (intV b)).natAbs < Big := Nat.lt_of_le_of_lt (rem_abs _ _) hia.room
  exact call_two_value ⟨#[114, 101, 109]⟩ (by decide) 2 (Or.inr rfl) (by kernel_rfl) a b _ _ hga.1 hgb.1 (by rfl) (intTm_right (by first | exact hz | exact hzq)) w hL ga c _ _ _ _ _ _ _ _ _ _ _ _ _ _ _ _ _ _ _ _ _ _ _ _ _ _ hA ha hb
    (fun w' hk => two_rem w.heap.size _ _ a b hga.2 hgb.2 w' hk.size _ _ false false _ _ _ _ _ _ _ _ _ _ _ _ _ _ _ _ _ _ _ _ _ _ _ _ _ _ (TermIn.keep hk (fun _ _ => id) _ _ ha) (TermIn.keep hk (fun _ _ => id) _ _ hb)
      (fun w'' hk2 => (number_rem (intV a) (intV b) hy a b hka hkb ng ng' la la' ia ta ia' ta' ln lc ln' lc' ic tc ic' tc' w'' (fun _ => True) (fun _ => True) (TermIn.keep (hk.trans' hk2 (fun _ _ => id) (fun _ _ => id) : Keeps NoB w w'') (fun _ _ => id) _ _ ha) (TermIn.keep (hk.trans' hk2 (fun _ _ => id) (fun _ _ => id) : Keeps NoB w w'') (fun _ _ => id) _ _ hb) (hia.keep (hk.trans' hk2 (fun _ _ => id) (fun _ _ => id))) (hib.keep (hk.trans' hk2 (fun _ _ => id) (fun _ _ => id)))).mono fun _ _ h => h.more))
theorem call_div_zero (a b : Tm) (hga : goodT a) (hgb : goodT b) (hka : a.kind = 1) (hkb : b.kind = 1) (hy : intV b = 0) (w : World) (hL : LaidK w) (ga c : Nat) (kd : Int) (ng : Bool) (la : Option Addr) (ln lc : Nat) (tx : ByteArray) (nm : Int) (ia : Option Addr) (im ic : Nat) (ta : Option Addr) (tn tc : Nat) (kd' : Int) (ng' : Bool) (la' : Option Addr) (ln' lc' : Nat) (tx' : ByteArray) (nm' : Int) (ia' : Option Addr) (im' ic' : Nat) (ta' : Option Addr) (tn' tc' : Nat)
    (hA : Blk w ga 26 #[.int .u8 kd, .bool ng, .slice la ln lc, .string tx, .int .i64 nm, .slice ia im ic, .slice ta tn tc, .int .u8 kd', .bool ng', .slice la' ln' lc', .string tx', .int .i64 nm', .slice ia' im' ic', .slice ta' tn' tc']) (ha : TermIn w (fun _ => True) false [.int .u8 kd, .bool ng, .slice la ln lc, .string tx, .int .i64 nm, .slice ia im ic, .slice ta tn tc] a) (hb : TermIn w (fun _ => True) false [.int .u8 kd', .bool ng', .slice la' ln' lc', .string tx', .int .i64 nm', .slice ia' im' ic', .slice ta' tn' tc'] b) :
    Calls Tryz.prog 12 #[.string ⟨#[100, 105, 118]⟩, .slice (some ⟨ga, 0, none⟩) 2 c] w (CallR w zeroT (errT ⟨#[98, 97, 100, 97, 114, 105, 116, 104]⟩)) := by
  obtain rfl : kd = 1 := (kind_cells ha).trans hka
  obtain rfl : kd' = 1 := (kind_cells hb).trans hkb
  obtain ⟨rfl, rfl, rfl, rfl, hia⟩ := int_IA _ _ _ _ _ _ _ _ _ _ _ _ _ ha hga rfl
  obtain ⟨rfl, rfl, rfl, rfl, hib⟩ := int_IA _ _ _ _ _ _ _ _ _ _ _ _ _ hb hgb rfl
  obtain rfl : ln' = 0 := by
    have h1 := hib.limbs.len
    rw [hy] at h1
    simpa [dig_zero] using h1.symm
  exact call_two_raised ⟨#[100, 105, 118]⟩ (by decide) 2 (Or.inr rfl) (by kernel_rfl) a b _ _ hga.1 hgb.1 (by show ¬ (6 : Int) = 0; omega) (by kernel_rfl) w hL ga c _ _ _ _ _ _ _ _ _ _ _ _ _ _ _ _ _ _ _ _ _ _ _ _ _ _ hA ha hb
    (fun w' hk => two_div w.heap.size _ _ a b hga.2 hgb.2 w' hk.size _ _ false false _ _ _ _ _ _ _ _ _ _ _ _ _ _ _ _ _ _ _ _ _ _ _ _ _ _ (TermIn.keep hk (fun _ _ => id) _ _ ha) (TermIn.keep hk (fun _ _ => id) _ _ hb)
      (fun w'' hk2 => (number_div_zero (intV a) (intV b) a b hka hkb ng ng' la la' ia ta ia' ta' ln lc 0 lc' ic tc ic' tc' w'' (fun _ => True) (fun _ => True) (TermIn.keep (hk.trans' hk2 (fun _ _ => id) (fun _ _ => id) : Keeps NoB w w'') (fun _ _ => id) _ _ ha) (TermIn.keep (hk.trans' hk2 (fun _ _ => id) (fun _ _ => id) : Keeps NoB w w'') (fun _ _ => id) _ _ hb) (hia.keep (hk.trans' hk2 (fun _ _ => id) (fun _ _ => id))) (hib.keep (hk.trans' hk2 (fun _ _ => id) (fun _ _ => id))) rfl).mono fun _ _ h => h.more))
theorem call_rem_zero (a b : Tm) (hga : goodT a) (hgb : goodT b) (hka : a.kind = 1) (hkb : b.kind = 1) (hy : intV b = 0) (w : World) (hL : LaidK w) (ga c : Nat) (kd : Int) (ng : Bool) (la : Option Addr) (ln lc : Nat) (tx : ByteArray) (nm : Int) (ia : Option Addr) (im ic : Nat) (ta : Option Addr) (tn tc : Nat) (kd' : Int) (ng' : Bool) (la' : Option Addr) (ln' lc' : Nat) (tx' : ByteArray) (nm' : Int) (ia' : Option Addr) (im' ic' : Nat) (ta' : Option Addr) (tn' tc' : Nat)
    (hA : Blk w ga 26 #[.int .u8 kd, .bool ng, .slice la ln lc, .string tx, .int .i64 nm, .slice ia im ic, .slice ta tn tc, .int .u8 kd', .bool ng', .slice la' ln' lc', .string tx', .int .i64 nm', .slice ia' im' ic', .slice ta' tn' tc']) (ha : TermIn w (fun _ => True) false [.int .u8 kd, .bool ng, .slice la ln lc, .string tx, .int .i64 nm, .slice ia im ic, .slice ta tn tc] a) (hb : TermIn w (fun _ => True) false [.int .u8 kd', .bool ng', .slice la' ln' lc', .string tx', .int .i64 nm', .slice ia' im' ic', .slice ta' tn' tc'] b) :
    Calls Tryz.prog 12 #[.string ⟨#[114, 101, 109]⟩, .slice (some ⟨ga, 0, none⟩) 2 c] w (CallR w zeroT (errT ⟨#[98, 97, 100, 97, 114, 105, 116, 104]⟩)) := by
  obtain rfl : kd = 1 := (kind_cells ha).trans hka
  obtain rfl : kd' = 1 := (kind_cells hb).trans hkb
  obtain ⟨rfl, rfl, rfl, rfl, hia⟩ := int_IA _ _ _ _ _ _ _ _ _ _ _ _ _ ha hga rfl
  obtain ⟨rfl, rfl, rfl, rfl, hib⟩ := int_IA _ _ _ _ _ _ _ _ _ _ _ _ _ hb hgb rfl
  obtain rfl : ln' = 0 := by
    have h1 := hib.limbs.len
    rw [hy] at h1
    simpa [dig_zero] using h1.symm
  exact call_two_raised ⟨#[114, 101, 109]⟩ (by decide) 2 (Or.inr rfl) (by kernel_rfl) a b _ _ hga.1 hgb.1 (by show ¬ (6 : Int) = 0; omega) (by kernel_rfl) w hL ga c _ _ _ _ _ _ _ _ _ _ _ _ _ _ _ _ _ _ _ _ _ _ _ _ _ _ hA ha hb
    (fun w' hk => two_rem w.heap.size _ _ a b hga.2 hgb.2 w' hk.size _ _ false false _ _ _ _ _ _ _ _ _ _ _ _ _ _ _ _ _ _ _ _ _ _ _ _ _ _ (TermIn.keep hk (fun _ _ => id) _ _ ha) (TermIn.keep hk (fun _ _ => id) _ _ hb)
      (fun w'' hk2 => (number_rem_zero (intV a) (intV b) a b hka hkb ng ng' la la' ia ta ia' ta' ln lc 0 lc' ic tc ic' tc' w'' (fun _ => True) (fun _ => True) (TermIn.keep (hk.trans' hk2 (fun _ _ => id) (fun _ _ => id) : Keeps NoB w w'') (fun _ _ => id) _ _ ha) (TermIn.keep (hk.trans' hk2 (fun _ _ => id) (fun _ _ => id) : Keeps NoB w w'') (fun _ _ => id) _ _ hb) (hia.keep (hk.trans' hk2 (fun _ _ => id) (fun _ _ => id))) (hib.keep (hk.trans' hk2 (fun _ _ => id) (fun _ _ => id))) rfl).mono fun _ _ h => h.more))
end Go.Proofs.YthbbalkhmofndaaGreatDoor
