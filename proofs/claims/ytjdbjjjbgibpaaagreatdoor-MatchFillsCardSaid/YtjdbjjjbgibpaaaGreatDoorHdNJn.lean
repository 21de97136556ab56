/- bif.one at hd of what Split does not part; bif.Call of an argument that lies anywhere. Printed by mkhd2.py. -/
import Derived.Test.YtjdbjjjbgibpaaaGreatDoorOneHJn
import Derived.Test.YtjdbjjjbgibpaaaGreatDoorMatLawJn
import Derived.Test.YtjdbjjjbgibpaaaGreatDoorMatVJn
import Derived.Test.YtjdbjjjbgibpaaaGreatDoorMatSplNJn
namespace Go.Proofs.YtjdbjjjbgibpaaaGreatDoor
open Go.RowKit

/-- Seven cells, wherever they lie. -/
structure One7 (w : World) (g o : Nat) (cs : List Value) : Prop where
  lt : g < w.heap.size
  cell : ∀ j u, cs[j]? = some u → w.cell? ⟨g, o + j, none⟩ = some u
theorem One7.keep {w w' : World} {g o : Nat} {cs : List Value} {fp : Nat → Prop} (h : One7 w g o cs) (hk : Keeps fp w w') (hf : ¬ fp g) : One7 w' g o cs :=
  ⟨Nat.lt_of_lt_of_le h.lt hk.size, fun j u hu => hk.cell hf (h.cell j u hu)⟩
theorem One7.alloc {w : World} {g o : Nat} {cs : List Value} (h : One7 w g o cs) (x : Obj) : One7 (w.alloc x) g o cs := h.keep ((Keeps.refl NoB w).alloc x) id
theorem One7.c7 {w : World} {g o : Nat} {v0 v1 v2 v3 v4 v5 v6 : Value} (h : One7 w g o [v0, v1, v2, v3, v4, v5, v6]) : w.cell? ⟨g, o, none⟩ = some v0 ∧ w.cell? ⟨g, o + 1, none⟩ = some v1 ∧ w.cell? ⟨g, o + 2, none⟩ = some v2 ∧ w.cell? ⟨g, o + 3, none⟩ = some v3 ∧ w.cell? ⟨g, o + 4, none⟩ = some v4 ∧ w.cell? ⟨g, o + 5, none⟩ = some v5 ∧ w.cell? ⟨g, o + 6, none⟩ = some v6 :=
  ⟨h.cell 0 _ rfl, h.cell 1 _ rfl, h.cell 2 _ rfl, h.cell 3 _ rfl, h.cell 4 _ rfl, h.cell 5 _ rfl, h.cell 6 _ rfl⟩
theorem one_readsO {w : World} {g o : Nat} {kd : Int} {ng : Bool} {la : Option Addr} {ln lc : Nat} {tx : ByteArray} {nm : Int} {ia : Option Addr} {im ic : Nat} {ta : Option Addr} {tn tc : Nat} (h : One7 w g o [.int .u8 kd, .bool ng, .slice la ln lc, .string tx, .int .i64 nm, .slice ia im ic, .slice ta tn tc]) : Reads w (fun _ => True) false 7 (some ⟨g, o, none⟩) 1 [[.int .u8 kd, .bool ng, .slice la ln lc, .string tx, .int .i64 nm, .slice ia im ic, .slice ta tn tc]].flatten :=
  ⟨rfl, fun _ => ⟨_, rfl, rfl, trivial, h.lt, fun j u hu => ⟨h.cell j u (by simpa using hu), fun h => by cases h⟩⟩⟩
set_option maxRecDepth 100000 in
set_option maxHeartbeats 2000000 in
theorem one_hd_none (a : Tm) (w : World) (B : Nat → Prop) (F : Bool) (kd : Int) (ng : Bool) (la : Option Addr) (ln lc : Nat) (tx : ByteArray) (nm : Int) (ia : Option Addr) (im ic : Nat) (ta : Option Addr) (tn tc : Nat) (ht : TermIn w B F [.int .u8 kd, .bool ng, .slice la ln lc, .string tx, .int .i64 nm, .slice ia im ic, .slice ta tn tc] a) (hr : rightT a = true) (hs : splitT a = none) (hL : KindsAt w) :
    Calls Tryz.prog 68 #[.string ⟨#[104, 100]⟩, .agg #[.int .u8 kd, .bool ng, .slice la ln lc, .string tx, .int .i64 nm, .slice ia im ic, .slice ta tn tc]] w (ResP 0 w zeroT (errT ⟨#[98, 97, 100, 97, 114, 103]⟩)) := by
  have HK0 := hide (((Keeps.refl NoB w).alloc (.cells #[.int .u8 kd, .bool ng, .slice la ln lc, .string tx, .int .i64 nm, .slice ia im ic, .slice ta tn tc] 26)).alloc (.cells #[.int .u8 0, .bool false, .slice none 0 0, .string ⟨#[]⟩, .int .i64 0, .slice none 0 0, .slice none 0 0, .int .u8 0, .bool false, .slice none 0 0, .string ⟨#[]⟩, .int .i64 0, .slice none 0 0, .slice none 0 0] 99))
  have HX0 := hide (two_tblks w 26 99 #[.int .u8 kd, .bool ng, .slice la ln lc, .string tx, .int .i64 nm, .slice ia im ic, .slice ta tn tc] #[.int .u8 0, .bool false, .slice none 0 0, .string ⟨#[]⟩, .int .i64 0, .slice none 0 0, .slice none 0 0, .int .u8 0, .bool false, .slice none 0 0, .string ⟨#[]⟩, .int .i64 0, .slice none 0 0, .slice none 0 0]).1; have HR0 := hide (two_tblks w 26 99 #[.int .u8 kd, .bool ng, .slice la ln lc, .string tx, .int .i64 nm, .slice ia im ic, .slice ta tn tc] #[.int .u8 0, .bool false, .slice none 0 0, .string ⟨#[]⟩, .int .i64 0, .slice none 0 0, .slice none 0 0, .int .u8 0, .bool false, .slice none 0 0, .string ⟨#[]⟩, .int .i64 0, .slice none 0 0, .slice none 0 0]).2
  have HT := hide ht; have HR := hide hr
  have hL0 := hL.keep HK0.out
  clear ht hr hL
  go_enter Tryz.func68, Tryz.ntmps68
  go_upto_region 1 with fail
  generalize (w.alloc (.cells #[.int .u8 kd, .bool ng, .slice la ln lc, .string tx, .int .i64 nm, .slice ia im ic, .slice ta tn tc] 26)).alloc (.cells #[.int .u8 0, .bool false, .slice none 0 0, .string ⟨#[]⟩, .int .i64 0, .slice none 0 0, .slice none 0 0, .int .u8 0, .bool false, .slice none 0 0, .string ⟨#[]⟩, .int .i64 0, .slice none 0 0, .slice none 0 0] 99) = w0 at *
  obtain ⟨k0, k1, k2, k3, k4, k5, k6, k7, k8, k9, k10, k11, k12, k13⟩ := hL0
  go_wp2
  have HS0 := hide HR0.out.lt
  go_loopg [13] 7 (fun g s13 wx => ∃ k : Int, 0 ≤ k ∧ k ≤ 7 ∧ g = (7 - k).toNat ∧ s13 = .int .i64 k ∧ Keeps NoB w0 wx)
  case atStart => exact ⟨0, by omega, by omega, rfl, rfl, Keeps.refl _ _⟩
  case round =>
    obtain ⟨k, hk0, hk7, rfl, rfl, hkw⟩ := hrel
    have HKW := hide hkw
    clear hkw
    rcases (by omega : k = 0 ∨ k = 1 ∨ k = 2 ∨ k = 3 ∨ k = 4 ∨ k = 5 ∨ k = 6 ∨ k = 7) with rfl | rfl | rfl | rfl | rfl | rfl | rfl | rfl
    · clear hk0 hk7
      have hidx := idx_kinds_0
      go_wp2
      go_roundg 6
      case measure => decide
      case rel => exact ⟨1, by omega, by omega, rfl, rfl, HKW.out.alloc _⟩
    · clear hk0 hk7
      have hidx := idx_kinds_1
      go_wp2
      go_roundg 5
      case measure => decide
      case rel => exact ⟨2, by omega, by omega, rfl, rfl, HKW.out.alloc _⟩
    · clear hk0 hk7
      have hidx := idx_kinds_2
      go_wp2
      go_roundg 4
      case measure => decide
      case rel => exact ⟨3, by omega, by omega, rfl, rfl, HKW.out.alloc _⟩
    · clear hk0 hk7
      have hidx := idx_kinds_3
      go_wp2
      go_roundg 3
      case measure => decide
      case rel => exact ⟨4, by omega, by omega, rfl, rfl, HKW.out.alloc _⟩
    · clear hk0 hk7
      have hidx := idx_kinds_4
      go_wp2
      go_roundg 2
      case measure => decide
      case rel => exact ⟨5, by omega, by omega, rfl, rfl, HKW.out.alloc _⟩
    · clear hk0 hk7
      have hidx := idx_kinds_5
      go_wp2
      go_roundg 1
      case measure => decide
      case rel => exact ⟨6, by omega, by omega, rfl, rfl, HKW.out.alloc _⟩
    · clear hk0 hk7
      have hidx := idx_kinds_6
      go_wp2
      go_roundg 0
      case measure => decide
      case rel => exact ⟨7, by omega, by omega, rfl, rfl, HKW.out.alloc _⟩
    · clear hk0 hk7
      clear k0 k1 k2 k3 k4 k5 k6 k7 k8 k9 k10 k11 k12 k13
      have HX1 := hide (HX0.out.keep HKW.out id); have HR1 := hide (HR0.out.keep HKW.out id)
      have HK1 := hide (HK0.out.trans' HKW.out (fun _ _ => id) (fun _ _ => id) : Keeps NoB w wr)
      obtain ⟨x0, x1, x2, x3, x4, x5, x6⟩ := Blk.c7 (show Blk wr (w.heap.size) _ #[.int .u8 kd, .bool ng, .slice la ln lc, .string tx, .int .i64 nm, .slice ia im ic, .slice ta tn tc] from HX1.out)
      go_wp2_with
        first
        | (go_at_call 25
           refine (split_none a hs wr B F _ _ _ _ _ _ _ _ _ _ _ _ _ (TermIn.keep HK1.out (fun _ _ => id) _ _ HT.out)).mono ?_
           rintro e w3 ⟨rfl, hk3⟩
           have hkn : Keeps NoB w3 ((w3.alloc (.cells #[.int .u8 0, .bool false, .slice none 0 0, .string ⟨#[]⟩, .int .i64 0, .slice none 0 0, .slice none 0 0] 26)).alloc (.cells #[.int .u8 0, .bool false, .slice none 0 0, .string ⟨#[]⟩, .int .i64 0, .slice none 0 0, .slice none 0 0] 26)) := ((Keeps.refl NoB w3).alloc _).alloc _
           have HK3 := hide ((HK1.out.trans' hk3 (fun _ _ => id) (fun _ _ => id) : Keeps NoB w w3).trans' hkn (fun _ _ => id) (fun _ _ => id) : Keeps NoB w _)
           have HR3 := hide ((HR1.out.keep hk3 id).keep hkn id)
           clear hk3 hkn)
        | (go_at_call 71
           refine (bad_any ⟨#[98, 97, 100, 97, 114, 103]⟩ _).mono ?_
           rintro e w6 ⟨g, rfl, hg6, hb6, hk6⟩
           have HK6 := hide (HK3.out.trans' hk6 (fun _ _ => id) (fun _ _ => id) : Keeps NoB w w6)
           have HR6 := hide (HR3.out.keep hk6 id)
           have HN6 := hide hb6
           have HG6 := hide (show w.heap.size + 1 < g from Nat.lt_of_lt_of_le HR3.out.lt hg6)
           obtain ⟨z0, z1, z2, z3, z4, z5, z6, z7, z8, z9, z10, z11, z12, z13⟩ := Blk.f14 (w := w6) (g := w.heap.size + 1) HR6.out
           obtain ⟨v0, v1, v2, v3, v4, v5, v6, v7, v8, v9, v10, v11, v12, v13⟩ := Blk.c14 (show Blk w6 (w.heap.size + 1) _ #[.int .u8 0, .bool false, .slice none 0 0, .string ⟨#[]⟩, .int .i64 0, .slice none 0 0, .slice none 0 0, .int .u8 0, .bool false, .slice none 0 0, .string ⟨#[]⟩, .int .i64 0, .slice none 0 0, .slice none 0 0] from HR6.out)
           clear hk6 hb6 hg6)
        | fail
      refine bodyPost_ret (results14 Tryz.f68 4 (by kernel_rfl) _ _ _ _ _ _ _ _ _ _ _ _ _ _ _ _ _ rfl (HR6.out.tput14 _ _ _ _ _ _ _ _ _ _ _ _ _ _)) rfl ?_
      have hkt := keeps_tput14 w6 (w.heap.size + 1) (.int .u8 0) (.bool false) (.slice none 0 0) (.string ⟨#[]⟩) (.int .i64 0) (.slice none 0 0) (.slice none 0 0) (.int .u8 6) (.bool false) (.slice none 0 0) (.string ⟨#[]⟩) (.int .i64 0) (.slice (some ⟨g, 0, none⟩) 2 2) (.slice none 0 0)
      exact ⟨0, false, none, 0, 0, ⟨#[]⟩, 0, none, 0, 0, none, 0, 0, 6, false, none, 0, 0, ⟨#[]⟩, 0, some ⟨g, 0, none⟩, 2, 2, none, 0, 0, rfl, flat_in _ _ _ 0 ByteArray.empty 0, TermIn.more (fun k _ (hk : k = g) => Or.inr (by have := HG6.out; omega)) _ _ (err_in (HN6.out.keep hkt (fun e => by have := HG6.out; omega))), HK6.out.trans' hkt (fun _ _ => id) (fun i hi e => by omega)⟩
set_option maxRecDepth 100000 in
set_option maxHeartbeats 4000000 in
theorem call_one_raisedO (s : ByteArray) (hs : s.size ≤ 140737488355328) (kq : Int) (hkq : kq = 1 ∨ kq = 2) (hkn : kindN s.data.toList 1 = kq) (a v r : Tm) (hra : rightT a = true) (hkr : r.kind ≠ 0) (hrv : rightT r = true) (w : World) (hL : LaidK w) (ga go c : Nat) (kd : Int) (ng : Bool) (la : Option Addr) (ln lc : Nat) (tx : ByteArray) (nm : Int) (ia : Option Addr) (im ic : Nat) (ta : Option Addr) (tn tc : Nat)
    (hA : One7 w ga go [.int .u8 kd, .bool ng, .slice la ln lc, .string tx, .int .i64 nm, .slice ia im ic, .slice ta tn tc]) (ha : TermIn w (fun _ => True) false [.int .u8 kd, .bool ng, .slice la ln lc, .string tx, .int .i64 nm, .slice ia im ic, .slice ta tn tc] a)
    (hv : ∀ w', Keeps NoB w w' → Calls Tryz.prog 68 #[.string s, .agg #[.int .u8 kd, .bool ng, .slice la ln lc, .string tx, .int .i64 nm, .slice ia im ic, .slice ta tn tc]] w' (ResP w.heap.size w' v r)) :
    Calls Tryz.prog 56 #[.string s, .slice (some ⟨ga, go, none⟩) 1 c] w (CallR w v r) := by
  have HK0 := hide (((Keeps.refl NoB w).alloc (.cells #[.int .u8 0, .bool false, .slice none 0 0, .string ⟨#[]⟩, .int .i64 0, .slice none 0 0, .slice none 0 0] 26)).alloc (.cells #[.int .u8 0, .bool false, .slice none 0 0, .string ⟨#[]⟩, .int .i64 0, .slice none 0 0, .slice none 0 0] 26))
  have H40 := hide (two_tblks w 26 26 #[.int .u8 0, .bool false, .slice none 0 0, .string ⟨#[]⟩, .int .i64 0, .slice none 0 0, .slice none 0 0] #[.int .u8 0, .bool false, .slice none 0 0, .string ⟨#[]⟩, .int .i64 0, .slice none 0 0, .slice none 0 0]).1; have H50 := hide (two_tblks w 26 26 #[.int .u8 0, .bool false, .slice none 0 0, .string ⟨#[]⟩, .int .i64 0, .slice none 0 0, .slice none 0 0] #[.int .u8 0, .bool false, .slice none 0 0, .string ⟨#[]⟩, .int .i64 0, .slice none 0 0, .slice none 0 0]).2
  have HA0 := hide (((hA.alloc (.cells #[.int .u8 0, .bool false, .slice none 0 0, .string ⟨#[]⟩, .int .i64 0, .slice none 0 0, .slice none 0 0] 26)).alloc (.cells #[.int .u8 0, .bool false, .slice none 0 0, .string ⟨#[]⟩, .int .i64 0, .slice none 0 0, .slice none 0 0] 26)))
  have HGA := hide hA.lt
  have HHA := hide ha; have HV := hide hv; have HKN := hide hkn; have HL := hide hL; have HKR := hide hkr
  have HRA := hide hra; have HRV := hide hrv; have HSS := hide hs
  clear hA ha hv hkn hL hra hrv hs hkr
  go_enter Tryz.func56, Tryz.ntmps56
  go_upto_region 1 with fail
  generalize (w.alloc (.cells #[.int .u8 0, .bool false, .slice none 0 0, .string ⟨#[]⟩, .int .i64 0, .slice none 0 0, .slice none 0 0] 26)).alloc (.cells #[.int .u8 0, .bool false, .slice none 0 0, .string ⟨#[]⟩, .int .i64 0, .slice none 0 0, .slice none 0 0] 26) = w0 at *
  go_upto_region 2 with
    first
    | (go_at_call 55
       refine (kind_any s 1 w0 (HL.out.keep HK0.out) HSS.out).mono ?_
       rintro e w1 ⟨rfl, rfl⟩
       rw [HKN.out])
    | fail
  go_cut [22] (fun s22 wx => s22 = .bool false ∧ Keeps NoB w0 wx)
  case first =>
    rcases hkq with rfl | rfl
    · skip
      go_wp2_with
        first
        | (go_at_call 66
           refine (contains_right [a] [[.int .u8 kd, .bool ng, .slice la ln lc, .string tx, .int .i64 nm, .slice ia im ic, .slice ta tn tc]] (some ⟨ga, go, none⟩) 1 c w0 (fun _ => True) false (one_readsO HA0.out) (TermsIn.one (TermIn.keep HK0.out (fun _ _ => id) _ _ HHA.out)) (by omega)).mono ?_
           rintro e w2 ⟨rfl, hk2⟩
           rw [show (![a].all rightT) = false from by simp [HRA.out]]
           have HK2 := hide hk2
           clear hk2)
        | fail
      go_meet
      exact ⟨rfl, HK2.out⟩
    · skip
      go_wp2_with
        first
        | (go_at_call 66
           refine (contains_right [a] [[.int .u8 kd, .bool ng, .slice la ln lc, .string tx, .int .i64 nm, .slice ia im ic, .slice ta tn tc]] (some ⟨ga, go, none⟩) 1 c w0 (fun _ => True) false (one_readsO HA0.out) (TermsIn.one (TermIn.keep HK0.out (fun _ _ => id) _ _ HHA.out)) (by omega)).mono ?_
           rintro e w2 ⟨rfl, hk2⟩
           rw [show (![a].all rightT) = false from by simp [HRA.out]]
           have HK2 := hide hk2
           clear hk2)
        | fail
      go_meet
      exact ⟨rfl, HK2.out⟩
  case rest =>
    obtain ⟨rfl, hkc⟩ := hcut
    obtain ⟨w2, rfl⟩ : ∃ w2, w2 = wc := ⟨_, rfl⟩
    have HK2 := hide (HK0.out.trans' hkc (fun _ _ => id) (fun _ _ => id) : Keeps NoB w w2)
    have H42 := hide (H40.out.keep hkc id); have H52 := hide (H50.out.keep hkc id); have HA2 := hide (HA0.out.keep hkc id)
    have HS0 := hide (show w.heap.size + 1 < w2.heap.size from H52.out.lt)
    clear hkc H40 H50 HA0 HK0
    go_upto_block 0 with fail
    have HR3 := hide (Blk.new w2 99 #[.int .u8 0, .bool false, .slice none 0 0, .string ⟨#[]⟩, .int .i64 0, .slice none 0 0, .slice none 0 0, .int .u8 0, .bool false, .slice none 0 0, .string ⟨#[]⟩, .int .i64 0, .slice none 0 0, .slice none 0 0]); have H43 := hide (H42.out.alloc (.cells #[.int .u8 0, .bool false, .slice none 0 0, .string ⟨#[]⟩, .int .i64 0, .slice none 0 0, .slice none 0 0, .int .u8 0, .bool false, .slice none 0 0, .string ⟨#[]⟩, .int .i64 0, .slice none 0 0, .slice none 0 0] 99)); have H53 := hide (H52.out.alloc (.cells #[.int .u8 0, .bool false, .slice none 0 0, .string ⟨#[]⟩, .int .i64 0, .slice none 0 0, .slice none 0 0, .int .u8 0, .bool false, .slice none 0 0, .string ⟨#[]⟩, .int .i64 0, .slice none 0 0, .slice none 0 0] 99)); have HA3 := hide (HA2.out.alloc (.cells #[.int .u8 0, .bool false, .slice none 0 0, .string ⟨#[]⟩, .int .i64 0, .slice none 0 0, .slice none 0 0, .int .u8 0, .bool false, .slice none 0 0, .string ⟨#[]⟩, .int .i64 0, .slice none 0 0, .slice none 0 0] 99))
    have HK3 := hide (HK2.out.alloc (.cells #[.int .u8 0, .bool false, .slice none 0 0, .string ⟨#[]⟩, .int .i64 0, .slice none 0 0, .slice none 0 0, .int .u8 0, .bool false, .slice none 0 0, .string ⟨#[]⟩, .int .i64 0, .slice none 0 0, .slice none 0 0] 99))
    clear H42 H52 HA2 HK2
    generalize w2.alloc (.cells #[.int .u8 0, .bool false, .slice none 0 0, .string ⟨#[]⟩, .int .i64 0, .slice none 0 0, .slice none 0 0, .int .u8 0, .bool false, .slice none 0 0, .string ⟨#[]⟩, .int .i64 0, .slice none 0 0, .slice none 0 0] 99) = w3 at *
    generalize w2.heap.size = g8 at *
    go_cut [] (fun wx => ∃ (kv : Int) (gv : Bool) (lv : Option Addr) (lvn lvc : Nat) (sv : ByteArray) (mv : Int) (iv : Option Addr) (ivn ivc : Nat) (tv : Option Addr) (tvn tvc : Nat) (kr : Int) (gr : Bool) (lr : Option Addr) (lrn lrc : Nat) (sr : ByteArray) (mr : Int) (ir : Option Addr) (irn irc : Nat) (tr : Option Addr) (trn trc : Nat), Keeps (fun k => k = g8) w3 wx ∧ Blk wx g8 99 #[.int .u8 kv, .bool gv, .slice lv lvn lvc, .string sv, .int .i64 mv, .slice iv ivn ivc, .slice tv tvn tvc, .int .u8 kr, .bool gr, .slice lr lrn lrc, .string sr, .int .i64 mr, .slice ir irn irc, .slice tr trn trc] ∧ TermIn wx (fun k => k ≠ g8) false [.int .u8 kv, .bool gv, .slice lv lvn lvc, .string sv, .int .i64 mv, .slice iv ivn ivc, .slice tv tvn tvc] v ∧ TermIn wx (fun k => k ≠ g8) false [.int .u8 kr, .bool gr, .slice lr lrn lrc, .string sr, .int .i64 mr, .slice ir irn irc, .slice tr trn trc] r)
    case first =>
      obtain ⟨p0, p1, p2, p3, p4, p5, p6⟩ := One7.c7 HA3.out
      go_wp2_with
        first
        | (go_at_call 68
           refine (HV.out w3 HK3.out).mono ?_
           rintro e w4 ⟨kv, gv, lv, lvn, lvc, sv, mv, iv, ivn, ivc, tv, tvn, tvc, kr, gr, lr, lrn, lrc, sr, mr, ir, irn, irc, tr, trn, trc, rfl, htv4, htr4, hk4⟩
           have HBB := hide (show ∀ k, ResB w.heap.size w3 k → k ≠ g8 from fun k (hb : k < w.heap.size ∨ w3.heap.size ≤ k) e => by have := HS0.out; have := HR3.out.lt; have := (Keeps.refl NoB w3).size; rcases hb with hb | hb <;> omega)
           have HTV4 := hide (TermIn.more (fun k _ hb => HBB.out k hb) _ _ htv4); have HTR4 := hide (TermIn.more (fun k _ hb => HBB.out k hb) _ _ htr4)
           have HK4 := hide hk4
           have HR4 := hide (HR3.out.keep hk4 id)
           obtain ⟨z0, z1, z2, z3, z4, z5, z6, z7, z8, z9, z10, z11, z12, z13⟩ := Blk.f14 (w := w4) (g := g8) HR4.out
           obtain ⟨q0, q1, q2, q3, q4, q5, q6, q7, q8, q9, q10, q11, q12, q13⟩ := Blk.c14 (show Blk w4 (g8) _ #[.int .u8 0, .bool false, .slice none 0 0, .string ⟨#[]⟩, .int .i64 0, .slice none 0 0, .slice none 0 0, .int .u8 0, .bool false, .slice none 0 0, .string ⟨#[]⟩, .int .i64 0, .slice none 0 0, .slice none 0 0] from HR4.out)
           clear hk4 htv4 htr4)
        | fail
      go_meet
      exact ⟨kv, gv, lv, lvn, lvc, sv, mv, iv, ivn, ivc, tv, tvn, tvc, kr, gr, lr, lrn, lrc, sr, mr, ir, irn, irc, tr, trn, trc, (HK4.out.trans' (keeps_tput14 w4 g8 _ _ _ _ _ _ _ _ _ _ _ _ _ _) (fun _ _ h => h.elim) (fun _ _ => id) : Keeps (fun k => k = g8) w3 _), HR4.out.tput14 _ _ _ _ _ _ _ _ _ _ _ _ _ _, TermIn.keep (keeps_tput14 w4 g8 _ _ _ _ _ _ _ _ _ _ _ _ _ _) (fun _ h => h) _ _ HTV4.out, TermIn.keep (keeps_tput14 w4 g8 _ _ _ _ _ _ _ _ _ _ _ _ _ _) (fun _ h => h) _ _ HTR4.out⟩
    case rest =>
      obtain ⟨kv, gv, lv, lvn, lvc, sv, mv, iv, ivn, ivc, tv, tvn, tvc, kr, gr, lr, lrn, lrc, sr, mr, ir, irn, irc, tr, trn, trc, hk5, hr5, htv5, htr5⟩ := hcut
      obtain ⟨w5, rfl⟩ : ∃ w5, w5 = wc := ⟨_, rfl⟩
      have hkd : kr = r.kind := kind_cells htr5
      rw [← hkd] at HKR
      clear hkd
      have hn0 : ¬ kr = 0 := HKR.out
      have hb3 : decide (kr = 0) = false := decide_eq_false hn0
      have hb1 : (kr == 0) = false := by have := HKR.out; simpa using this
      have hb2 : (kr != 0) = true := by have := HKR.out; simpa using this
      have HKW5 := hide (HK3.out.trans' hk5 (fun _ _ => id) (fun i hi e => by have := HS0.out; omega) : Keeps NoB w w5)
      have HR5 := hide hr5
      have H45 := hide (H43.out.keep hk5 (fun e => by have := HS0.out; omega)); have H55 := hide (H53.out.keep hk5 (fun e => by have := HS0.out; omega))
      have HTV5 := hide (TermIn.more (B' := fun _ => True) (fun _ _ _ => trivial) _ _ htv5); have HTR5 := hide (TermIn.more (B' := fun _ => True) (fun _ _ _ => trivial) _ _ htr5)
      obtain ⟨r0, r1, r2, r3, r4, r5, r6, r7, r8, r9, r10, r11, r12, r13⟩ := Blk.c14 (show Blk w5 (g8) _ #[.int .u8 kv, .bool gv, .slice lv lvn lvc, .string sv, .int .i64 mv, .slice iv ivn ivc, .slice tv tvn tvc, .int .u8 kr, .bool gr, .slice lr lrn lrc, .string sr, .int .i64 mr, .slice ir irn irc, .slice tr trn trc] from HR5.out)
      clear hk5 hr5 H43 H53 HA3 HK3 HR3 htv5 htr5
      go_upto_region 13 with
        first
        | (go_at_call 7
           refine (tm_right r w5 _ false _ _ _ _ _ _ _ _ _ _ _ _ _ HTR5.out).mono ?_
           rintro e w6 ⟨rfl, hk6⟩
           rw [HRV.out]
           have HKW6 := hide (HKW5.out.trans' hk6 (fun _ _ => id) (fun _ _ => id) : Keeps NoB w w6)
           have HR6 := hide (HR5.out.keep hk6 id); have H46 := hide (H45.out.keep hk6 id); have H56 := hide (H55.out.keep hk6 id)
           have HTV6 := hide (TermIn.keep hk6 (fun _ _ => id) _ _ HTV5.out); have HTR6 := hide (TermIn.keep hk6 (fun _ _ => id) _ _ HTR5.out)
           obtain ⟨s0, s1, s2, s3, s4, s5, s6, s7, s8, s9, s10, s11, s12, s13⟩ := Blk.c14 (show Blk w6 (g8) _ #[.int .u8 kv, .bool gv, .slice lv lvn lvc, .string sv, .int .i64 mv, .slice iv ivn ivc, .slice tv tvn tvc, .int .u8 kr, .bool gr, .slice lr lrn lrc, .string sr, .int .i64 mr, .slice ir irn irc, .slice tr trn trc] from HR6.out)
           clear hk6)
        | fail
      clear r0 r1 r2 r3 r4 r5 r6 r7 r8 r9 r10 r11 r12 r13 s0 s1 s2 s3 s4 s5 s6 s7 s8 s9 s10 s11 s12 s13 HR5 H45 H55 HTV5 HTR5
      refine order_begin (fun W => Keeps NoB w6 W) (fun i => !(i == 6) && !(i == 7)) (by kernel_rfl) 9 rfl ?_
      have HS : Keeps NoB w6 w6.drew := (Keeps.refl _ _).drew
      refine order_pure (i := 0) rfl (by kernel_rfl) (fun _ _ _ h => h) (.inl ⟨rfl, fun _ => by go_simp; rfl⟩) ?_
      try simp only [Act.put, List.setIfInBounds_toArray, List.set_cons_succ, List.set_cons_zero]
      refine order_held (i := 1) rfl (by kernel_rfl) (fun _ _ _ h => h) (.inl ⟨rfl, fun W hW => by
        have q0 : W.cell? ⟨g8, 0, none⟩ = some (.int .u8 kv) := hW.cell id (HR6.out.cell 0)
        have q1 : W.cell? ⟨g8, 1, none⟩ = some (.bool gv) := hW.cell id (HR6.out.cell 1)
        have q2 : W.cell? ⟨g8, 2, none⟩ = some (.slice lv lvn lvc) := hW.cell id (HR6.out.cell 2)
        have q3 : W.cell? ⟨g8, 3, none⟩ = some (.string sv) := hW.cell id (HR6.out.cell 3)
        have q4 : W.cell? ⟨g8, 4, none⟩ = some (.int .i64 mv) := hW.cell id (HR6.out.cell 4)
        have q5 : W.cell? ⟨g8, 5, none⟩ = some (.slice iv ivn ivc) := hW.cell id (HR6.out.cell 5)
        have q6 : W.cell? ⟨g8, 6, none⟩ = some (.slice tv tvn tvc) := hW.cell id (HR6.out.cell 6)
        go_simp; rfl⟩) HS ?_
      try simp only [Act.put, List.setIfInBounds_toArray, List.set_cons_succ, List.set_cons_zero]
      refine order_pure (i := 3) rfl (by kernel_rfl) (fun _ _ _ h => h) (.inl ⟨rfl, fun _ => by go_simp; rfl⟩) ?_
      try simp only [Act.put, List.setIfInBounds_toArray, List.set_cons_succ, List.set_cons_zero]
      refine order_held (i := 4) rfl (by kernel_rfl) (fun _ _ _ h => h) (.inl ⟨rfl, fun W hW => by
        have q0 : W.cell? ⟨g8, 7, none⟩ = some (.int .u8 kr) := hW.cell id (HR6.out.cell 7)
        have q1 : W.cell? ⟨g8, 8, none⟩ = some (.bool gr) := hW.cell id (HR6.out.cell 8)
        have q2 : W.cell? ⟨g8, 9, none⟩ = some (.slice lr lrn lrc) := hW.cell id (HR6.out.cell 9)
        have q3 : W.cell? ⟨g8, 10, none⟩ = some (.string sr) := hW.cell id (HR6.out.cell 10)
        have q4 : W.cell? ⟨g8, 11, none⟩ = some (.int .i64 mr) := hW.cell id (HR6.out.cell 11)
        have q5 : W.cell? ⟨g8, 12, none⟩ = some (.slice ir irn irc) := hW.cell id (HR6.out.cell 12)
        have q6 : W.cell? ⟨g8, 13, none⟩ = some (.slice tr trn trc) := hW.cell id (HR6.out.cell 13)
        go_simp; rfl⟩) HS ?_
      try simp only [Act.put, List.setIfInBounds_toArray, List.set_cons_succ, List.set_cons_zero]
      refine order_one (i := 2) rfl (by kernel_rfl) (fun K hK => ?_)
      go_simp
      refine (tm_copy v.size v (Nat.le_refl _) w6.drew _ false _ _ _ _ _ _ _ _ _ _ _ _ _ (TermIn.keep HS (fun _ _ => id) _ _ HTV6.out)).mono ?_
      rintro e w7 ⟨a7, c7, i7, d7, t7, e7, rfl, ht7, hk7⟩
      have HK7 := hide (HS.trans' hk7 (fun _ _ => id) (fun _ _ => id) : Keeps NoB w6 w7)
      have HT7 := hide (TermIn.more (B' := Above w6) (fun _ _ h => h) _ _ ht7)
      refine hK _ _ (fun _ _ => HK7.out) ?_
      clear hK hk7 ht7
      try simp only [Act.put, List.setIfInBounds_toArray, List.set_cons_succ, List.set_cons_zero]
      refine order_one (i := 5) rfl (by kernel_rfl) (fun K hK => ?_)
      go_simp
      refine (tm_copy r.size r (Nat.le_refl _) w7 _ false _ _ _ _ _ _ _ _ _ _ _ _ _ (TermIn.keep HK7.out (fun _ _ => id) _ _ HTR6.out)).mono ?_
      rintro e w8 ⟨a8, c8, i8, d8, t8, e8, rfl, ht8, hk8⟩
      have HK8 := hide (HK7.out.trans' hk8 (fun _ _ => id) (fun _ _ => id) : Keeps NoB w6 w8)
      have HT8 := hide (TermIn.keep hk8 (fun _ _ => id) _ _ HT7.out)
      have HU8 := hide (TermIn.more (B' := Above w6) (fun k _ (h : w7.heap.size ≤ k) => Nat.le_trans HK7.out.size h) _ _ ht8)
      have H48 := hide (H46.out.keep HK8.out id); have H58 := hide (H56.out.keep HK8.out id)
      refine hK _ _ (fun _ _ => HK8.out) ?_
      clear hK hk8 ht8
      try simp only [Act.put, List.setIfInBounds_toArray, List.set_cons_succ, List.set_cons_zero]
      obtain ⟨z0, z1, z2, z3, z4, z5, z6⟩ := Blk.f7 (w := w8) (g := w.heap.size) H48.out
      obtain ⟨q0, q1, q2, q3, q4, q5, q6⟩ := Blk.c7 (show Blk w8 (w.heap.size) _ #[.int .u8 0, .bool false, .slice none 0 0, .string ⟨#[]⟩, .int .i64 0, .slice none 0 0, .slice none 0 0] from H48.out)
      refine order_one (i := 6) rfl (by kernel_rfl) (fun K hK => ?_)
      go_simp
      refine hK _ _ (fun h => absurd h (by decide)) ?_
      clear hK
      try simp only [Act.put, List.setIfInBounds_toArray, List.set_cons_succ, List.set_cons_zero]
      have HKA := hide (keeps_tput7 w8 w.heap.size (.int .u8 kv) (.bool gv) (.slice a7 lvn c7) (.string sv) (.int .i64 mv) (.slice i7 ivn d7) (.slice t7 tvn e7))
      have H49 := hide (H48.out.tput7 (.int .u8 kv) (.bool gv) (.slice a7 lvn c7) (.string sv) (.int .i64 mv) (.slice i7 ivn d7) (.slice t7 tvn e7)); have H59 := hide (H58.out.keep HKA.out (fun e => by omega))
      have HG4 := hide (show w.heap.size < w6.heap.size ∧ w.heap.size + 1 < w6.heap.size from ⟨H46.out.lt, H56.out.lt⟩)
      clear z0 z1 z2 z3 z4 z5 z6 q0 q1 q2 q3 q4 q5 q6 H48 H58 H46 H56
      generalize (((((((w8.setCell ⟨w.heap.size, 0, none⟩ (.int .u8 kv)).setCell ⟨w.heap.size, 1, none⟩ (.bool gv)).setCell ⟨w.heap.size, 2, none⟩ (.slice a7 lvn c7)).setCell ⟨w.heap.size, 3, none⟩ (.string sv)).setCell ⟨w.heap.size, 4, none⟩ (.int .i64 mv)).setCell ⟨w.heap.size, 5, none⟩ (.slice i7 ivn d7)).setCell ⟨w.heap.size, 6, none⟩ (.slice t7 tvn e7)) = w9 at *
      obtain ⟨z0, z1, z2, z3, z4, z5, z6⟩ := Blk.f7 (w := w9) (g := w.heap.size + 1) H59.out
      obtain ⟨q0, q1, q2, q3, q4, q5, q6⟩ := Blk.c7 (show Blk w9 (w.heap.size + 1) _ #[.int .u8 0, .bool false, .slice none 0 0, .string ⟨#[]⟩, .int .i64 0, .slice none 0 0, .slice none 0 0] from H59.out)
      refine order_one (i := 7) rfl (by kernel_rfl) (fun K hK => ?_)
      go_simp
      refine hK _ _ (fun h => absurd h (by decide)) ?_
      clear hK
      try simp only [Act.put, List.setIfInBounds_toArray, List.set_cons_succ, List.set_cons_zero]
      have HKB := hide (keeps_tput7 w9 (w.heap.size + 1) (.int .u8 kr) (.bool gr) (.slice a8 lrn c8) (.string sr) (.int .i64 mr) (.slice i8 irn d8) (.slice t8 trn e8))
      have H5t := hide (H59.out.tput7 (.int .u8 kr) (.bool gr) (.slice a8 lrn c8) (.string sr) (.int .i64 mr) (.slice i8 irn d8) (.slice t8 trn e8)); have H4t := hide (H49.out.keep HKB.out (fun e => by omega))
      clear z0 z1 z2 z3 z4 z5 z6 q0 q1 q2 q3 q4 q5 q6 H49 H59
      generalize (((((((w9.setCell ⟨w.heap.size + 1, 0, none⟩ (.int .u8 kr)).setCell ⟨w.heap.size + 1, 1, none⟩ (.bool gr)).setCell ⟨w.heap.size + 1, 2, none⟩ (.slice a8 lrn c8)).setCell ⟨w.heap.size + 1, 3, none⟩ (.string sr)).setCell ⟨w.heap.size + 1, 4, none⟩ (.int .i64 mr)).setCell ⟨w.heap.size + 1, 5, none⟩ (.slice i8 irn d8)).setCell ⟨w.heap.size + 1, 6, none⟩ (.slice t8 trn e8)) = w10 at *
      refine order_pure (i := 8) rfl (by kernel_rfl) (fun _ _ _ h => h) (.inl ⟨rfl, fun _ => by go_simp; rfl⟩) ?_
      try simp only [Act.put, List.setIfInBounds_toArray, List.set_cons_succ, List.set_cons_zero]
      refine order_done (by kernel_rfl) ?_
      go_wp2_with fail
      refine bodyPost_ret (results_12 _ _ _ _ _ _ _ _ _ _ _ _ _ _ _ _ _ _ _ rfl rfl rfl H4t.out H5t.out) rfl ?_
      have HF := hide (fun k (hk : Above w6 k) (e : k = w.heap.size) => show False from by have := HG4.out; unfold Above at hk; omega)
      have HF2 := hide (fun k (hk : Above w6 k) (e : k = w.heap.size + 1) => show False from by have := HG4.out; unfold Above at hk; omega)
      have HM := hide (fun k (_ : k < w10.heap.size) (hk : Above w6 k) => show w.heap.size ≤ k from by have := HKW6.out.size; unfold Above at hk; omega)
      refine ⟨_, _, _, _, _, _, _, _, _, _, _, _, _, _, _, _, _, _, _, _, _, _, _, _, _, _, rfl, ?_, ?_, ?_⟩
      · exact TermIn.more HM.out _ _ (TermIn.weak _ _ (TermIn.keep HKB.out HF2.out _ _ (TermIn.keep HKA.out HF.out _ _ HT8.out)))
      · exact TermIn.more HM.out _ _ (TermIn.weak _ _ (TermIn.keep HKB.out HF2.out _ _ (TermIn.keep HKA.out HF.out _ _ HU8.out)))
      · exact ((HKW6.out.trans' HK8.out (fun _ _ => id) (fun _ _ => id) : Keeps NoB w w8).trans' HKA.out (fun _ _ => id) (fun i hi e => by omega) : Keeps NoB w w9).trans' HKB.out (fun _ _ => id) (fun i hi e => by omega)
end Go.Proofs.YtjdbjjjbgibpaaaGreatDoor
