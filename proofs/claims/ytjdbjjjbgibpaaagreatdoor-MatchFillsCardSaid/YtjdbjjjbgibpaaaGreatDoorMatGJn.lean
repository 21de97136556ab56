/- match: the value of hd of a list without items; match.truth. Printed by mkmath.py. match: values of guards at trees; match.truth; Guard's closure. Printed by mkmatg.py. -/
import Derived.Test.YtjdbjjjbgibpaaaGreatDoorHdNJn
namespace Go.Proofs.YtjdbjjjbgibpaaaGreatDoor
open Go.RowKit

theorem errT_right2 : rightT (errT ⟨#[98, 97, 100, 97, 114, 103]⟩) = true := by kernel_rfl
theorem zeroT_no : rightT zeroT = false := by kernel_rfl
theorem call_hd_none (a : Tm) (hra : rightT a = true) (hs : splitT a = none) (w : World) (hL : LaidK w) (hK : KindsAt w) (ga go c : Nat) (kd : Int) (ng : Bool) (la : Option Addr) (ln lc : Nat) (tx : ByteArray) (nm : Int) (ia : Option Addr) (im ic : Nat) (ta : Option Addr) (tn tc : Nat) (hA : One7 w ga go [.int .u8 kd, .bool ng, .slice la ln lc, .string tx, .int .i64 nm, .slice ia im ic, .slice ta tn tc]) (ha : TermIn w (fun _ => True) false [.int .u8 kd, .bool ng, .slice la ln lc, .string tx, .int .i64 nm, .slice ia im ic, .slice ta tn tc] a) :
    Calls Tryz.prog 56 #[.string ⟨#[104, 100]⟩, .slice (some ⟨ga, go, none⟩) 1 c] w (CallR w zeroT (errT ⟨#[98, 97, 100, 97, 114, 103]⟩)) :=
  call_one_raisedO ⟨#[104, 100]⟩ (by decide) 2 (Or.inr rfl) (by kernel_rfl) a _ _ hra (by show ¬ (6 : Int) = 0; omega) errT_right2 w hL ga go c _ _ _ _ _ _ _ _ _ _ _ _ _ hA ha
    (fun w' hk => (one_hd_none a w' (fun _ => True) false _ _ _ _ _ _ _ _ _ _ _ _ _ (TermIn.keep hk (fun _ _ => id) _ _ ha) hra hs (hK.keep hk)).mono fun _ _ h => h.more)
/-- A list of one, as an append onto nothing leaves it. -/
structure One1 (w0 wx : World) (A : Option Addr) (c : Nat) (N : Nat) (t : Tm) : Prop where
  ex : ∃ g o k1 g1 a1 n1 c1 s1 m1 a2 n2 c2 a3 n3 c3, A = some ⟨g, o, none⟩ ∧ One7 wx g o [.int .u8 k1, .bool g1, .slice a1 n1 c1, .string s1, .int .i64 m1, .slice a2 n2 c2, .slice a3 n3 c3] ∧ TermIn wx (fun k => k < N ∨ w0.heap.size ≤ k) false [.int .u8 k1, .bool g1, .slice a1 n1 c1, .string s1, .int .i64 m1, .slice a2 n2 c2, .slice a3 n3 c3] t
set_option maxRecDepth 100000 in
set_option maxHeartbeats 4000000 in
theorem val_hd (A : Option Addr) (n c : Nat) (D : Option Addr) (m d : Nat) (nm tk : Int) (ng : Bool) (la : Option Addr) (ln lc : Nat) (tt : ByteArray) (tn : Int) (ia : Option Addr) (im ic : Nat) (ta : Option Addr) (tm tc : Nat) (ka : Option Addr) (kc : Nat) (k0 : Int) (tx0 : ByteArray) (nm0 tk0 : Int) (ng0 : Bool) (la0 : Option Addr) (ln0 lc0 : Nat) (tt0 : ByteArray) (tn0 : Int) (ia0 : Option Addr) (im0 ic0 : Nat) (ta0 : Option Addr) (tm0 tc0 : Nat) (ka0 : Option Addr) (kn0 kc0 : Nat) (kcss : List (List Value)) (t0 : Tm) (N : Nat) (w : World) (hN : N ≤ w.heap.size) (hk : Reads w (fun _ => True) false 11 ka 1 ([.int .u8 k0, .string tx0, .int .i64 nm0, .int .u8 tk0, .bool ng0, .slice la0 ln0 lc0, .string tt0, .int .i64 tn0, .slice ia0 im0 ic0, .slice ta0 tm0 tc0, .slice ka0 kn0 kc0] :: kcss).flatten) (hL : LaidK w) (hKi : KindsAt w) (hr0 : rightT t0 = true) (hs0 : splitT t0 = none)
    (hv : ∀ w', Keeps NoB w w' → Calls Tryz.prog 34 #[.agg #[.slice A n c, .slice D m d], .agg #[.int .u8 k0, .string tx0, .int .i64 nm0, .int .u8 tk0, .bool ng0, .slice la0 ln0 lc0, .string tt0, .int .i64 tn0, .slice ia0 im0 ic0, .slice ta0 tm0 tc0, .slice ka0 kn0 kc0]] w' (GValP N w' t0 true)) :
    Calls Tryz.prog 34 #[.agg #[.slice A n c, .slice D m d], .agg #[.int .u8 8, .string ⟨#[104, 100]⟩, .int .i64 nm, .int .u8 tk, .bool ng, .slice la ln lc, .string tt, .int .i64 tn, .slice ia im ic, .slice ta tm tc, .slice ka 1 kc]] w (GValP N w zeroT false) := by
  obtain ⟨i0, hi0, hz0, hz1, hz2⟩ := info_parts Tryz.infoMkT
  obtain ⟨kb, ko, hka, hkc⟩ := kid_zero hk rfl (by omega)
  subst hka
  have HK0 := hide ((((Keeps.refl NoB w).alloc (.cells #[.slice A n c, .slice D m d] 39)).alloc (.cells #[.int .u8 8, .string ⟨#[104, 100]⟩, .int .i64 nm, .int .u8 tk, .bool ng, .slice la ln lc, .string tt, .int .i64 tn, .slice ia im ic, .slice ta tm tc, .slice (some ⟨kb, ko, none⟩) 1 kc] 34)).alloc (.cells #[.int .u8 0, .bool false, .slice none 0 0, .string ⟨#[]⟩, .int .i64 0, .slice none 0 0, .slice none 0 0] 26))
  have HV0 := hide (three_tblks w 39 34 26 #[.slice A n c, .slice D m d] #[.int .u8 8, .string ⟨#[104, 100]⟩, .int .i64 nm, .int .u8 tk, .bool ng, .slice la ln lc, .string tt, .int .i64 tn, .slice ia im ic, .slice ta tm tc, .slice (some ⟨kb, ko, none⟩) 1 kc] #[.int .u8 0, .bool false, .slice none 0 0, .string ⟨#[]⟩, .int .i64 0, .slice none 0 0, .slice none 0 0]).1; have HP0 := hide (three_tblks w 39 34 26 #[.slice A n c, .slice D m d] #[.int .u8 8, .string ⟨#[104, 100]⟩, .int .i64 nm, .int .u8 tk, .bool ng, .slice la ln lc, .string tt, .int .i64 tn, .slice ia im ic, .slice ta tm tc, .slice (some ⟨kb, ko, none⟩) 1 kc] #[.int .u8 0, .bool false, .slice none 0 0, .string ⟨#[]⟩, .int .i64 0, .slice none 0 0, .slice none 0 0]).2.1; have HR0 := hide (three_tblks w 39 34 26 #[.slice A n c, .slice D m d] #[.int .u8 8, .string ⟨#[104, 100]⟩, .int .i64 nm, .int .u8 tk, .bool ng, .slice la ln lc, .string tt, .int .i64 tn, .slice ia im ic, .slice ta tm tc, .slice (some ⟨kb, ko, none⟩) 1 kc] #[.int .u8 0, .bool false, .slice none 0 0, .string ⟨#[]⟩, .int .i64 0, .slice none 0 0, .slice none 0 0]).2.2
  have HKC := hide hkc; have HV := hide hv; have HL := hide hL; have HKI := hide hKi; have HR := hide hr0; have HS0 := hide hs0
  clear hk hv hkc hL hKi hr0 hs0
  go_enter Tryz.func34, Tryz.ntmps34
  go_upto_region 1 with fail
  generalize ((w.alloc (.cells #[.slice A n c, .slice D m d] 39)).alloc (.cells #[.int .u8 8, .string ⟨#[104, 100]⟩, .int .i64 nm, .int .u8 tk, .bool ng, .slice la ln lc, .string tt, .int .i64 tn, .slice ia im ic, .slice ta tm tc, .slice (some ⟨kb, ko, none⟩) 1 kc] 34)).alloc (.cells #[.int .u8 0, .bool false, .slice none 0 0, .string ⟨#[]⟩, .int .i64 0, .slice none 0 0, .slice none 0 0] 26) = w0 at *
  have p0 := HP0.out.cell 0
  have p10 := HP0.out.cell 10
  go_wp2_with fail
  go_loopg [11, 91] 1 (fun gg s11 s91 wx => Keeps NoB w0 wx ∧ (gg = 1 ∧ s91 = .int .i64 0 ∧ s11 = .slice none 0 0 ∨ ∃ A' c', gg = 0 ∧ s91 = .int .i64 1 ∧ s11 = .slice A' 1 c' ∧ One1 w wx A' c' N t0))
  case atStart => exact ⟨Keeps.refl _ _, .inl ⟨rfl, rfl, rfl⟩⟩
  case round =>
    obtain ⟨hkw, hcase⟩ := hrel
    have HKW := hide hkw
    have HKF := hide (HK0.out.trans' hkw (fun _ _ => id) (fun _ _ => id) : Keeps NoB w wr)
    clear hkw p0 p10
    rcases hcase with ⟨rfl, rfl, rfl⟩ | ⟨A', c', rfl, rfl, rfl, hone⟩
    · have j0 : wr.cell? ⟨kb, ko, none⟩ = some (.int .u8 k0) := HKF.out.cell id (HKC.out 0 _ rfl); have j1 : wr.cell? ⟨kb, ko + 1, none⟩ = some (.string tx0) := HKF.out.cell id (HKC.out 1 _ rfl); have j2 : wr.cell? ⟨kb, ko + 2, none⟩ = some (.int .i64 nm0) := HKF.out.cell id (HKC.out 2 _ rfl); have j3 : wr.cell? ⟨kb, ko + 3, none⟩ = some (.int .u8 tk0) := HKF.out.cell id (HKC.out 3 _ rfl); have j4 : wr.cell? ⟨kb, ko + 4, none⟩ = some (.bool ng0) := HKF.out.cell id (HKC.out 4 _ rfl); have j5 : wr.cell? ⟨kb, ko + 5, none⟩ = some (.slice la0 ln0 lc0) := HKF.out.cell id (HKC.out 5 _ rfl); have j6 : wr.cell? ⟨kb, ko + 6, none⟩ = some (.string tt0) := HKF.out.cell id (HKC.out 6 _ rfl); have j7 : wr.cell? ⟨kb, ko + 7, none⟩ = some (.int .i64 tn0) := HKF.out.cell id (HKC.out 7 _ rfl); have j8 : wr.cell? ⟨kb, ko + 8, none⟩ = some (.slice ia0 im0 ic0) := HKF.out.cell id (HKC.out 8 _ rfl); have j9 : wr.cell? ⟨kb, ko + 9, none⟩ = some (.slice ta0 tm0 tc0) := HKF.out.cell id (HKC.out 9 _ rfl); have j10 : wr.cell? ⟨kb, ko + 10, none⟩ = some (.slice ka0 kn0 kc0) := HKF.out.cell id (HKC.out 10 _ rfl)
      have HBK := hide (Blk.new wr 34 #[.int .u8 k0, .string tx0, .int .i64 nm0, .int .u8 tk0, .bool ng0, .slice la0 ln0 lc0, .string tt0, .int .i64 tn0, .slice ia0 im0 ic0, .slice ta0 tm0 tc0, .slice ka0 kn0 kc0])
      have HKA := hide ((Keeps.refl NoB wr).alloc (.cells #[.int .u8 k0, .string tx0, .int .i64 nm0, .int .u8 tk0, .bool ng0, .slice la0 ln0 lc0, .string tt0, .int .i64 tn0, .slice ia0 im0 ic0, .slice ta0 tm0 tc0, .slice ka0 kn0 kc0] 34))
      have e0 : (wr.alloc (.cells #[.int .u8 k0, .string tx0, .int .i64 nm0, .int .u8 tk0, .bool ng0, .slice la0 ln0 lc0, .string tt0, .int .i64 tn0, .slice ia0 im0 ic0, .slice ta0 tm0 tc0, .slice ka0 kn0 kc0] 34)).cell? ⟨wr.heap.size, 0, none⟩ = some (.int .u8 k0) := HBK.out.cell 0; have e1 : (wr.alloc (.cells #[.int .u8 k0, .string tx0, .int .i64 nm0, .int .u8 tk0, .bool ng0, .slice la0 ln0 lc0, .string tt0, .int .i64 tn0, .slice ia0 im0 ic0, .slice ta0 tm0 tc0, .slice ka0 kn0 kc0] 34)).cell? ⟨wr.heap.size, 1, none⟩ = some (.string tx0) := HBK.out.cell 1; have e2 : (wr.alloc (.cells #[.int .u8 k0, .string tx0, .int .i64 nm0, .int .u8 tk0, .bool ng0, .slice la0 ln0 lc0, .string tt0, .int .i64 tn0, .slice ia0 im0 ic0, .slice ta0 tm0 tc0, .slice ka0 kn0 kc0] 34)).cell? ⟨wr.heap.size, 2, none⟩ = some (.int .i64 nm0) := HBK.out.cell 2; have e3 : (wr.alloc (.cells #[.int .u8 k0, .string tx0, .int .i64 nm0, .int .u8 tk0, .bool ng0, .slice la0 ln0 lc0, .string tt0, .int .i64 tn0, .slice ia0 im0 ic0, .slice ta0 tm0 tc0, .slice ka0 kn0 kc0] 34)).cell? ⟨wr.heap.size, 3, none⟩ = some (.int .u8 tk0) := HBK.out.cell 3; have e4 : (wr.alloc (.cells #[.int .u8 k0, .string tx0, .int .i64 nm0, .int .u8 tk0, .bool ng0, .slice la0 ln0 lc0, .string tt0, .int .i64 tn0, .slice ia0 im0 ic0, .slice ta0 tm0 tc0, .slice ka0 kn0 kc0] 34)).cell? ⟨wr.heap.size, 4, none⟩ = some (.bool ng0) := HBK.out.cell 4; have e5 : (wr.alloc (.cells #[.int .u8 k0, .string tx0, .int .i64 nm0, .int .u8 tk0, .bool ng0, .slice la0 ln0 lc0, .string tt0, .int .i64 tn0, .slice ia0 im0 ic0, .slice ta0 tm0 tc0, .slice ka0 kn0 kc0] 34)).cell? ⟨wr.heap.size, 5, none⟩ = some (.slice la0 ln0 lc0) := HBK.out.cell 5; have e6 : (wr.alloc (.cells #[.int .u8 k0, .string tx0, .int .i64 nm0, .int .u8 tk0, .bool ng0, .slice la0 ln0 lc0, .string tt0, .int .i64 tn0, .slice ia0 im0 ic0, .slice ta0 tm0 tc0, .slice ka0 kn0 kc0] 34)).cell? ⟨wr.heap.size, 6, none⟩ = some (.string tt0) := HBK.out.cell 6; have e7 : (wr.alloc (.cells #[.int .u8 k0, .string tx0, .int .i64 nm0, .int .u8 tk0, .bool ng0, .slice la0 ln0 lc0, .string tt0, .int .i64 tn0, .slice ia0 im0 ic0, .slice ta0 tm0 tc0, .slice ka0 kn0 kc0] 34)).cell? ⟨wr.heap.size, 7, none⟩ = some (.int .i64 tn0) := HBK.out.cell 7; have e8 : (wr.alloc (.cells #[.int .u8 k0, .string tx0, .int .i64 nm0, .int .u8 tk0, .bool ng0, .slice la0 ln0 lc0, .string tt0, .int .i64 tn0, .slice ia0 im0 ic0, .slice ta0 tm0 tc0, .slice ka0 kn0 kc0] 34)).cell? ⟨wr.heap.size, 8, none⟩ = some (.slice ia0 im0 ic0) := HBK.out.cell 8; have e9 : (wr.alloc (.cells #[.int .u8 k0, .string tx0, .int .i64 nm0, .int .u8 tk0, .bool ng0, .slice la0 ln0 lc0, .string tt0, .int .i64 tn0, .slice ia0 im0 ic0, .slice ta0 tm0 tc0, .slice ka0 kn0 kc0] 34)).cell? ⟨wr.heap.size, 9, none⟩ = some (.slice ta0 tm0 tc0) := HBK.out.cell 9; have e10 : (wr.alloc (.cells #[.int .u8 k0, .string tx0, .int .i64 nm0, .int .u8 tk0, .bool ng0, .slice la0 ln0 lc0, .string tt0, .int .i64 tn0, .slice ia0 im0 ic0, .slice ta0 tm0 tc0, .slice ka0 kn0 kc0] 34)).cell? ⟨wr.heap.size, 10, none⟩ = some (.slice ka0 kn0 kc0) := HBK.out.cell 10
      have v0 : (wr.alloc (.cells #[.int .u8 k0, .string tx0, .int .i64 nm0, .int .u8 tk0, .bool ng0, .slice la0 ln0 lc0, .string tt0, .int .i64 tn0, .slice ia0 im0 ic0, .slice ta0 tm0 tc0, .slice ka0 kn0 kc0] 34)).cell? ⟨w.heap.size, 0, none⟩ = some (.slice A n c) := ((HV0.out.keep HKW.out id).keep HKA.out id).cell 0
      have v1 : (wr.alloc (.cells #[.int .u8 k0, .string tx0, .int .i64 nm0, .int .u8 tk0, .bool ng0, .slice la0 ln0 lc0, .string tt0, .int .i64 tn0, .slice ia0 im0 ic0, .slice ta0 tm0 tc0, .slice ka0 kn0 kc0] 34)).cell? ⟨w.heap.size, 1, none⟩ = some (.slice D m d) := ((HV0.out.keep HKW.out id).keep HKA.out id).cell 1
      go_upto_region 28 with
        first
        | (go_at_call 34
           refine (HV.out _ (HKF.out.trans' HKA.out (fun _ _ => id) (fun _ _ => id))).mono ?_
           rintro e w2 ⟨k1, g1, a1, n1, c1, s1, m1, a2, n2, c2, a3, n3, c3, rfl, ht2, hk2⟩
           have HT2 := hide ht2
           have HK2 := hide (HKA.out.trans' hk2 (fun _ _ => id) (fun _ _ => id) : Keeps NoB wr w2)
           clear hk2 ht2)
        | fail
      clear j0 e0 j1 e1 j2 e2 j3 e3 j4 e4 j5 e5 j6 e6 j7 e7 j8 e8 j9 e9 j10 e10 v0 v1
      have HBT := hide (Blk.new w2 26 #[.int .u8 k1, .bool g1, .slice a1 n1 c1, .string s1, .int .i64 m1, .slice a2 n2 c2, .slice a3 n3 c3])
      have HKT := hide ((Keeps.refl NoB w2).alloc (.cells #[.int .u8 k1, .bool g1, .slice a1 n1 c1, .string s1, .int .i64 m1, .slice a2 n2 c2, .slice a3 n3 c3] 26))
      generalize w2.alloc (.cells #[.int .u8 k1, .bool g1, .slice a1 n1 c1, .string s1, .int .i64 m1, .slice a2 n2 c2, .slice a3 n3 c3] 26) = w3 at *
      obtain ⟨x0, x1, x2, x3, x4, x5, x6⟩ := Blk.c7 (show Blk w3 (w2.heap.size) _ #[.int .u8 k1, .bool g1, .slice a1 n1 c1, .string s1, .int .i64 m1, .slice a2 n2 c2, .slice a3 n3 c3] from HBT.out)
      have HN7 := hide (Blk.new w3 26 #[.int .u8 k1, .bool g1, .slice a1 n1 c1, .string s1, .int .i64 m1, .slice a2 n2 c2, .slice a3 n3 c3])
      go_wp2_with (at_builtin; refine wpList_append_any _ rfl (.tmp 104) (.tmp 106) 24 rfl 26 i0 _ 7 104 Tryz.underlying24 hi0 hz0 hz1 hz2 rfl (by omega) none 0 0 [] rfl (Slab.nil _ _ _) (fun _ => True) false (some ⟨w3.heap.size, 0, none⟩) 1 1 [.int .u8 k1, .bool g1, .slice a1 n1 c1, .string s1, .int .i64 m1, .slice a2 n2 c2, .slice a3 n3 c3] rfl (by simpa using one_readsC HN7.out) (TermIn.ones _ _ HT2.out) (by unfold maxLen; omega) (by omega) ?_)
      intro A5 c5 w5 hs5 hk5 hm5
      have HSL := hide hs5
      have HK5 := hide (((HKT.out.alloc (.cells #[.int .u8 k1, .bool g1, .slice a1 n1 c1, .string s1, .int .i64 m1, .slice a2 n2 c2, .slice a3 n3 c3] 26)).trans' hk5 (fun _ _ => id) (fun k _ hr => by obtain ⟨o, e⟩ := hr; cases e)) : Keeps NoB w2 w5)
      clear hs5 hk5 hm5 x0 x1 x2 x3 x4 x5 x6
      go_wp2_with fail
      go_roundg 0
      case measure => omega
      case rel =>
        refine ⟨(HKW.out.trans' HK2.out (fun _ _ => id) (fun _ _ => id) : Keeps NoB w0 w2).trans' HK5.out (fun _ _ => id) (fun _ _ => id), .inr ⟨A5, c5, rfl, rfl, rfl, ⟨?_⟩⟩⟩
        obtain ⟨⟨xg, xo, xs⟩, e, hs, _, hl, hc⟩ := HSL.out.reads.2 (by omega)
        simp only at hs
        subst hs
        refine ⟨xg, xo, k1, g1, a1, n1, c1, s1, m1, a2, n2, c2, a3, n3, c3, e, ⟨hl, fun j u hu => (hc j u (by simpa using hu)).1⟩, ?_⟩
        have hz := HK0.out.size; have hz2' := HKW.out.size; have hz3 := HKA.out.size
        exact TermIn.more (fun k _ hk => by rcases hk with h | h; exact .inl h; exact .inr (by omega)) _ _ (TermIn.keep HK5.out (fun _ _ => id) _ _ HT2.out)
    · have HONE := hide hone
      clear hone
      obtain ⟨g, go, k1, g1, a1, n1, c1, s1, m1, a2, n2, c2, a3, n3, c3, rfl, h7, htm⟩ := HONE.out.ex
      have H7 := hide h7; have HTM := hide htm
      clear h7 htm HONE
      have HPW := hide (HP0.out.keep HKW.out id)
      have p0 := HPW.out.cell 0
      have p1 := HPW.out.cell 1
      have HKN := hide (show kindN (⟨#[104, 100]⟩ : ByteArray).data.toList 1 = 2 from by kernel_rfl)
      go_upto_region 38 with
        first
        | (go_at_call 55
           refine (kind_any ⟨#[104, 100]⟩ 1 wr (HL.out.keep HKF.out) (by decide)).mono ?_
           rintro e w2 ⟨rfl, rfl⟩
           rw [HKN.out])
        | (go_at_call 56
           refine (call_hd_none t0 HR.out HS0.out wr (HL.out.keep HKF.out) (HKI.out.keep HKF.out) g go c' _ _ _ _ _ _ _ _ _ _ _ _ _ H7.out (TermIn.more (fun _ _ _ => trivial) _ _ HTM.out)).mono ?_
           rintro e w3 ⟨kv, gv, lv, lvn, lvc, sv, mv, iv, ivn, ivc, tv, tvn, tvc, kr, gr, lr, lrn, lrc, sr, mr, ir, irn, irc, tr, trn, trc, rfl, hv3, _, hk3⟩
           have HV3 := hide hv3; have HK3 := hide hk3
           have HR3 := hide ((HR0.out.keep HKW.out id).keep hk3 id)
           obtain ⟨q0, q1, q2, q3, q4, q5, q6⟩ := Blk.c7 (show Blk w3 (w.heap.size + 1 + 1) _ #[.int .u8 0, .bool false, .slice none 0 0, .string ⟨#[]⟩, .int .i64 0, .slice none 0 0, .slice none 0 0] from HR3.out)
           obtain ⟨f0, f1, f2, f3, f4, f5, f6⟩ := Blk.f7 (w := w3) (g := w.heap.size + 1 + 1) HR3.out
           clear hv3 hk3)
        | fail
      have hA := HR3.out.tput7 (.int .u8 kv) (.bool gv) (.slice lv lvn lvc) (.string sv) (.int .i64 mv) (.slice iv ivn ivc) (.slice tv tvn tvc)
      have hkA := keeps_tput7 w3 (w.heap.size + 1 + 1) (.int .u8 kv) (.bool gv) (.slice lv lvn lvc) (.string sv) (.int .i64 mv) (.slice iv ivn ivc) (.slice tv tvn tvc)
      have HRA := hide hA; have HKA := hide hkA
      have hz := HK0.out.size
      have hz2 := HKW.out.size
      have hz3 := HR0.out.lt
      have HVA := hide (TermIn.keep hkA (fun j (hj : wr.heap.size ≤ j) e => by omega) _ _ HV3.out)
      clear hA hkA p0 p1 q0 f0 q1 f1 q2 f2 q3 f3 q4 f4 q5 f5 q6 f6
      generalize (((((((w3.setCell ⟨w.heap.size + 1 + 1, 0, none⟩ (.int .u8 kv)).setCell ⟨w.heap.size + 1 + 1, 1, none⟩ (.bool gv)).setCell ⟨w.heap.size + 1 + 1, 2, none⟩ (.slice lv lvn lvc)).setCell ⟨w.heap.size + 1 + 1, 3, none⟩ (.string sv)).setCell ⟨w.heap.size + 1 + 1, 4, none⟩ (.int .i64 mv)).setCell ⟨w.heap.size + 1 + 1, 5, none⟩ (.slice iv ivn ivc)).setCell ⟨w.heap.size + 1 + 1, 6, none⟩ (.slice tv tvn tvc)) = w4 at *
      refine order_begin (fun W => Keeps NoB w4 W) (fun i => !(i == 3)) (by kernel_rfl) 5 rfl ?_
      have HS : Keeps NoB w4 w4.drew := (Keeps.refl _ _).drew
      refine order_held (i := 0) rfl (by kernel_rfl) (fun _ _ _ h => h) (.inl ⟨rfl, fun W hW => by
        have q0 : W.cell? ⟨w.heap.size + 1 + 1, 0, none⟩ = some (.int .u8 kv) := hW.cell id (HRA.out.cell 0)
        have q1 : W.cell? ⟨w.heap.size + 1 + 1, 1, none⟩ = some (.bool gv) := hW.cell id (HRA.out.cell 1)
        have q2 : W.cell? ⟨w.heap.size + 1 + 1, 2, none⟩ = some (.slice lv lvn lvc) := hW.cell id (HRA.out.cell 2)
        have q3 : W.cell? ⟨w.heap.size + 1 + 1, 3, none⟩ = some (.string sv) := hW.cell id (HRA.out.cell 3)
        have q4 : W.cell? ⟨w.heap.size + 1 + 1, 4, none⟩ = some (.int .i64 mv) := hW.cell id (HRA.out.cell 4)
        have q5 : W.cell? ⟨w.heap.size + 1 + 1, 5, none⟩ = some (.slice iv ivn ivc) := hW.cell id (HRA.out.cell 5)
        have q6 : W.cell? ⟨w.heap.size + 1 + 1, 6, none⟩ = some (.slice tv tvn tvc) := hW.cell id (HRA.out.cell 6)
        go_simp; rfl⟩) HS ?_
      try simp only [Act.put, List.setIfInBounds_toArray, List.set_cons_succ, List.set_cons_zero]
      refine order_held (i := 1) rfl (by kernel_rfl) (fun _ _ _ h => h) (.inl ⟨rfl, fun W hW => by
        have q0 : W.cell? ⟨w.heap.size + 1 + 1, 0, none⟩ = some (.int .u8 kv) := hW.cell id (HRA.out.cell 0)
        have q1 : W.cell? ⟨w.heap.size + 1 + 1, 1, none⟩ = some (.bool gv) := hW.cell id (HRA.out.cell 1)
        have q2 : W.cell? ⟨w.heap.size + 1 + 1, 2, none⟩ = some (.slice lv lvn lvc) := hW.cell id (HRA.out.cell 2)
        have q3 : W.cell? ⟨w.heap.size + 1 + 1, 3, none⟩ = some (.string sv) := hW.cell id (HRA.out.cell 3)
        have q4 : W.cell? ⟨w.heap.size + 1 + 1, 4, none⟩ = some (.int .i64 mv) := hW.cell id (HRA.out.cell 4)
        have q5 : W.cell? ⟨w.heap.size + 1 + 1, 5, none⟩ = some (.slice iv ivn ivc) := hW.cell id (HRA.out.cell 5)
        have q6 : W.cell? ⟨w.heap.size + 1 + 1, 6, none⟩ = some (.slice tv tvn tvc) := hW.cell id (HRA.out.cell 6)
        go_simp; rfl⟩) HS ?_
      try simp only [Act.put, List.setIfInBounds_toArray, List.set_cons_succ, List.set_cons_zero]
      refine order_one (i := 2) rfl (by kernel_rfl) (fun K hK => ?_)
      go_simp
      refine (tm_right zeroT _ _ _ _ _ _ _ _ _ _ _ _ _ _ _ _ (TermIn.keep HS (fun _ _ => id) _ _ HVA.out)).mono ?_
      rintro e w5 ⟨rfl, hk5⟩
      rw [zeroT_no]
      have HS5 : Keeps NoB w4 w5 := HS.trans' hk5 (fun _ _ => id) (fun _ _ => id)
      refine hK _ _ (fun _ _ => HS5) ?_
      have HKS := hide HS5
      clear hK HS hk5 HS5
      try simp only [Act.put, List.setIfInBounds_toArray, List.set_cons_succ, List.set_cons_zero]
      have HR5 := hide (HRA.out.keep HKS.out id)
      obtain ⟨q0, q1, q2, q3, q4, q5, q6⟩ := Blk.c7 (show Blk w5 (w.heap.size + 1 + 1) _ #[.int .u8 kv, .bool gv, .slice lv lvn lvc, .string sv, .int .i64 mv, .slice iv ivn ivc, .slice tv tvn tvc] from HR5.out)
      obtain ⟨f0, f1, f2, f3, f4, f5, f6⟩ := Blk.f7 (w := w5) (g := w.heap.size + 1 + 1) HR5.out
      refine order_one (i := 3) rfl (by kernel_rfl) (fun K hK => ?_)
      go_simp
      refine hK _ _ (fun h => absurd h (by decide)) ?_
      clear hK
      try simp only [Act.put, List.setIfInBounds_toArray, List.set_cons_succ, List.set_cons_zero]
      clear q0 f0 q1 f1 q2 f2 q3 f3 q4 f4 q5 f5 q6 f6
      refine order_pure (i := 4) rfl (by kernel_rfl) (fun _ _ _ h => h) (.inl ⟨rfl, fun _ => by go_simp; rfl⟩) ?_
      try simp only [Act.put, List.setIfInBounds_toArray, List.set_cons_succ, List.set_cons_zero]
      refine order_done (by kernel_rfl) ?_
      go_wp2_with fail
      have hA := HR5.out.tput7 (.int .u8 kv) (.bool gv) (.slice lv lvn lvc) (.string sv) (.int .i64 mv) (.slice iv ivn ivc) (.slice tv tvn tvc)
      have hk := keeps_tput7 w5 (w.heap.size + 1 + 1) (.int .u8 kv) (.bool gv) (.slice lv lvn lvc) (.string sv) (.int .i64 mv) (.slice iv ivn ivc) (.slice tv tvn tvc)
      refine bodyPost_ret (results_val _ _ _ _ _ _ _ _ _ _ _ rfl rfl hA) rfl ?_
      refine ⟨kv, gv, lv, lvn, lvc, sv, mv, iv, ivn, ivc, tv, tvn, tvc, rfl, ?_, ?_⟩
      · exact TermIn.more (fun k _ (hk : wr.heap.size ≤ k) => .inr (by omega)) _ _ (TermIn.keep hk (fun j (hj : wr.heap.size ≤ j) e => by omega) _ _ (TermIn.keep HKS.out (fun _ _ => id) _ _ HVA.out))
      · have h1 : Keeps NoB w w3 := HKF.out.trans' HK3.out (fun _ _ => id) (fun _ _ => id)
        have h2 : Keeps NoB w w4 := h1.trans' HKA.out (fun _ _ => id) (fun j hj e => by omega)
        exact (h2.trans' HKS.out (fun _ _ => id) (fun _ _ => id)).trans' hk (fun _ _ => id) (fun j hj e => by omega)
end Go.Proofs.YtjdbjjjbgibpaaaGreatDoor
namespace Go.Proofs.YtjdbjjjbgibpaaaGreatDoor
open Go.RowKit

/-- What a guard's expression is, wherever its cells lie. -/
def GuardV (N : Nat) (w : World) (A : Option Addr) (n c : Nat) (D : Option Addr) (m d : Nat) (k : Co) (t : Tm) (ok : Bool) : Prop := ∀ w', Keeps NoB w w' → ∀ (kd : Int) (tx : ByteArray) (nm tk : Int) (ng : Bool) (la : Option Addr) (ln lc : Nat) (tt : ByteArray) (tn : Int) (ia : Option Addr) (im ic : Nat) (ta : Option Addr) (tm tc : Nat) (ka : Option Addr) (kn kc : Nat), CoreIn w' (fun j => j < N) false [.int .u8 kd, .string tx, .int .i64 nm, .int .u8 tk, .bool ng, .slice la ln lc, .string tt, .int .i64 tn, .slice ia im ic, .slice ta tm tc, .slice ka kn kc] k → Calls Tryz.prog 34 #[.agg #[.slice A n c, .slice D m d], .agg #[.int .u8 kd, .string tx, .int .i64 nm, .int .u8 tk, .bool ng, .slice la ln lc, .string tt, .int .i64 tn, .slice ia im ic, .slice ta tm tc, .slice ka kn kc]] w' (GValP N w' t ok)
theorem CoreIn.parts {w : World} {B : Nat → Prop} {F : Bool} {k : Co} {kd : Int} {tx : ByteArray} {nm tk : Int} {ng : Bool} {la : Option Addr} {ln lc : Nat} {tt : ByteArray} {tn : Int} {ia : Option Addr} {im ic : Nat} {ta : Option Addr} {tm tc : Nat} {ka : Option Addr} {kn kc : Nat} (h : CoreIn w B F [.int .u8 kd, .string tx, .int .i64 nm, .int .u8 tk, .bool ng, .slice la ln lc, .string tt, .int .i64 tn, .slice ia im ic, .slice ta tm tc, .slice ka kn kc] k) : ∃ tr kids kcss, k = .mk kd tx nm tr kids ∧ TermIn w B F [.int .u8 tk, .bool ng, .slice la ln lc, .string tt, .int .i64 tn, .slice ia im ic, .slice ta tm tc] tr ∧ Roomy kn 160 ∧ Reads w B F 11 ka kn (List.flatten kcss) ∧ CoresIn w B F kcss kids ∧ kids.length = kn := by
  obtain ⟨_, _, _, _, _, _, _, _, _, _, _, _, _, _, _, _, _, _, _, tr, kids, kcss, rfl, e, htr, hkr, hkids, hkc, hkl⟩ := h.opened
  simp only [List.cons.injEq, Value.int.injEq, Value.bool.injEq, Value.slice.injEq, Value.string.injEq, true_and, and_true] at e
  obtain ⟨rfl, rfl, rfl, rfl, rfl, ⟨rfl, rfl, rfl⟩, rfl, rfl, ⟨rfl, rfl, rfl⟩, ⟨rfl, rfl, rfl⟩, rfl, rfl, rfl⟩ := e
  exact ⟨tr, kids, kcss, rfl, htr, hkr, hkids, hkc, hkl⟩
section
variable {N n c m d : Nat} {w : World} {A D : Option Addr}
theorem GuardV.keep {w1 : World} {k : Co} {t : Tm} {ok : Bool} (h : GuardV N w A n c D m d k t ok) (hk : Keeps NoB w w1) : GuardV N w1 A n c D m d k t ok := fun w' hk' => h w' (hk.trans' hk' (fun _ _ => id) (fun _ _ => id))
theorem gv_const (hN : N ≤ w.heap.size) (s : ByteArray) (z : Int) (t : Tm) (kids : List Co) : GuardV N w A n c D m d (.mk 1 s z t kids) t (rightT t) := by
  intro w' hk kd tx nm tk ng la ln lc tt tn ia im ic ta tm tc ka kn kc h
  obtain ⟨tr, kids', kcss, e, htr, _⟩ := h.parts
  injection e with e1 e2 e3 e4 e5
  subst e1 e4
  exact val_const A n c D m d _ _ _ _ _ _ _ _ _ _ _ _ _ _ _ _ _ _ _ N w' (Nat.le_trans hN hk.size) htr
/-- The first kid, and its cells. -/
theorem first_kid {B : Nat → Prop} {F : Bool} {kcss : List (List Value)} {k0 : Co} {rest : List Co} (h : CoresIn w B F kcss (k0 :: rest)) : ∃ kd tx nm tk ng la ln lc tt tn ia im ic ta tm tc ka kn kc kcss', kcss = [.int .u8 kd, .string tx, .int .i64 nm, .int .u8 tk, .bool ng, .slice la ln lc, .string tt, .int .i64 tn, .slice ia im ic, .slice ta tm tc, .slice ka kn kc] :: kcss' ∧ CoreIn w B F [.int .u8 kd, .string tx, .int .i64 nm, .int .u8 tk, .bool ng, .slice la ln lc, .string tt, .int .i64 tn, .slice ia im ic, .slice ta tm tc, .slice ka kn kc] k0 := by
  cases kcss with
  | nil => unfold CoresIn at h; exact h.elim
  | cons cs kcss' =>
    unfold CoresIn at h
    obtain ⟨kd, tx, nm, tk, ng, la, ln, lc, tt, tn, ia, im, ic, ta, tm, tc, ka, kn, kc, _, _, _, _, e, _⟩ := h.1.opened
    subst e
    exact ⟨kd, tx, nm, tk, ng, la, ln, lc, tt, tn, ia, im, ic, ta, tm, tc, ka, kn, kc, kcss', rfl, h.1⟩
theorem gv_all_no (hN : N ≤ w.heap.size) (s : ByteArray) (z : Int) (t t0 : Tm) (k0 : Co) (rest : List Co) (h0 : GuardV N w A n c D m d k0 t0 false) : GuardV N w A n c D m d (.mk 30 s z t (k0 :: rest)) t0 false := by
  intro w' hk kd tx nm tk ng la ln lc tt tn ia im ic ta tm tc ka kn kc h
  obtain ⟨tr, kids', kcss, e, htr, hr, hkr, hkc, hkl⟩ := h.parts
  injection e with e1 e2 e3 e4 e5
  subst e1 e5
  obtain ⟨kd0, tx0, nm0, tk0, ng0, la0, ln0, lc0, tt0, tn0, ia0, im0, ic0, ta0, tm0, tc0, ka0, kn0, kc0, kcss', rfl, hc0⟩ := first_kid hkc
  exact val_all_no A n c D m d _ _ _ _ _ _ _ _ _ _ _ _ _ _ _ _ _ _ _ _ _ _ _ _ _ _ _ _ _ _ _ _ _ _ _ _ _ kcss' t0 N w' (Nat.le_trans hN hk.size) (hkr.more (fun _ _ _ => trivial)) (by simp at hkl; omega) hr (fun w'' hk2 => h0 w'' (hk.trans' hk2 (fun _ _ => id) (fun _ _ => id)) _ _ _ _ _ _ _ _ _ _ _ _ _ _ _ _ _ _ _ (CoreIn.keep hk2 (fun _ _ => id) _ _ hc0))
theorem gv_any_no (hN : N ≤ w.heap.size) (s : ByteArray) (z : Int) (t t0 : Tm) (k0 : Co) (rest : List Co) (h0 : GuardV N w A n c D m d k0 t0 false) : GuardV N w A n c D m d (.mk 31 s z t (k0 :: rest)) t0 false := by
  intro w' hk kd tx nm tk ng la ln lc tt tn ia im ic ta tm tc ka kn kc h
  obtain ⟨tr, kids', kcss, e, htr, hr, hkr, hkc, hkl⟩ := h.parts
  injection e with e1 e2 e3 e4 e5
  subst e1 e5
  obtain ⟨kd0, tx0, nm0, tk0, ng0, la0, ln0, lc0, tt0, tn0, ia0, im0, ic0, ta0, tm0, tc0, ka0, kn0, kc0, kcss', rfl, hc0⟩ := first_kid hkc
  exact val_any_no A n c D m d _ _ _ _ _ _ _ _ _ _ _ _ _ _ _ _ _ _ _ _ _ _ _ _ _ _ _ _ _ _ _ _ _ _ _ _ _ kcss' t0 N w' (Nat.le_trans hN hk.size) (hkr.more (fun _ _ _ => trivial)) (by simp at hkl; omega) hr (fun w'' hk2 => h0 w'' (hk.trans' hk2 (fun _ _ => id) (fun _ _ => id)) _ _ _ _ _ _ _ _ _ _ _ _ _ _ _ _ _ _ _ (CoreIn.keep hk2 (fun _ _ => id) _ _ hc0))
theorem gv_all_one (hN : N ≤ w.heap.size) (s : ByteArray) (z : Int) (t t0 : Tm) (k0 : Co) (h0 : GuardV N w A n c D m d k0 t0 true) : GuardV N w A n c D m d (.mk 30 s z t [k0]) t0 true := by
  intro w' hk kd tx nm tk ng la ln lc tt tn ia im ic ta tm tc ka kn kc h
  obtain ⟨tr, kids', kcss, e, htr, hr, hkr, hkc, hkl⟩ := h.parts
  injection e with e1 e2 e3 e4 e5
  subst e1 e5
  obtain ⟨kd0, tx0, nm0, tk0, ng0, la0, ln0, lc0, tt0, tn0, ia0, im0, ic0, ta0, tm0, tc0, ka0, kn0, kc0, kcss', rfl, hc0⟩ := first_kid hkc
  exact val_all_one A n c D m d _ _ _ _ _ _ _ _ _ _ _ _ _ _ _ _ _ _ _ _ _ _ _ _ _ _ _ _ _ _ _ _ _ _ _ _ _ kcss' t0 N w' (Nat.le_trans hN hk.size) (hkr.more (fun _ _ _ => trivial)) (by simp at hkl; omega) (by simp at hkl; omega) hr (fun w'' hk2 => h0 w'' (hk.trans' hk2 (fun _ _ => id) (fun _ _ => id)) _ _ _ _ _ _ _ _ _ _ _ _ _ _ _ _ _ _ _ (CoreIn.keep hk2 (fun _ _ => id) _ _ hc0))
theorem gv_hd (hN : N ≤ w.heap.size) (z : Int) (t t0 : Tm) (k0 : Co) (hL : LaidK w) (hK : KindsAt w) (hr0 : rightT t0 = true) (hs0 : splitT t0 = none) (h0 : GuardV N w A n c D m d k0 t0 true) : GuardV N w A n c D m d (.mk 8 ⟨#[104, 100]⟩ z t [k0]) zeroT false := by
  intro w' hk kd tx nm tk ng la ln lc tt tn ia im ic ta tm tc ka kn kc h
  obtain ⟨tr, kids', kcss, e, htr, hr, hkr, hkc, hkl⟩ := h.parts
  injection e with e1 e2 e3 e4 e5
  subst e1 e2 e5
  obtain ⟨kd0, tx0, nm0, tk0, ng0, la0, ln0, lc0, tt0, tn0, ia0, im0, ic0, ta0, tm0, tc0, ka0, kn0, kc0, kcss', rfl, hc0⟩ := first_kid hkc
  obtain rfl : kn = 1 := by simpa using hkl.symm
  exact val_hd A n c D m d _ _ _ _ _ _ _ _ _ _ _ _ _ _ _ _ _ _ _ _ _ _ _ _ _ _ _ _ _ _ _ _ _ _ _ kcss' t0 N w' (Nat.le_trans hN hk.size) (hkr.more (fun _ _ _ => trivial)) (hL.keep hk) (hK.keep hk) hr0 hs0 (fun w'' hk2 => h0 w'' (hk.trans' hk2 (fun _ _ => id) (fun _ _ => id)) _ _ _ _ _ _ _ _ _ _ _ _ _ _ _ _ _ _ _ (CoreIn.keep hk2 (fun _ _ => id) _ _ hc0))
end
def trueT : Tm := flatT 2 ⟨#[116, 114, 117, 101]⟩ 0
set_option maxRecDepth 100000 in
theorem truth_true (w : World) : Calls Tryz.prog 35 #[.bool true] w fun e w' => e = .returned (.agg #[.int .u8 2, .bool false, .slice none 0 0, .string ⟨#[116, 114, 117, 101]⟩, .int .i64 0, .slice none 0 0, .slice none 0 0]) ∧ Keeps NoB w w' := by
  have hA := Blk.new w 26 #[.int .u8 2, .bool false, .slice none 0 0, .string ⟨#[116, 114, 117, 101]⟩, .int .i64 0, .slice none 0 0, .slice none 0 0]
  have HA := hide hA; have HK := hide ((Keeps.refl NoB w).alloc (.cells #[.int .u8 2, .bool false, .slice none 0 0, .string ⟨#[116, 114, 117, 101]⟩, .int .i64 0, .slice none 0 0, .slice none 0 0] 26))
  clear hA
  go_enter Tryz.func35, Tryz.ntmps35
  go_wp2_with fail
  refine bodyPost_ret (results7 Tryz.f35 2 (by kernel_rfl) _ _ _ _ _ _ _ _ _ _ rfl HA.out) rfl ?_
  exact ⟨rfl, HK.out⟩
/-- Is a guard's expression true: the closure of Guard. -/
def YesV (w : World) (vb : Nat) (k : Co) (N : Nat) (b : Bool) : Prop := ∀ w', Keeps NoB w w' → ∀ (kd : Int) (tx : ByteArray) (nm tk : Int) (ng : Bool) (la : Option Addr) (ln lc : Nat) (tt : ByteArray) (tn : Int) (ia : Option Addr) (im ic : Nat) (ta : Option Addr) (tm tc : Nat) (ka : Option Addr) (kn kc : Nat), CoreIn w' (fun j => j < N) false [.int .u8 kd, .string tx, .int .i64 nm, .int .u8 tk, .bool ng, .slice la ln lc, .string tt, .int .i64 tn, .slice ia im ic, .slice ta tm tc, .slice ka kn kc] k → Calls Tryz.prog 33 #[.agg #[.int .u8 kd, .string tx, .int .i64 nm, .int .u8 tk, .bool ng, .slice la ln lc, .string tt, .int .i64 tn, .slice ia im ic, .slice ta tm tc, .slice ka kn kc], .pointer (some ⟨vb, 0, none⟩)] w' fun e w'' => e = .returned (.bool b) ∧ Keeps NoB w' w''
theorem YesV.keep {w w1 : World} {vb N : Nat} {k : Co} {b : Bool} (h : YesV w vb k N b) (hk : Keeps NoB w w1) : YesV w1 vb k N b := fun w' hk' => h w' (hk.trans' hk' (fun _ _ => id) (fun _ _ => id))
set_option maxRecDepth 100000 in
set_option maxHeartbeats 4000000 in
theorem yes_no {N n c m d : Nat} {A D : Option Addr} {k : Co} {t : Tm} (w : World) (vb : Nat) (hvb : Blk w vb 39 #[.slice A n c, .slice D m d]) (hv : GuardV N w A n c D m d k t false) : YesV w vb k N false := by
  intro w' hk kd tx nm tk ng la ln lc tt tn ia im ic ta tm tc ka kn kc h
  have HVB := hide (hvb.keep hk id); have HV := hide (hv.keep hk); have HC := hide h
  clear hvb hv h hk
  have HB := hide (Blk.new w' 34 #[.int .u8 kd, .string tx, .int .i64 nm, .int .u8 tk, .bool ng, .slice la ln lc, .string tt, .int .i64 tn, .slice ia im ic, .slice ta tm tc, .slice ka kn kc]); have HKA := hide ((Keeps.refl NoB w').alloc (.cells #[.int .u8 kd, .string tx, .int .i64 nm, .int .u8 tk, .bool ng, .slice la ln lc, .string tt, .int .i64 tn, .slice ia im ic, .slice ta tm tc, .slice ka kn kc] 34))
  have e0 : (w'.alloc (.cells #[.int .u8 kd, .string tx, .int .i64 nm, .int .u8 tk, .bool ng, .slice la ln lc, .string tt, .int .i64 tn, .slice ia im ic, .slice ta tm tc, .slice ka kn kc] 34)).cell? ⟨w'.heap.size, 0, none⟩ = some (.int .u8 kd) := HB.out.cell 0; have e1 : (w'.alloc (.cells #[.int .u8 kd, .string tx, .int .i64 nm, .int .u8 tk, .bool ng, .slice la ln lc, .string tt, .int .i64 tn, .slice ia im ic, .slice ta tm tc, .slice ka kn kc] 34)).cell? ⟨w'.heap.size, 1, none⟩ = some (.string tx) := HB.out.cell 1; have e2 : (w'.alloc (.cells #[.int .u8 kd, .string tx, .int .i64 nm, .int .u8 tk, .bool ng, .slice la ln lc, .string tt, .int .i64 tn, .slice ia im ic, .slice ta tm tc, .slice ka kn kc] 34)).cell? ⟨w'.heap.size, 2, none⟩ = some (.int .i64 nm) := HB.out.cell 2; have e3 : (w'.alloc (.cells #[.int .u8 kd, .string tx, .int .i64 nm, .int .u8 tk, .bool ng, .slice la ln lc, .string tt, .int .i64 tn, .slice ia im ic, .slice ta tm tc, .slice ka kn kc] 34)).cell? ⟨w'.heap.size, 3, none⟩ = some (.int .u8 tk) := HB.out.cell 3; have e4 : (w'.alloc (.cells #[.int .u8 kd, .string tx, .int .i64 nm, .int .u8 tk, .bool ng, .slice la ln lc, .string tt, .int .i64 tn, .slice ia im ic, .slice ta tm tc, .slice ka kn kc] 34)).cell? ⟨w'.heap.size, 4, none⟩ = some (.bool ng) := HB.out.cell 4; have e5 : (w'.alloc (.cells #[.int .u8 kd, .string tx, .int .i64 nm, .int .u8 tk, .bool ng, .slice la ln lc, .string tt, .int .i64 tn, .slice ia im ic, .slice ta tm tc, .slice ka kn kc] 34)).cell? ⟨w'.heap.size, 5, none⟩ = some (.slice la ln lc) := HB.out.cell 5; have e6 : (w'.alloc (.cells #[.int .u8 kd, .string tx, .int .i64 nm, .int .u8 tk, .bool ng, .slice la ln lc, .string tt, .int .i64 tn, .slice ia im ic, .slice ta tm tc, .slice ka kn kc] 34)).cell? ⟨w'.heap.size, 6, none⟩ = some (.string tt) := HB.out.cell 6; have e7 : (w'.alloc (.cells #[.int .u8 kd, .string tx, .int .i64 nm, .int .u8 tk, .bool ng, .slice la ln lc, .string tt, .int .i64 tn, .slice ia im ic, .slice ta tm tc, .slice ka kn kc] 34)).cell? ⟨w'.heap.size, 7, none⟩ = some (.int .i64 tn) := HB.out.cell 7; have e8 : (w'.alloc (.cells #[.int .u8 kd, .string tx, .int .i64 nm, .int .u8 tk, .bool ng, .slice la ln lc, .string tt, .int .i64 tn, .slice ia im ic, .slice ta tm tc, .slice ka kn kc] 34)).cell? ⟨w'.heap.size, 8, none⟩ = some (.slice ia im ic) := HB.out.cell 8; have e9 : (w'.alloc (.cells #[.int .u8 kd, .string tx, .int .i64 nm, .int .u8 tk, .bool ng, .slice la ln lc, .string tt, .int .i64 tn, .slice ia im ic, .slice ta tm tc, .slice ka kn kc] 34)).cell? ⟨w'.heap.size, 9, none⟩ = some (.slice ta tm tc) := HB.out.cell 9; have e10 : (w'.alloc (.cells #[.int .u8 kd, .string tx, .int .i64 nm, .int .u8 tk, .bool ng, .slice la ln lc, .string tt, .int .i64 tn, .slice ia im ic, .slice ta tm tc, .slice ka kn kc] 34)).cell? ⟨w'.heap.size, 10, none⟩ = some (.slice ka kn kc) := HB.out.cell 10
  have v0 : (w'.alloc (.cells #[.int .u8 kd, .string tx, .int .i64 nm, .int .u8 tk, .bool ng, .slice la ln lc, .string tt, .int .i64 tn, .slice ia im ic, .slice ta tm tc, .slice ka kn kc] 34)).cell? ⟨vb, 0, none⟩ = some (.slice A n c) := (HVB.out.keep HKA.out id).cell 0
  have v1 : (w'.alloc (.cells #[.int .u8 kd, .string tx, .int .i64 nm, .int .u8 tk, .bool ng, .slice la ln lc, .string tt, .int .i64 tn, .slice ia im ic, .slice ta tm tc, .slice ka kn kc] 34)).cell? ⟨vb, 1, none⟩ = some (.slice D m d) := (HVB.out.keep HKA.out id).cell 1
  go_enter Tryz.func33, Tryz.ntmps33
  go_upto_region 2 with
    first
    | (go_at_call 34
       refine (HV.out _ HKA.out _ _ _ _ _ _ _ _ _ _ _ _ _ _ _ _ _ _ _ (CoreIn.keep HKA.out (fun _ _ => id) _ _ HC.out)).mono ?_
       rintro e w2 ⟨k1, g1, a1, n1, c1, s1, m1, a2, n2, c2, a3, n3, c3, rfl, ht2, hk2⟩
       have HT2 := hide ht2
       have HK2 := hide (HKA.out.trans' hk2 (fun _ _ => id) (fun _ _ => id) : Keeps NoB w' w2)
       clear hk2 ht2)
    | fail
  clear e0 e1 e2 e3 e4 e5 e6 e7 e8 e9 e10 v0 v1
  have HBT := hide (Blk.new w2 26 #[.int .u8 k1, .bool g1, .slice a1 n1 c1, .string s1, .int .i64 m1, .slice a2 n2 c2, .slice a3 n3 c3])
  have HK3 := hide (HK2.out.alloc (.cells #[.int .u8 k1, .bool g1, .slice a1 n1 c1, .string s1, .int .i64 m1, .slice a2 n2 c2, .slice a3 n3 c3] 26))
  have HT3 := hide (TermIn.keep ((Keeps.refl NoB w2).alloc (.cells #[.int .u8 k1, .bool g1, .slice a1 n1 c1, .string s1, .int .i64 m1, .slice a2 n2 c2, .slice a3 n3 c3] 26)) (fun _ _ => id) _ _ HT2.out)
  generalize w2.alloc (.cells #[.int .u8 k1, .bool g1, .slice a1 n1 c1, .string s1, .int .i64 m1, .slice a2 n2 c2, .slice a3 n3 c3] 26) = w3 at *
  refine order_begin (fun W => Keeps NoB w3 W) (fun _ => true) (by kernel_rfl) 7 rfl ?_
  have HS : Keeps NoB w3 w3.drew := (Keeps.refl _ _).drew
  refine order_pure (i := 0) rfl (by kernel_rfl) (fun _ _ _ h => h) (.inl ⟨rfl, fun _ => by go_simp; rfl⟩) ?_
  try simp only [Act.put, List.setIfInBounds_toArray, List.set_cons_succ, List.set_cons_zero]
  refine order_pure (i := 1) rfl (by kernel_rfl) (fun _ _ _ h => h) (.inl ⟨rfl, fun _ => by go_simp; rfl⟩) ?_
  try simp only [Act.put, List.setIfInBounds_toArray, List.set_cons_succ, List.set_cons_zero]
  refine order_skip (i := 2) rfl (by kernel_rfl) (fun _ _ _ h => h) (by kernel_rfl) ?_
  try simp only [Act.put, List.setIfInBounds_toArray, List.set_cons_succ, List.set_cons_zero]
  refine order_skip (i := 3) rfl (by kernel_rfl) (fun _ _ _ h => h) (by kernel_rfl) ?_
  try simp only [Act.put, List.setIfInBounds_toArray, List.set_cons_succ, List.set_cons_zero]
  refine order_skip (i := 4) rfl (by kernel_rfl) (fun _ _ _ h => h) (by kernel_rfl) ?_
  try simp only [Act.put, List.setIfInBounds_toArray, List.set_cons_succ, List.set_cons_zero]
  refine order_pure (i := 5) rfl (by kernel_rfl) (fun _ _ _ h => h) (.inl ⟨rfl, fun _ => by go_simp; rfl⟩) ?_
  try simp only [Act.put, List.setIfInBounds_toArray, List.set_cons_succ, List.set_cons_zero]
  refine order_pure (i := 6) rfl (by kernel_rfl) (fun _ _ _ h => h) (.inl ⟨rfl, fun _ => by go_simp; rfl⟩) ?_
  try simp only [Act.put, List.setIfInBounds_toArray, List.set_cons_succ, List.set_cons_zero]
  refine order_done (by kernel_rfl) ?_
  have HKF := hide (HK3.out.trans' HS (fun _ _ => id) (fun _ _ => id) : Keeps NoB w' _)
  clear HS
  go_wp2_with fail
  go_ret
  exact ⟨rfl, HKF.out⟩
set_option maxRecDepth 100000 in
set_option maxHeartbeats 4000000 in
theorem yes_any {N n c m d : Nat} {A D : Option Addr} {k : Co} {t : Tm} (w : World) (vb : Nat) (hot : okT t) (hvb : Blk w vb 39 #[.slice A n c, .slice D m d]) (hv : GuardV N w A n c D m d k t true) : YesV w vb k N (sameT t trueT) := by
  intro w' hk kd tx nm tk ng la ln lc tt tn ia im ic ta tm tc ka kn kc h
  have HVB := hide (hvb.keep hk id); have HV := hide (hv.keep hk); have HC := hide h
  have HOT := hide hot; have HOTT := hide (show okT trueT from by unfold trueT flatT okT okTs; exact ⟨by omega, (fun _ h => by cases h), by decide, by omega, trivial, trivial⟩)
  clear hot
  clear hvb hv h hk
  have HB := hide (Blk.new w' 34 #[.int .u8 kd, .string tx, .int .i64 nm, .int .u8 tk, .bool ng, .slice la ln lc, .string tt, .int .i64 tn, .slice ia im ic, .slice ta tm tc, .slice ka kn kc]); have HKA := hide ((Keeps.refl NoB w').alloc (.cells #[.int .u8 kd, .string tx, .int .i64 nm, .int .u8 tk, .bool ng, .slice la ln lc, .string tt, .int .i64 tn, .slice ia im ic, .slice ta tm tc, .slice ka kn kc] 34))
  have e0 : (w'.alloc (.cells #[.int .u8 kd, .string tx, .int .i64 nm, .int .u8 tk, .bool ng, .slice la ln lc, .string tt, .int .i64 tn, .slice ia im ic, .slice ta tm tc, .slice ka kn kc] 34)).cell? ⟨w'.heap.size, 0, none⟩ = some (.int .u8 kd) := HB.out.cell 0; have e1 : (w'.alloc (.cells #[.int .u8 kd, .string tx, .int .i64 nm, .int .u8 tk, .bool ng, .slice la ln lc, .string tt, .int .i64 tn, .slice ia im ic, .slice ta tm tc, .slice ka kn kc] 34)).cell? ⟨w'.heap.size, 1, none⟩ = some (.string tx) := HB.out.cell 1; have e2 : (w'.alloc (.cells #[.int .u8 kd, .string tx, .int .i64 nm, .int .u8 tk, .bool ng, .slice la ln lc, .string tt, .int .i64 tn, .slice ia im ic, .slice ta tm tc, .slice ka kn kc] 34)).cell? ⟨w'.heap.size, 2, none⟩ = some (.int .i64 nm) := HB.out.cell 2; have e3 : (w'.alloc (.cells #[.int .u8 kd, .string tx, .int .i64 nm, .int .u8 tk, .bool ng, .slice la ln lc, .string tt, .int .i64 tn, .slice ia im ic, .slice ta tm tc, .slice ka kn kc] 34)).cell? ⟨w'.heap.size, 3, none⟩ = some (.int .u8 tk) := HB.out.cell 3; have e4 : (w'.alloc (.cells #[.int .u8 kd, .string tx, .int .i64 nm, .int .u8 tk, .bool ng, .slice la ln lc, .string tt, .int .i64 tn, .slice ia im ic, .slice ta tm tc, .slice ka kn kc] 34)).cell? ⟨w'.heap.size, 4, none⟩ = some (.bool ng) := HB.out.cell 4; have e5 : (w'.alloc (.cells #[.int .u8 kd, .string tx, .int .i64 nm, .int .u8 tk, .bool ng, .slice la ln lc, .string tt, .int .i64 tn, .slice ia im ic, .slice ta tm tc, .slice ka kn kc] 34)).cell? ⟨w'.heap.size, 5, none⟩ = some (.slice la ln lc) := HB.out.cell 5; have e6 : (w'.alloc (.cells #[.int .u8 kd, .string tx, .int .i64 nm, .int .u8 tk, .bool ng, .slice la ln lc, .string tt, .int .i64 tn, .slice ia im ic, .slice ta tm tc, .slice ka kn kc] 34)).cell? ⟨w'.heap.size, 6, none⟩ = some (.string tt) := HB.out.cell 6; have e7 : (w'.alloc (.cells #[.int .u8 kd, .string tx, .int .i64 nm, .int .u8 tk, .bool ng, .slice la ln lc, .string tt, .int .i64 tn, .slice ia im ic, .slice ta tm tc, .slice ka kn kc] 34)).cell? ⟨w'.heap.size, 7, none⟩ = some (.int .i64 tn) := HB.out.cell 7; have e8 : (w'.alloc (.cells #[.int .u8 kd, .string tx, .int .i64 nm, .int .u8 tk, .bool ng, .slice la ln lc, .string tt, .int .i64 tn, .slice ia im ic, .slice ta tm tc, .slice ka kn kc] 34)).cell? ⟨w'.heap.size, 8, none⟩ = some (.slice ia im ic) := HB.out.cell 8; have e9 : (w'.alloc (.cells #[.int .u8 kd, .string tx, .int .i64 nm, .int .u8 tk, .bool ng, .slice la ln lc, .string tt, .int .i64 tn, .slice ia im ic, .slice ta tm tc, .slice ka kn kc] 34)).cell? ⟨w'.heap.size, 9, none⟩ = some (.slice ta tm tc) := HB.out.cell 9; have e10 : (w'.alloc (.cells #[.int .u8 kd, .string tx, .int .i64 nm, .int .u8 tk, .bool ng, .slice la ln lc, .string tt, .int .i64 tn, .slice ia im ic, .slice ta tm tc, .slice ka kn kc] 34)).cell? ⟨w'.heap.size, 10, none⟩ = some (.slice ka kn kc) := HB.out.cell 10
  have v0 : (w'.alloc (.cells #[.int .u8 kd, .string tx, .int .i64 nm, .int .u8 tk, .bool ng, .slice la ln lc, .string tt, .int .i64 tn, .slice ia im ic, .slice ta tm tc, .slice ka kn kc] 34)).cell? ⟨vb, 0, none⟩ = some (.slice A n c) := (HVB.out.keep HKA.out id).cell 0
  have v1 : (w'.alloc (.cells #[.int .u8 kd, .string tx, .int .i64 nm, .int .u8 tk, .bool ng, .slice la ln lc, .string tt, .int .i64 tn, .slice ia im ic, .slice ta tm tc, .slice ka kn kc] 34)).cell? ⟨vb, 1, none⟩ = some (.slice D m d) := (HVB.out.keep HKA.out id).cell 1
  go_enter Tryz.func33, Tryz.ntmps33
  go_upto_region 2 with
    first
    | (go_at_call 34
       refine (HV.out _ HKA.out _ _ _ _ _ _ _ _ _ _ _ _ _ _ _ _ _ _ _ (CoreIn.keep HKA.out (fun _ _ => id) _ _ HC.out)).mono ?_
       rintro e w2 ⟨k1, g1, a1, n1, c1, s1, m1, a2, n2, c2, a3, n3, c3, rfl, ht2, hk2⟩
       have HT2 := hide ht2
       have HK2 := hide (HKA.out.trans' hk2 (fun _ _ => id) (fun _ _ => id) : Keeps NoB w' w2)
       clear hk2 ht2)
    | fail
  clear e0 e1 e2 e3 e4 e5 e6 e7 e8 e9 e10 v0 v1
  have HBT := hide (Blk.new w2 26 #[.int .u8 k1, .bool g1, .slice a1 n1 c1, .string s1, .int .i64 m1, .slice a2 n2 c2, .slice a3 n3 c3])
  have HK3 := hide (HK2.out.alloc (.cells #[.int .u8 k1, .bool g1, .slice a1 n1 c1, .string s1, .int .i64 m1, .slice a2 n2 c2, .slice a3 n3 c3] 26))
  have HT3 := hide (TermIn.keep ((Keeps.refl NoB w2).alloc (.cells #[.int .u8 k1, .bool g1, .slice a1 n1 c1, .string s1, .int .i64 m1, .slice a2 n2 c2, .slice a3 n3 c3] 26)) (fun _ _ => id) _ _ HT2.out)
  generalize w2.alloc (.cells #[.int .u8 k1, .bool g1, .slice a1 n1 c1, .string s1, .int .i64 m1, .slice a2 n2 c2, .slice a3 n3 c3] 26) = w3 at *
  refine order_begin (fun W => Keeps NoB w3 W) (fun _ => true) (by kernel_rfl) 7 rfl ?_
  have HS : Keeps NoB w3 w3.drew := (Keeps.refl _ _).drew
  refine order_pure (i := 0) rfl (by kernel_rfl) (fun _ _ _ h => h) (.inl ⟨rfl, fun _ => by go_simp; rfl⟩) ?_
  try simp only [Act.put, List.setIfInBounds_toArray, List.set_cons_succ, List.set_cons_zero]
  refine order_pure (i := 1) rfl (by kernel_rfl) (fun _ _ _ h => h) (.inl ⟨rfl, fun _ => by go_simp; rfl⟩) ?_
  try simp only [Act.put, List.setIfInBounds_toArray, List.set_cons_succ, List.set_cons_zero]
  refine order_held (i := 2) rfl (by kernel_rfl) (fun _ _ _ h => h) (.inl ⟨rfl, fun W hW => by
    have q0 : W.cell? ⟨w2.heap.size, 0, none⟩ = some (.int .u8 k1) := hW.cell id (HBT.out.cell 0)
    have q1 : W.cell? ⟨w2.heap.size, 1, none⟩ = some (.bool g1) := hW.cell id (HBT.out.cell 1)
    have q2 : W.cell? ⟨w2.heap.size, 2, none⟩ = some (.slice a1 n1 c1) := hW.cell id (HBT.out.cell 2)
    have q3 : W.cell? ⟨w2.heap.size, 3, none⟩ = some (.string s1) := hW.cell id (HBT.out.cell 3)
    have q4 : W.cell? ⟨w2.heap.size, 4, none⟩ = some (.int .i64 m1) := hW.cell id (HBT.out.cell 4)
    have q5 : W.cell? ⟨w2.heap.size, 5, none⟩ = some (.slice a2 n2 c2) := hW.cell id (HBT.out.cell 5)
    have q6 : W.cell? ⟨w2.heap.size, 6, none⟩ = some (.slice a3 n3 c3) := hW.cell id (HBT.out.cell 6)
    go_simp; rfl⟩) HS ?_
  try simp only [Act.put, List.setIfInBounds_toArray, List.set_cons_succ, List.set_cons_zero]
  refine order_one (i := 3) rfl (by kernel_rfl) (fun K hK => ?_)
  go_simp
  refine (truth_true _).mono ?_
  rintro e w4 ⟨rfl, hk4⟩
  have HS4 : Keeps NoB w3 w4 := HS.trans' hk4 (fun _ _ => id) (fun _ _ => id)
  refine hK _ _ (fun _ _ => HS4) ?_
  clear hK HS hk4
  have HS := HS4
  clear HS4
  try simp only [Act.put, List.setIfInBounds_toArray, List.set_cons_succ, List.set_cons_zero]
  refine order_one (i := 4) rfl (by kernel_rfl) (fun K hK => ?_)
  go_simp
  refine (same_any t trueT HOT.out HOTT.out w4 _ _ _ _ _ _ _ _ _ _ _ _ _ _ _ _ _ _ _ _ _ _ _ _ _ _ _ _ _ _ (TermIn.keep HS (fun _ _ => id) _ _ HT3.out) (flat_in w4 (fun _ => True) false 2 ⟨#[116, 114, 117, 101]⟩ 0)).mono ?_
  rintro e w5 ⟨rfl, hk5⟩
  have HS5 : Keeps NoB w3 w5 := HS.trans' hk5 (fun _ _ => id) (fun _ _ => id)
  refine hK _ _ (fun _ _ => HS5) ?_
  have HKF := hide (HK3.out.trans' HS5 (fun _ _ => id) (fun _ _ => id) : Keeps NoB w' w5)
  clear hK HS hk5 HS5
  try simp only [Act.put, List.setIfInBounds_toArray, List.set_cons_succ, List.set_cons_zero]
  refine order_pure (i := 5) rfl (by kernel_rfl) (fun _ _ _ h => h) (.inl ⟨rfl, fun _ => by go_simp; rfl⟩) ?_
  try simp only [Act.put, List.setIfInBounds_toArray, List.set_cons_succ, List.set_cons_zero]
  refine order_pure (i := 6) rfl (by kernel_rfl) (fun _ _ _ h => h) (.inl ⟨rfl, fun _ => by go_simp; rfl⟩) ?_
  try simp only [Act.put, List.setIfInBounds_toArray, List.set_cons_succ, List.set_cons_zero]
  refine order_done (by kernel_rfl) ?_
  go_wp2_with fail
  go_ret
  exact ⟨rfl, HKF.out⟩
end Go.Proofs.YtjdbjjjbgibpaaaGreatDoor
