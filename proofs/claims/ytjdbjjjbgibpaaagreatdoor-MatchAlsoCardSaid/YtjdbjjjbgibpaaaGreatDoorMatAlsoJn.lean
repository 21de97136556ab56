/- law11.MatchAlso. Printed by mkmatalso.py. -/
import Derived.Test.YtjdbjjjbgibpaaaGreatDoorMatTrJn
namespace Go.Proofs.YtjdbjjjbgibpaaaGreatDoor
open Go.RowKit

def anyC0 : Co := .mk 20 ⟨#[]⟩ 0 zeroTm []
def alsoC (p q : Co) : Co := .mk 26 ⟨#[]⟩ 0 zeroTm [p, q]
theorem also_rows (p q : Co) (t : Tm) (v : VSt) (hm : v.made) : matchF (alsoC p q) t v = if rightT t = true then (matchN p t v).bind (matchN q t) else none := by
  unfold matchF alsoC
  by_cases h : rightT t = true
  · rw [if_pos ⟨h, hm⟩, if_pos h]
    exact (show matchN (.mk 26 ⟨#[]⟩ 0 zeroTm [p, q]) t v = rowsN [p, q] [t, t] v from by unfold matchN; rfl).trans (two_rows p q t t v)
  · rw [if_neg (fun e => h e.1), if_neg h]
theorem matchF_right (p : Co) (t : Tm) (v : VSt) (hm : v.made) : matchF p t v = if rightT t = true then matchN p t v else none := by
  unfold matchF
  by_cases h : rightT t = true
  · rw [if_pos ⟨h, hm⟩, if_pos h]
  · rw [if_neg (fun e => h e.1), if_neg h]
theorem matchF_made {p : Co} {t : Tm} {v v' : VSt} (h : matchF p t v = some v') : v'.made := by
  unfold matchF at h
  split at h
  · rename_i hc
    have h2 := matchN_len p t v v' h
    unfold VSt.made
    omega
  · cases h
theorem noV_made : noV.made := rfl
theorem getD_made {p : Co} {t : Tm} {v : VSt} : ((matchF p t v).getD noV).made := by
  cases h : matchF p t v with
  | none => exact noV_made
  | some v' => exact matchF_made h
/-- Both match where the one matches and the other behind it. -/
theorem also_law (p q : Co) (t : Tm) (v : VSt) (hm : v.made) : (matchF (alsoC p q) t v).isSome = ((matchF p t v).isSome && (matchF q t ((matchF p t v).getD noV)).isSome) ∧ ((matchF (alsoC p q) t v).isSome = true → matchF (alsoC p q) t v = matchF q t ((matchF p t v).getD noV)) := by
  rw [also_rows p q t v hm]
  cases hr : rightT t with
  | false =>
    rw [if_neg (by decide), matchF_right p t v hm, hr, if_neg (by decide)]
    exact ⟨rfl, fun h => by cases h⟩
  | true =>
    have hq := matchF_right q t ((matchF p t v).getD noV) getD_made
    rw [hr, if_pos rfl] at hq
    rw [if_pos rfl, hq, matchF_right p t v hm, hr, if_pos rfl]
    cases h : matchN p t v with
    | none => exact ⟨rfl, fun h => by cases h⟩
    | some v1 => exact ⟨by simp, fun _ => rfl⟩
theorem any_law (p : Co) (t : Tm) (v : VSt) (hm : v.made) : matchF (alsoC anyC0 p) t v = matchF p t v := by
  rw [also_rows anyC0 p t v hm, matchF_right p t v hm]
  have h : matchN anyC0 t v = some v := by unfold anyC0 matchN; rw [if_pos rfl]
  rw [h]
  rfl
theorem twice_law (t : Tm) : (matchF (alsoC bindC sameC) t (newV 1)).isSome = rightT t := by
  rw [also_rows _ _ t _ (newV_made 1)]
  cases hr : rightT t with
  | false => rfl
  | true =>
    rw [if_pos rfl]
    have h1 : matchN bindC t (newV 1) = some ⟨[true], [t]⟩ := by unfold bindC matchN; rw [if_neg (by decide), if_pos rfl, if_neg (by unfold newV; simp)]; rfl
    rw [h1, Option.bind_some]
    unfold sameC matchN
    rw [if_neg (by decide), if_neg (by decide), if_pos rfl]
    show (if sameT t t = true then some (⟨[true], [t]⟩ : VSt) else none).isSome = true
    rw [show sameT t t = true from by unfold sameT; rw [hr, order_self]; rfl]
    rfl
theorem anyC0_ok : okC anyC0 := core_ok 20 0 _ (by omega) (by omega) cores_ok_nil
theorem alsoC_ok {p q : Co} (hp : okC p) (hq : okC q) : okC (alsoC p q) := core_ok 26 0 _ (by omega) (by omega) (cores_ok_two hp hq)
set_option maxRecDepth 100000 in
set_option maxHeartbeats 8000000 in
set_option pp.deepTerms true in
set_option pp.maxSteps 100000 in
theorem also_any (p q : Co) (t : Tm) (z : Int) (hop : okC p) (hoq : okC q) (hot : okT t) (w : World) (hL : LaidK w) (hKi : KindsAt w) (ck1 : Int) (cx1 : ByteArray) (cn1 tk1 : Int) (cg1 : Bool) (ca1 : Option Addr) (cl1 cc1 : Nat) (tt1 : ByteArray) (tz1 : Int) (ja1 : Option Addr) (jm1 jc1 : Nat) (ua1 : Option Addr) (um1 uc1 : Nat) (ka1 : Option Addr) (kn1 kc1 : Nat) (ck2 : Int) (cx2 : ByteArray) (cn2 tk2 : Int) (cg2 : Bool) (ca2 : Option Addr) (cl2 cc2 : Nat) (tt2 : ByteArray) (tz2 : Int) (ja2 : Option Addr) (jm2 jc2 : Nat) (ua2 : Option Addr) (um2 uc2 : Nat) (ka2 : Option Addr) (kn2 kc2 : Nat) (kd3 : Int) (ng3 : Bool) (la3 : Option Addr) (ln3 lc3 : Nat) (tx3 : ByteArray) (nm3 : Int) (ia3 : Option Addr) (im3 ic3 : Nat) (ta3 : Option Addr) (tn3 tc3 : Nat) (hp : CoreIn w TT false [.int .u8 ck1, .string cx1, .int .i64 cn1, .int .u8 tk1, .bool cg1, .slice ca1 cl1 cc1, .string tt1, .int .i64 tz1, .slice ja1 jm1 jc1, .slice ua1 um1 uc1, .slice ka1 kn1 kc1] p) (hq : CoreIn w TT false [.int .u8 ck2, .string cx2, .int .i64 cn2, .int .u8 tk2, .bool cg2, .slice ca2 cl2 cc2, .string tt2, .int .i64 tz2, .slice ja2 jm2 jc2, .slice ua2 um2 uc2, .slice ka2 kn2 kc2] q) (ht : TermIn w TT false [.int .u8 kd3, .bool ng3, .slice la3 ln3 lc3, .string tx3, .int .i64 nm3, .slice ia3 im3 ic3, .slice ta3 tn3 tc3] t) :
    Calls Tryz.prog 4 #[.agg #[.int .u8 ck1, .string cx1, .int .i64 cn1, .int .u8 tk1, .bool cg1, .slice ca1 cl1 cc1, .string tt1, .int .i64 tz1, .slice ja1 jm1 jc1, .slice ua1 um1 uc1, .slice ka1 kn1 kc1], .agg #[.int .u8 ck2, .string cx2, .int .i64 cn2, .int .u8 tk2, .bool cg2, .slice ca2 cl2 cc2, .string tt2, .int .i64 tz2, .slice ja2 jm2 jc2, .slice ua2 um2 uc2, .slice ka2 kn2 kc2], .agg #[.int .u8 kd3, .bool ng3, .slice la3 ln3 lc3, .string tx3, .int .i64 nm3, .slice ia3 im3 ic3, .slice ta3 tn3 tc3], .int .i64 z] w fun e w' => e = .returned (.bool true) ∧ Keeps NoB w w' := by
  have HK0 := hide ((((Keeps.refl NoB w).alloc (.cells #[.int .u8 ck1, .string cx1, .int .i64 cn1, .int .u8 tk1, .bool cg1, .slice ca1 cl1 cc1, .string tt1, .int .i64 tz1, .slice ja1 jm1 jc1, .slice ua1 um1 uc1, .slice ka1 kn1 kc1] 34)).alloc (.cells #[.int .u8 ck2, .string cx2, .int .i64 cn2, .int .u8 tk2, .bool cg2, .slice ca2 cl2 cc2, .string tt2, .int .i64 tz2, .slice ja2 jm2 jc2, .slice ua2 um2 uc2, .slice ka2 kn2 kc2] 34)).alloc (.cells #[.int .u8 kd3, .bool ng3, .slice la3 ln3 lc3, .string tx3, .int .i64 nm3, .slice ia3 im3 ic3, .slice ta3 tn3 tc3] 26))
  have HBP := hide (three_tblks w 34 34 26 #[.int .u8 ck1, .string cx1, .int .i64 cn1, .int .u8 tk1, .bool cg1, .slice ca1 cl1 cc1, .string tt1, .int .i64 tz1, .slice ja1 jm1 jc1, .slice ua1 um1 uc1, .slice ka1 kn1 kc1] #[.int .u8 ck2, .string cx2, .int .i64 cn2, .int .u8 tk2, .bool cg2, .slice ca2 cl2 cc2, .string tt2, .int .i64 tz2, .slice ja2 jm2 jc2, .slice ua2 um2 uc2, .slice ka2 kn2 kc2] #[.int .u8 kd3, .bool ng3, .slice la3 ln3 lc3, .string tx3, .int .i64 nm3, .slice ia3 im3 ic3, .slice ta3 tn3 tc3]).1; have HBQ := hide (three_tblks w 34 34 26 #[.int .u8 ck1, .string cx1, .int .i64 cn1, .int .u8 tk1, .bool cg1, .slice ca1 cl1 cc1, .string tt1, .int .i64 tz1, .slice ja1 jm1 jc1, .slice ua1 um1 uc1, .slice ka1 kn1 kc1] #[.int .u8 ck2, .string cx2, .int .i64 cn2, .int .u8 tk2, .bool cg2, .slice ca2 cl2 cc2, .string tt2, .int .i64 tz2, .slice ja2 jm2 jc2, .slice ua2 um2 uc2, .slice ka2 kn2 kc2] #[.int .u8 kd3, .bool ng3, .slice la3 ln3 lc3, .string tx3, .int .i64 nm3, .slice ia3 im3 ic3, .slice ta3 tn3 tc3]).2.1; have HBT := hide (three_tblks w 34 34 26 #[.int .u8 ck1, .string cx1, .int .i64 cn1, .int .u8 tk1, .bool cg1, .slice ca1 cl1 cc1, .string tt1, .int .i64 tz1, .slice ja1 jm1 jc1, .slice ua1 um1 uc1, .slice ka1 kn1 kc1] #[.int .u8 ck2, .string cx2, .int .i64 cn2, .int .u8 tk2, .bool cg2, .slice ca2 cl2 cc2, .string tt2, .int .i64 tz2, .slice ja2 jm2 jc2, .slice ua2 um2 uc2, .slice ka2 kn2 kc2] #[.int .u8 kd3, .bool ng3, .slice la3 ln3 lc3, .string tx3, .int .i64 nm3, .slice ia3 im3 ic3, .slice ta3 tn3 tc3]).2.2
  have HP := hide (CoreIn.keep HK0.out (fun _ _ => id) _ _ hp); have HQ := hide (CoreIn.keep HK0.out (fun _ _ => id) _ _ hq); have HT := hide (TermIn.keep HK0.out (fun _ _ => id) _ _ ht)
  have HL := hide (hL.keep HK0.out); have HKI := hide (hKi.keep HK0.out)
  have HOP := hide hop; have HOQ := hide hoq; have HOT := hide hot
  clear hp hq ht hop hoq hot hL hKi
  go_enter Tryz.func4, Tryz.ntmps4
  go_upto_region 1 with fail
  generalize ((w.alloc (.cells #[.int .u8 ck1, .string cx1, .int .i64 cn1, .int .u8 tk1, .bool cg1, .slice ca1 cl1 cc1, .string tt1, .int .i64 tz1, .slice ja1 jm1 jc1, .slice ua1 um1 uc1, .slice ka1 kn1 kc1] 34)).alloc (.cells #[.int .u8 ck2, .string cx2, .int .i64 cn2, .int .u8 tk2, .bool cg2, .slice ca2 cl2 cc2, .string tt2, .int .i64 tz2, .slice ja2 jm2 jc2, .slice ua2 um2 uc2, .slice ka2 kn2 kc2] 34)).alloc (.cells #[.int .u8 kd3, .bool ng3, .slice la3 ln3 lc3, .string tx3, .int .i64 nm3, .slice ia3 im3 ic3, .slice ta3 tn3 tc3] 26) = w0 at *
  obtain ⟨gp, hgp⟩ : ∃ g, w.heap.size = g := ⟨_, rfl⟩
  rw [hgp] at HBP HBQ HBT
  simp only [hgp]
  have HGP := hide hgp
  clear hgp
  have M1 := hide True.intro
  go_upto_region 5 with
    first
    | (go_at_call 5
       refine (awake_any w0 HL.out HKI.out).mono ?_
       rintro e w1 ⟨rfl, hk1⟩
       have HK1 := hide (hk1 : Keeps NoB w0 w1)
       have hB := HBP.out.keep hk1 id; have hT := HBT.out.keep hk1 id
       have p0 := hB.cell 0; have p1 := hB.cell 1; have p2 := hB.cell 2; have p3 := hB.cell 3; have p4 := hB.cell 4; have p5 := hB.cell 5; have p6 := hB.cell 6; have p7 := hB.cell 7; have p8 := hB.cell 8; have p9 := hB.cell 9; have p10 := hB.cell 10; have t0 := hT.cell 0; have t1 := hT.cell 1; have t2 := hT.cell 2; have t3 := hT.cell 3; have t4 := hT.cell 4; have t5 := hT.cell 5; have t6 := hT.cell 6
       clear hB hT hk1)
    | (go_at_call 14
       have hm := M1; clear hm M1
       refine (great_nil p t HOP.out HOT.out w1 _ _ _ _ _ _ _ _ _ _ _ _ _ _ _ _ _ _ _ _ _ _ _ _ _ _ _ _ _ _ _ _ (CoreIn.keep HK1.out (fun _ _ => id) _ _ HP.out) (TermIn.keep HK1.out (fun _ _ => id) _ _ HT.out)).mono ?_
       rintro e w2 ⟨⟨b2, rfl⟩, hk2⟩
       have HK2 := hide (HK1.out.trans' hk2 (fun _ _ => id) (fun _ _ => id) : Keeps NoB w0 w2)
       have hB := HBQ.out.keep HK2.out id; have hT := HBT.out.keep HK2.out id
       clear p0 p1 p2 p3 p4 p5 p6 p7 p8 p9 p10 t0 t1 t2 t3 t4 t5 t6
       have q0 := hB.cell 0; have q1 := hB.cell 1; have q2 := hB.cell 2; have q3 := hB.cell 3; have q4 := hB.cell 4; have q5 := hB.cell 5; have q6 := hB.cell 6; have q7 := hB.cell 7; have q8 := hB.cell 8; have q9 := hB.cell 9; have q10 := hB.cell 10; have t0 := hT.cell 0; have t1 := hT.cell 1; have t2 := hT.cell 2; have t3 := hT.cell 3; have t4 := hT.cell 4; have t5 := hT.cell 5; have t6 := hT.cell 6
       clear hB hT hk2
       have M2 := hide True.intro)
    | (go_at_call 14
       have hm := M2; clear hm M2
       refine (great_nil q t HOQ.out HOT.out w2 _ _ _ _ _ _ _ _ _ _ _ _ _ _ _ _ _ _ _ _ _ _ _ _ _ _ _ _ _ _ _ _ (CoreIn.keep HK2.out (fun _ _ => id) _ _ HQ.out) (TermIn.keep HK2.out (fun _ _ => id) _ _ HT.out)).mono ?_
       rintro e w3 ⟨⟨b3, rfl⟩, hk3⟩
       have HK3 := hide (HK2.out.trans' hk3 (fun _ _ => id) (fun _ _ => id) : Keeps NoB w0 w3)
       clear q0 q1 q2 q3 q4 q5 q6 q7 q8 q9 q10 t0 t1 t2 t3 t4 t5 t6
       clear hk3)
    | fail
  · go_ret
    exact ⟨rfl, HK0.out.trans' HK2.out (fun _ _ => id) (fun _ _ => id)⟩
  · go_ret
    exact ⟨rfl, HK0.out.trans' HK3.out (fun _ _ => id) (fun _ _ => id)⟩
  clear HK1 HK2
  go_upto_region 6 with
    first
    | (go_at_call 8
       refine (pick_any z 9 (by omega) (by omega) w3).mono ?_
       rintro e wx ⟨rfl, rfl⟩
       obtain ⟨n9, hn9⟩ : ∃ n : Nat, z % 9 = n := ⟨(z % 9).toNat, by omega⟩
       have hn8 : n9 ≤ 100 := by omega
       rw [hn9]
       clear hn9)
    | (go_at_call 11
       refine (new_vars n9 hn8 w3).mono ?_
       rintro e w4 ⟨A4, c4, D4, d4, css4, rfl, hv4, _, hk4⟩
       have HK5 := hide ((HK3.out.trans' hk4 (fun _ _ => id) (fun _ _ => id) : Keeps NoB w0 w4).alloc (.cells #[.slice A4 n9 c4, .slice D4 n9 d4] 39))
       have HBV := hide (Blk.new w4 39 #[.slice A4 n9 c4, .slice D4 n9 d4])
       have HVI := hide (hv4.read.keep ((Keeps.refl NoB w4).alloc (.cells #[.slice A4 n9 c4, .slice D4 n9 d4] 39)) (fun _ _ => id))
       clear hk4 hv4)
    | fail
  generalize w4.alloc (.cells #[.slice A4 n9 c4, .slice D4 n9 d4] 39) = w5 at *
  generalize w4.heap.size = gv at *
  clear HK3
  have hB := HBP.out.keep HK5.out id; have hT := HBT.out.keep HK5.out id; have hV := HBV.out
  have p0 := hB.cell 0; have p1 := hB.cell 1; have p2 := hB.cell 2; have p3 := hB.cell 3; have p4 := hB.cell 4; have p5 := hB.cell 5; have p6 := hB.cell 6; have p7 := hB.cell 7; have p8 := hB.cell 8; have p9 := hB.cell 9; have p10 := hB.cell 10; have t0 := hT.cell 0; have t1 := hT.cell 1; have t2 := hT.cell 2; have t3 := hT.cell 3; have t4 := hT.cell 4; have t5 := hT.cell 5; have t6 := hT.cell 6; have v0 := hV.cell 0; have v1 := hV.cell 1
  clear hB hT hV
  go_upto_region 7 with
    first
    | (go_at_call 10
       refine (match_top p t (newV n9) _ _ _ _ _ _ _ w5 TT _ _ _ _ _ _ _ _ _ _ _ _ _ _ _ _ _ _ _ _ _ _ _ _ _ _ _ _ _ _ _ _ HVI.out (newV_ok n9) HOT.out HOP.out (CoreIn.keep HK5.out (fun _ _ => id) _ _ HP.out) (TermIn.keep HK5.out (fun _ _ => id) _ _ HT.out)).mono ?_
       rintro e w6 ⟨A6, n6, c6, D6, m6, d6, css6, rfl, hv6, ho6, hm6, hk6⟩
       have HK6 := hide ((HK5.out.trans' hk6 (fun _ _ => id) (fun _ _ => id) : Keeps NoB w0 w6).alloc (.cells #[.slice A6 n6 c6, .slice D6 m6 d6] 39))
       have HK56 := hide (hk6.alloc (.cells #[.slice A6 n6 c6, .slice D6 m6 d6] 39))
       have HBV6 := hide (Blk.new w6 39 #[.slice A6 n6 c6, .slice D6 m6 d6])
       have HVI6 := hide (hv6.keep ((Keeps.refl NoB w6).alloc (.cells #[.slice A6 n6 c6, .slice D6 m6 d6] 39)) (fun _ _ => id))
       have HO6 := hide ho6
       clear hk6 hv6 ho6 hm6)
    | fail
  clear p0 p1 p2 p3 p4 p5 p6 p7 p8 p9 p10 t0 t1 t2 t3 t4 t5 t6 v0 v1
  generalize w6.alloc (.cells #[.slice A6 n6 c6, .slice D6 m6 d6] 39) = w7 at *
  generalize w6.heap.size = g6 at *
  have hB := HBQ.out.keep HK6.out id; have hT := HBT.out.keep HK6.out id; have hV := HBV6.out
  have q0 := hB.cell 0; have q1 := hB.cell 1; have q2 := hB.cell 2; have q3 := hB.cell 3; have q4 := hB.cell 4; have q5 := hB.cell 5; have q6 := hB.cell 6; have q7 := hB.cell 7; have q8 := hB.cell 8; have q9 := hB.cell 9; have q10 := hB.cell 10; have t0 := hT.cell 0; have t1 := hT.cell 1; have t2 := hT.cell 2; have t3 := hT.cell 3; have t4 := hT.cell 4; have t5 := hT.cell 5; have t6 := hT.cell 6; have v0 := hV.cell 0; have v1 := hV.cell 1
  clear hB hT hV
  go_upto_region 8 with
    first
    | (go_at_call 10
       refine (match_top q t ((matchF p t (newV n9)).getD noV) _ _ _ _ _ _ _ w7 TT _ _ _ _ _ _ _ _ _ _ _ _ _ _ _ _ _ _ _ _ _ _ _ _ _ _ _ _ _ _ _ _ HVI6.out HO6.out HOT.out HOQ.out (CoreIn.keep HK6.out (fun _ _ => id) _ _ HQ.out) (TermIn.keep HK6.out (fun _ _ => id) _ _ HT.out)).mono ?_
       rintro e w8 ⟨A8, n8, c8, D8, m8, d8, css8, rfl, hv8, ho8, hm8, hk8⟩
       have HK8 := hide ((HK6.out.trans' hk8 (fun _ _ => id) (fun _ _ => id) : Keeps NoB w0 w8).alloc (.cells #[.slice A8 n8 c8, .slice D8 m8 d8] 39))
       have HK78 := hide (hk8.alloc (.cells #[.slice A8 n8 c8, .slice D8 m8 d8] 39))
       have HBV8 := hide (Blk.new w8 39 #[.slice A8 n8 c8, .slice D8 m8 d8])
       have HVI8 := hide (hv8.keep ((Keeps.refl NoB w8).alloc (.cells #[.slice A8 n8 c8, .slice D8 m8 d8] 39)) (fun _ _ => id))
       clear hk8 hv8 ho8 hm8)
    | fail
  clear q0 q1 q2 q3 q4 q5 q6 q7 q8 q9 q10 t0 t1 t2 t3 t4 t5 t6 v0 v1
  generalize w8.alloc (.cells #[.slice A8 n8 c8, .slice D8 m8 d8] 39) = w9 at *
  generalize w8.heap.size = g8 at *
  have HKw9 := HK8
  have HBVw9 := hide ((HBV.out.keep HK56.out id).keep HK78.out id)
  have HVIw9 := hide ((HVI.out.keep HK56.out (fun _ _ => id)).keep HK78.out (fun _ _ => id))
  have HB6 := hide (HBV6.out.keep HK78.out id)
  have HV6 := hide (HVI6.out.keep HK78.out (fun _ _ => id))
  clear HBV HVI HK5 HK6 HK56 HK78 HBV6 HVI6 HO6 HK8
  have hkd : Keeps NoB w0 w9.drew := HKw9.out.drew
  have HBPX := hide (HBP.out.keep hkd id); have HBQX := hide (HBQ.out.keep hkd id); have HBTX := hide (HBT.out.keep hkd id); have HBVX := hide (show Blk w9.drew gv 39 #[.slice A4 n9 c4, .slice D4 n9 d4] from HBVw9.out)
  have HPX := hide (CoreIn.keep hkd (fun _ _ => id) _ _ HP.out); have HQX := hide (CoreIn.keep hkd (fun _ _ => id) _ _ HQ.out); have HTX := hide (TermIn.keep hkd (fun _ _ => id) _ _ HT.out); have HVX := hide (HVIw9.out.keep ((Keeps.refl NoB w9).drew) (fun _ _ => id))
  clear hkd
  refine order_store 11 10 (fun i => i == 9 || i == 12) [KF.eq (.agg #[.int .u8 ck1, .string cx1, .int .i64 cn1, .int .u8 tk1, .bool cg1, .slice ca1 cl1 cc1, .string tt1, .int .i64 tz1, .slice ja1 jm1 jc1, .slice ua1 um1 uc1, .slice ka1 kn1 kc1]), KF.eq (.agg #[.int .u8 ck2, .string cx2, .int .i64 cn2, .int .u8 tk2, .bool cg2, .slice ca2 cl2 cc2, .string tt2, .int .i64 tz2, .slice ja2 jm2 jc2, .slice ua2 um2 uc2, .slice ka2 kn2 kc2]), CoresV [p, q], CoreV (alsoC p q), KF.eq (.agg #[.int .u8 kd3, .bool ng3, .slice la3 ln3 lc3, .string tx3, .int .i64 nm3, .slice ia3 im3 ic3, .slice ta3 tn3 tc3]), KF.eq (.agg #[.slice A4 n9 c4, .slice D4 n9 d4]), MatchV (matchF (alsoC p q) t (newV n9)), MatchV (matchF (alsoC p q) t (newV n9)), VarsV ((matchF (alsoC p q) t (newV n9)).getD noV), KF.any, AllocV w9.drew.heap.size, KF.any, KF.any] [(fun _ => True), (fun _ => True), (fun _ => True), (fun _ => True), (fun _ => True), (fun _ => True), TupG (matchF (alsoC p q) t (newV n9)), TupG (matchF (alsoC p q) t (newV n9)), (fun _ => True), (· = .bool (matchF (alsoC p q) t (newV n9)).isSome), (fun _ => True), (fun _ => True), (· = .bool (matchF (alsoC p q) t (newV n9)).isSome)] (StoredV w9.drew ((matchF (alsoC p q) t (newV n9)).getD noV)) (fun xs => { tmps := #[.agg #[.int .u8 ck1, .string cx1, .int .i64 cn1, .int .u8 tk1, .bool cg1, .slice ca1 cl1 cc1, .string tt1, .int .i64 tz1, .slice ja1 jm1 jc1, .slice ua1 um1 uc1, .slice ka1 kn1 kc1], .agg #[.int .u8 ck2, .string cx2, .int .i64 cn2, .int .u8 tk2, .bool cg2, .slice ca2 cl2 cc2, .string tt2, .int .i64 tz2, .slice ja2 jm2 jc2, .slice ua2 um2 uc2, .slice ka2 kn2 kc2], .agg #[.int .u8 kd3, .bool ng3, .slice la3 ln3 lc3, .string tx3, .int .i64 nm3, .slice ia3 im3 ic3, .slice ta3 tn3 tc3], .int .i64 z, .pointer (some ⟨gp, 0, none⟩), .pointer (some ⟨gp + 1, 0, none⟩), .pointer (some ⟨gp + 1 + 1, 0, none⟩), undef, .bool false, .pointer (some ⟨gv, 0, none⟩), .pointer (some ⟨g6, 0, none⟩), .bool (matchF p t (newV n9)).isSome, .pointer (some ⟨g8, 0, none⟩), .bool (matchF q t ((matchF p t (newV n9)).getD noV)).isSome, xs 10, xs 12, undef, undef, undef, undef, .bool true, .bool false, .agg #[.int .u8 ck1, .string cx1, .int .i64 cn1, .int .u8 tk1, .bool cg1, .slice ca1 cl1 cc1, .string tt1, .int .i64 tz1, .slice ja1 jm1 jc1, .slice ua1 um1 uc1, .slice ka1 kn1 kc1], .agg #[.int .u8 kd3, .bool ng3, .slice la3 ln3 lc3, .string tx3, .int .i64 nm3, .slice ia3 im3 ic3, .slice ta3 tn3 tc3], .bool false, .bool false, .agg #[.int .u8 ck2, .string cx2, .int .i64 cn2, .int .u8 tk2, .bool cg2, .slice ca2 cl2 cc2, .string tt2, .int .i64 tz2, .slice ja2 jm2 jc2, .slice ua2 um2 uc2, .slice ka2 kn2 kc2], .agg #[.int .u8 kd3, .bool ng3, .slice la3 ln3 lc3, .string tx3, .int .i64 nm3, .slice ia3 im3 ic3, .slice ta3 tn3 tc3], .bool false, .bool false, .int .i64 z, .int .i64 n9, .agg #[.slice A4 n9 c4, .slice D4 n9 d4], .tuple #[.agg #[.slice A6 n6 c6, .slice D6 m6 d6], .bool (matchF p t (newV n9)).isSome], .agg #[.int .u8 ck1, .string cx1, .int .i64 cn1, .int .u8 tk1, .bool cg1, .slice ca1 cl1 cc1, .string tt1, .int .i64 tz1, .slice ja1 jm1 jc1, .slice ua1 um1 uc1, .slice ka1 kn1 kc1], .agg #[.int .u8 kd3, .bool ng3, .slice la3 ln3 lc3, .string tx3, .int .i64 nm3, .slice ia3 im3 ic3, .slice ta3 tn3 tc3], .agg #[.slice A4 n9 c4, .slice D4 n9 d4], .tuple #[.agg #[.slice A6 n6 c6, .slice D6 m6 d6], .bool (matchF p t (newV n9)).isSome], .agg #[.slice A6 n6 c6, .slice D6 m6 d6], .bool (matchF p t (newV n9)).isSome, .tuple #[.agg #[.slice A8 n8 c8, .slice D8 m8 d8], .bool (matchF q t ((matchF p t (newV n9)).getD noV)).isSome], .agg #[.int .u8 ck2, .string cx2, .int .i64 cn2, .int .u8 tk2, .bool cg2, .slice ca2 cl2 cc2, .string tt2, .int .i64 tz2, .slice ja2 jm2 jc2, .slice ua2 um2 uc2, .slice ka2 kn2 kc2], .agg #[.int .u8 kd3, .bool ng3, .slice la3 ln3 lc3, .string tx3, .int .i64 nm3, .slice ia3 im3 ic3, .slice ta3 tn3 tc3], .agg #[.slice A6 n6 c6, .slice D6 m6 d6], .tuple #[.agg #[.slice A8 n8 c8, .slice D8 m8 d8], .bool (matchF q t ((matchF p t (newV n9)).getD noV)).isSome], .agg #[.slice A8 n8 c8, .slice D8 m8 d8], .bool (matchF q t ((matchF p t (newV n9)).getD noV)).isSome, xs 7, xs 0, xs 1, xs 2, xs 3, xs 4, xs 5, xs 6, xs 8, xs 9, undef, undef, undef, undef, undef, undef, undef, undef, undef, undef, undef, undef, undef, undef, undef, undef, undef, undef, undef, undef, undef, undef, undef, undef, undef, undef, undef, undef, undef, undef, undef, undef, undef, undef, undef, undef, undef, undef, undef, undef, undef, undef, undef, undef, undef, undef, undef, undef, undef, undef, undef, undef, undef, undef, undef, undef, undef, undef, undef, undef, undef, undef, undef, undef, undef], defers := [] }) (fun _ => undef) (by kernel_rfl) (by kernel_rfl) (by kernel_rfl) (by kernel_rfl) rfl ?_ ?_ ?_ ?_
  · intro d xs wx i oi hoi his hds hdi hk hx hg hdep K hK
    have hi : i < 13 := by have h := (Array.getElem?_eq_some_iff.1 hoi).1; simpa using h
    have hcases : i = 0 ∨ i = 1 ∨ i = 2 ∨ i = 3 ∨ i = 4 ∨ i = 5 ∨ i = 6 ∨ i = 7 ∨ i = 8 ∨ i = 9 ∨ i = 10 ∨ i = 12 := by omega
    have HX := hide hx; have HG := hide hg; have HKX := hide hk; have HDS := hide hds
    clear hx hg hk hds hdi his hi
    rcases hcases with rfl | rfl | rfl | rfl | rfl | rfl | rfl | rfl | rfl | rfl | rfl | rfl
    · simp at hoi
      subst hoi
      simp [Region.binds] at hdep
      have hB := HBPX.out.keep HKX.out id
      have c0 := hB.cell 0; have c1 := hB.cell 1; have c2 := hB.cell 2; have c3 := hB.cell 3; have c4 := hB.cell 4; have c5 := hB.cell 5; have c6 := hB.cell 6; have c7 := hB.cell 7; have c8 := hB.cell 8; have c9 := hB.cell 9; have c10 := hB.cell 10
      clear hB
      go_simp
      exact hK _ _ (Keeps.refl _ _) rfl trivial
    · simp at hoi
      subst hoi
      simp [Region.binds] at hdep
      have hB := HBQX.out.keep HKX.out id
      have c0 := hB.cell 0; have c1 := hB.cell 1; have c2 := hB.cell 2; have c3 := hB.cell 3; have c4 := hB.cell 4; have c5 := hB.cell 5; have c6 := hB.cell 6; have c7 := hB.cell 7; have c8 := hB.cell 8; have c9 := hB.cell 9; have c10 := hB.cell 10
      clear hB
      go_simp
      exact hK _ _ (Keeps.refl _ _) rfl trivial
    · simp at hoi
      subst hoi
      simp [Region.binds] at hdep
      have e0 : xs 0 = .agg #[.int .u8 ck1, .string cx1, .int .i64 cn1, .int .u8 tk1, .bool cg1, .slice ca1 cl1 cc1, .string tt1, .int .i64 tz1, .slice ja1 jm1 jc1, .slice ua1 um1 uc1, .slice ka1 kn1 kc1] := (HX.out 0 (by decide) (by simp [hdep]))
      have e1 : xs 1 = .agg #[.int .u8 ck2, .string cx2, .int .i64 cn2, .int .u8 tk2, .bool cg2, .slice ca2 cl2 cc2, .string tt2, .int .i64 tz2, .slice ja2 jm2 jc2, .slice ua2 um2 uc2, .slice ka2 kn2 kc2] := (HX.out 1 (by decide) (by simp [hdep]))
      rw [e0, e1]
      go_simp
      have hI := hK _ _ ((Keeps.refl NoB wx).alloc _) (cores_two (Blk.new wx 34 #[.int .u8 ck1, .string cx1, .int .i64 cn1, .int .u8 tk1, .bool cg1, .slice ca1 cl1 cc1, .string tt1, .int .i64 tz1, .slice ja1 jm1 jc1, .slice ua1 um1 uc1, .slice ka1 kn1 kc1, .int .u8 ck2, .string cx2, .int .i64 cn2, .int .u8 tk2, .bool cg2, .slice ca2 cl2 cc2, .string tt2, .int .i64 tz2, .slice ja2 jm2 jc2, .slice ua2 um2 uc2, .slice ka2 kn2 kc2]) (xs := [.int .u8 ck1, .string cx1, .int .i64 cn1, .int .u8 tk1, .bool cg1, .slice ca1 cl1 cc1, .string tt1, .int .i64 tz1, .slice ja1 jm1 jc1, .slice ua1 um1 uc1, .slice ka1 kn1 kc1]) (ys := [.int .u8 ck2, .string cx2, .int .i64 cn2, .int .u8 tk2, .bool cg2, .slice ca2 cl2 cc2, .string tt2, .int .i64 tz2, .slice ja2 jm2 jc2, .slice ua2 um2 uc2, .slice ka2 kn2 kc2]) (CoreIn.keep ((Keeps.refl NoB wx).alloc _) (fun _ _ => id) _ _ (CoreIn.keep HKX.out (fun _ _ => id) _ _ HPX.out)) (CoreIn.keep ((Keeps.refl NoB wx).alloc _) (fun _ _ => id) _ _ (CoreIn.keep HKX.out (fun _ _ => id) _ _ HQX.out))) trivial
      simp only [updX, Nat.reduceEqDiff, reduceIte] at hI
      rw [e0, e1] at hI
      exact hI
    · simp at hoi
      subst hoi
      simp [Region.binds] at hdep
      obtain ⟨A1, n1, c1, kcss, e1, h1⟩ := (show (CoresV [p, q]).say wx (xs 2) from (HX.out 2 (by decide) (by simp [hdep])))
      rw [e1]
      go_simp
      refine (of_core 26 A1 n1 c1 wx).mono ?_
      rintro e w' ⟨rfl, hk'⟩
      have hI := hK _ w' hk' (core_kids 26 ⟨#[]⟩ 0 ((CoresV [p, q]).keep _ _ _ hk' ⟨A1, n1, c1, kcss, rfl, h1⟩)) trivial
      simp only [updX, Nat.reduceEqDiff, reduceIte] at hI
      rw [e1] at hI
      exact hI
    · simp at hoi
      subst hoi
      simp [Region.binds] at hdep
      have hB := HBTX.out.keep HKX.out id
      have c0 := hB.cell 0; have c1 := hB.cell 1; have c2 := hB.cell 2; have c3 := hB.cell 3; have c4 := hB.cell 4; have c5 := hB.cell 5; have c6 := hB.cell 6
      clear hB
      go_simp
      exact hK _ _ (Keeps.refl _ _) rfl trivial
    · simp at hoi
      subst hoi
      simp [Region.binds] at hdep
      have hB := HBVX.out.keep HKX.out id
      have c0 := hB.cell 0; have c1 := hB.cell 1
      clear hB
      go_simp
      exact hK _ _ (Keeps.refl _ _) rfl trivial
    · simp at hoi
      subst hoi
      simp [Region.binds] at hdep
      obtain ⟨ck9, cx9, cn9, tk9, cg9, ca9, cl9, cc9, tt9, tz9, ja9, jm9, jc9, ua9, um9, uc9, ka9, kn9, kc9, e3, h3⟩ := (show (CoreV (alsoC p q)).say wx (xs 3) from (HX.out 3 (by decide) (by simp [hdep])))
      have e4 : xs 4 = .agg #[.int .u8 kd3, .bool ng3, .slice la3 ln3 lc3, .string tx3, .int .i64 nm3, .slice ia3 im3 ic3, .slice ta3 tn3 tc3] := (HX.out 4 (by decide) (by simp [hdep]))
      have e5 : xs 5 = .agg #[.slice A4 n9 c4, .slice D4 n9 d4] := (HX.out 5 (by decide) (by simp [hdep]))
      rw [e3, e4, e5]
      go_simp
      refine (match_top _ _ _ _ _ _ _ _ _ _ wx TT _ _ _ _ _ _ _ _ _ _ _ _ _ _ _ _ _ _ _ _ _ _ _ _ _ _ _ _ _ _ _ _ (HVX.out.keep HKX.out (fun _ _ => id)) (newV_ok n9) HOT.out (alsoC_ok HOP.out HOQ.out) h3 (TermIn.keep HKX.out (fun _ _ => id) _ _ HTX.out)).mono ?_
      rintro e w' ⟨A5, n5, c5, D5, m5, d5, css5, rfl, hv5, ho5, hm5, hk5⟩
      have hI := hK _ w' hk5 ⟨A5, n5, c5, D5, m5, d5, css5, rfl, hv5, ho5, hm5⟩ ⟨_, rfl⟩
      simp only [updX, Nat.reduceEqDiff, reduceIte] at hI
      rw [e3, e4, e5] at hI
      exact hI
    · simp at hoi
      subst hoi
      simp [Region.binds] at hdep
      have hm := (HX.out 6 (by decide) (by simp [hdep]))
      obtain ⟨x, e1⟩ := (show TupG (matchF (alsoC p q) t (newV n9)) (xs 6) from HG.out 6 (by decide) (by simp [hdep]))
      rw [e1]
      go_simp
      have hI := hK (xs 6) wx (Keeps.refl _ _) hm ⟨x, e1⟩
      simp only [updX, Nat.reduceEqDiff, reduceIte] at hI
      rw [e1] at hI
      exact hI
    · simp at hoi
      subst hoi
      simp [Region.binds] at hdep
      obtain ⟨A5, n5, c5, D5, m5, d5, css5, e1, hv5, ho5, hm5⟩ := (show (MatchV (matchF (alsoC p q) t (newV n9))).say wx (xs 7) from (HX.out 7 (by decide) (by simp [hdep])))
      rw [e1]
      go_simp
      have hI := hK _ wx (Keeps.refl _ _) ⟨A5, n5, c5, D5, m5, d5, css5, rfl, hv5, ho5, hm5⟩ trivial
      simp only [updX, Nat.reduceEqDiff, reduceIte] at hI
      rw [e1] at hI
      exact hI
    · simp at hoi
      subst hoi
      simp [Region.binds] at hdep
      obtain ⟨x, e1⟩ := (show TupG (matchF (alsoC p q) t (newV n9)) (xs 7) from HG.out 7 (by decide) (by simp [hdep]))
      rw [e1]
      go_simp
      have hI := hK _ wx (Keeps.refl _ _) trivial rfl
      simp only [updX, Nat.reduceEqDiff, reduceIte] at hI
      rw [e1] at hI
      exact hI
    · simp at hoi
      subst hoi
      simp [Region.binds] at hdep
      go_simp
      exact hK _ _ ((Keeps.refl NoB wx).alloc _) ⟨wx.heap.size, rfl, HKX.out.size, Blk.new wx 39 _⟩ trivial
    · simp at hoi
      subst hoi
      simp [Region.binds] at hdep
      exact absurd HDS.out (by simp [hdep])
  · intro d xs wx i oi hoi hli his hg hdep K hK
    have hcases : i = 9 ∨ i = 12 := by simpa using hli
    have HG := hide hg
    clear hg his hli
    rcases hcases with rfl | rfl
    · simp at hoi
      subst hoi
      simp [Region.binds] at hdep
      obtain ⟨x, e1⟩ := (show TupG (matchF (alsoC p q) t (newV n9)) (xs 7) from HG.out 7 (by decide) (by simp [hdep]))
      rw [e1]
      go_simp
      have hI := hK _ rfl
      simp only [updX, Nat.reduceEqDiff, reduceIte] at hI
      rw [e1] at hI
      exact hI
    · simp at hoi
      subst hoi
      simp [Region.binds] at hdep
      have e1 : xs 9 = .bool (matchF (alsoC p q) t (newV n9)).isSome := HG.out 9 (by decide) (by simp [hdep])
      rw [e1]
      go_simp
      have hI := hK _ rfl
      simp only [updX, Nat.reduceEqDiff, reduceIte] at hI
      rw [e1] at hI
      exact hI
  · intro d xs wx oi hoi hk hx hg hdep K hK
    have HX := hide hx; have HKX := hide hk
    clear hx hk hg
    simp at hoi
    subst hoi
    simp [Region.binds] at hdep
    obtain ⟨b, e9, hN, hb⟩ := (show (AllocV w9.drew.heap.size).say wx (xs 10) from (HX.out 10 (by decide) (by simp [hdep])))
    obtain ⟨A7, n7, c7, D7, m7, d7, css7, e7, hv7, ho7, hm7⟩ := (show (VarsV ((matchF (alsoC p q) t (newV n9)).getD noV)).say wx (xs 8) from (HX.out 8 (by decide) (by simp [hdep])))
    have z0 := hb.free 0; have z1 := hb.free 1
    have v0' := hb.cell 0; have v1' := hb.cell 1
    have hI := hK _ (by rw [e9]; exact stored_vars HKX.out hb hN hv7 ho7 hm7)
    simp only at hI
    rw [e7, e9] at hI ⊢
    clear hb hv7 ho7 hm7 hK
    go_simp
    exact hI
  intro xs8 w10 hG hH
  obtain ⟨b14, e14, hN14, hk14, A14, n14, c14, D14, m14, d14, css14, hB14, hV14, ho14, hm14⟩ := hH
  have e15 : xs8 12 = .bool (matchF (alsoC p q) t (newV n9)).isSome := hG 12 (by decide) (by decide)
  have hk10 := ((Keeps.refl NoB w9).drew.trans' hk14 (fun _ _ => id) (fun _ _ => id) : Keeps NoB w9 w10)
  have HKw10 := hide ((HKw9.out.trans' hk10 (fun _ _ => id) (fun _ _ => id)) : Keeps NoB w0 w10)
  have HBVw10 := hide (HBVw9.out.keep hk10 id); have HVIw10 := hide (HVIw9.out.keep hk10 (fun _ _ => id))
  have HB6' := hide (HB6.out.keep hk10 id); have HV6' := hide (HV6.out.keep hk10 (fun _ _ => id))
  have HB8' := hide (HBV8.out.keep hk10 id); have HV8' := hide (HVI8.out.keep hk10 (fun _ _ => id))
  have HB14 := hide hB14; have HV14 := hide hV14
  clear hG hk14 hk10 hB14 hV14 ho14 hm14 hN14 HBPX HBQX HBTX HBVX HPX HQX HTX HVX HKw9 HBVw9 HVIw9 HB6 HV6 HBV8 HVI8
  dsimp only
  rw [e14, e15]
  clear e14 e15
  go_upto_region 9 with fail
  have hkd : Keeps NoB w0 w10.drew := HKw10.out.drew
  have HBPX := hide (HBP.out.keep hkd id); have HBQX := hide (HBQ.out.keep hkd id); have HBTX := hide (HBT.out.keep hkd id); have HBVX := hide (show Blk w10.drew gv 39 #[.slice A4 n9 c4, .slice D4 n9 d4] from HBVw10.out)
  have HPX := hide (CoreIn.keep hkd (fun _ _ => id) _ _ HP.out); have HQX := hide (CoreIn.keep hkd (fun _ _ => id) _ _ HQ.out); have HTX := hide (TermIn.keep hkd (fun _ _ => id) _ _ HT.out); have HVX := hide (HVIw10.out.keep ((Keeps.refl NoB w10).drew) (fun _ _ => id))
  clear hkd
  refine order_store 11 10 (fun i => i == 9 || i == 12) [KF.eq (.agg #[.int .u8 20, .string ⟨#[]⟩, .int .i64 0, .int .u8 0, .bool false, .slice none 0 0, .string ⟨#[]⟩, .int .i64 0, .slice none 0 0, .slice none 0 0, .slice none 0 0]), KF.eq (.agg #[.int .u8 ck1, .string cx1, .int .i64 cn1, .int .u8 tk1, .bool cg1, .slice ca1 cl1 cc1, .string tt1, .int .i64 tz1, .slice ja1 jm1 jc1, .slice ua1 um1 uc1, .slice ka1 kn1 kc1]), CoresV [anyC0, p], CoreV (alsoC anyC0 p), KF.eq (.agg #[.int .u8 kd3, .bool ng3, .slice la3 ln3 lc3, .string tx3, .int .i64 nm3, .slice ia3 im3 ic3, .slice ta3 tn3 tc3]), KF.eq (.agg #[.slice A4 n9 c4, .slice D4 n9 d4]), MatchV (matchF (alsoC anyC0 p) t (newV n9)), MatchV (matchF (alsoC anyC0 p) t (newV n9)), VarsV ((matchF (alsoC anyC0 p) t (newV n9)).getD noV), KF.any, AllocV w10.drew.heap.size, KF.any, KF.any] [(fun _ => True), (fun _ => True), (fun _ => True), (fun _ => True), (fun _ => True), (fun _ => True), TupG (matchF (alsoC anyC0 p) t (newV n9)), TupG (matchF (alsoC anyC0 p) t (newV n9)), (fun _ => True), (· = .bool (matchF (alsoC anyC0 p) t (newV n9)).isSome), (fun _ => True), (fun _ => True), (· = .bool (matchF (alsoC anyC0 p) t (newV n9)).isSome)] (StoredV w10.drew ((matchF (alsoC anyC0 p) t (newV n9)).getD noV)) (fun xs => { tmps := #[.agg #[.int .u8 ck1, .string cx1, .int .i64 cn1, .int .u8 tk1, .bool cg1, .slice ca1 cl1 cc1, .string tt1, .int .i64 tz1, .slice ja1 jm1 jc1, .slice ua1 um1 uc1, .slice ka1 kn1 kc1], .agg #[.int .u8 ck2, .string cx2, .int .i64 cn2, .int .u8 tk2, .bool cg2, .slice ca2 cl2 cc2, .string tt2, .int .i64 tz2, .slice ja2 jm2 jc2, .slice ua2 um2 uc2, .slice ka2 kn2 kc2], .agg #[.int .u8 kd3, .bool ng3, .slice la3 ln3 lc3, .string tx3, .int .i64 nm3, .slice ia3 im3 ic3, .slice ta3 tn3 tc3], .int .i64 z, .pointer (some ⟨gp, 0, none⟩), .pointer (some ⟨gp + 1, 0, none⟩), .pointer (some ⟨gp + 1 + 1, 0, none⟩), undef, .bool false, .pointer (some ⟨gv, 0, none⟩), .pointer (some ⟨g6, 0, none⟩), .bool (matchF p t (newV n9)).isSome, .pointer (some ⟨g8, 0, none⟩), .bool (matchF q t ((matchF p t (newV n9)).getD noV)).isSome, .pointer (some ⟨b14, 0, none⟩), .bool (matchF (alsoC p q) t (newV n9)).isSome, xs 10, xs 12, undef, undef, .bool true, .bool false, .agg #[.int .u8 ck1, .string cx1, .int .i64 cn1, .int .u8 tk1, .bool cg1, .slice ca1 cl1 cc1, .string tt1, .int .i64 tz1, .slice ja1 jm1 jc1, .slice ua1 um1 uc1, .slice ka1 kn1 kc1], .agg #[.int .u8 kd3, .bool ng3, .slice la3 ln3 lc3, .string tx3, .int .i64 nm3, .slice ia3 im3 ic3, .slice ta3 tn3 tc3], .bool false, .bool false, .agg #[.int .u8 ck2, .string cx2, .int .i64 cn2, .int .u8 tk2, .bool cg2, .slice ca2 cl2 cc2, .string tt2, .int .i64 tz2, .slice ja2 jm2 jc2, .slice ua2 um2 uc2, .slice ka2 kn2 kc2], .agg #[.int .u8 kd3, .bool ng3, .slice la3 ln3 lc3, .string tx3, .int .i64 nm3, .slice ia3 im3 ic3, .slice ta3 tn3 tc3], .bool false, .bool false, .int .i64 z, .int .i64 n9, .agg #[.slice A4 n9 c4, .slice D4 n9 d4], .tuple #[.agg #[.slice A6 n6 c6, .slice D6 m6 d6], .bool (matchF p t (newV n9)).isSome], .agg #[.int .u8 ck1, .string cx1, .int .i64 cn1, .int .u8 tk1, .bool cg1, .slice ca1 cl1 cc1, .string tt1, .int .i64 tz1, .slice ja1 jm1 jc1, .slice ua1 um1 uc1, .slice ka1 kn1 kc1], .agg #[.int .u8 kd3, .bool ng3, .slice la3 ln3 lc3, .string tx3, .int .i64 nm3, .slice ia3 im3 ic3, .slice ta3 tn3 tc3], .agg #[.slice A4 n9 c4, .slice D4 n9 d4], .tuple #[.agg #[.slice A6 n6 c6, .slice D6 m6 d6], .bool (matchF p t (newV n9)).isSome], .agg #[.slice A6 n6 c6, .slice D6 m6 d6], .bool (matchF p t (newV n9)).isSome, .tuple #[.agg #[.slice A8 n8 c8, .slice D8 m8 d8], .bool (matchF q t ((matchF p t (newV n9)).getD noV)).isSome], .agg #[.int .u8 ck2, .string cx2, .int .i64 cn2, .int .u8 tk2, .bool cg2, .slice ca2 cl2 cc2, .string tt2, .int .i64 tz2, .slice ja2 jm2 jc2, .slice ua2 um2 uc2, .slice ka2 kn2 kc2], .agg #[.int .u8 kd3, .bool ng3, .slice la3 ln3 lc3, .string tx3, .int .i64 nm3, .slice ia3 im3 ic3, .slice ta3 tn3 tc3], .agg #[.slice A6 n6 c6, .slice D6 m6 d6], .tuple #[.agg #[.slice A8 n8 c8, .slice D8 m8 d8], .bool (matchF q t ((matchF p t (newV n9)).getD noV)).isSome], .agg #[.slice A8 n8 c8, .slice D8 m8 d8], .bool (matchF q t ((matchF p t (newV n9)).getD noV)).isSome, xs8 7, xs8 0, xs8 1, xs8 2, xs8 3, xs8 4, xs8 5, xs8 6, xs8 8, xs8 9, xs 7, xs 0, xs 1, xs 2, xs 3, xs 4, xs 5, xs 6, xs 8, xs 9, undef, undef, undef, undef, undef, undef, undef, undef, undef, undef, undef, undef, undef, undef, undef, undef, undef, undef, undef, undef, undef, undef, undef, undef, undef, undef, undef, undef, undef, undef, undef, undef, undef, undef, undef, undef, undef, undef, undef, undef, undef, undef, undef, undef, undef, undef, undef, undef, undef, undef, undef, undef, undef, undef, undef], defers := [] }) (fun _ => undef) (by kernel_rfl) (by kernel_rfl) (by kernel_rfl) (by kernel_rfl) rfl ?_ ?_ ?_ ?_
  · intro d xs wx i oi hoi his hds hdi hk hx hg hdep K hK
    have hi : i < 13 := by have h := (Array.getElem?_eq_some_iff.1 hoi).1; simpa using h
    have hcases : i = 0 ∨ i = 1 ∨ i = 2 ∨ i = 3 ∨ i = 4 ∨ i = 5 ∨ i = 6 ∨ i = 7 ∨ i = 8 ∨ i = 9 ∨ i = 10 ∨ i = 12 := by omega
    have HX := hide hx; have HG := hide hg; have HKX := hide hk; have HDS := hide hds
    clear hx hg hk hds hdi his hi
    rcases hcases with rfl | rfl | rfl | rfl | rfl | rfl | rfl | rfl | rfl | rfl | rfl | rfl
    · simp at hoi
      subst hoi
      simp [Region.binds] at hdep
      go_simp
      refine (num_core 20 0 _).mono ?_
      rintro e w' ⟨rfl, hk'⟩
      exact hK _ w' hk' rfl trivial
    · simp at hoi
      subst hoi
      simp [Region.binds] at hdep
      have hB := HBPX.out.keep HKX.out id
      have c0 := hB.cell 0; have c1 := hB.cell 1; have c2 := hB.cell 2; have c3 := hB.cell 3; have c4 := hB.cell 4; have c5 := hB.cell 5; have c6 := hB.cell 6; have c7 := hB.cell 7; have c8 := hB.cell 8; have c9 := hB.cell 9; have c10 := hB.cell 10
      clear hB
      go_simp
      exact hK _ _ (Keeps.refl _ _) rfl trivial
    · simp at hoi
      subst hoi
      simp [Region.binds] at hdep
      have e0 : xs 0 = .agg #[.int .u8 20, .string ⟨#[]⟩, .int .i64 0, .int .u8 0, .bool false, .slice none 0 0, .string ⟨#[]⟩, .int .i64 0, .slice none 0 0, .slice none 0 0, .slice none 0 0] := (HX.out 0 (by decide) (by simp [hdep]))
      have e1 : xs 1 = .agg #[.int .u8 ck1, .string cx1, .int .i64 cn1, .int .u8 tk1, .bool cg1, .slice ca1 cl1 cc1, .string tt1, .int .i64 tz1, .slice ja1 jm1 jc1, .slice ua1 um1 uc1, .slice ka1 kn1 kc1] := (HX.out 1 (by decide) (by simp [hdep]))
      rw [e0, e1]
      go_simp
      have hI := hK _ _ ((Keeps.refl NoB wx).alloc _) (cores_two (Blk.new wx 34 #[.int .u8 20, .string ⟨#[]⟩, .int .i64 0, .int .u8 0, .bool false, .slice none 0 0, .string ⟨#[]⟩, .int .i64 0, .slice none 0 0, .slice none 0 0, .slice none 0 0, .int .u8 ck1, .string cx1, .int .i64 cn1, .int .u8 tk1, .bool cg1, .slice ca1 cl1 cc1, .string tt1, .int .i64 tz1, .slice ja1 jm1 jc1, .slice ua1 um1 uc1, .slice ka1 kn1 kc1]) (xs := [.int .u8 20, .string ⟨#[]⟩, .int .i64 0, .int .u8 0, .bool false, .slice none 0 0, .string ⟨#[]⟩, .int .i64 0, .slice none 0 0, .slice none 0 0, .slice none 0 0]) (ys := [.int .u8 ck1, .string cx1, .int .i64 cn1, .int .u8 tk1, .bool cg1, .slice ca1 cl1 cc1, .string tt1, .int .i64 tz1, .slice ja1 jm1 jc1, .slice ua1 um1 uc1, .slice ka1 kn1 kc1]) (CoreIn.keep ((Keeps.refl NoB wx).alloc _) (fun _ _ => id) _ _ (leaf_in 20 0)) (CoreIn.keep ((Keeps.refl NoB wx).alloc _) (fun _ _ => id) _ _ (CoreIn.keep HKX.out (fun _ _ => id) _ _ HPX.out))) trivial
      simp only [updX, Nat.reduceEqDiff, reduceIte] at hI
      rw [e0, e1] at hI
      exact hI
    · simp at hoi
      subst hoi
      simp [Region.binds] at hdep
      obtain ⟨A1, n1, c1, kcss, e1, h1⟩ := (show (CoresV [anyC0, p]).say wx (xs 2) from (HX.out 2 (by decide) (by simp [hdep])))
      rw [e1]
      go_simp
      refine (of_core 26 A1 n1 c1 wx).mono ?_
      rintro e w' ⟨rfl, hk'⟩
      have hI := hK _ w' hk' (core_kids 26 ⟨#[]⟩ 0 ((CoresV [anyC0, p]).keep _ _ _ hk' ⟨A1, n1, c1, kcss, rfl, h1⟩)) trivial
      simp only [updX, Nat.reduceEqDiff, reduceIte] at hI
      rw [e1] at hI
      exact hI
    · simp at hoi
      subst hoi
      simp [Region.binds] at hdep
      have hB := HBTX.out.keep HKX.out id
      have c0 := hB.cell 0; have c1 := hB.cell 1; have c2 := hB.cell 2; have c3 := hB.cell 3; have c4 := hB.cell 4; have c5 := hB.cell 5; have c6 := hB.cell 6
      clear hB
      go_simp
      exact hK _ _ (Keeps.refl _ _) rfl trivial
    · simp at hoi
      subst hoi
      simp [Region.binds] at hdep
      have hB := HBVX.out.keep HKX.out id
      have c0 := hB.cell 0; have c1 := hB.cell 1
      clear hB
      go_simp
      exact hK _ _ (Keeps.refl _ _) rfl trivial
    · simp at hoi
      subst hoi
      simp [Region.binds] at hdep
      obtain ⟨ck9, cx9, cn9, tk9, cg9, ca9, cl9, cc9, tt9, tz9, ja9, jm9, jc9, ua9, um9, uc9, ka9, kn9, kc9, e3, h3⟩ := (show (CoreV (alsoC anyC0 p)).say wx (xs 3) from (HX.out 3 (by decide) (by simp [hdep])))
      have e4 : xs 4 = .agg #[.int .u8 kd3, .bool ng3, .slice la3 ln3 lc3, .string tx3, .int .i64 nm3, .slice ia3 im3 ic3, .slice ta3 tn3 tc3] := (HX.out 4 (by decide) (by simp [hdep]))
      have e5 : xs 5 = .agg #[.slice A4 n9 c4, .slice D4 n9 d4] := (HX.out 5 (by decide) (by simp [hdep]))
      rw [e3, e4, e5]
      go_simp
      refine (match_top _ _ _ _ _ _ _ _ _ _ wx TT _ _ _ _ _ _ _ _ _ _ _ _ _ _ _ _ _ _ _ _ _ _ _ _ _ _ _ _ _ _ _ _ (HVX.out.keep HKX.out (fun _ _ => id)) (newV_ok n9) HOT.out (alsoC_ok anyC0_ok HOP.out) h3 (TermIn.keep HKX.out (fun _ _ => id) _ _ HTX.out)).mono ?_
      rintro e w' ⟨A5, n5, c5, D5, m5, d5, css5, rfl, hv5, ho5, hm5, hk5⟩
      have hI := hK _ w' hk5 ⟨A5, n5, c5, D5, m5, d5, css5, rfl, hv5, ho5, hm5⟩ ⟨_, rfl⟩
      simp only [updX, Nat.reduceEqDiff, reduceIte] at hI
      rw [e3, e4, e5] at hI
      exact hI
    · simp at hoi
      subst hoi
      simp [Region.binds] at hdep
      have hm := (HX.out 6 (by decide) (by simp [hdep]))
      obtain ⟨x, e1⟩ := (show TupG (matchF (alsoC anyC0 p) t (newV n9)) (xs 6) from HG.out 6 (by decide) (by simp [hdep]))
      rw [e1]
      go_simp
      have hI := hK (xs 6) wx (Keeps.refl _ _) hm ⟨x, e1⟩
      simp only [updX, Nat.reduceEqDiff, reduceIte] at hI
      rw [e1] at hI
      exact hI
    · simp at hoi
      subst hoi
      simp [Region.binds] at hdep
      obtain ⟨A5, n5, c5, D5, m5, d5, css5, e1, hv5, ho5, hm5⟩ := (show (MatchV (matchF (alsoC anyC0 p) t (newV n9))).say wx (xs 7) from (HX.out 7 (by decide) (by simp [hdep])))
      rw [e1]
      go_simp
      have hI := hK _ wx (Keeps.refl _ _) ⟨A5, n5, c5, D5, m5, d5, css5, rfl, hv5, ho5, hm5⟩ trivial
      simp only [updX, Nat.reduceEqDiff, reduceIte] at hI
      rw [e1] at hI
      exact hI
    · simp at hoi
      subst hoi
      simp [Region.binds] at hdep
      obtain ⟨x, e1⟩ := (show TupG (matchF (alsoC anyC0 p) t (newV n9)) (xs 7) from HG.out 7 (by decide) (by simp [hdep]))
      rw [e1]
      go_simp
      have hI := hK _ wx (Keeps.refl _ _) trivial rfl
      simp only [updX, Nat.reduceEqDiff, reduceIte] at hI
      rw [e1] at hI
      exact hI
    · simp at hoi
      subst hoi
      simp [Region.binds] at hdep
      go_simp
      exact hK _ _ ((Keeps.refl NoB wx).alloc _) ⟨wx.heap.size, rfl, HKX.out.size, Blk.new wx 39 _⟩ trivial
    · simp at hoi
      subst hoi
      simp [Region.binds] at hdep
      exact absurd HDS.out (by simp [hdep])
  · intro d xs wx i oi hoi hli his hg hdep K hK
    have hcases : i = 9 ∨ i = 12 := by simpa using hli
    have HG := hide hg
    clear hg his hli
    rcases hcases with rfl | rfl
    · simp at hoi
      subst hoi
      simp [Region.binds] at hdep
      obtain ⟨x, e1⟩ := (show TupG (matchF (alsoC anyC0 p) t (newV n9)) (xs 7) from HG.out 7 (by decide) (by simp [hdep]))
      rw [e1]
      go_simp
      have hI := hK _ rfl
      simp only [updX, Nat.reduceEqDiff, reduceIte] at hI
      rw [e1] at hI
      exact hI
    · simp at hoi
      subst hoi
      simp [Region.binds] at hdep
      have e1 : xs 9 = .bool (matchF (alsoC anyC0 p) t (newV n9)).isSome := HG.out 9 (by decide) (by simp [hdep])
      rw [e1]
      go_simp
      have hI := hK _ rfl
      simp only [updX, Nat.reduceEqDiff, reduceIte] at hI
      rw [e1] at hI
      exact hI
  · intro d xs wx oi hoi hk hx hg hdep K hK
    have HX := hide hx; have HKX := hide hk
    clear hx hk hg
    simp at hoi
    subst hoi
    simp [Region.binds] at hdep
    obtain ⟨b, e9, hN, hb⟩ := (show (AllocV w10.drew.heap.size).say wx (xs 10) from (HX.out 10 (by decide) (by simp [hdep])))
    obtain ⟨A7, n7, c7, D7, m7, d7, css7, e7, hv7, ho7, hm7⟩ := (show (VarsV ((matchF (alsoC anyC0 p) t (newV n9)).getD noV)).say wx (xs 8) from (HX.out 8 (by decide) (by simp [hdep])))
    have z0 := hb.free 0; have z1 := hb.free 1
    have v0' := hb.cell 0; have v1' := hb.cell 1
    have hI := hK _ (by rw [e9]; exact stored_vars HKX.out hb hN hv7 ho7 hm7)
    simp only at hI
    rw [e7, e9] at hI ⊢
    clear hb hv7 ho7 hm7 hK
    go_simp
    exact hI
  intro xs9 w11 hG hH
  obtain ⟨b16, e16, hN16, hk16, A16, n16, c16, D16, m16, d16, css16, hB16, hV16, ho16, hm16⟩ := hH
  have e17 : xs9 12 = .bool (matchF (alsoC anyC0 p) t (newV n9)).isSome := hG 12 (by decide) (by decide)
  have hk11 := ((Keeps.refl NoB w10).drew.trans' hk16 (fun _ _ => id) (fun _ _ => id) : Keeps NoB w10 w11)
  have HKw11 := hide ((HKw10.out.trans' hk11 (fun _ _ => id) (fun _ _ => id)) : Keeps NoB w0 w11)
  have h6 := HB6'.out.keep hk11 id; have HV6 := hide (HV6'.out.keep hk11 (fun _ _ => id))
  have h8 := HB8'.out.keep hk11 id; have HV8 := hide (HV8'.out.keep hk11 (fun _ _ => id))
  have h14 := HB14.out.keep hk11 id; have HV14' := hide (HV14.out.keep hk11 (fun _ _ => id))
  have HV16 := hide hV16
  have f0 := h6.cell 0; have f1 := h6.cell 1; have h0 := h8.cell 0; have h1 := h8.cell 1; have j0 := h14.cell 0; have j1 := h14.cell 1; have k0 := hB16.cell 0; have k1 := hB16.cell 1
  have hA := also_law p q t (newV n9) (newV_made n9)
  have hN := any_law p t (newV n9) (newV_made n9)
  rw [hN] at HV16 e17
  clear h6 h8 h14 hG hk16 hk11 hB16 hV16 ho16 hm16 hN16 hN HBPX HBQX HBTX HBVX HPX HQX HTX HVX HKw10 HBVw10 HVIw10 HB6' HV6' HB8' HV8' HB14 HV14
  dsimp only
  rw [e16, e17, hA.1]
  have HA := hide hA.2
  rw [hA.1] at HA
  clear e16 e17 hA
  obtain ⟨x1, hx1⟩ : ∃ x, (matchF p t (newV n9)).isSome = x := ⟨_, rfl⟩
  obtain ⟨x2, hx2⟩ : ∃ x, (matchF q t ((matchF p t (newV n9)).getD noV)).isSome = x := ⟨_, rfl⟩
  rw [hx1, hx2]
  rw [hx1, hx2] at HA
  clear hx1 hx2
  go_upto_region 10 with fail
  go_cut [107] from 67 to 107 (fun s107 wx => s107 = .bool false ∧ Keeps NoB w11 wx)
  case first =>
    cases x1 with
    | false =>
      simp only [Bool.false_and]
      go_wp2_with fail
      go_meet
      exact ⟨rfl, Keeps.refl _ _⟩
    | true =>
      cases x2 with
      | false =>
        simp only [Bool.and_false]
        go_wp2_with
          first
          | (go_at_call 18
             refine (tm_sames_self ((matchF p t (newV n9)).getD noV).vals css6 css16 _ _ _ _ _ _ w11 TT TT false false HV6.out.hv HV6.out.ht HV16.out.hv HV16.out.ht HV6.out.r2.1).mono ?_
             rintro e wa ⟨rfl, hka⟩
             have HKA := hide hka
             clear hka)
          | fail
        go_meet
        exact ⟨rfl, HKA.out⟩
      | true =>
        have h3 : (matchF (alsoC p q) t (newV n9)) = (matchF q t ((matchF p t (newV n9)).getD noV)) := HA.out rfl
        have hv14 := HV14'.out
        rw [h3] at hv14
        have HV14 := hide hv14
        clear h3 hv14
        simp only [Bool.and_true]
        have M3 := hide True.intro
        go_wp2_with
          first
          | (go_at_call 17
             refine (truths_self ((matchF q t ((matchF p t (newV n9)).getD noV)).getD noV).has _ _ _ _ _ _ w11 HV8.out.hb HV14.out.hb HV8.out.r1.1).mono ?_
             rintro e wa ⟨rfl, hka⟩
             have HKA := hide hka
             have h1' := hka.cell id h1; have j1' := hka.cell id j1
             clear hka)
          | (go_at_call 18
             have hm := M3; clear hm M3
             refine (tm_sames_self ((matchF q t ((matchF p t (newV n9)).getD noV)).getD noV).vals css8 css14 _ _ _ _ _ _ wa TT TT false false (HV8.out.hv.keep HKA.out (fun _ _ => id)) (TermsIn.keep HKA.out (fun _ _ => id) _ _ HV8.out.ht) (HV14.out.hv.keep HKA.out (fun _ _ => id)) (TermsIn.keep HKA.out (fun _ _ => id) _ _ HV14.out.ht) HV8.out.r2.1).mono ?_
             rintro e wb ⟨rfl, hkb⟩
             have HKB := hide (HKA.out.trans' hkb (fun _ _ => id) (fun _ _ => id) : Keeps NoB w11 wb)
             have f1' := HKB.out.cell id f1; have k1' := HKB.out.cell id k1
             clear hkb)
          | (go_at_call 18
             refine (tm_sames_self ((matchF p t (newV n9)).getD noV).vals css6 css16 _ _ _ _ _ _ wb TT TT false false (HV6.out.hv.keep HKB.out (fun _ _ => id)) (TermsIn.keep HKB.out (fun _ _ => id) _ _ HV6.out.ht) (HV16.out.hv.keep HKB.out (fun _ _ => id)) (TermsIn.keep HKB.out (fun _ _ => id) _ _ HV16.out.ht) HV6.out.r2.1).mono ?_
             rintro e wc ⟨rfl, hkc⟩
             have HKC := hide (HKB.out.trans' hkc (fun _ _ => id) (fun _ _ => id) : Keeps NoB w11 wc)
             clear hkc)
          | fail
        go_meet
        exact ⟨rfl, HKC.out⟩
  case rest =>
    obtain ⟨rfl, hk12⟩ := hcut
    have HKwc := hide (Keeps.trans' (fp'' := NoB) HKw11.out hk12 (fun _ _ => id) (fun _ _ => id))
    clear hk12 HKw11 HA HV6 HV8 HV14' HV16 f0 f1 h0 h1 j0 j1 k0 k1
    go_upto_region 12 with fail
    have hkd : Keeps NoB w0 wc.drew := HKwc.out.drew
    have HBPX := hide (HBP.out.keep hkd id); have HBQX := hide (HBQ.out.keep hkd id); have HBTX := hide (HBT.out.keep hkd id); 
    have HPX := hide (CoreIn.keep hkd (fun _ _ => id) _ _ HP.out); have HQX := hide (CoreIn.keep hkd (fun _ _ => id) _ _ HQ.out); have HTX := hide (TermIn.keep hkd (fun _ _ => id) _ _ HT.out)
    clear hkd
    refine order_store 11 10 (fun i => i == 9 || i == 12) [KF.eq (.agg #[.int .u8 21, .string ⟨#[]⟩, .int .i64 0, .int .u8 0, .bool false, .slice none 0 0, .string ⟨#[]⟩, .int .i64 0, .slice none 0 0, .slice none 0 0, .slice none 0 0]), KF.eq (.agg #[.int .u8 22, .string ⟨#[]⟩, .int .i64 0, .int .u8 0, .bool false, .slice none 0 0, .string ⟨#[]⟩, .int .i64 0, .slice none 0 0, .slice none 0 0, .slice none 0 0]), CoresV [bindC, sameC], CoreV (alsoC bindC sameC), KF.eq (.agg #[.int .u8 kd3, .bool ng3, .slice la3 ln3 lc3, .string tx3, .int .i64 nm3, .slice ia3 im3 ic3, .slice ta3 tn3 tc3]), VarsV (newV 1), MatchV (matchF (alsoC bindC sameC) t (newV 1)), MatchV (matchF (alsoC bindC sameC) t (newV 1)), VarsV ((matchF (alsoC bindC sameC) t (newV 1)).getD noV), KF.any, AllocV wc.drew.heap.size, KF.any, KF.any] [(fun _ => True), (fun _ => True), (fun _ => True), (fun _ => True), (fun _ => True), (fun _ => True), TupG (matchF (alsoC bindC sameC) t (newV 1)), TupG (matchF (alsoC bindC sameC) t (newV 1)), (fun _ => True), (· = .bool (matchF (alsoC bindC sameC) t (newV 1)).isSome), (fun _ => True), (fun _ => True), (· = .bool (matchF (alsoC bindC sameC) t (newV 1)).isSome)] (StoredV wc.drew ((matchF (alsoC bindC sameC) t (newV 1)).getD noV)) (fun xs => { tmps := #[.agg #[.int .u8 ck1, .string cx1, .int .i64 cn1, .int .u8 tk1, .bool cg1, .slice ca1 cl1 cc1, .string tt1, .int .i64 tz1, .slice ja1 jm1 jc1, .slice ua1 um1 uc1, .slice ka1 kn1 kc1], .agg #[.int .u8 ck2, .string cx2, .int .i64 cn2, .int .u8 tk2, .bool cg2, .slice ca2 cl2 cc2, .string tt2, .int .i64 tz2, .slice ja2 jm2 jc2, .slice ua2 um2 uc2, .slice ka2 kn2 kc2], .agg #[.int .u8 kd3, .bool ng3, .slice la3 ln3 lc3, .string tx3, .int .i64 nm3, .slice ia3 im3 ic3, .slice ta3 tn3 tc3], .int .i64 z, .pointer (some ⟨gp, 0, none⟩), .pointer (some ⟨gp + 1, 0, none⟩), .pointer (some ⟨gp + 1 + 1, 0, none⟩), undef, .bool false, .pointer (some ⟨gv, 0, none⟩), .pointer (some ⟨g6, 0, none⟩), .bool x1, .pointer (some ⟨g8, 0, none⟩), .bool x2, .pointer (some ⟨b14, 0, none⟩), .bool (x1 && x2), .pointer (some ⟨b16, 0, none⟩), .bool x1, xs 10, xs 12, .bool true, .bool false, .agg #[.int .u8 ck1, .string cx1, .int .i64 cn1, .int .u8 tk1, .bool cg1, .slice ca1 cl1 cc1, .string tt1, .int .i64 tz1, .slice ja1 jm1 jc1, .slice ua1 um1 uc1, .slice ka1 kn1 kc1], .agg #[.int .u8 kd3, .bool ng3, .slice la3 ln3 lc3, .string tx3, .int .i64 nm3, .slice ia3 im3 ic3, .slice ta3 tn3 tc3], .bool false, .bool false, .agg #[.int .u8 ck2, .string cx2, .int .i64 cn2, .int .u8 tk2, .bool cg2, .slice ca2 cl2 cc2, .string tt2, .int .i64 tz2, .slice ja2 jm2 jc2, .slice ua2 um2 uc2, .slice ka2 kn2 kc2], .agg #[.int .u8 kd3, .bool ng3, .slice la3 ln3 lc3, .string tx3, .int .i64 nm3, .slice ia3 im3 ic3, .slice ta3 tn3 tc3], .bool false, .bool false, .int .i64 z, .int .i64 n9, .agg #[.slice A4 n9 c4, .slice D4 n9 d4], .tuple #[.agg #[.slice A6 n6 c6, .slice D6 m6 d6], .bool x1], .agg #[.int .u8 ck1, .string cx1, .int .i64 cn1, .int .u8 tk1, .bool cg1, .slice ca1 cl1 cc1, .string tt1, .int .i64 tz1, .slice ja1 jm1 jc1, .slice ua1 um1 uc1, .slice ka1 kn1 kc1], .agg #[.int .u8 kd3, .bool ng3, .slice la3 ln3 lc3, .string tx3, .int .i64 nm3, .slice ia3 im3 ic3, .slice ta3 tn3 tc3], .agg #[.slice A4 n9 c4, .slice D4 n9 d4], .tuple #[.agg #[.slice A6 n6 c6, .slice D6 m6 d6], .bool x1], .agg #[.slice A6 n6 c6, .slice D6 m6 d6], .bool x1, .tuple #[.agg #[.slice A8 n8 c8, .slice D8 m8 d8], .bool x2], .agg #[.int .u8 ck2, .string cx2, .int .i64 cn2, .int .u8 tk2, .bool cg2, .slice ca2 cl2 cc2, .string tt2, .int .i64 tz2, .slice ja2 jm2 jc2, .slice ua2 um2 uc2, .slice ka2 kn2 kc2], .agg #[.int .u8 kd3, .bool ng3, .slice la3 ln3 lc3, .string tx3, .int .i64 nm3, .slice ia3 im3 ic3, .slice ta3 tn3 tc3], .agg #[.slice A6 n6 c6, .slice D6 m6 d6], .tuple #[.agg #[.slice A8 n8 c8, .slice D8 m8 d8], .bool x2], .agg #[.slice A8 n8 c8, .slice D8 m8 d8], .bool x2, xs8 7, xs8 0, xs8 1, xs8 2, xs8 3, xs8 4, xs8 5, xs8 6, xs8 8, xs8 9, xs9 7, xs9 0, xs9 1, xs9 2, xs9 3, xs9 4, xs9 5, xs9 6, xs9 8, xs9 9, u67, u68, u69, u70, u71, u72, u73, u74, u75, u76, u77, u78, u79, u80, u81, u82, u83, u84, u85, u86, u87, u88, u89, u90, u91, u92, u93, u94, u95, u96, u97, u98, u99, u100, u101, u102, u103, u104, u105, u106, .bool false, xs 7, xs 0, xs 1, xs 2, xs 3, xs 4, xs 5, xs 6, xs 8, xs 9, undef, undef, undef, undef], defers := [] }) (fun _ => undef) (by kernel_rfl) (by kernel_rfl) (by kernel_rfl) (by kernel_rfl) rfl ?_ ?_ ?_ ?_
    · intro d xs wx i oi hoi his hds hdi hk hx hg hdep K hK
      have hi : i < 13 := by have h := (Array.getElem?_eq_some_iff.1 hoi).1; simpa using h
      have hcases : i = 0 ∨ i = 1 ∨ i = 2 ∨ i = 3 ∨ i = 4 ∨ i = 5 ∨ i = 6 ∨ i = 7 ∨ i = 8 ∨ i = 9 ∨ i = 10 ∨ i = 12 := by omega
      have HX := hide hx; have HG := hide hg; have HKX := hide hk; have HDS := hide hds
      clear hx hg hk hds hdi his hi
      rcases hcases with rfl | rfl | rfl | rfl | rfl | rfl | rfl | rfl | rfl | rfl | rfl | rfl
      · simp at hoi
        subst hoi
        simp [Region.binds] at hdep
        go_simp
        refine (num_core 21 0 _).mono ?_
        rintro e w' ⟨rfl, hk'⟩
        exact hK _ w' hk' rfl trivial
      · simp at hoi
        subst hoi
        simp [Region.binds] at hdep
        go_simp
        refine (num_core 22 0 _).mono ?_
        rintro e w' ⟨rfl, hk'⟩
        exact hK _ w' hk' rfl trivial
      · simp at hoi
        subst hoi
        simp [Region.binds] at hdep
        have e0 : xs 0 = .agg #[.int .u8 21, .string ⟨#[]⟩, .int .i64 0, .int .u8 0, .bool false, .slice none 0 0, .string ⟨#[]⟩, .int .i64 0, .slice none 0 0, .slice none 0 0, .slice none 0 0] := (HX.out 0 (by decide) (by simp [hdep]))
        have e1 : xs 1 = .agg #[.int .u8 22, .string ⟨#[]⟩, .int .i64 0, .int .u8 0, .bool false, .slice none 0 0, .string ⟨#[]⟩, .int .i64 0, .slice none 0 0, .slice none 0 0, .slice none 0 0] := (HX.out 1 (by decide) (by simp [hdep]))
        rw [e0, e1]
        go_simp
        have hI := hK _ _ ((Keeps.refl NoB wx).alloc _) (cores_two (Blk.new wx 34 #[.int .u8 21, .string ⟨#[]⟩, .int .i64 0, .int .u8 0, .bool false, .slice none 0 0, .string ⟨#[]⟩, .int .i64 0, .slice none 0 0, .slice none 0 0, .slice none 0 0, .int .u8 22, .string ⟨#[]⟩, .int .i64 0, .int .u8 0, .bool false, .slice none 0 0, .string ⟨#[]⟩, .int .i64 0, .slice none 0 0, .slice none 0 0, .slice none 0 0]) (xs := [.int .u8 21, .string ⟨#[]⟩, .int .i64 0, .int .u8 0, .bool false, .slice none 0 0, .string ⟨#[]⟩, .int .i64 0, .slice none 0 0, .slice none 0 0, .slice none 0 0]) (ys := [.int .u8 22, .string ⟨#[]⟩, .int .i64 0, .int .u8 0, .bool false, .slice none 0 0, .string ⟨#[]⟩, .int .i64 0, .slice none 0 0, .slice none 0 0, .slice none 0 0]) (CoreIn.keep ((Keeps.refl NoB wx).alloc _) (fun _ _ => id) _ _ (leaf_in 21 0)) (CoreIn.keep ((Keeps.refl NoB wx).alloc _) (fun _ _ => id) _ _ (leaf_in 22 0))) trivial
        simp only [updX, Nat.reduceEqDiff, reduceIte] at hI
        rw [e0, e1] at hI
        exact hI
      · simp at hoi
        subst hoi
        simp [Region.binds] at hdep
        obtain ⟨A1, n1, c1, kcss, e1, h1⟩ := (show (CoresV [bindC, sameC]).say wx (xs 2) from (HX.out 2 (by decide) (by simp [hdep])))
        rw [e1]
        go_simp
        refine (of_core 26 A1 n1 c1 wx).mono ?_
        rintro e w' ⟨rfl, hk'⟩
        have hI := hK _ w' hk' (core_kids 26 ⟨#[]⟩ 0 ((CoresV [bindC, sameC]).keep _ _ _ hk' ⟨A1, n1, c1, kcss, rfl, h1⟩)) trivial
        simp only [updX, Nat.reduceEqDiff, reduceIte] at hI
        rw [e1] at hI
        exact hI
      · simp at hoi
        subst hoi
        simp [Region.binds] at hdep
        have hB := HBTX.out.keep HKX.out id
        have c0 := hB.cell 0; have c1 := hB.cell 1; have c2 := hB.cell 2; have c3 := hB.cell 3; have c4 := hB.cell 4; have c5 := hB.cell 5; have c6 := hB.cell 6
        clear hB
        go_simp
        exact hK _ _ (Keeps.refl _ _) rfl trivial
      · simp at hoi
        subst hoi
        simp [Region.binds] at hdep
        go_simp
        refine (new_vars 1 (by omega) wx).mono ?_
        rintro e w' ⟨A, c, D, d1, css, rfl, hv, _, hk'⟩
        exact hK _ w' hk' ⟨_, _, _, _, _, _, _, rfl, hv.read, newV_ok 1, newV_made 1⟩ trivial
      · simp at hoi
        subst hoi
        simp [Region.binds] at hdep
        obtain ⟨ck9, cx9, cn9, tk9, cg9, ca9, cl9, cc9, tt9, tz9, ja9, jm9, jc9, ua9, um9, uc9, ka9, kn9, kc9, e3, h3⟩ := (show (CoreV (alsoC bindC sameC)).say wx (xs 3) from (HX.out 3 (by decide) (by simp [hdep])))
        have e4 : xs 4 = .agg #[.int .u8 kd3, .bool ng3, .slice la3 ln3 lc3, .string tx3, .int .i64 nm3, .slice ia3 im3 ic3, .slice ta3 tn3 tc3] := (HX.out 4 (by decide) (by simp [hdep]))
        obtain ⟨A0, n0, c0, D0, m0, d0, css0, e5, h5, o5, _⟩ := (show (VarsV (newV 1)).say wx (xs 5) from (HX.out 5 (by decide) (by simp [hdep])))
        rw [e3, e4, e5]
        go_simp
        refine (match_top _ _ _ _ _ _ _ _ _ _ wx TT _ _ _ _ _ _ _ _ _ _ _ _ _ _ _ _ _ _ _ _ _ _ _ _ _ _ _ _ _ _ _ _ h5 o5 HOT.out (alsoC_ok (core_ok 21 0 _ (by omega) (by omega) cores_ok_nil) (core_ok 22 0 _ (by omega) (by omega) cores_ok_nil)) h3 (TermIn.keep HKX.out (fun _ _ => id) _ _ HTX.out)).mono ?_
        rintro e w' ⟨A5, n5, c5, D5, m5, d5, css5, rfl, hv5, ho5, hm5, hk5⟩
        have hI := hK _ w' hk5 ⟨A5, n5, c5, D5, m5, d5, css5, rfl, hv5, ho5, hm5⟩ ⟨_, rfl⟩
        simp only [updX, Nat.reduceEqDiff, reduceIte] at hI
        rw [e3, e4, e5] at hI
        exact hI
      · simp at hoi
        subst hoi
        simp [Region.binds] at hdep
        have hm := (HX.out 6 (by decide) (by simp [hdep]))
        obtain ⟨x, e1⟩ := (show TupG (matchF (alsoC bindC sameC) t (newV 1)) (xs 6) from HG.out 6 (by decide) (by simp [hdep]))
        rw [e1]
        go_simp
        have hI := hK (xs 6) wx (Keeps.refl _ _) hm ⟨x, e1⟩
        simp only [updX, Nat.reduceEqDiff, reduceIte] at hI
        rw [e1] at hI
        exact hI
      · simp at hoi
        subst hoi
        simp [Region.binds] at hdep
        obtain ⟨A5, n5, c5, D5, m5, d5, css5, e1, hv5, ho5, hm5⟩ := (show (MatchV (matchF (alsoC bindC sameC) t (newV 1))).say wx (xs 7) from (HX.out 7 (by decide) (by simp [hdep])))
        rw [e1]
        go_simp
        have hI := hK _ wx (Keeps.refl _ _) ⟨A5, n5, c5, D5, m5, d5, css5, rfl, hv5, ho5, hm5⟩ trivial
        simp only [updX, Nat.reduceEqDiff, reduceIte] at hI
        rw [e1] at hI
        exact hI
      · simp at hoi
        subst hoi
        simp [Region.binds] at hdep
        obtain ⟨x, e1⟩ := (show TupG (matchF (alsoC bindC sameC) t (newV 1)) (xs 7) from HG.out 7 (by decide) (by simp [hdep]))
        rw [e1]
        go_simp
        have hI := hK _ wx (Keeps.refl _ _) trivial rfl
        simp only [updX, Nat.reduceEqDiff, reduceIte] at hI
        rw [e1] at hI
        exact hI
      · simp at hoi
        subst hoi
        simp [Region.binds] at hdep
        go_simp
        exact hK _ _ ((Keeps.refl NoB wx).alloc _) ⟨wx.heap.size, rfl, HKX.out.size, Blk.new wx 39 _⟩ trivial
      · simp at hoi
        subst hoi
        simp [Region.binds] at hdep
        exact absurd HDS.out (by simp [hdep])
    · intro d xs wx i oi hoi hli his hg hdep K hK
      have hcases : i = 9 ∨ i = 12 := by simpa using hli
      have HG := hide hg
      clear hg his hli
      rcases hcases with rfl | rfl
      · simp at hoi
        subst hoi
        simp [Region.binds] at hdep
        obtain ⟨x, e1⟩ := (show TupG (matchF (alsoC bindC sameC) t (newV 1)) (xs 7) from HG.out 7 (by decide) (by simp [hdep]))
        rw [e1]
        go_simp
        have hI := hK _ rfl
        simp only [updX, Nat.reduceEqDiff, reduceIte] at hI
        rw [e1] at hI
        exact hI
      · simp at hoi
        subst hoi
        simp [Region.binds] at hdep
        have e1 : xs 9 = .bool (matchF (alsoC bindC sameC) t (newV 1)).isSome := HG.out 9 (by decide) (by simp [hdep])
        rw [e1]
        go_simp
        have hI := hK _ rfl
        simp only [updX, Nat.reduceEqDiff, reduceIte] at hI
        rw [e1] at hI
        exact hI
    · intro d xs wx oi hoi hk hx hg hdep K hK
      have HX := hide hx; have HKX := hide hk
      clear hx hk hg
      simp at hoi
      subst hoi
      simp [Region.binds] at hdep
      obtain ⟨b, e9, hN, hb⟩ := (show (AllocV wc.drew.heap.size).say wx (xs 10) from (HX.out 10 (by decide) (by simp [hdep])))
      obtain ⟨A7, n7, c7, D7, m7, d7, css7, e7, hv7, ho7, hm7⟩ := (show (VarsV ((matchF (alsoC bindC sameC) t (newV 1)).getD noV)).say wx (xs 8) from (HX.out 8 (by decide) (by simp [hdep])))
      have z0 := hb.free 0; have z1 := hb.free 1
      have v0' := hb.cell 0; have v1' := hb.cell 1
      have hI := hK _ (by rw [e9]; exact stored_vars HKX.out hb hN hv7 ho7 hm7)
      simp only at hI
      rw [e7, e9] at hI ⊢
      clear hb hv7 ho7 hm7 hK
      go_simp
      exact hI
    intro xs12 w13 hG hH
    obtain ⟨b18, e18, hN18, hk18, _⟩ := hH
    have e19 : xs12 12 = .bool (rightT t) := (show xs12 12 = .bool (matchF (alsoC bindC sameC) t (newV 1)).isSome from hG 12 (by decide) (by decide)).trans (by rw [twice_law])
    have HKw13 := hide ((HKwc.out.drew.trans' hk18 (fun _ _ => id) (fun _ _ => id)) : Keeps NoB w0 w13)
    have hT := HBT.out.keep HKw13.out id
    have t0 := hT.cell 0; have t1 := hT.cell 1; have t2 := hT.cell 2; have t3 := hT.cell 3; have t4 := hT.cell 4; have t5 := hT.cell 5; have t6 := hT.cell 6
    clear hT hG hk18 hN18
    dsimp only
    rw [e18, e19]
    clear e18 e19
    go_wp2_with
      first
      | (go_at_call 7
         refine (tm_right t w13 TT false _ _ _ _ _ _ _ _ _ _ _ _ _ (TermIn.keep HKw13.out (fun _ _ => id) _ _ HT.out)).mono ?_
         rintro e w14 ⟨rfl, hk14⟩
         have HK14 := hide (HKw13.out.trans' hk14 (fun _ _ => id) (fun _ _ => id) : Keeps NoB w0 w14)
         clear hk14)
      | fail
    go_ret
    exact ⟨by simp, HK0.out.trans' HK14.out (fun _ _ => id) (fun _ _ => id)⟩
end Go.Proofs.YtjdbjjjbgibpaaaGreatDoor
