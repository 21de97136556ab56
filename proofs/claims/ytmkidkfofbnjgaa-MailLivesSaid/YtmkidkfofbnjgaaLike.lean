/- Both boxes tell the same: like. -/
import Derived.Test.YtmkidkfofbnjgaaTurned
import Derived.Test.YtmkidkfofbnjgaaLooks
namespace Go.Proofs.Ytmkidkfofbnjgaa
open Go.RowKit

abbrev zTm : Tm := flatT 0 ⟨#[]⟩ 0
/-- What is told at a place. -/
def TellAt (us : List Tm) (i : Nat) (t : Tm) (ok : Bool) : Prop := (ok = true ∧ us[i]? = some t) ∨ (ok = false ∧ us.length ≤ i ∧ t = zTm)
theorem tell_any (us : List Tm) (i : Nat) : ∃ t ok, TellAt us i t ok := by
  by_cases h : i < us.length
  · exact ⟨us[i], true, .inl ⟨rfl, List.getElem?_eq_getElem h⟩⟩
  · exact ⟨zTm, false, .inr ⟨rfl, by omega, rfl⟩⟩

theorem next_any (b : Nat) (sv : Value) (L : List Lt) (i : Nat) (us : List Tm) (t : Tm) (ok : Bool) (w : World) (h : BoxAt w b sv L i) (hu : L.map (·.t) = us) (ht : TellAt us i t ok) (hl : L.length ≤ 1024) :
    Calls Try.prog 26 #[.pointer (some ⟨b, 0, none⟩)] w fun e w' => ∃ kd ng la ln lc tx nm ia im ic ta tn tc, e = .returned (.tuple #[.agg #[.int .u8 kd, .bool ng, .slice la ln lc, .string tx, .int .i64 nm, .slice ia im ic, .slice ta tn tc], .bool ok]) ∧ TermIn w' (Fresh w w') true [.int .u8 kd, .bool ng, .slice la ln lc, .string tx, .int .i64 nm, .slice ia im ic, .slice ta tn tc] t ∧ Keeps NoB w w' := by
  subst hu
  rcases ht with ⟨rfl, ht⟩ | ⟨rfl, hi, rfl⟩
  · obtain ⟨x, hx, hxt⟩ := nth_term rfl ht
    exact next_told b sv L i x t w h hx hxt hl
  · refine (next_no b sv L i w h (by simpa using hi)).mono ?_
    rintro e w' ⟨rfl, hk⟩
    exact ⟨0, false, none, 0, 0, ⟨#[]⟩, 0, none, 0, 0, none, 0, 0, rfl, flat_in _ _ _ _ _ _, hk⟩
theorem ref_next_any (r : Nat) (A : Option Addr) (c : Nat) (css : List (List Value)) (ts : List Tm) (t : Tm) (ok : Bool) (B : Nat → Prop) (i : Nat) (w : World) (h : RefAt w r A c css ts B i) (ht : TellAt ts i t ok) (hl : css.length ≤ 1048576) :
    Calls Try.prog 34 #[.pointer (some ⟨r, 0, none⟩)] w fun e w' => ∃ kd ng la ln lc tx nm ia im ic ta tn tc, e = .returned (.tuple #[.agg #[.int .u8 kd, .bool ng, .slice la ln lc, .string tx, .int .i64 nm, .slice ia im ic, .slice ta tn tc], .bool ok]) ∧ TermIn w' B false [.int .u8 kd, .bool ng, .slice la ln lc, .string tx, .int .i64 nm, .slice ia im ic, .slice ta tn tc] t ∧ Keeps NoB w w' := by
  rcases ht with ⟨rfl, ht⟩ | ⟨rfl, hi, rfl⟩
  · refine (ref_next_yes r A c css ts t B i w h (by rw [h.len]; exact (List.getElem?_eq_some_iff.1 ht).1) ht hl).mono ?_
    rintro e w' ⟨kd, ng, la, ln, lc, tx, nm, ia, im, ic, ta, tn, tc, rfl, h1, _, h2⟩
    exact ⟨kd, ng, la, ln, lc, tx, nm, ia, im, ic, ta, tn, tc, rfl, h1, h2⟩
  · refine (ref_next_no r A c css ts B i w h (by rw [h.len]; exact hi)).mono ?_
    rintro e w' ⟨rfl, hk⟩
    exact ⟨0, false, none, 0, 0, ⟨#[]⟩, 0, none, 0, 0, none, 0, 0, rfl, flat_in _ _ _ _ _ _, hk⟩

set_option maxRecDepth 100000 in
set_option maxHeartbeats 2000000 in
theorem like_any (b : Nat) (sv : Value) (L : List Lt) (i r : Nat) (A : Option Addr) (c : Nat) (css : List (List Value)) (us : List Tm) (w w1 : World) (h : Pair w w1 b sv L i r A c css us i) (hu : L.map (·.t) = us) (hl : L.length ≤ 1024) :
    Calls Try.prog 18 #[.pointer (some ⟨b, 0, none⟩), .pointer (some ⟨r, 0, none⟩)] w1 fun e w' => e = .returned (.bool true) ∧ Keeps NoB w1 w' := by
  obtain ⟨t, ok, htl⟩ := tell_any us i
  have HP := hide h; have HU := hide hu; have HTL := hide htl; have HL := hide hl
  obtain ⟨n, hn⟩ : ∃ n, L.length = n := ⟨_, rfl⟩
  have HLN := hide hn
  have HN := hide (show css.length = n from by rw [h.ref.len, ← hu, List.length_map]; exact hn)
  rw [hn] at hl
  have hbo : (ok == ok) = true := by simp
  clear h hu htl hn
  go_enter Try.func18, Try.ntmps18
  go_wp2_with
    first
    | (go_at_call 26
       refine (next_any b sv L i us t ok w1 HP.out.one.box HU.out HTL.out HL.out).mono ?_
       rintro e wA ⟨kd, ng, la, ln, lc, tx, nm, ia, im, ic, ta, tn, tc, rfl, hT, hk⟩
       have hA := (Keeps.refl NoB wA).alloc (.cells #[.int .u8 kd, .bool ng, .slice la ln lc, .string tx, .int .i64 nm, .slice ia im ic, .slice ta tn tc] 33)
       have HKA := hide (hk.trans' hA (fun _ _ => id) (fun _ _ => id) : Keeps NoB w1 (wA.alloc (.cells #[.int .u8 kd, .bool ng, .slice la ln lc, .string tx, .int .i64 nm, .slice ia im ic, .slice ta tn tc] 33)))
       have HT := hide (TermIn.keep hA (fun _ _ => id) _ _ (TermIn.more (B' := fun k => w1.heap.size ≤ k) (fun _ _ h => h.1) _ _ hT))
       have HB := hide (Blk.new wA 33 #[.int .u8 kd, .bool ng, .slice la ln lc, .string tx, .int .i64 nm, .slice ia im ic, .slice ta tn tc])
       clear hT hk hA)
    | (go_at_call 34
       refine (ref_next_any r A c css us t ok _ i _ (HP.out.ref.fresh HKA.out) HTL.out (by have := HN.out; omega)).mono ?_
       rintro e wB ⟨kd', ng', la', ln', lc', tx', nm', ia', im', ic', ta', tn', tc', rfl, hT, hk⟩
       have hA := (Keeps.refl NoB wB).alloc (.cells #[.int .u8 kd', .bool ng', .slice la' ln' lc', .string tx', .int .i64 nm', .slice ia' im' ic', .slice ta' tn' tc'] 33)
       have HKB := hide ((HKA.out.trans' hk (fun _ _ => id) (fun _ _ => id) : Keeps NoB w1 wB).alloc (.cells #[.int .u8 kd', .bool ng', .slice la' ln' lc', .string tx', .int .i64 nm', .slice ia' im' ic', .slice ta' tn' tc'] 33))
       have HTA := hide (TermIn.keep hA (fun _ _ => id) _ _ (TermIn.keep hk (fun _ _ => id) _ _ HT.out))
       have HTB := hide (TermIn.keep hA (fun _ _ => id) _ _ hT)
       have HBA := hide ((HB.out.keep hk id).alloc (.cells #[.int .u8 kd', .bool ng', .slice la' ln' lc', .string tx', .int .i64 nm', .slice ia' im' ic', .slice ta' tn' tc'] 33))
       have HBB := hide (Blk.new wB 33 #[.int .u8 kd', .bool ng', .slice la' ln' lc', .string tx', .int .i64 nm', .slice ia' im' ic', .slice ta' tn' tc'])
       have x0 : (wB.alloc (.cells #[.int .u8 kd', .bool ng', .slice la' ln' lc', .string tx', .int .i64 nm', .slice ia' im' ic', .slice ta' tn' tc'] 33)).cell? ⟨wA.heap.size, 0, none⟩ = some (.int .u8 kd) := HBA.out.cell 0
       have x1 : (wB.alloc (.cells #[.int .u8 kd', .bool ng', .slice la' ln' lc', .string tx', .int .i64 nm', .slice ia' im' ic', .slice ta' tn' tc'] 33)).cell? ⟨wA.heap.size, 1, none⟩ = some (.bool ng) := HBA.out.cell 1
       have x2 : (wB.alloc (.cells #[.int .u8 kd', .bool ng', .slice la' ln' lc', .string tx', .int .i64 nm', .slice ia' im' ic', .slice ta' tn' tc'] 33)).cell? ⟨wA.heap.size, 2, none⟩ = some (.slice la ln lc) := HBA.out.cell 2
       have x3 : (wB.alloc (.cells #[.int .u8 kd', .bool ng', .slice la' ln' lc', .string tx', .int .i64 nm', .slice ia' im' ic', .slice ta' tn' tc'] 33)).cell? ⟨wA.heap.size, 3, none⟩ = some (.string tx) := HBA.out.cell 3
       have x4 : (wB.alloc (.cells #[.int .u8 kd', .bool ng', .slice la' ln' lc', .string tx', .int .i64 nm', .slice ia' im' ic', .slice ta' tn' tc'] 33)).cell? ⟨wA.heap.size, 4, none⟩ = some (.int .i64 nm) := HBA.out.cell 4
       have x5 : (wB.alloc (.cells #[.int .u8 kd', .bool ng', .slice la' ln' lc', .string tx', .int .i64 nm', .slice ia' im' ic', .slice ta' tn' tc'] 33)).cell? ⟨wA.heap.size, 5, none⟩ = some (.slice ia im ic) := HBA.out.cell 5
       have x6 : (wB.alloc (.cells #[.int .u8 kd', .bool ng', .slice la' ln' lc', .string tx', .int .i64 nm', .slice ia' im' ic', .slice ta' tn' tc'] 33)).cell? ⟨wA.heap.size, 6, none⟩ = some (.slice ta tn tc) := HBA.out.cell 6
       have y0 : (wB.alloc (.cells #[.int .u8 kd', .bool ng', .slice la' ln' lc', .string tx', .int .i64 nm', .slice ia' im' ic', .slice ta' tn' tc'] 33)).cell? ⟨wB.heap.size, 0, none⟩ = some (.int .u8 kd') := HBB.out.cell 0
       have y1 : (wB.alloc (.cells #[.int .u8 kd', .bool ng', .slice la' ln' lc', .string tx', .int .i64 nm', .slice ia' im' ic', .slice ta' tn' tc'] 33)).cell? ⟨wB.heap.size, 1, none⟩ = some (.bool ng') := HBB.out.cell 1
       have y2 : (wB.alloc (.cells #[.int .u8 kd', .bool ng', .slice la' ln' lc', .string tx', .int .i64 nm', .slice ia' im' ic', .slice ta' tn' tc'] 33)).cell? ⟨wB.heap.size, 2, none⟩ = some (.slice la' ln' lc') := HBB.out.cell 2
       have y3 : (wB.alloc (.cells #[.int .u8 kd', .bool ng', .slice la' ln' lc', .string tx', .int .i64 nm', .slice ia' im' ic', .slice ta' tn' tc'] 33)).cell? ⟨wB.heap.size, 3, none⟩ = some (.string tx') := HBB.out.cell 3
       have y4 : (wB.alloc (.cells #[.int .u8 kd', .bool ng', .slice la' ln' lc', .string tx', .int .i64 nm', .slice ia' im' ic', .slice ta' tn' tc'] 33)).cell? ⟨wB.heap.size, 4, none⟩ = some (.int .i64 nm') := HBB.out.cell 4
       have y5 : (wB.alloc (.cells #[.int .u8 kd', .bool ng', .slice la' ln' lc', .string tx', .int .i64 nm', .slice ia' im' ic', .slice ta' tn' tc'] 33)).cell? ⟨wB.heap.size, 5, none⟩ = some (.slice ia' im' ic') := HBB.out.cell 5
       have y6 : (wB.alloc (.cells #[.int .u8 kd', .bool ng', .slice la' ln' lc', .string tx', .int .i64 nm', .slice ia' im' ic', .slice ta' tn' tc'] 33)).cell? ⟨wB.heap.size, 6, none⟩ = some (.slice ta' tn' tc') := HBB.out.cell 6
       clear hT hk hA HKA HT HB)
    | (go_at_call 27
       refine (same_self t _ _ _ _ _ [.int .u8 kd, .bool ng, .slice la ln lc, .string tx, .int .i64 nm, .slice ia im ic, .slice ta tn tc] [.int .u8 kd', .bool ng', .slice la' ln' lc', .string tx', .int .i64 nm', .slice ia' im' ic', .slice ta' tn' tc'] HTA.out HTB.out).mono ?_
       rintro e wC ⟨rfl, hk⟩
       have HKC := hide (HKB.out.trans' hk (fun _ _ => id) (fun _ _ => id) : Keeps NoB w1 wC)
       have HTC := hide (TermIn.keep hk (fun _ _ => id) _ _ HTA.out)
       have HBC := hide (HBA.out.keep hk id)
       clear x0 x1 x2 x3 x4 x5 x6 y0 y1 y2 y3 y4 y5 y6
       have x0 : wC.cell? ⟨wA.heap.size, 0, none⟩ = some (.int .u8 kd) := HBC.out.cell 0
       have x1 : wC.cell? ⟨wA.heap.size, 1, none⟩ = some (.bool ng) := HBC.out.cell 1
       have x2 : wC.cell? ⟨wA.heap.size, 2, none⟩ = some (.slice la ln lc) := HBC.out.cell 2
       have x3 : wC.cell? ⟨wA.heap.size, 3, none⟩ = some (.string tx) := HBC.out.cell 3
       have x4 : wC.cell? ⟨wA.heap.size, 4, none⟩ = some (.int .i64 nm) := HBC.out.cell 4
       have x5 : wC.cell? ⟨wA.heap.size, 5, none⟩ = some (.slice ia im ic) := HBC.out.cell 5
       have x6 : wC.cell? ⟨wA.heap.size, 6, none⟩ = some (.slice ta tn tc) := HBC.out.cell 6
       clear hk HKB HTA HTB HBA HBB)
    | (go_at_call 35
       clear x0 x1 x2 x3 x4 x5 x6
       refine (turned_any wC (fun k => w1.heap.size ≤ k) _ _ _ _ _ _ _ _ _ _ _ _ _ t HTC.out).mono ?_
       rintro e wD ⟨rfl, hk⟩
       have HKD := hide (HKC.out.trans' hk (fun _ _ => id) (fun k hk h => Nat.lt_irrefl _ (Nat.lt_of_lt_of_le hk h)) : Keeps NoB w1 wD)
       clear hk HKC HTC HBC)
    | fail
  refine order_begin (fun W => Keeps NoB w1 W) (fun _ => true) (by kernel_rfl) 21 rfl ?_
  have HS : Keeps NoB w1 wD.drew := HKD.out.drew
  have HC0 := hide (show w1.cell? ⟨r, 0, none⟩ = some (.slice A n c) from by have := HP.out.ref.blk.cell 0; rw [HN.out] at this; exact this)
  clear HKD
  generalize wD.drew = W at *
  have hnn : ((n : Int) == (n : Int)) = true := by simp
  refine order_pure (i := 0) rfl (by kernel_rfl) (fun _ _ _ h => h) (.inl ⟨rfl, fun _ => by go_simp; rfl⟩) ?_
  try simp only [Act.put, List.setIfInBounds_toArray, List.set_cons_succ, List.set_cons_zero]
  refine order_pure (i := 1) rfl (by kernel_rfl) (fun _ _ _ h => h) (.inl ⟨rfl, fun _ => by go_simp; rfl⟩) ?_
  try simp only [Act.put, List.setIfInBounds_toArray, List.set_cons_succ, List.set_cons_zero]
  refine order_pure (i := 2) rfl (by kernel_rfl) (fun _ _ _ h => h) (.inl ⟨rfl, fun _ => by go_simp; rfl⟩) ?_
  try simp only [Act.put, List.setIfInBounds_toArray, List.set_cons_succ, List.set_cons_zero]
  refine order_pure (i := 4) rfl (by kernel_rfl) (fun _ _ _ h => h) (.inl ⟨rfl, fun _ => by go_simp; rfl⟩) ?_
  try simp only [Act.put, List.setIfInBounds_toArray, List.set_cons_succ, List.set_cons_zero]
  refine order_pure (i := 5) rfl (by kernel_rfl) (fun _ _ _ h => h) (.inl ⟨rfl, fun _ => by go_simp; rfl⟩) ?_
  try simp only [Act.put, List.setIfInBounds_toArray, List.set_cons_succ, List.set_cons_zero]
  refine order_pure (i := 6) rfl (by kernel_rfl) (fun _ _ _ h => h) (.inl ⟨rfl, fun _ => by go_simp; rfl⟩) ?_
  try simp only [Act.put, List.setIfInBounds_toArray, List.set_cons_succ, List.set_cons_zero]
  refine order_held (i := 7) rfl (by kernel_rfl) (fun _ _ _ h => h) (.inl ⟨rfl, fun W hW => by
    have q0 : W.cell? ⟨r, 0, none⟩ = some (.slice A n c) := hW.cell id HC0.out
    go_simp; rfl⟩) HS ?_
  try simp only [Act.put, List.setIfInBounds_toArray, List.set_cons_succ, List.set_cons_zero]
  refine order_pure (i := 8) rfl (by kernel_rfl) (fun _ _ _ h => h) (.inl ⟨rfl, fun _ => by go_simp; rfl⟩) ?_
  try simp only [Act.put, List.setIfInBounds_toArray, List.set_cons_succ, List.set_cons_zero]
  refine order_one (i := 3) rfl (by kernel_rfl) (fun K hK => ?_)
  go_simp
  refine (len_box' b sv L i n _ (HP.out.one.box.fresh HS) (by have := HLN.out; omega)).mono ?_
  rintro e w' ⟨rfl, rfl⟩
  refine hK _ _ (fun _ h => h) ?_
  clear hK
  try simp only [Act.put, List.setIfInBounds_toArray, List.set_cons_succ, List.set_cons_zero]
  refine order_pure (i := 9) rfl (by kernel_rfl) (fun _ _ _ h => h) (.inl ⟨rfl, fun _ => by go_simp; rfl⟩) ?_
  try simp only [Act.put, List.setIfInBounds_toArray, List.set_cons_succ, List.set_cons_zero]
  refine order_pure (i := 10) rfl (by kernel_rfl) (fun _ _ _ h => h) (.inl ⟨rfl, fun _ => by go_simp; rfl⟩) ?_
  try simp only [Act.put, List.setIfInBounds_toArray, List.set_cons_succ, List.set_cons_zero]
  refine order_pure (i := 11) rfl (by kernel_rfl) (fun _ _ _ h => h) (.inl ⟨rfl, fun _ => by go_simp; rfl⟩) ?_
  try simp only [Act.put, List.setIfInBounds_toArray, List.set_cons_succ, List.set_cons_zero]
  refine order_pure (i := 12) rfl (by kernel_rfl) (fun _ _ _ h => h) (.inl ⟨rfl, fun _ => by go_simp; rfl⟩) ?_
  try simp only [Act.put, List.setIfInBounds_toArray, List.set_cons_succ, List.set_cons_zero]
  refine order_pure (i := 14) rfl (by kernel_rfl) (fun _ _ _ h => h) (.inl ⟨rfl, fun _ => by go_simp; rfl⟩) ?_
  try simp only [Act.put, List.setIfInBounds_toArray, List.set_cons_succ, List.set_cons_zero]
  refine order_pure (i := 15) rfl (by kernel_rfl) (fun _ _ _ h => h) (.inl ⟨rfl, fun _ => by go_simp; rfl⟩) ?_
  try simp only [Act.put, List.setIfInBounds_toArray, List.set_cons_succ, List.set_cons_zero]
  refine order_pure (i := 16) rfl (by kernel_rfl) (fun _ _ _ h => h) (.inl ⟨rfl, fun _ => by go_simp; rfl⟩) ?_
  try simp only [Act.put, List.setIfInBounds_toArray, List.set_cons_succ, List.set_cons_zero]
  refine order_held (i := 17) rfl (by kernel_rfl) (fun _ _ _ h => h) (.inl ⟨rfl, fun W hW => by
    have q0 : W.cell? ⟨r, 0, none⟩ = some (.slice A n c) := hW.cell id HC0.out
    go_simp; rfl⟩) HS ?_
  try simp only [Act.put, List.setIfInBounds_toArray, List.set_cons_succ, List.set_cons_zero]
  refine order_one (i := 13) rfl (by kernel_rfl) (fun K hK => ?_)
  go_simp
  refine (all_box' b sv L i n us _ (HP.out.one.box.fresh HS) HLN.out HU.out hl).mono ?_
  rintro e wF ⟨A', c', css', m', rfl, h1, h2, h3, h4, h5, h6⟩
  have hkF := Keeps.of_below h6 NoB
  have HS2 : Keeps NoB w1 wF := HS.trans' hkF (fun _ _ => id) (fun _ _ => id)
  have HR := hide (And.intro h4 h5)
  refine hK _ _ (fun _ _ => HS2) ?_
  clear hK HS h1 h2 h3 h4 h5 h6 hkF
  try simp only [Act.put, List.setIfInBounds_toArray, List.set_cons_succ, List.set_cons_zero]
  refine order_one (i := 18) rfl (by kernel_rfl) (fun K hK => ?_)
  go_simp
  have hrr := (HP.out.ref.fresh HS2)
  have hrow := hrr.row.reads
  rw [HN.out] at hrow
  refine (sames_self us css' css A' A n c' n c wF (fun _ => True) (fun _ => True) true false (HR.out.1.more (fun _ _ _ => trivial)) (TermsIn.more (fun _ _ _ => trivial) _ _ HR.out.2) (hrow.weak.more (fun _ _ _ => trivial)) (TermsIn.more (fun _ _ _ => trivial) _ _ hrr.ok) (Roomy.small (by omega) (by omega))).mono ?_
  rintro e wG ⟨rfl, hk⟩
  have HS3 : Keeps NoB w1 wG := HS2.trans' hk (fun _ _ => id) (fun _ _ => id)
  refine hK _ _ (fun _ _ => HS3) ?_
  clear hK hrr hrow hk HS2
  try simp only [Act.put, List.setIfInBounds_toArray, List.set_cons_succ, List.set_cons_zero]
  refine order_pure (i := 19) rfl (by kernel_rfl) (fun _ _ _ h => h) (.inl ⟨rfl, fun _ => by go_simp; rfl⟩) ?_
  try simp only [Act.put, List.setIfInBounds_toArray, List.set_cons_succ, List.set_cons_zero]
  refine order_pure (i := 20) rfl (by kernel_rfl) (fun _ _ _ h => h) (.inl ⟨rfl, fun _ => by go_simp; rfl⟩) ?_
  try simp only [Act.put, List.setIfInBounds_toArray, List.set_cons_succ, List.set_cons_zero]
  refine order_done (by kernel_rfl) ?_
  go_wp2_with fail
  go_ret
  exact ⟨rfl, HS3⟩
end Go.Proofs.Ytmkidkfofbnjgaa
