/- The document's box: Take. -/
import Derived.Test.YtmkidkfofbnjgaaRefPut
namespace Go.Proofs.Ytmkidkfofbnjgaa
open Go.RowKit

theorem TermsIn.erase {w : World} {B : Nat → Prop} {F : Bool} : ∀ {ts : List Tm} {css : List (List Value)} (i : Nat), TermsIn w B F css ts → TermsIn w B F (css.eraseIdx i) (ts.eraseIdx i)
  | [], [], _, h => by simpa using h
  | t :: ts, cs :: css, 0, h => by unfold TermsIn at h; exact h.2
  | t :: ts, cs :: css, i + 1, h => by
    unfold TermsIn at h
    simp only [List.eraseIdx_cons_succ]
    unfold TermsIn
    exact ⟨h.1, TermsIn.erase i h.2⟩
  | [], _ :: _, _, h => by unfold TermsIn at h; exact h.elim
  | _ :: _, [], _, h => by unfold TermsIn at h; exact h.elim

theorem erase_flat {css : List (List Value)} (h7 : ∀ c ∈ css, c.length = 7) (i : Nat) : (css.eraseIdx i).flatten = css.flatten.take (i * 7) ++ css.flatten.drop ((i + 1) * 7) := by
  rw [List.eraseIdx_eq_take_drop_succ, List.flatten_append, flat_take h7, flat_drop h7]

theorem Slab.part {w : World} {e : TypeId} {size n c i : Nat} {B : Option Addr} {xs : List Value} (h : Slab w e size B n c xs) (hi : i ≤ n) : Reads w (rowB B) true size B i (xs.take (i * size)) := (h.upto hi).reads

theorem Reads.part {w : World} {B : Nat → Prop} {F : Bool} {size g o n i : Nat} {xs : List Value} (h : Reads w B F size (some ⟨g, o, none⟩) n xs) (hi : i ≤ n) : Reads w B F size (some ⟨g, o + i * size, none⟩) (n - i) (xs.drop (i * size)) := by
  refine ⟨by rw [List.length_drop, h.1, Nat.sub_mul], fun hn => ?_⟩
  obtain ⟨ad, e, hs, hb, hl, hc⟩ := h.2 (by omega)
  injection e with e; subst e
  refine ⟨_, rfl, rfl, hb, hl, fun j u hu => ?_⟩
  rw [List.getElem?_drop] at hu
  have := hc _ u hu
  simpa [Nat.add_assoc] using this

def RefTake (w : World) (r : Nat) (css : List (List Value)) (ts : List Tm) (t : Tm) (B : Nat → Prop) (i : Nat) (e : Ending) (w' : World) : Prop :=
  ∃ kd ng la ln lc tx nm ia im ic ta tn tc A' c', e = .returned (.tuple #[.agg #[.int .u8 kd, .bool ng, .slice la ln lc, .string tx, .int .i64 nm, .slice ia im ic, .slice ta tn tc], .int .i64 0]) ∧ TermIn w' B false [.int .u8 kd, .bool ng, .slice la ln lc, .string tx, .int .i64 nm, .slice ia im ic, .slice ta tn tc] t ∧ RefAt w' r A' c' (css.eraseIdx i) (ts.eraseIdx i) B 0 ∧ Keeps (fun k => k = r) w w' ∧ (∀ k, rowB A' k → w.heap.size ≤ k)

set_option maxRecDepth 100000 in
theorem ref_take_no (r : Nat) (A : Option Addr) (c : Nat) (css : List (List Value)) (ts : List Tm) (B : Nat → Prop) (i : Nat) (w : World) (h : RefAt w r A c css ts B i) (hi : css.length ≤ i) :
    Calls Try.prog 17 #[.pointer (some ⟨r, 0, none⟩)] w fun e w' => e = .returned (.tuple #[.agg zeroT, .int .i64 6]) ∧ Keeps NoB w w' := by
  have HK := hide ((Keeps.refl NoB w).alloc (.cells #[.int .u8 0, .bool false, .slice none 0 0, .string { data := #[] }, .int .i64 0, .slice none 0 0, .slice none 0 0] 33))
  have HB := hide (Blk.new w 33 #[.int .u8 0, .bool false, .slice none 0 0, .string { data := #[] }, .int .i64 0, .slice none 0 0, .slice none 0 0])
  have H := hide (h.fresh HK.out)
  clear h
  go_enter Try.func17, Try.ntmps17
  go_wp2_with fail
  generalize w.alloc (.cells #[.int .u8 0, .bool false, .slice none 0 0, .string { data := #[] }, .int .i64 0, .slice none 0 0, .slice none 0 0] 33) = w1 at *
  refine (ref_next_no r A c css ts B i w1 H.out hi).mono ?_
  rintro e w2 ⟨rfl, hk2⟩
  have HK2 := hide (HK.out.trans' hk2 (fun _ _ => id) (fun _ _ => id) : Keeps NoB w w2)
  have HB2 := hide (HB.out.keep hk2 id)
  have HB3 := hide (HB2.out.alloc (.cells zeroT 33))
  have z0 : (w2.alloc (.cells zeroT 33)).cell? ⟨w.heap.size, 0, none⟩ = some (.int .u8 0) := HB3.out.cell 0
  have z1 : (w2.alloc (.cells zeroT 33)).cell? ⟨w.heap.size, 1, none⟩ = some (.bool false) := HB3.out.cell 1
  have z2 : (w2.alloc (.cells zeroT 33)).cell? ⟨w.heap.size, 2, none⟩ = some (.slice none 0 0) := HB3.out.cell 2
  have z3 : (w2.alloc (.cells zeroT 33)).cell? ⟨w.heap.size, 3, none⟩ = some (.string { data := #[] }) := HB3.out.cell 3
  have z4 : (w2.alloc (.cells zeroT 33)).cell? ⟨w.heap.size, 4, none⟩ = some (.int .i64 0) := HB3.out.cell 4
  have z5 : (w2.alloc (.cells zeroT 33)).cell? ⟨w.heap.size, 5, none⟩ = some (.slice none 0 0) := HB3.out.cell 5
  have z6 : (w2.alloc (.cells zeroT 33)).cell? ⟨w.heap.size, 6, none⟩ = some (.slice none 0 0) := HB3.out.cell 6
  have f0 : (w2.alloc (.cells zeroT 33)).frozen? ⟨w.heap.size, 0, none⟩ = false := HB3.out.free 0
  have f1 : (w2.alloc (.cells zeroT 33)).frozen? ⟨w.heap.size, 1, none⟩ = false := HB3.out.free 1
  have f2 : (w2.alloc (.cells zeroT 33)).frozen? ⟨w.heap.size, 2, none⟩ = false := HB3.out.free 2
  have f3 : (w2.alloc (.cells zeroT 33)).frozen? ⟨w.heap.size, 3, none⟩ = false := HB3.out.free 3
  have f4 : (w2.alloc (.cells zeroT 33)).frozen? ⟨w.heap.size, 4, none⟩ = false := HB3.out.free 4
  have f5 : (w2.alloc (.cells zeroT 33)).frozen? ⟨w.heap.size, 5, none⟩ = false := HB3.out.free 5
  have f6 : (w2.alloc (.cells zeroT 33)).frozen? ⟨w.heap.size, 6, none⟩ = false := HB3.out.free 6
  clear hk2
  go_wp2_with fail
  have HZ := hide (HB3.out.put7 (.int .u8 0) (.bool false) (.slice none 0 0) (.string ByteArray.empty) (.int .i64 0) (.slice none 0 0) (.slice none 0 0))
  have HKP := hide (((((((((HK2.out.alloc (.cells zeroT 33)).setCell (p := ⟨w.heap.size, 0, none⟩) (.inr (Nat.le_refl _)) (.int .u8 0)).setCell (p := ⟨w.heap.size, 1, none⟩) (.inr (Nat.le_refl _)) (.bool false)).setCell (p := ⟨w.heap.size, 2, none⟩) (.inr (Nat.le_refl _)) (.slice none 0 0)).setCell (p := ⟨w.heap.size, 3, none⟩) (.inr (Nat.le_refl _)) (.string ByteArray.empty)).setCell (p := ⟨w.heap.size, 4, none⟩) (.inr (Nat.le_refl _)) (.int .i64 0)).setCell (p := ⟨w.heap.size, 5, none⟩) (.inr (Nat.le_refl _)) (.slice none 0 0)).setCell (p := ⟨w.heap.size, 6, none⟩) (.inr (Nat.le_refl _)) (.slice none 0 0)))
  clear z0 z1 z2 z3 z4 z5 z6 f0 f1 f2 f3 f4 f5 f6
  change bodyPost _ _ _ _ _ ((((((((w2.alloc (.cells zeroT 33)).setCell ⟨w.heap.size, 0, none⟩ (.int .u8 0)).setCell ⟨w.heap.size, 1, none⟩ (.bool false)).setCell ⟨w.heap.size, 2, none⟩ (.slice none 0 0)).setCell ⟨w.heap.size, 3, none⟩ (.string ByteArray.empty)).setCell ⟨w.heap.size, 4, none⟩ (.int .i64 0)).setCell ⟨w.heap.size, 5, none⟩ (.slice none 0 0)).setCell ⟨w.heap.size, 6, none⟩ (.slice none 0 0))
  generalize ((((((((w2.alloc (.cells zeroT 33)).setCell ⟨w.heap.size, 0, none⟩ (.int .u8 0)).setCell ⟨w.heap.size, 1, none⟩ (.bool false)).setCell ⟨w.heap.size, 2, none⟩ (.slice none 0 0)).setCell ⟨w.heap.size, 3, none⟩ (.string ByteArray.empty)).setCell ⟨w.heap.size, 4, none⟩ (.int .i64 0)).setCell ⟨w.heap.size, 5, none⟩ (.slice none 0 0)).setCell ⟨w.heap.size, 6, none⟩ (.slice none 0 0)) = w7 at *
  have d0 : w7.cell? ⟨w.heap.size, 0, none⟩ = some (.int .u8 0) := HZ.out.cell 0
  have d1 : w7.cell? ⟨w.heap.size, 1, none⟩ = some (.bool false) := HZ.out.cell 1
  have d2 : w7.cell? ⟨w.heap.size, 2, none⟩ = some (.slice none 0 0) := HZ.out.cell 2
  have d3 : w7.cell? ⟨w.heap.size, 3, none⟩ = some (.string { data := #[] }) := HZ.out.cell 3
  have d4 : w7.cell? ⟨w.heap.size, 4, none⟩ = some (.int .i64 0) := HZ.out.cell 4
  have d5 : w7.cell? ⟨w.heap.size, 5, none⟩ = some (.slice none 0 0) := HZ.out.cell 5
  have d6 : w7.cell? ⟨w.heap.size, 6, none⟩ = some (.slice none 0 0) := HZ.out.cell 6
  refine bodyPost_ret (v := .tuple #[.agg #[.int .u8 0, .bool false, .slice none 0 0, .string { data := #[] }, .int .i64 0, .slice none 0 0, .slice none 0 0], .int .i64 6]) (by simp [results, Try.results17, go_sem, d0, d1, d2, d3, d4, d5, d6]) rfl ?_
  exact ⟨rfl, HKP.out⟩

set_option maxRecDepth 100000 in
set_option maxHeartbeats 2000000 in
theorem ref_take_yes (r : Nat) (A : Option Addr) (c : Nat) (css : List (List Value)) (ts : List Tm) (t : Tm) (B : Nat → Prop) (i : Nat) (w : World) (h : RefAt w r A c css ts B i) (hi : i < css.length) (ht : ts[i]? = some t) (hl : css.length ≤ 1024) (hB : ¬ B r) :
    Calls Try.prog 17 #[.pointer (some ⟨r, 0, none⟩)] w (RefTake w r css ts t B i) := by
  obtain ⟨i0, hi0, hz0, hz1, hz2⟩ := info_parts Try.info33
  have HK := hide ((Keeps.refl NoB w).alloc (.cells #[.int .u8 0, .bool false, .slice none 0 0, .string { data := #[] }, .int .i64 0, .slice none 0 0, .slice none 0 0] 33))
  have HB := hide (Blk.new w 33 #[.int .u8 0, .bool false, .slice none 0 0, .string { data := #[] }, .int .i64 0, .slice none 0 0, .slice none 0 0])
  have H := hide (h.fresh HK.out)
  have hrl : r < w.heap.size := h.blk.lt
  have HT := hide ht; have HBR := hide hB; have HO := hide h
  clear h ht hB
  go_enter Try.func17, Try.ntmps17
  go_wp2_with fail
  generalize w.alloc (.cells #[.int .u8 0, .bool false, .slice none 0 0, .string { data := #[] }, .int .i64 0, .slice none 0 0, .slice none 0 0] 33) = w1 at *
  refine (ref_next_yes r A c css ts t B i w1 H.out hi HT.out (by omega)).mono ?_
  rintro e w2 ⟨kd, ng, la, ln, lc, tx, nm, ia, im, ic, ta, tn, tc, rfl, htt, hcs, hk2⟩
  have HK2 := hide (HK.out.trans' hk2 (fun _ _ => id) (fun _ _ => id) : Keeps NoB w w2)
  have hka : Keeps NoB w2 (w2.alloc (.cells #[.int .u8 kd, .bool ng, .slice la ln lc, .string tx, .int .i64 nm, .slice ia im ic, .slice ta tn tc] 33)) := (Keeps.refl NoB w2).alloc (.cells #[.int .u8 kd, .bool ng, .slice la ln lc, .string tx, .int .i64 nm, .slice ia im ic, .slice ta tn tc] 33)
  have HB3 := hide ((HB.out.keep hk2 id).alloc (.cells #[.int .u8 kd, .bool ng, .slice la ln lc, .string tx, .int .i64 nm, .slice ia im ic, .slice ta tn tc] 33))
  have HL3 := hide (Blk.new w2 33 #[.int .u8 kd, .bool ng, .slice la ln lc, .string tx, .int .i64 nm, .slice ia im ic, .slice ta tn tc])
  have H3 := hide ((H.out.fresh hk2).fresh hka)
  have HTT := hide (TermIn.keep hka (fun _ _ => id) _ _ htt)
  have HK3 := hide (HK2.out.alloc (.cells #[.int .u8 kd, .bool ng, .slice la ln lc, .string tx, .int .i64 nm, .slice ia im ic, .slice ta tn tc] 33))
  have HCS := hide hcs
  clear htt hcs hk2 hka H HB
  go_wp2_with fail
  generalize hq : w2.heap.size = q at *
  have hwq : w.heap.size ≤ q := by rw [← hq]; exact HK2.out.size
  generalize w2.alloc (.cells #[.int .u8 kd, .bool ng, .slice la ln lc, .string tx, .int .i64 nm, .slice ia im ic, .slice ta tn tc] 33) = W at *
  clear hq HK2 HK
  obtain ⟨n, hn⟩ : ∃ n, css.length = n := ⟨_, rfl⟩
  have HN := hide hn
  rw [hn] at hi hl
  have HROW := hide (show Slab W 33 7 A n c css.flatten from hn ▸ H3.out.row)
  have hnc : n ≤ c := HROW.out.2.1
  have HBL := hide (show Blk W r 27 #[.slice A n c, .int .i64 i] from hn ▸ H3.out.blk)
  have HF7 := hide (H3.out.ok.lens.2)
  clear hn
  obtain ⟨⟨g, o, sp⟩, hA, hs, _⟩ := HROW.out.reads.2 (by omega)
  simp only at hs
  subst hs hA
  have hsp : Hid (∃ sp, sp = (if c = i + 1 then some (⟨g, o, none⟩ : Addr) else some ⟨g, o + (i + 1) * 7, none⟩) ∧ Reads W (rowB (some ⟨g, o, none⟩)) true 7 sp (n - (i + 1)) (css.flatten.drop ((i + 1) * 7))) := hide (by
    refine ⟨_, rfl, ?_⟩
    split
    · have e : n - (i + 1) = 0 := by omega
      rw [e, List.drop_eq_nil_of_le (by rw [HROW.out.1]; omega)]
      exact Reads.zero _ _ _ _ _
    · exact Reads.part HROW.out.reads (by omega))
  obtain ⟨sp, hsp1, hsp2⟩ := hsp.out
  have HSP := hide hsp1; have HSR := hide hsp2
  clear hsp hsp1 hsp2
  refine order_begin (fun W' => Keeps NoB W W') (fun j => !(j == 25)) (by kernel_rfl) 26 rfl ?_
  have HS : Keeps NoB W W.drew := (Keeps.refl _ _).drew
  have hwr : IntKind.i64.wrap ((i : Int) + 1) = (i : Int) + 1 := IntWalk.i64_in _ (by omega)
  have hw0 : (0 : Int) ≤ (i : Int) + 1 := by omega
  have hwi0 : (0 : Int) ≤ (i : Int) := by omega
  have hw1 : ((i : Int) + 1).toNat = i + 1 := by omega
  have hkn : i ≤ n := by omega
  have hkn1 : i + 1 ≤ n := by omega
  have HC0 := hide (show W.cell? ⟨r, 0, none⟩ = some (.slice (some ⟨g, o, none⟩) n c) from HBL.out.cell 0)
  have HC1 := hide (show W.cell? ⟨r, 1, none⟩ = some (.int .i64 i) from HBL.out.cell 1)
  refine order_pure (i := 0) rfl (by kernel_rfl) (fun _ _ _ h => h) (.inl ⟨rfl, fun _ => by go_simp; rfl⟩) ?_
  try simp only [Act.put, List.setIfInBounds_toArray, List.set_cons_succ, List.set_cons_zero]
  refine order_pure (i := 2) rfl (by kernel_rfl) (fun _ _ _ h => h) (.inl ⟨rfl, fun _ => by go_simp; rfl⟩) ?_
  try simp only [Act.put, List.setIfInBounds_toArray, List.set_cons_succ, List.set_cons_zero]
  refine order_pure (i := 3) rfl (by kernel_rfl) (fun _ _ _ h => h) (.inl ⟨rfl, fun _ => by go_simp; rfl⟩) ?_
  try simp only [Act.put, List.setIfInBounds_toArray, List.set_cons_succ, List.set_cons_zero]
  refine order_pure (i := 4) rfl (by kernel_rfl) (fun _ _ _ h => h) (.inl ⟨rfl, fun _ => by go_simp; rfl⟩) ?_
  try simp only [Act.put, List.setIfInBounds_toArray, List.set_cons_succ, List.set_cons_zero]
  refine order_held (i := 5) rfl (by kernel_rfl) (fun _ _ _ h => h) (.inl ⟨rfl, fun W hW => by
    have q0 : W.cell? ⟨r, 0, none⟩ = some (.slice (some ⟨g, o, none⟩) n c) := hW.cell id HC0.out
    go_simp; rfl⟩) HS ?_
  try simp only [Act.put, List.setIfInBounds_toArray, List.set_cons_succ, List.set_cons_zero]
  refine order_pure (i := 6) rfl (by kernel_rfl) (fun _ _ _ h => h) (.inl ⟨rfl, fun _ => by go_simp; rfl⟩) ?_
  try simp only [Act.put, List.setIfInBounds_toArray, List.set_cons_succ, List.set_cons_zero]
  refine order_pure (i := 7) rfl (by kernel_rfl) (fun _ _ _ h => h) (.inl ⟨rfl, fun _ => by go_simp; rfl⟩) ?_
  try simp only [Act.put, List.setIfInBounds_toArray, List.set_cons_succ, List.set_cons_zero]
  refine order_pure (i := 8) rfl (by kernel_rfl) (fun _ _ _ h => h) (.inl ⟨rfl, fun _ => by go_simp; rfl⟩) ?_
  try simp only [Act.put, List.setIfInBounds_toArray, List.set_cons_succ, List.set_cons_zero]
  refine order_held (i := 9) rfl (by kernel_rfl) (fun _ _ _ h => h) (.inl ⟨rfl, fun W hW => by
    have q0 : W.cell? ⟨r, 1, none⟩ = some (.int .i64 i) := hW.cell id HC1.out
    go_simp; rfl⟩) HS ?_
  try simp only [Act.put, List.setIfInBounds_toArray, List.set_cons_succ, List.set_cons_zero]
  refine order_pure (i := 10) (v := .slice (some ⟨g, o, none⟩) i c) rfl (by kernel_rfl) (fun _ _ _ h => h) (.inl ⟨rfl, fun W => by go_simp <;> (intro hlt; omega)⟩) ?_
  try simp only [Act.put, List.setIfInBounds_toArray, List.set_cons_succ, List.set_cons_zero]
  refine order_pure (i := 12) rfl (by kernel_rfl) (fun _ _ _ h => h) (.inl ⟨rfl, fun _ => by go_simp; rfl⟩) ?_
  try simp only [Act.put, List.setIfInBounds_toArray, List.set_cons_succ, List.set_cons_zero]
  refine order_pure (i := 13) rfl (by kernel_rfl) (fun _ _ _ h => h) (.inl ⟨rfl, fun _ => by go_simp; rfl⟩) ?_
  try simp only [Act.put, List.setIfInBounds_toArray, List.set_cons_succ, List.set_cons_zero]
  refine order_pure (i := 14) rfl (by kernel_rfl) (fun _ _ _ h => h) (.inl ⟨rfl, fun _ => by go_simp; rfl⟩) ?_
  try simp only [Act.put, List.setIfInBounds_toArray, List.set_cons_succ, List.set_cons_zero]
  refine order_held (i := 15) rfl (by kernel_rfl) (fun _ _ _ h => h) (.inl ⟨rfl, fun W hW => by
    have q0 : W.cell? ⟨r, 0, none⟩ = some (.slice (some ⟨g, o, none⟩) n c) := hW.cell id HC0.out
    go_simp; rfl⟩) HS ?_
  try simp only [Act.put, List.setIfInBounds_toArray, List.set_cons_succ, List.set_cons_zero]
  refine order_pure (i := 16) rfl (by kernel_rfl) (fun _ _ _ h => h) (.inl ⟨rfl, fun _ => by go_simp; rfl⟩) ?_
  try simp only [Act.put, List.setIfInBounds_toArray, List.set_cons_succ, List.set_cons_zero]
  refine order_pure (i := 17) rfl (by kernel_rfl) (fun _ _ _ h => h) (.inl ⟨rfl, fun _ => by go_simp; rfl⟩) ?_
  try simp only [Act.put, List.setIfInBounds_toArray, List.set_cons_succ, List.set_cons_zero]
  refine order_pure (i := 18) rfl (by kernel_rfl) (fun _ _ _ h => h) (.inl ⟨rfl, fun _ => by go_simp; rfl⟩) ?_
  try simp only [Act.put, List.setIfInBounds_toArray, List.set_cons_succ, List.set_cons_zero]
  refine order_held (i := 19) rfl (by kernel_rfl) (fun _ _ _ h => h) (.inl ⟨rfl, fun W hW => by
    have q0 : W.cell? ⟨r, 1, none⟩ = some (.int .i64 i) := hW.cell id HC1.out
    go_simp; rfl⟩) HS ?_
  try simp only [Act.put, List.setIfInBounds_toArray, List.set_cons_succ, List.set_cons_zero]
  refine order_pure (i := 20) rfl (by kernel_rfl) (fun _ _ _ h => h) (.inl ⟨rfl, fun _ => by go_simp; rfl⟩) ?_
  try simp only [Act.put, List.setIfInBounds_toArray, List.set_cons_succ, List.set_cons_zero]
  refine order_pure (i := 21) (v := .slice sp (n - (i + 1)) (c - (i + 1))) rfl (by kernel_rfl) (fun _ _ _ h => h) (.inl ⟨rfl, fun W => by rw [HSP.out]; go_simp <;> (intro hlt; omega)⟩) ?_
  try simp only [Act.put, List.setIfInBounds_toArray, List.set_cons_succ, List.set_cons_zero]
  clear hwr hw0 hw1
  refine order_one (i := 1) rfl (by kernel_rfl) (fun K hK => ?_)
  go_simp
  have hk1 : Keeps NoB W (W.alloc (.cells #[] 33)).drew := ((Keeps.refl NoB W).alloc _).drew
  refine hK _ _ (fun _ _ => hk1) ?_
  clear hK HS
  have HM := hide (Slab.made W 33 7).drew
  have HK4 := hide hk1
  clear hk1
  try simp only [Act.put, List.setIfInBounds_toArray, List.set_cons_succ, List.set_cons_zero]
  refine order_one (i := 11) rfl (by kernel_rfl) (fun K hK => ?_)
  refine step_append_any _ rfl (.tmp 15) (.tmp 24) 25 rfl 33 i0 _ 7 104 Try.underlying25 hi0 hz0 hz1 hz2 rfl (by omega) (some ⟨W.heap.size, 0, none⟩) 0 0 [] rfl HM.out (rowB (some ⟨g, o, none⟩)) true (some ⟨g, o, none⟩) i c (css.flatten.take (i * 7)) rfl ((Slab.part HROW.out (by omega)).keep HK4.out (fun _ _ => id)) (fun u hu => TermsIn.ones _ _ H3.out.ok u (List.mem_of_mem_take hu)) (by unfold maxLen; omega) (by omega) (fun B1 c1 w4 h1 h2 h3 => ?_)
  rw [Nat.zero_add, List.nil_append] at h1
  have hk3 : Keeps NoB W w4 := HK4.out.trans' h2 (fun _ _ => id) (fun j hj ⟨o', e⟩ => by injection e with e; injection e with e; omega)
  have hB1 : ∀ j, rowB B1 j → W.heap.size ≤ j := fun j hj => by
    rcases h3 j hj with ⟨o', e⟩ | e
    · injection e with e; injection e with e; omega
    · exact Nat.le_trans HK4.out.size e
  refine hK _ _ (fun _ _ => hk3) ?_
  have HS2 := hide h1; have HK5 := hide hk3; have HB1 := hide hB1
  clear hK h1 h2 h3 hk3 hB1 HM
  rw [Nat.zero_add]
  try simp only [Act.put, List.setIfInBounds_toArray, List.set_cons_succ, List.set_cons_zero]
  refine order_one (i := 22) rfl (by kernel_rfl) (fun K hK => ?_)
  refine step_append_any _ rfl (.tmp 25) (.tmp 35) 25 rfl 33 i0 _ 7 104 Try.underlying25 hi0 hz0 hz1 hz2 rfl (by omega) B1 i c1 (css.flatten.take (i * 7)) rfl HS2.out (rowB (some ⟨g, o, none⟩)) true sp (n - (i + 1)) (c - (i + 1)) (css.flatten.drop ((i + 1) * 7)) rfl (HSR.out.keep HK5.out (fun _ _ => id)) (fun u hu => TermsIn.ones _ _ H3.out.ok u (List.mem_of_mem_drop hu)) (by unfold maxLen; omega) (by omega) (fun B2 c2 w5 h1 h2 h3 => ?_)
  have hk4 : Keeps NoB W w5 := HK5.out.trans' h2 (fun _ _ => id) (fun j hj hr => by have := HB1.out j hr; omega)
  have hB2 : ∀ j, rowB B2 j → W.heap.size ≤ j := fun j hj => (h3 j hj).elim (HB1.out j) (fun e => Nat.le_trans HK5.out.size e)
  rw [show i + (n - (i + 1)) = n - 1 from by omega] at h1 ⊢
  refine hK _ _ (fun _ _ => hk4) ?_
  have HBL5 := hide (HBL.out.keep hk4 id)
  have HK6 := hide hk4; have HS5 := hide h1; have HB2 := hide hB2
  have HZ5 := hide (HB3.out.keep hk4 id)
  have HL5 := hide (HL3.out.keep hk4 id)
  clear hK h1 h2 h3 hk4 hB2 HS2 HK5 HB1
  try simp only [Act.put, List.setIfInBounds_toArray, List.set_cons_succ, List.set_cons_zero]
  have g0 : w5.cell? ⟨r, 0, none⟩ = some (.slice (some ⟨g, o, none⟩) n c) := HBL5.out.cell 0
  have f0 : w5.frozen? ⟨r, 0, none⟩ = false := HBL5.out.free 0
  refine order_pure (i := 23) rfl (by kernel_rfl) (fun _ _ _ h => h) (.inl ⟨rfl, fun _ => by go_simp; rfl⟩) ?_
  try simp only [Act.put, List.setIfInBounds_toArray, List.set_cons_succ, List.set_cons_zero]
  refine order_pure (i := 24) rfl (by kernel_rfl) (fun _ _ _ h => h) (.inl ⟨rfl, fun _ => by go_simp; rfl⟩) ?_
  try simp only [Act.put, List.setIfInBounds_toArray, List.set_cons_succ, List.set_cons_zero]
  refine order_one (i := 25) rfl (by kernel_rfl) (fun K hK => ?_)
  go_simp
  refine hK _ _ (fun h => absurd h (by decide)) ?_
  clear hK
  try simp only [Act.put, List.setIfInBounds_toArray, List.set_cons_succ, List.set_cons_zero]
  clear g0 f0
  refine order_done (by kernel_rfl) ?_
  have HBL6 := hide (HBL5.out.put 0 (.slice B2 (n - 1) c2))
  have HK7 := hide ((Keeps.refl (fun k => k = r) w5).setCell (p := ⟨r, 0, none⟩) (.inl rfl) (.slice B2 (n - 1) c2))
  generalize w5.setCell ⟨r, 0, none⟩ (.slice B2 (n - 1) c2) = w6 at *
  have HZ6 := hide (HZ5.out.keep HK7.out (fun e => by omega))
  have HL6 := hide (HL5.out.keep HK7.out (fun e => by omega))
  have g1 : w6.cell? ⟨r, 1, none⟩ = some (.int .i64 i) := HBL6.out.cell 1
  have f1 : w6.frozen? ⟨r, 1, none⟩ = false := HBL6.out.free 1
  have l0 : w6.cell? ⟨q, 0, none⟩ = some (.int .u8 kd) := HL6.out.cell 0
  have l1 : w6.cell? ⟨q, 1, none⟩ = some (.bool ng) := HL6.out.cell 1
  have l2 : w6.cell? ⟨q, 2, none⟩ = some (.slice la ln lc) := HL6.out.cell 2
  have l3 : w6.cell? ⟨q, 3, none⟩ = some (.string tx) := HL6.out.cell 3
  have l4 : w6.cell? ⟨q, 4, none⟩ = some (.int .i64 nm) := HL6.out.cell 4
  have l5 : w6.cell? ⟨q, 5, none⟩ = some (.slice ia im ic) := HL6.out.cell 5
  have l6 : w6.cell? ⟨q, 6, none⟩ = some (.slice ta tn tc) := HL6.out.cell 6
  have p0 : w6.cell? ⟨w.heap.size, 0, none⟩ = some (.int .u8 0) := HZ6.out.cell 0
  have p1 : w6.cell? ⟨w.heap.size, 1, none⟩ = some (.bool false) := HZ6.out.cell 1
  have p2 : w6.cell? ⟨w.heap.size, 2, none⟩ = some (.slice none 0 0) := HZ6.out.cell 2
  have p3 : w6.cell? ⟨w.heap.size, 3, none⟩ = some (.string { data := #[] }) := HZ6.out.cell 3
  have p4 : w6.cell? ⟨w.heap.size, 4, none⟩ = some (.int .i64 0) := HZ6.out.cell 4
  have p5 : w6.cell? ⟨w.heap.size, 5, none⟩ = some (.slice none 0 0) := HZ6.out.cell 5
  have p6 : w6.cell? ⟨w.heap.size, 6, none⟩ = some (.slice none 0 0) := HZ6.out.cell 6
  have u0 : w6.frozen? ⟨w.heap.size, 0, none⟩ = false := HZ6.out.free 0
  have u1 : w6.frozen? ⟨w.heap.size, 1, none⟩ = false := HZ6.out.free 1
  have u2 : w6.frozen? ⟨w.heap.size, 2, none⟩ = false := HZ6.out.free 2
  have u3 : w6.frozen? ⟨w.heap.size, 3, none⟩ = false := HZ6.out.free 3
  have u4 : w6.frozen? ⟨w.heap.size, 4, none⟩ = false := HZ6.out.free 4
  have u5 : w6.frozen? ⟨w.heap.size, 5, none⟩ = false := HZ6.out.free 5
  have u6 : w6.frozen? ⟨w.heap.size, 6, none⟩ = false := HZ6.out.free 6
  go_wp2_with fail
  have HBL7 := hide (HBL6.out.put 1 (.int .i64 0))
  have HK8 := hide ((Keeps.refl (fun k => k = r) w6).setCell (p := ⟨r, 1, none⟩) (.inl rfl) (.int .i64 0))
  clear g1 f1 l0 l1 l2 l3 l4 l5 l6 p0 p1 p2 p3 p4 p5 p6 u0 u1 u2 u3 u4 u5 u6
  generalize w6.setCell ⟨r, 1, none⟩ (.int .i64 0) = w7 at *
  have HZ8 := hide ((HZ6.out.keep HK8.out (fun e => by omega)).put7 (.int .u8 kd) (.bool ng) (.slice la ln lc) (.string tx) (.int .i64 nm) (.slice ia im ic) (.slice ta tn tc))
  have HK9 := hide (((((((((Keeps.refl (fun k => k = w.heap.size) w7).setCell (p := ⟨w.heap.size, 0, none⟩) (.inl rfl) (.int .u8 kd)).setCell (p := ⟨w.heap.size, 1, none⟩) (.inl rfl) (.bool ng)).setCell (p := ⟨w.heap.size, 2, none⟩) (.inl rfl) (.slice la ln lc)).setCell (p := ⟨w.heap.size, 3, none⟩) (.inl rfl) (.string tx)).setCell (p := ⟨w.heap.size, 4, none⟩) (.inl rfl) (.int .i64 nm)).setCell (p := ⟨w.heap.size, 5, none⟩) (.inl rfl) (.slice ia im ic)).setCell (p := ⟨w.heap.size, 6, none⟩) (.inl rfl) (.slice ta tn tc)))
  generalize (((((((w7.setCell ⟨w.heap.size, 0, none⟩ (.int .u8 kd)).setCell ⟨w.heap.size, 1, none⟩ (.bool ng)).setCell ⟨w.heap.size, 2, none⟩ (.slice la ln lc)).setCell ⟨w.heap.size, 3, none⟩ (.string tx)).setCell ⟨w.heap.size, 4, none⟩ (.int .i64 nm)).setCell ⟨w.heap.size, 5, none⟩ (.slice ia im ic)).setCell ⟨w.heap.size, 6, none⟩ (.slice ta tn tc)) = w8 at *
  have d0 : w8.cell? ⟨w.heap.size, 0, none⟩ = some (.int .u8 kd) := HZ8.out.cell 0
  have d1 : w8.cell? ⟨w.heap.size, 1, none⟩ = some (.bool ng) := HZ8.out.cell 1
  have d2 : w8.cell? ⟨w.heap.size, 2, none⟩ = some (.slice la ln lc) := HZ8.out.cell 2
  have d3 : w8.cell? ⟨w.heap.size, 3, none⟩ = some (.string tx) := HZ8.out.cell 3
  have d4 : w8.cell? ⟨w.heap.size, 4, none⟩ = some (.int .i64 nm) := HZ8.out.cell 4
  have d5 : w8.cell? ⟨w.heap.size, 5, none⟩ = some (.slice ia im ic) := HZ8.out.cell 5
  have d6 : w8.cell? ⟨w.heap.size, 6, none⟩ = some (.slice ta tn tc) := HZ8.out.cell 6
  refine bodyPost_ret (v := .tuple #[.agg #[.int .u8 kd, .bool ng, .slice la ln lc, .string tx, .int .i64 nm, .slice ia im ic, .slice ta tn tc], .int .i64 0]) (by simp [results, Try.results17, go_sem, d0, d1, d2, d3, d4, d5, d6]) rfl ?_
  have k1 : Keeps (fun k => k = r) W w6 := HK6.out.trans' HK7.out (fun _ _ h => h.elim) (fun _ _ h => h)
  have k2 : Keeps (fun k => k = r) W w7 := k1.trans' HK8.out (fun _ _ h => h) (fun _ _ h => h)
  have k3 : Keeps (fun k => k = r) w w7 := HK3.out.trans' k2 (fun _ _ h => h.elim) (fun _ _ h => h)
  have k4 : Keeps (fun k => k = r) w w8 := k3.trans' HK9.out (fun _ _ h => h) (fun k hk h => by omega)
  have k5 : Keeps (fun k => k = r ∨ k = w.heap.size) W w8 := k2.trans' HK9.out (fun _ _ h => .inl h) (fun k hk h => .inr h)
  have hws : w.heap.size < W.heap.size := HB3.out.lt
  have hne : ¬ r = w.heap.size := by omega
  have hln : (css.eraseIdx i).length = n - 1 := by rw [List.length_eraseIdx_of_lt (by have := HN.out; omega), HN.out]
  have k6 : Keeps (fun k => k = r ∨ k = w.heap.size) w5 w8 := (HK7.out.trans' HK8.out (fun _ _ h => h) (fun _ _ h => h) : Keeps (fun k => k = r) w5 w7).trans' HK9.out (fun _ _ h => .inl h) (fun k hk h => .inr h)
  have hT8 := TermsIn.keep k4 (fun k hk e => HBR.out (e ▸ hk)) _ _ HO.out.ok
  have hil : i < css.length := by have := HN.out; omega
  have hit : i < ts.length := by have := HO.out.ok.lens.1; omega
  have hg := TermsIn.get hT8 i hil hit
  obtain ⟨_, e1⟩ := List.getElem?_eq_some_iff.1 HCS.out
  obtain ⟨_, e2⟩ := List.getElem?_eq_some_iff.1 HT.out
  rw [e1, e2] at hg
  refine ⟨kd, ng, la, ln, lc, tx, nm, ia, im, ic, ta, tn, tc, B2, c2, rfl, hg, ⟨?_, ?_, TermsIn.erase i hT8⟩, k4, fun k hk => by have := HB2.out k hk; omega⟩
  · rw [hln]
    have := HBL7.out.keep HK9.out hne
    simpa using this
  · rw [hln, erase_flat HF7.out]
    exact HS5.out.keep k6 (fun k hk hf => by have := HB2.out k hk; omega)
end Go.Proofs.Ytmkidkfofbnjgaa
