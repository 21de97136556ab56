/- The document's box: Put. -/
import Derived.Test.YtmkidkfofbnjgaaRef
import Derived.Test.YtmkidkfofbnjgaaMore
namespace Go.Proofs.Ytmkidkfofbnjgaa
open Go.RowKit

/-- One term in a block of its own, as a row of one. -/
theorem one_reads33 {w : World} {vb : Nat} {v0 v1 v2 v3 v4 v5 v6 : Value} (hv : Blk w vb 33 #[v0, v1, v2, v3, v4, v5, v6]) : Reads w (fun _ => True) true 7 (some ⟨vb, 0, none⟩) 1 [v0, v1, v2, v3, v4, v5, v6] := by
  refine ⟨rfl, fun _ => ⟨_, rfl, rfl, trivial, hv.lt, fun j u hu => ⟨?_, fun _ => hv.free _⟩⟩⟩
  rw [hv.cell, ← hu]; simp

/-- The last term's cells. -/
theorem last_cells {w : World} {g o c n m : Nat} {front : List Value} {v0 v1 v2 v3 v4 v5 v6 : Value} (h : Slab w 33 7 (some ⟨g, o, none⟩) m c (front ++ [v0, v1, v2, v3, v4, v5, v6])) (hf : front.length = n * 7) (hm : m = n + 1) (j : Nat) (u : Value) (hu : [v0, v1, v2, v3, v4, v5, v6][j]? = some u) :
    w.cell? ⟨g, o + n * 7 + j, none⟩ = some u ∧ w.frozen? ⟨g, o + n * 7 + j, none⟩ = false := by
  obtain ⟨ad, hA, hs, _, _, hc⟩ := h.reads.2 (by omega)
  injection hA with hA; subst hA
  have := hc (n * 7 + j) u (by rw [List.getElem?_append_right (by omega), hf]; simpa using hu)
  exact ⟨by rw [Nat.add_assoc]; exact this.1, by rw [Nat.add_assoc]; exact this.2 rfl⟩

def RefPut (w : World) (r : Nat) (A : Option Addr) (css : List (List Value)) (ts : List Tm) (B : Nat → Prop) (i : Nat) (cs : List Value) (t : Tm) (e : Ending) (w' : World) : Prop :=
  ∃ A' c', e = .returned (.int .i64 0) ∧ RefAt w' r A' c' (css ++ [cs]) (ts ++ [t]) B i ∧ Keeps (refFp r A) w w' ∧ Moved w A A'

theorem ref_put_end {w w2 w3 w5 : World} {r c c3 i n : Nat} {A A3 : Option Addr} {css : List (List Value)} {ts : List Tm} {B : Nat → Prop} {cs : List Value} {t : Tm} {F : Bool} (h : RefAt w r A c css ts B i) (hB : ∀ k, B k → ¬ refFp r A k)
    (ht : TermIn w B F cs t) (hk2 : Keeps NoB w w2) (hk3 : Keeps (rowB A) w2 w3) (hm : Moved w2 A A3) (hn : n = css.length + 1)
    (hk5 : Keeps (refFp r A3) w3 w5) (hs5 : Slab w5 33 7 A3 n c3 (css.flatten ++ cs)) (hblk : Blk w5 r 27 #[.slice A3 n c3, .int .i64 i]) :
    RefPut w r A css ts B i cs t (.returned (.int .i64 0)) w5 := by
  subst hn
  have hs2 := hk2.size
  have hk : Keeps (refFp r A) w w5 := by
    refine (hk2.trans' hk3 (fun _ _ h => h.elim) (fun _ _ h => .inr h) : Keeps (refFp r A) w w3).trans' hk5 (fun _ _ => id) ?_
    rintro k hlt (rfl | hg)
    · exact .inl rfl
    · exact .inr ((hm k hg).elim id (fun e => by omega))
  refine ⟨A3, c3, rfl, ⟨?_, ?_, ?_⟩, hk, fun k hk => (hm k hk).imp id (fun e => Nat.le_trans hs2 e)⟩
  · rw [List.length_append]; exact hblk
  · rw [List.length_append, List.flatten_append]; simpa using hs5
  · exact TermsIn.append (TermsIn.keep hk hB _ _ h.ok) (TermsIn.one (by
      have := TermIn.keep hk hB _ _ ht
      cases F with
      | false => exact this
      | true => exact TermIn.weak _ _ this))

set_option maxRecDepth 100000 in
set_option maxHeartbeats 2000000 in
theorem ref_put (r : Nat) (A : Option Addr) (c : Nat) (css : List (List Value)) (ts : List Tm) (B : Nat → Prop) (i : Nat) (w : World) (h : RefAt w r A c css ts B i) (hl : css.length < 1024) (hB : ∀ k, B k → ¬ refFp r A k)
    (kd : Int) (ng : Bool) (la : Option Addr) (ln lc : Nat) (tx : ByteArray) (nm : Int) (ia : Option Addr) (im ic : Nat) (ta : Option Addr) (tn tc : Nat) (t : Tm) (F : Bool) (ht : TermIn w B F [.int .u8 kd, .bool ng, .slice la ln lc, .string tx, .int .i64 nm, .slice ia im ic, .slice ta tn tc] t) :
    Calls Try.prog 11 #[.pointer (some ⟨r, 0, none⟩), .agg #[.int .u8 kd, .bool ng, .slice la ln lc, .string tx, .int .i64 nm, .slice ia im ic, .slice ta tn tc]] w (RefPut w r A css ts B i [.int .u8 kd, .bool ng, .slice la ln lc, .string tx, .int .i64 nm, .slice ia im ic, .slice ta tn tc] t) := by
  obtain ⟨i0, hi0, hz0, hz1, hz2⟩ := info_parts Try.info33
  have H := hide h; have HT := hide ht; have HBB := hide hB
  have hbl : r < w.heap.size := h.blk.lt
  obtain ⟨n, hn⟩ : ∃ n, css.length = n := ⟨_, rfl⟩
  have HN := hide hn
  have HBL := hide (show Blk w r 27 #[.slice A n c, .int .i64 i] from hn ▸ h.blk)
  have HSL := hide (show Slab w 33 7 A n c css.flatten from hn ▸ h.row)
  have hz : (n : Int) < 1024 := by omega
  have hzn1 : (n : Int) < (n : Int) + 1 := by omega
  have hz0' : (0 : Int) ≤ n := by omega
  have k0 : (w.alloc (.cells #[.int .u8 kd, .bool ng, .slice la ln lc, .string tx, .int .i64 nm, .slice ia im ic, .slice ta tn tc] 33)).cell? ⟨r, 0, none⟩ = some (.slice A n c) := (HBL.out.alloc _).cell 0
  clear h ht hB hl
  go_enter Try.func11, Try.ntmps11
  go_wp2_with fail
  have HS : Blk (w.alloc (.cells #[.int .u8 kd, .bool ng, .slice la ln lc, .string tx, .int .i64 nm, .slice ia im ic, .slice ta tn tc] 33)).drew r 27 #[.slice A n c, .int .i64 i] ∧ Blk (w.alloc (.cells #[.int .u8 kd, .bool ng, .slice la ln lc, .string tx, .int .i64 nm, .slice ia im ic, .slice ta tn tc] 33)).drew w.heap.size 33 #[.int .u8 kd, .bool ng, .slice la ln lc, .string tx, .int .i64 nm, .slice ia im ic, .slice ta tn tc] := ⟨(HBL.out.alloc _).drew, Blk.new w 33 _⟩
  have HK0 := hide ((((Keeps.refl NoB w).alloc (.cells #[.int .u8 kd, .bool ng, .slice la ln lc, .string tx, .int .i64 nm, .slice ia im ic, .slice ta tn tc] 33)).drew))
  refine order_begin (fun W => Blk W r 27 #[.slice A n c, .int .i64 i] ∧ Blk W w.heap.size 33 #[.int .u8 kd, .bool ng, .slice la ln lc, .string tx, .int .i64 nm, .slice ia im ic, .slice ta tn tc]) (fun j => !(j == 12)) (by kernel_rfl) 13 rfl ?_
  clear k0
  generalize (w.alloc (.cells #[.int .u8 kd, .bool ng, .slice la ln lc, .string tx, .int .i64 nm, .slice ia im ic, .slice ta tn tc] 33)).drew = W0 at *
  refine order_pure (i := 0) rfl (by kernel_rfl) (fun _ _ _ h => h) (.inl ⟨rfl, fun _ => by go_simp; rfl⟩) ?_
  try simp only [Act.put, List.setIfInBounds_toArray, List.set_cons_succ, List.set_cons_zero]
  refine order_pure (i := 1) rfl (by kernel_rfl) (fun _ _ _ h => h) (.inl ⟨rfl, fun _ => by go_simp; rfl⟩) ?_
  try simp only [Act.put, List.setIfInBounds_toArray, List.set_cons_succ, List.set_cons_zero]
  refine order_pure (i := 2) rfl (by kernel_rfl) (fun _ _ _ h => h) (.inl ⟨rfl, fun _ => by go_simp; rfl⟩) ?_
  try simp only [Act.put, List.setIfInBounds_toArray, List.set_cons_succ, List.set_cons_zero]
  refine order_held (i := 3) rfl (by kernel_rfl) (fun _ _ _ h => h) (.inl ⟨rfl, fun W hW => by
    have q0 : W.cell? ⟨r, 0, none⟩ = some (.slice A n c) := hW.1.cell 0
    go_simp; rfl⟩) HS ?_
  try simp only [Act.put, List.setIfInBounds_toArray, List.set_cons_succ, List.set_cons_zero]
  refine order_held (i := 4) rfl (by kernel_rfl) (fun _ _ _ h => h) (.inl ⟨rfl, fun W hW => by
    have q0 : W.cell? ⟨w.heap.size, 0, none⟩ = some (.int .u8 kd) := hW.2.cell 0
    have q1 : W.cell? ⟨w.heap.size, 1, none⟩ = some (.bool ng) := hW.2.cell 1
    have q2 : W.cell? ⟨w.heap.size, 2, none⟩ = some (.slice la ln lc) := hW.2.cell 2
    have q3 : W.cell? ⟨w.heap.size, 3, none⟩ = some (.string tx) := hW.2.cell 3
    have q4 : W.cell? ⟨w.heap.size, 4, none⟩ = some (.int .i64 nm) := hW.2.cell 4
    have q5 : W.cell? ⟨w.heap.size, 5, none⟩ = some (.slice ia im ic) := hW.2.cell 5
    have q6 : W.cell? ⟨w.heap.size, 6, none⟩ = some (.slice ta tn tc) := hW.2.cell 6
    go_simp; rfl⟩) HS ?_
  try simp only [Act.put, List.setIfInBounds_toArray, List.set_cons_succ, List.set_cons_zero]
  refine order_pure (i := 5) rfl (by kernel_rfl) (fun _ _ _ h => h) (.inl ⟨rfl, fun _ => by go_simp; rfl⟩) ?_
  try simp only [Act.put, List.setIfInBounds_toArray, List.set_cons_succ, List.set_cons_zero]
  refine order_one (i := 6) rfl (by kernel_rfl) (fun K hK => ?_)
  go_simp
  refine hK _ _ (fun _ hS => ⟨hS.1.alloc _, hS.2.alloc _⟩) ?_
  clear hK
  have HS1 : Blk (W0.alloc (.cells #[.int .u8 0, .bool false, .slice none 0 0, .string { data := #[] }, .int .i64 0, .slice none 0 0, .slice none 0 0] 33)) r 27 #[.slice A n c, .int .i64 i] ∧ Blk (W0.alloc (.cells #[.int .u8 0, .bool false, .slice none 0 0, .string { data := #[] }, .int .i64 0, .slice none 0 0, .slice none 0 0] 33)) w.heap.size 33 #[.int .u8 kd, .bool ng, .slice la ln lc, .string tx, .int .i64 nm, .slice ia im ic, .slice ta tn tc] := ⟨HS.1.alloc _, HS.2.alloc _⟩
  have HK1 := hide (HK0.out.alloc (.cells #[.int .u8 0, .bool false, .slice none 0 0, .string { data := #[] }, .int .i64 0, .slice none 0 0, .slice none 0 0] 33))
  have HRD := hide (one_reads33 (Blk.new W0 33 #[.int .u8 0, .bool false, .slice none 0 0, .string { data := #[] }, .int .i64 0, .slice none 0 0, .slice none 0 0]))
  clear HS
  generalize W0.alloc (.cells #[.int .u8 0, .bool false, .slice none 0 0, .string { data := #[] }, .int .i64 0, .slice none 0 0, .slice none 0 0] 33) = W1 at *
  try simp only [Act.put, List.setIfInBounds_toArray, List.set_cons_succ, List.set_cons_zero]
  refine order_one (i := 7) rfl (by kernel_rfl) (fun K hK => ?_)
  have HSL1 := hide (HSL.out.fresh HK1.out)
  refine step_append_any _ rfl (.tmp 14) (.tmp 17) 25 rfl 33 i0 _ 7 104 Try.underlying25 hi0 hz0 ‹i0.size = 7› hz2 rfl (by omega) A n c css.flatten rfl HSL1.out (fun _ => True) true (some ⟨W0.heap.size, 0, none⟩) 1 1 [.int .u8 0, .bool false, .slice none 0 0, .string { data := #[] }, .int .i64 0, .slice none 0 0, .slice none 0 0] rfl HRD.out (by decide +kernel) (by unfold maxLen; omega) (by omega) ?_
  intro A3 c3 w3 hs3 hk3 hm3
  have HSEP := hide (HSL1.out.ne HS1.1 (by decide))
  have HS3 : Blk w3 r 27 #[.slice A n c, .int .i64 i] ∧ Blk w3 w.heap.size 33 #[.int .u8 kd, .bool ng, .slice la ln lc, .string tx, .int .i64 nm, .slice ia im ic, .slice ta tn tc] := ⟨HS1.1.keep hk3 HSEP.out, HS1.2.keep hk3 (fun hg => by have := HSL.out.lt hg; omega)⟩
  refine hK _ _ (fun _ _ => HS3) ?_
  clear hK
  obtain ⟨g3, o3, rfl⟩ : ∃ g3 o3, A3 = some ⟨g3, o3, none⟩ := by
    obtain ⟨⟨g, o, sp⟩, hA, hs, _⟩ := hs3.reads.2 (by omega)
    simp only at hs
    subst hs
    exact ⟨g, o, hA⟩
  have HSL3 := hide hs3; have HK3 := hide hk3; have HM3 := hide hm3
  have HSEP3 := hide (hs3.ne HS3.1 (by decide))
  clear hs3 hk3 hm3
  try simp only [Act.put, List.setIfInBounds_toArray, List.set_cons_succ, List.set_cons_zero]
  refine order_pure (i := 8) rfl (by kernel_rfl) (fun _ _ _ h => h) (.inl ⟨rfl, fun _ => by go_simp; rfl⟩) ?_
  try simp only [Act.put, List.setIfInBounds_toArray, List.set_cons_succ, List.set_cons_zero]
  refine order_pure (i := 10) rfl (by kernel_rfl) (fun _ _ _ h => h) (.inl ⟨rfl, fun _ => by go_simp; rfl⟩) ?_
  try simp only [Act.put, List.setIfInBounds_toArray, List.set_cons_succ, List.set_cons_zero]
  refine order_pure (i := 11) rfl (by kernel_rfl) (fun _ _ _ h => h) (.inl ⟨rfl, fun _ => by go_simp; rfl⟩) ?_
  try simp only [Act.put, List.setIfInBounds_toArray, List.set_cons_succ, List.set_cons_zero]
  have HF := hide (show css.flatten.length = n * 7 from by have := HSL.out.1; omega)
  have hsep3 : ¬ r = g3 := fun e => HSEP3.out ⟨o3, by rw [e]⟩
  have hsep4 : ¬ w.heap.size = g3 := fun e => by
    have := HM3.out g3 ⟨o3, rfl⟩
    rcases this with h | h
    · have := HSL.out.lt h; omega
    · have := HK1.out.size; have := HS1.2.lt; omega
  have HQ3 := hide hsep3; have HQ4 := hide hsep4
  clear hsep3 hsep4
  refine order_two (i := 9) (j := 12) rfl rfl (by kernel_rfl) (fun K hK => ?_) (fun K hK => ?_)
  · have hl7 := last_cells HSL3.out HF.out rfl
    have d0 : w3.cell? ⟨g3, o3 + n * 7, none⟩ = some (.int .u8 0) := (hl7 0 _ rfl).1
    have d1 : w3.cell? ⟨g3, o3 + n * 7 + 1, none⟩ = some (.bool false) := (hl7 1 _ rfl).1
    have d2 : w3.cell? ⟨g3, o3 + n * 7 + 2, none⟩ = some (.slice none 0 0) := (hl7 2 _ rfl).1
    have d3 : w3.cell? ⟨g3, o3 + n * 7 + 3, none⟩ = some (.string { data := #[] }) := (hl7 3 _ rfl).1
    have d4 : w3.cell? ⟨g3, o3 + n * 7 + 4, none⟩ = some (.int .i64 0) := (hl7 4 _ rfl).1
    have d5 : w3.cell? ⟨g3, o3 + n * 7 + 5, none⟩ = some (.slice none 0 0) := (hl7 5 _ rfl).1
    have d6 : w3.cell? ⟨g3, o3 + n * 7 + 6, none⟩ = some (.slice none 0 0) := (hl7 6 _ rfl).1
    have e0 : w3.frozen? ⟨g3, o3 + n * 7, none⟩ = false := (hl7 0 _ rfl).2
    have e1 : w3.frozen? ⟨g3, o3 + n * 7 + 1, none⟩ = false := (hl7 1 _ rfl).2
    have e2 : w3.frozen? ⟨g3, o3 + n * 7 + 2, none⟩ = false := (hl7 2 _ rfl).2
    have e3 : w3.frozen? ⟨g3, o3 + n * 7 + 3, none⟩ = false := (hl7 3 _ rfl).2
    have e4 : w3.frozen? ⟨g3, o3 + n * 7 + 4, none⟩ = false := (hl7 4 _ rfl).2
    have e5 : w3.frozen? ⟨g3, o3 + n * 7 + 5, none⟩ = false := (hl7 5 _ rfl).2
    have e6 : w3.frozen? ⟨g3, o3 + n * 7 + 6, none⟩ = false := (hl7 6 _ rfl).2
    clear hl7
    go_simp
    have HKP := hide (((((((((Keeps.refl (fun k => k = g3) w3).setCell (p := ⟨g3, o3 + n * 7, none⟩) (.inl rfl) (.int .u8 kd)).setCell (p := ⟨g3, o3 + n * 7 + 1, none⟩) (.inl rfl) (.bool ng)).setCell (p := ⟨g3, o3 + n * 7 + 2, none⟩) (.inl rfl) (.slice la ln lc)).setCell (p := ⟨g3, o3 + n * 7 + 3, none⟩) (.inl rfl) (.string tx)).setCell (p := ⟨g3, o3 + n * 7 + 4, none⟩) (.inl rfl) (.int .i64 nm)).setCell (p := ⟨g3, o3 + n * 7 + 5, none⟩) (.inl rfl) (.slice ia im ic)).setCell (p := ⟨g3, o3 + n * 7 + 6, none⟩) (.inl rfl) (.slice ta tn tc)))
    have HSL4 := hide (HSL3.out.put7 (n := n) HF.out rfl (.int .u8 kd) (.bool ng) (.slice la ln lc) (.string tx) (.int .i64 nm) (.slice ia im ic) (.slice ta tn tc))
    clear d0 d1 d2 d3 d4 d5 d6 e0 e1 e2 e3 e4 e5 e6
    generalize (((((((w3.setCell ⟨g3, o3 + n * 7, none⟩ (.int .u8 kd)).setCell ⟨g3, o3 + n * 7 + 1, none⟩ (.bool ng)).setCell ⟨g3, o3 + n * 7 + 2, none⟩ (.slice la ln lc)).setCell ⟨g3, o3 + n * 7 + 3, none⟩ (.string tx)).setCell ⟨g3, o3 + n * 7 + 4, none⟩ (.int .i64 nm)).setCell ⟨g3, o3 + n * 7 + 5, none⟩ (.slice ia im ic)).setCell ⟨g3, o3 + n * 7 + 6, none⟩ (.slice ta tn tc)) = w4 at *
    have HS4 : Blk w4 r 27 #[.slice A n c, .int .i64 i] ∧ Blk w4 w.heap.size 33 #[.int .u8 kd, .bool ng, .slice la ln lc, .string tx, .int .i64 nm, .slice ia im ic, .slice ta tn tc] := ⟨HS3.1.keep HKP.out HQ3.out, HS3.2.keep HKP.out HQ4.out⟩
    refine hK _ _ (fun _ _ => HS4) ?_
    clear hK
    try simp only [Act.put, List.setIfInBounds_toArray, List.set_cons_succ, List.set_cons_zero]
    have s2 : w4.cell? ⟨r, 0, none⟩ = some (.slice A n c) := HS4.1.cell 0
    have t2 : w4.frozen? ⟨r, 0, none⟩ = false := HS4.1.free 0
    refine order_one (i := 12) rfl (by kernel_rfl) (fun K hK => ?_)
    go_simp
    refine hK _ _ (fun h => absurd h (by decide)) ?_
    clear hK
    try simp only [Act.put, List.setIfInBounds_toArray, List.set_cons_succ, List.set_cons_zero]
    clear s2 t2
    have HB5 := hide (HS4.1.put 0 (.slice (some ⟨g3, o3, none⟩) (n + 1) c3))
    have HK5 := hide ((Keeps.refl (fun x => x = r) w4).setCell (p := ⟨r, 0, none⟩) (.inl rfl) (.slice (some ⟨g3, o3, none⟩) (n + 1) c3))
    generalize w4.setCell ⟨r, 0, none⟩ (.slice (some ⟨g3, o3, none⟩) (n + 1) c3) = w5 at *
    refine order_done (by kernel_rfl) ?_
    go_wp2
    go_ret
    exact ref_put_end H.out HBB.out HT.out HK1.out HK3.out HM3.out (by have := HN.out; omega) (HKP.out.trans' HK5.out (fun _ _ h => .inr ⟨o3, by rw [h]⟩) (fun _ _ h => .inl h)) (HSL4.out.keep HK5.out (fun k hk e => HSEP3.out (e ▸ hk))) HB5.out
  · have s2 : w3.cell? ⟨r, 0, none⟩ = some (.slice A n c) := HS3.1.cell 0
    have t2 : w3.frozen? ⟨r, 0, none⟩ = false := HS3.1.free 0
    go_simp
    refine hK _ _ (fun h => absurd h (by decide)) ?_
    clear hK
    try simp only [Act.put, List.setIfInBounds_toArray, List.set_cons_succ, List.set_cons_zero]
    clear s2 t2
    have HB5 := hide (HS3.1.put 0 (.slice (some ⟨g3, o3, none⟩) (n + 1) c3))
    have HK5 := hide ((Keeps.refl (fun x => x = r) w3).setCell (p := ⟨r, 0, none⟩) (.inl rfl) (.slice (some ⟨g3, o3, none⟩) (n + 1) c3))
    generalize w3.setCell ⟨r, 0, none⟩ (.slice (some ⟨g3, o3, none⟩) (n + 1) c3) = w4 at *
    have HSL4 := hide (HSL3.out.keep HK5.out (fun k hk e => HSEP3.out (e ▸ hk)))
    have hl7 := last_cells HSL4.out HF.out rfl
    have d0 : w4.cell? ⟨g3, o3 + n * 7, none⟩ = some (.int .u8 0) := (hl7 0 _ rfl).1
    have d1 : w4.cell? ⟨g3, o3 + n * 7 + 1, none⟩ = some (.bool false) := (hl7 1 _ rfl).1
    have d2 : w4.cell? ⟨g3, o3 + n * 7 + 2, none⟩ = some (.slice none 0 0) := (hl7 2 _ rfl).1
    have d3 : w4.cell? ⟨g3, o3 + n * 7 + 3, none⟩ = some (.string { data := #[] }) := (hl7 3 _ rfl).1
    have d4 : w4.cell? ⟨g3, o3 + n * 7 + 4, none⟩ = some (.int .i64 0) := (hl7 4 _ rfl).1
    have d5 : w4.cell? ⟨g3, o3 + n * 7 + 5, none⟩ = some (.slice none 0 0) := (hl7 5 _ rfl).1
    have d6 : w4.cell? ⟨g3, o3 + n * 7 + 6, none⟩ = some (.slice none 0 0) := (hl7 6 _ rfl).1
    have e0 : w4.frozen? ⟨g3, o3 + n * 7, none⟩ = false := (hl7 0 _ rfl).2
    have e1 : w4.frozen? ⟨g3, o3 + n * 7 + 1, none⟩ = false := (hl7 1 _ rfl).2
    have e2 : w4.frozen? ⟨g3, o3 + n * 7 + 2, none⟩ = false := (hl7 2 _ rfl).2
    have e3 : w4.frozen? ⟨g3, o3 + n * 7 + 3, none⟩ = false := (hl7 3 _ rfl).2
    have e4 : w4.frozen? ⟨g3, o3 + n * 7 + 4, none⟩ = false := (hl7 4 _ rfl).2
    have e5 : w4.frozen? ⟨g3, o3 + n * 7 + 5, none⟩ = false := (hl7 5 _ rfl).2
    have e6 : w4.frozen? ⟨g3, o3 + n * 7 + 6, none⟩ = false := (hl7 6 _ rfl).2
    clear hl7
    refine order_one (i := 9) rfl (by kernel_rfl) (fun K hK => ?_)
    go_simp
    have HKP := hide (((((((((Keeps.refl (fun k => k = g3) w4).setCell (p := ⟨g3, o3 + n * 7, none⟩) (.inl rfl) (.int .u8 kd)).setCell (p := ⟨g3, o3 + n * 7 + 1, none⟩) (.inl rfl) (.bool ng)).setCell (p := ⟨g3, o3 + n * 7 + 2, none⟩) (.inl rfl) (.slice la ln lc)).setCell (p := ⟨g3, o3 + n * 7 + 3, none⟩) (.inl rfl) (.string tx)).setCell (p := ⟨g3, o3 + n * 7 + 4, none⟩) (.inl rfl) (.int .i64 nm)).setCell (p := ⟨g3, o3 + n * 7 + 5, none⟩) (.inl rfl) (.slice ia im ic)).setCell (p := ⟨g3, o3 + n * 7 + 6, none⟩) (.inl rfl) (.slice ta tn tc)))
    have HSL5 := hide (HSL4.out.put7 (n := n) HF.out rfl (.int .u8 kd) (.bool ng) (.slice la ln lc) (.string tx) (.int .i64 nm) (.slice ia im ic) (.slice ta tn tc))
    clear d0 d1 d2 d3 d4 d5 d6 e0 e1 e2 e3 e4 e5 e6
    generalize (((((((w4.setCell ⟨g3, o3 + n * 7, none⟩ (.int .u8 kd)).setCell ⟨g3, o3 + n * 7 + 1, none⟩ (.bool ng)).setCell ⟨g3, o3 + n * 7 + 2, none⟩ (.slice la ln lc)).setCell ⟨g3, o3 + n * 7 + 3, none⟩ (.string tx)).setCell ⟨g3, o3 + n * 7 + 4, none⟩ (.int .i64 nm)).setCell ⟨g3, o3 + n * 7 + 5, none⟩ (.slice ia im ic)).setCell ⟨g3, o3 + n * 7 + 6, none⟩ (.slice ta tn tc)) = w5 at *
    refine hK _ _ (fun _ hS => ⟨hS.1.keep HKP.out HQ3.out, hS.2.keep HKP.out HQ4.out⟩) ?_
    clear hK
    try simp only [Act.put, List.setIfInBounds_toArray, List.set_cons_succ, List.set_cons_zero]
    refine order_done (by kernel_rfl) ?_
    go_wp2
    go_ret
    exact ref_put_end H.out HBB.out HT.out HK1.out HK3.out HM3.out (by have := HN.out; omega) (HK5.out.trans' HKP.out (fun _ _ h => .inl h) (fun _ _ h => .inr ⟨o3, by rw [h]⟩)) HSL5.out (HB5.out.keep HKP.out HQ3.out)
end Go.Proofs.Ytmkidkfofbnjgaa
