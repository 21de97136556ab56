/- Box.All with all blocks known; Box.Copy; the document's Copy. Two pairs beside each other: the boxes, and their copies. -/
import Derived.Test.YtmkidkfofbnjgaaOTermJn
import Derived.Test.YtmkidkfofbnjgaaMoreJn
namespace Go.Proofs.Ytmkidkfofbnjgaa
open Go.RowKit

set_option maxRecDepth 100000 in
theorem all_o (b : Nat) (sv : Value) (L : List Lt) (i : Nat) (w : World) (h : BoxAt w b sv L i) (hl : L.length ≤ 1024) :
    Calls Try.prog 24 #[.pointer (some ⟨b, 0, none⟩)] w (OwnPostO w L.length (L.map (·.t))) := by
  obtain ⟨A, c, hsv, hnc, _⟩ := ownsRow_mk h.row
  subst hsv
  have hk2 : w.cell? ⟨b, 2, none⟩ = some (.bool true) := h.blk.cell 2
  have hk0 : w.cell? ⟨b, 0, none⟩ = some (.slice A L.length c) := h.blk.cell 0
  have H := hide h; clear h
  go_enter Try.func24, Try.ntmps24
  go_wp2_with (first | (go_at_call 32; refine (known_at b true _ hk2).mono ?_; rintro e w' ⟨rfl, rfl⟩) | (go_at_call 33; refine (own_o (L.map (·.t)) (cellsOf L) A L.length c w (fun _ => True) true ((Reads.of_own H.out.row).more (fun _ _ _ => trivial)) (terms_of H.out.ok) (Roomy.small (by omega) (by omega))).mono ?_; rintro e w' ⟨A', c', css', m', rfl, h1, h2, h3, h4⟩; have HR := hide (And.intro h1 (And.intro h2 (And.intro h3 h4))); clear h1 h2 h3 h4))
  go_ret
  obtain ⟨h1, h2, h3, h4⟩ := HR.out
  exact ⟨A', c', css', m', rfl, h1, h2, h3, h4⟩

def CopyPost (w : World) (ts : List Tm) (i : Nat) (e : Ending) (w' : World) : Prop :=
  ∃ b sv L, e = .returned (.pointer (some ⟨b, 0, none⟩)) ∧ BoxAt w' b sv L i ∧ L.map (·.t) = ts ∧ (∀ x ∈ L, w.heap.size ≤ x.lo) ∧ (∀ k, boxFp b sv k → w.heap.size ≤ k) ∧ Keeps NoB w w'
set_option maxRecDepth 100000 in
theorem copy_box (b : Nat) (sv : Value) (L : List Lt) (i : Nat) (w : World) (h : BoxAt w b sv L i) (hl : L.length ≤ 1024) (hs : smallTs (L.map (·.t))) :
    Calls Try.prog 29 #[.pointer (some ⟨b, 0, none⟩)] w (CopyPost w (L.map (·.t)) i) := by
  obtain ⟨A, c, hsv, hnc, _⟩ := ownsRow_mk h.row
  subst hsv
  have hk2 : w.cell? ⟨b, 2, none⟩ = some (.bool true) := h.blk.cell 2
  have HBL := hide h.blk
  have H := hide h; have HSM := hide hs; clear h hs
  go_enter Try.func29, Try.ntmps29
  go_wp2_with (go_at_call 32; refine (known_at b true _ hk2).mono ?_; rintro e w' ⟨rfl, rfl⟩)
  clear hk2
  refine order_begin (fun W => Keeps NoB w W) (fun _ => true) (by kernel_rfl) 12 rfl ?_
  have HS : Keeps NoB w w.drew := (Keeps.refl _ _).drew
  refine order_pure (i := 0) rfl (by kernel_rfl) (fun _ _ _ h => h) (.inl ⟨rfl, fun _ => by go_simp; rfl⟩) ?_
  try simp only [Act.put, List.setIfInBounds_toArray, List.set_cons_succ, List.set_cons_zero]
  refine order_pure (i := 1) rfl (by kernel_rfl) (fun _ _ _ h => h) (.inl ⟨rfl, fun _ => by go_simp; rfl⟩) ?_
  try simp only [Act.put, List.setIfInBounds_toArray, List.set_cons_succ, List.set_cons_zero]
  refine order_pure (i := 2) rfl (by kernel_rfl) (fun _ _ _ h => h) (.inl ⟨rfl, fun _ => by go_simp; rfl⟩) ?_
  try simp only [Act.put, List.setIfInBounds_toArray, List.set_cons_succ, List.set_cons_zero]
  refine order_held (i := 3) rfl (by kernel_rfl) (fun _ _ _ h => h) (.inl ⟨rfl, fun W hW => by
    have q0 : W.cell? ⟨b, 0, none⟩ = some (.slice A L.length c) := hW.cell id (HBL.out.cell 0)
    go_simp; rfl⟩) HS ?_
  try simp only [Act.put, List.setIfInBounds_toArray, List.set_cons_succ, List.set_cons_zero]
  refine order_pure (i := 5) rfl (by kernel_rfl) (fun _ _ _ h => h) (.inl ⟨rfl, fun _ => by go_simp; rfl⟩) ?_
  try simp only [Act.put, List.setIfInBounds_toArray, List.set_cons_succ, List.set_cons_zero]
  refine order_pure (i := 6) rfl (by kernel_rfl) (fun _ _ _ h => h) (.inl ⟨rfl, fun _ => by go_simp; rfl⟩) ?_
  try simp only [Act.put, List.setIfInBounds_toArray, List.set_cons_succ, List.set_cons_zero]
  refine order_pure (i := 7) rfl (by kernel_rfl) (fun _ _ _ h => h) (.inl ⟨rfl, fun _ => by go_simp; rfl⟩) ?_
  try simp only [Act.put, List.setIfInBounds_toArray, List.set_cons_succ, List.set_cons_zero]
  refine order_held (i := 8) rfl (by kernel_rfl) (fun _ _ _ h => h) (.inl ⟨rfl, fun W hW => by
    have q0 : W.cell? ⟨b, 1, none⟩ = some (.int .i64 i) := hW.cell id (HBL.out.cell 1)
    go_simp; rfl⟩) HS ?_
  try simp only [Act.put, List.setIfInBounds_toArray, List.set_cons_succ, List.set_cons_zero]
  refine order_one (i := 4) rfl (by kernel_rfl) (fun K hK => ?_)
  go_simp
  refine (own_o (L.map (·.t)) (cellsOf L) A L.length c _ (fun _ => True) true ((Reads.of_own (H.out.fresh HS).row).more (fun _ _ _ => trivial)) (terms_of (H.out.fresh HS).ok) (Roomy.small (by omega) (by omega))).mono ?_
  rintro e w2 ⟨A', c', css', m, rfl, h1, h2, h3, h4⟩
  have HS2 : Keeps NoB w w2 := HS.trans' (Keeps.of_below h3 NoB) (fun _ _ => id) (fun _ _ => id)
  have H1 := hide h1; have H2 := hide h2; have H4 := hide h4
  refine hK _ _ (fun _ _ => HS2) ?_
  clear hK HS h1 h2 h3 h4
  have HS := HS2
  clear HS2
  try simp only [Act.put, List.setIfInBounds_toArray, List.set_cons_succ, List.set_cons_zero]
  refine order_pure (i := 9) rfl (by kernel_rfl) (fun _ _ _ h => h) (.inl ⟨rfl, fun _ => by go_simp; rfl⟩) ?_
  try simp only [Act.put, List.setIfInBounds_toArray, List.set_cons_succ, List.set_cons_zero]
  refine order_one (i := 10) rfl (by kernel_rfl) (fun K hK => ?_)
  go_simp
  have HS3 : Keeps NoB w (w2.alloc (.cells #[.slice A' L.length c', .int .i64 i, .bool true] 61)) := HS.alloc _
  refine hK _ _ (fun _ _ => HS3) ?_
  clear hK
  have HK2 := hide ((Keeps.refl NoB w2).alloc (.cells #[.slice A' L.length c', .int .i64 i, .bool true] 61))
  have HB3 := hide (Blk.new w2 61 #[.slice A' L.length c', .int .i64 i, .bool true])
  clear HS
  have HS := HS3
  clear HS3
  try simp only [Act.put, List.setIfInBounds_toArray, List.set_cons_succ, List.set_cons_zero]
  refine order_pure (i := 11) rfl (by kernel_rfl) (fun _ _ _ h => h) (.inl ⟨rfl, fun _ => by go_simp; rfl⟩) ?_
  try simp only [Act.put, List.setIfInBounds_toArray, List.set_cons_succ, List.set_cons_zero]
  refine order_done (by kernel_rfl) ?_
  have HKF := hide HS
  clear HS
  go_wp2
  go_ret
  obtain ⟨L', g1, g2, g3, g4, g5⟩ := box_own (H1.out.keep HK2.out (fun _ _ _ => id)) (OsIn.keep HK2.out H2.out (fun _ _ _ => id)) (H4.out.fresh HK2.out) HSM.out HB3.out (Nat.le_refl _)
  exact ⟨_, _, L', rfl, g1, g2, g3, g5, HKF.out⟩

def RCopyPost (w : World) (css : List (List Value)) (ts : List Tm) (B : Nat → Prop) (i : Nat) (e : Ending) (w' : World) : Prop :=
  ∃ r A c, e = .returned (.pointer (some ⟨r, 0, none⟩)) ∧ RefAt w' r A c css ts B i ∧ (∀ k, refFp r A k → w.heap.size ≤ k) ∧ Keeps NoB w w'
theorem Try.infoRC33 : (Try.prog.info? 33).map (fun i => (i.zero, i.size, i.bytes)) = some (some (.agg #[.int .u8 0, .bool false, .slice none 0 0, .string { data := #[] }, .int .i64 0, .slice none 0 0, .slice none 0 0]), 7, 104) := by kernel_rfl
set_option maxRecDepth 100000 in
theorem ref_copy (r : Nat) (A : Option Addr) (c : Nat) (css : List (List Value)) (ts : List Tm) (B : Nat → Prop) (i : Nat) (w : World) (h : RefAt w r A c css ts B i) (hl : css.length ≤ 1048576) :
    Calls Try.prog 30 #[.pointer (some ⟨r, 0, none⟩)] w (RCopyPost w css ts B i) := by
  obtain ⟨i0, hi0, hz0, hz1, hz2⟩ := info_parts Try.infoRC33
  have H := hide h
  have HBL := hide h.blk
  have HON := hide (TermsIn.ones _ _ h.ok)
  obtain ⟨n, hn⟩ : ∃ n, css.length = n := ⟨_, rfl⟩
  have HN := hide hn
  rw [hn] at hl HBL
  clear h hn
  go_enter Try.func30, Try.ntmps30
  go_wp2_with fail
  refine order_begin (fun W => Keeps NoB w W) (fun _ => true) (by kernel_rfl) 13 rfl ?_
  have HS : Keeps NoB w w.drew := (Keeps.refl _ _).drew
  refine order_pure (i := 1) rfl (by kernel_rfl) (fun _ _ _ h => h) (.inl ⟨rfl, fun _ => by go_simp; rfl⟩) ?_
  try simp only [Act.put, List.setIfInBounds_toArray, List.set_cons_succ, List.set_cons_zero]
  refine order_pure (i := 2) rfl (by kernel_rfl) (fun _ _ _ h => h) (.inl ⟨rfl, fun _ => by go_simp; rfl⟩) ?_
  try simp only [Act.put, List.setIfInBounds_toArray, List.set_cons_succ, List.set_cons_zero]
  refine order_pure (i := 3) rfl (by kernel_rfl) (fun _ _ _ h => h) (.inl ⟨rfl, fun _ => by go_simp; rfl⟩) ?_
  try simp only [Act.put, List.setIfInBounds_toArray, List.set_cons_succ, List.set_cons_zero]
  refine order_held (i := 4) rfl (by kernel_rfl) (fun _ _ _ h => h) (.inl ⟨rfl, fun W hW => by
    have q0 : W.cell? ⟨r, 0, none⟩ = some (.slice A n c) := hW.cell id (HBL.out.cell 0)
    go_simp; rfl⟩) HS ?_
  try simp only [Act.put, List.setIfInBounds_toArray, List.set_cons_succ, List.set_cons_zero]
  refine order_pure (i := 6) rfl (by kernel_rfl) (fun _ _ _ h => h) (.inl ⟨rfl, fun _ => by go_simp; rfl⟩) ?_
  try simp only [Act.put, List.setIfInBounds_toArray, List.set_cons_succ, List.set_cons_zero]
  refine order_pure (i := 7) rfl (by kernel_rfl) (fun _ _ _ h => h) (.inl ⟨rfl, fun _ => by go_simp; rfl⟩) ?_
  try simp only [Act.put, List.setIfInBounds_toArray, List.set_cons_succ, List.set_cons_zero]
  refine order_pure (i := 8) rfl (by kernel_rfl) (fun _ _ _ h => h) (.inl ⟨rfl, fun _ => by go_simp; rfl⟩) ?_
  try simp only [Act.put, List.setIfInBounds_toArray, List.set_cons_succ, List.set_cons_zero]
  refine order_held (i := 9) rfl (by kernel_rfl) (fun _ _ _ h => h) (.inl ⟨rfl, fun W hW => by
    have q0 : W.cell? ⟨r, 1, none⟩ = some (.int .i64 i) := hW.cell id (HBL.out.cell 1)
    go_simp; rfl⟩) HS ?_
  try simp only [Act.put, List.setIfInBounds_toArray, List.set_cons_succ, List.set_cons_zero]
  refine order_one (i := 0) rfl (by kernel_rfl) (fun K hK => ?_)
  go_simp
  have HS1 : Keeps NoB w (w.drew.alloc (.cells #[] 33)) := HS.alloc _
  refine hK _ _ (fun _ _ => HS1) ?_
  clear hK
  have HSL := hide (Slab.made w.drew 33 7)
  have HZ := hide (show w.heap.size ≤ w.drew.heap.size from HS.size)
  clear HS
  have HS := HS1
  clear HS1
  try simp only [Act.put, List.setIfInBounds_toArray, List.set_cons_succ, List.set_cons_zero]
  refine order_one (i := 5) rfl (by kernel_rfl) (fun K hK => ?_)
  have HR := hide (show Reads (w.drew.alloc (.cells #[] 33)) (rowB A) true 7 A n css.flatten from HN.out ▸ (H.out.fresh HS).row.reads)
  refine step_append_any _ rfl (.tmp 3) (.tmp 7) 25 rfl 33 i0 _ 7 104 Try.underlying25 hi0 hz0 hz1 hz2 rfl (by omega) (some ⟨w.drew.heap.size, 0, none⟩) 0 0 [] rfl HSL.out (rowB A) true A n c css.flatten rfl HR.out HON.out (by unfold maxLen; omega) (by omega) ?_
  intro A3 c3 w3 h1 h2 h3
  rw [Nat.zero_add] at h1 ⊢
  rw [List.nil_append] at h1
  have HS3 : Keeps NoB w w3 := HS.trans' h2 (fun _ _ => id) (fun k hk ⟨o, e⟩ => by injection e with e; injection e with e; have := HZ.out; omega)
  have H1 := hide h1
  have HM := hide (show ∀ k, rowB A3 k → w.heap.size ≤ k from fun k hk => by
    rcases h3 k hk with ⟨o, e⟩ | h
    · injection e with e; injection e with e; have := HZ.out; omega
    · exact Nat.le_trans HS.size h)
  refine hK _ _ (fun _ _ => HS3) ?_
  clear hK HS h1 h2 h3 HR HSL
  have HS := HS3
  clear HS3
  try simp only [Act.put, List.setIfInBounds_toArray, List.set_cons_succ, List.set_cons_zero]
  refine order_pure (i := 10) rfl (by kernel_rfl) (fun _ _ _ h => h) (.inl ⟨rfl, fun _ => by go_simp; rfl⟩) ?_
  try simp only [Act.put, List.setIfInBounds_toArray, List.set_cons_succ, List.set_cons_zero]
  refine order_one (i := 11) rfl (by kernel_rfl) (fun K hK => ?_)
  go_simp
  have HS4 : Keeps NoB w (w3.alloc (.cells #[.slice A3 n c3, .int .i64 i] 27)) := HS.alloc _
  refine hK _ _ (fun _ _ => HS4) ?_
  clear hK
  have HK3 := hide ((Keeps.refl NoB w3).alloc (.cells #[.slice A3 n c3, .int .i64 i] 27))
  have HB3 := hide (Blk.new w3 27 #[.slice A3 n c3, .int .i64 i])
  have HZ3 := hide HS.size
  clear HS
  have HS := HS4
  clear HS4
  try simp only [Act.put, List.setIfInBounds_toArray, List.set_cons_succ, List.set_cons_zero]
  refine order_pure (i := 12) rfl (by kernel_rfl) (fun _ _ _ h => h) (.inl ⟨rfl, fun _ => by go_simp; rfl⟩) ?_
  try simp only [Act.put, List.setIfInBounds_toArray, List.set_cons_succ, List.set_cons_zero]
  refine order_done (by kernel_rfl) ?_
  have HKF := hide HS
  clear HS
  go_wp2
  go_ret
  refine ⟨_, A3, c3, rfl, ⟨?_, ?_, TermsIn.keep HKF.out (fun _ _ => id) _ _ H.out.ok⟩, ?_, HKF.out⟩
  · rw [HN.out]; exact HB3.out
  · rw [HN.out]; exact H1.out.fresh HK3.out
  · rintro k (rfl | hk)
    · exact HZ3.out
    · exact HM.out k hk
end Go.Proofs.Ytmkidkfofbnjgaa
namespace Go.Proofs.Ytmkidkfofbnjgaa
open Go.RowKit

/-- What turns nothing of one side's blocks turns but the other's. -/
theorem keeps_side {w wr w' : World} {P Q : Nat → Prop} (h0 : Keeps NoB w wr) (h1 : Keeps NoB w w') (hk : Keeps (fun k => ¬ P k) wr w') (hQ : ∀ k, w.heap.size ≤ k → k < wr.heap.size → ¬ Q k → P k) : Keeps Q wr w' := by
  refine ⟨hk.os, hk.tape, hk.output, hk.size, fun k hlt hn => ?_⟩
  rcases Nat.lt_or_ge k w.heap.size with h | h
  · exact (h1.block k h id).trans (h0.block k h id).symm
  · exact hk.block k hlt (fun hp => hp (hQ k h hlt hn))

section
variable {w wr w' : World} {b r i j : Nat} {us vs : List Tm} {P P' : Nat → Prop}
/-- What is neither's is turned, and more of it comes up. -/
theorem PInv.beside (h : PInv w wr b r us vs i j P) (k : Keeps P wr w') : PInv w w' b r us vs i j (fun k => P k ∨ wr.heap.size ≤ k ∧ k < w'.heap.size) := by
  obtain ⟨sv, L, A, c, css, h1, h2, h3⟩ := h
  have hs := h1.one.keep.size
  have hsk := k.size
  refine ⟨sv, L, A, c, css, ⟨⟨h1.one.box.keep k (fun e => (h3 _ e).2.2.1 (.inl rfl)) (fun g hg e => (h3 _ e).2.2.1 (.inr hg)) (fun x hx k e => (h3 _ e).2.2.2.2 x hx), h1.one.keep.trans' k (fun _ _ => id) (fun k hk e => by have := (h3 k e).1; omega), h1.one.hb, h1.one.hg⟩, h1.ref.keep k (fun k hk e => (h3 k e).2.2.2.1 hk) (fun k hk e => by have := (h3 k e).1; omega), h1.hr, h1.hA, h1.sep, h1.off, h1.low⟩, h2, fun x hx => ?_⟩
  rcases hx with hx | ⟨h4, h5⟩
  · exact ⟨(h3 x hx).1, Nat.lt_of_lt_of_le (h3 x hx).2.1 hsk, (h3 x hx).2.2⟩
  · refine ⟨by omega, h5, fun e => ?_, fun e => ?_, fun y hy => ?_⟩
    · have := h1.one.lt x e; omega
    · have := h1.ref.lt x e; omega
    · have := (h1.one.box.ok y hy).2.2; exact .inr (by omega)
end
/-- Both pairs: what is the one's is not the other's. -/
structure Two (w wr : World) (b r : Nat) (us : List Tm) (q : Nat) (c s : Nat) (vs : List Tm) (p : Nat) : Prop where
  ex : ∃ P : Nat → Prop, PInv w wr b r us us q q P ∧ PInv w wr c s vs vs p p (fun k => w.heap.size ≤ k ∧ k < wr.heap.size ∧ ¬ P k)
section
variable {w wr w' : World} {b r c s q p : Nat} {us vs : List Tm}
theorem Two.swap (h : Two w wr b r us q c s vs p) : Two w wr c s vs p b r us q := by
  obtain ⟨P, h1, h2⟩ := h.ex
  refine ⟨_, h2, h1.less fun k hk => ?_⟩
  exact Classical.byContradiction fun hn => hk.2.2 ⟨hk.1, hk.2.1, hn⟩
theorem Two.fresh (h : Two w wr b r us q c s vs p) (k : Keeps NoB wr w') : Two w w' b r us q c s vs p := by
  obtain ⟨P, h1, h2⟩ := h.ex
  refine ⟨P, h1.fresh k, (h2.more k).less fun x hx => ?_⟩
  rcases Nat.lt_or_ge x wr.heap.size with h3 | h3
  · exact .inl ⟨hx.1, h3, hx.2.2⟩
  · exact .inr ⟨h3, hx.2.1⟩
theorem Two.keep (h : Two w wr b r us q c s vs p) : Keeps NoB w wr := by obtain ⟨P, h1, _⟩ := h.ex; exact h1.keep
def TwoStep (w : World) (b r : Nat) (us : List Tm) (c s : Nat) (vs : List Tm) (p : Nat) (t : Tm) (e : Ending) (w' : World) : Prop :=
  ∃ us' q', e = .returned (.bool true) ∧ Two w w' b r us' q' c s vs p ∧ us'.length ≤ us.length + 1 ∧ LessT us' us t
theorem two_step (h : Two w wr b r us q c s vs p) (hl : us.length ≤ 1000) (op : Int) (kd nm : Int) (ng : Bool) (la ia ta : Option Addr) (ln lc im ic tn tc : Nat) (tx : ByteArray) (t : Tm) (ht : TermIn w (fun k => k < w.heap.size) false [.int .u8 kd, .bool ng, .slice la ln lc, .string tx, .int .i64 nm, .slice ia im ic, .slice ta tn tc] t) (hsm : smallT t) :
    Calls Try.prog 21 #[.pointer (some ⟨b, 0, none⟩), .pointer (some ⟨r, 0, none⟩), .agg #[.int .i64 op, .int .u8 kd, .bool ng, .slice la ln lc, .string tx, .int .i64 nm, .slice ia im ic, .slice ta tn tc]] wr (TwoStep w b r us c s vs p t) := by
  obtain ⟨P, h1, h2⟩ := h.ex
  refine (step_any w wr b r q us P h1 hl op kd nm ng la ia ta ln lc im ic tn tc tx t ht hsm).mono ?_
  rintro e w' ⟨us', q', rfl, hp, hl', hm, hk⟩
  refine ⟨us', q', rfl, ⟨P, hp, ?_⟩, hl', hm⟩
  have hq : Keeps (fun k => w.heap.size ≤ k ∧ k < wr.heap.size ∧ ¬ P k) wr w' := keeps_side h1.keep hp.keep hk (fun k a b hn => Classical.byContradiction fun hp => hn ⟨a, b, hp⟩)
  refine (h2.beside hq).less fun k hk => ?_
  rcases Nat.lt_or_ge k wr.heap.size with h3 | h3
  · exact .inl ⟨hk.1, h3, hk.2.2⟩
  · exact .inr ⟨h3, hk.2.1⟩
theorem two_like (h : Two w wr b r us q c s vs p) (hl : us.length ≤ 1024) :
    Calls Try.prog 18 #[.pointer (some ⟨b, 0, none⟩), .pointer (some ⟨r, 0, none⟩)] wr fun e w' => e = .returned (.bool true) ∧ Two w w' b r us q c s vs p := by
  obtain ⟨P, h1, h2⟩ := h.ex
  refine (like_p h1 hl).mono ?_
  rintro e w' ⟨rfl, _, hk⟩
  exact ⟨rfl, h.fresh hk⟩
theorem all_p {P : Nat → Prop} (h : PInv w wr b r us us q q P) (hl : us.length ≤ 1024) : Calls Try.prog 24 #[.pointer (some ⟨b, 0, none⟩)] wr (OwnPostO wr us.length us) := by
  obtain ⟨sv, L, A, c, css, h1, rfl, h3⟩ := h
  rw [List.length_map]
  exact all_o b sv L q wr h1.one.box (by simpa using hl)
end
/-- The box has a copy; the document's has none yet. -/
def Half (w wA : World) (b r : Nat) (us : List Tm) (q c : Nat) : Prop :=
  ∃ n0, w.heap.size ≤ n0 ∧ PInv w wA b r us us q q (fun k => n0 ≤ k ∧ k < wA.heap.size) ∧ ∃ sv L, BoxAt wA c sv L q ∧ L.map (·.t) = us ∧ (∀ x ∈ L, n0 ≤ x.lo) ∧ (∀ k, boxFp c sv k → n0 ≤ k)
section
variable {w wr wA : World} {b r q c : Nat} {us : List Tm}
theorem half_of {P : Nat → Prop} (h : PInv w wr b r us us q q P) (hl : us.length ≤ 1024) (hs : smallTs us) :
    Calls Try.prog 29 #[.pointer (some ⟨b, 0, none⟩)] wr fun e wA => ∃ c, e = .returned (.pointer (some ⟨c, 0, none⟩)) ∧ Half w wA b r us q c := by
  have h0 := h
  obtain ⟨sv, L, A, cc, css, h1, rfl, h3⟩ := h
  refine (copy_box b sv L q wr h1.one.box (by simpa using hl) hs).mono ?_
  rintro e wA ⟨c, sv', L', rfl, g1, g2, g3, g4, g5⟩
  exact ⟨c, rfl, wr.heap.size, h0.keep.size, (h0.more g5).less (fun k hk => .inr hk), sv', L', g1, g2, g3, g4⟩
theorem two_of (h : Half w wA b r us q c) (hl : us.length ≤ 1024) :
    Calls Try.prog 30 #[.pointer (some ⟨r, 0, none⟩)] wA fun e wB => ∃ s, e = .returned (.pointer (some ⟨s, 0, none⟩)) ∧ Two w wB b r us q c s us q := by
  obtain ⟨n0, hn0, h0, sv', L', g1, g2, g3, g4⟩ := h
  have hp := h0
  obtain ⟨sv, L, A, cc, css, h1, h2, h3⟩ := hp
  have hss := h1.one.keep.size
  refine (ref_copy r A cc css us _ q wA h1.ref (by rw [h1.ref.len]; omega)).mono ?_
  rintro e wB ⟨s, A', c', rfl, hr, hlo, hk⟩
  have hsB := hk.size
  refine ⟨s, rfl, fun k => n0 ≤ k ∧ k < wB.heap.size, (h0.more hk).less (fun k hk => ?_), sv', L', A', c', css, ⟨⟨g1.fresh hk, h1.one.keep.trans' hk (fun _ _ => id) (fun _ _ => id), by have := g4 c (.inl rfl); omega, fun g hg => by have := g4 g (.inr hg); omega⟩, hr, by have := hlo s (.inl rfl); omega, fun k hk => by have := hlo k (.inr hk); omega, fun k hb hf => ?_, fun x hx k hf => ?_, fun x hx => by have := g3 x hx; omega⟩, g2, fun k hk => ?_⟩
  · rcases Nat.lt_or_ge k wA.heap.size with h | h
    · exact .inl ⟨hk.1, h⟩
    · exact .inr ⟨h, hk.2⟩
  · have := hlo k hf
    rcases hb with rfl | hb
    · have := g1.blk.lt; omega
    · have := ownsRow_lt g1.row hb; omega
  · have := (g1.ok x hx).2.2; have := hlo k hf; exact .inr (by omega)
  · obtain ⟨k1, k2, k3⟩ := hk
    have hk4 : k < n0 := by rcases Nat.lt_or_ge k n0 with h | h; exact h; exact absurd ⟨h, k2⟩ k3
    have hnA : n0 ≤ wA.heap.size := by have := g4 c (.inl rfl); have := g1.blk.lt; omega
    exact ⟨k1, k2, fun e => by have := g4 k e; omega, fun e => by have := hlo k e; omega, fun x hx => .inl (by have := g3 x hx; omega)⟩
end
end Go.Proofs.Ytmkidkfofbnjgaa
