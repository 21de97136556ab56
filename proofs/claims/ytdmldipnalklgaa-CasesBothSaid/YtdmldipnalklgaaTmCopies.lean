/- term.copies: lists of terms as one, in memory of its own (given term.Copy for smaller terms); Clone of limbs. -/
import Derived.Test.YtdmldipnalklgaaConcatT
import Derived.Test.YtdmldipnalklgaaTmSames
namespace Go.Proofs.Ytdmldipnalklgaa
open Go.RowKit

/-- What was not there yet. -/
abbrev Above (w : World) : Nat → Prop := fun k => w.heap.size ≤ k

set_option maxRecDepth 100000 in
theorem tm_clone_limbs (B : Nat → Prop) (F : Bool) (A : Option Addr) (n c : Nat) (xs : List Value) (w : World) (hr : Reads w B F 1 A n xs) (h1 : ∀ u ∈ xs, u.oneCell' = true) (hb : Roomy n 4) :
    Calls Try.prog 30 #[.slice A n c] w fun e w' => ∃ A' c', e = .returned (.slice A' n c') ∧ Reads w' (Above w) true 1 A' n xs ∧ Keeps NoB w w' := by
  obtain ⟨i0, hi0, hz0, hz1, hz2⟩ := info_parts Try.infoLm
  have q := fun (w : World) (a : Option Addr) (n c n' c' : Nat) => Lib.run_eql_slice_nil (P := Try.prog) w 24 68 a n c n' c' Try.underlying24
  rcases A with _ | ad
  · have hn : n = 0 := by
      rcases Nat.eq_zero_or_pos n with h | h
      · exact h
      · obtain ⟨ad, h, _⟩ := hr.2 h; cases h
    subst hn
    have hx : xs = [] := List.eq_nil_of_length_eq_zero (by simpa using hr.1)
    subst hx
    go_enter Try.func30, Try.ntmps30
    go_wp2
    go_ret
    exact ⟨none, 0, rfl, Reads.zero _ _ _ _ _, Keeps.refl _ _⟩
  · go_enter Try.func30, Try.ntmps30
    go_wp2_with (at_builtin; go_must (refine wpList_append_reads _ rfl (.tmp 5) (.tmp 6) 24 rfl w.heap.size 68 i0 _ 1 4 Try.underlying24 hi0 hz0 hz1 hz2 rfl (by omega) (.slice (some ⟨w.heap.size, 0, none⟩) 0 0) 0 [] rfl ?z1 B F (some ad) n c xs rfl ?z2 h1 ?z3 ?z4 ?z5 ?_))
    case z1 => exact World.ownsRow_made w #[] 0 (Nat.le_refl _) (Nat.zero_le _) rfl
    case z2 => exact hr.keep ((Keeps.refl NoB w).alloc _) (fun _ _ => id)
    case z3 => rw [Nat.zero_add]; exact hb.len (by omega)
    case z4 => rw [Nat.zero_add]; exact hb
    case z5 => simp
    intro v' w' hown hg _
    obtain ⟨A', c', hv, hs⟩ := Slab.of_own hown
    subst hv
    have hbel : Below w.heap.size w w' := ((Below.refl _ _).alloc (Nat.le_refl _) _).grown hg (by simp) (fun k h => by simp [Value.ownBlock] at h; omega)
    have H := hide (hs.reads.more (B' := Above w) (by
      rintro k hk ⟨o, rfl⟩
      rcases hown.2 with ⟨hv, _⟩ | ⟨g, cap, cur, hv, hb, _⟩
      · cases hv
      · injection hv with hv; injection hv with hv; injection hv with hv; subst hv; exact hb))
    have HB := hide (Keeps.of_below hbel NoB); clear hbel hg hown hs
    go_wp2
    go_ret
    exact ⟨A', c', rfl, H.out, HB.out⟩

def CopySaid (M : Nat) : Prop := ∀ (t : Tm), t.size ≤ M → ∀ (w : World) (B : Nat → Prop) (F : Bool)
    (kd : Int) (ng : Bool) (la : Option Addr) (ln lc : Nat) (tx : ByteArray) (nm : Int) (ia : Option Addr) (im ic : Nat) (ta : Option Addr) (tn tc : Nat),
    TermIn w B F [.int .u8 kd, .bool ng, .slice la ln lc, .string tx, .int .i64 nm, .slice ia im ic, .slice ta tn tc] t →
    Calls Try.prog 24 #[.agg #[.int .u8 kd, .bool ng, .slice la ln lc, .string tx, .int .i64 nm, .slice ia im ic, .slice ta tn tc]] w fun e w' => ∃ la' lc' ia' ic' ta' tc', e = .returned (.agg #[.int .u8 kd, .bool ng, .slice la' ln lc', .string tx, .int .i64 nm, .slice ia' im ic', .slice ta' tn tc']) ∧ TermIn w' (Above w) true [.int .u8 kd, .bool ng, .slice la' ln lc', .string tx, .int .i64 nm, .slice ia' im ic', .slice ta' tn tc'] t ∧ Keeps NoB w w'

/-- The first k of a list, copied: the row, and the terms outside of it. -/
def CopiesAt (w : World) (A : Option Addr) (k c : Nat) (ts : List Tm) (wr : World) : Prop :=
  ∃ css, Slab wr 27 7 A k c css.flatten ∧ TermsIn wr (fun j => w.heap.size ≤ j ∧ ¬ rowB A j) true css ts ∧ (∀ j, rowB A j → w.heap.size ≤ j) ∧ Keeps NoB w wr

theorem CopiesAt.step {w wr w3 w4 : World} {A A4 : Option Addr} {k c c4 : Nat} {ts : List Tm} {t : Tm} {cs : List Value} {css : List (List Value)} (hs : Slab wr 27 7 A k c css.flatten) (hts : TermsIn wr (fun j => w.heap.size ≤ j ∧ ¬ rowB A j) true css ts) (hf : ∀ j, rowB A j → w.heap.size ≤ j) (hw : Keeps NoB w wr) (h3 : Keeps NoB wr w3) (ht : TermIn w3 (Above wr) true cs t)
    (h4 : Slab w4 27 7 A4 (k + 1) c4 (css.flatten ++ cs)) (hk : Keeps (rowB A) w3 w4) (hm : Moved w3 A A4) : CopiesAt w A4 (k + 1) c4 (ts ++ [t]) w4 := by
  have hlow : ∀ j, rowB A j → j < wr.heap.size := fun j hj => hs.lt hj
  have h1 := TermsIn.keep hk (fun j (hj : w.heap.size ≤ j ∧ ¬ rowB A j) => hj.2) _ _ (TermsIn.keep h3 (fun _ _ => id) _ _ hts)
  have h2 : TermIn w4 (fun j => w3.heap.size > j ∧ Above wr j) true cs t := by
    refine TermIn.keep hk (fun j hj hr => by have := hlow j hr; have := hj.2; unfold Above at this; omega) _ _ (TermIn.more (fun j h5 h6 => ⟨h5, h6⟩) _ _ ht)
  have h0 : TermsIn w3 (fun j => (w.heap.size ≤ j ∧ ¬ rowB A j) ∧ j < w3.heap.size) true css ts := TermsIn.more (fun j h5 h6 => ⟨h6, h5⟩) _ _ (TermsIn.keep h3 (fun _ _ => id) _ _ hts)
  have h0' := TermsIn.keep hk (fun j hj => hj.1.2) _ _ h0
  refine ⟨css ++ [cs], ?_, ?_, ?_, ?_⟩
  · rw [List.flatten_append]; simpa using h4
  · refine TermsIn.append (TermsIn.more (fun j _ hj => ⟨hj.1.1, fun hr => ?_⟩) _ _ h0') (TermsIn.one (TermIn.more (fun j _ hj => ⟨Nat.le_trans hw.size hj.2, fun hr => ?_⟩) _ _ h2))
    · rcases hm j hr with h5 | h5
      · exact hj.1.2 h5
      · have := hj.2; omega
    · rcases hm j hr with h5 | h5
      · have := hlow j h5; have := hj.2; unfold Above at this; omega
      · have := hj.1; omega
  · intro j hj
    rcases hm j hj with h5 | h5
    · exact hf j h5
    · exact Nat.le_trans hw.size (Nat.le_trans h3.size h5)
  · exact (hw.trans' h3 (fun _ _ => id) (fun _ _ => id) : Keeps NoB w w3).trans' hk (fun _ _ => id) (fun j hj hr => absurd (hf j hr) (by omega))

set_option maxRecDepth 100000 in
set_option maxHeartbeats 1000000 in
theorem copies_of (M : Nat) (IH : Hid (CopySaid M)) (ts : List Tm) (hM : Tm.size.sizes ts ≤ M) (csss : List (List (List Value))) (vs : List Value) (A : Option Addr) (K c N : Nat) (w : World) (B B' : Nat → Prop) (F F' : Bool)
    (hh : Reads w B F 1 A K vs) (hx : HeadsAt w B' F' 7 vs (csss.map List.flatten)) (ht : TermsIn w B' F' csss.flatten ts) (hn : ts.length = N) (hroom : Roomy N 104) (hK : K ≤ 9223372036854775807) :
    Calls Try.prog 31 #[.slice A K c] w fun e w' => ∃ A' c', e = .returned (.slice A' N c') ∧ CopiesAt w A' N c' ts w' := by
  have hfl : (csss.map List.flatten).flatten = csss.flatten.flatten := List.flatten_flatten.symm
  have hcl : csss.flatten.length = N := by rw [← hn]; exact ht.lens.1
  have hN : (csss.map List.flatten).flatten.length = N * 7 := by rw [hfl, flat_len ht.lens.2, hcl]
  have h1 : ∀ u ∈ (csss.map List.flatten).flatten, u.oneCell' = true := by rw [hfl]; exact TermsIn.ones _ _ ht
  have hnm : N ≤ 9223372036854775807 := by have := hroom.len (by omega); unfold maxLen at this; exact this
  have HH := hide hh; have HX := hide hx; have HT := hide ht; have HN := hide hN; have H1 := hide h1; have HRO := hide hroom; have HM := hide hM; have HNT := hide hn; have HFL := hide hfl
  clear hh hx ht hN h1 hroom hM hn hfl hcl
  go_enter Try.func31, Try.ntmps31
  go_wp2_with
    first
    | (go_at_call 36
       refine (tmC_concat _ vs A K c N _ B B' F F' HH.out HX.out HN.out H1.out HRO.out hK).mono ?_
       rintro e w2 ⟨A2, c2, rfl, hs2, hf2, hk2⟩
       have HS2 := hide ((HFL.out ▸ hs2 : Slab w2 27 7 A2 N c2 csss.flatten.flatten).reads.weak.more (B' := fun _ => True) (fun _ _ _ => trivial)); have HK2 := hide hk2
       have HT2 := hide (TermsIn.weak _ _ (TermsIn.more (B' := fun _ => True) (fun _ _ _ => trivial) _ _ (TermsIn.keep hk2 (fun _ _ => id) _ _ HT.out)))
       clear hs2 hf2 hk2)
    | fail
  go_loopw [9, 3] (fun i s3 wr => ∃ (k : Nat) (A' : Option Addr) (c' : Nat), k ≤ N ∧ i = .int .i64 k ∧ s3 = .slice A' k c' ∧ CopiesAt w2 A' k c' (ts.take k) wr) (fun i _ _ => N - (intOf i).toNat)
  case atStart => exact ⟨0, none, 0, Nat.zero_le _, rfl, rfl, ⟨[], Slab.nil _ _ _, by rw [List.take_zero]; unfold TermsIn; trivial, (fun j ⟨o, h⟩ => by cases h), Keeps.refl _ _⟩⟩
  case round =>
    obtain ⟨k, A', c', hk, rfl, rfl, ⟨css, hs, hts, hf, hw⟩⟩ := hrel
    have HKW := hide hw; have HSL := hide hs; have HTS := hide hts; have HF := hide hf
    clear hs hts hf hw
    by_cases hlt : k < N
    · obtain ⟨b, o, kd, ng, la, ln, lc, tx, nm, ia, im, ic, ta, tn, tc, t, hA, h1, h2, h3, f0, f1, f2, f3, f4, f5, f6⟩ := cells_at (HS2.out.keep HKW.out (fun _ _ => id)) (TermsIn.keep HKW.out (fun _ _ => id) _ _ HT2.out) k hlt
      subst hA
      have hk1 : (k : Int) < (N : Int) := by omega
      have hk0 : (0 : Int) ≤ (k : Int) := by omega
      have HE := hide h1; have HT3 := hide (TermIn.keep ((Keeps.refl NoB wr).alloc (.cells #[.int .u8 kd, .bool ng, .slice la ln lc, .string tx, .int .i64 nm, .slice ia im ic, .slice ta tn tc] 27)) (fun _ _ => id) _ _ h2); have HZ := hide h3
      clear h1 h2 h3
      obtain ⟨i0, hi0, hz0, hz1, hz2⟩ := info_parts Try.infoTm
      have HBD : Hid (k + 1 ≤ maxLen ∧ (k + 1) * 104 ≤ 140737488355328) := hide ⟨by unfold maxLen; omega, by have := HRO.out; unfold Roomy at this; omega⟩
      go_wp2_with
        first
        | (go_at_call 24
           refine (IH.out t (by have := HM.out; have := HZ.out; omega) _ _ _ _ _ _ _ _ _ _ _ _ _ _ _ _ HT3.out).mono ?_
           rintro e w3 ⟨la', lc', ia', ic', ta', tc', rfl, ht3, hk3⟩
           have HK3 : Hid (Keeps NoB wr (w3.alloc (.cells #[.int .u8 kd, .bool ng, .slice la' ln lc', .string tx, .int .i64 nm, .slice ia' im ic', .slice ta' tn tc'] 27))) := hide ((((Keeps.refl NoB wr).alloc _).trans' hk3 (fun _ _ => id) (fun _ _ => id) : Keeps NoB wr w3).alloc _)
           have HT4 : Hid (TermIn (w3.alloc (.cells #[.int .u8 kd, .bool ng, .slice la' ln lc', .string tx, .int .i64 nm, .slice ia' im ic', .slice ta' tn tc'] 27)) (Above wr) true [.int .u8 kd, .bool ng, .slice la' ln lc', .string tx, .int .i64 nm, .slice ia' im ic', .slice ta' tn tc'] t) := hide (TermIn.keep ((Keeps.refl NoB w3).alloc _) (fun _ _ => id) _ _ (TermIn.more (fun j _ hj => by have := hj; unfold Above at this ⊢; simp at this; omega) _ _ ht3))
           have HRD := hide (one_reads7 (Blk.new w3 27 #[.int .u8 kd, .bool ng, .slice la' ln lc', .string tx, .int .i64 nm, .slice ia' im ic', .slice ta' tn tc']))
           have HSA := hide (HSL.out.fresh HK3.out)
           clear ht3 hk3 f0 f1 f2 f3 f4 f5 f6)
        | (at_builtin; refine wpList_append_slab _ rfl (.tmp 13) (.tmp 16) 25 rfl 27 i0 _ 7 104 Try.underlying25 hi0 hz0 hz1 hz2 rfl (by omega) A' k c' css.flatten rfl HSA.out (fun _ => True) true (some ⟨w3.heap.size, 0, none⟩) 1 1 [.int .u8 kd, .bool ng, .slice la' ln lc', .string tx, .int .i64 nm, .slice ia' im ic', .slice ta' tn tc'] rfl HRD.out (by omega) (by intro u hu; simp only [List.mem_cons, List.not_mem_nil, or_false] at hu; rcases hu with rfl | rfl | rfl | rfl | rfl | rfl | rfl <;> rfl) HBD.out.1 HBD.out.2 ?_
           intro A4 c4 w4 g1 g2 g3
           have HG := hide (And.intro g1 (And.intro g2 g3))
           clear g1 g2 g3)
        | fail
      go_roundw
      case rel =>
        refine ⟨k + 1, A4, c4, by omega, by go_num, rfl, ?_⟩
        rw [show ts.take (k + 1) = ts.take k ++ [t] by rw [List.take_add_one, HE.out]; rfl]
        exact CopiesAt.step HSL.out HTS.out HF.out HKW.out HK3.out HT4.out HG.out.1 HG.out.2.1 HG.out.2.2
      case measure => simp [intOf]; omega
    · go_wp2
      go_ret
      obtain rfl : k = N := by omega
      refine ⟨A', c', rfl, css, HSL.out, ?_, fun j hj => Nat.le_trans HK2.out.size (HF.out j hj), HK2.out.trans' HKW.out (fun _ _ => id) (fun _ _ => id)⟩
      have h := HTS.out
      rw [List.take_of_length_le (by have := HNT.out; omega)] at h
      exact TermsIn.more (fun j _ hj => ⟨Nat.le_trans HK2.out.size hj.1, hj.2⟩) _ _ h
end Go.Proofs.Ytdmldipnalklgaa
