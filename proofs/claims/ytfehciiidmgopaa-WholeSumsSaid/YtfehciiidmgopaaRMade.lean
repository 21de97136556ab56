/- made of the reference: an integer of bits. -/
import Derived.Test.YtfehciiidmgopaaMadeLaw
import Derived.Test.YtfehciiidmgopaaBitOf
namespace Go.Proofs.Ytfehciiidmgopaa
open Go.RowKit

/-- The loop's state. -/
structure MadeSt (w1 : World) (g : Nat) (ng : Bool) (N i : Nat) (AL : Option Addr) (m cL : Nat) (ls : List Nat) (wr : World) : Prop where
  keep : Keeps (fun k => k = g) w1 wr
  blk : Blk wr g 26 #[.int .u8 1, .bool ng, .slice AL m cL, .string { data := #[] }, .int .i64 0, .slice none 0 0, .slice none 0 0]
  slab : Slab wr 44 1 AL m cL (u32s ls)
  fresh : ∀ k, rowB AL k → w1.heap.size ≤ k
  st : LimbSt N i m ls
  lt : g < w1.heap.size
theorem MadeSt.drew {w1 wr : World} {g N i m cL : Nat} {ng : Bool} {AL : Option Addr} {ls : List Nat} (h : MadeSt w1 g ng N i AL m cL ls wr) : MadeSt w1 g ng N i AL m cL ls wr.drew :=
  ⟨h.keep.drew, h.blk, h.slab.drew, h.fresh, h.st, h.lt⟩
theorem MadeSt.grow {w1 wr w5 : World} {g N i m cL c5 : Nat} {ng : Bool} {AL A5 : Option Addr} {ls : List Nat} (h : MadeSt w1 g ng N i AL m cL ls wr)
    (h1 : Slab w5 44 1 A5 (m + 1) c5 (u32s ls ++ [.int .u32 0])) (h2 : Keeps (rowB AL) (wr.alloc (.cells #[.int .u32 0] 44)) w5) (h3 : Moved (wr.alloc (.cells #[.int .u32 0] 44)) AL A5) :
    Blk w5 g 26 #[.int .u8 1, .bool ng, .slice AL m cL, .string { data := #[] }, .int .i64 0, .slice none 0 0, .slice none 0 0] ∧ MadeSt w1 g ng N i A5 (m + 1) c5 (ls ++ [0]) (w5.setCell ⟨g, 2, none⟩ (.slice A5 (m + 1) c5)) := by
  have hg : ¬ rowB AL g := fun e => absurd (h.fresh g e) (Nat.not_le.2 h.lt)
  have hb : Blk w5 g 26 #[.int .u8 1, .bool ng, .slice AL m cL, .string { data := #[] }, .int .i64 0, .slice none 0 0, .slice none 0 0] := (h.blk.alloc _).keep h2 hg
  have hf : ∀ k, rowB A5 k → w1.heap.size ≤ k := by
    intro k hk
    rcases h3 k hk with e | e
    · exact h.fresh k e
    · have := h.keep.size; simp at e; omega
  have hk : Keeps (fun k => k = g) w1 w5 := (h.keep.alloc _).trans' h2 (fun _ _ e => e) (fun k hk e => absurd (h.fresh k e) (Nat.not_le.2 hk))
  refine ⟨hb, hk.setCell (p := ⟨g, 2, none⟩) (.inl rfl) _, hb.put 2 _, ?_, hf, h.st.more, h.lt⟩
  rw [u32s_append]
  exact h1.keep (Keeps.setCell (Keeps.refl (fun k => k = g) w5) (p := ⟨g, 2, none⟩) (.inl rfl) _) (fun k hk e => by have := hf k hk; have := h.lt; omega)
theorem MadeSt.limb {w1 wr : World} {g N i m cL q s : Nat} {ng : Bool} {AL : Option Addr} {ls : List Nat} (h : MadeSt w1 g ng N i AL m cL ls wr) (hi : i = 32 * q + s) (hs : s < 32) (hq : q < m) (hb : N.testBit i = true) :
    ∃ b o x y, AL = some ⟨b, o, none⟩ ∧ wr.cell? ⟨b, o + q, none⟩ = some (.int .u32 ((x : Nat) : Int)) ∧ wr.frozen? ⟨b, o + q, none⟩ = false ∧ x < 4294967296 ∧ y = 2 ^ s ∧ y < 4294967296 ∧ bits .or .u32 ((x : Nat) : Int) ((y : Nat) : Int) = ((x + y : Nat) : Int) ∧
      MadeSt w1 g ng N (i + 1) AL m cL (ls.set q (x + y)) (wr.setCell ⟨b, o + q, none⟩ (.int .u32 ((x + y : Nat) : Int))) := by
  have hroom := h.st.room hi hs
  obtain ⟨ad, hA, hsp, hbl, _, hc⟩ := h.slab.reads.2 (by omega)
  obtain ⟨b, o, sp⟩ := ad
  simp only at hsp
  subst hsp hA
  have hl : ls.length = m := h.st.len
  obtain ⟨c1, c2⟩ := hc q _ (u32s_get (by omega))
  have hgb : ¬ b = g := fun e => by have := h.fresh b ⟨o, rfl⟩; have := h.lt; omega
  have hx : ls.getD q 0 < 4294967296 := h.st.low.get q
  have hy : 2 ^ s < 4294967296 := by have := hroom.2.2; unfold B32 at this; omega
  refine ⟨b, o, ls.getD q 0, 2 ^ s, rfl, c1, c2 rfl, hx, rfl, hy, ?_, h.keep.setCell (p := ⟨b, o + q, none⟩) (.inr (h.fresh b ⟨o, rfl⟩)) _, h.blk.far (Ne.symm hgb) _, ?_, h.fresh, h.st.yes hi hs hq hb, h.lt⟩
  · rw [u32_or_nat _ _ hx hy, hroom.2.1]
  · rw [u32s_set]
    exact Slab.put1 h.slab (by omega) _
theorem sgn_lead {N : Nat} {neg : Bool} : sgn (neg && decide (0 < lenB N)) N = sgn neg N := by
  unfold sgn
  cases neg with
  | false => rfl
  | true =>
    by_cases h : 0 < N
    · rw [decide_eq_true (lenB_pos.2 h)]; rfl
    · obtain rfl : N = 0 := by omega
      rfl
theorem sgn_is {N : Nat} {neg : Bool} : (neg && decide (0 < lenB N)) = decide (sgn neg N < 0) := by
  unfold sgn
  cases neg with
  | false => simp
  | true =>
    by_cases h : 0 < N
    · rw [decide_eq_true (lenB_pos.2 h)]; simp; omega
    · obtain rfl : N = 0 := by omega
      rfl
set_option maxHeartbeats 4000000 in
set_option maxRecDepth 100000 in
theorem rmade_any (A : Option Addr) (n c : Nat) (neg : Bool) (l : List Bool) (w : World) (B : Nat → Prop) (h : BitsIn w B A n c l) (hn : n ≤ 5000) :
    Calls Try.prog 38 #[.slice A n c, .bool neg] w (AnyP w (sgn neg (natB l))) := by
  have HA0 := hide ((h.more (B' := fun k => k < w.heap.size) (fun k h _ => h)).keep ((Keeps.refl NoB w).alloc (.cells #[.int .u8 0, .bool false, .slice none 0 0, .string { data := #[] }, .int .i64 0, .slice none 0 0, .slice none 0 0] 26)))
  have HZ0 := hide (Blk.new w 26 #[.int .u8 0, .bool false, .slice none 0 0, .string { data := #[] }, .int .i64 0, .slice none 0 0, .slice none 0 0])
  have HK0 := hide ((Keeps.refl NoB w).alloc (.cells #[.int .u8 0, .bool false, .slice none 0 0, .string { data := #[] }, .int .i64 0, .slice none 0 0, .slice none 0 0] 26))
  obtain ⟨i0, hi0, hz0, hz1, hz2⟩ := info_parts Try.info44
  clear h
  have HR := hide (fun W (hb : BitsIn W (fun k => k < w.heap.size) A n c l) => cutb_any A n c l W _ hb (by omega))
  obtain ⟨N, hN⟩ : ∃ N, natB l = N := ⟨_, rfl⟩
  rw [hN] at HR ⊢
  clear hN
  by_cases hbig : 1024 < lenB N
  · have HBG := hide hbig
    clear hbig
    go_enter Try.func38, Try.ntmps38
    go_wp2_with (go_at_call 59; refine (HR.out _ HA0.out).mono ?_; rintro e w2 ⟨m, rfl, hm, hb, hk⟩; have hm1 : 1024 < m := (hm ▸ HBG.out); have hd : decide ((1024 : Int) < (m : Int)) = true := decide_eq_true (by omega); have HZ2 := hide (HZ0.out.keep hk id); have HK2 := hide (HK0.out.trans' hk (fun _ _ => id) (fun _ _ => id)); clear hm hb hk HZ0 HK0; have z0 : w2.cell? ⟨w.heap.size, 0, none⟩ = some (.int .u8 0) := HZ2.out.cell 0; have z1 : w2.cell? ⟨w.heap.size, 1, none⟩ = some (.bool false) := HZ2.out.cell 1; have z2 : w2.cell? ⟨w.heap.size, 2, none⟩ = some (.slice none 0 0) := HZ2.out.cell 2; have z3 : w2.cell? ⟨w.heap.size, 3, none⟩ = some (.string { data := #[] }) := HZ2.out.cell 3; have z4 : w2.cell? ⟨w.heap.size, 4, none⟩ = some (.int .i64 0) := HZ2.out.cell 4; have z5 : w2.cell? ⟨w.heap.size, 5, none⟩ = some (.slice none 0 0) := HZ2.out.cell 5; have z6 : w2.cell? ⟨w.heap.size, 6, none⟩ = some (.slice none 0 0) := HZ2.out.cell 6; have f0 : w2.frozen? ⟨w.heap.size, 0, none⟩ = false := HZ2.out.free 0; have f1 : w2.frozen? ⟨w.heap.size, 1, none⟩ = false := HZ2.out.free 1; have f2 : w2.frozen? ⟨w.heap.size, 2, none⟩ = false := HZ2.out.free 2; have f3 : w2.frozen? ⟨w.heap.size, 3, none⟩ = false := HZ2.out.free 3; have f4 : w2.frozen? ⟨w.heap.size, 4, none⟩ = false := HZ2.out.free 4; have f5 : w2.frozen? ⟨w.heap.size, 5, none⟩ = false := HZ2.out.free 5; have f6 : w2.frozen? ⟨w.heap.size, 6, none⟩ = false := HZ2.out.free 6)
    have HBf := hide (HZ2.out.put7 (.int .u8 0) (.bool false) (.slice none 0 0) (.string { data := #[] }) (.int .i64 0) (.slice none 0 0) (.slice none 0 0))
    have HKf := hide (HK2.out.set7 (g := w.heap.size) (by omega) (.int .u8 0) (.bool false) (.slice none 0 0) (.string { data := #[] }) (.int .i64 0) (.slice none 0 0) (.slice none 0 0))
    clear z0 z1 z2 z3 z4 z5 z6 f0 f1 f2 f3 f4 f5 f6 HZ2 HK2
    generalize (((((((w2.setCell ⟨w.heap.size, 0, none⟩ (.int .u8 0)).setCell ⟨w.heap.size, 1, none⟩ (.bool false)).setCell ⟨w.heap.size, 2, none⟩ (.slice none 0 0)).setCell ⟨w.heap.size, 3, none⟩ (.string { data := #[] })).setCell ⟨w.heap.size, 4, none⟩ (.int .i64 0)).setCell ⟨w.heap.size, 5, none⟩ (.slice none 0 0)).setCell ⟨w.heap.size, 6, none⟩ (.slice none 0 0)) = wf at *
    have d0 : wf.cell? ⟨w.heap.size, 0, none⟩ = some (.int .u8 0) := HBf.out.cell 0
    have d1 : wf.cell? ⟨w.heap.size, 1, none⟩ = some (.bool false) := HBf.out.cell 1
    have d2 : wf.cell? ⟨w.heap.size, 2, none⟩ = some (.slice none 0 0) := HBf.out.cell 2
    have d3 : wf.cell? ⟨w.heap.size, 3, none⟩ = some (.string { data := #[] }) := HBf.out.cell 3
    have d4 : wf.cell? ⟨w.heap.size, 4, none⟩ = some (.int .i64 0) := HBf.out.cell 4
    have d5 : wf.cell? ⟨w.heap.size, 5, none⟩ = some (.slice none 0 0) := HBf.out.cell 5
    have d6 : wf.cell? ⟨w.heap.size, 6, none⟩ = some (.slice none 0 0) := HBf.out.cell 6
    refine bodyPost_ret (v := .tuple #[.agg #[.int .u8 0, .bool false, .slice none 0 0, .string { data := #[] }, .int .i64 0, .slice none 0 0, .slice none 0 0], .bool false]) (by simp [results, Try.results38, go_sem, d0, d1, d2, d3, d4, d5, d6]) rfl ?_
    refine ⟨0, false, none, 0, 0, false, rfl, .inr ⟨rfl, rfl, rfl, rfl, rfl, rfl, ?_⟩, HKf.out⟩
    rw [sgn_abs, Big_eq]
    have := HBG.out
    rcases Nat.lt_or_ge N (B32 ^ 32) with e | e
    · exact absurd (big_bits.2 e) (by omega)
    · exact e
  · have HBG := hide hbig
    clear hbig
    rcases neg with _ | _
    · have hsg : decide (sgn false N < 0) = false := by rw [← sgn_is]; rfl
      have HSG := hide hsg; clear hsg
      go_enter Try.func38, Try.ntmps38
      go_wp2_with (go_at_call 59; refine (HR.out _ HA0.out).mono ?_; rintro e w2 ⟨m, rfl, hm, hb, hk⟩; have HM := hide hm; have hm1 : m ≤ 1024 := (by have := HBG.out; omega); have hd : decide ((1024 : Int) < (m : Int)) = false := decide_eq_false (by omega); have hf := True.intro; have HL2 := hide hb; have HZ2 := hide (HZ0.out.keep hk id); have HK2 := hide (HK0.out.trans' hk (fun _ _ => id) (fun _ _ => id)); clear hm hb hk HZ0 HK0)
      have HW2 := hide HZ2.out.lt
      have HK3 := hide (HK2.out.alloc (.cells #[.int .u8 1, .bool false, .slice none 0 0, .string { data := #[] }, .int .i64 0, .slice none 0 0, .slice none 0 0] 26))
      have HK23 := hide ((Keeps.refl NoB w2).alloc (.cells #[.int .u8 1, .bool false, .slice none 0 0, .string { data := #[] }, .int .i64 0, .slice none 0 0, .slice none 0 0] 26))
      have HZ3 := hide (HZ2.out.alloc (.cells #[.int .u8 1, .bool false, .slice none 0 0, .string { data := #[] }, .int .i64 0, .slice none 0 0, .slice none 0 0] 26))
      obtain ⟨g, hg⟩ : ∃ g, w2.heap.size = g := ⟨_, rfl⟩
      have HS0 := hide (⟨Keeps.refl _ _, hg ▸ Blk.new w2 26 #[.int .u8 1, .bool false, .slice none 0 0, .string { data := #[] }, .int .i64 0, .slice none 0 0, .slice none 0 0], Slab.nil _ _ _, (fun k ⟨o, e⟩ => by cases e), LimbSt.start N, by rw [← hg]; simp⟩ : MadeSt (w2.alloc (.cells #[.int .u8 1, .bool false, .slice none 0 0, .string { data := #[] }, .int .i64 0, .slice none 0 0, .slice none 0 0] 26)) g false N 0 none 0 0 [] (w2.alloc (.cells #[.int .u8 1, .bool false, .slice none 0 0, .string { data := #[] }, .int .i64 0, .slice none 0 0, .slice none 0 0] 26)))
      have HG := hide (show w.heap.size < g from hg ▸ HW2.out)
      have HGL := hide (show g < (w2.alloc (.cells #[.int .u8 1, .bool false, .slice none 0 0, .string { data := #[] }, .int .i64 0, .slice none 0 0, .slice none 0 0] 26)).heap.size from by rw [← hg]; simp)
      rw [hg]
      have HG2 := hide hg
      clear HZ2 HK2 hg hf HW2
      generalize w2.alloc (.cells #[.int .u8 1, .bool false, .slice none 0 0, .string { data := #[] }, .int .i64 0, .slice none 0 0, .slice none 0 0] 26) = w3 at *
      go_wp2
      go_loopw [7] (fun iv wr => ∃ (i : Nat) (AL : Option Addr) (k cL : Nat) (ls : List Nat), iv = .int .i64 (i : Int) ∧ i ≤ m ∧ Hid (k = (i + 31) / 32) ∧ Hid (MadeSt w3 g false N i AL k cL ls wr)) (fun iv _ => m - (intOf iv).toNat)
      case atStart => exact ⟨0, _, _, _, _, rfl, Nat.zero_le _, hide rfl, HS0⟩
      case round =>
        obtain ⟨i, AL, k, cL, ls, rfl, hi, HKI, HT⟩ := hrel
        by_cases hlt : i < m
        · obtain ⟨q, s, hqs, hs, _, _⟩ := made_place (i := i)
          obtain ⟨b, o, rfl, hb, hc⟩ := HL2.out.at (by omega)
          have q3 := hc i hlt
          rw [dig_bit] at q3
          have hbg : ¬ b = g := by have := HG2.out; omega
          have HQ3 := hide (HK23.out.cell id q3)
          have HBG2 := hide hbg
          have q1 : wr.cell? ⟨b, o + i, none⟩ = some (.bool (N.testBit i)) := HT.out.keep.cell hbg HQ3.out
          clear q3 hbg hb
          have hin0 : (0 : Int) ≤ (i : Int) := by omega
          have hi1 : (i : Int) < (m : Int) := by omega
          have hr : (i : Int) % 32 = (s : Int) := by omega
          have hqq : (i : Int) / 32 = (q : Int) := by omega
          have HQS := hide hqs
          clear hqs
          rename_i hd1 hd2; clear hd1 hd2
          have x2 : wr.cell? ⟨g, 2, none⟩ = some (.slice AL k cL) := HT.out.blk.cell 2
          by_cases hs0 : s = 0
          · have hr0 : (i : Int) % 32 = 0 := by omega
            have HSZ := hide hs0
            have HSL4 := hide (HT.out.slab.fresh ((Keeps.refl NoB wr).alloc (.cells #[.int .u32 0] 44)))
            have HR4 := hide (one_reads (Blk.new wr 44 #[.int .u32 0]))
            have hkk : k ≤ 33 := by have := HKI.out; omega
            clear hc q1 hr hs0
            go_wp2_with (at_builtin; refine wpList_append_slab _ rfl (.tmp 31) (.tmp 32) 23 rfl 44 i0 _ 1 4 Try.underlying23 hi0 hz0 hz1 hz2 rfl (by omega) AL k cL (u32s ls) rfl HSL4.out (fun _ => True) true (some ⟨wr.heap.size, 0, none⟩) 1 1 [.int .u32 0] rfl HR4.out (Nat.zero_lt_one) (fun u hu => by simp at hu; subst hu; rfl) (by unfold maxLen; omega) (by omega) ?_)
            intro A5 c5 w5 h1 h2 h3
            have hg5 := HT.out.grow h1 h2 h3
            have x2' : w5.cell? ⟨g, 2, none⟩ = some (.slice AL k cL) := hg5.1.cell 2
            have f2' : w5.frozen? ⟨g, 2, none⟩ = false := hg5.1.free 2
            have HS5 := hide hg5.2
            have HBB := hide (show (w5.setCell ⟨g, 2, none⟩ (.slice A5 (k + 1) c5)).cell? ⟨b, o + i, none⟩ = some (.bool (N.testBit i)) from HS5.out.keep.cell HBG2.out HQ3.out)
            clear h1 h2 h3 HSL4 HR4 x2 hg5
            cases hbit : N.testBit i with
            | false =>
              rw [hbit] at HBB
              have HBT := hide hbit
              clear hbit
              have q6 := HBB.out
              have HST := hide (HS5.out.st.no HBT.out)
              go_wp2
              go_roundw
              case rel => exact ⟨i + 1, A5, k + 1, c5, ls ++ [0], rfl, by omega, hide (by have := HKI.out; have := HQS.out; have := HSZ.out; omega), hide ⟨HS5.out.keep, HS5.out.blk, HS5.out.slab, HS5.out.fresh, HST.out, HS5.out.lt⟩⟩
              case measure => simp [intOf]; omega
            | true =>
              rw [hbit] at HBB
              have HBT := hide hbit
              clear hbit
              have q6 := HBB.out
              have HKI2 := hide (show k + 1 ≤ 34 from by have := HKI.out; omega)
              have hqk : q < k + 1 := by have := HKI.out; have := HQS.out; have := HSZ.out; omega
              have HX6 := hide (HS5.out.blk.cell 2)
              go_wp2_with fail
              have x2 : (w5.setCell ⟨g, 2, none⟩ (.slice A5 (k + 1) c5)).cell? ⟨g, 2, none⟩ = some (.slice A5 (k + 1) c5) := HX6.out
              obtain ⟨w6, hw6⟩ : ∃ w6, w5.setCell ⟨g, 2, none⟩ (.slice A5 (k + 1) c5) = w6 := ⟨_, rfl⟩
              rw [hw6] at HS5 x2 ⊢
              clear hw6 HX6 HBB q6 x2' f2'
              go_wp2_with fail
              refine order_begin (fun W => Keeps NoB w6.drew W) (fun k => k != 16) (by kernel_rfl) 17 rfl ?_
              have HTD := hide HS5.out.drew
              have x2d : w6.drew.cell? ⟨g, 2, none⟩ = some (.slice A5 (k + 1) c5) := x2
              generalize w6.drew = W0 at *
              obtain ⟨bl, ol, x, y, rfl, r1, r2, hx, hy, hy2, hor, hst⟩ := HTD.out.limb HQS.out hs hqk HBT.out
              have HST := hide hst
              have hqk2 : (q : Int) < (k : Int) + 1 := by omega
              have hq0 : (0 : Int) ≤ (q : Int) := by omega
              have HOR := hide hor
              have HY := hide hy
              clear hst hor hy
              have hkk2 : (k + 1) ≤ 34 := by have := HKI2.out; omega
              have hwq : IntKind.i64.wrap (q : Int) = (q : Int) := by unfold IntKind.wrap; simp [IntKind.bits, IntKind.signed]; omega
              have HS : Keeps NoB W0 W0 := Keeps.refl _ _
              refine order_pure (i := 0) rfl (by kernel_rfl) (fun _ _ _ h => h) (.inl ⟨rfl, fun _ => by go_simp; rfl⟩) ?_
              try simp only [Act.put, List.setIfInBounds_toArray, List.set_cons_succ, List.set_cons_zero]
              refine order_pure (i := 2) rfl (by kernel_rfl) (fun _ _ _ h => h) (.inl ⟨rfl, fun _ => by go_simp; rfl⟩) ?_
              try simp only [Act.put, List.setIfInBounds_toArray, List.set_cons_succ, List.set_cons_zero]
              refine order_pure (i := 3) rfl (by kernel_rfl) (fun _ _ _ h => h) (.inl ⟨rfl, fun _ => by go_simp; rfl⟩) ?_
              try simp only [Act.put, List.setIfInBounds_toArray, List.set_cons_succ, List.set_cons_zero]
              refine order_pure (i := 4) rfl (by kernel_rfl) (fun _ _ _ h => h) (.inl ⟨rfl, fun _ => by go_simp; rfl⟩) ?_
              try simp only [Act.put, List.setIfInBounds_toArray, List.set_cons_succ, List.set_cons_zero]
              refine order_pure (i := 6) rfl (by kernel_rfl) (fun _ _ _ h => h) (.inl ⟨rfl, fun _ => by go_simp; rfl⟩) ?_
              try simp only [Act.put, List.setIfInBounds_toArray, List.set_cons_succ, List.set_cons_zero]
              refine order_pure (i := 7) rfl (by kernel_rfl) (fun _ _ _ h => h) (.inl ⟨rfl, fun _ => by go_simp; rfl⟩) ?_
              try simp only [Act.put, List.setIfInBounds_toArray, List.set_cons_succ, List.set_cons_zero]
              refine order_pure (i := 10) rfl (by kernel_rfl) (fun _ _ _ h => h) (.inl ⟨rfl, fun _ => by go_simp; rfl⟩) ?_
              try simp only [Act.put, List.setIfInBounds_toArray, List.set_cons_succ, List.set_cons_zero]
              refine order_pure (i := 11) rfl (by kernel_rfl) (fun _ _ _ h => h) (.inl ⟨rfl, fun _ => by go_simp; rfl⟩) ?_
              try simp only [Act.put, List.setIfInBounds_toArray, List.set_cons_succ, List.set_cons_zero]
              refine order_pure (i := 12) rfl (by kernel_rfl) (fun _ _ _ h => h) (.inl ⟨rfl, fun _ => by go_simp; rfl⟩) ?_
              try simp only [Act.put, List.setIfInBounds_toArray, List.set_cons_succ, List.set_cons_zero]
              refine order_held (i := 1) rfl (by kernel_rfl) (fun _ _ _ h => h) (.inl ⟨rfl, fun W hW => by
                have q0 : W.cell? ⟨g, 2, none⟩ = some (.slice (some ⟨bl, ol, none⟩) (k + 1) c5) := hW.cell id x2d
                go_simp; rfl⟩) HS ?_
              try simp only [Act.put, List.setIfInBounds_toArray, List.set_cons_succ, List.set_cons_zero]
              refine order_held (i := 5) rfl (by kernel_rfl) (fun _ _ _ h => h) (.inl ⟨rfl, fun W hW => by
                have q0 : W.cell? ⟨g, 2, none⟩ = some (.slice (some ⟨bl, ol, none⟩) (k + 1) c5) := hW.cell id x2d
                go_simp; rfl⟩) HS ?_
              try simp only [Act.put, List.setIfInBounds_toArray, List.set_cons_succ, List.set_cons_zero]
              refine order_pure (i := 8) rfl (by kernel_rfl) (fun _ _ _ h => h) (.inl ⟨rfl, fun _ => by go_simp; rfl⟩) ?_
              try simp only [Act.put, List.setIfInBounds_toArray, List.set_cons_succ, List.set_cons_zero]
              refine order_held (i := 9) rfl (by kernel_rfl) (fun _ _ _ h => h) (.inl ⟨rfl, fun W hW => by
                have q0 : W.cell? ⟨bl, ol + q, none⟩ = some (.int .u32 ((x : Nat) : Int)) := hW.cell id r1
                go_simp; rfl⟩) HS ?_
              try simp only [Act.put, List.setIfInBounds_toArray, List.set_cons_succ, List.set_cons_zero]
              refine order_pure (i := 13) rfl (by kernel_rfl) (fun _ _ _ h => h) (.inl ⟨rfl, fun _ => by go_simp; rfl⟩) ?_
              try simp only [Act.put, List.setIfInBounds_toArray, List.set_cons_succ, List.set_cons_zero]
              refine order_pure (i := 14) rfl (by kernel_rfl) (fun _ _ _ h => h) (.inl ⟨rfl, fun _ => by go_simp; rfl⟩) ?_
              try simp only [Act.put, List.setIfInBounds_toArray, List.set_cons_succ, List.set_cons_zero]
              refine order_pure (i := 15) rfl (by kernel_rfl) (fun _ _ _ h => h) (.inl ⟨rfl, fun _ => by go_simp; rfl⟩) ?_
              try simp only [Act.put, List.setIfInBounds_toArray, List.set_cons_succ, List.set_cons_zero]
              have HOR2 := hide (show bits .or .u32 (x : Int) (2 ^ min (i % 32) 32 % 4294967296) = ((x + y : Nat) : Int) from by
                have e1 : min (i % 32) 32 = s := by have := HQS.out; omega
                rw [e1, show ((2 : Int) ^ s) = ((y : Nat) : Int) from by rw [HY.out]; push_cast; rfl, Int.emod_eq_of_lt (by omega) (by omega)]
                exact HOR.out)
              refine order_one (i := 16) rfl (by kernel_rfl) (fun K hK => ?_)
              go_simp
              refine hK _ _ (fun h => absurd h (by decide)) ?_
              clear hK
              try simp only [Act.put, List.setIfInBounds_toArray, List.set_cons_succ, List.set_cons_zero]
              refine order_done (by kernel_rfl) ?_
              go_wp2
              go_roundw
              case rel => exact ⟨i + 1, _, k + 1, c5, (ls ++ [0]).set q (x + y), rfl, by omega, hide (by have := HKI.out; have := HQS.out; have := HSZ.out; omega), (by rw [HOR2.out]; exact HST)⟩
              case measure => simp [intOf]; omega
          · have hs1 : ((s : Int) == 0) = false := by simp; omega
            have HSP := hide (show 0 < s from by omega)
            clear hs0
            cases hbit : N.testBit i with
            | false =>
              rw [hbit] at q1
              have HBT := hide hbit
              clear hbit hc
              have HST := hide (HT.out.st.no HBT.out)
              go_wp2
              go_roundw
              case rel => exact ⟨i + 1, AL, k, cL, ls, rfl, by omega, hide (by have := HKI.out; have := HQS.out; have := HSP.out; omega), hide ⟨HT.out.keep, HT.out.blk, HT.out.slab, HT.out.fresh, HST.out, HT.out.lt⟩⟩
              case measure => simp [intOf]; omega
            | true =>
              rw [hbit] at q1
              have HBT := hide hbit
              clear hbit hc
              have HKI2 := hide (show k ≤ 34 from by have := HKI.out; omega)
              have hqk : q < k := by have := HKI.out; have := HQS.out; have := HSP.out; omega
              go_wp2_with fail
              refine order_begin (fun W => Keeps NoB wr.drew W) (fun k => k != 16) (by kernel_rfl) 17 rfl ?_
              have HTD := hide HT.out.drew
              have x2d : wr.drew.cell? ⟨g, 2, none⟩ = some (.slice AL k cL) := x2
              generalize wr.drew = W0 at *
              obtain ⟨bl, ol, x, y, rfl, r1, r2, hx, hy, hy2, hor, hst⟩ := HTD.out.limb HQS.out hs hqk HBT.out
              have HST := hide hst
              have hqk2 : (q : Int) < (k : Int) := by omega
              have hq0 : (0 : Int) ≤ (q : Int) := by omega
              have HOR := hide hor
              have HY := hide hy
              clear hst hor hy
              have hkk2 : k ≤ 34 := by have := HKI2.out; omega
              have hwq : IntKind.i64.wrap (q : Int) = (q : Int) := by unfold IntKind.wrap; simp [IntKind.bits, IntKind.signed]; omega
              have HS : Keeps NoB W0 W0 := Keeps.refl _ _
              refine order_pure (i := 0) rfl (by kernel_rfl) (fun _ _ _ h => h) (.inl ⟨rfl, fun _ => by go_simp; rfl⟩) ?_
              try simp only [Act.put, List.setIfInBounds_toArray, List.set_cons_succ, List.set_cons_zero]
              refine order_pure (i := 2) rfl (by kernel_rfl) (fun _ _ _ h => h) (.inl ⟨rfl, fun _ => by go_simp; rfl⟩) ?_
              try simp only [Act.put, List.setIfInBounds_toArray, List.set_cons_succ, List.set_cons_zero]
              refine order_pure (i := 3) rfl (by kernel_rfl) (fun _ _ _ h => h) (.inl ⟨rfl, fun _ => by go_simp; rfl⟩) ?_
              try simp only [Act.put, List.setIfInBounds_toArray, List.set_cons_succ, List.set_cons_zero]
              refine order_pure (i := 4) rfl (by kernel_rfl) (fun _ _ _ h => h) (.inl ⟨rfl, fun _ => by go_simp; rfl⟩) ?_
              try simp only [Act.put, List.setIfInBounds_toArray, List.set_cons_succ, List.set_cons_zero]
              refine order_pure (i := 6) rfl (by kernel_rfl) (fun _ _ _ h => h) (.inl ⟨rfl, fun _ => by go_simp; rfl⟩) ?_
              try simp only [Act.put, List.setIfInBounds_toArray, List.set_cons_succ, List.set_cons_zero]
              refine order_pure (i := 7) rfl (by kernel_rfl) (fun _ _ _ h => h) (.inl ⟨rfl, fun _ => by go_simp; rfl⟩) ?_
              try simp only [Act.put, List.setIfInBounds_toArray, List.set_cons_succ, List.set_cons_zero]
              refine order_pure (i := 10) rfl (by kernel_rfl) (fun _ _ _ h => h) (.inl ⟨rfl, fun _ => by go_simp; rfl⟩) ?_
              try simp only [Act.put, List.setIfInBounds_toArray, List.set_cons_succ, List.set_cons_zero]
              refine order_pure (i := 11) rfl (by kernel_rfl) (fun _ _ _ h => h) (.inl ⟨rfl, fun _ => by go_simp; rfl⟩) ?_
              try simp only [Act.put, List.setIfInBounds_toArray, List.set_cons_succ, List.set_cons_zero]
              refine order_pure (i := 12) rfl (by kernel_rfl) (fun _ _ _ h => h) (.inl ⟨rfl, fun _ => by go_simp; rfl⟩) ?_
              try simp only [Act.put, List.setIfInBounds_toArray, List.set_cons_succ, List.set_cons_zero]
              refine order_held (i := 1) rfl (by kernel_rfl) (fun _ _ _ h => h) (.inl ⟨rfl, fun W hW => by
                have q0 : W.cell? ⟨g, 2, none⟩ = some (.slice (some ⟨bl, ol, none⟩) k cL) := hW.cell id x2d
                go_simp; rfl⟩) HS ?_
              try simp only [Act.put, List.setIfInBounds_toArray, List.set_cons_succ, List.set_cons_zero]
              refine order_held (i := 5) rfl (by kernel_rfl) (fun _ _ _ h => h) (.inl ⟨rfl, fun W hW => by
                have q0 : W.cell? ⟨g, 2, none⟩ = some (.slice (some ⟨bl, ol, none⟩) k cL) := hW.cell id x2d
                go_simp; rfl⟩) HS ?_
              try simp only [Act.put, List.setIfInBounds_toArray, List.set_cons_succ, List.set_cons_zero]
              refine order_pure (i := 8) rfl (by kernel_rfl) (fun _ _ _ h => h) (.inl ⟨rfl, fun _ => by go_simp; rfl⟩) ?_
              try simp only [Act.put, List.setIfInBounds_toArray, List.set_cons_succ, List.set_cons_zero]
              refine order_held (i := 9) rfl (by kernel_rfl) (fun _ _ _ h => h) (.inl ⟨rfl, fun W hW => by
                have q0 : W.cell? ⟨bl, ol + q, none⟩ = some (.int .u32 ((x : Nat) : Int)) := hW.cell id r1
                go_simp; rfl⟩) HS ?_
              try simp only [Act.put, List.setIfInBounds_toArray, List.set_cons_succ, List.set_cons_zero]
              refine order_pure (i := 13) rfl (by kernel_rfl) (fun _ _ _ h => h) (.inl ⟨rfl, fun _ => by go_simp; rfl⟩) ?_
              try simp only [Act.put, List.setIfInBounds_toArray, List.set_cons_succ, List.set_cons_zero]
              refine order_pure (i := 14) rfl (by kernel_rfl) (fun _ _ _ h => h) (.inl ⟨rfl, fun _ => by go_simp; rfl⟩) ?_
              try simp only [Act.put, List.setIfInBounds_toArray, List.set_cons_succ, List.set_cons_zero]
              refine order_pure (i := 15) rfl (by kernel_rfl) (fun _ _ _ h => h) (.inl ⟨rfl, fun _ => by go_simp; rfl⟩) ?_
              try simp only [Act.put, List.setIfInBounds_toArray, List.set_cons_succ, List.set_cons_zero]
              have HOR2 := hide (show bits .or .u32 (x : Int) (2 ^ min (i % 32) 32 % 4294967296) = ((x + y : Nat) : Int) from by
                have e1 : min (i % 32) 32 = s := by have := HQS.out; omega
                rw [e1, show ((2 : Int) ^ s) = ((y : Nat) : Int) from by rw [HY.out]; push_cast; rfl, Int.emod_eq_of_lt (by omega) (by omega)]
                exact HOR.out)
              refine order_one (i := 16) rfl (by kernel_rfl) (fun K hK => ?_)
              go_simp
              refine hK _ _ (fun h => absurd h (by decide)) ?_
              clear hK
              try simp only [Act.put, List.setIfInBounds_toArray, List.set_cons_succ, List.set_cons_zero]
              refine order_done (by kernel_rfl) ?_
              go_wp2
              go_roundw
              case rel => exact ⟨i + 1, _, k, cL, ls.set q (x + y), rfl, by omega, hide (by have := HKI.out; have := HQS.out; have := HSP.out; omega), (by rw [HOR2.out]; exact HST)⟩
              case measure => simp [intOf]; omega
        · obtain rfl : m = i := by omega
          have HBk := hide HT.out.blk
          have HZk := hide (HZ3.out.keep HT.out.keep (by have := HG.out; omega))
          have HKk := hide (HK3.out.trans' HT.out.keep (fun _ _ h => h) (fun k h1 h2 => by have := HG.out; omega) : Keeps NoB w wr)
          have y0 : wr.cell? ⟨g, 0, none⟩ = some (.int .u8 1) := HBk.out.cell 0; have y1 : wr.cell? ⟨g, 1, none⟩ = some (.bool false) := HBk.out.cell 1; have y2 : wr.cell? ⟨g, 2, none⟩ = some (.slice AL k cL) := HBk.out.cell 2; have y3 : wr.cell? ⟨g, 3, none⟩ = some (.string { data := #[] }) := HBk.out.cell 3; have y4 : wr.cell? ⟨g, 4, none⟩ = some (.int .i64 0) := HBk.out.cell 4; have y5 : wr.cell? ⟨g, 5, none⟩ = some (.slice none 0 0) := HBk.out.cell 5; have y6 : wr.cell? ⟨g, 6, none⟩ = some (.slice none 0 0) := HBk.out.cell 6
          have z0 : wr.cell? ⟨w.heap.size, 0, none⟩ = some (.int .u8 0) := HZk.out.cell 0; have z1 : wr.cell? ⟨w.heap.size, 1, none⟩ = some (.bool false) := HZk.out.cell 1; have z2 : wr.cell? ⟨w.heap.size, 2, none⟩ = some (.slice none 0 0) := HZk.out.cell 2; have z3 : wr.cell? ⟨w.heap.size, 3, none⟩ = some (.string { data := #[] }) := HZk.out.cell 3; have z4 : wr.cell? ⟨w.heap.size, 4, none⟩ = some (.int .i64 0) := HZk.out.cell 4; have z5 : wr.cell? ⟨w.heap.size, 5, none⟩ = some (.slice none 0 0) := HZk.out.cell 5; have z6 : wr.cell? ⟨w.heap.size, 6, none⟩ = some (.slice none 0 0) := HZk.out.cell 6
          have f0 : wr.frozen? ⟨w.heap.size, 0, none⟩ = false := HZk.out.free 0; have f1 : wr.frozen? ⟨w.heap.size, 1, none⟩ = false := HZk.out.free 1; have f2 : wr.frozen? ⟨w.heap.size, 2, none⟩ = false := HZk.out.free 2; have f3 : wr.frozen? ⟨w.heap.size, 3, none⟩ = false := HZk.out.free 3; have f4 : wr.frozen? ⟨w.heap.size, 4, none⟩ = false := HZk.out.free 4; have f5 : wr.frozen? ⟨w.heap.size, 5, none⟩ = false := HZk.out.free 5; have f6 : wr.frozen? ⟨w.heap.size, 6, none⟩ = false := HZk.out.free 6
          go_wp2
          have HBf := hide (HZk.out.put7 (.int .u8 1) (.bool false) (.slice AL k cL) (.string { data := #[] }) (.int .i64 0) (.slice none 0 0) (.slice none 0 0))
          have HKf := hide (HKk.out.set7 (g := w.heap.size) (by omega) (.int .u8 1) (.bool false) (.slice AL k cL) (.string { data := #[] }) (.int .i64 0) (.slice none 0 0) (.slice none 0 0))
          have HLf := hide ((LimbsIn.of_slab HT.out.slab HT.out.st.low).far (Keeps.set7' (g := w.heap.size) (.int .u8 1) (.bool false) (.slice AL k cL) (.string { data := #[] }) (.int .i64 0) (.slice none 0 0) (.slice none 0 0)) (fun k hk e => by have := HT.out.fresh k hk; have := HGL.out; have := HG.out; omega))
          clear z0 z1 z2 z3 z4 z5 z6 f0 f1 f2 f3 f4 f5 f6 y0 y1 y2 y3 y4 y5 y6
          generalize (((((((wr.setCell ⟨w.heap.size, 0, none⟩ (.int .u8 1)).setCell ⟨w.heap.size, 1, none⟩ (.bool false)).setCell ⟨w.heap.size, 2, none⟩ (.slice AL k cL)).setCell ⟨w.heap.size, 3, none⟩ (.string { data := #[] })).setCell ⟨w.heap.size, 4, none⟩ (.int .i64 0)).setCell ⟨w.heap.size, 5, none⟩ (.slice none 0 0)).setCell ⟨w.heap.size, 6, none⟩ (.slice none 0 0)) = wf at *
          have d0 : wf.cell? ⟨w.heap.size, 0, none⟩ = some (.int .u8 1) := HBf.out.cell 0; have d1 : wf.cell? ⟨w.heap.size, 1, none⟩ = some (.bool false) := HBf.out.cell 1; have d2 : wf.cell? ⟨w.heap.size, 2, none⟩ = some (.slice AL k cL) := HBf.out.cell 2; have d3 : wf.cell? ⟨w.heap.size, 3, none⟩ = some (.string { data := #[] }) := HBf.out.cell 3; have d4 : wf.cell? ⟨w.heap.size, 4, none⟩ = some (.int .i64 0) := HBf.out.cell 4; have d5 : wf.cell? ⟨w.heap.size, 5, none⟩ = some (.slice none 0 0) := HBf.out.cell 5; have d6 : wf.cell? ⟨w.heap.size, 6, none⟩ = some (.slice none 0 0) := HBf.out.cell 6
          refine bodyPost_ret (v := .tuple #[.agg #[.int .u8 1, .bool false, .slice AL k cL, .string { data := #[] }, .int .i64 0, .slice none 0 0, .slice none 0 0], .bool true]) (by simp [results, Try.results38, go_sem, d0, d1, d2, d3, d4, d5, d6]) rfl ?_
          have hmm := HM.out
          have hki := HKI.out
          have hst := HT.out.st
          subst hmm
          obtain rfl := hst.done hki
          refine ⟨1, false, AL, k, cL, true, rfl, .inl ⟨rfl, rfl, ?_, ?_, ?_⟩, HKf.out⟩
          · rw [sgn_abs]
            exact HLf.out.more (fun k _ hk => by have := HT.out.fresh k hk; have := HGL.out; have := HG.out; omega)
          · exact HSG.out.symm
          · rw [sgn_abs, Big_eq]
            exact big_bits.1 (by have := HBG.out; omega)
    · by_cases hp : 0 < lenB N
      · have hsg : decide (sgn true N < 0) = true := by rw [← sgn_is, decide_eq_true hp]; rfl
        have HSG := hide hsg; clear hsg
        have HP := hide hp; clear hp
        go_enter Try.func38, Try.ntmps38
        go_wp2_with (go_at_call 59; refine (HR.out _ HA0.out).mono ?_; rintro e w2 ⟨m, rfl, hm, hb, hk⟩; have HM := hide hm; have hm1 : m ≤ 1024 := (by have := HBG.out; omega); have hd : decide ((1024 : Int) < (m : Int)) = false := decide_eq_false (by omega); have hf := (show decide (0 < m) = true from decide_eq_true (by have := HP.out; omega)); have HL2 := hide hb; have HZ2 := hide (HZ0.out.keep hk id); have HK2 := hide (HK0.out.trans' hk (fun _ _ => id) (fun _ _ => id)); clear hm hb hk HZ0 HK0)
        have HW2 := hide HZ2.out.lt
        have HK3 := hide (HK2.out.alloc (.cells #[.int .u8 1, .bool true, .slice none 0 0, .string { data := #[] }, .int .i64 0, .slice none 0 0, .slice none 0 0] 26))
        have HK23 := hide ((Keeps.refl NoB w2).alloc (.cells #[.int .u8 1, .bool true, .slice none 0 0, .string { data := #[] }, .int .i64 0, .slice none 0 0, .slice none 0 0] 26))
        have HZ3 := hide (HZ2.out.alloc (.cells #[.int .u8 1, .bool true, .slice none 0 0, .string { data := #[] }, .int .i64 0, .slice none 0 0, .slice none 0 0] 26))
        obtain ⟨g, hg⟩ : ∃ g, w2.heap.size = g := ⟨_, rfl⟩
        have HS0 := hide (⟨Keeps.refl _ _, hg ▸ Blk.new w2 26 #[.int .u8 1, .bool true, .slice none 0 0, .string { data := #[] }, .int .i64 0, .slice none 0 0, .slice none 0 0], Slab.nil _ _ _, (fun k ⟨o, e⟩ => by cases e), LimbSt.start N, by rw [← hg]; simp⟩ : MadeSt (w2.alloc (.cells #[.int .u8 1, .bool true, .slice none 0 0, .string { data := #[] }, .int .i64 0, .slice none 0 0, .slice none 0 0] 26)) g true N 0 none 0 0 [] (w2.alloc (.cells #[.int .u8 1, .bool true, .slice none 0 0, .string { data := #[] }, .int .i64 0, .slice none 0 0, .slice none 0 0] 26)))
        have HG := hide (show w.heap.size < g from hg ▸ HW2.out)
        have HGL := hide (show g < (w2.alloc (.cells #[.int .u8 1, .bool true, .slice none 0 0, .string { data := #[] }, .int .i64 0, .slice none 0 0, .slice none 0 0] 26)).heap.size from by rw [← hg]; simp)
        rw [hg]
        have HG2 := hide hg
        clear HZ2 HK2 hg hf HW2
        generalize w2.alloc (.cells #[.int .u8 1, .bool true, .slice none 0 0, .string { data := #[] }, .int .i64 0, .slice none 0 0, .slice none 0 0] 26) = w3 at *
        go_wp2
        go_loopw [7] (fun iv wr => ∃ (i : Nat) (AL : Option Addr) (k cL : Nat) (ls : List Nat), iv = .int .i64 (i : Int) ∧ i ≤ m ∧ Hid (k = (i + 31) / 32) ∧ Hid (MadeSt w3 g true N i AL k cL ls wr)) (fun iv _ => m - (intOf iv).toNat)
        case atStart => exact ⟨0, _, _, _, _, rfl, Nat.zero_le _, hide rfl, HS0⟩
        case round =>
          obtain ⟨i, AL, k, cL, ls, rfl, hi, HKI, HT⟩ := hrel
          by_cases hlt : i < m
          · obtain ⟨q, s, hqs, hs, _, _⟩ := made_place (i := i)
            obtain ⟨b, o, rfl, hb, hc⟩ := HL2.out.at (by omega)
            have q3 := hc i hlt
            rw [dig_bit] at q3
            have hbg : ¬ b = g := by have := HG2.out; omega
            have HQ3 := hide (HK23.out.cell id q3)
            have HBG2 := hide hbg
            have q1 : wr.cell? ⟨b, o + i, none⟩ = some (.bool (N.testBit i)) := HT.out.keep.cell hbg HQ3.out
            clear q3 hbg hb
            have hin0 : (0 : Int) ≤ (i : Int) := by omega
            have hi1 : (i : Int) < (m : Int) := by omega
            have hr : (i : Int) % 32 = (s : Int) := by omega
            have hqq : (i : Int) / 32 = (q : Int) := by omega
            have HQS := hide hqs
            clear hqs
            rename_i hd1 hd2; clear hd1 hd2
            have x2 : wr.cell? ⟨g, 2, none⟩ = some (.slice AL k cL) := HT.out.blk.cell 2
            by_cases hs0 : s = 0
            · have hr0 : (i : Int) % 32 = 0 := by omega
              have HSZ := hide hs0
              have HSL4 := hide (HT.out.slab.fresh ((Keeps.refl NoB wr).alloc (.cells #[.int .u32 0] 44)))
              have HR4 := hide (one_reads (Blk.new wr 44 #[.int .u32 0]))
              have hkk : k ≤ 33 := by have := HKI.out; omega
              clear hc q1 hr hs0
              go_wp2_with (at_builtin; refine wpList_append_slab _ rfl (.tmp 31) (.tmp 32) 23 rfl 44 i0 _ 1 4 Try.underlying23 hi0 hz0 hz1 hz2 rfl (by omega) AL k cL (u32s ls) rfl HSL4.out (fun _ => True) true (some ⟨wr.heap.size, 0, none⟩) 1 1 [.int .u32 0] rfl HR4.out (Nat.zero_lt_one) (fun u hu => by simp at hu; subst hu; rfl) (by unfold maxLen; omega) (by omega) ?_)
              intro A5 c5 w5 h1 h2 h3
              have hg5 := HT.out.grow h1 h2 h3
              have x2' : w5.cell? ⟨g, 2, none⟩ = some (.slice AL k cL) := hg5.1.cell 2
              have f2' : w5.frozen? ⟨g, 2, none⟩ = false := hg5.1.free 2
              have HS5 := hide hg5.2
              have HBB := hide (show (w5.setCell ⟨g, 2, none⟩ (.slice A5 (k + 1) c5)).cell? ⟨b, o + i, none⟩ = some (.bool (N.testBit i)) from HS5.out.keep.cell HBG2.out HQ3.out)
              clear h1 h2 h3 HSL4 HR4 x2 hg5
              cases hbit : N.testBit i with
              | false =>
                rw [hbit] at HBB
                have HBT := hide hbit
                clear hbit
                have q6 := HBB.out
                have HST := hide (HS5.out.st.no HBT.out)
                go_wp2
                go_roundw
                case rel => exact ⟨i + 1, A5, k + 1, c5, ls ++ [0], rfl, by omega, hide (by have := HKI.out; have := HQS.out; have := HSZ.out; omega), hide ⟨HS5.out.keep, HS5.out.blk, HS5.out.slab, HS5.out.fresh, HST.out, HS5.out.lt⟩⟩
                case measure => simp [intOf]; omega
              | true =>
                rw [hbit] at HBB
                have HBT := hide hbit
                clear hbit
                have q6 := HBB.out
                have HKI2 := hide (show k + 1 ≤ 34 from by have := HKI.out; omega)
                have hqk : q < k + 1 := by have := HKI.out; have := HQS.out; have := HSZ.out; omega
                have HX6 := hide (HS5.out.blk.cell 2)
                go_wp2_with fail
                have x2 : (w5.setCell ⟨g, 2, none⟩ (.slice A5 (k + 1) c5)).cell? ⟨g, 2, none⟩ = some (.slice A5 (k + 1) c5) := HX6.out
                obtain ⟨w6, hw6⟩ : ∃ w6, w5.setCell ⟨g, 2, none⟩ (.slice A5 (k + 1) c5) = w6 := ⟨_, rfl⟩
                rw [hw6] at HS5 x2 ⊢
                clear hw6 HX6 HBB q6 x2' f2'
                go_wp2_with fail
                refine order_begin (fun W => Keeps NoB w6.drew W) (fun k => k != 16) (by kernel_rfl) 17 rfl ?_
                have HTD := hide HS5.out.drew
                have x2d : w6.drew.cell? ⟨g, 2, none⟩ = some (.slice A5 (k + 1) c5) := x2
                generalize w6.drew = W0 at *
                obtain ⟨bl, ol, x, y, rfl, r1, r2, hx, hy, hy2, hor, hst⟩ := HTD.out.limb HQS.out hs hqk HBT.out
                have HST := hide hst
                have hqk2 : (q : Int) < (k : Int) + 1 := by omega
                have hq0 : (0 : Int) ≤ (q : Int) := by omega
                have HOR := hide hor
                have HY := hide hy
                clear hst hor hy
                have hkk2 : (k + 1) ≤ 34 := by have := HKI2.out; omega
                have hwq : IntKind.i64.wrap (q : Int) = (q : Int) := by unfold IntKind.wrap; simp [IntKind.bits, IntKind.signed]; omega
                have HS : Keeps NoB W0 W0 := Keeps.refl _ _
                refine order_pure (i := 0) rfl (by kernel_rfl) (fun _ _ _ h => h) (.inl ⟨rfl, fun _ => by go_simp; rfl⟩) ?_
                try simp only [Act.put, List.setIfInBounds_toArray, List.set_cons_succ, List.set_cons_zero]
                refine order_pure (i := 2) rfl (by kernel_rfl) (fun _ _ _ h => h) (.inl ⟨rfl, fun _ => by go_simp; rfl⟩) ?_
                try simp only [Act.put, List.setIfInBounds_toArray, List.set_cons_succ, List.set_cons_zero]
                refine order_pure (i := 3) rfl (by kernel_rfl) (fun _ _ _ h => h) (.inl ⟨rfl, fun _ => by go_simp; rfl⟩) ?_
                try simp only [Act.put, List.setIfInBounds_toArray, List.set_cons_succ, List.set_cons_zero]
                refine order_pure (i := 4) rfl (by kernel_rfl) (fun _ _ _ h => h) (.inl ⟨rfl, fun _ => by go_simp; rfl⟩) ?_
                try simp only [Act.put, List.setIfInBounds_toArray, List.set_cons_succ, List.set_cons_zero]
                refine order_pure (i := 6) rfl (by kernel_rfl) (fun _ _ _ h => h) (.inl ⟨rfl, fun _ => by go_simp; rfl⟩) ?_
                try simp only [Act.put, List.setIfInBounds_toArray, List.set_cons_succ, List.set_cons_zero]
                refine order_pure (i := 7) rfl (by kernel_rfl) (fun _ _ _ h => h) (.inl ⟨rfl, fun _ => by go_simp; rfl⟩) ?_
                try simp only [Act.put, List.setIfInBounds_toArray, List.set_cons_succ, List.set_cons_zero]
                refine order_pure (i := 10) rfl (by kernel_rfl) (fun _ _ _ h => h) (.inl ⟨rfl, fun _ => by go_simp; rfl⟩) ?_
                try simp only [Act.put, List.setIfInBounds_toArray, List.set_cons_succ, List.set_cons_zero]
                refine order_pure (i := 11) rfl (by kernel_rfl) (fun _ _ _ h => h) (.inl ⟨rfl, fun _ => by go_simp; rfl⟩) ?_
                try simp only [Act.put, List.setIfInBounds_toArray, List.set_cons_succ, List.set_cons_zero]
                refine order_pure (i := 12) rfl (by kernel_rfl) (fun _ _ _ h => h) (.inl ⟨rfl, fun _ => by go_simp; rfl⟩) ?_
                try simp only [Act.put, List.setIfInBounds_toArray, List.set_cons_succ, List.set_cons_zero]
                refine order_held (i := 1) rfl (by kernel_rfl) (fun _ _ _ h => h) (.inl ⟨rfl, fun W hW => by
                  have q0 : W.cell? ⟨g, 2, none⟩ = some (.slice (some ⟨bl, ol, none⟩) (k + 1) c5) := hW.cell id x2d
                  go_simp; rfl⟩) HS ?_
                try simp only [Act.put, List.setIfInBounds_toArray, List.set_cons_succ, List.set_cons_zero]
                refine order_held (i := 5) rfl (by kernel_rfl) (fun _ _ _ h => h) (.inl ⟨rfl, fun W hW => by
                  have q0 : W.cell? ⟨g, 2, none⟩ = some (.slice (some ⟨bl, ol, none⟩) (k + 1) c5) := hW.cell id x2d
                  go_simp; rfl⟩) HS ?_
                try simp only [Act.put, List.setIfInBounds_toArray, List.set_cons_succ, List.set_cons_zero]
                refine order_pure (i := 8) rfl (by kernel_rfl) (fun _ _ _ h => h) (.inl ⟨rfl, fun _ => by go_simp; rfl⟩) ?_
                try simp only [Act.put, List.setIfInBounds_toArray, List.set_cons_succ, List.set_cons_zero]
                refine order_held (i := 9) rfl (by kernel_rfl) (fun _ _ _ h => h) (.inl ⟨rfl, fun W hW => by
                  have q0 : W.cell? ⟨bl, ol + q, none⟩ = some (.int .u32 ((x : Nat) : Int)) := hW.cell id r1
                  go_simp; rfl⟩) HS ?_
                try simp only [Act.put, List.setIfInBounds_toArray, List.set_cons_succ, List.set_cons_zero]
                refine order_pure (i := 13) rfl (by kernel_rfl) (fun _ _ _ h => h) (.inl ⟨rfl, fun _ => by go_simp; rfl⟩) ?_
                try simp only [Act.put, List.setIfInBounds_toArray, List.set_cons_succ, List.set_cons_zero]
                refine order_pure (i := 14) rfl (by kernel_rfl) (fun _ _ _ h => h) (.inl ⟨rfl, fun _ => by go_simp; rfl⟩) ?_
                try simp only [Act.put, List.setIfInBounds_toArray, List.set_cons_succ, List.set_cons_zero]
                refine order_pure (i := 15) rfl (by kernel_rfl) (fun _ _ _ h => h) (.inl ⟨rfl, fun _ => by go_simp; rfl⟩) ?_
                try simp only [Act.put, List.setIfInBounds_toArray, List.set_cons_succ, List.set_cons_zero]
                have HOR2 := hide (show bits .or .u32 (x : Int) (2 ^ min (i % 32) 32 % 4294967296) = ((x + y : Nat) : Int) from by
                  have e1 : min (i % 32) 32 = s := by have := HQS.out; omega
                  rw [e1, show ((2 : Int) ^ s) = ((y : Nat) : Int) from by rw [HY.out]; push_cast; rfl, Int.emod_eq_of_lt (by omega) (by omega)]
                  exact HOR.out)
                refine order_one (i := 16) rfl (by kernel_rfl) (fun K hK => ?_)
                go_simp
                refine hK _ _ (fun h => absurd h (by decide)) ?_
                clear hK
                try simp only [Act.put, List.setIfInBounds_toArray, List.set_cons_succ, List.set_cons_zero]
                refine order_done (by kernel_rfl) ?_
                go_wp2
                go_roundw
                case rel => exact ⟨i + 1, _, k + 1, c5, (ls ++ [0]).set q (x + y), rfl, by omega, hide (by have := HKI.out; have := HQS.out; have := HSZ.out; omega), (by rw [HOR2.out]; exact HST)⟩
                case measure => simp [intOf]; omega
            · have hs1 : ((s : Int) == 0) = false := by simp; omega
              have HSP := hide (show 0 < s from by omega)
              clear hs0
              cases hbit : N.testBit i with
              | false =>
                rw [hbit] at q1
                have HBT := hide hbit
                clear hbit hc
                have HST := hide (HT.out.st.no HBT.out)
                go_wp2
                go_roundw
                case rel => exact ⟨i + 1, AL, k, cL, ls, rfl, by omega, hide (by have := HKI.out; have := HQS.out; have := HSP.out; omega), hide ⟨HT.out.keep, HT.out.blk, HT.out.slab, HT.out.fresh, HST.out, HT.out.lt⟩⟩
                case measure => simp [intOf]; omega
              | true =>
                rw [hbit] at q1
                have HBT := hide hbit
                clear hbit hc
                have HKI2 := hide (show k ≤ 34 from by have := HKI.out; omega)
                have hqk : q < k := by have := HKI.out; have := HQS.out; have := HSP.out; omega
                go_wp2_with fail
                refine order_begin (fun W => Keeps NoB wr.drew W) (fun k => k != 16) (by kernel_rfl) 17 rfl ?_
                have HTD := hide HT.out.drew
                have x2d : wr.drew.cell? ⟨g, 2, none⟩ = some (.slice AL k cL) := x2
                generalize wr.drew = W0 at *
                obtain ⟨bl, ol, x, y, rfl, r1, r2, hx, hy, hy2, hor, hst⟩ := HTD.out.limb HQS.out hs hqk HBT.out
                have HST := hide hst
                have hqk2 : (q : Int) < (k : Int) := by omega
                have hq0 : (0 : Int) ≤ (q : Int) := by omega
                have HOR := hide hor
                have HY := hide hy
                clear hst hor hy
                have hkk2 : k ≤ 34 := by have := HKI2.out; omega
                have hwq : IntKind.i64.wrap (q : Int) = (q : Int) := by unfold IntKind.wrap; simp [IntKind.bits, IntKind.signed]; omega
                have HS : Keeps NoB W0 W0 := Keeps.refl _ _
                refine order_pure (i := 0) rfl (by kernel_rfl) (fun _ _ _ h => h) (.inl ⟨rfl, fun _ => by go_simp; rfl⟩) ?_
                try simp only [Act.put, List.setIfInBounds_toArray, List.set_cons_succ, List.set_cons_zero]
                refine order_pure (i := 2) rfl (by kernel_rfl) (fun _ _ _ h => h) (.inl ⟨rfl, fun _ => by go_simp; rfl⟩) ?_
                try simp only [Act.put, List.setIfInBounds_toArray, List.set_cons_succ, List.set_cons_zero]
                refine order_pure (i := 3) rfl (by kernel_rfl) (fun _ _ _ h => h) (.inl ⟨rfl, fun _ => by go_simp; rfl⟩) ?_
                try simp only [Act.put, List.setIfInBounds_toArray, List.set_cons_succ, List.set_cons_zero]
                refine order_pure (i := 4) rfl (by kernel_rfl) (fun _ _ _ h => h) (.inl ⟨rfl, fun _ => by go_simp; rfl⟩) ?_
                try simp only [Act.put, List.setIfInBounds_toArray, List.set_cons_succ, List.set_cons_zero]
                refine order_pure (i := 6) rfl (by kernel_rfl) (fun _ _ _ h => h) (.inl ⟨rfl, fun _ => by go_simp; rfl⟩) ?_
                try simp only [Act.put, List.setIfInBounds_toArray, List.set_cons_succ, List.set_cons_zero]
                refine order_pure (i := 7) rfl (by kernel_rfl) (fun _ _ _ h => h) (.inl ⟨rfl, fun _ => by go_simp; rfl⟩) ?_
                try simp only [Act.put, List.setIfInBounds_toArray, List.set_cons_succ, List.set_cons_zero]
                refine order_pure (i := 10) rfl (by kernel_rfl) (fun _ _ _ h => h) (.inl ⟨rfl, fun _ => by go_simp; rfl⟩) ?_
                try simp only [Act.put, List.setIfInBounds_toArray, List.set_cons_succ, List.set_cons_zero]
                refine order_pure (i := 11) rfl (by kernel_rfl) (fun _ _ _ h => h) (.inl ⟨rfl, fun _ => by go_simp; rfl⟩) ?_
                try simp only [Act.put, List.setIfInBounds_toArray, List.set_cons_succ, List.set_cons_zero]
                refine order_pure (i := 12) rfl (by kernel_rfl) (fun _ _ _ h => h) (.inl ⟨rfl, fun _ => by go_simp; rfl⟩) ?_
                try simp only [Act.put, List.setIfInBounds_toArray, List.set_cons_succ, List.set_cons_zero]
                refine order_held (i := 1) rfl (by kernel_rfl) (fun _ _ _ h => h) (.inl ⟨rfl, fun W hW => by
                  have q0 : W.cell? ⟨g, 2, none⟩ = some (.slice (some ⟨bl, ol, none⟩) k cL) := hW.cell id x2d
                  go_simp; rfl⟩) HS ?_
                try simp only [Act.put, List.setIfInBounds_toArray, List.set_cons_succ, List.set_cons_zero]
                refine order_held (i := 5) rfl (by kernel_rfl) (fun _ _ _ h => h) (.inl ⟨rfl, fun W hW => by
                  have q0 : W.cell? ⟨g, 2, none⟩ = some (.slice (some ⟨bl, ol, none⟩) k cL) := hW.cell id x2d
                  go_simp; rfl⟩) HS ?_
                try simp only [Act.put, List.setIfInBounds_toArray, List.set_cons_succ, List.set_cons_zero]
                refine order_pure (i := 8) rfl (by kernel_rfl) (fun _ _ _ h => h) (.inl ⟨rfl, fun _ => by go_simp; rfl⟩) ?_
                try simp only [Act.put, List.setIfInBounds_toArray, List.set_cons_succ, List.set_cons_zero]
                refine order_held (i := 9) rfl (by kernel_rfl) (fun _ _ _ h => h) (.inl ⟨rfl, fun W hW => by
                  have q0 : W.cell? ⟨bl, ol + q, none⟩ = some (.int .u32 ((x : Nat) : Int)) := hW.cell id r1
                  go_simp; rfl⟩) HS ?_
                try simp only [Act.put, List.setIfInBounds_toArray, List.set_cons_succ, List.set_cons_zero]
                refine order_pure (i := 13) rfl (by kernel_rfl) (fun _ _ _ h => h) (.inl ⟨rfl, fun _ => by go_simp; rfl⟩) ?_
                try simp only [Act.put, List.setIfInBounds_toArray, List.set_cons_succ, List.set_cons_zero]
                refine order_pure (i := 14) rfl (by kernel_rfl) (fun _ _ _ h => h) (.inl ⟨rfl, fun _ => by go_simp; rfl⟩) ?_
                try simp only [Act.put, List.setIfInBounds_toArray, List.set_cons_succ, List.set_cons_zero]
                refine order_pure (i := 15) rfl (by kernel_rfl) (fun _ _ _ h => h) (.inl ⟨rfl, fun _ => by go_simp; rfl⟩) ?_
                try simp only [Act.put, List.setIfInBounds_toArray, List.set_cons_succ, List.set_cons_zero]
                have HOR2 := hide (show bits .or .u32 (x : Int) (2 ^ min (i % 32) 32 % 4294967296) = ((x + y : Nat) : Int) from by
                  have e1 : min (i % 32) 32 = s := by have := HQS.out; omega
                  rw [e1, show ((2 : Int) ^ s) = ((y : Nat) : Int) from by rw [HY.out]; push_cast; rfl, Int.emod_eq_of_lt (by omega) (by omega)]
                  exact HOR.out)
                refine order_one (i := 16) rfl (by kernel_rfl) (fun K hK => ?_)
                go_simp
                refine hK _ _ (fun h => absurd h (by decide)) ?_
                clear hK
                try simp only [Act.put, List.setIfInBounds_toArray, List.set_cons_succ, List.set_cons_zero]
                refine order_done (by kernel_rfl) ?_
                go_wp2
                go_roundw
                case rel => exact ⟨i + 1, _, k, cL, ls.set q (x + y), rfl, by omega, hide (by have := HKI.out; have := HQS.out; have := HSP.out; omega), (by rw [HOR2.out]; exact HST)⟩
                case measure => simp [intOf]; omega
          · obtain rfl : m = i := by omega
            have HBk := hide HT.out.blk
            have HZk := hide (HZ3.out.keep HT.out.keep (by have := HG.out; omega))
            have HKk := hide (HK3.out.trans' HT.out.keep (fun _ _ h => h) (fun k h1 h2 => by have := HG.out; omega) : Keeps NoB w wr)
            have y0 : wr.cell? ⟨g, 0, none⟩ = some (.int .u8 1) := HBk.out.cell 0; have y1 : wr.cell? ⟨g, 1, none⟩ = some (.bool true) := HBk.out.cell 1; have y2 : wr.cell? ⟨g, 2, none⟩ = some (.slice AL k cL) := HBk.out.cell 2; have y3 : wr.cell? ⟨g, 3, none⟩ = some (.string { data := #[] }) := HBk.out.cell 3; have y4 : wr.cell? ⟨g, 4, none⟩ = some (.int .i64 0) := HBk.out.cell 4; have y5 : wr.cell? ⟨g, 5, none⟩ = some (.slice none 0 0) := HBk.out.cell 5; have y6 : wr.cell? ⟨g, 6, none⟩ = some (.slice none 0 0) := HBk.out.cell 6
            have z0 : wr.cell? ⟨w.heap.size, 0, none⟩ = some (.int .u8 0) := HZk.out.cell 0; have z1 : wr.cell? ⟨w.heap.size, 1, none⟩ = some (.bool false) := HZk.out.cell 1; have z2 : wr.cell? ⟨w.heap.size, 2, none⟩ = some (.slice none 0 0) := HZk.out.cell 2; have z3 : wr.cell? ⟨w.heap.size, 3, none⟩ = some (.string { data := #[] }) := HZk.out.cell 3; have z4 : wr.cell? ⟨w.heap.size, 4, none⟩ = some (.int .i64 0) := HZk.out.cell 4; have z5 : wr.cell? ⟨w.heap.size, 5, none⟩ = some (.slice none 0 0) := HZk.out.cell 5; have z6 : wr.cell? ⟨w.heap.size, 6, none⟩ = some (.slice none 0 0) := HZk.out.cell 6
            have f0 : wr.frozen? ⟨w.heap.size, 0, none⟩ = false := HZk.out.free 0; have f1 : wr.frozen? ⟨w.heap.size, 1, none⟩ = false := HZk.out.free 1; have f2 : wr.frozen? ⟨w.heap.size, 2, none⟩ = false := HZk.out.free 2; have f3 : wr.frozen? ⟨w.heap.size, 3, none⟩ = false := HZk.out.free 3; have f4 : wr.frozen? ⟨w.heap.size, 4, none⟩ = false := HZk.out.free 4; have f5 : wr.frozen? ⟨w.heap.size, 5, none⟩ = false := HZk.out.free 5; have f6 : wr.frozen? ⟨w.heap.size, 6, none⟩ = false := HZk.out.free 6
            go_wp2
            have HBf := hide (HZk.out.put7 (.int .u8 1) (.bool true) (.slice AL k cL) (.string { data := #[] }) (.int .i64 0) (.slice none 0 0) (.slice none 0 0))
            have HKf := hide (HKk.out.set7 (g := w.heap.size) (by omega) (.int .u8 1) (.bool true) (.slice AL k cL) (.string { data := #[] }) (.int .i64 0) (.slice none 0 0) (.slice none 0 0))
            have HLf := hide ((LimbsIn.of_slab HT.out.slab HT.out.st.low).far (Keeps.set7' (g := w.heap.size) (.int .u8 1) (.bool true) (.slice AL k cL) (.string { data := #[] }) (.int .i64 0) (.slice none 0 0) (.slice none 0 0)) (fun k hk e => by have := HT.out.fresh k hk; have := HGL.out; have := HG.out; omega))
            clear z0 z1 z2 z3 z4 z5 z6 f0 f1 f2 f3 f4 f5 f6 y0 y1 y2 y3 y4 y5 y6
            generalize (((((((wr.setCell ⟨w.heap.size, 0, none⟩ (.int .u8 1)).setCell ⟨w.heap.size, 1, none⟩ (.bool true)).setCell ⟨w.heap.size, 2, none⟩ (.slice AL k cL)).setCell ⟨w.heap.size, 3, none⟩ (.string { data := #[] })).setCell ⟨w.heap.size, 4, none⟩ (.int .i64 0)).setCell ⟨w.heap.size, 5, none⟩ (.slice none 0 0)).setCell ⟨w.heap.size, 6, none⟩ (.slice none 0 0)) = wf at *
            have d0 : wf.cell? ⟨w.heap.size, 0, none⟩ = some (.int .u8 1) := HBf.out.cell 0; have d1 : wf.cell? ⟨w.heap.size, 1, none⟩ = some (.bool true) := HBf.out.cell 1; have d2 : wf.cell? ⟨w.heap.size, 2, none⟩ = some (.slice AL k cL) := HBf.out.cell 2; have d3 : wf.cell? ⟨w.heap.size, 3, none⟩ = some (.string { data := #[] }) := HBf.out.cell 3; have d4 : wf.cell? ⟨w.heap.size, 4, none⟩ = some (.int .i64 0) := HBf.out.cell 4; have d5 : wf.cell? ⟨w.heap.size, 5, none⟩ = some (.slice none 0 0) := HBf.out.cell 5; have d6 : wf.cell? ⟨w.heap.size, 6, none⟩ = some (.slice none 0 0) := HBf.out.cell 6
            refine bodyPost_ret (v := .tuple #[.agg #[.int .u8 1, .bool true, .slice AL k cL, .string { data := #[] }, .int .i64 0, .slice none 0 0, .slice none 0 0], .bool true]) (by simp [results, Try.results38, go_sem, d0, d1, d2, d3, d4, d5, d6]) rfl ?_
            have hmm := HM.out
            have hki := HKI.out
            have hst := HT.out.st
            subst hmm
            obtain rfl := hst.done hki
            refine ⟨1, true, AL, k, cL, true, rfl, .inl ⟨rfl, rfl, ?_, ?_, ?_⟩, HKf.out⟩
            · rw [sgn_abs]
              exact HLf.out.more (fun k _ hk => by have := HT.out.fresh k hk; have := HGL.out; have := HG.out; omega)
            · exact HSG.out.symm
            · rw [sgn_abs, Big_eq]
              exact big_bits.1 (by have := HBG.out; omega)
      · have hsg : decide (sgn true N < 0) = false := by rw [← sgn_is, decide_eq_false hp]; rfl
        have HSG := hide hsg; clear hsg
        have HP := hide hp; clear hp
        go_enter Try.func38, Try.ntmps38
        go_wp2_with (go_at_call 59; refine (HR.out _ HA0.out).mono ?_; rintro e w2 ⟨m, rfl, hm, hb, hk⟩; have HM := hide hm; have hm1 : m ≤ 1024 := (by have := HBG.out; omega); have hd : decide ((1024 : Int) < (m : Int)) = false := decide_eq_false (by omega); have hf := (show decide (0 < m) = false from decide_eq_false (by have := HP.out; omega)); have HL2 := hide hb; have HZ2 := hide (HZ0.out.keep hk id); have HK2 := hide (HK0.out.trans' hk (fun _ _ => id) (fun _ _ => id)); clear hm hb hk HZ0 HK0)
        have HW2 := hide HZ2.out.lt
        have HK3 := hide (HK2.out.alloc (.cells #[.int .u8 1, .bool false, .slice none 0 0, .string { data := #[] }, .int .i64 0, .slice none 0 0, .slice none 0 0] 26))
        have HK23 := hide ((Keeps.refl NoB w2).alloc (.cells #[.int .u8 1, .bool false, .slice none 0 0, .string { data := #[] }, .int .i64 0, .slice none 0 0, .slice none 0 0] 26))
        have HZ3 := hide (HZ2.out.alloc (.cells #[.int .u8 1, .bool false, .slice none 0 0, .string { data := #[] }, .int .i64 0, .slice none 0 0, .slice none 0 0] 26))
        obtain ⟨g, hg⟩ : ∃ g, w2.heap.size = g := ⟨_, rfl⟩
        have HS0 := hide (⟨Keeps.refl _ _, hg ▸ Blk.new w2 26 #[.int .u8 1, .bool false, .slice none 0 0, .string { data := #[] }, .int .i64 0, .slice none 0 0, .slice none 0 0], Slab.nil _ _ _, (fun k ⟨o, e⟩ => by cases e), LimbSt.start N, by rw [← hg]; simp⟩ : MadeSt (w2.alloc (.cells #[.int .u8 1, .bool false, .slice none 0 0, .string { data := #[] }, .int .i64 0, .slice none 0 0, .slice none 0 0] 26)) g false N 0 none 0 0 [] (w2.alloc (.cells #[.int .u8 1, .bool false, .slice none 0 0, .string { data := #[] }, .int .i64 0, .slice none 0 0, .slice none 0 0] 26)))
        have HG := hide (show w.heap.size < g from hg ▸ HW2.out)
        have HGL := hide (show g < (w2.alloc (.cells #[.int .u8 1, .bool false, .slice none 0 0, .string { data := #[] }, .int .i64 0, .slice none 0 0, .slice none 0 0] 26)).heap.size from by rw [← hg]; simp)
        rw [hg]
        have HG2 := hide hg
        clear HZ2 HK2 hg hf HW2
        generalize w2.alloc (.cells #[.int .u8 1, .bool false, .slice none 0 0, .string { data := #[] }, .int .i64 0, .slice none 0 0, .slice none 0 0] 26) = w3 at *
        go_wp2
        go_loopw [7] (fun iv wr => ∃ (i : Nat) (AL : Option Addr) (k cL : Nat) (ls : List Nat), iv = .int .i64 (i : Int) ∧ i ≤ m ∧ Hid (k = (i + 31) / 32) ∧ Hid (MadeSt w3 g false N i AL k cL ls wr)) (fun iv _ => m - (intOf iv).toNat)
        case atStart => exact ⟨0, _, _, _, _, rfl, Nat.zero_le _, hide rfl, HS0⟩
        case round =>
          obtain ⟨i, AL, k, cL, ls, rfl, hi, HKI, HT⟩ := hrel
          by_cases hlt : i < m
          · obtain ⟨q, s, hqs, hs, _, _⟩ := made_place (i := i)
            obtain ⟨b, o, rfl, hb, hc⟩ := HL2.out.at (by omega)
            have q3 := hc i hlt
            rw [dig_bit] at q3
            have hbg : ¬ b = g := by have := HG2.out; omega
            have HQ3 := hide (HK23.out.cell id q3)
            have HBG2 := hide hbg
            have q1 : wr.cell? ⟨b, o + i, none⟩ = some (.bool (N.testBit i)) := HT.out.keep.cell hbg HQ3.out
            clear q3 hbg hb
            have hin0 : (0 : Int) ≤ (i : Int) := by omega
            have hi1 : (i : Int) < (m : Int) := by omega
            have hr : (i : Int) % 32 = (s : Int) := by omega
            have hqq : (i : Int) / 32 = (q : Int) := by omega
            have HQS := hide hqs
            clear hqs
            rename_i hd1 hd2; clear hd1 hd2
            have x2 : wr.cell? ⟨g, 2, none⟩ = some (.slice AL k cL) := HT.out.blk.cell 2
            by_cases hs0 : s = 0
            · have hr0 : (i : Int) % 32 = 0 := by omega
              have HSZ := hide hs0
              have HSL4 := hide (HT.out.slab.fresh ((Keeps.refl NoB wr).alloc (.cells #[.int .u32 0] 44)))
              have HR4 := hide (one_reads (Blk.new wr 44 #[.int .u32 0]))
              have hkk : k ≤ 33 := by have := HKI.out; omega
              clear hc q1 hr hs0
              go_wp2_with (at_builtin; refine wpList_append_slab _ rfl (.tmp 31) (.tmp 32) 23 rfl 44 i0 _ 1 4 Try.underlying23 hi0 hz0 hz1 hz2 rfl (by omega) AL k cL (u32s ls) rfl HSL4.out (fun _ => True) true (some ⟨wr.heap.size, 0, none⟩) 1 1 [.int .u32 0] rfl HR4.out (Nat.zero_lt_one) (fun u hu => by simp at hu; subst hu; rfl) (by unfold maxLen; omega) (by omega) ?_)
              intro A5 c5 w5 h1 h2 h3
              have hg5 := HT.out.grow h1 h2 h3
              have x2' : w5.cell? ⟨g, 2, none⟩ = some (.slice AL k cL) := hg5.1.cell 2
              have f2' : w5.frozen? ⟨g, 2, none⟩ = false := hg5.1.free 2
              have HS5 := hide hg5.2
              have HBB := hide (show (w5.setCell ⟨g, 2, none⟩ (.slice A5 (k + 1) c5)).cell? ⟨b, o + i, none⟩ = some (.bool (N.testBit i)) from HS5.out.keep.cell HBG2.out HQ3.out)
              clear h1 h2 h3 HSL4 HR4 x2 hg5
              cases hbit : N.testBit i with
              | false =>
                rw [hbit] at HBB
                have HBT := hide hbit
                clear hbit
                have q6 := HBB.out
                have HST := hide (HS5.out.st.no HBT.out)
                go_wp2
                go_roundw
                case rel => exact ⟨i + 1, A5, k + 1, c5, ls ++ [0], rfl, by omega, hide (by have := HKI.out; have := HQS.out; have := HSZ.out; omega), hide ⟨HS5.out.keep, HS5.out.blk, HS5.out.slab, HS5.out.fresh, HST.out, HS5.out.lt⟩⟩
                case measure => simp [intOf]; omega
              | true =>
                rw [hbit] at HBB
                have HBT := hide hbit
                clear hbit
                have q6 := HBB.out
                have HKI2 := hide (show k + 1 ≤ 34 from by have := HKI.out; omega)
                have hqk : q < k + 1 := by have := HKI.out; have := HQS.out; have := HSZ.out; omega
                have HX6 := hide (HS5.out.blk.cell 2)
                go_wp2_with fail
                have x2 : (w5.setCell ⟨g, 2, none⟩ (.slice A5 (k + 1) c5)).cell? ⟨g, 2, none⟩ = some (.slice A5 (k + 1) c5) := HX6.out
                obtain ⟨w6, hw6⟩ : ∃ w6, w5.setCell ⟨g, 2, none⟩ (.slice A5 (k + 1) c5) = w6 := ⟨_, rfl⟩
                rw [hw6] at HS5 x2 ⊢
                clear hw6 HX6 HBB q6 x2' f2'
                go_wp2_with fail
                refine order_begin (fun W => Keeps NoB w6.drew W) (fun k => k != 16) (by kernel_rfl) 17 rfl ?_
                have HTD := hide HS5.out.drew
                have x2d : w6.drew.cell? ⟨g, 2, none⟩ = some (.slice A5 (k + 1) c5) := x2
                generalize w6.drew = W0 at *
                obtain ⟨bl, ol, x, y, rfl, r1, r2, hx, hy, hy2, hor, hst⟩ := HTD.out.limb HQS.out hs hqk HBT.out
                have HST := hide hst
                have hqk2 : (q : Int) < (k : Int) + 1 := by omega
                have hq0 : (0 : Int) ≤ (q : Int) := by omega
                have HOR := hide hor
                have HY := hide hy
                clear hst hor hy
                have hkk2 : (k + 1) ≤ 34 := by have := HKI2.out; omega
                have hwq : IntKind.i64.wrap (q : Int) = (q : Int) := by unfold IntKind.wrap; simp [IntKind.bits, IntKind.signed]; omega
                have HS : Keeps NoB W0 W0 := Keeps.refl _ _
                refine order_pure (i := 0) rfl (by kernel_rfl) (fun _ _ _ h => h) (.inl ⟨rfl, fun _ => by go_simp; rfl⟩) ?_
                try simp only [Act.put, List.setIfInBounds_toArray, List.set_cons_succ, List.set_cons_zero]
                refine order_pure (i := 2) rfl (by kernel_rfl) (fun _ _ _ h => h) (.inl ⟨rfl, fun _ => by go_simp; rfl⟩) ?_
                try simp only [Act.put, List.setIfInBounds_toArray, List.set_cons_succ, List.set_cons_zero]
                refine order_pure (i := 3) rfl (by kernel_rfl) (fun _ _ _ h => h) (.inl ⟨rfl, fun _ => by go_simp; rfl⟩) ?_
                try simp only [Act.put, List.setIfInBounds_toArray, List.set_cons_succ, List.set_cons_zero]
                refine order_pure (i := 4) rfl (by kernel_rfl) (fun _ _ _ h => h) (.inl ⟨rfl, fun _ => by go_simp; rfl⟩) ?_
                try simp only [Act.put, List.setIfInBounds_toArray, List.set_cons_succ, List.set_cons_zero]
                refine order_pure (i := 6) rfl (by kernel_rfl) (fun _ _ _ h => h) (.inl ⟨rfl, fun _ => by go_simp; rfl⟩) ?_
                try simp only [Act.put, List.setIfInBounds_toArray, List.set_cons_succ, List.set_cons_zero]
                refine order_pure (i := 7) rfl (by kernel_rfl) (fun _ _ _ h => h) (.inl ⟨rfl, fun _ => by go_simp; rfl⟩) ?_
                try simp only [Act.put, List.setIfInBounds_toArray, List.set_cons_succ, List.set_cons_zero]
                refine order_pure (i := 10) rfl (by kernel_rfl) (fun _ _ _ h => h) (.inl ⟨rfl, fun _ => by go_simp; rfl⟩) ?_
                try simp only [Act.put, List.setIfInBounds_toArray, List.set_cons_succ, List.set_cons_zero]
                refine order_pure (i := 11) rfl (by kernel_rfl) (fun _ _ _ h => h) (.inl ⟨rfl, fun _ => by go_simp; rfl⟩) ?_
                try simp only [Act.put, List.setIfInBounds_toArray, List.set_cons_succ, List.set_cons_zero]
                refine order_pure (i := 12) rfl (by kernel_rfl) (fun _ _ _ h => h) (.inl ⟨rfl, fun _ => by go_simp; rfl⟩) ?_
                try simp only [Act.put, List.setIfInBounds_toArray, List.set_cons_succ, List.set_cons_zero]
                refine order_held (i := 1) rfl (by kernel_rfl) (fun _ _ _ h => h) (.inl ⟨rfl, fun W hW => by
                  have q0 : W.cell? ⟨g, 2, none⟩ = some (.slice (some ⟨bl, ol, none⟩) (k + 1) c5) := hW.cell id x2d
                  go_simp; rfl⟩) HS ?_
                try simp only [Act.put, List.setIfInBounds_toArray, List.set_cons_succ, List.set_cons_zero]
                refine order_held (i := 5) rfl (by kernel_rfl) (fun _ _ _ h => h) (.inl ⟨rfl, fun W hW => by
                  have q0 : W.cell? ⟨g, 2, none⟩ = some (.slice (some ⟨bl, ol, none⟩) (k + 1) c5) := hW.cell id x2d
                  go_simp; rfl⟩) HS ?_
                try simp only [Act.put, List.setIfInBounds_toArray, List.set_cons_succ, List.set_cons_zero]
                refine order_pure (i := 8) rfl (by kernel_rfl) (fun _ _ _ h => h) (.inl ⟨rfl, fun _ => by go_simp; rfl⟩) ?_
                try simp only [Act.put, List.setIfInBounds_toArray, List.set_cons_succ, List.set_cons_zero]
                refine order_held (i := 9) rfl (by kernel_rfl) (fun _ _ _ h => h) (.inl ⟨rfl, fun W hW => by
                  have q0 : W.cell? ⟨bl, ol + q, none⟩ = some (.int .u32 ((x : Nat) : Int)) := hW.cell id r1
                  go_simp; rfl⟩) HS ?_
                try simp only [Act.put, List.setIfInBounds_toArray, List.set_cons_succ, List.set_cons_zero]
                refine order_pure (i := 13) rfl (by kernel_rfl) (fun _ _ _ h => h) (.inl ⟨rfl, fun _ => by go_simp; rfl⟩) ?_
                try simp only [Act.put, List.setIfInBounds_toArray, List.set_cons_succ, List.set_cons_zero]
                refine order_pure (i := 14) rfl (by kernel_rfl) (fun _ _ _ h => h) (.inl ⟨rfl, fun _ => by go_simp; rfl⟩) ?_
                try simp only [Act.put, List.setIfInBounds_toArray, List.set_cons_succ, List.set_cons_zero]
                refine order_pure (i := 15) rfl (by kernel_rfl) (fun _ _ _ h => h) (.inl ⟨rfl, fun _ => by go_simp; rfl⟩) ?_
                try simp only [Act.put, List.setIfInBounds_toArray, List.set_cons_succ, List.set_cons_zero]
                have HOR2 := hide (show bits .or .u32 (x : Int) (2 ^ min (i % 32) 32 % 4294967296) = ((x + y : Nat) : Int) from by
                  have e1 : min (i % 32) 32 = s := by have := HQS.out; omega
                  rw [e1, show ((2 : Int) ^ s) = ((y : Nat) : Int) from by rw [HY.out]; push_cast; rfl, Int.emod_eq_of_lt (by omega) (by omega)]
                  exact HOR.out)
                refine order_one (i := 16) rfl (by kernel_rfl) (fun K hK => ?_)
                go_simp
                refine hK _ _ (fun h => absurd h (by decide)) ?_
                clear hK
                try simp only [Act.put, List.setIfInBounds_toArray, List.set_cons_succ, List.set_cons_zero]
                refine order_done (by kernel_rfl) ?_
                go_wp2
                go_roundw
                case rel => exact ⟨i + 1, _, k + 1, c5, (ls ++ [0]).set q (x + y), rfl, by omega, hide (by have := HKI.out; have := HQS.out; have := HSZ.out; omega), (by rw [HOR2.out]; exact HST)⟩
                case measure => simp [intOf]; omega
            · have hs1 : ((s : Int) == 0) = false := by simp; omega
              have HSP := hide (show 0 < s from by omega)
              clear hs0
              cases hbit : N.testBit i with
              | false =>
                rw [hbit] at q1
                have HBT := hide hbit
                clear hbit hc
                have HST := hide (HT.out.st.no HBT.out)
                go_wp2
                go_roundw
                case rel => exact ⟨i + 1, AL, k, cL, ls, rfl, by omega, hide (by have := HKI.out; have := HQS.out; have := HSP.out; omega), hide ⟨HT.out.keep, HT.out.blk, HT.out.slab, HT.out.fresh, HST.out, HT.out.lt⟩⟩
                case measure => simp [intOf]; omega
              | true =>
                rw [hbit] at q1
                have HBT := hide hbit
                clear hbit hc
                have HKI2 := hide (show k ≤ 34 from by have := HKI.out; omega)
                have hqk : q < k := by have := HKI.out; have := HQS.out; have := HSP.out; omega
                go_wp2_with fail
                refine order_begin (fun W => Keeps NoB wr.drew W) (fun k => k != 16) (by kernel_rfl) 17 rfl ?_
                have HTD := hide HT.out.drew
                have x2d : wr.drew.cell? ⟨g, 2, none⟩ = some (.slice AL k cL) := x2
                generalize wr.drew = W0 at *
                obtain ⟨bl, ol, x, y, rfl, r1, r2, hx, hy, hy2, hor, hst⟩ := HTD.out.limb HQS.out hs hqk HBT.out
                have HST := hide hst
                have hqk2 : (q : Int) < (k : Int) := by omega
                have hq0 : (0 : Int) ≤ (q : Int) := by omega
                have HOR := hide hor
                have HY := hide hy
                clear hst hor hy
                have hkk2 : k ≤ 34 := by have := HKI2.out; omega
                have hwq : IntKind.i64.wrap (q : Int) = (q : Int) := by unfold IntKind.wrap; simp [IntKind.bits, IntKind.signed]; omega
                have HS : Keeps NoB W0 W0 := Keeps.refl _ _
                refine order_pure (i := 0) rfl (by kernel_rfl) (fun _ _ _ h => h) (.inl ⟨rfl, fun _ => by go_simp; rfl⟩) ?_
                try simp only [Act.put, List.setIfInBounds_toArray, List.set_cons_succ, List.set_cons_zero]
                refine order_pure (i := 2) rfl (by kernel_rfl) (fun _ _ _ h => h) (.inl ⟨rfl, fun _ => by go_simp; rfl⟩) ?_
                try simp only [Act.put, List.setIfInBounds_toArray, List.set_cons_succ, List.set_cons_zero]
                refine order_pure (i := 3) rfl (by kernel_rfl) (fun _ _ _ h => h) (.inl ⟨rfl, fun _ => by go_simp; rfl⟩) ?_
                try simp only [Act.put, List.setIfInBounds_toArray, List.set_cons_succ, List.set_cons_zero]
                refine order_pure (i := 4) rfl (by kernel_rfl) (fun _ _ _ h => h) (.inl ⟨rfl, fun _ => by go_simp; rfl⟩) ?_
                try simp only [Act.put, List.setIfInBounds_toArray, List.set_cons_succ, List.set_cons_zero]
                refine order_pure (i := 6) rfl (by kernel_rfl) (fun _ _ _ h => h) (.inl ⟨rfl, fun _ => by go_simp; rfl⟩) ?_
                try simp only [Act.put, List.setIfInBounds_toArray, List.set_cons_succ, List.set_cons_zero]
                refine order_pure (i := 7) rfl (by kernel_rfl) (fun _ _ _ h => h) (.inl ⟨rfl, fun _ => by go_simp; rfl⟩) ?_
                try simp only [Act.put, List.setIfInBounds_toArray, List.set_cons_succ, List.set_cons_zero]
                refine order_pure (i := 10) rfl (by kernel_rfl) (fun _ _ _ h => h) (.inl ⟨rfl, fun _ => by go_simp; rfl⟩) ?_
                try simp only [Act.put, List.setIfInBounds_toArray, List.set_cons_succ, List.set_cons_zero]
                refine order_pure (i := 11) rfl (by kernel_rfl) (fun _ _ _ h => h) (.inl ⟨rfl, fun _ => by go_simp; rfl⟩) ?_
                try simp only [Act.put, List.setIfInBounds_toArray, List.set_cons_succ, List.set_cons_zero]
                refine order_pure (i := 12) rfl (by kernel_rfl) (fun _ _ _ h => h) (.inl ⟨rfl, fun _ => by go_simp; rfl⟩) ?_
                try simp only [Act.put, List.setIfInBounds_toArray, List.set_cons_succ, List.set_cons_zero]
                refine order_held (i := 1) rfl (by kernel_rfl) (fun _ _ _ h => h) (.inl ⟨rfl, fun W hW => by
                  have q0 : W.cell? ⟨g, 2, none⟩ = some (.slice (some ⟨bl, ol, none⟩) k cL) := hW.cell id x2d
                  go_simp; rfl⟩) HS ?_
                try simp only [Act.put, List.setIfInBounds_toArray, List.set_cons_succ, List.set_cons_zero]
                refine order_held (i := 5) rfl (by kernel_rfl) (fun _ _ _ h => h) (.inl ⟨rfl, fun W hW => by
                  have q0 : W.cell? ⟨g, 2, none⟩ = some (.slice (some ⟨bl, ol, none⟩) k cL) := hW.cell id x2d
                  go_simp; rfl⟩) HS ?_
                try simp only [Act.put, List.setIfInBounds_toArray, List.set_cons_succ, List.set_cons_zero]
                refine order_pure (i := 8) rfl (by kernel_rfl) (fun _ _ _ h => h) (.inl ⟨rfl, fun _ => by go_simp; rfl⟩) ?_
                try simp only [Act.put, List.setIfInBounds_toArray, List.set_cons_succ, List.set_cons_zero]
                refine order_held (i := 9) rfl (by kernel_rfl) (fun _ _ _ h => h) (.inl ⟨rfl, fun W hW => by
                  have q0 : W.cell? ⟨bl, ol + q, none⟩ = some (.int .u32 ((x : Nat) : Int)) := hW.cell id r1
                  go_simp; rfl⟩) HS ?_
                try simp only [Act.put, List.setIfInBounds_toArray, List.set_cons_succ, List.set_cons_zero]
                refine order_pure (i := 13) rfl (by kernel_rfl) (fun _ _ _ h => h) (.inl ⟨rfl, fun _ => by go_simp; rfl⟩) ?_
                try simp only [Act.put, List.setIfInBounds_toArray, List.set_cons_succ, List.set_cons_zero]
                refine order_pure (i := 14) rfl (by kernel_rfl) (fun _ _ _ h => h) (.inl ⟨rfl, fun _ => by go_simp; rfl⟩) ?_
                try simp only [Act.put, List.setIfInBounds_toArray, List.set_cons_succ, List.set_cons_zero]
                refine order_pure (i := 15) rfl (by kernel_rfl) (fun _ _ _ h => h) (.inl ⟨rfl, fun _ => by go_simp; rfl⟩) ?_
                try simp only [Act.put, List.setIfInBounds_toArray, List.set_cons_succ, List.set_cons_zero]
                have HOR2 := hide (show bits .or .u32 (x : Int) (2 ^ min (i % 32) 32 % 4294967296) = ((x + y : Nat) : Int) from by
                  have e1 : min (i % 32) 32 = s := by have := HQS.out; omega
                  rw [e1, show ((2 : Int) ^ s) = ((y : Nat) : Int) from by rw [HY.out]; push_cast; rfl, Int.emod_eq_of_lt (by omega) (by omega)]
                  exact HOR.out)
                refine order_one (i := 16) rfl (by kernel_rfl) (fun K hK => ?_)
                go_simp
                refine hK _ _ (fun h => absurd h (by decide)) ?_
                clear hK
                try simp only [Act.put, List.setIfInBounds_toArray, List.set_cons_succ, List.set_cons_zero]
                refine order_done (by kernel_rfl) ?_
                go_wp2
                go_roundw
                case rel => exact ⟨i + 1, _, k, cL, ls.set q (x + y), rfl, by omega, hide (by have := HKI.out; have := HQS.out; have := HSP.out; omega), (by rw [HOR2.out]; exact HST)⟩
                case measure => simp [intOf]; omega
          · obtain rfl : m = i := by omega
            have HBk := hide HT.out.blk
            have HZk := hide (HZ3.out.keep HT.out.keep (by have := HG.out; omega))
            have HKk := hide (HK3.out.trans' HT.out.keep (fun _ _ h => h) (fun k h1 h2 => by have := HG.out; omega) : Keeps NoB w wr)
            have y0 : wr.cell? ⟨g, 0, none⟩ = some (.int .u8 1) := HBk.out.cell 0; have y1 : wr.cell? ⟨g, 1, none⟩ = some (.bool false) := HBk.out.cell 1; have y2 : wr.cell? ⟨g, 2, none⟩ = some (.slice AL k cL) := HBk.out.cell 2; have y3 : wr.cell? ⟨g, 3, none⟩ = some (.string { data := #[] }) := HBk.out.cell 3; have y4 : wr.cell? ⟨g, 4, none⟩ = some (.int .i64 0) := HBk.out.cell 4; have y5 : wr.cell? ⟨g, 5, none⟩ = some (.slice none 0 0) := HBk.out.cell 5; have y6 : wr.cell? ⟨g, 6, none⟩ = some (.slice none 0 0) := HBk.out.cell 6
            have z0 : wr.cell? ⟨w.heap.size, 0, none⟩ = some (.int .u8 0) := HZk.out.cell 0; have z1 : wr.cell? ⟨w.heap.size, 1, none⟩ = some (.bool false) := HZk.out.cell 1; have z2 : wr.cell? ⟨w.heap.size, 2, none⟩ = some (.slice none 0 0) := HZk.out.cell 2; have z3 : wr.cell? ⟨w.heap.size, 3, none⟩ = some (.string { data := #[] }) := HZk.out.cell 3; have z4 : wr.cell? ⟨w.heap.size, 4, none⟩ = some (.int .i64 0) := HZk.out.cell 4; have z5 : wr.cell? ⟨w.heap.size, 5, none⟩ = some (.slice none 0 0) := HZk.out.cell 5; have z6 : wr.cell? ⟨w.heap.size, 6, none⟩ = some (.slice none 0 0) := HZk.out.cell 6
            have f0 : wr.frozen? ⟨w.heap.size, 0, none⟩ = false := HZk.out.free 0; have f1 : wr.frozen? ⟨w.heap.size, 1, none⟩ = false := HZk.out.free 1; have f2 : wr.frozen? ⟨w.heap.size, 2, none⟩ = false := HZk.out.free 2; have f3 : wr.frozen? ⟨w.heap.size, 3, none⟩ = false := HZk.out.free 3; have f4 : wr.frozen? ⟨w.heap.size, 4, none⟩ = false := HZk.out.free 4; have f5 : wr.frozen? ⟨w.heap.size, 5, none⟩ = false := HZk.out.free 5; have f6 : wr.frozen? ⟨w.heap.size, 6, none⟩ = false := HZk.out.free 6
            go_wp2
            have HBf := hide (HZk.out.put7 (.int .u8 1) (.bool false) (.slice AL k cL) (.string { data := #[] }) (.int .i64 0) (.slice none 0 0) (.slice none 0 0))
            have HKf := hide (HKk.out.set7 (g := w.heap.size) (by omega) (.int .u8 1) (.bool false) (.slice AL k cL) (.string { data := #[] }) (.int .i64 0) (.slice none 0 0) (.slice none 0 0))
            have HLf := hide ((LimbsIn.of_slab HT.out.slab HT.out.st.low).far (Keeps.set7' (g := w.heap.size) (.int .u8 1) (.bool false) (.slice AL k cL) (.string { data := #[] }) (.int .i64 0) (.slice none 0 0) (.slice none 0 0)) (fun k hk e => by have := HT.out.fresh k hk; have := HGL.out; have := HG.out; omega))
            clear z0 z1 z2 z3 z4 z5 z6 f0 f1 f2 f3 f4 f5 f6 y0 y1 y2 y3 y4 y5 y6
            generalize (((((((wr.setCell ⟨w.heap.size, 0, none⟩ (.int .u8 1)).setCell ⟨w.heap.size, 1, none⟩ (.bool false)).setCell ⟨w.heap.size, 2, none⟩ (.slice AL k cL)).setCell ⟨w.heap.size, 3, none⟩ (.string { data := #[] })).setCell ⟨w.heap.size, 4, none⟩ (.int .i64 0)).setCell ⟨w.heap.size, 5, none⟩ (.slice none 0 0)).setCell ⟨w.heap.size, 6, none⟩ (.slice none 0 0)) = wf at *
            have d0 : wf.cell? ⟨w.heap.size, 0, none⟩ = some (.int .u8 1) := HBf.out.cell 0; have d1 : wf.cell? ⟨w.heap.size, 1, none⟩ = some (.bool false) := HBf.out.cell 1; have d2 : wf.cell? ⟨w.heap.size, 2, none⟩ = some (.slice AL k cL) := HBf.out.cell 2; have d3 : wf.cell? ⟨w.heap.size, 3, none⟩ = some (.string { data := #[] }) := HBf.out.cell 3; have d4 : wf.cell? ⟨w.heap.size, 4, none⟩ = some (.int .i64 0) := HBf.out.cell 4; have d5 : wf.cell? ⟨w.heap.size, 5, none⟩ = some (.slice none 0 0) := HBf.out.cell 5; have d6 : wf.cell? ⟨w.heap.size, 6, none⟩ = some (.slice none 0 0) := HBf.out.cell 6
            refine bodyPost_ret (v := .tuple #[.agg #[.int .u8 1, .bool false, .slice AL k cL, .string { data := #[] }, .int .i64 0, .slice none 0 0, .slice none 0 0], .bool true]) (by simp [results, Try.results38, go_sem, d0, d1, d2, d3, d4, d5, d6]) rfl ?_
            have hmm := HM.out
            have hki := HKI.out
            have hst := HT.out.st
            subst hmm
            obtain rfl := hst.done hki
            refine ⟨1, false, AL, k, cL, true, rfl, .inl ⟨rfl, rfl, ?_, ?_, ?_⟩, HKf.out⟩
            · rw [sgn_abs]
              exact HLf.out.more (fun k _ hk => by have := HT.out.fresh k hk; have := HGL.out; have := HG.out; omega)
            · exact HSG.out.symm
            · rw [sgn_abs, Big_eq]
              exact big_bits.1 (by have := HBG.out; omega)
end Go.Proofs.Ytfehciiidmgopaa
