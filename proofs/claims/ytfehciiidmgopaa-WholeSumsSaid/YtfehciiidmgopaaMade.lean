/- made: an integer of digits. -/
import Derived.Test.YtfehciiidmgopaaSmall
namespace Go.Proofs.Ytfehciiidmgopaa
open Go.RowKit

/-- What is returned where z is an integer that may be. -/
def YesP (w : World) (z : Int) (e : Ending) (w' : World) : Prop := ∃ ng A n c, e = .returned (.tuple #[.agg #[.int .u8 1, .bool ng, .slice A n c, .string { data := #[] }, .int .i64 0, .slice none 0 0, .slice none 0 0], .bool true]) ∧ IA w' (fun k => w.heap.size ≤ k) ng A n c z ∧ Keeps NoB w w'
def NoP (w : World) (e : Ending) (w' : World) : Prop := e = .returned (.tuple #[.agg #[.int .u8 0, .bool false, .slice none 0 0, .string { data := #[] }, .int .i64 0, .slice none 0 0, .slice none 0 0], .bool false]) ∧ Keeps NoB w w'

/-- From m on there are noughts alone. -/
def Noughts (l : List Nat) (m : Nat) : Prop := ∀ j, m ≤ j → j < l.length → l.getD j 0 = 0
theorem Noughts.step {l : List Nat} {m k : Nat} (h : Noughts l m) (hk : m = k + 1) (h0 : l.getD k 0 = 0) : Noughts l k := fun j h1 h2 => by
  by_cases e : j = k
  · subst e; exact h0
  · exact h j (by omega) h2
theorem Noughts.norm {l : List Nat} {m k : Nat} (hm : m ≤ l.length) (hk : m = k + 1) (h0 : l.getD k 0 ≠ 0) : Norm (l.take m) := by
  right
  rw [List.length_take, Nat.min_eq_left hm, hk, Nat.add_sub_cancel, List.getD_eq_getElem?_getD, List.getElem?_take_of_lt (by omega), ← List.getD_eq_getElem?_getD]
  exact h0
theorem Noughts.dig {l : List Nat} {m : Nat} (h : Noughts l m) (hm : m ≤ l.length) (hl : Low l) (hn : Norm (l.take m)) : l.take m = dig (nat l) := by
  rw [dig_nat (hl.take m) hn, nat_cut hm h]

def lenV : Value → Nat
  | .slice _ m _ => m
  | _ => 0
def sgn (neg : Bool) (n : Nat) : Int := if neg then -(n : Int) else n
theorem sgn_abs (neg : Bool) (n : Nat) : (sgn neg n).natAbs = n := by unfold sgn; split <;> omega
theorem sgn_neg (neg : Bool) (n : Nat) : decide (sgn neg n < 0) = (neg && decide (0 < n)) := by
  unfold sgn
  cases neg with
  | true => rw [Bool.true_and, if_pos rfl]; exact decide_eq_decide.2 (by omega)
  | false => rw [Bool.false_and, if_neg (by decide)]; exact decide_eq_false (by omega)
theorem dig_pos_len {n : Nat} : 0 < (dig n).length ↔ 0 < n := by
  constructor
  · intro h
    rcases Nat.eq_zero_or_pos n with e | e
    · rw [e, dig_zero] at h; exact absurd h (by decide)
    · exact e
  · intro h
    rw [dig_pos (by omega)]; simp

/-- What is left when the loop is done. -/
theorem made_left {w : World} {A : Option Addr} {n c m : Nat} {l : List Nat} {B : Nat → Prop} (h : LimbsIn w B A n c l) (hm : m ≤ n) (hz : Noughts l m) (hn : Norm (l.take m)) : LimbsIn w B A m c (dig (nat l)) ∧ (m ≤ 32 ↔ nat l < Big) ∧ (0 < m ↔ 0 < nat l) := by
  have hlen := h.len
  have e := hz.dig (by omega) h.low hn
  have hm2 : (dig (nat l)).length = m := by rw [← e, List.length_take]; omega
  refine ⟨e ▸ h.upto hm, ?_, ?_⟩
  · rw [← hm2]; exact dig_big
  · rw [← hm2]; exact dig_pos_len

theorem Blk.put7 {w : World} {g : Nat} {t : TypeId} {z0 z1 z2 z3 z4 z5 z6 : Value} (h : Blk w g t #[z0, z1, z2, z3, z4, z5, z6]) (v0 v1 v2 v3 v4 v5 v6 : Value) :
    Blk (((((((w.setCell ⟨g, 0, none⟩ v0).setCell ⟨g, 1, none⟩ v1).setCell ⟨g, 2, none⟩ v2).setCell ⟨g, 3, none⟩ v3).setCell ⟨g, 4, none⟩ v4).setCell ⟨g, 5, none⟩ v5).setCell ⟨g, 6, none⟩ v6) g t #[v0, v1, v2, v3, v4, v5, v6] := by
  have := ((((((h.put 0 v0).put 1 v1).put 2 v2).put 3 v3).put 4 v4).put 5 v5).put 6 v6
  simpa using this
theorem Keeps.set7 {w0 w : World} {g : Nat} (h : Keeps NoB w0 w) (hg : w0.heap.size ≤ g) (v0 v1 v2 v3 v4 v5 v6 : Value) :
    Keeps NoB w0 (((((((w.setCell ⟨g, 0, none⟩ v0).setCell ⟨g, 1, none⟩ v1).setCell ⟨g, 2, none⟩ v2).setCell ⟨g, 3, none⟩ v3).setCell ⟨g, 4, none⟩ v4).setCell ⟨g, 5, none⟩ v5).setCell ⟨g, 6, none⟩ v6) :=
  ((((((h.setCell (p := ⟨g, 0, none⟩) (.inr hg) v0).setCell (p := ⟨g, 1, none⟩) (.inr hg) v1).setCell (p := ⟨g, 2, none⟩) (.inr hg) v2).setCell (p := ⟨g, 3, none⟩) (.inr hg) v3).setCell (p := ⟨g, 4, none⟩) (.inr hg) v4).setCell (p := ⟨g, 5, none⟩) (.inr hg) v5).setCell (p := ⟨g, 6, none⟩) (.inr hg) v6

theorem Keeps.set7' {w : World} {g : Nat} (v0 v1 v2 v3 v4 v5 v6 : Value) :
    Keeps (fun k => k = g) w (((((((w.setCell ⟨g, 0, none⟩ v0).setCell ⟨g, 1, none⟩ v1).setCell ⟨g, 2, none⟩ v2).setCell ⟨g, 3, none⟩ v3).setCell ⟨g, 4, none⟩ v4).setCell ⟨g, 5, none⟩ v5).setCell ⟨g, 6, none⟩ v6) :=
  (((((((Keeps.refl (fun k => k = g) w).setCell (p := ⟨g, 0, none⟩) (.inl rfl) v0).setCell (p := ⟨g, 1, none⟩) (.inl rfl) v1).setCell (p := ⟨g, 2, none⟩) (.inl rfl) v2).setCell (p := ⟨g, 3, none⟩) (.inl rfl) v3).setCell (p := ⟨g, 4, none⟩) (.inl rfl) v4).setCell (p := ⟨g, 5, none⟩) (.inl rfl) v5).setCell (p := ⟨g, 6, none⟩) (.inl rfl) v6
set_option maxRecDepth 100000 in
theorem made_yes (A : Option Addr) (n c : Nat) (neg : Bool) (l : List Nat) (w : World) (B : Nat → Prop) (h : LimbsIn w B A n c l) (hz : nat l < Big) :
    Calls Try.prog 35 #[.slice A n c, .bool neg] w (YesP w (sgn neg (nat l))) := by
  have HL := hide h
  have hlen := h.len
  have hcap := h.cap
  have hmax := h.max
  have HZ := hide hz
  unfold maxLen at hmax
  clear h hz
  go_enter Try.func35, Try.ntmps35
  go_wp2
  go_loop [0] (fun s => ∃ m : Nat, s = .slice A m c ∧ m ≤ n ∧ Hid (Noughts l m)) (fun s => lenV s)
  case atStart => exact ⟨n, rfl, Nat.le_refl _, hide (fun j h1 h2 => by omega)⟩
  case round =>
    obtain ⟨m, rfl, hm, hno⟩ := hrel
    cases neg
    case false =>
      by_cases h0 : m = 0
      · subst h0
        obtain ⟨hd, h32, hp⟩ := made_left HL.out (Nat.zero_le _) hno.out (.inl rfl)
        have hp0 : nat l = 0 := by rcases Nat.eq_zero_or_pos (nat l) with e | e; exact e; exact absurd (hp.2 e) (by omega)
        have HD := hide (hd.keep ((Keeps.refl NoB w).alloc (.cells #[.int .u8 0, .bool false, .slice none 0 0, .string { data := #[] }, .int .i64 0, .slice none 0 0, .slice none 0 0] 26))); clear hd h32 hp hno
        have HB := hide (Blk.new w 26 #[.int .u8 0, .bool false, .slice none 0 0, .string { data := #[] }, .int .i64 0, .slice none 0 0, .slice none 0 0])
        go_wp2_with (go_at_call 58; refine (clone_limbs _ _ _ _ _ _ HD.out (by unfold Roomy; omega)).mono ?_; rintro e w2 ⟨A2, c2, rfl, hs2, hf2, hk2⟩; have HL2 := hide hs2; have HF2 := hide hf2; have HB2 := hide (HB.out.keep hk2 id); have HK2 := hide (((Keeps.refl NoB w).alloc _).trans' hk2 (fun _ _ h => h) (fun _ _ h => h)); clear hs2 hf2 hk2 HB; have z0 : w2.cell? ⟨w.heap.size, 0, none⟩ = some (.int .u8 0) := HB2.out.cell 0; have z1 : w2.cell? ⟨w.heap.size, 1, none⟩ = some (.bool false) := HB2.out.cell 1; have z2 : w2.cell? ⟨w.heap.size, 2, none⟩ = some (.slice none 0 0) := HB2.out.cell 2; have z3 : w2.cell? ⟨w.heap.size, 3, none⟩ = some (.string { data := #[] }) := HB2.out.cell 3; have z4 : w2.cell? ⟨w.heap.size, 4, none⟩ = some (.int .i64 0) := HB2.out.cell 4; have z5 : w2.cell? ⟨w.heap.size, 5, none⟩ = some (.slice none 0 0) := HB2.out.cell 5; have z6 : w2.cell? ⟨w.heap.size, 6, none⟩ = some (.slice none 0 0) := HB2.out.cell 6; have f0 : w2.frozen? ⟨w.heap.size, 0, none⟩ = false := HB2.out.free 0; have f1 : w2.frozen? ⟨w.heap.size, 1, none⟩ = false := HB2.out.free 1; have f2 : w2.frozen? ⟨w.heap.size, 2, none⟩ = false := HB2.out.free 2; have f3 : w2.frozen? ⟨w.heap.size, 3, none⟩ = false := HB2.out.free 3; have f4 : w2.frozen? ⟨w.heap.size, 4, none⟩ = false := HB2.out.free 4; have f5 : w2.frozen? ⟨w.heap.size, 5, none⟩ = false := HB2.out.free 5; have f6 : w2.frozen? ⟨w.heap.size, 6, none⟩ = false := HB2.out.free 6)
        have HBf := hide (HB2.out.put7 (.int .u8 1) (.bool false) (.slice A2 0 c2) (.string { data := #[] }) (.int .i64 0) (.slice none 0 0) (.slice none 0 0))
        have HKf := hide (HK2.out.set7 (Nat.le_refl _) (.int .u8 1) (.bool false) (.slice A2 0 c2) (.string { data := #[] }) (.int .i64 0) (.slice none 0 0) (.slice none 0 0))
        have HLf := hide (HL2.out.keep (Keeps.set7' (g := w.heap.size) (.int .u8 1) (.bool false) (.slice A2 0 c2) (.string { data := #[] }) (.int .i64 0) (.slice none 0 0) (.slice none 0 0)) (fun k hk e => absurd (HF2.out k hk) (by simp; omega)))
        have HFf := hide (show ∀ k, rowB A2 k → w.heap.size ≤ k from fun k hk => by have := HF2.out k hk; simp at this; omega)
        clear z0 z1 z2 z3 z4 z5 z6 f0 f1 f2 f3 f4 f5 f6 HB2 HK2 HL2 HF2
        generalize (((((((w2.setCell ⟨w.heap.size, 0, none⟩ (.int .u8 1)).setCell ⟨w.heap.size, 1, none⟩ (.bool false)).setCell ⟨w.heap.size, 2, none⟩ (.slice A2 0 c2)).setCell ⟨w.heap.size, 3, none⟩ (.string { data := #[] })).setCell ⟨w.heap.size, 4, none⟩ (.int .i64 0)).setCell ⟨w.heap.size, 5, none⟩ (.slice none 0 0)).setCell ⟨w.heap.size, 6, none⟩ (.slice none 0 0)) = wf at *
        have d0 : wf.cell? ⟨w.heap.size, 0, none⟩ = some (.int .u8 1) := HBf.out.cell 0
        have d1 : wf.cell? ⟨w.heap.size, 1, none⟩ = some (.bool false) := HBf.out.cell 1
        have d2 : wf.cell? ⟨w.heap.size, 2, none⟩ = some (.slice A2 0 c2) := HBf.out.cell 2
        have d3 : wf.cell? ⟨w.heap.size, 3, none⟩ = some (.string { data := #[] }) := HBf.out.cell 3
        have d4 : wf.cell? ⟨w.heap.size, 4, none⟩ = some (.int .i64 0) := HBf.out.cell 4
        have d5 : wf.cell? ⟨w.heap.size, 5, none⟩ = some (.slice none 0 0) := HBf.out.cell 5
        have d6 : wf.cell? ⟨w.heap.size, 6, none⟩ = some (.slice none 0 0) := HBf.out.cell 6
        refine bodyPost_ret (v := .tuple #[.agg #[.int .u8 1, .bool false, .slice A2 0 c2, .string { data := #[] }, .int .i64 0, .slice none 0 0, .slice none 0 0], .bool true]) (by simp [results, Try.results35, go_sem, d0, d1, d2, d3, d4, d5, d6]) rfl ?_
        exact ⟨false, A2, 0, c2, rfl, ⟨by rw [sgn_abs]; exact (LimbsIn.of_slab HLf.out (dig_low _)).more (fun k _ hk => HFf.out k hk), by rw [sgn_neg, hp0]; simp, by rw [sgn_abs]; exact HZ.out⟩, HKf.out⟩
      · obtain ⟨b, o, rfl, hb, hc⟩ := (HL.out.keep ((Keeps.refl NoB w).alloc (.cells #[.int .u8 0, .bool false, .slice none 0 0, .string { data := #[] }, .int .i64 0, .slice none 0 0, .slice none 0 0] 26))).at (by omega)
        obtain ⟨k, hkk⟩ : ∃ k, m = k + 1 := ⟨m - 1, by omega⟩
        have hk := hc k (by omega)
        have hk1 : (m : Int) - 1 = (k : Int) := by omega
        have hk2 : (k : Int) < (m : Int) := by omega
        have hk0 : (0 : Int) ≤ (k : Int) := by omega
        have hk3 : k < m := by omega
        have hk4 : k ≤ c := by omega
        have hk5 : (k : Int) ≤ (c : Int) := by omega
        have hm0 : decide (0 < (m : Int)) = true := by simp; omega
        have HX := hide (show l.getD k 0 = l.getD k 0 from rfl)
        by_cases hx : l.getD k 0 = 0
        · have HX0 := hide hx
          rw [hx] at hk
          clear hx HX hc
          go_wp2
          go_round
          case rel => exact ⟨k, rfl, by omega, hide (hno.out.step hkk HX0.out)⟩
          case measure => simp [lenV]; omega
        · obtain ⟨hd, h32, hp⟩ := made_left HL.out hm hno.out (Noughts.norm (by omega) hkk hx)
          generalize l.getD k 0 = x at *
          have hb1 : ((x : Int) == 0) = false := by simp; omega
          have hp0 : 0 < nat l := hp.1 (by omega)
          have h32' : (m : Int) ≤ 32 := by have := h32.2 HZ.out; omega
          have hm32 : decide ((32 : Int) < (m : Int)) = false := by simp; omega
          have HD := hide (hd.keep ((Keeps.refl NoB w).alloc (.cells #[.int .u8 0, .bool false, .slice none 0 0, .string { data := #[] }, .int .i64 0, .slice none 0 0, .slice none 0 0] 26)))
          have HM := hide (show Roomy m 4 from by unfold Roomy; omega)
          clear hd h32 hp hno hx HX hc h32' hkk
          have HB := hide (Blk.new w 26 #[.int .u8 0, .bool false, .slice none 0 0, .string { data := #[] }, .int .i64 0, .slice none 0 0, .slice none 0 0])
          go_wp2_with (go_at_call 58; refine (clone_limbs _ _ _ _ _ _ HD.out HM.out).mono ?_; rintro e w2 ⟨A2, c2, rfl, hs2, hf2, hk2⟩; have HL2 := hide hs2; have HF2 := hide hf2; have HB2 := hide (HB.out.keep hk2 id); have HK2 := hide (((Keeps.refl NoB w).alloc _).trans' hk2 (fun _ _ h => h) (fun _ _ h => h)); clear hs2 hf2 hk2 HB; have z0 : w2.cell? ⟨w.heap.size, 0, none⟩ = some (.int .u8 0) := HB2.out.cell 0; have z1 : w2.cell? ⟨w.heap.size, 1, none⟩ = some (.bool false) := HB2.out.cell 1; have z2 : w2.cell? ⟨w.heap.size, 2, none⟩ = some (.slice none 0 0) := HB2.out.cell 2; have z3 : w2.cell? ⟨w.heap.size, 3, none⟩ = some (.string { data := #[] }) := HB2.out.cell 3; have z4 : w2.cell? ⟨w.heap.size, 4, none⟩ = some (.int .i64 0) := HB2.out.cell 4; have z5 : w2.cell? ⟨w.heap.size, 5, none⟩ = some (.slice none 0 0) := HB2.out.cell 5; have z6 : w2.cell? ⟨w.heap.size, 6, none⟩ = some (.slice none 0 0) := HB2.out.cell 6; have f0 : w2.frozen? ⟨w.heap.size, 0, none⟩ = false := HB2.out.free 0; have f1 : w2.frozen? ⟨w.heap.size, 1, none⟩ = false := HB2.out.free 1; have f2 : w2.frozen? ⟨w.heap.size, 2, none⟩ = false := HB2.out.free 2; have f3 : w2.frozen? ⟨w.heap.size, 3, none⟩ = false := HB2.out.free 3; have f4 : w2.frozen? ⟨w.heap.size, 4, none⟩ = false := HB2.out.free 4; have f5 : w2.frozen? ⟨w.heap.size, 5, none⟩ = false := HB2.out.free 5; have f6 : w2.frozen? ⟨w.heap.size, 6, none⟩ = false := HB2.out.free 6)
          have HBf := hide (HB2.out.put7 (.int .u8 1) (.bool false) (.slice A2 m c2) (.string { data := #[] }) (.int .i64 0) (.slice none 0 0) (.slice none 0 0))
          have HKf := hide (HK2.out.set7 (Nat.le_refl _) (.int .u8 1) (.bool false) (.slice A2 m c2) (.string { data := #[] }) (.int .i64 0) (.slice none 0 0) (.slice none 0 0))
          have HLf := hide (HL2.out.keep (Keeps.set7' (g := w.heap.size) (.int .u8 1) (.bool false) (.slice A2 m c2) (.string { data := #[] }) (.int .i64 0) (.slice none 0 0) (.slice none 0 0)) (fun k hk e => absurd (HF2.out k hk) (by simp; omega)))
          have HFf := hide (show ∀ k, rowB A2 k → w.heap.size ≤ k from fun k hk => by have := HF2.out k hk; simp at this; omega)
          clear z0 z1 z2 z3 z4 z5 z6 f0 f1 f2 f3 f4 f5 f6 HB2 HK2 HL2 HF2
          generalize (((((((w2.setCell ⟨w.heap.size, 0, none⟩ (.int .u8 1)).setCell ⟨w.heap.size, 1, none⟩ (.bool false)).setCell ⟨w.heap.size, 2, none⟩ (.slice A2 m c2)).setCell ⟨w.heap.size, 3, none⟩ (.string { data := #[] })).setCell ⟨w.heap.size, 4, none⟩ (.int .i64 0)).setCell ⟨w.heap.size, 5, none⟩ (.slice none 0 0)).setCell ⟨w.heap.size, 6, none⟩ (.slice none 0 0)) = wf at *
          have d0 : wf.cell? ⟨w.heap.size, 0, none⟩ = some (.int .u8 1) := HBf.out.cell 0
          have d1 : wf.cell? ⟨w.heap.size, 1, none⟩ = some (.bool false) := HBf.out.cell 1
          have d2 : wf.cell? ⟨w.heap.size, 2, none⟩ = some (.slice A2 m c2) := HBf.out.cell 2
          have d3 : wf.cell? ⟨w.heap.size, 3, none⟩ = some (.string { data := #[] }) := HBf.out.cell 3
          have d4 : wf.cell? ⟨w.heap.size, 4, none⟩ = some (.int .i64 0) := HBf.out.cell 4
          have d5 : wf.cell? ⟨w.heap.size, 5, none⟩ = some (.slice none 0 0) := HBf.out.cell 5
          have d6 : wf.cell? ⟨w.heap.size, 6, none⟩ = some (.slice none 0 0) := HBf.out.cell 6
          refine bodyPost_ret (v := .tuple #[.agg #[.int .u8 1, .bool false, .slice A2 m c2, .string { data := #[] }, .int .i64 0, .slice none 0 0, .slice none 0 0], .bool true]) (by simp [results, Try.results35, go_sem, d0, d1, d2, d3, d4, d5, d6]) rfl ?_
          exact ⟨false, A2, m, c2, rfl, ⟨by rw [sgn_abs]; exact (LimbsIn.of_slab HLf.out (dig_low _)).more (fun k _ hk => HFf.out k hk), by rw [sgn_neg, decide_eq_true hp0]; rfl, by rw [sgn_abs]; exact HZ.out⟩, HKf.out⟩
    case true =>
      by_cases h0 : m = 0
      · subst h0
        obtain ⟨hd, h32, hp⟩ := made_left HL.out (Nat.zero_le _) hno.out (.inl rfl)
        have hp0 : nat l = 0 := by rcases Nat.eq_zero_or_pos (nat l) with e | e; exact e; exact absurd (hp.2 e) (by omega)
        have HD := hide (hd.keep ((Keeps.refl NoB w).alloc (.cells #[.int .u8 0, .bool false, .slice none 0 0, .string { data := #[] }, .int .i64 0, .slice none 0 0, .slice none 0 0] 26))); clear hd h32 hp hno
        have HB := hide (Blk.new w 26 #[.int .u8 0, .bool false, .slice none 0 0, .string { data := #[] }, .int .i64 0, .slice none 0 0, .slice none 0 0])
        go_wp2_with (go_at_call 58; refine (clone_limbs _ _ _ _ _ _ HD.out (by unfold Roomy; omega)).mono ?_; rintro e w2 ⟨A2, c2, rfl, hs2, hf2, hk2⟩; have HL2 := hide hs2; have HF2 := hide hf2; have HB2 := hide (HB.out.keep hk2 id); have HK2 := hide (((Keeps.refl NoB w).alloc _).trans' hk2 (fun _ _ h => h) (fun _ _ h => h)); clear hs2 hf2 hk2 HB; have z0 : w2.cell? ⟨w.heap.size, 0, none⟩ = some (.int .u8 0) := HB2.out.cell 0; have z1 : w2.cell? ⟨w.heap.size, 1, none⟩ = some (.bool false) := HB2.out.cell 1; have z2 : w2.cell? ⟨w.heap.size, 2, none⟩ = some (.slice none 0 0) := HB2.out.cell 2; have z3 : w2.cell? ⟨w.heap.size, 3, none⟩ = some (.string { data := #[] }) := HB2.out.cell 3; have z4 : w2.cell? ⟨w.heap.size, 4, none⟩ = some (.int .i64 0) := HB2.out.cell 4; have z5 : w2.cell? ⟨w.heap.size, 5, none⟩ = some (.slice none 0 0) := HB2.out.cell 5; have z6 : w2.cell? ⟨w.heap.size, 6, none⟩ = some (.slice none 0 0) := HB2.out.cell 6; have f0 : w2.frozen? ⟨w.heap.size, 0, none⟩ = false := HB2.out.free 0; have f1 : w2.frozen? ⟨w.heap.size, 1, none⟩ = false := HB2.out.free 1; have f2 : w2.frozen? ⟨w.heap.size, 2, none⟩ = false := HB2.out.free 2; have f3 : w2.frozen? ⟨w.heap.size, 3, none⟩ = false := HB2.out.free 3; have f4 : w2.frozen? ⟨w.heap.size, 4, none⟩ = false := HB2.out.free 4; have f5 : w2.frozen? ⟨w.heap.size, 5, none⟩ = false := HB2.out.free 5; have f6 : w2.frozen? ⟨w.heap.size, 6, none⟩ = false := HB2.out.free 6)
        have HBf := hide (HB2.out.put7 (.int .u8 1) (.bool false) (.slice A2 0 c2) (.string { data := #[] }) (.int .i64 0) (.slice none 0 0) (.slice none 0 0))
        have HKf := hide (HK2.out.set7 (Nat.le_refl _) (.int .u8 1) (.bool false) (.slice A2 0 c2) (.string { data := #[] }) (.int .i64 0) (.slice none 0 0) (.slice none 0 0))
        have HLf := hide (HL2.out.keep (Keeps.set7' (g := w.heap.size) (.int .u8 1) (.bool false) (.slice A2 0 c2) (.string { data := #[] }) (.int .i64 0) (.slice none 0 0) (.slice none 0 0)) (fun k hk e => absurd (HF2.out k hk) (by simp; omega)))
        have HFf := hide (show ∀ k, rowB A2 k → w.heap.size ≤ k from fun k hk => by have := HF2.out k hk; simp at this; omega)
        clear z0 z1 z2 z3 z4 z5 z6 f0 f1 f2 f3 f4 f5 f6 HB2 HK2 HL2 HF2
        generalize (((((((w2.setCell ⟨w.heap.size, 0, none⟩ (.int .u8 1)).setCell ⟨w.heap.size, 1, none⟩ (.bool false)).setCell ⟨w.heap.size, 2, none⟩ (.slice A2 0 c2)).setCell ⟨w.heap.size, 3, none⟩ (.string { data := #[] })).setCell ⟨w.heap.size, 4, none⟩ (.int .i64 0)).setCell ⟨w.heap.size, 5, none⟩ (.slice none 0 0)).setCell ⟨w.heap.size, 6, none⟩ (.slice none 0 0)) = wf at *
        have d0 : wf.cell? ⟨w.heap.size, 0, none⟩ = some (.int .u8 1) := HBf.out.cell 0
        have d1 : wf.cell? ⟨w.heap.size, 1, none⟩ = some (.bool false) := HBf.out.cell 1
        have d2 : wf.cell? ⟨w.heap.size, 2, none⟩ = some (.slice A2 0 c2) := HBf.out.cell 2
        have d3 : wf.cell? ⟨w.heap.size, 3, none⟩ = some (.string { data := #[] }) := HBf.out.cell 3
        have d4 : wf.cell? ⟨w.heap.size, 4, none⟩ = some (.int .i64 0) := HBf.out.cell 4
        have d5 : wf.cell? ⟨w.heap.size, 5, none⟩ = some (.slice none 0 0) := HBf.out.cell 5
        have d6 : wf.cell? ⟨w.heap.size, 6, none⟩ = some (.slice none 0 0) := HBf.out.cell 6
        refine bodyPost_ret (v := .tuple #[.agg #[.int .u8 1, .bool false, .slice A2 0 c2, .string { data := #[] }, .int .i64 0, .slice none 0 0, .slice none 0 0], .bool true]) (by simp [results, Try.results35, go_sem, d0, d1, d2, d3, d4, d5, d6]) rfl ?_
        exact ⟨false, A2, 0, c2, rfl, ⟨by rw [sgn_abs]; exact (LimbsIn.of_slab HLf.out (dig_low _)).more (fun k _ hk => HFf.out k hk), by rw [sgn_neg, hp0]; simp, by rw [sgn_abs]; exact HZ.out⟩, HKf.out⟩
      · obtain ⟨b, o, rfl, hb, hc⟩ := (HL.out.keep ((Keeps.refl NoB w).alloc (.cells #[.int .u8 0, .bool false, .slice none 0 0, .string { data := #[] }, .int .i64 0, .slice none 0 0, .slice none 0 0] 26))).at (by omega)
        obtain ⟨k, hkk⟩ : ∃ k, m = k + 1 := ⟨m - 1, by omega⟩
        have hk := hc k (by omega)
        have hk1 : (m : Int) - 1 = (k : Int) := by omega
        have hk2 : (k : Int) < (m : Int) := by omega
        have hk0 : (0 : Int) ≤ (k : Int) := by omega
        have hk3 : k < m := by omega
        have hk4 : k ≤ c := by omega
        have hk5 : (k : Int) ≤ (c : Int) := by omega
        have hm0 : decide (0 < (m : Int)) = true := by simp; omega
        have HX := hide (show l.getD k 0 = l.getD k 0 from rfl)
        by_cases hx : l.getD k 0 = 0
        · have HX0 := hide hx
          rw [hx] at hk
          clear hx HX hc
          go_wp2
          go_round
          case rel => exact ⟨k, rfl, by omega, hide (hno.out.step hkk HX0.out)⟩
          case measure => simp [lenV]; omega
        · obtain ⟨hd, h32, hp⟩ := made_left HL.out hm hno.out (Noughts.norm (by omega) hkk hx)
          generalize l.getD k 0 = x at *
          have hb1 : ((x : Int) == 0) = false := by simp; omega
          have hp0 : 0 < nat l := hp.1 (by omega)
          have h32' : (m : Int) ≤ 32 := by have := h32.2 HZ.out; omega
          have hm32 : decide ((32 : Int) < (m : Int)) = false := by simp; omega
          have HD := hide (hd.keep ((Keeps.refl NoB w).alloc (.cells #[.int .u8 0, .bool false, .slice none 0 0, .string { data := #[] }, .int .i64 0, .slice none 0 0, .slice none 0 0] 26)))
          have HM := hide (show Roomy m 4 from by unfold Roomy; omega)
          clear hd h32 hp hno hx HX hc h32' hkk
          have HB := hide (Blk.new w 26 #[.int .u8 0, .bool false, .slice none 0 0, .string { data := #[] }, .int .i64 0, .slice none 0 0, .slice none 0 0])
          go_wp2_with (go_at_call 58; refine (clone_limbs _ _ _ _ _ _ HD.out HM.out).mono ?_; rintro e w2 ⟨A2, c2, rfl, hs2, hf2, hk2⟩; have HL2 := hide hs2; have HF2 := hide hf2; have HB2 := hide (HB.out.keep hk2 id); have HK2 := hide (((Keeps.refl NoB w).alloc _).trans' hk2 (fun _ _ h => h) (fun _ _ h => h)); clear hs2 hf2 hk2 HB; have z0 : w2.cell? ⟨w.heap.size, 0, none⟩ = some (.int .u8 0) := HB2.out.cell 0; have z1 : w2.cell? ⟨w.heap.size, 1, none⟩ = some (.bool false) := HB2.out.cell 1; have z2 : w2.cell? ⟨w.heap.size, 2, none⟩ = some (.slice none 0 0) := HB2.out.cell 2; have z3 : w2.cell? ⟨w.heap.size, 3, none⟩ = some (.string { data := #[] }) := HB2.out.cell 3; have z4 : w2.cell? ⟨w.heap.size, 4, none⟩ = some (.int .i64 0) := HB2.out.cell 4; have z5 : w2.cell? ⟨w.heap.size, 5, none⟩ = some (.slice none 0 0) := HB2.out.cell 5; have z6 : w2.cell? ⟨w.heap.size, 6, none⟩ = some (.slice none 0 0) := HB2.out.cell 6; have f0 : w2.frozen? ⟨w.heap.size, 0, none⟩ = false := HB2.out.free 0; have f1 : w2.frozen? ⟨w.heap.size, 1, none⟩ = false := HB2.out.free 1; have f2 : w2.frozen? ⟨w.heap.size, 2, none⟩ = false := HB2.out.free 2; have f3 : w2.frozen? ⟨w.heap.size, 3, none⟩ = false := HB2.out.free 3; have f4 : w2.frozen? ⟨w.heap.size, 4, none⟩ = false := HB2.out.free 4; have f5 : w2.frozen? ⟨w.heap.size, 5, none⟩ = false := HB2.out.free 5; have f6 : w2.frozen? ⟨w.heap.size, 6, none⟩ = false := HB2.out.free 6)
          have HBf := hide (HB2.out.put7 (.int .u8 1) (.bool true) (.slice A2 m c2) (.string { data := #[] }) (.int .i64 0) (.slice none 0 0) (.slice none 0 0))
          have HKf := hide (HK2.out.set7 (Nat.le_refl _) (.int .u8 1) (.bool true) (.slice A2 m c2) (.string { data := #[] }) (.int .i64 0) (.slice none 0 0) (.slice none 0 0))
          have HLf := hide (HL2.out.keep (Keeps.set7' (g := w.heap.size) (.int .u8 1) (.bool true) (.slice A2 m c2) (.string { data := #[] }) (.int .i64 0) (.slice none 0 0) (.slice none 0 0)) (fun k hk e => absurd (HF2.out k hk) (by simp; omega)))
          have HFf := hide (show ∀ k, rowB A2 k → w.heap.size ≤ k from fun k hk => by have := HF2.out k hk; simp at this; omega)
          clear z0 z1 z2 z3 z4 z5 z6 f0 f1 f2 f3 f4 f5 f6 HB2 HK2 HL2 HF2
          generalize (((((((w2.setCell ⟨w.heap.size, 0, none⟩ (.int .u8 1)).setCell ⟨w.heap.size, 1, none⟩ (.bool true)).setCell ⟨w.heap.size, 2, none⟩ (.slice A2 m c2)).setCell ⟨w.heap.size, 3, none⟩ (.string { data := #[] })).setCell ⟨w.heap.size, 4, none⟩ (.int .i64 0)).setCell ⟨w.heap.size, 5, none⟩ (.slice none 0 0)).setCell ⟨w.heap.size, 6, none⟩ (.slice none 0 0)) = wf at *
          have d0 : wf.cell? ⟨w.heap.size, 0, none⟩ = some (.int .u8 1) := HBf.out.cell 0
          have d1 : wf.cell? ⟨w.heap.size, 1, none⟩ = some (.bool true) := HBf.out.cell 1
          have d2 : wf.cell? ⟨w.heap.size, 2, none⟩ = some (.slice A2 m c2) := HBf.out.cell 2
          have d3 : wf.cell? ⟨w.heap.size, 3, none⟩ = some (.string { data := #[] }) := HBf.out.cell 3
          have d4 : wf.cell? ⟨w.heap.size, 4, none⟩ = some (.int .i64 0) := HBf.out.cell 4
          have d5 : wf.cell? ⟨w.heap.size, 5, none⟩ = some (.slice none 0 0) := HBf.out.cell 5
          have d6 : wf.cell? ⟨w.heap.size, 6, none⟩ = some (.slice none 0 0) := HBf.out.cell 6
          refine bodyPost_ret (v := .tuple #[.agg #[.int .u8 1, .bool true, .slice A2 m c2, .string { data := #[] }, .int .i64 0, .slice none 0 0, .slice none 0 0], .bool true]) (by simp [results, Try.results35, go_sem, d0, d1, d2, d3, d4, d5, d6]) rfl ?_
          exact ⟨true, A2, m, c2, rfl, ⟨by rw [sgn_abs]; exact (LimbsIn.of_slab HLf.out (dig_low _)).more (fun k _ hk => HFf.out k hk), by rw [sgn_neg, decide_eq_true hp0]; rfl, by rw [sgn_abs]; exact HZ.out⟩, HKf.out⟩

set_option maxRecDepth 100000 in
theorem made_no (A : Option Addr) (n c : Nat) (neg : Bool) (l : List Nat) (w : World) (B : Nat → Prop) (h : LimbsIn w B A n c l) (hz : Big ≤ nat l) :
    Calls Try.prog 35 #[.slice A n c, .bool neg] w (NoP w) := by
  have HL := hide h
  have hlen := h.len
  have hcap := h.cap
  have hmax := h.max
  have HZ := hide hz
  unfold maxLen at hmax
  clear h hz
  go_enter Try.func35, Try.ntmps35
  go_wp2
  go_loop [0] (fun s => ∃ m : Nat, s = .slice A m c ∧ m ≤ n ∧ Hid (Noughts l m)) (fun s => lenV s)
  case atStart => exact ⟨n, rfl, Nat.le_refl _, hide (fun j h1 h2 => by omega)⟩
  case round =>
    obtain ⟨m, rfl, hm, hno⟩ := hrel
    have hm1 : m ≠ 0 := by
      rintro rfl
      obtain ⟨hd, h32, hp⟩ := made_left HL.out (Nat.zero_le _) hno.out (.inl rfl)
      have := h32.1 (by omega)
      have := HZ.out
      omega
    obtain ⟨b, o, rfl, hb, hc⟩ := (HL.out.keep ((Keeps.refl NoB w).alloc (.cells #[.int .u8 0, .bool false, .slice none 0 0, .string { data := #[] }, .int .i64 0, .slice none 0 0, .slice none 0 0] 26))).at (by omega)
    obtain ⟨k, hkk⟩ : ∃ k, m = k + 1 := ⟨m - 1, by omega⟩
    have hk := hc k (by omega)
    have hk1 : (m : Int) - 1 = (k : Int) := by omega
    have hk2 : (k : Int) < (m : Int) := by omega
    have hk0 : (0 : Int) ≤ (k : Int) := by omega
    have hk3 : k < m := by omega
    have hk4 : k ≤ c := by omega
    have hk5 : (k : Int) ≤ (c : Int) := by omega
    have hm0 : decide (0 < (m : Int)) = true := by simp; omega
    have HX := hide (show l.getD k 0 = l.getD k 0 from rfl)
    by_cases hx : l.getD k 0 = 0
    · have HX0 := hide hx
      rw [hx] at hk
      clear hx HX hc
      go_wp2
      go_round
      case rel => exact ⟨k, rfl, by omega, hide (hno.out.step hkk HX0.out)⟩
      case measure => simp [lenV]; omega
    · obtain ⟨hd, h32, hp⟩ := made_left HL.out hm hno.out (Noughts.norm (by omega) hkk hx)
      generalize l.getD k 0 = x at *
      have hb1 : ((x : Int) == 0) = false := by simp; omega
      have h32' : 32 < m := by
        rcases Nat.lt_or_ge 32 m with e | e
        · exact e
        · exact absurd (h32.1 e) (by have := HZ.out; omega)
      have hm32 : decide ((32 : Int) < (m : Int)) = true := by simp; omega
      clear hd h32 hp hno hx HX hc h32' hkk
      have HB := hide (Blk.new w 26 #[.int .u8 0, .bool false, .slice none 0 0, .string { data := #[] }, .int .i64 0, .slice none 0 0, .slice none 0 0])
      have HK := hide ((Keeps.refl NoB w).alloc (.cells #[.int .u8 0, .bool false, .slice none 0 0, .string { data := #[] }, .int .i64 0, .slice none 0 0, .slice none 0 0] 26))
      go_wp2
      generalize w.alloc (.cells #[.int .u8 0, .bool false, .slice none 0 0, .string { data := #[] }, .int .i64 0, .slice none 0 0, .slice none 0 0] 26) = w7 at *
      have d0 : w7.cell? ⟨w.heap.size, 0, none⟩ = some (.int .u8 0) := HB.out.cell 0
      have d1 : w7.cell? ⟨w.heap.size, 1, none⟩ = some (.bool false) := HB.out.cell 1
      have d2 : w7.cell? ⟨w.heap.size, 2, none⟩ = some (.slice none 0 0) := HB.out.cell 2
      have d3 : w7.cell? ⟨w.heap.size, 3, none⟩ = some (.string { data := #[] }) := HB.out.cell 3
      have d4 : w7.cell? ⟨w.heap.size, 4, none⟩ = some (.int .i64 0) := HB.out.cell 4
      have d5 : w7.cell? ⟨w.heap.size, 5, none⟩ = some (.slice none 0 0) := HB.out.cell 5
      have d6 : w7.cell? ⟨w.heap.size, 6, none⟩ = some (.slice none 0 0) := HB.out.cell 6
      refine bodyPost_ret (v := .tuple #[.agg #[.int .u8 0, .bool false, .slice none 0 0, .string { data := #[] }, .int .i64 0, .slice none 0 0, .slice none 0 0], .bool false]) (by simp [results, Try.results35, go_sem, d0, d1, d2, d3, d4, d5, d6]) rfl ?_
      exact ⟨rfl, HK.out⟩
end Go.Proofs.Ytfehciiidmgopaa
