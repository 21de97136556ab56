/- The chapter's example: awake() is true. -/
import Derived.Test.YtmkidkfofbnjgaaLetter
namespace Go.Proofs.Ytmkidkfofbnjgaa
open Go.RowKit

theorem box_new (w : World) : BoxAt (w.alloc (.cells #[.slice none 0 0, .int .i64 0, .bool true] 61)) w.heap.size (.slice none 0 0) [] 0 :=
  ⟨Blk.new w 61 _, World.ownsRow_nil _ _ _ _, fun _ h => (by cases h), fun _ h => (by cases h), List.Pairwise.nil⟩

/-- What a put of an atom leaves. -/
theorem put_atom (s : ByteArray) (b : Nat) (sv : Value) (L : List Lt) (i : Nat) (w : World) (h : BoxAt w b sv L i) (hl : L.length < 1024) :
    Calls Try.prog 10 #[.pointer (some ⟨b, 0, none⟩), .agg #[.int .u8 2, .bool false, .slice none 0 0, .string s, .int .i64 0, .slice none 0 0, .slice none 0 0]] w (PutPost w b sv L i (flatT 2 s 0)) :=
  put_yes b sv L i w h hl 2 false none 0 0 s 0 none 0 0 none 0 0 (flatT 2 s 0) (fun _ => True) false (flat_in w _ _ 2 s 0)

/-- From w on nothing that was there has turned; the box lies behind. -/
structure Run (w w' : World) (b : Nat) (sv : Value) (L : List Lt) (i : Nat) : Prop where
  box : BoxAt w' b sv L i
  keep : Keeps NoB w w'
  hb : w.heap.size ≤ b
  hg : ∀ g, sv.ownBlock = some g → w.heap.size ≤ g

theorem Run.fresh {w w' w'' : World} {b : Nat} {sv : Value} {L : List Lt} {i : Nat} (h : Run w w' b sv L i) (k : Keeps NoB w' w'') : Run w w'' b sv L i :=
  ⟨h.box.fresh k, h.keep.trans' k (fun _ _ => id) (fun _ _ => id), h.hb, h.hg⟩
theorem Run.turn {w w' w'' : World} {b : Nat} {sv sv' : Value} {L L' : List Lt} {i i' : Nat} (h : Run w w' b sv L i) (k : Keeps (boxFp b sv) w' w'') (hbox : BoxAt w'' b sv' L' i') (hsv : sv'.ownBlock = sv.ownBlock ∨ ∃ g, sv'.ownBlock = some g ∧ w'.heap.size ≤ g) : Run w w'' b sv' L' i' := by
  refine ⟨hbox, h.keep.trans' k (fun _ _ => id) (fun x hx hf => ?_), h.hb, fun g hg => ?_⟩
  · rcases hf with rfl | hf
    · have := h.hb; omega
    · have := h.hg x hf; omega
  · rcases hsv with e | ⟨g', e, hlt⟩
    · exact h.hg g (e ▸ hg)
    · rw [e] at hg; injection hg with hg; have := h.keep.size; omega

set_option maxRecDepth 100000 in
set_option maxHeartbeats 2000000 in
theorem awake_any (w : World) : Calls Try.prog 19 #[] w fun e w' => e = .returned (.bool true) ∧ Below w.heap.size w w' := by
  go_enter Try.func19, Try.ntmps19
  go_wp2_with (go_at_call 9; refine (new_any _).mono ?_; rintro e w' ⟨rfl, rfl⟩)
  have R0 := hide (Run.mk (w := w) (box_new w) ((Keeps.refl NoB w).alloc _) (Nat.le_refl _) (fun g h => by simp [Value.ownBlock] at h))
  generalize w.alloc (.cells #[.slice none 0 0, .int .i64 0, .bool true] 61) = w0 at *
  generalize hbb : w.heap.size = b at *
  have HBB := hide hbb
  clear hbb
  refine (letter_any ⟨#[97]⟩ _).mono ?_
  rintro e w1 ⟨rfl, hk⟩
  have R1 := hide (R0.out.fresh hk)
  clear hk R0
  go_wp2_with fail
  refine (put_atom ⟨#[97]⟩ _ (.slice none 0 0) [] 0 w1 R1.out.box (by simp)).mono ?_
  rintro e w2 ⟨sv1, xa, rfl, hxt, _, hbox, hkeep, hat⟩
  have R2 := hide (R1.out.turn hkeep hbox hat)
  have Txa := hide hxt
  clear hxt hbox hkeep hat R1
  go_wp2_with fail
  refine (letter_any ⟨#[98]⟩ _).mono ?_
  rintro e w3 ⟨rfl, hk⟩
  have R3 := hide (R2.out.fresh hk)
  clear hk R2
  go_wp2_with fail
  refine (put_atom ⟨#[98]⟩ _ sv1 ([] ++ [xa]) 0 w3 R3.out.box (by simp)).mono ?_
  rintro e w4 ⟨sv2, xb, rfl, hxt, _, hbox, hkeep, hat⟩
  have R4 := hide (R3.out.turn hkeep hbox hat)
  have Txb := hide hxt
  clear hxt hbox hkeep hat R3
  go_wp2_with fail
  refine (letter_any ⟨#[99]⟩ _).mono ?_
  rintro e w5 ⟨rfl, hk⟩
  have R5 := hide (R4.out.fresh hk)
  clear hk R4
  go_wp2_with fail
  refine (put_atom ⟨#[99]⟩ _ sv2 ([] ++ [xa] ++ [xb]) 0 w5 R5.out.box (by simp)).mono ?_
  rintro e w6 ⟨sv3, xc, rfl, hxt, _, hbox, hkeep, hat⟩
  have R6 := hide (R5.out.turn hkeep hbox hat)
  have Txc := hide hxt
  clear hxt hbox hkeep hat R5
  go_wp2_with fail
  have R6 := hide (show Run w w6 b sv3 [xa, xb, xc] 0 from R6.out)
  refine (skip_yes _ sv3 [xa, xb, xc] 0 w6 R6.out.box (by simp) (by simp)).mono ?_
  rintro e w7 ⟨rfl, hbox, hkeep⟩
  have R7 := hide (show Run w w7 b sv3 [xa, xb, xc] 1 from R6.out.turn (hkeep.mono (fun _ _ e => .inl e)) hbox (.inl rfl))
  clear hbox hkeep R6
  go_wp2_with fail
  refine (take_yes _ sv3 [xa, xb, xc] 1 1 xb w7 R7.out.box rfl rfl (by simp)).mono ?_
  rintro e w8 ⟨a0, a1, a2, a3, a4, a5, a6, sv4, hcs, rfl, hbox, hkeep, hok, hown⟩
  obtain ⟨Ala, Alc, Aia, Aic, Ata, Atc, rfl, rfl, rfl, rfl, rfl, rfl, rfl⟩ := flat_form (by have := hok.1; rw [hcs, Txb.out] at this; exact this)
  have R8 := hide (show Run w w8 b sv4 [xa, xc] 0 from R7.out.turn hkeep hbox (.inl hown))
  clear hcs hbox hkeep hok hown R7
  go_wp2_with fail
  have P2 := hide (Blk.new w8 33 #[.int .u8 2, .bool false, .slice Ala 0 Alc, .string ⟨#[98]⟩, .int .i64 0, .slice Aia 0 Aic, .slice Ata 0 Atc])
  have hb8 : b < w8.heap.size := R8.out.box.blk.lt
  have G8 := hide (fun g (hg : sv4.ownBlock = some g) => ownsRow_lt R8.out.box.row hg)
  have R9 := hide (R8.out.fresh ((Keeps.refl NoB w8).alloc (.cells #[.int .u8 2, .bool false, .slice Ala 0 Alc, .string ⟨#[98]⟩, .int .i64 0, .slice Aia 0 Aic, .slice Ata 0 Atc] 33)))
  clear R8
  generalize w8.alloc (.cells #[.int .u8 2, .bool false, .slice Ala 0 Alc, .string ⟨#[98]⟩, .int .i64 0, .slice Aia 0 Aic, .slice Ata 0 Atc] 33) = w9 at *
  refine (next_yes _ sv4 [xa, xc] 0 xa w9 R9.out.box rfl (by simp)).mono ?_
  rintro e w10 ⟨b0, b1, b2, b3, b4, b5, b6, rfl, hT, hk⟩
  obtain ⟨Bla, Blc, Bia, Bic, Bta, Btc, rfl, rfl, rfl, rfl, rfl, rfl, rfl⟩ := flat_form (by rw [Txa.out] at hT; exact hT)
  have R10 := hide (R9.out.fresh hk)
  have P2 := hide (P2.out.keep hk id)
  clear hT hk R9
  go_wp2_with fail
  have P4 := hide (Blk.new w10 33 #[.int .u8 2, .bool false, .slice Bla 0 Blc, .string ⟨#[97]⟩, .int .i64 0, .slice Bia 0 Bic, .slice Bta 0 Btc])
  have h24 : w8.heap.size < w10.heap.size := P2.out.lt
  have R11 := hide (R10.out.fresh ((Keeps.refl NoB w10).alloc (.cells #[.int .u8 2, .bool false, .slice Bla 0 Blc, .string ⟨#[97]⟩, .int .i64 0, .slice Bia 0 Bic, .slice Bta 0 Btc] 33)))
  have P2 := hide (P2.out.alloc (.cells #[.int .u8 2, .bool false, .slice Bla 0 Blc, .string ⟨#[97]⟩, .int .i64 0, .slice Bia 0 Bic, .slice Bta 0 Btc] 33))
  clear R10
  generalize w10.alloc (.cells #[.int .u8 2, .bool false, .slice Bla 0 Blc, .string ⟨#[97]⟩, .int .i64 0, .slice Bia 0 Bic, .slice Bta 0 Btc] 33) = w11 at *
  refine (skip_yes _ sv4 [xa, xc] 0 w11 R11.out.box (by simp) (by simp)).mono ?_
  rintro e w12 ⟨rfl, hbox, hkeep⟩
  have R12 := hide (show Run w w12 b sv4 [xa, xc] 1 from R11.out.turn (hkeep.mono (fun _ _ e => .inl e)) hbox (.inl rfl))
  have P2 := hide (P2.out.keep hkeep (fun e => by omega))
  have P4 := hide (P4.out.keep hkeep (fun e => by omega))
  clear hbox hkeep R11
  go_wp2_with fail
  refine (skip_yes _ sv4 [xa, xc] 1 w12 R12.out.box (by simp) (by simp)).mono ?_
  rintro e w13 ⟨rfl, hbox, hkeep⟩
  have R13 := hide (show Run w w13 b sv4 [xa, xc] 2 from R12.out.turn (hkeep.mono (fun _ _ e => .inl e)) hbox (.inl rfl))
  have P2 := hide (P2.out.keep hkeep (fun e => by omega))
  have P4 := hide (P4.out.keep hkeep (fun e => by omega))
  clear hbox hkeep R12
  go_wp2_with fail
  refine (next_no _ sv4 [xa, xc] 2 w13 R13.out.box (by simp)).mono ?_
  rintro e w14 ⟨rfl, hk⟩
  have R14 := hide (R13.out.fresh hk)
  have P2 := hide (P2.out.keep hk id)
  have P4 := hide (P4.out.keep hk id)
  clear hk R13
  go_wp2_with fail
  have R15 := hide (R14.out.fresh ((Keeps.refl NoB w14).alloc (.cells zeroT 33)))
  have P2 := hide (P2.out.alloc (.cells zeroT 33))
  have P4 := hide (P4.out.alloc (.cells zeroT 33))
  clear R14
  generalize w14.alloc (.cells zeroT 33) = w15 at *
  refine (skip_no _ sv4 [xa, xc] 2 w15 R15.out.box (by simp)).mono ?_
  rintro e w16 ⟨rfl, hk⟩
  have R16 := hide (R15.out.fresh hk)
  have P2 := hide (P2.out.keep hk id)
  have P4 := hide (P4.out.keep hk id)
  clear hk R15
  go_wp2_with fail
  refine (letter_any ⟨#[100]⟩ _).mono ?_
  rintro e w17 ⟨rfl, hk⟩
  have R17 := hide (R16.out.fresh hk)
  have P2 := hide (P2.out.keep hk id)
  have P4 := hide (P4.out.keep hk id)
  clear hk R16
  go_wp2_with fail
  refine (put_atom ⟨#[100]⟩ _ sv4 [xa, xc] 2 w17 R17.out.box (by simp)).mono ?_
  rintro e w18 ⟨sv5, xd, rfl, hxt, _, hbox, hkeep, hat⟩
  have R18 := hide (show Run w w18 b sv5 [xa, xc, xd] 2 from R17.out.turn hkeep hbox hat)
  have Txd := hide hxt
  have P2 := hide (P2.out.keep hkeep (fun e => by
    rcases e with e | e
    · omega
    · have := G8.out _ e; omega))
  have P4 := hide (P4.out.keep hkeep (fun e => by
    rcases e with e | e
    · omega
    · have := G8.out _ e; omega))
  clear hxt hbox hkeep hat R17
  go_wp2_with fail
  refine (next_yes _ sv5 [xa, xc, xd] 2 xd w18 R18.out.box rfl (by simp)).mono ?_
  rintro e w19 ⟨d0, d1, d2, d3, d4, d5, d6, rfl, hT, hk⟩
  obtain ⟨Dla, Dlc, Dia, Dic, Dta, Dtc, rfl, rfl, rfl, rfl, rfl, rfl, rfl⟩ := flat_form (by rw [Txd.out] at hT; exact hT)
  have R19 := hide (R18.out.fresh hk)
  have P2 := hide (P2.out.keep hk id)
  have P4 := hide (P4.out.keep hk id)
  clear hT hk R18
  have P12 := hide (Blk.new w19 33 #[.int .u8 2, .bool false, .slice Dla 0 Dlc, .string ⟨#[100]⟩, .int .i64 0, .slice Dia 0 Dic, .slice Dta 0 Dtc])
  have R20 := hide (R19.out.fresh ((Keeps.refl NoB w19).alloc (.cells #[.int .u8 2, .bool false, .slice Dla 0 Dlc, .string ⟨#[100]⟩, .int .i64 0, .slice Dia 0 Dic, .slice Dta 0 Dtc] 33)))
  have P2 := hide (P2.out.alloc (.cells #[.int .u8 2, .bool false, .slice Dla 0 Dlc, .string ⟨#[100]⟩, .int .i64 0, .slice Dia 0 Dic, .slice Dta 0 Dtc] 33))
  have P4 := hide (P4.out.alloc (.cells #[.int .u8 2, .bool false, .slice Dla 0 Dlc, .string ⟨#[100]⟩, .int .i64 0, .slice Dia 0 Dic, .slice Dta 0 Dtc] 33))
  clear R19
  have k2 : (w19.alloc (.cells #[.int .u8 2, .bool false, .slice Dla 0 Dlc, .string ⟨#[100]⟩, .int .i64 0, .slice Dia 0 Dic, .slice Dta 0 Dtc] 33)).cell? ⟨w8.heap.size, 3, none⟩ = some (.string ⟨#[98]⟩) := P2.out.cell 3
  have k4 : (w19.alloc (.cells #[.int .u8 2, .bool false, .slice Dla 0 Dlc, .string ⟨#[100]⟩, .int .i64 0, .slice Dia 0 Dic, .slice Dta 0 Dtc] 33)).cell? ⟨w10.heap.size, 3, none⟩ = some (.string ⟨#[97]⟩) := P4.out.cell 3
  go_wp2_with (go_at_call 13; refine (len_box _ sv5 [xa, xc, xd] 2 _ R20.out.box).mono ?_; rintro e w21 ⟨rfl, rfl⟩)
  go_ret
  exact ⟨rfl, R20.out.keep.below⟩
end Go.Proofs.Ytmkidkfofbnjgaa
