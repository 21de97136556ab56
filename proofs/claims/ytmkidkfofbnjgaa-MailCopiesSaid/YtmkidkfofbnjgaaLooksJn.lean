/- The chapter's example: awake() is true. pigeonholelaw12: MailLooks. -/
import Derived.Test.YtmkidkfofbnjgaaLetterJn
import Derived.Test.YtmkidkfofbnjgaaTermsOf2Jn
import Derived.Test.YtmkidkfofbnjgaaSeqJn
import Derived.Deep.LoopGhost
import Derived.Deep.CutRange
import Derived.Deep.CutBlock
import Derived.Deep.DeepCutAuto
namespace Go.Proofs.Ytmkidkfofbnjgaa
open Go.RowKit

theorem box_new (w : World) : BoxAt (w.alloc (.cells #[.slice none 0 0, .int .i64 0, .bool true] 61)) w.heap.size (.slice none 0 0) [] 0 :=
  ⟨Blk.new w 61 _, World.ownsRow_nil _ _ _ _, fun _ h => (by cases h), fun _ h => (by cases h), List.Pairwise.nil⟩

/-- What a put of an atom leaves. -/
theorem put_atom (s : ByteArray) (b : Nat) (sv : Value) (L : List Lt) (i : Nat) (w : World) (h : BoxAt w b sv L i) (hl : L.length < 1024) :
    Calls Try.prog 10 #[.pointer (some ⟨b, 0, none⟩), .agg #[.int .u8 2, .bool false, .slice none 0 0, .string s, .int .i64 0, .slice none 0 0, .slice none 0 0]] w (PutPost w b sv L i (flatT 2 s 0)) :=
  put_yes b sv L i w h hl 2 false none 0 0 s 0 none 0 0 none 0 0 (flatT 2 s 0) (fun _ => True) false (flat_in w _ _ 2 s 0)

/-- From w on nothing that was there has turned; the box lies behind. -/
structure Run (w w' : World) (b : Nat) (sv : Value) (L : List Lt) (i : Nat) : Prop where
  box : BoxAt w' b sv L i
  keep : Keeps NoB w w'
  hb : w.heap.size ≤ b
  hg : ∀ g, sv.ownBlock = some g → w.heap.size ≤ g

theorem Run.fresh {w w' w'' : World} {b : Nat} {sv : Value} {L : List Lt} {i : Nat} (h : Run w w' b sv L i) (k : Keeps NoB w' w'') : Run w w'' b sv L i :=
  ⟨h.box.fresh k, h.keep.trans' k (fun _ _ => id) (fun _ _ => id), h.hb, h.hg⟩
theorem Run.turn {w w' w'' : World} {b : Nat} {sv sv' : Value} {L L' : List Lt} {i i' : Nat} (h : Run w w' b sv L i) (k : Keeps (boxFp b sv) w' w'') (hbox : BoxAt w'' b sv' L' i') (hsv : sv'.ownBlock = sv.ownBlock ∨ ∃ g, sv'.ownBlock = some g ∧ w'.heap.size ≤ g) : Run w w'' b sv' L' i' := by
  refine ⟨hbox, h.keep.trans' k (fun _ _ => id) (fun x hx hf => ?_), h.hb, fun g hg => ?_⟩
  · rcases hf with rfl | hf
    · have := h.hb; omega
    · have := h.hg x hf; omega
  · rcases hsv with e | ⟨g', e, hlt⟩
    · exact h.hg g (e ▸ hg)
    · rw [e] at hg; injection hg with hg; have := h.keep.size; omega

set_option maxRecDepth 100000 in
set_option maxHeartbeats 2000000 in
theorem awake_any (w : World) : Calls Try.prog 19 #[] w fun e w' => e = .returned (.bool true) ∧ Below w.heap.size w w' := by
  go_enter Try.func19, Try.ntmps19
  go_wp2_with (go_at_call 9; refine (new_any _).mono ?_; rintro e w' ⟨rfl, rfl⟩)
  have R0 := hide (Run.mk (w := w) (box_new w) ((Keeps.refl NoB w).alloc _) (Nat.le_refl _) (fun g h => by simp [Value.ownBlock] at h))
  generalize w.alloc (.cells #[.slice none 0 0, .int .i64 0, .bool true] 61) = w0 at *
  generalize hbb : w.heap.size = b at *
  have HBB := hide hbb
  clear hbb
  refine (letter_any ⟨#[97]⟩ _).mono ?_
  rintro e w1 ⟨rfl, hk⟩
  have R1 := hide (R0.out.fresh hk)
  clear hk R0
  go_wp2_with fail
  refine (put_atom ⟨#[97]⟩ _ (.slice none 0 0) [] 0 w1 R1.out.box (by simp)).mono ?_
  rintro e w2 ⟨sv1, xa, rfl, hxt, _, hbox, hkeep, hat⟩
  have R2 := hide (R1.out.turn hkeep hbox hat)
  have Txa := hide hxt
  clear hxt hbox hkeep hat R1
  go_wp2_with fail
  refine (letter_any ⟨#[98]⟩ _).mono ?_
  rintro e w3 ⟨rfl, hk⟩
  have R3 := hide (R2.out.fresh hk)
  clear hk R2
  go_wp2_with fail
  refine (put_atom ⟨#[98]⟩ _ sv1 ([] ++ [xa]) 0 w3 R3.out.box (by simp)).mono ?_
  rintro e w4 ⟨sv2, xb, rfl, hxt, _, hbox, hkeep, hat⟩
  have R4 := hide (R3.out.turn hkeep hbox hat)
  have Txb := hide hxt
  clear hxt hbox hkeep hat R3
  go_wp2_with fail
  refine (letter_any ⟨#[99]⟩ _).mono ?_
  rintro e w5 ⟨rfl, hk⟩
  have R5 := hide (R4.out.fresh hk)
  clear hk R4
  go_wp2_with fail
  refine (put_atom ⟨#[99]⟩ _ sv2 ([] ++ [xa] ++ [xb]) 0 w5 R5.out.box (by simp)).mono ?_
  rintro e w6 ⟨sv3, xc, rfl, hxt, _, hbox, hkeep, hat⟩
  have R6 := hide (R5.out.turn hkeep hbox hat)
  have Txc := hide hxt
  clear hxt hbox hkeep hat R5
  go_wp2_with fail
  have R6 := hide (show Run w w6 b sv3 [xa, xb, xc] 0 from R6.out)
  refine (skip_yes _ sv3 [xa, xb, xc] 0 w6 R6.out.box (by simp) (by simp)).mono ?_
  rintro e w7 ⟨rfl, hbox, hkeep⟩
  have R7 := hide (show Run w w7 b sv3 [xa, xb, xc] 1 from R6.out.turn (hkeep.mono (fun _ _ e => .inl e)) hbox (.inl rfl))
  clear hbox hkeep R6
  go_wp2_with fail
  refine (take_yes _ sv3 [xa, xb, xc] 1 1 xb w7 R7.out.box rfl rfl (by simp)).mono ?_
  rintro e w8 ⟨a0, a1, a2, a3, a4, a5, a6, sv4, hcs, rfl, hbox, hkeep, hok, hown⟩
  obtain ⟨Ala, Alc, Aia, Aic, Ata, Atc, rfl, rfl, rfl, rfl, rfl, rfl, rfl⟩ := flat_form (by have := hok.1; rw [hcs, Txb.out] at this; exact this)
  have R8 := hide (show Run w w8 b sv4 [xa, xc] 0 from R7.out.turn hkeep hbox (.inl hown))
  clear hcs hbox hkeep hok hown R7
  go_wp2_with fail
  have P2 := hide (Blk.new w8 33 #[.int .u8 2, .bool false, .slice Ala 0 Alc, .string ⟨#[98]⟩, .int .i64 0, .slice Aia 0 Aic, .slice Ata 0 Atc])
  have hb8 : b < w8.heap.size := R8.out.box.blk.lt
  have G8 := hide (fun g (hg : sv4.ownBlock = some g) => ownsRow_lt R8.out.box.row hg)
  have R9 := hide (R8.out.fresh ((Keeps.refl NoB w8).alloc (.cells #[.int .u8 2, .bool false, .slice Ala 0 Alc, .string ⟨#[98]⟩, .int .i64 0, .slice Aia 0 Aic, .slice Ata 0 Atc] 33)))
  clear R8
  generalize w8.alloc (.cells #[.int .u8 2, .bool false, .slice Ala 0 Alc, .string ⟨#[98]⟩, .int .i64 0, .slice Aia 0 Aic, .slice Ata 0 Atc] 33) = w9 at *
  refine (next_yes _ sv4 [xa, xc] 0 xa w9 R9.out.box rfl (by simp)).mono ?_
  rintro e w10 ⟨b0, b1, b2, b3, b4, b5, b6, rfl, hT, hk⟩
  obtain ⟨Bla, Blc, Bia, Bic, Bta, Btc, rfl, rfl, rfl, rfl, rfl, rfl, rfl⟩ := flat_form (by rw [Txa.out] at hT; exact hT)
  have R10 := hide (R9.out.fresh hk)
  have P2 := hide (P2.out.keep hk id)
  clear hT hk R9
  go_wp2_with fail
  have P4 := hide (Blk.new w10 33 #[.int .u8 2, .bool false, .slice Bla 0 Blc, .string ⟨#[97]⟩, .int .i64 0, .slice Bia 0 Bic, .slice Bta 0 Btc])
  have h24 : w8.heap.size < w10.heap.size := P2.out.lt
  have R11 := hide (R10.out.fresh ((Keeps.refl NoB w10).alloc (.cells #[.int .u8 2, .bool false, .slice Bla 0 Blc, .string ⟨#[97]⟩, .int .i64 0, .slice Bia 0 Bic, .slice Bta 0 Btc] 33)))
  have P2 := hide (P2.out.alloc (.cells #[.int .u8 2, .bool false, .slice Bla 0 Blc, .string ⟨#[97]⟩, .int .i64 0, .slice Bia 0 Bic, .slice Bta 0 Btc] 33))
  clear R10
  generalize w10.alloc (.cells #[.int .u8 2, .bool false, .slice Bla 0 Blc, .string ⟨#[97]⟩, .int .i64 0, .slice Bia 0 Bic, .slice Bta 0 Btc] 33) = w11 at *
  refine (skip_yes _ sv4 [xa, xc] 0 w11 R11.out.box (by simp) (by simp)).mono ?_
  rintro e w12 ⟨rfl, hbox, hkeep⟩
  have R12 := hide (show Run w w12 b sv4 [xa, xc] 1 from R11.out.turn (hkeep.mono (fun _ _ e => .inl e)) hbox (.inl rfl))
  have P2 := hide (P2.out.keep hkeep (fun e => by omega))
  have P4 := hide (P4.out.keep hkeep (fun e => by omega))
  clear hbox hkeep R11
  go_wp2_with fail
  refine (skip_yes _ sv4 [xa, xc] 1 w12 R12.out.box (by simp) (by simp)).mono ?_
  rintro e w13 ⟨rfl, hbox, hkeep⟩
  have R13 := hide (show Run w w13 b sv4 [xa, xc] 2 from R12.out.turn (hkeep.mono (fun _ _ e => .inl e)) hbox (.inl rfl))
  have P2 := hide (P2.out.keep hkeep (fun e => by omega))
  have P4 := hide (P4.out.keep hkeep (fun e => by omega))
  clear hbox hkeep R12
  go_wp2_with fail
  refine (next_no _ sv4 [xa, xc] 2 w13 R13.out.box (by simp)).mono ?_
  rintro e w14 ⟨rfl, hk⟩
  have R14 := hide (R13.out.fresh hk)
  have P2 := hide (P2.out.keep hk id)
  have P4 := hide (P4.out.keep hk id)
  clear hk R13
  go_wp2_with fail
  have R15 := hide (R14.out.fresh ((Keeps.refl NoB w14).alloc (.cells zeroT 33)))
  have P2 := hide (P2.out.alloc (.cells zeroT 33))
  have P4 := hide (P4.out.alloc (.cells zeroT 33))
  clear R14
  generalize w14.alloc (.cells zeroT 33) = w15 at *
  refine (skip_no _ sv4 [xa, xc] 2 w15 R15.out.box (by simp)).mono ?_
  rintro e w16 ⟨rfl, hk⟩
  have R16 := hide (R15.out.fresh hk)
  have P2 := hide (P2.out.keep hk id)
  have P4 := hide (P4.out.keep hk id)
  clear hk R15
  go_wp2_with fail
  refine (letter_any ⟨#[100]⟩ _).mono ?_
  rintro e w17 ⟨rfl, hk⟩
  have R17 := hide (R16.out.fresh hk)
  have P2 := hide (P2.out.keep hk id)
  have P4 := hide (P4.out.keep hk id)
  clear hk R16
  go_wp2_with fail
  refine (put_atom ⟨#[100]⟩ _ sv4 [xa, xc] 2 w17 R17.out.box (by simp)).mono ?_
  rintro e w18 ⟨sv5, xd, rfl, hxt, _, hbox, hkeep, hat⟩
  have R18 := hide (show Run w w18 b sv5 [xa, xc, xd] 2 from R17.out.turn hkeep hbox hat)
  have Txd := hide hxt
  have P2 := hide (P2.out.keep hkeep (fun e => by
    rcases e with e | e
    · omega
    · have := G8.out _ e; omega))
  have P4 := hide (P4.out.keep hkeep (fun e => by
    rcases e with e | e
    · omega
    · have := G8.out _ e; omega))
  clear hxt hbox hkeep hat R17
  go_wp2_with fail
  refine (next_yes _ sv5 [xa, xc, xd] 2 xd w18 R18.out.box rfl (by simp)).mono ?_
  rintro e w19 ⟨d0, d1, d2, d3, d4, d5, d6, rfl, hT, hk⟩
  obtain ⟨Dla, Dlc, Dia, Dic, Dta, Dtc, rfl, rfl, rfl, rfl, rfl, rfl, rfl⟩ := flat_form (by rw [Txd.out] at hT; exact hT)
  have R19 := hide (R18.out.fresh hk)
  have P2 := hide (P2.out.keep hk id)
  have P4 := hide (P4.out.keep hk id)
  clear hT hk R18
  have P12 := hide (Blk.new w19 33 #[.int .u8 2, .bool false, .slice Dla 0 Dlc, .string ⟨#[100]⟩, .int .i64 0, .slice Dia 0 Dic, .slice Dta 0 Dtc])
  have R20 := hide (R19.out.fresh ((Keeps.refl NoB w19).alloc (.cells #[.int .u8 2, .bool false, .slice Dla 0 Dlc, .string ⟨#[100]⟩, .int .i64 0, .slice Dia 0 Dic, .slice Dta 0 Dtc] 33)))
  have P2 := hide (P2.out.alloc (.cells #[.int .u8 2, .bool false, .slice Dla 0 Dlc, .string ⟨#[100]⟩, .int .i64 0, .slice Dia 0 Dic, .slice Dta 0 Dtc] 33))
  have P4 := hide (P4.out.alloc (.cells #[.int .u8 2, .bool false, .slice Dla 0 Dlc, .string ⟨#[100]⟩, .int .i64 0, .slice Dia 0 Dic, .slice Dta 0 Dtc] 33))
  clear R19
  have k2 : (w19.alloc (.cells #[.int .u8 2, .bool false, .slice Dla 0 Dlc, .string ⟨#[100]⟩, .int .i64 0, .slice Dia 0 Dic, .slice Dta 0 Dtc] 33)).cell? ⟨w8.heap.size, 3, none⟩ = some (.string ⟨#[98]⟩) := P2.out.cell 3
  have k4 : (w19.alloc (.cells #[.int .u8 2, .bool false, .slice Dla 0 Dlc, .string ⟨#[100]⟩, .int .i64 0, .slice Dia 0 Dic, .slice Dta 0 Dtc] 33)).cell? ⟨w10.heap.size, 3, none⟩ = some (.string ⟨#[97]⟩) := P4.out.cell 3
  go_wp2_with (go_at_call 13; refine (len_box _ sv5 [xa, xc, xd] 2 _ R20.out.box).mono ?_; rintro e w21 ⟨rfl, rfl⟩)
  go_ret
  exact ⟨rfl, R20.out.keep.below⟩
end Go.Proofs.Ytmkidkfofbnjgaa
namespace Go.Proofs.Ytmkidkfofbnjgaa
open Go.RowKit

mutual
theorem eqT_self : ∀ t : Tm, eqT t t = true
  | .mk k ng limbs tx nm items tail => by
    unfold eqT eqL
    simp [eqTs_self items, eqTs_self tail]
theorem eqTs_self : ∀ ts : List Tm, eqTs ts ts = true
  | [] => by unfold eqTs; rfl
  | t :: ts => by unfold eqTs; simp [eqT_self t, eqTs_self ts]
end

theorem same_self (t : Tm) (w : World) (B B' : Nat → Prop) (F F' : Bool) (cs ds : List Value) (ht : TermIn w B F cs t) (hu : TermIn w B' F' ds t) :
    Calls Try.prog 27 #[.agg cs.toArray, .agg ds.toArray] w fun e w' => e = .returned (.bool true) ∧ Keeps NoB w w' := by
  obtain ⟨kd, ng, la, ln, lc, tx, nm, ia, im, ic, ta, tn, tc, rfl, _⟩ := ht.cells
  obtain ⟨kd', ng', la', ln', lc', tx', nm', ia', im', ic', ta', tn', tc', rfl, _⟩ := hu.cells
  have h := same_term t t w B B' F F' _ _ _ _ _ _ _ _ _ _ _ _ _ _ _ _ _ _ _ _ _ _ _ _ _ _ ht hu
  rw [eqT_self] at h
  exact h

theorem sames_self (ts : List Tm) (css dss : List (List Value)) (A A' : Option Addr) (n c n' c' : Nat) (w : World) (B B' : Nat → Prop) (F F' : Bool) (h1 : Reads w B F 7 A n css.flatten) (h2 : TermsIn w B F css ts) (h3 : Reads w B' F' 7 A' n' dss.flatten) (h4 : TermsIn w B' F' dss ts) (hr : Roomy n 104) :
    Calls Try.prog 28 #[.slice A n c, .slice A' n' c'] w fun e w' => e = .returned (.bool true) ∧ Keeps NoB w w' := by
  have h := same_terms (Tm.size.sizes ts) ts ts (Nat.le_refl _) css dss A A' n c n' c' w B B' F F' h1 h2 h3 h4 hr
  rw [eqTs_self] at h
  exact h
theorem next_told (b : Nat) (sv : Value) (L : List Lt) (i : Nat) (x : Lt) (t : Tm) (w : World) (h : BoxAt w b sv L i) (hx : L[i]? = some x) (hxt : x.t = t) (hl : L.length ≤ 1024) :
    Calls Try.prog 26 #[.pointer (some ⟨b, 0, none⟩)] w fun e w' => ∃ kd ng la ln lc tx nm ia im ic ta tn tc, e = .returned (.tuple #[.agg #[.int .u8 kd, .bool ng, .slice la ln lc, .string tx, .int .i64 nm, .slice ia im ic, .slice ta tn tc], .bool true]) ∧ TermIn w' (Fresh w w') true [.int .u8 kd, .bool ng, .slice la ln lc, .string tx, .int .i64 nm, .slice ia im ic, .slice ta tn tc] t ∧ Keeps NoB w w' := by
  refine (next_yes b sv L i x w h hx hl).mono ?_
  rintro e w' ⟨v0, v1, v2, v3, v4, v5, v6, rfl, hT, hk⟩
  obtain ⟨kd, ng, la, ln, lc, tx, nm, ia, im, ic, ta, tn, tc, e, _⟩ := hT.cells
  simp only [List.cons.injEq, and_true] at e
  obtain ⟨rfl, rfl, rfl, rfl, rfl, rfl, rfl⟩ := e
  exact ⟨kd, ng, la, ln, lc, tx, nm, ia, im, ic, ta, tn, tc, rfl, hxt ▸ hT, hk⟩

theorem len_box' (b : Nat) (sv : Value) (L : List Lt) (i : Nat) (z : Int) (w : World) (h : BoxAt w b sv L i) (hz : (L.length : Int) = z) :
    Calls Try.prog 13 #[.pointer (some ⟨b, 0, none⟩)] w fun e w' => e = .returned (.int .i64 z) ∧ w = w' := by
  subst hz; exact len_box b sv L i w h

theorem all_box' (b : Nat) (sv : Value) (L : List Lt) (i n : Nat) (ts : List Tm) (w : World) (h : BoxAt w b sv L i) (hn : L.length = n) (ht : L.map (·.t) = ts) (hl : n ≤ 1024) :
    Calls Try.prog 24 #[.pointer (some ⟨b, 0, none⟩)] w (OwnPost w n ts) := by
  subst hn ht; exact all_box b sv L i w h hl

theorem last_len {L : List Lt} {k : Nat} (h : L.length = k) (y : Lt) : (L ++ [y]).length = k + 1 := by simp [h]
theorem last_at {L : List Lt} {k : Nat} (h : L.length = k) (y : Lt) : (L ++ [y])[k]? = some y := by subst h; simp

def PutInv (w wx : World) (b : Nat) (us : List Tm) (i : Nat) : Prop := ∃ sv L, Run w wx b sv L 0 ∧ L.map (·.t) = us.take i ∧ i ≤ us.length

theorem PutInv.step {w wr w' : World} {b i : Nat} {us : List Tm} {sv sv' : Value} {L : List Lt} {x : Lt} {u : Tm} (hr : Run w wr b sv L 0) (hm : L.map (·.t) = us.take i) (hu : us[i]? = some u) (hxt : x.t = u) (hbox : BoxAt w' b sv' (L ++ [x]) 0) (hk : Keeps (boxFp b sv) wr w') (hsv : sv'.ownBlock = sv.ownBlock ∨ ∃ g, sv'.ownBlock = some g ∧ wr.heap.size ≤ g) : PutInv w w' b us (i + 1) := by
  obtain ⟨hi, _⟩ := List.getElem?_eq_some_iff.1 hu
  exact ⟨sv', L ++ [x], hr.turn hk hbox hsv, by rw [List.map_append, hm, List.take_add_one, hu, List.map_singleton, hxt]; rfl, hi⟩

theorem taken_len {L : List Lt} {us : List Tm} {i : Nat} (h : L.map (·.t) = us.take i) (hi : i ≤ us.length) : L.length = i := by
  have := congrArg List.length h
  simp at this; omega

theorem nth_term {L : List Lt} {us : List Tm} (h : L.map (·.t) = us) {i : Nat} {u : Tm} (hu : us[i]? = some u) : ∃ x, L[i]? = some x ∧ x.t = u := by
  subst h
  rw [List.getElem?_map] at hu
  cases hx : L[i]? with
  | none => rw [hx] at hu; simp at hu
  | some x => rw [hx] at hu; exact ⟨x, rfl, by simpa using hu⟩

theorem Reads.pre {w : World} {B : Nat → Prop} {F : Bool} {size n m : Nat} {A : Option Addr} {xs : List Value} (h : Reads w B F size A n xs) (hm : m ≤ n) : Reads w B F size A m (xs.take (m * size)) := by
  refine ⟨by rw [List.length_take, h.1]; exact Nat.min_eq_left (Nat.mul_le_mul_right _ hm), fun h0 => ?_⟩
  obtain ⟨ad, h1, h2, h3, h4, h5⟩ := h.2 (by omega)
  exact ⟨ad, h1, h2, h3, h4, fun j u hu => h5 j u (by
    rw [List.getElem?_take] at hu
    split at hu
    · exact hu
    · cases hu)⟩

theorem TermsIn.pre {w : World} {B : Nat → Prop} {F : Bool} : ∀ {ts : List Tm} {css : List (List Value)} (m : Nat), TermsIn w B F css ts → TermsIn w B F (css.take m) (ts.take m)
  | _, _, 0, _ => by rw [List.take_zero, List.take_zero]; unfold TermsIn; trivial
  | [], [], _ + 1, _ => by rw [List.take_nil, List.take_nil]; unfold TermsIn; trivial
  | t :: ts, cs :: css, m + 1, h => by
    rw [List.take_succ_cons, List.take_succ_cons]
    unfold TermsIn at h ⊢
    exact ⟨h.1, TermsIn.pre m h.2⟩
  | [], _ :: _, _, h => by unfold TermsIn at h; exact h.elim
  | _ :: _, [], _, h => by unfold TermsIn at h; exact h.elim

set_option maxRecDepth 100000 in
set_option maxHeartbeats 4000000 in
theorem mail_looks (us : List Tm) (css : List (List Value)) (A : Option Addr) (n c : Nat) (kd : Int) (ng : Bool) (la : Option Addr) (ln lc : Nat) (tx : ByteArray) (nm : Int) (ia : Option Addr) (im ic : Nat) (ta : Option Addr) (tn tc : Nat) (more : Tm) (w : World)
    (hr : Reads w (fun k => k < w.heap.size) false 7 A n css.flatten) (ht : TermsIn w (fun k => k < w.heap.size) false css us) (hroom : Roomy n 104) (hfs : fitsTs us) (hm : TermIn w (fun k => k < w.heap.size) false [.int .u8 kd, .bool ng, .slice la ln lc, .string tx, .int .i64 nm, .slice ia im ic, .slice ta tn tc] more) (hfm : fitsT more) :
    Calls Try.prog 6 #[.slice A n c, .agg #[.int .u8 kd, .bool ng, .slice la ln lc, .string tx, .int .i64 nm, .slice ia im ic, .slice ta tn tc]] w fun e w' => e = .returned (.bool true) ∧ Keeps NoB w w' := by
  have hlen : us.length = n := by have h1 := hr.1; rw [flat_len ht.lens.2, ht.lens.1] at h1; omega
  have hnz : (n : Int) ≤ 140737488355328 := by have := hroom; unfold Roomy at this; omega
  have HR := hide hr; have HT := hide ht; have HRO := hide hroom; have HFS := hide hfs; have HM := hide hm; have HFM := hide hfm; have HLEN := hide hlen
  clear hr ht hroom hfs hm hfm hlen
  go_enter Try.func6, Try.ntmps6
  go_upto_block 0 with
    first
    | (go_at_call 19
       refine (awake_any _).mono ?_
       rintro e w2 ⟨rfl, hbel⟩
       have HK2 := hide (((Keeps.refl NoB w).alloc (.cells #[.int .u8 kd, .bool ng, .slice la ln lc, .string tx, .int .i64 nm, .slice ia im ic, .slice ta tn tc] 33)).trans' (Keeps.of_below hbel NoB) (fun _ _ => id) (fun _ _ => id))
       have HB2 := hide ((Blk.new w 33 #[.int .u8 kd, .bool ng, .slice la ln lc, .string tx, .int .i64 nm, .slice ia im ic, .slice ta tn tc]).keep (Keeps.of_below hbel NoB) id)
       have t0 : w2.cell? ⟨w.heap.size, 0, none⟩ = some (.int .u8 kd) := HB2.out.cell 0
       have t1 : w2.cell? ⟨w.heap.size, 1, none⟩ = some (.bool ng) := HB2.out.cell 1
       have t2 : w2.cell? ⟨w.heap.size, 2, none⟩ = some (.slice la ln lc) := HB2.out.cell 2
       have t3 : w2.cell? ⟨w.heap.size, 3, none⟩ = some (.string tx) := HB2.out.cell 3
       have t4 : w2.cell? ⟨w.heap.size, 4, none⟩ = some (.int .i64 nm) := HB2.out.cell 4
       have t5 : w2.cell? ⟨w.heap.size, 5, none⟩ = some (.slice ia im ic) := HB2.out.cell 5
       have t6 : w2.cell? ⟨w.heap.size, 6, none⟩ = some (.slice ta tn tc) := HB2.out.cell 6
       clear hbel)
    | (go_at_call 25
       refine (terms_of_any more HFM.out _ (fun k => k < w.heap.size) false _ _ _ _ _ _ _ _ _ _ _ _ _ (TermIn.keep HK2.out (fun _ _ => id) _ _ HM.out)).mono ?_
       rintro e w3 ⟨r0, rfl, hr1, hr2, hk3⟩
       clear t0 t1 t2 t3 t4 t5 t6
       have HK3 := hide (HK2.out.trans' hk3 (fun _ _ => id) (fun _ _ => id) : Keeps NoB w w3)
       have HB3 := hide (HB2.out.keep hk3 id)
       clear hk3)
    | fail
  go_cut [5] (fun s5 wx => ∃ r : Int, s5 = .int .i64 r ∧ Keeps NoB w3 wx)
  case first =>
    go_wp2_with fail
    go_loopg [5, 6] n (fun g s5 s6 wx => ∃ (i : Nat) (r : Int), i ≤ n ∧ g = n - i ∧ s5 = .int .i64 r ∧ s6 = .int .i64 i ∧ 1 ≤ r ∧ r ≤ 6000 + 281474976710656 ∧ Keeps NoB w3 wx)
    case atStart => exact ⟨0, r0, Nat.zero_le _, rfl, rfl, rfl, by omega, by omega, Keeps.refl _ _⟩
    case round =>
      obtain ⟨i, r, hi, rfl, rfl, rfl, hr1, hr2, hkw⟩ := hrel
      have HKW := hide hkw; clear hkw
      have hi0 : (0 : Int) ≤ i := by omega
      by_cases hin : i < n
      · have hiz : (i : Int) < n := by omega
        by_cases hrm : r ≤ 3000
        · have hkk : Keeps NoB w wr := HK3.out.trans' HKW.out (fun _ _ => id) (fun _ _ => id)
          obtain ⟨b, o, kd', ng', la', ln', lc', tx', nm', ia', im', ic', ta', tn', tc', u, hA, h1, h2, hu, f0, f1, f2, f3, f4, f5, f6⟩ := cells_at (HR.out.keep hkk (fun _ _ => id)) (TermsIn.keep hkk (fun _ _ => id) _ _ HT.out) i hin
          subst hA
          have HT2 := hide h2; have HFU := hide (fitsTs_at HFS.out h1)
          clear h1 h2 hu hkk
          go_wp2_with
            first
            | (go_at_call 25
               refine (terms_of_any u HFU.out _ (fun k => k < w.heap.size) false _ _ _ _ _ _ _ _ _ _ _ _ _ HT2.out).mono ?_
               rintro e w4 ⟨s, rfl, hs1, hs2, hk2⟩
               have HKS := hide (HKW.out.trans' hk2 (fun _ _ => id) (fun _ _ => id) : Keeps NoB w3 w4)
               clear hk2)
            | fail
          go_roundg (n - (i + 1))
          case measure => omega
          case rel => exact ⟨i + 1, r + s, by omega, rfl, by go_num, by go_num, by omega, by omega, HKS.out⟩
        · have hrm' : 3000 < r := by omega
          clear hrm
          go_wp2
          go_meet
          exact ⟨r, rfl, HKW.out⟩
      · have hiz : (n : Int) ≤ i := by omega
        go_wp2
        go_meet
        exact ⟨r, rfl, HKW.out⟩
  case rest =>
    obtain ⟨r, rfl, hkw⟩ := hcut
    have HKC := hide (HK3.out.trans' hkw (fun _ _ => id) (fun _ _ => id) : Keeps NoB w wc)
    have HBC := hide (HB3.out.keep hkw id)
    clear hkw hr1 hr2 HK2 HK3 HB2 HB3
    by_cases h80 : n ≤ 80
    · have hz : (n : Int) ≤ 80 := by omega
      by_cases h3 : r ≤ 3000
      · go_wp2_with
          first
          | (go_at_call 9
             refine (new_any _).mono ?_
             rintro e w' ⟨rfl, rfl⟩)
          | fail
        have HI := hide (show PutInv wc (wc.alloc (.cells #[.slice none 0 0, .int .i64 0, .bool true] 61)) wc.heap.size us 0 from ⟨.slice none 0 0, [], ⟨box_new wc, (Keeps.refl NoB wc).alloc _, Nat.le_refl _, (fun g e => by simp [Value.ownBlock] at e)⟩, rfl, Nat.zero_le _⟩)
        generalize wc.alloc (.cells #[.slice none 0 0, .int .i64 0, .bool true] 61) = w4 at *
        have HBL := hide (show wc.heap.size ≤ wc.heap.size from Nat.le_refl _)
        have HTB := hide (HBC.out.lt)
        generalize hbb : wc.heap.size = b at HI HBL HTB ⊢
        have HBB := hide hbb; clear hbb
        go_loopg [8] n (fun g s8 wx => ∃ i : Nat, i ≤ n ∧ g = n - i ∧ s8 = .int .i64 i ∧ PutInv wc wx b us i)
        case atStart => exact ⟨0, Nat.zero_le _, rfl, rfl, HI.out⟩
        case round =>
          clear HI
          obtain ⟨i, hi, rfl, rfl, sv, L, hrun, hmm, hil⟩ := hrel
          have HRUN := hide hrun; have HMM := hide hmm; have HIL := hide hil; clear hrun hmm hil
          have hi0 : (0 : Int) ≤ i := by omega
          by_cases hin : i < n
          · have hiz : (i : Int) < n := by omega
            have hkk : Keeps NoB w wr := HKC.out.trans' HRUN.out.keep (fun _ _ => id) (fun _ _ => id)
            obtain ⟨lb, o, kd', ng', la', ln', lc', tx', nm', ia', im', ic', ta', tn', tc', u, hA, h1, h2, hu, f0, f1, f2, f3, f4, f5, f6⟩ := cells_at (HR.out.keep hkk (fun _ _ => id)) (TermsIn.keep hkk (fun _ _ => id) _ _ HT.out) i hin
            subst hA
            have HT2 := hide h2; have HU := hide h1
            have HLL := hide (taken_len HMM.out HIL.out)
            clear h1 h2 hu hkk
            go_wp2_with
              first
              | (go_at_call 10
                 refine (put_yes b sv L 0 _ HRUN.out.box (by have := HLL.out; omega) _ _ _ _ _ _ _ _ _ _ _ _ _ u _ _ HT2.out).mono ?_
                 rintro e w5 ⟨sv', x, rfl, hxt, hx0, hbox, hkeep, hown⟩
                 have HN := hide (HMM.out |> fun h => PutInv.step HRUN.out h HU.out hxt hbox hkeep hown)
                 clear hbox hkeep hxt hx0 hown)
              | fail
            go_roundg (n - (i + 1))
            case measure => omega
            case rel => exact ⟨i + 1, by omega, rfl, by go_num, HN.out⟩
          · obtain rfl : i = n := by omega
            have hmm2 : L.map (·.t) = us := by rw [HMM.out, ← HLEN.out, List.take_length]
            have HM2 := hide hmm2
            have HLL := hide (taken_len HMM.out HIL.out)
            clear HMM HIL hmm2
            go_wp2_with
              first
              | (go_at_call 23
                 refine (begin_box b sv L 0 _ HRUN.out.box).mono ?_
                 rintro e w5 ⟨rfl, hbox, hkeep⟩
                 have HR5 := hide (show Run wc w5 b sv L 0 from HRUN.out.turn (hkeep.mono (fun _ _ e => .inl e)) hbox (.inl rfl))
                 clear hbox hkeep)
              | fail
            clear HRUN
            go_loopg [9] i (fun g s9 wx => ∃ k : Nat, k ≤ i ∧ g = i - k ∧ s9 = .int .i64 k ∧ Run wc wx b sv L k)
            case atStart => exact ⟨0, Nat.zero_le _, rfl, rfl, HR5.out⟩
            case round =>
              clear HR5
              obtain ⟨k, hk, rfl, rfl, hrun⟩ := hrel
              have HRUN := hide hrun; clear hrun
              have hk0 : (0 : Int) ≤ k := by omega
              by_cases hki : k < i
              · have hkz : (k : Int) < i := by omega
                obtain ⟨lb, o, kd', ng', la', ln', lc', tx', nm', ia', im', ic', ta', tn', tc', u, hA, h1, h2, hu, f0, f1, f2, f3, f4, f5, f6⟩ := cells_at HR.out HT.out k hki
                subst hA
                have hlb : lb < b := by have h3 : lb < w.heap.size := World.block_lt_of_cell? w _ f0; have h4 := HKC.out.size; have h5 := HBB.out; omega
                obtain ⟨x, hx, hxt⟩ := nth_term HM2.out h1
                have HT2 := hide h2; have HX := hide hx; have HXT := hide hxt
                have HC := hide (And.intro f0 (And.intro f1 (And.intro f2 (And.intro f3 (And.intro f4 (And.intro f5 f6))))))
                clear h1 h2 hu hx hxt f0 f1 f2 f3 f4 f5 f6
                have hL : L.length ≤ 1024 := by have := HLL.out; omega
                have mk1 : True := trivial
                go_wp2_with
                  first
                  | (go_at_call 26
                     clear mk1
                     refine (next_told b sv L k x u _ HRUN.out.box HX.out HXT.out hL).mono ?_
                     rintro e wA ⟨akd, ang, ala, aln, alc, atx, anm, aia, aim, aic, ata, atn, atc, rfl, hT, hkA⟩
                     have HRA := hide ((HRUN.out.fresh hkA).fresh ((Keeps.refl NoB wA).alloc (.cells #[.int .u8 akd, .bool ang, .slice ala aln alc, .string atx, .int .i64 anm, .slice aia aim aic, .slice ata atn atc] 33)))
                     have HTA := hide (TermIn.keep ((Keeps.refl NoB wA).alloc (.cells #[.int .u8 akd, .bool ang, .slice ala aln alc, .string atx, .int .i64 anm, .slice aia aim aic, .slice ata atn atc] 33)) (fun _ _ => id) _ _ hT)
                     have HBA := hide (Blk.new wA 33 #[.int .u8 akd, .bool ang, .slice ala aln alc, .string atx, .int .i64 anm, .slice aia aim aic, .slice ata atn atc])
                     have hba : b < wA.heap.size := (HRUN.out.fresh hkA).box.blk.lt
                     clear hT hkA)
                  | (go_at_call 26
                     refine (next_told b sv L k x u _ HRA.out.box HX.out HXT.out hL).mono ?_
                     rintro e wB ⟨bkd, bng, bla, bln, blc, btx, bnm, bia, bim, bic, bta, btn, btc, rfl, hT, hkB⟩
                     have hkB' : Keeps NoB (wA.alloc (.cells #[.int .u8 akd, .bool ang, .slice ala aln alc, .string atx, .int .i64 anm, .slice aia aim aic, .slice ata atn atc] 33)) (wB.alloc (.cells #[.int .u8 bkd, .bool bng, .slice bla bln blc, .string btx, .int .i64 bnm, .slice bia bim bic, .slice bta btn btc] 33)).drew := (hkB.alloc _).drew
                     have HRB := hide (HRA.out.fresh hkB')
                     have HTB := hide (TermIn.keep (((Keeps.refl NoB wB).alloc (.cells #[.int .u8 bkd, .bool bng, .slice bla bln blc, .string btx, .int .i64 bnm, .slice bia bim bic, .slice bta btn btc] 33)).drew) (fun _ _ => id) _ _ hT)
                     have HTA2 := hide (TermIn.keep hkB' (fun _ _ => id) _ _ HTA.out)
                     have HBA2 := hide (HBA.out.keep hkB' id)
                     have HBB2 := hide ((Blk.new wB 33 #[.int .u8 bkd, .bool bng, .slice bla bln blc, .string btx, .int .i64 bnm, .slice bia bim bic, .slice bta btn btc]).drew)
                     have hbb2 : b < wB.heap.size := (HRA.out.fresh hkB).box.blk.lt
                     clear hT hkB hkB')
                  | fail
                clear HRA HTA HBA
                refine order_begin (fun W => Keeps (fun j => j = b) (wB.alloc (.cells #[.int .u8 bkd, .bool bng, .slice bla bln blc, .string btx, .int .i64 bnm, .slice bia bim bic, .slice bta btn btc] 33)).drew W) (fun _ => true) (by kernel_rfl) 29 rfl ?_
                generalize (wB.alloc (.cells #[.int .u8 bkd, .bool bng, .slice bla bln blc, .string btx, .int .i64 bnm, .slice bia bim bic, .slice bta btn btc] 33)).drew = W0 at *
                have HKW := hide (HKC.out.trans' HRB.out.keep (fun _ _ => id) (fun _ _ => id) : Keeps NoB w W0)
                have HC0 := hide (And.intro (HKW.out.cell id HC.out.1) (And.intro (HKW.out.cell id HC.out.2.1) (And.intro (HKW.out.cell id HC.out.2.2.1) (And.intro (HKW.out.cell id HC.out.2.2.2.1) (And.intro (HKW.out.cell id HC.out.2.2.2.2.1) (And.intro (HKW.out.cell id HC.out.2.2.2.2.2.1) (HKW.out.cell id HC.out.2.2.2.2.2.2)))))))
                have HCA := hide (And.intro (HBA2.out.cell 0) (And.intro (HBA2.out.cell 1) (And.intro (HBA2.out.cell 2) (And.intro (HBA2.out.cell 3) (And.intro (HBA2.out.cell 4) (And.intro (HBA2.out.cell 5) (HBA2.out.cell 6)))))))
                have HCB := hide (And.intro (HBB2.out.cell 0) (And.intro (HBB2.out.cell 1) (And.intro (HBB2.out.cell 2) (And.intro (HBB2.out.cell 3) (And.intro (HBB2.out.cell 4) (And.intro (HBB2.out.cell 5) (HBB2.out.cell 6)))))))
                have hnA : ¬ wA.heap.size = b := by omega
                have hnB : ¬ wB.heap.size = b := by omega
                have hnl : ¬ lb = b := by omega
                have HS : Keeps (fun j => j = b) W0 W0 := Keeps.refl _ _
                generalize wA.heap.size = gA at *
                generalize wB.heap.size = gB at *
                refine order_pure (i := 0) rfl (by kernel_rfl) (fun _ _ _ h => h) (.inl ⟨rfl, fun _ => by go_simp; rfl⟩) ?_
                try simp only [Act.put, List.setIfInBounds_toArray, List.set_cons_succ, List.set_cons_zero]
                refine order_pure (i := 1) rfl (by kernel_rfl) (fun _ _ _ h => h) (.inl ⟨rfl, fun _ => by go_simp; rfl⟩) ?_
                try simp only [Act.put, List.setIfInBounds_toArray, List.set_cons_succ, List.set_cons_zero]
                refine order_pure (i := 2) rfl (by kernel_rfl) (fun _ _ _ h => h) (.inl ⟨rfl, fun _ => by go_simp; rfl⟩) ?_
                try simp only [Act.put, List.setIfInBounds_toArray, List.set_cons_succ, List.set_cons_zero]
                refine order_pure (i := 3) rfl (by kernel_rfl) (fun _ _ _ h => h) (.inl ⟨rfl, fun _ => by go_simp; rfl⟩) ?_
                try simp only [Act.put, List.setIfInBounds_toArray, List.set_cons_succ, List.set_cons_zero]
                refine order_pure (i := 4) rfl (by kernel_rfl) (fun _ _ _ h => h) (.inl ⟨rfl, fun _ => by go_simp; rfl⟩) ?_
                try simp only [Act.put, List.setIfInBounds_toArray, List.set_cons_succ, List.set_cons_zero]
                refine order_pure (i := 5) rfl (by kernel_rfl) (fun _ _ _ h => h) (.inl ⟨rfl, fun _ => by go_simp; rfl⟩) ?_
                try simp only [Act.put, List.setIfInBounds_toArray, List.set_cons_succ, List.set_cons_zero]
                refine order_pure (i := 6) rfl (by kernel_rfl) (fun _ _ _ h => h) (.inl ⟨rfl, fun _ => by go_simp; rfl⟩) ?_
                try simp only [Act.put, List.setIfInBounds_toArray, List.set_cons_succ, List.set_cons_zero]
                refine order_held (i := 7) rfl (by kernel_rfl) (fun _ _ _ h => h) (.inl ⟨rfl, fun W hW => by
                  have q0 : W.cell? ⟨gA, 0, none⟩ = some (.int .u8 akd) := hW.cell hnA HCA.out.1
                  have q1 : W.cell? ⟨gA, 1, none⟩ = some (.bool ang) := hW.cell hnA HCA.out.2.1
                  have q2 : W.cell? ⟨gA, 2, none⟩ = some (.slice ala aln alc) := hW.cell hnA HCA.out.2.2.1
                  have q3 : W.cell? ⟨gA, 3, none⟩ = some (.string atx) := hW.cell hnA HCA.out.2.2.2.1
                  have q4 : W.cell? ⟨gA, 4, none⟩ = some (.int .i64 anm) := hW.cell hnA HCA.out.2.2.2.2.1
                  have q5 : W.cell? ⟨gA, 5, none⟩ = some (.slice aia aim aic) := hW.cell hnA HCA.out.2.2.2.2.2.1
                  have q6 : W.cell? ⟨gA, 6, none⟩ = some (.slice ata atn atc) := hW.cell hnA HCA.out.2.2.2.2.2.2
                  go_simp; rfl⟩) HS ?_
                try simp only [Act.put, List.setIfInBounds_toArray, List.set_cons_succ, List.set_cons_zero]
                refine order_pure (i := 8) rfl (by kernel_rfl) (fun _ _ _ h => h) (.inl ⟨rfl, fun _ => by go_simp; rfl⟩) ?_
                try simp only [Act.put, List.setIfInBounds_toArray, List.set_cons_succ, List.set_cons_zero]
                refine order_pure (i := 9) rfl (by kernel_rfl) (fun _ _ _ h => h) (.inl ⟨rfl, fun _ => by go_simp; rfl⟩) ?_
                try simp only [Act.put, List.setIfInBounds_toArray, List.set_cons_succ, List.set_cons_zero]
                refine order_pure (i := 10) rfl (by kernel_rfl) (fun _ _ _ h => h) (.inl ⟨rfl, fun _ => by go_simp; rfl⟩) ?_
                try simp only [Act.put, List.setIfInBounds_toArray, List.set_cons_succ, List.set_cons_zero]
                refine order_held (i := 11) rfl (by kernel_rfl) (fun _ _ _ h => h) (.inl ⟨rfl, fun W hW => by
                  have q0 : W.cell? ⟨lb, o + k * 7, none⟩ = some (.int .u8 kd') := hW.cell hnl HC0.out.1
                  have q1 : W.cell? ⟨lb, o + k * 7 + 1, none⟩ = some (.bool ng') := hW.cell hnl HC0.out.2.1
                  have q2 : W.cell? ⟨lb, o + k * 7 + 2, none⟩ = some (.slice la' ln' lc') := hW.cell hnl HC0.out.2.2.1
                  have q3 : W.cell? ⟨lb, o + k * 7 + 3, none⟩ = some (.string tx') := hW.cell hnl HC0.out.2.2.2.1
                  have q4 : W.cell? ⟨lb, o + k * 7 + 4, none⟩ = some (.int .i64 nm') := hW.cell hnl HC0.out.2.2.2.2.1
                  have q5 : W.cell? ⟨lb, o + k * 7 + 5, none⟩ = some (.slice ia' im' ic') := hW.cell hnl HC0.out.2.2.2.2.2.1
                  have q6 : W.cell? ⟨lb, o + k * 7 + 6, none⟩ = some (.slice ta' tn' tc') := hW.cell hnl HC0.out.2.2.2.2.2.2
                  go_simp; rfl⟩) HS ?_
                try simp only [Act.put, List.setIfInBounds_toArray, List.set_cons_succ, List.set_cons_zero]
                refine order_one (i := 12) rfl (by kernel_rfl) (fun K hK => ?_)
                go_simp
                refine (same_self u W0 _ _ _ _ [.int .u8 akd, .bool ang, .slice ala aln alc, .string atx, .int .i64 anm, .slice aia aim aic, .slice ata atn atc] [.int .u8 kd', .bool ng', .slice la' ln' lc', .string tx', .int .i64 nm', .slice ia' im' ic', .slice ta' tn' tc'] HTA2.out (TermIn.keep HKW.out (fun _ _ => id) _ _ HT2.out)).mono ?_
                rintro e wE ⟨rfl, hkE⟩
                refine hK _ _ (fun _ hS => hS.trans' hkE (fun _ _ => id) (fun _ _ h => h.elim)) ?_
                clear hK
                have HKE := hide hkE
                clear HS
                have HS : Keeps (fun j => j = b) W0 wE := hkE.mono (fun _ _ h => h.elim)
                clear hkE
                try simp only [Act.put, List.setIfInBounds_toArray, List.set_cons_succ, List.set_cons_zero]
                refine order_pure (i := 13) rfl (by kernel_rfl) (fun _ _ _ h => h) (.inl ⟨rfl, fun _ => by go_simp; rfl⟩) ?_
                try simp only [Act.put, List.setIfInBounds_toArray, List.set_cons_succ, List.set_cons_zero]
                refine order_pure (i := 14) rfl (by kernel_rfl) (fun _ _ _ h => h) (.inl ⟨rfl, fun _ => by go_simp; rfl⟩) ?_
                try simp only [Act.put, List.setIfInBounds_toArray, List.set_cons_succ, List.set_cons_zero]
                refine order_pure (i := 15) rfl (by kernel_rfl) (fun _ _ _ h => h) (.inl ⟨rfl, fun _ => by go_simp; rfl⟩) ?_
                try simp only [Act.put, List.setIfInBounds_toArray, List.set_cons_succ, List.set_cons_zero]
                refine order_held (i := 16) rfl (by kernel_rfl) (fun _ _ _ h => h) (.inl ⟨rfl, fun W hW => by
                  have q0 : W.cell? ⟨gB, 0, none⟩ = some (.int .u8 bkd) := hW.cell hnB HCB.out.1
                  have q1 : W.cell? ⟨gB, 1, none⟩ = some (.bool bng) := hW.cell hnB HCB.out.2.1
                  have q2 : W.cell? ⟨gB, 2, none⟩ = some (.slice bla bln blc) := hW.cell hnB HCB.out.2.2.1
                  have q3 : W.cell? ⟨gB, 3, none⟩ = some (.string btx) := hW.cell hnB HCB.out.2.2.2.1
                  have q4 : W.cell? ⟨gB, 4, none⟩ = some (.int .i64 bnm) := hW.cell hnB HCB.out.2.2.2.2.1
                  have q5 : W.cell? ⟨gB, 5, none⟩ = some (.slice bia bim bic) := hW.cell hnB HCB.out.2.2.2.2.2.1
                  have q6 : W.cell? ⟨gB, 6, none⟩ = some (.slice bta btn btc) := hW.cell hnB HCB.out.2.2.2.2.2.2
                  go_simp; rfl⟩) HS ?_
                try simp only [Act.put, List.setIfInBounds_toArray, List.set_cons_succ, List.set_cons_zero]
                refine order_pure (i := 17) rfl (by kernel_rfl) (fun _ _ _ h => h) (.inl ⟨rfl, fun _ => by go_simp; rfl⟩) ?_
                try simp only [Act.put, List.setIfInBounds_toArray, List.set_cons_succ, List.set_cons_zero]
                refine order_pure (i := 18) rfl (by kernel_rfl) (fun _ _ _ h => h) (.inl ⟨rfl, fun _ => by go_simp; rfl⟩) ?_
                try simp only [Act.put, List.setIfInBounds_toArray, List.set_cons_succ, List.set_cons_zero]
                refine order_pure (i := 19) rfl (by kernel_rfl) (fun _ _ _ h => h) (.inl ⟨rfl, fun _ => by go_simp; rfl⟩) ?_
                try simp only [Act.put, List.setIfInBounds_toArray, List.set_cons_succ, List.set_cons_zero]
                refine order_held (i := 20) rfl (by kernel_rfl) (fun _ _ _ h => h) (.inl ⟨rfl, fun W hW => by
                  have q0 : W.cell? ⟨lb, o + k * 7, none⟩ = some (.int .u8 kd') := hW.cell hnl HC0.out.1
                  have q1 : W.cell? ⟨lb, o + k * 7 + 1, none⟩ = some (.bool ng') := hW.cell hnl HC0.out.2.1
                  have q2 : W.cell? ⟨lb, o + k * 7 + 2, none⟩ = some (.slice la' ln' lc') := hW.cell hnl HC0.out.2.2.1
                  have q3 : W.cell? ⟨lb, o + k * 7 + 3, none⟩ = some (.string tx') := hW.cell hnl HC0.out.2.2.2.1
                  have q4 : W.cell? ⟨lb, o + k * 7 + 4, none⟩ = some (.int .i64 nm') := hW.cell hnl HC0.out.2.2.2.2.1
                  have q5 : W.cell? ⟨lb, o + k * 7 + 5, none⟩ = some (.slice ia' im' ic') := hW.cell hnl HC0.out.2.2.2.2.2.1
                  have q6 : W.cell? ⟨lb, o + k * 7 + 6, none⟩ = some (.slice ta' tn' tc') := hW.cell hnl HC0.out.2.2.2.2.2.2
                  go_simp; rfl⟩) HS ?_
                try simp only [Act.put, List.setIfInBounds_toArray, List.set_cons_succ, List.set_cons_zero]
                refine order_one (i := 21) rfl (by kernel_rfl) (fun K hK => ?_)
                go_simp
                refine (same_self u wE _ _ _ _ [.int .u8 bkd, .bool bng, .slice bla bln blc, .string btx, .int .i64 bnm, .slice bia bim bic, .slice bta btn btc] [.int .u8 kd', .bool ng', .slice la' ln' lc', .string tx', .int .i64 nm', .slice ia' im' ic', .slice ta' tn' tc'] (TermIn.keep HKE.out (fun _ _ => id) _ _ HTB.out) (TermIn.keep HKE.out (fun _ _ => id) _ _ (TermIn.keep HKW.out (fun _ _ => id) _ _ HT2.out))).mono ?_
                rintro e wF ⟨rfl, hkF⟩
                refine hK _ _ (fun _ hS => hS.trans' hkF (fun _ _ => id) (fun _ _ h => h.elim)) ?_
                clear hK HS
                have HRF := hide ((HRB.out.fresh HKE.out).fresh hkF)
                clear hkF
                try simp only [Act.put, List.setIfInBounds_toArray, List.set_cons_succ, List.set_cons_zero]
                refine order_pure (i := 22) rfl (by kernel_rfl) (fun _ _ _ h => h) (.inl ⟨rfl, fun _ => by go_simp; rfl⟩) ?_
                try simp only [Act.put, List.setIfInBounds_toArray, List.set_cons_succ, List.set_cons_zero]
                refine order_pure (i := 23) rfl (by kernel_rfl) (fun _ _ _ h => h) (.inl ⟨rfl, fun _ => by go_simp; rfl⟩) ?_
                try simp only [Act.put, List.setIfInBounds_toArray, List.set_cons_succ, List.set_cons_zero]
                refine order_pure (i := 24) rfl (by kernel_rfl) (fun _ _ _ h => h) (.inl ⟨rfl, fun _ => by go_simp; rfl⟩) ?_
                try simp only [Act.put, List.setIfInBounds_toArray, List.set_cons_succ, List.set_cons_zero]
                refine order_pure (i := 25) rfl (by kernel_rfl) (fun _ _ _ h => h) (.inl ⟨rfl, fun _ => by go_simp; rfl⟩) ?_
                try simp only [Act.put, List.setIfInBounds_toArray, List.set_cons_succ, List.set_cons_zero]
                refine order_one (i := 26) rfl (by kernel_rfl) (fun K hK => ?_)
                go_simp
                refine (skip_yes b sv L k wF HRF.out.box (by have := HLL.out; omega) hL).mono ?_
                rintro e wG ⟨rfl, hbox, hkeep⟩
                refine hK _ _ (fun _ hS => hS.trans' hkeep (fun _ _ => id) (fun _ _ => id)) ?_
                clear hK
                have HRG := hide (show Run wc wG b sv L (k + 1) from HRF.out.turn (hkeep.mono (fun _ _ e => .inl e)) hbox (.inl rfl))
                clear hbox hkeep
                try simp only [Act.put, List.setIfInBounds_toArray, List.set_cons_succ, List.set_cons_zero]
                refine order_pure (i := 27) rfl (by kernel_rfl) (fun _ _ _ h => h) (.inl ⟨rfl, fun _ => by go_simp; rfl⟩) ?_
                try simp only [Act.put, List.setIfInBounds_toArray, List.set_cons_succ, List.set_cons_zero]
                refine order_pure (i := 28) rfl (by kernel_rfl) (fun _ _ _ h => h) (.inl ⟨rfl, fun _ => by go_simp; rfl⟩) ?_
                try simp only [Act.put, List.setIfInBounds_toArray, List.set_cons_succ, List.set_cons_zero]
                refine order_done (by kernel_rfl) ?_
                go_wp2
                go_roundg (i - (k + 1))
                case measure => omega
                case rel => exact ⟨k + 1, by omega, rfl, by go_num, HRG.out⟩
              · obtain rfl : k = i := by omega
                have hL1 : L.length ≤ k := by have := HLL.out; omega
                have hL2 : L.length < 1024 := by have := HLL.out; omega
                have mk1 : True := trivial
                go_wp2_with
                  first
                  | (go_at_call 26
                     clear mk1
                     refine (next_no b sv L k _ HRUN.out.box hL1).mono ?_
                     rintro e wA ⟨rfl, hkA⟩
                     have HRA := hide ((HRUN.out.fresh hkA).fresh ((Keeps.refl NoB wA).alloc (.cells zeroT 33)))
                     clear hkA)
                  | (go_at_call 14
                     refine (skip_no b sv L k _ HRA.out.box hL1).mono ?_
                     rintro e wB ⟨rfl, hkB⟩
                     have HRB := hide (HRA.out.fresh hkB)
                     have hB := HBC.out.keep HRB.out.keep id
                     have t0 : wB.cell? ⟨w.heap.size, 0, none⟩ = some (.int .u8 kd) := hB.cell 0
                     have t1 : wB.cell? ⟨w.heap.size, 1, none⟩ = some (.bool ng) := hB.cell 1
                     have t2 : wB.cell? ⟨w.heap.size, 2, none⟩ = some (.slice la ln lc) := hB.cell 2
                     have t3 : wB.cell? ⟨w.heap.size, 3, none⟩ = some (.string tx) := hB.cell 3
                     have t4 : wB.cell? ⟨w.heap.size, 4, none⟩ = some (.int .i64 nm) := hB.cell 4
                     have t5 : wB.cell? ⟨w.heap.size, 5, none⟩ = some (.slice ia im ic) := hB.cell 5
                     have t6 : wB.cell? ⟨w.heap.size, 6, none⟩ = some (.slice ta tn tc) := hB.cell 6
                     clear hkB hB)
                  | (go_at_call 10
                     clear t0 t1 t2 t3 t4 t5 t6
                     refine (put_yes b sv L k _ HRB.out.box hL2 _ _ _ _ _ _ _ _ _ _ _ _ _ more _ _ (TermIn.keep (HKC.out.trans' HRB.out.keep (fun _ _ => id) (fun _ _ => id) : Keeps NoB w _) (fun _ _ => id) _ _ HM.out)).mono ?_
                     rintro e wC ⟨sv', y, rfl, hyt, hy0, hbox, hkeep, hown⟩
                     have HRC := hide (HRB.out.turn hkeep hbox hown)
                     have HYT := hide hyt
                     clear hyt hy0 hbox hkeep hown)
                  | (go_at_call 26
                     refine (next_told b sv' (L ++ [y]) k y more _ HRC.out.box (last_at HLL.out y) HYT.out (by rw [last_len HLL.out y]; omega)).mono ?_
                     rintro e wD ⟨akd, ang, ala, aln, alc, atx, anm, aia, aim, aic, ata, atn, atc, rfl, hT, hkD⟩
                     have HRD := hide ((HRC.out.fresh hkD).fresh ((Keeps.refl NoB wD).alloc (.cells #[.int .u8 akd, .bool ang, .slice ala aln alc, .string atx, .int .i64 anm, .slice aia aim aic, .slice ata atn atc] 33)))
                     have HTD := hide (TermIn.keep ((Keeps.refl NoB wD).alloc (.cells #[.int .u8 akd, .bool ang, .slice ala aln alc, .string atx, .int .i64 anm, .slice aia aim aic, .slice ata atn atc] 33)) (fun _ _ => id) _ _ hT)
                     have hB := HBC.out.keep HRD.out.keep id
                     have hA := Blk.new wD 33 #[.int .u8 akd, .bool ang, .slice ala aln alc, .string atx, .int .i64 anm, .slice aia aim aic, .slice ata atn atc]
                     have t0 : (wD.alloc (.cells #[.int .u8 akd, .bool ang, .slice ala aln alc, .string atx, .int .i64 anm, .slice aia aim aic, .slice ata atn atc] 33)).cell? ⟨w.heap.size, 0, none⟩ = some (.int .u8 kd) := hB.cell 0
                     have t1 : (wD.alloc (.cells #[.int .u8 akd, .bool ang, .slice ala aln alc, .string atx, .int .i64 anm, .slice aia aim aic, .slice ata atn atc] 33)).cell? ⟨w.heap.size, 1, none⟩ = some (.bool ng) := hB.cell 1
                     have t2 : (wD.alloc (.cells #[.int .u8 akd, .bool ang, .slice ala aln alc, .string atx, .int .i64 anm, .slice aia aim aic, .slice ata atn atc] 33)).cell? ⟨w.heap.size, 2, none⟩ = some (.slice la ln lc) := hB.cell 2
                     have t3 : (wD.alloc (.cells #[.int .u8 akd, .bool ang, .slice ala aln alc, .string atx, .int .i64 anm, .slice aia aim aic, .slice ata atn atc] 33)).cell? ⟨w.heap.size, 3, none⟩ = some (.string tx) := hB.cell 3
                     have t4 : (wD.alloc (.cells #[.int .u8 akd, .bool ang, .slice ala aln alc, .string atx, .int .i64 anm, .slice aia aim aic, .slice ata atn atc] 33)).cell? ⟨w.heap.size, 4, none⟩ = some (.int .i64 nm) := hB.cell 4
                     have t5 : (wD.alloc (.cells #[.int .u8 akd, .bool ang, .slice ala aln alc, .string atx, .int .i64 anm, .slice aia aim aic, .slice ata atn atc] 33)).cell? ⟨w.heap.size, 5, none⟩ = some (.slice ia im ic) := hB.cell 5
                     have t6 : (wD.alloc (.cells #[.int .u8 akd, .bool ang, .slice ala aln alc, .string atx, .int .i64 anm, .slice aia aim aic, .slice ata atn atc] 33)).cell? ⟨w.heap.size, 6, none⟩ = some (.slice ta tn tc) := hB.cell 6
                     have x0 : (wD.alloc (.cells #[.int .u8 akd, .bool ang, .slice ala aln alc, .string atx, .int .i64 anm, .slice aia aim aic, .slice ata atn atc] 33)).cell? ⟨wD.heap.size, 0, none⟩ = some (.int .u8 akd) := hA.cell 0
                     have x1 : (wD.alloc (.cells #[.int .u8 akd, .bool ang, .slice ala aln alc, .string atx, .int .i64 anm, .slice aia aim aic, .slice ata atn atc] 33)).cell? ⟨wD.heap.size, 1, none⟩ = some (.bool ang) := hA.cell 1
                     have x2 : (wD.alloc (.cells #[.int .u8 akd, .bool ang, .slice ala aln alc, .string atx, .int .i64 anm, .slice aia aim aic, .slice ata atn atc] 33)).cell? ⟨wD.heap.size, 2, none⟩ = some (.slice ala aln alc) := hA.cell 2
                     have x3 : (wD.alloc (.cells #[.int .u8 akd, .bool ang, .slice ala aln alc, .string atx, .int .i64 anm, .slice aia aim aic, .slice ata atn atc] 33)).cell? ⟨wD.heap.size, 3, none⟩ = some (.string atx) := hA.cell 3
                     have x4 : (wD.alloc (.cells #[.int .u8 akd, .bool ang, .slice ala aln alc, .string atx, .int .i64 anm, .slice aia aim aic, .slice ata atn atc] 33)).cell? ⟨wD.heap.size, 4, none⟩ = some (.int .i64 anm) := hA.cell 4
                     have x5 : (wD.alloc (.cells #[.int .u8 akd, .bool ang, .slice ala aln alc, .string atx, .int .i64 anm, .slice aia aim aic, .slice ata atn atc] 33)).cell? ⟨wD.heap.size, 5, none⟩ = some (.slice aia aim aic) := hA.cell 5
                     have x6 : (wD.alloc (.cells #[.int .u8 akd, .bool ang, .slice ala aln alc, .string atx, .int .i64 anm, .slice aia aim aic, .slice ata atn atc] 33)).cell? ⟨wD.heap.size, 6, none⟩ = some (.slice ata atn atc) := hA.cell 6
                     clear hT hkD hB hA)
                  | (go_at_call 27
                     clear t0 t1 t2 t3 t4 t5 t6 x0 x1 x2 x3 x4 x5 x6
                     refine (same_self more _ _ _ _ _ [.int .u8 akd, .bool ang, .slice ala aln alc, .string atx, .int .i64 anm, .slice aia aim aic, .slice ata atn atc] [.int .u8 kd, .bool ng, .slice la ln lc, .string tx, .int .i64 nm, .slice ia im ic, .slice ta tn tc] HTD.out (TermIn.keep (HKC.out.trans' HRD.out.keep (fun _ _ => id) (fun _ _ => id) : Keeps NoB w _) (fun _ _ => id) _ _ HM.out)).mono ?_
                     rintro e wE ⟨rfl, hkE⟩
                     have HRE := hide (HRD.out.fresh hkE)
                     clear hkE)
                  | (go_at_call 13
                     refine (len_box' b sv' (L ++ [y]) k ((k : Int) + 1) _ HRE.out.box (by rw [last_len HLL.out y]; rfl)).mono ?_
                     rintro e w' ⟨rfl, rfl⟩)
                  | (go_at_call 24
                     refine (all_box' b sv' (L ++ [y]) k (k + 1) (us ++ [more]) _ HRE.out.box (last_len HLL.out y) (by rw [List.map_append, HM2.out, List.map_singleton, HYT.out]) (by omega)).mono ?_
                     rintro e wF ⟨A', c', css', m', rfl, h1, h2, h3, h4, h5, h6⟩
                     obtain ⟨ad, rfl, hsp, _⟩ := h4.2 (by omega)
                     obtain ⟨gb, go', sp⟩ := ad
                     simp only at hsp
                     subst hsp
                     have hkc : (k : Int) ≤ c' := by omega
                     have HRdF := hide ((h4.more (B' := fun _ => True) (fun _ _ _ => trivial)).pre (m := k) (by omega))
                     have HTsF := hide (TermsIn.pre k (TermsIn.more (B' := fun _ => True) (fun _ _ _ => trivial) _ _ h5))
                     have HL7 := hide h5.lens
                     have HRF := hide (HRE.out.fresh (Keeps.of_below h6 NoB))
                     clear h1 h2 h3 h4 h5 h6)
                  | (go_at_call 28
                     refine (sames_self us (css'.take k) css (some ⟨gb, go', none⟩) A k c' k c _ _ _ _ _ (by rw [flat_take HL7.out.2]; exact HRdF.out) (by have h := HTsF.out; rw [List.take_left' HLEN.out] at h; exact h) (HR.out.keep (HKC.out.trans' HRF.out.keep (fun _ _ => id) (fun _ _ => id) : Keeps NoB w _) (fun _ _ => id)) (TermsIn.keep (HKC.out.trans' HRF.out.keep (fun _ _ => id) (fun _ _ => id) : Keeps NoB w _) (fun _ _ => id) _ _ HT.out) HRO.out).mono ?_
                     rintro e wG ⟨rfl, hkG⟩
                     have HRG := hide (HRF.out.fresh hkG)
                     clear hkG)
                  | fail
                go_ret
                exact ⟨rfl, HKC.out.trans' HRG.out.keep (fun _ _ => id) (fun _ _ => id)⟩
      · have h3' : 3000 < r := by omega
        clear h3
        go_wp2
        go_ret
        exact ⟨rfl, HKC.out⟩
    · have hz : 80 < (n : Int) := by omega
      clear h80
      go_wp2
      go_ret
      exact ⟨rfl, HKC.out⟩
end Go.Proofs.Ytmkidkfofbnjgaa
