/- match: what is known of the values that come up in a drawing region. Printed by mkmatreg.py. law11.pattern and law11.filled as plain laws: a pattern matches its own term, what it binds fills it again. A pattern of a term matches it; whatever it matches, it fills again. match: what is known of terms and lists of terms that come up in a drawing region, with the blocks that they lie in. term.Cons, of the parts of a right list: the list. Printed by mkmatcons.py. -/
import Derived.Test.YtjdbjjjbgibpaaaGreatDoorMatCJn
import Derived.Test.YtjdbjjjbgibpaaaGreatDoorSeq7Jn
import Derived.Test.YtjdbjjjbgibpaaaGreatDoorBifSJn
import Derived.Test.YtjdbjjjbgibpaaaGreatDoorMatTJn
import Derived.Test.YtjdbjjjbgibpaaaGreatDoorTmCopyJn
namespace Go.Proofs.YtjdbjjjbgibpaaaGreatDoor
open Go.RowKit

abbrev TT : Nat → Prop := fun _ => True
def zeroTm : Tm := .mk 0 false [] ByteArray.empty 0 [] []
def TermV (t : Tm) : KF := ⟨fun w v => ∃ (kd' : Int) (ng' : Bool) (la' : Option Addr) (ln' lc' : Nat) (tx' : ByteArray) (nm' : Int) (ia' : Option Addr) (im' ic' : Nat) (ta' : Option Addr) (tn' tc' : Nat), v = .agg #[.int .u8 kd', .bool ng', .slice la' ln' lc', .string tx', .int .i64 nm', .slice ia' im' ic', .slice ta' tn' tc'] ∧ TermIn w TT false [.int .u8 kd', .bool ng', .slice la' ln' lc', .string tx', .int .i64 nm', .slice ia' im' ic', .slice ta' tn' tc'] t, fun w w' v hk h => by
  obtain ⟨kd', ng', la', ln', lc', tx', nm', ia', im', ic', ta', tn', tc', rfl, h⟩ := h
  exact ⟨kd', ng', la', ln', lc', tx', nm', ia', im', ic', ta', tn', tc', rfl, TermIn.keep hk (fun _ _ => id) _ _ h⟩⟩
def CoreV (p : Co) : KF := ⟨fun w v => ∃ (kd : Int) (tx : ByteArray) (nm tk : Int) (ng : Bool) (la : Option Addr) (ln lc : Nat) (tt : ByteArray) (tn : Int) (ia : Option Addr) (im ic : Nat) (ta : Option Addr) (tm tc : Nat) (ka : Option Addr) (kn kc : Nat), v = .agg #[.int .u8 kd, .string tx, .int .i64 nm, .int .u8 tk, .bool ng, .slice la ln lc, .string tt, .int .i64 tn, .slice ia im ic, .slice ta tm tc, .slice ka kn kc] ∧ CoreIn w TT false [.int .u8 kd, .string tx, .int .i64 nm, .int .u8 tk, .bool ng, .slice la ln lc, .string tt, .int .i64 tn, .slice ia im ic, .slice ta tm tc, .slice ka kn kc] p, fun w w' v hk h => by
  obtain ⟨kd, tx, nm, tk, ng, la, ln, lc, tt, tn, ia, im, ic, ta, tm, tc, ka, kn, kc, rfl, h⟩ := h
  exact ⟨kd, tx, nm, tk, ng, la, ln, lc, tt, tn, ia, im, ic, ta, tm, tc, ka, kn, kc, rfl, CoreIn.keep hk (fun _ _ => id) _ _ h⟩⟩
def CoresV (ks : List Co) : KF := ⟨fun w v => ∃ (A : Option Addr) (n c : Nat) (kcss : List (List Value)), v = .slice A n c ∧ Roomy n 160 ∧ Reads w TT false 11 A n kcss.flatten ∧ CoresIn w TT false kcss ks, fun w w' v hk h => by
  obtain ⟨A, n, c, kcss, rfl, h1, h2, h3⟩ := h
  exact ⟨A, n, c, kcss, rfl, h1, h2.keep hk (fun _ _ => id), CoresIn.keep hk (fun _ _ => id) _ _ h3⟩⟩
def VarsV (s : VSt) : KF := ⟨fun w v => ∃ (A : Option Addr) (n c : Nat) (D : Option Addr) (m d : Nat) (css : List (List Value)), v = .agg #[.slice A n c, .slice D m d] ∧ VIn w TT A n c D m d css s ∧ okTs s.vals ∧ s.made, fun w w' v hk h => by
  obtain ⟨A, n, c, D, m, d, css, rfl, h1, h2, h3⟩ := h
  exact ⟨A, n, c, D, m, d, css, rfl, h1.keep hk (fun _ _ => id), h2, h3⟩⟩
def MatchV (r : Option VSt) : KF := ⟨fun w v => ∃ (A : Option Addr) (n c : Nat) (D : Option Addr) (m d : Nat) (css : List (List Value)), v = .tuple #[.agg #[.slice A n c, .slice D m d], .bool r.isSome] ∧ VIn w TT A n c D m d css (r.getD noV) ∧ okTs (r.getD noV).vals ∧ (r.getD noV).made, fun w w' v hk h => by
  obtain ⟨A, n, c, D, m, d, css, rfl, h1, h2, h3⟩ := h
  exact ⟨A, n, c, D, m, d, css, rfl, h1.keep hk (fun _ _ => id), h2, h3⟩⟩
theorem core_lit {w : World} {p : Co} {kd : Int} {tx : ByteArray} {nm tk : Int} {ng : Bool} {la : Option Addr} {ln lc : Nat} {tt : ByteArray} {tn : Int} {ia : Option Addr} {im ic : Nat} {ta : Option Addr} {tm tc : Nat} {ka : Option Addr} {kn kc : Nat} (h : (CoreV p).say w (.agg #[.int .u8 kd, .string tx, .int .i64 nm, .int .u8 tk, .bool ng, .slice la ln lc, .string tt, .int .i64 tn, .slice ia im ic, .slice ta tm tc, .slice ka kn kc])) : CoreIn w TT false [.int .u8 kd, .string tx, .int .i64 nm, .int .u8 tk, .bool ng, .slice la ln lc, .string tt, .int .i64 tn, .slice ia im ic, .slice ta tm tc, .slice ka kn kc] p := by
  obtain ⟨_, _, _, _, _, _, _, _, _, _, _, _, _, _, _, _, _, _, _, e9, h9⟩ := h
  injection e9 with e9
  simp only [Array.mk.injEq, List.cons.injEq, Value.int.injEq, Value.bool.injEq, Value.slice.injEq, Value.string.injEq, true_and, and_true] at e9
  obtain ⟨rfl, rfl, rfl, rfl, rfl, ⟨rfl, rfl, rfl⟩, rfl, rfl, ⟨rfl, rfl, rfl⟩, ⟨rfl, rfl, rfl⟩, rfl, rfl, rfl⟩ := e9
  exact h9
def AllocV (N : Nat) : KF := ⟨fun w v => ∃ b, v = .pointer (some ⟨b, 0, none⟩) ∧ N ≤ b ∧ Blk w b 39 #[.slice none 0 0, .slice none 0 0], fun w w' v hk h => by
  obtain ⟨b, rfl, h1, h2⟩ := h
  exact ⟨b, rfl, h1, h2.keep hk id⟩⟩
def TupG (r : Option VSt) (v : Value) : Prop := ∃ x, v = .tuple #[x, .bool r.isSome]
/-- Variables stored in a new block. -/
def StoredV (w0 : World) (s : VSt) (w : World) (v : Value) : Prop := ∃ b, v = .pointer (some ⟨b, 0, none⟩) ∧ w0.heap.size ≤ b ∧ Keeps NoB w0 w ∧ ∃ (A : Option Addr) (n c : Nat) (D : Option Addr) (m d : Nat) (css : List (List Value)), Blk w b 39 #[.slice A n c, .slice D m d] ∧ VIn w TT A n c D m d css s ∧ okTs s.vals ∧ s.made
theorem VIn.avoid {w : World} {B : Nat → Prop} {A D : Option Addr} {n c m d g : Nat} {css : List (List Value)} {v : VSt} (h : VIn w B A n c D m d css v) (hg : Slices w g) : VIn w (fun k => B k ∧ ¬ k = g) A n c D m d css v := by
  refine ⟨reads_avoid h.hb (fun hn => ?_), reads_avoid h.hv (TermsIn.first hg h.hv h.ht), TermsIn.avoid hg _ _ h.ht, h.r1, h.r2⟩
  have hl := h.hb.1
  match hv : v.has, hl with
  | [], hl => simp at hl; omega
  | x :: l, _ => exact ⟨.bool x, by simp, fun o h => by obtain ⟨_, _, _, e⟩ := hg o _ h; cases e⟩
theorem stored_vars {w0 w : World} {b : Nat} {A D : Option Addr} {n c m d : Nat} {css : List (List Value)} {s : VSt} (hk : Keeps NoB w0 w) (hb : Blk w b 39 #[.slice none 0 0, .slice none 0 0]) (hN : w0.heap.size ≤ b) (h : VIn w TT A n c D m d css s) (ho : okTs s.vals) (hm : s.made) :
    StoredV w0 s ((w.setCell ⟨b, 0, none⟩ (.slice A n c)).setCell ⟨b, 1, none⟩ (.slice D m d)) (.pointer (some ⟨b, 0, none⟩)) := by
  have hkb := ((Keeps.refl (fun k => k = b) w).setCell (p := ⟨b, 0, none⟩) (.inl rfl) (.slice A n c)).setCell (p := ⟨b, 1, none⟩) (.inl rfl) (.slice D m d)
  refine ⟨b, rfl, hN, hk.trans' hkb (fun _ _ => id) (fun k hk e => by omega), A, n, c, D, m, d, css, by simpa using (hb.put 0 (.slice A n c)).put 1 (.slice D m d), ?_, ho, hm⟩
  have h2 := (h.avoid hb.slices).keep hkb (fun k hk e => hk.2 e)
  exact ⟨h2.hb.more (fun _ _ _ => trivial), h2.hv.more (fun _ _ _ => trivial), TermsIn.more (fun _ _ _ => trivial) _ _ h2.ht, h2.r1, h2.r2⟩
theorem newV_ok (n : Nat) : okTs (newV n).vals := by
  unfold newV
  induction n with
  | zero => unfold okTs; trivial
  | succ n ih =>
    show okTs (List.replicate (n + 1) _)
    rw [List.replicate_succ]
    unfold okTs
    exact ⟨by unfold okT; exact ⟨by omega, (fun _ h => by cases h), by show (0 : Nat) ≤ _; omega, by omega, by unfold okTs; trivial, by unfold okTs; trivial⟩, ih⟩
theorem newV_made (n : Nat) : (newV n).made := by unfold VSt.made newV; simp
theorem two_core_reads {w : World} {g : Nat} {t : TypeId} {xs ys : List Value} (hb : Blk w g t (xs ++ ys).toArray) (h1 : xs.length = 11) (h2 : ys.length = 11) : Reads w TT false 11 (some ⟨g, 0, none⟩) 2 [xs, ys].flatten := by
  refine ⟨by simp [h1, h2], fun _ => ⟨_, rfl, rfl, trivial, hb.lt, fun j u hu => ⟨?_, fun h => by cases h⟩⟩⟩
  rw [hb.cell, Nat.zero_add]
  simpa using hu
theorem one_core_reads {w : World} {g : Nat} {t : TypeId} {xs : List Value} (hb : Blk w g t xs.toArray) (h1 : xs.length = 11) : Reads w TT false 11 (some ⟨g, 0, none⟩) 1 [xs].flatten := by
  refine ⟨by simp [h1], fun _ => ⟨_, rfl, rfl, trivial, hb.lt, fun j u hu => ⟨?_, fun h => by cases h⟩⟩⟩
  rw [hb.cell, Nat.zero_add]
  simpa using hu
theorem cores_two {w : World} {g : Nat} {t : TypeId} {xs ys : List Value} {p q : Co} (hb : Blk w g t (xs ++ ys).toArray) (h1 : CoreIn w TT false xs p) (h2 : CoreIn w TT false ys q) : (CoresV [p, q]).say w (.slice (some ⟨g, 0, none⟩) 2 2) :=
  ⟨_, _, _, [xs, ys], rfl, by unfold Roomy; omega, two_core_reads hb h1.len h2.len, by unfold CoresIn CoresIn CoresIn; exact ⟨h1, h2, trivial⟩⟩
theorem cores_one {w : World} {g : Nat} {t : TypeId} {xs : List Value} {p : Co} (hb : Blk w g t xs.toArray) (h1 : CoreIn w TT false xs p) : (CoresV [p]).say w (.slice (some ⟨g, 0, none⟩) 1 1) :=
  ⟨_, _, _, [xs], rfl, by unfold Roomy; omega, one_core_reads hb h1.len, by unfold CoresIn CoresIn; exact ⟨h1, trivial⟩⟩
theorem cores_none (w : World) : (CoresV []).say w (.slice none 0 0) := ⟨none, 0, 0, [], rfl, by unfold Roomy; omega, Reads.zero _ _ _ _ _, by unfold CoresIn; trivial⟩
theorem core_kids {w : World} (k : Int) (s : ByteArray) (z : Int) {ks : List Co} {A : Option Addr} {n c : Nat} (h : (CoresV ks).say w (.slice A n c)) : (CoreV (.mk k s z zeroTm ks)).say w (.agg #[.int .u8 k, .string s, .int .i64 z, .int .u8 0, .bool false, .slice none 0 0, .string ⟨#[]⟩, .int .i64 0, .slice none 0 0, .slice none 0 0, .slice A n c]) := by
  obtain ⟨A', n', c', kcss, e, h1, h2, h3⟩ := h
  injection e with e1 e2 e3; subst e1 e2 e3
  refine ⟨_, _, _, _, _, _, _, _, _, _, _, _, _, _, _, _, _, _, _, rfl, ?_⟩
  unfold CoreIn
  exact ⟨[.int .u8 0, .bool false, .slice none 0 0, .string ⟨#[]⟩, .int .i64 0, .slice none 0 0, .slice none 0 0], A, n, c, kcss, rfl, flat_in w TT false 0 ByteArray.empty 0, h1, h2, h3⟩
theorem zeroTm_ok : okT zeroTm := by unfold zeroTm okT; exact ⟨by omega, (fun _ h => by cases h), by show (0 : Nat) ≤ _; omega, by omega, by unfold okTs; trivial, by unfold okTs; trivial⟩
theorem core_ok (k : Int) (z : Int) (ks : List Co) (hk : 0 ≤ k ∧ k ≤ 255) (hz : -9223372036854775808 ≤ z ∧ z ≤ 9223372036854775807) (h : okCs ks) : okC (.mk k ⟨#[]⟩ z zeroTm ks) := by
  unfold okC; exact ⟨hk, by show (0 : Nat) ≤ _; omega, hz, zeroTm_ok, h⟩
theorem cores_ok_nil : okCs [] := by unfold okCs; trivial
theorem cores_ok_two {p q : Co} (hp : okC p) (hq : okC q) : okCs [p, q] := by unfold okCs okCs okCs; exact ⟨hp, hq, trivial⟩
end Go.Proofs.YtjdbjjjbgibpaaaGreatDoor
namespace Go.Proofs.YtjdbjjjbgibpaaaGreatDoor

mutual
/-- What law11.pattern may make of a term: from the variable a on, up to b. -/
inductive Pat : Tm → Nat → Co → Nat → Prop
  | any {t : Tm} {a : Nat} (h : a < 100) : Pat t a (.mk 21 ⟨#[]⟩ a zeroTm []) (a + 1)
  | tup {t : Tm} {a b : Nat} {ks : List Co} (h : t.kind = 6) (hs : Pats t.items a ks b) : Pat t a (.mk 24 ⟨#[]⟩ 0 zeroTm ks) b
  | cons {t h r : Tm} {a m b : Nat} {c d : Co} (h6 : t.kind ≠ 6) (hs : splitT t = some (h, r)) (h1 : Pat h a c m) (h2 : Pat r m d b) : Pat t a (.mk 25 ⟨#[]⟩ 0 zeroTm [c, d]) b
  | con {t : Tm} {a : Nat} (h6 : t.kind ≠ 6) (hs : splitT t = none) : Pat t a (.mk 23 ⟨#[]⟩ 0 t []) a
inductive Pats : List Tm → Nat → List Co → Nat → Prop
  | nil {a : Nat} : Pats [] a [] a
  | cons {x : Tm} {l : List Tm} {a m b : Nat} {c : Co} {cs : List Co} (h : Pat x a c m) (hs : Pats l m cs b) : Pats (x :: l) a (c :: cs) b
end
theorem Pats.snoc : ∀ {l : List Tm} {a m b : Nat} {cs : List Co} {x : Tm} {c : Co}, Pats l a cs m → Pat x m c b → Pats (l ++ [x]) a (cs ++ [c]) b
  | _, _, _, _, _, _, _, .nil, h => .cons h .nil
  | _, _, _, _, _, _, _, .cons h1 hs, h => .cons h1 (hs.snoc h)
theorem Pats.len : ∀ {l : List Tm} {a b : Nat} {cs : List Co}, Pats l a cs b → cs.length = l.length
  | _, _, _, _, .nil => rfl
  | _, _, _, _, .cons _ hs => by simp [hs.len]
mutual
theorem Pat.le : ∀ {t : Tm} {a b : Nat} {c : Co}, Pat t a c b → a ≤ b ∧ (a ≤ 100 → b ≤ 100)
  | _, _, _, _, .any h => ⟨by omega, fun _ => by omega⟩
  | _, _, _, _, .tup _ hs => hs.le
  | _, _, _, _, .cons _ _ h1 h2 => by have := h1.le; have := h2.le; exact ⟨by omega, by omega⟩
  | _, _, _, _, .con _ _ => ⟨Nat.le_refl _, fun h => h⟩
theorem Pats.le : ∀ {l : List Tm} {a b : Nat} {cs : List Co}, Pats l a cs b → a ≤ b ∧ (a ≤ 100 → b ≤ 100)
  | _, _, _, _, .nil => ⟨Nat.le_refl _, fun h => h⟩
  | _, _, _, _, .cons h hs => by have := h.le; have := hs.le; exact ⟨by omega, by omega⟩
end
/-- term.Cons -/
def consT (h r : Tm) : Tm :=
  if rightT h = true ∧ rightT r = true then
    let c : Tm := .mk 7 false [] ByteArray.empty 0 (h :: (if r.kind = 7 then r.items else [])) (if r.kind = 7 then r.tail else [r])
    if rightT c = true then c else zeroTm
  else zeroTm
mutual
/-- law11.filled -/
def fillN : Co → VSt → Tm
  | .mk k _ num term kids, v =>
    if k = 21 then (v.vals[num.toNat]?).getD zeroTm
    else if k = 24 then .mk 6 false [] ByteArray.empty 0 (fillsN kids v) []
    else if k = 25 then (match fillsN kids v with | x :: y :: _ => consT x y | _ => zeroTm)
    else term
def fillsN : List Co → VSt → List Tm
  | [], _ => []
  | c :: cs, v => fillN c v :: fillsN cs v
end
theorem addT_mono : ∀ (l : List Tm) (n n' e m : Int), addT n e l = some m → n' ≤ n → 0 ≤ e → ∃ m', addT n' e l = some m' ∧ m' ≤ m ∧ n' ≤ m'
  | [], n, n', e, m, h, hn, _ => by
    unfold addT at h ⊢
    injection h with h
    exact ⟨n', rfl, by omega, by omega⟩
  | x :: l, n, n', e, m, h, hn, he => by
    unfold addT at h ⊢
    split at h
    · rename_i hx
      rw [if_pos ⟨hx.1, by omega⟩]
      obtain ⟨m', h1, h2, h3⟩ := addT_mono l _ (n' + sizeT x + e) e m h (by omega) he
      exact ⟨m', h1, h2, by omega⟩
    · cases h
/-- The parts of a right list. -/
theorem right_seven {ng : Bool} {limbs : List Int} {text : ByteArray} {num : Int} {items tail : List Tm} (h : rightT (.mk 7 ng limbs text num items tail) = true) : ∃ n m, addT 1 1 items = some n ∧ addT n 0 tail = some m := by
  have hs : 0 < sizeT (.mk 7 ng limbs text num items tail) := of_decide_eq_true h
  unfold sizeT at hs
  rw [if_neg (by decide)] at hs
  split at hs
  · split at hs
    · omega
    · rename_i n hn
      split at hs
      · omega
      · rename_i m hm
        exact ⟨n, m, hn, hm⟩
  · omega
theorem seven_right {items tail : List Tm} {n m : Int} (h1 : tail.length ≤ 1) (h2 : tail.length ≤ items.length) (h3 : ∀ x ∈ tail, x.kind ≠ 7) (hn : addT 1 1 items = some n) (hm : addT n 0 tail = some m) (h0 : 0 < m) : rightT (.mk 7 false [] ByteArray.empty 0 items tail) = true := by
  refine decide_eq_true ?_
  unfold sizeT
  rw [if_neg (by decide)]
  have hh : headT 7 false [] ByteArray.empty 0 items tail = true := by
    unfold headT
    simp only [Bool.and_eq_true, decide_eq_true_eq, Bool.not_false, List.length_nil, true_and]
    rw [if_neg (by decide)]
    simp only [Bool.and_eq_true, decide_eq_true_eq, true_and]
    rw [if_neg (by decide), if_neg (by decide), if_neg (by decide), if_pos trivial]
    simp only [Bool.and_eq_true, decide_eq_true_eq, true_and, List.all_eq_true, decide_true]
    exact ⟨⟨h1, h2⟩, h3⟩
  rw [if_pos hh]
  have hb : baseT 7 = 1 := rfl
  have he : eachT 7 = 1 := rfl
  rw [hb, he, hn]
  show 0 < (match addT n 0 tail with | none => 0 | some m => m)
  rw [hm]
  exact h0
/-- What term.Split parts, term.Cons joins. -/
theorem cons_split {u h r : Tm} (hg : goodT u) (hs : splitT u = some (h, r)) : goodT h ∧ goodT r ∧ u.kind = 7 ∧ consT h r = u := by
  obtain ⟨k, ng, limbs, text, num, items, tail⟩ := u
  have ok := okT_split hs hg.2
  have parts := good_parts hg
  simp only [Tm.items, Tm.tail] at parts
  unfold splitT at hs
  split at hs
  · rename_i hc
    obtain rfl : k = 7 := hc.2
    have e := else_ok (by decide) hg.1
    obtain ⟨n, m, hn, hm⟩ := right_seven hg.1
    have t7 := e.tail7' rfl
    have hu : Tm.mk 7 ng limbs text num items tail = .mk 7 false [] ByteArray.empty 0 items tail := by rw [e.sign', e.limbs', e.text' (by decide), e.num' rfl]
    have hru : rightT (.mk 7 false [] ByteArray.empty 0 items tail) = true := hu ▸ hg.1
    have ei : (Tm.mk 7 ng limbs text num items tail).items = items := rfl
    have et : (Tm.mk 7 ng limbs text num items tail).tail = tail := rfl
    rw [ei, et] at hs
    match items, tail, hs, ok, parts, hn, hm, t7, hru, hu with
    | x :: [], [], hs, ok, parts, hn, hm, t7, hru, hu =>
      injection hs with hs; injection hs with q1 q2; subst q1 q2
      refine ⟨parts.1 x (by simp), ⟨good_nil.1, ok.2⟩, rfl, ?_⟩
      unfold consT
      rw [if_pos ⟨(parts.1 x (by simp)).1, good_nil.1⟩]
      have e1 : (restT []).kind = 7 := rfl
      have e2 : (restT []).items = [] := rfl
      have e3 : (restT []).tail = [] := rfl
      simp only [e1, e2, e3, if_true, hru]
      exact hu.symm
    | x :: [], [y], hs, ok, parts, hn, hm, t7, hru, hu =>
      injection hs with hs; injection hs with q1 q2; subst q1 q2
      have hy := parts.2 y (by simp)
      refine ⟨parts.1 x (by simp), hy, rfl, ?_⟩
      have e1 : ¬ (restT [y]).kind = 7 := t7.2.2 y (by simp)
      have hy1 : rightT (restT [y]) = true := hy.1
      unfold consT
      rw [if_pos ⟨(parts.1 x (by simp)).1, hy1⟩]
      simp only [if_neg e1]
      have e2 : restT [y] = y := rfl
      rw [e2, if_pos hru]
      exact hu.symm
    | x :: y :: l, tail, hs, ok, parts, hn, hm, t7, hru, hu =>
      injection hs with hs; injection hs with q1 q2; subst q1 q2
      have hr : rightT (.mk 7 false [] ByteArray.empty 0 (y :: l) tail) = true := by
        have hn' := hn
        unfold addT at hn'
        split at hn'
        · rename_i hx
          obtain ⟨n', h1, h2, h3⟩ := addT_mono (y :: l) _ 1 1 n hn' (by omega) (by omega)
          obtain ⟨m', h4, h5, h6⟩ := addT_mono tail n n' 0 m hm h2 (by omega)
          exact seven_right t7.1 (by have := t7.1; simp only [List.length_cons]; omega) t7.2.2 h1 h4 (by omega)
        · cases hn'
      refine ⟨parts.1 x (by simp), ⟨hr, ok.2⟩, rfl, ?_⟩
      unfold consT
      rw [if_pos ⟨(parts.1 x (by simp)).1, hr⟩]
      have e1 : (Tm.mk 7 false [] ByteArray.empty 0 (y :: l) tail).kind = 7 := rfl
      have e2 : (Tm.mk 7 false [] ByteArray.empty 0 (y :: l) tail).items = y :: l := rfl
      have e3 : (Tm.mk 7 false [] ByteArray.empty 0 (y :: l) tail).tail = tail := rfl
      simp only [e1, e2, e3, if_true, hru]
      exact hu.symm
    | x :: [], _ :: _ :: _, _, _, _, _, _, t7, _, _ => have := t7.1; simp at this
  · cases hs
theorem six_eq {u : Tm} (hg : goodT u) (h6 : u.kind = 6) : u = .mk 6 false [] ByteArray.empty 0 u.items [] := by
  obtain ⟨k, ng, limbs, text, num, items, tail⟩ := u
  obtain rfl : k = 6 := h6
  have e := else_ok (by decide) hg.1
  show Tm.mk 6 ng limbs text num items tail = .mk 6 false [] ByteArray.empty 0 items []
  rw [e.sign', e.limbs', e.text' (by decide), e.num6' rfl, e.tail' (by decide)]
end Go.Proofs.YtjdbjjjbgibpaaaGreatDoor
namespace Go.Proofs.YtjdbjjjbgibpaaaGreatDoor

def V100 (v : VSt) : Prop := v.has.length = 100 ∧ v.vals.length = 100
theorem match_100 {c : Co} {u : Tm} {v v' : VSt} (h : matchN c u v = some v') (hv : V100 v) : V100 v' := by
  have := matchN_len c u v v' h
  exact ⟨by rw [this.1]; exact hv.1, by rw [this.2]; exact hv.2⟩
/-- Which truths are set. -/
def HasTo (v v' : VSt) (a b : Nat) : Prop := ∀ i, v'.has[i]? = if a ≤ i ∧ i < b then some true else v.has[i]?
theorem HasTo.trans {v v1 v2 : VSt} {a m b : Nat} (h1 : HasTo v v1 a m) (h2 : HasTo v1 v2 m b) (ham : a ≤ m) (hmb : m ≤ b) : HasTo v v2 a b := by
  intro i
  rw [h2 i, h1 i]
  by_cases e2 : m ≤ i ∧ i < b
  · rw [if_pos e2, if_pos (by omega)]
  · rw [if_neg e2]
    by_cases e1 : a ≤ i ∧ i < m
    · rw [if_pos e1, if_pos (by omega)]
    · rw [if_neg e1, if_neg (by omega)]
theorem HasTo.refl (v : VSt) (a : Nat) : HasTo v v a a := fun i => by rw [if_neg (by omega)]
theorem match_21 (a : Nat) (t : Tm) (v : VSt) : matchN (.mk 21 ⟨#[]⟩ a zeroTm []) t v = if (a : Int) < 0 ∨ (v.has.length : Int) ≤ a then none else some (v.bind a t) := by
  unfold matchN; rw [if_neg (by decide), if_pos rfl]
theorem match_23' (p t : Tm) (v : VSt) : matchN (.mk 23 ⟨#[]⟩ 0 p []) t v = if sameT p t then some v else none := by
  unfold matchN; rw [if_neg (by decide), if_neg (by decide), if_neg (by decide), if_pos rfl]
theorem match_24' (ks : List Co) (t : Tm) (v : VSt) : matchN (.mk 24 ⟨#[]⟩ 0 zeroTm ks) t v = if t.kind = 6 then rowsN ks t.items v else none := by
  conv => lhs; unfold matchN
  rw [if_neg (by decide), if_neg (by decide), if_neg (by decide), if_neg (by decide), if_pos rfl]
theorem match_25' (ks : List Co) (t : Tm) (v : VSt) : matchN (.mk 25 ⟨#[]⟩ 0 zeroTm ks) t v = match splitT t with | some (h, r) => rowsN ks [h, r] v | none => none := by
  conv => lhs; unfold matchN
  rw [if_neg (by decide), if_neg (by decide), if_neg (by decide), if_neg (by decide), if_neg (by decide), if_pos rfl]
  cases splitT t <;> rfl
theorem rows_cons (k : Co) (ks : List Co) (t : Tm) (ts : List Tm) (v : VSt) (hl : ks.length = ts.length) : rowsN (k :: ks) (t :: ts) v = (matchN k t v).bind (rowsN ks ts) := by
  conv => lhs; unfold rowsN
  rw [if_pos hl]
  cases matchN k t v <;> rfl
mutual
theorem Pat.self : ∀ {t : Tm} {a b : Nat} {c : Co}, Pat t a c b → goodT t → ∀ v : VSt, V100 v → ∃ v', matchN c t v = some v' ∧ HasTo v v' a b
  | t, a, _, _, .any h, _, v, hv => by
    rw [match_21, if_neg (by rw [hv.1]; omega)]
    refine ⟨_, rfl, fun i => ?_⟩
    show (v.has.set a true)[i]? = _
    rw [List.getElem?_set]
    by_cases e : a = i
    · subst e; rw [if_pos rfl, if_pos (by rw [hv.1]; omega), if_pos (by omega)]
    · rw [if_neg e, if_neg (by omega)]
  | t, a, b, _, .tup h hs, hg, v, hv => by
    rw [match_24', if_pos h]
    exact hs.self (good_parts hg).1 v hv
  | t, a, b, _, .cons (m := m) (c := c) (d := d) (h := x) (r := r) h6 hsp h1 h2, hg, v, hv => by
    obtain ⟨gh, gr, _, _⟩ := cons_split hg hsp
    rw [match_25', hsp]
    show ∃ v', rowsN [c, d] [x, r] v = some v' ∧ _
    rw [two_rows]
    obtain ⟨v1, e1, t1⟩ := h1.self gh v hv
    rw [e1, Option.bind_some]
    obtain ⟨v2, e2, t2⟩ := h2.self gr v1 (match_100 e1 hv)
    exact ⟨v2, e2, t1.trans t2 h1.le.1 h2.le.1⟩
  | t, a, _, _, .con h6 hsp, hg, v, hv => by
    rw [match_23', if_pos ((same_iff hg.2 hg.2).2 ⟨hg.1, rfl⟩)]
    exact ⟨v, rfl, HasTo.refl v a⟩
theorem Pats.self : ∀ {l : List Tm} {a b : Nat} {cs : List Co}, Pats l a cs b → (∀ x ∈ l, goodT x) → ∀ v : VSt, V100 v → ∃ v', rowsN cs l v = some v' ∧ HasTo v v' a b
  | _, a, _, _, .nil, _, v, _ => ⟨v, by unfold rowsN; rfl, HasTo.refl v a⟩
  | _, _, _, _, .cons h hs, hg, v, hv => by
    rw [rows_cons _ _ _ _ _ hs.len]
    obtain ⟨v1, e1, t1⟩ := h.self (hg _ List.mem_cons_self) v hv
    rw [e1, Option.bind_some]
    obtain ⟨v2, e2, t2⟩ := hs.self (fun x hx => hg x (List.mem_cons_of_mem _ hx)) v1 (match_100 e1 hv)
    exact ⟨v2, e2, t1.trans t2 h.le.1 hs.le.1⟩
end
/-- Values that stayed. -/
def ValsTo (v v' : VSt) (a b : Nat) : Prop := ∀ i, i < a ∨ b ≤ i → v'.vals[i]? = v.vals[i]?
/-- Values as another row holds them. -/
def ValsAs (V v' : VSt) (a b : Nat) : Prop := ∀ i, a ≤ i → i < b → V.vals[i]? = v'.vals[i]?
mutual
theorem Pat.fills : ∀ {t : Tm} {a b : Nat} {c : Co}, Pat t a c b → goodT t → ∀ (u : Tm) (v v' : VSt), goodT u → V100 v → matchN c u v = some v' → ValsTo v v' a b ∧ ∀ V, ValsAs V v' a b → fillN c V = u
  | t, a, _, _, .any h, _, u, v, v', hu, hv, hm => by
    rw [match_21, if_neg (by rw [hv.1]; omega)] at hm
    injection hm with hm
    subst hm
    refine ⟨fun i hi => ?_, fun V hV => ?_⟩
    · show (v.vals.set a u)[i]? = _
      rw [List.getElem?_set, if_neg (by omega)]
    · have h1 := hV a (Nat.le_refl _) (by omega)
      have h2 : (v.bind a u).vals[a]? = some u := by
        show (v.vals.set a u)[a]? = _
        rw [List.getElem?_set, if_pos rfl, if_pos (by rw [hv.2]; omega)]
      unfold fillN
      rw [if_pos rfl]
      show (V.vals[((a : Nat) : Int).toNat]?).getD zeroTm = u
      rw [Int.toNat_natCast, h1, h2]
      rfl
  | t, a, b, _, .tup h hs, hg, u, v, v', hu, hv, hm => by
    rw [match_24'] at hm
    split at hm
    · rename_i h6
      obtain ⟨h1, h2⟩ := hs.fills (good_parts hg).1 u.items v v' (good_parts hu).1 hv hm
      refine ⟨h1, fun V hV => ?_⟩
      unfold fillN
      rw [if_neg (by decide), if_pos rfl, h2 V hV]
      exact (six_eq hu h6).symm
    · cases hm
  | t, a, b, _, .cons (m := m) (c := c) (d := d) h6 hsp h1 h2, hg, u, v, v', hu, hv, hm => by
    obtain ⟨gh, gr, _, _⟩ := cons_split hg hsp
    rw [match_25'] at hm
    cases hsu : splitT u with
    | none => rw [hsu] at hm; cases hm
    | some p =>
      obtain ⟨x, r⟩ := p
      rw [hsu] at hm
      have hm : rowsN [c, d] [x, r] v = some v' := hm
      rw [two_rows] at hm
      obtain ⟨gx, gr', _, hcu⟩ := cons_split hu hsu
      cases e1 : matchN c x v with
      | none => rw [e1] at hm; cases hm
      | some v1 =>
        rw [e1, Option.bind_some] at hm
        obtain ⟨a1, a2⟩ := h1.fills gh x v v1 gx hv e1
        obtain ⟨b1, b2⟩ := h2.fills gr r v1 v' gr' (match_100 e1 hv) hm
        have l1 := h1.le.1
        have l2 := h2.le.1
        refine ⟨fun i hi => ?_, fun V hV => ?_⟩
        · rw [b1 i (by omega), a1 i (by omega)]
        · have f1 : fillN c V = x := a2 V (fun i h1 h2 => by rw [hV i h1 (by omega), b1 i (by omega)])
          have f2 : fillN d V = r := b2 V (fun i h1 h2 => hV i (by omega) h2)
          unfold fillN
          rw [if_neg (by decide), if_neg (by decide), if_pos rfl]
          show (match fillsN [c, d] V with | x :: y :: _ => consT x y | _ => zeroTm) = u
          have e3 : fillsN [c, d] V = [fillN c V, fillN d V] := by
            unfold fillsN fillsN fillsN; rfl
          rw [e3, f1, f2]
          exact hcu
  | t, a, _, _, .con h6 hsp, hg, u, v, v', hu, hv, hm => by
    rw [match_23'] at hm
    split at hm
    · rename_i hs
      injection hm with hm
      subst hm
      refine ⟨fun i _ => rfl, fun V _ => ?_⟩
      unfold fillN
      rw [if_neg (by decide), if_neg (by decide), if_neg (by decide)]
      exact ((same_iff hg.2 hu.2).1 hs).2
    · cases hm
theorem Pats.fills : ∀ {l : List Tm} {a b : Nat} {cs : List Co}, Pats l a cs b → (∀ x ∈ l, goodT x) → ∀ (us : List Tm) (v v' : VSt), (∀ x ∈ us, goodT x) → V100 v → rowsN cs us v = some v' → ValsTo v v' a b ∧ ∀ V, ValsAs V v' a b → fillsN cs V = us
  | _, a, _, _, .nil, _, us, v, v', _, _, hm => by
    match us, hm with
    | [], hm =>
      unfold rowsN at hm
      injection hm with hm
      subst hm
      exact ⟨fun i _ => rfl, fun V _ => by unfold fillsN; rfl⟩
    | _ :: _, hm => unfold rowsN at hm; cases hm
  | _, _, _, _, .cons (m := m) (cs := cs) h hs, hg, us, v, v', hu, hv, hm => by
    match us, hm, hu with
    | [], hm, _ => unfold rowsN at hm; cases hm
    | u :: us, hm, hu =>
      have hl : cs.length = us.length := by
        unfold rowsN at hm
        split at hm
        · assumption
        · cases hm
      rw [rows_cons _ _ _ _ _ hl] at hm
      cases e1 : matchN _ u v with
      | none => rw [e1] at hm; cases hm
      | some v1 =>
        rw [e1, Option.bind_some] at hm
        obtain ⟨a1, a2⟩ := h.fills (hg _ List.mem_cons_self) u v v1 (hu _ List.mem_cons_self) hv e1
        obtain ⟨b1, b2⟩ := hs.fills (fun x hx => hg x (List.mem_cons_of_mem _ hx)) us v1 v' (fun x hx => hu x (List.mem_cons_of_mem _ hx)) (match_100 e1 hv) hm
        have l1 := h.le.1
        have l2 := hs.le.1
        refine ⟨fun i hi => by rw [b1 i (by omega), a1 i (by omega)], fun V hV => ?_⟩
        unfold fillsN
        rw [a2 V (fun i h1 h2 => by rw [hV i h1 (by omega), b1 i (by omega)]), b2 V (fun i h1 h2 => hV i (by omega) h2)]
end
theorem newV_100 : V100 (newV 100) := ⟨by unfold newV; simp, by unfold newV; simp⟩
/-- The pattern's own term: it matches, it fills, the truths are told. -/
theorem fills_self {t : Tm} {c : Co} {b : Nat} (h : Pat t 0 c b) (hg : goodT t) : ∃ v, matchF c t (newV 100) = some v ∧ V100 v ∧ fillN c v = t ∧ ∀ i, i < 100 → v.has[i]? = some (decide (i < b)) := by
  obtain ⟨v, e, ht⟩ := h.self hg (newV 100) newV_100
  refine ⟨v, by unfold matchF; rw [if_pos ⟨hg.1, newV_made 100⟩]; exact e, match_100 e newV_100, (h.fills hg t _ v hg newV_100 e).2 v (fun _ _ _ => rfl), fun i hi => ?_⟩
  rw [ht i]
  by_cases hb : i < b
  · rw [if_pos ⟨by omega, hb⟩]; simp [hb]
  · rw [if_neg (by omega)]
    show (List.replicate 100 false)[i]? = _
    rw [List.getElem?_replicate, if_pos hi]
    simp [hb]
/-- Whatever it matches, it fills. -/
theorem fills_other {t u : Tm} {c : Co} {b : Nat} {v : VSt} (h : Pat t 0 c b) (hg : goodT t) (hu : okT u) (hm : matchF c u (newV 100) = some v) : V100 v ∧ fillN c v = u ∧ rightT u = true := by
  unfold matchF at hm
  split at hm
  · rename_i hc
    exact ⟨match_100 hm newV_100, (h.fills hg u _ v ⟨hc.1, hu⟩ newV_100 hm).2 v (fun _ _ _ => rfl), hc.1⟩
  · cases hm
/-- With no variable it matches its own term alone. -/
theorem fills_none {t u : Tm} {c : Co} (h : Pat t 0 c 0) (hg : goodT t) (hu : okT u) : (matchF c u (newV 100)).isSome = sameT t u := by
  rw [Bool.eq_iff_iff]
  constructor
  · intro hs
    obtain ⟨v, hv⟩ := Option.isSome_iff_exists.1 hs
    obtain ⟨_, h2, hr⟩ := fills_other h hg hu hv
    obtain ⟨v1, e1, ht⟩ := h.self hg (newV 100) newV_100
    have h3 := (h.fills hg t _ v1 hg newV_100 e1).2 v (fun i _ hi => by omega)
    exact (same_iff hg.2 hu).2 ⟨hg.1, h3.symm.trans h2⟩
  · intro hs
    obtain ⟨h1, rfl⟩ := (same_iff hg.2 hu).1 hs
    obtain ⟨v, e, _⟩ := fills_self h hg
    rw [e]; rfl
end Go.Proofs.YtjdbjjjbgibpaaaGreatDoor
namespace Go.Proofs.YtjdbjjjbgibpaaaGreatDoor
open Go.RowKit

theorem HeadsAt.more {w : World} {B B' : Nat → Prop} {F : Bool} {size : Nat} (hB : ∀ k, k < w.heap.size → B k → B' k) : ∀ {vs : List Value} {xss : List (List Value)}, HeadsAt w B F size vs xss → HeadsAt w B' F size vs xss
  | [], [], _ => by unfold HeadsAt; trivial
  | v :: vs, xs :: xss, h => by
    unfold HeadsAt at h ⊢
    obtain ⟨⟨A, n, c, e, hr⟩, h2⟩ := h
    exact ⟨⟨A, n, c, e, hr.more hB⟩, HeadsAt.more hB h2⟩
  | [], _ :: _, h => by unfold HeadsAt at h; exact h.elim
  | _ :: _, [], h => by unfold HeadsAt at h; exact h.elim
def TermB (t : Tm) : KB := ⟨fun w B v => ∃ (kd' : Int) (ng' : Bool) (la' : Option Addr) (ln' lc' : Nat) (tx' : ByteArray) (nm' : Int) (ia' : Option Addr) (im' ic' : Nat) (ta' : Option Addr) (tn' tc' : Nat), v = .agg #[.int .u8 kd', .bool ng', .slice la' ln' lc', .string tx', .int .i64 nm', .slice ia' im' ic', .slice ta' tn' tc'] ∧ TermIn w B false [.int .u8 kd', .bool ng', .slice la' ln' lc', .string tx', .int .i64 nm', .slice ia' im' ic', .slice ta' tn' tc'] t, fun w w' B v hk h => by
  obtain ⟨kd', ng', la', ln', lc', tx', nm', ia', im', ic', ta', tn', tc', rfl, h⟩ := h
  exact ⟨kd', ng', la', ln', lc', tx', nm', ia', im', ic', ta', tn', tc', rfl, TermIn.keep hk (fun _ _ => id) _ _ h⟩, fun w B B' v hB h => by
  obtain ⟨kd', ng', la', ln', lc', tx', nm', ia', im', ic', ta', tn', tc', rfl, h⟩ := h
  exact ⟨kd', ng', la', ln', lc', tx', nm', ia', im', ic', ta', tn', tc', rfl, TermIn.more hB _ _ h⟩⟩
/-- A list of terms. -/
def TermsB (ts : List Tm) : KB := ⟨fun w B v => ∃ (A : Option Addr) (n c : Nat) (css : List (List Value)), v = .slice A n c ∧ RoomC n c 104 ∧ Reads w B false 7 A n css.flatten ∧ TermsIn w B false css ts, fun w w' B v hk h => by
  obtain ⟨A, n, c, css, rfl, h1, h2, h3⟩ := h
  exact ⟨A, n, c, css, rfl, h1, h2.keep hk (fun _ _ => id), TermsIn.keep hk (fun _ _ => id) _ _ h3⟩, fun w B B' v hB h => by
  obtain ⟨A, n, c, css, rfl, h1, h2, h3⟩ := h
  exact ⟨A, n, c, css, rfl, h1, h2.more hB, TermsIn.more hB _ _ h3⟩⟩
/-- A list of lists of terms: all of them. -/
def ListsB (ts : List Tm) : KB := ⟨fun w B v => ∃ (A : Option Addr) (K c : Nat) (vs : List Value) (csss : List (List (List Value))), v = .slice A K c ∧ K ≤ 9223372036854775807 ∧ Roomy ts.length 104 ∧ Reads w B false 1 A K vs ∧ HeadsAt w B false 7 vs (csss.map List.flatten) ∧ TermsIn w B false csss.flatten ts, fun w w' B v hk h => by
  obtain ⟨A, K, c, vs, csss, rfl, h1, h2, h3, h4, h5⟩ := h
  exact ⟨A, K, c, vs, csss, rfl, h1, h2, h3.keep hk (fun _ _ => id), h4.keep hk (fun _ _ => id), TermsIn.keep hk (fun _ _ => id) _ _ h5⟩, fun w B B' v hB h => by
  obtain ⟨A, K, c, vs, csss, rfl, h1, h2, h3, h4, h5⟩ := h
  exact ⟨A, K, c, vs, csss, rfl, h1, h2, h3.more hB, h4.more hB, TermsIn.more hB _ _ h5⟩⟩
def AllocTB (N : Nat) : KB := ⟨fun w _ v => ∃ b, v = .pointer (some ⟨b, 0, none⟩) ∧ N ≤ b ∧ Blk w b 26 #[.int .u8 0, .bool false, .slice none 0 0, .string ⟨#[]⟩, .int .i64 0, .slice none 0 0, .slice none 0 0], fun w w' B v hk h => by
  obtain ⟨b, rfl, h1, h2⟩ := h
  exact ⟨b, rfl, h1, h2.keep hk id⟩, fun w B B' v hB h => h⟩
theorem lit_term {w : World} {B : Nat → Prop} {t : Tm} {kd' : Int} {ng' : Bool} {la' : Option Addr} {ln' lc' : Nat} {tx' : ByteArray} {nm' : Int} {ia' : Option Addr} {im' ic' : Nat} {ta' : Option Addr} {tn' tc' : Nat} (h : TermIn w B false [.int .u8 kd', .bool ng', .slice la' ln' lc', .string tx', .int .i64 nm', .slice ia' im' ic', .slice ta' tn' tc'] t) : (TermB t).say w B (.agg #[.int .u8 kd', .bool ng', .slice la' ln' lc', .string tx', .int .i64 nm', .slice ia' im' ic', .slice ta' tn' tc']) := ⟨_, _, _, _, _, _, _, _, _, _, _, _, _, rfl, h⟩
theorem one_term_list {w : World} {B : Nat → Prop} {t : Tm} {g : Nat} {ty : TypeId} {kd' : Int} {ng' : Bool} {la' : Option Addr} {ln' lc' : Nat} {tx' : ByteArray} {nm' : Int} {ia' : Option Addr} {im' ic' : Nat} {ta' : Option Addr} {tn' tc' : Nat} (hb : Blk w g ty #[.int .u8 kd', .bool ng', .slice la' ln' lc', .string tx', .int .i64 nm', .slice ia' im' ic', .slice ta' tn' tc']) (hg : B g) (h : TermIn w B false [.int .u8 kd', .bool ng', .slice la' ln' lc', .string tx', .int .i64 nm', .slice ia' im' ic', .slice ta' tn' tc'] t) : (TermsB [t]).say w B (.slice (some ⟨g, 0, none⟩) 1 1) := by
  refine ⟨_, _, _, [[.int .u8 kd', .bool ng', .slice la' ln' lc', .string tx', .int .i64 nm', .slice ia' im' ic', .slice ta' tn' tc']], rfl, ⟨by unfold Roomy; omega, Nat.le_refl _, by unfold maxLen; omega⟩, ⟨rfl, fun _ => ⟨_, rfl, rfl, hg, hb.lt, fun j u hu => ⟨?_, fun h => by cases h⟩⟩⟩, TermsIn.one h⟩
  rw [hb.cell, Nat.zero_add]
  simpa using hu
theorem one_list {w : World} {B : Nat → Prop} {ts : List Tm} {g : Nat} {ty : TypeId} {v : Value} (hb : Blk w g ty #[v]) (hg : B g) (h : (TermsB ts).say w B v) : (ListsB ts).say w B (.slice (some ⟨g, 0, none⟩) 1 1) := by
  obtain ⟨A, n, c, css, rfl, h1, h2, h3⟩ := h
  have hl : ts.length = n := by have := h2.1; rw [flat_len h3.lens.2, h3.lens.1] at this; omega
  refine ⟨_, _, _, [.slice A n c], [css], rfl, by omega, by rw [hl]; exact h1.1, ⟨rfl, fun _ => ⟨_, rfl, rfl, hg, hb.lt, fun j u hu => ⟨?_, fun h => by cases h⟩⟩⟩, heads_one c h2, by simpa using h3⟩
  rw [hb.cell, Nat.zero_add]
  simpa using hu
theorem two_lists {w : World} {B : Nat → Prop} {ts us : List Tm} {g : Nat} {ty : TypeId} {v v' : Value} (hb : Blk w g ty #[v, v']) (hg : B g) (h : (TermsB ts).say w B v) (h' : (TermsB us).say w B v') (hr : Roomy (ts ++ us).length 104) : (ListsB (ts ++ us)).say w B (.slice (some ⟨g, 0, none⟩) 2 2) := by
  obtain ⟨A, n, c, css, rfl, h1, h2, h3⟩ := h
  obtain ⟨A', n', c', css', rfl, h1', h2', h3'⟩ := h'
  refine ⟨_, _, _, [.slice A n c, .slice A' n' c'], [css, css'], rfl, by omega, hr, ⟨rfl, fun _ => ⟨_, rfl, rfl, hg, hb.lt, fun j u hu => ⟨?_, fun h => by cases h⟩⟩⟩, ?_, ?_⟩
  · rw [hb.cell, Nat.zero_add]
    simpa using hu
  · simp only [List.map_cons, List.map_nil]
    unfold HeadsAt HeadsAt HeadsAt
    exact ⟨⟨A, n, c, rfl, h2⟩, ⟨A', n', c', rfl, h2'⟩, trivial⟩
  · have := TermsIn.append h3 h3'
    simpa using this
/-- term.copies, of a list of lists. -/
theorem copies_any (ts : List Tm) (w : World) (B : Nat → Prop) (A : Option Addr) (K c : Nat) (h : (ListsB ts).say w B (.slice A K c)) :
    Calls Tryz.prog 41 #[.slice A K c] w fun e w' => ∃ v, e = .returned v ∧ (∀ B', (∀ k, w.heap.size ≤ k → B' k) → (TermsB ts).say w' B' v) ∧ Keeps NoB w w' := by
  obtain ⟨A', K', c', vs, csss, e, h1, h2, h3, h4, h5⟩ := h
  injection e with e1 e2 e3
  subst e1 e2 e3
  refine (copies_of _ (hide (tm_copy _)) ts (Nat.le_refl _) csss vs A K c ts.length w B B false false h3 h4 h5 rfl h2 h1).mono ?_
  rintro e w' ⟨A2, c2, rfl, css, hs, ht, hf, hk⟩
  refine ⟨_, rfl, fun B' hB' => ⟨A2, ts.length, c2, css, rfl, ⟨h2, hs.2.1, hs.2.2.1⟩, (hs.reads.more (fun k _ hk => hB' k (hf k hk))).weak, TermsIn.weak _ _ (TermsIn.more (fun k _ hk => hB' k hk.1) _ _ ht)⟩, hk⟩
/-- What is known, and in blocks from N on alone. -/
def KB.from (N : Nat) (K : KB) : KB := ⟨fun w B v => K.say w (fun k => B k ∧ N ≤ k) v, fun w w' B v hk h => K.keep w w' _ v hk h, fun w B B' v hB h => K.more w _ _ v (fun k hk hb => ⟨hB k hk hb.1, hb.2⟩) h⟩
theorem KB.bx {K : KB} {w wx : World} {x v : Value} {B B0 : Nat → Prop} (h : K.say w B v) (hk : Keeps NoB w wx) (hB : ∀ k, k < w.heap.size → B k → B0 k) (hu : ∀ k, k < w.heap.size ∨ wx.heap.size ≤ k → x ≠ .pointer (some ⟨k, 0, none⟩)) : K.say wx (Bx B0 x) v :=
  K.keep _ _ _ _ hk (K.more _ _ _ _ (fun k hk' hb => ⟨hB k hk' hb, hu k (.inl hk')⟩) h)
theorem TermIn.bx {w wx : World} {x : Value} {B B0 : Nat → Prop} {cs : List Value} {t : Tm} (h : TermIn w B false cs t) (hk : Keeps NoB w wx) (hB : ∀ k, k < w.heap.size → B k → B0 k) (hu : ∀ k, k < w.heap.size ∨ wx.heap.size ≤ k → x ≠ .pointer (some ⟨k, 0, none⟩)) : TermIn wx (Bx B0 x) false cs t :=
  TermIn.keep hk (fun _ _ => id) _ _ (TermIn.more (fun k hk' hb => ⟨hB k hk' hb, hu k (.inl hk')⟩) _ _ h)
theorem TermB.kept {t : Tm} {w w' : World} {B : Nat → Prop} {v : Value} (h : (TermB t).say w B v) (hk : Keeps NoB w w') : (TermB t).say w' B v := (TermB t).keep _ _ _ _ hk h
theorem seven_term {w : World} {B : Nat → Prop} {ts us : List Tm} {A A' : Option Addr} {n c n' c' : Nat} (h : (TermsB ts).say w B (.slice A n c)) (h' : (TermsB us).say w B (.slice A' n' c')) :
    TermIn w B false [.int .u8 7, .bool false, .slice none 0 0, .string ⟨#[]⟩, .int .i64 0, .slice A n c, .slice A' n' c'] (.mk 7 false [] ⟨#[]⟩ 0 ts us) := by
  obtain ⟨A1, n1, c1, css, e, h1, h2, h3⟩ := h
  obtain ⟨A2, n2, c2, css', e', h1', h2', h3'⟩ := h'
  injection e with q1 q2 q3
  injection e' with q4 q5 q6
  subst q1 q2 q3 q4 q5 q6
  unfold TermIn
  exact ⟨_, _, _, _, _, _, _, _, _, css, css', rfl, ⟨RoomC.zero _, h1, h1'⟩, ⟨rfl, fun h => absurd h (by decide)⟩, h2, h3, h2', h3'⟩
/-- A list's cells, with other items and another tail. -/
theorem seven_set {w : World} {B : Nat → Prop} {ts us hs rs : List Tm} {A A' : Option Addr} {n c n' c' : Nat} {kd' : Int} {ng' : Bool} {la' : Option Addr} {ln' lc' : Nat} {tx' : ByteArray} {nm' : Int} {ia' : Option Addr} {im' ic' : Nat} {ta' : Option Addr} {tn' tc' : Nat}
    (h0 : TermIn w B false [.int .u8 kd', .bool ng', .slice la' ln' lc', .string tx', .int .i64 nm', .slice ia' im' ic', .slice ta' tn' tc'] (.mk 7 false [] ⟨#[]⟩ 0 hs rs)) (h : (TermsB ts).say w B (.slice A n c)) (h' : (TermsB us).say w B (.slice A' n' c')) :
    TermIn w B false [.int .u8 kd', .bool ng', .slice la' ln' lc', .string tx', .int .i64 nm', .slice A n c, .slice A' n' c'] (.mk 7 false [] ⟨#[]⟩ 0 ts us) := by
  obtain ⟨A1, n1, c1, css, e, h1, h2, h3⟩ := h
  obtain ⟨A2, n2, c2, css', e', h1', h2', h3'⟩ := h'
  injection e with q1 q2 q3
  injection e' with q4 q5 q6
  subst q1 q2 q3 q4 q5 q6
  unfold TermIn at h0 ⊢
  obtain ⟨la, ln, lc, ia, im, ic, ta, tn, tc, css0, dss0, e, ⟨r1, _, _⟩, hl, _, _, _, _⟩ := h0
  cases e
  exact ⟨_, _, _, _, _, _, _, _, _, css, css', rfl, ⟨r1, h1, h1'⟩, hl, h2, h3, h2', h3'⟩
theorem term_parts {w : World} {B : Nat → Prop} {r : Tm} {kd' : Int} {ng' : Bool} {la' : Option Addr} {ln' lc' : Nat} {tx' : ByteArray} {nm' : Int} {ia' : Option Addr} {im' ic' : Nat} {ta' : Option Addr} {tn' tc' : Nat} (h : TermIn w B false [.int .u8 kd', .bool ng', .slice la' ln' lc', .string tx', .int .i64 nm', .slice ia' im' ic', .slice ta' tn' tc'] r) :
    r.kind = kd' ∧ (TermsB r.items).say w B (.slice ia' im' ic') ∧ (TermsB r.tail).say w B (.slice ta' tn' tc') := by
  obtain ⟨k, ng, limbs, text, num, items, tail⟩ := r
  unfold TermIn at h
  obtain ⟨la, ln, lc, ia, im, ic, ta, tn, tc, css, dss, e, ⟨_, r2, r3⟩, _, h2, h3, h4, h5⟩ := h
  cases e
  exact ⟨rfl, ⟨_, _, _, css, rfl, r2, h2, h3⟩, ⟨_, _, _, dss, rfl, r3, h4, h5⟩⟩
theorem addT_many : ∀ (l : List Tm) (n e m : Int), addT n e l = some m → 0 ≤ e → n + l.length ≤ m ∧ (n ≤ 4096 → m ≤ 4096)
  | [], n, e, m, h, _ => by
    unfold addT at h
    injection h with h
    subst h
    exact ⟨by simp, id⟩
  | x :: l, n, e, m, h, he => by
    unfold addT at h
    split at h
    · rename_i hx
      obtain ⟨h1, h2⟩ := addT_many l _ e m h he
      refine ⟨?_, fun _ => h2 hx.2⟩
      simp only [List.length_cons]
      omega
    · cases h
theorem right_items {t : Tm} (h : rightT t = true) (hk : t.kind = 6 ∨ t.kind = 7) : t.items.length ≤ 4096 := by
  obtain ⟨k, ng, limbs, text, num, items, tail⟩ := t
  have hk : k = 6 ∨ k = 7 := hk
  show items.length ≤ 4096
  have hs : 0 < sizeT (.mk k ng limbs text num items tail) := of_decide_eq_true h
  unfold sizeT at hs
  rw [if_neg (by omega)] at hs
  split at hs
  · split at hs
    · omega
    · rename_i n hn
      have hb : baseT k = 1 := by unfold baseT; rw [if_neg (by omega)]
      have he : 0 ≤ eachT k := by unfold eachT; split <;> omega
      have h1 := addT_many _ _ _ _ hn he
      rw [hb] at h1
      have h2 := h1.2 (by omega)
      omega
  · omega
theorem cons_tree {u h r : Tm} (hg : goodT u) (hs : splitT u = some (h, r)) : goodT h ∧ goodT r ∧ ((r.kind = 7 ∧ u = .mk 7 false [] ⟨#[]⟩ 0 (h :: r.items) r.tail) ∨ (r.kind ≠ 7 ∧ u = .mk 7 false [] ⟨#[]⟩ 0 [h] [r])) := by
  obtain ⟨gh, gr, hk, hc⟩ := cons_split hg hs
  refine ⟨gh, gr, ?_⟩
  unfold consT at hc
  rw [if_pos ⟨gh.1, gr.1⟩] at hc
  simp only at hc
  by_cases h7 : r.kind = 7
  · rw [if_pos h7, if_pos h7] at hc
    split at hc
    · exact .inl ⟨h7, hc.symm⟩
    · rw [← hc] at hk
      exact absurd hk (by decide)
  · rw [if_neg h7, if_neg h7] at hc
    split at hc
    · exact .inr ⟨h7, hc.symm⟩
    · rw [← hc] at hk
      exact absurd hk (by decide)
end Go.Proofs.YtjdbjjjbgibpaaaGreatDoor
namespace Go.Proofs.YtjdbjjjbgibpaaaGreatDoor
open Go.RowKit

theorem bx_new {B0 : Nat → Prop} {x : Value} {w wx : World} {k : Nat} (hB : B0 k) (hu : ∀ k, k < w.heap.size ∨ wx.heap.size ≤ k → x ≠ .pointer (some ⟨k, 0, none⟩)) (hk : wx.heap.size ≤ k) : Bx B0 x k := ⟨hB, hu k (.inr hk)⟩
theorem roomy4096 {n : Nat} (h : n ≤ 4097) : Roomy n 104 := by unfold Roomy; omega
set_option maxRecDepth 100000 in
set_option maxHeartbeats 8000000 in
set_option pp.deepTerms true in
set_option pp.maxSteps 100000 in
theorem cons_any (u h r : Tm) (hu : goodT u) (hs : splitT u = some (h, r)) (w : World) {kd1 : Int} {ng1 : Bool} {la1 : Option Addr} {ln1 lc1 : Nat} {tx1 : ByteArray} {nm1 : Int} {ia1 : Option Addr} {im1 ic1 : Nat} {ta1 : Option Addr} {tn1 tc1 : Nat} {kd2 : Int} {ng2 : Bool} {la2 : Option Addr} {ln2 lc2 : Nat} {tx2 : ByteArray} {nm2 : Int} {ia2 : Option Addr} {im2 ic2 : Nat} {ta2 : Option Addr} {tn2 tc2 : Nat} (th : TermIn w TT false [.int .u8 kd1, .bool ng1, .slice la1 ln1 lc1, .string tx1, .int .i64 nm1, .slice ia1 im1 ic1, .slice ta1 tn1 tc1] h) (tr : TermIn w TT false [.int .u8 kd2, .bool ng2, .slice la2 ln2 lc2, .string tx2, .int .i64 nm2, .slice ia2 im2 ic2, .slice ta2 tn2 tc2] r) :
    Calls Tryz.prog 30 #[.agg #[.int .u8 kd1, .bool ng1, .slice la1 ln1 lc1, .string tx1, .int .i64 nm1, .slice ia1 im1 ic1, .slice ta1 tn1 tc1], .agg #[.int .u8 kd2, .bool ng2, .slice la2 ln2 lc2, .string tx2, .int .i64 nm2, .slice ia2 im2 ic2, .slice ta2 tn2 tc2]] w fun e w' => ∃ (kd9 : Int) (ng9 : Bool) (la9 : Option Addr) (ln9 lc9 : Nat) (tx9 : ByteArray) (nm9 : Int) (ia9 : Option Addr) (im9 ic9 : Nat) (ta9 : Option Addr) (tn9 tc9 : Nat), e = .returned (.agg #[.int .u8 kd9, .bool ng9, .slice la9 ln9 lc9, .string tx9, .int .i64 nm9, .slice ia9 im9 ic9, .slice ta9 tn9 tc9]) ∧ TermIn w' (fun k => w.heap.size ≤ k) false [.int .u8 kd9, .bool ng9, .slice la9 ln9 lc9, .string tx9, .int .i64 nm9, .slice ia9 im9 ic9, .slice ta9 tn9 tc9] u ∧ Keeps NoB w w' := by
  obtain ⟨gh, gr, hform⟩ := cons_tree hu hs
  have HRH := hide gh.1; have HRR := hide gr.1; have HRU := hide hu.1; have HFORM := hide hform
  have HK0 := hide ((((Keeps.refl NoB w).alloc (.cells #[.int .u8 kd1, .bool ng1, .slice la1 ln1 lc1, .string tx1, .int .i64 nm1, .slice ia1 im1 ic1, .slice ta1 tn1 tc1] 26)).alloc (.cells #[.int .u8 kd2, .bool ng2, .slice la2 ln2 lc2, .string tx2, .int .i64 nm2, .slice ia2 im2 ic2, .slice ta2 tn2 tc2] 26)).alloc (.cells #[.int .u8 0, .bool false, .slice none 0 0, .string ⟨#[]⟩, .int .i64 0, .slice none 0 0, .slice none 0 0] 26))
  have HB1 := hide (three_tblks w 26 26 26 #[.int .u8 kd1, .bool ng1, .slice la1 ln1 lc1, .string tx1, .int .i64 nm1, .slice ia1 im1 ic1, .slice ta1 tn1 tc1] #[.int .u8 kd2, .bool ng2, .slice la2 ln2 lc2, .string tx2, .int .i64 nm2, .slice ia2 im2 ic2, .slice ta2 tn2 tc2] #[.int .u8 0, .bool false, .slice none 0 0, .string ⟨#[]⟩, .int .i64 0, .slice none 0 0, .slice none 0 0]).1; have HB2 := hide (three_tblks w 26 26 26 #[.int .u8 kd1, .bool ng1, .slice la1 ln1 lc1, .string tx1, .int .i64 nm1, .slice ia1 im1 ic1, .slice ta1 tn1 tc1] #[.int .u8 kd2, .bool ng2, .slice la2 ln2 lc2, .string tx2, .int .i64 nm2, .slice ia2 im2 ic2, .slice ta2 tn2 tc2] #[.int .u8 0, .bool false, .slice none 0 0, .string ⟨#[]⟩, .int .i64 0, .slice none 0 0, .slice none 0 0]).2.1; have HB4 := hide (three_tblks w 26 26 26 #[.int .u8 kd1, .bool ng1, .slice la1 ln1 lc1, .string tx1, .int .i64 nm1, .slice ia1 im1 ic1, .slice ta1 tn1 tc1] #[.int .u8 kd2, .bool ng2, .slice la2 ln2 lc2, .string tx2, .int .i64 nm2, .slice ia2 im2 ic2, .slice ta2 tn2 tc2] #[.int .u8 0, .bool false, .slice none 0 0, .string ⟨#[]⟩, .int .i64 0, .slice none 0 0, .slice none 0 0]).2.2
  have HT1 := hide (TermIn.keep HK0.out (fun _ _ => id) _ _ th); have HT2 := hide (TermIn.keep HK0.out (fun _ _ => id) _ _ tr)
  have HP := hide (term_parts (tr.keep HK0.out (fun _ _ => id) _ _))
  clear th tr hu hs gh gr hform
  go_enter Tryz.func30, Tryz.ntmps30
  go_upto_region 1 with fail
  generalize ((w.alloc (.cells #[.int .u8 kd1, .bool ng1, .slice la1 ln1 lc1, .string tx1, .int .i64 nm1, .slice ia1 im1 ic1, .slice ta1 tn1 tc1] 26)).alloc (.cells #[.int .u8 kd2, .bool ng2, .slice la2 ln2 lc2, .string tx2, .int .i64 nm2, .slice ia2 im2 ic2, .slice ta2 tn2 tc2] 26)).alloc (.cells #[.int .u8 0, .bool false, .slice none 0 0, .string ⟨#[]⟩, .int .i64 0, .slice none 0 0, .slice none 0 0] 26) = w0 at *
  obtain ⟨gp, hgp⟩ : ∃ g, w.heap.size = g := ⟨_, rfl⟩
  rw [hgp] at HB1 HB2 HB4
  simp only [hgp]
  have HGP := hide hgp
  clear hgp
  obtain ⟨a0, a1, a2, a3, a4, a5, a6⟩ := Blk.c7 HB1.out
  have M1 := hide True.intro
  go_upto_region 3 with
    first
    | (go_at_call 7
       have hm := M1; clear hm M1
       refine (tm_right h w0 _ false _ _ _ _ _ _ _ _ _ _ _ _ _ HT1.out).mono ?_
       rintro e w1 ⟨rfl, hk1⟩
       rw [HRH.out]
       have HK1 := hide hk1
       obtain ⟨b0, b1, b2, b3, b4, b5, b6⟩ := Blk.c7 (HB2.out.keep hk1 id)
       clear hk1)
    | (go_at_call 7
       refine (tm_right r w1 _ false _ _ _ _ _ _ _ _ _ _ _ _ _ (TermIn.keep HK1.out (fun _ _ => id) _ _ HT2.out)).mono ?_
       rintro e w2 ⟨rfl, hk2⟩
       rw [HRR.out]
       have HK2 := hide (HK1.out.trans' hk2 (fun _ _ => id) (fun _ _ => id) : Keeps NoB w0 w2)
       clear hk2)
    | fail
  clear a0 a1 a2 a3 a4 a5 a6 b0 b1 b2 b3 b4 b5 b6 HK1
  have HKD := hide (HK2.out.drew : Keeps NoB w0 w2.drew)
  have HB1X := hide (HB1.out.keep HKD.out id); have HB2X := hide (HB2.out.keep HKD.out id); have HB4X := hide (HB4.out.keep HKD.out id)
  have HT1X := hide (TermIn.keep HKD.out (fun _ _ => id) _ _ HT1.out); have HT2X := hide (TermIn.keep HKD.out (fun _ _ => id) _ _ HT2.out)
  have HNX := hide (show gp + 3 ≤ w2.drew.heap.size from by have h4 := HB4X.out.lt; omega)
  refine order_parts 10 9 [9, 8, 7, 6, 5, 4, 3, 2, 1, 0] TT [KB.eq (.agg #[.int .u8 kd1, .bool ng1, .slice la1 ln1 lc1, .string tx1, .int .i64 nm1, .slice ia1 im1 ic1, .slice ta1 tn1 tc1]), TermsB [h], ListsB [h], (TermsB [h]).from w2.drew.heap.size, KB.eq (.agg #[.int .u8 kd2, .bool ng2, .slice la2 ln2 lc2, .string tx2, .int .i64 nm2, .slice ia2 im2 ic2, .slice ta2 tn2 tc2]), TermsB [r], ListsB [r], (TermsB [r]).from w2.drew.heap.size, (TermB (.mk 7 false [] ⟨#[]⟩ 0 [h] [r])).from w2.drew.heap.size, AllocTB w2.drew.heap.size] (fun _ => True) (fun _ => false) (fun xs => { tmps := #[.agg #[.int .u8 kd1, .bool ng1, .slice la1 ln1 lc1, .string tx1, .int .i64 nm1, .slice ia1 im1 ic1, .slice ta1 tn1 tc1], .agg #[.int .u8 kd2, .bool ng2, .slice la2 ln2 lc2, .string tx2, .int .i64 nm2, .slice ia2 im2 ic2, .slice ta2 tn2 tc2], .pointer (some ⟨gp, 0, none⟩), .pointer (some ⟨gp + 1, 0, none⟩), .pointer (some ⟨gp + 1 + 1, 0, none⟩), xs 9, .agg #[.int .u8 kd1, .bool ng1, .slice la1 ln1 lc1, .string tx1, .int .i64 nm1, .slice ia1 im1 ic1, .slice ta1 tn1 tc1], .bool true, .bool false, .bool false, .agg #[.int .u8 kd2, .bool ng2, .slice la2 ln2 lc2, .string tx2, .int .i64 nm2, .slice ia2 im2 ic2, .slice ta2 tn2 tc2], .bool true, .bool false, .bool false, undef, xs 0, xs 1, xs 2, xs 3, xs 4, xs 5, xs 6, xs 7, xs 8, undef, undef, undef, undef, undef, undef, undef, undef, undef, undef, undef, undef, undef, undef, undef, undef, undef, undef, undef, undef], defers := [] }) (fun _ => undef) (by kernel_rfl) (fun j => by rw [Bool.eq_iff_iff]; simp; omega) (by decide) (by kernel_rfl) rfl rfl ?_ ?_
  · intro d xs wx i oi hoi hin hdi hk hu hx hdep K hKn hKa
    have hcases : i = 0 ∨ i = 1 ∨ i = 2 ∨ i = 3 ∨ i = 4 ∨ i = 5 ∨ i = 6 ∨ i = 7 ∨ i = 8 ∨ i = 9 := by omega
    have HX := hide hx; have HKX := hide hk; have HUX := hide hu
    clear hx hk hu hdi hin
    rcases hcases with rfl | rfl | rfl | rfl | rfl | rfl | rfl | rfl | rfl | rfl
    · simp at hoi
      subst hoi
      simp [Region.binds] at hdep
      obtain ⟨c0, c1, c2, c3, c4, c5, c6⟩ := Blk.c7 (HB1X.out.keep HKX.out id)
      go_simp
      exact hKn (by decide) _ _ (Keeps.refl _ _) rfl
    · simp at hoi
      subst hoi
      simp [Region.binds] at hdep
      have e0 : xs 0 = .agg #[.int .u8 kd1, .bool ng1, .slice la1 ln1 lc1, .string tx1, .int .i64 nm1, .slice ia1 im1 ic1, .slice ta1 tn1 tc1] := (HX.out 0 (by simp [hdep]))
      rw [e0]
      go_simp
      have hI := hKn (by decide) _ _ ((Keeps.refl NoB wx).alloc _) (one_term_list (Blk.new wx 26 #[.int .u8 kd1, .bool ng1, .slice la1 ln1 lc1, .string tx1, .int .i64 nm1, .slice ia1 im1 ic1, .slice ta1 tn1 tc1]) (bx_new trivial HUX.out (Nat.le_refl _)) (TermIn.keep ((Keeps.refl NoB wx).alloc _) (fun _ _ => id) _ _ (HT1X.out.bx HKX.out (fun _ _ _ => trivial) HUX.out)))
      simp only [updX, Nat.reduceEqDiff, reduceIte] at hI
      rw [e0] at hI
      exact hI
    · simp at hoi
      subst hoi
      simp [Region.binds] at hdep
      obtain ⟨A, n, c, css, e1, h1⟩ := (show (TermsB [h]).say wx _ (xs 1) from (HX.out 1 (by simp [hdep])))
      rw [e1]
      go_simp
      have hI := hKn (by decide) _ _ ((Keeps.refl NoB wx).alloc _) (one_list (Blk.new wx 24 #[.slice A n c]) (bx_new trivial HUX.out (Nat.le_refl _)) ((TermsB [h]).keep _ _ _ _ ((Keeps.refl NoB wx).alloc _) ⟨A, n, c, css, rfl, h1⟩))
      simp only [updX, Nat.reduceEqDiff, reduceIte] at hI
      rw [e1] at hI
      exact hI
    · simp at hoi
      subst hoi
      simp [Region.binds] at hdep
      obtain ⟨A, K1, c, vs, csss, e2, h2⟩ := (show (ListsB [h]).say wx _ (xs 2) from (HX.out 2 (by simp [hdep])))
      rw [e2]
      go_simp
      refine (copies_any [h] wx _ A K1 c ⟨A, K1, c, vs, csss, rfl, h2⟩).mono ?_
      rintro e w' ⟨v, rfl, hv, hk'⟩
      have hI := hKn (by decide) v w' hk' (hv _ (fun k hk => ⟨bx_new trivial HUX.out hk, Nat.le_trans (Nat.le_refl _) (Nat.le_trans HKX.out.size hk)⟩))
      simp only [updX, Nat.reduceEqDiff, reduceIte] at hI
      rw [e2] at hI
      exact hI
    · simp at hoi
      subst hoi
      simp [Region.binds] at hdep
      obtain ⟨c0, c1, c2, c3, c4, c5, c6⟩ := Blk.c7 (HB2X.out.keep HKX.out id)
      go_simp
      exact hKn (by decide) _ _ (Keeps.refl _ _) rfl
    · simp at hoi
      subst hoi
      simp [Region.binds] at hdep
      have e0 : xs 4 = .agg #[.int .u8 kd2, .bool ng2, .slice la2 ln2 lc2, .string tx2, .int .i64 nm2, .slice ia2 im2 ic2, .slice ta2 tn2 tc2] := (HX.out 4 (by simp [hdep]))
      rw [e0]
      go_simp
      have hI := hKn (by decide) _ _ ((Keeps.refl NoB wx).alloc _) (one_term_list (Blk.new wx 26 #[.int .u8 kd2, .bool ng2, .slice la2 ln2 lc2, .string tx2, .int .i64 nm2, .slice ia2 im2 ic2, .slice ta2 tn2 tc2]) (bx_new trivial HUX.out (Nat.le_refl _)) (TermIn.keep ((Keeps.refl NoB wx).alloc _) (fun _ _ => id) _ _ (HT2X.out.bx HKX.out (fun _ _ _ => trivial) HUX.out)))
      simp only [updX, Nat.reduceEqDiff, reduceIte] at hI
      rw [e0] at hI
      exact hI
    · simp at hoi
      subst hoi
      simp [Region.binds] at hdep
      obtain ⟨A, n, c, css, e1, h1⟩ := (show (TermsB [r]).say wx _ (xs 5) from (HX.out 5 (by simp [hdep])))
      rw [e1]
      go_simp
      have hI := hKn (by decide) _ _ ((Keeps.refl NoB wx).alloc _) (one_list (Blk.new wx 24 #[.slice A n c]) (bx_new trivial HUX.out (Nat.le_refl _)) ((TermsB [r]).keep _ _ _ _ ((Keeps.refl NoB wx).alloc _) ⟨A, n, c, css, rfl, h1⟩))
      simp only [updX, Nat.reduceEqDiff, reduceIte] at hI
      rw [e1] at hI
      exact hI
    · simp at hoi
      subst hoi
      simp [Region.binds] at hdep
      obtain ⟨A, K1, c, vs, csss, e2, h2⟩ := (show (ListsB [r]).say wx _ (xs 6) from (HX.out 6 (by simp [hdep])))
      rw [e2]
      go_simp
      refine (copies_any [r] wx _ A K1 c ⟨A, K1, c, vs, csss, rfl, h2⟩).mono ?_
      rintro e w' ⟨v, rfl, hv, hk'⟩
      have hI := hKn (by decide) v w' hk' (hv _ (fun k hk => ⟨bx_new trivial HUX.out hk, Nat.le_trans (Nat.le_refl _) (Nat.le_trans HKX.out.size hk)⟩))
      simp only [updX, Nat.reduceEqDiff, reduceIte] at hI
      rw [e2] at hI
      exact hI
    · simp at hoi
      subst hoi
      simp [Region.binds] at hdep
      obtain ⟨A, n, c, css, e3, h3⟩ := (show ((TermsB [h]).from w2.drew.heap.size).say wx _ (xs 3) from (HX.out 3 (by simp [hdep])))
      obtain ⟨A2, n2, c2, css2, e7, h7⟩ := (show ((TermsB [r]).from w2.drew.heap.size).say wx _ (xs 7) from (HX.out 7 (by simp [hdep])))
      rw [e3, e7]
      go_simp
      have hI := hKn (by decide) _ _ (Keeps.refl _ _) (lit_term (seven_term ⟨A, n, c, css, rfl, h3⟩ ⟨A2, n2, c2, css2, rfl, h7⟩))
      simp only [updX, Nat.reduceEqDiff, reduceIte] at hI
      rw [e3, e7] at hI
      exact hI
    · simp at hoi
      subst hoi
      simp [Region.binds] at hdep
      go_simp
      exact hKa rfl _ _ ((Keeps.refl NoB wx).alloc _) (fun k hk e => by injection e with e; injection e with e; injection e with e; omega) (fun k hk e => by injection e with e; injection e with e; injection e with e; rw [← e] at hk; exact absurd hk (Nat.not_le.2 (Blk.new wx 26 _).lt)) (fun B => ⟨wx.heap.size, rfl, HKX.out.size, Blk.new wx 26 _⟩)
  · intro xs3 wx hk hu hx
    obtain ⟨b, e9, hN, hb⟩ := (show (AllocTB w2.drew.heap.size).say wx _ (xs3 9) from hx 9 (by decide))
    obtain ⟨kd5, ng5, la5, ln5, lc5, tx5, nm5, ia5, im5, ic5, ta5, tn5, tc5, e8, h8⟩ := (show ((TermB (.mk 7 false [] ⟨#[]⟩ 0 [h] [r])).from w2.drew.heap.size).say wx _ (xs3 8) from hx 8 (by decide))
    rw [e9] at h8
    refine order_one (i := 10) rfl (by kernel_rfl) (fun K hK => ?_)
    rw [e8, e9]
    obtain ⟨z0, z1, z2, z3, z4, z5, z6⟩ := Blk.f7 (w := wx) (g := b) hb
    obtain ⟨q0, q1, q2, q3, q4, q5, q6⟩ := Blk.c7 hb
    go_simp
    refine hK _ _ (fun _ _ => trivial) ?_
    clear hK
    try simp only [Act.put, List.setIfInBounds_toArray, List.set_cons_succ, List.set_cons_zero]
    have HKA := hide (keeps_tput7 wx b (.int .u8 kd5) (.bool ng5) (.slice la5 ln5 lc5) (.string tx5) (.int .i64 nm5) (.slice ia5 im5 ic5) (.slice ta5 tn5 tc5))
    have hb4 := hb.tput7 (.int .u8 kd5) (.bool ng5) (.slice la5 ln5 lc5) (.string tx5) (.int .i64 nm5) (.slice ia5 im5 ic5) (.slice ta5 tn5 tc5)
    have HT4 := hide (TermIn.keep HKA.out (fun k (hk : Bx TT (.pointer (some ⟨b, 0, none⟩)) k ∧ w2.drew.heap.size ≤ k) e => hk.1.2 (by rw [e])) _ _ h8)
    have HK4 := hide (hk.trans' HKA.out (fun _ _ h => h) (fun k hk' (e : k = b) => by omega) : Keeps NoB w2.drew _)
    have HBN := hide hN
    clear z0 z1 z2 z3 z4 z5 z6 q0 q1 q2 q3 q4 q5 q6 hb h8 hx hu hk HKA hN
    generalize (((((((wx.setCell ⟨b, 0, none⟩ (.int .u8 kd5)).setCell ⟨b, 1, none⟩ (.bool ng5)).setCell ⟨b, 2, none⟩ (.slice la5 ln5 lc5)).setCell ⟨b, 3, none⟩ (.string tx5)).setCell ⟨b, 4, none⟩ (.int .i64 nm5)).setCell ⟨b, 5, none⟩ (.slice ia5 im5 ic5)).setCell ⟨b, 6, none⟩ (.slice ta5 tn5 tc5)) = w4 at *
    have HB5 := hide hb4
    clear hb4
    refine order_done (by kernel_rfl) ?_
    clear e8 e9
    have HKC := hide (HKD.out.trans' HK4.out (fun _ _ => id) (fun _ _ => id) : Keeps NoB w0 w4)
    obtain ⟨b0, b1, b2, b3, b4, b5, b6⟩ := Blk.c7 (HB2.out.keep HKC.out id)
    have hkd : r.kind = kd2 := HP.out.1
    have HF := hide (show ∀ k, (Bx TT (.pointer (some ⟨b, 0, none⟩)) k ∧ w2.drew.heap.size ≤ k) → gp + 3 ≤ k ∧ k ≠ b from fun k hk => ⟨Nat.le_trans HNX.out hk.2, fun e => hk.1.2 (by rw [e])⟩)
    have HT5 := hide (TermIn.more (fun k _ hk => HF.out k hk) _ _ HT4.out)
    clear HT4 HF
    rcases HFORM.out with ⟨h7, hu⟩ | ⟨h7, hu⟩
    · have q7 : kd2 = 7 := by rw [← hkd]; exact h7
      subst q7
      clear hkd h7
      go_upto_region 5 with fail
      clear b0 b1 b2 b3 b4 b5 b6
      have HKX4 := hide (HKC.out.drew : Keeps NoB w0 w4.drew)
      have HB1Y := hide (HB1.out.keep HKX4.out id); have HB2Y := hide (HB2.out.keep HKX4.out id); have HB5Y := hide (show Blk w4.drew b _ _ from HB5.out)
      have HLT := hide (show ∀ k, k < w0.heap.size → TT k → k ≠ b from fun k hk _ e => by have h1 := HBN.out; have h2 := HKD.out.size; omega)
      have HT1Y := hide (TermIn.keep HKX4.out (fun _ _ => id) _ _ (TermIn.more HLT.out _ _ HT1.out))
      have HTIY := hide ((TermsB r.items).keep _ _ _ _ HKX4.out ((TermsB r.items).more _ _ (fun k => k ≠ b) _ HLT.out HP.out.2.1))
      have HTTY := hide ((TermsB r.tail).keep _ _ _ _ HKX4.out ((TermsB r.tail).more _ _ (fun k => k ≠ b) _ HLT.out HP.out.2.2))
      have HRM := hide (show Roomy ([h] ++ r.items).length 104 from roomy4096 (by have h1 : u.items.length ≤ 4096 := right_items HRU.out (.inr (by rw [hu]; rfl)); rw [hu] at h1; have h2 : (h :: r.items).length ≤ 4096 := h1; simp only [List.length_cons, List.length_append, List.length_nil] at h2 ⊢; omega))
      have HBS := hide (show w2.drew.heap.size ≤ w4.drew.heap.size ∧ b < w4.drew.heap.size from ⟨HK4.out.size, HB5.out.lt⟩)
      refine order_parts 11 99 [10, 9, 8, 7, 6, 5, 4, 3, 2, 1, 0] (fun k => k ≠ b) [KB.eq (.agg #[.int .u8 kd1, .bool ng1, .slice la1 ln1 lc1, .string tx1, .int .i64 nm1, .slice ia1 im1 ic1, .slice ta1 tn1 tc1]), TermsB [h], KB.eq (.pointer (some ⟨gp + 1, 5, none⟩)), KB.eq (.slice ia2 im2 ic2), ListsB ([h] ++ r.items), (TermsB ([h] ++ r.items)).from w2.drew.heap.size, KB.eq (.pointer (some ⟨gp + 1, 6, none⟩)), KB.eq (.slice ta2 tn2 tc2), ListsB r.tail, (TermsB r.tail).from w2.drew.heap.size, KB.eq (.pointer (some ⟨b, 5, none⟩))] (fun _ => True) (fun _ => false) (fun xs => { tmps := #[.agg #[.int .u8 kd1, .bool ng1, .slice la1 ln1 lc1, .string tx1, .int .i64 nm1, .slice ia1 im1 ic1, .slice ta1 tn1 tc1], .agg #[.int .u8 7, .bool ng2, .slice la2 ln2 lc2, .string tx2, .int .i64 nm2, .slice ia2 im2 ic2, .slice ta2 tn2 tc2], .pointer (some ⟨gp, 0, none⟩), .pointer (some ⟨gp + 1, 0, none⟩), .pointer (some ⟨gp + 1 + 1, 0, none⟩), .pointer (some ⟨b, 0, none⟩), .agg #[.int .u8 kd1, .bool ng1, .slice la1 ln1 lc1, .string tx1, .int .i64 nm1, .slice ia1 im1 ic1, .slice ta1 tn1 tc1], .bool true, .bool false, .bool false, .agg #[.int .u8 7, .bool ng2, .slice la2 ln2 lc2, .string tx2, .int .i64 nm2, .slice ia2 im2 ic2, .slice ta2 tn2 tc2], .bool true, .bool false, .bool false, undef, xs3 0, xs3 1, xs3 2, xs3 3, xs3 4, xs3 5, xs3 6, xs3 7, .agg #[.int .u8 kd5, .bool ng5, .slice la5 ln5 lc5, .string tx5, .int .i64 nm5, .slice ia5 im5 ic5, .slice ta5 tn5 tc5], .pointer (some ⟨gp + 1, 0, none⟩), .int .u8 7, .bool true, xs 0, xs 1, xs 2, xs 3, xs 4, xs 5, xs 6, xs 7, xs 8, xs 9, xs 10, undef, undef, undef, undef, undef, undef], defers := [] }) (fun _ => undef) (by kernel_rfl) (fun j => by rw [Bool.eq_iff_iff]; simp; omega) (by decide) (by kernel_rfl) rfl rfl ?_ ?_
      · intro d xs wx i oi hoi hin hdi hk hu hx hdep K hKn hKa
        have hcases : i = 0 ∨ i = 1 ∨ i = 2 ∨ i = 3 ∨ i = 4 ∨ i = 5 ∨ i = 6 ∨ i = 7 ∨ i = 8 ∨ i = 9 ∨ i = 10 := by omega
        have HX := hide hx; have HKX := hide hk; have HUX := hide hu
        clear hx hk hu hdi hin
        rcases hcases with rfl | rfl | rfl | rfl | rfl | rfl | rfl | rfl | rfl | rfl | rfl
        · simp at hoi
          subst hoi
          simp [Region.binds] at hdep
          obtain ⟨c0, c1, c2, c3, c4, c5, c6⟩ := Blk.c7 (HB1Y.out.keep HKX.out id)
          go_simp
          exact hKn (by decide) _ _ (Keeps.refl _ _) rfl
        · simp at hoi
          subst hoi
          simp [Region.binds] at hdep
          have e0 : xs 0 = .agg #[.int .u8 kd1, .bool ng1, .slice la1 ln1 lc1, .string tx1, .int .i64 nm1, .slice ia1 im1 ic1, .slice ta1 tn1 tc1] := (HX.out 0 (by simp [hdep]))
          rw [e0]
          go_simp
          have hI := hKn (by decide) _ _ ((Keeps.refl NoB wx).alloc _) (one_term_list (Blk.new wx 26 #[.int .u8 kd1, .bool ng1, .slice la1 ln1 lc1, .string tx1, .int .i64 nm1, .slice ia1 im1 ic1, .slice ta1 tn1 tc1]) (bx_new (fun e => by have h1 := HBS.out.2; have h2 := HKX.out.size; omega) HUX.out (Nat.le_refl _)) (TermIn.keep ((Keeps.refl NoB wx).alloc _) (fun _ _ => id) _ _ (HT1Y.out.bx HKX.out (fun _ _ h => h) HUX.out)))
          simp only [updX, Nat.reduceEqDiff, reduceIte] at hI
          rw [e0] at hI
          exact hI
        · simp at hoi
          subst hoi
          simp [Region.binds] at hdep
          go_simp
          exact hKn (by decide) _ _ (Keeps.refl _ _) rfl
        · simp at hoi
          subst hoi
          simp [Region.binds] at hdep
          have e3 : xs 2 = .pointer (some ⟨gp + 1, 5, none⟩) := (HX.out 2 (by simp [hdep]))
          obtain ⟨c0, c1, c2, c3, c4, c5, c6⟩ := Blk.c7 (HB2Y.out.keep HKX.out id)
          rw [e3]
          go_simp
          have hI := hKn (by decide) _ _ (Keeps.refl _ _) rfl
          simp only [updX, Nat.reduceEqDiff, reduceIte] at hI
          rw [e3] at hI
          exact hI
        · simp at hoi
          subst hoi
          simp [Region.binds] at hdep
          obtain ⟨A, n, c, css, e1, h1⟩ := (show (TermsB [h]).say wx _ (xs 1) from (HX.out 1 (by simp [hdep])))
          have e3 : xs 3 = .slice ia2 im2 ic2 := (HX.out 3 (by simp [hdep]))
          rw [e1, e3]
          go_simp
          have hI := hKn (by decide) _ _ ((Keeps.refl NoB wx).alloc _) (two_lists (Blk.new wx 24 #[.slice A n c, .slice ia2 im2 ic2]) (bx_new (fun e => by have h1 := HBS.out.2; have h2 := HKX.out.size; omega) HUX.out (Nat.le_refl _)) ((TermsB [h]).keep _ _ _ _ ((Keeps.refl NoB wx).alloc _) ⟨A, n, c, css, rfl, h1⟩) ((TermsB r.items).keep _ _ _ _ ((Keeps.refl NoB wx).alloc _) (KB.bx (K := TermsB r.items) HTIY.out HKX.out (fun _ _ h => h) HUX.out)) HRM.out)
          simp only [updX, Nat.reduceEqDiff, reduceIte] at hI
          rw [e1, e3] at hI
          exact hI
        · simp at hoi
          subst hoi
          simp [Region.binds] at hdep
          obtain ⟨A, K1, c, vs, csss, e2, h2⟩ := (show (ListsB ([h] ++ r.items)).say wx _ (xs 4) from (HX.out 4 (by simp [hdep])))
          rw [e2]
          go_simp
          refine (copies_any ([h] ++ r.items) wx _ A K1 c ⟨A, K1, c, vs, csss, rfl, h2⟩).mono ?_
          rintro e w' ⟨v, rfl, hv, hk'⟩
          have hI := hKn (by decide) v w' hk' (hv _ (fun k hk => ⟨bx_new (show k ≠ b from fun e => by have h1 := HBS.out.2; have h2 := HKX.out.size; omega) HUX.out hk, by have h1 := HBS.out.1; have h2 := HKX.out.size; omega⟩))
          simp only [updX, Nat.reduceEqDiff, reduceIte] at hI
          rw [e2] at hI
          exact hI
        · simp at hoi
          subst hoi
          simp [Region.binds] at hdep
          go_simp
          exact hKn (by decide) _ _ (Keeps.refl _ _) rfl
        · simp at hoi
          subst hoi
          simp [Region.binds] at hdep
          have e3 : xs 6 = .pointer (some ⟨gp + 1, 6, none⟩) := (HX.out 6 (by simp [hdep]))
          obtain ⟨c0, c1, c2, c3, c4, c5, c6⟩ := Blk.c7 (HB2Y.out.keep HKX.out id)
          rw [e3]
          go_simp
          have hI := hKn (by decide) _ _ (Keeps.refl _ _) rfl
          simp only [updX, Nat.reduceEqDiff, reduceIte] at hI
          rw [e3] at hI
          exact hI
        · simp at hoi
          subst hoi
          simp [Region.binds] at hdep
          have e3 : xs 7 = .slice ta2 tn2 tc2 := (HX.out 7 (by simp [hdep]))
          rw [e3]
          go_simp
          have hI := hKn (by decide) _ _ ((Keeps.refl NoB wx).alloc _) (one_list (Blk.new wx 24 #[.slice ta2 tn2 tc2]) (bx_new (fun e => by have h1 := HBS.out.2; have h2 := HKX.out.size; omega) HUX.out (Nat.le_refl _)) ((TermsB r.tail).keep _ _ _ _ ((Keeps.refl NoB wx).alloc _) (KB.bx (K := TermsB r.tail) HTTY.out HKX.out (fun _ _ h => h) HUX.out)))
          simp only [updX, Nat.reduceEqDiff, reduceIte] at hI
          rw [e3] at hI
          exact hI
        · simp at hoi
          subst hoi
          simp [Region.binds] at hdep
          obtain ⟨A, K1, c, vs, csss, e2, h2⟩ := (show (ListsB r.tail).say wx _ (xs 8) from (HX.out 8 (by simp [hdep])))
          rw [e2]
          go_simp
          refine (copies_any r.tail wx _ A K1 c ⟨A, K1, c, vs, csss, rfl, h2⟩).mono ?_
          rintro e w' ⟨v, rfl, hv, hk'⟩
          have hI := hKn (by decide) v w' hk' (hv _ (fun k hk => ⟨bx_new (show k ≠ b from fun e => by have h1 := HBS.out.2; have h2 := HKX.out.size; omega) HUX.out hk, by have h1 := HBS.out.1; have h2 := HKX.out.size; omega⟩))
          simp only [updX, Nat.reduceEqDiff, reduceIte] at hI
          rw [e2] at hI
          exact hI
        · simp at hoi
          subst hoi
          simp [Region.binds] at hdep
          go_simp
          exact hKn (by decide) _ _ (Keeps.refl _ _) rfl
      · intro xs wx hk hu2 hx
        obtain ⟨A6, n6, c6, css6, e5, h5⟩ := (show ((TermsB ([h] ++ r.items)).from w2.drew.heap.size).say wx _ (xs 5) from hx 5 (by decide))
        obtain ⟨A7, n7, c7, css7, e9, h9⟩ := (show ((TermsB r.tail).from w2.drew.heap.size).say wx _ (xs 9) from hx 9 (by decide))
        have e10 : xs 10 = .pointer (some ⟨b, 5, none⟩) := hx 10 (by decide)
        have hb := HB5Y.out.keep hk id
        refine order_one (i := 11) rfl (by kernel_rfl) (fun K hK => ?_)
        rw [e5, e9, e10]
        have z5 := hb.free 5
        have q5 := hb.cell 5
        go_simp
        refine hK _ _ (fun _ _ => trivial) ?_
        clear hK
        try simp only [Act.put, List.setIfInBounds_toArray, List.set_cons_succ, List.set_cons_zero]
        have hb2 := hb.put 5 (.slice A6 n6 c6)
        refine order_one (i := 12) rfl (by kernel_rfl) (fun K hK => ?_)
        go_simp
        refine hK _ _ (fun _ _ => trivial) ?_
        clear hK
        try simp only [Act.put, List.setIfInBounds_toArray, List.set_cons_succ, List.set_cons_zero]
        refine order_one (i := 13) rfl (by kernel_rfl) (fun K hK => ?_)
        have z6 := hb2.free 6
        have q6 := hb2.cell 6
        go_simp
        refine hK _ _ (fun _ _ => trivial) ?_
        clear hK
        try simp only [Act.put, List.setIfInBounds_toArray, List.set_cons_succ, List.set_cons_zero]
        have hb3 := hb2.put 6 (.slice A7 n7 c7)
        have hks : Keeps (fun j => j = b) wx ((wx.setCell ⟨b, 5, none⟩ (.slice A6 n6 c6)).setCell ⟨b, 6, none⟩ (.slice A7 n7 c7)) := ((Keeps.refl (fun j => j = b) wx).setCell (p := ⟨b, 5, none⟩) (.inl rfl) _).setCell (p := ⟨b, 6, none⟩) (.inl rfl) _
        have HKV := hide ((HK4.out.drew.trans' hk (fun _ _ => id) (fun _ _ => id) : Keeps NoB w2.drew wx).trans' hks (fun _ _ => id) (fun k hk' (e : k = b) => by have h1 := HBN.out; omega) : Keeps NoB w2.drew _)
        have hx5 : TermIn wx (fun k => gp + 3 ≤ k ∧ k ≠ b) false [.int .u8 kd5, .bool ng5, .slice la5 ln5 lc5, .string tx5, .int .i64 nm5, .slice ia5 im5 ic5, .slice ta5 tn5 tc5] (.mk 7 false [] ⟨#[]⟩ 0 [h] [r]) := TermIn.keep ((Keeps.refl NoB w4).drew.trans' hk (fun _ _ => id) (fun _ _ => id)) (fun _ _ => id) _ _ HT5.out
        have hmv : ∀ k, k < wx.heap.size → Bx (fun k => k ≠ b) (xs 99) k ∧ w2.drew.heap.size ≤ k → gp + 3 ≤ k ∧ k ≠ b := fun k _ hk => ⟨Nat.le_trans HNX.out hk.2, hk.1.1⟩
        have HTV := hide (TermIn.keep hks (fun k (hk : gp + 3 ≤ k ∧ k ≠ b) e => hk.2 e) _ _ (seven_set (ts := [h] ++ r.items) (us := r.tail) hx5 ((TermsB ([h] ++ r.items)).more _ _ _ _ hmv ⟨A6, n6, c6, css6, rfl, h5⟩) ((TermsB r.tail).more _ _ _ _ hmv ⟨A7, n7, c7, css7, rfl, h9⟩)))
        clear hx5 hmv
        have HB6 := hide (show Blk _ b 26 #[.int .u8 kd5, .bool ng5, .slice la5 ln5 lc5, .string tx5, .int .i64 nm5, .slice A6 n6 c6, .slice A7 n7 c7] from hb3)
        clear z5 q5 z6 q6 hb hb2 hb3 hks h5 h9 hx hu2 hk
        generalize (wx.setCell ⟨b, 5, none⟩ (.slice A6 n6 c6)).setCell ⟨b, 6, none⟩ (.slice A7 n7 c7) = w6 at *
        refine order_done (by kernel_rfl) ?_
        have HKC6 := hide (HKD.out.trans' HKV.out (fun _ _ => id) (fun _ _ => id) : Keeps NoB w0 w6)
        have HT6 := hide (show TermIn w6 (fun k => gp + 3 ≤ k ∧ k ≠ b) false _ u from by rw [hu]; exact HTV.out)
        clear HKV HTV
        obtain ⟨q0, q1, q2, q3, q4, q5, q6⟩ := Blk.c7 HB6.out
        have HB4Y := hide (HB4.out.keep HKC6.out id)
        go_upto_region 8 with
          first
          | (go_at_call 7
             refine (tm_right u w6 _ false _ _ _ _ _ _ _ _ _ _ _ _ _ HT6.out).mono ?_
             rintro e w7 ⟨rfl, hk7⟩
             rw [HRU.out]
             obtain ⟨s0, s1, s2, s3, s4, s5, s6⟩ := Blk.c7 (HB6.out.keep hk7 id)
             have HB4Z := hide (HB4Y.out.keep hk7 id)
             obtain ⟨y0, y1, y2, y3, y4, y5, y6⟩ := Blk.f7 (w := w7) (g := gp + 1 + 1) HB4Z.out
             obtain ⟨x0, x1, x2, x3, x4, x5, x6⟩ := Blk.c7 HB4Z.out
             have HT7 := hide (TermIn.keep hk7 (fun _ _ => id) _ _ HT6.out)
             have HK7 := hide ((HKC6.out.trans' hk7 (fun _ _ => id) (fun _ _ => id)) : Keeps NoB w0 w7)
             clear hk7)
          | fail
        go_wp2_with fail
        have HKA := hide (keeps_tput7 w7 (gp + 1 + 1) (.int .u8 kd5) (.bool ng5) (.slice la5 ln5 lc5) (.string tx5) (.int .i64 nm5) (.slice A6 n6 c6) (.slice A7 n7 c7))
        refine bodyPost_ret (results7 Tryz.f30 4 (by kernel_rfl) _ _ _ _ _ _ _ _ _ _ rfl (HB4Z.out.tput7 _ _ _ _ _ _ _)) rfl ?_
        have HG := HGP.out
        refine ⟨_, _, _, _, _, _, _, _, _, _, _, _, _, rfl, ?_, ?_⟩
        · exact TermIn.more (fun k _ (hk : gp + 3 ≤ k ∧ k ≠ b) => by omega) _ _ (TermIn.keep HKA.out (fun k (hk : gp + 3 ≤ k ∧ k ≠ b) (e : k = gp + 1 + 1) => by omega) _ _ HT7.out)
        · exact (HK0.out.trans' HK7.out (fun _ _ => id) (fun _ _ => id) : Keeps NoB w w7).trans' HKA.out (fun _ _ => id) (fun k hk (e : k = gp + 1 + 1) => by omega)

    · have hb1 : (kd2 == 7) = false := by rw [← hkd]; simpa using h7
      have hb2 : decide (kd2 = 7) = false := decide_eq_false (by rw [← hkd]; exact h7)
      have hn0 : ¬ kd2 = 7 := by rw [← hkd]; exact h7
      clear hkd
      have HN0 := hide hn0
      go_upto_region 6 with fail
      clear b0 b1 b2 b3 b4 b5 b6 hb1 hb2 hn0
      have HT6 := hide (show TermIn w4 _ false _ u from by rw [hu]; exact HT5.out)
      obtain ⟨q0, q1, q2, q3, q4, q5, q6⟩ := Blk.c7 HB5.out
      have HB4Y := hide (HB4.out.keep HKC.out id)
      go_upto_region 8 with
        first
        | (go_at_call 7
           refine (tm_right u w4 _ false _ _ _ _ _ _ _ _ _ _ _ _ _ HT6.out).mono ?_
           rintro e w7 ⟨rfl, hk7⟩
           rw [HRU.out]
           obtain ⟨s0, s1, s2, s3, s4, s5, s6⟩ := Blk.c7 (HB5.out.keep hk7 id)
           have HB4Z := hide (HB4Y.out.keep hk7 id)
           obtain ⟨y0, y1, y2, y3, y4, y5, y6⟩ := Blk.f7 (w := w7) (g := gp + 1 + 1) HB4Z.out
           obtain ⟨x0, x1, x2, x3, x4, x5, x6⟩ := Blk.c7 HB4Z.out
           have HT7 := hide (TermIn.keep hk7 (fun _ _ => id) _ _ HT6.out)
           have HK7 := hide ((HKC.out.trans' hk7 (fun _ _ => id) (fun _ _ => id)) : Keeps NoB w0 w7)
           clear hk7)
        | fail
      go_wp2_with fail
      have HKA := hide (keeps_tput7 w7 (gp + 1 + 1) (.int .u8 kd5) (.bool ng5) (.slice la5 ln5 lc5) (.string tx5) (.int .i64 nm5) (.slice ia5 im5 ic5) (.slice ta5 tn5 tc5))
      refine bodyPost_ret (results7 Tryz.f30 4 (by kernel_rfl) _ _ _ _ _ _ _ _ _ _ rfl (HB4Z.out.tput7 _ _ _ _ _ _ _)) rfl ?_
      have HG := HGP.out
      refine ⟨_, _, _, _, _, _, _, _, _, _, _, _, _, rfl, ?_, ?_⟩
      · exact TermIn.more (fun k _ (hk : gp + 3 ≤ k ∧ k ≠ b) => by omega) _ _ (TermIn.keep HKA.out (fun k (hk : gp + 3 ≤ k ∧ k ≠ b) (e : k = gp + 1 + 1) => by omega) _ _ HT7.out)
      · exact (HK0.out.trans' HK7.out (fun _ _ => id) (fun _ _ => id) : Keeps NoB w w7).trans' HKA.out (fun _ _ => id) (fun k hk (e : k = gp + 1 + 1) => by omega)

end Go.Proofs.YtjdbjjjbgibpaaaGreatDoor
