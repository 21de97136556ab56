/- The order of terms as a plain function, and what is true of it. Plain law on trees. pigeonholekit: SameLimbs, SameTerm, SameTerms tell whether two are the same. cmp.Compare, cmp.Or, term.tail: their contracts. -/
import Derived.Test.YtjdbjjjbgibpaaaGreatDoorTermLawJn
import Derived.Test.YtjdbjjjbgibpaaaGreatDoorTmOpenJn
import Derived.Deep.QuietTactic
import Derived.BigQuiet
import Derived.Deep.LoopGhost
namespace Go.Proofs.YtjdbjjjbgibpaaaGreatDoor
set_option maxRecDepth 100000

def Tm.neg : Tm → Bool | .mk _ n _ _ _ _ _ => n
def Tm.limbs : Tm → List Int | .mk _ _ l _ _ _ _ => l
def Tm.items : Tm → List Tm | .mk _ _ _ _ _ l _ => l
def Tm.tail : Tm → List Tm | .mk _ _ _ _ _ _ l => l
/-- The number of an integer. -/
def intV (t : Tm) : Int := sgn t.neg (nat (t.limbs.map Int.toNat))
/-- How two texts stand. -/
def cmpB (s t : ByteArray) : Int := if Op.bytesLess s.toList t.toList = true then -1 else if Op.bytesLess t.toList s.toList = true then 1 else 0
/-- The first that is not 0. -/
def firstI (a b : Int) : Int := if a = 0 then b else a
/-- Item by item, as long as both have one. -/
def rowO (f : Tm → Tm → Int) : List Tm → List Tm → Int
  | x :: l, y :: m => if f x y = 0 then rowO f l m else f x y
  | _, _ => 0
/-- term.tail -/
def nilT : Tm := .mk 7 false [] ByteArray.empty 0 [] []
def restT : List Tm → Tm
  | [] => nilT
  | x :: _ => x
/-- term.order -/
def ordO : Nat → Tm → Tm → Int
  | 0, _, _ => 0
  | M + 1, a, b =>
    if a.kind ≠ b.kind then cmpZ a.kind b.kind
    else if a.kind = 1 then cmpZ (intV a) (intV b)
    else if a.kind = 7 then
      if firstI (rowO (ordO M) a.items b.items) (cmpZ a.items.length b.items.length) = 0 ∧ 0 < a.tail.length + b.tail.length then ordO M (restT a.tail) (restT b.tail)
      else firstI (rowO (ordO M) a.items b.items) (cmpZ a.items.length b.items.length)
    else if firstI (cmpB a.text b.text) (firstI (cmpZ a.num b.num) (cmpZ a.items.length b.items.length)) = 0 then rowO (ordO M) a.items b.items
    else firstI (cmpB a.text b.text) (firstI (cmpZ a.num b.num) (cmpZ a.items.length b.items.length))
theorem ordO_seven (M : Nat) (a b : Tm) (hk : a.kind = b.kind) (h7 : a.kind = 7) : ordO (M + 1) a b =
    if firstI (rowO (ordO M) a.items b.items) (cmpZ a.items.length b.items.length) = 0 ∧ 0 < a.tail.length + b.tail.length then ordO M (restT a.tail) (restT b.tail)
      else firstI (rowO (ordO M) a.items b.items) (cmpZ a.items.length b.items.length) := by
  rw [ordO, if_neg (by simp [hk]), if_neg (by rw [h7]; decide), if_pos h7]
theorem ordO_else (M : Nat) (a b : Tm) (hk : a.kind = b.kind) (h1 : a.kind ≠ 1) (h7 : a.kind ≠ 7) : ordO (M + 1) a b =
    if firstI (cmpB a.text b.text) (firstI (cmpZ a.num b.num) (cmpZ a.items.length b.items.length)) = 0 then rowO (ordO M) a.items b.items
    else firstI (cmpB a.text b.text) (firstI (cmpZ a.num b.num) (cmpZ a.items.length b.items.length)) := by
  rw [ordO, if_neg (by simp [hk]), if_neg h1, if_neg h7]
def orderT (a b : Tm) : Int := ordO (a.size + b.size) a b
theorem cmpZ_anti (x y : Int) : cmpZ y x = -cmpZ x y := by
  unfold cmpZ
  rcases Int.lt_trichotomy x y with h | h | h
  · rw [if_neg (by omega), if_pos h, if_pos h]; rfl
  · subst h; simp
  · rw [if_pos h, if_neg (by omega), if_pos h]
theorem cmpZ_self (x : Int) : cmpZ x x = 0 := by unfold cmpZ; simp
theorem firstI_anti (a b : Int) : firstI (-a) (-b) = -firstI a b := by
  unfold firstI
  by_cases h : a = 0
  · rw [if_pos h, if_pos (by omega)]
  · rw [if_neg h, if_neg (by omega)]
theorem bytes_asym : ∀ (s t : List UInt8), Op.bytesLess s t = true → Op.bytesLess t s = false
  | [], [], h => by simp [Op.bytesLess] at h
  | [], _ :: _, _ => by simp [Op.bytesLess]
  | _ :: _, [], h => by simp [Op.bytesLess] at h
  | a :: s, b :: t, h => by
    simp only [Op.bytesLess, Bool.or_eq_true, Bool.and_eq_true, decide_eq_true_eq, beq_iff_eq] at h
    simp only [Op.bytesLess, Bool.or_eq_false_iff, Bool.and_eq_false_iff, decide_eq_false_iff_not, beq_eq_false_iff_ne]
    rcases h with h | ⟨rfl, h⟩
    · exact ⟨fun h2 => by rw [UInt8.lt_iff_toNat_lt] at h h2; omega, .inl (fun e => by subst e; rw [UInt8.lt_iff_toNat_lt] at h; omega)⟩
    · exact ⟨fun h2 => by rw [UInt8.lt_iff_toNat_lt] at h2; omega, .inr (bytes_asym _ _ h)⟩
theorem cmpB_anti (s t : ByteArray) : cmpB t s = -cmpB s t := by
  unfold cmpB
  by_cases h : Op.bytesLess s.toList t.toList = true
  · have h2 := bytes_asym _ _ h
    simp [h, h2]
  · by_cases h2 : Op.bytesLess t.toList s.toList = true
    · simp [h, h2]
    · simp [h, h2]
theorem rowO_anti {f : Tm → Tm → Int} (hf : ∀ x y, f y x = -f x y) : ∀ (l m : List Tm), rowO f m l = -rowO f l m
  | [], [] => rfl
  | [], _ :: _ => rfl
  | _ :: _, [] => rfl
  | x :: l, y :: m => by
    unfold rowO
    rw [hf x y]
    by_cases h : f x y = 0
    · rw [if_pos (by omega), if_pos h]; exact rowO_anti hf l m
    · rw [if_neg (by omega), if_neg h]
theorem ordO_anti : ∀ (M : Nat) (a b : Tm), ordO M b a = -ordO M a b
  | 0, _, _ => rfl
  | M + 1, a, b => by
    have e1 := rowO_anti (ordO_anti M) a.items b.items
    have e2 := cmpZ_anti (a.items.length : Int) (b.items.length : Int)
    have e3 := cmpZ_anti a.num b.num
    have e4 := cmpB_anti a.text b.text
    unfold ordO
    by_cases hk : a.kind = b.kind
    · rw [if_neg (show ¬ b.kind ≠ a.kind from fun h => h hk.symm), if_neg (show ¬ a.kind ≠ b.kind from fun h => h hk), hk]
      by_cases h1 : b.kind = 1
      · rw [if_pos h1, if_pos h1]; exact cmpZ_anti _ _
      · rw [if_neg h1, if_neg h1]
        by_cases h7 : b.kind = 7
        · rw [if_pos h7, if_pos h7, e1, e2, firstI_anti]
          generalize firstI (rowO (ordO M) a.items b.items) (cmpZ a.items.length b.items.length) = c
          by_cases hc : c = 0 ∧ 0 < a.tail.length + b.tail.length
          · rw [if_pos hc, if_pos (by omega)]; exact ordO_anti M _ _
          · rw [if_neg hc, if_neg (by omega)]
        · rw [if_neg h7, if_neg h7, e1, e2, e3, e4, firstI_anti, firstI_anti]
          generalize firstI (cmpB a.text b.text) (firstI (cmpZ a.num b.num) (cmpZ a.items.length b.items.length)) = c
          by_cases hc : c = 0
          · rw [if_pos hc, if_pos (by omega)]
          · rw [if_neg hc, if_neg (by omega)]
    · rw [if_pos (fun e => hk e.symm), if_pos hk]; exact cmpZ_anti _ _
theorem cmpB_self (s : ByteArray) : cmpB s s = 0 := by
  have h := cmpB_anti s s
  omega
theorem ordO_self (M : Nat) (a : Tm) : ordO M a a = 0 := by
  have h := ordO_anti M a a
  omega
theorem order_self (a : Tm) : orderT a a = 0 := ordO_self _ _
theorem rowO_take (f : Tm → Tm → Int) : ∀ (l m : List Tm) (k : Nat), k = min l.length m.length → rowO f (l.take k) (m.take k) = rowO f l m
  | [], m, k, h => by simp at h; subst h; simp [rowO]
  | _ :: _, [], k, h => by simp at h; subst h; simp [rowO]
  | x :: l, y :: m, k, h => by
    obtain ⟨j, rfl⟩ : ∃ j, k = j + 1 := ⟨k - 1, by simp at h; omega⟩
    simp only [List.take_succ_cons, rowO]
    rw [rowO_take f l m j (by simp at h; omega)]
/-- A term that is right, and fits. -/
def goodT (t : Tm) : Prop := rightT t = true ∧ okT t
theorem addT_all : ∀ (l : List Tm) (n e m : Int), addT n e l = some m → ∀ x ∈ l, rightT x = true
  | [], _, _, _, _, x, hx => by cases hx
  | y :: l, n, e, m, h, x, hx => by
    unfold addT at h
    split at h
    · rename_i hy
      rcases List.mem_cons.1 hx with rfl | hx
      · unfold rightT; exact decide_eq_true hy.1
      · exact addT_all l _ _ _ h x hx
    · cases h
theorem okTs_all : ∀ {l : List Tm}, okTs l → ∀ x ∈ l, okT x
  | [], _, x, hx => by cases hx
  | y :: l, h, x, hx => by
    unfold okTs at h
    rcases List.mem_cons.1 hx with rfl | hx
    · exact h.1
    · exact okTs_all h.2 x hx
theorem good_parts {t : Tm} (h : goodT t) : (∀ x ∈ t.items, goodT x) ∧ ∀ x ∈ t.tail, goodT x := by
  obtain ⟨k, ng, limbs, tx, nm, items, tail⟩ := t
  obtain ⟨hr, ho⟩ := h
  unfold okT at ho
  have hs : 0 < sizeT (.mk k ng limbs tx nm items tail) := of_decide_eq_true hr
  unfold sizeT at hs
  split at hs
  · split at hs
    · rename_i h1
      unfold intT at h1
      simp only [Bool.and_eq_true, decide_eq_true_eq] at h1
      have h2 : items.length + tail.length = 0 := h1.1.1.2
      have e1 : items = [] := List.eq_nil_of_length_eq_zero (by omega)
      have e2 : tail = [] := List.eq_nil_of_length_eq_zero (by omega)
      subst e1 e2
      exact ⟨fun x hx => (by cases hx), fun x hx => (by cases hx)⟩
    · omega
  · split at hs
    · split at hs
      · omega
      · rename_i n hn
        split at hs
        · omega
        · rename_i m hm
          exact ⟨fun x hx => ⟨addT_all _ _ _ _ hn x hx, okTs_all ho.2.2.2.2.1 x hx⟩, fun x hx => ⟨addT_all _ _ _ _ hm x hx, okTs_all ho.2.2.2.2.2 x hx⟩⟩
    · omega
theorem good_nil : goodT nilT := by
  refine ⟨?_, ?_⟩
  · unfold rightT nilT sizeT headT addT
    simp [baseT, addT]
  · unfold okT nilT okTs
    simp
end Go.Proofs.YtjdbjjjbgibpaaaGreatDoor
namespace Go.Proofs.YtjdbjjjbgibpaaaGreatDoor
open Go.RowKit

theorem take_eq_succ {α : Type} {xs ys : List α} {k : Nat} {x : α} (h : xs.take k = ys.take k) (h1 : xs[k]? = some x) (h2 : ys[k]? = some x) : xs.take (k + 1) = ys.take (k + 1) := by
  rw [List.take_add_one, List.take_add_one, h, h1, h2]

def SameInv (w : World) (xs ys : List Int) (k : Nat) (wr : World) : Prop := Keeps NoB w wr ∧ xs.take k = ys.take k

def eqL (xs ys : List Int) : Bool := decide (xs = ys)

set_option maxRecDepth 100000 in
theorem tm_same_limbs (A A' : Option Addr) (n c n' c' : Nat) (xs ys : List Int) (w : World) (B B' : Nat → Prop) (F F' : Bool) (hx : Reads w B F 1 A n (xs.map (Value.int .u32))) (hy : Reads w B' F' 1 A' n' (ys.map (Value.int .u32))) (hr : Roomy n 4) :
    Calls Tryz.prog 54 #[.slice A n c, .slice A' n' c'] w fun e w' => e = .returned (.bool (eqL xs ys)) ∧ Keeps NoB w w' := by
  have hln : xs.length = n := by have := hx.1; simpa using this
  have hln' : ys.length = n' := by have := hy.1; simpa using this
  have hnm : n ≤ 9223372036854775807 := by have := hr.len (by omega); unfold maxLen at this; exact this
  by_cases hne : n = n'
  · have HN := hide hne
    have hb : ((n : Int) != (n' : Int)) = false := by simp [hne]
    have HX := hide hx; have HY := hide hy; have HLN := hide hln; have HLN' := hide hln'
    clear hx hy hln hln' hne
    go_enter Tryz.func54, Tryz.ntmps54
    go_wp2
    go_loopw [5] (fun i wr => ∃ k : Nat, k ≤ n ∧ i = .int .i64 k ∧ SameInv w xs ys k wr) (fun i _ => n - (intOf i).toNat)
    case atStart => exact ⟨0, Nat.zero_le _, rfl, Keeps.refl _ _, rfl⟩
    case round =>
      obtain ⟨k, hk, rfl, hinv⟩ := hrel
      have HI := hide hinv; clear hinv
      by_cases hlt : k < n
      · have hkx : k < xs.length := by have := HLN.out; omega
        have hky : k < ys.length := by have := HLN'.out; have := HN.out; omega
        have hlt' : k < n' := by have := HN.out; omega
        obtain ⟨⟨b, o, sp⟩, hA, hs, _, _, hc⟩ := (HX.out.keep HI.out.1 (fun _ _ => id)).2 (by omega)
        obtain ⟨⟨b', o', sp'⟩, hA', hs', _, _, hc'⟩ := (HY.out.keep HI.out.1 (fun _ _ => id)).2 (by omega)
        simp only at hs hs'
        subst hs hs' hA hA'
        obtain ⟨X, hX⟩ : ∃ X, xs[k]? = some X := ⟨_, List.getElem?_eq_getElem hkx⟩
        obtain ⟨Y, hY⟩ : ∃ Y, ys[k]? = some Y := ⟨_, List.getElem?_eq_getElem hky⟩
        have hcx : wr.cell? ⟨b, o + k, none⟩ = some (.int .u32 X) := (hc k _ (by simp [hX])).1
        have hcy : wr.cell? ⟨b', o' + k, none⟩ = some (.int .u32 Y) := (hc' k _ (by simp [hY])).1
        have HEX := hide hX; have HEY := hide hY
        clear hc hc' hX hY
        have hk1 : (k : Int) < (n : Int) := by omega
        have hk2 : (k : Int) < (n' : Int) := by omega
        have hk0 : (0 : Int) ≤ (k : Int) := by omega
        clear hkx hky
        by_cases hxy : X = Y
        · have HXY := hide hxy
          have hbb : (X != Y) = false := by simp [hxy]
          clear hxy
          go_wp2_with (go_quiet (fail))
          go_roundw
          case rel => exact ⟨k + 1, by omega, by go_num, HI.out.1.drewN _, take_eq_succ HI.out.2 HEX.out (HXY.out ▸ HEY.out)⟩
          case measure => simp [intOf]; omega
        · have HXY := hide hxy
          have hbb : (X != Y) = true := by simp [hxy]
          clear hxy
          go_wp2_with (go_quiet (fail))
          go_ret
          refine ⟨?_, HI.out.1.drewN _⟩
          have he : eqL xs ys = false := by
            unfold eqL; simp only [decide_eq_false_iff_not]; intro e; subst e
            exact HXY.out (Option.some.inj (HEX.out.symm.trans HEY.out))
          rw [he]; rfl
      · go_wp2
        go_ret
        refine ⟨?_, HI.out.1⟩
        have he : eqL xs ys = true := by
          have h2 := HI.out.2
          have h3 := HLN.out; have h4 := HLN'.out; have h5 := HN.out
          rw [List.take_of_length_le (by omega), List.take_of_length_le (by omega)] at h2
          unfold eqL; simp [h2]
        rw [he]; rfl
  · have hb : ((n : Int) != (n' : Int)) = true := by simp; omega
    have he : eqL xs ys = false := by
      unfold eqL; simp only [decide_eq_false_iff_not]; rintro rfl; omega
    have HE := hide he; clear he
    clear hx hy hln hln' hne
    go_enter Tryz.func54, Tryz.ntmps54
    go_wp2
    go_ret
    exact ⟨by rw [HE.out]; rfl, Keeps.refl _ _⟩


mutual
def eqT : Tm → Tm → Bool
  | .mk k ng limbs tx nm items tail, .mk k' ng' limbs' tx' nm' items' tail' =>
    (k == k') && ((ng == ng') && (eqL limbs limbs' && (decide (tx.toList = tx'.toList) && ((nm == nm') && (eqTs items items' && eqTs tail tail')))))
def eqTs : List Tm → List Tm → Bool
  | [], [] => true
  | t :: ts, u :: us => eqT t u && eqTs ts us
  | [], _ :: _ => false
  | _ :: _, [] => false
end

theorem Blk.new2 (w : World) (o : Obj) (t : TypeId) (cs : Array Value) : Blk ((w.alloc o).alloc (.cells cs t)) (w.heap.size + 1) t cs := by
  have h := Blk.new (w.alloc o) t cs
  have e : (w.alloc o).heap.size = w.heap.size + 1 := by unfold World.alloc; exact Array.size_push ..
  rw [e] at h; exact h

def SamesPost (w : World) (r : Bool) (e : Ending) (w' : World) : Prop := e = .returned (.bool r) ∧ Keeps NoB w w'

def SamesSaid (M : Nat) : Prop := ∀ (ts us : List Tm), Tm.size.sizes ts ≤ M → ∀ (css dss : List (List Value)) (A A' : Option Addr) (n c n' c' : Nat) (w : World) (B B' : Nat → Prop) (F F' : Bool),
  Reads w B F 7 A n css.flatten → TermsIn w B F css ts → Reads w B' F' 7 A' n' dss.flatten → TermsIn w B' F' dss us → Roomy n 104 →
  Calls Tryz.prog 18 #[.slice A n c, .slice A' n' c'] w (SamesPost w (eqTs ts us))

set_option maxRecDepth 100000 in
set_option maxHeartbeats 1000000 in
theorem same_term_of (M : Nat) (IH : Hid (SamesSaid M)) (t u : Tm) (hM : t.size ≤ M + 1) (w : World) (B B' : Nat → Prop) (F F' : Bool)
    (kd : Int) (ng : Bool) (la : Option Addr) (ln lc : Nat) (tx : ByteArray) (nm : Int) (ia : Option Addr) (im ic : Nat) (ta : Option Addr) (tn tc : Nat)
    (kd' : Int) (ng' : Bool) (la' : Option Addr) (ln' lc' : Nat) (tx' : ByteArray) (nm' : Int) (ia' : Option Addr) (im' ic' : Nat) (ta' : Option Addr) (tn' tc' : Nat)
    (ht : TermIn w B F [.int .u8 kd, .bool ng, .slice la ln lc, .string tx, .int .i64 nm, .slice ia im ic, .slice ta tn tc] t)
    (hu : TermIn w B' F' [.int .u8 kd', .bool ng', .slice la' ln' lc', .string tx', .int .i64 nm', .slice ia' im' ic', .slice ta' tn' tc'] u) :
    Calls Tryz.prog 32 #[.agg #[.int .u8 kd, .bool ng, .slice la ln lc, .string tx, .int .i64 nm, .slice ia im ic, .slice ta tn tc], .agg #[.int .u8 kd', .bool ng', .slice la' ln' lc', .string tx', .int .i64 nm', .slice ia' im' ic', .slice ta' tn' tc']] w (SamesPost w (eqT t u)) := by
  obtain ⟨limbs, items, tail, css, dss, rfl, hroom, hrl, hri, hti, hrt, htt⟩ : ∃ limbs items tail css dss, t = .mk kd ng limbs tx nm items tail ∧ (Roomy ln 4 ∧ Roomy im 104 ∧ Roomy tn 104) ∧ Reads w B F 1 la ln (limbs.map (Value.int .u32)) ∧ Reads w B F 7 ia im (List.flatten css) ∧ TermsIn w B F css items ∧ Reads w B F 7 ta tn (List.flatten dss) ∧ TermsIn w B F dss tail := by
    cases t
    unfold TermIn at ht
    obtain ⟨_, _, _, _, _, _, _, _, _, css, dss, e, hb, h1, h2, h3, h4, h5⟩ := ht
    simp only [List.cons.injEq, Value.int.injEq, Value.bool.injEq, Value.slice.injEq, Value.string.injEq, true_and, and_true] at e
    obtain ⟨rfl, rfl, ⟨rfl, rfl, rfl⟩, rfl, rfl, ⟨rfl, rfl, rfl⟩, rfl, rfl, rfl⟩ := e
    exact ⟨_, _, _, css, dss, rfl, ⟨hb.1.1, hb.2.1.1, hb.2.2.1⟩, h1, h2, h3, h4, h5⟩
  obtain ⟨limbs', items', tail', css', dss', rfl, hroom', hrl', hri', hti', hrt', htt'⟩ : ∃ limbs items tail css dss, u = .mk kd' ng' limbs tx' nm' items tail ∧ (Roomy ln' 4 ∧ Roomy im' 104 ∧ Roomy tn' 104) ∧ Reads w B' F' 1 la' ln' (limbs.map (Value.int .u32)) ∧ Reads w B' F' 7 ia' im' (List.flatten css) ∧ TermsIn w B' F' css items ∧ Reads w B' F' 7 ta' tn' (List.flatten dss) ∧ TermsIn w B' F' dss tail := by
    cases u
    unfold TermIn at hu
    obtain ⟨_, _, _, _, _, _, _, _, _, css, dss, e, hb, h1, h2, h3, h4, h5⟩ := hu
    simp only [List.cons.injEq, Value.int.injEq, Value.bool.injEq, Value.slice.injEq, Value.string.injEq, true_and, and_true] at e
    obtain ⟨rfl, rfl, ⟨rfl, rfl, rfl⟩, rfl, rfl, ⟨rfl, rfl, rfl⟩, rfl, rfl, rfl⟩ := e
    exact ⟨_, _, _, css, dss, rfl, ⟨hb.1.1, hb.2.1.1, hb.2.2.1⟩, h1, h2, h3, h4, h5⟩
  have hsz : Tm.size.sizes items ≤ M ∧ Tm.size.sizes tail ≤ M := by
    have := hM; simp only [Tm.size] at this; omega
  clear ht hu hM
  have HRL := hide hrl; have HRL' := hide hrl'; have HRI := hide hri; have HTI := hide hti; have HRI' := hide hri'; have HTI' := hide hti'; have HRT := hide hrt; have HTT := hide htt; have HRT' := hide hrt'; have HTT' := hide htt'; have HRO := hide hroom; have HSZ := hide hsz
  clear hrl hrl' hri hti hri' hti' hrt htt hrt' htt' hroom hroom' hsz
  by_cases h0 : (kd == kd') = true
  · skip
    by_cases h1 : (ng == ng') = true
    · skip
      by_cases h2 : eqL limbs limbs' = true
      · skip
        by_cases h3 : tx.toList = tx'.toList
        · skip
          by_cases h4 : (nm == nm') = true
          · skip
            by_cases h5 : eqTs items items' = true
            · skip
              by_cases h6 : eqTs tail tail' = true
              · skip
                have HE := hide (show eqT (.mk kd ng limbs tx nm items tail) (.mk kd' ng' limbs' tx' nm' items' tail') = true by simp only [eqT, h0, h1, h2, h3, h4, h5, h6, decide_true, Bool.and_true])
                go_enter Tryz.func32, Tryz.ntmps32
                go_wp2_with
                  first
                  | (go_at_call 54
                     refine (tm_same_limbs la la' ln lc ln' lc' limbs limbs' _ B B' F F' (HRL.out.keep (((Keeps.refl NoB w).alloc _).alloc _) (fun _ _ => id)) (HRL'.out.keep (((Keeps.refl NoB w).alloc _).alloc _) (fun _ _ => id)) HRO.out.1).mono ?_
                     rintro e w2 ⟨rfl, hk2⟩
                     have B1 : Blk w2 w.heap.size 26 #[.int .u8 kd, .bool ng, .slice la ln lc, .string tx, .int .i64 nm, .slice ia im ic, .slice ta tn tc] := Blk.keep (Blk.alloc (Blk.new w _ _) _) hk2 id
                     have B2 : Blk w2 (w.heap.size + 1) 26 #[.int .u8 kd', .bool ng', .slice la' ln' lc', .string tx', .int .i64 nm', .slice ia' im' ic', .slice ta' tn' tc'] := Blk.keep (Blk.new2 w _ _ _) hk2 id
                     have HK2 := hide (Keeps.trans' (((Keeps.refl NoB w).alloc (.cells #[.int .u8 kd, .bool ng, .slice la ln lc, .string tx, .int .i64 nm, .slice ia im ic, .slice ta tn tc] 26)).alloc (.cells #[.int .u8 kd', .bool ng', .slice la' ln' lc', .string tx', .int .i64 nm', .slice ia' im' ic', .slice ta' tn' tc'] 26)) hk2 (fun _ _ => id) (fun _ _ => id))
                     have HB1 := hide B1; have HB2 := hide B2
                     have p3 := B1.cell 3
                     have q3 := B2.cell 3
                     have p4 := B1.cell 4
                     have q4 := B2.cell 4
                     have p5 := B1.cell 5
                     have q5 := B2.cell 5
                     have p6 := B1.cell 6
                     have q6 := B2.cell 6
                     clear B1 B2 hk2)
                  | (go_at_call 18
                     clear p5 q5
                     refine (IH.out items items' HSZ.out.1 css css' ia ia' im ic im' ic' _ B B' F F' (HRI.out.keep HK2.out (fun _ _ => id)) (TermsIn.keep HK2.out (fun _ _ => id) _ _ HTI.out) (HRI'.out.keep HK2.out (fun _ _ => id)) (TermsIn.keep HK2.out (fun _ _ => id) _ _ HTI'.out) HRO.out.2.1).mono ?_
                     rintro e w3 ⟨rfl, hk3⟩
                     have B1 := Blk.keep HB1.out hk3 id
                     have B2 := Blk.keep HB2.out hk3 id
                     have HK3 := hide (Keeps.trans' HK2.out hk3 (fun _ _ => id) (fun _ _ => id))
                     clear p3 p4 p6 q3 q4 q6
                     have p6 := B1.cell 6
                     have q6 := B2.cell 6
                     clear B1 B2 hk3)
                  | (go_at_call 18
                     refine (IH.out tail tail' HSZ.out.2 dss dss' ta ta' tn tc tn' tc' _ B B' F F' (HRT.out.keep HK3.out (fun _ _ => id)) (TermsIn.keep HK3.out (fun _ _ => id) _ _ HTT.out) (HRT'.out.keep HK3.out (fun _ _ => id)) (TermsIn.keep HK3.out (fun _ _ => id) _ _ HTT'.out) HRO.out.2.2).mono ?_
                     rintro e w4 ⟨rfl, hk4⟩
                     have HK4 := hide (Keeps.trans' HK3.out hk4 (fun _ _ => id) (fun _ _ => id))
                     clear hk4 p6 q6)
                  | fail
                go_ret
                exact ⟨by rw [HE.out]; rfl, HK4.out⟩
              · skip
                have g6 : eqTs tail tail' = false := by simpa using h6
                have HE := hide (show eqT (.mk kd ng limbs tx nm items tail) (.mk kd' ng' limbs' tx' nm' items' tail') = false by simp only [eqT, h0, h1, h2, h3, h4, h5, g6, decide_true, decide_false, Bool.and_false, Bool.false_and, Bool.true_and])
                clear h6
                go_enter Tryz.func32, Tryz.ntmps32
                go_wp2_with
                  first
                  | (go_at_call 54
                     refine (tm_same_limbs la la' ln lc ln' lc' limbs limbs' _ B B' F F' (HRL.out.keep (((Keeps.refl NoB w).alloc _).alloc _) (fun _ _ => id)) (HRL'.out.keep (((Keeps.refl NoB w).alloc _).alloc _) (fun _ _ => id)) HRO.out.1).mono ?_
                     rintro e w2 ⟨rfl, hk2⟩
                     have B1 : Blk w2 w.heap.size 26 #[.int .u8 kd, .bool ng, .slice la ln lc, .string tx, .int .i64 nm, .slice ia im ic, .slice ta tn tc] := Blk.keep (Blk.alloc (Blk.new w _ _) _) hk2 id
                     have B2 : Blk w2 (w.heap.size + 1) 26 #[.int .u8 kd', .bool ng', .slice la' ln' lc', .string tx', .int .i64 nm', .slice ia' im' ic', .slice ta' tn' tc'] := Blk.keep (Blk.new2 w _ _ _) hk2 id
                     have HK2 := hide (Keeps.trans' (((Keeps.refl NoB w).alloc (.cells #[.int .u8 kd, .bool ng, .slice la ln lc, .string tx, .int .i64 nm, .slice ia im ic, .slice ta tn tc] 26)).alloc (.cells #[.int .u8 kd', .bool ng', .slice la' ln' lc', .string tx', .int .i64 nm', .slice ia' im' ic', .slice ta' tn' tc'] 26)) hk2 (fun _ _ => id) (fun _ _ => id))
                     have HB1 := hide B1; have HB2 := hide B2
                     have p3 := B1.cell 3
                     have q3 := B2.cell 3
                     have p4 := B1.cell 4
                     have q4 := B2.cell 4
                     have p5 := B1.cell 5
                     have q5 := B2.cell 5
                     have p6 := B1.cell 6
                     have q6 := B2.cell 6
                     clear B1 B2 hk2)
                  | (go_at_call 18
                     clear p5 q5
                     refine (IH.out items items' HSZ.out.1 css css' ia ia' im ic im' ic' _ B B' F F' (HRI.out.keep HK2.out (fun _ _ => id)) (TermsIn.keep HK2.out (fun _ _ => id) _ _ HTI.out) (HRI'.out.keep HK2.out (fun _ _ => id)) (TermsIn.keep HK2.out (fun _ _ => id) _ _ HTI'.out) HRO.out.2.1).mono ?_
                     rintro e w3 ⟨rfl, hk3⟩
                     have B1 := Blk.keep HB1.out hk3 id
                     have B2 := Blk.keep HB2.out hk3 id
                     have HK3 := hide (Keeps.trans' HK2.out hk3 (fun _ _ => id) (fun _ _ => id))
                     clear p3 p4 p6 q3 q4 q6
                     have p6 := B1.cell 6
                     have q6 := B2.cell 6
                     clear B1 B2 hk3)
                  | (go_at_call 18
                     refine (IH.out tail tail' HSZ.out.2 dss dss' ta ta' tn tc tn' tc' _ B B' F F' (HRT.out.keep HK3.out (fun _ _ => id)) (TermsIn.keep HK3.out (fun _ _ => id) _ _ HTT.out) (HRT'.out.keep HK3.out (fun _ _ => id)) (TermsIn.keep HK3.out (fun _ _ => id) _ _ HTT'.out) HRO.out.2.2).mono ?_
                     rintro e w4 ⟨rfl, hk4⟩
                     have HK4 := hide (Keeps.trans' HK3.out hk4 (fun _ _ => id) (fun _ _ => id))
                     clear hk4 p6 q6)
                  | fail
                go_ret
                exact ⟨by rw [HE.out]; rfl, HK4.out⟩
            · skip
              have g5 : eqTs items items' = false := by simpa using h5
              have HE := hide (show eqT (.mk kd ng limbs tx nm items tail) (.mk kd' ng' limbs' tx' nm' items' tail') = false by simp only [eqT, h0, h1, h2, h3, h4, g5, decide_true, decide_false, Bool.and_false, Bool.false_and, Bool.true_and])
              clear h5
              go_enter Tryz.func32, Tryz.ntmps32
              go_wp2_with
                first
                | (go_at_call 54
                   refine (tm_same_limbs la la' ln lc ln' lc' limbs limbs' _ B B' F F' (HRL.out.keep (((Keeps.refl NoB w).alloc _).alloc _) (fun _ _ => id)) (HRL'.out.keep (((Keeps.refl NoB w).alloc _).alloc _) (fun _ _ => id)) HRO.out.1).mono ?_
                   rintro e w2 ⟨rfl, hk2⟩
                   have B1 : Blk w2 w.heap.size 26 #[.int .u8 kd, .bool ng, .slice la ln lc, .string tx, .int .i64 nm, .slice ia im ic, .slice ta tn tc] := Blk.keep (Blk.alloc (Blk.new w _ _) _) hk2 id
                   have B2 : Blk w2 (w.heap.size + 1) 26 #[.int .u8 kd', .bool ng', .slice la' ln' lc', .string tx', .int .i64 nm', .slice ia' im' ic', .slice ta' tn' tc'] := Blk.keep (Blk.new2 w _ _ _) hk2 id
                   have HK2 := hide (Keeps.trans' (((Keeps.refl NoB w).alloc (.cells #[.int .u8 kd, .bool ng, .slice la ln lc, .string tx, .int .i64 nm, .slice ia im ic, .slice ta tn tc] 26)).alloc (.cells #[.int .u8 kd', .bool ng', .slice la' ln' lc', .string tx', .int .i64 nm', .slice ia' im' ic', .slice ta' tn' tc'] 26)) hk2 (fun _ _ => id) (fun _ _ => id))
                   have HB1 := hide B1; have HB2 := hide B2
                   have p3 := B1.cell 3
                   have q3 := B2.cell 3
                   have p4 := B1.cell 4
                   have q4 := B2.cell 4
                   have p5 := B1.cell 5
                   have q5 := B2.cell 5
                   have p6 := B1.cell 6
                   have q6 := B2.cell 6
                   clear B1 B2 hk2)
                | (go_at_call 18
                   clear p5 q5
                   refine (IH.out items items' HSZ.out.1 css css' ia ia' im ic im' ic' _ B B' F F' (HRI.out.keep HK2.out (fun _ _ => id)) (TermsIn.keep HK2.out (fun _ _ => id) _ _ HTI.out) (HRI'.out.keep HK2.out (fun _ _ => id)) (TermsIn.keep HK2.out (fun _ _ => id) _ _ HTI'.out) HRO.out.2.1).mono ?_
                   rintro e w3 ⟨rfl, hk3⟩
                   have B1 := Blk.keep HB1.out hk3 id
                   have B2 := Blk.keep HB2.out hk3 id
                   have HK3 := hide (Keeps.trans' HK2.out hk3 (fun _ _ => id) (fun _ _ => id))
                   clear p3 p4 p6 q3 q4 q6
                   have p6 := B1.cell 6
                   have q6 := B2.cell 6
                   clear B1 B2 hk3)
                | fail
              go_ret
              exact ⟨by rw [HE.out]; rfl, HK3.out⟩
          · skip
            have g4 : ((nm == nm')) = false := by simpa using h4
            have HE := hide (show eqT (.mk kd ng limbs tx nm items tail) (.mk kd' ng' limbs' tx' nm' items' tail') = false by simp only [eqT, h0, h1, h2, h3, g4, decide_true, decide_false, Bool.and_false, Bool.false_and, Bool.true_and])
            clear h4
            go_enter Tryz.func32, Tryz.ntmps32
            go_wp2_with
              first
              | (go_at_call 54
                 refine (tm_same_limbs la la' ln lc ln' lc' limbs limbs' _ B B' F F' (HRL.out.keep (((Keeps.refl NoB w).alloc _).alloc _) (fun _ _ => id)) (HRL'.out.keep (((Keeps.refl NoB w).alloc _).alloc _) (fun _ _ => id)) HRO.out.1).mono ?_
                 rintro e w2 ⟨rfl, hk2⟩
                 have B1 : Blk w2 w.heap.size 26 #[.int .u8 kd, .bool ng, .slice la ln lc, .string tx, .int .i64 nm, .slice ia im ic, .slice ta tn tc] := Blk.keep (Blk.alloc (Blk.new w _ _) _) hk2 id
                 have B2 : Blk w2 (w.heap.size + 1) 26 #[.int .u8 kd', .bool ng', .slice la' ln' lc', .string tx', .int .i64 nm', .slice ia' im' ic', .slice ta' tn' tc'] := Blk.keep (Blk.new2 w _ _ _) hk2 id
                 have HK2 := hide (Keeps.trans' (((Keeps.refl NoB w).alloc (.cells #[.int .u8 kd, .bool ng, .slice la ln lc, .string tx, .int .i64 nm, .slice ia im ic, .slice ta tn tc] 26)).alloc (.cells #[.int .u8 kd', .bool ng', .slice la' ln' lc', .string tx', .int .i64 nm', .slice ia' im' ic', .slice ta' tn' tc'] 26)) hk2 (fun _ _ => id) (fun _ _ => id))
                 have HB1 := hide B1; have HB2 := hide B2
                 have p3 := B1.cell 3
                 have q3 := B2.cell 3
                 have p4 := B1.cell 4
                 have q4 := B2.cell 4
                 have p5 := B1.cell 5
                 have q5 := B2.cell 5
                 have p6 := B1.cell 6
                 have q6 := B2.cell 6
                 clear B1 B2 hk2)
              | fail
            go_ret
            exact ⟨by rw [HE.out]; rfl, HK2.out⟩
        · skip
          have HE := hide (show eqT (.mk kd ng limbs tx nm items tail) (.mk kd' ng' limbs' tx' nm' items' tail') = false by simp only [eqT, h0, h1, h2, h3, decide_true, decide_false, Bool.and_false, Bool.false_and, Bool.true_and])
          go_enter Tryz.func32, Tryz.ntmps32
          go_wp2_with
            first
            | (go_at_call 54
               refine (tm_same_limbs la la' ln lc ln' lc' limbs limbs' _ B B' F F' (HRL.out.keep (((Keeps.refl NoB w).alloc _).alloc _) (fun _ _ => id)) (HRL'.out.keep (((Keeps.refl NoB w).alloc _).alloc _) (fun _ _ => id)) HRO.out.1).mono ?_
               rintro e w2 ⟨rfl, hk2⟩
               have B1 : Blk w2 w.heap.size 26 #[.int .u8 kd, .bool ng, .slice la ln lc, .string tx, .int .i64 nm, .slice ia im ic, .slice ta tn tc] := Blk.keep (Blk.alloc (Blk.new w _ _) _) hk2 id
               have B2 : Blk w2 (w.heap.size + 1) 26 #[.int .u8 kd', .bool ng', .slice la' ln' lc', .string tx', .int .i64 nm', .slice ia' im' ic', .slice ta' tn' tc'] := Blk.keep (Blk.new2 w _ _ _) hk2 id
               have HK2 := hide (Keeps.trans' (((Keeps.refl NoB w).alloc (.cells #[.int .u8 kd, .bool ng, .slice la ln lc, .string tx, .int .i64 nm, .slice ia im ic, .slice ta tn tc] 26)).alloc (.cells #[.int .u8 kd', .bool ng', .slice la' ln' lc', .string tx', .int .i64 nm', .slice ia' im' ic', .slice ta' tn' tc'] 26)) hk2 (fun _ _ => id) (fun _ _ => id))
               have HB1 := hide B1; have HB2 := hide B2
               have p3 := B1.cell 3
               have q3 := B2.cell 3
               have p4 := B1.cell 4
               have q4 := B2.cell 4
               have p5 := B1.cell 5
               have q5 := B2.cell 5
               have p6 := B1.cell 6
               have q6 := B2.cell 6
               clear B1 B2 hk2)
            | fail
          go_ret
          exact ⟨by rw [HE.out]; rfl, HK2.out⟩
      · skip
        have g2 : eqL limbs limbs' = false := by simpa using h2
        have HE := hide (show eqT (.mk kd ng limbs tx nm items tail) (.mk kd' ng' limbs' tx' nm' items' tail') = false by simp only [eqT, h0, h1, g2, decide_true, decide_false, Bool.and_false, Bool.false_and, Bool.true_and])
        clear h2
        go_enter Tryz.func32, Tryz.ntmps32
        go_wp2_with
          first
          | (go_at_call 54
             refine (tm_same_limbs la la' ln lc ln' lc' limbs limbs' _ B B' F F' (HRL.out.keep (((Keeps.refl NoB w).alloc _).alloc _) (fun _ _ => id)) (HRL'.out.keep (((Keeps.refl NoB w).alloc _).alloc _) (fun _ _ => id)) HRO.out.1).mono ?_
             rintro e w2 ⟨rfl, hk2⟩
             have B1 : Blk w2 w.heap.size 26 #[.int .u8 kd, .bool ng, .slice la ln lc, .string tx, .int .i64 nm, .slice ia im ic, .slice ta tn tc] := Blk.keep (Blk.alloc (Blk.new w _ _) _) hk2 id
             have B2 : Blk w2 (w.heap.size + 1) 26 #[.int .u8 kd', .bool ng', .slice la' ln' lc', .string tx', .int .i64 nm', .slice ia' im' ic', .slice ta' tn' tc'] := Blk.keep (Blk.new2 w _ _ _) hk2 id
             have HK2 := hide (Keeps.trans' (((Keeps.refl NoB w).alloc (.cells #[.int .u8 kd, .bool ng, .slice la ln lc, .string tx, .int .i64 nm, .slice ia im ic, .slice ta tn tc] 26)).alloc (.cells #[.int .u8 kd', .bool ng', .slice la' ln' lc', .string tx', .int .i64 nm', .slice ia' im' ic', .slice ta' tn' tc'] 26)) hk2 (fun _ _ => id) (fun _ _ => id))
             have HB1 := hide B1; have HB2 := hide B2
             have p3 := B1.cell 3
             have q3 := B2.cell 3
             have p4 := B1.cell 4
             have q4 := B2.cell 4
             have p5 := B1.cell 5
             have q5 := B2.cell 5
             have p6 := B1.cell 6
             have q6 := B2.cell 6
             clear B1 B2 hk2)
          | fail
        go_ret
        exact ⟨by rw [HE.out]; rfl, HK2.out⟩
    · skip
      have g1 : ((ng == ng')) = false := by simpa using h1
      have HE := hide (show eqT (.mk kd ng limbs tx nm items tail) (.mk kd' ng' limbs' tx' nm' items' tail') = false by simp only [eqT, h0, g1, decide_true, decide_false, Bool.and_false, Bool.false_and, Bool.true_and])
      clear h1
      go_enter Tryz.func32, Tryz.ntmps32
      go_wp2_with
        first
        | fail
      go_ret
      exact ⟨by rw [HE.out]; rfl, ((Keeps.refl NoB w).alloc (.cells #[.int .u8 kd, .bool ng, .slice la ln lc, .string tx, .int .i64 nm, .slice ia im ic, .slice ta tn tc] 26)).alloc (.cells #[.int .u8 kd', .bool ng', .slice la' ln' lc', .string tx', .int .i64 nm', .slice ia' im' ic', .slice ta' tn' tc'] 26)⟩
  · skip
    have g0 : ((kd == kd')) = false := by simpa using h0
    have HE := hide (show eqT (.mk kd ng limbs tx nm items tail) (.mk kd' ng' limbs' tx' nm' items' tail') = false by simp only [eqT, g0, decide_true, decide_false, Bool.and_false, Bool.false_and, Bool.true_and])
    clear h0
    go_enter Tryz.func32, Tryz.ntmps32
    go_wp2_with
      first
      | fail
    go_ret
    exact ⟨by rw [HE.out]; rfl, ((Keeps.refl NoB w).alloc (.cells #[.int .u8 kd, .bool ng, .slice la ln lc, .string tx, .int .i64 nm, .slice ia im ic, .slice ta tn tc] 26)).alloc (.cells #[.int .u8 kd', .bool ng', .slice la' ln' lc', .string tx', .int .i64 nm', .slice ia' im' ic', .slice ta' tn' tc'] 26)⟩


theorem eqTs_step {ts us : List Tm} {k : Nat} {t u : Tm} (h1 : ts[k]? = some t) (h2 : us[k]? = some u) : eqTs (ts.drop k) (us.drop k) = (eqT t u && eqTs (ts.drop (k + 1)) (us.drop (k + 1))) := by
  obtain ⟨a1, e1⟩ := List.getElem?_eq_some_iff.1 h1
  obtain ⟨a2, e2⟩ := List.getElem?_eq_some_iff.1 h2
  rw [List.drop_eq_getElem_cons a1, List.drop_eq_getElem_cons a2, e1, e2, eqTs]

theorem eqTs_len : ∀ {ts us : List Tm}, ts.length ≠ us.length → eqTs ts us = false
  | [], [], h => absurd rfl h
  | [], _ :: _, _ => by unfold eqTs; rfl
  | _ :: _, [], _ => by unfold eqTs; rfl
  | t :: ts, u :: us, h => by unfold eqTs; rw [eqTs_len (ts := ts) (us := us) (by simpa using h), Bool.and_false]

theorem Tm.size_pos (t : Tm) : 0 < t.size := by cases t; simp only [Tm.size]; omega

def TsInv (w : World) (ts us : List Tm) (k : Nat) (wr : World) : Prop := Keeps NoB w wr ∧ eqTs ts us = eqTs (ts.drop k) (us.drop k)

/-- The cells of the k-th, where they lie. -/
theorem cells_at {w : World} {B : Nat → Prop} {F : Bool} {ts : List Tm} {css : List (List Value)} {A : Option Addr} {n : Nat} (hr : Reads w B F 7 A n css.flatten) (ht : TermsIn w B F css ts) (k : Nat) (hk : k < n) :
    ∃ b o kd ng la ln lc tx nm ia im ic ta tn tc t, A = some ⟨b, o, none⟩ ∧ ts[k]? = some t ∧ TermIn w B F [.int .u8 kd, .bool ng, .slice la ln lc, .string tx, .int .i64 nm, .slice ia im ic, .slice ta tn tc] t ∧ t.size ≤ Tm.size.sizes ts ∧
      w.cell? ⟨b, o + k * 7, none⟩ = some (.int .u8 kd) ∧ w.cell? ⟨b, o + k * 7 + 1, none⟩ = some (.bool ng) ∧ w.cell? ⟨b, o + k * 7 + 2, none⟩ = some (.slice la ln lc) ∧ w.cell? ⟨b, o + k * 7 + 3, none⟩ = some (.string tx) ∧
      w.cell? ⟨b, o + k * 7 + 4, none⟩ = some (.int .i64 nm) ∧ w.cell? ⟨b, o + k * 7 + 5, none⟩ = some (.slice ia im ic) ∧ w.cell? ⟨b, o + k * 7 + 6, none⟩ = some (.slice ta tn tc) := by
  obtain ⟨hl, h7⟩ := ht.lens
  have hn : css.length = n := by have h1 := hr.1; rw [flat_len h7] at h1; omega
  obtain ⟨kd, ng, la, ln, lc, tx, nm, ia, im, ic, ta, tn, tc, limbs, items, tail, dss, ess, hcs, htk, hroom, hrl, hri, hti, hrt, htt, hsz⟩ := TermsIn.at ht k (by omega)
  have hg := TermsIn.get ht k (by omega) (by omega)
  obtain ⟨_, e1⟩ := List.getElem?_eq_some_iff.1 hcs
  obtain ⟨_, e2⟩ := List.getElem?_eq_some_iff.1 htk
  rw [e1, e2] at hg
  obtain ⟨⟨b, o, sp⟩, hA, hs, _, _, hc⟩ := hr.2 (by omega)
  simp only at hs
  subst hs hA
  obtain ⟨g0, g1, g2, g3, g4, g5, g6⟩ := flat_cells h7 hcs
  exact ⟨b, o, kd, ng, la, ln, lc, tx, nm, ia, im, ic, ta, tn, tc, _, rfl, htk, hg, by simp only [Tm.size]; omega, (hc _ _ g0).1, (hc _ _ g1).1, (hc _ _ g2).1, (hc _ _ g3).1, (hc _ _ g4).1, (hc _ _ g5).1, (hc _ _ g6).1⟩

set_option maxRecDepth 100000 in
set_option maxHeartbeats 2000000 in
theorem tm_same_terms (M : Nat) : SamesSaid M := by
  induction M using Nat.strongRecOn with
  | ind M IH =>
  intro ts us hM css dss A A' n c n' c' w B B' F F' hr ht hr' ht' hroom
  have hln : ts.length = n := by have h1 := hr.1; rw [flat_len ht.lens.2, ht.lens.1] at h1; omega
  have hln' : us.length = n' := by have h1 := hr'.1; rw [flat_len ht'.lens.2, ht'.lens.1] at h1; omega
  have hnm : n ≤ 9223372036854775807 := by have := hroom.len (by omega); unfold maxLen at this; exact this
  have HR := hide hr; have HT := hide ht; have HR' := hide hr'; have HT' := hide ht'; have HLN := hide hln; have HLN' := hide hln'; have HM := hide hM; have HIH := hide IH
  clear hr ht hr' ht' hln hln' hM IH hroom
  by_cases hne : n = n'
  · have HN := hide hne
    have hb : ((n : Int) != (n' : Int)) = false := by simp [hne]
    clear hne
    go_enter Tryz.func18, Tryz.ntmps18
    go_wp2
    go_loopw [5] (fun i wr => ∃ k : Nat, k ≤ n ∧ i = .int .i64 k ∧ TsInv w ts us k wr) (fun i _ => n - (intOf i).toNat)
    case atStart => exact ⟨0, Nat.zero_le _, rfl, Keeps.refl _ _, rfl⟩
    case round =>
      obtain ⟨k, hk, rfl, hinv⟩ := hrel
      have HI := hide hinv; clear hinv
      by_cases hlt : k < n
      · obtain ⟨b, o, kd, ng, la, ln, lc, tx, nm, ia, im, ic, ta, tn, tc, t, hA, h1, h2, h3, f0, f1, f2, f3, f4, f5, f6⟩ := cells_at (HR.out.keep HI.out.1 (fun _ _ => id)) (TermsIn.keep HI.out.1 (fun _ _ => id) _ _ HT.out) k hlt
        obtain ⟨b', o', kd', ng', la', ln', lc', tx', nm', ia', im', ic', ta', tn', tc', t', hA', h1', h2', h3', f0', f1', f2', f3', f4', f5', f6'⟩ := cells_at (HR'.out.keep HI.out.1 (fun _ _ => id)) (TermsIn.keep HI.out.1 (fun _ _ => id) _ _ HT'.out) k (by have := HN.out; omega)
        subst hA hA'
        have hk1 : (k : Int) < (n : Int) := by omega
        have hk2 : (k : Int) < (n' : Int) := by have := HN.out; omega
        have hk0 : (0 : Int) ≤ (k : Int) := by omega
        have HE := hide h1; have HE' := hide h1'; have HT2 := hide h2; have HT2' := hide h2'; have HZ := hide h3
        clear h1 h1' h2 h2' h3 h3'
        have HC := hide (And.intro f0 (And.intro f1 (And.intro f2 (And.intro f3 (And.intro f4 (And.intro f5 f6))))))
        have HC' := hide (And.intro f0' (And.intro f1' (And.intro f2' (And.intro f3' (And.intro f4' (And.intro f5' f6'))))))
        clear f0 f1 f2 f3 f4 f5 f6 f0' f1' f2' f3' f4' f5' f6'
        go_wp2_with fail
        refine order_begin (fun W => Keeps NoB wr W) (fun _ => true) (by kernel_rfl) 10 rfl ?_
        have HS : Keeps NoB wr wr.drew := (Keeps.refl NoB wr).drew
        generalize wr.drew = W0 at *
        refine order_pure (i := 0) rfl (by kernel_rfl) (fun _ _ _ h => h) (.inl ⟨rfl, fun _ => by go_simp; rfl⟩) ?_
        try simp only [Act.put, List.setIfInBounds_toArray, List.set_cons_succ, List.set_cons_zero]
        refine order_pure (i := 1) rfl (by kernel_rfl) (fun _ _ _ h => h) (.inl ⟨rfl, fun _ => by go_simp; rfl⟩) ?_
        try simp only [Act.put, List.setIfInBounds_toArray, List.set_cons_succ, List.set_cons_zero]
        refine order_pure (i := 2) rfl (by kernel_rfl) (fun _ _ _ h => h) (.inl ⟨rfl, fun _ => by go_simp; rfl⟩) ?_
        try simp only [Act.put, List.setIfInBounds_toArray, List.set_cons_succ, List.set_cons_zero]
        refine order_held (i := 3) rfl (by kernel_rfl) (fun _ _ _ h => h) (.inl ⟨rfl, fun W hW => by
          have q0 : W.cell? ⟨b, o + k * 7, none⟩ = some (.int .u8 kd) := hW.cell id HC.out.1
          have q1 : W.cell? ⟨b, o + k * 7 + 1, none⟩ = some (.bool ng) := hW.cell id HC.out.2.1
          have q2 : W.cell? ⟨b, o + k * 7 + 2, none⟩ = some (.slice la ln lc) := hW.cell id HC.out.2.2.1
          have q3 : W.cell? ⟨b, o + k * 7 + 3, none⟩ = some (.string tx) := hW.cell id HC.out.2.2.2.1
          have q4 : W.cell? ⟨b, o + k * 7 + 4, none⟩ = some (.int .i64 nm) := hW.cell id HC.out.2.2.2.2.1
          have q5 : W.cell? ⟨b, o + k * 7 + 5, none⟩ = some (.slice ia im ic) := hW.cell id HC.out.2.2.2.2.2.1
          have q6 : W.cell? ⟨b, o + k * 7 + 6, none⟩ = some (.slice ta tn tc) := hW.cell id HC.out.2.2.2.2.2.2
          go_simp; rfl⟩) HS ?_
        try simp only [Act.put, List.setIfInBounds_toArray, List.set_cons_succ, List.set_cons_zero]
        refine order_pure (i := 4) rfl (by kernel_rfl) (fun _ _ _ h => h) (.inl ⟨rfl, fun _ => by go_simp; rfl⟩) ?_
        try simp only [Act.put, List.setIfInBounds_toArray, List.set_cons_succ, List.set_cons_zero]
        refine order_pure (i := 5) rfl (by kernel_rfl) (fun _ _ _ h => h) (.inl ⟨rfl, fun _ => by go_simp; rfl⟩) ?_
        try simp only [Act.put, List.setIfInBounds_toArray, List.set_cons_succ, List.set_cons_zero]
        refine order_pure (i := 6) rfl (by kernel_rfl) (fun _ _ _ h => h) (.inl ⟨rfl, fun _ => by go_simp; rfl⟩) ?_
        try simp only [Act.put, List.setIfInBounds_toArray, List.set_cons_succ, List.set_cons_zero]
        refine order_held (i := 7) rfl (by kernel_rfl) (fun _ _ _ h => h) (.inl ⟨rfl, fun W hW => by
          have q0 : W.cell? ⟨b', o' + k * 7, none⟩ = some (.int .u8 kd') := hW.cell id HC'.out.1
          have q1 : W.cell? ⟨b', o' + k * 7 + 1, none⟩ = some (.bool ng') := hW.cell id HC'.out.2.1
          have q2 : W.cell? ⟨b', o' + k * 7 + 2, none⟩ = some (.slice la' ln' lc') := hW.cell id HC'.out.2.2.1
          have q3 : W.cell? ⟨b', o' + k * 7 + 3, none⟩ = some (.string tx') := hW.cell id HC'.out.2.2.2.1
          have q4 : W.cell? ⟨b', o' + k * 7 + 4, none⟩ = some (.int .i64 nm') := hW.cell id HC'.out.2.2.2.2.1
          have q5 : W.cell? ⟨b', o' + k * 7 + 5, none⟩ = some (.slice ia' im' ic') := hW.cell id HC'.out.2.2.2.2.2.1
          have q6 : W.cell? ⟨b', o' + k * 7 + 6, none⟩ = some (.slice ta' tn' tc') := hW.cell id HC'.out.2.2.2.2.2.2
          go_simp; rfl⟩) HS ?_
        try simp only [Act.put, List.setIfInBounds_toArray, List.set_cons_succ, List.set_cons_zero]
        refine order_one (i := 8) rfl (by kernel_rfl) (fun K hK => ?_)
        go_simp
        refine (same_term_of (M - 1) (hide (HIH.out (M - 1) (by have := HM.out; have := HZ.out; have := Tm.size_pos t; omega))) t t' (by have := HM.out; have := HZ.out; omega) W0 B B' F F' kd ng la ln lc tx nm ia im ic ta tn tc kd' ng' la' ln' lc' tx' nm' ia' im' ic' ta' tn' tc' (TermIn.keep HS (fun _ _ => id) _ _ HT2.out) (TermIn.keep HS (fun _ _ => id) _ _ HT2'.out)).mono ?_
        rintro e w2 ⟨rfl, hk3⟩
        refine hK _ _ (fun _ hS => hS.trans' hk3 (fun _ _ => id) (fun _ _ => id)) ?_
        clear hK
        have HK3 := hide (HI.out.1.trans' (HS.trans' hk3 (fun _ _ => id) (fun _ _ => id) : Keeps NoB wr w2) (fun _ _ => id) (fun _ _ => id) : Keeps NoB w w2)
        clear hk3 HS
        try simp only [Act.put, List.setIfInBounds_toArray, List.set_cons_succ, List.set_cons_zero]
        refine order_pure (i := 9) rfl (by kernel_rfl) (fun _ _ _ h => h) (.inl ⟨rfl, fun _ => by go_simp; rfl⟩) ?_
        try simp only [Act.put, List.setIfInBounds_toArray, List.set_cons_succ, List.set_cons_zero]
        refine order_done (by kernel_rfl) ?_
        have HST := hide (eqTs_step HE.out HE'.out)
        cases hq : eqT t t' with
        | true =>
          have HQ := hide hq; clear hq
          go_wp2
          go_roundw
          case rel => exact ⟨k + 1, by omega, by go_num, HK3.out, by rw [HI.out.2, HST.out, HQ.out, Bool.true_and]⟩
          case measure => simp [intOf]; omega
        | false =>
          have HQ := hide hq; clear hq
          go_wp2
          go_ret
          refine ⟨?_, HK3.out⟩
          rw [HI.out.2, HST.out, HQ.out, Bool.false_and]; rfl
      · go_wp2
        go_ret
        refine ⟨?_, HI.out.1⟩
        have h3 := HLN.out; have h4 := HLN'.out; have h5 := HN.out
        rw [HI.out.2, List.drop_eq_nil_of_le (by omega), List.drop_eq_nil_of_le (by omega)]
        unfold eqTs; rfl
  · have hb : ((n : Int) != (n' : Int)) = true := by simp; omega
    have HE := hide (eqTs_len (ts := ts) (us := us) (by have := HLN.out; have := HLN'.out; omega))
    clear hne
    go_enter Tryz.func18, Tryz.ntmps18
    go_wp2
    go_ret
    exact ⟨by rw [HE.out]; rfl, Keeps.refl _ _⟩

mutual
theorem eqT_self : ∀ t : Tm, eqT t t = true
  | .mk k ng limbs tx nm items tail => by
    unfold eqT eqL
    simp [eqTs_self items, eqTs_self tail]
theorem eqTs_self : ∀ ts : List Tm, eqTs ts ts = true
  | [] => by unfold eqTs; rfl
  | t :: ts => by unfold eqTs; simp [eqT_self t, eqTs_self ts]
end
theorem tm_sames_self (ts : List Tm) (css dss : List (List Value)) (A A' : Option Addr) (n c n' c' : Nat) (w : World) (B B' : Nat → Prop) (F F' : Bool) (h1 : Reads w B F 7 A n css.flatten) (h2 : TermsIn w B F css ts) (h3 : Reads w B' F' 7 A' n' dss.flatten) (h4 : TermsIn w B' F' dss ts) (hr : Roomy n 104) :
    Calls Tryz.prog 18 #[.slice A n c, .slice A' n' c'] w fun e w' => e = .returned (.bool true) ∧ Keeps NoB w w' := by
  have h := tm_same_terms (Tm.size.sizes ts) ts ts (Nat.le_refl _) css dss A A' n c n' c' w B B' F F' h1 h2 h3 h4 hr
  rw [eqTs_self] at h
  exact h
end Go.Proofs.YtjdbjjjbgibpaaaGreatDoor
namespace Go.Proofs.YtjdbjjjbgibpaaaGreatDoor
set_option maxRecDepth 100000
open Go.RowKit

def NumP (w : World) (z : Int) (e : Ending) (w' : World) : Prop := e = .returned (.int .i64 z) ∧ Keeps NoB w w'
theorem nan_kind (x : Int) (w : World) : Calls Tryz.prog 60 #[.int .u8 x] w fun e w' => e = .returned (.bool false) ∧ w' = w := by
  go_enter Tryz.func60, Tryz.ntmps60
  go_wp2
  go_ret
  exact ⟨rfl, rfl⟩
theorem nan_int (x : Int) (w : World) : Calls Tryz.prog 61 #[.int .i64 x] w fun e w' => e = .returned (.bool false) ∧ w' = w := by
  go_enter Tryz.func61, Tryz.ntmps61
  go_wp2
  go_ret
  exact ⟨rfl, rfl⟩
theorem nan_str (s : ByteArray) (w : World) : Calls Tryz.prog 64 #[.string s] w fun e w' => e = .returned (.bool false) ∧ w' = w := by
  go_enter Tryz.func64, Tryz.ntmps64
  go_wp2
  go_ret
  exact ⟨rfl, rfl⟩
theorem cmp_kind (x y : Int) (w : World) : Calls Tryz.prog 47 #[.int .u8 x, .int .u8 y] w (NumP w (cmpZ x y)) := by
  rcases Int.lt_trichotomy x y with h | h | h
  · skip
    go_enter Tryz.func47, Tryz.ntmps47
    go_wp2_with
      first
      | (go_at_call 60
         refine (nan_kind _ _).mono ?_
         rintro e w1 ⟨rfl, rfl⟩)
      | fail
    go_ret
    exact ⟨by unfold cmpZ; rw [if_pos h]; rfl, Keeps.refl _ _⟩
  · subst h
    go_enter Tryz.func47, Tryz.ntmps47
    go_wp2_with
      first
      | (go_at_call 60
         refine (nan_kind _ _).mono ?_
         rintro e w1 ⟨rfl, rfl⟩)
      | fail
    go_ret
    exact ⟨by rw [cmpZ_self]; rfl, Keeps.refl _ _⟩
  · have h2 : ¬ x < y := by omega
    go_enter Tryz.func47, Tryz.ntmps47
    go_wp2_with
      first
      | (go_at_call 60
         refine (nan_kind _ _).mono ?_
         rintro e w1 ⟨rfl, rfl⟩)
      | fail
    go_ret
    exact ⟨by unfold cmpZ; rw [if_neg (by omega), if_pos h]; rfl, Keeps.refl _ _⟩
theorem cmp_int (x y : Int) (w : World) : Calls Tryz.prog 48 #[.int .i64 x, .int .i64 y] w (NumP w (cmpZ x y)) := by
  rcases Int.lt_trichotomy x y with h | h | h
  · skip
    go_enter Tryz.func48, Tryz.ntmps48
    go_wp2_with
      first
      | (go_at_call 61
         refine (nan_int _ _).mono ?_
         rintro e w1 ⟨rfl, rfl⟩)
      | fail
    go_ret
    exact ⟨by unfold cmpZ; rw [if_pos h]; rfl, Keeps.refl _ _⟩
  · subst h
    go_enter Tryz.func48, Tryz.ntmps48
    go_wp2_with
      first
      | (go_at_call 61
         refine (nan_int _ _).mono ?_
         rintro e w1 ⟨rfl, rfl⟩)
      | fail
    go_ret
    exact ⟨by rw [cmpZ_self]; rfl, Keeps.refl _ _⟩
  · have h2 : ¬ x < y := by omega
    go_enter Tryz.func48, Tryz.ntmps48
    go_wp2_with
      first
      | (go_at_call 61
         refine (nan_int _ _).mono ?_
         rintro e w1 ⟨rfl, rfl⟩)
      | fail
    go_ret
    exact ⟨by unfold cmpZ; rw [if_neg (by omega), if_pos h]; rfl, Keeps.refl _ _⟩
theorem bytes_tri : ∀ (s t : List UInt8), Op.bytesLess s t = false → (s == t) = false → Op.bytesLess t s = true
  | [], [], _, h => by simp at h
  | [], _ :: _, h, _ => by simp [Op.bytesLess] at h
  | _ :: _, [], _, _ => by simp [Op.bytesLess]
  | a :: s, b :: t, h, h2 => by
    simp only [Op.bytesLess, Bool.or_eq_false_iff, Bool.and_eq_false_iff, decide_eq_false_iff_not, beq_eq_false_iff_ne] at h
    simp only [Op.bytesLess, Bool.or_eq_true, Bool.and_eq_true, decide_eq_true_eq, beq_iff_eq]
    by_cases e : a = b
    · subst e
      have h3 : (s == t) = false := by simpa using h2
      exact .inr ⟨rfl, bytes_tri s t (h.2.resolve_left (fun h => h rfl)) h3⟩
    · refine .inl ?_
      have h1 := h.1
      rw [UInt8.lt_iff_toNat_lt] at h1 ⊢
      have : a.toNat ≠ b.toNat := fun h => e (UInt8.toNat_inj.1 h)
      omega
theorem cmp_str (s t : ByteArray) (w : World) : Calls Tryz.prog 53 #[.string s, .string t] w (NumP w (cmpB s t)) := by
  cases hlt : Op.bytesLess s.toList t.toList with
  | true =>
    have hge : (Op.bytesLess s.toList t.toList || s.toList == t.toList) = true := by rw [hlt]; rfl
    go_enter Tryz.func53, Tryz.ntmps53
    go_wp2_with
      first
      | (go_at_call 64
         refine (nan_str _ _).mono ?_
         rintro e w1 ⟨rfl, rfl⟩)
      | fail
    go_ret
    exact ⟨by unfold cmpB; rw [if_pos hlt]; rfl, Keeps.refl _ _⟩
  | false =>
    cases heq : (s.toList == t.toList) with
    | true =>
      obtain rfl : s = t := key_inj (by simpa using heq)
      clear heq
      go_enter Tryz.func53, Tryz.ntmps53
      go_wp2_with
        first
        | (go_at_call 64
           refine (nan_str _ _).mono ?_
           rintro e w1 ⟨rfl, rfl⟩)
        | fail
      go_ret
      exact ⟨by rw [cmpB_self]; rfl, Keeps.refl _ _⟩
    | false =>
      have hgt := bytes_tri _ _ hlt heq
      go_enter Tryz.func53, Tryz.ntmps53
      go_wp2_with
        first
        | (go_at_call 64
           refine (nan_str _ _).mono ?_
           rintro e w1 ⟨rfl, rfl⟩)
        | fail
      go_ret
      exact ⟨by unfold cmpB; rw [if_neg (by rw [hlt]; simp), if_pos hgt]; rfl, Keeps.refl _ _⟩
/-- cmp.Or -/
def orL : List Int → Int
  | [] => 0
  | x :: l => if x = 0 then orL l else x
theorem orL_two (a b : Int) : orL [a, b] = firstI a b := by
  unfold orL orL orL firstI
  by_cases h : a = 0
  · rw [if_pos h, if_pos h]; split <;> omega
  · rw [if_neg h, if_neg h]
theorem orL_three (a b c : Int) : orL [a, b, c] = firstI a (firstI b c) := by
  rw [← orL_two b c]
  conv => lhs; unfold orL
  unfold firstI
  rfl
theorem or_any (l : List Int) (n c : Nat) (A : Option Addr) (w : World) (B : Nat → Prop) (F : Bool) (hr : Reads w B F 1 A n (l.map (Value.int .i64))) (hn : n ≤ 1000) : Calls Tryz.prog 52 #[.slice A n c] w (NumP w (orL l)) := by
  have hl : l.length = n := by have := hr.1; simpa using this
  have HR := hide hr; have HL := hide hl
  clear hr hl
  go_enter Tryz.func52, Tryz.ntmps52
  go_wp2
  go_loopg [8] n (fun g s8 wx => ∃ k : Nat, k ≤ n ∧ g = n - k ∧ s8 = .int .i64 k ∧ wx = w ∧ orL l = orL (l.drop k))
  case atStart => exact ⟨0, Nat.zero_le _, rfl, rfl, rfl, by rw [List.drop_zero]⟩
  case round =>
    obtain ⟨k, hk, rfl, rfl, rfl, ho⟩ := hrel
    have HO := hide ho
    clear ho
    by_cases hlt : k < n
    · have hk1 : (k : Int) < (n : Int) := by omega
      have hk0 : (0 : Int) ≤ (k : Int) := by omega
      obtain ⟨x, hx⟩ : ∃ x, l[k]? = some x := ⟨_, List.getElem?_eq_getElem (by have := HL.out; omega)⟩
      obtain ⟨ad, hA, hs, _, _, hc⟩ := HR.out.2 (by omega)
      obtain ⟨b, o, sp⟩ := ad
      simp only at hs
      subst hs hA
      have p : wr.cell? ⟨b, o + k, none⟩ = some (.int .i64 x) := (hc k _ (by rw [List.getElem?_map, hx]; rfl)).1
      have HX := hide hx
      clear hx hc
      have hd : l.drop k = x :: l.drop (k + 1) := by
        obtain ⟨h1, h2⟩ := List.getElem?_eq_some_iff.1 HX.out
        rw [List.drop_eq_getElem_cons h1, h2]
      have HD := hide hd
      clear hd
      by_cases h0 : x = 0
      · subst h0
        go_wp2
        go_roundg (n - (k + 1))
        case measure => omega
        case rel => exact ⟨k + 1, by omega, rfl, by go_num, rfl, by rw [HO.out, HD.out]; conv => lhs; unfold orL
                                                                    rfl⟩
      · have h0b : (x == 0) = false := by simpa using h0
        go_wp2
        go_ret
        exact ⟨by rw [HO.out, HD.out]; unfold orL; rw [if_neg h0]; rfl, Keeps.refl _ _⟩
    · obtain rfl : n = k := by omega
      have hkz : ¬ (n : Int) < (n : Int) := by omega
      go_wp2
      go_ret
      exact ⟨by rw [HO.out, List.drop_of_length_le (by have := HL.out; omega)]; rfl, Keeps.refl _ _⟩
end Go.Proofs.YtjdbjjjbgibpaaaGreatDoor
