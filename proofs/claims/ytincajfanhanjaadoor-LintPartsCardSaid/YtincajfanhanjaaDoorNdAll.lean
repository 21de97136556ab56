/- node.plain, node.all: nodes one by one. -/
import Derived.Test.YtincajfanhanjaaDoorNdLaw
import Derived.Test.YtincajfanhanjaaDoorNdOpen
import Derived.Test.YtincajfanhanjaaDoorKind
import Derived.Deep.QuietTactic
import Derived.BigQuiet
import Derived.Deep.LoopGhost
namespace Go.Proofs.YtincajfanhanjaaDoor
open Go.RowKit

/-- node.shapes in memory. -/
def shapeC (k : Nat) : List Value := match shapeN k with
  | some (t, q, m, least, most) => [.int .u8 t, .int .u8 q, .int .i64 m, .int .i64 least, .int .i64 most]
  | none => [.int .u8 0, .int .u8 0, .int .i64 0, .int .i64 0, .int .i64 0]
structure LaidN (w : World) : Prop where
  kind : LaidK w
  shape : ∀ k j : Nat, k < 20 → j < 5 → w.cell? ⟨1, k * 5 + j, none⟩ = (shapeC k)[j]?
theorem LaidN.keep {w w' : World} (h : LaidN w) (hk : Keeps NoB w w') : LaidN w' := ⟨h.kind.keep hk, fun k j h1 h2 => by
  have hl : (shapeC k).length = 5 := by unfold shapeC; split <;> rfl
  have h3 := h.shape k j h1 h2
  rw [List.getElem?_eq_getElem (by omega)] at h3 ⊢
  exact hk.cell id h3⟩
/-- A function of the program says of a node whether. -/
def Says (k : Nat) (f : Nd → Bool) (t : Nd) : Prop := ∀ (w : World) (B : Nat → Prop) (F : Bool) (kd : Int) (tx : ByteArray) (nm pl : Int) (ka : Option Addr) (kn kc : Nat), LaidN w → okN t → NodeIn w B F [.int .u8 kd, .string tx, .int .i64 nm, .int .i64 pl, .slice ka kn kc] t →
  Calls Tryd.prog k #[.agg #[.int .u8 kd, .string tx, .int .i64 nm, .int .i64 pl, .slice ka kn kc]] w fun e w' => e = .returned (.bool (f t)) ∧ Keeps NoB w w'
/-- all's own function, of such a function. -/
def Not1 (k : Nat) (f : Nd → Bool) (t : Nd) : Prop := ∀ (fb : Nat) (w : World) (B : Nat → Prop) (F : Bool) (kd : Int) (tx : ByteArray) (nm pl : Int) (ka : Option Addr) (kn kc : Nat), LaidN w → NodeIn w B F [.int .u8 kd, .string tx, .int .i64 nm, .int .i64 pl, .slice ka kn kc] t → w.cell? ⟨fb, 0, none⟩ = some (.func (.func k) #[] #[]) →
  Calls Tryd.prog 41 #[.agg #[.int .u8 kd, .string tx, .int .i64 nm, .int .i64 pl, .slice ka kn kc], .pointer (some ⟨fb, 0, none⟩)] w fun e w' => e = .returned (.bool (!f t)) ∧ Keeps NoB w w'

set_option maxRecDepth 100000 in
theorem plain_any (k : Int) (t : Nd) (w : World) (B : Nat → Prop) (F : Bool) (kd : Int) (tx : ByteArray) (nm pl : Int) (ka : Option Addr) (kn kc : Nat) (ht : NodeIn w B F [.int .u8 kd, .string tx, .int .i64 nm, .int .i64 pl, .slice ka kn kc] t) :
    Calls Tryd.prog 29 #[.agg #[.int .u8 kd, .string tx, .int .i64 nm, .int .i64 pl, .slice ka kn kc], .int .u8 k] w fun e w' => e = .returned (.bool (plainN t k)) ∧ Keeps NoB w w' := by
  obtain ⟨kids, css, rfl, _⟩ := ht.kidsIn
  have HE : Hid (plainN (.mk kd tx nm pl kids) k = (decide (kd = k) && tx.data.toList.isEmpty && decide (nm = 0) && decide (0 ≤ pl))) := hide rfl
  have HK := hide ((Keeps.refl NoB w).alloc (.cells #[.int .u8 kd, .string tx, .int .i64 nm, .int .i64 pl, .slice ka kn kc] 29))
  have hb := Blk.new w 29 #[.int .u8 kd, .string tx, .int .i64 nm, .int .i64 pl, .slice ka kn kc]
  clear ht hb
  by_cases h1 : kd = k
  · by_cases h2 : tx.data.toList.isEmpty = true
    · have htx : tx = ByteArray.empty := WideShapes.bytes_inj (by simpa using h2)
      by_cases h3 : nm = 0
      · by_cases h4 : 0 ≤ pl
        · have HV : Hid (plainN (.mk kd tx nm pl kids) k = true) := hide (by rw [HE.out]; simp [h1, h2, h3, h4])
          have b1 : (kd == k) = true := by simpa using h1
          have b3 : (nm == 0) = true := by simpa using h3
          have b4 : decide (0 ≤ pl) = true := by simpa using h4
          have b2 : tx.toList.isEmpty = true := by rw [Lib.toList_data]; exact h2
          clear h1 h2 h3 h4 htx HE
          go_enter Tryd.func29, Tryd.ntmps29
          go_wp2
          go_ret
          exact ⟨by rw [HV.out]; rfl, HK.out⟩
        · have HV : Hid (plainN (.mk kd tx nm pl kids) k = false) := hide (by rw [HE.out]; simp [h4])
          have b1 : (kd == k) = true := by simpa using h1
          have b3 : (nm == 0) = true := by simpa using h3
          have b4 : decide (0 ≤ pl) = false := by simpa using h4
          have b2 : tx.toList.isEmpty = true := by rw [Lib.toList_data]; exact h2
          clear h1 h2 h3 h4 htx HE
          go_enter Tryd.func29, Tryd.ntmps29
          go_wp2
          go_ret
          exact ⟨by rw [HV.out]; rfl, HK.out⟩
      · have HV : Hid (plainN (.mk kd tx nm pl kids) k = false) := hide (by rw [HE.out]; simp [h3])
        have b1 : (kd == k) = true := by simpa using h1
        have b3 : (nm == 0) = false := by simpa using h3
        have b2 : tx.toList.isEmpty = true := by rw [Lib.toList_data]; exact h2
        clear h1 h2 h3 htx HE
        go_enter Tryd.func29, Tryd.ntmps29
        go_wp2
        go_ret
        exact ⟨by rw [HV.out]; rfl, HK.out⟩
    · have HV : Hid (plainN (.mk kd tx nm pl kids) k = false) := hide (by rw [HE.out]; simp [h2])
      have b1 : (kd == k) = true := by simpa using h1
      have b2 : tx.toList.isEmpty = false := by rw [Lib.toList_data]; simpa using h2
      clear h1 h2 HE
      go_enter Tryd.func29, Tryd.ntmps29
      go_wp2
      go_ret
      exact ⟨by rw [HV.out]; rfl, HK.out⟩
  · have HV : Hid (plainN (.mk kd tx nm pl kids) k = false) := hide (by rw [HE.out]; simp [h1])
    have b1 : (kd == k) = false := by simpa using h1
    clear h1 HE
    go_enter Tryd.func29, Tryd.ntmps29
    go_wp2
    go_ret
    exact ⟨by rw [HV.out]; rfl, HK.out⟩

set_option maxRecDepth 100000 in
theorem not1_31 (f : Nd → Bool) (t : Nd) (ho : okN t) (H : Says 31 f t) : Not1 31 f t := by
  intro fb w B F kd tx nm pl ka kn kc hL ht hf
  have HT := hide (NodeIn.keep ((Keeps.refl NoB w).alloc (.cells #[.int .u8 kd, .string tx, .int .i64 nm, .int .i64 pl, .slice ka kn kc] 29)) (fun _ _ => id) _ _ ht)
  have hf2 : (w.alloc (.cells #[.int .u8 kd, .string tx, .int .i64 nm, .int .i64 pl, .slice ka kn kc] 29)).cell? ⟨fb, 0, none⟩ = some (.func (.func 31) #[] #[]) := ((Keeps.refl NoB w).alloc (.cells #[.int .u8 kd, .string tx, .int .i64 nm, .int .i64 pl, .slice ka kn kc] 29)).cell (p := ⟨fb, 0, none⟩) id hf
  have hl := nd_blk_lt hf
  have HL := hide (hL.keep ((Keeps.refl NoB w).alloc (.cells #[.int .u8 kd, .string tx, .int .i64 nm, .int .i64 pl, .slice ka kn kc] 29)))
  have HH := hide H
  have HO := hide ho
  clear ht hL H ho
  go_enter Tryd.func41, Tryd.ntmps41
  go_wp2_with fail
  refine (HH.out _ B F kd tx nm pl ka kn kc HL.out HO.out HT.out).mono ?_
  rintro e w2 ⟨rfl, hk2⟩
  have HK2 := hide (((Keeps.refl NoB w).alloc (.cells #[.int .u8 kd, .string tx, .int .i64 nm, .int .i64 pl, .slice ka kn kc] 29)).trans' hk2 (fun _ _ => id) (fun _ _ => id) : Keeps NoB w w2)
  clear hk2
  go_wp2
  go_ret
  exact ⟨rfl, HK2.out⟩
set_option maxRecDepth 100000 in
theorem not1_32 (f : Nd → Bool) (t : Nd) (ho : okN t) (H : Says 32 f t) : Not1 32 f t := by
  intro fb w B F kd tx nm pl ka kn kc hL ht hf
  have HT := hide (NodeIn.keep ((Keeps.refl NoB w).alloc (.cells #[.int .u8 kd, .string tx, .int .i64 nm, .int .i64 pl, .slice ka kn kc] 29)) (fun _ _ => id) _ _ ht)
  have hf2 : (w.alloc (.cells #[.int .u8 kd, .string tx, .int .i64 nm, .int .i64 pl, .slice ka kn kc] 29)).cell? ⟨fb, 0, none⟩ = some (.func (.func 32) #[] #[]) := ((Keeps.refl NoB w).alloc (.cells #[.int .u8 kd, .string tx, .int .i64 nm, .int .i64 pl, .slice ka kn kc] 29)).cell (p := ⟨fb, 0, none⟩) id hf
  have hl := nd_blk_lt hf
  have HL := hide (hL.keep ((Keeps.refl NoB w).alloc (.cells #[.int .u8 kd, .string tx, .int .i64 nm, .int .i64 pl, .slice ka kn kc] 29)))
  have HH := hide H
  have HO := hide ho
  clear ht hL H ho
  go_enter Tryd.func41, Tryd.ntmps41
  go_wp2_with fail
  refine (HH.out _ B F kd tx nm pl ka kn kc HL.out HO.out HT.out).mono ?_
  rintro e w2 ⟨rfl, hk2⟩
  have HK2 := hide (((Keeps.refl NoB w).alloc (.cells #[.int .u8 kd, .string tx, .int .i64 nm, .int .i64 pl, .slice ka kn kc] 29)).trans' hk2 (fun _ _ => id) (fun _ _ => id) : Keeps NoB w w2)
  clear hk2
  go_wp2
  go_ret
  exact ⟨rfl, HK2.out⟩
set_option maxRecDepth 100000 in
theorem not1_42 (f : Nd → Bool) (t : Nd) (ho : okN t) (H : Says 42 f t) : Not1 42 f t := by
  intro fb w B F kd tx nm pl ka kn kc hL ht hf
  have HT := hide (NodeIn.keep ((Keeps.refl NoB w).alloc (.cells #[.int .u8 kd, .string tx, .int .i64 nm, .int .i64 pl, .slice ka kn kc] 29)) (fun _ _ => id) _ _ ht)
  have hf2 : (w.alloc (.cells #[.int .u8 kd, .string tx, .int .i64 nm, .int .i64 pl, .slice ka kn kc] 29)).cell? ⟨fb, 0, none⟩ = some (.func (.func 42) #[] #[]) := ((Keeps.refl NoB w).alloc (.cells #[.int .u8 kd, .string tx, .int .i64 nm, .int .i64 pl, .slice ka kn kc] 29)).cell (p := ⟨fb, 0, none⟩) id hf
  have hl := nd_blk_lt hf
  have HL := hide (hL.keep ((Keeps.refl NoB w).alloc (.cells #[.int .u8 kd, .string tx, .int .i64 nm, .int .i64 pl, .slice ka kn kc] 29)))
  have HH := hide H
  have HO := hide ho
  clear ht hL H ho
  go_enter Tryd.func41, Tryd.ntmps41
  go_wp2_with fail
  refine (HH.out _ B F kd tx nm pl ka kn kc HL.out HO.out HT.out).mono ?_
  rintro e w2 ⟨rfl, hk2⟩
  have HK2 := hide (((Keeps.refl NoB w).alloc (.cells #[.int .u8 kd, .string tx, .int .i64 nm, .int .i64 pl, .slice ka kn kc] 29)).trans' hk2 (fun _ _ => id) (fun _ _ => id) : Keeps NoB w w2)
  clear hk2
  go_wp2
  go_ret
  exact ⟨rfl, HK2.out⟩
set_option maxRecDepth 100000 in
theorem not1_54 (f : Nd → Bool) (t : Nd) (ho : okN t) (H : Says 54 f t) : Not1 54 f t := by
  intro fb w B F kd tx nm pl ka kn kc hL ht hf
  have HT := hide (NodeIn.keep ((Keeps.refl NoB w).alloc (.cells #[.int .u8 kd, .string tx, .int .i64 nm, .int .i64 pl, .slice ka kn kc] 29)) (fun _ _ => id) _ _ ht)
  have hf2 : (w.alloc (.cells #[.int .u8 kd, .string tx, .int .i64 nm, .int .i64 pl, .slice ka kn kc] 29)).cell? ⟨fb, 0, none⟩ = some (.func (.func 54) #[] #[]) := ((Keeps.refl NoB w).alloc (.cells #[.int .u8 kd, .string tx, .int .i64 nm, .int .i64 pl, .slice ka kn kc] 29)).cell (p := ⟨fb, 0, none⟩) id hf
  have hl := nd_blk_lt hf
  have HL := hide (hL.keep ((Keeps.refl NoB w).alloc (.cells #[.int .u8 kd, .string tx, .int .i64 nm, .int .i64 pl, .slice ka kn kc] 29)))
  have HH := hide H
  have HO := hide ho
  clear ht hL H ho
  go_enter Tryd.func41, Tryd.ntmps41
  go_wp2_with fail
  refine (HH.out _ B F kd tx nm pl ka kn kc HL.out HO.out HT.out).mono ?_
  rintro e w2 ⟨rfl, hk2⟩
  have HK2 := hide (((Keeps.refl NoB w).alloc (.cells #[.int .u8 kd, .string tx, .int .i64 nm, .int .i64 pl, .slice ka kn kc] 29)).trans' hk2 (fun _ _ => id) (fun _ _ => id) : Keeps NoB w w2)
  clear hk2
  go_wp2
  go_ret
  exact ⟨rfl, HK2.out⟩
set_option maxRecDepth 100000 in
theorem not1_57 (f : Nd → Bool) (t : Nd) (ho : okN t) (H : Says 57 f t) : Not1 57 f t := by
  intro fb w B F kd tx nm pl ka kn kc hL ht hf
  have HT := hide (NodeIn.keep ((Keeps.refl NoB w).alloc (.cells #[.int .u8 kd, .string tx, .int .i64 nm, .int .i64 pl, .slice ka kn kc] 29)) (fun _ _ => id) _ _ ht)
  have hf2 : (w.alloc (.cells #[.int .u8 kd, .string tx, .int .i64 nm, .int .i64 pl, .slice ka kn kc] 29)).cell? ⟨fb, 0, none⟩ = some (.func (.func 57) #[] #[]) := ((Keeps.refl NoB w).alloc (.cells #[.int .u8 kd, .string tx, .int .i64 nm, .int .i64 pl, .slice ka kn kc] 29)).cell (p := ⟨fb, 0, none⟩) id hf
  have hl := nd_blk_lt hf
  have HL := hide (hL.keep ((Keeps.refl NoB w).alloc (.cells #[.int .u8 kd, .string tx, .int .i64 nm, .int .i64 pl, .slice ka kn kc] 29)))
  have HH := hide H
  have HO := hide ho
  clear ht hL H ho
  go_enter Tryd.func41, Tryd.ntmps41
  go_wp2_with fail
  refine (HH.out _ B F kd tx nm pl ka kn kc HL.out HO.out HT.out).mono ?_
  rintro e w2 ⟨rfl, hk2⟩
  have HK2 := hide (((Keeps.refl NoB w).alloc (.cells #[.int .u8 kd, .string tx, .int .i64 nm, .int .i64 pl, .slice ka kn kc] 29)).trans' hk2 (fun _ _ => id) (fun _ _ => id) : Keeps NoB w w2)
  clear hk2
  go_wp2
  go_ret
  exact ⟨rfl, HK2.out⟩
set_option maxRecDepth 100000 in
theorem not1_58 (f : Nd → Bool) (t : Nd) (ho : okN t) (H : Says 58 f t) : Not1 58 f t := by
  intro fb w B F kd tx nm pl ka kn kc hL ht hf
  have HT := hide (NodeIn.keep ((Keeps.refl NoB w).alloc (.cells #[.int .u8 kd, .string tx, .int .i64 nm, .int .i64 pl, .slice ka kn kc] 29)) (fun _ _ => id) _ _ ht)
  have hf2 : (w.alloc (.cells #[.int .u8 kd, .string tx, .int .i64 nm, .int .i64 pl, .slice ka kn kc] 29)).cell? ⟨fb, 0, none⟩ = some (.func (.func 58) #[] #[]) := ((Keeps.refl NoB w).alloc (.cells #[.int .u8 kd, .string tx, .int .i64 nm, .int .i64 pl, .slice ka kn kc] 29)).cell (p := ⟨fb, 0, none⟩) id hf
  have hl := nd_blk_lt hf
  have HL := hide (hL.keep ((Keeps.refl NoB w).alloc (.cells #[.int .u8 kd, .string tx, .int .i64 nm, .int .i64 pl, .slice ka kn kc] 29)))
  have HH := hide H
  have HO := hide ho
  clear ht hL H ho
  go_enter Tryd.func41, Tryd.ntmps41
  go_wp2_with fail
  refine (HH.out _ B F kd tx nm pl ka kn kc HL.out HO.out HT.out).mono ?_
  rintro e w2 ⟨rfl, hk2⟩
  have HK2 := hide (((Keeps.refl NoB w).alloc (.cells #[.int .u8 kd, .string tx, .int .i64 nm, .int .i64 pl, .slice ka kn kc] 29)).trans' hk2 (fun _ _ => id) (fun _ _ => id) : Keeps NoB w w2)
  clear hk2
  go_wp2
  go_ret
  exact ⟨rfl, HK2.out⟩
set_option maxRecDepth 100000 in
theorem not1_59 (f : Nd → Bool) (t : Nd) (ho : okN t) (H : Says 59 f t) : Not1 59 f t := by
  intro fb w B F kd tx nm pl ka kn kc hL ht hf
  have HT := hide (NodeIn.keep ((Keeps.refl NoB w).alloc (.cells #[.int .u8 kd, .string tx, .int .i64 nm, .int .i64 pl, .slice ka kn kc] 29)) (fun _ _ => id) _ _ ht)
  have hf2 : (w.alloc (.cells #[.int .u8 kd, .string tx, .int .i64 nm, .int .i64 pl, .slice ka kn kc] 29)).cell? ⟨fb, 0, none⟩ = some (.func (.func 59) #[] #[]) := ((Keeps.refl NoB w).alloc (.cells #[.int .u8 kd, .string tx, .int .i64 nm, .int .i64 pl, .slice ka kn kc] 29)).cell (p := ⟨fb, 0, none⟩) id hf
  have hl := nd_blk_lt hf
  have HL := hide (hL.keep ((Keeps.refl NoB w).alloc (.cells #[.int .u8 kd, .string tx, .int .i64 nm, .int .i64 pl, .slice ka kn kc] 29)))
  have HH := hide H
  have HO := hide ho
  clear ht hL H ho
  go_enter Tryd.func41, Tryd.ntmps41
  go_wp2_with fail
  refine (HH.out _ B F kd tx nm pl ka kn kc HL.out HO.out HT.out).mono ?_
  rintro e w2 ⟨rfl, hk2⟩
  have HK2 := hide (((Keeps.refl NoB w).alloc (.cells #[.int .u8 kd, .string tx, .int .i64 nm, .int .i64 pl, .slice ka kn kc] 29)).trans' hk2 (fun _ _ => id) (fun _ _ => id) : Keeps NoB w w2)
  clear hk2
  go_wp2
  go_ret
  exact ⟨rfl, HK2.out⟩
set_option maxRecDepth 100000 in
theorem not1_60 (f : Nd → Bool) (t : Nd) (ho : okN t) (H : Says 60 f t) : Not1 60 f t := by
  intro fb w B F kd tx nm pl ka kn kc hL ht hf
  have HT := hide (NodeIn.keep ((Keeps.refl NoB w).alloc (.cells #[.int .u8 kd, .string tx, .int .i64 nm, .int .i64 pl, .slice ka kn kc] 29)) (fun _ _ => id) _ _ ht)
  have hf2 : (w.alloc (.cells #[.int .u8 kd, .string tx, .int .i64 nm, .int .i64 pl, .slice ka kn kc] 29)).cell? ⟨fb, 0, none⟩ = some (.func (.func 60) #[] #[]) := ((Keeps.refl NoB w).alloc (.cells #[.int .u8 kd, .string tx, .int .i64 nm, .int .i64 pl, .slice ka kn kc] 29)).cell (p := ⟨fb, 0, none⟩) id hf
  have hl := nd_blk_lt hf
  have HL := hide (hL.keep ((Keeps.refl NoB w).alloc (.cells #[.int .u8 kd, .string tx, .int .i64 nm, .int .i64 pl, .slice ka kn kc] 29)))
  have HH := hide H
  have HO := hide ho
  clear ht hL H ho
  go_enter Tryd.func41, Tryd.ntmps41
  go_wp2_with fail
  refine (HH.out _ B F kd tx nm pl ka kn kc HL.out HO.out HT.out).mono ?_
  rintro e w2 ⟨rfl, hk2⟩
  have HK2 := hide (((Keeps.refl NoB w).alloc (.cells #[.int .u8 kd, .string tx, .int .i64 nm, .int .i64 pl, .slice ka kn kc] 29)).trans' hk2 (fun _ _ => id) (fun _ _ => id) : Keeps NoB w w2)
  clear hk2
  go_wp2
  go_ret
  exact ⟨rfl, HK2.out⟩
set_option maxRecDepth 100000 in
theorem not1_61 (f : Nd → Bool) (t : Nd) (ho : okN t) (H : Says 61 f t) : Not1 61 f t := by
  intro fb w B F kd tx nm pl ka kn kc hL ht hf
  have HT := hide (NodeIn.keep ((Keeps.refl NoB w).alloc (.cells #[.int .u8 kd, .string tx, .int .i64 nm, .int .i64 pl, .slice ka kn kc] 29)) (fun _ _ => id) _ _ ht)
  have hf2 : (w.alloc (.cells #[.int .u8 kd, .string tx, .int .i64 nm, .int .i64 pl, .slice ka kn kc] 29)).cell? ⟨fb, 0, none⟩ = some (.func (.func 61) #[] #[]) := ((Keeps.refl NoB w).alloc (.cells #[.int .u8 kd, .string tx, .int .i64 nm, .int .i64 pl, .slice ka kn kc] 29)).cell (p := ⟨fb, 0, none⟩) id hf
  have hl := nd_blk_lt hf
  have HL := hide (hL.keep ((Keeps.refl NoB w).alloc (.cells #[.int .u8 kd, .string tx, .int .i64 nm, .int .i64 pl, .slice ka kn kc] 29)))
  have HH := hide H
  have HO := hide ho
  clear ht hL H ho
  go_enter Tryd.func41, Tryd.ntmps41
  go_wp2_with fail
  refine (HH.out _ B F kd tx nm pl ka kn kc HL.out HO.out HT.out).mono ?_
  rintro e w2 ⟨rfl, hk2⟩
  have HK2 := hide (((Keeps.refl NoB w).alloc (.cells #[.int .u8 kd, .string tx, .int .i64 nm, .int .i64 pl, .slice ka kn kc] 29)).trans' hk2 (fun _ _ => id) (fun _ _ => id) : Keeps NoB w w2)
  clear hk2
  go_wp2
  go_ret
  exact ⟨rfl, HK2.out⟩
theorem all_take {f : Nd → Bool} {ts : List Nd} {k : Nat} {t : Nd} (h : ts[k]? = some t) : (ts.take (k + 1)).all f = ((ts.take k).all f && f t) := by
  rw [List.take_add_one, h, List.all_append]; simp
theorem all_no {f : Nd → Bool} {ts : List Nd} {k : Nat} {t : Nd} (h : ts[k]? = some t) (hf : f t = false) : ts.all f = false := by
  cases hh : ts.all f with
  | false => rfl
  | true => rw [List.all_eq_true.1 hh t (List.mem_of_getElem? h)] at hf; cases hf

set_option maxRecDepth 100000 in
theorem nd_index (q : Nat) (f : Nd → Bool) (ts : List Nd) (H : ∀ t ∈ ts, Not1 q f t) (css : List (List Value)) (A : Option Addr) (n c : Nat) (w : World) (B : Nat → Prop) (F : Bool) (fb : Nat)
    (hL : LaidN w) (hr : Reads w B F 5 A n css.flatten) (ht : NodesIn w B F css ts) (hroom : Roomy n 64) (hf : w.cell? ⟨fb, 0, none⟩ = some (.func (.func q) #[] #[])) :
    Calls Tryd.prog 53 #[.slice A n c, .func (.func 41) #[] #[.pointer (some ⟨fb, 0, none⟩)]] w fun e w' => ∃ r : Int, e = .returned (.int .i64 r) ∧ decide (0 ≤ r) = !ts.all f ∧ Keeps NoB w w' := by
  have hln : ts.length = n := by have h1 := hr.1; rw [flat_len ht.lens.2, ht.lens.1] at h1; omega
  have hnm : n ≤ 9223372036854775807 := by have := hroom.len (by omega); unfold maxLen at this; exact this
  have HR := hide hr; have HT := hide ht; have HLN := hide hln; have HF := hide hf; have HL := hide hL; have HH := hide H
  clear hr ht hln hroom hf hL H
  go_enter Tryd.func53, Tryd.ntmps53
  go_wp2
  go_loopw [8] (fun i wr => ∃ k : Nat, k ≤ n ∧ i = .int .i64 k ∧ Hid ((ts.take k).all f = true) ∧ Keeps NoB w wr) (fun i _ => n - (intOf i).toNat)
  case atStart => exact ⟨0, Nat.zero_le _, rfl, hide (by rw [List.take_zero]; rfl), Keeps.refl _ _⟩
  case round =>
    obtain ⟨k, hk, rfl, HMT, hkw⟩ := hrel
    have HKW := hide hkw; clear hkw
    by_cases hlt : k < n
    · obtain ⟨b, o, kd, tx, nm, pl, ka, kn, kc, t, hA, _, _, h1, _, hu, f0, f1, f2, f3, f4⟩ := node_at (HR.out.keep HKW.out (fun _ _ => id)) (NodesIn.keep HKW.out (fun _ _ => id) _ _ HT.out) k hlt
      subst hA
      have HAT := hide h1; have HU := hide hu
      clear h1 hu
      have hk1 : (k : Int) < (n : Int) := by omega
      have hk0 : (0 : Int) ≤ (k : Int) := by omega
      cases hq : f t with
      | true =>
        have HQ := hide hq; clear hq
        go_wp2_with
          first
          | (go_at_call 41
             refine (HH.out t (List.mem_of_getElem? HAT.out) fb _ B F kd tx nm pl ka kn kc (HL.out.keep HKW.out) HU.out (HKW.out.cell id HF.out)).mono ?_
             rintro e w2 ⟨rfl, hk2⟩
             rw [HQ.out]
             have HK2 := hide (HKW.out.trans' hk2 (fun _ _ => id) (fun _ _ => id) : Keeps NoB w w2)
             clear hk2)
          | fail
        go_roundw
        case rel => exact ⟨k + 1, by omega, by go_num, hide (by rw [all_take HAT.out, HMT.out, HQ.out]; rfl), HK2.out⟩
        case measure => simp [intOf]; omega
      | false =>
        have HQ := hide hq; clear hq
        go_wp2_with
          first
          | (go_at_call 41
             refine (HH.out t (List.mem_of_getElem? HAT.out) fb _ B F kd tx nm pl ka kn kc (HL.out.keep HKW.out) HU.out (HKW.out.cell id HF.out)).mono ?_
             rintro e w2 ⟨rfl, hk2⟩
             rw [HQ.out]
             have HK2 := hide (HKW.out.trans' hk2 (fun _ _ => id) (fun _ _ => id) : Keeps NoB w w2)
             clear hk2)
          | fail
        go_ret
        exact ⟨k, rfl, by rw [all_no HAT.out HQ.out]; simp, HK2.out⟩
    · go_wp2
      go_ret
      refine ⟨-1, rfl, ?_, HKW.out⟩
      have h := HMT.out
      rw [List.take_of_length_le (by have := HLN.out; omega)] at h
      rw [h]; rfl

set_option maxRecDepth 100000 in
theorem nd_contains (q : Nat) (f : Nd → Bool) (ts : List Nd) (H : ∀ t ∈ ts, Not1 q f t) (css : List (List Value)) (A : Option Addr) (n c : Nat) (w : World) (B : Nat → Prop) (F : Bool) (fb : Nat)
    (hL : LaidN w) (hr : Reads w B F 5 A n css.flatten) (ht : NodesIn w B F css ts) (hroom : Roomy n 64) (hf : w.cell? ⟨fb, 0, none⟩ = some (.func (.func q) #[] #[])) :
    Calls Tryd.prog 40 #[.slice A n c, .func (.func 41) #[] #[.pointer (some ⟨fb, 0, none⟩)]] w fun e w' => e = .returned (.bool (!ts.all f)) ∧ Keeps NoB w w' := by
  have H := hide (nd_index q f ts H css A n c w B F fb hL hr ht hroom hf)
  clear hr ht hroom hf hL
  go_enter Tryd.func40, Tryd.ntmps40
  go_wp2_with
    first
    | (go_at_call 53
       refine H.out.mono ?_
       rintro e w2 ⟨r, rfl, hd, hk2⟩
       have HD := hide hd
       have HK2 := hide hk2
       clear hk2 hd)
    | fail
  go_ret
  exact ⟨by rw [← HD.out]; rfl, HK2.out⟩

set_option maxRecDepth 100000 in
theorem nd_all (q : Nat) (f : Nd → Bool) (ts : List Nd) (H : ∀ t ∈ ts, Not1 q f t) (css : List (List Value)) (A : Option Addr) (n c : Nat) (w : World) (B : Nat → Prop) (F : Bool)
    (hL : LaidN w) (hr : Reads w B F 5 A n css.flatten) (ht : NodesIn w B F css ts) (hroom : Roomy n 64) :
    Calls Tryd.prog 30 #[.slice A n c, .func (.func q) #[] #[]] w fun e w' => e = .returned (.bool (ts.all f)) ∧ Keeps NoB w w' := by
  have hk : Keeps NoB w (w.alloc (.cells #[.func (.func q) #[] #[]] 30)) := (Keeps.refl NoB w).alloc _
  have H := hide (nd_contains q f ts H css A n c _ B F w.heap.size (hL.keep hk) (hr.keep hk (fun _ _ => id)) (NodesIn.keep hk (fun _ _ => id) _ _ ht) hroom ((Blk.new w 30 #[.func (.func q) #[] #[]]).cell 0))
  have HK := hide hk
  clear hr ht hroom hL hk
  go_enter Tryd.func30, Tryd.ntmps30
  go_wp2_with
    first
    | (go_at_call 40
       refine H.out.mono ?_
       rintro e w2 ⟨rfl, hk2⟩
       have HK2 := hide (HK.out.trans' hk2 (fun _ _ => id) (fun _ _ => id) : Keeps NoB w w2)
       clear hk2)
    | fail
  go_ret
  exact ⟨by simp, HK2.out⟩
end Go.Proofs.YtincajfanhanjaaDoor
