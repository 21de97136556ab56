/- node.item (given the functions on the kids). -/
import Derived.Test.YtincajfanhanjaaDoorNdKids
namespace Go.Proofs.YtincajfanhanjaaDoor
open Go.RowKit

/-- What is said of a node by each of the functions. -/
structure SaidOf (x : Nd) : Prop where
  ok : okN x
  item : Says 32 (okM 0) x
  body : Says 54 (okM 1) x
  clause : Says 42 (okM 2) x
  single : Says 57 (okM 3) x
  guarded : Says 58 (okM 4) x
  caught : Says 60 (okM 5) x
  after : Says 59 (okM 6) x
  qual : Says 61 (okM 7) x

def shapesL : List (Int × Int × Int × Int × Nat × Int) := [(1, 100, 0, 0, 0, 0), (2, 110, 0, 0, 0, 0), (3, 118, 0, 0, 0, 0), (4, 115, 0, 0, 0, 0), (5, 0, 105, 0, 0, -1), (6, 0, 105, 1, 0, -1), (7, 111, 105, 0, 1, 2), (8, 0, 105, 0, 2, 2), (9, 0, 105, 0, 1, -1), (10, 0, 99, 0, 1, -1), (11, 110, 0, 255, 0, 0), (12, 0, 101, 0, 2, -1), (13, 0, 103, 0, 1, -1), (14, 0, 114, 1, 1, -1), (16, 0, 116, 0, 2, -1), (17, 0, 113, 0, 2, -1), (19, 0, 105, 0, 1, -1)]
theorem shape_mem {k : Int} {t q m : Int} {least : Nat} {most : Int} (h : shapeN k = some (t, q, m, least, most)) : (k, t, q, m, least, most) ∈ shapesL := by
  unfold shapeN at h
  by_cases h1 : k = 1
  · rw [if_pos h1] at h; subst h1; cases h; decide
  rw [if_neg h1] at h
  by_cases h1 : k = 2
  · rw [if_pos h1] at h; subst h1; cases h; decide
  rw [if_neg h1] at h
  by_cases h1 : k = 3
  · rw [if_pos h1] at h; subst h1; cases h; decide
  rw [if_neg h1] at h
  by_cases h1 : k = 4
  · rw [if_pos h1] at h; subst h1; cases h; decide
  rw [if_neg h1] at h
  by_cases h1 : k = 5
  · rw [if_pos h1] at h; subst h1; cases h; decide
  rw [if_neg h1] at h
  by_cases h1 : k = 6
  · rw [if_pos h1] at h; subst h1; cases h; decide
  rw [if_neg h1] at h
  by_cases h1 : k = 7
  · rw [if_pos h1] at h; subst h1; cases h; decide
  rw [if_neg h1] at h
  by_cases h1 : k = 8
  · rw [if_pos h1] at h; subst h1; cases h; decide
  rw [if_neg h1] at h
  by_cases h1 : k = 9
  · rw [if_pos h1] at h; subst h1; cases h; decide
  rw [if_neg h1] at h
  by_cases h1 : k = 10
  · rw [if_pos h1] at h; subst h1; cases h; decide
  rw [if_neg h1] at h
  by_cases h1 : k = 11
  · rw [if_pos h1] at h; subst h1; cases h; decide
  rw [if_neg h1] at h
  by_cases h1 : k = 12
  · rw [if_pos h1] at h; subst h1; cases h; decide
  rw [if_neg h1] at h
  by_cases h1 : k = 13
  · rw [if_pos h1] at h; subst h1; cases h; decide
  rw [if_neg h1] at h
  by_cases h1 : k = 14
  · rw [if_pos h1] at h; subst h1; cases h; decide
  rw [if_neg h1] at h
  by_cases h1 : k = 16
  · rw [if_pos h1] at h; subst h1; cases h; decide
  rw [if_neg h1] at h
  by_cases h1 : k = 17
  · rw [if_pos h1] at h; subst h1; cases h; decide
  rw [if_neg h1] at h
  by_cases h1 : k = 19
  · rw [if_pos h1] at h; subst h1; cases h; decide
  rw [if_neg h1] at h
  cases h
theorem shape_cases {k : Int} {t q m : Int} {least : Nat} {most : Int} (h : shapeN k = some (t, q, m, least, most)) :
    (k = 1 ∧ t = 100 ∧ q = 0 ∧ m = 0 ∧ least = 0 ∧ most = 0) ∨ (k = 2 ∧ t = 110 ∧ q = 0 ∧ m = 0 ∧ least = 0 ∧ most = 0) ∨ (k = 3 ∧ t = 118 ∧ q = 0 ∧ m = 0 ∧ least = 0 ∧ most = 0) ∨ (k = 4 ∧ t = 115 ∧ q = 0 ∧ m = 0 ∧ least = 0 ∧ most = 0) ∨ (k = 5 ∧ t = 0 ∧ q = 105 ∧ m = 0 ∧ least = 0 ∧ most = -1) ∨ (k = 6 ∧ t = 0 ∧ q = 105 ∧ m = 1 ∧ least = 0 ∧ most = -1) ∨ (k = 7 ∧ t = 111 ∧ q = 105 ∧ m = 0 ∧ least = 1 ∧ most = 2) ∨ (k = 8 ∧ t = 0 ∧ q = 105 ∧ m = 0 ∧ least = 2 ∧ most = 2) ∨ (k = 9 ∧ t = 0 ∧ q = 105 ∧ m = 0 ∧ least = 1 ∧ most = -1) ∨ (k = 10 ∧ t = 0 ∧ q = 99 ∧ m = 0 ∧ least = 1 ∧ most = -1) ∨ (k = 11 ∧ t = 110 ∧ q = 0 ∧ m = 255 ∧ least = 0 ∧ most = 0) ∨ (k = 12 ∧ t = 0 ∧ q = 101 ∧ m = 0 ∧ least = 2 ∧ most = -1) ∨ (k = 13 ∧ t = 0 ∧ q = 103 ∧ m = 0 ∧ least = 1 ∧ most = -1) ∨ (k = 14 ∧ t = 0 ∧ q = 114 ∧ m = 1 ∧ least = 1 ∧ most = -1) ∨ (k = 16 ∧ t = 0 ∧ q = 116 ∧ m = 0 ∧ least = 2 ∧ most = -1) ∨ (k = 17 ∧ t = 0 ∧ q = 113 ∧ m = 0 ∧ least = 2 ∧ most = -1) ∨ (k = 19 ∧ t = 0 ∧ q = 105 ∧ m = 0 ∧ least = 1 ∧ most = -1) := by
  have h1 := shape_mem h
  simpa [shapesL] using h1
theorem shape_range {k : Int} {t q m : Int} {least : Nat} {most : Int} (h : shapeN k = some (t, q, m, least, most)) : 1 ≤ k ∧ k < 20 ∧ k ≠ 15 ∧ k ≠ 18 ∧ 0 ≤ t ∧ t < 256 ∧ 0 ≤ q ∧ q < 256 ∧ 0 ≤ m ∧ m ≤ 255 ∧ least ≤ 2 ∧ -1 ≤ most ∧ most ≤ 2 ∧ (t = 100 ∨ t = 110 ∨ t = 118 ∨ t = 115 ∨ t = 111 ∨ t = 0) := by
  have h1 : ∀ x ∈ shapesL, 1 ≤ x.1 ∧ x.1 < 20 ∧ x.1 ≠ 15 ∧ x.1 ≠ 18 ∧ 0 ≤ x.2.1 ∧ x.2.1 < 256 ∧ 0 ≤ x.2.2.1 ∧ x.2.2.1 < 256 ∧ 0 ≤ x.2.2.2.1 ∧ x.2.2.2.1 ≤ 255 ∧ x.2.2.2.2.1 ≤ 2 ∧ -1 ≤ x.2.2.2.2.2 ∧ x.2.2.2.2.2 ≤ 2 ∧ (x.2.1 = 100 ∨ x.2.1 = 110 ∨ x.2.1 = 118 ∨ x.2.1 = 115 ∨ x.2.1 = 111 ∨ x.2.1 = 0) := by decide
  exact h1 _ (shape_mem h)
theorem shape_some {k : Int} (h : k = 1 ∨ k = 2 ∨ k = 3 ∨ k = 4 ∨ k = 5 ∨ k = 6 ∨ k = 7 ∨ k = 8 ∨ k = 9 ∨ k = 10 ∨ k = 11 ∨ k = 12 ∨ k = 13 ∨ k = 14 ∨ k = 16 ∨ k = 17 ∨ k = 19) : ∃ t q m least most, shapeN k = some (t, q, m, least, most) := by
  rcases h with rfl | rfl | rfl | rfl | rfl | rfl | rfl | rfl | rfl | rfl | rfl | rfl | rfl | rfl | rfl | rfl | rfl <;> exact ⟨_, _, _, _, _, rfl⟩
theorem shape_none {k : Int} (h : k < 1 ∨ k = 15 ∨ k = 18 ∨ 20 ≤ k) : shapeN k = none := by
  cases hs : shapeN k with
  | none => rfl
  | some x => obtain ⟨t, q, m, least, most⟩ := x; have := shape_range hs; omega

/-- worded, of the kind that a shape has. -/
theorem worded_of {k t q m : Int} {least : Nat} {most : Int} (hsh : shapeN k = some (t, q, m, least, most)) (w : World) (kd : Int) (tx : ByteArray) (nm pl : Int) (ka : Option Addr) (kn kc : Nat) (hL : LaidN w) (ht : tx.size ≤ 140737488355328) (hkn : kn ≤ 9223372036854775807) :
    Calls Tryd.prog 43 #[.agg #[.int .u8 kd, .string tx, .int .i64 nm, .int .i64 pl, .slice ka kn kc], .int .u8 t] w (WordP t tx kn w) := by
  have h := (shape_range hsh).2.2.2.2.2.2.2.2.2.2.2.2.2
  rcases h with rfl | rfl | rfl | rfl | rfl | rfl
  · exact worded_100 w kd tx nm pl ka kn kc kn
  · exact worded_110 w kd tx nm pl ka kn kc kn
  · exact worded_118 w kd tx nm pl ka kn kc kn
  · exact worded_115 w kd tx nm pl ka kn kc kn
  · exact worded_111 w kd tx nm pl ka kn kc hL ht hkn
  · exact worded_0 w kd tx nm pl ka kn kc kn
/-- kids, of the kind that a shape has. -/
theorem kids_of {k q t m : Int} {least : Nat} {most : Int} (hsh : shapeN k = some (t, q, m, least, most)) (w : World) (B : Nat → Prop) (F : Bool) (tx : ByteArray) (nm pl : Int) (ka : Option Addr) (kn kc : Nat) (kids : List Nd) (hL : LaidN w) (ht : NodeIn w B F [.int .u8 k, .string tx, .int .i64 nm, .int .i64 pl, .slice ka kn kc] (.mk k tx nm pl kids)) (hn : 0 ≤ nm ∧ nm ≤ m) (hl : least ≤ kids.length) (hm : most < 0 ∨ (kids.length : Int) ≤ most) (H : ∀ x ∈ kids, SaidOf x) :
    Calls Tryd.prog 44 #[.agg #[.int .u8 k, .string tx, .int .i64 nm, .int .i64 pl, .slice ka kn kc], .int .u8 q] w (BoolP (okAs (kidsM k nm kids.length).1 (kidsM k nm kids.length).2 kids) w) := by
  have hkl : kids.length = kn := by
    obtain ⟨kids', css, e0, _, _, _, h⟩ := ht.kidsIn
    injection e0 with _ _ _ _ e0
    rw [e0]; exact h
  have n32 : ∀ x ∈ kids, Not1 32 (okM 0) x := fun x hx => not1_32 _ x (H x hx).ok (H x hx).item
  have n42 : ∀ x ∈ kids, Not1 42 (okM 2) x := fun x hx => not1_42 _ x (H x hx).ok (H x hx).clause
  have n57 : ∀ x ∈ kids, Not1 57 (okM 3) x := fun x hx => not1_57 _ x (H x hx).ok (H x hx).single
  have n58 : ∀ x ∈ kids, Not1 58 (okM 4) x := fun x hx => not1_58 _ x (H x hx).ok (H x hx).guarded
  have n60 : ∀ x ∈ kids, Not1 60 (okM 5) x := fun x hx => not1_60 _ x (H x hx).ok (H x hx).caught
  have n59 : ∀ x ∈ kids, Not1 59 (okM 6) x := fun x hx => not1_59 _ x (H x hx).ok (H x hx).after
  have n61 : ∀ x ∈ kids, Not1 61 (okM 7) x := fun x hx => not1_61 _ x (H x hx).ok (H x hx).qual
  have hz : q = 0 → kids = [] → BoolP (okAs (kidsM k nm kids.length).1 (kidsM k nm kids.length).2 kids) w = BoolP true w := fun _ e => by rw [e]; unfold okAs; rfl
  rcases shape_cases hsh with ⟨rfl, rfl, rfl, rfl, rfl, rfl⟩ | ⟨rfl, rfl, rfl, rfl, rfl, rfl⟩ | ⟨rfl, rfl, rfl, rfl, rfl, rfl⟩ | ⟨rfl, rfl, rfl, rfl, rfl, rfl⟩ | ⟨rfl, rfl, rfl, rfl, rfl, rfl⟩ | ⟨rfl, rfl, rfl, rfl, rfl, rfl⟩ | ⟨rfl, rfl, rfl, rfl, rfl, rfl⟩ | ⟨rfl, rfl, rfl, rfl, rfl, rfl⟩ | ⟨rfl, rfl, rfl, rfl, rfl, rfl⟩ | ⟨rfl, rfl, rfl, rfl, rfl, rfl⟩ | ⟨rfl, rfl, rfl, rfl, rfl, rfl⟩ | ⟨rfl, rfl, rfl, rfl, rfl, rfl⟩ | ⟨rfl, rfl, rfl, rfl, rfl, rfl⟩ | ⟨rfl, rfl, rfl, rfl, rfl, rfl⟩ | ⟨rfl, rfl, rfl, rfl, rfl, rfl⟩ | ⟨rfl, rfl, rfl, rfl, rfl, rfl⟩ | ⟨rfl, rfl, rfl, rfl, rfl, rfl⟩
  · obtain rfl : kids = [] := List.eq_nil_of_length_eq_zero (by omega)
    rw [hz rfl rfl]
    exact kids_0 w _ tx nm pl ka kn kc
  · obtain rfl : kids = [] := List.eq_nil_of_length_eq_zero (by omega)
    rw [hz rfl rfl]
    exact kids_0 w _ tx nm pl ka kn kc
  · obtain rfl : kids = [] := List.eq_nil_of_length_eq_zero (by omega)
    rw [hz rfl rfl]
    exact kids_0 w _ tx nm pl ka kn kc
  · obtain rfl : kids = [] := List.eq_nil_of_length_eq_zero (by omega)
    rw [hz rfl rfl]
    exact kids_0 w _ tx nm pl ka kn kc
  · have h := kids_105 (okM 0) _ w B F _ tx nm pl ka kn kc hL ht n32
    rw [show okAs (kidsM 5 nm kids.length).1 (kidsM 5 nm kids.length).2 kids = kids.all (okM 0) from okAs_nil 0 kids]
    exact h
  · have h := kids_105 (okM 0) _ w B F _ tx nm pl ka kn kc hL ht n32
    rw [show okAs (kidsM 6 nm kids.length).1 (kidsM 6 nm kids.length).2 kids = kids.all (okM 0) from okAs_nil 0 kids]
    exact h
  · have h := kids_105 (okM 0) _ w B F _ tx nm pl ka kn kc hL ht n32
    rw [show okAs (kidsM 7 nm kids.length).1 (kidsM 7 nm kids.length).2 kids = kids.all (okM 0) from okAs_nil 0 kids]
    exact h
  · have h := kids_105 (okM 0) _ w B F _ tx nm pl ka kn kc hL ht n32
    rw [show okAs (kidsM 8 nm kids.length).1 (kidsM 8 nm kids.length).2 kids = kids.all (okM 0) from okAs_nil 0 kids]
    exact h
  · have h := kids_105 (okM 0) _ w B F _ tx nm pl ka kn kc hL ht n32
    rw [show okAs (kidsM 9 nm kids.length).1 (kidsM 9 nm kids.length).2 kids = kids.all (okM 0) from okAs_nil 0 kids]
    exact h
  · have h := kids_99 (okM 2) _ w B F _ tx nm pl ka kn kc hL ht n42
    rw [show okAs (kidsM 10 nm kids.length).1 (kidsM 10 nm kids.length).2 kids = kids.all (okM 2) from okAs_nil 2 kids]
    exact h
  · obtain rfl : kids = [] := List.eq_nil_of_length_eq_zero (by omega)
    rw [hz rfl rfl]
    exact kids_0 w _ tx nm pl ka kn kc
  · obtain ⟨a, l, rfl⟩ := List.exists_cons_of_ne_nil (show kids ≠ [] by rintro rfl; simp at hl)
    rw [show okAs (kidsM 12 nm (a :: l).length).1 (kidsM 12 nm (a :: l).length).2 (a :: l) = (okM 0 a && l.all (okM 3)) from okAs_one 0 3 a l]
    exact kids_101 (okM 0) (okM 3) a l w B F _ tx nm pl ka kn kc hL ht (H a List.mem_cons_self).ok (H a List.mem_cons_self).item (fun x hx => n57 x (List.mem_cons_of_mem _ hx))
  · have h := kids_103 (okM 4) _ w B F _ tx nm pl ka kn kc hL ht n58
    rw [show okAs (kidsM 13 nm kids.length).1 (kidsM 13 nm kids.length).2 kids = kids.all (okM 4) from okAs_nil 4 kids]
    exact h
  · obtain ⟨a, l, rfl⟩ := List.exists_cons_of_ne_nil (show kids ≠ [] by rintro rfl; simp at hl)
    have hnm : nm = 0 ∨ nm = 1 := by omega
    rcases hnm with rfl | rfl
    · have h := kids_114_0 (okM 3) (okM 6) a l w B F _ tx pl ka kn kc hL ht n57 n59
      rw [show okAs (kidsM 14 0 (a :: l).length).1 (kidsM 14 0 (a :: l).length).2 (a :: l) = (((a :: l).take (kn - 0)).all (okM 3) && ((a :: l).drop (kn - 0)).all (okM 6)) by rw [← hkl]; exact okAs_rep 3 6 _ _]
      exact h
    · have h := kids_114_1 (okM 3) (okM 6) a l w B F _ tx pl ka kn kc hL ht n57 n59
      rw [show okAs (kidsM 14 1 (a :: l).length).1 (kidsM 14 1 (a :: l).length).2 (a :: l) = (((a :: l).take (kn - 1)).all (okM 3) && ((a :: l).drop (kn - 1)).all (okM 6)) by rw [← hkl]; exact okAs_rep 3 6 _ _]
      exact h
  · obtain ⟨a, l, rfl⟩ := List.exists_cons_of_ne_nil (show kids ≠ [] by rintro rfl; simp at hl)
    rw [show okAs (kidsM 16 nm (a :: l).length).1 (kidsM 16 nm (a :: l).length).2 (a :: l) = (okM 1 a && l.all (okM 5)) from okAs_one 1 5 a l]
    exact kids_116 (okM 1) (okM 5) a l w B F _ tx nm pl ka kn kc hL ht (H a List.mem_cons_self).ok (H a List.mem_cons_self).body (fun x hx => n60 x (List.mem_cons_of_mem _ hx))
  · obtain ⟨a, l, rfl⟩ := List.exists_cons_of_ne_nil (show kids ≠ [] by rintro rfl; simp at hl)
    rw [show okAs (kidsM 17 nm (a :: l).length).1 (kidsM 17 nm (a :: l).length).2 (a :: l) = (okM 0 a && l.all (okM 7)) from okAs_one 0 7 a l]
    exact kids_113 (okM 0) (okM 7) a l w B F _ tx nm pl ka kn kc hL ht (H a List.mem_cons_self).ok (H a List.mem_cons_self).item (fun x hx => n61 x (List.mem_cons_of_mem _ hx))
  · have h := kids_105 (okM 0) _ w B F _ tx nm pl ka kn kc hL ht n32
    rw [show okAs (kidsM 19 nm kids.length).1 (kidsM 19 nm kids.length).2 kids = kids.all (okM 0) from okAs_nil 0 kids]
    exact h
end Go.Proofs.YtincajfanhanjaaDoor
