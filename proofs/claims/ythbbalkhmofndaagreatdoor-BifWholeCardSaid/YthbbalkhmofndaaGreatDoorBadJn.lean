/- Div: quotient and rest. Sub: the difference of two integers. Terms that are no integers: what Times, Add, Div, Compare, Sub, Int tell of them. -/
import Derived.Test.YthbbalkhmofndaaGreatDoorTextJn
import Derived.Test.YthbbalkhmofndaaGreatDoorAddJn
namespace Go.Proofs.YthbbalkhmofndaaGreatDoor
set_option maxRecDepth 100000
open Go.RowKit


theorem Blk.new4' (w : World) (o o' o'' : Obj) (t : TypeId) (cs : Array Value) : Blk ((((w.alloc o).alloc o').alloc o'').alloc (.cells cs t)) (w.heap.size + 1 + 1 + 1) t cs := by
  have := Blk.new (((w.alloc o).alloc o').alloc o'') t cs
  simpa using this
/-- Quotient and rest are told. -/
def DivP (w : World) (x y : Int) (e : Ending) (w' : World) : Prop := ∃ ngq Aq nq cq ngr Ar nr cr, e = .returned (.tuple #[.agg #[.int .u8 1, .bool ngq, .slice Aq nq cq, .string { data := #[] }, .int .i64 0, .slice none 0 0, .slice none 0 0], .agg #[.int .u8 1, .bool ngr, .slice Ar nr cr, .string { data := #[] }, .int .i64 0, .slice none 0 0, .slice none 0 0], .bool true]) ∧ IA w' (fun k => w.heap.size ≤ k) ngq Aq nq cq (x.tdiv y) ∧ IA w' (fun k => w.heap.size ≤ k) ngr Ar nr cr (x.tmod y) ∧ Keeps NoB w w'
theorem div_sgn {ng ng' : Bool} {x y : Int} (h1 : ng = decide (x < 0)) (h2 : ng' = decide (y < 0)) : sgn (ng != ng') (x.natAbs / y.natAbs) = x.tdiv y := by
  subst h1 h2
  unfold sgn
  rcases Int.lt_or_le x 0 with e | e <;> rcases Int.lt_or_le y 0 with e' | e'
  · have h : (decide (x < 0) != decide (y < 0)) = false := by simp [e, e']
    rw [h, if_neg (by decide)]
    obtain ⟨a, rfl⟩ : ∃ a : Nat, x = -(a : Int) := ⟨x.natAbs, by omega⟩
    obtain ⟨b, rfl⟩ : ∃ b : Nat, y = -(b : Int) := ⟨y.natAbs, by omega⟩
    rw [Int.neg_tdiv_neg, Int.natAbs_neg, Int.natAbs_neg]; rfl
  · have h : (decide (x < 0) != decide (y < 0)) = true := by simp [e]; exact e'
    rw [h, if_pos rfl]
    obtain ⟨a, rfl⟩ : ∃ a : Nat, x = -(a : Int) := ⟨x.natAbs, by omega⟩
    obtain ⟨b, rfl⟩ : ∃ b : Nat, y = (b : Int) := ⟨y.natAbs, by omega⟩
    rw [Int.neg_tdiv, Int.natAbs_neg]; rfl
  · have h : (decide (x < 0) != decide (y < 0)) = true := by simp [e']; exact e
    rw [h, if_pos rfl]
    obtain ⟨a, rfl⟩ : ∃ a : Nat, x = (a : Int) := ⟨x.natAbs, by omega⟩
    obtain ⟨b, rfl⟩ : ∃ b : Nat, y = -(b : Int) := ⟨y.natAbs, by omega⟩
    rw [Int.tdiv_neg, Int.natAbs_neg]; rfl
  · have h : (decide (x < 0) != decide (y < 0)) = false := by
      rw [decide_eq_false (by omega), decide_eq_false (by omega)]; rfl
    rw [h, if_neg (by decide)]
    obtain ⟨a, rfl⟩ : ∃ a : Nat, x = (a : Int) := ⟨x.natAbs, by omega⟩
    obtain ⟨b, rfl⟩ : ∃ b : Nat, y = (b : Int) := ⟨y.natAbs, by omega⟩
    rfl
theorem mod_sgn {ng : Bool} {x y : Int} (h1 : ng = decide (x < 0)) : sgn ng (x.natAbs % y.natAbs) = x.tmod y := by
  subst h1
  unfold sgn
  have hy : x.tmod y = x.tmod (y.natAbs : Int) := by
    rcases Int.lt_or_le y 0 with e | e
    · obtain ⟨b, rfl⟩ : ∃ b : Nat, y = -(b : Int) := ⟨y.natAbs, by omega⟩
      rw [Int.tmod_neg, Int.natAbs_neg]; rfl
    · obtain ⟨b, rfl⟩ : ∃ b : Nat, y = (b : Int) := ⟨y.natAbs, by omega⟩
      rfl
  rw [hy]
  rcases Int.lt_or_le x 0 with e | e
  · rw [decide_eq_true e, if_pos rfl]
    obtain ⟨a, rfl⟩ : ∃ a : Nat, x = -(a : Int) := ⟨x.natAbs, by omega⟩
    rw [Int.neg_tmod, Int.natAbs_neg]; rfl
  · rw [decide_eq_false (by omega), if_neg (by decide)]
    obtain ⟨a, rfl⟩ : ∃ a : Nat, x = (a : Int) := ⟨x.natAbs, by omega⟩
    rfl

theorem div_mod_of {a b q r : Nat} (h : q * b + r = a) (hr : r < b) : q = a / b ∧ r = a % b := by
  have hb : 0 < b := by omega
  subst h
  rw [Nat.mul_comm, Nat.mul_add_div hb, Nat.mul_add_mod, Nat.div_eq_of_lt hr, Nat.mod_eq_of_lt hr]
  exact ⟨rfl, rfl⟩
theorem limb_one {w : World} {g : Nat} {x : Int} {a : Nat} (h : Blk w g 44 #[.int .u32 x]) (hx : x = a) (ha : a < B32) : LimbsIn w (fun k => k = g) (some ⟨g, 0, none⟩) 1 1 [a] := by
  subst hx
  have hr : RowAt w g [a] := h
  exact hr.limbs rfl (by decide) (fun z hz => by simp at hz; subst hz; exact ha)
set_option maxHeartbeats 1000000 in
set_option maxRecDepth 100000 in
theorem div_short (ng ng' : Bool) (A A' ia ta ia' ta' : Option Addr) (n c n' c' ic tc ic' tc' : Nat) (x y : Int) (w : World) (B B' : Nat → Prop) (h : IA w B ng A n c x) (h' : IA w B' ng' A' n' c' y) (hle : y.natAbs ≤ x.natAbs) (h1 : n' = 1) :
    Calls Tryz.prog 78 #[.agg #[.int .u8 1, .bool ng, .slice A n c, .string { data := #[] }, .int .i64 0, .slice ia 0 ic, .slice ta 0 tc], .agg #[.int .u8 1, .bool ng', .slice A' n' c', .string { data := #[] }, .int .i64 0, .slice ia' 0 ic', .slice ta' 0 tc']] w (DivP w x y) := by
  have HLE := hide hle; clear hle
  have hnz : ((n' : Int) == 0) = false := by simp; omega
  have hn1 : ((n' : Int) == 1) = true := by simp; omega
  have H1 := hide h1; clear h1
  have hn := h.len; have hn' := h'.len
  have hln := h.limbs.len; have hln' := h'.limbs.len
  have HI := hide h; have HI' := hide h'
  clear h h'
  go_enter Tryz.func78, Tryz.ntmps78
  have HX0 := hide ((((Blk.new w 26 #[.int .u8 1, .bool ng, .slice A n c, .string { data := #[] }, .int .i64 0, .slice ia 0 ic, .slice ta 0 tc]).alloc (.cells #[.int .u8 1, .bool ng', .slice A' n' c', .string { data := #[] }, .int .i64 0, .slice ia' 0 ic', .slice ta' 0 tc'] 26)).alloc (.cells #[.int .u8 0, .bool false, .slice none 0 0, .string { data := #[] }, .int .i64 0, .slice none 0 0, .slice none 0 0] 26)).alloc (.cells #[.int .u8 0, .bool false, .slice none 0 0, .string { data := #[] }, .int .i64 0, .slice none 0 0, .slice none 0 0] 26))
  have HY0 := hide (((Blk.new2' w (.cells #[.int .u8 1, .bool ng, .slice A n c, .string { data := #[] }, .int .i64 0, .slice ia 0 ic, .slice ta 0 tc] 26) 26 #[.int .u8 1, .bool ng', .slice A' n' c', .string { data := #[] }, .int .i64 0, .slice ia' 0 ic', .slice ta' 0 tc']).alloc (.cells #[.int .u8 0, .bool false, .slice none 0 0, .string { data := #[] }, .int .i64 0, .slice none 0 0, .slice none 0 0] 26)).alloc (.cells #[.int .u8 0, .bool false, .slice none 0 0, .string { data := #[] }, .int .i64 0, .slice none 0 0, .slice none 0 0] 26))
  have HZ0 := hide ((Blk.new3' w (.cells #[.int .u8 1, .bool ng, .slice A n c, .string { data := #[] }, .int .i64 0, .slice ia 0 ic, .slice ta 0 tc] 26) (.cells #[.int .u8 1, .bool ng', .slice A' n' c', .string { data := #[] }, .int .i64 0, .slice ia' 0 ic', .slice ta' 0 tc'] 26) 26 #[.int .u8 0, .bool false, .slice none 0 0, .string { data := #[] }, .int .i64 0, .slice none 0 0, .slice none 0 0]).alloc (.cells #[.int .u8 0, .bool false, .slice none 0 0, .string { data := #[] }, .int .i64 0, .slice none 0 0, .slice none 0 0] 26))
  have HW0 := hide (Blk.new4' w (.cells #[.int .u8 1, .bool ng, .slice A n c, .string { data := #[] }, .int .i64 0, .slice ia 0 ic, .slice ta 0 tc] 26) (.cells #[.int .u8 1, .bool ng', .slice A' n' c', .string { data := #[] }, .int .i64 0, .slice ia' 0 ic', .slice ta' 0 tc'] 26) (.cells #[.int .u8 0, .bool false, .slice none 0 0, .string { data := #[] }, .int .i64 0, .slice none 0 0, .slice none 0 0] 26) 26 #[.int .u8 0, .bool false, .slice none 0 0, .string { data := #[] }, .int .i64 0, .slice none 0 0, .slice none 0 0])
  have HK0 := hide (((((Keeps.refl NoB w).alloc (.cells #[.int .u8 1, .bool ng, .slice A n c, .string { data := #[] }, .int .i64 0, .slice ia 0 ic, .slice ta 0 tc] 26)).alloc (.cells #[.int .u8 1, .bool ng', .slice A' n' c', .string { data := #[] }, .int .i64 0, .slice ia' 0 ic', .slice ta' 0 tc'] 26)).alloc (.cells #[.int .u8 0, .bool false, .slice none 0 0, .string { data := #[] }, .int .i64 0, .slice none 0 0, .slice none 0 0] 26)).alloc (.cells #[.int .u8 0, .bool false, .slice none 0 0, .string { data := #[] }, .int .i64 0, .slice none 0 0, .slice none 0 0] 26))
  have HR1 := hide True.intro
  go_wp2_with first | (clear HR1; go_at_call 11; refine ((HI.out.keep HK0.out).right _ _ _ _).mono ?_; rintro e w1 ⟨rfl, hk1⟩; have HK1 := hide (HK0.out.trans' hk1 (fun _ _ => id) (fun _ _ => id)); have HX1 := hide (HX0.out.keep hk1 id); have HY1 := hide (HY0.out.keep hk1 id); have HZ1 := hide (HZ0.out.keep hk1 id); have HW1 := hide (HW0.out.keep hk1 id); clear hk1 HX0 HY0 HZ0 HW0 HK0; obtain ⟨y0, y1, y2, y3, y4, y5, y6⟩ := Blk.c7 (show Blk w1 (w.heap.size + 1) _ #[.int .u8 1, .bool ng', .slice A' n' c', .string { data := #[] }, .int .i64 0, .slice ia' 0 ic', .slice ta' 0 tc'] from HY1.out)) | (go_at_call 11; refine ((HI'.out.keep HK1.out).right _ _ _ _).mono ?_; rintro e w2 ⟨rfl, hk2⟩; have HK2 := hide (HK1.out.trans' hk2 (fun _ _ => id) (fun _ _ => id)); have HX2 := hide (HX1.out.keep hk2 id); have HY2 := hide (HY1.out.keep hk2 id); have HZ2 := hide (HZ1.out.keep hk2 id); have HW2 := hide (HW1.out.keep hk2 id); clear hk2 HX1 HY1 HZ1 HW1 HK1 y0 y1 y2 y3 y4 y5 y6; have x2 : w2.cell? ⟨w.heap.size, 2, none⟩ = some (.slice A n c) := HX2.out.cell 2; have y2 : w2.cell? ⟨w.heap.size + 1, 2, none⟩ = some (.slice A' n' c') := HY2.out.cell 2) | (go_at_call 71; refine (amounts_any _ _ _ _ _ _ _ _ _ _ _ ((HI.out.keep HK2.out).limbs) ((HI'.out.keep HK2.out).limbs)).mono ?_; rintro e w3 ⟨r, rfl, hr1, hr2, hr3, hr4, hk3⟩; have hr0 : decide (r < 0) = false := decide_eq_false (fun e => absurd (hr3.1 e) (Nat.not_lt.2 HLE.out)); have HK3 := hide (HK2.out.trans' hk3 (fun _ _ => id) (fun _ _ => id)); have HX3 := hide (HX2.out.keep hk3 id); have HY3 := hide (HY2.out.keep hk3 id); have HZ3 := hide (HZ2.out.keep hk3 id); have HW3 := hide (HW2.out.keep hk3 id); clear hr1 hr2 hr3 hr4 hk3 HX2 HY2 HZ2 HW2 HK2 x2 y2; have x2 : w3.cell? ⟨w.heap.size, 2, none⟩ = some (.slice A n c) := HX3.out.cell 2; have y2 : w3.cell? ⟨w.heap.size + 1, 2, none⟩ = some (.slice A' n' c') := HY3.out.cell 2) | fail
  obtain ⟨b, o, rfl, hb, hc⟩ := (HI'.out.limbs.keep HK3.out).at (by have := H1.out; omega)
  obtain ⟨Y, hY⟩ : ∃ Y, (dig y.natAbs).getD 0 0 = Y := ⟨_, rfl⟩
  have q := hc 0 (by have := H1.out; omega)
  rw [hY] at q
  have hyl : dig y.natAbs = [Y] := by
    match hd : dig y.natAbs, hln' with
    | [u], _ => rw [hd] at hY; simp at hY; rw [hY]
    | [], hl => have := H1.out; simp at hl; omega
    | _ :: _ :: _, hl => have := H1.out; simp at hl; omega
  have hyn : Y = y.natAbs := by rw [← nat_dig y.natAbs, hyl]; simp [nat]
  have hy2 : Y < B32 := by have := dig_low y.natAbs Y (by rw [hyl]; simp); exact this
  have hy0 : 0 < Y := by
    have := dig_pos_len (n := y.natAbs)
    rw [hyl] at this
    rw [hyn]; exact this.1 (by simp)
  have hn0 : (0 : Int) < (n' : Int) := by have := H1.out; omega
  have hn0' : 0 < n' := by have := H1.out; omega
  refine order_begin (fun W => Keeps NoB w3.drew W) (fun _ => true) (by kernel_rfl) 12 rfl ?_
  have HX := hide (HX3.out.drew); have HY := hide (HY3.out.drew); have HZ := hide (HZ3.out.drew); have HW := hide (HW3.out.drew); have HK := hide (HK3.out.drew)
  have q1 : w3.drew.cell? ⟨b, o, none⟩ = some (.int .u32 (Y : Int)) := q
  have HYN := hide hyn
  clear HX3 HY3 HZ3 HW3 HK3 x2 y2 q hc hb hyl hY hyn
  generalize w3.drew = W0 at *
  have HS : Keeps NoB W0 W0 := Keeps.refl _ _
  have HSH := hide (short_any A n c Y (dig x.natAbs) W0 _ (HI.out.limbs.keep HK.out) hn hy0 hy2)
  rw [nat_dig] at HSH
  refine order_pure (i := 0) rfl (by kernel_rfl) (fun _ _ _ h => h) (.inl ⟨rfl, fun _ => by go_simp; rfl⟩) ?_
  try simp only [Act.put, List.setIfInBounds_toArray, List.set_cons_succ, List.set_cons_zero]
  refine order_pure (i := 2) rfl (by kernel_rfl) (fun _ _ _ h => h) (.inl ⟨rfl, fun _ => by go_simp; rfl⟩) ?_
  try simp only [Act.put, List.setIfInBounds_toArray, List.set_cons_succ, List.set_cons_zero]
  refine order_held (i := 1) rfl (by kernel_rfl) (fun _ _ _ h => h) (.inl ⟨rfl, fun W hW => by
    have q0 : W.cell? ⟨w.heap.size, 2, none⟩ = some (.slice A n c) := hW.cell id (HX.out.cell 2)
    go_simp; rfl⟩) HS ?_
  try simp only [Act.put, List.setIfInBounds_toArray, List.set_cons_succ, List.set_cons_zero]
  refine order_held (i := 3) rfl (by kernel_rfl) (fun _ _ _ h => h) (.inl ⟨rfl, fun W hW => by
    have q0 : W.cell? ⟨w.heap.size + 1, 2, none⟩ = some (.slice (some ⟨b, o, none⟩) n' c') := hW.cell id (HY.out.cell 2)
    go_simp; rfl⟩) HS ?_
  try simp only [Act.put, List.setIfInBounds_toArray, List.set_cons_succ, List.set_cons_zero]
  refine order_pure (i := 4) rfl (by kernel_rfl) (fun _ _ _ h => h) (.inl ⟨rfl, fun _ => by go_simp; rfl⟩) ?_
  try simp only [Act.put, List.setIfInBounds_toArray, List.set_cons_succ, List.set_cons_zero]
  refine order_held (i := 5) rfl (by kernel_rfl) (fun _ _ _ h => h) (.inl ⟨rfl, fun W hW => by
    have q0 : W.cell? ⟨b, o, none⟩ = some (.int .u32 (Y : Int)) := hW.cell id q1
    go_simp; rfl⟩) HS ?_
  try simp only [Act.put, List.setIfInBounds_toArray, List.set_cons_succ, List.set_cons_zero]
  refine order_one (i := 6) rfl (by kernel_rfl) (fun K hK => ?_)
  go_simp
  refine HSH.out.mono ?_
  rintro e w5 ⟨O, r, qs, rfl, hO, hrow, hql, hlow, hr, hv, hk5⟩
  refine hK _ _ (fun _ hS => hS.trans' hk5 (fun _ _ => id) (fun _ _ => id)) ?_
  clear hK
  try simp only [Act.put, List.setIfInBounds_toArray, List.set_cons_succ, List.set_cons_zero]
  refine order_pure (i := 7) rfl (by kernel_rfl) (fun _ _ _ h => h) (.inl ⟨rfl, fun _ => by go_simp; rfl⟩) ?_
  try simp only [Act.put, List.setIfInBounds_toArray, List.set_cons_succ, List.set_cons_zero]
  refine order_pure (i := 8) rfl (by kernel_rfl) (fun _ _ _ h => h) (.inl ⟨rfl, fun _ => by go_simp; rfl⟩) ?_
  try simp only [Act.put, List.setIfInBounds_toArray, List.set_cons_succ, List.set_cons_zero]
  refine order_pure (i := 9) rfl (by kernel_rfl) (fun _ _ _ h => h) (.inl ⟨rfl, fun _ => by go_simp; rfl⟩) ?_
  try simp only [Act.put, List.setIfInBounds_toArray, List.set_cons_succ, List.set_cons_zero]
  refine order_pure (i := 10) rfl (by kernel_rfl) (fun _ _ _ h => h) (.inl ⟨rfl, fun _ => by go_simp; rfl⟩) ?_
  try simp only [Act.put, List.setIfInBounds_toArray, List.set_cons_succ, List.set_cons_zero]
  refine order_pure (i := 11) rfl (by kernel_rfl) (fun _ _ _ h => h) (.inl ⟨rfl, fun _ => by go_simp; rfl⟩) ?_
  try simp only [Act.put, List.setIfInBounds_toArray, List.set_cons_succ, List.set_cons_zero]
  refine order_done (by kernel_rfl) ?_
  obtain ⟨hd1, hd2⟩ := div_mod_of hv hr
  rw [HYN.out] at hd1 hd2
  have HXs := HI.out.sign; have HYs := HI'.out.sign
  have hlt5 := (HW.out.keep hk5 id).lt
  have HXL5 := (hrow.limbs (n := n) hql (Nat.le_trans hn (by decide)) hlow)
  have hO3 : w.heap.size + 1 + 1 + 1 < O := Nat.lt_of_lt_of_le HW.out.lt hO
  have hr2 : r < B32 := Nat.lt_trans hr hy2
  have HQ := hide (show sgn (ng != ng') (nat qs) = x.tdiv y from hd1 ▸ div_sgn HXs HYs)
  have HR := hide (show sgn ng (nat [r]) = x.tmod y from by rw [show nat [r] = r from by simp [nat], hd2]; exact mod_sgn HXs)
  have HQB := hide (show nat qs < Big from hd1 ▸ Nat.lt_of_le_of_lt (Nat.div_le_self _ _) HI.out.room)
  have HRB := hide (show nat [r] < Big from by rw [show nat [r] = r from by simp [nat], hd2]; exact Nat.lt_of_le_of_lt (Nat.mod_le _ _) HI.out.room)
  have hk7 := (Keeps.refl NoB w5).alloc (.cells #[.int .u32 (r : Int)] 44)
  have HXL := hide (HXL5.keep hk7)
  have HYL := hide (limb_one (Blk.new w5 44 #[.int .u32 (r : Int)]) rfl hr2)
  have HBY := hide (show ∀ k, k = w5.heap.size → ¬ k = w.heap.size + 1 + 1 from by omega)
  have HX7 := hide ((HX.out.keep hk5 id).keep hk7 id); have HY7 := hide ((HY.out.keep hk5 id).keep hk7 id); have HZ7 := hide ((HZ.out.keep hk5 id).keep hk7 id); have HW7 := hide ((HW.out.keep hk5 id).keep hk7 id)
  have HK7 := hide ((HK.out.trans' hk5 (fun _ _ h => h) (fun _ _ h => h)).trans' hk7 (fun _ _ h => h) (fun _ _ h => h))
  clear hv hr hd1 hd2 HXs HYs hlt5 HXL5 hO3 hr2 hk7 hk5 hO hrow hql hlow HX HY HZ HW HK HS q1 HSH
  obtain ⟨w7, hw7⟩ : ∃ w7, w5.alloc (.cells #[.int .u32 (r : Int)] 44) = w7 := ⟨_, rfl⟩
  rw [hw7] at HXL HYL HX7 HY7 HZ7 HW7 HK7
  have x1 : w7.cell? ⟨w.heap.size, 1, none⟩ = some (.bool ng) := HX7.out.cell 1
  have y1 : w7.cell? ⟨w.heap.size + 1, 1, none⟩ = some (.bool ng') := HY7.out.cell 1
  have HQ' := hide (show sgn (!(ng == ng')) (nat qs) = x.tdiv y from HQ.out)
  have HM1 := hide (made_yes _ _ _ (!(ng == ng')) qs w7 _ HXL.out HQB.out)
  rw [HQ'.out] at HM1
  go_wp2_with (go_at_call 31; refine HM1.out.mono ?_; rintro e w8 ⟨ngq, Aq, nq, cq, rfl, hi8, hk8⟩; have HI8 := hide hi8; have HK8 := hide (HK7.out.trans' hk8 (fun _ _ h => h) (fun _ _ h => h)); have HX8 := hide (HX7.out.keep hk8 id); have HZ8 := hide (HZ7.out.keep hk8 id); have HW8 := hide (HW7.out.keep hk8 id); have HYL8 := hide (HYL.out.keep hk8); have hgw := HW7.out.lt; have HGW := hide hgw; clear hi8 hk8 hgw x1 y1 HX7 HY7 HZ7 HW7 HK7 HYL HM1; have x1 : w8.cell? ⟨w.heap.size, 1, none⟩ = some (.bool ng) := HX8.out.cell 1; obtain ⟨z0, z1, z2, z3, z4, z5, z6⟩ := Blk.c7 (show Blk w8 (w.heap.size + 1 + 1) _ #[.int .u8 0, .bool false, .slice none 0 0, .string { data := #[] }, .int .i64 0, .slice none 0 0, .slice none 0 0] from HZ8.out); obtain ⟨f0, f1, f2, f3, f4, f5, f6⟩ := Blk.f7 (w := w8) (g := w.heap.size + 1 + 1) HZ8.out)
  have HZ9 := hide (HZ8.out.put7 (.int .u8 1) (.bool ngq) (.slice Aq nq cq) (.string { data := #[] }) (.int .i64 0) (.slice none 0 0) (.slice none 0 0))
  have hs9 := Keeps.set7' (w := w8) (g := w.heap.size + 1 + 1) (.int .u8 1) (.bool ngq) (.slice Aq nq cq) (.string { data := #[] }) (.int .i64 0) (.slice none 0 0) (.slice none 0 0)
  have HK9 := hide (HK8.out.set7 (g := w.heap.size + 1 + 1) (by omega) (.int .u8 1) (.bool ngq) (.slice Aq nq cq) (.string { data := #[] }) (.int .i64 0) (.slice none 0 0) (.slice none 0 0))
  have HX9 := hide (HX8.out.keep hs9 (by omega))
  have HW9 := hide (HW8.out.keep hs9 (by omega))
  have HI9 := hide (HI8.out.far hs9 (fun k hk e => absurd (e ▸ hk) (Nat.not_le.2 (Nat.lt_trans (Nat.lt_succ_self _) HGW.out))))
  have HYL9 := hide (HYL8.out.far hs9 HBY.out)
  clear x1 hs9 HZ8 HK8 HX8 HW8 HI8 HYL8 z0 z1 z2 z3 z4 z5 z6 f0 f1 f2 f3 f4 f5 f6
  generalize (((((((w8.setCell ⟨w.heap.size + 1 + 1, 0, none⟩ (.int .u8 1)).setCell ⟨w.heap.size + 1 + 1, 1, none⟩ (.bool ngq)).setCell ⟨w.heap.size + 1 + 1, 2, none⟩ (.slice Aq nq cq)).setCell ⟨w.heap.size + 1 + 1, 3, none⟩ (.string { data := #[] })).setCell ⟨w.heap.size + 1 + 1, 4, none⟩ (.int .i64 0)).setCell ⟨w.heap.size + 1 + 1, 5, none⟩ (.slice none 0 0)).setCell ⟨w.heap.size + 1 + 1, 6, none⟩ (.slice none 0 0)) = w9 at *
  have x1 : w9.cell? ⟨w.heap.size, 1, none⟩ = some (.bool ng) := HX9.out.cell 1
  have HM2 := hide (made_yes _ _ _ ng [r] w9 _ HYL9.out HRB.out)
  rw [HR.out] at HM2
  go_wp2_with (go_at_call 31; refine HM2.out.mono ?_; rintro e w10 ⟨ngr, Ar, nr, cr, rfl, hi10, hk10⟩; have HI10 := hide hi10; have HK10 := hide (HK9.out.trans' hk10 (fun _ _ h => h) (fun _ _ h => h)); have HZ10 := hide (HZ9.out.keep hk10 id); have HW10 := hide (HW9.out.keep hk10 id); have HQ10 := hide (HI9.out.keep hk10); have hgw := HW9.out.lt; have HGW9 := hide hgw; clear hi10 hk10 hgw x1 HX9 HZ9 HW9 HK9 HYL9 HM2 HI9; obtain ⟨z0, z1, z2, z3, z4, z5, z6⟩ := Blk.c7 (show Blk w10 (w.heap.size + 1 + 1 + 1) _ #[.int .u8 0, .bool false, .slice none 0 0, .string { data := #[] }, .int .i64 0, .slice none 0 0, .slice none 0 0] from HW10.out); obtain ⟨f0, f1, f2, f3, f4, f5, f6⟩ := Blk.f7 (w := w10) (g := w.heap.size + 1 + 1 + 1) HW10.out)
  have HW11 := hide (HW10.out.put7 (.int .u8 1) (.bool ngr) (.slice Ar nr cr) (.string { data := #[] }) (.int .i64 0) (.slice none 0 0) (.slice none 0 0))
  have hs11 := Keeps.set7' (w := w10) (g := w.heap.size + 1 + 1 + 1) (.int .u8 1) (.bool ngr) (.slice Ar nr cr) (.string { data := #[] }) (.int .i64 0) (.slice none 0 0) (.slice none 0 0)
  have HK11 := hide (HK10.out.set7 (g := w.heap.size + 1 + 1 + 1) (by omega) (.int .u8 1) (.bool ngr) (.slice Ar nr cr) (.string { data := #[] }) (.int .i64 0) (.slice none 0 0) (.slice none 0 0))
  have HZ11 := hide (HZ10.out.keep hs11 (by omega))
  have HQ11 := hide (HQ10.out.far hs11 (fun k hk e => absurd (e ▸ hk) (Nat.not_le.2 HGW.out)))
  have HR11 := hide (HI10.out.far hs11 (fun k hk e => absurd (e ▸ hk) (Nat.not_le.2 HGW9.out)))
  clear hs11 HW10 HK10 HZ10 HQ10 HI10 z0 z1 z2 z3 z4 z5 z6 f0 f1 f2 f3 f4 f5 f6
  generalize (((((((w10.setCell ⟨w.heap.size + 1 + 1 + 1, 0, none⟩ (.int .u8 1)).setCell ⟨w.heap.size + 1 + 1 + 1, 1, none⟩ (.bool ngr)).setCell ⟨w.heap.size + 1 + 1 + 1, 2, none⟩ (.slice Ar nr cr)).setCell ⟨w.heap.size + 1 + 1 + 1, 3, none⟩ (.string { data := #[] })).setCell ⟨w.heap.size + 1 + 1 + 1, 4, none⟩ (.int .i64 0)).setCell ⟨w.heap.size + 1 + 1 + 1, 5, none⟩ (.slice none 0 0)).setCell ⟨w.heap.size + 1 + 1 + 1, 6, none⟩ (.slice none 0 0)) = w11 at *
  have HB7 := hide (show w.heap.size ≤ w7.heap.size ∧ w.heap.size ≤ w9.heap.size from by have h1 := HGW.out; have h2 := HGW9.out; omega)
  have HQ12 := hide (HQ11.out.more (B' := fun k => w.heap.size ≤ k ∧ ¬ k = w.heap.size + 1 + 1 ∧ ¬ k = w.heap.size + 1 + 1 + 1) (fun k _ hk => by have h1 := HGW.out; have h2 : w7.heap.size ≤ k := hk; omega))
  have HR12 := hide (HR11.out.more (B' := fun k => w.heap.size ≤ k ∧ ¬ k = w.heap.size + 1 + 1 ∧ ¬ k = w.heap.size + 1 + 1 + 1) (fun k _ hk => by have h1 := HGW9.out; have h2 : w9.heap.size ≤ k := hk; omega))
  have HG0 := hide (show w.heap.size ≤ w.heap.size + 1 + 1 ∧ w.heap.size ≤ w.heap.size + 1 + 1 + 1 ∧ ¬ w.heap.size + 1 + 1 = w.heap.size + 1 + 1 + 1 from by omega)
  clear HB7 HQ11 HR11 HGW HGW9
  generalize w.heap.size + 1 + 1 + 1 = G3 at *
  generalize w.heap.size + 1 + 1 = G2 at *
  refine order_begin (fun W => Blk W G2 26 #[.int .u8 1, .bool ngq, .slice Aq nq cq, .string { data := #[] }, .int .i64 0, .slice none 0 0, .slice none 0 0] ∧ Blk W G3 26 #[.int .u8 1, .bool ngr, .slice Ar nr cr, .string { data := #[] }, .int .i64 0, .slice none 0 0, .slice none 0 0]) (fun _ => true) (by kernel_rfl) 5 rfl ?_
  have HKd := hide HK11.out.drew; have HQd := hide (HQ12.out.keep (Keeps.refl NoB w11).drew); have HRd := hide (HR12.out.keep (Keeps.refl NoB w11).drew)
  have HS : Blk w11.drew G2 26 #[.int .u8 1, .bool ngq, .slice Aq nq cq, .string { data := #[] }, .int .i64 0, .slice none 0 0, .slice none 0 0] ∧ Blk w11.drew G3 26 #[.int .u8 1, .bool ngr, .slice Ar nr cr, .string { data := #[] }, .int .i64 0, .slice none 0 0, .slice none 0 0] := ⟨HZ11.out.drew, HW11.out.drew⟩
  clear HK11 HQ12 HR12 HZ11 HW11
  generalize w11.drew = W0 at *
  refine order_held (i := 0) rfl (by kernel_rfl) (fun _ _ _ h => h) (.inl ⟨rfl, fun W hW => by
    have q0 : W.cell? ⟨G2, 0, none⟩ = some (.int .u8 1) := hW.1.cell 0
    have q1 : W.cell? ⟨G2, 1, none⟩ = some (.bool ngq) := hW.1.cell 1
    have q2 : W.cell? ⟨G2, 2, none⟩ = some (.slice Aq nq cq) := hW.1.cell 2
    have q3 : W.cell? ⟨G2, 3, none⟩ = some (.string { data := #[] }) := hW.1.cell 3
    have q4 : W.cell? ⟨G2, 4, none⟩ = some (.int .i64 0) := hW.1.cell 4
    have q5 : W.cell? ⟨G2, 5, none⟩ = some (.slice none 0 0) := hW.1.cell 5
    have q6 : W.cell? ⟨G2, 6, none⟩ = some (.slice none 0 0) := hW.1.cell 6
    go_simp; rfl⟩) HS ?_
  try simp only [Act.put, List.setIfInBounds_toArray, List.set_cons_succ, List.set_cons_zero]
  refine order_held (i := 1) rfl (by kernel_rfl) (fun _ _ _ h => h) (.inl ⟨rfl, fun W hW => by
    have q0 : W.cell? ⟨G3, 0, none⟩ = some (.int .u8 1) := hW.2.cell 0
    have q1 : W.cell? ⟨G3, 1, none⟩ = some (.bool ngr) := hW.2.cell 1
    have q2 : W.cell? ⟨G3, 2, none⟩ = some (.slice Ar nr cr) := hW.2.cell 2
    have q3 : W.cell? ⟨G3, 3, none⟩ = some (.string { data := #[] }) := hW.2.cell 3
    have q4 : W.cell? ⟨G3, 4, none⟩ = some (.int .i64 0) := hW.2.cell 4
    have q5 : W.cell? ⟨G3, 5, none⟩ = some (.slice none 0 0) := hW.2.cell 5
    have q6 : W.cell? ⟨G3, 6, none⟩ = some (.slice none 0 0) := hW.2.cell 6
    go_simp; rfl⟩) HS ?_
  try simp only [Act.put, List.setIfInBounds_toArray, List.set_cons_succ, List.set_cons_zero]
  have HSQ := hide HS.1
  obtain ⟨z0, z1, z2, z3, z4, z5, z6⟩ := Blk.c7 (show Blk W0 (G2) _ #[.int .u8 1, .bool ngq, .slice Aq nq cq, .string { data := #[] }, .int .i64 0, .slice none 0 0, .slice none 0 0] from HSQ.out)
  obtain ⟨f0, f1, f2, f3, f4, f5, f6⟩ := Blk.f7 (w := W0) (g := G2) HSQ.out
  refine order_one (i := 2) rfl (by kernel_rfl) (fun K hK => ?_)
  go_simp
  have hs := Keeps.set7' (w := W0) (g := G2) (.int .u8 1) (.bool ngq) (.slice Aq nq cq) (.string { data := #[] }) (.int .i64 0) (.slice none 0 0) (.slice none 0 0)
  refine hK _ _ (fun _ hS => ⟨hS.1.put7 (.int .u8 1) (.bool ngq) (.slice Aq nq cq) (.string { data := #[] }) (.int .i64 0) (.slice none 0 0) (.slice none 0 0), hS.2.keep hs (fun e => HG0.out.2.2 e.symm)⟩) ?_
  clear hK
  try simp only [Act.put, List.setIfInBounds_toArray, List.set_cons_succ, List.set_cons_zero]
  have HQe := hide (HQd.out.far hs (fun k hk e => hk.2.1 e)); have HRe := hide (HRd.out.far hs (fun k hk e => hk.2.1 e)); have HKe := hide (HKd.out.set7 (g := G2) HG0.out.1 (.int .u8 1) (.bool ngq) (.slice Aq nq cq) (.string { data := #[] }) (.int .i64 0) (.slice none 0 0) (.slice none 0 0))
  have HSe := hide (And.intro (HS.1.put7 (.int .u8 1) (.bool ngq) (.slice Aq nq cq) (.string { data := #[] }) (.int .i64 0) (.slice none 0 0) (.slice none 0 0)) (HS.2.keep hs (fun e => HG0.out.2.2 e.symm)))
  clear hs HQd HRd HKd HS HSQ z0 z1 z2 z3 z4 z5 z6 f0 f1 f2 f3 f4 f5 f6
  generalize (((((((W0.setCell ⟨G2, 0, none⟩ (.int .u8 1)).setCell ⟨G2, 1, none⟩ (.bool ngq)).setCell ⟨G2, 2, none⟩ (.slice Aq nq cq)).setCell ⟨G2, 3, none⟩ (.string { data := #[] })).setCell ⟨G2, 4, none⟩ (.int .i64 0)).setCell ⟨G2, 5, none⟩ (.slice none 0 0)).setCell ⟨G2, 6, none⟩ (.slice none 0 0)) = W2 at *
  have HSR := hide HSe.out.2
  obtain ⟨z0, z1, z2, z3, z4, z5, z6⟩ := Blk.c7 (show Blk W2 (G3) _ #[.int .u8 1, .bool ngr, .slice Ar nr cr, .string { data := #[] }, .int .i64 0, .slice none 0 0, .slice none 0 0] from HSR.out)
  obtain ⟨f0, f1, f2, f3, f4, f5, f6⟩ := Blk.f7 (w := W2) (g := G3) HSR.out
  refine order_one (i := 3) rfl (by kernel_rfl) (fun K hK => ?_)
  go_simp
  have hs := Keeps.set7' (w := W2) (g := G3) (.int .u8 1) (.bool ngr) (.slice Ar nr cr) (.string { data := #[] }) (.int .i64 0) (.slice none 0 0) (.slice none 0 0)
  refine hK _ _ (fun _ hS => ⟨hS.1.keep hs HG0.out.2.2, hS.2.put7 (.int .u8 1) (.bool ngr) (.slice Ar nr cr) (.string { data := #[] }) (.int .i64 0) (.slice none 0 0) (.slice none 0 0)⟩) ?_
  clear hK
  try simp only [Act.put, List.setIfInBounds_toArray, List.set_cons_succ, List.set_cons_zero]
  have HQf := hide ((HQe.out.far hs (fun k hk e => hk.2.2 e)).more (B' := fun k => w.heap.size ≤ k) (fun k _ hk => hk.1)); have HRf := hide ((HRe.out.far hs (fun k hk e => hk.2.2 e)).more (B' := fun k => w.heap.size ≤ k) (fun k _ hk => hk.1)); have HKf := hide (HKe.out.set7 (g := G3) HG0.out.2.1 (.int .u8 1) (.bool ngr) (.slice Ar nr cr) (.string { data := #[] }) (.int .i64 0) (.slice none 0 0) (.slice none 0 0))
  have HSf := hide (And.intro (HSe.out.1.keep hs HG0.out.2.2) (HSe.out.2.put7 (.int .u8 1) (.bool ngr) (.slice Ar nr cr) (.string { data := #[] }) (.int .i64 0) (.slice none 0 0) (.slice none 0 0)))
  clear hs HQe HRe HKe HSe HSR z0 z1 z2 z3 z4 z5 z6 f0 f1 f2 f3 f4 f5 f6
  generalize (((((((W2.setCell ⟨G3, 0, none⟩ (.int .u8 1)).setCell ⟨G3, 1, none⟩ (.bool ngr)).setCell ⟨G3, 2, none⟩ (.slice Ar nr cr)).setCell ⟨G3, 3, none⟩ (.string { data := #[] })).setCell ⟨G3, 4, none⟩ (.int .i64 0)).setCell ⟨G3, 5, none⟩ (.slice none 0 0)).setCell ⟨G3, 6, none⟩ (.slice none 0 0)) = W3 at *
  refine order_pure (i := 4) rfl (by kernel_rfl) (fun _ _ _ h => h) (.inl ⟨rfl, fun _ => by go_simp; rfl⟩) ?_
  try simp only [Act.put, List.setIfInBounds_toArray, List.set_cons_succ, List.set_cons_zero]
  refine order_done (by kernel_rfl) ?_
  go_wp2
  have HA := hide HSf.out.1; have HB := hide HSf.out.2
  obtain ⟨c0, c1, c2, c3, c4, c5, c6⟩ := Blk.c7 (show Blk W3 (G2) _ #[.int .u8 1, .bool ngq, .slice Aq nq cq, .string { data := #[] }, .int .i64 0, .slice none 0 0, .slice none 0 0] from HA.out)
  obtain ⟨d0, d1, d2, d3, d4, d5, d6⟩ := Blk.c7 (show Blk W3 (G3) _ #[.int .u8 1, .bool ngr, .slice Ar nr cr, .string { data := #[] }, .int .i64 0, .slice none 0 0, .slice none 0 0] from HB.out)
  refine bodyPost_ret (v := .tuple #[.agg #[.int .u8 1, .bool ngq, .slice Aq nq cq, .string { data := #[] }, .int .i64 0, .slice none 0 0, .slice none 0 0], .agg #[.int .u8 1, .bool ngr, .slice Ar nr cr, .string { data := #[] }, .int .i64 0, .slice none 0 0, .slice none 0 0], .bool true]) (by simp [results, Tryz.results78, go_sem, c0, c1, c2, c3, c4, c5, c6, d0, d1, d2, d3, d4, d5, d6]) rfl ?_
  exact ⟨ngq, Aq, nq, cq, ngr, Ar, nr, cr, rfl, HQf.out, HRf.out, HKf.out⟩
end Go.Proofs.YthbbalkhmofndaaGreatDoor
namespace Go.Proofs.YthbbalkhmofndaaGreatDoor
set_option maxRecDepth 100000
open Go.RowKit


theorem neg_sgn {ng : Bool} {y : Int} (h : ng = decide (y < 0)) : sgn (!ng) y.natAbs = -y := by
  subst h
  unfold sgn
  rcases Int.lt_or_le y 0 with e | e
  · rw [decide_eq_true e, if_neg (by decide)]; omega
  · rw [decide_eq_false (by omega), if_pos (by decide)]; omega
set_option maxHeartbeats 4000000 in
set_option maxRecDepth 100000 in
theorem sub_any (ng ng' : Bool) (A A' ia ta ia' ta' : Option Addr) (n c n' c' ic tc ic' tc' : Nat) (x y : Int) (w : World) (B B' : Nat → Prop) (h : IA w B ng A n c x) (h' : IA w B' ng' A' n' c' y) :
    Calls Tryz.prog 76 #[.agg #[.int .u8 1, .bool ng, .slice A n c, .string { data := #[] }, .int .i64 0, .slice ia 0 ic, .slice ta 0 tc], .agg #[.int .u8 1, .bool ng', .slice A' n' c', .string { data := #[] }, .int .i64 0, .slice ia' 0 ic', .slice ta' 0 tc']] w (AnyP w (x - y)) := by
  have HI := hide h; have HI' := hide h'
  have HSG := hide (neg_sgn h'.sign)
  have HRM := hide (show nat (dig y.natAbs) < Big from by rw [nat_dig]; exact h'.room)
  rw [Int.sub_eq_add_neg]
  clear h h'
  go_enter Tryz.func76, Tryz.ntmps76
  have HX0 := hide (((Blk.new w 26 #[.int .u8 1, .bool ng, .slice A n c, .string { data := #[] }, .int .i64 0, .slice ia 0 ic, .slice ta 0 tc]).alloc (.cells #[.int .u8 1, .bool ng', .slice A' n' c', .string { data := #[] }, .int .i64 0, .slice ia' 0 ic', .slice ta' 0 tc'] 26)).alloc (.cells #[.int .u8 0, .bool false, .slice none 0 0, .string { data := #[] }, .int .i64 0, .slice none 0 0, .slice none 0 0] 26))
  have HY0 := hide ((Blk.new2' w (.cells #[.int .u8 1, .bool ng, .slice A n c, .string { data := #[] }, .int .i64 0, .slice ia 0 ic, .slice ta 0 tc] 26) 26 #[.int .u8 1, .bool ng', .slice A' n' c', .string { data := #[] }, .int .i64 0, .slice ia' 0 ic', .slice ta' 0 tc']).alloc (.cells #[.int .u8 0, .bool false, .slice none 0 0, .string { data := #[] }, .int .i64 0, .slice none 0 0, .slice none 0 0] 26))
  have HZ0 := hide (Blk.new3' w (.cells #[.int .u8 1, .bool ng, .slice A n c, .string { data := #[] }, .int .i64 0, .slice ia 0 ic, .slice ta 0 tc] 26) (.cells #[.int .u8 1, .bool ng', .slice A' n' c', .string { data := #[] }, .int .i64 0, .slice ia' 0 ic', .slice ta' 0 tc'] 26) 26 #[.int .u8 0, .bool false, .slice none 0 0, .string { data := #[] }, .int .i64 0, .slice none 0 0, .slice none 0 0])
  have HK0 := hide ((((Keeps.refl NoB w).alloc (.cells #[.int .u8 1, .bool ng, .slice A n c, .string { data := #[] }, .int .i64 0, .slice ia 0 ic, .slice ta 0 tc] 26)).alloc (.cells #[.int .u8 1, .bool ng', .slice A' n' c', .string { data := #[] }, .int .i64 0, .slice ia' 0 ic', .slice ta' 0 tc'] 26)).alloc (.cells #[.int .u8 0, .bool false, .slice none 0 0, .string { data := #[] }, .int .i64 0, .slice none 0 0, .slice none 0 0] 26))
  go_wp2_with first | (go_at_call 11; refine ((HI'.out.keep HK0.out).right _ _ _ _).mono ?_; rintro e w1 ⟨rfl, hk1⟩; have HK1 := hide (HK0.out.trans' hk1 (fun _ _ => id) (fun _ _ => id)); have HX1 := hide (HX0.out.keep hk1 id); have HY1 := hide (HY0.out.keep hk1 id); have HZ1 := hide (HZ0.out.keep hk1 id); clear hk1 HX0 HY0 HZ0 HK0; have y1 : w1.cell? ⟨w.heap.size + 1, 1, none⟩ = some (.bool ng') := HY1.out.cell 1; have y2 : w1.cell? ⟨w.heap.size + 1, 2, none⟩ = some (.slice A' n' c') := HY1.out.cell 2) | (go_at_call 31; refine (made_yes A' n' c' (!ng') (dig y.natAbs) w1 _ (HI'.out.keep HK1.out).limbs HRM.out).mono ?_; rintro e w2 ⟨ngm, Am, nm, cm, rfl, im, hk2⟩; rw [nat_dig, HSG.out] at im; have hka := hk2.alloc (.cells #[.int .u8 1, .bool ngm, .slice Am nm cm, .string { data := #[] }, .int .i64 0, .slice none 0 0, .slice none 0 0] 26); have IM2 := hide (im.keep ((Keeps.refl NoB w2).alloc (.cells #[.int .u8 1, .bool ngm, .slice Am nm cm, .string { data := #[] }, .int .i64 0, .slice none 0 0, .slice none 0 0] 26))); have HK2 := hide (HK1.out.trans' hka (fun _ _ => id) (fun _ _ => id)); have HX2 := hide (HX1.out.keep hka id); have HZ2 := hide (HZ1.out.keep hka id); clear hk2 hka im HX1 HY1 HZ1 HK1 y1 y2; obtain ⟨x0, x1, x2, x3, x4, x5, x6⟩ := Blk.c7 (show Blk (w2.alloc (.cells #[.int .u8 1, .bool ngm, .slice Am nm cm, .string { data := #[] }, .int .i64 0, .slice none 0 0, .slice none 0 0] 26)) (w.heap.size) _ #[.int .u8 1, .bool ng, .slice A n c, .string { data := #[] }, .int .i64 0, .slice ia 0 ic, .slice ta 0 tc] from HX2.out)) | (go_at_call 75; refine (add_any ng ngm A Am ia ta none none n c nm cm ic tc 0 0 x (-y) _ _ _ (HI.out.keep HK2.out) IM2.out).mono ?_; rintro e w5 ⟨kd, ng, A, n, c, ok, rfl, hr, hk⟩; have HB5 := hide (HZ2.out.keep hk id); have HA5 := hide hr; have HK5 := hide (HK2.out.trans' hk (fun _ _ => id) (fun _ _ => id)); clear hr hk x0 x1 x2 x3 x4 x5 x6; have hsz := HZ2.out.lt; obtain ⟨z0, z1, z2, z3, z4, z5, z6⟩ := Blk.c7 (show Blk w5 (w.heap.size + 1 + 1) _ #[.int .u8 0, .bool false, .slice none 0 0, .string { data := #[] }, .int .i64 0, .slice none 0 0, .slice none 0 0] from HB5.out); obtain ⟨f0, f1, f2, f3, f4, f5, f6⟩ := Blk.f7 (w := w5) (g := w.heap.size + 1 + 1) HB5.out) | fail
  have HBf := hide (HB5.out.put7 (.int .u8 kd) (.bool ng) (.slice A n c) (.string { data := #[] }) (.int .i64 0) (.slice none 0 0) (.slice none 0 0))
  have HKf := hide (HK5.out.set7 (g := w.heap.size + 1 + 1) (by omega) (.int .u8 kd) (.bool ng) (.slice A n c) (.string { data := #[] }) (.int .i64 0) (.slice none 0 0) (.slice none 0 0))
  have HAf := hide ((HA5.out.far (Keeps.set7' (g := w.heap.size + 1 + 1) (.int .u8 kd) (.bool ng) (.slice A n c) (.string { data := #[] }) (.int .i64 0) (.slice none 0 0) (.slice none 0 0)) (fun k hk e => by first | omega | (simp at hk; omega))).more (B' := fun k => w.heap.size ≤ k) (fun k _ hk => by first | omega | (simp at hk; omega)))
  clear z0 z1 z2 z3 z4 z5 z6 f0 f1 f2 f3 f4 f5 f6 HB5 HK5 HA5
  generalize (((((((w5.setCell ⟨w.heap.size + 1 + 1, 0, none⟩ (.int .u8 kd)).setCell ⟨w.heap.size + 1 + 1, 1, none⟩ (.bool ng)).setCell ⟨w.heap.size + 1 + 1, 2, none⟩ (.slice A n c)).setCell ⟨w.heap.size + 1 + 1, 3, none⟩ (.string { data := #[] })).setCell ⟨w.heap.size + 1 + 1, 4, none⟩ (.int .i64 0)).setCell ⟨w.heap.size + 1 + 1, 5, none⟩ (.slice none 0 0)).setCell ⟨w.heap.size + 1 + 1, 6, none⟩ (.slice none 0 0)) = wf at *
  have d0 : wf.cell? ⟨w.heap.size + 1 + 1, 0, none⟩ = some (.int .u8 kd) := HBf.out.cell 0
  have d1 : wf.cell? ⟨w.heap.size + 1 + 1, 1, none⟩ = some (.bool ng) := HBf.out.cell 1
  have d2 : wf.cell? ⟨w.heap.size + 1 + 1, 2, none⟩ = some (.slice A n c) := HBf.out.cell 2
  have d3 : wf.cell? ⟨w.heap.size + 1 + 1, 3, none⟩ = some (.string { data := #[] }) := HBf.out.cell 3
  have d4 : wf.cell? ⟨w.heap.size + 1 + 1, 4, none⟩ = some (.int .i64 0) := HBf.out.cell 4
  have d5 : wf.cell? ⟨w.heap.size + 1 + 1, 5, none⟩ = some (.slice none 0 0) := HBf.out.cell 5
  have d6 : wf.cell? ⟨w.heap.size + 1 + 1, 6, none⟩ = some (.slice none 0 0) := HBf.out.cell 6
  refine bodyPost_ret (v := .tuple #[.agg #[.int .u8 kd, .bool ng, .slice A n c, .string { data := #[] }, .int .i64 0, .slice none 0 0, .slice none 0 0], .bool ok]) (by simp [results, Tryz.results76, go_sem, d0, d1, d2, d3, d4, d5, d6]) rfl ?_
  exact ⟨kd, ng, A, n, c, ok, rfl, HAf.out, HKf.out⟩
end Go.Proofs.YthbbalkhmofndaaGreatDoor
namespace Go.Proofs.YthbbalkhmofndaaGreatDoor
set_option maxRecDepth 100000
open Go.RowKit


/-- A term, and whether it is right. -/
def TermA (w : World) (B : Nat → Prop) (r : Bool) (cs : Array Value) : Prop := ∃ (kd : Int) (ng : Bool) (la : Option Addr) (ln lc : Nat) (tx : ByteArray) (nm : Int) (ia : Option Addr) (im ic : Nat) (ta : Option Addr) (tm tc : Nat) (l : List Nat),
  cs = #[.int .u8 kd, .bool ng, .slice la ln lc, .string tx, .int .i64 nm, .slice ia im ic, .slice ta tm tc] ∧ LimbsIn w B la ln lc l ∧ im ≤ 140737488355328 ∧ tm ≤ 140737488355328 ∧ rightB kd ng l tx nm im tm = r
theorem TermA.keep {w w' : World} {B : Nat → Prop} {r : Bool} {cs : Array Value} (h : TermA w B r cs) (hk : Keeps NoB w w') : TermA w' B r cs := by
  obtain ⟨kd, ng, la, ln, lc, tx, nm, ia, im, ic, ta, tm, tc, l, e, hl, h1⟩ := h
  exact ⟨kd, ng, la, ln, lc, tx, nm, ia, im, ic, ta, tm, tc, l, e, hl.keep hk, h1⟩
theorem TermA.right {w : World} {B : Nat → Prop} {r : Bool} {cs : Array Value} (h : TermA w B r cs) : Calls Tryz.prog 11 #[.agg cs] w fun e w' => e = .returned (.bool r) ∧ Keeps NoB w w' := by
  obtain ⟨kd, ng, la, ln, lc, tx, nm, ia, im, ic, ta, tm, tc, l, rfl, hl, hi, ht, hr⟩ := h
  subst hr
  exact right_any kd nm ng la ia ta ln lc im ic tm tc tx l w B hl hi ht
theorem IA.term {w : World} {B : Nat → Prop} {ng : Bool} {A : Option Addr} {n c : Nat} {z : Int} (h : IA w B ng A n c z) (ia ta : Option Addr) (ic tc : Nat) : TermA w B true #[.int .u8 1, .bool ng, .slice A n c, .string { data := #[] }, .int .i64 0, .slice ia 0 ic, .slice ta 0 tc] :=
  ⟨1, ng, A, n, c, ByteArray.empty, 0, ia, 0, ic, ta, 0, tc, _, rfl, h.limbs, by omega, by omega, IA_right h⟩
theorem TermA.int {w : World} {B : Nat → Prop} {cs : Array Value} (h : TermA w B true cs) : ∃ ng A n c z ia ta ic tc, cs = #[.int .u8 1, .bool ng, .slice A n c, .string { data := #[] }, .int .i64 0, .slice ia 0 ic, .slice ta 0 tc] ∧ IA w B ng A n c z := by
  obtain ⟨kd, ng, la, ln, lc, tx, nm, ia, im, ic, ta, tm, tc, l, rfl, hl, hi, ht, hr⟩ := h
  obtain ⟨rfl, rfl, rfl, rfl, rfl, hI, _, _⟩ := right_IA hr hl
  exact ⟨ng, la, ln, lc, _, ia, ta, ic, tc, rfl, hI⟩
theorem zero_bad (w : World) (B : Nat → Prop) : TermA w B false #[.int .u8 0, .bool false, .slice none 0 0, .string { data := #[] }, .int .i64 0, .slice none 0 0, .slice none 0 0] :=
  ⟨0, false, none, 0, 0, ByteArray.empty, 0, none, 0, 0, none, 0, 0, [], rfl, LimbsIn.nil _ _ _ _ (Nat.zero_le _), by omega, by omega, rfl⟩

set_option maxHeartbeats 1000000 in
set_option maxRecDepth 100000 in
theorem times_bad1 {w : World} {B B' : Nat → Prop} {r : Bool} {cs ds : Array Value} (ha : TermA w B false cs) (hb : TermA w B' r ds) : Calls Tryz.prog 77 #[.agg cs, .agg ds] w (NoP w) := by
  have HTA := hide ha
  obtain ⟨kd, ng, la, ln, lc, tx, nm, ia, im, ic, ta, tm, tc, l, rfl, hl, hi, ht, hr⟩ := ha
  clear hl hi ht hr
  have HTB := hide hb
  obtain ⟨kd', ng', la', ln', lc', tx', nm', ia', im', ic', ta', tm', tc', l', rfl, hl, hi, ht, hr⟩ := hb
  clear hl hi ht hr
  go_enter Tryz.func77, Tryz.ntmps77
  have HY0 := hide ((Blk.new2' w (.cells #[.int .u8 kd, .bool ng, .slice la ln lc, .string tx, .int .i64 nm, .slice ia im ic, .slice ta tm tc] 26) 26 #[.int .u8 kd', .bool ng', .slice la' ln' lc', .string tx', .int .i64 nm', .slice ia' im' ic', .slice ta' tm' tc']).alloc (.cells #[.int .u8 0, .bool false, .slice none 0 0, .string { data := #[] }, .int .i64 0, .slice none 0 0, .slice none 0 0] 26))
  have HZ0 := hide (Blk.new3' w (.cells #[.int .u8 kd, .bool ng, .slice la ln lc, .string tx, .int .i64 nm, .slice ia im ic, .slice ta tm tc] 26) (.cells #[.int .u8 kd', .bool ng', .slice la' ln' lc', .string tx', .int .i64 nm', .slice ia' im' ic', .slice ta' tm' tc'] 26) 26 #[.int .u8 0, .bool false, .slice none 0 0, .string { data := #[] }, .int .i64 0, .slice none 0 0, .slice none 0 0])
  have HK0 := hide ((((Keeps.refl NoB w).alloc (.cells #[.int .u8 kd, .bool ng, .slice la ln lc, .string tx, .int .i64 nm, .slice ia im ic, .slice ta tm tc] 26)).alloc (.cells #[.int .u8 kd', .bool ng', .slice la' ln' lc', .string tx', .int .i64 nm', .slice ia' im' ic', .slice ta' tm' tc'] 26)).alloc (.cells #[.int .u8 0, .bool false, .slice none 0 0, .string { data := #[] }, .int .i64 0, .slice none 0 0, .slice none 0 0] 26))
  go_wp2_with first | (go_at_call 11; refine (HTA.out.keep HK0.out).right.mono ?_; rintro e w1 ⟨rfl, hk1⟩; have HK1 := hide (HK0.out.trans' hk1 (fun _ _ => id) (fun _ _ => id)); have HZ1 := hide (HZ0.out.keep hk1 id); clear hk1 HY0 HZ0 HK0; obtain ⟨z0, z1, z2, z3, z4, z5, z6⟩ := Blk.c7 (show Blk w1 (w.heap.size + 1 + 1) _ #[.int .u8 0, .bool false, .slice none 0 0, .string { data := #[] }, .int .i64 0, .slice none 0 0, .slice none 0 0] from HZ1.out); obtain ⟨f0, f1, f2, f3, f4, f5, f6⟩ := Blk.f7 (w := w1) (g := w.heap.size + 1 + 1) HZ1.out) | fail
  have HBf := hide (HZ1.out.put7 (.int .u8 0) (.bool false) (.slice none 0 0) (.string { data := #[] }) (.int .i64 0) (.slice none 0 0) (.slice none 0 0))
  have HKf := hide (HK1.out.set7 (g := w.heap.size + 1 + 1) (by omega) (.int .u8 0) (.bool false) (.slice none 0 0) (.string { data := #[] }) (.int .i64 0) (.slice none 0 0) (.slice none 0 0))
  clear z0 z1 z2 z3 z4 z5 z6 f0 f1 f2 f3 f4 f5 f6 HZ1 HK1
  generalize (((((((w1.setCell ⟨w.heap.size + 1 + 1, 0, none⟩ (.int .u8 0)).setCell ⟨w.heap.size + 1 + 1, 1, none⟩ (.bool false)).setCell ⟨w.heap.size + 1 + 1, 2, none⟩ (.slice none 0 0)).setCell ⟨w.heap.size + 1 + 1, 3, none⟩ (.string { data := #[] })).setCell ⟨w.heap.size + 1 + 1, 4, none⟩ (.int .i64 0)).setCell ⟨w.heap.size + 1 + 1, 5, none⟩ (.slice none 0 0)).setCell ⟨w.heap.size + 1 + 1, 6, none⟩ (.slice none 0 0)) = wf at *
  have d0 : wf.cell? ⟨w.heap.size + 1 + 1, 0, none⟩ = some (.int .u8 0) := HBf.out.cell 0
  have d1 : wf.cell? ⟨w.heap.size + 1 + 1, 1, none⟩ = some (.bool false) := HBf.out.cell 1
  have d2 : wf.cell? ⟨w.heap.size + 1 + 1, 2, none⟩ = some (.slice none 0 0) := HBf.out.cell 2
  have d3 : wf.cell? ⟨w.heap.size + 1 + 1, 3, none⟩ = some (.string { data := #[] }) := HBf.out.cell 3
  have d4 : wf.cell? ⟨w.heap.size + 1 + 1, 4, none⟩ = some (.int .i64 0) := HBf.out.cell 4
  have d5 : wf.cell? ⟨w.heap.size + 1 + 1, 5, none⟩ = some (.slice none 0 0) := HBf.out.cell 5
  have d6 : wf.cell? ⟨w.heap.size + 1 + 1, 6, none⟩ = some (.slice none 0 0) := HBf.out.cell 6
  refine bodyPost_ret (v := .tuple #[.agg #[.int .u8 0, .bool false, .slice none 0 0, .string { data := #[] }, .int .i64 0, .slice none 0 0, .slice none 0 0], .bool false]) (by simp [results, Tryz.results77, go_sem, d0, d1, d2, d3, d4, d5, d6]) rfl ?_
  exact ⟨rfl, HKf.out⟩
set_option maxHeartbeats 1000000 in
set_option maxRecDepth 100000 in
theorem times_bad2 {w : World} {B B' : Nat → Prop} {cs ds : Array Value} (ha : TermA w B true cs) (hb : TermA w B' false ds) : Calls Tryz.prog 77 #[.agg cs, .agg ds] w (NoP w) := by
  have HTA := hide ha
  obtain ⟨kd, ng, la, ln, lc, tx, nm, ia, im, ic, ta, tm, tc, l, rfl, hl, hi, ht, hr⟩ := ha
  clear hl hi ht hr
  have HTB := hide hb
  obtain ⟨kd', ng', la', ln', lc', tx', nm', ia', im', ic', ta', tm', tc', l', rfl, hl, hi, ht, hr⟩ := hb
  clear hl hi ht hr
  have M1 := hide True.intro
  go_enter Tryz.func77, Tryz.ntmps77
  have HY0 := hide ((Blk.new2' w (.cells #[.int .u8 kd, .bool ng, .slice la ln lc, .string tx, .int .i64 nm, .slice ia im ic, .slice ta tm tc] 26) 26 #[.int .u8 kd', .bool ng', .slice la' ln' lc', .string tx', .int .i64 nm', .slice ia' im' ic', .slice ta' tm' tc']).alloc (.cells #[.int .u8 0, .bool false, .slice none 0 0, .string { data := #[] }, .int .i64 0, .slice none 0 0, .slice none 0 0] 26))
  have HZ0 := hide (Blk.new3' w (.cells #[.int .u8 kd, .bool ng, .slice la ln lc, .string tx, .int .i64 nm, .slice ia im ic, .slice ta tm tc] 26) (.cells #[.int .u8 kd', .bool ng', .slice la' ln' lc', .string tx', .int .i64 nm', .slice ia' im' ic', .slice ta' tm' tc'] 26) 26 #[.int .u8 0, .bool false, .slice none 0 0, .string { data := #[] }, .int .i64 0, .slice none 0 0, .slice none 0 0])
  have HK0 := hide ((((Keeps.refl NoB w).alloc (.cells #[.int .u8 kd, .bool ng, .slice la ln lc, .string tx, .int .i64 nm, .slice ia im ic, .slice ta tm tc] 26)).alloc (.cells #[.int .u8 kd', .bool ng', .slice la' ln' lc', .string tx', .int .i64 nm', .slice ia' im' ic', .slice ta' tm' tc'] 26)).alloc (.cells #[.int .u8 0, .bool false, .slice none 0 0, .string { data := #[] }, .int .i64 0, .slice none 0 0, .slice none 0 0] 26))
  go_wp2_with first | (clear M1; go_at_call 11; refine (HTA.out.keep HK0.out).right.mono ?_; rintro e w1 ⟨rfl, hk1⟩; have HK1 := hide (HK0.out.trans' hk1 (fun _ _ => id) (fun _ _ => id)); have HY1 := hide (HY0.out.keep hk1 id); have HZ1 := hide (HZ0.out.keep hk1 id); clear hk1 HY0 HZ0 HK0; obtain ⟨y0, y1, y2, y3, y4, y5, y6⟩ := Blk.c7 (show Blk w1 (w.heap.size + 1) _ #[.int .u8 kd', .bool ng', .slice la' ln' lc', .string tx', .int .i64 nm', .slice ia' im' ic', .slice ta' tm' tc'] from HY1.out)) | (go_at_call 11; refine (HTB.out.keep HK1.out).right.mono ?_; rintro e w2 ⟨rfl, hk2⟩; have HK2 := hide (HK1.out.trans' hk2 (fun _ _ => id) (fun _ _ => id)); have HZ2 := hide (HZ1.out.keep hk2 id); clear hk2 HY1 HZ1 HK1 y0 y1 y2 y3 y4 y5 y6; obtain ⟨z0, z1, z2, z3, z4, z5, z6⟩ := Blk.c7 (show Blk w2 (w.heap.size + 1 + 1) _ #[.int .u8 0, .bool false, .slice none 0 0, .string { data := #[] }, .int .i64 0, .slice none 0 0, .slice none 0 0] from HZ2.out); obtain ⟨f0, f1, f2, f3, f4, f5, f6⟩ := Blk.f7 (w := w2) (g := w.heap.size + 1 + 1) HZ2.out) | fail
  have HBf := hide (HZ2.out.put7 (.int .u8 0) (.bool false) (.slice none 0 0) (.string { data := #[] }) (.int .i64 0) (.slice none 0 0) (.slice none 0 0))
  have HKf := hide (HK2.out.set7 (g := w.heap.size + 1 + 1) (by omega) (.int .u8 0) (.bool false) (.slice none 0 0) (.string { data := #[] }) (.int .i64 0) (.slice none 0 0) (.slice none 0 0))
  clear z0 z1 z2 z3 z4 z5 z6 f0 f1 f2 f3 f4 f5 f6 HZ2 HK2
  generalize (((((((w2.setCell ⟨w.heap.size + 1 + 1, 0, none⟩ (.int .u8 0)).setCell ⟨w.heap.size + 1 + 1, 1, none⟩ (.bool false)).setCell ⟨w.heap.size + 1 + 1, 2, none⟩ (.slice none 0 0)).setCell ⟨w.heap.size + 1 + 1, 3, none⟩ (.string { data := #[] })).setCell ⟨w.heap.size + 1 + 1, 4, none⟩ (.int .i64 0)).setCell ⟨w.heap.size + 1 + 1, 5, none⟩ (.slice none 0 0)).setCell ⟨w.heap.size + 1 + 1, 6, none⟩ (.slice none 0 0)) = wf at *
  have d0 : wf.cell? ⟨w.heap.size + 1 + 1, 0, none⟩ = some (.int .u8 0) := HBf.out.cell 0
  have d1 : wf.cell? ⟨w.heap.size + 1 + 1, 1, none⟩ = some (.bool false) := HBf.out.cell 1
  have d2 : wf.cell? ⟨w.heap.size + 1 + 1, 2, none⟩ = some (.slice none 0 0) := HBf.out.cell 2
  have d3 : wf.cell? ⟨w.heap.size + 1 + 1, 3, none⟩ = some (.string { data := #[] }) := HBf.out.cell 3
  have d4 : wf.cell? ⟨w.heap.size + 1 + 1, 4, none⟩ = some (.int .i64 0) := HBf.out.cell 4
  have d5 : wf.cell? ⟨w.heap.size + 1 + 1, 5, none⟩ = some (.slice none 0 0) := HBf.out.cell 5
  have d6 : wf.cell? ⟨w.heap.size + 1 + 1, 6, none⟩ = some (.slice none 0 0) := HBf.out.cell 6
  refine bodyPost_ret (v := .tuple #[.agg #[.int .u8 0, .bool false, .slice none 0 0, .string { data := #[] }, .int .i64 0, .slice none 0 0, .slice none 0 0], .bool false]) (by simp [results, Tryz.results77, go_sem, d0, d1, d2, d3, d4, d5, d6]) rfl ?_
  exact ⟨rfl, HKf.out⟩
set_option maxHeartbeats 1000000 in
set_option maxRecDepth 100000 in
theorem add_bad1 {w : World} {B B' : Nat → Prop} {r : Bool} {cs ds : Array Value} (ha : TermA w B false cs) (hb : TermA w B' r ds) : Calls Tryz.prog 75 #[.agg cs, .agg ds] w (NoP w) := by
  have HTA := hide ha
  obtain ⟨kd, ng, la, ln, lc, tx, nm, ia, im, ic, ta, tm, tc, l, rfl, hl, hi, ht, hr⟩ := ha
  clear hl hi ht hr
  have HTB := hide hb
  obtain ⟨kd', ng', la', ln', lc', tx', nm', ia', im', ic', ta', tm', tc', l', rfl, hl, hi, ht, hr⟩ := hb
  clear hl hi ht hr
  go_enter Tryz.func75, Tryz.ntmps75
  have HY0 := hide ((Blk.new2' w (.cells #[.int .u8 kd, .bool ng, .slice la ln lc, .string tx, .int .i64 nm, .slice ia im ic, .slice ta tm tc] 26) 26 #[.int .u8 kd', .bool ng', .slice la' ln' lc', .string tx', .int .i64 nm', .slice ia' im' ic', .slice ta' tm' tc']).alloc (.cells #[.int .u8 0, .bool false, .slice none 0 0, .string { data := #[] }, .int .i64 0, .slice none 0 0, .slice none 0 0] 26))
  have HZ0 := hide (Blk.new3' w (.cells #[.int .u8 kd, .bool ng, .slice la ln lc, .string tx, .int .i64 nm, .slice ia im ic, .slice ta tm tc] 26) (.cells #[.int .u8 kd', .bool ng', .slice la' ln' lc', .string tx', .int .i64 nm', .slice ia' im' ic', .slice ta' tm' tc'] 26) 26 #[.int .u8 0, .bool false, .slice none 0 0, .string { data := #[] }, .int .i64 0, .slice none 0 0, .slice none 0 0])
  have HK0 := hide ((((Keeps.refl NoB w).alloc (.cells #[.int .u8 kd, .bool ng, .slice la ln lc, .string tx, .int .i64 nm, .slice ia im ic, .slice ta tm tc] 26)).alloc (.cells #[.int .u8 kd', .bool ng', .slice la' ln' lc', .string tx', .int .i64 nm', .slice ia' im' ic', .slice ta' tm' tc'] 26)).alloc (.cells #[.int .u8 0, .bool false, .slice none 0 0, .string { data := #[] }, .int .i64 0, .slice none 0 0, .slice none 0 0] 26))
  go_wp2_with first | (go_at_call 11; refine (HTA.out.keep HK0.out).right.mono ?_; rintro e w1 ⟨rfl, hk1⟩; have HK1 := hide (HK0.out.trans' hk1 (fun _ _ => id) (fun _ _ => id)); have HZ1 := hide (HZ0.out.keep hk1 id); clear hk1 HY0 HZ0 HK0; obtain ⟨z0, z1, z2, z3, z4, z5, z6⟩ := Blk.c7 (show Blk w1 (w.heap.size + 1 + 1) _ #[.int .u8 0, .bool false, .slice none 0 0, .string { data := #[] }, .int .i64 0, .slice none 0 0, .slice none 0 0] from HZ1.out); obtain ⟨f0, f1, f2, f3, f4, f5, f6⟩ := Blk.f7 (w := w1) (g := w.heap.size + 1 + 1) HZ1.out) | fail
  have HBf := hide (HZ1.out.put7 (.int .u8 0) (.bool false) (.slice none 0 0) (.string { data := #[] }) (.int .i64 0) (.slice none 0 0) (.slice none 0 0))
  have HKf := hide (HK1.out.set7 (g := w.heap.size + 1 + 1) (by omega) (.int .u8 0) (.bool false) (.slice none 0 0) (.string { data := #[] }) (.int .i64 0) (.slice none 0 0) (.slice none 0 0))
  clear z0 z1 z2 z3 z4 z5 z6 f0 f1 f2 f3 f4 f5 f6 HZ1 HK1
  generalize (((((((w1.setCell ⟨w.heap.size + 1 + 1, 0, none⟩ (.int .u8 0)).setCell ⟨w.heap.size + 1 + 1, 1, none⟩ (.bool false)).setCell ⟨w.heap.size + 1 + 1, 2, none⟩ (.slice none 0 0)).setCell ⟨w.heap.size + 1 + 1, 3, none⟩ (.string { data := #[] })).setCell ⟨w.heap.size + 1 + 1, 4, none⟩ (.int .i64 0)).setCell ⟨w.heap.size + 1 + 1, 5, none⟩ (.slice none 0 0)).setCell ⟨w.heap.size + 1 + 1, 6, none⟩ (.slice none 0 0)) = wf at *
  have d0 : wf.cell? ⟨w.heap.size + 1 + 1, 0, none⟩ = some (.int .u8 0) := HBf.out.cell 0
  have d1 : wf.cell? ⟨w.heap.size + 1 + 1, 1, none⟩ = some (.bool false) := HBf.out.cell 1
  have d2 : wf.cell? ⟨w.heap.size + 1 + 1, 2, none⟩ = some (.slice none 0 0) := HBf.out.cell 2
  have d3 : wf.cell? ⟨w.heap.size + 1 + 1, 3, none⟩ = some (.string { data := #[] }) := HBf.out.cell 3
  have d4 : wf.cell? ⟨w.heap.size + 1 + 1, 4, none⟩ = some (.int .i64 0) := HBf.out.cell 4
  have d5 : wf.cell? ⟨w.heap.size + 1 + 1, 5, none⟩ = some (.slice none 0 0) := HBf.out.cell 5
  have d6 : wf.cell? ⟨w.heap.size + 1 + 1, 6, none⟩ = some (.slice none 0 0) := HBf.out.cell 6
  refine bodyPost_ret (v := .tuple #[.agg #[.int .u8 0, .bool false, .slice none 0 0, .string { data := #[] }, .int .i64 0, .slice none 0 0, .slice none 0 0], .bool false]) (by simp [results, Tryz.results75, go_sem, d0, d1, d2, d3, d4, d5, d6]) rfl ?_
  exact ⟨rfl, HKf.out⟩
set_option maxHeartbeats 1000000 in
set_option maxRecDepth 100000 in
theorem add_bad2 {w : World} {B B' : Nat → Prop} {cs ds : Array Value} (ha : TermA w B true cs) (hb : TermA w B' false ds) : Calls Tryz.prog 75 #[.agg cs, .agg ds] w (NoP w) := by
  have HTA := hide ha
  obtain ⟨kd, ng, la, ln, lc, tx, nm, ia, im, ic, ta, tm, tc, l, rfl, hl, hi, ht, hr⟩ := ha
  clear hl hi ht hr
  have HTB := hide hb
  obtain ⟨kd', ng', la', ln', lc', tx', nm', ia', im', ic', ta', tm', tc', l', rfl, hl, hi, ht, hr⟩ := hb
  clear hl hi ht hr
  have M1 := hide True.intro
  go_enter Tryz.func75, Tryz.ntmps75
  have HY0 := hide ((Blk.new2' w (.cells #[.int .u8 kd, .bool ng, .slice la ln lc, .string tx, .int .i64 nm, .slice ia im ic, .slice ta tm tc] 26) 26 #[.int .u8 kd', .bool ng', .slice la' ln' lc', .string tx', .int .i64 nm', .slice ia' im' ic', .slice ta' tm' tc']).alloc (.cells #[.int .u8 0, .bool false, .slice none 0 0, .string { data := #[] }, .int .i64 0, .slice none 0 0, .slice none 0 0] 26))
  have HZ0 := hide (Blk.new3' w (.cells #[.int .u8 kd, .bool ng, .slice la ln lc, .string tx, .int .i64 nm, .slice ia im ic, .slice ta tm tc] 26) (.cells #[.int .u8 kd', .bool ng', .slice la' ln' lc', .string tx', .int .i64 nm', .slice ia' im' ic', .slice ta' tm' tc'] 26) 26 #[.int .u8 0, .bool false, .slice none 0 0, .string { data := #[] }, .int .i64 0, .slice none 0 0, .slice none 0 0])
  have HK0 := hide ((((Keeps.refl NoB w).alloc (.cells #[.int .u8 kd, .bool ng, .slice la ln lc, .string tx, .int .i64 nm, .slice ia im ic, .slice ta tm tc] 26)).alloc (.cells #[.int .u8 kd', .bool ng', .slice la' ln' lc', .string tx', .int .i64 nm', .slice ia' im' ic', .slice ta' tm' tc'] 26)).alloc (.cells #[.int .u8 0, .bool false, .slice none 0 0, .string { data := #[] }, .int .i64 0, .slice none 0 0, .slice none 0 0] 26))
  go_wp2_with first | (clear M1; go_at_call 11; refine (HTA.out.keep HK0.out).right.mono ?_; rintro e w1 ⟨rfl, hk1⟩; have HK1 := hide (HK0.out.trans' hk1 (fun _ _ => id) (fun _ _ => id)); have HY1 := hide (HY0.out.keep hk1 id); have HZ1 := hide (HZ0.out.keep hk1 id); clear hk1 HY0 HZ0 HK0; obtain ⟨y0, y1, y2, y3, y4, y5, y6⟩ := Blk.c7 (show Blk w1 (w.heap.size + 1) _ #[.int .u8 kd', .bool ng', .slice la' ln' lc', .string tx', .int .i64 nm', .slice ia' im' ic', .slice ta' tm' tc'] from HY1.out)) | (go_at_call 11; refine (HTB.out.keep HK1.out).right.mono ?_; rintro e w2 ⟨rfl, hk2⟩; have HK2 := hide (HK1.out.trans' hk2 (fun _ _ => id) (fun _ _ => id)); have HZ2 := hide (HZ1.out.keep hk2 id); clear hk2 HY1 HZ1 HK1 y0 y1 y2 y3 y4 y5 y6; obtain ⟨z0, z1, z2, z3, z4, z5, z6⟩ := Blk.c7 (show Blk w2 (w.heap.size + 1 + 1) _ #[.int .u8 0, .bool false, .slice none 0 0, .string { data := #[] }, .int .i64 0, .slice none 0 0, .slice none 0 0] from HZ2.out); obtain ⟨f0, f1, f2, f3, f4, f5, f6⟩ := Blk.f7 (w := w2) (g := w.heap.size + 1 + 1) HZ2.out) | fail
  have HBf := hide (HZ2.out.put7 (.int .u8 0) (.bool false) (.slice none 0 0) (.string { data := #[] }) (.int .i64 0) (.slice none 0 0) (.slice none 0 0))
  have HKf := hide (HK2.out.set7 (g := w.heap.size + 1 + 1) (by omega) (.int .u8 0) (.bool false) (.slice none 0 0) (.string { data := #[] }) (.int .i64 0) (.slice none 0 0) (.slice none 0 0))
  clear z0 z1 z2 z3 z4 z5 z6 f0 f1 f2 f3 f4 f5 f6 HZ2 HK2
  generalize (((((((w2.setCell ⟨w.heap.size + 1 + 1, 0, none⟩ (.int .u8 0)).setCell ⟨w.heap.size + 1 + 1, 1, none⟩ (.bool false)).setCell ⟨w.heap.size + 1 + 1, 2, none⟩ (.slice none 0 0)).setCell ⟨w.heap.size + 1 + 1, 3, none⟩ (.string { data := #[] })).setCell ⟨w.heap.size + 1 + 1, 4, none⟩ (.int .i64 0)).setCell ⟨w.heap.size + 1 + 1, 5, none⟩ (.slice none 0 0)).setCell ⟨w.heap.size + 1 + 1, 6, none⟩ (.slice none 0 0)) = wf at *
  have d0 : wf.cell? ⟨w.heap.size + 1 + 1, 0, none⟩ = some (.int .u8 0) := HBf.out.cell 0
  have d1 : wf.cell? ⟨w.heap.size + 1 + 1, 1, none⟩ = some (.bool false) := HBf.out.cell 1
  have d2 : wf.cell? ⟨w.heap.size + 1 + 1, 2, none⟩ = some (.slice none 0 0) := HBf.out.cell 2
  have d3 : wf.cell? ⟨w.heap.size + 1 + 1, 3, none⟩ = some (.string { data := #[] }) := HBf.out.cell 3
  have d4 : wf.cell? ⟨w.heap.size + 1 + 1, 4, none⟩ = some (.int .i64 0) := HBf.out.cell 4
  have d5 : wf.cell? ⟨w.heap.size + 1 + 1, 5, none⟩ = some (.slice none 0 0) := HBf.out.cell 5
  have d6 : wf.cell? ⟨w.heap.size + 1 + 1, 6, none⟩ = some (.slice none 0 0) := HBf.out.cell 6
  refine bodyPost_ret (v := .tuple #[.agg #[.int .u8 0, .bool false, .slice none 0 0, .string { data := #[] }, .int .i64 0, .slice none 0 0, .slice none 0 0], .bool false]) (by simp [results, Tryz.results75, go_sem, d0, d1, d2, d3, d4, d5, d6]) rfl ?_
  exact ⟨rfl, HKf.out⟩
end Go.Proofs.YthbbalkhmofndaaGreatDoor
