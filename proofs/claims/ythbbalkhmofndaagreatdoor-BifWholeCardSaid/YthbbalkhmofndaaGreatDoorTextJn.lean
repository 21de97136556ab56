/- A row of digits that the call itself makes. Times: the product of two integers. short: an amount parted by a limb. slices.Reverse of bytes; bytes made a string. Text: an integer's digits. -/
import Derived.Test.YthbbalkhmofndaaGreatDoorCompareJn
import Derived.OwnWalk
import Derived.Laws.BitsAllLaws
import Derived.Laws.IdiomStrings
namespace Go.Proofs.YthbbalkhmofndaaGreatDoor
set_option maxRecDepth 100000
open Go.RowKit

/-- Block g is just these digits. -/
def RowAt (w : World) (g : Nat) (l : List Nat) : Prop := Blk w g 44 (u32s l).toArray
section
variable {w w' : World} {g : Nat} {l : List Nat} {fp : Nat → Prop}
theorem RowAt.lt (h : RowAt w g l) : g < w.heap.size := Blk.lt h
theorem RowAt.cell (h : RowAt w g l) {i : Nat} (hi : i < l.length) : w.cell? ⟨g, i, none⟩ = some (.int .u32 ((l.getD i 0 : Nat) : Int)) := by
  rw [Blk.cell h i, List.getElem?_toArray, u32s_get hi]
theorem RowAt.free (h : RowAt w g l) (i : Nat) : w.frozen? ⟨g, i, none⟩ = false := Blk.free h i
theorem RowAt.keep (h : RowAt w g l) (hk : Keeps fp w w') (hg : ¬ fp g) : RowAt w' g l := Blk.keep h hk hg
theorem RowAt.put (h : RowAt w g l) (i : Nat) {v : Int} {n : Nat} (hv : v = (n : Int)) : RowAt (w.setCell ⟨g, i, none⟩ (.int .u32 v)) g (l.set i n) := by
  subst hv
  have := Blk.put h i (.int .u32 (n : Int))
  unfold RowAt
  rw [u32s_set]
  simpa using this
theorem RowAt.drew (h : RowAt w g l) : RowAt w.drew g l := h
theorem RowAt.limbs (h : RowAt w g l) {n : Nat} (hn : l.length = n) (hm : n ≤ maxLen) (hl : Low l) : LimbsIn w (fun k => k = g) (some ⟨g, 0, none⟩) n n l := by
  have hs : Slab w 44 1 (some ⟨g, 0, none⟩) n n (u32s l) := Slab.mk' (by rw [u32s_len]; omega) (Nat.le_refl _) hm h (by simp [u32s_len, hn]) (fun j hj => by rw [List.getElem?_toArray, Nat.zero_add])
  exact (LimbsIn.of_slab hs hl).more (fun k _ ⟨o, e⟩ => by injection e with e; injection e with e; exact e.symm)
end
theorem row_made {w : World} {base g n : Nat} (h : w.ownsRow base 44 1 (.slice (some ⟨g, 0, none⟩) n n) n (madeCells #[Value.int .u32 0] n).toList) : RowAt w g (List.replicate n 0) := by
  rw [toList_madeCells_one] at h
  unfold RowAt
  rw [u32s_zeros]
  rcases h.2 with ⟨hv, _⟩ | ⟨g', cap, cur, hv, hb, hg, hnc, hcm, hcs, htake⟩
  · cases hv
  · injection hv with hv _ hc
    injection hv with hv
    injection hv with hv _ _
    subst hv hc
    rw [Nat.mul_one] at hcs htake
    have : cur.toList = List.replicate n (Value.int .u32 0) := by
      rw [← htake, List.take_of_length_le (by simp [hcs])]
    unfold Blk
    rw [hg, ← this]
/-- Yes or no. -/
def AnyK (w' : World) (B : Nat → Prop) (z : Int) (kd : Int) (ng : Bool) (A : Option Addr) (n c : Nat) (ok : Bool) : Prop := (ok = true ∧ kd = 1 ∧ IA w' B ng A n c z) ∨ (ok = false ∧ kd = 0 ∧ ng = false ∧ A = none ∧ n = 0 ∧ c = 0 ∧ Big ≤ z.natAbs)
def AnyP (w : World) (z : Int) (e : Ending) (w' : World) : Prop := ∃ kd ng A n c ok, e = .returned (.tuple #[.agg #[.int .u8 kd, .bool ng, .slice A n c, .string { data := #[] }, .int .i64 0, .slice none 0 0, .slice none 0 0], .bool ok]) ∧ AnyK w' (fun k => w.heap.size ≤ k) z kd ng A n c ok ∧ Keeps NoB w w'
theorem AnyK.far {w w' : World} {B fp : Nat → Prop} {z kd : Int} {ng ok : Bool} {A : Option Addr} {n c : Nat} (h : AnyK w B z kd ng A n c ok) (hk : Keeps fp w w') (hf : ∀ k, B k → ¬ fp k) : AnyK w' B z kd ng A n c ok := by
  rcases h with ⟨h1, h2, h3⟩ | h
  · exact .inl ⟨h1, h2, h3.far hk hf⟩
  · exact .inr h
theorem AnyK.more {w : World} {B B' : Nat → Prop} {z kd : Int} {ng ok : Bool} {A : Option Addr} {n c : Nat} (h : AnyK w B z kd ng A n c ok) (hB : ∀ k, k < w.heap.size → B k → B' k) : AnyK w B' z kd ng A n c ok := by
  rcases h with ⟨h1, h2, h3⟩ | h
  · exact .inl ⟨h1, h2, h3.more hB⟩
  · exact .inr h
theorem made_any (A : Option Addr) (n c : Nat) (neg : Bool) (l : List Nat) (z : Int) (w : World) (B : Nat → Prop) (h : LimbsIn w B A n c l) (hz : sgn neg (nat l) = z) :
    Calls Tryz.prog 31 #[.slice A n c, .bool neg] w (AnyP w z) := by
  subst hz
  rcases Nat.lt_or_ge (nat l) Big with hb | hb
  · refine (made_yes A n c neg l w B h hb).mono ?_
    rintro e w' ⟨ng, A, n, c, rfl, hi, hk⟩
    exact ⟨1, ng, A, n, c, true, rfl, .inl ⟨rfl, rfl, hi⟩, hk⟩
  · refine (made_no A n c neg l w B h hb).mono ?_
    rintro e w' ⟨rfl, hk⟩
    exact ⟨0, false, none, 0, 0, false, rfl, .inr ⟨rfl, rfl, rfl, rfl, rfl, rfl, by rw [sgn_abs]; exact hb⟩, hk⟩
theorem IA.toNat {w : World} {B : Nat → Prop} {ng : Bool} {A : Option Addr} {n c : Nat} {z : Int} (h : IA w B ng A n c z) : nat (dig z.natAbs) = z.natAbs := nat_dig _
end Go.Proofs.YthbbalkhmofndaaGreatDoor
namespace Go.Proofs.YthbbalkhmofndaaGreatDoor
set_option maxRecDepth 100000
open Go.RowKit



/-- The outer loop's state: i digits of the first one are done. -/
structure MulAt (w1 : World) (O : Nat) (la lb : List Nat) (i : Nat) (wr : World) (os : List Nat) : Prop where
  keep : Keeps (fun k => k = O) w1 wr
  row : RowAt wr O os
  len : os.length = la.length + lb.length
  low : Low os
  zero : ∀ j, i + lb.length ≤ j → os.getD j 0 = 0
  val : nat os = pre la i * nat lb
/-- The inner one's: of digit x, k of the second one's. -/
structure MulIn (w1 : World) (O : Nat) (la lb : List Nat) (i k x c : Nat) (wr : World) (os : List Nat) : Prop where
  keep : Keeps (fun k => k = O) w1 wr
  row : RowAt wr O os
  len : os.length = la.length + lb.length
  low : Low os
  zero : ∀ j, i + lb.length ≤ j → os.getD j 0 = 0
  carry : c < B32
  val : nat os + B32 ^ (i + k) * c = pre la i * nat lb + x * (B32 ^ i * pre lb k)
theorem MulAt.start {w1 : World} {O : Nat} {la lb : List Nat} (h : RowAt w1 O (List.replicate (la.length + lb.length) 0)) : MulAt w1 O la lb 0 w1 (List.replicate (la.length + lb.length) 0) :=
  ⟨Keeps.refl _ _, h, by simp, Low.zeros _, fun j _ => getD_zeros _ _, by rw [nat_zeros]; simp [pre]⟩
theorem MulAt.into {w1 wr : World} {O i : Nat} {la lb os : List Nat} (h : MulAt w1 O la lb i wr os) (x : Nat) : MulIn w1 O la lb i 0 x 0 wr os :=
  ⟨h.keep, h.row, h.len, h.low, h.zero, by decide, by rw [h.val]; simp [pre]⟩
theorem MulIn.step {w1 wr w' : World} {O i k x c j y old s : Nat} {la lb os : List Nat} (h : MulIn w1 O la lb i k x c wr os) (hj : j = i + k) (hk : k < lb.length) (hi : i < la.length) (hy : lb.getD k 0 = y) (ho : os.getD j 0 = old) (hs : c + x * y + old = s) (hs2 : s < B32 * B32)
    (hr : RowAt w' O (os.set j (s % B32))) (hkp : Keeps (fun k => k = O) w1 w') : MulIn w1 O la lb i (k + 1) x (s / B32) w' (os.set j (s % B32)) := by
  subst hj hy ho
  refine ⟨hkp, hr, by rw [List.length_set]; exact h.len, h.low.set _ _ (Nat.mod_lt _ (by decide)), fun j hj => ?_, Nat.div_lt_of_lt_mul hs2, ?_⟩
  · rw [getD_set_ne _ _ (by omega)]; exact h.zero j hj
  · exact mul_step h.val (nat_set os _ (by rw [h.len]; omega)) (by rw [hs]; exact (Nat.mod_add_div s B32).symm)
theorem MulIn.done {w1 wr w' : World} {O i x c j : Nat} {la lb os : List Nat} (h : MulIn w1 O la lb i lb.length x c wr os) (hj : j = i + lb.length) (hi : i < la.length) (hx : la.getD i 0 = x)
    (hr : RowAt w' O (os.set j c)) (hkp : Keeps (fun k => k = O) w1 w') : MulAt w1 O la lb (i + 1) w' (os.set j c) := by
  subst hj hx
  refine ⟨hkp, hr, by rw [List.length_set]; exact h.len, h.low.set _ _ h.carry, fun j hj => ?_, ?_⟩
  · rw [getD_set_ne _ _ (by omega)]; exact h.zero j (by omega)
  · have h1 := nat_put0 os c (i := i + lb.length) (by rw [h.len]; omega) (h.zero _ (Nat.le_refl _))
    have h2 := h.val
    rw [pre_len] at h2
    exact mul_end h2 h1
theorem mul_small {x y : Nat} (hx : x < B32) (hy : y < B32) : x * y ≤ 18446744065119617025 := by
  have h1 : x ≤ 4294967295 := by unfold B32 at hx; omega
  have h2 : y ≤ 4294967295 := by unfold B32 at hy; omega
  exact Nat.mul_le_mul h1 h2

theorem mul_abs (x y : Int) : (x * y).natAbs = x.natAbs * y.natAbs := Int.natAbs_mul x y
theorem mul_sgn {ng ng' : Bool} {x y : Int} (h1 : ng = decide (x < 0)) (h2 : ng' = decide (y < 0)) : sgn (ng != ng') (x.natAbs * y.natAbs) = x * y := by
  subst h1 h2
  unfold sgn
  rcases Int.lt_or_le x 0 with e | e <;> rcases Int.lt_or_le y 0 with e' | e'
  · have h : (decide (x < 0) != decide (y < 0)) = false := by simp [e, e']
    rw [h, if_neg (by decide)]
    obtain ⟨a, rfl⟩ : ∃ a : Nat, x = -(a : Int) := ⟨x.natAbs, by omega⟩
    obtain ⟨b, rfl⟩ : ∃ b : Nat, y = -(b : Int) := ⟨y.natAbs, by omega⟩
    rw [Int.neg_mul_neg, Int.natAbs_neg, Int.natAbs_neg]; rfl
  · have h : (decide (x < 0) != decide (y < 0)) = true := by simp [e]; exact e'
    rw [h, if_pos rfl]
    obtain ⟨a, rfl⟩ : ∃ a : Nat, x = -(a : Int) := ⟨x.natAbs, by omega⟩
    obtain ⟨b, rfl⟩ : ∃ b : Nat, y = (b : Int) := ⟨y.natAbs, by omega⟩
    rw [Int.neg_mul, Int.natAbs_neg]; rfl
  · have h : (decide (x < 0) != decide (y < 0)) = true := by simp [e']; exact e
    rw [h, if_pos rfl]
    obtain ⟨a, rfl⟩ : ∃ a : Nat, x = (a : Int) := ⟨x.natAbs, by omega⟩
    obtain ⟨b, rfl⟩ : ∃ b : Nat, y = -(b : Int) := ⟨y.natAbs, by omega⟩
    rw [Int.mul_neg, Int.natAbs_neg]; rfl
  · have h : (decide (x < 0) != decide (y < 0)) = false := by
      rw [decide_eq_false (by omega), decide_eq_false (by omega)]; rfl
    rw [h, if_neg (by decide)]
    obtain ⟨a, rfl⟩ : ∃ a : Nat, x = (a : Int) := ⟨x.natAbs, by omega⟩
    obtain ⟨b, rfl⟩ : ∃ b : Nat, y = (b : Int) := ⟨y.natAbs, by omega⟩
    rfl

theorem Blk.new3' (w : World) (o o' : Obj) (t : TypeId) (cs : Array Value) : Blk (((w.alloc o).alloc o').alloc (.cells cs t)) (w.heap.size + 1 + 1) t cs := by
  have := Blk.new ((w.alloc o).alloc o') t cs
  simpa using this
theorem times_room {n n' : Nat} (h : n ≤ 32) (h' : n' ≤ 32) : n + n' ≤ 64 := by omega
set_option maxRecDepth 100000 in
theorem times_any (ng ng' : Bool) (A A' ia ta ia' ta' : Option Addr) (n c n' c' ic tc ic' tc' : Nat) (x y : Int) (w : World) (B B' : Nat → Prop) (h : IA w B ng A n c x) (h' : IA w B' ng' A' n' c' y) :
    Calls Tryz.prog 77 #[.agg #[.int .u8 1, .bool ng, .slice A n c, .string { data := #[] }, .int .i64 0, .slice ia 0 ic, .slice ta 0 tc], .agg #[.int .u8 1, .bool ng', .slice A' n' c', .string { data := #[] }, .int .i64 0, .slice ia' 0 ic', .slice ta' 0 tc']] w (AnyP w (x * y)) := by
  have HI := hide h; have HI' := hide h'
  have hn := h.len; have hn' := h'.len
  have hln := h.limbs.len; have hln' := h'.limbs.len
  have HS := hide (mul_sgn h.sign h'.sign)
  have HN := hide (And.intro (nat_dig x.natAbs) (nat_dig y.natAbs))
  clear h h'
  obtain ⟨L, hL⟩ : ∃ L, n + n' = L := ⟨_, rfl⟩
  have hL' : (n : Int) + (n' : Int) = (L : Int) := by omega
  have hL0 : L ≤ 64 := by omega
  obtain ⟨i0, hi0, hz0, hz1, hz2⟩ := info_parts Tryz.info44
  go_enter Tryz.func77, Tryz.ntmps77
  have HX0 := hide (((Blk.new w 26 #[.int .u8 1, .bool ng, .slice A n c, .string { data := #[] }, .int .i64 0, .slice ia 0 ic, .slice ta 0 tc]).alloc (.cells #[.int .u8 1, .bool ng', .slice A' n' c', .string { data := #[] }, .int .i64 0, .slice ia' 0 ic', .slice ta' 0 tc'] 26)).alloc (.cells #[.int .u8 0, .bool false, .slice none 0 0, .string { data := #[] }, .int .i64 0, .slice none 0 0, .slice none 0 0] 26))
  have HY0 := hide ((Blk.new2' w (.cells #[.int .u8 1, .bool ng, .slice A n c, .string { data := #[] }, .int .i64 0, .slice ia 0 ic, .slice ta 0 tc] 26) 26 #[.int .u8 1, .bool ng', .slice A' n' c', .string { data := #[] }, .int .i64 0, .slice ia' 0 ic', .slice ta' 0 tc']).alloc (.cells #[.int .u8 0, .bool false, .slice none 0 0, .string { data := #[] }, .int .i64 0, .slice none 0 0, .slice none 0 0] 26))
  have HZ0 := hide (Blk.new3' w (.cells #[.int .u8 1, .bool ng, .slice A n c, .string { data := #[] }, .int .i64 0, .slice ia 0 ic, .slice ta 0 tc] 26) (.cells #[.int .u8 1, .bool ng', .slice A' n' c', .string { data := #[] }, .int .i64 0, .slice ia' 0 ic', .slice ta' 0 tc'] 26) 26 #[.int .u8 0, .bool false, .slice none 0 0, .string { data := #[] }, .int .i64 0, .slice none 0 0, .slice none 0 0])
  have HK0 := hide ((((Keeps.refl NoB w).alloc (.cells #[.int .u8 1, .bool ng, .slice A n c, .string { data := #[] }, .int .i64 0, .slice ia 0 ic, .slice ta 0 tc] 26)).alloc (.cells #[.int .u8 1, .bool ng', .slice A' n' c', .string { data := #[] }, .int .i64 0, .slice ia' 0 ic', .slice ta' 0 tc'] 26)).alloc (.cells #[.int .u8 0, .bool false, .slice none 0 0, .string { data := #[] }, .int .i64 0, .slice none 0 0, .slice none 0 0] 26))
  have HR1 := hide True.intro
  go_wp2_with first | (clear HR1; go_at_call 11; refine ((HI.out.keep HK0.out).right _ _ _ _).mono ?_; rintro e w1 ⟨rfl, hk1⟩; have HK1 := hide (HK0.out.trans' hk1 (fun _ _ => id) (fun _ _ => id)); have HX1 := hide (HX0.out.keep hk1 id); have HY1 := hide (HY0.out.keep hk1 id); have HZ1 := hide (HZ0.out.keep hk1 id); clear hk1 HX0 HY0 HZ0 HK0; obtain ⟨y0, y1, y2, y3, y4, y5, y6⟩ := Blk.c7 (show Blk w1 (w.heap.size + 1) _ #[.int .u8 1, .bool ng', .slice A' n' c', .string { data := #[] }, .int .i64 0, .slice ia' 0 ic', .slice ta' 0 tc'] from HY1.out)) | (go_at_call 11; refine ((HI'.out.keep HK1.out).right _ _ _ _).mono ?_; rintro e w2 ⟨rfl, hk2⟩; have HK2 := hide (HK1.out.trans' hk2 (fun _ _ => id) (fun _ _ => id)); have HX2 := hide (HX1.out.keep hk2 id); have HY2 := hide (HY1.out.keep hk2 id); have HZ2 := hide (HZ1.out.keep hk2 id); clear hk2 HX1 HY1 HZ1 HK1 y0 y1 y2 y3 y4 y5 y6; have x2 : w2.cell? ⟨w.heap.size, 2, none⟩ = some (.slice A n c) := HX2.out.cell 2; have y2 : w2.cell? ⟨w.heap.size + 1, 2, none⟩ = some (.slice A' n' c') := HY2.out.cell 2) | (at_make; refine wpList_make_full _ rfl _ _ 23 rfl w2.heap.size 44 i0 _ 1 Tryz.underlying23 hi0 hz0 hz1 .i64 .i64 _ _ L rfl rfl rfl rfl (by rw [hz2]; omega) (by unfold maxLen; omega) (Nat.le_refl _) ?_) | fail
  intro w3 hown hgrow
  obtain ⟨O, hO⟩ : ∃ O, w2.heap.size = O := ⟨_, rfl⟩
  rw [hO] at hown ⊢
  have hro := row_made hown
  have hk3 : Keeps NoB w2 w3 := (Keeps.refl NoB w2).grown hgrow (fun k h => by cases h)
  have hgo : w.heap.size + 1 + 1 < O := by rw [← hO]; exact HZ2.out.lt
  have HX3 := hide (HX2.out.keep hk3 id); have HY3 := hide (HY2.out.keep hk3 id); have HZ3 := hide (HZ2.out.keep hk3 id)
  have HK3 := hide (HK2.out.trans' hk3 (fun _ _ => id) (fun _ _ => id))
  clear hk3 hown hgrow hO x2 y2 HX2 HY2 HZ2 HK2 i0 hi0 hz0 hz1 hz2
  have HA := hide ((HI.out.limbs.more (B' := fun k => k < w.heap.size) (fun k h _ => h)).keep HK3.out); have HB := hide ((HI'.out.limbs.more (B' := fun k => k < w.heap.size) (fun k h _ => h)).keep HK3.out)
  have hfo : ∀ k, k < w.heap.size → ¬ k = O := by omega
  have hfg : ¬ w.heap.size + 1 = O := by omega
  have hf0 : ¬ w.heap.size = O := by omega
  have hf2 : ¬ w.heap.size + 1 + 1 = O := by omega
  have HF := hide hfo; have HFG := hide hfg; have HFG0 := hide hf0; have HFG2 := hide hf2; clear hfo hfg hf0 hf2
  have hBO : ∀ k, k = O → w.heap.size ≤ k := by omega
  generalize dig x.natAbs = la at *
  generalize dig y.natAbs = lb at *
  rw [← hL, ← hln, ← hln'] at hro
  have HM0 := hide (MulAt.start hro)
  clear hro
  have y2 : w3.cell? ⟨w.heap.size + 1, 2, none⟩ = some (.slice A' n' c') := HY3.out.cell 2
  have x2 : w3.cell? ⟨w.heap.size, 2, none⟩ = some (.slice A n c) := HX3.out.cell 2
  go_wp2
  go_loopw [32] (fun iv wr => ∃ (i : Nat) (os : List Nat), iv = .int .i64 (i : Int) ∧ i ≤ n ∧ Hid (MulAt w3 O la lb i wr os)) (fun iv _ => n - (intOf iv).toNat)
  case atStart => exact ⟨0, _, rfl, Nat.zero_le _, HM0⟩
  case round =>
    obtain ⟨i, os, rfl, hi, HM⟩ := hrel
    by_cases hlt : i < n
    · obtain ⟨b, o, rfl, hb, hc⟩ := (HA.out.far HM.out.keep HF.out).at (by omega)
      have q := hc i hlt
      have hx : la.getD i 0 < B32 := HA.out.low.get i
      have HX := hide (show la.getD i 0 = la.getD i 0 from rfl)
      obtain ⟨X, hX⟩ : ∃ X, la.getD i 0 = X := ⟨_, rfl⟩
      have HXX := hide hX
      rw [hX] at q hx
      unfold B32 at hx
      have hi0 : (0 : Int) ≤ (i : Int) := by omega
      have hi1 : (i : Int) < (n : Int) := by omega
      have y2 : wr.cell? ⟨w.heap.size + 1, 2, none⟩ = some (.slice A' n' c') := HM.out.keep.cell HFG.out (HY3.out.cell 2)
      clear hc hX HX
      go_wp2
      go_loopw [9, 40] (fun cv kv wi => ∃ (k cy : Nat) (os2 : List Nat), cv = .int .u64 (cy : Int) ∧ kv = .int .i64 (k : Int) ∧ k ≤ n' ∧ Hid (MulIn w3 O la lb i k X cy wi os2)) (fun _ kv _ => n' - (intOf kv).toNat)
      case atStart => exact ⟨0, 0, os, rfl, rfl, Nat.zero_le _, hide (HM.out.into X)⟩
      case round =>
        obtain ⟨k, cy, os2, rfl, rfl, hk, HN2⟩ := hrel
        have hlen2 := HN2.out.len
        by_cases hlt2 : k < n'
        · obtain ⟨b', o', rfl, hb', hc'⟩ := (HB.out.far HN2.out.keep HF.out).at (by omega)
          have q' := hc' k hlt2
          obtain ⟨Y, hY⟩ : ∃ Y, lb.getD k 0 = Y := ⟨_, rfl⟩
          obtain ⟨j, hj⟩ : ∃ j, j = i + k := ⟨_, rfl⟩
          obtain ⟨old, ho⟩ : ∃ old, os2.getD j 0 = old := ⟨_, rfl⟩
          have hold : old < B32 := ho ▸ HN2.out.low.get j
          have hy : Y < B32 := hY ▸ HB.out.low.get k
          have hcy := HN2.out.carry
          obtain ⟨p, hp⟩ : ∃ p, X * Y = p := ⟨_, rfl⟩
          have hp2 : p ≤ 18446744065119617025 := hp ▸ mul_small (by unfold B32; exact hx) hy
          have hp1 : (X : Int) * (Y : Int) = (p : Int) := by rw [← hp]; rfl
          have e0 : w.heap.size = w.heap.size := rfl
          have r1 : wr.cell? ⟨O, j, none⟩ = some (.int .u32 (old : Int)) := ho ▸ HN2.out.row.cell (by omega)
          have r2 : wr.frozen? ⟨O, j, none⟩ = false := HN2.out.row.free j
          rw [hY] at q'
          have HST := hide (fun w' s hs hs2 hr hkp => HN2.out.step (w' := w') (s := s) hj (by omega) (by omega) hY ho hs hs2 hr hkp)
          rw [hp] at HST
          have hj1 : (i : Int) + (k : Int) = (j : Int) := by omega
          have hj2 : (j : Int) < (L : Int) := by omega
          have hj3 : (0 : Int) ≤ (j : Int) := by omega
          have hj4 : j < L := by omega
          have hk0 : (0 : Int) ≤ (k : Int) := by omega
          have hk1 : (k : Int) < (n' : Int) := by omega
          unfold B32 at hold hy hcy
          clear hc' hY hj ho hp e0
          have HR := hide HN2.out.row; have HKP := hide HN2.out.keep
          clear HN2
          go_wp2
          go_roundw
          case rel => exact ⟨k + 1, (cy + p + old) / B32, os2.set j ((cy + p + old) % B32), congrArg (Value.int .u64) (by unfold B32; omega), rfl, by omega, hide (HST.out _ _ rfl (by unfold B32; omega) (HR.out.put j (by unfold B32; omega)) (HKP.out.setCell (p := ⟨O, j, none⟩) (.inl rfl) _))⟩
          case measure => simp [intOf]; omega
        · obtain rfl : k = n' := by omega
          have hcy := HN2.out.carry
          unfold B32 at hcy
          obtain ⟨j, hj⟩ : ∃ j, j = i + k := ⟨_, rfl⟩
          have hj1 : (i : Int) + (k : Int) = (j : Int) := by omega
          have hj2 : (j : Int) < (L : Int) := by omega
          have hj3 : (0 : Int) ≤ (j : Int) := by omega
          have hj4 : j < L := by omega
          have r2 : wr.frozen? ⟨O, j, none⟩ = false := HN2.out.row.free j
          have r1 : wr.cell? ⟨O, j, none⟩ = some (.int .u32 ((os2.getD j 0 : Nat) : Int)) := HN2.out.row.cell (by omega)
          have y2 : wr.cell? ⟨w.heap.size + 1, 2, none⟩ = some (.slice A' k c') := HN2.out.keep.cell HFG.out (HY3.out.cell 2)
          have HST := hide (fun w' hr hkp => MulIn.done (w' := w') (hln' ▸ HN2.out) (hln' ▸ hj) (by omega) HXX.out hr hkp)
          have HR := hide HN2.out.row; have HKP := hide HN2.out.keep
          generalize os2.getD j 0 = oldv at *
          clear HN2 hj
          go_wp2
          go_roundw
          case rel => exact ⟨i + 1, os2.set j cy, rfl, by omega, hide (HST.out _ (HR.out.put j rfl) (HKP.out.setCell (p := ⟨O, j, none⟩) (.inl rfl) _))⟩
          case measure => simp [intOf]; omega
    · obtain rfl : i = n := by omega
      have HRL := hide (HM.out.row.limbs (n := L) (by rw [HM.out.len]; omega) (by unfold maxLen; omega) HM.out.low)
      have HV := hide (show nat os = x.natAbs * y.natAbs from by rw [HM.out.val, ← hln, pre_len, HN.out.1, HN.out.2])
      have HK4 := hide (HM.out.keep)
      have x1 : wr.cell? ⟨w.heap.size, 1, none⟩ = some (.bool ng) := HM.out.keep.cell HFG0.out (HX3.out.cell 1)
      have y1 : wr.cell? ⟨w.heap.size + 1, 1, none⟩ = some (.bool ng') := HM.out.keep.cell HFG.out (HY3.out.cell 1)
      have HZ4 := hide (HZ3.out.keep HM.out.keep HFG2.out)
      have HK5 := hide (HK3.out.trans' HM.out.keep (fun _ _ h => h) (fun k h1 h2 => by omega) : Keeps NoB w wr)
      clear HM HX3 HY3 HZ3 HK3 HK4
      go_wp2_with (go_at_call 31; refine (made_any _ _ _ (ng != ng') os (x * y) wr _ HRL.out (by rw [HV.out]; exact HS.out)).mono ?_; rintro e w5 ⟨kd, ng, A, n, c, ok, rfl, hr, hk⟩; have HB5 := hide (HZ4.out.keep hk id); have HA5 := hide hr; have HK6 := hide (HK5.out.trans' hk (fun _ _ => id) (fun _ _ => id)); clear hr hk; obtain ⟨z0, z1, z2, z3, z4, z5, z6⟩ := Blk.c7 (show Blk w5 (w.heap.size + 1 + 1) _ #[.int .u8 0, .bool false, .slice none 0 0, .string { data := #[] }, .int .i64 0, .slice none 0 0, .slice none 0 0] from HB5.out); obtain ⟨f0, f1, f2, f3, f4, f5, f6⟩ := Blk.f7 (w := w5) (g := w.heap.size + 1 + 1) HB5.out)
      have hsz := HZ4.out.lt
      have HBf := hide (HB5.out.put7 (.int .u8 kd) (.bool ng) (.slice A n c) (.string { data := #[] }) (.int .i64 0) (.slice none 0 0) (.slice none 0 0))
      have HKf := hide (HK6.out.set7 (g := w.heap.size + 1 + 1) (by omega) (.int .u8 kd) (.bool ng) (.slice A n c) (.string { data := #[] }) (.int .i64 0) (.slice none 0 0) (.slice none 0 0))
      have HAf := hide ((HA5.out.far (Keeps.set7' (g := w.heap.size + 1 + 1) (.int .u8 kd) (.bool ng) (.slice A n c) (.string { data := #[] }) (.int .i64 0) (.slice none 0 0) (.slice none 0 0)) (fun k hk e => by first | omega | (simp at hk; omega))).more (B' := fun k => w.heap.size ≤ k) (fun k _ hk => by first | omega | (simp at hk; omega)))
      clear z0 z1 z2 z3 z4 z5 z6 f0 f1 f2 f3 f4 f5 f6 HB5 HK6 HA5
      generalize (((((((w5.setCell ⟨w.heap.size + 1 + 1, 0, none⟩ (.int .u8 kd)).setCell ⟨w.heap.size + 1 + 1, 1, none⟩ (.bool ng)).setCell ⟨w.heap.size + 1 + 1, 2, none⟩ (.slice A n c)).setCell ⟨w.heap.size + 1 + 1, 3, none⟩ (.string { data := #[] })).setCell ⟨w.heap.size + 1 + 1, 4, none⟩ (.int .i64 0)).setCell ⟨w.heap.size + 1 + 1, 5, none⟩ (.slice none 0 0)).setCell ⟨w.heap.size + 1 + 1, 6, none⟩ (.slice none 0 0)) = wf at *
      have d0 : wf.cell? ⟨w.heap.size + 1 + 1, 0, none⟩ = some (.int .u8 kd) := HBf.out.cell 0
      have d1 : wf.cell? ⟨w.heap.size + 1 + 1, 1, none⟩ = some (.bool ng) := HBf.out.cell 1
      have d2 : wf.cell? ⟨w.heap.size + 1 + 1, 2, none⟩ = some (.slice A n c) := HBf.out.cell 2
      have d3 : wf.cell? ⟨w.heap.size + 1 + 1, 3, none⟩ = some (.string { data := #[] }) := HBf.out.cell 3
      have d4 : wf.cell? ⟨w.heap.size + 1 + 1, 4, none⟩ = some (.int .i64 0) := HBf.out.cell 4
      have d5 : wf.cell? ⟨w.heap.size + 1 + 1, 5, none⟩ = some (.slice none 0 0) := HBf.out.cell 5
      have d6 : wf.cell? ⟨w.heap.size + 1 + 1, 6, none⟩ = some (.slice none 0 0) := HBf.out.cell 6
      refine bodyPost_ret (v := .tuple #[.agg #[.int .u8 kd, .bool ng, .slice A n c, .string { data := #[] }, .int .i64 0, .slice none 0 0, .slice none 0 0], .bool ok]) (by simp [results, Tryz.results77, go_sem, d0, d1, d2, d3, d4, d5, d6]) rfl ?_
      exact ⟨kd, ng, A, n, c, ok, rfl, HAf.out, HKf.out⟩
end Go.Proofs.YthbbalkhmofndaaGreatDoor
namespace Go.Proofs.YthbbalkhmofndaaGreatDoor
set_option maxRecDepth 100000
open Go.RowKit

set_option maxRecDepth 100000 in
theorem div32_any (hi lo y : Nat) (h1 : hi < y) (h2 : y < B32) (h3 : lo < B32) (w : World) :
    Calls Tryz.prog 67 #[.int .u32 (hi : Int), .int .u32 (lo : Int), .int .u32 (y : Int)] w fun e w' => e = .returned (.tuple #[.int .u32 (((hi * B32 + lo) / y : Nat) : Int), .int .u32 (((hi * B32 + lo) % y : Nat) : Int)]) ∧ Keeps NoB w w' := by
  have hb : ((y : Int) != 0) = true := by simp; omega
  have hb2 : decide (y ≤ hi) = false := decide_eq_false (by omega)
  have hb3 : decide ((y : Int) ≤ (hi : Int)) = false := by simp; omega
  obtain ⟨N, hN⟩ : ∃ N, N = hi * 4294967296 + lo := ⟨_, rfl⟩
  unfold B32 at *
  have e1 : bits .or .u64 ((hi : Int) * 4294967296) (lo : Int) = (N : Int) := by
    have := u64_or_nat (hi * 4294967296) lo (by omega) (by omega)
    rw [nat_join 32 _ _ (by omega) (by omega), ← hN] at this
    rw [← this]; rfl
  have hq : N / y < 4294967296 := Nat.div_lt_of_lt_mul (by
    have : (hi + 1) * 4294967296 ≤ y * 4294967296 := Nat.mul_le_mul_right _ h1
    omega)
  have hr : N % y < y := Nat.mod_lt _ (by omega)
  have hN2 : (N : Int) < 18446744073709551616 := by omega
  have hy0 : ((y : Int) == 0) = false := by simp; omega
  have hy1 : ¬ (y : Int) = 0 := by omega
  obtain ⟨q, hq0⟩ : ∃ q, N / y = q := ⟨_, rfl⟩
  obtain ⟨r, hr0⟩ : ∃ r, N % y = r := ⟨_, rfl⟩
  rw [← hN, hq0, hr0]
  rw [hq0] at hq
  rw [hr0] at hr
  have hq1 : IntKind.u64.wrap ((N : Int) / (y : Int)) = (q : Int) := by
    have : (N : Int) / (y : Int) = (q : Int) := by rw [← hq0]; rfl
    rw [this]; unfold IntKind.wrap; simp [IntKind.bits, IntKind.signed]; omega
  have hr1 : (N : Int) % (y : Int) = (r : Int) := by rw [← hr0]; rfl
  clear hN hq0 hr0
  go_enter Tryz.func67, Tryz.ntmps67
  go_wp2_with (go_quiet (fail))
  go_ret2
  exact ⟨rfl, (Keeps.refl _ _).drewN _⟩

/-- The loop's state: the digits from k on are done. -/
structure DivAt (w1 : World) (O : Nat) (l : List Nat) (y k r : Nat) (wr : World) (qs : List Nat) : Prop where
  keep : Keeps (fun j => j = O) w1 wr
  row : RowAt wr O qs
  len : qs.length = l.length
  low : Low qs
  zero : ∀ j, j < k → qs.getD j 0 = 0
  rest : r < y
  val : nat qs * y + B32 ^ k * r + pre l k = nat l
theorem DivAt.start {w1 : World} {O y n : Nat} {l : List Nat} (h : RowAt w1 O (List.replicate n 0)) (hn : l.length = n) (hy : 0 < y) : DivAt w1 O l y n 0 w1 (List.replicate n 0) :=
  ⟨Keeps.refl _ _, h, by simp [hn], Low.zeros _, fun j _ => getD_zeros _ _, hy, by rw [nat_zeros, ← hn, pre_len]; simp⟩
theorem DivAt.step {w1 wr w' : World} {O y k r x d r' : Nat} {l qs : List Nat} (h : DivAt w1 O l y (k + 1) r wr qs) (hx : l.getD k 0 = x) (hk : k < l.length) (hs : r * B32 + x = d * y + r') (hd : d < B32) (hr' : r' < y)
    (hr : RowAt w' O (qs.set k d)) (hkp : Keeps (fun j => j = O) w1 w') : DivAt w1 O l y k r' w' (qs.set k d) := by
  subst hx
  refine ⟨hkp, hr, by rw [List.length_set]; exact h.len, h.low.set _ _ hd, fun j hj => ?_, hr', ?_⟩
  · rw [getD_set_ne _ _ (by omega)]; exact h.zero j (by omega)
  · have hv := h.val
    rw [pre] at hv
    exact div_step hv (nat_put0 qs d (by rw [h.len]; omega) (h.zero k (by omega))) hs

def ShortP (w : World) (n N y : Nat) (e : Ending) (w' : World) : Prop := ∃ (O r : Nat) (qs : List Nat), e = .returned (.tuple #[.slice (some ⟨O, 0, none⟩) n n, .int .u32 (r : Int)]) ∧ w.heap.size ≤ O ∧ RowAt w' O qs ∧ qs.length = n ∧ Low qs ∧ r < y ∧ nat qs * y + r = N ∧ Keeps NoB w w'

set_option maxRecDepth 100000 in
theorem short_any (A : Option Addr) (n c y : Nat) (l : List Nat) (w : World) (B : Nat → Prop) (h : LimbsIn w B A n c l) (hn : n ≤ 32) (hy : 0 < y) (hy2 : y < B32) :
    Calls Tryz.prog 30 #[.slice A n c, .int .u32 (y : Int)] w (ShortP w n (nat l) y) := by
  have hln := h.len
  have HA := hide (h.more (B' := fun k => k < w.heap.size) (fun k h _ => h))
  clear h
  obtain ⟨i0, hi0, hz0, hz1, hz2⟩ := info_parts Tryz.info44
  have HY := hide (And.intro hy hy2)
  go_enter Tryz.func30, Tryz.ntmps30
  go_wp2_with (at_make; refine wpList_make_full _ rfl _ _ 23 rfl w.heap.size 44 i0 _ 1 Tryz.underlying23 hi0 hz0 hz1 .i64 .i64 _ _ n rfl rfl rfl rfl (by rw [hz2]; omega) (by unfold maxLen; omega) (Nat.le_refl _) ?_)
  intro w1 hown hgrow
  have hro := row_made hown
  have hk1 : Keeps NoB w w1 := (Keeps.refl NoB w).grown hgrow (fun k h => by cases h)
  obtain ⟨O, hO⟩ : ∃ O, w.heap.size = O := ⟨_, rfl⟩
  rw [hO] at hro ⊢
  have HA1 := hide (HA.out.keep hk1)
  have HK1 := hide hk1
  have HM0 := hide (DivAt.start hro hln hy)
  have HF := hide (show ∀ k, k < w.heap.size → ¬ k = O by omega)
  have HO := hide hO
  clear hk1 hown hgrow hro hO i0 hi0 hz0 hz1 hz2 HA
  go_wp2
  go_loopw [7, 8] (fun rv iv wr => ∃ (k r : Nat) (qs : List Nat), rv = .int .u32 (r : Int) ∧ iv = .int .i64 ((k : Int) - 1) ∧ k ≤ n ∧ Hid (DivAt w1 O l y k r wr qs)) (fun _ iv _ => (intOf iv + 1).toNat)
  case atStart => exact ⟨n, 0, _, rfl, rfl, Nat.le_refl _, HM0⟩
  case round =>
    obtain ⟨k, r, qs, rfl, rfl, hk, HM⟩ := hrel
    rcases k with _ | k
    · have HV := hide (show nat qs * y + r = nat l from by have := HM.out.val; rw [Nat.pow_zero, Nat.one_mul] at this; exact this)
      go_wp2
      go_ret2
      exact ⟨O, r, qs, rfl, by have := HO.out; omega, HM.out.row, by rw [HM.out.len, hln], HM.out.low, HM.out.rest, HV.out, HK1.out.trans' HM.out.keep (fun _ _ h => h) (fun k h1 h2 => by have := HO.out; omega)⟩
    · obtain ⟨b, o, rfl, hb, hc⟩ := (HA1.out.far HM.out.keep HF.out).at (by omega)
      have q := hc k (by omega)
      obtain ⟨X, hX⟩ : ∃ X, l.getD k 0 = X := ⟨_, rfl⟩
      have HXX := hide hX
      have hx : X < B32 := hX ▸ HA1.out.low.get k
      have hr := HM.out.rest
      rw [hX] at q
      have hk0 : (0 : Int) ≤ (k : Int) := by omega
      have hk1 : (k : Int) < (n : Int) := by omega
      have hk2 : ((k + 1 : Nat) : Int) - 1 = (k : Int) := by omega
      have hk3 : k < n := by omega
      rw [hk2]
      have hlen := HM.out.len
      have r1 : wr.cell? ⟨O, k, none⟩ = some (.int .u32 ((qs.getD k 0 : Nat) : Int)) := HM.out.row.cell (by omega)
      have r2 : wr.frozen? ⟨O, k, none⟩ = false := HM.out.row.free k
      have HD := hide (div32_any r X y hr HY.out.2 hx wr)
      have hN : (r * B32 + X) / y < B32 := Nat.div_lt_of_lt_mul (by
        have : (r + 1) * B32 ≤ y * B32 := Nat.mul_le_mul_right _ hr
        rw [Nat.add_mul, Nat.one_mul] at this
        omega)
      have hR : (r * B32 + X) % y < y := Nat.mod_lt _ HY.out.1
      have hE : r * B32 + X = (r * B32 + X) / y * y + (r * B32 + X) % y := by have := Nat.div_add_mod (r * B32 + X) y; rw [Nat.mul_comm y] at this; exact this.symm
      generalize (r * B32 + X) / y = d at *
      generalize (r * B32 + X) % y = r' at *
      have HST := hide (fun w' hr hkp => HM.out.step (w' := w') HXX.out (by omega) hE hN hR hr hkp)
      have HR := hide HM.out.row; have HKP := hide HM.out.keep
      generalize qs.getD k 0 = old at *
      unfold B32 at hx hN
      clear hc hX HM hE hR hk2
      go_wp2_with (go_at_call 67; refine HD.out.mono ?_; rintro e w2 ⟨rfl, hk2⟩; have HR2 := hide (HR.out.keep hk2 id); have HKP2 := hide (HKP.out.trans' hk2 (fun _ _ h => h) (fun _ _ h => h.elim)); have r1' := hk2.cell id r1; have r2' := HR2.out.free k; clear hk2 HR HKP r1 r2)
      go_roundw
      case rel => exact ⟨k, r', qs.set k d, rfl, rfl, by omega, hide (HST.out _ (HR2.out.put k rfl) (HKP2.out.setCell (p := ⟨O, k, none⟩) (.inl rfl) _))⟩
      case measure => simp [intOf]
end Go.Proofs.YthbbalkhmofndaaGreatDoor
namespace Go.Proofs.YthbbalkhmofndaaGreatDoor
set_option maxRecDepth 100000
open Go.RowKit

def u8s (l : List Nat) : List Value := l.map fun (x : Nat) => Value.int .u8 (x : Int)
theorem u8s_len (l : List Nat) : (u8s l).length = l.length := List.length_map _
theorem u8s_get {l : List Nat} {i : Nat} (h : i < l.length) : (u8s l)[i]? = some (.int .u8 ((l.getD i 0 : Nat) : Int)) := by
  unfold u8s; rw [List.getElem?_map, List.getD_eq_getElem?_getD, List.getElem?_eq_getElem h]; rfl
theorem u8s_ones (l : List Nat) : ∀ u ∈ u8s l, u.oneCell' = true := by
  intro u hu; obtain ⟨x, _, rfl⟩ := List.mem_map.1 hu; rfl
theorem u8s_set (l : List Nat) (i v : Nat) : (u8s l).set i (.int .u8 (v : Int)) = u8s (l.set i v) := by unfold u8s; rw [List.map_set]
theorem u8s_append (l m : List Nat) : u8s (l ++ m) = u8s l ++ u8s m := List.map_append
/-- The string of some bytes. -/
def strOf (l : List Nat) : ByteArray := ⟨(l.map UInt8.ofNat).toArray⟩

/-- Reversed from both ends up to i. -/
structure RevAt (w1 : World) (R o : Nat) (n c : Nat) (l : List Nat) (i : Nat) (wr : World) (m : List Nat) : Prop where
  keep : Keeps (fun k => k = R) w1 wr
  slab : Slab wr 5 1 (some ⟨R, o, none⟩) n c (u8s m)
  len : m.length = n
  out : ∀ j, j < n → (j < i ∨ n ≤ j + i) → m.getD j 0 = l.getD (n - 1 - j) 0
  mid : ∀ j, i ≤ j → j + i < n → m.getD j 0 = l.getD j 0
theorem RevAt.step {w1 wr w' : World} {R o n c i j : Nat} {l m : List Nat} (h : RevAt w1 R o n c l i wr m) (hj : j + i + 1 = n) (hij : i < j)
    (hs : Slab w' 5 1 (some ⟨R, o, none⟩) n c (u8s ((m.set i (m.getD j 0)).set j (m.getD i 0)))) (hk : Keeps (fun k => k = R) w1 w') : RevAt w1 R o n c l (i + 1) w' ((m.set i (m.getD j 0)).set j (m.getD i 0)) := by
  have hl := h.len
  refine ⟨hk, hs, by simp [hl], fun k hk hh => ?_, fun k h1 h2 => ?_⟩
  · by_cases e : k = j
    · subst e
      rw [getD_set _ _ (by rw [List.length_set]; omega), h.mid i (by omega) (by omega)]; congr 1; omega
    · rw [getD_set_ne _ _ (by omega)]
      by_cases e2 : k = i
      · subst e2
        rw [getD_set _ _ (by omega), h.mid j (by omega) (by omega)]; congr 1; omega
      · rw [getD_set_ne _ _ (by omega)]; exact h.out k hk (by omega)
  · rw [getD_set_ne _ _ (by omega), getD_set_ne _ _ (by omega)]; exact h.mid k (by omega) (by omega)
theorem RevAt.done {w1 wr : World} {R o n c i : Nat} {l m : List Nat} (h : RevAt w1 R o n c l i wr m) (hi : n ≤ 2 * i + 1) (hl : l.length = n) : m = l.reverse := by
  refine List.ext_getElem? fun j => ?_
  by_cases hj : j < n
  · have e : m.getD j 0 = l.getD (n - 1 - j) 0 := by
      rcases (by omega : (j < i ∨ n ≤ j + i) ∨ (i ≤ j ∧ j + i < n)) with h1 | ⟨h1, h2⟩
      · exact h.out j hj h1
      · rw [h.mid j h1 h2]; congr 1; omega
    have hm := h.len
    rw [List.getElem?_reverse (by omega), hl]
    rw [List.getD_eq_getElem?_getD, List.getD_eq_getElem?_getD, List.getElem?_eq_getElem (by omega), List.getElem?_eq_getElem (by omega)] at e
    rw [List.getElem?_eq_getElem (by omega), List.getElem?_eq_getElem (by omega)]
    exact congrArg some e
  · have hm := h.len
    rw [List.getElem?_eq_none (by omega), List.getElem?_eq_none (by rw [List.length_reverse]; omega)]

theorem slab_cell {w : World} {e : TypeId} {n c g o j : Nat} {xs : List Value} {u : Value} (h : Slab w e 1 (some ⟨g, o, none⟩) n c xs) (hu : xs[j]? = some u) : w.cell? ⟨g, o + j, none⟩ = some u ∧ w.frozen? ⟨g, o + j, none⟩ = false := by
  have hj : j < xs.length := (List.getElem?_eq_some_iff.1 hu).1
  obtain ⟨hl, hn, hm, ⟨h0, hc⟩ | ⟨g', o', cur, h0, hb, hs, hw⟩⟩ := h
  · cases h0
  · injection h0 with h0; injection h0 with h0 h1; subst h0 h1
    refine ⟨?_, hb.free _⟩
    rw [hb.cell, window_get hw (by omega)]; exact hu

set_option maxRecDepth 100000 in
theorem reverse_any (R o n c : Nat) (l : List Nat) (w : World) (h : Slab w 5 1 (some ⟨R, o, none⟩) n c (u8s l)) :
    Calls Tryz.prog 32 #[.slice (some ⟨R, o, none⟩) n c] w fun e w' => e = .returned (.tuple #[]) ∧ Slab w' 5 1 (some ⟨R, o, none⟩) n c (u8s l.reverse) ∧ Keeps (fun k => k = R) w w' := by
  have hl : l.length = n := by have := h.1; rw [u8s_len] at this; omega
  have hmx : n ≤ 9223372036854775807 := by have := Nat.le_trans h.2.1 h.2.2.1; unfold maxLen at this; omega
  have H0 := hide (⟨Keeps.refl _ _, h, hl, fun j h1 h2 => by omega, fun j _ _ => rfl⟩ : RevAt w R o n c l 0 w l)
  clear h
  go_enter Tryz.func32, Tryz.ntmps32
  go_wp2
  go_loopw [2, 3] (fun iv jv wr => ∃ (i : Nat) (m : List Nat), iv = .int .i64 (i : Int) ∧ jv = .int .i64 ((n : Int) - 1 - (i : Int)) ∧ 2 * i ≤ n + 1 ∧ Hid (RevAt w R o n c l i wr m)) (fun iv jv _ => (intOf jv - intOf iv + 2).toNat)
  case atStart => exact ⟨0, l, rfl, by simp, by omega, H0⟩
  case round =>
    obtain ⟨i, m, rfl, rfl, hi, HM⟩ := hrel
    have hm := HM.out.len
    by_cases hlt : 2 * i + 1 < n
    · obtain ⟨j, hj⟩ : ∃ j, j + i + 1 = n := ⟨n - 1 - i, by omega⟩
      have hj1 : (n : Int) - 1 - (i : Int) = (j : Int) := by omega
      have hij : (i : Int) < (j : Int) := by omega
      have hjn : (j : Int) < (n : Int) := by omega
      have hi0 : (0 : Int) ≤ (i : Int) := by omega
      have hin : (i : Int) < (n : Int) := by omega
      have hj0 : (0 : Int) ≤ (j : Int) := by omega
      have hjn' : j < n := by omega
      have hin' : i < n := by omega
      rw [hj1]
      obtain ⟨ci, fi⟩ := slab_cell HM.out.slab (j := i) (u8s_get (by omega))
      obtain ⟨cj, fj⟩ := slab_cell HM.out.slab (j := j) (u8s_get (by omega))
      have HST := hide (fun w' hs hk => HM.out.step (w' := w') hj (by omega) hs hk)
      have HSL := hide HM.out.slab; have HK := hide HM.out.keep
      obtain ⟨a, ha⟩ : ∃ a, m.getD i 0 = a := ⟨_, rfl⟩
      obtain ⟨b, hb⟩ : ∃ b, m.getD j 0 = b := ⟨_, rfl⟩
      rw [ha, hb] at HST
      rw [ha] at ci
      rw [hb] at cj
      have HJ := hide hj
      clear ha hb HM hj1 hj
      go_wp2
      refine order_begin (fun W => Keeps NoB wr.drew W) (fun k => k != 13 && k != 15) (by kernel_rfl) 16 rfl ?_
      have HSL1 := hide HSL.out.drew
      have HK1 := hide HK.out.drew
      have ci1 : wr.drew.cell? ⟨R, o + i, none⟩ = some (.int .u8 (a : Int)) := ci
      have cj1 : wr.drew.cell? ⟨R, o + j, none⟩ = some (.int .u8 (b : Int)) := cj
      have fi1 : wr.drew.frozen? ⟨R, o + i, none⟩ = false := fi
      have fj1 : wr.drew.frozen? ⟨R, o + j, none⟩ = false := fj
      clear ci cj fi fj HSL HK
      generalize wr.drew = W0 at *
      have HS : Keeps NoB W0 W0 := Keeps.refl _ _
      refine order_pure (i := 0) rfl (by kernel_rfl) (fun _ _ _ h => h) (.inl ⟨rfl, fun _ => by go_simp; rfl⟩) ?_
      try simp only [Act.put, List.setIfInBounds_toArray, List.set_cons_succ, List.set_cons_zero]
      refine order_pure (i := 1) rfl (by kernel_rfl) (fun _ _ _ h => h) (.inl ⟨rfl, fun _ => by go_simp; rfl⟩) ?_
      try simp only [Act.put, List.setIfInBounds_toArray, List.set_cons_succ, List.set_cons_zero]
      refine order_pure (i := 2) rfl (by kernel_rfl) (fun _ _ _ h => h) (.inl ⟨rfl, fun _ => by go_simp; rfl⟩) ?_
      try simp only [Act.put, List.setIfInBounds_toArray, List.set_cons_succ, List.set_cons_zero]
      refine order_pure (i := 3) rfl (by kernel_rfl) (fun _ _ _ h => h) (.inl ⟨rfl, fun _ => by go_simp; rfl⟩) ?_
      try simp only [Act.put, List.setIfInBounds_toArray, List.set_cons_succ, List.set_cons_zero]
      refine order_pure (i := 4) rfl (by kernel_rfl) (fun _ _ _ h => h) (.inl ⟨rfl, fun _ => by go_simp; rfl⟩) ?_
      try simp only [Act.put, List.setIfInBounds_toArray, List.set_cons_succ, List.set_cons_zero]
      refine order_pure (i := 5) rfl (by kernel_rfl) (fun _ _ _ h => h) (.inl ⟨rfl, fun _ => by go_simp; rfl⟩) ?_
      try simp only [Act.put, List.setIfInBounds_toArray, List.set_cons_succ, List.set_cons_zero]
      refine order_pure (i := 8) rfl (by kernel_rfl) (fun _ _ _ h => h) (.inl ⟨rfl, fun _ => by go_simp; rfl⟩) ?_
      try simp only [Act.put, List.setIfInBounds_toArray, List.set_cons_succ, List.set_cons_zero]
      refine order_pure (i := 9) rfl (by kernel_rfl) (fun _ _ _ h => h) (.inl ⟨rfl, fun _ => by go_simp; rfl⟩) ?_
      try simp only [Act.put, List.setIfInBounds_toArray, List.set_cons_succ, List.set_cons_zero]
      refine order_pure (i := 6) rfl (by kernel_rfl) (fun _ _ _ h => h) (.inl ⟨rfl, fun _ => by go_simp; rfl⟩) ?_
      try simp only [Act.put, List.setIfInBounds_toArray, List.set_cons_succ, List.set_cons_zero]
      refine order_pure (i := 10) rfl (by kernel_rfl) (fun _ _ _ h => h) (.inl ⟨rfl, fun _ => by go_simp; rfl⟩) ?_
      try simp only [Act.put, List.setIfInBounds_toArray, List.set_cons_succ, List.set_cons_zero]
      refine order_held (i := 7) rfl (by kernel_rfl) (fun _ _ _ h => h) (.inl ⟨rfl, fun W hW => by
        have q0 : W.cell? ⟨R, o + j, none⟩ = some (.int .u8 (b : Int)) := hW.cell id cj1
        go_simp; rfl⟩) HS ?_
      try simp only [Act.put, List.setIfInBounds_toArray, List.set_cons_succ, List.set_cons_zero]
      refine order_held (i := 11) rfl (by kernel_rfl) (fun _ _ _ h => h) (.inl ⟨rfl, fun W hW => by
        have q0 : W.cell? ⟨R, o + i, none⟩ = some (.int .u8 (a : Int)) := hW.cell id ci1
        go_simp; rfl⟩) HS ?_
      try simp only [Act.put, List.setIfInBounds_toArray, List.set_cons_succ, List.set_cons_zero]
      refine order_pure (i := 12) rfl (by kernel_rfl) (fun _ _ _ h => h) (.inl ⟨rfl, fun _ => by go_simp; rfl⟩) ?_
      try simp only [Act.put, List.setIfInBounds_toArray, List.set_cons_succ, List.set_cons_zero]
      refine order_one (i := 13) rfl (by kernel_rfl) (fun K hK => ?_)
      go_simp
      refine hK _ _ (fun h => absurd h (by decide)) ?_
      clear hK
      try simp only [Act.put, List.setIfInBounds_toArray, List.set_cons_succ, List.set_cons_zero]
      refine order_pure (i := 14) rfl (by kernel_rfl) (fun _ _ _ h => h) (.inl ⟨rfl, fun _ => by go_simp; rfl⟩) ?_
      try simp only [Act.put, List.setIfInBounds_toArray, List.set_cons_succ, List.set_cons_zero]
      refine order_one (i := 15) rfl (by kernel_rfl) (fun K hK => ?_)
      go_simp
      refine hK _ _ (fun h => absurd h (by decide)) ?_
      clear hK
      try simp only [Act.put, List.setIfInBounds_toArray, List.set_cons_succ, List.set_cons_zero]
      refine order_done (by kernel_rfl) ?_
      have HSL2 := hide (show Slab ((W0.setCell ⟨R, o + i, none⟩ (.int .u8 (b : Int))).setCell ⟨R, o + j, none⟩ (.int .u8 (a : Int))) 5 1 (some ⟨R, o, none⟩) n c (u8s ((m.set i b).set j a)) from by
        rw [← u8s_set, ← u8s_set]
        exact (HSL1.out.put1 (j := i) (by omega) _).put1 (j := j) (by omega) _)
      have HK2 := hide ((HK1.out.setCell (p := ⟨R, o + i, none⟩) (.inl rfl) (.int .u8 (b : Int))).setCell (p := ⟨R, o + j, none⟩) (.inl rfl) (.int .u8 (a : Int)))
      clear HSL1 HK1 HS ci1 cj1 fi1 fj1
      generalize (W0.setCell ⟨R, o + i, none⟩ (.int .u8 (b : Int))).setCell ⟨R, o + j, none⟩ (.int .u8 (a : Int)) = W2 at *
      go_wp2
      go_roundw
      case rel => exact ⟨i + 1, (m.set i b).set j a, rfl, congrArg (Value.int .i64) (by have := HJ.out; omega), by have := HJ.out; omega, hide (HST.out _ HSL2.out HK2.out)⟩
      case measure => have := HJ.out; simp [intOf]; omega
    · have hij : ¬ (i : Int) < (n : Int) - 1 - (i : Int) := by omega
      have hb : decide ((i : Int) < (n : Int) - 1 - (i : Int)) = false := decide_eq_false hij
      have HD := hide (HM.out.done (by omega) hl)
      clear hij
      go_wp2
      go_end0
      exact ⟨rfl, HD.out ▸ HM.out.slab, HM.out.keep⟩
end Go.Proofs.YthbbalkhmofndaaGreatDoor
namespace Go.Proofs.YthbbalkhmofndaaGreatDoor
set_option maxRecDepth 100000
open Go.RowKit


theorem Tryz.info5 : (Tryz.prog.info? 5).map (fun i => (i.zero, i.size, i.bytes)) = some (some (.int .u8 0), 1, 1) := by kernel_rfl
theorem big_ten : Big ≤ 10 ^ 309 := by rw [Big_eq]; decide +kernel
/-- The decimal digits as bytes, the lowest first. -/
def dd (N : Nat) : List Nat := (decs N).map (48 + ·)
theorem dd_len {N : Nat} (h : N < Big) : (dd N).length ≤ 309 := by
  unfold dd; rw [List.length_map]; exact decs_len (Nat.lt_of_lt_of_le h big_ten)
theorem one_reads {w : World} {vb : Nat} {t : TypeId} {v : Value} (hv : Blk w vb t #[v]) : Reads w (fun _ => True) true 1 (some ⟨vb, 0, none⟩) 1 [v] := by
  refine ⟨rfl, fun _ => ⟨_, rfl, rfl, trivial, hv.lt, fun j u hu => ?_⟩⟩
  have hj : j < 1 := (List.getElem?_eq_some_iff.1 hu).1
  obtain rfl : j = 0 := by omega
  exact ⟨(hv.cell _).trans hu, fun _ => hv.free _⟩
theorem set7_size {w : World} {g : Nat} (v0 v1 v2 v3 v4 v5 v6 : Value) : (((((((w.setCell ⟨g, 0, none⟩ v0).setCell ⟨g, 1, none⟩ v1).setCell ⟨g, 2, none⟩ v2).setCell ⟨g, 3, none⟩ v3).setCell ⟨g, 4, none⟩ v4).setCell ⟨g, 5, none⟩ v5).setCell ⟨g, 6, none⟩ v6).heap.size = w.heap.size := by
  simp [World.setCell]
theorem dd_step {N : Nat} (h : 0 < N) : dd N = (48 + N % 10) :: dd (N / 10) := by
  unfold dd; rw [decs_pos (by omega)]; rfl

structure TxtAt (w : World) (T : List Nat) (N g : Nat) (ngl : Bool) (A : Option Addr) (n c : Nat) (ia ta : Option Addr) (ic tc : Nat) (A2 : Option Addr) (m c2 : Nat) (wr : World) : Prop where
  keep : Keeps NoB w wr
  blk : Blk wr g 26 #[.int .u8 1, .bool ngl, .slice A n c, .string { data := #[] }, .int .i64 0, .slice ia 0 ic, .slice ta 0 tc]
  limbs : LimbsIn wr (fun k => ¬ rowB A2 k) A n c (dig N)
  hg : w.heap.size ≤ g
  slab : ∃ bs, Slab wr 5 1 A2 m c2 (u8s bs) ∧ bs ++ dd N = T
  new : ∀ k, rowB A2 k → w.heap.size ≤ k
  big : N < Big

theorem TxtAt.len {w wr : World} {T : List Nat} {N g : Nat} {ngl : Bool} {A ia ta A2 : Option Addr} {n c ic tc m c2 : Nat} (h : TxtAt w T N g ngl A n c ia ta ic tc A2 m c2 wr) : m ≤ T.length := by
  obtain ⟨bs, hs, e⟩ := h.slab
  have h1 := hs.1
  rw [u8s_len] at h1
  rw [← e, List.length_append]; omega

theorem Slab.row {w : World} {e : TypeId} {size n c : Nat} {A : Option Addr} {xs : List Value} (h : Slab w e size A n c xs) (hn : 0 < n) : ∃ R o, A = some ⟨R, o, none⟩ := by
  obtain ⟨_, hc, _, ⟨_, h0⟩ | ⟨g, o, _, h0, _⟩⟩ := h
  · omega
  · exact ⟨g, o, h0⟩
theorem str_run {w : World} {R o n c : Nat} {L : List Nat} (h : Slab w 5 1 (some ⟨R, o, none⟩) n c (u8s L)) (hb : ∀ x ∈ L, x < 256) : (convert 54 9 (.slice (some ⟨R, o, none⟩) n c)).run Tryz.prog w = .ok (.string (strOf L)) w := by
  have hl : L.length = n := by have := h.1; rw [u8s_len] at this; omega
  have hm : (L.map UInt8.ofNat).length = n := by rw [List.length_map, hl]
  have := run_convert_bytes_back (P := Tryz.prog) w 54 9 5 ⟨R, o, none⟩ c (L.map UInt8.ofNat) Tryz.underlying54 Tryz.underlying5 Tryz.underlying9 (fun j hj => by
    rw [hm] at hj
    rw [Addr.add_eq _ _ rfl, (slab_cell h (u8s_get (by omega))).1, List.getD_eq_getElem?_getD, List.getElem?_eq_getElem (by omega), List.getElem_map]
    have := hb _ (List.getElem_mem (l := L) (n := j) (by omega))
    simp [UInt8.toNat_ofNat_of_lt' (n := L[j]'(by omega)) (by simpa using this)])
  rw [hm] at this
  exact this
theorem dd_small {N : Nat} : ∀ x ∈ dd N, x < 256 := by
  unfold dd
  intro x hx
  obtain ⟨d, hd, rfl⟩ := List.mem_map.1 hx
  have := decs_lt N d hd
  omega
theorem dd_pos {N : Nat} (h : 0 < N) : 0 < (dd N).length := by rw [dd_step h]; simp
/-- The bytes of an integer's text. -/
def txtL (z : Int) : List Nat := (if z < 0 then [45] else []) ++ (if z = 0 then [48] else (dd z.natAbs).reverse)
def txt (z : Int) : ByteArray := strOf (txtL z)
theorem TxtAt.step {w w4 w5 : World} {T bs : List Nat} {N r M n3 c3 m c5 : Nat} {A2 A3 A5 : Option Addr} (hk4 : Keeps NoB w w4) (hs : bs ++ dd N = T) (hnew : ∀ k, rowB A2 k → w.heap.size ≤ k) (hL : LimbsIn w4 (fun k => ¬ rowB A2 k ∧ k < w4.heap.size) A3 n3 c3 (dig M))
    (h1 : Slab w5 5 1 A5 (m + 1) c5 (u8s bs ++ [.int .u8 (48 + (r : Int))])) (h2 : Keeps (rowB A2) w4 w5) (h3 : Moved w4 A2 A5) (hN : M * 10 + r = N) (hr : r < 10) (hbig : N < Big) (hpos : 0 < N) :
    TxtAt w T M w5.heap.size false A3 n3 c3 none none 0 0 A5 (m + 1) c5 (w5.alloc (.cells #[.int .u8 1, .bool false, .slice A3 n3 c3, .string { data := #[] }, .int .i64 0, .slice none 0 0, .slice none 0 0] 26)) := by
  have hk5 : Keeps NoB w w5 := hk4.trans' h2 (fun _ _ h => h) (fun k hk hr => absurd (hnew k hr) (Nat.not_le.2 hk))
  refine ⟨hk5.alloc _, Blk.new w5 26 #[.int .u8 1, .bool false, .slice A3 n3 c3, .string { data := #[] }, .int .i64 0, .slice none 0 0, .slice none 0 0], ?_, hk5.size, ⟨bs ++ [48 + r], ?_, ?_⟩, fun k hk => ?_, by omega⟩
  · refine ((hL.far h2 (fun k hk => hk.1)).keep ((Keeps.refl NoB w5).alloc (.cells #[.int .u8 1, .bool false, .slice A3 n3 c3, .string { data := #[] }, .int .i64 0, .slice none 0 0, .slice none 0 0] 26))).more (fun k _ hk hr => ?_)
    rcases h3 k hr with h | h
    · exact hk.1 h
    · exact absurd hk.2 (Nat.not_lt.2 h)
  · have e : u8s (bs ++ [48 + r]) = u8s bs ++ [.int .u8 (48 + (r : Int))] := by rw [u8s_append]; rfl
    rw [e]
    exact h1.fresh ((Keeps.refl NoB w5).alloc _)
  · rw [← hs, dd_step hpos, show N % 10 = r by omega, show N / 10 = M by omega, List.append_assoc]; rfl
  · rcases h3 k hk with h | h
    · exact hnew k h
    · exact Nat.le_trans hk4.size h
theorem Slab.at_new {w w4 w5 : World} {A2 A5 : Option Addr} {m c5 : Nat} {xs : List Value} (h : Slab w5 5 1 A5 (m + 1) c5 xs) (hk : Keeps NoB w w4) (h2 : Keeps (rowB A2) w4 w5) (h3 : Moved w4 A2 A5) (hnew : ∀ k, rowB A2 k → w.heap.size ≤ k) : ∃ R o, A5 = some ⟨R, o, none⟩ ∧ w.heap.size ≤ R ∧ Keeps NoB w w5 := by
  obtain ⟨R, o, rfl⟩ := h.row (Nat.succ_pos _)
  refine ⟨R, o, rfl, ?_, hk.trans' h2 (fun _ _ h => h) (fun k hk hr => absurd (hnew k hr) (Nat.not_le.2 hk))⟩
  rcases h3 R ⟨o, rfl⟩ with h | h
  · exact hnew R h
  · exact Nat.le_trans hk.size h
set_option maxHeartbeats 1000000 in
set_option maxRecDepth 100000 in
theorem text_any (ng : Bool) (A ia ta : Option Addr) (n c ic tc : Nat) (z : Int) (w : World) (B : Nat → Prop) (h : IA w B ng A n c z) :
    Calls Tryz.prog 16 #[.agg #[.int .u8 1, .bool ng, .slice A n c, .string { data := #[] }, .int .i64 0, .slice ia 0 ic, .slice ta 0 tc]] w fun e w' => e = .returned (.string (txt z)) ∧ Keeps NoB w w' := by
  have HI := hide h
  have hbig := h.room
  obtain ⟨i0, hi0, hz0, hz1, hz2⟩ := info_parts Tryz.info5
  go_enter Tryz.func16, Tryz.ntmps16
  have HX0 := hide (Blk.new w 26 #[.int .u8 1, .bool ng, .slice A n c, .string { data := #[] }, .int .i64 0, .slice ia 0 ic, .slice ta 0 tc])
  have HK0 := hide ((Keeps.refl NoB w).alloc (.cells #[.int .u8 1, .bool ng, .slice A n c, .string { data := #[] }, .int .i64 0, .slice ia 0 ic, .slice ta 0 tc] 26))
  go_wp2_with (go_at_call 11; refine ((HI.out.keep HK0.out).right _ _ _ _).mono ?_; rintro e w1 ⟨rfl, hk1⟩; have HK1 := hide (HK0.out.trans' hk1 (fun _ _ => id) (fun _ _ => id)); have HX1 := hide (HX0.out.keep hk1 id); clear hk1 HX0 HK0; obtain ⟨x0, x1, x2, x3, x4, x5, x6⟩ := Blk.c7 (show Blk w1 (w.heap.size) _ #[.int .u8 1, .bool ng, .slice A n c, .string { data := #[] }, .int .i64 0, .slice ia 0 ic, .slice ta 0 tc] from HX1.out))
  have H0 := hide (⟨(Keeps.refl NoB w1).alloc (.cells #[.int .u8 1, .bool ng, .slice A n c, .string { data := #[] }, .int .i64 0, .slice ia 0 ic, .slice ta 0 tc] 26), Blk.new w1 26 #[.int .u8 1, .bool ng, .slice A n c, .string { data := #[] }, .int .i64 0, .slice ia 0 ic, .slice ta 0 tc], ((HI.out.limbs.keep (HK1.out.alloc (.cells #[.int .u8 1, .bool ng, .slice A n c, .string { data := #[] }, .int .i64 0, .slice ia 0 ic, .slice ta 0 tc] 26))).more (fun k _ _ ⟨o, e⟩ => by cases e)), Nat.le_refl _, ⟨[], Slab.nil _ _ _, rfl⟩, (fun k ⟨o, e⟩ => by cases e), hbig⟩ : TxtAt w1 (dd z.natAbs) z.natAbs w1.heap.size ng A n c ia ta ic tc none 0 0 (w1.alloc (.cells #[.int .u8 1, .bool ng, .slice A n c, .string { data := #[] }, .int .i64 0, .slice ia 0 ic, .slice ta 0 tc] 26)))
  obtain ⟨T, hT⟩ : ∃ T, dd z.natAbs = T := ⟨_, rfl⟩
  have hT9 : T.length ≤ 309 := hT ▸ dd_len hbig
  rw [hT] at H0
  have HT := hide hT
  clear hbig hT x0 x1 x2 x3 x4 x5 x6
  have hi9 : i0.bytes = 1 := hz2
  go_loopg [3, 4] z.natAbs (fun f ov pv wr => ∃ (N g : Nat) (ngl : Bool) (A : Option Addr) (n c : Nat) (ia ta : Option Addr) (ic tc : Nat) (A2 : Option Addr) (m c2 : Nat), ov = .slice A2 m c2 ∧ pv = .pointer (some ⟨g, 0, none⟩) ∧ N ≤ f ∧ Hid (TxtAt w1 T N g ngl A n c ia ta ic tc A2 m c2 wr))
  case atStart => exact ⟨z.natAbs, _, ng, A, n, c, ia, ta, ic, tc, none, 0, 0, rfl, rfl, Nat.le_refl _, H0⟩
  case round =>
    obtain ⟨N, g, ngl, A, n, c, ia, ta, ic, tc, A2, m, c2, rfl, rfl, hf, HM⟩ := hrel
    have hg := HM.out.blk.lt
    have hln := HM.out.limbs.len
    have HB := hide HM.out.blk
    obtain ⟨x0, x1, x2, x3, x4, x5, x6⟩ := Blk.c7 (show Blk wr (g) _ #[.int .u8 1, .bool ngl, .slice A n c, .string { data := #[] }, .int .i64 0, .slice ia 0 ic, .slice ta 0 tc] from HB.out)
    by_cases hN : 0 < N
    · have hn0 : 0 < n := by rw [← hln]; exact dig_pos_len.2 hN
      have hn1 : decide (0 < (n : Int)) = true := by simp; exact hn0
      have hn32 : n ≤ 32 := by rw [← hln]; exact dig_big.2 HM.out.big
      have hml := HM.out.len
      have HS := hide (short_any A n c 10 (dig N) wr _ HM.out.limbs hn32 (by decide) (by decide))
      rw [nat_dig] at HS
      go_wp2_with first | (go_at_call 30; (refine HS.out.mono ?_); (rintro e w2 ⟨O, r, qs, rfl, hO, hrow, hql, hlow, hr, hv, hk⟩); (have HR2 := hide (hrow.limbs hql (Nat.le_trans hn32 (by decide)) hlow)); (have HB2 := hide (HM.out.blk.keep hk id)); have HK2 := hide hk; have HV := hide (And.intro hr hv); (have hr' : (r : Int) < 10 := by omega); clear hO hrow hql hlow hv hk; obtain ⟨y0, y1, y2, y3, y4, y5, y6⟩ := Blk.c7 (show Blk w2 (g) _ #[.int .u8 1, .bool ngl, .slice A n c, .string { data := #[] }, .int .i64 0, .slice ia 0 ic, .slice ta 0 tc] from HB2.out); obtain ⟨f0, f1, f2, f3, f4, f5, f6⟩ := Blk.f7 (w := w2) (g := g) HB2.out) | fail
      have hqb : nat qs < Big := by
        have h1 := HV.out.2
        have h2 := HM.out.big
        omega
      have HY3 := hide (made_yes _ _ _ false qs w2 _ HR2.out hqb)
      refine HY3.out.mono ?_
      rintro e w3 ⟨ng3, A3, n3, c3, rfl, hi3, hk3⟩
      have hng : ng3 = false := hi3.sign.trans (sgn_neg false _)
      subst hng
      have HI3 := hide hi3
      have HB3 := hide (HB2.out.keep hk3 id)
      have HK3 := hide hk3
      clear hi3 hk3 y0 y1 y2 y3 y4 y5 y6 f0 f1 f2 f3 f4 f5 f6 HY3
      obtain ⟨v0, v1, v2, v3, v4, v5, v6⟩ := Blk.c7 (show Blk w3 (g) _ #[.int .u8 1, .bool ngl, .slice A n c, .string { data := #[] }, .int .i64 0, .slice ia 0 ic, .slice ta 0 tc] from HB3.out)
      obtain ⟨u0, u1, u2, u3, u4, u5, u6⟩ := Blk.f7 (w := w3) (g := g) HB3.out
      obtain ⟨bs, hsl, hbs⟩ := HM.out.slab
      have hgn : ¬ rowB A2 g := hsl.ne HM.out.blk (by decide)
      have hk3' : Keeps NoB wr w3 := HK2.out.trans' HK3.out (fun _ _ h => h) (fun _ _ h => h)
      have hsl3 := hsl.fresh hk3'
      have hset := Keeps.set7' (w := w3) (g := g) (.int .u8 1) (.bool false) (.slice A3 n3 c3) (.string { data := #[] }) (.int .i64 0) (.slice none 0 0) (.slice none 0 0)
      have hgq : g < w2.heap.size := HB2.out.lt
      have HS4 := hide ((hsl3.keep hset (fun k hk e => hgn (e ▸ hk))).fresh ((Keeps.refl NoB _).alloc (.cells #[.int .u8 (48 + (r : Int))] 5)))
      have HB4 := hide ((HB3.out.put7 (.int .u8 1) (.bool false) (.slice A3 n3 c3) (.string { data := #[] }) (.int .i64 0) (.slice none 0 0) (.slice none 0 0)).alloc (.cells #[.int .u8 (48 + (r : Int))] 5))
      have HL4 := hide ((HI3.out.limbs.far hset (fun k hk e => absurd (e ▸ hgq) (Nat.not_lt.2 hk))).keep ((Keeps.refl NoB _).alloc (.cells #[.int .u8 (48 + (r : Int))] 5)))
      have HK4 := hide (((HM.out.keep.trans' hk3' (fun _ _ h => h) (fun _ _ h => h)).set7 HM.out.hg (.int .u8 1) (.bool false) (.slice A3 n3 c3) (.string { data := #[] }) (.int .i64 0) (.slice none 0 0) (.slice none 0 0)).alloc (.cells #[.int .u8 (48 + (r : Int))] 5))
      have HR4 := hide (one_reads (Blk.new (((((((w3.setCell ⟨g, 0, none⟩ (.int .u8 1)).setCell ⟨g, 1, none⟩ (.bool false)).setCell ⟨g, 2, none⟩ (.slice A3 n3 c3)).setCell ⟨g, 3, none⟩ (.string { data := #[] })).setCell ⟨g, 4, none⟩ (.int .i64 0)).setCell ⟨g, 5, none⟩ (.slice none 0 0)).setCell ⟨g, 6, none⟩ (.slice none 0 0)) 5 #[.int .u8 (48 + (r : Int))]))
      rw [set7_size (w := w3) (g := g) (.int .u8 1) (.bool false) (.slice A3 n3 c3) (.string { data := #[] }) (.int .i64 0) (.slice none 0 0) (.slice none 0 0)] at HR4
      have HN4 := hide (And.intro HM.out.new hbs)
      have HQ4 := hide (show ∀ k, w2.heap.size ≤ k → ¬ rowB A2 k from fun k hk hr => absurd (Nat.lt_of_lt_of_le (hsl.lt hr) HK2.out.size) (Nat.not_lt.2 hk))
      have HGN := hide hgn
      clear hsl hgn hgq hk3' hsl3 hset hbs
      go_wp2_with (at_builtin; go_loud (refine wpList_append_slab _ rfl (.tmp 26) (.tmp 30) 54 rfl 5 i0 _ 1 1 Tryz.underlying54 hi0 hz0 hz1 hz2 rfl (by omega) A2 m c2 (u8s bs) rfl ?q1 (fun _ => True) true (some ⟨w3.heap.size, 0, none⟩) 1 1 [.int .u8 (48 + (r : Int))] rfl ?q2 (Nat.zero_lt_one) ?q3 ?q4 ?q5 ?_))
      case q1 => exact HS4.out
      case q2 => exact HR4.out
      case q3 => intro u hu; simp at hu; subst hu; rfl
      case q4 => unfold maxLen; omega
      case q5 => omega
      intro A5 c5 w5 h1 h2 h3
      have HB5 := hide (HB4.out.keep h2 HGN.out)
      have hst := TxtAt.step HK4.out HN4.out.2 HN4.out.1 (HL4.out.more (fun k h1 h2 => ⟨HQ4.out k h2, h1⟩)) h1 h2 h3 (by rw [sgn_abs]; exact HV.out.2) HV.out.1 HM.out.big hN
      have HST := hide hst
      clear h1 h2 h3 hst v0 v1 v2 v3 v4 v5 v6 u0 u1 u2 u3 u4 u5 u6
      obtain ⟨v0, v1, v2, v3, v4, v5, v6⟩ := Blk.c7 (show Blk w5 (g) _ #[.int .u8 1, .bool false, .slice A3 n3 c3, .string { data := #[] }, .int .i64 0, .slice none 0 0, .slice none 0 0] from HB5.out)
      have hlt : nat qs < gk := by have h1 := HV.out.2; omega
      rw [sgn_abs] at HST
      go_wp2
      go_roundg (nat qs)
      case measure => exact hlt
      case rel => exact ⟨nat qs, w5.heap.size, false, A3, n3, c3, none, none, 0, 0, A5, m + 1, c5, rfl, rfl, Nat.le_refl _, HST.out⟩
    · obtain rfl : N = 0 := by omega
      have hn0 : n = 0 := by rw [← hln, dig_zero]; rfl
      subst hn0
      obtain ⟨bs, hsl, hbs⟩ := HM.out.slab
      have hTT : bs = T := by rw [← hbs]; unfold dd; rw [decs_zero]; simp
      subst hTT
      have hml : m = bs.length := by have := hsl.1; rw [u8s_len] at this; omega
      have HSL := hide hsl
      have HKW := hide HM.out.keep; have HNW := hide HM.out.new
      have HX3 := hide (HX1.out.keep HM.out.keep id)
      have hsg := HI.out.sign
      have hb8 : ∀ x ∈ bs, x < 256 := HT.out ▸ dd_small
      have HB8 := hide hb8
      have HX2 := hide HX1.out
      have HML := hide hml
      clear hsl hbs HM HB HX1 H0 hb8 hml
      by_cases hz : z = 0
      · subst hz
        have hbs0 : bs = [] := by rw [← HT.out]; show dd 0 = []; unfold dd; rw [decs_zero]; rfl
        subst hbs0
        obtain rfl : m = 0 := HML.out
        obtain rfl : ng = false := hsg
        have HS4 := hide (HSL.out.fresh ((Keeps.refl NoB wr).alloc (.cells #[.int .u8 48] 5)))
        have HR4 := hide (one_reads (Blk.new wr 5 #[.int .u8 48]))
        go_wp2_with (at_builtin; refine wpList_append_slab _ rfl (.tmp 36) (.tmp 37) 54 rfl 5 i0 _ 1 1 Tryz.underlying54 hi0 hz0 hz1 hz2 rfl (by omega) A2 0 c2 (u8s []) rfl HS4.out (fun _ => True) true (some ⟨wr.heap.size, 0, none⟩) 1 1 [.int .u8 48] rfl HR4.out (Nat.zero_lt_one) (fun u hu => by simp at hu; subst hu; rfl) (by unfold maxLen; omega) (by omega) ?_)
        intro A5 c5 w5 h1 h2 h3
        obtain ⟨R, o, rfl, hR, hk5⟩ := Slab.at_new h1 ((HKW.out).alloc _) h2 h3 HNW.out
        have HS5 := hide (show Slab w5 5 1 (some ⟨R, o, none⟩) (0 + 1) c5 (u8s [48]) from h1)
        have HR := hide hR; have HK5 := hide hk5
        have HX5 := hide ((HX3.out.alloc (.cells #[.int .u8 48] 5)).keep h2 (fun hr => absurd (HNW.out _ hr) (Nat.not_le.2 HX2.out.lt)))
        have HB5 := hide (show ∀ x ∈ [48].reverse, x < 256 from by decide)
        have HE := hide (show txtL 0 = [48].reverse from rfl)
        clear h1 h2 h3 hR hk5
        have x0 : w5.cell? ⟨w.heap.size, 0, none⟩ = some (.int .u8 1) := HX5.out.cell 0; have x1 : w5.cell? ⟨w.heap.size, 1, none⟩ = some (.bool false) := HX5.out.cell 1
        go_wp2_with (go_at_call 32; refine (reverse_any R o (0 + 1) c5 [48] _ HS5.out).mono ?_; rintro e w6 ⟨rfl, hs6, hk6⟩; have q6 := str_run hs6 HB5.out; have HK6 := hide ((HK1.out.trans' HK5.out (fun _ _ h => h) (fun _ _ h => h)).trans' hk6 (fun _ _ h => h) (fun k h1 h2 => absurd (Nat.lt_of_lt_of_le h1 (Nat.le_trans HK1.out.size HR.out)) (by omega))); clear hs6 hk6)
        go_ret
        refine ⟨?_, HK6.out⟩
        show Ending.returned (.string (strOf _)) = _
        unfold txt
        rw [HE.out]
        try simp
      · have hbp : 0 < bs.length := by rw [← HT.out]; exact dd_pos (by omega)
        have hm0 : 0 < m := by have := HML.out; omega
        have hb0 : ((m : Int) == 0) = false := by simp; omega
        have hm9 : m ≤ 309 := by have := HML.out; omega
        clear hT9
        cases hng : ng with
        | true =>
          rw [hng] at hsg
          subst hng
          have hneg : z < 0 := of_decide_eq_true hsg.symm
          have HE := hide (show txtL z = (bs ++ [45]).reverse from by unfold txtL; rw [if_pos hneg, if_neg hz, HT.out, List.reverse_append]; rfl)
          have HB5 := hide (show ∀ x ∈ (bs ++ [45]).reverse, x < 256 from fun x hx => by
            rw [List.mem_reverse] at hx
            rcases List.mem_append.1 hx with h | h
            · exact HB8.out x h
            · simp at h; omega)
          have HS4 := hide (HSL.out.fresh ((Keeps.refl NoB wr).alloc (.cells #[.int .u8 45] 5)))
          have HR4 := hide (one_reads (Blk.new wr 5 #[.int .u8 45]))
          clear hz hsg hneg hbp
          have x0 : wr.cell? ⟨w.heap.size, 0, none⟩ = some (.int .u8 1) := HX3.out.cell 0; have x1 : wr.cell? ⟨w.heap.size, 1, none⟩ = some (.bool true) := HX3.out.cell 1
          go_wp2_with (at_builtin; refine wpList_append_slab _ rfl (.tmp 41) (.tmp 42) 54 rfl 5 i0 _ 1 1 Tryz.underlying54 hi0 hz0 hz1 hz2 rfl (by omega) A2 m c2 (u8s bs) rfl HS4.out (fun _ => True) true (some ⟨wr.heap.size, 0, none⟩) 1 1 [.int .u8 45] rfl HR4.out (Nat.zero_lt_one) (fun u hu => by simp at hu; subst hu; rfl) (by unfold maxLen; omega) (by omega) ?_)
          intro A5 c5 w5 h1 h2 h3
          obtain ⟨R, o, rfl, hR, hk5⟩ := Slab.at_new h1 ((HKW.out).alloc _) h2 h3 HNW.out
          have HS5 := hide (show Slab w5 5 1 (some ⟨R, o, none⟩) (m + 1) c5 (u8s (bs ++ [45])) from by rw [u8s_append]; exact h1)
          have HR := hide hR; have HK5 := hide hk5
          clear h1 h2 h3 hR hk5
          go_wp2_with (go_at_call 32; refine (reverse_any R o (m + 1) c5 (bs ++ [45]) _ HS5.out).mono ?_; rintro e w6 ⟨rfl, hs6, hk6⟩; have q6 := str_run hs6 HB5.out; have HK6 := hide ((HK1.out.trans' HK5.out (fun _ _ h => h) (fun _ _ h => h)).trans' hk6 (fun _ _ h => h) (fun k h1 h2 => absurd (Nat.lt_of_lt_of_le h1 (Nat.le_trans HK1.out.size HR.out)) (by omega))); clear hs6 hk6)
          go_ret
          refine ⟨?_, HK6.out⟩
          show Ending.returned (.string (strOf _)) = _
          unfold txt
          rw [HE.out]
          try simp
        | false =>
          rw [hng] at hsg
          subst hng
          have hneg : ¬ z < 0 := of_decide_eq_false hsg.symm
          have HE := hide (show txtL z = bs.reverse from by unfold txtL; rw [if_neg hneg, if_neg hz, HT.out]; rfl)
          have HB5 := hide (show ∀ x ∈ bs.reverse, x < 256 from fun x hx => HB8.out x (List.mem_reverse.1 hx))
          obtain ⟨R, o, rfl⟩ := HSL.out.row hm0
          have HS5 := hide HSL.out
          have HR := hide (HNW.out R ⟨o, rfl⟩); have HK5 := hide HKW.out
          clear hz hsg hneg hbp
          have x0 : wr.cell? ⟨w.heap.size, 0, none⟩ = some (.int .u8 1) := HX3.out.cell 0; have x1 : wr.cell? ⟨w.heap.size, 1, none⟩ = some (.bool false) := HX3.out.cell 1
          go_wp2_with (go_at_call 32; refine (reverse_any R o m c2 bs _ HS5.out).mono ?_; rintro e w6 ⟨rfl, hs6, hk6⟩; have q6 := str_run hs6 HB5.out; have HK6 := hide ((HK1.out.trans' HK5.out (fun _ _ h => h) (fun _ _ h => h)).trans' hk6 (fun _ _ h => h) (fun k h1 h2 => absurd (Nat.lt_of_lt_of_le h1 (Nat.le_trans HK1.out.size HR.out)) (by omega))); clear hs6 hk6)
          go_ret
          refine ⟨?_, HK6.out⟩
          show Ending.returned (.string (strOf _)) = _
          unfold txt
          rw [HE.out]
          try simp
end Go.Proofs.YthbbalkhmofndaaGreatDoor
