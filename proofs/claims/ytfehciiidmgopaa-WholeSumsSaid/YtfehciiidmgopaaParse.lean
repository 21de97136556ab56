/- Parse: the integer of a text. -/
import Derived.Test.YtfehciiidmgopaaCut
namespace Go.Proofs.Ytfehciiidmgopaa
open Go.RowKit


/-- A string's bytes. -/
def codes (s : ByteArray) : List Nat := s.data.toList.map UInt8.toNat
theorem codes_len (s : ByteArray) : (codes s).length = s.size := by unfold codes; rw [List.length_map, Array.length_toList]; rfl
theorem codes_lt (s : ByteArray) : ∀ x ∈ codes s, x < 256 := by
  intro x hx
  obtain ⟨b, _, rfl⟩ := List.mem_map.1 hx
  exact b.toNat_lt
theorem ext_list (s : ByteArray) (i j : Nat) : (s.extract i j).data.toList = (s.data.toList.take j).drop i := by
  simp [ByteArray.data_extract, Array.toList_extract, List.extract, List.take_drop]
  rcases Nat.le_total i j with h | h
  · rw [show i + (j - i) = j by omega]
  · rw [List.drop_eq_nil_of_le (by rw [List.length_take]; omega), List.drop_eq_nil_of_le (by rw [List.length_take]; omega)]
theorem hasMinus_eq (s : ByteArray) : hasMinus s = (s.data.toList.head? == some 45) := by
  unfold hasMinus
  rw [Lib.toList_data, ext_list]
  have : s.size = s.data.toList.length := by rw [Array.length_toList]; rfl
  rw [this]
  cases s.data.toList with
  | nil => rfl
  | cons a l => simp
theorem cutS_list (s : ByteArray) : (cutS s).data.toList = if hasMinus s then s.data.toList.drop 1 else s.data.toList := by
  unfold cutS
  split
  · rw [ext_list]
    have : s.size = s.data.toList.length := by rw [Array.length_toList]; rfl
    rw [this, List.take_length]
  · rfl
theorem codes_get (d : ByteArray) (i : Nat) (h : i < d.size) : (d[i]'h).toNat = (codes d).getD i 0 := by
  unfold codes
  rw [List.getD_eq_getElem?_getD, List.getElem?_map, Array.getElem?_toList, Array.getElem?_eq_getElem h]
  rfl
/-- Is it the text of nought? -/
theorem zero_text (s : ByteArray) (h0 : (codes (cutS s)).getD 0 0 = 48) : (s.toList == [48]) = (!hasMinus s && decide ((cutS s).size = 1)) := by
  have hc := cutS_list s
  have hm := hasMinus_eq s
  rw [Lib.toList_data, ← codes_len]
  unfold codes at h0 ⊢
  rw [hc] at h0 ⊢
  cases hs : s.data.toList with
  | nil => rw [hs] at hm; rw [hm]; rfl
  | cons a l =>
    rw [hs] at hm h0
    cases hh : hasMinus s with
    | true =>
      rw [hh] at hm
      have ha : a = 45 := by simpa using hm.symm
      subst ha
      simp
    | false =>
      rw [hh] at h0
      have ha : a.toNat = 48 := by simpa using h0
      have ha' : a = 48 := UInt8.toNat_inj.1 ha
      subst ha'
      cases l <;> simp
def digitC (c : Nat) : Bool := decide (48 ≤ c) && decide (c ≤ 57)
def parseD (neg : Bool) (d : List Nat) : Option Int :=
  if d = [] ∨ 400 < d.length ∨ (d.getD 0 0 = 48 ∧ (neg = true ∨ 1 < d.length)) ∨ ¬ (d.all digitC = true) then none else some (sgn neg (says 0 (d.map (· - 48))))
def ParseP (w : World) (r : Option Int) (e : Ending) (w' : World) : Prop := match r with
  | none => NoP w e w'
  | some z => AnyP w z e w'

theorem says_snoc (n d : Nat) (l : List Nat) : says n (l ++ [d]) = 10 * says n l + d := by rw [says_append]; rfl
/-- The outer loop's state: i bytes are read. -/
structure ParAt (w : World) (ds : List Nat) (i : Nat) (A : Option Addr) (k c : Nat) (ls : List Nat) (wr : World) : Prop where
  keep : Keeps NoB w wr
  slab : Slab wr 44 1 A k c (u32s ls)
  low : Low ls
  val : nat ls = says 0 ((ds.take i).map (· - 48))
  few : k ≤ i
  new : ∀ k, rowB A k → w.heap.size ≤ k
  good : ∀ j, j < i → digitC (ds.getD j 0) = true
structure ParIn (w : World) (ls : List Nat) (D j cy : Nat) (A : Option Addr) (k c : Nat) (os : List Nat) (wr : World) : Prop where
  keep : Keeps NoB w wr
  slab : Slab wr 44 1 A k c (u32s os)
  len : os.length = ls.length
  low : Low os
  tail : ∀ t, j ≤ t → os.getD t 0 = ls.getD t 0
  val : pre os j + B32 ^ j * cy = 10 * pre ls j + D
  carry : cy < B32
theorem ParIn.start {w wr : World} {ls : List Nat} {D : Nat} {A : Option Addr} {k c : Nat} (hk : Keeps NoB w wr) (hs : Slab wr 44 1 A k c (u32s ls)) (hl : Low ls) (hD : D < B32) : ParIn w ls D 0 D A k c ls wr :=
  ⟨hk, hs, rfl, hl, fun _ _ => rfl, by simp [pre], hD⟩
theorem ParIn.step {w wr w' : World} {ls os : List Nat} {D j cy x s k c : Nat} {A : Option Addr} (h : ParIn w ls D j cy A k c os wr) (hj : j < ls.length) (hx : ls.getD j 0 = x) (hs : cy + 10 * x = s) (hs2 : s < B32 * B32)
    (hsl : Slab w' 44 1 A k c (u32s (os.set j (s % B32)))) (hk : Keeps NoB w w') : ParIn w ls D (j + 1) (s / B32) A k c (os.set j (s % B32)) w' := by
  subst hx
  have hl := h.len
  refine ⟨hk, hsl, by simp [hl], h.low.set _ _ (Nat.mod_lt _ (by decide)), fun t ht => by rw [getD_set_ne _ _ (by omega)]; exact h.tail t (by omega), ?_, Nat.div_lt_of_lt_mul hs2⟩
  rw [pre_put os _ (by omega), pre]
  exact ten_step h.val (by rw [hs]; exact (Nat.mod_add_div s B32).symm) rfl
theorem ParIn.done {w wr : World} {ds ls os : List Nat} {D cy i k c : Nat} {A : Option Addr} (h : ParIn w ls D ls.length cy A k c os wr) (hv : nat ls = says 0 ((ds.take i).map (· - 48))) (hi : i < ds.length) (hD : D = ds.getD i 0 - 48) : nat os + B32 ^ ls.length * cy = says 0 ((ds.take (i + 1)).map (· - 48)) := by
  have e := h.val
  rw [pre_len, ← h.len, pre_len, h.len] at e
  have ht : ds.take (i + 1) = ds.take i ++ [ds.getD i 0] := by
    rw [List.take_add_one, List.getD_eq_getElem?_getD, List.getElem?_eq_getElem hi]; rfl
  rw [e, ht, List.map_append, List.map_singleton, says_snoc, ← hv, hD]
theorem parse_bad {neg : Bool} {d : List Nat} (h : d = [] ∨ 400 < d.length ∨ (d.getD 0 0 = 48 ∧ (neg = true ∨ 1 < d.length)) ∨ ¬ (d.all digitC = true)) : parseD neg d = none := by unfold parseD; rw [if_pos h]
theorem parse_good {neg : Bool} {d : List Nat} (h1 : d ≠ []) (h2 : d.length ≤ 400) (h3 : ¬ (d.getD 0 0 = 48 ∧ (neg = true ∨ 1 < d.length))) (h4 : d.all digitC = true) : parseD neg d = some (sgn neg (says 0 (d.map (· - 48)))) := by
  unfold parseD; rw [if_neg]; rintro (h | h | h | h)
  · exact h1 h
  · omega
  · exact h3 h
  · exact h h4
theorem parse_nodigit {neg : Bool} {d : List Nat} {i : Nat} (hi : i < d.length) (h : digitC (d.getD i 0) = false) : parseD neg d = none := parse_bad (.inr (.inr (.inr (fun ha => by
  rw [List.all_eq_true] at ha
  have := ha (d.getD i 0) (by rw [List.getD_eq_getElem?_getD, List.getElem?_eq_getElem hi]; exact List.getElem_mem hi)
  rw [h] at this; cases this))))
theorem all_digits {d : List Nat} (h : ∀ j, j < d.length → digitC (d.getD j 0) = true) : d.all digitC = true := by
  rw [List.all_eq_true]
  intro x hx
  obtain ⟨j, hj, rfl⟩ := List.getElem_of_mem hx
  have := h j hj
  rwa [List.getD_eq_getElem?_getD, List.getElem?_eq_getElem hj] at this

theorem ParAt.next0 {w wr : World} {ds ls os : List Nat} {D i k c : Nat} {A : Option Addr} (h : ParIn w ls D k 0 A k c os wr) (hkl : ls.length = k) (hv : nat ls = says 0 ((ds.take i).map (· - 48))) (hi : i < ds.length) (hD : D = ds.getD i 0 - 48) (hf : k ≤ i) (hn : ∀ k, rowB A k → w.heap.size ≤ k) (hg : ∀ j, j < i → digitC (ds.getD j 0) = true) (hc : digitC (ds.getD i 0) = true) :
    ParAt w ds (i + 1) A k c os wr := by
  subst hkl
  have e := h.done hv hi hD
  rw [Nat.mul_zero, Nat.add_zero] at e
  exact ⟨h.keep, h.slab, h.low, e, by omega, hn, fun j hj => by
    by_cases hji : j = i
    · subst hji; exact hc
    · exact hg j (by omega)⟩
theorem ParAt.next1 {w wr w4 w5 : World} {ds ls os : List Nat} {D i k c c5 cy : Nat} {A A5 : Option Addr} (h : ParIn w ls D k cy A k c os wr) (hkl : ls.length = k) (hv : nat ls = says 0 ((ds.take i).map (· - 48))) (hi : i < ds.length) (hD : D = ds.getD i 0 - 48) (hf : k ≤ i) (hn : ∀ k, rowB A k → w.heap.size ≤ k) (hg : ∀ j, j < i → digitC (ds.getD j 0) = true) (hc : digitC (ds.getD i 0) = true)
    (hk4 : Keeps NoB w w4) (h1 : Slab w5 44 1 A5 (k + 1) c5 (u32s os ++ [.int .u32 (cy : Int)])) (h2 : Keeps (rowB A) w4 w5) (h3 : Moved w4 A A5) : ParAt w ds (i + 1) A5 (k + 1) c5 (os ++ [cy]) w5 := by
  subst hkl
  have e := h.done hv hi hD
  refine ⟨hk4.trans' h2 (fun _ _ h => h) (fun j hj hr => absurd (hn j hr) (Nat.not_le.2 hj)), by rw [u32s_append]; exact h1, h.low.append (fun x hx => by simp at hx; subst hx; exact h.carry), ?_, by omega, fun j hj => ?_, fun j hj => ?_⟩
  · rw [nat_append, h.len, ← e]; simp [nat]
  · rcases h3 j hj with hh | hh
    · exact hn j hh
    · exact Nat.le_trans hk4.size hh
  · by_cases hji : j = i
    · subst hji; exact hc
    · exact hg j (by omega)

set_option maxHeartbeats 1000000 in
set_option maxRecDepth 100000 in
theorem parse_lead (s d : ByteArray) (neg : Bool) (hd1 : 1 ≤ d.size) (h1 : d.size ≤ 400) (w : World) (HC : Hid (∀ w, Calls Try.prog 45 #[.string s, .string { data := #[45] }] w fun e w' => e = .returned (.tuple #[.string d, .bool neg]) ∧ w = w')) (hb0 : (d.toList == []) = false)
    (h3 : (codes d).getD 0 0 ≠ 48) (HG : Hid (parseD neg (codes d) = if (codes d).all digitC then some (sgn neg (says 0 ((codes d).map (· - 48)))) else none)) : Calls Try.prog 16 #[.string s] w (ParseP w (parseD neg (codes d))) := by
  have hdl := codes_len d
  have hb1 : decide ((400 : Int) < (d.size : Int)) = false := by simp; omega
  have hp0 : 0 < d.size := by omega
  have hq0 : (0 : Int) < (d.size : Int) := by omega
  have hg0 := codes_get d 0 hp0
  obtain ⟨c0, hc0⟩ : ∃ c0, (codes d).getD 0 0 = c0 := ⟨_, rfl⟩
  rw [hc0] at hg0 h3
  have hb3 : (c0 == 48) = false := by simp; exact h3
  have hb4 : ((c0 : Int) == 48) = false := by simp; omega
  clear hc0 h3
  obtain ⟨i0, hi0, hz0, hz1, hz2⟩ := info_parts Try.info44
  go_enter Try.func16, Try.ntmps16
  go_wp2_with (go_at_call 45; refine (HC.out _).mono ?_; rintro e w' ⟨rfl, rfl⟩)
  have hsz1 : w.heap.size < (w.alloc (.cells #[.int .u8 0, .bool false, .slice none 0 0, .string { data := #[] }, .int .i64 0, .slice none 0 0, .slice none 0 0] 26)).heap.size := by simp
  have HB1 := hide (Blk.new w 26 #[.int .u8 0, .bool false, .slice none 0 0, .string { data := #[] }, .int .i64 0, .slice none 0 0, .slice none 0 0])
  have HK1 := hide ((Keeps.refl NoB w).alloc (.cells #[.int .u8 0, .bool false, .slice none 0 0, .string { data := #[] }, .int .i64 0, .slice none 0 0, .slice none 0 0] 26))
  generalize w.alloc (.cells #[.int .u8 0, .bool false, .slice none 0 0, .string { data := #[] }, .int .i64 0, .slice none 0 0, .slice none 0 0] 26) = w1 at *
  have H0 := hide (⟨Keeps.refl _ _, Slab.nil _ _ _, Low.nil, rfl, Nat.le_refl _, (fun k ⟨o, e⟩ => by cases e), fun j hj => by omega⟩ : ParAt w1 (codes d) 0 none 0 0 [] w1)
  go_loopw [6, 35] (fun lv iv wr => ∃ (i : Nat) (A : Option Addr) (k c : Nat) (ls : List Nat), lv = .slice A k c ∧ iv = .int .i64 (i : Int) ∧ i ≤ d.size ∧ Hid (ParAt w1 (codes d) i A k c ls wr)) (fun _ iv _ => d.size - (intOf iv).toNat)
  case atStart => exact ⟨0, none, 0, 0, [], rfl, rfl, Nat.zero_le _, H0⟩
  case round =>
    obtain ⟨i, A, k, c, ls, rfl, rfl, hi, HM⟩ := hrel
    have HBr := hide (HB1.out.keep HM.out.keep id)
    have HKr := hide (HK1.out.trans' HM.out.keep (fun _ _ h => h) (fun _ _ h => h))
    have hfew := HM.out.few
    by_cases hlt : i < d.size
    · obtain ⟨C, hC⟩ : ∃ C, (codes d).getD i 0 = C := ⟨_, rfl⟩
      have hgi := codes_get d i hlt
      have hgi0 : (0 : Int) ≤ (i : Int) := by omega
      have hgi1 : (i : Int) < (d.size : Int) := by omega
      have hC2 : C < 256 := by
        rw [← hC, List.getD_eq_getElem?_getD, List.getElem?_eq_getElem (by omega)]
        exact codes_lt d _ (List.getElem_mem _)
      rw [hC] at hgi
      by_cases hgood : 48 ≤ C ∧ C ≤ 57
      · have hdig : digitC C = true := by unfold digitC; rw [decide_eq_true hgood.1, decide_eq_true hgood.2]; rfl
        obtain ⟨D, hD⟩ : ∃ D, D = C - 48 := ⟨_, rfl⟩
        have hD1 : (C : Int) - 48 = (D : Int) := by omega
        have hD2 : D < 10 := by omega
        have c1 : decide (C < 48) = false := decide_eq_false (by omega)
        have c2 : decide ((C : Int) < 48) = false := by simp; omega
        have c3 : decide (57 < C) = false := decide_eq_false (by omega)
        have c4 : decide ((57 : Int) < (C : Int)) = false := by simp; omega
        have hls : ls.length = k := by have := HM.out.slab.1; rw [u32s_len] at this; omega
        have hDC : D = (codes d).getD i 0 - 48 := by rw [hC]; exact hD
        have HN := hide (fun cy os wr (h : ParIn w1 ls D k 0 A k c os wr) (e : cy = 0) => ParAt.next0 (i := i) (ds := codes d) h hls HM.out.val (by omega) hDC HM.out.few HM.out.new HM.out.good (hC ▸ hdig))
        have HN1 := hide (fun cy os wr w4 w5 A5 c5 (h : ParIn w1 ls D k cy A k c os wr) hk4 h1 h2 h3 => ParAt.next1 (w4 := w4) (w5 := w5) (A5 := A5) (c5 := c5) (i := i) (ds := codes d) h hls HM.out.val (by omega) hDC HM.out.few HM.out.new HM.out.good (hC ▸ hdig) hk4 h1 h2 h3)
        have HI0 := hide (ParIn.start (D := D) HM.out.keep HM.out.slab HM.out.low (by unfold B32; omega))
        have HNEW := hide HM.out.new
        clear hgood hdig hC hD hDC HBr HKr
        go_wp2
        go_loopw [8, 56] (fun cv jv wr => ∃ (j cy : Nat) (os : List Nat), cv = .int .u64 (cy : Int) ∧ jv = .int .i64 (j : Int) ∧ j ≤ k ∧ Hid (ParIn w1 ls D j cy A k c os wr)) (fun _ jv _ => k - (intOf jv).toNat)
        case atStart => exact ⟨0, D, ls, rfl, rfl, Nat.zero_le _, HI0⟩
        case round =>
          obtain ⟨j, cy, os, rfl, rfl, hj, HI⟩ := hrel
          have hcy := HI.out.carry
          have hol := HI.out.len
          by_cases hjk : j < k
          · obtain ⟨R, o, rfl⟩ := HI.out.slab.row (by omega)
            obtain ⟨X, hX⟩ : ∃ X, ls.getD j 0 = X := ⟨_, rfl⟩
            have hoX : os.getD j 0 = X := by rw [HI.out.tail j (Nat.le_refl _)]; exact hX
            obtain ⟨q1, q2⟩ := slab_cell HI.out.slab (j := j) (u32s_get (by omega))
            have hx2 : X < B32 := hX ▸ (HM.out.low.get j)
            rw [hoX] at q1
            have HST := hide (fun w' s hs hs2 hsl hk => HI.out.step (w' := w') (s := s) (by omega) hX hs hs2 hsl hk)
            have HSL := hide HI.out.slab; have HKP := hide HI.out.keep
            have hRn := HNEW.out R ⟨o, rfl⟩
            have HRN := hide hRn
            have hj0 : (0 : Int) ≤ (j : Int) := by omega
            have hj1 : (j : Int) < (k : Int) := by omega
            unfold B32 at hcy hx2
            clear hX hoX HI hRn
            go_wp2
            go_roundw
            case rel => exact ⟨j + 1, (cy + 10 * X) / B32, os.set j ((cy + 10 * X) % B32), congrArg (Value.int .u64) (by unfold B32; omega), rfl, by omega, hide (HST.out _ _ rfl (by unfold B32; omega) (by
              have := HSL.out.put1 (j := j) (by omega) (.int .u32 (((cy + 10 * X) % B32 : Nat) : Int))
              rw [← u32s_set] at this
              have e : ((cy : Int) + 10 * (X : Int)) % 4294967296 = (((cy + 10 * X) % B32 : Nat) : Int) := by unfold B32; omega
              rw [e]; exact this) (HKP.out.setCell (p := ⟨R, o + j, none⟩) (.inr HRN.out) _))⟩
            case measure => simp [intOf]; omega
          · obtain rfl : j = k := by omega
            by_cases h00 : cy = 0
            · subst h00
              have HN0 := hide (HN.out 0 os wr HI.out rfl)
              clear hcy HI HN HN1
              go_wp2
              go_roundw
              case rel => exact ⟨i + 1, A, j, c, os, rfl, rfl, by omega, HN0⟩
              case measure => simp [intOf]; omega
            · have e1 : decide (0 < cy) = true := decide_eq_true (by omega)
              have e2 : decide (0 < (cy : Int)) = true := by simp; omega
              unfold B32 at hcy
              have HS4 := hide (HI.out.slab.fresh ((Keeps.refl NoB wr).alloc (.cells #[.int .u32 (cy : Int)] 44)))
              have HR4 := hide (one_reads (Blk.new wr 44 #[.int .u32 (cy : Int)]))
              have HK4 := hide (HI.out.keep.alloc (.cells #[.int .u32 (cy : Int)] 44))
              clear h00 HN
              go_wp2_with (at_builtin; refine wpList_append_slab _ rfl (.tmp 76) (.tmp 79) 23 rfl 44 i0 _ 1 4 Try.underlying23 hi0 hz0 hz1 hz2 rfl (by omega) A j c (u32s os) rfl HS4.out (fun _ => True) true (some ⟨wr.heap.size, 0, none⟩) 1 1 [.int .u32 (cy : Int)] rfl HR4.out (Nat.zero_lt_one) (fun u hu => by simp at hu; subst hu; rfl) (by unfold maxLen; omega) (by omega) ?_)
              intro A5 c5 w5 h1 h2 h3
              have HN0 := hide (HN1.out cy os wr _ w5 A5 c5 HI.out HK4.out h1 h2 h3)
              clear h1 h2 h3 HI HN1 HS4 HR4 HK4
              go_wp2
              go_roundw
              case rel => exact ⟨i + 1, A5, j + 1, c5, os ++ [cy], rfl, rfl, by omega, HN0⟩
              case measure => simp [intOf]; omega
      · have hbad : digitC C = false := by
          unfold digitC
          by_cases h48 : 48 ≤ C
          · rw [decide_eq_false (p := C ≤ 57) (fun h => hgood ⟨h48, h⟩), Bool.and_false]
          · rw [decide_eq_false h48, Bool.false_and]
        have HP := hide (parse_nodigit (neg := neg) (d := codes d) (i := i) (by omega) (hC ▸ hbad))
        have hgs : w.heap.size ≤ w.heap.size := Nat.le_refl _
        have z0 : wr.cell? ⟨w.heap.size, 0, none⟩ = some (.int .u8 0) := HBr.out.cell 0; have z1 : wr.cell? ⟨w.heap.size, 1, none⟩ = some (.bool false) := HBr.out.cell 1; have z2 : wr.cell? ⟨w.heap.size, 2, none⟩ = some (.slice none 0 0) := HBr.out.cell 2; have z3 : wr.cell? ⟨w.heap.size, 3, none⟩ = some (.string { data := #[] }) := HBr.out.cell 3; have z4 : wr.cell? ⟨w.heap.size, 4, none⟩ = some (.int .i64 0) := HBr.out.cell 4; have z5 : wr.cell? ⟨w.heap.size, 5, none⟩ = some (.slice none 0 0) := HBr.out.cell 5; have z6 : wr.cell? ⟨w.heap.size, 6, none⟩ = some (.slice none 0 0) := HBr.out.cell 6
        have f0 : wr.frozen? ⟨w.heap.size, 0, none⟩ = false := HBr.out.free 0; have f1 : wr.frozen? ⟨w.heap.size, 1, none⟩ = false := HBr.out.free 1; have f2 : wr.frozen? ⟨w.heap.size, 2, none⟩ = false := HBr.out.free 2; have f3 : wr.frozen? ⟨w.heap.size, 3, none⟩ = false := HBr.out.free 3; have f4 : wr.frozen? ⟨w.heap.size, 4, none⟩ = false := HBr.out.free 4; have f5 : wr.frozen? ⟨w.heap.size, 5, none⟩ = false := HBr.out.free 5; have f6 : wr.frozen? ⟨w.heap.size, 6, none⟩ = false := HBr.out.free 6
        by_cases h48 : C < 48
        · have c1 : decide (C < 48) = true := decide_eq_true h48
          have c2 : decide ((C : Int) < 48) = true := by simp; omega
          clear hgood hbad hC h48 HC
          go_wp2
          have HBf := hide (HBr.out.put7 (.int .u8 0) (.bool false) (.slice none 0 0) (.string { data := #[] }) (.int .i64 0) (.slice none 0 0) (.slice none 0 0))
          have HKf := hide (HKr.out.set7 (g := w.heap.size) (by omega) (.int .u8 0) (.bool false) (.slice none 0 0) (.string { data := #[] }) (.int .i64 0) (.slice none 0 0) (.slice none 0 0))
          clear z0 z1 z2 z3 z4 z5 z6 f0 f1 f2 f3 f4 f5 f6 HBr HKr
          generalize (((((((wr.setCell ⟨w.heap.size, 0, none⟩ (.int .u8 0)).setCell ⟨w.heap.size, 1, none⟩ (.bool false)).setCell ⟨w.heap.size, 2, none⟩ (.slice none 0 0)).setCell ⟨w.heap.size, 3, none⟩ (.string { data := #[] })).setCell ⟨w.heap.size, 4, none⟩ (.int .i64 0)).setCell ⟨w.heap.size, 5, none⟩ (.slice none 0 0)).setCell ⟨w.heap.size, 6, none⟩ (.slice none 0 0)) = wf at *
          have d0 : wf.cell? ⟨w.heap.size, 0, none⟩ = some (.int .u8 0) := HBf.out.cell 0
          have d1 : wf.cell? ⟨w.heap.size, 1, none⟩ = some (.bool false) := HBf.out.cell 1
          have d2 : wf.cell? ⟨w.heap.size, 2, none⟩ = some (.slice none 0 0) := HBf.out.cell 2
          have d3 : wf.cell? ⟨w.heap.size, 3, none⟩ = some (.string { data := #[] }) := HBf.out.cell 3
          have d4 : wf.cell? ⟨w.heap.size, 4, none⟩ = some (.int .i64 0) := HBf.out.cell 4
          have d5 : wf.cell? ⟨w.heap.size, 5, none⟩ = some (.slice none 0 0) := HBf.out.cell 5
          have d6 : wf.cell? ⟨w.heap.size, 6, none⟩ = some (.slice none 0 0) := HBf.out.cell 6
          refine bodyPost_ret (v := .tuple #[.agg #[.int .u8 0, .bool false, .slice none 0 0, .string { data := #[] }, .int .i64 0, .slice none 0 0, .slice none 0 0], .bool false]) (by simp [results, Try.results16, go_sem, d0, d1, d2, d3, d4, d5, d6]) rfl ?_
          rw [HP.out]
          exact ⟨rfl, HKf.out⟩
        · have c1 : decide (C < 48) = false := decide_eq_false h48
          have c2 : decide ((C : Int) < 48) = false := by simp; omega
          have c3 : decide (57 < C) = true := decide_eq_true (by omega)
          have c4 : decide ((57 : Int) < (C : Int)) = true := by simp; omega
          clear hgood hbad hC h48 HC
          go_wp2
          have HBf := hide (HBr.out.put7 (.int .u8 0) (.bool false) (.slice none 0 0) (.string { data := #[] }) (.int .i64 0) (.slice none 0 0) (.slice none 0 0))
          have HKf := hide (HKr.out.set7 (g := w.heap.size) (by omega) (.int .u8 0) (.bool false) (.slice none 0 0) (.string { data := #[] }) (.int .i64 0) (.slice none 0 0) (.slice none 0 0))
          clear z0 z1 z2 z3 z4 z5 z6 f0 f1 f2 f3 f4 f5 f6 HBr HKr
          generalize (((((((wr.setCell ⟨w.heap.size, 0, none⟩ (.int .u8 0)).setCell ⟨w.heap.size, 1, none⟩ (.bool false)).setCell ⟨w.heap.size, 2, none⟩ (.slice none 0 0)).setCell ⟨w.heap.size, 3, none⟩ (.string { data := #[] })).setCell ⟨w.heap.size, 4, none⟩ (.int .i64 0)).setCell ⟨w.heap.size, 5, none⟩ (.slice none 0 0)).setCell ⟨w.heap.size, 6, none⟩ (.slice none 0 0)) = wf at *
          have d0 : wf.cell? ⟨w.heap.size, 0, none⟩ = some (.int .u8 0) := HBf.out.cell 0
          have d1 : wf.cell? ⟨w.heap.size, 1, none⟩ = some (.bool false) := HBf.out.cell 1
          have d2 : wf.cell? ⟨w.heap.size, 2, none⟩ = some (.slice none 0 0) := HBf.out.cell 2
          have d3 : wf.cell? ⟨w.heap.size, 3, none⟩ = some (.string { data := #[] }) := HBf.out.cell 3
          have d4 : wf.cell? ⟨w.heap.size, 4, none⟩ = some (.int .i64 0) := HBf.out.cell 4
          have d5 : wf.cell? ⟨w.heap.size, 5, none⟩ = some (.slice none 0 0) := HBf.out.cell 5
          have d6 : wf.cell? ⟨w.heap.size, 6, none⟩ = some (.slice none 0 0) := HBf.out.cell 6
          refine bodyPost_ret (v := .tuple #[.agg #[.int .u8 0, .bool false, .slice none 0 0, .string { data := #[] }, .int .i64 0, .slice none 0 0, .slice none 0 0], .bool false]) (by simp [results, Try.results16, go_sem, d0, d1, d2, d3, d4, d5, d6]) rfl ?_
          rw [HP.out]
          exact ⟨rfl, HKf.out⟩
    · obtain rfl : i = d.size := by omega
      have HV := hide (show nat ls = says 0 ((codes d).map (· - 48)) from by
        rw [HM.out.val, List.take_of_length_le (by omega)])
      have HP := hide (HG.out.trans (if_pos (all_digits (fun j hj => HM.out.good j (by omega)))))
      have HL := hide (LimbsIn.of_slab HM.out.slab HM.out.low)
      have hgs : w.heap.size < wr.heap.size := HBr.out.lt
      clear HM HG HC
      go_wp2_with (go_at_call 35; refine (made_any _ _ _ neg ls _ wr _ HL.out rfl).mono ?_; rintro e w5 ⟨kd, ng, A, n, c, ok, rfl, hr, hk⟩; have HB5 := hide (HBr.out.keep hk id); have HA5 := hide hr; have HK6 := hide (HKr.out.trans' hk (fun _ _ => id) (fun _ _ => id)); clear hr hk; have z0 : w5.cell? ⟨w.heap.size, 0, none⟩ = some (.int .u8 0) := HB5.out.cell 0; have z1 : w5.cell? ⟨w.heap.size, 1, none⟩ = some (.bool false) := HB5.out.cell 1; have z2 : w5.cell? ⟨w.heap.size, 2, none⟩ = some (.slice none 0 0) := HB5.out.cell 2; have z3 : w5.cell? ⟨w.heap.size, 3, none⟩ = some (.string { data := #[] }) := HB5.out.cell 3; have z4 : w5.cell? ⟨w.heap.size, 4, none⟩ = some (.int .i64 0) := HB5.out.cell 4; have z5 : w5.cell? ⟨w.heap.size, 5, none⟩ = some (.slice none 0 0) := HB5.out.cell 5; have z6 : w5.cell? ⟨w.heap.size, 6, none⟩ = some (.slice none 0 0) := HB5.out.cell 6; have f0 : w5.frozen? ⟨w.heap.size, 0, none⟩ = false := HB5.out.free 0; have f1 : w5.frozen? ⟨w.heap.size, 1, none⟩ = false := HB5.out.free 1; have f2 : w5.frozen? ⟨w.heap.size, 2, none⟩ = false := HB5.out.free 2; have f3 : w5.frozen? ⟨w.heap.size, 3, none⟩ = false := HB5.out.free 3; have f4 : w5.frozen? ⟨w.heap.size, 4, none⟩ = false := HB5.out.free 4; have f5 : w5.frozen? ⟨w.heap.size, 5, none⟩ = false := HB5.out.free 5; have f6 : w5.frozen? ⟨w.heap.size, 6, none⟩ = false := HB5.out.free 6)
      rw [HV.out] at HA5
      rw [HP.out]
      have HBf := hide (HB5.out.put7 (.int .u8 kd) (.bool ng) (.slice A n c) (.string { data := #[] }) (.int .i64 0) (.slice none 0 0) (.slice none 0 0))
      have HKf := hide (HK6.out.set7 (g := w.heap.size) (by omega) (.int .u8 kd) (.bool ng) (.slice A n c) (.string { data := #[] }) (.int .i64 0) (.slice none 0 0) (.slice none 0 0))
      have HAf := hide ((HA5.out.far (Keeps.set7' (g := w.heap.size) (.int .u8 kd) (.bool ng) (.slice A n c) (.string { data := #[] }) (.int .i64 0) (.slice none 0 0) (.slice none 0 0)) (fun k hk e => by first | omega | (simp at hk; omega))).more (B' := fun k => w.heap.size ≤ k) (fun k _ hk => by first | omega | (simp at hk; omega)))
      clear z0 z1 z2 z3 z4 z5 z6 f0 f1 f2 f3 f4 f5 f6 HB5 HK6 HA5
      generalize (((((((w5.setCell ⟨w.heap.size, 0, none⟩ (.int .u8 kd)).setCell ⟨w.heap.size, 1, none⟩ (.bool ng)).setCell ⟨w.heap.size, 2, none⟩ (.slice A n c)).setCell ⟨w.heap.size, 3, none⟩ (.string { data := #[] })).setCell ⟨w.heap.size, 4, none⟩ (.int .i64 0)).setCell ⟨w.heap.size, 5, none⟩ (.slice none 0 0)).setCell ⟨w.heap.size, 6, none⟩ (.slice none 0 0)) = wf at *
      have d0 : wf.cell? ⟨w.heap.size, 0, none⟩ = some (.int .u8 kd) := HBf.out.cell 0
      have d1 : wf.cell? ⟨w.heap.size, 1, none⟩ = some (.bool ng) := HBf.out.cell 1
      have d2 : wf.cell? ⟨w.heap.size, 2, none⟩ = some (.slice A n c) := HBf.out.cell 2
      have d3 : wf.cell? ⟨w.heap.size, 3, none⟩ = some (.string { data := #[] }) := HBf.out.cell 3
      have d4 : wf.cell? ⟨w.heap.size, 4, none⟩ = some (.int .i64 0) := HBf.out.cell 4
      have d5 : wf.cell? ⟨w.heap.size, 5, none⟩ = some (.slice none 0 0) := HBf.out.cell 5
      have d6 : wf.cell? ⟨w.heap.size, 6, none⟩ = some (.slice none 0 0) := HBf.out.cell 6
      refine bodyPost_ret (v := .tuple #[.agg #[.int .u8 kd, .bool ng, .slice A n c, .string { data := #[] }, .int .i64 0, .slice none 0 0, .slice none 0 0], .bool ok]) (by simp [results, Try.results16, go_sem, d0, d1, d2, d3, d4, d5, d6]) rfl ?_
      exact ⟨kd, ng, A, n, c, ok, rfl, HAf.out, HKf.out⟩

set_option maxHeartbeats 1000000 in
set_option maxRecDepth 100000 in
theorem parse_zero (s d : ByteArray) (neg : Bool) (hd1 : 1 ≤ d.size) (h1 : d.size ≤ 400) (w : World) (HC : Hid (∀ w, Calls Try.prog 45 #[.string s, .string { data := #[45] }] w fun e w' => e = .returned (.tuple #[.string d, .bool neg]) ∧ w = w')) (hb0 : (d.toList == []) = false)
    (h3 : (codes d).getD 0 0 = 48) (hz : (s.toList == [48]) = true) (HG : Hid (parseD neg (codes d) = if (codes d).all digitC then some (sgn neg (says 0 ((codes d).map (· - 48)))) else none)) : Calls Try.prog 16 #[.string s] w (ParseP w (parseD neg (codes d))) := by
  have hdl := codes_len d
  have hb1 : decide ((400 : Int) < (d.size : Int)) = false := by simp; omega
  have hp0 : 0 < d.size := by omega
  have hq0 : (0 : Int) < (d.size : Int) := by omega
  have hg0 := codes_get d 0 hp0
  have hz2 : (s.toList != [48]) = false := by simp [bne, hz]
  rw [h3] at hg0
  clear h3
  obtain ⟨i0, hi0, hz0, hz1, hz2⟩ := info_parts Try.info44
  go_enter Try.func16, Try.ntmps16
  go_wp2_with (go_at_call 45; refine (HC.out _).mono ?_; rintro e w' ⟨rfl, rfl⟩)
  have hsz1 : w.heap.size < (w.alloc (.cells #[.int .u8 0, .bool false, .slice none 0 0, .string { data := #[] }, .int .i64 0, .slice none 0 0, .slice none 0 0] 26)).heap.size := by simp
  have HB1 := hide (Blk.new w 26 #[.int .u8 0, .bool false, .slice none 0 0, .string { data := #[] }, .int .i64 0, .slice none 0 0, .slice none 0 0])
  have HK1 := hide ((Keeps.refl NoB w).alloc (.cells #[.int .u8 0, .bool false, .slice none 0 0, .string { data := #[] }, .int .i64 0, .slice none 0 0, .slice none 0 0] 26))
  generalize w.alloc (.cells #[.int .u8 0, .bool false, .slice none 0 0, .string { data := #[] }, .int .i64 0, .slice none 0 0, .slice none 0 0] 26) = w1 at *
  have H0 := hide (⟨Keeps.refl _ _, Slab.nil _ _ _, Low.nil, rfl, Nat.le_refl _, (fun k ⟨o, e⟩ => by cases e), fun j hj => by omega⟩ : ParAt w1 (codes d) 0 none 0 0 [] w1)
  go_loopw [6, 35] (fun lv iv wr => ∃ (i : Nat) (A : Option Addr) (k c : Nat) (ls : List Nat), lv = .slice A k c ∧ iv = .int .i64 (i : Int) ∧ i ≤ d.size ∧ Hid (ParAt w1 (codes d) i A k c ls wr)) (fun _ iv _ => d.size - (intOf iv).toNat)
  case atStart => exact ⟨0, none, 0, 0, [], rfl, rfl, Nat.zero_le _, H0⟩
  case round =>
    obtain ⟨i, A, k, c, ls, rfl, rfl, hi, HM⟩ := hrel
    have HBr := hide (HB1.out.keep HM.out.keep id)
    have HKr := hide (HK1.out.trans' HM.out.keep (fun _ _ h => h) (fun _ _ h => h))
    have hfew := HM.out.few
    by_cases hlt : i < d.size
    · obtain ⟨C, hC⟩ : ∃ C, (codes d).getD i 0 = C := ⟨_, rfl⟩
      have hgi := codes_get d i hlt
      have hgi0 : (0 : Int) ≤ (i : Int) := by omega
      have hgi1 : (i : Int) < (d.size : Int) := by omega
      have hC2 : C < 256 := by
        rw [← hC, List.getD_eq_getElem?_getD, List.getElem?_eq_getElem (by omega)]
        exact codes_lt d _ (List.getElem_mem _)
      rw [hC] at hgi
      by_cases hgood : 48 ≤ C ∧ C ≤ 57
      · have hdig : digitC C = true := by unfold digitC; rw [decide_eq_true hgood.1, decide_eq_true hgood.2]; rfl
        obtain ⟨D, hD⟩ : ∃ D, D = C - 48 := ⟨_, rfl⟩
        have hD1 : (C : Int) - 48 = (D : Int) := by omega
        have hD2 : D < 10 := by omega
        have c1 : decide (C < 48) = false := decide_eq_false (by omega)
        have c2 : decide ((C : Int) < 48) = false := by simp; omega
        have c3 : decide (57 < C) = false := decide_eq_false (by omega)
        have c4 : decide ((57 : Int) < (C : Int)) = false := by simp; omega
        have hls : ls.length = k := by have := HM.out.slab.1; rw [u32s_len] at this; omega
        have hDC : D = (codes d).getD i 0 - 48 := by rw [hC]; exact hD
        have HN := hide (fun cy os wr (h : ParIn w1 ls D k 0 A k c os wr) (e : cy = 0) => ParAt.next0 (i := i) (ds := codes d) h hls HM.out.val (by omega) hDC HM.out.few HM.out.new HM.out.good (hC ▸ hdig))
        have HN1 := hide (fun cy os wr w4 w5 A5 c5 (h : ParIn w1 ls D k cy A k c os wr) hk4 h1 h2 h3 => ParAt.next1 (w4 := w4) (w5 := w5) (A5 := A5) (c5 := c5) (i := i) (ds := codes d) h hls HM.out.val (by omega) hDC HM.out.few HM.out.new HM.out.good (hC ▸ hdig) hk4 h1 h2 h3)
        have HI0 := hide (ParIn.start (D := D) HM.out.keep HM.out.slab HM.out.low (by unfold B32; omega))
        have HNEW := hide HM.out.new
        clear hgood hdig hC hD hDC HBr HKr
        go_wp2
        go_loopw [8, 56] (fun cv jv wr => ∃ (j cy : Nat) (os : List Nat), cv = .int .u64 (cy : Int) ∧ jv = .int .i64 (j : Int) ∧ j ≤ k ∧ Hid (ParIn w1 ls D j cy A k c os wr)) (fun _ jv _ => k - (intOf jv).toNat)
        case atStart => exact ⟨0, D, ls, rfl, rfl, Nat.zero_le _, HI0⟩
        case round =>
          obtain ⟨j, cy, os, rfl, rfl, hj, HI⟩ := hrel
          have hcy := HI.out.carry
          have hol := HI.out.len
          by_cases hjk : j < k
          · obtain ⟨R, o, rfl⟩ := HI.out.slab.row (by omega)
            obtain ⟨X, hX⟩ : ∃ X, ls.getD j 0 = X := ⟨_, rfl⟩
            have hoX : os.getD j 0 = X := by rw [HI.out.tail j (Nat.le_refl _)]; exact hX
            obtain ⟨q1, q2⟩ := slab_cell HI.out.slab (j := j) (u32s_get (by omega))
            have hx2 : X < B32 := hX ▸ (HM.out.low.get j)
            rw [hoX] at q1
            have HST := hide (fun w' s hs hs2 hsl hk => HI.out.step (w' := w') (s := s) (by omega) hX hs hs2 hsl hk)
            have HSL := hide HI.out.slab; have HKP := hide HI.out.keep
            have hRn := HNEW.out R ⟨o, rfl⟩
            have HRN := hide hRn
            have hj0 : (0 : Int) ≤ (j : Int) := by omega
            have hj1 : (j : Int) < (k : Int) := by omega
            unfold B32 at hcy hx2
            clear hX hoX HI hRn
            go_wp2
            go_roundw
            case rel => exact ⟨j + 1, (cy + 10 * X) / B32, os.set j ((cy + 10 * X) % B32), congrArg (Value.int .u64) (by unfold B32; omega), rfl, by omega, hide (HST.out _ _ rfl (by unfold B32; omega) (by
              have := HSL.out.put1 (j := j) (by omega) (.int .u32 (((cy + 10 * X) % B32 : Nat) : Int))
              rw [← u32s_set] at this
              have e : ((cy : Int) + 10 * (X : Int)) % 4294967296 = (((cy + 10 * X) % B32 : Nat) : Int) := by unfold B32; omega
              rw [e]; exact this) (HKP.out.setCell (p := ⟨R, o + j, none⟩) (.inr HRN.out) _))⟩
            case measure => simp [intOf]; omega
          · obtain rfl : j = k := by omega
            by_cases h00 : cy = 0
            · subst h00
              have HN0 := hide (HN.out 0 os wr HI.out rfl)
              clear hcy HI HN HN1
              go_wp2
              go_roundw
              case rel => exact ⟨i + 1, A, j, c, os, rfl, rfl, by omega, HN0⟩
              case measure => simp [intOf]; omega
            · have e1 : decide (0 < cy) = true := decide_eq_true (by omega)
              have e2 : decide (0 < (cy : Int)) = true := by simp; omega
              unfold B32 at hcy
              have HS4 := hide (HI.out.slab.fresh ((Keeps.refl NoB wr).alloc (.cells #[.int .u32 (cy : Int)] 44)))
              have HR4 := hide (one_reads (Blk.new wr 44 #[.int .u32 (cy : Int)]))
              have HK4 := hide (HI.out.keep.alloc (.cells #[.int .u32 (cy : Int)] 44))
              clear h00 HN
              go_wp2_with (at_builtin; refine wpList_append_slab _ rfl (.tmp 76) (.tmp 79) 23 rfl 44 i0 _ 1 4 Try.underlying23 hi0 hz0 hz1 hz2 rfl (by omega) A j c (u32s os) rfl HS4.out (fun _ => True) true (some ⟨wr.heap.size, 0, none⟩) 1 1 [.int .u32 (cy : Int)] rfl HR4.out (Nat.zero_lt_one) (fun u hu => by simp at hu; subst hu; rfl) (by unfold maxLen; omega) (by omega) ?_)
              intro A5 c5 w5 h1 h2 h3
              have HN0 := hide (HN1.out cy os wr _ w5 A5 c5 HI.out HK4.out h1 h2 h3)
              clear h1 h2 h3 HI HN1 HS4 HR4 HK4
              go_wp2
              go_roundw
              case rel => exact ⟨i + 1, A5, j + 1, c5, os ++ [cy], rfl, rfl, by omega, HN0⟩
              case measure => simp [intOf]; omega
      · have hbad : digitC C = false := by
          unfold digitC
          by_cases h48 : 48 ≤ C
          · rw [decide_eq_false (p := C ≤ 57) (fun h => hgood ⟨h48, h⟩), Bool.and_false]
          · rw [decide_eq_false h48, Bool.false_and]
        have HP := hide (parse_nodigit (neg := neg) (d := codes d) (i := i) (by omega) (hC ▸ hbad))
        have hgs : w.heap.size ≤ w.heap.size := Nat.le_refl _
        have z0 : wr.cell? ⟨w.heap.size, 0, none⟩ = some (.int .u8 0) := HBr.out.cell 0; have z1 : wr.cell? ⟨w.heap.size, 1, none⟩ = some (.bool false) := HBr.out.cell 1; have z2 : wr.cell? ⟨w.heap.size, 2, none⟩ = some (.slice none 0 0) := HBr.out.cell 2; have z3 : wr.cell? ⟨w.heap.size, 3, none⟩ = some (.string { data := #[] }) := HBr.out.cell 3; have z4 : wr.cell? ⟨w.heap.size, 4, none⟩ = some (.int .i64 0) := HBr.out.cell 4; have z5 : wr.cell? ⟨w.heap.size, 5, none⟩ = some (.slice none 0 0) := HBr.out.cell 5; have z6 : wr.cell? ⟨w.heap.size, 6, none⟩ = some (.slice none 0 0) := HBr.out.cell 6
        have f0 : wr.frozen? ⟨w.heap.size, 0, none⟩ = false := HBr.out.free 0; have f1 : wr.frozen? ⟨w.heap.size, 1, none⟩ = false := HBr.out.free 1; have f2 : wr.frozen? ⟨w.heap.size, 2, none⟩ = false := HBr.out.free 2; have f3 : wr.frozen? ⟨w.heap.size, 3, none⟩ = false := HBr.out.free 3; have f4 : wr.frozen? ⟨w.heap.size, 4, none⟩ = false := HBr.out.free 4; have f5 : wr.frozen? ⟨w.heap.size, 5, none⟩ = false := HBr.out.free 5; have f6 : wr.frozen? ⟨w.heap.size, 6, none⟩ = false := HBr.out.free 6
        by_cases h48 : C < 48
        · have c1 : decide (C < 48) = true := decide_eq_true h48
          have c2 : decide ((C : Int) < 48) = true := by simp; omega
          clear hgood hbad hC h48 HC
          go_wp2
          have HBf := hide (HBr.out.put7 (.int .u8 0) (.bool false) (.slice none 0 0) (.string { data := #[] }) (.int .i64 0) (.slice none 0 0) (.slice none 0 0))
          have HKf := hide (HKr.out.set7 (g := w.heap.size) (by omega) (.int .u8 0) (.bool false) (.slice none 0 0) (.string { data := #[] }) (.int .i64 0) (.slice none 0 0) (.slice none 0 0))
          clear z0 z1 z2 z3 z4 z5 z6 f0 f1 f2 f3 f4 f5 f6 HBr HKr
          generalize (((((((wr.setCell ⟨w.heap.size, 0, none⟩ (.int .u8 0)).setCell ⟨w.heap.size, 1, none⟩ (.bool false)).setCell ⟨w.heap.size, 2, none⟩ (.slice none 0 0)).setCell ⟨w.heap.size, 3, none⟩ (.string { data := #[] })).setCell ⟨w.heap.size, 4, none⟩ (.int .i64 0)).setCell ⟨w.heap.size, 5, none⟩ (.slice none 0 0)).setCell ⟨w.heap.size, 6, none⟩ (.slice none 0 0)) = wf at *
          have d0 : wf.cell? ⟨w.heap.size, 0, none⟩ = some (.int .u8 0) := HBf.out.cell 0
          have d1 : wf.cell? ⟨w.heap.size, 1, none⟩ = some (.bool false) := HBf.out.cell 1
          have d2 : wf.cell? ⟨w.heap.size, 2, none⟩ = some (.slice none 0 0) := HBf.out.cell 2
          have d3 : wf.cell? ⟨w.heap.size, 3, none⟩ = some (.string { data := #[] }) := HBf.out.cell 3
          have d4 : wf.cell? ⟨w.heap.size, 4, none⟩ = some (.int .i64 0) := HBf.out.cell 4
          have d5 : wf.cell? ⟨w.heap.size, 5, none⟩ = some (.slice none 0 0) := HBf.out.cell 5
          have d6 : wf.cell? ⟨w.heap.size, 6, none⟩ = some (.slice none 0 0) := HBf.out.cell 6
          refine bodyPost_ret (v := .tuple #[.agg #[.int .u8 0, .bool false, .slice none 0 0, .string { data := #[] }, .int .i64 0, .slice none 0 0, .slice none 0 0], .bool false]) (by simp [results, Try.results16, go_sem, d0, d1, d2, d3, d4, d5, d6]) rfl ?_
          rw [HP.out]
          exact ⟨rfl, HKf.out⟩
        · have c1 : decide (C < 48) = false := decide_eq_false h48
          have c2 : decide ((C : Int) < 48) = false := by simp; omega
          have c3 : decide (57 < C) = true := decide_eq_true (by omega)
          have c4 : decide ((57 : Int) < (C : Int)) = true := by simp; omega
          clear hgood hbad hC h48 HC
          go_wp2
          have HBf := hide (HBr.out.put7 (.int .u8 0) (.bool false) (.slice none 0 0) (.string { data := #[] }) (.int .i64 0) (.slice none 0 0) (.slice none 0 0))
          have HKf := hide (HKr.out.set7 (g := w.heap.size) (by omega) (.int .u8 0) (.bool false) (.slice none 0 0) (.string { data := #[] }) (.int .i64 0) (.slice none 0 0) (.slice none 0 0))
          clear z0 z1 z2 z3 z4 z5 z6 f0 f1 f2 f3 f4 f5 f6 HBr HKr
          generalize (((((((wr.setCell ⟨w.heap.size, 0, none⟩ (.int .u8 0)).setCell ⟨w.heap.size, 1, none⟩ (.bool false)).setCell ⟨w.heap.size, 2, none⟩ (.slice none 0 0)).setCell ⟨w.heap.size, 3, none⟩ (.string { data := #[] })).setCell ⟨w.heap.size, 4, none⟩ (.int .i64 0)).setCell ⟨w.heap.size, 5, none⟩ (.slice none 0 0)).setCell ⟨w.heap.size, 6, none⟩ (.slice none 0 0)) = wf at *
          have d0 : wf.cell? ⟨w.heap.size, 0, none⟩ = some (.int .u8 0) := HBf.out.cell 0
          have d1 : wf.cell? ⟨w.heap.size, 1, none⟩ = some (.bool false) := HBf.out.cell 1
          have d2 : wf.cell? ⟨w.heap.size, 2, none⟩ = some (.slice none 0 0) := HBf.out.cell 2
          have d3 : wf.cell? ⟨w.heap.size, 3, none⟩ = some (.string { data := #[] }) := HBf.out.cell 3
          have d4 : wf.cell? ⟨w.heap.size, 4, none⟩ = some (.int .i64 0) := HBf.out.cell 4
          have d5 : wf.cell? ⟨w.heap.size, 5, none⟩ = some (.slice none 0 0) := HBf.out.cell 5
          have d6 : wf.cell? ⟨w.heap.size, 6, none⟩ = some (.slice none 0 0) := HBf.out.cell 6
          refine bodyPost_ret (v := .tuple #[.agg #[.int .u8 0, .bool false, .slice none 0 0, .string { data := #[] }, .int .i64 0, .slice none 0 0, .slice none 0 0], .bool false]) (by simp [results, Try.results16, go_sem, d0, d1, d2, d3, d4, d5, d6]) rfl ?_
          rw [HP.out]
          exact ⟨rfl, HKf.out⟩
    · obtain rfl : i = d.size := by omega
      have HV := hide (show nat ls = says 0 ((codes d).map (· - 48)) from by
        rw [HM.out.val, List.take_of_length_le (by omega)])
      have HP := hide (HG.out.trans (if_pos (all_digits (fun j hj => HM.out.good j (by omega)))))
      have HL := hide (LimbsIn.of_slab HM.out.slab HM.out.low)
      have hgs : w.heap.size < wr.heap.size := HBr.out.lt
      clear HM HG HC
      go_wp2_with (go_at_call 35; refine (made_any _ _ _ neg ls _ wr _ HL.out rfl).mono ?_; rintro e w5 ⟨kd, ng, A, n, c, ok, rfl, hr, hk⟩; have HB5 := hide (HBr.out.keep hk id); have HA5 := hide hr; have HK6 := hide (HKr.out.trans' hk (fun _ _ => id) (fun _ _ => id)); clear hr hk; have z0 : w5.cell? ⟨w.heap.size, 0, none⟩ = some (.int .u8 0) := HB5.out.cell 0; have z1 : w5.cell? ⟨w.heap.size, 1, none⟩ = some (.bool false) := HB5.out.cell 1; have z2 : w5.cell? ⟨w.heap.size, 2, none⟩ = some (.slice none 0 0) := HB5.out.cell 2; have z3 : w5.cell? ⟨w.heap.size, 3, none⟩ = some (.string { data := #[] }) := HB5.out.cell 3; have z4 : w5.cell? ⟨w.heap.size, 4, none⟩ = some (.int .i64 0) := HB5.out.cell 4; have z5 : w5.cell? ⟨w.heap.size, 5, none⟩ = some (.slice none 0 0) := HB5.out.cell 5; have z6 : w5.cell? ⟨w.heap.size, 6, none⟩ = some (.slice none 0 0) := HB5.out.cell 6; have f0 : w5.frozen? ⟨w.heap.size, 0, none⟩ = false := HB5.out.free 0; have f1 : w5.frozen? ⟨w.heap.size, 1, none⟩ = false := HB5.out.free 1; have f2 : w5.frozen? ⟨w.heap.size, 2, none⟩ = false := HB5.out.free 2; have f3 : w5.frozen? ⟨w.heap.size, 3, none⟩ = false := HB5.out.free 3; have f4 : w5.frozen? ⟨w.heap.size, 4, none⟩ = false := HB5.out.free 4; have f5 : w5.frozen? ⟨w.heap.size, 5, none⟩ = false := HB5.out.free 5; have f6 : w5.frozen? ⟨w.heap.size, 6, none⟩ = false := HB5.out.free 6)
      rw [HV.out] at HA5
      rw [HP.out]
      have HBf := hide (HB5.out.put7 (.int .u8 kd) (.bool ng) (.slice A n c) (.string { data := #[] }) (.int .i64 0) (.slice none 0 0) (.slice none 0 0))
      have HKf := hide (HK6.out.set7 (g := w.heap.size) (by omega) (.int .u8 kd) (.bool ng) (.slice A n c) (.string { data := #[] }) (.int .i64 0) (.slice none 0 0) (.slice none 0 0))
      have HAf := hide ((HA5.out.far (Keeps.set7' (g := w.heap.size) (.int .u8 kd) (.bool ng) (.slice A n c) (.string { data := #[] }) (.int .i64 0) (.slice none 0 0) (.slice none 0 0)) (fun k hk e => by first | omega | (simp at hk; omega))).more (B' := fun k => w.heap.size ≤ k) (fun k _ hk => by first | omega | (simp at hk; omega)))
      clear z0 z1 z2 z3 z4 z5 z6 f0 f1 f2 f3 f4 f5 f6 HB5 HK6 HA5
      generalize (((((((w5.setCell ⟨w.heap.size, 0, none⟩ (.int .u8 kd)).setCell ⟨w.heap.size, 1, none⟩ (.bool ng)).setCell ⟨w.heap.size, 2, none⟩ (.slice A n c)).setCell ⟨w.heap.size, 3, none⟩ (.string { data := #[] })).setCell ⟨w.heap.size, 4, none⟩ (.int .i64 0)).setCell ⟨w.heap.size, 5, none⟩ (.slice none 0 0)).setCell ⟨w.heap.size, 6, none⟩ (.slice none 0 0)) = wf at *
      have d0 : wf.cell? ⟨w.heap.size, 0, none⟩ = some (.int .u8 kd) := HBf.out.cell 0
      have d1 : wf.cell? ⟨w.heap.size, 1, none⟩ = some (.bool ng) := HBf.out.cell 1
      have d2 : wf.cell? ⟨w.heap.size, 2, none⟩ = some (.slice A n c) := HBf.out.cell 2
      have d3 : wf.cell? ⟨w.heap.size, 3, none⟩ = some (.string { data := #[] }) := HBf.out.cell 3
      have d4 : wf.cell? ⟨w.heap.size, 4, none⟩ = some (.int .i64 0) := HBf.out.cell 4
      have d5 : wf.cell? ⟨w.heap.size, 5, none⟩ = some (.slice none 0 0) := HBf.out.cell 5
      have d6 : wf.cell? ⟨w.heap.size, 6, none⟩ = some (.slice none 0 0) := HBf.out.cell 6
      refine bodyPost_ret (v := .tuple #[.agg #[.int .u8 kd, .bool ng, .slice A n c, .string { data := #[] }, .int .i64 0, .slice none 0 0, .slice none 0 0], .bool ok]) (by simp [results, Try.results16, go_sem, d0, d1, d2, d3, d4, d5, d6]) rfl ?_
      exact ⟨kd, ng, A, n, c, ok, rfl, HAf.out, HKf.out⟩
set_option maxHeartbeats 1000000 in
set_option maxRecDepth 100000 in
theorem parse_any (s : ByteArray) (hs : s.size ≤ maxLen) (w : World) : Calls Try.prog 16 #[.string s] w (ParseP w (parseD (hasMinus s) (codes (cutS s)))) := by
  obtain ⟨d, hd⟩ : ∃ d, cutS s = d := ⟨_, rfl⟩
  have HC := hide (cut_any s hs)
  rw [hd] at HC ⊢
  have hsz : d.size ≤ s.size := by
    rw [← hd, ← codes_len, ← codes_len]
    unfold codes
    rw [List.length_map, List.length_map, cutS_list]
    split
    · rw [List.length_drop]; omega
    · exact Nat.le_refl _
  have hdl := codes_len d
  have hZ := zero_text s
  rw [hd] at hZ
  by_cases h0 : d = ByteArray.empty
  · subst h0
    have HP := hide (parse_bad (neg := hasMinus s) (d := codes ByteArray.empty) (.inl rfl))
    generalize hasMinus s = neg at *
    clear hZ hdl
    go_enter Try.func16, Try.ntmps16
    go_wp2_with (go_at_call 45; refine (HC.out _).mono ?_; rintro e w' ⟨rfl, rfl⟩)
    have HBz := hide (Blk.new w 26 #[.int .u8 0, .bool false, .slice none 0 0, .string { data := #[] }, .int .i64 0, .slice none 0 0, .slice none 0 0])
    have HKz := hide ((Keeps.refl NoB w).alloc (.cells #[.int .u8 0, .bool false, .slice none 0 0, .string { data := #[] }, .int .i64 0, .slice none 0 0, .slice none 0 0] 26))
    generalize w.alloc (.cells #[.int .u8 0, .bool false, .slice none 0 0, .string { data := #[] }, .int .i64 0, .slice none 0 0, .slice none 0 0] 26) = w7 at *
    have d0 : w7.cell? ⟨w.heap.size, 0, none⟩ = some (.int .u8 0) := HBz.out.cell 0
    have d1 : w7.cell? ⟨w.heap.size, 1, none⟩ = some (.bool false) := HBz.out.cell 1
    have d2 : w7.cell? ⟨w.heap.size, 2, none⟩ = some (.slice none 0 0) := HBz.out.cell 2
    have d3 : w7.cell? ⟨w.heap.size, 3, none⟩ = some (.string { data := #[] }) := HBz.out.cell 3
    have d4 : w7.cell? ⟨w.heap.size, 4, none⟩ = some (.int .i64 0) := HBz.out.cell 4
    have d5 : w7.cell? ⟨w.heap.size, 5, none⟩ = some (.slice none 0 0) := HBz.out.cell 5
    have d6 : w7.cell? ⟨w.heap.size, 6, none⟩ = some (.slice none 0 0) := HBz.out.cell 6
    refine bodyPost_ret (v := .tuple #[.agg #[.int .u8 0, .bool false, .slice none 0 0, .string { data := #[] }, .int .i64 0, .slice none 0 0, .slice none 0 0], .bool false]) (by simp [results, Try.results16, go_sem, d0, d1, d2, d3, d4, d5, d6]) rfl ?_
    rw [HP.out]
    exact ⟨rfl, HKz.out⟩
  · have hb0 : (d.toList == []) = false := by have := strs_ne h0; rw [Lib.toList_data ByteArray.empty] at this; exact this
    have hd1 : 1 ≤ d.size := by
      rcases Nat.eq_zero_or_pos d.size with e | e
      · exact absurd (ByteArray.ext (Array.eq_empty_of_size_eq_zero e)) h0
      · exact e
    by_cases h1 : d.size ≤ 400
    · have hb1 : decide ((400 : Int) < (d.size : Int)) = false := by simp; omega
      have hp0 : 0 < d.size := by omega
      have hq0 : (0 : Int) < (d.size : Int) := by omega
      have hg0 := codes_get d 0 hp0
      by_cases h3 : (codes d).getD 0 0 = 48 ∧ (hasMinus s = true ∨ 1 < (codes d).length)
      · have HP := hide (parse_bad (neg := hasMinus s) (d := codes d) (.inr (.inr (.inl h3))))
        have hz := hZ h3.1
        have hz' : (!hasMinus s && decide (d.size = 1)) = false := by
          rw [← hdl]
          rcases h3.2 with h | h
          · rw [h]; rfl
          · rw [decide_eq_false (by omega), Bool.and_false]
        rw [hz'] at hz
        have hz2 : (s.toList != [48]) = true := by simp [bne, hz]
        rw [h3.1] at hg0
        generalize hasMinus s = neg at *
        clear h3 hZ hz' hdl
        go_enter Try.func16, Try.ntmps16
        go_wp2_with (go_at_call 45; refine (HC.out _).mono ?_; rintro e w' ⟨rfl, rfl⟩)
        have HBz := hide (Blk.new w 26 #[.int .u8 0, .bool false, .slice none 0 0, .string { data := #[] }, .int .i64 0, .slice none 0 0, .slice none 0 0])
        have HKz := hide ((Keeps.refl NoB w).alloc (.cells #[.int .u8 0, .bool false, .slice none 0 0, .string { data := #[] }, .int .i64 0, .slice none 0 0, .slice none 0 0] 26))
        generalize w.alloc (.cells #[.int .u8 0, .bool false, .slice none 0 0, .string { data := #[] }, .int .i64 0, .slice none 0 0, .slice none 0 0] 26) = w7 at *
        have d0 : w7.cell? ⟨w.heap.size, 0, none⟩ = some (.int .u8 0) := HBz.out.cell 0
        have d1 : w7.cell? ⟨w.heap.size, 1, none⟩ = some (.bool false) := HBz.out.cell 1
        have d2 : w7.cell? ⟨w.heap.size, 2, none⟩ = some (.slice none 0 0) := HBz.out.cell 2
        have d3 : w7.cell? ⟨w.heap.size, 3, none⟩ = some (.string { data := #[] }) := HBz.out.cell 3
        have d4 : w7.cell? ⟨w.heap.size, 4, none⟩ = some (.int .i64 0) := HBz.out.cell 4
        have d5 : w7.cell? ⟨w.heap.size, 5, none⟩ = some (.slice none 0 0) := HBz.out.cell 5
        have d6 : w7.cell? ⟨w.heap.size, 6, none⟩ = some (.slice none 0 0) := HBz.out.cell 6
        refine bodyPost_ret (v := .tuple #[.agg #[.int .u8 0, .bool false, .slice none 0 0, .string { data := #[] }, .int .i64 0, .slice none 0 0, .slice none 0 0], .bool false]) (by simp [results, Try.results16, go_sem, d0, d1, d2, d3, d4, d5, d6]) rfl ?_
        rw [HP.out]
        exact ⟨rfl, HKz.out⟩
      · have HG := hide (show parseD (hasMinus s) (codes d) = if (codes d).all digitC then some (sgn (hasMinus s) (says 0 ((codes d).map (· - 48)))) else none from by
          by_cases ha : (codes d).all digitC = true
          · rw [if_pos ha]
            exact parse_good (fun e => by rw [e] at hdl; simp at hdl; omega) (by omega) h3 ha
          · rw [if_neg ha]
            exact parse_bad (.inr (.inr (.inr ha))))
        by_cases h48 : (codes d).getD 0 0 = 48
        · have hz := hZ h48
          have hm : hasMinus s = false := by
            cases hh : hasMinus s with
            | false => rfl
            | true => exact absurd ⟨h48, .inl hh⟩ h3
          rw [hm, decide_eq_true (by
            rcases (by omega : d.size = 1 ∨ 1 < d.size) with e | e
            · exact e
            · exact absurd ⟨h48, .inr (by omega)⟩ h3)] at hz
          exact parse_zero s d _ hd1 h1 w HC hb0 h48 hz HG
        · exact parse_lead s d _ hd1 h1 w HC hb0 h48 HG
    · have hb1 : decide ((400 : Int) < (d.size : Int)) = true := by simp; omega
      have HP := hide (parse_bad (neg := hasMinus s) (d := codes d) (.inr (.inl (by omega))))
      generalize hasMinus s = neg at *
      clear hZ hdl
      have hd5 : d.size ≤ 9223372036854775807 := by unfold maxLen at hs; omega
      go_enter Try.func16, Try.ntmps16
      go_wp2_with (go_at_call 45; refine (HC.out _).mono ?_; rintro e w' ⟨rfl, rfl⟩)
      have HBz := hide (Blk.new w 26 #[.int .u8 0, .bool false, .slice none 0 0, .string { data := #[] }, .int .i64 0, .slice none 0 0, .slice none 0 0])
      have HKz := hide ((Keeps.refl NoB w).alloc (.cells #[.int .u8 0, .bool false, .slice none 0 0, .string { data := #[] }, .int .i64 0, .slice none 0 0, .slice none 0 0] 26))
      generalize w.alloc (.cells #[.int .u8 0, .bool false, .slice none 0 0, .string { data := #[] }, .int .i64 0, .slice none 0 0, .slice none 0 0] 26) = w7 at *
      have d0 : w7.cell? ⟨w.heap.size, 0, none⟩ = some (.int .u8 0) := HBz.out.cell 0
      have d1 : w7.cell? ⟨w.heap.size, 1, none⟩ = some (.bool false) := HBz.out.cell 1
      have d2 : w7.cell? ⟨w.heap.size, 2, none⟩ = some (.slice none 0 0) := HBz.out.cell 2
      have d3 : w7.cell? ⟨w.heap.size, 3, none⟩ = some (.string { data := #[] }) := HBz.out.cell 3
      have d4 : w7.cell? ⟨w.heap.size, 4, none⟩ = some (.int .i64 0) := HBz.out.cell 4
      have d5 : w7.cell? ⟨w.heap.size, 5, none⟩ = some (.slice none 0 0) := HBz.out.cell 5
      have d6 : w7.cell? ⟨w.heap.size, 6, none⟩ = some (.slice none 0 0) := HBz.out.cell 6
      refine bodyPost_ret (v := .tuple #[.agg #[.int .u8 0, .bool false, .slice none 0 0, .string { data := #[] }, .int .i64 0, .slice none 0 0, .slice none 0 0], .bool false]) (by simp [results, Try.results16, go_sem, d0, d1, d2, d3, d4, d5, d6]) rfl ?_
      rw [HP.out]
      exact ⟨rfl, HKz.out⟩
end Go.Proofs.Ytfehciiidmgopaa
