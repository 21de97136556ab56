/- SameTerm at integers; Text at what is none; a text read again. -/
import Derived.Test.YtfehciiidmgopaaInt
namespace Go.Proofs.Ytfehciiidmgopaa
open Go.RowKit


set_option maxRecDepth 100000 in
theorem text_bad (kd nm : Int) (ng : Bool) (la ia ta : Option Addr) (ln lc im ic tm tc : Nat) (tx : ByteArray) (l : List Nat) (w : World) (B : Nat → Prop) (hl : LimbsIn w B la ln lc l) (hi : im ≤ 140737488355328) (ht : tm ≤ 140737488355328) (hr : rightB kd ng l tx nm im tm = false) :
    Calls Try.prog 18 #[.agg #[.int .u8 kd, .bool ng, .slice la ln lc, .string tx, .int .i64 nm, .slice ia im ic, .slice ta tm tc]] w fun e w' => e = .returned (.string { data := #[] }) ∧ Keeps NoB w w' := by
  have HR := hide (right_any kd nm ng la ia ta ln lc im ic tm tc tx l (w.alloc (.cells #[.int .u8 kd, .bool ng, .slice la ln lc, .string tx, .int .i64 nm, .slice ia im ic, .slice ta tm tc] 26)) B (hl.keep ((Keeps.refl NoB w).alloc _)) hi ht)
  rw [hr] at HR
  have HK0 := hide ((Keeps.refl NoB w).alloc (.cells #[.int .u8 kd, .bool ng, .slice la ln lc, .string tx, .int .i64 nm, .slice ia im ic, .slice ta tm tc] 26))
  clear hl hr
  go_enter Try.func18, Try.ntmps18
  go_wp2_with (go_at_call 24; refine HR.out.mono ?_; rintro e w1 ⟨rfl, hk1⟩)
  go_ret
  exact ⟨rfl, HK0.out.trans' hk1 (fun _ _ h => h) (fun _ _ h => h)⟩

set_option maxRecDepth 100000 in
theorem same_none (A A' : Option Addr) (c c' : Nat) (w : World) : Calls Try.prog 44 #[.slice A 0 c, .slice A' 0 c'] w fun e w' => e = .returned (.bool true) ∧ Keeps NoB w w' := by
  go_enter Try.func44, Try.ntmps44
  go_wp2
  go_loop [5] (fun iv => iv = .int .i64 0) (fun _ => 0)
  case atStart => exact rfl
  case round =>
    obtain rfl := hrel
    go_wp2
    go_ret
    exact ⟨rfl, Keeps.refl _ _⟩
set_option maxRecDepth 100000 in
theorem same_limbs (A A' : Option Addr) (n c n' c' : Nat) (l : List Nat) (w : World) (B B' : Nat → Prop) (h : LimbsIn w B A n c l) (h' : LimbsIn w B' A' n' c' l) :
    Calls Try.prog 43 #[.slice A n c, .slice A' n' c'] w fun e w' => e = .returned (.bool true) ∧ Keeps NoB w w' := by
  have hl := h.len; have hl' := h'.len
  obtain rfl : n = n' := by omega
  have hm := Nat.le_trans h.cap h.max
  unfold maxLen at hm
  have HL := hide h; have HL' := hide h'
  clear h h'
  go_enter Try.func43, Try.ntmps43
  go_wp2
  go_loopw [5] (fun i wr => ∃ k : Nat, k ≤ n ∧ i = .int .i64 k ∧ Hid (Keeps NoB w wr)) (fun i _ => n - (intOf i).toNat)
  case atStart => exact ⟨0, Nat.zero_le _, rfl, hide (Keeps.refl _ _)⟩
  case round =>
    obtain ⟨k, hk, rfl, HK⟩ := hrel
    by_cases hlt : k < n
    · obtain ⟨b, o, rfl, hb, hc⟩ := (HL.out.keep HK.out).at (by omega)
      obtain ⟨b', o', rfl, hb', hc'⟩ := (HL'.out.keep HK.out).at (by omega)
      have q := hc k (by omega)
      have q' := hc' k (by omega)
      have hk0 : (0 : Int) ≤ (k : Int) := by omega
      have hk1 : (k : Int) < (n : Int) := by omega
      generalize l.getD k 0 = u at *
      clear hc hc'
      go_wp2_with (go_quiet (fail))
      go_roundw
      case rel => exact ⟨k + 1, by omega, by go_num, hide (HK.out.drewN _)⟩
      case measure => simp [intOf]; omega
    · go_wp2
      go_ret
      exact ⟨rfl, HK.out⟩

set_option maxHeartbeats 1000000 in
set_option maxRecDepth 100000 in
theorem same_like (kd nm : Int) (ng : Bool) (A A' ia ta ia' ta' : Option Addr) (n c n' c' ic tc ic' tc' : Nat) (tx : ByteArray) (l : List Nat) (w : World) (B B' : Nat → Prop) (h : LimbsIn w B A n c l) (h' : LimbsIn w B' A' n' c' l) :
    Calls Try.prog 15 #[.agg #[.int .u8 kd, .bool ng, .slice A n c, .string tx, .int .i64 nm, .slice ia 0 ic, .slice ta 0 tc], .agg #[.int .u8 kd, .bool ng, .slice A' n' c', .string tx, .int .i64 nm, .slice ia' 0 ic', .slice ta' 0 tc']] w fun e w' => e = .returned (.bool true) ∧ Keeps NoB w w' := by
  have HL := hide h; have HL' := hide h'
  clear h h'
  have M1 := hide True.intro
  go_enter Try.func15, Try.ntmps15
  have HX0 := hide ((Blk.new w 26 #[.int .u8 kd, .bool ng, .slice A n c, .string tx, .int .i64 nm, .slice ia 0 ic, .slice ta 0 tc]).alloc (.cells #[.int .u8 kd, .bool ng, .slice A' n' c', .string tx, .int .i64 nm, .slice ia' 0 ic', .slice ta' 0 tc'] 26))
  have HY0 := hide (Blk.new2' w (.cells #[.int .u8 kd, .bool ng, .slice A n c, .string tx, .int .i64 nm, .slice ia 0 ic, .slice ta 0 tc] 26) 26 #[.int .u8 kd, .bool ng, .slice A' n' c', .string tx, .int .i64 nm, .slice ia' 0 ic', .slice ta' 0 tc'])
  have HK0 := hide (((Keeps.refl NoB w).alloc (.cells #[.int .u8 kd, .bool ng, .slice A n c, .string tx, .int .i64 nm, .slice ia 0 ic, .slice ta 0 tc] 26)).alloc (.cells #[.int .u8 kd, .bool ng, .slice A' n' c', .string tx, .int .i64 nm, .slice ia' 0 ic', .slice ta' 0 tc'] 26))
  go_wp2_with first | (go_at_call 43; refine (same_limbs _ _ _ _ _ _ _ _ _ _ (HL.out.keep HK0.out) (HL'.out.keep HK0.out)).mono ?_; rintro e w1 ⟨rfl, hk1⟩; have HX1 := hide (HX0.out.keep hk1 id); have HY1 := hide (HY0.out.keep hk1 id); have HK1 := hide (HK0.out.trans' hk1 (fun _ _ h => h) (fun _ _ h => h)); clear hk1 HX0 HY0 HK0; have x0 : w1.cell? ⟨w.heap.size, 0, none⟩ = some (.int .u8 kd) := HX1.out.cell 0; have x1 : w1.cell? ⟨w.heap.size, 1, none⟩ = some (.bool ng) := HX1.out.cell 1; have x2 : w1.cell? ⟨w.heap.size, 2, none⟩ = some (.slice A n c) := HX1.out.cell 2; have x3 : w1.cell? ⟨w.heap.size, 3, none⟩ = some (.string tx) := HX1.out.cell 3; have x4 : w1.cell? ⟨w.heap.size, 4, none⟩ = some (.int .i64 nm) := HX1.out.cell 4; have x5 : w1.cell? ⟨w.heap.size, 5, none⟩ = some (.slice ia 0 ic) := HX1.out.cell 5; have x6 : w1.cell? ⟨w.heap.size, 6, none⟩ = some (.slice ta 0 tc) := HX1.out.cell 6; have y0 : w1.cell? ⟨w.heap.size + 1, 0, none⟩ = some (.int .u8 kd) := HY1.out.cell 0; have y1 : w1.cell? ⟨w.heap.size + 1, 1, none⟩ = some (.bool ng) := HY1.out.cell 1; have y2 : w1.cell? ⟨w.heap.size + 1, 2, none⟩ = some (.slice A' n' c') := HY1.out.cell 2; have y3 : w1.cell? ⟨w.heap.size + 1, 3, none⟩ = some (.string tx) := HY1.out.cell 3; have y4 : w1.cell? ⟨w.heap.size + 1, 4, none⟩ = some (.int .i64 nm) := HY1.out.cell 4; have y5 : w1.cell? ⟨w.heap.size + 1, 5, none⟩ = some (.slice ia' 0 ic') := HY1.out.cell 5; have y6 : w1.cell? ⟨w.heap.size + 1, 6, none⟩ = some (.slice ta' 0 tc') := HY1.out.cell 6) | (clear M1; go_at_call 44; refine (same_none _ _ _ _ w1).mono ?_; rintro e w2 ⟨rfl, hk2⟩; have HX2 := hide (HX1.out.keep hk2 id); have HY2 := hide (HY1.out.keep hk2 id); have HK2 := hide (HK1.out.trans' hk2 (fun _ _ h => h) (fun _ _ h => h)); clear hk2 HX1 HY1 HK1 x0 x1 x2 x3 x4 x5 x6 y0 y1 y2 y3 y4 y5 y6; have x0 : w2.cell? ⟨w.heap.size, 0, none⟩ = some (.int .u8 kd) := HX2.out.cell 0; have x1 : w2.cell? ⟨w.heap.size, 1, none⟩ = some (.bool ng) := HX2.out.cell 1; have x2 : w2.cell? ⟨w.heap.size, 2, none⟩ = some (.slice A n c) := HX2.out.cell 2; have x3 : w2.cell? ⟨w.heap.size, 3, none⟩ = some (.string tx) := HX2.out.cell 3; have x4 : w2.cell? ⟨w.heap.size, 4, none⟩ = some (.int .i64 nm) := HX2.out.cell 4; have x5 : w2.cell? ⟨w.heap.size, 5, none⟩ = some (.slice ia 0 ic) := HX2.out.cell 5; have x6 : w2.cell? ⟨w.heap.size, 6, none⟩ = some (.slice ta 0 tc) := HX2.out.cell 6; have y0 : w2.cell? ⟨w.heap.size + 1, 0, none⟩ = some (.int .u8 kd) := HY2.out.cell 0; have y1 : w2.cell? ⟨w.heap.size + 1, 1, none⟩ = some (.bool ng) := HY2.out.cell 1; have y2 : w2.cell? ⟨w.heap.size + 1, 2, none⟩ = some (.slice A' n' c') := HY2.out.cell 2; have y3 : w2.cell? ⟨w.heap.size + 1, 3, none⟩ = some (.string tx) := HY2.out.cell 3; have y4 : w2.cell? ⟨w.heap.size + 1, 4, none⟩ = some (.int .i64 nm) := HY2.out.cell 4; have y5 : w2.cell? ⟨w.heap.size + 1, 5, none⟩ = some (.slice ia' 0 ic') := HY2.out.cell 5; have y6 : w2.cell? ⟨w.heap.size + 1, 6, none⟩ = some (.slice ta' 0 tc') := HY2.out.cell 6) | (go_at_call 44; refine (same_none _ _ _ _ w2).mono ?_; rintro e w3 ⟨rfl, hk3⟩; have HK3 := hide (HK2.out.trans' hk3 (fun _ _ h => h) (fun _ _ h => h)); clear hk3) | fail
  go_ret
  exact ⟨rfl, HK3.out⟩
theorem same_int (ng ng' : Bool) (A A' ia ta ia' ta' : Option Addr) (n c n' c' ic tc ic' tc' : Nat) (z : Int) (w : World) (B B' : Nat → Prop) (h : IA w B ng A n c z) (h' : IA w B' ng' A' n' c' z) :
    Calls Try.prog 15 #[.agg #[.int .u8 1, .bool ng, .slice A n c, .string { data := #[] }, .int .i64 0, .slice ia 0 ic, .slice ta 0 tc], .agg #[.int .u8 1, .bool ng', .slice A' n' c', .string { data := #[] }, .int .i64 0, .slice ia' 0 ic', .slice ta' 0 tc']] w fun e w' => e = .returned (.bool true) ∧ Keeps NoB w w' := by
  obtain rfl : ng = ng' := by rw [h.sign, h'.sign]
  exact same_like 1 0 ng A A' ia ta ia' ta' n c n' c' ic tc ic' tc' _ _ w B B' h.limbs h'.limbs

/-! ### What is written is read again -/
theorem codes_str {L : List Nat} (h : ∀ x ∈ L, x < 256) : codes (strOf L) = L := by
  unfold codes strOf
  rw [List.map_map]
  conv => rhs; rw [← List.map_id L]
  refine List.map_congr_left fun x hx => ?_
  have := h x hx
  simp [UInt8.toNat_ofNat_of_lt' (n := x) (by simpa using this)]
theorem txtL_small (z : Int) : ∀ x ∈ txtL z, x < 256 := by
  unfold txtL
  intro x hx
  rcases List.mem_append.1 hx with h | h
  · split at h
    · simp at h; omega
    · cases h
  · split at h
    · simp at h; omega
    · exact dd_small x (List.mem_reverse.1 h)
theorem txt_size (z : Int) : (txt z).size = (txtL z).length := by
  rw [← codes_len, txt, codes_str (txtL_small z)]
/-- The digits' part. -/
def bodyL (z : Int) : List Nat := if z = 0 then [48] else (dd z.natAbs).reverse
theorem bodyL_top (z : Int) : ∃ d l, bodyL z = (48 + d) :: l ∧ d < 10 ∧ (d = 0 → z = 0 ∧ l = []) := by
  unfold bodyL
  by_cases h : z = 0
  · rw [if_pos h]; exact ⟨0, [], rfl, by decide, fun _ => ⟨h, rfl⟩⟩
  · rw [if_neg h]
    obtain ⟨d, l, e, hd⟩ := decs_top (n := z.natAbs) (by omega)
    refine ⟨d, l.map (48 + ·), ?_, ?_, fun h0 => absurd h0 hd⟩
    · unfold dd; rw [← List.map_reverse, e]; rfl
    · exact decs_lt z.natAbs d (List.mem_reverse.1 (e ▸ List.mem_cons_self ..))
theorem bodyL_digits (z : Int) : (bodyL z).all digitC = true := by
  rw [List.all_eq_true]
  intro x hx
  have h : ∃ d, d < 10 ∧ x = 48 + d := by
    unfold bodyL at hx
    split at hx
    · simp at hx; exact ⟨0, by decide, hx⟩
    · obtain ⟨d, hd, rfl⟩ := List.mem_map.1 (List.mem_reverse.1 hx)
      exact ⟨d, decs_lt _ d hd, rfl⟩
  obtain ⟨d, hd, rfl⟩ := h
  unfold digitC
  rw [decide_eq_true (by omega), decide_eq_true (by omega)]; rfl
theorem bodyL_says (z : Int) : says 0 ((bodyL z).map (· - 48)) = z.natAbs := by
  unfold bodyL
  split
  · rename_i h; subst h; rfl
  · unfold dd
    rw [← List.map_reverse, List.map_map, show ((fun x => x - 48) ∘ fun x => 48 + x) = (fun x : Nat => x) from by funext x; simp, List.map_id']
    exact says_decs _
theorem bodyL_len {z : Int} (h : z.natAbs < Big) : (bodyL z).length ≤ 400 := by
  unfold bodyL
  split
  · decide
  · rw [List.length_reverse]; have := dd_len h; omega
theorem txt_minus (z : Int) : hasMinus (txt z) = decide (z < 0) := by
  rw [hasMinus_eq]
  have hc : codes (txt z) = txtL z := codes_str (txtL_small z)
  unfold codes at hc
  obtain ⟨d, l, e, hd, _⟩ := bodyL_top z
  have ht : txtL z = (if z < 0 then [45] else []) ++ bodyL z := rfl
  rw [ht, e] at hc
  cases hs : (txt z).data.toList with
  | nil => rw [hs] at hc; split at hc <;> simp at hc
  | cons a m =>
    rw [hs] at hc
    by_cases hz : z < 0
    · rw [if_pos hz] at hc
      simp only [List.map_cons, List.cons_append, List.cons.injEq] at hc
      have ha : a = 45 := UInt8.toNat_inj.1 hc.1
      rw [decide_eq_true hz, ha]; rfl
    · rw [if_neg hz] at hc
      simp only [List.map_cons, List.nil_append, List.cons.injEq] at hc
      rw [decide_eq_false hz]
      have : a ≠ 45 := fun h => by rw [h] at hc; have := hc.1; simp at this; omega
      simp [this]
theorem txt_cut (z : Int) : codes (cutS (txt z)) = bodyL z := by
  have hc : codes (txt z) = txtL z := codes_str (txtL_small z)
  unfold codes at hc ⊢
  rw [cutS_list, txt_minus]
  have ht : txtL z = (if z < 0 then [45] else []) ++ bodyL z := rfl
  by_cases hz : z < 0
  · rw [decide_eq_true hz, if_pos rfl, List.map_drop, hc, ht, if_pos hz]; rfl
  · rw [decide_eq_false hz, if_neg (by decide), hc, ht, if_neg hz]; rfl
theorem read_again {z : Int} (h : z.natAbs < Big) : parseD (hasMinus (txt z)) (codes (cutS (txt z))) = some z := by
  rw [txt_minus, txt_cut]
  obtain ⟨d, l, e, hd, h0⟩ := bodyL_top z
  rw [parse_good (by rw [e]; simp) (bodyL_len h) (by
    rw [e]
    rintro ⟨h1, h2⟩
    simp at h1
    obtain ⟨hz, hl⟩ := h0 h1
    rcases h2 with h2 | h2
    · have := of_decide_eq_true h2; omega
    · rw [hl] at h2; simp at h2) (bodyL_digits z), bodyL_says]
  congr 1
  unfold sgn
  by_cases hz : z < 0
  · rw [decide_eq_true hz, if_pos rfl]; omega
  · rw [decide_eq_false hz, if_neg (by decide)]; omega
theorem txt_max {z : Int} (h : z.natAbs < Big) : (txt z).size ≤ maxLen := by
  rw [txt_size]
  have ht : txtL z = (if z < 0 then [45] else []) ++ bodyL z := rfl
  rw [ht, List.length_append]
  have := bodyL_len h
  unfold maxLen
  split <;> simp <;> omega
end Go.Proofs.Ytfehciiidmgopaa
