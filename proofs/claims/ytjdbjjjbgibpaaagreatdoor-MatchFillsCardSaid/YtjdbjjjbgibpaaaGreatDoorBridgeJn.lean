/- cmp.Compare, cmp.Or, term.tail: their contracts. term.tail: its contract. A right integer as a tree, and as whole's contracts read it. -/
import Derived.Test.YtjdbjjjbgibpaaaGreatDoorOrdLawJn
import Derived.Test.YtjdbjjjbgibpaaaGreatDoorTmSamesJn
import Derived.Test.YtjdbjjjbgibpaaaGreatDoorTermLawJn
import Derived.Deep.CutRange
import Derived.Deep.CutBlock
import Derived.Deep.DeepCutAuto
namespace Go.Proofs.YtjdbjjjbgibpaaaGreatDoor
set_option maxRecDepth 100000
open Go.RowKit

def NumP (w : World) (z : Int) (e : Ending) (w' : World) : Prop := e = .returned (.int .i64 z) ∧ Keeps NoB w w'
theorem nan_kind (x : Int) (w : World) : Calls Tryz.prog 60 #[.int .u8 x] w fun e w' => e = .returned (.bool false) ∧ w' = w := by
  go_enter Tryz.func60, Tryz.ntmps60
  go_wp2
  go_ret
  exact ⟨rfl, rfl⟩
theorem nan_int (x : Int) (w : World) : Calls Tryz.prog 61 #[.int .i64 x] w fun e w' => e = .returned (.bool false) ∧ w' = w := by
  go_enter Tryz.func61, Tryz.ntmps61
  go_wp2
  go_ret
  exact ⟨rfl, rfl⟩
theorem nan_str (s : ByteArray) (w : World) : Calls Tryz.prog 64 #[.string s] w fun e w' => e = .returned (.bool false) ∧ w' = w := by
  go_enter Tryz.func64, Tryz.ntmps64
  go_wp2
  go_ret
  exact ⟨rfl, rfl⟩
theorem cmp_kind (x y : Int) (w : World) : Calls Tryz.prog 47 #[.int .u8 x, .int .u8 y] w (NumP w (cmpZ x y)) := by
  rcases Int.lt_trichotomy x y with h | h | h
  · skip
    go_enter Tryz.func47, Tryz.ntmps47
    go_wp2_with
      first
      | (go_at_call 60
         refine (nan_kind _ _).mono ?_
         rintro e w1 ⟨rfl, rfl⟩)
      | fail
    go_ret
    exact ⟨by unfold cmpZ; rw [if_pos h]; rfl, Keeps.refl _ _⟩
  · subst h
    go_enter Tryz.func47, Tryz.ntmps47
    go_wp2_with
      first
      | (go_at_call 60
         refine (nan_kind _ _).mono ?_
         rintro e w1 ⟨rfl, rfl⟩)
      | fail
    go_ret
    exact ⟨by rw [cmpZ_self]; rfl, Keeps.refl _ _⟩
  · have h2 : ¬ x < y := by omega
    go_enter Tryz.func47, Tryz.ntmps47
    go_wp2_with
      first
      | (go_at_call 60
         refine (nan_kind _ _).mono ?_
         rintro e w1 ⟨rfl, rfl⟩)
      | fail
    go_ret
    exact ⟨by unfold cmpZ; rw [if_neg (by omega), if_pos h]; rfl, Keeps.refl _ _⟩
theorem cmp_int (x y : Int) (w : World) : Calls Tryz.prog 48 #[.int .i64 x, .int .i64 y] w (NumP w (cmpZ x y)) := by
  rcases Int.lt_trichotomy x y with h | h | h
  · skip
    go_enter Tryz.func48, Tryz.ntmps48
    go_wp2_with
      first
      | (go_at_call 61
         refine (nan_int _ _).mono ?_
         rintro e w1 ⟨rfl, rfl⟩)
      | fail
    go_ret
    exact ⟨by unfold cmpZ; rw [if_pos h]; rfl, Keeps.refl _ _⟩
  · subst h
    go_enter Tryz.func48, Tryz.ntmps48
    go_wp2_with
      first
      | (go_at_call 61
         refine (nan_int _ _).mono ?_
         rintro e w1 ⟨rfl, rfl⟩)
      | fail
    go_ret
    exact ⟨by rw [cmpZ_self]; rfl, Keeps.refl _ _⟩
  · have h2 : ¬ x < y := by omega
    go_enter Tryz.func48, Tryz.ntmps48
    go_wp2_with
      first
      | (go_at_call 61
         refine (nan_int _ _).mono ?_
         rintro e w1 ⟨rfl, rfl⟩)
      | fail
    go_ret
    exact ⟨by unfold cmpZ; rw [if_neg (by omega), if_pos h]; rfl, Keeps.refl _ _⟩
theorem bytes_tri : ∀ (s t : List UInt8), Op.bytesLess s t = false → (s == t) = false → Op.bytesLess t s = true
  | [], [], _, h => by simp at h
  | [], _ :: _, h, _ => by simp [Op.bytesLess] at h
  | _ :: _, [], _, _ => by simp [Op.bytesLess]
  | a :: s, b :: t, h, h2 => by
    simp only [Op.bytesLess, Bool.or_eq_false_iff, Bool.and_eq_false_iff, decide_eq_false_iff_not, beq_eq_false_iff_ne] at h
    simp only [Op.bytesLess, Bool.or_eq_true, Bool.and_eq_true, decide_eq_true_eq, beq_iff_eq]
    by_cases e : a = b
    · subst e
      have h3 : (s == t) = false := by simpa using h2
      exact .inr ⟨rfl, bytes_tri s t (h.2.resolve_left (fun h => h rfl)) h3⟩
    · refine .inl ?_
      have h1 := h.1
      rw [UInt8.lt_iff_toNat_lt] at h1 ⊢
      have : a.toNat ≠ b.toNat := fun h => e (UInt8.toNat_inj.1 h)
      omega
theorem cmp_str (s t : ByteArray) (w : World) : Calls Tryz.prog 53 #[.string s, .string t] w (NumP w (cmpB s t)) := by
  cases hlt : Op.bytesLess s.toList t.toList with
  | true =>
    have hge : (Op.bytesLess s.toList t.toList || s.toList == t.toList) = true := by rw [hlt]; rfl
    go_enter Tryz.func53, Tryz.ntmps53
    go_wp2_with
      first
      | (go_at_call 64
         refine (nan_str _ _).mono ?_
         rintro e w1 ⟨rfl, rfl⟩)
      | fail
    go_ret
    exact ⟨by unfold cmpB; rw [if_pos hlt]; rfl, Keeps.refl _ _⟩
  | false =>
    cases heq : (s.toList == t.toList) with
    | true =>
      obtain rfl : s = t := key_inj (by simpa using heq)
      clear heq
      go_enter Tryz.func53, Tryz.ntmps53
      go_wp2_with
        first
        | (go_at_call 64
           refine (nan_str _ _).mono ?_
           rintro e w1 ⟨rfl, rfl⟩)
        | fail
      go_ret
      exact ⟨by rw [cmpB_self]; rfl, Keeps.refl _ _⟩
    | false =>
      have hgt := bytes_tri _ _ hlt heq
      go_enter Tryz.func53, Tryz.ntmps53
      go_wp2_with
        first
        | (go_at_call 64
           refine (nan_str _ _).mono ?_
           rintro e w1 ⟨rfl, rfl⟩)
        | fail
      go_ret
      exact ⟨by unfold cmpB; rw [if_neg (by rw [hlt]; simp), if_pos hgt]; rfl, Keeps.refl _ _⟩
/-- cmp.Or -/
def orL : List Int → Int
  | [] => 0
  | x :: l => if x = 0 then orL l else x
theorem orL_two (a b : Int) : orL [a, b] = firstI a b := by
  unfold orL orL orL firstI
  by_cases h : a = 0
  · rw [if_pos h, if_pos h]; split <;> omega
  · rw [if_neg h, if_neg h]
theorem orL_three (a b c : Int) : orL [a, b, c] = firstI a (firstI b c) := by
  rw [← orL_two b c]
  conv => lhs; unfold orL
  unfold firstI
  rfl
theorem or_any (l : List Int) (n c : Nat) (A : Option Addr) (w : World) (B : Nat → Prop) (F : Bool) (hr : Reads w B F 1 A n (l.map (Value.int .i64))) (hn : n ≤ 1000) : Calls Tryz.prog 52 #[.slice A n c] w (NumP w (orL l)) := by
  have hl : l.length = n := by have := hr.1; simpa using this
  have HR := hide hr; have HL := hide hl
  clear hr hl
  go_enter Tryz.func52, Tryz.ntmps52
  go_wp2
  go_loopg [8] n (fun g s8 wx => ∃ k : Nat, k ≤ n ∧ g = n - k ∧ s8 = .int .i64 k ∧ wx = w ∧ orL l = orL (l.drop k))
  case atStart => exact ⟨0, Nat.zero_le _, rfl, rfl, rfl, by rw [List.drop_zero]⟩
  case round =>
    obtain ⟨k, hk, rfl, rfl, rfl, ho⟩ := hrel
    have HO := hide ho
    clear ho
    by_cases hlt : k < n
    · have hk1 : (k : Int) < (n : Int) := by omega
      have hk0 : (0 : Int) ≤ (k : Int) := by omega
      obtain ⟨x, hx⟩ : ∃ x, l[k]? = some x := ⟨_, List.getElem?_eq_getElem (by have := HL.out; omega)⟩
      obtain ⟨ad, hA, hs, _, _, hc⟩ := HR.out.2 (by omega)
      obtain ⟨b, o, sp⟩ := ad
      simp only at hs
      subst hs hA
      have p : wr.cell? ⟨b, o + k, none⟩ = some (.int .i64 x) := (hc k _ (by rw [List.getElem?_map, hx]; rfl)).1
      have HX := hide hx
      clear hx hc
      have hd : l.drop k = x :: l.drop (k + 1) := by
        obtain ⟨h1, h2⟩ := List.getElem?_eq_some_iff.1 HX.out
        rw [List.drop_eq_getElem_cons h1, h2]
      have HD := hide hd
      clear hd
      by_cases h0 : x = 0
      · subst h0
        go_wp2
        go_roundg (n - (k + 1))
        case measure => omega
        case rel => exact ⟨k + 1, by omega, rfl, by go_num, rfl, by rw [HO.out, HD.out]; conv => lhs; unfold orL
                                                                    rfl⟩
      · have h0b : (x == 0) = false := by simpa using h0
        go_wp2
        go_ret
        exact ⟨by rw [HO.out, HD.out]; unfold orL; rw [if_neg h0]; rfl, Keeps.refl _ _⟩
    · obtain rfl : n = k := by omega
      have hkz : ¬ (n : Int) < (n : Int) := by omega
      go_wp2
      go_ret
      exact ⟨by rw [HO.out, List.drop_of_length_le (by have := HL.out; omega)]; rfl, Keeps.refl _ _⟩
end Go.Proofs.YtjdbjjjbgibpaaaGreatDoor
namespace Go.Proofs.YtjdbjjjbgibpaaaGreatDoor
set_option maxRecDepth 100000
open Go.RowKit

theorem TermIn.parts {w : World} {B : Nat → Prop} {F : Bool} {t : Tm} (kd : Int) (ng : Bool) (la : Option Addr) (ln lc : Nat) (tx : ByteArray) (nm : Int) (ia : Option Addr) (im ic : Nat) (ta : Option Addr) (tn tc : Nat) (ht : TermIn w B F [.int .u8 kd, .bool ng, .slice la ln lc, .string tx, .int .i64 nm, .slice ia im ic, .slice ta tn tc] t) : ∃ limbs items tail css dss, t = .mk kd ng limbs tx nm items tail ∧ (RoomC ln lc 4 ∧ RoomC im ic 104 ∧ RoomC tn tc 104) ∧
    Reads w B F 1 la ln (limbs.map (Value.int .u32)) ∧ Reads w B F 7 ia im (List.flatten css) ∧ TermsIn w B F css items ∧ Reads w B F 7 ta tn (List.flatten dss) ∧ TermsIn w B F dss tail ∧ limbs.length = ln ∧ items.length = im ∧ tail.length = tn := by
  cases t
  unfold TermIn at ht
  obtain ⟨_, _, _, _, _, _, _, _, _, css, dss, e, hb, h1, h2, h3, h4, h5⟩ := ht
  simp only [List.cons.injEq, Value.int.injEq, Value.bool.injEq, Value.slice.injEq, Value.string.injEq, true_and, and_true] at e
  obtain ⟨rfl, rfl, ⟨rfl, rfl, rfl⟩, rfl, rfl, ⟨rfl, rfl, rfl⟩, rfl, rfl, rfl⟩ := e
  refine ⟨_, _, _, css, dss, rfl, hb, h1, h2, h3, h4, h5, ?_, ?_, ?_⟩
  · have := h1.1; simpa using this
  · have := h2.1; rw [flat_len h3.lens.2, h3.lens.1] at this; omega
  · have := h4.1; rw [flat_len h5.lens.2, h5.lens.1] at this; omega
theorem results_41 (tmps : Array Value) (r : Nat) (v0 v1 v2 v3 v4 v5 v6 : Value) (w : World) (ht : tmps[2]? = some (.pointer (some ⟨r, 0, none⟩))) (hB : Blk w r 26 #[v0, v1, v2, v3, v4, v5, v6]) : (results Tryz.f42 tmps).run Tryz.prog w = .ok (.agg #[v0, v1, v2, v3, v4, v5, v6]) w := by
  have c0 : w.cell? ⟨r, 0, none⟩ = some v0 := hB.cell 0
  have c1 : w.cell? ⟨r, 1, none⟩ = some v1 := hB.cell 1
  have c2 : w.cell? ⟨r, 2, none⟩ = some v2 := hB.cell 2
  have c3 : w.cell? ⟨r, 3, none⟩ = some v3 := hB.cell 3
  have c4 : w.cell? ⟨r, 4, none⟩ = some v4 := hB.cell 4
  have c5 : w.cell? ⟨r, 5, none⟩ = some v5 := hB.cell 5
  have c6 : w.cell? ⟨r, 6, none⟩ = some v6 := hB.cell 6
  have hr : Tryz.f42.results = #[ResultVar.cell 2 26] := by kernel_rfl
  simp [results, hr, go_sem, ht, c0, c1, c2, c3, c4, c5, c6]
theorem keeps_tput7 (w : World) (g : Nat) (v0 v1 v2 v3 v4 v5 v6 : Value) :
    Keeps (fun j => j = g) w (((((((w.setCell ⟨g, 0, none⟩ v0).setCell ⟨g, 1, none⟩ v1).setCell ⟨g, 2, none⟩ v2).setCell ⟨g, 3, none⟩ v3).setCell ⟨g, 4, none⟩ v4).setCell ⟨g, 5, none⟩ v5).setCell ⟨g, 6, none⟩ v6) :=
  (((((((Keeps.refl (fun j => j = g) w).setCell (p := ⟨g, 0, none⟩) (.inl rfl) v0).setCell (p := ⟨g, 1, none⟩) (.inl rfl) v1).setCell (p := ⟨g, 2, none⟩) (.inl rfl) v2).setCell (p := ⟨g, 3, none⟩) (.inl rfl) v3).setCell (p := ⟨g, 4, none⟩) (.inl rfl) v4).setCell (p := ⟨g, 5, none⟩) (.inl rfl) v5).setCell (p := ⟨g, 6, none⟩) (.inl rfl) v6
theorem two_tblks (w : World) (t0 t1 : TypeId) (c0 c1 : Array Value) : Blk ((w.alloc (.cells c0 t0)).alloc (.cells c1 t1)) w.heap.size t0 c0 ∧ Blk ((w.alloc (.cells c0 t0)).alloc (.cells c1 t1)) (w.heap.size + 1) t1 c1 :=
  ⟨(Blk.new w t0 c0).alloc _, Blk.new2 w (.cells c0 t0) t1 c1⟩
def TermP (w : World) (t : Tm) (e : Ending) (w' : World) : Prop := ∃ (kd' : Int) (ng' : Bool) (la' : Option Addr) (ln' lc' : Nat) (tx' : ByteArray) (nm' : Int) (ia' : Option Addr) (im' ic' : Nat) (ta' : Option Addr) (tn' tc' : Nat), e = .returned (.agg #[.int .u8 kd', .bool ng', .slice la' ln' lc', .string tx', .int .i64 nm', .slice ia' im' ic', .slice ta' tn' tc']) ∧ TermIn w' (fun _ => True) false [.int .u8 kd', .bool ng', .slice la' ln' lc', .string tx', .int .i64 nm', .slice ia' im' ic', .slice ta' tn' tc'] t ∧ Keeps NoB w w'
set_option maxRecDepth 100000 in
theorem tail_any (t : Tm) (w : World) (B : Nat → Prop) (F : Bool) (kd : Int) (ng : Bool) (la : Option Addr) (ln lc : Nat) (tx : ByteArray) (nm : Int) (ia : Option Addr) (im ic : Nat) (ta : Option Addr) (tn tc : Nat) (ht : TermIn w B F [.int .u8 kd, .bool ng, .slice la ln lc, .string tx, .int .i64 nm, .slice ia im ic, .slice ta tn tc] t) : Calls Tryz.prog 42 #[.agg #[.int .u8 kd, .bool ng, .slice la ln lc, .string tx, .int .i64 nm, .slice ia im ic, .slice ta tn tc]] w (TermP w (restT t.tail)) := by
  obtain ⟨limbs, items, tail, css, dss, rfl, _, _, _, _, hrt, htt, _, _, hl⟩ := ht.parts
  have HRT := hide (hrt.more (B' := fun k => k < w.heap.size) (fun k hk _ => hk)); have HTT := hide (TermsIn.more (B' := fun k => k < w.heap.size) (fun k hk _ => hk) _ _ htt); have HL := hide hl
  have HB := hide (two_tblks w 26 26 #[.int .u8 kd, .bool ng, .slice la ln lc, .string tx, .int .i64 nm, .slice ia im ic, .slice ta tn tc] #[.int .u8 0, .bool false, .slice none 0 0, .string ByteArray.empty, .int .i64 0, .slice none 0 0, .slice none 0 0]).1; have HZ := hide (two_tblks w 26 26 #[.int .u8 kd, .bool ng, .slice la ln lc, .string tx, .int .i64 nm, .slice ia im ic, .slice ta tn tc] #[.int .u8 0, .bool false, .slice none 0 0, .string ByteArray.empty, .int .i64 0, .slice none 0 0, .slice none 0 0]).2
  have HK := hide (((Keeps.refl NoB w).alloc (.cells #[.int .u8 kd, .bool ng, .slice la ln lc, .string tx, .int .i64 nm, .slice ia im ic, .slice ta tn tc] 26)).alloc (.cells #[.int .u8 0, .bool false, .slice none 0 0, .string ByteArray.empty, .int .i64 0, .slice none 0 0, .slice none 0 0] 26))
  clear ht hrt htt hl
  by_cases h0 : tn = 0
  · subst h0
    go_enter Tryz.func42, Tryz.ntmps42
    go_wp2
    go_loopg [8] 0 (fun g s8 wx => s8 = .int .i64 0 ∧ wx = (w.alloc (.cells #[.int .u8 kd, .bool ng, .slice la ln lc, .string tx, .int .i64 nm, .slice ia im ic, .slice ta 0 tc] 26)).alloc (.cells #[.int .u8 0, .bool false, .slice none 0 0, .string ByteArray.empty, .int .i64 0, .slice none 0 0, .slice none 0 0] 26))
    case atStart => exact ⟨rfl, rfl⟩
    case round =>
      obtain ⟨rfl, rfl⟩ := hrel
      generalize hw2 : (w.alloc (.cells #[.int .u8 kd, .bool ng, .slice la ln lc, .string tx, .int .i64 nm, .slice ia im ic, .slice ta 0 tc] 26)).alloc (.cells #[.int .u8 0, .bool false, .slice none 0 0, .string ByteArray.empty, .int .i64 0, .slice none 0 0, .slice none 0 0] 26) = w2 at *
      clear hw2
      have HGL := hide (show w.heap.size ≤ w.heap.size + 1 from Nat.le_succ _)
      generalize w.heap.size + 1 = g at *
      have HP := hide (HZ.out.tput7 (.int .u8 7) (.bool false) (.slice none 0 0) (.string ByteArray.empty) (.int .i64 0) (.slice none 0 0) (.slice none 0 0))
      obtain ⟨z0, z1, z2, z3, z4, z5, z6⟩ := Blk.f7 (w := w2) (g := g) HZ.out
      obtain ⟨v0, v1, v2, v3, v4, v5, v6⟩ := Blk.c7 (show Blk w2 (g) _ #[.int .u8 0, .bool false, .slice none 0 0, .string ByteArray.empty, .int .i64 0, .slice none 0 0, .slice none 0 0] from HZ.out)
      go_wp2
      refine bodyPost_ret (results_41 _ _ _ _ _ _ _ _ _ _ rfl HP.out) rfl ?_
      have e : tail = [] := List.eq_nil_of_length_eq_zero HL.out
      subst e
      exact ⟨7, false, none, 0, 0, _, 0, none, 0, 0, none, 0, 0, rfl, flat_in _ _ _ 7 _ 0, HK.out.trans' (keeps_tput7 w2 g _ _ _ _ _ _ _) (fun _ _ => id) (fun i hi e => by have := HGL.out; omega)⟩
  · obtain ⟨b, o, kd', ng', la', ln', lc', tx', nm', ia', im', ic', ta', tn', tc', u, hA, h1, h2, _, f0, f1, f2, f3, f4, f5, f6⟩ := cells_at (HRT.out.keep HK.out (fun _ _ => id)) (TermsIn.keep HK.out (fun _ _ => id) _ _ HTT.out) 0 (by omega)
    subst hA
    rw [Nat.zero_mul, Nat.add_zero] at f0 f1 f2 f3 f4 f5 f6
    have hk0 : (0 : Int) < (tn : Int) := by omega
    have HU := hide h2; have H1 := hide h1
    clear h1 h2
    go_enter Tryz.func42, Tryz.ntmps42
    go_wp2
    go_loopg [8] tn (fun g s8 wx => s8 = .int .i64 0 ∧ wx = (w.alloc (.cells #[.int .u8 kd, .bool ng, .slice la ln lc, .string tx, .int .i64 nm, .slice ia im ic, .slice (some ⟨b,o,none⟩) tn tc] 26)).alloc (.cells #[.int .u8 0, .bool false, .slice none 0 0, .string ByteArray.empty, .int .i64 0, .slice none 0 0, .slice none 0 0] 26))
    case atStart => exact ⟨rfl, rfl⟩
    case round =>
      obtain ⟨rfl, rfl⟩ := hrel
      generalize hw2 : (w.alloc (.cells #[.int .u8 kd, .bool ng, .slice la ln lc, .string tx, .int .i64 nm, .slice ia im ic, .slice (some ⟨b,o,none⟩) tn tc] 26)).alloc (.cells #[.int .u8 0, .bool false, .slice none 0 0, .string ByteArray.empty, .int .i64 0, .slice none 0 0, .slice none 0 0] 26) = w2 at *
      clear hw2
      have HGL := hide (show w.heap.size ≤ w.heap.size + 1 from Nat.le_succ _)
      generalize w.heap.size + 1 = g at *
      go_upto_region 4 with fail
      have HZ2 := hide (HZ.out.alloc (.cells #[.int .u8 kd', .bool ng', .slice la' ln' lc', .string tx', .int .i64 nm', .slice ia' im' ic', .slice ta' tn' tc'] 26)); have HV := hide (Blk.new w2 26 #[.int .u8 kd', .bool ng', .slice la' ln' lc', .string tx', .int .i64 nm', .slice ia' im' ic', .slice ta' tn' tc'])
      have HKA := hide ((Keeps.refl (fun j => j = g) w2).alloc (.cells #[.int .u8 kd', .bool ng', .slice la' ln' lc', .string tx', .int .i64 nm', .slice ia' im' ic', .slice ta' tn' tc'] 26))
      generalize w2.alloc (.cells #[.int .u8 kd', .bool ng', .slice la' ln' lc', .string tx', .int .i64 nm', .slice ia' im' ic', .slice ta' tn' tc'] 26) = w3 at *
      generalize w2.heap.size = g2 at *
      obtain ⟨z0, z1, z2, z3, z4, z5, z6⟩ := Blk.f7 (w := w3) (g := g) HZ2.out
      obtain ⟨v0, v1, v2, v3, v4, v5, v6⟩ := Blk.c7 (show Blk w3 (g) _ #[.int .u8 0, .bool false, .slice none 0 0, .string ByteArray.empty, .int .i64 0, .slice none 0 0, .slice none 0 0] from HZ2.out)
      obtain ⟨y0, y1, y2, y3, y4, y5, y6⟩ := Blk.c7 (show Blk w3 (g2) _ #[.int .u8 kd', .bool ng', .slice la' ln' lc', .string tx', .int .i64 nm', .slice ia' im' ic', .slice ta' tn' tc'] from HV.out)
      clear f0 f1 f2 f3 f4 f5 f6
      go_wp2
      refine bodyPost_ret (results_41 _ _ _ _ _ _ _ _ _ _ rfl (HZ2.out.tput7 _ _ _ _ _ _ _)) rfl ?_
      have ht2 : restT tail = u := by
        have h := H1.out
        cases tail with
        | nil => simp at h
        | cons a l => simpa [restT] using h
      have hks := (HKA.out.trans' (keeps_tput7 w3 g (.int .u8 kd') (.bool ng') (.slice la' ln' lc') (.string tx') (.int .i64 nm') (.slice ia' im' ic') (.slice ta' tn' tc')) (fun _ _ => id) (fun _ _ => id) : Keeps (fun j => j = g) w2 _)
      refine ⟨kd', ng', la', ln', lc', tx', nm', ia', im', ic', ta', tn', tc', rfl, ?_, HK.out.trans' hks (fun _ _ => id) (fun i hi e => by have := HGL.out; omega)⟩
      rw [show (Tm.mk kd ng limbs tx nm items tail).tail = tail from rfl, ht2]
      exact TermIn.more (fun _ _ _ => trivial) _ _ (TermIn.weak _ _ (TermIn.keep hks (fun k hk e => by have := HGL.out; omega) _ _ HU.out))
end Go.Proofs.YtjdbjjjbgibpaaaGreatDoor
namespace Go.Proofs.YtjdbjjjbgibpaaaGreatDoor
set_option maxRecDepth 100000
open Go.RowKit

theorem u32s_nat {l : List Int} (h : ∀ x ∈ l, 0 ≤ x ∧ x ≤ 4294967295) : u32s (l.map Int.toNat) = l.map (Value.int .u32) := by
  unfold u32s
  rw [List.map_map]
  refine List.map_congr_left fun x hx => ?_
  show Value.int .u32 ((x.toNat : Nat) : Int) = _
  rw [Int.toNat_of_nonneg (h x hx).1]
theorem good_int {t : Tm} (h : goodT t) (hk : t.kind = 1) : ∃ ng limbs, t = .mk 1 ng limbs ByteArray.empty 0 [] [] ∧ (∀ x ∈ limbs, 0 ≤ x ∧ x ≤ 4294967295) ∧ limbs.length ≤ 32 ∧ (if limbs.length = 0 then !ng else decide (limbs.getD (limbs.length - 1) 0 ≠ 0)) = true := by
  obtain ⟨k, ng, limbs, tx, nm, items, tail⟩ := t
  obtain rfl : k = 1 := hk
  obtain ⟨hr, ho⟩ := h
  unfold okT at ho
  have hs : 0 < sizeT (.mk 1 ng limbs tx nm items tail) := of_decide_eq_true hr
  unfold sizeT at hs
  rw [if_pos rfl] at hs
  split at hs
  · rename_i h1
    unfold intT at h1
    simp only [Bool.and_eq_true, decide_eq_true_eq] at h1
    obtain ⟨⟨⟨⟨⟨_, rfl⟩, rfl⟩, h4⟩, h5⟩, h6⟩ := h1
    have e1 : items = [] := List.eq_nil_of_length_eq_zero (by omega)
    have e2 : tail = [] := List.eq_nil_of_length_eq_zero (by omega)
    subst e1 e2
    exact ⟨ng, limbs, rfl, ho.2.1, h5, h6⟩
  · omega
/-- The cells of a right integer. -/
theorem int_IA {w : World} {B : Nat → Prop} {F : Bool} {t : Tm} (kd : Int) (ng : Bool) (la : Option Addr) (ln lc : Nat) (tx : ByteArray) (nm : Int) (ia : Option Addr) (im ic : Nat) (ta : Option Addr) (tn tc : Nat) (ht : TermIn w B F [.int .u8 kd, .bool ng, .slice la ln lc, .string tx, .int .i64 nm, .slice ia im ic, .slice ta tn tc] t) (hg : goodT t) (hk : kd = 1) : tx = ByteArray.empty ∧ nm = 0 ∧ im = 0 ∧ tn = 0 ∧ IA w B ng la ln lc (intV t) := by
  obtain ⟨limbs, items, tail, css, dss, rfl, hroom, hr, _, _, _, _, hl, hi, htl⟩ := ht.parts
  subst hk
  obtain ⟨ng', limbs', e, h1, h2, h3⟩ := good_int hg rfl
  injection e with e1 e2 e3 e4 e5 e6 e7
  subst e2 e3 e4 e5 e6 e7
  have hlow : Low (limbs.map Int.toNat) := fun x hx => by
    obtain ⟨y, hy, rfl⟩ := List.mem_map.1 hx
    have := h1 y hy
    show y.toNat < 4294967296
    omega
  have hL : LimbsIn w B la ln lc (limbs.map Int.toNat) := ⟨⟨F, by rw [u32s_nat h1]; exact hr⟩, hlow, hroom.1.2.1, hroom.1.2.2⟩
  have hR : rightB 1 ng (limbs.map Int.toNat) ByteArray.empty 0 0 0 = true := by
    unfold rightB
    simp only [Bool.and_eq_true, decide_eq_true_eq, List.length_map]
    refine ⟨trivial, trivial, trivial, trivial, h2, ?_⟩
    by_cases h0 : limbs.length = 0
    · rw [if_pos h0] at h3 ⊢; exact h3
    · rw [if_neg h0] at h3 ⊢
      have h4 := of_decide_eq_true h3
      refine decide_eq_true ?_
      have hlt : limbs.length - 1 < limbs.length := by omega
      rw [List.getD_eq_getElem?_getD, List.getElem?_map, List.getElem?_eq_getElem hlt] 
      rw [List.getD_eq_getElem?_getD, List.getElem?_eq_getElem hlt] at h4
      simp only [Option.map_some, Option.getD_some] at h4 ⊢
      have := h1 _ (List.getElem_mem hlt)
      omega
  obtain ⟨_, _, _, _, _, h, _, _⟩ := right_IA hR hL
  refine ⟨rfl, rfl, by simpa using hi.symm, by simpa using htl.symm, ?_⟩
  exact h
end Go.Proofs.YtjdbjjjbgibpaaaGreatDoor
