/- term.tail: its contract. A right integer as a tree, and as whole's contracts read it. printed by wip/mkbare.py: term.bare, and whole.Right. -/
import Derived.Test.YtjdbjjjbgibpaaaGreatDoorOrdSJn
import Derived.Test.YtjdbjjjbgibpaaaGreatDoorSeqJn
import Derived.Deep.CutRange
import Derived.Deep.CutBlock
import Derived.Deep.DeepCutAuto
import Derived.Test.YtjdbjjjbgibpaaaGreatDoorTermLawJn
import Derived.Lib.Strings
namespace Go.Proofs.YtjdbjjjbgibpaaaGreatDoor
set_option maxRecDepth 100000
open Go.RowKit

theorem TermIn.parts {w : World} {B : Nat → Prop} {F : Bool} {t : Tm} (kd : Int) (ng : Bool) (la : Option Addr) (ln lc : Nat) (tx : ByteArray) (nm : Int) (ia : Option Addr) (im ic : Nat) (ta : Option Addr) (tn tc : Nat) (ht : TermIn w B F [.int .u8 kd, .bool ng, .slice la ln lc, .string tx, .int .i64 nm, .slice ia im ic, .slice ta tn tc] t) : ∃ limbs items tail css dss, t = .mk kd ng limbs tx nm items tail ∧ (RoomC ln lc 4 ∧ RoomC im ic 104 ∧ RoomC tn tc 104) ∧
    Reads w B F 1 la ln (limbs.map (Value.int .u32)) ∧ Reads w B F 7 ia im (List.flatten css) ∧ TermsIn w B F css items ∧ Reads w B F 7 ta tn (List.flatten dss) ∧ TermsIn w B F dss tail ∧ limbs.length = ln ∧ items.length = im ∧ tail.length = tn := by
  cases t
  unfold TermIn at ht
  obtain ⟨_, _, _, _, _, _, _, _, _, css, dss, e, hb, h1, h2, h3, h4, h5⟩ := ht
  simp only [List.cons.injEq, Value.int.injEq, Value.bool.injEq, Value.slice.injEq, Value.string.injEq, true_and, and_true] at e
  obtain ⟨rfl, rfl, ⟨rfl, rfl, rfl⟩, rfl, rfl, ⟨rfl, rfl, rfl⟩, rfl, rfl, rfl⟩ := e
  refine ⟨_, _, _, css, dss, rfl, hb, h1, h2, h3, h4, h5, ?_, ?_, ?_⟩
  · have := h1.1; simpa using this
  · have := h2.1; rw [flat_len h3.lens.2, h3.lens.1] at this; omega
  · have := h4.1; rw [flat_len h5.lens.2, h5.lens.1] at this; omega
theorem results_41 (tmps : Array Value) (r : Nat) (v0 v1 v2 v3 v4 v5 v6 : Value) (w : World) (ht : tmps[2]? = some (.pointer (some ⟨r, 0, none⟩))) (hB : Blk w r 26 #[v0, v1, v2, v3, v4, v5, v6]) : (results Tryz.f42 tmps).run Tryz.prog w = .ok (.agg #[v0, v1, v2, v3, v4, v5, v6]) w := by
  have c0 : w.cell? ⟨r, 0, none⟩ = some v0 := hB.cell 0
  have c1 : w.cell? ⟨r, 1, none⟩ = some v1 := hB.cell 1
  have c2 : w.cell? ⟨r, 2, none⟩ = some v2 := hB.cell 2
  have c3 : w.cell? ⟨r, 3, none⟩ = some v3 := hB.cell 3
  have c4 : w.cell? ⟨r, 4, none⟩ = some v4 := hB.cell 4
  have c5 : w.cell? ⟨r, 5, none⟩ = some v5 := hB.cell 5
  have c6 : w.cell? ⟨r, 6, none⟩ = some v6 := hB.cell 6
  have hr : Tryz.f42.results = #[ResultVar.cell 2 26] := by kernel_rfl
  simp [results, hr, go_sem, ht, c0, c1, c2, c3, c4, c5, c6]
theorem keeps_tput7 (w : World) (g : Nat) (v0 v1 v2 v3 v4 v5 v6 : Value) :
    Keeps (fun j => j = g) w (((((((w.setCell ⟨g, 0, none⟩ v0).setCell ⟨g, 1, none⟩ v1).setCell ⟨g, 2, none⟩ v2).setCell ⟨g, 3, none⟩ v3).setCell ⟨g, 4, none⟩ v4).setCell ⟨g, 5, none⟩ v5).setCell ⟨g, 6, none⟩ v6) :=
  (((((((Keeps.refl (fun j => j = g) w).setCell (p := ⟨g, 0, none⟩) (.inl rfl) v0).setCell (p := ⟨g, 1, none⟩) (.inl rfl) v1).setCell (p := ⟨g, 2, none⟩) (.inl rfl) v2).setCell (p := ⟨g, 3, none⟩) (.inl rfl) v3).setCell (p := ⟨g, 4, none⟩) (.inl rfl) v4).setCell (p := ⟨g, 5, none⟩) (.inl rfl) v5).setCell (p := ⟨g, 6, none⟩) (.inl rfl) v6
theorem two_tblks (w : World) (t0 t1 : TypeId) (c0 c1 : Array Value) : Blk ((w.alloc (.cells c0 t0)).alloc (.cells c1 t1)) w.heap.size t0 c0 ∧ Blk ((w.alloc (.cells c0 t0)).alloc (.cells c1 t1)) (w.heap.size + 1) t1 c1 :=
  ⟨(Blk.new w t0 c0).alloc _, Blk.new2 w (.cells c0 t0) t1 c1⟩
def TermP (w : World) (t : Tm) (e : Ending) (w' : World) : Prop := ∃ (kd' : Int) (ng' : Bool) (la' : Option Addr) (ln' lc' : Nat) (tx' : ByteArray) (nm' : Int) (ia' : Option Addr) (im' ic' : Nat) (ta' : Option Addr) (tn' tc' : Nat), e = .returned (.agg #[.int .u8 kd', .bool ng', .slice la' ln' lc', .string tx', .int .i64 nm', .slice ia' im' ic', .slice ta' tn' tc']) ∧ TermIn w' (fun _ => True) false [.int .u8 kd', .bool ng', .slice la' ln' lc', .string tx', .int .i64 nm', .slice ia' im' ic', .slice ta' tn' tc'] t ∧ Keeps NoB w w'
set_option maxRecDepth 100000 in
theorem tail_any (t : Tm) (w : World) (B : Nat → Prop) (F : Bool) (kd : Int) (ng : Bool) (la : Option Addr) (ln lc : Nat) (tx : ByteArray) (nm : Int) (ia : Option Addr) (im ic : Nat) (ta : Option Addr) (tn tc : Nat) (ht : TermIn w B F [.int .u8 kd, .bool ng, .slice la ln lc, .string tx, .int .i64 nm, .slice ia im ic, .slice ta tn tc] t) : Calls Tryz.prog 42 #[.agg #[.int .u8 kd, .bool ng, .slice la ln lc, .string tx, .int .i64 nm, .slice ia im ic, .slice ta tn tc]] w (TermP w (restT t.tail)) := by
  obtain ⟨limbs, items, tail, css, dss, rfl, _, _, _, _, hrt, htt, _, _, hl⟩ := ht.parts
  have HRT := hide (hrt.more (B' := fun k => k < w.heap.size) (fun k hk _ => hk)); have HTT := hide (TermsIn.more (B' := fun k => k < w.heap.size) (fun k hk _ => hk) _ _ htt); have HL := hide hl
  have HB := hide (two_tblks w 26 26 #[.int .u8 kd, .bool ng, .slice la ln lc, .string tx, .int .i64 nm, .slice ia im ic, .slice ta tn tc] #[.int .u8 0, .bool false, .slice none 0 0, .string ByteArray.empty, .int .i64 0, .slice none 0 0, .slice none 0 0]).1; have HZ := hide (two_tblks w 26 26 #[.int .u8 kd, .bool ng, .slice la ln lc, .string tx, .int .i64 nm, .slice ia im ic, .slice ta tn tc] #[.int .u8 0, .bool false, .slice none 0 0, .string ByteArray.empty, .int .i64 0, .slice none 0 0, .slice none 0 0]).2
  have HK := hide (((Keeps.refl NoB w).alloc (.cells #[.int .u8 kd, .bool ng, .slice la ln lc, .string tx, .int .i64 nm, .slice ia im ic, .slice ta tn tc] 26)).alloc (.cells #[.int .u8 0, .bool false, .slice none 0 0, .string ByteArray.empty, .int .i64 0, .slice none 0 0, .slice none 0 0] 26))
  clear ht hrt htt hl
  by_cases h0 : tn = 0
  · subst h0
    go_enter Tryz.func42, Tryz.ntmps42
    go_wp2
    go_loopg [8] 0 (fun g s8 wx => s8 = .int .i64 0 ∧ wx = (w.alloc (.cells #[.int .u8 kd, .bool ng, .slice la ln lc, .string tx, .int .i64 nm, .slice ia im ic, .slice ta 0 tc] 26)).alloc (.cells #[.int .u8 0, .bool false, .slice none 0 0, .string ByteArray.empty, .int .i64 0, .slice none 0 0, .slice none 0 0] 26))
    case atStart => exact ⟨rfl, rfl⟩
    case round =>
      obtain ⟨rfl, rfl⟩ := hrel
      generalize hw2 : (w.alloc (.cells #[.int .u8 kd, .bool ng, .slice la ln lc, .string tx, .int .i64 nm, .slice ia im ic, .slice ta 0 tc] 26)).alloc (.cells #[.int .u8 0, .bool false, .slice none 0 0, .string ByteArray.empty, .int .i64 0, .slice none 0 0, .slice none 0 0] 26) = w2 at *
      clear hw2
      have HGL := hide (show w.heap.size ≤ w.heap.size + 1 from Nat.le_succ _)
      generalize w.heap.size + 1 = g at *
      have HP := hide (HZ.out.tput7 (.int .u8 7) (.bool false) (.slice none 0 0) (.string ByteArray.empty) (.int .i64 0) (.slice none 0 0) (.slice none 0 0))
      obtain ⟨z0, z1, z2, z3, z4, z5, z6⟩ := Blk.f7 (w := w2) (g := g) HZ.out
      obtain ⟨v0, v1, v2, v3, v4, v5, v6⟩ := Blk.c7 (show Blk w2 (g) _ #[.int .u8 0, .bool false, .slice none 0 0, .string ByteArray.empty, .int .i64 0, .slice none 0 0, .slice none 0 0] from HZ.out)
      go_wp2
      refine bodyPost_ret (results_41 _ _ _ _ _ _ _ _ _ _ rfl HP.out) rfl ?_
      have e : tail = [] := List.eq_nil_of_length_eq_zero HL.out
      subst e
      exact ⟨7, false, none, 0, 0, _, 0, none, 0, 0, none, 0, 0, rfl, flat_in _ _ _ 7 _ 0, HK.out.trans' (keeps_tput7 w2 g _ _ _ _ _ _ _) (fun _ _ => id) (fun i hi e => by have := HGL.out; omega)⟩
  · obtain ⟨b, o, kd', ng', la', ln', lc', tx', nm', ia', im', ic', ta', tn', tc', u, hA, h1, h2, _, f0, f1, f2, f3, f4, f5, f6⟩ := cells_at (HRT.out.keep HK.out (fun _ _ => id)) (TermsIn.keep HK.out (fun _ _ => id) _ _ HTT.out) 0 (by omega)
    subst hA
    rw [Nat.zero_mul, Nat.add_zero] at f0 f1 f2 f3 f4 f5 f6
    have hk0 : (0 : Int) < (tn : Int) := by omega
    have HU := hide h2; have H1 := hide h1
    clear h1 h2
    go_enter Tryz.func42, Tryz.ntmps42
    go_wp2
    go_loopg [8] tn (fun g s8 wx => s8 = .int .i64 0 ∧ wx = (w.alloc (.cells #[.int .u8 kd, .bool ng, .slice la ln lc, .string tx, .int .i64 nm, .slice ia im ic, .slice (some ⟨b,o,none⟩) tn tc] 26)).alloc (.cells #[.int .u8 0, .bool false, .slice none 0 0, .string ByteArray.empty, .int .i64 0, .slice none 0 0, .slice none 0 0] 26))
    case atStart => exact ⟨rfl, rfl⟩
    case round =>
      obtain ⟨rfl, rfl⟩ := hrel
      generalize hw2 : (w.alloc (.cells #[.int .u8 kd, .bool ng, .slice la ln lc, .string tx, .int .i64 nm, .slice ia im ic, .slice (some ⟨b,o,none⟩) tn tc] 26)).alloc (.cells #[.int .u8 0, .bool false, .slice none 0 0, .string ByteArray.empty, .int .i64 0, .slice none 0 0, .slice none 0 0] 26) = w2 at *
      clear hw2
      have HGL := hide (show w.heap.size ≤ w.heap.size + 1 from Nat.le_succ _)
      generalize w.heap.size + 1 = g at *
      go_upto_region 4 with fail
      have HZ2 := hide (HZ.out.alloc (.cells #[.int .u8 kd', .bool ng', .slice la' ln' lc', .string tx', .int .i64 nm', .slice ia' im' ic', .slice ta' tn' tc'] 26)); have HV := hide (Blk.new w2 26 #[.int .u8 kd', .bool ng', .slice la' ln' lc', .string tx', .int .i64 nm', .slice ia' im' ic', .slice ta' tn' tc'])
      have HKA := hide ((Keeps.refl (fun j => j = g) w2).alloc (.cells #[.int .u8 kd', .bool ng', .slice la' ln' lc', .string tx', .int .i64 nm', .slice ia' im' ic', .slice ta' tn' tc'] 26))
      generalize w2.alloc (.cells #[.int .u8 kd', .bool ng', .slice la' ln' lc', .string tx', .int .i64 nm', .slice ia' im' ic', .slice ta' tn' tc'] 26) = w3 at *
      generalize w2.heap.size = g2 at *
      obtain ⟨z0, z1, z2, z3, z4, z5, z6⟩ := Blk.f7 (w := w3) (g := g) HZ2.out
      obtain ⟨v0, v1, v2, v3, v4, v5, v6⟩ := Blk.c7 (show Blk w3 (g) _ #[.int .u8 0, .bool false, .slice none 0 0, .string ByteArray.empty, .int .i64 0, .slice none 0 0, .slice none 0 0] from HZ2.out)
      obtain ⟨y0, y1, y2, y3, y4, y5, y6⟩ := Blk.c7 (show Blk w3 (g2) _ #[.int .u8 kd', .bool ng', .slice la' ln' lc', .string tx', .int .i64 nm', .slice ia' im' ic', .slice ta' tn' tc'] from HV.out)
      clear f0 f1 f2 f3 f4 f5 f6
      go_wp2
      refine bodyPost_ret (results_41 _ _ _ _ _ _ _ _ _ _ rfl (HZ2.out.tput7 _ _ _ _ _ _ _)) rfl ?_
      have ht2 : restT tail = u := by
        have h := H1.out
        cases tail with
        | nil => simp at h
        | cons a l => simpa [restT] using h
      have hks := (HKA.out.trans' (keeps_tput7 w3 g (.int .u8 kd') (.bool ng') (.slice la' ln' lc') (.string tx') (.int .i64 nm') (.slice ia' im' ic') (.slice ta' tn' tc')) (fun _ _ => id) (fun _ _ => id) : Keeps (fun j => j = g) w2 _)
      refine ⟨kd', ng', la', ln', lc', tx', nm', ia', im', ic', ta', tn', tc', rfl, ?_, HK.out.trans' hks (fun _ _ => id) (fun i hi e => by have := HGL.out; omega)⟩
      rw [show (Tm.mk kd ng limbs tx nm items tail).tail = tail from rfl, ht2]
      exact TermIn.more (fun _ _ _ => trivial) _ _ (TermIn.weak _ _ (TermIn.keep hks (fun k hk e => by have := HGL.out; omega) _ _ HU.out))
end Go.Proofs.YtjdbjjjbgibpaaaGreatDoor
namespace Go.Proofs.YtjdbjjjbgibpaaaGreatDoor
set_option maxRecDepth 100000
open Go.RowKit

theorem u32s_nat {l : List Int} (h : ∀ x ∈ l, 0 ≤ x ∧ x ≤ 4294967295) : u32s (l.map Int.toNat) = l.map (Value.int .u32) := by
  unfold u32s
  rw [List.map_map]
  refine List.map_congr_left fun x hx => ?_
  show Value.int .u32 ((x.toNat : Nat) : Int) = _
  rw [Int.toNat_of_nonneg (h x hx).1]
theorem good_int {t : Tm} (h : goodT t) (hk : t.kind = 1) : ∃ ng limbs, t = .mk 1 ng limbs ByteArray.empty 0 [] [] ∧ (∀ x ∈ limbs, 0 ≤ x ∧ x ≤ 4294967295) ∧ limbs.length ≤ 32 ∧ (if limbs.length = 0 then !ng else decide (limbs.getD (limbs.length - 1) 0 ≠ 0)) = true := by
  obtain ⟨k, ng, limbs, tx, nm, items, tail⟩ := t
  obtain rfl : k = 1 := hk
  obtain ⟨hr, ho⟩ := h
  unfold okT at ho
  have hs : 0 < sizeT (.mk 1 ng limbs tx nm items tail) := of_decide_eq_true hr
  unfold sizeT at hs
  rw [if_pos rfl] at hs
  split at hs
  · rename_i h1
    unfold intT at h1
    simp only [Bool.and_eq_true, decide_eq_true_eq] at h1
    obtain ⟨⟨⟨⟨⟨_, rfl⟩, rfl⟩, h4⟩, h5⟩, h6⟩ := h1
    have e1 : items = [] := List.eq_nil_of_length_eq_zero (by omega)
    have e2 : tail = [] := List.eq_nil_of_length_eq_zero (by omega)
    subst e1 e2
    exact ⟨ng, limbs, rfl, ho.2.1, h5, h6⟩
  · omega
/-- The cells of a right integer. -/
theorem int_IA {w : World} {B : Nat → Prop} {F : Bool} {t : Tm} (kd : Int) (ng : Bool) (la : Option Addr) (ln lc : Nat) (tx : ByteArray) (nm : Int) (ia : Option Addr) (im ic : Nat) (ta : Option Addr) (tn tc : Nat) (ht : TermIn w B F [.int .u8 kd, .bool ng, .slice la ln lc, .string tx, .int .i64 nm, .slice ia im ic, .slice ta tn tc] t) (hg : goodT t) (hk : kd = 1) : tx = ByteArray.empty ∧ nm = 0 ∧ im = 0 ∧ tn = 0 ∧ IA w B ng la ln lc (intV t) := by
  obtain ⟨limbs, items, tail, css, dss, rfl, hroom, hr, _, _, _, _, hl, hi, htl⟩ := ht.parts
  subst hk
  obtain ⟨ng', limbs', e, h1, h2, h3⟩ := good_int hg rfl
  injection e with e1 e2 e3 e4 e5 e6 e7
  subst e2 e3 e4 e5 e6 e7
  have hlow : Low (limbs.map Int.toNat) := fun x hx => by
    obtain ⟨y, hy, rfl⟩ := List.mem_map.1 hx
    have := h1 y hy
    show y.toNat < 4294967296
    omega
  have hL : LimbsIn w B la ln lc (limbs.map Int.toNat) := ⟨⟨F, by rw [u32s_nat h1]; exact hr⟩, hlow, hroom.1.2.1, hroom.1.2.2⟩
  have hR : rightB 1 ng (limbs.map Int.toNat) ByteArray.empty 0 0 0 = true := by
    unfold rightB
    simp only [Bool.and_eq_true, decide_eq_true_eq, List.length_map]
    refine ⟨trivial, trivial, trivial, trivial, h2, ?_⟩
    by_cases h0 : limbs.length = 0
    · rw [if_pos h0] at h3 ⊢; exact h3
    · rw [if_neg h0] at h3 ⊢
      have h4 := of_decide_eq_true h3
      refine decide_eq_true ?_
      have hlt : limbs.length - 1 < limbs.length := by omega
      rw [List.getD_eq_getElem?_getD, List.getElem?_map, List.getElem?_eq_getElem hlt] 
      rw [List.getD_eq_getElem?_getD, List.getElem?_eq_getElem hlt] at h4
      simp only [Option.map_some, Option.getD_some] at h4 ⊢
      have := h1 _ (List.getElem_mem hlt)
      omega
  obtain ⟨_, _, _, _, _, h, _, _⟩ := right_IA hR hL
  refine ⟨rfl, rfl, by simpa using hi.symm, by simpa using htl.symm, ?_⟩
  exact h
end Go.Proofs.YtjdbjjjbgibpaaaGreatDoor
namespace Go.Proofs.YtjdbjjjbgibpaaaGreatDoor
open Go.RowKit

theorem tkey_inj {s t : ByteArray} (h : s.toList = t.toList) : s = t := by
  rw [Lib.toList_data, Lib.toList_data] at h
  cases s; cases t
  simp only [ByteArray.mk.injEq] at *
  exact Array.toList_inj.1 h
theorem tstr_ne {s : ByteArray} (h : ¬ s = ByteArray.empty) : (s.toList == []) = false := by
  have h2 : ¬ s.toList = ByteArray.empty.toList := fun e => h (tkey_inj e)
  rw [Lib.toList_data ByteArray.empty] at h2
  simp only [beq_eq_false_iff_ne]
  exact h2

def bareB (ng : Bool) (ln : Nat) (tx : ByteArray) (nm : Int) (im tn : Nat) (a b c d : Bool) : Bool :=
  !ng && (decide (ln = 0) && ((a || decide (tx = ByteArray.empty)) && ((b || decide (nm = 0)) && ((c || decide (im = 0)) && (d || decide (tn = 0))))))

set_option maxRecDepth 100000 in
theorem bare_tfff (kd nm : Int) (ng : Bool) (la ia ta : Option Addr) (ln lc im ic tn tc : Nat) (tx : ByteArray) (w : World) :
    Calls Tryz.prog 38 #[.agg #[.int .u8 kd, .bool ng, .slice la ln lc, .string tx, .int .i64 nm, .slice ia im ic, .slice ta tn tc], .bool true, .bool false, .bool false, .bool false] w fun e w' => e = .returned (.bool (bareB ng ln tx nm im tn true false false false)) ∧ Keeps NoB w w' := by
  generalize hr : bareB ng ln tx nm im tn true false false false = r
  rcases ng with _ | _
  · by_cases h : ln = 0
    · subst h
      by_cases h : nm = 0
      · subst h
        by_cases h : im = 0
        · subst h
          by_cases h : tn = 0
          · subst h
            obtain rfl : r = true := by rw [← hr]; unfold bareB; simp
            clear hr
            go_enter Tryz.func38, Tryz.ntmps38
            go_wp2
            go_ret
            exact ⟨rfl, (Keeps.refl _ _).alloc _⟩
          · obtain rfl : r = false := by rw [← hr]; unfold bareB; simp [h]
            have b5 : ((tn : Int) == 0) = false := by simp; omega
            clear hr h
            go_enter Tryz.func38, Tryz.ntmps38
            go_wp2
            go_ret
            exact ⟨rfl, (Keeps.refl _ _).alloc _⟩
        · obtain rfl : r = false := by rw [← hr]; unfold bareB; simp [h]
          have b4 : ((im : Int) == 0) = false := by simp; omega
          clear hr h
          go_enter Tryz.func38, Tryz.ntmps38
          go_wp2
          go_ret
          exact ⟨rfl, (Keeps.refl _ _).alloc _⟩
      · obtain rfl : r = false := by rw [← hr]; unfold bareB; simp [h]
        have b3 : (nm == 0) = false := by simp [h]
        clear hr h
        go_enter Tryz.func38, Tryz.ntmps38
        go_wp2
        go_ret
        exact ⟨rfl, (Keeps.refl _ _).alloc _⟩
    · obtain rfl : r = false := by rw [← hr]; unfold bareB; simp [h]
      have b1 : ((ln : Int) == 0) = false := by simp; omega
      clear hr h
      go_enter Tryz.func38, Tryz.ntmps38
      go_wp2
      go_ret
      exact ⟨rfl, (Keeps.refl _ _).alloc _⟩
  · obtain rfl : r = false := by rw [← hr]; unfold bareB; simp
    clear hr
    go_enter Tryz.func38, Tryz.ntmps38
    go_wp2
    go_ret
    exact ⟨rfl, (Keeps.refl _ _).alloc _⟩

set_option maxRecDepth 100000 in
theorem bare_ftff (kd nm : Int) (ng : Bool) (la ia ta : Option Addr) (ln lc im ic tn tc : Nat) (tx : ByteArray) (w : World) :
    Calls Tryz.prog 38 #[.agg #[.int .u8 kd, .bool ng, .slice la ln lc, .string tx, .int .i64 nm, .slice ia im ic, .slice ta tn tc], .bool false, .bool true, .bool false, .bool false] w fun e w' => e = .returned (.bool (bareB ng ln tx nm im tn false true false false)) ∧ Keeps NoB w w' := by
  generalize hr : bareB ng ln tx nm im tn false true false false = r
  rcases ng with _ | _
  · by_cases h : ln = 0
    · subst h
      by_cases h : tx = ByteArray.empty
      · subst h
        by_cases h : im = 0
        · subst h
          by_cases h : tn = 0
          · subst h
            obtain rfl : r = true := by rw [← hr]; unfold bareB; simp
            clear hr
            go_enter Tryz.func38, Tryz.ntmps38
            go_wp2
            go_ret
            exact ⟨rfl, (Keeps.refl _ _).alloc _⟩
          · obtain rfl : r = false := by rw [← hr]; unfold bareB; simp [h]
            have b5 : ((tn : Int) == 0) = false := by simp; omega
            clear hr h
            go_enter Tryz.func38, Tryz.ntmps38
            go_wp2
            go_ret
            exact ⟨rfl, (Keeps.refl _ _).alloc _⟩
        · obtain rfl : r = false := by rw [← hr]; unfold bareB; simp [h]
          have b4 : ((im : Int) == 0) = false := by simp; omega
          clear hr h
          go_enter Tryz.func38, Tryz.ntmps38
          go_wp2
          go_ret
          exact ⟨rfl, (Keeps.refl _ _).alloc _⟩
      · obtain rfl : r = false := by rw [← hr]; unfold bareB; simp [h]
        have b2 : (tx.toList == []) = false := tstr_ne h
        clear hr h
        go_enter Tryz.func38, Tryz.ntmps38
        go_wp2
        go_ret
        exact ⟨rfl, (Keeps.refl _ _).alloc _⟩
    · obtain rfl : r = false := by rw [← hr]; unfold bareB; simp [h]
      have b1 : ((ln : Int) == 0) = false := by simp; omega
      clear hr h
      go_enter Tryz.func38, Tryz.ntmps38
      go_wp2
      go_ret
      exact ⟨rfl, (Keeps.refl _ _).alloc _⟩
  · obtain rfl : r = false := by rw [← hr]; unfold bareB; simp
    clear hr
    go_enter Tryz.func38, Tryz.ntmps38
    go_wp2
    go_ret
    exact ⟨rfl, (Keeps.refl _ _).alloc _⟩

set_option maxRecDepth 100000 in
theorem bare_fttf (kd nm : Int) (ng : Bool) (la ia ta : Option Addr) (ln lc im ic tn tc : Nat) (tx : ByteArray) (w : World) :
    Calls Tryz.prog 38 #[.agg #[.int .u8 kd, .bool ng, .slice la ln lc, .string tx, .int .i64 nm, .slice ia im ic, .slice ta tn tc], .bool false, .bool true, .bool true, .bool false] w fun e w' => e = .returned (.bool (bareB ng ln tx nm im tn false true true false)) ∧ Keeps NoB w w' := by
  generalize hr : bareB ng ln tx nm im tn false true true false = r
  rcases ng with _ | _
  · by_cases h : ln = 0
    · subst h
      by_cases h : tx = ByteArray.empty
      · subst h
        by_cases h : tn = 0
        · subst h
          obtain rfl : r = true := by rw [← hr]; unfold bareB; simp
          clear hr
          go_enter Tryz.func38, Tryz.ntmps38
          go_wp2
          go_ret
          exact ⟨rfl, (Keeps.refl _ _).alloc _⟩
        · obtain rfl : r = false := by rw [← hr]; unfold bareB; simp [h]
          have b5 : ((tn : Int) == 0) = false := by simp; omega
          clear hr h
          go_enter Tryz.func38, Tryz.ntmps38
          go_wp2
          go_ret
          exact ⟨rfl, (Keeps.refl _ _).alloc _⟩
      · obtain rfl : r = false := by rw [← hr]; unfold bareB; simp [h]
        have b2 : (tx.toList == []) = false := tstr_ne h
        clear hr h
        go_enter Tryz.func38, Tryz.ntmps38
        go_wp2
        go_ret
        exact ⟨rfl, (Keeps.refl _ _).alloc _⟩
    · obtain rfl : r = false := by rw [← hr]; unfold bareB; simp [h]
      have b1 : ((ln : Int) == 0) = false := by simp; omega
      clear hr h
      go_enter Tryz.func38, Tryz.ntmps38
      go_wp2
      go_ret
      exact ⟨rfl, (Keeps.refl _ _).alloc _⟩
  · obtain rfl : r = false := by rw [← hr]; unfold bareB; simp
    clear hr
    go_enter Tryz.func38, Tryz.ntmps38
    go_wp2
    go_ret
    exact ⟨rfl, (Keeps.refl _ _).alloc _⟩

set_option maxRecDepth 100000 in
theorem bare_fftf (kd nm : Int) (ng : Bool) (la ia ta : Option Addr) (ln lc im ic tn tc : Nat) (tx : ByteArray) (w : World) :
    Calls Tryz.prog 38 #[.agg #[.int .u8 kd, .bool ng, .slice la ln lc, .string tx, .int .i64 nm, .slice ia im ic, .slice ta tn tc], .bool false, .bool false, .bool true, .bool false] w fun e w' => e = .returned (.bool (bareB ng ln tx nm im tn false false true false)) ∧ Keeps NoB w w' := by
  generalize hr : bareB ng ln tx nm im tn false false true false = r
  rcases ng with _ | _
  · by_cases h : ln = 0
    · subst h
      by_cases h : tx = ByteArray.empty
      · subst h
        by_cases h : nm = 0
        · subst h
          by_cases h : tn = 0
          · subst h
            obtain rfl : r = true := by rw [← hr]; unfold bareB; simp
            clear hr
            go_enter Tryz.func38, Tryz.ntmps38
            go_wp2
            go_ret
            exact ⟨rfl, (Keeps.refl _ _).alloc _⟩
          · obtain rfl : r = false := by rw [← hr]; unfold bareB; simp [h]
            have b5 : ((tn : Int) == 0) = false := by simp; omega
            clear hr h
            go_enter Tryz.func38, Tryz.ntmps38
            go_wp2
            go_ret
            exact ⟨rfl, (Keeps.refl _ _).alloc _⟩
        · obtain rfl : r = false := by rw [← hr]; unfold bareB; simp [h]
          have b3 : (nm == 0) = false := by simp [h]
          clear hr h
          go_enter Tryz.func38, Tryz.ntmps38
          go_wp2
          go_ret
          exact ⟨rfl, (Keeps.refl _ _).alloc _⟩
      · obtain rfl : r = false := by rw [← hr]; unfold bareB; simp [h]
        have b2 : (tx.toList == []) = false := tstr_ne h
        clear hr h
        go_enter Tryz.func38, Tryz.ntmps38
        go_wp2
        go_ret
        exact ⟨rfl, (Keeps.refl _ _).alloc _⟩
    · obtain rfl : r = false := by rw [← hr]; unfold bareB; simp [h]
      have b1 : ((ln : Int) == 0) = false := by simp; omega
      clear hr h
      go_enter Tryz.func38, Tryz.ntmps38
      go_wp2
      go_ret
      exact ⟨rfl, (Keeps.refl _ _).alloc _⟩
  · obtain rfl : r = false := by rw [← hr]; unfold bareB; simp
    clear hr
    go_enter Tryz.func38, Tryz.ntmps38
    go_wp2
    go_ret
    exact ⟨rfl, (Keeps.refl _ _).alloc _⟩

set_option maxRecDepth 100000 in
theorem bare_fftt (kd nm : Int) (ng : Bool) (la ia ta : Option Addr) (ln lc im ic tn tc : Nat) (tx : ByteArray) (w : World) :
    Calls Tryz.prog 38 #[.agg #[.int .u8 kd, .bool ng, .slice la ln lc, .string tx, .int .i64 nm, .slice ia im ic, .slice ta tn tc], .bool false, .bool false, .bool true, .bool true] w fun e w' => e = .returned (.bool (bareB ng ln tx nm im tn false false true true)) ∧ Keeps NoB w w' := by
  generalize hr : bareB ng ln tx nm im tn false false true true = r
  rcases ng with _ | _
  · by_cases h : ln = 0
    · subst h
      by_cases h : tx = ByteArray.empty
      · subst h
        by_cases h : nm = 0
        · subst h
          obtain rfl : r = true := by rw [← hr]; unfold bareB; simp
          clear hr
          go_enter Tryz.func38, Tryz.ntmps38
          go_wp2
          go_ret
          exact ⟨rfl, (Keeps.refl _ _).alloc _⟩
        · obtain rfl : r = false := by rw [← hr]; unfold bareB; simp [h]
          have b3 : (nm == 0) = false := by simp [h]
          clear hr h
          go_enter Tryz.func38, Tryz.ntmps38
          go_wp2
          go_ret
          exact ⟨rfl, (Keeps.refl _ _).alloc _⟩
      · obtain rfl : r = false := by rw [← hr]; unfold bareB; simp [h]
        have b2 : (tx.toList == []) = false := tstr_ne h
        clear hr h
        go_enter Tryz.func38, Tryz.ntmps38
        go_wp2
        go_ret
        exact ⟨rfl, (Keeps.refl _ _).alloc _⟩
    · obtain rfl : r = false := by rw [← hr]; unfold bareB; simp [h]
      have b1 : ((ln : Int) == 0) = false := by simp; omega
      clear hr h
      go_enter Tryz.func38, Tryz.ntmps38
      go_wp2
      go_ret
      exact ⟨rfl, (Keeps.refl _ _).alloc _⟩
  · obtain rfl : r = false := by rw [← hr]; unfold bareB; simp
    clear hr
    go_enter Tryz.func38, Tryz.ntmps38
    go_wp2
    go_ret
    exact ⟨rfl, (Keeps.refl _ _).alloc _⟩

set_option maxRecDepth 100000 in
theorem wright_any (kd nm : Int) (ng : Bool) (la ia ta : Option Addr) (ln lc im ic tn tc : Nat) (tx : ByteArray) (l : List Int) (w : World) (B : Nat → Prop) (F : Bool) (hl : Reads w B F 1 la ln (l.map (Value.int .u32))) (hr0 : Roomy ln 4 ∧ Roomy im 104 ∧ Roomy tn 104) :
    Calls Tryz.prog 37 #[.agg #[.int .u8 kd, .bool ng, .slice la ln lc, .string tx, .int .i64 nm, .slice ia im ic, .slice ta tn tc]] w fun e w' => e = .returned (.bool (intT kd ng l tx nm im tn)) ∧ Keeps NoB w w' := by
  have hlen : l.length = ln := by have := hl.1; simpa using this
  have hmax : ln ≤ 9223372036854775807 ∧ im ≤ 4611686018427387903 ∧ tn ≤ 4611686018427387903 := by
    unfold Roomy at hr0; omega
  have HL := hide hl; clear hl hr0
  generalize hr : intT kd ng l tx nm im tn = r
  have HR := hide hr
  by_cases h1 : kd = 1
  · subst h1
    by_cases h2 : tx = ByteArray.empty
    · subst h2
      by_cases h3 : nm = 0
      · subst h3
        by_cases h4 : im + tn = 0
        · obtain ⟨rfl, rfl⟩ : im = 0 ∧ tn = 0 := by omega
          clear h4
          by_cases h5 : ln ≤ 32
          · by_cases h6 : ln = 0
            · obtain rfl : r = !ng := by rw [← hr]; unfold intT; simp [hlen, h6]
              subst h6
              clear hr HR hmax
              cases ng
              · (go_enter Tryz.func37, Tryz.ntmps37; go_wp2; go_ret; exact ⟨rfl, (Keeps.refl _ _).alloc _⟩)
              · (go_enter Tryz.func37, Tryz.ntmps37; go_wp2; go_ret; exact ⟨rfl, (Keeps.refl _ _).alloc _⟩)
            · obtain ⟨⟨b, o, sp⟩, hA, hs, _, _, hc⟩ := HL.out.2 (by omega)
              simp only at hs
              subst hs hA
              obtain ⟨k, hkk⟩ : ∃ k, ln = k + 1 := ⟨ln - 1, by omega⟩
              obtain ⟨x, hX⟩ : ∃ x, l[k]? = some x := ⟨_, List.getElem?_eq_getElem (by omega)⟩
              have hk : w.cell? ⟨b, o + k, none⟩ = some (.int .u32 x) := (hc k _ (by simp [hX])).1
              have hk1 : (ln : Int) - 1 = (k : Int) := by omega
              have hk2 : (k : Int) < (ln : Int) := by omega
              have hk0 : (0 : Int) ≤ (k : Int) := by omega
              have hk3 : k < ln := by omega
              obtain rfl : r = decide (x ≠ 0) := by rw [← hr]; unfold intT; rw [hlen, hkk]; simp [List.getD, hX]; omega
              have b5 : decide ((ln : Int) ≤ 32) = true := by simp; omega
              have b6 : ((ln : Int) == 0) = false := by simp; omega
              have b7 : decide (0 < (ln : Int)) = true := by simp; omega
              have hn := hmax.1
              clear hr HR hc hkk h5 hX hmax hlen
              by_cases hx : x = 0
              · subst hx
                (go_enter Tryz.func37, Tryz.ntmps37; go_wp2; go_ret; exact ⟨rfl, (Keeps.refl _ _).alloc _⟩)
              · have b8 : (x == 0) = false := by simp; omega
                have b9 : (x != 0) = true := by simp; omega
                rw [show decide (x ≠ 0) = true from decide_eq_true hx]
                clear hx
                (go_enter Tryz.func37, Tryz.ntmps37; go_wp2; go_ret; exact ⟨rfl, (Keeps.refl _ _).alloc _⟩)
          · obtain rfl : r = false := by rw [← hr]; unfold intT; simp [hlen, h5]
            have b5 : decide ((ln : Int) ≤ 32) = false := by simp; omega
            clear hr HR h5 hlen
            (go_enter Tryz.func37, Tryz.ntmps37; go_wp2; go_ret; exact ⟨rfl, (Keeps.refl _ _).alloc _⟩)
        · obtain rfl : r = false := by rw [← hr]; unfold intT; simp only [h4, decide_false, Bool.false_and, Bool.and_false]
          have b4 : (((im : Int) + tn) == 0) = false := beq_eq_false_iff_ne.2 (by omega)
          have b5 : wrap64 ((im : Int) + tn) = (im : Int) + tn := by unfold wrap64; omega
          clear hr HR hlen
          (go_enter Tryz.func37, Tryz.ntmps37; go_wp2; go_ret; exact ⟨rfl, (Keeps.refl _ _).alloc _⟩)
      · obtain rfl : r = false := by rw [← hr]; unfold intT; simp [h3]
        have b3 : (nm == 0) = false := by simp [h3]
        clear hr HR hlen
        (go_enter Tryz.func37, Tryz.ntmps37; go_wp2; go_ret; exact ⟨rfl, (Keeps.refl _ _).alloc _⟩)
    · obtain rfl : r = false := by rw [← hr]; unfold intT; simp [h2]
      have b2 : (tx.toList == []) = false := tstr_ne h2
      clear hr HR hlen
      (go_enter Tryz.func37, Tryz.ntmps37; go_wp2; go_ret; exact ⟨rfl, (Keeps.refl _ _).alloc _⟩)
  · obtain rfl : r = false := by rw [← hr]; unfold intT; simp [h1]
    have b1 : (kd == 1) = false := by simp [h1]
    clear hr HR hlen
    (go_enter Tryz.func37, Tryz.ntmps37; go_wp2; go_ret; exact ⟨rfl, (Keeps.refl _ _).alloc _⟩)
end Go.Proofs.YtjdbjjjbgibpaaaGreatDoor
