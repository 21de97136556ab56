/- slices.Clone of truths and of terms. Printed by mkclones.py. match: variables in memory; made, get. -/
import Derived.Test.YtjdbjjjbgibpaaaGreatDoorTmCopiesJn
import Derived.Test.YtjdbjjjbgibpaaaGreatDoorMatSplitJn
namespace Go.Proofs.YtjdbjjjbgibpaaaGreatDoor
open Go.RowKit

def CloneP (w : World) (e : TypeId) (sz n : Nat) (xs : List Value) (en : Ending) (w' : World) : Prop := ∃ A' c', en = .returned (.slice A' n c') ∧ Slab w' e sz A' n c' xs ∧ (∀ k, rowB A' k → w.heap.size ≤ k) ∧ Keeps NoB w w'
theorem Tryz.infoClbools : (Tryz.prog.info? 4).map (fun i => (i.zero, i.size, i.bytes)) = some (some (.bool false), 1, 1) := by kernel_rfl
set_option maxRecDepth 100000 in
theorem clone_bools (B : Nat → Prop) (F : Bool) (A : Option Addr) (n c : Nat) (xs : List Value) (w : World) (hr : Reads w B F 1 A n xs) (h1 : ∀ u ∈ xs, u.oneCell' = true) (hb : Roomy n 1) :
    Calls Tryz.prog 43 #[.slice A n c] w (CloneP w 4 1 n xs) := by
  obtain ⟨i0, hi0, hz0, hz1, hz2⟩ := info_parts Tryz.infoClbools
  have q := fun (w : World) (a : Option Addr) (n c n' c' : Nat) => Lib.run_eql_slice_nil (P := Tryz.prog) w 37 4 a n c n' c' Tryz.underlying37
  rcases A with _ | ad
  · have hn : n = 0 := by
      rcases Nat.eq_zero_or_pos n with h | h
      · exact h
      · obtain ⟨ad, h, _⟩ := hr.2 h; cases h
    subst hn
    have hx : xs = [] := List.eq_nil_of_length_eq_zero (by simpa using hr.1)
    subst hx
    go_enter Tryz.func43, Tryz.ntmps43
    go_wp2
    go_ret
    exact ⟨none, 0, rfl, Slab.nil _ _ _, (fun k ⟨o, e⟩ => by cases e), Keeps.refl _ _⟩
  · go_enter Tryz.func43, Tryz.ntmps43
    go_wp2_with (at_builtin; go_must (refine wpList_append_reads _ rfl (.tmp 5) (.tmp 6) 37 rfl w.heap.size 4 i0 _ 1 1 Tryz.underlying37 hi0 hz0 hz1 hz2 rfl (by omega) (.slice (some ⟨w.heap.size, 0, none⟩) 0 0) 0 [] rfl ?z1 B F (some ad) n c xs rfl ?z2 h1 ?z3 ?z4 ?z5 ?_))
    case z1 => exact World.ownsRow_made w #[] 0 (Nat.le_refl _) (Nat.zero_le _) rfl
    case z2 => exact hr.keep ((Keeps.refl NoB w).alloc _) (fun _ _ => id)
    case z3 => rw [Nat.zero_add]; exact hb.len (by omega)
    case z4 => rw [Nat.zero_add]; exact hb
    case z5 => simp
    intro v' w' hown hg _
    obtain ⟨A', c', hv, hs⟩ := Slab.of_own hown
    subst hv
    have hbel : Below w.heap.size w w' := ((Below.refl _ _).alloc (Nat.le_refl _) _).grown hg (by simp) (fun k h => by simp [Value.ownBlock] at h; omega)
    have HS := hide hs
    have HR : Hid (∀ k, rowB A' k → w.heap.size ≤ k) := hide (by
      rintro k ⟨o, rfl⟩
      rcases hown.2 with ⟨hv, _⟩ | ⟨g, cap, cur, hv, hb, _⟩
      · cases hv
      · injection hv with hv; injection hv with hv; injection hv with hv; subst hv; exact hb)
    have HB := hide (Keeps.of_below hbel NoB); clear hbel hg hown hs
    go_wp2
    go_ret
    exact ⟨A', c', rfl, by have h := HS.out; simpa using h, HR.out, HB.out⟩
theorem Tryz.infoClterms : (Tryz.prog.info? 26).map (fun i => (i.zero, i.size, i.bytes)) = some (some (.agg #[.int .u8 0, .bool false, .slice none 0 0, .string ByteArray.empty, .int .i64 0, .slice none 0 0, .slice none 0 0]), 7, 104) := by kernel_rfl
set_option maxRecDepth 100000 in
theorem clone_terms (B : Nat → Prop) (F : Bool) (A : Option Addr) (n c : Nat) (xs : List Value) (w : World) (hr : Reads w B F 7 A n xs) (h1 : ∀ u ∈ xs, u.oneCell' = true) (hb : Roomy n 104) :
    Calls Tryz.prog 44 #[.slice A n c] w (CloneP w 26 7 n xs) := by
  obtain ⟨i0, hi0, hz0, hz1, hz2⟩ := info_parts Tryz.infoClterms
  have q := fun (w : World) (a : Option Addr) (n c n' c' : Nat) => Lib.run_eql_slice_nil (P := Tryz.prog) w 24 26 a n c n' c' Tryz.underlying24
  rcases A with _ | ad
  · have hn : n = 0 := by
      rcases Nat.eq_zero_or_pos n with h | h
      · exact h
      · obtain ⟨ad, h, _⟩ := hr.2 h; cases h
    subst hn
    have hx : xs = [] := List.eq_nil_of_length_eq_zero (by simpa using hr.1)
    subst hx
    go_enter Tryz.func44, Tryz.ntmps44
    go_wp2
    go_ret
    exact ⟨none, 0, rfl, Slab.nil _ _ _, (fun k ⟨o, e⟩ => by cases e), Keeps.refl _ _⟩
  · go_enter Tryz.func44, Tryz.ntmps44
    go_wp2_with (at_builtin; go_must (refine wpList_append_reads _ rfl (.tmp 5) (.tmp 6) 24 rfl w.heap.size 26 i0 _ 7 104 Tryz.underlying24 hi0 hz0 hz1 hz2 rfl (by omega) (.slice (some ⟨w.heap.size, 0, none⟩) 0 0) 0 [] rfl ?z1 B F (some ad) n c xs rfl ?z2 h1 ?z3 ?z4 ?z5 ?_))
    case z1 => exact World.ownsRow_made w #[] 0 (Nat.le_refl _) (Nat.zero_le _) rfl
    case z2 => exact hr.keep ((Keeps.refl NoB w).alloc _) (fun _ _ => id)
    case z3 => rw [Nat.zero_add]; exact hb.len (by omega)
    case z4 => rw [Nat.zero_add]; exact hb
    case z5 => simp
    intro v' w' hown hg _
    obtain ⟨A', c', hv, hs⟩ := Slab.of_own hown
    subst hv
    have hbel : Below w.heap.size w w' := ((Below.refl _ _).alloc (Nat.le_refl _) _).grown hg (by simp) (fun k h => by simp [Value.ownBlock] at h; omega)
    have HS := hide hs
    have HR : Hid (∀ k, rowB A' k → w.heap.size ≤ k) := hide (by
      rintro k ⟨o, rfl⟩
      rcases hown.2 with ⟨hv, _⟩ | ⟨g, cap, cur, hv, hb, _⟩
      · cases hv
      · injection hv with hv; injection hv with hv; injection hv with hv; subst hv; exact hb)
    have HB := hide (Keeps.of_below hbel NoB); clear hbel hg hown hs
    go_wp2
    go_ret
    exact ⟨A', c', rfl, by have h := HS.out; simpa using h, HR.out, HB.out⟩
end Go.Proofs.YtjdbjjjbgibpaaaGreatDoor
namespace Go.Proofs.YtjdbjjjbgibpaaaGreatDoor
open Go.RowKit

/-- Variables: a row of truths, a row of terms; the terms' own lists elsewhere. -/
structure VAt (w : World) (A : Option Addr) (n c : Nat) (D : Option Addr) (m d : Nat) (css : List (List Value)) (v : VSt) : Prop where
  hb : Slab w 4 1 A n c (v.has.map .bool)
  hv : Slab w 26 7 D m d css.flatten
  ht : TermsIn w (fun k => ¬ rowB A k ∧ ¬ rowB D k) false css v.vals
  r1 : Roomy n 1
  r2 : Roomy m 104
theorem VAt.keep {w w' : World} {A D : Option Addr} {n c m d : Nat} {css : List (List Value)} {v : VSt} (h : VAt w A n c D m d css v) (hk : Keeps NoB w w') : VAt w' A n c D m d css v :=
  ⟨h.hb.fresh hk, h.hv.fresh hk, TermsIn.keep hk (fun _ _ => id) _ _ h.ht, h.r1, h.r2⟩
theorem VAt.nh {w : World} {A D : Option Addr} {n c m d : Nat} {css : List (List Value)} {v : VSt} (h : VAt w A n c D m d css v) : v.has.length = n := by have := h.hb.1; simpa using this
theorem VAt.nc {w : World} {A D : Option Addr} {n c m d : Nat} {css : List (List Value)} {v : VSt} (h : VAt w A n c D m d css v) : css.length = m := by
  have := h.hv.1; rw [flat_len h.ht.lens.2] at this; omega
theorem VAt.nv {w : World} {A D : Option Addr} {n c m d : Nat} {css : List (List Value)} {v : VSt} (h : VAt w A n c D m d css v) : v.vals.length = m := by
  have := h.ht.lens.1; have := h.nc; omega
theorem VAt.ne {w : World} {A D : Option Addr} {n c m d : Nat} {css : List (List Value)} {v : VSt} (h : VAt w A n c D m d css v) {k : Nat} (h1 : rowB A k) : ¬ rowB D k := by
  obtain ⟨o, rfl⟩ := h1
  obtain ⟨_, _, _, ⟨h0, _⟩ | ⟨g, o', cur, h0, hb, _⟩⟩ := h.hb
  · cases h0
  · injection h0 with h0; injection h0 with h0; subst h0
    exact h.hv.ne hb (by decide)
/-- Variables that are only read. -/
structure VIn (w : World) (B : Nat → Prop) (A : Option Addr) (n c : Nat) (D : Option Addr) (m d : Nat) (css : List (List Value)) (v : VSt) : Prop where
  hb : Reads w B false 1 A n (v.has.map .bool)
  hv : Reads w B false 7 D m css.flatten
  ht : TermsIn w B false css v.vals
  r1 : RoomC n c 1
  r2 : RoomC m d 104
theorem VIn.keep {w w' : World} {B fp : Nat → Prop} {A D : Option Addr} {n c m d : Nat} {css : List (List Value)} {v : VSt} (h : VIn w B A n c D m d css v) (hk : Keeps fp w w') (hf : ∀ k, B k → ¬ fp k) : VIn w' B A n c D m d css v :=
  ⟨h.hb.keep hk hf, h.hv.keep hk hf, TermsIn.keep hk hf _ _ h.ht, h.r1, h.r2⟩
theorem VIn.nh {w : World} {B : Nat → Prop} {A D : Option Addr} {n c m d : Nat} {css : List (List Value)} {v : VSt} (h : VIn w B A n c D m d css v) : v.has.length = n := by have := h.hb.1; simpa using this
theorem VIn.nv {w : World} {B : Nat → Prop} {A D : Option Addr} {n c m d : Nat} {css : List (List Value)} {v : VSt} (h : VIn w B A n c D m d css v) : v.vals.length = m := by
  have h1 := h.hv.1; rw [flat_len h.ht.lens.2, h.ht.lens.1] at h1; omega
theorem VIn.old {w : World} {B : Nat → Prop} {A D : Option Addr} {n c m d : Nat} {css : List (List Value)} {v : VSt} (h : VIn w B A n c D m d css v) : VIn w (fun k => k < w.heap.size) A n c D m d css v :=
  ⟨h.hb.more (fun k hk _ => hk), h.hv.more (fun k hk _ => hk), TermsIn.more (fun k hk _ => hk) _ _ h.ht, h.r1, h.r2⟩
theorem VAt.read {w : World} {A D : Option Addr} {n c m d : Nat} {css : List (List Value)} {v : VSt} (h : VAt w A n c D m d css v) : VIn w (fun _ => True) A n c D m d css v :=
  ⟨(h.hb.reads.more (fun _ _ _ => trivial)).weak, (h.hv.reads.more (fun _ _ _ => trivial)).weak, TermsIn.more (fun _ _ _ => trivial) _ _ h.ht, ⟨h.r1, h.hb.2.1, h.hb.2.2.1⟩, ⟨h.r2, h.hv.2.1, h.hv.2.2.1⟩⟩

set_option maxRecDepth 100000 in
theorem vmade_any (A : Option Addr) (n c : Nat) (D : Option Addr) (m d : Nat) (w : World) (hn : n ≤ 9223372036854775807) (hm : m ≤ 9223372036854775807) :
    Calls Tryz.prog 26 #[.agg #[.slice A n c, .slice D m d]] w fun e w' => e = .returned (.bool (decide (n = m))) ∧ Keeps NoB w w' := by
  have HK := hide ((Keeps.refl NoB w).alloc (.cells #[.slice A n c, .slice D m d] 39))
  have hB := Blk.new w 39 #[.slice A n c, .slice D m d]
  have c0 : (w.alloc (.cells #[.slice A n c, .slice D m d] 39)).cell? ⟨w.heap.size, 0, none⟩ = some (.slice A n c) := hB.cell 0
  have c1 : (w.alloc (.cells #[.slice A n c, .slice D m d] 39)).cell? ⟨w.heap.size, 1, none⟩ = some (.slice D m d) := hB.cell 1
  have hd : ((n : Int) == (m : Int)) = decide (n = m) := by rw [Bool.eq_iff_iff]; simp only [beq_iff_eq, decide_eq_true_eq]; omega
  clear hB
  go_enter Tryz.func26, Tryz.ntmps26
  go_wp2
  go_ret
  exact ⟨rfl, HK.out⟩

/-- A truth of the row. -/
theorem bool_at {w : World} {B : Nat → Prop} {F : Bool} {A : Option Addr} {n i : Nat} {has : List Bool} (hr : Reads w B F 1 A n (has.map .bool)) (hi : i < n) : ∃ b o x, A = some ⟨b, o, none⟩ ∧ has[i]? = some x ∧ w.cell? ⟨b, o + i, none⟩ = some (.bool x) := by
  have hl : has.length = n := by have := hr.1; simpa using this
  obtain ⟨⟨b, o, sp⟩, hA, hs, _, _, hc⟩ := hr.2 (by omega)
  simp only at hs
  subst hs
  have hx : has[i]? = some has[i] := List.getElem?_eq_getElem (by omega)
  exact ⟨b, o, has[i], hA, hx, (hc i (.bool has[i]) (by rw [List.getElem?_map, hx]; rfl)).1⟩

def GetP (w : World) (o : Option Tm) (e : Ending) (w' : World) : Prop := match o with
  | none => e = .returned (.tuple #[.agg #[.int .u8 0, .bool false, .slice none 0 0, .string ⟨#[]⟩, .int .i64 0, .slice none 0 0, .slice none 0 0], .bool false]) ∧ Keeps NoB w w'
  | some t => ∃ (k1 : Int) (g1 : Bool) (a1 : Option Addr) (n1 c1 : Nat) (s1 : ByteArray) (m1 : Int) (a2 : Option Addr) (n2 c2 : Nat) (a3 : Option Addr) (n3 c3 : Nat), e = .returned (.tuple #[.agg #[.int .u8 k1, .bool g1, .slice a1 n1 c1, .string s1, .int .i64 m1, .slice a2 n2 c2, .slice a3 n3 c3], .bool true]) ∧ TermIn w' (fun _ => True) false [.int .u8 k1, .bool g1, .slice a1 n1 c1, .string s1, .int .i64 m1, .slice a2 n2 c2, .slice a3 n3 c3] t ∧ Keeps NoB w w'
theorem results_get (tmps : Array Value) (g4 : Nat) (b : Bool) (v0 v1 v2 v3 v4 v5 v6 : Value) (w : World) (h4 : tmps[4]? = some (.pointer (some ⟨g4, 0, none⟩))) (h5 : tmps[5]? = some (.bool b)) (hB4 : Blk w g4 26 #[v0, v1, v2, v3, v4, v5, v6]) :
    (results Tryz.f46 tmps).run Tryz.prog w = .ok (.tuple #[.agg #[v0, v1, v2, v3, v4, v5, v6], .bool b]) w := by
  obtain ⟨c0, c1, c2, c3, c4, c5, c6⟩ := Blk.c7 hB4
  have hr : Tryz.f46.results = #[ResultVar.cell 4 26, ResultVar.tmp 5] := by kernel_rfl
  simp [results, hr, go_sem, h4, h5, c0, c1, c2, c3, c4, c5, c6]
set_option maxRecDepth 100000 in
set_option maxHeartbeats 2000000 in
theorem get_any (A : Option Addr) (n c : Nat) (D : Option Addr) (m d : Nat) (css : List (List Value)) (v : VSt) (z : Int) (B : Nat → Prop) (w : World) (h : VIn w B A n c D m d css v) (hmd : v.made) :
    Calls Tryz.prog 46 #[.agg #[.slice A n c, .slice D m d], .int .i64 z] w (GetP w (v.get z)) := by
  have HK0 := hide (((Keeps.refl NoB w).alloc (.cells #[.slice A n c, .slice D m d] 39)).alloc (.cells #[.int .u8 0, .bool false, .slice none 0 0, .string ⟨#[]⟩, .int .i64 0, .slice none 0 0, .slice none 0 0] 26))
  have HB0 := hide (two_tblks w 39 26 #[.slice A n c, .slice D m d] #[.int .u8 0, .bool false, .slice none 0 0, .string ⟨#[]⟩, .int .i64 0, .slice none 0 0, .slice none 0 0]).1; have HR0 := hide (two_tblks w 39 26 #[.slice A n c, .slice D m d] #[.int .u8 0, .bool false, .slice none 0 0, .string ⟨#[]⟩, .int .i64 0, .slice none 0 0, .slice none 0 0]).2
  have H := hide h.old
  obtain rfl : n = m := by have h1 := h.nh; have h2 := h.nv; unfold VSt.made at hmd; omega
  have hn63 : n ≤ 9223372036854775807 := by have := h.r2.1; unfold Roomy at this; omega
  have HNH := hide h.nh
  clear h
  go_enter Tryz.func46, Tryz.ntmps46
  go_upto_region 1 with fail
  generalize (w.alloc (.cells #[.slice A n c, .slice D n d] 39)).alloc (.cells #[.int .u8 0, .bool false, .slice none 0 0, .string ⟨#[]⟩, .int .i64 0, .slice none 0 0, .slice none 0 0] 26) = w0 at *
  have b0 := HB0.out.cell 0
  have b1 := HB0.out.cell 1
  obtain ⟨q0, q1, q2, q3, q4, q5, q6⟩ := Blk.c7 (show Blk w0 (w.heap.size + 1) _ #[.int .u8 0, .bool false, .slice none 0 0, .string ⟨#[]⟩, .int .i64 0, .slice none 0 0, .slice none 0 0] from HR0.out)
  obtain ⟨f0, f1, f2, f3, f4, f5, f6⟩ := Blk.f7 (w := w0) (g := w.heap.size + 1) HR0.out
  by_cases hz : 0 ≤ z ∧ z < n
  · obtain ⟨i, rfl⟩ : ∃ i : Nat, z = i := ⟨z.toNat, by omega⟩
    obtain ⟨ab, ao, x, rfl, hx, ca⟩ := bool_at (H.out.hb.keep HK0.out (fun _ _ => id)) (i := i) (by omega)
    have hz1 : (i : Int) < (n : Int) := hz.2
    have hz0 : (0 : Int) ≤ i := hz.1
    have hz2 : ¬ (i : Int) < 0 := by omega
    have hz3 : ¬ (n : Int) ≤ i := by omega
    cases x with
    | true =>
      obtain ⟨b, o, kd, ng, la, ln, lc, tx, nm, ia, im, ic, ta, tn, tc, t, rfl, htk, htm, _, f0', f1', f2', f3', f4', f5', f6'⟩ := cells_at (H.out.hv.keep HK0.out (fun _ _ => id)) (TermsIn.keep HK0.out (fun _ _ => id) _ _ H.out.ht) i (by omega)
      have hget : v.get i = some t := by
        unfold VSt.get
        rw [if_pos ⟨hz0, by have := HNH.out; omega, by simpa using hx⟩]
        simpa using htk
      have HG := hide hget
      have HTM := hide htm
      clear hget htm hx htk hmd
      go_wp2
      have hA := HR0.out.tput7 (.int .u8 kd) (.bool ng) (.slice la ln lc) (.string tx) (.int .i64 nm) (.slice ia im ic) (.slice ta tn tc)
      have hk := keeps_tput7 w0 (w.heap.size + 1) (.int .u8 kd) (.bool ng) (.slice la ln lc) (.string tx) (.int .i64 nm) (.slice ia im ic) (.slice ta tn tc)
      refine bodyPost_ret (results_get _ _ _ _ _ _ _ _ _ _ _ rfl rfl hA) rfl ?_
      show GetP w (v.get _) _ _
      rw [HG.out]
      exact ⟨kd, ng, la, ln, lc, tx, nm, ia, im, ic, ta, tn, tc, rfl, TermIn.more (fun _ _ _ => trivial) _ _ (TermIn.keep hk (fun j (hj : j < w.heap.size) e => by omega) _ _ HTM.out), HK0.out.trans' hk (fun _ _ => id) (fun j hj e => by omega)⟩
    | false =>
      have hget : v.get i = none := by
        unfold VSt.get
        rw [if_neg]
        rintro ⟨_, _, h3⟩
        have e : ((i : Int).toNat) = i := by omega
        rw [e, hx] at h3; cases h3
      have HG := hide hget
      clear hget hx hmd
      go_wp2
      have hA := HR0.out.tput7 (.int .u8 0) (.bool false) (.slice none 0 0) (.string ⟨#[]⟩) (.int .i64 0) (.slice none 0 0) (.slice none 0 0)
      have hk := keeps_tput7 w0 (w.heap.size + 1) (.int .u8 0) (.bool false) (.slice none 0 0) (.string ⟨#[]⟩) (.int .i64 0) (.slice none 0 0) (.slice none 0 0)
      refine bodyPost_ret (results_get _ _ _ _ _ _ _ _ _ _ _ rfl rfl hA) rfl ?_
      show GetP w (v.get _) _ _
      rw [HG.out]
      exact ⟨rfl, HK0.out.trans' hk (fun _ _ => id) (fun j hj e => by omega)⟩
  · have hget : v.get z = none := by
      unfold VSt.get
      rw [if_neg]
      rintro ⟨h1, h2, _⟩
      exact hz ⟨h1, by have := HNH.out; omega⟩
    have HG := hide hget
    clear hget hmd
    by_cases hz0 : z < 0
    · go_wp2
      have hA := HR0.out.tput7 (.int .u8 0) (.bool false) (.slice none 0 0) (.string ⟨#[]⟩) (.int .i64 0) (.slice none 0 0) (.slice none 0 0)
      have hk := keeps_tput7 w0 (w.heap.size + 1) (.int .u8 0) (.bool false) (.slice none 0 0) (.string ⟨#[]⟩) (.int .i64 0) (.slice none 0 0) (.slice none 0 0)
      refine bodyPost_ret (results_get _ _ _ _ _ _ _ _ _ _ _ rfl rfl hA) rfl ?_
      show GetP w (v.get _) _ _
      rw [HG.out]
      exact ⟨rfl, HK0.out.trans' hk (fun _ _ => id) (fun j hj e => by omega)⟩
    · have hz1 : (n : Int) ≤ z := by omega
      have hz2 : 0 ≤ z := by omega
      go_wp2
      have hA := HR0.out.tput7 (.int .u8 0) (.bool false) (.slice none 0 0) (.string ⟨#[]⟩) (.int .i64 0) (.slice none 0 0) (.slice none 0 0)
      have hk := keeps_tput7 w0 (w.heap.size + 1) (.int .u8 0) (.bool false) (.slice none 0 0) (.string ⟨#[]⟩) (.int .i64 0) (.slice none 0 0) (.slice none 0 0)
      refine bodyPost_ret (results_get _ _ _ _ _ _ _ _ _ _ _ rfl rfl hA) rfl ?_
      show GetP w (v.get _) _ _
      rw [HG.out]
      exact ⟨rfl, HK0.out.trans' hk (fun _ _ => id) (fun j hj e => by omega)⟩
end Go.Proofs.YtjdbjjjbgibpaaaGreatDoor
