/- slices.Clone of truths and of terms. Printed by mkclones.py. match: variables in memory; made, get. match: Vars.own. Printed by mkmown.py. match.New. -/
import Derived.Test.YtjdbjjjbgibpaaaGreatDoorTmCopiesJn
import Derived.Test.YtjdbjjjbgibpaaaGreatDoorMatSplitJn
import Derived.Laws.OwnMore
namespace Go.Proofs.YtjdbjjjbgibpaaaGreatDoor
open Go.RowKit

def CloneP (w : World) (e : TypeId) (sz n : Nat) (xs : List Value) (en : Ending) (w' : World) : Prop := ∃ A' c', en = .returned (.slice A' n c') ∧ Slab w' e sz A' n c' xs ∧ (∀ k, rowB A' k → w.heap.size ≤ k) ∧ Keeps NoB w w'
theorem Tryz.infoClbools : (Tryz.prog.info? 4).map (fun i => (i.zero, i.size, i.bytes)) = some (some (.bool false), 1, 1) := by kernel_rfl
set_option maxRecDepth 100000 in
theorem clone_bools (B : Nat → Prop) (F : Bool) (A : Option Addr) (n c : Nat) (xs : List Value) (w : World) (hr : Reads w B F 1 A n xs) (h1 : ∀ u ∈ xs, u.oneCell' = true) (hb : Roomy n 1) :
    Calls Tryz.prog 43 #[.slice A n c] w (CloneP w 4 1 n xs) := by
  obtain ⟨i0, hi0, hz0, hz1, hz2⟩ := info_parts Tryz.infoClbools
  have q := fun (w : World) (a : Option Addr) (n c n' c' : Nat) => Lib.run_eql_slice_nil (P := Tryz.prog) w 37 4 a n c n' c' Tryz.underlying37
  rcases A with _ | ad
  · have hn : n = 0 := by
      rcases Nat.eq_zero_or_pos n with h | h
      · exact h
      · obtain ⟨ad, h, _⟩ := hr.2 h; cases h
    subst hn
    have hx : xs = [] := List.eq_nil_of_length_eq_zero (by simpa using hr.1)
    subst hx
    go_enter Tryz.func43, Tryz.ntmps43
    go_wp2
    go_ret
    exact ⟨none, 0, rfl, Slab.nil _ _ _, (fun k ⟨o, e⟩ => by cases e), Keeps.refl _ _⟩
  · go_enter Tryz.func43, Tryz.ntmps43
    go_wp2_with (at_builtin; go_must (refine wpList_append_reads _ rfl (.tmp 5) (.tmp 6) 37 rfl w.heap.size 4 i0 _ 1 1 Tryz.underlying37 hi0 hz0 hz1 hz2 rfl (by omega) (.slice (some ⟨w.heap.size, 0, none⟩) 0 0) 0 [] rfl ?z1 B F (some ad) n c xs rfl ?z2 h1 ?z3 ?z4 ?z5 ?_))
    case z1 => exact World.ownsRow_made w #[] 0 (Nat.le_refl _) (Nat.zero_le _) rfl
    case z2 => exact hr.keep ((Keeps.refl NoB w).alloc _) (fun _ _ => id)
    case z3 => rw [Nat.zero_add]; exact hb.len (by omega)
    case z4 => rw [Nat.zero_add]; exact hb
    case z5 => simp
    intro v' w' hown hg _
    obtain ⟨A', c', hv, hs⟩ := Slab.of_own hown
    subst hv
    have hbel : Below w.heap.size w w' := ((Below.refl _ _).alloc (Nat.le_refl _) _).grown hg (by simp) (fun k h => by simp [Value.ownBlock] at h; omega)
    have HS := hide hs
    have HR : Hid (∀ k, rowB A' k → w.heap.size ≤ k) := hide (by
      rintro k ⟨o, rfl⟩
      rcases hown.2 with ⟨hv, _⟩ | ⟨g, cap, cur, hv, hb, _⟩
      · cases hv
      · injection hv with hv; injection hv with hv; injection hv with hv; subst hv; exact hb)
    have HB := hide (Keeps.of_below hbel NoB); clear hbel hg hown hs
    go_wp2
    go_ret
    exact ⟨A', c', rfl, by have h := HS.out; simpa using h, HR.out, HB.out⟩
theorem Tryz.infoClterms : (Tryz.prog.info? 26).map (fun i => (i.zero, i.size, i.bytes)) = some (some (.agg #[.int .u8 0, .bool false, .slice none 0 0, .string ByteArray.empty, .int .i64 0, .slice none 0 0, .slice none 0 0]), 7, 104) := by kernel_rfl
set_option maxRecDepth 100000 in
theorem clone_terms (B : Nat → Prop) (F : Bool) (A : Option Addr) (n c : Nat) (xs : List Value) (w : World) (hr : Reads w B F 7 A n xs) (h1 : ∀ u ∈ xs, u.oneCell' = true) (hb : Roomy n 104) :
    Calls Tryz.prog 44 #[.slice A n c] w (CloneP w 26 7 n xs) := by
  obtain ⟨i0, hi0, hz0, hz1, hz2⟩ := info_parts Tryz.infoClterms
  have q := fun (w : World) (a : Option Addr) (n c n' c' : Nat) => Lib.run_eql_slice_nil (P := Tryz.prog) w 24 26 a n c n' c' Tryz.underlying24
  rcases A with _ | ad
  · have hn : n = 0 := by
      rcases Nat.eq_zero_or_pos n with h | h
      · exact h
      · obtain ⟨ad, h, _⟩ := hr.2 h; cases h
    subst hn
    have hx : xs = [] := List.eq_nil_of_length_eq_zero (by simpa using hr.1)
    subst hx
    go_enter Tryz.func44, Tryz.ntmps44
    go_wp2
    go_ret
    exact ⟨none, 0, rfl, Slab.nil _ _ _, (fun k ⟨o, e⟩ => by cases e), Keeps.refl _ _⟩
  · go_enter Tryz.func44, Tryz.ntmps44
    go_wp2_with (at_builtin; go_must (refine wpList_append_reads _ rfl (.tmp 5) (.tmp 6) 24 rfl w.heap.size 26 i0 _ 7 104 Tryz.underlying24 hi0 hz0 hz1 hz2 rfl (by omega) (.slice (some ⟨w.heap.size, 0, none⟩) 0 0) 0 [] rfl ?z1 B F (some ad) n c xs rfl ?z2 h1 ?z3 ?z4 ?z5 ?_))
    case z1 => exact World.ownsRow_made w #[] 0 (Nat.le_refl _) (Nat.zero_le _) rfl
    case z2 => exact hr.keep ((Keeps.refl NoB w).alloc _) (fun _ _ => id)
    case z3 => rw [Nat.zero_add]; exact hb.len (by omega)
    case z4 => rw [Nat.zero_add]; exact hb
    case z5 => simp
    intro v' w' hown hg _
    obtain ⟨A', c', hv, hs⟩ := Slab.of_own hown
    subst hv
    have hbel : Below w.heap.size w w' := ((Below.refl _ _).alloc (Nat.le_refl _) _).grown hg (by simp) (fun k h => by simp [Value.ownBlock] at h; omega)
    have HS := hide hs
    have HR : Hid (∀ k, rowB A' k → w.heap.size ≤ k) := hide (by
      rintro k ⟨o, rfl⟩
      rcases hown.2 with ⟨hv, _⟩ | ⟨g, cap, cur, hv, hb, _⟩
      · cases hv
      · injection hv with hv; injection hv with hv; injection hv with hv; subst hv; exact hb)
    have HB := hide (Keeps.of_below hbel NoB); clear hbel hg hown hs
    go_wp2
    go_ret
    exact ⟨A', c', rfl, by have h := HS.out; simpa using h, HR.out, HB.out⟩
end Go.Proofs.YtjdbjjjbgibpaaaGreatDoor
namespace Go.Proofs.YtjdbjjjbgibpaaaGreatDoor
open Go.RowKit

/-- Variables: a row of truths, a row of terms; the terms' own lists elsewhere. -/
structure VAt (w : World) (A : Option Addr) (n c : Nat) (D : Option Addr) (m d : Nat) (css : List (List Value)) (v : VSt) : Prop where
  hb : Slab w 4 1 A n c (v.has.map .bool)
  hv : Slab w 26 7 D m d css.flatten
  ht : TermsIn w (fun k => ¬ rowB A k ∧ ¬ rowB D k) false css v.vals
  r1 : Roomy n 1
  r2 : Roomy m 104
theorem VAt.keep {w w' : World} {A D : Option Addr} {n c m d : Nat} {css : List (List Value)} {v : VSt} (h : VAt w A n c D m d css v) (hk : Keeps NoB w w') : VAt w' A n c D m d css v :=
  ⟨h.hb.fresh hk, h.hv.fresh hk, TermsIn.keep hk (fun _ _ => id) _ _ h.ht, h.r1, h.r2⟩
theorem VAt.nh {w : World} {A D : Option Addr} {n c m d : Nat} {css : List (List Value)} {v : VSt} (h : VAt w A n c D m d css v) : v.has.length = n := by have := h.hb.1; simpa using this
theorem VAt.nc {w : World} {A D : Option Addr} {n c m d : Nat} {css : List (List Value)} {v : VSt} (h : VAt w A n c D m d css v) : css.length = m := by
  have := h.hv.1; rw [flat_len h.ht.lens.2] at this; omega
theorem VAt.nv {w : World} {A D : Option Addr} {n c m d : Nat} {css : List (List Value)} {v : VSt} (h : VAt w A n c D m d css v) : v.vals.length = m := by
  have := h.ht.lens.1; have := h.nc; omega
theorem VAt.ne {w : World} {A D : Option Addr} {n c m d : Nat} {css : List (List Value)} {v : VSt} (h : VAt w A n c D m d css v) {k : Nat} (h1 : rowB A k) : ¬ rowB D k := by
  obtain ⟨o, rfl⟩ := h1
  obtain ⟨_, _, _, ⟨h0, _⟩ | ⟨g, o', cur, h0, hb, _⟩⟩ := h.hb
  · cases h0
  · injection h0 with h0; injection h0 with h0; subst h0
    exact h.hv.ne hb (by decide)
/-- Variables that are only read. -/
structure VIn (w : World) (B : Nat → Prop) (A : Option Addr) (n c : Nat) (D : Option Addr) (m d : Nat) (css : List (List Value)) (v : VSt) : Prop where
  hb : Reads w B false 1 A n (v.has.map .bool)
  hv : Reads w B false 7 D m css.flatten
  ht : TermsIn w B false css v.vals
  r1 : RoomC n c 1
  r2 : RoomC m d 104
theorem VIn.keep {w w' : World} {B fp : Nat → Prop} {A D : Option Addr} {n c m d : Nat} {css : List (List Value)} {v : VSt} (h : VIn w B A n c D m d css v) (hk : Keeps fp w w') (hf : ∀ k, B k → ¬ fp k) : VIn w' B A n c D m d css v :=
  ⟨h.hb.keep hk hf, h.hv.keep hk hf, TermsIn.keep hk hf _ _ h.ht, h.r1, h.r2⟩
theorem VIn.nh {w : World} {B : Nat → Prop} {A D : Option Addr} {n c m d : Nat} {css : List (List Value)} {v : VSt} (h : VIn w B A n c D m d css v) : v.has.length = n := by have := h.hb.1; simpa using this
theorem VIn.nv {w : World} {B : Nat → Prop} {A D : Option Addr} {n c m d : Nat} {css : List (List Value)} {v : VSt} (h : VIn w B A n c D m d css v) : v.vals.length = m := by
  have h1 := h.hv.1; rw [flat_len h.ht.lens.2, h.ht.lens.1] at h1; omega
theorem VIn.old {w : World} {B : Nat → Prop} {A D : Option Addr} {n c m d : Nat} {css : List (List Value)} {v : VSt} (h : VIn w B A n c D m d css v) : VIn w (fun k => k < w.heap.size) A n c D m d css v :=
  ⟨h.hb.more (fun k hk _ => hk), h.hv.more (fun k hk _ => hk), TermsIn.more (fun k hk _ => hk) _ _ h.ht, h.r1, h.r2⟩
theorem VAt.read {w : World} {A D : Option Addr} {n c m d : Nat} {css : List (List Value)} {v : VSt} (h : VAt w A n c D m d css v) : VIn w (fun _ => True) A n c D m d css v :=
  ⟨(h.hb.reads.more (fun _ _ _ => trivial)).weak, (h.hv.reads.more (fun _ _ _ => trivial)).weak, TermsIn.more (fun _ _ _ => trivial) _ _ h.ht, ⟨h.r1, h.hb.2.1, h.hb.2.2.1⟩, ⟨h.r2, h.hv.2.1, h.hv.2.2.1⟩⟩

set_option maxRecDepth 100000 in
theorem vmade_any (A : Option Addr) (n c : Nat) (D : Option Addr) (m d : Nat) (w : World) (hn : n ≤ 9223372036854775807) (hm : m ≤ 9223372036854775807) :
    Calls Tryz.prog 26 #[.agg #[.slice A n c, .slice D m d]] w fun e w' => e = .returned (.bool (decide (n = m))) ∧ Keeps NoB w w' := by
  have HK := hide ((Keeps.refl NoB w).alloc (.cells #[.slice A n c, .slice D m d] 39))
  have hB := Blk.new w 39 #[.slice A n c, .slice D m d]
  have c0 : (w.alloc (.cells #[.slice A n c, .slice D m d] 39)).cell? ⟨w.heap.size, 0, none⟩ = some (.slice A n c) := hB.cell 0
  have c1 : (w.alloc (.cells #[.slice A n c, .slice D m d] 39)).cell? ⟨w.heap.size, 1, none⟩ = some (.slice D m d) := hB.cell 1
  have hd : ((n : Int) == (m : Int)) = decide (n = m) := by rw [Bool.eq_iff_iff]; simp only [beq_iff_eq, decide_eq_true_eq]; omega
  clear hB
  go_enter Tryz.func26, Tryz.ntmps26
  go_wp2
  go_ret
  exact ⟨rfl, HK.out⟩

/-- A truth of the row. -/
theorem bool_at {w : World} {B : Nat → Prop} {F : Bool} {A : Option Addr} {n i : Nat} {has : List Bool} (hr : Reads w B F 1 A n (has.map .bool)) (hi : i < n) : ∃ b o x, A = some ⟨b, o, none⟩ ∧ has[i]? = some x ∧ w.cell? ⟨b, o + i, none⟩ = some (.bool x) := by
  have hl : has.length = n := by have := hr.1; simpa using this
  obtain ⟨⟨b, o, sp⟩, hA, hs, _, _, hc⟩ := hr.2 (by omega)
  simp only at hs
  subst hs
  have hx : has[i]? = some has[i] := List.getElem?_eq_getElem (by omega)
  exact ⟨b, o, has[i], hA, hx, (hc i (.bool has[i]) (by rw [List.getElem?_map, hx]; rfl)).1⟩

def GetP (w : World) (o : Option Tm) (e : Ending) (w' : World) : Prop := match o with
  | none => e = .returned (.tuple #[.agg #[.int .u8 0, .bool false, .slice none 0 0, .string ⟨#[]⟩, .int .i64 0, .slice none 0 0, .slice none 0 0], .bool false]) ∧ Keeps NoB w w'
  | some t => ∃ (k1 : Int) (g1 : Bool) (a1 : Option Addr) (n1 c1 : Nat) (s1 : ByteArray) (m1 : Int) (a2 : Option Addr) (n2 c2 : Nat) (a3 : Option Addr) (n3 c3 : Nat), e = .returned (.tuple #[.agg #[.int .u8 k1, .bool g1, .slice a1 n1 c1, .string s1, .int .i64 m1, .slice a2 n2 c2, .slice a3 n3 c3], .bool true]) ∧ TermIn w' (fun _ => True) false [.int .u8 k1, .bool g1, .slice a1 n1 c1, .string s1, .int .i64 m1, .slice a2 n2 c2, .slice a3 n3 c3] t ∧ Keeps NoB w w'
theorem results_get (tmps : Array Value) (g4 : Nat) (b : Bool) (v0 v1 v2 v3 v4 v5 v6 : Value) (w : World) (h4 : tmps[4]? = some (.pointer (some ⟨g4, 0, none⟩))) (h5 : tmps[5]? = some (.bool b)) (hB4 : Blk w g4 26 #[v0, v1, v2, v3, v4, v5, v6]) :
    (results Tryz.f46 tmps).run Tryz.prog w = .ok (.tuple #[.agg #[v0, v1, v2, v3, v4, v5, v6], .bool b]) w := by
  obtain ⟨c0, c1, c2, c3, c4, c5, c6⟩ := Blk.c7 hB4
  have hr : Tryz.f46.results = #[ResultVar.cell 4 26, ResultVar.tmp 5] := by kernel_rfl
  simp [results, hr, go_sem, h4, h5, c0, c1, c2, c3, c4, c5, c6]
set_option maxRecDepth 100000 in
set_option maxHeartbeats 2000000 in
theorem get_any (A : Option Addr) (n c : Nat) (D : Option Addr) (m d : Nat) (css : List (List Value)) (v : VSt) (z : Int) (B : Nat → Prop) (w : World) (h : VIn w B A n c D m d css v) (hmd : v.made) :
    Calls Tryz.prog 46 #[.agg #[.slice A n c, .slice D m d], .int .i64 z] w (GetP w (v.get z)) := by
  have HK0 := hide (((Keeps.refl NoB w).alloc (.cells #[.slice A n c, .slice D m d] 39)).alloc (.cells #[.int .u8 0, .bool false, .slice none 0 0, .string ⟨#[]⟩, .int .i64 0, .slice none 0 0, .slice none 0 0] 26))
  have HB0 := hide (two_tblks w 39 26 #[.slice A n c, .slice D m d] #[.int .u8 0, .bool false, .slice none 0 0, .string ⟨#[]⟩, .int .i64 0, .slice none 0 0, .slice none 0 0]).1; have HR0 := hide (two_tblks w 39 26 #[.slice A n c, .slice D m d] #[.int .u8 0, .bool false, .slice none 0 0, .string ⟨#[]⟩, .int .i64 0, .slice none 0 0, .slice none 0 0]).2
  have H := hide h.old
  obtain rfl : n = m := by have h1 := h.nh; have h2 := h.nv; unfold VSt.made at hmd; omega
  have hn63 : n ≤ 9223372036854775807 := by have := h.r2.1; unfold Roomy at this; omega
  have HNH := hide h.nh
  clear h
  go_enter Tryz.func46, Tryz.ntmps46
  go_upto_region 1 with fail
  generalize (w.alloc (.cells #[.slice A n c, .slice D n d] 39)).alloc (.cells #[.int .u8 0, .bool false, .slice none 0 0, .string ⟨#[]⟩, .int .i64 0, .slice none 0 0, .slice none 0 0] 26) = w0 at *
  have b0 := HB0.out.cell 0
  have b1 := HB0.out.cell 1
  obtain ⟨q0, q1, q2, q3, q4, q5, q6⟩ := Blk.c7 (show Blk w0 (w.heap.size + 1) _ #[.int .u8 0, .bool false, .slice none 0 0, .string ⟨#[]⟩, .int .i64 0, .slice none 0 0, .slice none 0 0] from HR0.out)
  obtain ⟨f0, f1, f2, f3, f4, f5, f6⟩ := Blk.f7 (w := w0) (g := w.heap.size + 1) HR0.out
  by_cases hz : 0 ≤ z ∧ z < n
  · obtain ⟨i, rfl⟩ : ∃ i : Nat, z = i := ⟨z.toNat, by omega⟩
    obtain ⟨ab, ao, x, rfl, hx, ca⟩ := bool_at (H.out.hb.keep HK0.out (fun _ _ => id)) (i := i) (by omega)
    have hz1 : (i : Int) < (n : Int) := hz.2
    have hz0 : (0 : Int) ≤ i := hz.1
    have hz2 : ¬ (i : Int) < 0 := by omega
    have hz3 : ¬ (n : Int) ≤ i := by omega
    cases x with
    | true =>
      obtain ⟨b, o, kd, ng, la, ln, lc, tx, nm, ia, im, ic, ta, tn, tc, t, rfl, htk, htm, _, f0', f1', f2', f3', f4', f5', f6'⟩ := cells_at (H.out.hv.keep HK0.out (fun _ _ => id)) (TermsIn.keep HK0.out (fun _ _ => id) _ _ H.out.ht) i (by omega)
      have hget : v.get i = some t := by
        unfold VSt.get
        rw [if_pos ⟨hz0, by have := HNH.out; omega, by simpa using hx⟩]
        simpa using htk
      have HG := hide hget
      have HTM := hide htm
      clear hget htm hx htk hmd
      go_wp2
      have hA := HR0.out.tput7 (.int .u8 kd) (.bool ng) (.slice la ln lc) (.string tx) (.int .i64 nm) (.slice ia im ic) (.slice ta tn tc)
      have hk := keeps_tput7 w0 (w.heap.size + 1) (.int .u8 kd) (.bool ng) (.slice la ln lc) (.string tx) (.int .i64 nm) (.slice ia im ic) (.slice ta tn tc)
      refine bodyPost_ret (results_get _ _ _ _ _ _ _ _ _ _ _ rfl rfl hA) rfl ?_
      show GetP w (v.get _) _ _
      rw [HG.out]
      exact ⟨kd, ng, la, ln, lc, tx, nm, ia, im, ic, ta, tn, tc, rfl, TermIn.more (fun _ _ _ => trivial) _ _ (TermIn.keep hk (fun j (hj : j < w.heap.size) e => by omega) _ _ HTM.out), HK0.out.trans' hk (fun _ _ => id) (fun j hj e => by omega)⟩
    | false =>
      have hget : v.get i = none := by
        unfold VSt.get
        rw [if_neg]
        rintro ⟨_, _, h3⟩
        have e : ((i : Int).toNat) = i := by omega
        rw [e, hx] at h3; cases h3
      have HG := hide hget
      clear hget hx hmd
      go_wp2
      have hA := HR0.out.tput7 (.int .u8 0) (.bool false) (.slice none 0 0) (.string ⟨#[]⟩) (.int .i64 0) (.slice none 0 0) (.slice none 0 0)
      have hk := keeps_tput7 w0 (w.heap.size + 1) (.int .u8 0) (.bool false) (.slice none 0 0) (.string ⟨#[]⟩) (.int .i64 0) (.slice none 0 0) (.slice none 0 0)
      refine bodyPost_ret (results_get _ _ _ _ _ _ _ _ _ _ _ rfl rfl hA) rfl ?_
      show GetP w (v.get _) _ _
      rw [HG.out]
      exact ⟨rfl, HK0.out.trans' hk (fun _ _ => id) (fun j hj e => by omega)⟩
  · have hget : v.get z = none := by
      unfold VSt.get
      rw [if_neg]
      rintro ⟨h1, h2, _⟩
      exact hz ⟨h1, by have := HNH.out; omega⟩
    have HG := hide hget
    clear hget hmd
    by_cases hz0 : z < 0
    · go_wp2
      have hA := HR0.out.tput7 (.int .u8 0) (.bool false) (.slice none 0 0) (.string ⟨#[]⟩) (.int .i64 0) (.slice none 0 0) (.slice none 0 0)
      have hk := keeps_tput7 w0 (w.heap.size + 1) (.int .u8 0) (.bool false) (.slice none 0 0) (.string ⟨#[]⟩) (.int .i64 0) (.slice none 0 0) (.slice none 0 0)
      refine bodyPost_ret (results_get _ _ _ _ _ _ _ _ _ _ _ rfl rfl hA) rfl ?_
      show GetP w (v.get _) _ _
      rw [HG.out]
      exact ⟨rfl, HK0.out.trans' hk (fun _ _ => id) (fun j hj e => by omega)⟩
    · have hz1 : (n : Int) ≤ z := by omega
      have hz2 : 0 ≤ z := by omega
      go_wp2
      have hA := HR0.out.tput7 (.int .u8 0) (.bool false) (.slice none 0 0) (.string ⟨#[]⟩) (.int .i64 0) (.slice none 0 0) (.slice none 0 0)
      have hk := keeps_tput7 w0 (w.heap.size + 1) (.int .u8 0) (.bool false) (.slice none 0 0) (.string ⟨#[]⟩) (.int .i64 0) (.slice none 0 0) (.slice none 0 0)
      refine bodyPost_ret (results_get _ _ _ _ _ _ _ _ _ _ _ rfl rfl hA) rfl ?_
      show GetP w (v.get _) _ _
      rw [HG.out]
      exact ⟨rfl, HK0.out.trans' hk (fun _ _ => id) (fun j hj e => by omega)⟩
end Go.Proofs.YtjdbjjjbgibpaaaGreatDoor
namespace Go.Proofs.YtjdbjjjbgibpaaaGreatDoor
open Go.RowKit

/-- Seven cells of a row of terms are written. -/
theorem Slab.set7 {w : World} {g o n c i : Nat} {css : List (List Value)} (h : Slab w 26 7 (some ⟨g, o, none⟩) n c css.flatten) (h7 : ∀ c ∈ css, c.length = 7) (hi : i < n) (v0 v1 v2 v3 v4 v5 v6 : Value) :
    Slab (((((((w.setCell ⟨g, o + i * 7, none⟩ v0).setCell ⟨g, o + i * 7 + 1, none⟩ v1).setCell ⟨g, o + i * 7 + 2, none⟩ v2).setCell ⟨g, o + i * 7 + 3, none⟩ v3).setCell ⟨g, o + i * 7 + 4, none⟩ v4).setCell ⟨g, o + i * 7 + 5, none⟩ v5).setCell ⟨g, o + i * 7 + 6, none⟩ v6) 26 7 (some ⟨g, o, none⟩) n c (css.set i [v0, v1, v2, v3, v4, v5, v6]).flatten := by
  have hl : css.length = n := by have := h.1; rw [flat_len h7] at this; omega
  have h6 := Slab.put1 (j := i * 7 + 6) (Slab.put1 (j := i * 7 + 5) (Slab.put1 (j := i * 7 + 4) (Slab.put1 (j := i * 7 + 3) (Slab.put1 (j := i * 7 + 2) (Slab.put1 (j := i * 7 + 1) (Slab.put1 (j := i * 7) h (by omega) v0) (by omega) v1) (by omega) v2) (by omega) v3) (by omega) v4) (by omega) v5) (by omega) v6
  rw [flat_set7 h7 i (by omega)] at h6
  exact h6
theorem TermsIn.set {w : World} {B : Nat → Prop} {F : Bool} : ∀ {ts : List Tm} {css : List (List Value)} (i : Nat) {cs : List Value} {t : Tm}, TermsIn w B F css ts → TermIn w B F cs t → TermsIn w B F (css.set i cs) (ts.set i t)
  | [], [], i, _, _, h, _ => by simpa using h
  | t :: ts, cs :: css, 0, _, _, h, h2 => by
    unfold TermsIn at h
    rw [List.set_cons_zero, List.set_cons_zero]
    unfold TermsIn
    exact ⟨h2, h.2⟩
  | t :: ts, cs :: css, i + 1, _, _, h, h2 => by
    unfold TermsIn at h
    rw [List.set_cons_succ, List.set_cons_succ]
    unfold TermsIn
    exact ⟨h.1, TermsIn.set i h.2 h2⟩
  | [], _ :: _, _, _, _, h, _ => by unfold TermsIn at h; exact h.elim
  | _ :: _, [], _, _, _, h, _ => by unfold TermsIn at h; exact h.elim
theorem slab_apart {w : World} {e e2 : TypeId} {size size2 n n2 c c2 : Nat} {A A2 : Option Addr} {xs ys : List Value} (h : Slab w e size A n c xs) (h2 : Slab w e2 size2 A2 n2 c2 ys) (hne : e ≠ e2) (k : Nat) (hk : rowB A k) : ¬ rowB A2 k := by
  obtain ⟨o, rfl⟩ := hk
  obtain ⟨_, _, _, ⟨h0, _⟩ | ⟨g, o', cur, h0, hb, _⟩⟩ := h
  · cases h0
  · injection h0 with h0; injection h0 with h0; subst h0
    exact h2.ne hb (Ne.symm hne)
theorem results_vars (f : Func) (k : Nat) (hr : f.results = #[ResultVar.cell k 39]) (tmps : Array Value) (g4 : Nat) (v0 v1 : Value) (w : World) (h4 : tmps[k]? = some (.pointer (some ⟨g4, 0, none⟩))) (hB4 : Blk w g4 39 #[v0, v1]) :
    (results f tmps).run Tryz.prog w = .ok (.agg #[v0, v1]) w := by
  have c0 : w.cell? ⟨g4, 0, none⟩ = some v0 := hB4.cell 0
  have c1 : w.cell? ⟨g4, 1, none⟩ = some v1 := hB4.cell 1
  simp [results, hr, go_sem, h4, c0, c1]
theorem take_set {α : Type} {l : List α} {i : Nat} (x : α) (h : i < l.length) : (l.set i x).take (i + 1) = l.take i ++ [x] := by
  rw [List.take_add_one, List.getElem?_set_self (by omega), List.take_set_of_le (Nat.le_refl _)]; rfl
theorem take_at {α : Type} {l : List α} {i : Nat} {x : α} (h : l[i]? = some x) : l.take (i + 1) = l.take i ++ [x] := by
  rw [List.take_add_one, h]; rfl
theorem set_at {α : Type} {l : List α} {i : Nat} {x : α} (h : l[i]? = some x) : l.set i x = l := by
  obtain ⟨hl, e⟩ := List.getElem?_eq_some_iff.1 h
  rw [← e]; exact List.set_getElem_self hl
/-- The first i are copied: each term from there on may still share its lists. -/
structure OwnV (w wx : World) (g : Nat) (A : Option Addr) (n c : Nat) (D : Option Addr) (m d : Nat) (v : VSt) (i : Nat) : Prop where
  ex : ∃ css, Slab wx 26 7 D m d css.flatten ∧ TermsIn wx (fun k => k < w.heap.size ∨ (¬ rowB A k ∧ ¬ rowB D k ∧ ¬ k = g)) false css v.vals ∧ TermsIn wx (fun k => w.heap.size + 2 ≤ k ∧ ¬ rowB A k ∧ ¬ rowB D k ∧ ¬ k = g) false (css.take i) (v.vals.take i)
  blk : Blk wx g 39 #[.slice A n c, .slice D m d]
  hb : Slab wx 4 1 A n c (v.has.map .bool)
  kp : Keeps NoB w wx
theorem OwnV.fresh {w wx wy : World} {g n c m d i : Nat} {A D : Option Addr} {v : VSt} (h : OwnV w wx g A n c D m d v i) (hk : Keeps NoB wx wy) : OwnV w wy g A n c D m d v i := by
  obtain ⟨css, h1, h2, h3⟩ := h.ex
  exact ⟨⟨css, h1.fresh hk, TermsIn.keep hk (fun _ _ => id) _ _ h2, TermsIn.keep hk (fun _ _ => id) _ _ h3⟩, h.blk.keep hk id, h.hb.fresh hk, h.kp.trans' hk (fun _ _ => id) (fun _ _ => id)⟩
/-- A copied term is laid into the row. -/
theorem OwnV.step {w wr w4 W5 : World} {g Db Do n c m d i : Nat} {A : Option Addr} {v : VSt} {t : Tm} {v0 v1 v2 v3 v4 v5 v6 : Value} (h : OwnV w wr g A n c (some ⟨Db, Do, none⟩) m d v i) (hi : i < m) (ht : v.vals[i]? = some t) (h4 : Keeps NoB wr w4) (h5 : Keeps NoB w4 W5) (htm : TermIn W5 (Above w4) false [v0, v1, v2, v3, v4, v5, v6] t) (hD : w.heap.size ≤ Db) (hg : ¬ g = Db) (hA : ¬ rowB A Db) (hw : w.heap.size + 2 ≤ wr.heap.size) :
    OwnV w (((((((W5.setCell ⟨Db, Do + i * 7, none⟩ v0).setCell ⟨Db, Do + i * 7 + 1, none⟩ v1).setCell ⟨Db, Do + i * 7 + 2, none⟩ v2).setCell ⟨Db, Do + i * 7 + 3, none⟩ v3).setCell ⟨Db, Do + i * 7 + 4, none⟩ v4).setCell ⟨Db, Do + i * 7 + 5, none⟩ v5).setCell ⟨Db, Do + i * 7 + 6, none⟩ v6) g A n c (some ⟨Db, Do, none⟩) m d v (i + 1) := by
  have hr5 : Keeps NoB wr W5 := h4.trans' h5 (fun _ _ => id) (fun _ _ => id)
  obtain ⟨css, h1, h2, h3⟩ := (h.fresh hr5).ex
  have hlt : ∀ k, k = g ∨ rowB A k ∨ k = Db → k < wr.heap.size := by
    obtain ⟨css0, q1, _⟩ := h.ex
    rintro k (rfl | hk | rfl)
    · exact h.blk.lt
    · exact h.hb.lt hk
    · exact q1.lt ⟨Do, rfl⟩
  have hs4 := h4.size
  have hcl : css.length = m := by have := h1.1; rw [flat_len h2.lens.2] at this; omega
  have hks : Keeps (fun k => k = Db) W5 (((((((W5.setCell ⟨Db, Do + i * 7, none⟩ v0).setCell ⟨Db, Do + i * 7 + 1, none⟩ v1).setCell ⟨Db, Do + i * 7 + 2, none⟩ v2).setCell ⟨Db, Do + i * 7 + 3, none⟩ v3).setCell ⟨Db, Do + i * 7 + 4, none⟩ v4).setCell ⟨Db, Do + i * 7 + 5, none⟩ v5).setCell ⟨Db, Do + i * 7 + 6, none⟩ v6) := (((((((Keeps.refl (fun k => k = Db) W5).setCell (p := ⟨Db, Do + i * 7, none⟩) (.inl rfl) v0).setCell (p := ⟨Db, Do + i * 7 + 1, none⟩) (.inl rfl) v1).setCell (p := ⟨Db, Do + i * 7 + 2, none⟩) (.inl rfl) v2).setCell (p := ⟨Db, Do + i * 7 + 3, none⟩) (.inl rfl) v3).setCell (p := ⟨Db, Do + i * 7 + 4, none⟩) (.inl rfl) v4).setCell (p := ⟨Db, Do + i * 7 + 5, none⟩) (.inl rfl) v5).setCell (p := ⟨Db, Do + i * 7 + 6, none⟩) (.inl rfl) v6
  have hrow : ∀ k, k = Db → rowB (some ⟨Db, Do, none⟩) k := fun k e => ⟨Do, by rw [e]⟩
  have hnew : ∀ k, Above w4 k → w.heap.size + 2 ≤ k ∧ ¬ rowB A k ∧ ¬ rowB (some ⟨Db, Do, none⟩) k ∧ ¬ k = g := by
    intro k hk
    unfold Above at hk
    have hkw := h.kp.size
    refine ⟨by omega, fun e => ?_, fun ⟨o, e⟩ => ?_, fun e => ?_⟩
    · have := hlt k (.inr (.inl e)); omega
    · injection e with e; injection e with e; have := hlt k (.inr (.inr e.symm)); omega
    · have := hlt k (.inl e); omega
  have htm2 := TermIn.keep hks (fun k (hk : Above w4 k) e => (hnew k hk).2.2.1 (hrow k e)) _ _ htm
  refine ⟨⟨_, h1.set7 h2.lens.2 hi v0 v1 v2 v3 v4 v5 v6, ?_, ?_⟩, (h.fresh hr5).blk.keep hks hg, (h.fresh hr5).hb.keep hks (fun k hk e => hA (e ▸ hk)), (h.kp.trans' hr5 (fun _ _ => id) (fun _ _ => id) : Keeps NoB w W5).trans' hks (fun _ _ => id) (fun k hk e => by omega)⟩
  · have q := TermsIn.set i (TermsIn.keep hks (fun k hk e => by rcases hk with hk | hk; omega; exact hk.2.1 (hrow k e)) _ _ h2) (TermIn.more (fun k _ hk => .inr ⟨(hnew k hk).2.1, (hnew k hk).2.2.1, (hnew k hk).2.2.2⟩) _ _ htm2)
    rw [set_at ht] at q
    exact q
  · rw [take_set _ (by omega), take_at ht]
    exact TermsIn.append (TermsIn.keep hks (fun k hk e => hk.2.2.1 (hrow k e)) _ _ h3) (TermsIn.one (TermIn.more (fun k _ hk => hnew k hk) _ _ htm2))
def OwnVP (w : World) (n m : Nat) (v : VSt) (e : Ending) (w' : World) : Prop := ∃ A c D d css, e = .returned (.agg #[.slice A n c, .slice D m d]) ∧ VAt w' A n c D m d css v ∧ (∀ k, rowB A k ∨ rowB D k → w.heap.size ≤ k) ∧ TermsIn w' (fun k => w.heap.size ≤ k ∧ ¬ rowB A k ∧ ¬ rowB D k) false css v.vals ∧ Keeps NoB w w'
set_option maxRecDepth 100000 in
set_option maxHeartbeats 8000000 in
theorem own_vars (A : Option Addr) (n c : Nat) (D : Option Addr) (m d : Nat) (css : List (List Value)) (v : VSt) (B : Nat → Prop) (w : World) (h : VIn w B A n c D m d css v) :
    Calls Tryz.prog 27 #[.agg #[.slice A n c, .slice D m d]] w (OwnVP w n m v) := by
  have HK0 := hide (((Keeps.refl NoB w).alloc (.cells #[.slice A n c, .slice D m d] 39)).alloc (.cells #[.slice none 0 0, .slice none 0 0] 39))
  have HB0 := hide (two_tblks w 39 39 #[.slice A n c, .slice D m d] #[.slice none 0 0, .slice none 0 0]).1; have HR0 := hide (two_tblks w 39 39 #[.slice A n c, .slice D m d] #[.slice none 0 0, .slice none 0 0]).2
  have H := hide h.old
  have HON1 := hide (show ∀ u ∈ v.has.map Value.bool, u.oneCell' = true from fun u hu => by obtain ⟨x, _, rfl⟩ := List.mem_map.1 hu; rfl)
  have HON2 := hide (TermsIn.ones _ _ h.ht)
  have hm63 : m ≤ 9223372036854775807 := by have := h.r2.1; unfold Roomy at this; omega
  have HNV := hide h.nv
  clear h
  go_enter Tryz.func27, Tryz.ntmps27
  go_upto_region 1 with fail
  generalize (w.alloc (.cells #[.slice A n c, .slice D m d] 39)).alloc (.cells #[.slice none 0 0, .slice none 0 0] 39) = w0 at *
  go_cut [3] (fun s3 wx => ∃ g7 A2 c2 A5 c5, s3 = .pointer (some ⟨g7, 0, none⟩) ∧ Blk wx g7 39 #[.slice A2 n c2, .slice A5 m c5] ∧ Slab wx 4 1 A2 n c2 (v.has.map .bool) ∧ Slab wx 26 7 A5 m c5 css.flatten ∧ (∀ k, rowB A2 k → w0.heap.size ≤ k) ∧ (∀ k, rowB A5 k → w0.heap.size ≤ k) ∧ w0.heap.size ≤ g7 ∧ Keeps NoB w0 wx)
  case first =>
    refine order_begin (fun W => Keeps NoB w0 W) (fun i => !(i == 8)) (by kernel_rfl) 9 rfl ?_
    have HS : Keeps NoB w0 w0.drew := (Keeps.refl _ _).drew
    refine order_pure (i := 0) rfl (by kernel_rfl) (fun _ _ _ h => h) (.inl ⟨rfl, fun _ => by go_simp; rfl⟩) ?_
    try simp only [Act.put, List.setIfInBounds_toArray, List.set_cons_succ, List.set_cons_zero]
    refine order_held (i := 1) rfl (by kernel_rfl) (fun _ _ _ h => h) (.inl ⟨rfl, fun W hW => by
      have q0 : W.cell? ⟨w.heap.size, 0, none⟩ = some (.slice A n c) := hW.cell id (HB0.out.cell 0)
      go_simp; rfl⟩) HS ?_
    try simp only [Act.put, List.setIfInBounds_toArray, List.set_cons_succ, List.set_cons_zero]
    refine order_pure (i := 3) rfl (by kernel_rfl) (fun _ _ _ h => h) (.inl ⟨rfl, fun _ => by go_simp; rfl⟩) ?_
    try simp only [Act.put, List.setIfInBounds_toArray, List.set_cons_succ, List.set_cons_zero]
    refine order_held (i := 4) rfl (by kernel_rfl) (fun _ _ _ h => h) (.inl ⟨rfl, fun W hW => by
      have q0 : W.cell? ⟨w.heap.size, 1, none⟩ = some (.slice D m d) := hW.cell id (HB0.out.cell 1)
      go_simp; rfl⟩) HS ?_
    try simp only [Act.put, List.setIfInBounds_toArray, List.set_cons_succ, List.set_cons_zero]
    have HS0 := hide HS
    have HSZ := hide HS.size
    clear HS
    have HK0 := hide (HK0.out.trans' HS0.out (fun _ _ => id) (fun _ _ => id) : Keeps NoB w w0.drew)
    generalize w0.drew = W0 at *
    have HK00 : Hid (Keeps NoB W0 W0) := hide (Keeps.refl _ _)
    refine order_two (i := 2) (j := 7) rfl rfl (by kernel_rfl) (fun K hK => ?_) (fun K hK => ?_)
    · skip
      go_simp
      refine (clone_bools _ _ A n c (v.has.map .bool) W0 ((H.out.hb.keep HK0.out (fun _ _ => id)).keep HK00.out (fun _ _ => id)) HON1.out H.out.r1.1).mono ?_
      rintro e V1 ⟨A2, c2, rfl, hs2, hf2, hk2⟩
      refine hK _ _ (fun _ hS => hS.trans' hk2 (fun _ _ h => h) (fun _ _ h => h)) ?_
      clear hK
      try simp only [Act.put, List.setIfInBounds_toArray, List.set_cons_succ, List.set_cons_zero]
      have HV1 : Hid (Keeps NoB W0 V1) := hide (HK00.out.trans' hk2 (fun _ _ => id) (fun _ _ => id))
      have F2_1 := hide hs2
      have R2 := hide (show ∀ k, rowB A2 k → W0.heap.size ≤ k from fun k hk => Nat.le_trans HK00.out.size (hf2 k hk))
      clear hk2 hs2 hf2
      refine order_two (i := 5) (j := 7) rfl rfl (by kernel_rfl) (fun K hK => ?_) (fun K hK => ?_)
      · skip
        go_simp
        refine (clone_terms _ _ D m d css.flatten V1 ((H.out.hv.keep HK0.out (fun _ _ => id)).keep HV1.out (fun _ _ => id)) HON2.out H.out.r2.1).mono ?_
        rintro e V2 ⟨A5, c5, rfl, hs5, hf5, hk2⟩
        refine hK _ _ (fun _ hS => hS.trans' hk2 (fun _ _ h => h) (fun _ _ h => h)) ?_
        clear hK
        try simp only [Act.put, List.setIfInBounds_toArray, List.set_cons_succ, List.set_cons_zero]
        have HV2 : Hid (Keeps NoB W0 V2) := hide (HV1.out.trans' hk2 (fun _ _ => id) (fun _ _ => id))
        have F2_2 := hide (F2_1.out.fresh hk2)
        have F5_2 := hide hs5
        have R5 := hide (show ∀ k, rowB A5 k → W0.heap.size ≤ k from fun k hk => Nat.le_trans HV1.out.size (hf5 k hk))
        clear hk2 hs5 hf5 F2_1 HV1
        refine order_pure (i := 6) rfl (by kernel_rfl) (fun _ _ _ h => h) (.inl ⟨rfl, fun _ => by go_simp; rfl⟩) ?_
        try simp only [Act.put, List.setIfInBounds_toArray, List.set_cons_succ, List.set_cons_zero]
        refine order_one (i := 7) rfl (by kernel_rfl) (fun K hK => ?_)
        go_simp
        refine hK _ _ (fun _ hS => hS.alloc _) ?_
        clear hK
        try simp only [Act.put, List.setIfInBounds_toArray, List.set_cons_succ, List.set_cons_zero]
        obtain ⟨g7, hg7⟩ : ∃ g7, V2.heap.size = g7 := ⟨_, rfl⟩
        have hgz : W0.heap.size ≤ g7 := by have := HV2.out.size; omega
        have HGZ := hide hgz; clear hgz
        have HV3 : Hid (Keeps NoB W0 (V2.alloc (.cells #[.slice none 0 0, .slice none 0 0] 39))) := hide (HV2.out.alloc _)
        have F2_3 := hide (F2_2.out.fresh ((Keeps.refl NoB V2).alloc (.cells #[.slice none 0 0, .slice none 0 0] 39)))
        have F5_3 := hide (F5_2.out.fresh ((Keeps.refl NoB V2).alloc (.cells #[.slice none 0 0, .slice none 0 0] 39)))
        have F7_3 := hide (Blk.new V2 39 #[.slice none 0 0, .slice none 0 0])
        clear F2_2 F5_2 HV2
        rw [hg7] at F7_3 ⊢
        generalize V2.alloc (.cells #[.slice none 0 0, .slice none 0 0] 39) = V3 at *
        clear hg7
        have z0 := F7_3.out.cell 0
        have z1 := F7_3.out.cell 1
        have t0 : V3.frozen? ⟨g7, 0, none⟩ = false := F7_3.out.free 0
        have t1 : V3.frozen? ⟨g7, 1, none⟩ = false := F7_3.out.free 1
        refine order_one (i := 8) rfl (by kernel_rfl) (fun K hK => ?_)
        go_simp
        refine hK _ _ (fun h => absurd h (by decide)) ?_
        clear hK
        try simp only [Act.put, List.setIfInBounds_toArray, List.set_cons_succ, List.set_cons_zero]
        have hB := hide ((F7_3.out.put 0 (.slice A2 n c2)).put 1 (.slice A5 m c5))
        have hks := hide (((Keeps.refl (fun k => k = g7) V3).setCell (p := ⟨g7, 0, none⟩) (.inl rfl) (.slice A2 n c2)).setCell (p := ⟨g7, 1, none⟩) (.inl rfl) (.slice A5 m c5))
        have hn2 := hide (show ∀ k, rowB A2 k → ¬ k = g7 from fun k hk e => F2_3.out.ne F7_3.out (by decide) (e ▸ hk))
        have hn5 := hide (show ∀ k, rowB A5 k → ¬ k = g7 from fun k hk e => F5_3.out.ne F7_3.out (by decide) (e ▸ hk))
        clear z0 z1 t0 t1
        generalize (V3.setCell ⟨g7, 0, none⟩ (.slice A2 n c2)).setCell ⟨g7, 1, none⟩ (.slice A5 m c5) = wz at *
        refine order_done (by kernel_rfl) ?_
        go_wp2_with fail
        go_meet
        exact ⟨g7, A2, c2, A5, c5, rfl, by simpa using hB.out, F2_3.out.keep hks.out hn2.out, F5_3.out.keep hks.out hn5.out, fun k hk => Nat.le_trans HSZ.out (R2.out k hk), fun k hk => Nat.le_trans HSZ.out (R5.out k hk), Nat.le_trans HSZ.out HGZ.out, (HS0.out.trans' HV3.out (fun _ _ => id) (fun _ _ => id) : Keeps NoB w0 V3).trans' hks.out (fun _ _ => id) (fun j hj e => by have := HGZ.out; have := HSZ.out; omega)⟩
      · skip
        go_simp
        refine hK _ _ (fun _ hS => hS.alloc _) ?_
        clear hK
        try simp only [Act.put, List.setIfInBounds_toArray, List.set_cons_succ, List.set_cons_zero]
        obtain ⟨g7, hg7⟩ : ∃ g7, V1.heap.size = g7 := ⟨_, rfl⟩
        have hgz : W0.heap.size ≤ g7 := by have := HV1.out.size; omega
        have HGZ := hide hgz; clear hgz
        have HV4 : Hid (Keeps NoB W0 (V1.alloc (.cells #[.slice none 0 0, .slice none 0 0] 39))) := hide (HV1.out.alloc _)
        have F2_4 := hide (F2_1.out.fresh ((Keeps.refl NoB V1).alloc (.cells #[.slice none 0 0, .slice none 0 0] 39)))
        have F7_4 := hide (Blk.new V1 39 #[.slice none 0 0, .slice none 0 0])
        clear F2_1 HV1
        rw [hg7] at F7_4 ⊢
        generalize V1.alloc (.cells #[.slice none 0 0, .slice none 0 0] 39) = V4 at *
        clear hg7
        refine order_one (i := 5) rfl (by kernel_rfl) (fun K hK => ?_)
        go_simp
        refine (clone_terms _ _ D m d css.flatten V4 ((H.out.hv.keep HK0.out (fun _ _ => id)).keep HV4.out (fun _ _ => id)) HON2.out H.out.r2.1).mono ?_
        rintro e V5 ⟨A5, c5, rfl, hs5, hf5, hk2⟩
        refine hK _ _ (fun _ hS => hS.trans' hk2 (fun _ _ h => h) (fun _ _ h => h)) ?_
        clear hK
        try simp only [Act.put, List.setIfInBounds_toArray, List.set_cons_succ, List.set_cons_zero]
        have HV5 : Hid (Keeps NoB W0 V5) := hide (HV4.out.trans' hk2 (fun _ _ => id) (fun _ _ => id))
        have F2_5 := hide (F2_4.out.fresh hk2)
        have F7_5 := hide (F7_4.out.keep hk2 id)
        have F5_5 := hide hs5
        have R5 := hide (show ∀ k, rowB A5 k → W0.heap.size ≤ k from fun k hk => Nat.le_trans HV4.out.size (hf5 k hk))
        skip
        clear hk2 hs5 hf5 F2_4 F7_4 HV4
        refine order_pure (i := 6) rfl (by kernel_rfl) (fun _ _ _ h => h) (.inl ⟨rfl, fun _ => by go_simp; rfl⟩) ?_
        try simp only [Act.put, List.setIfInBounds_toArray, List.set_cons_succ, List.set_cons_zero]
        have z0 := F7_5.out.cell 0
        have z1 := F7_5.out.cell 1
        have t0 : V5.frozen? ⟨g7, 0, none⟩ = false := F7_5.out.free 0
        have t1 : V5.frozen? ⟨g7, 1, none⟩ = false := F7_5.out.free 1
        refine order_one (i := 8) rfl (by kernel_rfl) (fun K hK => ?_)
        go_simp
        refine hK _ _ (fun h => absurd h (by decide)) ?_
        clear hK
        try simp only [Act.put, List.setIfInBounds_toArray, List.set_cons_succ, List.set_cons_zero]
        have hB := hide ((F7_5.out.put 0 (.slice A2 n c2)).put 1 (.slice A5 m c5))
        have hks := hide (((Keeps.refl (fun k => k = g7) V5).setCell (p := ⟨g7, 0, none⟩) (.inl rfl) (.slice A2 n c2)).setCell (p := ⟨g7, 1, none⟩) (.inl rfl) (.slice A5 m c5))
        have hn2 := hide (show ∀ k, rowB A2 k → ¬ k = g7 from fun k hk e => F2_5.out.ne F7_5.out (by decide) (e ▸ hk))
        have hn5 := hide (show ∀ k, rowB A5 k → ¬ k = g7 from fun k hk e => F5_5.out.ne F7_5.out (by decide) (e ▸ hk))
        clear z0 z1 t0 t1
        generalize (V5.setCell ⟨g7, 0, none⟩ (.slice A2 n c2)).setCell ⟨g7, 1, none⟩ (.slice A5 m c5) = wz at *
        refine order_done (by kernel_rfl) ?_
        go_wp2_with fail
        go_meet
        exact ⟨g7, A2, c2, A5, c5, rfl, by simpa using hB.out, F2_5.out.keep hks.out hn2.out, F5_5.out.keep hks.out hn5.out, fun k hk => Nat.le_trans HSZ.out (R2.out k hk), fun k hk => Nat.le_trans HSZ.out (R5.out k hk), Nat.le_trans HSZ.out HGZ.out, (HS0.out.trans' HV5.out (fun _ _ => id) (fun _ _ => id) : Keeps NoB w0 V5).trans' hks.out (fun _ _ => id) (fun j hj e => by have := HGZ.out; have := HSZ.out; omega)⟩
    · skip
      go_simp
      refine hK _ _ (fun _ hS => hS.alloc _) ?_
      clear hK
      try simp only [Act.put, List.setIfInBounds_toArray, List.set_cons_succ, List.set_cons_zero]
      obtain ⟨g7, hg7⟩ : ∃ g7, W0.heap.size = g7 := ⟨_, rfl⟩
      have hgz : W0.heap.size ≤ g7 := by have := HK00.out.size; omega
      have HGZ := hide hgz; clear hgz
      have HV6 : Hid (Keeps NoB W0 (W0.alloc (.cells #[.slice none 0 0, .slice none 0 0] 39))) := hide (HK00.out.alloc _)
      have F7_6 := hide (Blk.new W0 39 #[.slice none 0 0, .slice none 0 0])
      rw [hg7] at F7_6 ⊢
      generalize W0.alloc (.cells #[.slice none 0 0, .slice none 0 0] 39) = V6 at *
      clear hg7
      refine order_one (i := 2) rfl (by kernel_rfl) (fun K hK => ?_)
      go_simp
      refine (clone_bools _ _ A n c (v.has.map .bool) V6 ((H.out.hb.keep HK0.out (fun _ _ => id)).keep HV6.out (fun _ _ => id)) HON1.out H.out.r1.1).mono ?_
      rintro e V7 ⟨A2, c2, rfl, hs2, hf2, hk2⟩
      refine hK _ _ (fun _ hS => hS.trans' hk2 (fun _ _ h => h) (fun _ _ h => h)) ?_
      clear hK
      try simp only [Act.put, List.setIfInBounds_toArray, List.set_cons_succ, List.set_cons_zero]
      have HV7 : Hid (Keeps NoB W0 V7) := hide (HV6.out.trans' hk2 (fun _ _ => id) (fun _ _ => id))
      have F7_7 := hide (F7_6.out.keep hk2 id)
      have F2_7 := hide hs2
      have R2 := hide (show ∀ k, rowB A2 k → W0.heap.size ≤ k from fun k hk => Nat.le_trans HV6.out.size (hf2 k hk))
      skip
      clear hk2 hs2 hf2 F7_6 HV6
      refine order_one (i := 5) rfl (by kernel_rfl) (fun K hK => ?_)
      go_simp
      refine (clone_terms _ _ D m d css.flatten V7 ((H.out.hv.keep HK0.out (fun _ _ => id)).keep HV7.out (fun _ _ => id)) HON2.out H.out.r2.1).mono ?_
      rintro e V8 ⟨A5, c5, rfl, hs5, hf5, hk2⟩
      refine hK _ _ (fun _ hS => hS.trans' hk2 (fun _ _ h => h) (fun _ _ h => h)) ?_
      clear hK
      try simp only [Act.put, List.setIfInBounds_toArray, List.set_cons_succ, List.set_cons_zero]
      have HV8 : Hid (Keeps NoB W0 V8) := hide (HV7.out.trans' hk2 (fun _ _ => id) (fun _ _ => id))
      have F7_8 := hide (F7_7.out.keep hk2 id)
      have F2_8 := hide (F2_7.out.fresh hk2)
      have F5_8 := hide hs5
      have R5 := hide (show ∀ k, rowB A5 k → W0.heap.size ≤ k from fun k hk => Nat.le_trans HV7.out.size (hf5 k hk))
      skip
      clear hk2 hs5 hf5 F7_7 F2_7 HV7
      refine order_pure (i := 6) rfl (by kernel_rfl) (fun _ _ _ h => h) (.inl ⟨rfl, fun _ => by go_simp; rfl⟩) ?_
      try simp only [Act.put, List.setIfInBounds_toArray, List.set_cons_succ, List.set_cons_zero]
      have z0 := F7_8.out.cell 0
      have z1 := F7_8.out.cell 1
      have t0 : V8.frozen? ⟨g7, 0, none⟩ = false := F7_8.out.free 0
      have t1 : V8.frozen? ⟨g7, 1, none⟩ = false := F7_8.out.free 1
      refine order_one (i := 8) rfl (by kernel_rfl) (fun K hK => ?_)
      go_simp
      refine hK _ _ (fun h => absurd h (by decide)) ?_
      clear hK
      try simp only [Act.put, List.setIfInBounds_toArray, List.set_cons_succ, List.set_cons_zero]
      have hB := hide ((F7_8.out.put 0 (.slice A2 n c2)).put 1 (.slice A5 m c5))
      have hks := hide (((Keeps.refl (fun k => k = g7) V8).setCell (p := ⟨g7, 0, none⟩) (.inl rfl) (.slice A2 n c2)).setCell (p := ⟨g7, 1, none⟩) (.inl rfl) (.slice A5 m c5))
      have hn2 := hide (show ∀ k, rowB A2 k → ¬ k = g7 from fun k hk e => F2_8.out.ne F7_8.out (by decide) (e ▸ hk))
      have hn5 := hide (show ∀ k, rowB A5 k → ¬ k = g7 from fun k hk e => F5_8.out.ne F7_8.out (by decide) (e ▸ hk))
      clear z0 z1 t0 t1
      generalize (V8.setCell ⟨g7, 0, none⟩ (.slice A2 n c2)).setCell ⟨g7, 1, none⟩ (.slice A5 m c5) = wz at *
      refine order_done (by kernel_rfl) ?_
      go_wp2_with fail
      go_meet
      exact ⟨g7, A2, c2, A5, c5, rfl, by simpa using hB.out, F2_8.out.keep hks.out hn2.out, F5_8.out.keep hks.out hn5.out, fun k hk => Nat.le_trans HSZ.out (R2.out k hk), fun k hk => Nat.le_trans HSZ.out (R5.out k hk), Nat.le_trans HSZ.out HGZ.out, (HS0.out.trans' HV8.out (fun _ _ => id) (fun _ _ => id) : Keeps NoB w0 V8).trans' hks.out (fun _ _ => id) (fun j hj e => by have := HGZ.out; have := HSZ.out; omega)⟩
  case rest =>
    obtain ⟨g7, A2, c2, A5, c5, rfl, h1, h2, h3, h4, h5, h6, h7⟩ := hcut
    have hsz := HK0.out.size
    have hlr := HR0.out.lt
    have HI0 := hide (show OwnV w wc g7 A2 n c2 A5 m c5 v 0 from ⟨⟨css, h3, TermsIn.more (fun k _ hk => .inl hk) _ _ (TermsIn.keep (HK0.out.trans' h7 (fun _ _ => id) (fun _ _ => id) : Keeps NoB w wc) (fun _ _ => id) _ _ H.out.ht), by rw [List.take_zero, List.take_zero]; unfold TermsIn; trivial⟩, h1, h2, HK0.out.trans' h7 (fun _ _ => id) (fun _ _ => id)⟩)
    have HF := hide (show (∀ k, rowB A2 k → w.heap.size ≤ k) ∧ (∀ k, rowB A5 k → w.heap.size ≤ k) ∧ w.heap.size ≤ g7 from ⟨fun k hk => Nat.le_trans hsz (h4 k hk), fun k hk => Nat.le_trans hsz (h5 k hk), Nat.le_trans hsz h6⟩)
    have HFR := hide (show ∀ k, rowB A5 k → ¬ k = g7 from fun k hk e => h3.ne h1 (by decide) (e ▸ hk))
    have HFR2 := hide (show ∀ k, rowB A2 k → ¬ rowB A5 k from slab_apart h2 h3 (by decide))
    have HRW := hide (show Blk wc (w.heap.size + 1) 39 #[.slice none 0 0, .slice none 0 0] ∧ ¬ g7 = w.heap.size + 1 ∧ (∀ k, rowB A5 k → ¬ k = w.heap.size + 1) from ⟨HR0.out.keep h7 id, by omega, fun k hk => by have := h5 k hk; omega⟩)
    have p1 := h1.cell 1
    clear h1 h2 h3 h4 h5 h6 h7 hsz hlr HB0 HR0 HK0
    go_wp2_with fail
    go_loopg [16] m (fun gg s16 wx => ∃ i : Nat, i ≤ m ∧ gg = m - i ∧ s16 = .int .i64 i ∧ OwnV w wx g7 A2 n c2 A5 m c5 v i ∧ Keeps (rowB A5) wc wx)
    case atStart => exact ⟨0, Nat.zero_le _, rfl, rfl, HI0.out, Keeps.refl _ _⟩
    case round =>
      obtain ⟨i, hi, rfl, rfl, hv, hkc⟩ := hrel
      have HV := hide hv; have HKC := hide hkc
      clear hv hkc HI0
      have hi0 : (0 : Int) ≤ i := by omega
      by_cases hlt : i < m
      · have hiz : (i : Int) < m := by omega
        obtain ⟨css', h1, h2, h3⟩ := HV.out.ex
        obtain ⟨Db, Do, kd, ng, la, ln, lc, tx, nm, ia, im, ic, ta, tn, tc, t, hA, htk, htm, _, f0, f1, f2, f3, f4, f5, f6⟩ := cells_at (h1.reads.more (B' := fun _ => True) (fun _ _ _ => trivial)).weak (TermsIn.more (B' := fun _ => True) (fun _ _ _ => trivial) _ _ h2) i hlt
        subst hA
        have HTK := hide htk; have HTM := hide htm; have HRD := hide (h1.reads)
        clear h1 h2 h3 htk htm
        go_upto_region 5 with fail
        have HBX := hide (Blk.new wr 26 #[.int .u8 kd, .bool ng, .slice la ln lc, .string tx, .int .i64 nm, .slice ia im ic, .slice ta tn tc])
        have HK4 := hide ((Keeps.refl NoB wr).alloc (.cells #[.int .u8 kd, .bool ng, .slice la ln lc, .string tx, .int .i64 nm, .slice ia im ic, .slice ta tn tc] 26))
        clear f0 f1 f2 f3 f4 f5 f6
        generalize wr.alloc (.cells #[.int .u8 kd, .bool ng, .slice la ln lc, .string tx, .int .i64 nm, .slice ia im ic, .slice ta tn tc] 26) = w4 at *
        have HPB := hide ((HV.out.fresh HK4.out).blk)
        refine order_begin (fun W => Keeps NoB w4 W) (fun i => !(i == 6)) (by kernel_rfl) 7 rfl ?_
        have HS : Keeps NoB w4 w4.drew := (Keeps.refl _ _).drew
        refine order_pure (i := 0) rfl (by kernel_rfl) (fun _ _ _ h => h) (.inl ⟨rfl, fun _ => by go_simp; rfl⟩) ?_
        try simp only [Act.put, List.setIfInBounds_toArray, List.set_cons_succ, List.set_cons_zero]
        refine order_held (i := 1) rfl (by kernel_rfl) (fun _ _ _ h => h) (.inl ⟨rfl, fun W hW => by
          have q0 : W.cell? ⟨g7, 1, none⟩ = some (.slice (some ⟨Db, Do, none⟩) m c5) := hW.cell id (HPB.out.cell 1)
          go_simp; rfl⟩) HS ?_
        try simp only [Act.put, List.setIfInBounds_toArray, List.set_cons_succ, List.set_cons_zero]
        refine order_pure (i := 2) rfl (by kernel_rfl) (fun _ _ _ h => h) (.inl ⟨rfl, fun _ => by go_simp; rfl⟩) ?_
        try simp only [Act.put, List.setIfInBounds_toArray, List.set_cons_succ, List.set_cons_zero]
        refine order_held (i := 3) rfl (by kernel_rfl) (fun _ _ _ h => h) (.inl ⟨rfl, fun W hW => by
          have q0 : W.cell? ⟨wr.heap.size, 0, none⟩ = some (.int .u8 kd) := hW.cell id (HBX.out.cell 0)
          have q1 : W.cell? ⟨wr.heap.size, 1, none⟩ = some (.bool ng) := hW.cell id (HBX.out.cell 1)
          have q2 : W.cell? ⟨wr.heap.size, 2, none⟩ = some (.slice la ln lc) := hW.cell id (HBX.out.cell 2)
          have q3 : W.cell? ⟨wr.heap.size, 3, none⟩ = some (.string tx) := hW.cell id (HBX.out.cell 3)
          have q4 : W.cell? ⟨wr.heap.size, 4, none⟩ = some (.int .i64 nm) := hW.cell id (HBX.out.cell 4)
          have q5 : W.cell? ⟨wr.heap.size, 5, none⟩ = some (.slice ia im ic) := hW.cell id (HBX.out.cell 5)
          have q6 : W.cell? ⟨wr.heap.size, 6, none⟩ = some (.slice ta tn tc) := hW.cell id (HBX.out.cell 6)
          go_simp; rfl⟩) HS ?_
        try simp only [Act.put, List.setIfInBounds_toArray, List.set_cons_succ, List.set_cons_zero]
        refine order_one (i := 4) rfl (by kernel_rfl) (fun K hK => ?_)
        go_simp
        refine (tm_copy _ t (Nat.le_refl _) _ _ _ _ _ _ _ _ _ _ _ _ _ _ _ _ (TermIn.keep ((HK4.out.trans' HS (fun _ _ => id) (fun _ _ => id) : Keeps NoB wr _)) (fun _ _ => id) _ _ HTM.out)).mono ?_
        rintro e W5 ⟨la', lc', ia', ic', ta', tc', rfl, hc, hk5⟩
        have HS5 : Keeps NoB w4 W5 := HS.trans' hk5 (fun _ _ => id) (fun _ _ => id)
        have HC := hide (show TermIn W5 (Above w4) false _ t from TermIn.weak _ _ (TermIn.more (fun k _ hk => Nat.le_trans HS.size hk) _ _ hc))
        refine hK _ _ (fun _ _ => HS5) ?_
        have HK5 := hide HS5
        clear hK HS hc hk5
        have HS := HS5
        clear HS5
        try simp only [Act.put, List.setIfInBounds_toArray, List.set_cons_succ, List.set_cons_zero]
        refine order_pure (i := 5) rfl (by kernel_rfl) (fun _ _ _ h => h) (.inl ⟨rfl, fun _ => by go_simp; rfl⟩) ?_
        try simp only [Act.put, List.setIfInBounds_toArray, List.set_cons_succ, List.set_cons_zero]
        have hsl := (HRD.out.keep (HK4.out.trans' HK5.out (fun _ _ => id) (fun _ _ => id) : Keeps NoB wr W5) (fun _ _ => id))
        have hcl : css'.flatten.length = m * 7 := hsl.1
        obtain ⟨⟨xb, xo, xs⟩, hA, hs, _, _, hcc⟩ := hsl.2 (by omega)
        injection hA with hA; injection hA with hA1 hA2 hA3; subst hA1 hA2
        obtain ⟨y0, hy0⟩ : ∃ y0, css'.flatten[i * 7]? = some y0 := ⟨_, List.getElem?_eq_getElem (by omega)⟩
        have d0 : W5.cell? ⟨Db, Do + i * 7, none⟩ = some y0 := by have := (hcc _ y0 hy0).1; exact this
        have e0 : W5.frozen? ⟨Db, Do + i * 7, none⟩ = false := by have := (hcc _ y0 hy0).2 rfl; exact this
        clear hy0
        obtain ⟨y1, hy1⟩ : ∃ y1, css'.flatten[i * 7 + 1]? = some y1 := ⟨_, List.getElem?_eq_getElem (by omega)⟩
        have d1 : W5.cell? ⟨Db, Do + i * 7 + 1, none⟩ = some y1 := by have := (hcc _ y1 hy1).1; rw [← Nat.add_assoc] at this; exact this
        have e1 : W5.frozen? ⟨Db, Do + i * 7 + 1, none⟩ = false := by have := (hcc _ y1 hy1).2 rfl; rw [← Nat.add_assoc] at this; exact this
        clear hy1
        obtain ⟨y2, hy2⟩ : ∃ y2, css'.flatten[i * 7 + 2]? = some y2 := ⟨_, List.getElem?_eq_getElem (by omega)⟩
        have d2 : W5.cell? ⟨Db, Do + i * 7 + 2, none⟩ = some y2 := by have := (hcc _ y2 hy2).1; rw [← Nat.add_assoc] at this; exact this
        have e2 : W5.frozen? ⟨Db, Do + i * 7 + 2, none⟩ = false := by have := (hcc _ y2 hy2).2 rfl; rw [← Nat.add_assoc] at this; exact this
        clear hy2
        obtain ⟨y3, hy3⟩ : ∃ y3, css'.flatten[i * 7 + 3]? = some y3 := ⟨_, List.getElem?_eq_getElem (by omega)⟩
        have d3 : W5.cell? ⟨Db, Do + i * 7 + 3, none⟩ = some y3 := by have := (hcc _ y3 hy3).1; rw [← Nat.add_assoc] at this; exact this
        have e3 : W5.frozen? ⟨Db, Do + i * 7 + 3, none⟩ = false := by have := (hcc _ y3 hy3).2 rfl; rw [← Nat.add_assoc] at this; exact this
        clear hy3
        obtain ⟨y4, hy4⟩ : ∃ y4, css'.flatten[i * 7 + 4]? = some y4 := ⟨_, List.getElem?_eq_getElem (by omega)⟩
        have d4 : W5.cell? ⟨Db, Do + i * 7 + 4, none⟩ = some y4 := by have := (hcc _ y4 hy4).1; rw [← Nat.add_assoc] at this; exact this
        have e4 : W5.frozen? ⟨Db, Do + i * 7 + 4, none⟩ = false := by have := (hcc _ y4 hy4).2 rfl; rw [← Nat.add_assoc] at this; exact this
        clear hy4
        obtain ⟨y5, hy5⟩ : ∃ y5, css'.flatten[i * 7 + 5]? = some y5 := ⟨_, List.getElem?_eq_getElem (by omega)⟩
        have d5 : W5.cell? ⟨Db, Do + i * 7 + 5, none⟩ = some y5 := by have := (hcc _ y5 hy5).1; rw [← Nat.add_assoc] at this; exact this
        have e5 : W5.frozen? ⟨Db, Do + i * 7 + 5, none⟩ = false := by have := (hcc _ y5 hy5).2 rfl; rw [← Nat.add_assoc] at this; exact this
        clear hy5
        obtain ⟨y6, hy6⟩ : ∃ y6, css'.flatten[i * 7 + 6]? = some y6 := ⟨_, List.getElem?_eq_getElem (by omega)⟩
        have d6 : W5.cell? ⟨Db, Do + i * 7 + 6, none⟩ = some y6 := by have := (hcc _ y6 hy6).1; rw [← Nat.add_assoc] at this; exact this
        have e6 : W5.frozen? ⟨Db, Do + i * 7 + 6, none⟩ = false := by have := (hcc _ y6 hy6).2 rfl; rw [← Nat.add_assoc] at this; exact this
        clear hy6
        clear hsl hcl hcc hs hA3
        refine order_one (i := 6) rfl (by kernel_rfl) (fun K hK => ?_)
        go_simp
        refine hK _ _ (fun h => absurd h (by decide)) ?_
        clear hK
        try simp only [Act.put, List.setIfInBounds_toArray, List.set_cons_succ, List.set_cons_zero]
        refine order_done (by kernel_rfl) ?_
        have hks : Keeps (rowB (some ⟨Db, Do, none⟩)) W5 (((((((W5.setCell ⟨Db, Do + i * 7, none⟩ (.int .u8 kd)).setCell ⟨Db, Do + i * 7 + 1, none⟩ (.bool ng)).setCell ⟨Db, Do + i * 7 + 2, none⟩ (.slice la' ln lc')).setCell ⟨Db, Do + i * 7 + 3, none⟩ (.string tx)).setCell ⟨Db, Do + i * 7 + 4, none⟩ (.int .i64 nm)).setCell ⟨Db, Do + i * 7 + 5, none⟩ (.slice ia' im ic')).setCell ⟨Db, Do + i * 7 + 6, none⟩ (.slice ta' tn tc')) := ((((((((Keeps.refl (rowB (some ⟨Db, Do, none⟩)) W5).setCell (p := ⟨Db, Do + i * 7, none⟩) (.inl ⟨Do, rfl⟩) (.int .u8 kd)).setCell (p := ⟨Db, Do + i * 7 + 1, none⟩) (.inl ⟨Do, rfl⟩) (.bool ng)).setCell (p := ⟨Db, Do + i * 7 + 2, none⟩) (.inl ⟨Do, rfl⟩) (.slice la' ln lc')).setCell (p := ⟨Db, Do + i * 7 + 3, none⟩) (.inl ⟨Do, rfl⟩) (.string tx)).setCell (p := ⟨Db, Do + i * 7 + 4, none⟩) (.inl ⟨Do, rfl⟩) (.int .i64 nm)).setCell (p := ⟨Db, Do + i * 7 + 5, none⟩) (.inl ⟨Do, rfl⟩) (.slice ia' im ic')).setCell (p := ⟨Db, Do + i * 7 + 6, none⟩) (.inl ⟨Do, rfl⟩) (.slice ta' tn tc'))
        have HN := hide (HV.out.step hlt HTK.out HK4.out HK5.out HC.out (HF.out.2.1 Db ⟨Do, rfl⟩) (fun e => HFR.out Db ⟨Do, rfl⟩ e.symm) (fun e => HFR2.out Db e ⟨Do, rfl⟩) (by have := HRW.out.1.lt; have := HKC.out.size; omega))
        have HKN := hide ((HKC.out.trans' (HK4.out.trans' HK5.out (fun _ _ => id) (fun _ _ => id) : Keeps NoB wr W5) (fun _ _ h => h) (fun _ _ h => h.elim)).trans' hks (fun _ _ h => h) (fun _ _ h => h))
        clear hks d0 e0 d1 e1 d2 e2 d3 e3 d4 e4 d5 e5 d6 e6 HS
        generalize (((((((W5.setCell ⟨Db, Do + i * 7, none⟩ (.int .u8 kd)).setCell ⟨Db, Do + i * 7 + 1, none⟩ (.bool ng)).setCell ⟨Db, Do + i * 7 + 2, none⟩ (.slice la' ln lc')).setCell ⟨Db, Do + i * 7 + 3, none⟩ (.string tx)).setCell ⟨Db, Do + i * 7 + 4, none⟩ (.int .i64 nm)).setCell ⟨Db, Do + i * 7 + 5, none⟩ (.slice ia' im ic')).setCell ⟨Db, Do + i * 7 + 6, none⟩ (.slice ta' tn tc')) = w6 at *
        go_wp2_with fail
        go_roundg (m - (i + 1))
        case measure => omega
        case rel => exact ⟨i + 1, by omega, rfl, by go_num, HN.out, HKN.out⟩
      · obtain rfl : i = m := by omega
        have hiz : ¬ (i : Int) < i := by omega
        have HG := hide HV.out.blk
        have HRB := hide (HRW.out.1.keep HKC.out (fun h => HRW.out.2.2 _ h rfl))
        have p0 := HG.out.cell 0
        have p1' : wr.cell? ⟨g7, 1, none⟩ = some (.slice A5 i c5) := HG.out.cell 1
        have r0 := HRB.out.cell 0
        have r1 := HRB.out.cell 1
        have s0 : wr.frozen? ⟨w.heap.size + 1, 0, none⟩ = false := HRB.out.free 0
        have s1 : wr.frozen? ⟨w.heap.size + 1, 1, none⟩ = false := HRB.out.free 1
        go_wp2_with fail
        have hb2 : Blk ((wr.setCell ⟨w.heap.size + 1, 0, none⟩ (.slice A2 n c2)).setCell ⟨w.heap.size + 1, 1, none⟩ (.slice A5 i c5)) (w.heap.size + 1) 39 #[.slice A2 n c2, .slice A5 i c5] := by simpa using (HRB.out.put 0 (.slice A2 n c2)).put 1 (.slice A5 i c5)
        have hkb := ((Keeps.refl (fun k => k = w.heap.size + 1) wr).setCell (p := ⟨w.heap.size + 1, 0, none⟩) (.inl rfl) (.slice A2 n c2)).setCell (p := ⟨w.heap.size + 1, 1, none⟩) (.inl rfl) (.slice A5 i c5)
        refine bodyPost_ret (results_vars Tryz.f27 2 (by kernel_rfl) _ _ _ _ _ rfl hb2) rfl ?_
        obtain ⟨css', h1, h2, h3⟩ := HV.out.ex
        have hcl : css'.length = i := by have := h1.1; rw [flat_len h2.lens.2] at this; omega
        rw [List.take_of_length_le (by omega), List.take_of_length_le (by have := HNV.out; omega)] at h3
        have hd5 : ∀ k, rowB A5 k → ¬ k = w.heap.size + 1 := HRW.out.2.2
        have hd2 : ∀ k, rowB A2 k → ¬ k = w.heap.size + 1 := fun k hk e => HV.out.hb.ne HRB.out (by decide) (e ▸ hk)
        have h3' := TermsIn.more (B' := fun k => w.heap.size ≤ k ∧ ¬ rowB A2 k ∧ ¬ rowB A5 k) (fun k _ hk => ⟨by have := hk.1; omega, hk.2.1, hk.2.2.1⟩) _ _ (TermsIn.keep hkb (fun k hk e => by have := hk.1; omega) _ _ h3)
        exact ⟨A2, c2, A5, c5, css', rfl, ⟨HV.out.hb.keep hkb hd2, h1.keep hkb hd5, TermsIn.more (fun k _ hk => hk.2) _ _ h3', H.out.r1.1, H.out.r2.1⟩, fun k hk => hk.elim (HF.out.1 k) (HF.out.2.1 k), h3', HV.out.kp.trans' hkb (fun _ _ => id) (fun k hk e => by omega)⟩
end Go.Proofs.YtjdbjjjbgibpaaaGreatDoor
namespace Go.Proofs.YtjdbjjjbgibpaaaGreatDoor
open Go.RowKit

theorem step_make_full {P : Program} {w : World} {ops : Array Oper} {o : Oper} {a : Act} {K : Act → World → Prop} {Q : Exit → Act → World → Prop} {E : Prop}
    (hg : o.guard = none) (l c : Operand) (t : TypeId) (hop : o.op = Op.makeSlice t l c)
    (base : Nat) (e : TypeId) (i : TypeInfo) (z : Value) (size : Nat) (h1 : P.underlying t = some (.slice e)) (h2 : P.info? e = some i) (h3 : i.zero = some z) (h4 : i.size = size)
    (kl kc : IntKind) (L C : Int) (n : Nat) (hl : a.eval l = .int kl L) (hc : a.eval c = .int kc C) (hL : L = (n : Int)) (hC : C = (n : Int)) (b2 : i.bytes * n ≤ 281474976710656) (b3 : n ≤ maxLen) (b4 : base ≤ w.heap.size)
    (hK : ∀ w', w'.ownsRow base e size (.slice (some ⟨w.heap.size, 0, none⟩) n n) n (madeCells z.cells (n * size)).toList → w.grownBy w' none → K (a.put o.dst (.slice (some ⟨w.heap.size, 0, none⟩) n n)) w') :
    if Region.wanted o (yielded ops a.tmps) = true then Oper.wp P o a w K Q else E := by
  have hw : Region.wanted o (yielded ops a.tmps) = true := by simp [Region.wanted, hg]
  rw [if_pos hw]
  obtain ⟨w', hrun, r1, r2⟩ := run_make_full (P := P) w base t e i z size h1 h2 h3 h4 kl kc n b2 b3 b4
  subst hL
  subst hC
  unfold Oper.wp
  simp [execOp, hop, hl, hc, hrun, Result.andThen]
  exact hK w' r1 r2
theorem made_bools (n : Nat) : (madeCells (Value.bool false).cells (n * 1)).toList = (List.replicate n false).map Value.bool := by
  rw [Nat.mul_one, show (Value.bool false).cells = #[Value.bool false] from rfl, toList_madeCells_one, List.map_replicate]
theorem made_seven (n : Nat) : (madeCells (Value.agg #[Value.int .u8 0, .bool false, .slice none 0 0, .string ByteArray.empty, .int .i64 0, .slice none 0 0, .slice none 0 0]).cells (n * 7)).toList = (List.replicate n [Value.int .u8 0, .bool false, .slice none 0 0, .string ByteArray.empty, .int .i64 0, .slice none 0 0, .slice none 0 0]).flatten := by
  have hz : (Value.agg #[Value.int .u8 0, .bool false, .slice none 0 0, .string ByteArray.empty, .int .i64 0, .slice none 0 0, .slice none 0 0]).cells = #[Value.int .u8 0, .bool false, .slice none 0 0, .string ByteArray.empty, .int .i64 0, .slice none 0 0, .slice none 0 0] := by rfl
  rw [hz]
  apply List.ext_getElem?
  intro i
  have h7 : ∀ c ∈ List.replicate n [Value.int .u8 0, .bool false, .slice none 0 0, .string ByteArray.empty, .int .i64 0, .slice none 0 0, .slice none 0 0], c.length = 7 := fun c hc => by rw [List.eq_of_mem_replicate hc]; rfl
  by_cases hi : i < n * 7
  · have hlt : i / 7 < n := by omega
    have e := flat_get h7 (i / 7) (by simpa using hlt) (i % 7) (Nat.mod_lt _ (by omega))
    rw [show i / 7 * 7 + i % 7 = i from by omega] at e
    rw [e]
    have hm : (madeCells #[Value.int .u8 0, .bool false, .slice none 0 0, .string ByteArray.empty, .int .i64 0, .slice none 0 0, .slice none 0 0] (n * 7)).toList[i]? = some (#[Value.int .u8 0, .bool false, .slice none 0 0, .string ByteArray.empty, .int .i64 0, .slice none 0 0, .slice none 0 0][i % 7]!) := by simp [madeCells, hi]
    rw [hm]
    simp only [List.getElem_replicate]
    rcases (by omega : i % 7 = 0 ∨ i % 7 = 1 ∨ i % 7 = 2 ∨ i % 7 = 3 ∨ i % 7 = 4 ∨ i % 7 = 5 ∨ i % 7 = 6) with h | h | h | h | h | h | h <;> rw [h] <;> rfl
  · rw [List.getElem?_eq_none (by simp [madeCells]; omega), List.getElem?_eq_none (by rw [flat_len h7]; simp; omega)]
theorem zeros_in (w : World) (B : Nat → Prop) : ∀ n : Nat, TermsIn w B false (List.replicate n [Value.int .u8 0, .bool false, .slice none 0 0, .string ByteArray.empty, .int .i64 0, .slice none 0 0, .slice none 0 0]) (List.replicate n (.mk 0 false [] ByteArray.empty 0 [] []))
  | 0 => by simp only [List.replicate_zero]; unfold TermsIn; trivial
  | n + 1 => by
    simp only [List.replicate_succ]
    unfold TermsIn
    exact ⟨flat_in w B false 0 ByteArray.empty 0, zeros_in w B n⟩
theorem Tryz.infoMk4 : (Tryz.prog.info? 4).map (fun i => (i.zero, i.size, i.bytes)) = some (some (.bool false), 1, 1) := by kernel_rfl
theorem Tryz.infoMkT : (Tryz.prog.info? 26).map (fun i => (i.zero, i.size, i.bytes)) = some (some (.agg #[Value.int .u8 0, .bool false, .slice none 0 0, .string ByteArray.empty, .int .i64 0, .slice none 0 0, .slice none 0 0]), 7, 104) := by kernel_rfl
def NewVP (w : World) (n : Nat) (e : Ending) (w' : World) : Prop := ∃ A c D d css, e = .returned (.agg #[.slice A n c, .slice D n d]) ∧ VAt w' A n c D n d css (newV n) ∧ (∀ k, rowB A k ∨ rowB D k → w.heap.size ≤ k) ∧ Keeps NoB w w'
set_option maxRecDepth 100000 in
set_option maxHeartbeats 2000000 in
theorem new_vars (n : Nat) (hn : n ≤ 100) (w : World) : Calls Tryz.prog 11 #[.int .i64 n] w (NewVP w n) := by
  obtain ⟨i0, hi0, hz0, hz1, hz2⟩ := info_parts Tryz.infoMk4
  obtain ⟨j0, hj0, hy0, hy1, hy2⟩ := info_parts Tryz.infoMkT
  have hb0 : i0.bytes * n ≤ 281474976710656 := by rw [hz2]; omega
  have hb1 : j0.bytes * n ≤ 281474976710656 := by rw [hy2]; omega
  have hml : n ≤ maxLen := by unfold maxLen; omega
  have HM := hide (And.intro hb0 (And.intro hb1 hml))
  have HK0 := hide ((Keeps.refl NoB w).alloc (.cells #[.slice none 0 0, .slice none 0 0] 39))
  have HB0 := hide (Blk.new w 39 #[.slice none 0 0, .slice none 0 0])
  have hz : ¬ (n : Int) < 0 := by omega
  have hz' : ¬ (100 : Int) < n := by omega
  clear hb0 hb1 hml
  go_enter Tryz.func11, Tryz.ntmps11
  go_upto_region 3 with fail
  generalize w.alloc (.cells #[.slice none 0 0, .slice none 0 0] 39) = w0 at *
  refine order_begin (fun W => Keeps NoB w0 W) (fun i => !(i == 5)) (by kernel_rfl) 6 rfl ?_
  have HS : Keeps NoB w0 w0.drew := (Keeps.refl _ _).drew
  refine order_pure (i := 0) rfl (by kernel_rfl) (fun _ _ _ h => h) (.inl ⟨rfl, fun _ => by go_simp; rfl⟩) ?_
  try simp only [Act.put, List.setIfInBounds_toArray, List.set_cons_succ, List.set_cons_zero]
  refine order_pure (i := 2) rfl (by kernel_rfl) (fun _ _ _ h => h) (.inl ⟨rfl, fun _ => by go_simp; rfl⟩) ?_
  try simp only [Act.put, List.setIfInBounds_toArray, List.set_cons_succ, List.set_cons_zero]
  have HKD := hide HS
  clear HS
  generalize w0.drew = W0 at *
  refine order_two (i := 1) (j := 3) rfl rfl (by kernel_rfl) (fun K hK => ?_) (fun K hK => ?_)
  · refine step_make_full rfl _ _ 37 rfl W0.heap.size 4 i0 _ 1 Tryz.underlying37 hi0 hz0 hz1 .i64 .i64 (n : Int) (n : Int) n rfl rfl rfl rfl HM.out.1 HM.out.2.2 (Nat.le_refl _) ?_
    intro w1 how hg
    have hk1 : Keeps NoB W0 w1 := (Keeps.refl NoB W0).grown hg (fun k h _ => by cases h)
    obtain ⟨_, _, hv, hsl⟩ := Slab.of_own how
    injection hv with hv1 hv2 hv3
    subst hv1 hv3
    rw [made_bools] at hsl
    refine hK _ _ (fun _ hS => hS.trans' hk1 (fun _ _ => id) (fun _ _ => id)) ?_
    have HSA0 := hide hsl; have HK1 := hide (HKD.out.trans' hk1 (fun _ _ => id) (fun _ _ => id) : Keeps NoB w0 w1)
    have HGA := hide HKD.out.size
    clear hK how hg hk1 hsl
    try simp only [Act.put, List.setIfInBounds_toArray, List.set_cons_succ, List.set_cons_zero]
    generalize W0.heap.size = ga at *
    refine order_one (i := 3) rfl (by kernel_rfl) (fun K hK => ?_)
    refine step_make_full rfl _ _ 24 rfl w1.heap.size 26 j0 _ 7 Tryz.underlying24 hj0 hy0 hy1 .i64 .i64 (n : Int) (n : Int) n rfl rfl rfl rfl HM.out.2.1 HM.out.2.2 (Nat.le_refl _) ?_
    intro w2 how hg
    have hk1 : Keeps NoB w1 w2 := (Keeps.refl NoB w1).grown hg (fun k h _ => by cases h)
    obtain ⟨_, _, hv, hsl⟩ := Slab.of_own how
    injection hv with hv1 hv2 hv3
    subst hv1 hv3
    rw [made_seven] at hsl
    refine hK _ _ (fun _ hS => hS.trans' hk1 (fun _ _ => id) (fun _ _ => id)) ?_
    have HSD := hide hsl; have HSA := hide (HSA0.out.fresh hk1); have HKE := hide (HK1.out.trans' hk1 (fun _ _ => id) (fun _ _ => id) : Keeps NoB w0 w2)
    have HGD := hide HK1.out.size
    clear hK how hg hk1 hsl
    try simp only [Act.put, List.setIfInBounds_toArray, List.set_cons_succ, List.set_cons_zero]
    generalize w1.heap.size = gd at *
    have c0 := (HB0.out.keep HKE.out id).cell 0
    have c1 := (HB0.out.keep HKE.out id).cell 1
    have f0 : w2.frozen? ⟨w.heap.size, 0, none⟩ = false := (HB0.out.keep HKE.out id).free 0
    have f1 : w2.frozen? ⟨w.heap.size, 1, none⟩ = false := (HB0.out.keep HKE.out id).free 1
    refine order_pure (i := 4) rfl (by kernel_rfl) (fun _ _ _ h => h) (.inl ⟨rfl, fun _ => by go_simp; rfl⟩) ?_
    try simp only [Act.put, List.setIfInBounds_toArray, List.set_cons_succ, List.set_cons_zero]
    refine order_one (i := 5) rfl (by kernel_rfl) (fun K hK => ?_)
    go_simp
    refine hK _ _ (fun h => absurd h (by decide)) ?_
    clear hK
    try simp only [Act.put, List.setIfInBounds_toArray, List.set_cons_succ, List.set_cons_zero]
    refine order_done (by kernel_rfl) ?_
    clear c0 c1 f0 f1
    have hb2 : Blk ((w2.setCell ⟨w.heap.size, 0, none⟩ (.slice (some ⟨ga, 0, none⟩) n n)).setCell ⟨w.heap.size, 1, none⟩ (.slice (some ⟨gd, 0, none⟩) n n)) w.heap.size 39 #[.slice (some ⟨ga, 0, none⟩) n n, .slice (some ⟨gd, 0, none⟩) n n] := by simpa using ((HB0.out.keep HKE.out id).put 0 (.slice (some ⟨ga, 0, none⟩) n n)).put 1 (.slice (some ⟨gd, 0, none⟩) n n)
    have hkb := ((Keeps.refl (fun k => k = w.heap.size) w2).setCell (p := ⟨w.heap.size, 0, none⟩) (.inl rfl) (.slice (some ⟨ga, 0, none⟩) n n)).setCell (p := ⟨w.heap.size, 1, none⟩) (.inl rfl) (.slice (some ⟨gd, 0, none⟩) n n)
    go_wp2_with fail
    refine bodyPost_ret (results_vars Tryz.f11 2 (by kernel_rfl) _ _ _ _ _ rfl hb2) rfl ?_
    have hsz := HK0.out.size
    have hlt := HB0.out.lt
    have hga : ∀ k, rowB (some ⟨ga, 0, none⟩) k → ¬ k = w.heap.size := fun k ⟨o, e⟩ e2 => by injection e with e; injection e with e; have := HGA.out; omega
    have hgd : ∀ k, rowB (some ⟨gd, 0, none⟩) k → ¬ k = w.heap.size := fun k ⟨o, e⟩ e2 => by injection e with e; injection e with e; have := HGD.out; omega
    exact ⟨_, n, _, n, List.replicate n [Value.int .u8 0, .bool false, .slice none 0 0, .string ByteArray.empty, .int .i64 0, .slice none 0 0, .slice none 0 0], rfl, ⟨HSA.out.keep hkb hga, HSD.out.keep hkb hgd, zeros_in _ _ n, by unfold Roomy; omega, by unfold Roomy; omega⟩, fun k hk => by rcases hk with ⟨o, e⟩ | ⟨o, e⟩ <;> injection e with e <;> injection e with e <;> (have := HGA.out; have := HGD.out; omega), (HK0.out.trans' HKE.out (fun _ _ => id) (fun _ _ => id) : Keeps NoB w w2).trans' hkb (fun _ _ => id) (fun k hk e => by omega)⟩
  · refine step_make_full rfl _ _ 24 rfl W0.heap.size 26 j0 _ 7 Tryz.underlying24 hj0 hy0 hy1 .i64 .i64 (n : Int) (n : Int) n rfl rfl rfl rfl HM.out.2.1 HM.out.2.2 (Nat.le_refl _) ?_
    intro w1 how hg
    have hk1 : Keeps NoB W0 w1 := (Keeps.refl NoB W0).grown hg (fun k h _ => by cases h)
    obtain ⟨_, _, hv, hsl⟩ := Slab.of_own how
    injection hv with hv1 hv2 hv3
    subst hv1 hv3
    rw [made_seven] at hsl
    refine hK _ _ (fun _ hS => hS.trans' hk1 (fun _ _ => id) (fun _ _ => id)) ?_
    have HSD0 := hide hsl; have HK1 := hide (HKD.out.trans' hk1 (fun _ _ => id) (fun _ _ => id) : Keeps NoB w0 w1)
    have HGD := hide HKD.out.size
    clear hK how hg hk1 hsl
    try simp only [Act.put, List.setIfInBounds_toArray, List.set_cons_succ, List.set_cons_zero]
    generalize W0.heap.size = gd at *
    refine order_one (i := 1) rfl (by kernel_rfl) (fun K hK => ?_)
    refine step_make_full rfl _ _ 37 rfl w1.heap.size 4 i0 _ 1 Tryz.underlying37 hi0 hz0 hz1 .i64 .i64 (n : Int) (n : Int) n rfl rfl rfl rfl HM.out.1 HM.out.2.2 (Nat.le_refl _) ?_
    intro w2 how hg
    have hk1 : Keeps NoB w1 w2 := (Keeps.refl NoB w1).grown hg (fun k h _ => by cases h)
    obtain ⟨_, _, hv, hsl⟩ := Slab.of_own how
    injection hv with hv1 hv2 hv3
    subst hv1 hv3
    rw [made_bools] at hsl
    refine hK _ _ (fun _ hS => hS.trans' hk1 (fun _ _ => id) (fun _ _ => id)) ?_
    have HSA := hide hsl; have HSD := hide (HSD0.out.fresh hk1); have HKE := hide (HK1.out.trans' hk1 (fun _ _ => id) (fun _ _ => id) : Keeps NoB w0 w2)
    have HGA := hide HK1.out.size
    clear hK how hg hk1 hsl
    try simp only [Act.put, List.setIfInBounds_toArray, List.set_cons_succ, List.set_cons_zero]
    generalize w1.heap.size = ga at *
    have c0 := (HB0.out.keep HKE.out id).cell 0
    have c1 := (HB0.out.keep HKE.out id).cell 1
    have f0 : w2.frozen? ⟨w.heap.size, 0, none⟩ = false := (HB0.out.keep HKE.out id).free 0
    have f1 : w2.frozen? ⟨w.heap.size, 1, none⟩ = false := (HB0.out.keep HKE.out id).free 1
    refine order_pure (i := 4) rfl (by kernel_rfl) (fun _ _ _ h => h) (.inl ⟨rfl, fun _ => by go_simp; rfl⟩) ?_
    try simp only [Act.put, List.setIfInBounds_toArray, List.set_cons_succ, List.set_cons_zero]
    refine order_one (i := 5) rfl (by kernel_rfl) (fun K hK => ?_)
    go_simp
    refine hK _ _ (fun h => absurd h (by decide)) ?_
    clear hK
    try simp only [Act.put, List.setIfInBounds_toArray, List.set_cons_succ, List.set_cons_zero]
    refine order_done (by kernel_rfl) ?_
    clear c0 c1 f0 f1
    have hb2 : Blk ((w2.setCell ⟨w.heap.size, 0, none⟩ (.slice (some ⟨ga, 0, none⟩) n n)).setCell ⟨w.heap.size, 1, none⟩ (.slice (some ⟨gd, 0, none⟩) n n)) w.heap.size 39 #[.slice (some ⟨ga, 0, none⟩) n n, .slice (some ⟨gd, 0, none⟩) n n] := by simpa using ((HB0.out.keep HKE.out id).put 0 (.slice (some ⟨ga, 0, none⟩) n n)).put 1 (.slice (some ⟨gd, 0, none⟩) n n)
    have hkb := ((Keeps.refl (fun k => k = w.heap.size) w2).setCell (p := ⟨w.heap.size, 0, none⟩) (.inl rfl) (.slice (some ⟨ga, 0, none⟩) n n)).setCell (p := ⟨w.heap.size, 1, none⟩) (.inl rfl) (.slice (some ⟨gd, 0, none⟩) n n)
    go_wp2_with fail
    refine bodyPost_ret (results_vars Tryz.f11 2 (by kernel_rfl) _ _ _ _ _ rfl hb2) rfl ?_
    have hsz := HK0.out.size
    have hlt := HB0.out.lt
    have hga : ∀ k, rowB (some ⟨ga, 0, none⟩) k → ¬ k = w.heap.size := fun k ⟨o, e⟩ e2 => by injection e with e; injection e with e; have := HGA.out; omega
    have hgd : ∀ k, rowB (some ⟨gd, 0, none⟩) k → ¬ k = w.heap.size := fun k ⟨o, e⟩ e2 => by injection e with e; injection e with e; have := HGD.out; omega
    exact ⟨_, n, _, n, List.replicate n [Value.int .u8 0, .bool false, .slice none 0 0, .string ByteArray.empty, .int .i64 0, .slice none 0 0, .slice none 0 0], rfl, ⟨HSA.out.keep hkb hga, HSD.out.keep hkb hgd, zeros_in _ _ n, by unfold Roomy; omega, by unfold Roomy; omega⟩, fun k hk => by rcases hk with ⟨o, e⟩ | ⟨o, e⟩ <;> injection e with e <;> injection e with e <;> (have := HGA.out; have := HGD.out; omega), (HK0.out.trans' HKE.out (fun _ _ => id) (fun _ _ => id) : Keeps NoB w w2).trans' hkb (fun _ _ => id) (fun k hk e => by omega)⟩
end Go.Proofs.YtjdbjjjbgibpaaaGreatDoor
