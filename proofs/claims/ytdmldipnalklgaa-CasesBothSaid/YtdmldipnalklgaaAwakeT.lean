/- of, num, constant: cores that are made. -/
import Derived.Test.YtdmldipnalklgaaPat
namespace Go.Proofs.Ytdmldipnalklgaa
open Go.RowKit

set_option maxRecDepth 100000 in
theorem num_any (k n : Int) (w : World) : Calls Try.prog 9 #[.int .u8 k, .int .i64 n] w fun e w' => e = .returned (.agg #[.int .u8 k, .string { data := #[] }, .int .i64 n, .int .u8 0, .bool false, .slice none 0 0, .string { data := #[] }, .int .i64 0, .slice none 0 0, .slice none 0 0, .slice none 0 0]) ∧ Keeps NoB w w' := by
  have HB := hide (Blk.new w 30 #[.int .u8 k, .string { data := #[] }, .int .i64 n, .int .u8 0, .bool false, .slice none 0 0, .string { data := #[] }, .int .i64 0, .slice none 0 0, .slice none 0 0, .slice none 0 0])
  go_enter Try.func9, Try.ntmps9
  go_wp2
  have HK := hide ((Keeps.refl NoB w).alloc (.cells #[.int .u8 k, .string { data := #[] }, .int .i64 n, .int .u8 0, .bool false, .slice none 0 0, .string { data := #[] }, .int .i64 0, .slice none 0 0, .slice none 0 0, .slice none 0 0] 30))
  generalize w.alloc (.cells #[.int .u8 k, .string { data := #[] }, .int .i64 n, .int .u8 0, .bool false, .slice none 0 0, .string { data := #[] }, .int .i64 0, .slice none 0 0, .slice none 0 0, .slice none 0 0] 30) = wf at *
  have d0 : wf.cell? ⟨w.heap.size, 0, none⟩ = some (.int .u8 k) := HB.out.cell 0; have d1 : wf.cell? ⟨w.heap.size, 1, none⟩ = some (.string { data := #[] }) := HB.out.cell 1; have d2 : wf.cell? ⟨w.heap.size, 2, none⟩ = some (.int .i64 n) := HB.out.cell 2; have d3 : wf.cell? ⟨w.heap.size, 3, none⟩ = some (.int .u8 0) := HB.out.cell 3; have d4 : wf.cell? ⟨w.heap.size, 4, none⟩ = some (.bool false) := HB.out.cell 4; have d5 : wf.cell? ⟨w.heap.size, 5, none⟩ = some (.slice none 0 0) := HB.out.cell 5; have d6 : wf.cell? ⟨w.heap.size, 6, none⟩ = some (.string { data := #[] }) := HB.out.cell 6; have d7 : wf.cell? ⟨w.heap.size, 7, none⟩ = some (.int .i64 0) := HB.out.cell 7; have d8 : wf.cell? ⟨w.heap.size, 8, none⟩ = some (.slice none 0 0) := HB.out.cell 8; have d9 : wf.cell? ⟨w.heap.size, 9, none⟩ = some (.slice none 0 0) := HB.out.cell 9; have d10 : wf.cell? ⟨w.heap.size, 10, none⟩ = some (.slice none 0 0) := HB.out.cell 10
  refine bodyPost_ret (v := .agg #[.int .u8 k, .string { data := #[] }, .int .i64 n, .int .u8 0, .bool false, .slice none 0 0, .string { data := #[] }, .int .i64 0, .slice none 0 0, .slice none 0 0, .slice none 0 0]) (by simp [results, Try.results9, go_sem, d0, d1, d2, d3, d4, d5, d6, d7, d8, d9, d10]) rfl ?_
  exact ⟨rfl, HK.out⟩
set_option maxRecDepth 100000 in
theorem of_any (k : Int) (A : Option Addr) (n c : Nat) (w : World) : Calls Try.prog 8 #[.int .u8 k, .slice A n c] w fun e w' => e = .returned (.agg #[.int .u8 k, .string { data := #[] }, .int .i64 0, .int .u8 0, .bool false, .slice none 0 0, .string { data := #[] }, .int .i64 0, .slice none 0 0, .slice none 0 0, .slice A n c]) ∧ Keeps NoB w w' := by
  have HB := hide (Blk.new w 30 #[.int .u8 k, .string { data := #[] }, .int .i64 0, .int .u8 0, .bool false, .slice none 0 0, .string { data := #[] }, .int .i64 0, .slice none 0 0, .slice none 0 0, .slice A n c])
  go_enter Try.func8, Try.ntmps8
  go_wp2
  have HK := hide ((Keeps.refl NoB w).alloc (.cells #[.int .u8 k, .string { data := #[] }, .int .i64 0, .int .u8 0, .bool false, .slice none 0 0, .string { data := #[] }, .int .i64 0, .slice none 0 0, .slice none 0 0, .slice A n c] 30))
  generalize w.alloc (.cells #[.int .u8 k, .string { data := #[] }, .int .i64 0, .int .u8 0, .bool false, .slice none 0 0, .string { data := #[] }, .int .i64 0, .slice none 0 0, .slice none 0 0, .slice A n c] 30) = wf at *
  have d0 : wf.cell? ⟨w.heap.size, 0, none⟩ = some (.int .u8 k) := HB.out.cell 0; have d1 : wf.cell? ⟨w.heap.size, 1, none⟩ = some (.string { data := #[] }) := HB.out.cell 1; have d2 : wf.cell? ⟨w.heap.size, 2, none⟩ = some (.int .i64 0) := HB.out.cell 2; have d3 : wf.cell? ⟨w.heap.size, 3, none⟩ = some (.int .u8 0) := HB.out.cell 3; have d4 : wf.cell? ⟨w.heap.size, 4, none⟩ = some (.bool false) := HB.out.cell 4; have d5 : wf.cell? ⟨w.heap.size, 5, none⟩ = some (.slice none 0 0) := HB.out.cell 5; have d6 : wf.cell? ⟨w.heap.size, 6, none⟩ = some (.string { data := #[] }) := HB.out.cell 6; have d7 : wf.cell? ⟨w.heap.size, 7, none⟩ = some (.int .i64 0) := HB.out.cell 7; have d8 : wf.cell? ⟨w.heap.size, 8, none⟩ = some (.slice none 0 0) := HB.out.cell 8; have d9 : wf.cell? ⟨w.heap.size, 9, none⟩ = some (.slice none 0 0) := HB.out.cell 9; have d10 : wf.cell? ⟨w.heap.size, 10, none⟩ = some (.slice A n c) := HB.out.cell 10
  refine bodyPost_ret (v := .agg #[.int .u8 k, .string { data := #[] }, .int .i64 0, .int .u8 0, .bool false, .slice none 0 0, .string { data := #[] }, .int .i64 0, .slice none 0 0, .slice none 0 0, .slice A n c]) (by simp [results, Try.results8, go_sem, d0, d1, d2, d3, d4, d5, d6, d7, d8, d9, d10]) rfl ?_
  exact ⟨rfl, HK.out⟩
set_option maxRecDepth 100000 in
theorem const_any (s : ByteArray) (w : World) : Calls Try.prog 12 #[.string s] w fun e w' => e = .returned (.agg #[.int .u8 23, .string { data := #[] }, .int .i64 0, .int .u8 2, .bool false, .slice none 0 0, .string s, .int .i64 0, .slice none 0 0, .slice none 0 0, .slice none 0 0]) ∧ Keeps NoB w w' := by
  have HB := hide (Blk.new w 30 #[.int .u8 23, .string { data := #[] }, .int .i64 0, .int .u8 2, .bool false, .slice none 0 0, .string s, .int .i64 0, .slice none 0 0, .slice none 0 0, .slice none 0 0])
  go_enter Try.func12, Try.ntmps12
  go_wp2
  have HK := hide ((Keeps.refl NoB w).alloc (.cells #[.int .u8 23, .string { data := #[] }, .int .i64 0, .int .u8 2, .bool false, .slice none 0 0, .string s, .int .i64 0, .slice none 0 0, .slice none 0 0, .slice none 0 0] 30))
  generalize w.alloc (.cells #[.int .u8 23, .string { data := #[] }, .int .i64 0, .int .u8 2, .bool false, .slice none 0 0, .string s, .int .i64 0, .slice none 0 0, .slice none 0 0, .slice none 0 0] 30) = wf at *
  have d0 : wf.cell? ⟨w.heap.size, 0, none⟩ = some (.int .u8 23) := HB.out.cell 0; have d1 : wf.cell? ⟨w.heap.size, 1, none⟩ = some (.string { data := #[] }) := HB.out.cell 1; have d2 : wf.cell? ⟨w.heap.size, 2, none⟩ = some (.int .i64 0) := HB.out.cell 2; have d3 : wf.cell? ⟨w.heap.size, 3, none⟩ = some (.int .u8 2) := HB.out.cell 3; have d4 : wf.cell? ⟨w.heap.size, 4, none⟩ = some (.bool false) := HB.out.cell 4; have d5 : wf.cell? ⟨w.heap.size, 5, none⟩ = some (.slice none 0 0) := HB.out.cell 5; have d6 : wf.cell? ⟨w.heap.size, 6, none⟩ = some (.string s) := HB.out.cell 6; have d7 : wf.cell? ⟨w.heap.size, 7, none⟩ = some (.int .i64 0) := HB.out.cell 7; have d8 : wf.cell? ⟨w.heap.size, 8, none⟩ = some (.slice none 0 0) := HB.out.cell 8; have d9 : wf.cell? ⟨w.heap.size, 9, none⟩ = some (.slice none 0 0) := HB.out.cell 9; have d10 : wf.cell? ⟨w.heap.size, 10, none⟩ = some (.slice none 0 0) := HB.out.cell 10
  refine bodyPost_ret (v := .agg #[.int .u8 23, .string { data := #[] }, .int .i64 0, .int .u8 2, .bool false, .slice none 0 0, .string s, .int .i64 0, .slice none 0 0, .slice none 0 0, .slice none 0 0]) (by simp [results, Try.results12, go_sem, d0, d1, d2, d3, d4, d5, d6, d7, d8, d9, d10]) rfl ?_
  exact ⟨rfl, HK.out⟩
/-- The terms that such cores hold. -/
def tm0 : Tm := .mk 0 false [] ByteArray.empty 0 [] []
def tmA (s : ByteArray) : Tm := .mk 2 false [] s 0 [] []
theorem core_of {w : World} {B : Nat → Prop} {F : Bool} {A : Option Addr} {n c : Nat} {css : List (List Value)} {kids : List Co} (k num tk : Int) (s : ByteArray) (hr : Reads w B F 11 A n css.flatten) (hc : CoresIn w B F css kids) (hn : Roomy n 160) :
    CoreIn w B F [.int .u8 k, .string { data := #[] }, .int .i64 num, .int .u8 tk, .bool false, .slice none 0 0, .string s, .int .i64 0, .slice none 0 0, .slice none 0 0, .slice A n c] (.mk k ByteArray.empty num (.mk tk false [] s 0 [] []) kids) := by
  unfold CoreIn
  refine ⟨[.int .u8 tk, .bool false, .slice none 0 0, .string s, .int .i64 0, .slice none 0 0, .slice none 0 0], A, n, c, css, rfl, ?_, hn, hr, hc⟩
  unfold TermIn
  exact ⟨none, 0, 0, none, 0, 0, none, 0, 0, [], [], rfl, ⟨by unfold Roomy; omega, by unfold Roomy; omega, by unfold Roomy; omega⟩, Reads.zero _ _ _ _ _, Reads.zero _ _ _ _ _, by unfold TermsIn; trivial, Reads.zero _ _ _ _ _, by unfold TermsIn; trivial⟩
theorem core_flat {w : World} {B : Nat → Prop} {F : Bool} (k num tk : Int) (s : ByteArray) :
    CoreIn w B F [.int .u8 k, .string { data := #[] }, .int .i64 num, .int .u8 tk, .bool false, .slice none 0 0, .string s, .int .i64 0, .slice none 0 0, .slice none 0 0, .slice none 0 0] (.mk k ByteArray.empty num (.mk tk false [] s 0 [] []) []) :=
  core_of (css := []) k num tk s (Reads.zero _ _ _ _ _) (by unfold CoresIn; trivial) (by unfold Roomy; omega)
/-- Two cores in a block. -/
theorem two_cores {w : World} {B : Nat → Prop} {F : Bool} {g : Nat} {t : TypeId} {xs ys : List Value} {p q : Co} (hb : Blk w g t (xs ++ ys).toArray) (hg : B g) (hp : CoreIn w B F xs p) (hq : CoreIn w B F ys q) :
    Reads w B F 11 (some ⟨g, 0, none⟩) 2 (List.flatten [xs, ys]) ∧ CoresIn w B F [xs, ys] [p, q] := by
  have h1 := hp.len
  have h2 := hq.len
  refine ⟨⟨by simp [h1, h2], fun _ => ⟨_, rfl, rfl, hg, hb.lt, fun j u hu => ⟨?_, fun _ => hb.free _⟩⟩⟩, by unfold CoresIn; exact ⟨hp, CoresIn.one hq⟩⟩
  rw [hb.cell, ← hu]
  simp
end Go.Proofs.Ytdmldipnalklgaa
