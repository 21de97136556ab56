/-
  LintParts: whatever the two trees and the number, the law returns true, and the arguments read behind the call as they read before; its row and its tied card.
  Its conditions: the listed variables (the tables of what is built in, of shapes, and of utf8) hold what the program's text lays, as the card ties them.
-/
import Derived.Test.YtincajfanhanjaaDoorPartsW
import Derived.Test.YtincajfanhanjaaDoorNdOpen
import Derived.Test.YtincajfanhanjaaDoorCards
import Derived.Test.YtincajfanhanjaaDoorTie
import Derived.SevenTiedAt
import Derived.ChangeMaps5
import Derived.Carry
namespace Go.Proofs.YtincajfanhanjaaDoor
open Go.ChangeShapes Go.WideShapes Go.ChangeAt Go.RowKit Go.ChangeMaps

theorem five_of {cs : Array Value} (h : cs.size = 5) : ∃ a b c d e, cs = #[a, b, c, d, e] := by
  obtain ⟨l⟩ := cs
  match l, h with
  | [a, b, c, d, e], _ => exact ⟨a, b, c, d, e, rfl⟩
theorem Tryd.cells29 : Tryd.prog.cellsOf 29 = 5 := by kernel_rfl
theorem i64_wf {p : Int} (h : (Lit.int .i64 p).wf = true) : -9223372036854775808 ≤ p ∧ p ≤ 9223372036854775807 := by
  have h2 : IntKind.i64.min ≤ p ∧ p ≤ IntKind.i64.max := by simpa [Lit.wf, IntKind.has] using h
  have e1 : IntKind.i64.min = -9223372036854775808 := by kernel_rfl
  have e2 : IntKind.i64.max = 9223372036854775807 := by kernel_rfl
  omega
set_option maxRecDepth 100000 in
theorem lintParts_lifted (os : Os) (started : os.Started) (H : Type) (enc : TypeId × Value → H) :
    ReturnsInHanded {} Tryd.checked os 6 .any (fun w args => (Rows.lintPartsSpec.pre enc Tryd.prog Tryd.f6 Rows.lintPartsRow.domain false w args ∧ laidMetH Tryd.prog laidL w) ∧ sizedMet enc Tryd.prog Tryd.f6 (OpenSpec.ofChange Rows.lintPartsSpec) false w args)
      (Rows.lintPartsSpec.post enc Tryd.prog Tryd.f6 false true false false) := by
  refine returns_shaped_and (C := Tryd.checked) (X := fun w _ => laidMetH Tryd.prog laidL w) (fun _ _ _ hh h => h.of_heap hh) Tryd.own started (by kernel_rfl) Tryd.func6
    (ChangeSpec.witness_shaped (enc := enc) (C := Tryd.checked) (os := os) (X := fun w _ => laidMetH Tryd.prog laidL w) false (World.laidAll Tryd.prog os laidL) #[.agg #[.int .u8 0, .string ByteArray.empty, .int .i64 0, .int .i64 0, .slice none 0 0], .agg #[.int .u8 0, .string ByteArray.empty, .int .i64 0, .int .i64 0, .slice none 0 0], .int .i64 0] 8 (World.laidAll_os _ _ _)
      (World.shaped_of_ZipB (by kernel_rfl) (by kernel_rfl)) (by kernel_rfl) (by kernel_rfl) (by kernel_rfl)
      (by rw [MakeChecks.laidMetH_plain _ _ _ (by kernel_rfl)]; exact laidMet_laidAll _ (by kernel_rfl) (by kernel_rfl))) ?_
  intro W base args ds gs before hval0 hW _ hsz0 hL hsh
  have hsz : (DataW.weightsEach Tryd.prog (Tryd.f6.params.toList ++ Rows.lintPartsSpec.plain.varTypes Tryd.prog) (ds ++ gs)).all (· ≤ reachBytes) = true := hsz0
  clear hsz0
  have hval : ∀ (j : Nat) t v, Tryd.f6.params[j]? = some t → args[j]? = some v → Value.okWide Tryd.prog W .any base t v := hval0
  have hW' := hW
  obtain ⟨p, q, hA0, hV, rfl, _, _⟩ := hW
  have hA : DataW.TrodAll enc Tryd.prog W 0 (fun _ => true) true Tryd.f6.params.toList args.toList ds p := hA0
  rw [Tryd.params6] at hA hval hsz
  obtain ⟨v0, v1, v2, d0, d1, d2, p0, p1, p2, rfl, rfl, rfl, h0, h1, h2⟩ := trodAll_three hA
  obtain ⟨rfl, rfl⟩ := trodVars_none hV
  obtain ⟨cs0, rfl, hc0⟩ := okWide_struct Tryd.underlying29 (hval 0 29 v0 rfl rfl)
  obtain ⟨u0, u1, u2, u3, u4, rfl⟩ := five_of (hc0.trans Tryd.cells29)
  obtain ⟨cs1, rfl, hc1⟩ := okWide_struct Tryd.underlying29 (hval 1 29 v1 rfl rfl)
  obtain ⟨y0, y1, y2, y3, y4, rfl⟩ := five_of (hc1.trans Tryd.cells29)
  obtain ⟨x, rfl, rfl, rfl, wx⟩ := open_int Tryd.underlying3 (hval 2 3 v2 rfl rfl) h2
  clear hA0 hval0
  try simp only [List.append_nil, List.nil_append] at hW'
  have hlt0 : ∀ x ∈ p0, x.block < W.heap.size := fun x hx => by have := hW'.lt x (by simp [hx]); simpa using this
  have hlt1 : ∀ x ∈ p1, x.block < W.heap.size := fun x hx => by have := hW'.lt x (by simp [hx]); simpa using this
  have hargs0 : ∀ (W' : World), Below W.heap.size W W' → DataW.Trod enc Tryd.prog W' 0 (fun b => decide (b < W.heap.size)) true 29 (.agg #[u0, u1, u2, u3, u4]) d0 p0 :=
    fun W' hn => Below.trod Tryd.laidOut (by kernel_rfl) (of_decide_eq_true (by kernel_rfl)) h0 hn hlt0
  have hargs1 : ∀ (W' : World), Below W.heap.size W W' → DataW.Trod enc Tryd.prog W' 0 (fun b => decide (b < W.heap.size)) true 29 (.agg #[y0, y1, y2, y3, y4]) d1 p1 :=
    fun W' hn => Below.trod Tryd.laidOut (by kernel_rfl) (of_decide_eq_true (by kernel_rfl)) h1 hn hlt1
  have hargs2 : ∀ (W' : World), Below W.heap.size W W' → DataW.Trod enc Tryd.prog W' 0 (fun b => decide (b < W.heap.size)) true 3 (.int .i64 x) (.lit (.int .i64 x)) [] :=
    fun W' hn => Below.trod Tryd.laidOut (by kernel_rfl) (of_decide_eq_true (by kernel_rfl)) h2 hn (fun x hx => by cases hx)
  obtain ⟨fuel0, hf0⟩ := h0
  obtain ⟨fuel1, hf1⟩ := h1
  have hw0 : ∀ m ∈ d0.weights Tryd.prog 29, m ≤ reachBytes := by
    intro m hm
    have := List.all_eq_true.1 hsz m (DataW.weights_mem_each (j := 0) (t := 29) (d := d0) (by rfl) (by rfl) m hm)
    simpa using this
  have hw1 : ∀ m ∈ d1.weights Tryd.prog 29, m ≤ reachBytes := by
    intro m hm
    have := List.all_eq_true.1 hsz m (DataW.weights_mem_each (j := 1) (t := 29) (d := d1) (by rfl) (by rfl) m hm)
    simpa using this
  obtain ⟨t0, ht0', ho0⟩ := nd_open_node fuel0 _ _ hf0 hw0
  have ht0 : NodeIn W (fun k => k < W.heap.size) false [u0, u1, u2, u3, u4] t0 := ht0'
  obtain ⟨kd, tx, nm, pl, ka, kn, kc, kids, css, _, he0, _⟩ := ht0.opened
  simp only [List.cons.injEq, and_true] at he0
  obtain ⟨rfl, rfl, rfl, rfl, rfl⟩ := he0
  obtain ⟨t1, ht1', ho1⟩ := nd_open_node fuel1 _ _ hf1 hw1
  have ht1 : NodeIn W (fun k => k < W.heap.size) false [y0, y1, y2, y3, y4] t1 := ht1'
  obtain ⟨kd2, tx2, nm2, pl2, ka2, kn2, kc2, kids2, css2, _, he1, _⟩ := ht1.opened
  simp only [List.cons.injEq, and_true] at he1
  obtain ⟨rfl, rfl, rfl, rfl, rfl⟩ := he1
  refine (parts_any x (i64_wf wx) t0 t1 W _ _ false false kd tx nm pl ka kn kc kd2 tx2 nm2 pl2 ka2 kn2 kc2 (of_laid hL hsh) ho0 ht0 ho1 ht1).mono fun e W' ⟨he, hk⟩ => ?_
  subst he
  exact ⟨_, rfl, _, _, _, [], _, [], hW', trodAll_mk1 (shut_bool Tryd.underlying4 _), by
    have ht := trodAll_cons_mk (hargs0 _ hk.below) (trodAll_cons_mk (hargs1 _ hk.below) (trodAll_cons_mk (hargs2 _ hk.below) trodAll_mk0))
    simp only [List.append_nil] at ht
    exact ht, rfl, hk.below.frame _, fun h => by cases h⟩
theorem lintParts_row : Rows.LintPartsSaid :=
  OpenClaim.holds_of_wide 6 Tryd.f6 rfl rfl rfl rfl rfl rfl rfl ⟨rfl, rfl, rfl, rfl, rfl⟩ rfl rfl rfl rfl rfl (by kernel_rfl) Tryd.func6 (by kernel_rfl)
    (of_decide_eq_true (by kernel_rfl)) (by unfold Func.isWrapper; first | (rw [if_pos (by decide +kernel)]; kernel_rfl) | (rw [if_neg (by decide +kernel)]; exact ⟨rfl, rfl⟩))
    (fun os started H enc _ => lintParts_lifted os started H enc)
/-- LintParts: the tied card. -/
theorem lintParts_holds : Rows.LintPartsCardSaid :=
  Claim7.holds_tied_plain_at .later [] [.data, .data, .data, .pinned] true (true, "739761222c01a5362e4ee35ee2277c91171364d043947d98e7f9650418648e70") true lintParts_row (fun _ h => by cases h) (by kernel_rfl) (fun _ h => by cases h) lintParts_row_tie rfl ⟨rfl, rfl⟩ (by kernel_rfl) rfl
    (fun f fn hf hfn => by
      obtain rfl : f = 6 := Option.some.inj ((show Tryd.prog.funcNamed "pigeonhole/pigeonholelaw07.LintParts" = some 6 by kernel_rfl).symm.trans hf) |>.symm
      obtain rfl : fn = Tryd.f6 := (Option.some.inj (Tryd.func6.symm.trans hfn)).symm
      exact ⟨by kernel_rfl, fun j t ht => by
        rw [Tryd.params6] at ht
        have hm : t ∈ [29, 29, 3] := by simpa using Array.mem_of_getElem? ht
        have hall : ([29, 29, 3].all fun u => !Tryd.prog.wantsStandIn u) = true := by kernel_rfl
        exact (show Tryd.prog.wantsStandIn t = false by simpa using List.all_eq_true.1 hall t hm)⟩)
    (by kernel_rfl)
end Go.Proofs.YtincajfanhanjaaDoor
