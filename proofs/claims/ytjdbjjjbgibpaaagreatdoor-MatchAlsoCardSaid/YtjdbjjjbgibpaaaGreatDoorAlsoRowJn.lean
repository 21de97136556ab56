/- MatchAlso: whatever the two patterns, the term and the number, the law returns true, and the arguments read behind the call as they read before; its row and its tied card. -/
import Derived.Test.YtjdbjjjbgibpaaaGreatDoorMatAlsoJn
import Derived.Test.YtjdbjjjbgibpaaaGreatDoorLaidRJn
import Derived.Test.YtjdbjjjbgibpaaaGreatDoorTmOpenJn
import Derived.Test.YtjdbjjjbgibpaaaGreatDoorCards
import Derived.Test.YtjdbjjjbgibpaaaGreatDoorTie
import Derived.SevenTiedAt
import Derived.ProofKit
import Derived.OpenShut
import Derived.Deep.Slices
import Derived.SizedLaws
import Derived.ChangeMaps5
import Derived.Carry
namespace Go.Proofs.YtjdbjjjbgibpaaaGreatDoor
open Go.ChangeShapes Go.WideShapes Go.ChangeAt Go.RowKit Go.Deep Go.ChangeMaps

/-- An argument that is a core: its eleven cells. -/
theorem core_arg {H : Type} {enc : TypeId × Value → H} {W : World} {base : Nat} {sp : Nat → Bool} {held : Bool} {fuel : Nat} {cs : Array Value} {d : DataW H} {p : List MemPlace} (hf : DataW.trod enc Tryz.prog W base sp held fuel 34 cs.toList = some (d, p)) (hw : ∀ m ∈ d.weights Tryz.prog 34, m ≤ reachBytes) :
    ∃ t kd tx nm tk ng la ln lc tt tn ia im ic ta tm tc ka kn kc, cs = #[.int .u8 kd, .string tx, .int .i64 nm, .int .u8 tk, .bool ng, .slice la ln lc, .string tt, .int .i64 tn, .slice ia im ic, .slice ta tm tc, .slice ka kn kc] ∧ okC t ∧
      CoreIn W (fun k => k < W.heap.size) false [.int .u8 kd, .string tx, .int .i64 nm, .int .u8 tk, .bool ng, .slice la ln lc, .string tt, .int .i64 tn, .slice ia im ic, .slice ta tm tc, .slice ka kn kc] t := by
  obtain ⟨t, hc, ho⟩ := co_open_core fuel cs.toList (d, p) hf hw
  obtain ⟨kd, tx, nm, tk, ng, la, ln, lc, tt, tn, ia, im, ic, ta, tm, tc, ka, kn, kc, tr, kids, css, _, e, _⟩ := hc.opened
  refine ⟨t, kd, tx, nm, tk, ng, la, ln, lc, tt, tn, ia, im, ic, ta, tm, tc, ka, kn, kc, ?_, ho, e ▸ hc⟩
  cases cs
  simpa using e

theorem seven_of {cs : Array Value} (h : cs.size = 7) : ∃ a b c d e f g, cs = #[a, b, c, d, e, f, g] := by
  obtain ⟨l⟩ := cs
  match l, h with
  | [a, b, c, d, e, f, g], _ => exact ⟨a, b, c, d, e, f, g, rfl⟩
theorem Tryz.cells26 : Tryz.prog.cellsOf 26 = 7 := by kernel_rfl
set_option maxRecDepth 100000 in
theorem matchAlso_lifted (os : Os) (started : os.Started) (H : Type) (enc : TypeId × Value → H) :
    ReturnsInHanded {} Tryz.checked os 4 .any (fun w args => (Rows.matchAlsoSpec.pre enc Tryz.prog Tryz.f4 Rows.matchAlsoRow.domain false w args ∧ laidMetH Tryz.prog laidL w) ∧ sizedMet enc Tryz.prog Tryz.f4 (OpenSpec.ofChange Rows.matchAlsoSpec) false w args)
      (Rows.matchAlsoSpec.post enc Tryz.prog Tryz.f4 false true false false) := by
  refine returns_shaped_and (C := Tryz.checked) (X := fun w _ => laidMetH Tryz.prog laidL w) (fun _ _ _ hh h => h.of_heap hh) Tryz.own started (by kernel_rfl) Tryz.func4
    (ChangeSpec.witness_shaped (enc := enc) (C := Tryz.checked) (os := os) (X := fun w _ => laidMetH Tryz.prog laidL w) false (World.laidAll Tryz.prog os laidL) #[.agg #[.int .u8 0, .string ByteArray.empty, .int .i64 0, .int .u8 0, .bool false, .slice none 0 0, .string ByteArray.empty, .int .i64 0, .slice none 0 0, .slice none 0 0, .slice none 0 0], .agg #[.int .u8 0, .string ByteArray.empty, .int .i64 0, .int .u8 0, .bool false, .slice none 0 0, .string ByteArray.empty, .int .i64 0, .slice none 0 0, .slice none 0 0, .slice none 0 0], .agg #[.int .u8 0, .bool false, .slice none 0 0, .string ByteArray.empty, .int .i64 0, .slice none 0 0, .slice none 0 0], .int .i64 0] 8 (World.laidAll_os _ _ _)
      (World.shaped_of_ZipB (by kernel_rfl) (by kernel_rfl)) (by kernel_rfl) (by kernel_rfl) (by kernel_rfl)
      (by rw [MakeChecks.laidMetH_plain _ _ _ (by kernel_rfl)]; exact laidMet_laidAll _ (by kernel_rfl) (by kernel_rfl))) ?_
  intro W base args ds gs before hval0 hW _ hsz0 hL hsh
  have hsz : (DataW.weightsEach Tryz.prog (Tryz.f4.params.toList ++ Rows.matchAlsoSpec.plain.varTypes Tryz.prog) (ds ++ gs)).all (· ≤ reachBytes) = true := hsz0
  clear hsz0
  have hval : ∀ (j : Nat) t v, Tryz.f4.params[j]? = some t → args[j]? = some v → Value.okWide Tryz.prog W .any base t v := hval0
  have hW' := hW
  obtain ⟨p, q, hA0, hV, rfl, _, _⟩ := hW
  have hA : DataW.TrodAll enc Tryz.prog W 0 (fun _ => true) true Tryz.f4.params.toList args.toList ds p := hA0
  rw [Tryz.params4] at hA hval hsz
  obtain ⟨v0, v1, v2, v3, d0, d1, d2, d3, p0, p1, p2, p3, rfl, rfl, rfl, h0, h1, h2, h3⟩ := trodAll_four hA
  obtain ⟨rfl, rfl⟩ := trodVars_none hV
  obtain ⟨cs0, rfl, hc0⟩ := okWide_struct Tryz.underlying34 (hval 0 34 v0 rfl rfl)
  obtain ⟨cs1, rfl, hc1⟩ := okWide_struct Tryz.underlying34 (hval 1 34 v1 rfl rfl)
  obtain ⟨cs2, rfl, hc2⟩ := okWide_struct Tryz.underlying26 (hval 2 26 v2 rfl rfl)
  obtain ⟨x0, x1, x2, x3, x4, x5, x6, rfl⟩ := seven_of (hc2.trans Tryz.cells26)
  obtain ⟨a3, rfl, rfl, rfl, w3⟩ := open_int Tryz.underlying3 (hval 3 3 v3 rfl rfl) h3
  clear hA0 hval0
  try simp only [List.append_nil, List.nil_append] at hW'
  have hlt0 : ∀ x ∈ p0, x.block < W.heap.size := fun x hx => by have := hW'.lt x (by simp [hx]); simpa using this
  have hargs0 : ∀ (W' : World), Below W.heap.size W W' → DataW.Trod enc Tryz.prog W' 0 (fun b => decide (b < W.heap.size)) true 34 (.agg cs0) d0 p0 :=
    fun W' hn => Below.trod Tryz.laidOut (by kernel_rfl) (of_decide_eq_true (by kernel_rfl)) h0 hn hlt0
  have hlt1 : ∀ x ∈ p1, x.block < W.heap.size := fun x hx => by have := hW'.lt x (by simp [hx]); simpa using this
  have hargs1 : ∀ (W' : World), Below W.heap.size W W' → DataW.Trod enc Tryz.prog W' 0 (fun b => decide (b < W.heap.size)) true 34 (.agg cs1) d1 p1 :=
    fun W' hn => Below.trod Tryz.laidOut (by kernel_rfl) (of_decide_eq_true (by kernel_rfl)) h1 hn hlt1
  have hlt2 : ∀ x ∈ p2, x.block < W.heap.size := fun x hx => by have := hW'.lt x (by simp [hx]); simpa using this
  have hargs2 : ∀ (W' : World), Below W.heap.size W W' → DataW.Trod enc Tryz.prog W' 0 (fun b => decide (b < W.heap.size)) true 26 (.agg #[x0, x1, x2, x3, x4, x5, x6]) d2 p2 :=
    fun W' hn => Below.trod Tryz.laidOut (by kernel_rfl) (of_decide_eq_true (by kernel_rfl)) h2 hn hlt2
  have hargs3 : ∀ (W' : World), Below W.heap.size W W' → DataW.Trod enc Tryz.prog W' 0 (fun b => decide (b < W.heap.size)) true 3 (.int .i64 a3) (.lit (.int .i64 a3)) [] :=
    fun W' hn => Below.trod Tryz.laidOut (by kernel_rfl) (of_decide_eq_true (by kernel_rfl)) h3 hn (fun x hx => by cases hx)
  obtain ⟨fuel0, hf0⟩ := h0
  have hw0 : ∀ m ∈ d0.weights Tryz.prog 34, m ≤ reachBytes := by
    intro m hm
    have := List.all_eq_true.1 hsz m (DataW.weights_mem_each (j := 0) (t := 34) (d := d0) (by rfl) (by rfl) m hm)
    simpa using this
  obtain ⟨fuel1, hf1⟩ := h1
  have hw1 : ∀ m ∈ d1.weights Tryz.prog 34, m ≤ reachBytes := by
    intro m hm
    have := List.all_eq_true.1 hsz m (DataW.weights_mem_each (j := 1) (t := 34) (d := d1) (by rfl) (by rfl) m hm)
    simpa using this
  obtain ⟨fuel2, hf2⟩ := h2
  have hw2 : ∀ m ∈ d2.weights Tryz.prog 26, m ≤ reachBytes := by
    intro m hm
    have := List.all_eq_true.1 hsz m (DataW.weights_mem_each (j := 2) (t := 26) (d := d2) (by rfl) (by rfl) m hm)
    simpa using this
  obtain ⟨t0, kd0, tx0, nm0, tk0, ng0, la0, ln0, lc0, tt0, tn0, ia0, im0, ic0, ta0, tm0, tc0, ka0, kn0, kc0, rfl, ho0, ht0⟩ := core_arg hf0 hw0
  obtain ⟨t1, kd1, tx1, nm1, tk1, ng1, la1, ln1, lc1, tt1, tn1, ia1, im1, ic1, ta1, tm1, tc1, ka1, kn1, kc1, rfl, ho1, ht1⟩ := core_arg hf1 hw1
  obtain ⟨t2, ht2', ho2⟩ := tm_open_term fuel2 _ _ hf2 hw2
  have ht2 : TermIn W (fun k => k < W.heap.size) false [x0, x1, x2, x3, x4, x5, x6] t2 := ht2'
  obtain ⟨kd', ng', la', ln', lc', tx', nm', ia', im', ic', ta', tn', tc', he1, _⟩ := ht2.cells
  simp only [List.cons.injEq, and_true] at he1
  obtain ⟨rfl, rfl, rfl, rfl, rfl, rfl, rfl⟩ := he1
  obtain ⟨hLK, hKA⟩ := of_laid hL hsh
  refine (also_any t0 t1 t2 a3 ho0 ho1 ho2 W hLK hKA kd0 tx0 nm0 tk0 ng0 la0 ln0 lc0 tt0 tn0 ia0 im0 ic0 ta0 tm0 tc0 ka0 kn0 kc0 kd1 tx1 nm1 tk1 ng1 la1 ln1 lc1 tt1 tn1 ia1 im1 ic1 ta1 tm1 tc1 ka1 kn1 kc1 kd' ng' la' ln' lc' tx' nm' ia' im' ic' ta' tn' tc' (CoreIn.more (fun _ _ _ => trivial) _ _ ht0) (CoreIn.more (fun _ _ _ => trivial) _ _ ht1) (TermIn.more (fun _ _ _ => trivial) _ _ ht2)).mono fun e W' ⟨he, hk⟩ => ?_
  subst he
  exact ⟨_, rfl, _, _, _, [], _, [], hW', trodAll_mk1 (shut_bool Tryz.underlying4 _), by
    have ht := trodAll_cons_mk (hargs0 _ hk.below) (trodAll_cons_mk (hargs1 _ hk.below) (trodAll_cons_mk (hargs2 _ hk.below) (trodAll_cons_mk (hargs3 _ hk.below) trodAll_mk0)))
    simp only [List.append_nil, List.nil_append] at ht
    exact ht, rfl, hk.below.frame _, fun h => by cases h⟩
theorem matchAlso_row : Rows.MatchAlsoSaid :=
  OpenClaim.holds_of_wide 4 Tryz.f4 rfl rfl rfl rfl rfl rfl rfl ⟨rfl, rfl, rfl, rfl, rfl⟩ rfl rfl rfl rfl rfl (by kernel_rfl) Tryz.func4 (by kernel_rfl)
    (of_decide_eq_true (by kernel_rfl)) (by unfold Func.isWrapper; first | (rw [if_pos (by decide +kernel)]; kernel_rfl) | (rw [if_neg (by decide +kernel)]; exact ⟨rfl, rfl⟩))
    (fun os started H enc _ => matchAlso_lifted os started H enc)
/-- MatchAlso: the tied card. -/
theorem matchAlso_holds : Rows.MatchAlsoCardSaid :=
  Claim7.holds_tied_plain_at .later [] [.data, .data, .data, .pinned] true (true, "aa31bec234ddfb74f88fcf3d3d75c5b4d6e1b13d798478012ca6977f7577178b") false matchAlso_row (fun _ h => by cases h) (by kernel_rfl) (fun _ h => by cases h) matchAlso_row_tie rfl ⟨rfl, rfl⟩ (by kernel_rfl) rfl
    (fun f fn hf hfn => by
      obtain rfl : f = 4 := Option.some.inj ((show Tryz.prog.funcNamed "pigeonhole/pigeonholelaw11.MatchAlso" = some 4 by kernel_rfl).symm.trans hf) |>.symm
      obtain rfl : fn = Tryz.f4 := (Option.some.inj (Tryz.func4.symm.trans hfn)).symm
      exact ⟨by kernel_rfl, fun j t ht => by
        rw [Tryz.params4] at ht
        have hm : t ∈ [34, 34, 26, 3] := by simpa using Array.mem_of_getElem? ht
        have hall : ([34, 34, 26, 3].all fun u => !Tryz.prog.wantsStandIn u) = true := by kernel_rfl
        exact (show Tryz.prog.wantsStandIn t = false by simpa using List.all_eq_true.1 hall t hm)⟩)
    (by kernel_rfl)
end Go.Proofs.YtjdbjjjbgibpaaaGreatDoor
