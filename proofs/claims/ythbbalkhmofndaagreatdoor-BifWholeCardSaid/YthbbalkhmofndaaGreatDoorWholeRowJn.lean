/- BifWhole: whatever the two terms, the law returns true, and the arguments read behind the call as they read before; its row and its tied card. -/
import Derived.Test.YthbbalkhmofndaaGreatDoorWholeWJn
import Derived.Test.YthbbalkhmofndaaGreatDoorLaidRJn
import Derived.Test.YthbbalkhmofndaaGreatDoorBridgeJn
import Derived.Test.YthbbalkhmofndaaGreatDoorCards
import Derived.Test.YthbbalkhmofndaaGreatDoorTie
import Derived.SevenTiedAt
import Derived.ChangeMaps5
import Derived.Carry
namespace Go.Proofs.YthbbalkhmofndaaGreatDoor
open Go.ChangeShapes Go.WideShapes Go.ChangeAt Go.RowKit Go.ChangeMaps

theorem whole_law (a b : Tm) (hoa : okT a) (hob : okT b) (w : World) (hL : LaidK w) (hK : KindsAt w) (kd : Int) (ng : Bool) (la : Option Addr) (ln lc : Nat) (tx : ByteArray) (nm : Int) (ia : Option Addr) (im ic : Nat) (ta : Option Addr) (tn tc : Nat) (kd' : Int) (ng' : Bool) (la' : Option Addr) (ln' lc' : Nat) (tx' : ByteArray) (nm' : Int) (ia' : Option Addr) (im' ic' : Nat) (ta' : Option Addr) (tn' tc' : Nat) (ha : TermIn w (fun _ => True) false [.int .u8 kd, .bool ng, .slice la ln lc, .string tx, .int .i64 nm, .slice ia im ic, .slice ta tn tc] a) (hb : TermIn w (fun _ => True) false [.int .u8 kd', .bool ng', .slice la' ln' lc', .string tx', .int .i64 nm', .slice ia' im' ic', .slice ta' tn' tc'] b) :
    Calls Tryz.prog 4 #[.agg #[.int .u8 kd, .bool ng, .slice la ln lc, .string tx, .int .i64 nm, .slice ia im ic, .slice ta tn tc], .agg #[.int .u8 kd', .bool ng', .slice la' ln' lc', .string tx', .int .i64 nm', .slice ia' im' ic', .slice ta' tn' tc']] w fun e w' => e = .returned (.bool true) ∧ Keeps NoB w w' := by
  cases hra : rightB a.kind a.neg (a.limbs.map Int.toNat) a.text a.num a.items.length a.tail.length with
  | false => exact whole_bad_a a b hoa hob hra w hL hK _ _ _ _ _ _ _ _ _ _ _ _ _ _ _ _ _ _ _ _ _ _ _ _ _ _ ha hb
  | true =>
    cases hrb : rightB b.kind b.neg (b.limbs.map Int.toNat) b.text b.num b.items.length b.tail.length with
    | false => exact whole_bad_b a b hoa hob hra hrb w hL hK _ _ _ _ _ _ _ _ _ _ _ _ _ _ _ _ _ _ _ _ _ _ _ _ _ _ ha hb
    | true =>
      by_cases hy : intV b = 0
      · exact whole_zero a b hoa hob hra hrb hy w hL hK _ _ _ _ _ _ _ _ _ _ _ _ _ _ _ _ _ _ _ _ _ _ _ _ _ _ ha hb
      · exact whole_more a b hoa hob hra hrb hy w hL hK _ _ _ _ _ _ _ _ _ _ _ _ _ _ _ _ _ _ _ _ _ _ _ _ _ _ ha hb
theorem seven_of {cs : Array Value} (h : cs.size = 7) : ∃ a b c d e f g, cs = #[a, b, c, d, e, f, g] := by
  obtain ⟨l⟩ := cs
  match l, h with
  | [a, b, c, d, e, f, g], _ => exact ⟨a, b, c, d, e, f, g, rfl⟩
theorem Tryz.cells26 : Tryz.prog.cellsOf 26 = 7 := by kernel_rfl
set_option maxRecDepth 100000 in
theorem bifWhole_lifted (os : Os) (started : os.Started) (H : Type) (enc : TypeId × Value → H) :
    ReturnsInHanded {} Tryz.checked os 4 .any (fun w args => (Rows.bifWholeSpec.pre enc Tryz.prog Tryz.f4 Rows.bifWholeRow.domain false w args ∧ laidMetH Tryz.prog laidL w) ∧ sizedMet enc Tryz.prog Tryz.f4 (OpenSpec.ofChange Rows.bifWholeSpec) false w args)
      (Rows.bifWholeSpec.post enc Tryz.prog Tryz.f4 false true false false) := by
  refine returns_shaped_and (C := Tryz.checked) (X := fun w _ => laidMetH Tryz.prog laidL w) (fun _ _ _ hh h => h.of_heap hh) Tryz.own started (by kernel_rfl) Tryz.func4
    (ChangeSpec.witness_shaped (enc := enc) (C := Tryz.checked) (os := os) (X := fun w _ => laidMetH Tryz.prog laidL w) false (World.laidAll Tryz.prog os laidL) #[.agg #[.int .u8 0, .bool false, .slice none 0 0, .string ByteArray.empty, .int .i64 0, .slice none 0 0, .slice none 0 0], .agg #[.int .u8 0, .bool false, .slice none 0 0, .string ByteArray.empty, .int .i64 0, .slice none 0 0, .slice none 0 0]] 8 (World.laidAll_os _ _ _)
      (World.shaped_of_ZipB (by kernel_rfl) (by kernel_rfl)) (by kernel_rfl) (by kernel_rfl) (by kernel_rfl)
      (by rw [MakeChecks.laidMetH_plain _ _ _ (by kernel_rfl)]; exact laidMet_laidAll _ (by kernel_rfl) (by kernel_rfl))) ?_
  intro W base args ds gs before hval0 hW _ hsz0 hL hsh
  have hsz : (DataW.weightsEach Tryz.prog (Tryz.f4.params.toList ++ Rows.bifWholeSpec.plain.varTypes Tryz.prog) (ds ++ gs)).all (· ≤ reachBytes) = true := hsz0
  clear hsz0
  have hval : ∀ (j : Nat) t v, Tryz.f4.params[j]? = some t → args[j]? = some v → Value.okWide Tryz.prog W .any base t v := hval0
  have hW' := hW
  obtain ⟨p, q, hA0, hV, rfl, _, _⟩ := hW
  have hA : DataW.TrodAll enc Tryz.prog W 0 (fun _ => true) true Tryz.f4.params.toList args.toList ds p := hA0
  rw [Tryz.params4] at hA hval hsz
  obtain ⟨v0, v1, d0, d1, p0, p1, rfl, rfl, rfl, h0, h1⟩ := trodAll_two hA
  obtain ⟨rfl, rfl⟩ := trodVars_none hV
  obtain ⟨cs0, rfl, hc0⟩ := okWide_struct Tryz.underlying26 (hval 0 26 v0 rfl rfl)
  obtain ⟨cs1, rfl, hc1⟩ := okWide_struct Tryz.underlying26 (hval 1 26 v1 rfl rfl)
  obtain ⟨u0, u1, u2, u3, u4, u5, u6, rfl⟩ := seven_of (hc0.trans Tryz.cells26)
  obtain ⟨x0, x1, x2, x3, x4, x5, x6, rfl⟩ := seven_of (hc1.trans Tryz.cells26)
  clear hA0 hval0
  try simp only [List.append_nil, List.nil_append] at hW'
  have hlt0 : ∀ x ∈ p0, x.block < W.heap.size := fun x hx => by have := hW'.lt x (by simp [hx]); simpa using this
  have hlt1 : ∀ x ∈ p1, x.block < W.heap.size := fun x hx => by have := hW'.lt x (by simp [hx]); simpa using this
  have hargs0 : ∀ (W' : World), Below W.heap.size W W' → DataW.Trod enc Tryz.prog W' 0 (fun b => decide (b < W.heap.size)) true 26 (.agg #[u0, u1, u2, u3, u4, u5, u6]) d0 p0 :=
    fun W' hn => Below.trod Tryz.laidOut (by kernel_rfl) (of_decide_eq_true (by kernel_rfl)) h0 hn hlt0
  have hargs1 : ∀ (W' : World), Below W.heap.size W W' → DataW.Trod enc Tryz.prog W' 0 (fun b => decide (b < W.heap.size)) true 26 (.agg #[x0, x1, x2, x3, x4, x5, x6]) d1 p1 :=
    fun W' hn => Below.trod Tryz.laidOut (by kernel_rfl) (of_decide_eq_true (by kernel_rfl)) h1 hn hlt1
  obtain ⟨fuel0, hf0⟩ := h0
  obtain ⟨fuel1, hf1⟩ := h1
  have hw0 : ∀ m ∈ d0.weights Tryz.prog 26, m ≤ reachBytes := by
    intro m hm
    have := List.all_eq_true.1 hsz m (DataW.weights_mem_each (j := 0) (t := 26) (d := d0) (by rfl) (by rfl) m hm)
    simpa using this
  have hw1 : ∀ m ∈ d1.weights Tryz.prog 26, m ≤ reachBytes := by
    intro m hm
    have := List.all_eq_true.1 hsz m (DataW.weights_mem_each (j := 1) (t := 26) (d := d1) (by rfl) (by rfl) m hm)
    simpa using this
  obtain ⟨t0, ht0', ho0⟩ := tm_open_term fuel0 _ _ hf0 hw0
  obtain ⟨t1, ht1', ho1⟩ := tm_open_term fuel1 _ _ hf1 hw1
  have ht0 : TermIn W (fun k => k < W.heap.size) false [u0, u1, u2, u3, u4, u5, u6] t0 := ht0'
  have ht1 : TermIn W (fun k => k < W.heap.size) false [x0, x1, x2, x3, x4, x5, x6] t1 := ht1'
  obtain ⟨kd, ng, la, ln, lc, tx, nm, ia, im, ic, ta, tn, tc, he0, _⟩ := ht0.cells
  obtain ⟨kd', ng', la', ln', lc', tx', nm', ia', im', ic', ta', tn', tc', he1, _⟩ := ht1.cells
  simp only [List.cons.injEq, and_true] at he0 he1
  obtain ⟨rfl, rfl, rfl, rfl, rfl, rfl, rfl⟩ := he0
  obtain ⟨rfl, rfl, rfl, rfl, rfl, rfl, rfl⟩ := he1
  obtain ⟨hLK, hKA⟩ := of_laid hL hsh
  refine (whole_law t0 t1 ho0 ho1 W hLK hKA kd ng la ln lc tx nm ia im ic ta tn tc kd' ng' la' ln' lc' tx' nm' ia' im' ic' ta' tn' tc' (TermIn.more (fun _ _ _ => trivial) _ _ ht0) (TermIn.more (fun _ _ _ => trivial) _ _ ht1)).mono fun e W' ⟨he, hk⟩ => ?_
  subst he
  exact ⟨_, rfl, _, _, _, [], _, [], hW', trodAll_mk1 (shut_bool Tryz.underlying4 _), by
    have ht := trodAll_cons_mk (hargs0 _ hk.below) (trodAll_cons_mk (hargs1 _ hk.below) trodAll_mk0)
    simp only [List.append_nil] at ht
    exact ht, rfl, hk.below.frame _, fun h => by cases h⟩
theorem bifWhole_row : Rows.BifWholeSaid :=
  OpenClaim.holds_of_wide 4 Tryz.f4 rfl rfl rfl rfl rfl rfl rfl ⟨rfl, rfl, rfl, rfl, rfl⟩ rfl rfl rfl rfl rfl (by kernel_rfl) Tryz.func4 (by kernel_rfl)
    (of_decide_eq_true (by kernel_rfl)) (by unfold Func.isWrapper; first | (rw [if_pos (by decide +kernel)]; kernel_rfl) | (rw [if_neg (by decide +kernel)]; exact ⟨rfl, rfl⟩))
    (fun os started H enc _ => bifWhole_lifted os started H enc)
/-- BifWhole: the tied card. -/
theorem bifWhole_holds : Rows.BifWholeCardSaid :=
  Claim7.holds_tied_plain_at .later [] [.data, .data, .data, .pinned] true (true, "e74b1e6f907bdb62d827e882e4bb6bf6468ec4d830c9418f1c94479f5ed898d5") false bifWhole_row (fun _ h => by cases h) (by kernel_rfl) (fun _ h => by cases h) bifWhole_row_tie rfl ⟨rfl, rfl⟩ (by kernel_rfl) rfl
    (fun f fn hf hfn => by
      obtain rfl : f = 4 := Option.some.inj ((show Tryz.prog.funcNamed "pigeonhole/pigeonholelaw10.BifWhole" = some 4 by kernel_rfl).symm.trans hf) |>.symm
      obtain rfl : fn = Tryz.f4 := (Option.some.inj (Tryz.func4.symm.trans hfn)).symm
      exact ⟨by kernel_rfl, fun j t ht => by
        rw [Tryz.params4] at ht
        have hm : t ∈ [26, 26] := by simpa using Array.mem_of_getElem? ht
        have hall : ([26, 26].all fun u => !Tryz.prog.wantsStandIn u) = true := by kernel_rfl
        exact (show Tryz.prog.wantsStandIn t = false by simpa using List.all_eq_true.1 hall t hm)⟩)
    (by kernel_rfl)
end Go.Proofs.YthbbalkhmofndaaGreatDoor
