/-
  WholeSums: whatever the arguments, the law returns true, and the arguments read behind the call as they read before.
  Its conditions: none beyond the row's own.
-/
import Derived.Test.YtfehciiidmgopaaSums
import Derived.Test.YtfehciiidmgopaaFrame
import Derived.Test.YtfehciiidmgopaaTmOpen
import Derived.ChangeMaps5
namespace Go.Proofs.Ytfehciiidmgopaa
open Go.ChangeShapes Go.WideShapes Go.ChangeAt Go.RowKit Go.Deep Go.ChangeMaps

set_option maxRecDepth 100000 in
theorem wholeSums_lifted (os : Os) (started : os.Started) (H : Type) (enc : TypeId × Value → H) :
    ReturnsInHanded {} Try.checked os 8 .any (Rows.wholeSumsSpec.pre6 enc Try.prog Try.f8 Rows.wholeSumsRow.domain false) (Rows.wholeSumsSpec.post enc Try.prog Try.f8 false true false false) := by
  refine returnsInHanded_of_change_sized (C := Try.checked) Try.own started (by kernel_rfl) Try.func8
    (ChangeSpec.witness6 (enc := enc) (C := Try.checked) false ⟨#[], #[.agg #[.int .u8 0, .bool false, .slice none 0 0, .string ByteArray.empty, .int .i64 0, .slice none 0 0, .slice none 0 0], .agg #[.int .u8 0, .bool false, .slice none 0 0, .string ByteArray.empty, .int .i64 0, .slice none 0 0, .slice none 0 0]], []⟩ 8 (by kernel_rfl) (by kernel_rfl) (by kernel_rfl) (by kernel_rfl)) ?_
  intro W base args ds gs before hval0 hW _ hsz0 _
  have hsz : (DataW.weightsEach Try.prog (Try.f8.params.toList ++ Rows.wholeSumsSpec.plain.varTypes Try.prog) (ds ++ gs)).all (· ≤ reachBytes) = true := hsz0
  clear hsz0
  have hval : ∀ (j : Nat) t v, Try.f8.params[j]? = some t → args[j]? = some v → Value.okWide Try.prog W .any base t v := hval0
  have hW' := hW
  obtain ⟨p, q, hA0, hV, rfl, hfz, hnd⟩ := hW
  have hA : DataW.TrodAll enc Try.prog W 0 (fun _ => true) true Try.f8.params.toList args.toList ds p := hA0
  rw [Try.params8] at hA hval hsz
  obtain ⟨v0, v1, d0, d1, p0, p1, rfl, rfl, rfl, h0, h1⟩ := trodAll_two hA
  obtain ⟨rfl, rfl⟩ := trodVars_none hV
  obtain ⟨cs0, rfl, hc0⟩ := okWide_struct Try.underlying26 (hval 0 26 v0 rfl rfl)
  obtain ⟨u00, u01, u02, u03, u04, u05, u06, rfl⟩ := seven_of (hc0.trans Try.cells26)
  obtain ⟨cs1, rfl, hc1⟩ := okWide_struct Try.underlying26 (hval 1 26 v1 rfl rfl)
  obtain ⟨u10, u11, u12, u13, u14, u15, u16, rfl⟩ := seven_of (hc1.trans Try.cells26)
  clear hA0 hval0
  simp only [List.append_nil] at hW'
  have hlt0 : ∀ x ∈ p0, x.block < W.heap.size := fun x hx => by have := hW'.lt x (by simp [hx]); simpa using this
  have hargs0 : ∀ (W' : World), Below W.heap.size W W' → DataW.Trod enc Try.prog W' 0 (fun b => decide (b < W.heap.size)) true 26 (.agg #[u00, u01, u02, u03, u04, u05, u06]) d0 p0 :=
    fun W' hn => Below.trod Try.laidOut (by kernel_rfl) (of_decide_eq_true (by kernel_rfl)) h0 hn hlt0
  have hlt1 : ∀ x ∈ p1, x.block < W.heap.size := fun x hx => by have := hW'.lt x (by simp [hx]); simpa using this
  have hargs1 : ∀ (W' : World), Below W.heap.size W W' → DataW.Trod enc Try.prog W' 0 (fun b => decide (b < W.heap.size)) true 26 (.agg #[u10, u11, u12, u13, u14, u15, u16]) d1 p1 :=
    fun W' hn => Below.trod Try.laidOut (by kernel_rfl) (of_decide_eq_true (by kernel_rfl)) h1 hn hlt1
  obtain ⟨fuel0, hf0⟩ := h0
  have hw0 : ∀ m ∈ d0.weights Try.prog 26, m ≤ reachBytes := by
    intro m hm
    have := List.all_eq_true.1 hsz m (DataW.weights_mem_each (j := 0) (t := 26) (d := d0) (by rfl) (by rfl) m hm)
    simpa using this
  obtain ⟨kd0, ng0, la0, ln0, lc0, tx0, nm0, ia0, im0, ic0, ta0, tm0, tc0, l0, rfl, rfl, rfl, rfl, rfl, rfl, rfl, hl0, hi0, ht0⟩ := open_term hf0 hw0
  obtain ⟨t0, htt0, _⟩ := tm_open_term fuel0 _ _ hf0 hw0
  obtain ⟨C0, HT0⟩ := arg_of hl0 hi0 ht0 htt0
  obtain ⟨fuel1, hf1⟩ := h1
  have hw1 : ∀ m ∈ d1.weights Try.prog 26, m ≤ reachBytes := by
    intro m hm
    have := List.all_eq_true.1 hsz m (DataW.weights_mem_each (j := 1) (t := 26) (d := d1) (by rfl) (by rfl) m hm)
    simpa using this
  obtain ⟨kd1, ng1, la1, ln1, lc1, tx1, nm1, ia1, im1, ic1, ta1, tm1, tc1, l1, rfl, rfl, rfl, rfl, rfl, rfl, rfl, hl1, hi1, ht1⟩ := open_term hf1 hw1
  obtain ⟨t1, htt1, _⟩ := tm_open_term fuel1 _ _ hf1 hw1
  obtain ⟨C1, HT1⟩ := arg_of hl1 hi1 ht1 htt1
  refine (sums_any HT0 HT1).mono fun e W' ⟨he, hk⟩ => ?_
  subst he
  exact ⟨_, rfl, _, _, _, [], _, [], hW', trodAll_mk1 (shut_truth true), by
    have ht := trodAll_cons_mk (hargs0 _ hk.below) (trodAll_cons_mk (hargs1 _ hk.below) trodAll_mk0)
    simp only [List.append_nil, List.nil_append] at ht
    exact ht, rfl, hk.below.frame _, fun h => by cases h⟩

/-- WholeSums, for every input. -/
theorem wholeSums_holds : Rows.WholeSumsSaid :=
  OpenClaim.holds_of_wide 8 Try.f8 rfl rfl rfl rfl rfl rfl rfl ⟨rfl, rfl, rfl, rfl, rfl⟩ rfl rfl rfl rfl rfl (by kernel_rfl) Try.func8 (by kernel_rfl)
    (of_decide_eq_true (by kernel_rfl)) (by unfold Func.isWrapper; first | (rw [if_pos (by decide +kernel)]; kernel_rfl) | (rw [if_neg (by decide +kernel)]; exact ⟨rfl, rfl⟩))
    (fun os started H enc _ => wholeSums_lifted os started H enc)
end Go.Proofs.Ytfehciiidmgopaa
