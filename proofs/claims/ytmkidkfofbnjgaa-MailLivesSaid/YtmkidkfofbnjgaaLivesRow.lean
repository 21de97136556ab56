/-
  MailLives: whatever the steps, the law returns true, and the argument reads behind the call as it read before.
  Its conditions: none beyond the row's own.
-/
import Derived.Test.YtmkidkfofbnjgaaLives
import Derived.Test.YtmkidkfofbnjgaaOpenTerm
namespace Go.Proofs.Ytmkidkfofbnjgaa
open Go.ChangeShapes Go.WideShapes Go.ChangeAt Go.RowKit Go.Deep

theorem list_of {α : Type} {P : Nat → α → Prop} : ∀ n, (∀ i, i < n → ∃ x, P i x) → ∃ D : List α, D.length = n ∧ ∀ i x, D[i]? = some x → P i x
  | 0, _ => ⟨[], rfl, fun i x h => by simp at h⟩
  | n + 1, h => by
    obtain ⟨D, h1, h2⟩ := list_of n (fun i hi => h i (by omega))
    obtain ⟨y, hy⟩ := h n (by omega)
    refine ⟨D ++ [y], by simp [h1], fun i x hx => ?_⟩
    by_cases hi : i < n
    · rw [List.getElem?_append_left (by omega)] at hx; exact h2 i x hx
    · rw [List.getElem?_append_right (by omega)] at hx
      have : i - D.length = 0 := by
        have := (List.getElem?_eq_some_iff.1 hx).1
        simp at this; omega
      rw [this] at hx
      simp only [List.getElem?_cons_zero, Option.some.injEq] at hx
      obtain rfl : i = n := by omega
      exact hx ▸ hy

section
variable {H : Type} {enc : TypeId × Value → H} {w : World} {base : Nat} {spare : Nat → Bool} {held : Bool}
set_option maxRecDepth 100000 in
theorem open_step {fuel : Nat} {cs : List Value} {x : DataW H × List MemPlace} (h : DataW.trod enc Try.prog w base spare held fuel 46 cs = some x) (hw : ∀ m ∈ x.1.weights Try.prog 46, m ≤ reachBytes) (h8 : cs.length = 8) :
    ∃ (op : Int) (ds : List Value) (t : Tm), cs = .int .i64 op :: ds ∧ TermIn w (fun k => k < w.heap.size) false ds t ∧ fitsT t := by
  obtain ⟨xs, n, hfu, hx, _, hlen, hf⟩ := DataW.trod_struct Try.underlying46 h
  have hxl : xs.length = 2 := hlen
  have hwe : ∀ (j : Nat) (t : TypeId) (d : DataW H), (([3, 33] : List TypeId))[j]? = some t → (xs.map (·.1))[j]? = some d → ∀ m ∈ d.weights Try.prog t, m ≤ reachBytes := by
    intro j t d h1 h2 m hm
    refine hw m ?_
    rw [hx]
    simp only [DataW.weights, Try.underlying46]
    exact DataW.weights_mem_each h1 h2 m hm
  match cs, h8, xs, hxl, hwe, hf with
  | [v, v0, v1, v2, v3, v4, v5, v6], _, [x0, x1], _, hwe, hf =>
    have f0 := field_of hf 0 _ rfl 3 0 rfl rfl Try.cells3 (v := v) (x := x0) rfl rfl
    obtain ⟨op, rfl⟩ := int_ones Try.underlying3 f0
    have f1 := hf 1 _ rfl
    have f1' : DataW.trod enc Try.prog w base spare held n 33 [v0, v1, v2, v3, v4, v5, v6] = some x1 := f1
    obtain ⟨t, h1, h2⟩ := open_term n _ _ f1' (hwe 1 33 _ rfl rfl)
    exact ⟨op, _, t, rfl, h1, h2⟩

set_option maxRecDepth 100000 in
theorem open_steps {fuel : Nat} {A : Option Addr} {n c : Nat} {x : DataW H × List MemPlace} (h : DataW.trod enc Try.prog w base spare held fuel 42 [.slice A n c] = some x) (hw : ∀ m ∈ x.1.weights Try.prog 42, m ≤ reachBytes) :
    (∃ D, StepsAt w A n D) ∧ n ≤ c := by
  rcases DataW.trod_slice Try.underlying42 h with ⟨e, _⟩ | ⟨a, len, cap, elems, rest, k, hfu, e, hx, _, hl, hcap, hlen, hi, _, _⟩
  · simp only [List.cons.injEq, Value.slice.injEq, and_true] at e
    obtain ⟨rfl, rfl, rfl⟩ := e
    exact ⟨⟨[], rfl, fun i x h => by simp at h⟩, Nat.le_refl _⟩
  · simp only [List.cons.injEq, Value.slice.injEq, and_true] at e
    obtain ⟨rfl, rfl, rfl⟩ := e
    clear hcap
    have hsub : ∀ d ∈ elems.map (·.1), ∀ m ∈ d.weights Try.prog 46, m ≤ reachBytes := by
      intro d hd m hm
      refine hw m ?_
      rw [hx]
      simp only [DataW.weights, Try.underlying42]
      exact List.mem_cons_of_mem _ (List.mem_append_left _ (mem_weightsAll hd hm))
    obtain ⟨D, hD1, hD2⟩ := list_of (P := fun i (x : Int × Tm) => StepAt w (some a) i x.1 x.2) n (fun i hin => by
      have h0 := hi 0 (by omega)
      rw [List.getElem?_eq_getElem (by omega)] at h0
      obtain ⟨cs0, hc0, _⟩ := Option.bind_eq_some_iff.1 h0
      rw [Try.cells46] at hc0
      have hsp : a.spot = none := by simpa [Addr.add] using (cells_of hc0 (by omega)).1
      have h1 := hi i hin
      rw [List.getElem?_eq_getElem (by omega)] at h1
      obtain ⟨cs', hc, ht⟩ := Option.bind_eq_some_iff.1 h1
      rw [Try.cells46] at hc
      obtain ⟨_, h8, hat⟩ := cells_of hc (by omega)
      obtain ⟨op, ds, t, rfl, h2, h3⟩ := open_step ht (hsub _ (List.mem_map_of_mem (List.getElem_mem _))) h8
      obtain ⟨kd, ng, la, ln, lc, tx, nm, ia, im, ic, ta, tn, tc, rfl, _⟩ := h2.cells
      rw [Addr.add_eq _ _ hsp] at hat
      obtain ⟨b, o, sp⟩ := a
      simp only at hsp
      subst hsp
      exact ⟨(op, t), b, o, kd, ng, la, ln, lc, tx, nm, ia, im, ic, ta, tn, tc, rfl, h2, h3, hat 0 (by omega), hat 1 (by omega), hat 2 (by omega), hat 3 (by omega), hat 4 (by omega), hat 5 (by omega), hat 6 (by omega), hat 7 (by omega)⟩)
    exact ⟨⟨D, hD1, hD2⟩, hl⟩
end

set_option maxRecDepth 100000 in
theorem mailLives_lifted (os : Os) (started : os.Started) (H : Type) (enc : TypeId × Value → H) :
    ReturnsInHanded {} Try.checked os 4 .any (Rows.mailLivesSpec.pre6 enc Try.prog Try.f4 Rows.mailLivesRow.domain false) (Rows.mailLivesSpec.post enc Try.prog Try.f4 false true false false) := by
  refine returnsInHanded_of_change_sized (C := Try.checked) Try.own started (by kernel_rfl) Try.func4
    (ChangeSpec.witness6 (enc := enc) (C := Try.checked) false ⟨#[], #[.slice none 0 0], []⟩ 8 (by kernel_rfl) (by kernel_rfl) (by kernel_rfl) (by kernel_rfl)) ?_
  intro W base args ds gs before hval0 hW _ hsz0 _
  have hsz : (DataW.weightsEach Try.prog (Try.f4.params.toList ++ Rows.mailLivesSpec.plain.varTypes Try.prog) (ds ++ gs)).all (· ≤ reachBytes) = true := hsz0
  clear hsz0
  have hval : ∀ (j : Nat) t v, Try.f4.params[j]? = some t → args[j]? = some v → Value.okWide Try.prog W .any base t v := hval0
  have hW' := hW
  obtain ⟨p, q, hA0, hV, rfl, hfz, hnd⟩ := hW
  have hA : DataW.TrodAll enc Try.prog W 0 (fun _ => true) true Try.f4.params.toList args.toList ds p := hA0
  rw [Try.params4] at hA hval hsz
  obtain ⟨v0, d0, rfl, rfl, h0⟩ := trodAll_one hA
  obtain ⟨rfl, rfl⟩ := trodVars_none hV
  obtain ⟨A, n, c, rfl⟩ := okWide_slice Try.underlying42 (hval 0 42 v0 rfl rfl)
  clear hA0 hval0
  simp only [List.append_nil] at hW'
  have hlt : ∀ x ∈ p, x.block < W.heap.size := fun x hx => by simpa using hW'.lt x hx
  have hargs : ∀ (W' : World), Below W.heap.size W W' → DataW.Trod enc Try.prog W' 0 (fun b => decide (b < W.heap.size)) true 42 (.slice A n c) d0 p :=
    fun W' hn => Below.trod Try.laidOut (by kernel_rfl) (of_decide_eq_true (by kernel_rfl)) h0 hn hlt
  obtain ⟨fuel, hf⟩ := h0
  have hw : ∀ m ∈ d0.weights Try.prog 42, m ≤ reachBytes := by
    intro m hm
    have := List.all_eq_true.1 hsz m (DataW.weights_mem_each (j := 0) (t := 42) (d := d0) rfl (by rw [List.append_nil]; rfl) m hm)
    simpa using this
  obtain ⟨⟨D, hD⟩, hnc⟩ := open_steps hf hw
  refine (mail_lives A n c hnc D W hD).mono fun e W' ⟨he, hk⟩ => ?_
  subst he
  exact ⟨_, rfl, _, _, _, [], p, [], hW', trodAll_mk1 (shut_truth true), trodAll_mk1 (hargs _ hk.below), rfl, hk.below.frame _, fun h => by cases h⟩

/-- MailLives, for every input. -/
theorem mailLives_holds : Rows.MailLivesSaid :=
  OpenClaim.holds_of_wide 4 Try.f4 rfl rfl rfl rfl rfl rfl rfl ⟨rfl, rfl, rfl, rfl, rfl⟩ rfl rfl rfl rfl rfl (by kernel_rfl) Try.func4 (by kernel_rfl)
    (of_decide_eq_true (by kernel_rfl)) (by unfold Func.isWrapper; first | (rw [if_pos (by decide +kernel)]; kernel_rfl) | (rw [if_neg (by decide +kernel)]; exact ⟨rfl, rfl⟩))
    (fun os started H enc _ => mailLives_lifted os started H enc)
end Go.Proofs.Ytmkidkfofbnjgaa
