/-
  MailOrder: whatever the steps, the law returns true, and the argument reads behind the call as it read before.
  Its conditions: none beyond the row's own.
-/
import Derived.Test.YtmkidkfofbnjgaaOrder
import Derived.Test.YtmkidkfofbnjgaaFrame
namespace Go.Proofs.Ytmkidkfofbnjgaa
open Go.ChangeShapes Go.WideShapes Go.ChangeAt Go.RowKit Go.Deep

set_option maxRecDepth 100000 in
theorem open_ops {H : Type} {enc : TypeId × Value → H} {w : World} {base : Nat} {spare : Nat → Bool} {held : Bool} {A : Option Addr} {n c fuel : Nat} {x : DataW H × List MemPlace} (h : DataW.trod enc Try.prog w base spare held fuel 42 [.slice A n c] = some x) : OpsAt w A n ∧ n ≤ c := by
  rcases open_slice Try.underlying42 h with ⟨e, _⟩ | ⟨a, len, cap, m, k, D, Pl, e, _, hl, hcap, hm, _, hi⟩
  · simp only [List.cons.injEq, Value.slice.injEq, and_true] at e
    obtain ⟨rfl, rfl, rfl⟩ := e
    exact ⟨fun i hi => absurd hi (by omega), Nat.le_refl _⟩
  · simp only [List.cons.injEq, Value.slice.injEq, and_true] at e
    obtain ⟨rfl, rfl, rfl⟩ := e
    clear hcap
    refine ⟨fun i hin => ?_, hl⟩
    obtain ⟨cs', hc, ht⟩ := hi i (by rw [hm]; split <;> omega)
    rw [Try.cells46] at hc
    obtain ⟨hs, h8, hat⟩ := cells_of hc (by omega)
    obtain ⟨xs, k', _, _, _, hlen, hf⟩ := DataW.trod_struct Try.underlying46 ht
    have h0 := hf 0 _ rfl
    have hx0 : 0 < xs.length := by rw [hlen]; decide
    rw [List.getElem?_eq_getElem hx0] at h0
    obtain ⟨v, hv, _, _⟩ := DataW.trod_int Try.underlying3 h0
    have hsp : a.spot = none := by
      obtain ⟨cs0, hc0, _⟩ := hi 0 (by rw [hm]; split <;> omega)
      rw [Try.cells46] at hc0
      have := (cells_of hc0 (by omega)).1
      simpa [Addr.add] using this
    obtain ⟨b, o, sp⟩ := a
    simp only at hsp
    subst hsp
    have hcell := hat 0 (by omega)
    have hv0 : cs'[0]? = some (.int .i64 v) := by
      have e : (List.take 1 (List.drop 0 cs'))[0]? = [Value.int .i64 v][0]? := congrArg (·[0]?) hv
      rw [List.drop_zero, List.getElem?_take_of_lt Nat.zero_lt_one] at e
      exact e
    rw [hv0, Addr.add_eq _ _ rfl] at hcell
    exact ⟨b, o, v, rfl, hcell⟩

set_option maxRecDepth 100000 in
theorem mailOrder_lifted (os : Os) (started : os.Started) (H : Type) (enc : TypeId × Value → H) :
    ReturnsInHanded {} Try.checked os 5 .any (Rows.mailOrderSpec.pre6 enc Try.prog Try.f5 Rows.mailOrderRow.domain false) (Rows.mailOrderSpec.post enc Try.prog Try.f5 false true false false) := by
  refine returnsInHanded_of_change (C := Try.checked) Try.own started (by kernel_rfl) Try.func5
    (ChangeSpec.witness6 (enc := enc) (C := Try.checked) false ⟨#[], #[.slice none 0 0], []⟩ 8 (by kernel_rfl) (by kernel_rfl) (by kernel_rfl) (by kernel_rfl)) ?_
  intro W base args ds gs before hval0 hW hcnd _
  have hval : ∀ (j : Nat) t v, Try.f5.params[j]? = some t → args[j]? = some v → Value.okWide Try.prog W .any base t v := hval0
  have hW' := hW
  obtain ⟨p, q, hA0, hV, rfl, hfz, hnd⟩ := hW
  have hA : DataW.TrodAll enc Try.prog W 0 (fun _ => true) true Try.f5.params.toList args.toList ds p := hA0
  rw [Try.params5] at hA hval
  obtain ⟨v0, d0, rfl, rfl, h0⟩ := trodAll_one hA
  obtain ⟨rfl, rfl⟩ := trodVars_none hV
  obtain ⟨A, n, c, rfl⟩ := okWide_slice Try.underlying42 (hval 0 42 v0 rfl rfl)
  clear hA0 hval0
  simp only [List.append_nil] at hW'
  have hlt : ∀ x ∈ p, x.block < W.heap.size := fun x hx => by simpa using hW'.lt x hx
  have hargs : ∀ (W' : World), Below W.heap.size W W' → DataW.Trod enc Try.prog W' 0 (fun b => decide (b < W.heap.size)) true 42 (.slice A n c) d0 p :=
    fun W' hn => Below.trod Try.laidOut (by kernel_rfl) (of_decide_eq_true (by kernel_rfl)) h0 hn hlt
  obtain ⟨fuel, hf⟩ := h0
  obtain ⟨hops, hnc⟩ := open_ops hf
  refine (mail_order A n c hnc W hops).mono fun e W' ⟨he, hk⟩ => ?_
  subst he
  exact ⟨_, rfl, _, _, _, [], p, [], hW', trodAll_mk1 (shut_truth true), trodAll_mk1 (hargs _ hk.below), rfl, hk.below.frame _, fun h => by cases h⟩

/-- MailOrder, for every input. -/
theorem mailOrder_holds : Rows.MailOrderSaid :=
  OpenClaim.holds_of_wide 5 Try.f5 rfl rfl rfl rfl rfl rfl rfl ⟨rfl, rfl, rfl, rfl, rfl⟩ rfl rfl rfl rfl rfl (by kernel_rfl) Try.func5 (by kernel_rfl)
    (of_decide_eq_true (by kernel_rfl)) (by unfold Func.isWrapper; first | (rw [if_pos (by decide +kernel)]; kernel_rfl) | (rw [if_neg (by decide +kernel)]; exact ⟨rfl, rfl⟩))
    (fun os started H enc _ => mailOrder_lifted os started H enc)

end Go.Proofs.Ytmkidkfofbnjgaa
