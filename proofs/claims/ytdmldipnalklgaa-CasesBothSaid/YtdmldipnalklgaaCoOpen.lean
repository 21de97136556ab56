/- What an argument of cores holds, cell by cell. -/
import Derived.Test.YtdmldipnalklgaaCoBase
import Derived.Test.YtdmldipnalklgaaTmOpen
namespace Go.Proofs.Ytdmldipnalklgaa
open Go.ChangeShapes Go.WideShapes Go.ChangeAt Go.RowKit Go.Deep

mutual
/-- What every core that comes in holds to. -/
def okC : Co → Prop
  | .mk k text num t kids => (0 ≤ k ∧ k ≤ 255) ∧ text.size ≤ 140737488355328 ∧ (-9223372036854775808 ≤ num ∧ num ≤ 9223372036854775807) ∧ okT t ∧ okCs kids
def okCs : List Co → Prop
  | [] => True
  | t :: ts => okC t ∧ okCs ts
end
theorem okCs_append : ∀ {ts us : List Co}, okCs ts → okCs us → okCs (ts ++ us)
  | [], _, _, h => h
  | t :: ts, us, h, k => by unfold okCs at h; rw [List.cons_append]; unfold okCs; exact ⟨h.1, okCs_append h.2 k⟩
theorem okCs_mem : ∀ {ts : List Co}, okCs ts → ∀ t ∈ ts, okC t
  | [], _, _, h => by cases h
  | a :: ts, h, t, hm => by
    unfold okCs at h
    rcases List.mem_cons.1 hm with rfl | hm
    · exact h.1
    · exact okCs_mem h.2 t hm
theorem Try.cocells30 : Try.prog.cellsOf 30 = 11 := by kernel_rfl
theorem Try.cocells22 : Try.prog.cellsOf 22 = 1 := by kernel_rfl
theorem Try.cocells28 : Try.prog.cellsOf 28 = 1 := by kernel_rfl
theorem Try.cobytes : Try.prog.bytesOf 30 = 160 := by kernel_rfl

/-- Rows of eleven. -/
theorem co_rows_of {w : World} {B : Nat → Prop} {b o : Nat} : ∀ (m : Nat), (∀ i, i < m → ∃ (cs : List Value) (t : Co), (∀ j, j < 11 → w.cell? ⟨b, o + i * 11 + j, none⟩ = cs[j]?) ∧ CoreIn w B false cs t ∧ okC t) →
    ∃ (css : List (List Value)) (ts : List Co), css.length = m ∧ CoresIn w B false css ts ∧ okCs ts ∧ ∀ k, k < m * 11 → w.cell? ⟨b, o + k, none⟩ = css.flatten[k]?
  | 0, _ => ⟨[], [], rfl, by unfold CoresIn; trivial, by unfold okCs; trivial, fun k hk => absurd hk (by omega)⟩
  | m + 1, h => by
    obtain ⟨css, ts, hl, ht, hf, hc⟩ := co_rows_of m (fun i hi => h i (by omega))
    obtain ⟨cs, t, hcs, htt, hft⟩ := h m (by omega)
    have h7 := htt.len
    have hfl : css.flatten.length = m * 11 := by rw [flat_len ht.lens.2, hl]
    refine ⟨css ++ [cs], ts ++ [t], by simp [hl], CoresIn.append ht (CoresIn.one htt), okCs_append hf (by unfold okCs; exact ⟨hft, by unfold okCs; trivial⟩), fun k hk => ?_⟩
    rw [List.flatten_append]
    by_cases hkm : k < m * 11
    · rw [List.getElem?_append_left (by omega)]; exact hc k hkm
    · rw [List.getElem?_append_right (by omega), hfl]
      have := hcs (k - m * 11) (by omega)
      rw [show o + m * 11 + (k - m * 11) = o + k by omega] at this
      rw [this]; simp

section
variable {H : Type} {enc : TypeId × Value → H} {w : World} {base : Nat} {spare : Nat → Bool} {held : Bool}

theorem co_field_of {n : Nat} {fs : Array Field} {cs : List Value} {xs : List (DataW H × List MemPlace)} (hf : ∀ (i : Nat) (f : Field), fs[i]? = some f → DataW.trod enc Try.prog w base spare held n f.type ((cs.drop f.offset).take (Try.prog.cellsOf f.type)) = xs[i]?) (i : Nat) (f : Field) (h : fs[i]? = some f) (t : TypeId) (o m : Nat) (ht : f.type = t) (ho : f.offset = o) (h1 : Try.prog.cellsOf t = m) {x : DataW H × List MemPlace} (hx : xs[i]? = some x) : DataW.trod enc Try.prog w base spare held n t ((cs.drop o).take m) = some x := by
  have h2 := hf i f h
  rw [ht, ho, h1, hx] at h2
  exact h2

def CoOpenSaid (enc : TypeId × Value → H) (w : World) (base : Nat) (spare : Nat → Bool) (held : Bool) (fuel : Nat) : Prop := ∀ (cs : List Value) (x : DataW H × List MemPlace), DataW.trod enc Try.prog w base spare held fuel 30 cs = some x → (∀ m ∈ x.1.weights Try.prog 30, m ≤ reachBytes) →
  ∃ t, CoreIn w (fun k => k < w.heap.size) false cs t ∧ okC t

set_option maxRecDepth 100000 in
theorem co_open_cores_of {fuel : Nat} (IH : ∀ f, f < fuel → CoOpenSaid enc w base spare held f) {A : Option Addr} {n c : Nat} {x : DataW H × List MemPlace} (h : DataW.trod enc Try.prog w base spare held fuel 28 [.slice A n c] = some x) (hw : ∀ m ∈ x.1.weights Try.prog 28, m ≤ reachBytes) :
    ∃ (css : List (List Value)) (ts : List Co), Reads w (fun k => k < w.heap.size) false 11 A n css.flatten ∧ CoresIn w (fun k => k < w.heap.size) false css ts ∧ okCs ts ∧ Roomy n 160 := by
  rcases DataW.trod_slice Try.underlying28 h with ⟨e, _⟩ | ⟨a, len, cap, elems, rest, k, hfu, e, hx, _, hl, hcap, hlen, hi, _, _⟩
  · simp only [List.cons.injEq, Value.slice.injEq, and_true] at e
    obtain ⟨rfl, rfl, rfl⟩ := e
    exact ⟨[], [], Reads.zero _ _ _ _ _, by unfold CoresIn; trivial, by unfold okCs; trivial, by unfold Roomy; omega⟩
  · simp only [List.cons.injEq, Value.slice.injEq, and_true] at e
    obtain ⟨rfl, rfl, rfl⟩ := e
    clear hcap
    have hroom : Roomy n 160 := by
      have := hw ((elems.length + rest.length) * 160) (by rw [hx]; simp [DataW.weights, Try.underlying28, Try.cobytes])
      unfold Roomy; unfold reachBytes at this; omega
    have hsub : ∀ d ∈ elems.map (·.1), ∀ m ∈ d.weights Try.prog 30, m ≤ reachBytes := by
      intro d hd m hm
      refine hw m ?_
      rw [hx]
      simp only [DataW.weights, Try.underlying28]
      exact List.mem_cons_of_mem _ (List.mem_append_left _ (tm_mem_weightsAll hd hm))
    by_cases hn : n = 0
    · subst hn
      exact ⟨[], [], Reads.zero _ _ _ _ _, by unfold CoresIn; trivial, by unfold okCs; trivial, hroom⟩
    · have h0 := hi 0 (by omega)
      rw [List.getElem?_eq_getElem (by omega)] at h0
      obtain ⟨cs0, hc0, _⟩ := Option.bind_eq_some_iff.1 h0
      rw [Try.cocells30] at hc0
      have hsp : a.spot = none := by simpa [Addr.add] using (tm_cells_of hc0 (by omega)).1
      obtain ⟨css, ts, hcl, ht, hf, hc⟩ := co_rows_of (w := w) (B := fun k => k < w.heap.size) (b := a.block) (o := a.off) n (fun i hin => by
        have h1 := hi i hin
        rw [List.getElem?_eq_getElem (by omega)] at h1
        obtain ⟨cs', hc, ht⟩ := Option.bind_eq_some_iff.1 h1
        obtain ⟨t, h2, h3⟩ := IH k (by omega) cs' _ ht (hsub _ (List.mem_map_of_mem (List.getElem_mem _)))
        rw [Try.cocells30] at hc
        obtain ⟨_, _, hat⟩ := tm_cells_of hc (by omega)
        rw [Addr.add_eq _ _ hsp] at hat
        exact ⟨cs', t, hat, h2, h3⟩)
      have hfl : css.flatten.length = n * 11 := by rw [flat_len ht.lens.2, hcl]
      refine ⟨css, ts, ⟨hfl, fun _ => ?_⟩, ht, hf, hroom⟩
      have hb : a.block < w.heap.size := by
        have h1 := hc 0 (by omega)
        rw [List.getElem?_eq_getElem (by omega)] at h1
        exact tm_blk_lt h1
      exact ⟨a, rfl, hsp, hb, hb, fun j u hu => ⟨by
        have hj : j < n * 11 := by rw [← hfl]; exact (List.getElem?_eq_some_iff.1 hu).1
        rw [hc j hj]; exact hu, fun e => by cases e⟩⟩

set_option maxRecDepth 100000 in
theorem co_open_core (fuel : Nat) : CoOpenSaid enc w base spare held fuel := by
  induction fuel using Nat.strongRecOn with
  | ind fuel IH =>
  intro cs x h hw
  obtain ⟨xs, n, hfu, hx, h7, hlen, hf⟩ := DataW.trod_struct Try.underlying30 h
  have hxl : xs.length = 5 := hlen
  rw [Try.cocells30] at h7
  have hwe : ∀ (j : Nat) (t : TypeId) (d : DataW H), (([22, 9, 3, 27, 28] : List TypeId))[j]? = some t → (xs.map (·.1))[j]? = some d → ∀ m ∈ d.weights Try.prog t, m ≤ reachBytes := by
    intro j t d h1 h2 m hm
    refine hw m ?_
    rw [hx]
    simp only [DataW.weights, Try.underlying30]
    exact DataW.weights_mem_each h1 h2 m hm
  match cs, h7, xs, hxl, hwe, hf with
  | [v0, v1, v2, v3, v4, v5, v6, v7, v8, v9, v10], _, [x0, x1, x2, x3, x4], _, hwe, hf =>
    have f0 := tm_field_of hf 0 _ rfl 22 0 rfl rfl Try.cocells22 (v := v0) (x := x0) rfl rfl
    have f1 := tm_field_of hf 1 _ rfl 9 1 rfl rfl Try.tmcells9 (v := v1) (x := x1) rfl rfl
    have f2 := tm_field_of hf 2 _ rfl 3 2 rfl rfl Try.tmcells3 (v := v2) (x := x2) rfl rfl
    have f4 := tm_field_of hf 4 _ rfl 28 10 rfl rfl Try.cocells28 (v := v10) (x := x4) rfl rfl
    have f3 : DataW.trod enc Try.prog w base spare held n 27 [v3, v4, v5, v6, v7, v8, v9] = some x3 := co_field_of hf 3 _ rfl 27 3 7 rfl rfl Try.tmcells27 rfl
    obtain ⟨kd, rfl, hkd⟩ := tm_int_ones Try.underlying22 f0
    obtain ⟨tx, es, hxs, _⟩ := DataW.trod_string Try.underlying9 f1
    obtain rfl : v1 = .string tx := by simpa using es
    obtain ⟨nm, rfl, hnm⟩ := tm_int_ones Try.underlying3 f2
    obtain ⟨ka, kn, kc, rfl⟩ := tm_slice_shape Try.underlying28 f4
    obtain ⟨t, ht1, ht2⟩ := tm_open_term n _ _ f3 (hwe 3 27 _ rfl rfl)
    obtain ⟨css, kids, hi1, hi2, hi3, hi4⟩ := co_open_cores_of (fun f hf => IH f (by omega)) f4 (hwe 4 28 _ rfl rfl)
    have htx : tx.size ≤ 140737488355328 := by
      have := hwe 1 9 _ rfl rfl tx.data.toList.length (by rw [hxs]; simp [DataW.weights])
      rw [tm_size_list] at this
      unfold reachBytes at this; omega
    exact ⟨.mk kd tx nm t kids, by unfold CoreIn; exact ⟨_, ka, kn, kc, css, rfl, ht1, hi4, hi1, hi2⟩, by
      simp only [Lit.wf, Bool.and_eq_true, decide_eq_true_eq] at hkd hnm
      unfold okC; exact ⟨hkd, htx, hnm, ht2, hi3⟩⟩
end
end Go.Proofs.Ytdmldipnalklgaa
