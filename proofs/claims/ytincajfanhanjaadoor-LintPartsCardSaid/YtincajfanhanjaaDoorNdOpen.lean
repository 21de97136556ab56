/- What an argument of nodes holds, cell by cell. -/
import Derived.Test.YtincajfanhanjaaDoorNdBase
import Derived.ProofKit
import Derived.OpenShut
import Derived.Deep.Slices
import Derived.SizedLaws
namespace Go.Proofs.YtincajfanhanjaaDoor
open Go.ChangeShapes Go.WideShapes Go.ChangeAt Go.RowKit Go.Deep

mutual
/-- What every node that comes in holds to. -/
def okN : Nd → Prop
  | .mk k text num pl kids => (0 ≤ k ∧ k ≤ 255) ∧ text.size ≤ 140737488355328 ∧ (-9223372036854775808 ≤ num ∧ num ≤ 9223372036854775807) ∧ (-9223372036854775808 ≤ pl ∧ pl ≤ 9223372036854775807) ∧ okNs kids
def okNs : List Nd → Prop
  | [] => True
  | t :: ts => okN t ∧ okNs ts
end
/-- Cells that lie one behind the other. -/
theorem nd_cells_of {w : World} {base : Nat} {a : Addr} {n : Nat} {cs : List Value} (h : w.cells? base a n = some cs) (hn : 0 < n) : a.spot = none ∧ cs.length = n ∧ ∀ j, j < n → w.cell? ⟨a.block, a.off + j, none⟩ = cs[j]? := by
  obtain ⟨_, hl, hc⟩ := World.cells?_some h
  have h0 := hc 0 hn
  rw [List.getElem?_eq_getElem (by omega)] at h0
  have hs : a.spot = none := by simpa [Addr.add] using World.cell?_spot h0
  refine ⟨hs, hl, fun j hj => ?_⟩
  rw [← hc j hj, Addr.add_eq _ _ hs]
theorem Tryd.ndcells29 : Tryd.prog.cellsOf 29 = 5 := by kernel_rfl
theorem Tryd.ndcells26 : Tryd.prog.cellsOf 26 = 1 := by kernel_rfl
theorem Tryd.ndcells9 : Tryd.prog.cellsOf 9 = 1 := by kernel_rfl
theorem Tryd.ndcells3 : Tryd.prog.cellsOf 3 = 1 := by kernel_rfl
theorem Tryd.ndcells27 : Tryd.prog.cellsOf 27 = 1 := by kernel_rfl
theorem Tryd.ndbytes : Tryd.prog.bytesOf 29 = 64 := by kernel_rfl

theorem nd_mem_weightsAll {H : Type} {P : Program} {e : TypeId} : ∀ {ds : List (DataW H)} {d : DataW H} {n : Nat}, d ∈ ds → n ∈ d.weights P e → n ∈ DataW.weightsAll P e ds
  | [], _, _, h, _ => absurd h (by simp)
  | d0 :: ds, d, n, h, hn => by
    unfold DataW.weightsAll
    rcases List.mem_cons.1 h with rfl | h
    · exact List.mem_append_left _ hn
    · exact List.mem_append_right _ (nd_mem_weightsAll h hn)

theorem nd_size_list (tx : ByteArray) : tx.data.toList.length = tx.size := Array.length_toList

theorem nd_blk_lt {w : World} {b o : Nat} {v : Value} (h : w.cell? ⟨b, o, none⟩ = some v) : b < w.heap.size := World.block_lt_of_cell? w _ h

theorem okNs_append : ∀ {ts us : List Nd}, okNs ts → okNs us → okNs (ts ++ us)
  | [], _, _, h => h
  | t :: ts, us, h, k => by unfold okNs at h; rw [List.cons_append]; unfold okNs; exact ⟨h.1, okNs_append h.2 k⟩
theorem okNs_mem : ∀ {ts : List Nd}, okNs ts → ∀ t ∈ ts, okN t
  | [], _, _, h => by cases h
  | a :: ts, h, t, hm => by
    unfold okNs at h
    rcases List.mem_cons.1 hm with rfl | hm
    · exact h.1
    · exact okNs_mem h.2 t hm
/-- Rows of five. -/
theorem nd_rows_of {w : World} {B : Nat → Prop} {b o : Nat} : ∀ (m : Nat), (∀ i, i < m → ∃ (cs : List Value) (t : Nd), (∀ j, j < 5 → w.cell? ⟨b, o + i * 5 + j, none⟩ = cs[j]?) ∧ NodeIn w B false cs t ∧ okN t) →
    ∃ (css : List (List Value)) (ts : List Nd), css.length = m ∧ NodesIn w B false css ts ∧ okNs ts ∧ ∀ k, k < m * 5 → w.cell? ⟨b, o + k, none⟩ = css.flatten[k]?
  | 0, _ => ⟨[], [], rfl, by unfold NodesIn; trivial, by unfold okNs; trivial, fun k hk => absurd hk (by omega)⟩
  | m + 1, h => by
    obtain ⟨css, ts, hl, ht, hf, hc⟩ := nd_rows_of m (fun i hi => h i (by omega))
    obtain ⟨cs, t, hcs, htt, hft⟩ := h m (by omega)
    have h7 := htt.len
    have hfl : css.flatten.length = m * 5 := by rw [flat_len ht.lens.2, hl]
    refine ⟨css ++ [cs], ts ++ [t], by simp [hl], NodesIn.append ht (NodesIn.one htt), okNs_append hf (by unfold okNs; exact ⟨hft, by unfold okNs; trivial⟩), fun k hk => ?_⟩
    rw [List.flatten_append]
    by_cases hkm : k < m * 5
    · rw [List.getElem?_append_left (by omega)]; exact hc k hkm
    · rw [List.getElem?_append_right (by omega), hfl]
      have := hcs (k - m * 5) (by omega)
      rw [show o + m * 5 + (k - m * 5) = o + k by omega] at this
      rw [this]; simp

section
variable {H : Type} {enc : TypeId × Value → H} {w : World} {base : Nat} {spare : Nat → Bool} {held : Bool}

theorem nd_slice_shape {fuel : Nat} {t e : TypeId} (ht : Tryd.prog.underlying t = some (.slice e)) {v : Value} {x : DataW H × List MemPlace} (h : DataW.trod enc Tryd.prog w base spare held fuel t [v] = some x) : ∃ A n c, v = .slice A n c := by
  rcases DataW.trod_slice ht h with ⟨e, _⟩ | ⟨a, len, cap, _, _, _, _, e, _⟩
  · exact ⟨none, 0, 0, by simpa using e⟩
  · exact ⟨some a, len, cap, by simpa using e⟩

theorem nd_int_ones {fuel : Nat} {k : IntKind} {t : TypeId} (ht : Tryd.prog.underlying t = some (.int k)) {v : Value} {x : DataW H × List MemPlace} (h : DataW.trod enc Tryd.prog w base spare held fuel t [v] = some x) : ∃ n, v = .int k n ∧ (Lit.int k n).wf = true := by
  obtain ⟨n, e, _, hw⟩ := DataW.trod_int ht h
  exact ⟨n, by simpa using e, hw⟩

theorem nd_field_of {n : Nat} {fs : Array Field} {cs : List Value} {xs : List (DataW H × List MemPlace)} (hf : ∀ (i : Nat) (f : Field), fs[i]? = some f → DataW.trod enc Tryd.prog w base spare held n f.type ((cs.drop f.offset).take (Tryd.prog.cellsOf f.type)) = xs[i]?) (i : Nat) (f : Field) (h : fs[i]? = some f) (t : TypeId) (o : Nat) (ht : f.type = t) (ho : f.offset = o) (h1 : Tryd.prog.cellsOf t = 1) {v : Value} {x : DataW H × List MemPlace} (hv : cs[o]? = some v) (hx : xs[i]? = some x) : DataW.trod enc Tryd.prog w base spare held n t [v] = some x := by
  have h2 := hf i f h
  rw [ht, ho, h1, hx] at h2
  obtain ⟨hlt, e⟩ := List.getElem?_eq_some_iff.1 hv
  rw [List.drop_eq_getElem_cons hlt, e] at h2
  exact h2

def NdOpenSaid (enc : TypeId × Value → H) (w : World) (base : Nat) (spare : Nat → Bool) (held : Bool) (fuel : Nat) : Prop := ∀ (cs : List Value) (x : DataW H × List MemPlace), DataW.trod enc Tryd.prog w base spare held fuel 29 cs = some x → (∀ m ∈ x.1.weights Tryd.prog 29, m ≤ reachBytes) →
  ∃ t, NodeIn w (fun k => k < w.heap.size) false cs t ∧ okN t

set_option maxRecDepth 100000 in
theorem nd_open_nodes_of {fuel : Nat} (IH : ∀ f, f < fuel → NdOpenSaid enc w base spare held f) {A : Option Addr} {n c : Nat} {x : DataW H × List MemPlace} (h : DataW.trod enc Tryd.prog w base spare held fuel 27 [.slice A n c] = some x) (hw : ∀ m ∈ x.1.weights Tryd.prog 27, m ≤ reachBytes) :
    ∃ (css : List (List Value)) (ts : List Nd), Reads w (fun k => k < w.heap.size) false 5 A n css.flatten ∧ NodesIn w (fun k => k < w.heap.size) false css ts ∧ okNs ts ∧ (Roomy n 64 ∧ n ≤ c) := by
  rcases DataW.trod_slice Tryd.underlying27 h with ⟨e, _⟩ | ⟨a, len, cap, elems, rest, k, hfu, e, hx, _, hl, hcap, hlen, hi, _, _⟩
  · simp only [List.cons.injEq, Value.slice.injEq, and_true] at e
    obtain ⟨rfl, rfl, rfl⟩ := e
    exact ⟨[], [], Reads.zero _ _ _ _ _, by unfold NodesIn; trivial, by unfold okNs; trivial, by unfold Roomy; omega, Nat.le_refl _⟩
  · simp only [List.cons.injEq, Value.slice.injEq, and_true] at e
    obtain ⟨rfl, rfl, rfl⟩ := e
    have hroom : Roomy n 64 ∧ n ≤ c := by
      refine ⟨?_, by omega⟩
      have := hw ((elems.length + rest.length) * 64) (by rw [hx]; simp [DataW.weights, Tryd.underlying27, Tryd.ndbytes])
      unfold Roomy; unfold reachBytes at this; omega
    have hsub : ∀ d ∈ elems.map (·.1), ∀ m ∈ d.weights Tryd.prog 29, m ≤ reachBytes := by
      intro d hd m hm
      refine hw m ?_
      rw [hx]
      simp only [DataW.weights, Tryd.underlying27]
      exact List.mem_cons_of_mem _ (List.mem_append_left _ (nd_mem_weightsAll hd hm))
    by_cases hn : n = 0
    · subst hn
      exact ⟨[], [], Reads.zero _ _ _ _ _, by unfold NodesIn; trivial, by unfold okNs; trivial, hroom⟩
    · have h0 := hi 0 (by omega)
      rw [List.getElem?_eq_getElem (by omega)] at h0
      obtain ⟨cs0, hc0, _⟩ := Option.bind_eq_some_iff.1 h0
      rw [Tryd.ndcells29] at hc0
      have hsp : a.spot = none := by simpa [Addr.add] using (nd_cells_of hc0 (by omega)).1
      obtain ⟨css, ts, hcl, ht, hf, hc⟩ := nd_rows_of (w := w) (B := fun k => k < w.heap.size) (b := a.block) (o := a.off) n (fun i hin => by
        have h1 := hi i hin
        rw [List.getElem?_eq_getElem (by omega)] at h1
        obtain ⟨cs', hc, ht⟩ := Option.bind_eq_some_iff.1 h1
        obtain ⟨t, h2, h3⟩ := IH k (by omega) cs' _ ht (hsub _ (List.mem_map_of_mem (List.getElem_mem _)))
        rw [Tryd.ndcells29] at hc
        obtain ⟨_, _, hat⟩ := nd_cells_of hc (by omega)
        rw [Addr.add_eq _ _ hsp] at hat
        exact ⟨cs', t, hat, h2, h3⟩)
      have hfl : css.flatten.length = n * 5 := by rw [flat_len ht.lens.2, hcl]
      refine ⟨css, ts, ⟨hfl, fun _ => ?_⟩, ht, hf, hroom⟩
      have hb : a.block < w.heap.size := by
        have h1 := hc 0 (by omega)
        rw [List.getElem?_eq_getElem (by omega)] at h1
        exact nd_blk_lt h1
      exact ⟨a, rfl, hsp, hb, hb, fun j u hu => ⟨by
        have hj : j < n * 5 := by rw [← hfl]; exact (List.getElem?_eq_some_iff.1 hu).1
        rw [hc j hj]; exact hu, fun e => by cases e⟩⟩

set_option maxRecDepth 100000 in
theorem nd_open_node (fuel : Nat) : NdOpenSaid enc w base spare held fuel := by
  induction fuel using Nat.strongRecOn with
  | ind fuel IH =>
  intro cs x h hw
  obtain ⟨xs, n, hfu, hx, h7, hlen, hf⟩ := DataW.trod_struct Tryd.underlying29 h
  have hxl : xs.length = 5 := hlen
  rw [Tryd.ndcells29] at h7
  have hwe : ∀ (j : Nat) (t : TypeId) (d : DataW H), (([26, 9, 3, 3, 27] : List TypeId))[j]? = some t → (xs.map (·.1))[j]? = some d → ∀ m ∈ d.weights Tryd.prog t, m ≤ reachBytes := by
    intro j t d h1 h2 m hm
    refine hw m ?_
    rw [hx]
    simp only [DataW.weights, Tryd.underlying29]
    exact DataW.weights_mem_each h1 h2 m hm
  match cs, h7, xs, hxl, hwe, hf with
  | [v0, v1, v2, v3, v4], _, [x0, x1, x2, x3, x4], _, hwe, hf =>
    have f0 := nd_field_of hf 0 _ rfl 26 0 rfl rfl Tryd.ndcells26 (v := v0) (x := x0) rfl rfl
    have f1 := nd_field_of hf 1 _ rfl 9 1 rfl rfl Tryd.ndcells9 (v := v1) (x := x1) rfl rfl
    have f2 := nd_field_of hf 2 _ rfl 3 2 rfl rfl Tryd.ndcells3 (v := v2) (x := x2) rfl rfl
    have f3 := nd_field_of hf 3 _ rfl 3 3 rfl rfl Tryd.ndcells3 (v := v3) (x := x3) rfl rfl
    have f4 := nd_field_of hf 4 _ rfl 27 4 rfl rfl Tryd.ndcells27 (v := v4) (x := x4) rfl rfl
    obtain ⟨kd, rfl, hkd⟩ := nd_int_ones Tryd.underlying26 f0
    obtain ⟨tx, es, hxs, _⟩ := DataW.trod_string Tryd.underlying9 f1
    obtain rfl : v1 = .string tx := by simpa using es
    obtain ⟨nm, rfl, hnm⟩ := nd_int_ones Tryd.underlying3 f2
    obtain ⟨pl, rfl, hpl⟩ := nd_int_ones Tryd.underlying3 f3
    obtain ⟨ka, kn, kc, rfl⟩ := nd_slice_shape Tryd.underlying27 f4
    obtain ⟨css, kids, hi1, hi2, hi3, hi4⟩ := nd_open_nodes_of (fun f hf => IH f (by omega)) f4 (hwe 4 27 _ rfl rfl)
    have htx : tx.size ≤ 140737488355328 := by
      have := hwe 1 9 _ rfl rfl tx.data.toList.length (by rw [hxs]; simp [DataW.weights])
      rw [nd_size_list] at this
      unfold reachBytes at this; omega
    exact ⟨.mk kd tx nm pl kids, by unfold NodeIn; exact ⟨ka, kn, kc, css, rfl, hi4, hi1, hi2⟩, by
      simp only [Lit.wf, Bool.and_eq_true, decide_eq_true_eq] at hkd hnm hpl
      unfold okN; exact ⟨hkd, htx, hnm, hpl, hi3⟩⟩
end
end Go.Proofs.YtincajfanhanjaaDoor
