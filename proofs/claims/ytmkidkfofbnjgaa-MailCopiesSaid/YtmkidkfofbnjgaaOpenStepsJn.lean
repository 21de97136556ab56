/- Words that each row of the chapter wants. What an argument of terms holds, cell by cell. An argument's steps, read. -/
import Derived.Test.YtmkidkfofbnjgaaRows
import Derived.Test.YtmkidkfofbnjgaaSeqJn
import Derived.ProofKit
import Derived.Deep.Slices
import Derived.Test.YtmkidkfofbnjgaaTermsOf2Jn
import Derived.SizedLaws
import Derived.Test.YtmkidkfofbnjgaaGreatJn
namespace Go.Proofs.Ytmkidkfofbnjgaa
open Go.ChangeShapes Go.WideShapes Go.ChangeAt Go.RowKit

theorem Try.own : ownKnob Try.prog.godebug = none := by kernel_rfl
theorem Try.laidOut : laidOutB Try.prog = true := by kernel_rfl
theorem Try.cells33 : Try.prog.cellsOf 33 = 7 := by kernel_rfl
theorem Try.cells46 : Try.prog.cellsOf 46 = 8 := by kernel_rfl

theorem shut_truth {H : Type} {enc : TypeId × Value → H} {W : World} {base : Nat} {sp : Nat → Bool} {held : Bool} (b : Bool) : DataW.Trod enc Try.prog W base sp held 4 (.bool b) (.lit (.bool b)) [] := ⟨1, by simp [DataW.trod, Value.cells, Try.underlying4]⟩

theorem seven_of {cs : Array Value} (h : cs.size = 7) : ∃ v0 v1 v2 v3 v4 v5 v6, cs = #[v0, v1, v2, v3, v4, v5, v6] := by
  obtain ⟨l⟩ := cs
  simp only [List.size_toArray] at h
  match l, h with
  | [v0, v1, v2, v3, v4, v5, v6], _ => exact ⟨v0, v1, v2, v3, v4, v5, v6, rfl⟩

/-- Cells that lie one behind the other. -/
theorem cells_of {w : World} {base : Nat} {a : Addr} {n : Nat} {cs : List Value} (h : w.cells? base a n = some cs) (hn : 0 < n) : a.spot = none ∧ cs.length = n ∧ ∀ j, j < n → w.cell? ⟨a.block, a.off + j, none⟩ = cs[j]? := by
  obtain ⟨_, hl, hc⟩ := World.cells?_some h
  have h0 := hc 0 hn
  rw [List.getElem?_eq_getElem (by omega)] at h0
  have hs : a.spot = none := by simpa [Addr.add] using World.cell?_spot h0
  refine ⟨hs, hl, fun j hj => ?_⟩
  rw [← hc j hj, Addr.add_eq _ _ hs]
end Go.Proofs.Ytmkidkfofbnjgaa
namespace Go.Proofs.Ytmkidkfofbnjgaa
open Go.ChangeShapes Go.WideShapes Go.ChangeAt Go.RowKit Go.Deep

theorem Try.cells30 : Try.prog.cellsOf 30 = 1 := by kernel_rfl
theorem Try.cells4 : Try.prog.cellsOf 4 = 1 := by kernel_rfl
theorem Try.cells31 : Try.prog.cellsOf 31 = 1 := by kernel_rfl
theorem Try.cells9 : Try.prog.cellsOf 9 = 1 := by kernel_rfl
theorem Try.cells3 : Try.prog.cellsOf 3 = 1 := by kernel_rfl
theorem Try.cells25 : Try.prog.cellsOf 25 = 1 := by kernel_rfl
theorem Try.cells92 : Try.prog.cellsOf 92 = 1 := by kernel_rfl
theorem Try.bytes33 : Try.prog.bytesOf 33 = 104 := by kernel_rfl
theorem Try.bytes92 : Try.prog.bytesOf 92 = 4 := by kernel_rfl

theorem mem_weightsAll {H : Type} {P : Program} {e : TypeId} : ∀ {ds : List (DataW H)} {d : DataW H} {n : Nat}, d ∈ ds → n ∈ d.weights P e → n ∈ DataW.weightsAll P e ds
  | [], _, _, h, _ => absurd h (by simp)
  | d0 :: ds, d, n, h, hn => by
    unfold DataW.weightsAll
    rcases List.mem_cons.1 h with rfl | h
    · exact List.mem_append_left _ hn
    · exact List.mem_append_right _ (mem_weightsAll h hn)

theorem size_list (tx : ByteArray) : tx.data.toList.length = tx.size := Array.length_toList

theorem blk_lt {w : World} {b o : Nat} {v : Value} (h : w.cell? ⟨b, o, none⟩ = some v) : b < w.heap.size := World.block_lt_of_cell? w _ h

/-- Rows of seven. -/
theorem rows_of {w : World} {B : Nat → Prop} {b o : Nat} : ∀ (m : Nat), (∀ i, i < m → ∃ (cs : List Value) (t : Tm), (∀ j, j < 7 → w.cell? ⟨b, o + i * 7 + j, none⟩ = cs[j]?) ∧ TermIn w B false cs t ∧ fitsT t) →
    ∃ (css : List (List Value)) (ts : List Tm), css.length = m ∧ TermsIn w B false css ts ∧ fitsTs ts ∧ ∀ k, k < m * 7 → w.cell? ⟨b, o + k, none⟩ = css.flatten[k]?
  | 0, _ => ⟨[], [], rfl, by unfold TermsIn; trivial, by unfold fitsTs; trivial, fun k hk => absurd hk (by omega)⟩
  | m + 1, h => by
    obtain ⟨css, ts, hl, ht, hf, hc⟩ := rows_of m (fun i hi => h i (by omega))
    obtain ⟨cs, t, hcs, htt, hft⟩ := h m (by omega)
    have h7 := htt.len
    have hfl : css.flatten.length = m * 7 := by rw [flat_len ht.lens.2, hl]
    refine ⟨css ++ [cs], ts ++ [t], by simp [hl], TermsIn.append ht (TermsIn.one htt), ?_, fun k hk => ?_⟩
    · clear hc hcs hl ht
      induction ts with
      | nil => unfold fitsTs; exact ⟨hft, by unfold fitsTs; trivial⟩
      | cons a ts ih => unfold fitsTs at hf; exact ⟨hf.1, ih hf.2⟩
    · rw [List.flatten_append]
      by_cases hkm : k < m * 7
      · rw [List.getElem?_append_left (by omega)]; exact hc k hkm
      · rw [List.getElem?_append_right (by omega), hfl]
        have := hcs (k - m * 7) (by omega)
        rw [show o + m * 7 + (k - m * 7) = o + k by omega] at this
        rw [this]; simp

section
variable {H : Type} {enc : TypeId × Value → H} {w : World} {base : Nat} {spare : Nat → Bool} {held : Bool}

theorem slice_shape {fuel : Nat} {t e : TypeId} (ht : Try.prog.underlying t = some (.slice e)) {v : Value} {x : DataW H × List MemPlace} (h : DataW.trod enc Try.prog w base spare held fuel t [v] = some x) : ∃ A n c, v = .slice A n c := by
  rcases DataW.trod_slice ht h with ⟨e, _⟩ | ⟨a, len, cap, _, _, _, _, e, _⟩
  · exact ⟨none, 0, 0, by simpa using e⟩
  · exact ⟨some a, len, cap, by simpa using e⟩

theorem int_ones {fuel : Nat} {k : IntKind} {t : TypeId} (ht : Try.prog.underlying t = some (.int k)) {v : Value} {x : DataW H × List MemPlace} (h : DataW.trod enc Try.prog w base spare held fuel t [v] = some x) : ∃ n, v = .int k n := by
  obtain ⟨n, e, _⟩ := DataW.trod_int ht h
  exact ⟨n, by simpa using e⟩

set_option maxRecDepth 100000 in
theorem open_limbs {fuel : Nat} {A : Option Addr} {n c : Nat} {x : DataW H × List MemPlace} (h : DataW.trod enc Try.prog w base spare held fuel 31 [.slice A n c] = some x) (hw : ∀ m ∈ x.1.weights Try.prog 31, m ≤ reachBytes) :
    ∃ limbs : List Int, Reads w (fun k => k < w.heap.size) false 1 A n (limbs.map (Value.int .u32)) ∧ Roomy n 4 := by
  rcases DataW.trod_slice Try.underlying31 h with ⟨e, _⟩ | ⟨a, len, cap, elems, rest, k, _, e, hx, _, hl, hcap, hlen, hi, _, _⟩
  · simp only [List.cons.injEq, Value.slice.injEq, and_true] at e
    obtain ⟨rfl, rfl, rfl⟩ := e
    exact ⟨[], Reads.zero _ _ _ _ _, by unfold Roomy; omega⟩
  · simp only [List.cons.injEq, Value.slice.injEq, and_true] at e
    obtain ⟨rfl, rfl, rfl⟩ := e
    clear hcap
    have hroom : Roomy n 4 := by
      have := hw ((elems.length + rest.length) * 4) (by rw [hx]; simp [DataW.weights, Try.underlying31, Try.bytes92])
      unfold Roomy; unfold reachBytes at this; omega
    have hat : ∀ i, i < n → ∃ z, a.spot = none ∧ w.cell? ⟨a.block, a.off + i, none⟩ = some (.int .u32 z) := by
      intro i hin
      have h1 := hi i hin
      rw [List.getElem?_eq_getElem (by omega)] at h1
      obtain ⟨cs', hc, ht⟩ := Option.bind_eq_some_iff.1 h1
      have h0 := hi 0 (by omega)
      rw [List.getElem?_eq_getElem (by omega)] at h0
      obtain ⟨cs0, hc0, _⟩ := Option.bind_eq_some_iff.1 h0
      rw [Try.cells92] at hc hc0
      have hsp : a.spot = none := by simpa [Addr.add] using (cells_of hc0 (by omega)).1
      obtain ⟨_, h1', hat⟩ := cells_of hc (by omega)
      have hcell := hat 0 (by omega)
      obtain ⟨z, e, _⟩ := DataW.trod_int Try.underlying92 ht
      rw [e, Addr.add_eq _ _ hsp] at hcell
      exact ⟨z, hsp, by simpa using hcell⟩
    have hl : ∀ m, m ≤ n → ∃ zs : List Int, zs.length = m ∧ ∀ i, i < m → w.cell? ⟨a.block, a.off + i, none⟩ = (zs.map (Value.int .u32))[i]? := by
      intro m
      induction m with
      | zero => intro _; exact ⟨[], rfl, fun i hi => absurd hi (by omega)⟩
      | succ m ih =>
        intro hm
        obtain ⟨zs, hz, hc⟩ := ih (by omega)
        obtain ⟨z, _, hz2⟩ := hat m (by omega)
        refine ⟨zs ++ [z], by simp [hz], fun i hi => ?_⟩
        rw [List.map_append]
        by_cases him : i < m
        · rw [List.getElem?_append_left (by simpa [hz] using him)]; exact hc i him
        · obtain rfl : i = m := by omega
          rw [List.getElem?_append_right (by simp [hz]), hz2]; simp [hz]
    obtain ⟨zs, hz, hc⟩ := hl n (Nat.le_refl _)
    refine ⟨zs, ⟨by simp [hz], fun hn => ?_⟩, hroom⟩
    obtain ⟨z, hs, hz0⟩ := hat 0 hn
    exact ⟨a, rfl, hs, blk_lt hz0, blk_lt hz0, fun j u hu => ⟨by
      have hj : j < n := by
        have := (List.getElem?_eq_some_iff.1 hu).1
        simpa [hz] using this
      rw [hc j hj]; exact hu, fun e => by cases e⟩⟩

theorem field_of {n : Nat} {fs : Array Field} {cs : List Value} {xs : List (DataW H × List MemPlace)} (hf : ∀ (i : Nat) (f : Field), fs[i]? = some f → DataW.trod enc Try.prog w base spare held n f.type ((cs.drop f.offset).take (Try.prog.cellsOf f.type)) = xs[i]?) (i : Nat) (f : Field) (h : fs[i]? = some f) (t : TypeId) (o : Nat) (ht : f.type = t) (ho : f.offset = o) (h1 : Try.prog.cellsOf t = 1) {v : Value} {x : DataW H × List MemPlace} (hv : cs[o]? = some v) (hx : xs[i]? = some x) : DataW.trod enc Try.prog w base spare held n t [v] = some x := by
  have h2 := hf i f h
  rw [ht, ho, h1, hx] at h2
  obtain ⟨hlt, e⟩ := List.getElem?_eq_some_iff.1 hv
  rw [List.drop_eq_getElem_cons hlt, e] at h2
  exact h2

def OpenSaid (enc : TypeId × Value → H) (w : World) (base : Nat) (spare : Nat → Bool) (held : Bool) (fuel : Nat) : Prop := ∀ (cs : List Value) (x : DataW H × List MemPlace), DataW.trod enc Try.prog w base spare held fuel 33 cs = some x → (∀ m ∈ x.1.weights Try.prog 33, m ≤ reachBytes) →
  ∃ t, TermIn w (fun k => k < w.heap.size) false cs t ∧ fitsT t

set_option maxRecDepth 100000 in
theorem open_terms_of {fuel : Nat} (IH : ∀ f, f < fuel → OpenSaid enc w base spare held f) {A : Option Addr} {n c : Nat} {x : DataW H × List MemPlace} (h : DataW.trod enc Try.prog w base spare held fuel 25 [.slice A n c] = some x) (hw : ∀ m ∈ x.1.weights Try.prog 25, m ≤ reachBytes) :
    ∃ (css : List (List Value)) (ts : List Tm), Reads w (fun k => k < w.heap.size) false 7 A n css.flatten ∧ TermsIn w (fun k => k < w.heap.size) false css ts ∧ fitsTs ts ∧ Roomy n 104 := by
  rcases DataW.trod_slice Try.underlying25 h with ⟨e, _⟩ | ⟨a, len, cap, elems, rest, k, hfu, e, hx, _, hl, hcap, hlen, hi, _, _⟩
  · simp only [List.cons.injEq, Value.slice.injEq, and_true] at e
    obtain ⟨rfl, rfl, rfl⟩ := e
    exact ⟨[], [], Reads.zero _ _ _ _ _, by unfold TermsIn; trivial, by unfold fitsTs; trivial, by unfold Roomy; omega⟩
  · simp only [List.cons.injEq, Value.slice.injEq, and_true] at e
    obtain ⟨rfl, rfl, rfl⟩ := e
    clear hcap
    have hroom : Roomy n 104 := by
      have := hw ((elems.length + rest.length) * 104) (by rw [hx]; simp [DataW.weights, Try.underlying25, Try.bytes33])
      unfold Roomy; unfold reachBytes at this; omega
    have hsub : ∀ d ∈ elems.map (·.1), ∀ m ∈ d.weights Try.prog 33, m ≤ reachBytes := by
      intro d hd m hm
      refine hw m ?_
      rw [hx]
      simp only [DataW.weights, Try.underlying25]
      exact List.mem_cons_of_mem _ (List.mem_append_left _ (mem_weightsAll hd hm))
    by_cases hn : n = 0
    · subst hn
      exact ⟨[], [], Reads.zero _ _ _ _ _, by unfold TermsIn; trivial, by unfold fitsTs; trivial, hroom⟩
    · have h0 := hi 0 (by omega)
      rw [List.getElem?_eq_getElem (by omega)] at h0
      obtain ⟨cs0, hc0, _⟩ := Option.bind_eq_some_iff.1 h0
      rw [Try.cells33] at hc0
      have hsp : a.spot = none := by simpa [Addr.add] using (cells_of hc0 (by omega)).1
      obtain ⟨css, ts, hcl, ht, hf, hc⟩ := rows_of (w := w) (B := fun k => k < w.heap.size) (b := a.block) (o := a.off) n (fun i hin => by
        have h1 := hi i hin
        rw [List.getElem?_eq_getElem (by omega)] at h1
        obtain ⟨cs', hc, ht⟩ := Option.bind_eq_some_iff.1 h1
        obtain ⟨t, h2, h3⟩ := IH k (by omega) cs' _ ht (hsub _ (List.mem_map_of_mem (List.getElem_mem _)))
        rw [Try.cells33] at hc
        obtain ⟨_, _, hat⟩ := cells_of hc (by omega)
        rw [Addr.add_eq _ _ hsp] at hat
        exact ⟨cs', t, hat, h2, h3⟩)
      have hfl : css.flatten.length = n * 7 := by rw [flat_len ht.lens.2, hcl]
      refine ⟨css, ts, ⟨hfl, fun _ => ?_⟩, ht, hf, hroom⟩
      have hb : a.block < w.heap.size := by
        have h1 := hc 0 (by omega)
        rw [List.getElem?_eq_getElem (by omega)] at h1
        exact blk_lt h1
      exact ⟨a, rfl, hsp, hb, hb, fun j u hu => ⟨by
        have hj : j < n * 7 := by rw [← hfl]; exact (List.getElem?_eq_some_iff.1 hu).1
        rw [hc j hj]; exact hu, fun e => by cases e⟩⟩

set_option maxRecDepth 100000 in
theorem open_term (fuel : Nat) : OpenSaid enc w base spare held fuel := by
  induction fuel using Nat.strongRecOn with
  | ind fuel IH =>
  intro cs x h hw
  obtain ⟨xs, n, hfu, hx, h7, hlen, hf⟩ := DataW.trod_struct Try.underlying33 h
  have hxl : xs.length = 7 := hlen
  rw [Try.cells33] at h7
  have hwe : ∀ (j : Nat) (t : TypeId) (d : DataW H), (([30, 4, 31, 9, 3, 25, 25] : List TypeId))[j]? = some t → (xs.map (·.1))[j]? = some d → ∀ m ∈ d.weights Try.prog t, m ≤ reachBytes := by
    intro j t d h1 h2 m hm
    refine hw m ?_
    rw [hx]
    simp only [DataW.weights, Try.underlying33]
    exact DataW.weights_mem_each h1 h2 m hm
  match cs, h7, xs, hxl, hwe, hf with
  | [v0, v1, v2, v3, v4, v5, v6], _, [x0, x1, x2, x3, x4, x5, x6], _, hwe, hf =>
    have f0 := field_of hf 0 _ rfl 30 0 rfl rfl Try.cells30 (v := v0) (x := x0) rfl rfl
    have f1 := field_of hf 1 _ rfl 4 1 rfl rfl Try.cells4 (v := v1) (x := x1) rfl rfl
    have f2 := field_of hf 2 _ rfl 31 2 rfl rfl Try.cells31 (v := v2) (x := x2) rfl rfl
    have f3 := field_of hf 3 _ rfl 9 3 rfl rfl Try.cells9 (v := v3) (x := x3) rfl rfl
    have f4 := field_of hf 4 _ rfl 3 4 rfl rfl Try.cells3 (v := v4) (x := x4) rfl rfl
    have f5 := field_of hf 5 _ rfl 25 5 rfl rfl Try.cells25 (v := v5) (x := x5) rfl rfl
    have f6 := field_of hf 6 _ rfl 25 6 rfl rfl Try.cells25 (v := v6) (x := x6) rfl rfl
    obtain ⟨kd, rfl⟩ := int_ones Try.underlying30 f0
    obtain ⟨ng, eb, _⟩ := DataW.trod_bool Try.underlying4 f1
    obtain rfl : v1 = .bool ng := by simpa using eb
    obtain ⟨la, ln, lc, rfl⟩ := slice_shape Try.underlying31 f2
    obtain ⟨tx, es, hxs, _⟩ := DataW.trod_string Try.underlying9 f3
    obtain rfl : v3 = .string tx := by simpa using es
    obtain ⟨nm, rfl⟩ := int_ones Try.underlying3 f4
    obtain ⟨ia, im, ic, rfl⟩ := slice_shape Try.underlying25 f5
    obtain ⟨ta, tn, tc, rfl⟩ := slice_shape Try.underlying25 f6
    obtain ⟨limbs, hl1, hl2⟩ := open_limbs f2 (hwe 2 31 _ rfl rfl)
    obtain ⟨css, items, hi1, hi2, hi3, hi4⟩ := open_terms_of (fun f hf => IH f (by omega)) f5 (hwe 5 25 _ rfl rfl)
    obtain ⟨dss, tail, ht1, ht2, ht3, ht4⟩ := open_terms_of (fun f hf => IH f (by omega)) f6 (hwe 6 25 _ rfl rfl)
    have htx : tx.size ≤ 140737488355328 := by
      have := hwe 3 9 _ rfl rfl tx.data.toList.length (by rw [hxs]; simp [DataW.weights])
      rw [size_list] at this
      unfold reachBytes at this; omega
    exact ⟨.mk kd ng limbs tx nm items tail, by unfold TermIn; exact ⟨la, ln, lc, ia, im, ic, ta, tn, tc, css, dss, rfl, ⟨hl2, hi4, ht4⟩, hl1, hi1, hi2, ht1, ht2⟩, by unfold fitsT; exact ⟨htx, hi3, ht3⟩⟩
end
end Go.Proofs.Ytmkidkfofbnjgaa
namespace Go.Proofs.Ytmkidkfofbnjgaa
open Go.ChangeShapes Go.WideShapes Go.ChangeAt Go.RowKit Go.Deep

theorem list_of {α : Type} {P : Nat → α → Prop} : ∀ n, (∀ i, i < n → ∃ x, P i x) → ∃ D : List α, D.length = n ∧ ∀ i x, D[i]? = some x → P i x
  | 0, _ => ⟨[], rfl, fun i x h => by simp at h⟩
  | n + 1, h => by
    obtain ⟨D, h1, h2⟩ := list_of n (fun i hi => h i (by omega))
    obtain ⟨y, hy⟩ := h n (by omega)
    refine ⟨D ++ [y], by simp [h1], fun i x hx => ?_⟩
    by_cases hi : i < n
    · rw [List.getElem?_append_left (by omega)] at hx; exact h2 i x hx
    · rw [List.getElem?_append_right (by omega)] at hx
      have : i - D.length = 0 := by
        have := (List.getElem?_eq_some_iff.1 hx).1
        simp at this; omega
      rw [this] at hx
      simp only [List.getElem?_cons_zero, Option.some.injEq] at hx
      obtain rfl : i = n := by omega
      exact hx ▸ hy

section
variable {H : Type} {enc : TypeId × Value → H} {w : World} {base : Nat} {spare : Nat → Bool} {held : Bool}
set_option maxRecDepth 100000 in
theorem open_step {fuel : Nat} {cs : List Value} {x : DataW H × List MemPlace} (h : DataW.trod enc Try.prog w base spare held fuel 46 cs = some x) (hw : ∀ m ∈ x.1.weights Try.prog 46, m ≤ reachBytes) (h8 : cs.length = 8) :
    ∃ (op : Int) (ds : List Value) (t : Tm), cs = .int .i64 op :: ds ∧ TermIn w (fun k => k < w.heap.size) false ds t ∧ fitsT t := by
  obtain ⟨xs, n, hfu, hx, _, hlen, hf⟩ := DataW.trod_struct Try.underlying46 h
  have hxl : xs.length = 2 := hlen
  have hwe : ∀ (j : Nat) (t : TypeId) (d : DataW H), (([3, 33] : List TypeId))[j]? = some t → (xs.map (·.1))[j]? = some d → ∀ m ∈ d.weights Try.prog t, m ≤ reachBytes := by
    intro j t d h1 h2 m hm
    refine hw m ?_
    rw [hx]
    simp only [DataW.weights, Try.underlying46]
    exact DataW.weights_mem_each h1 h2 m hm
  match cs, h8, xs, hxl, hwe, hf with
  | [v, v0, v1, v2, v3, v4, v5, v6], _, [x0, x1], _, hwe, hf =>
    have f0 := field_of hf 0 _ rfl 3 0 rfl rfl Try.cells3 (v := v) (x := x0) rfl rfl
    obtain ⟨op, rfl⟩ := int_ones Try.underlying3 f0
    have f1 := hf 1 _ rfl
    have f1' : DataW.trod enc Try.prog w base spare held n 33 [v0, v1, v2, v3, v4, v5, v6] = some x1 := f1
    obtain ⟨t, h1, h2⟩ := open_term n _ _ f1' (hwe 1 33 _ rfl rfl)
    exact ⟨op, _, t, rfl, h1, h2⟩

set_option maxRecDepth 100000 in
theorem open_steps {fuel : Nat} {A : Option Addr} {n c : Nat} {x : DataW H × List MemPlace} (h : DataW.trod enc Try.prog w base spare held fuel 42 [.slice A n c] = some x) (hw : ∀ m ∈ x.1.weights Try.prog 42, m ≤ reachBytes) :
    (∃ D, StepsAt w A n D) ∧ n ≤ c := by
  rcases DataW.trod_slice Try.underlying42 h with ⟨e, _⟩ | ⟨a, len, cap, elems, rest, k, hfu, e, hx, _, hl, hcap, hlen, hi, _, _⟩
  · simp only [List.cons.injEq, Value.slice.injEq, and_true] at e
    obtain ⟨rfl, rfl, rfl⟩ := e
    exact ⟨⟨[], rfl, fun i x h => by simp at h⟩, Nat.le_refl _⟩
  · simp only [List.cons.injEq, Value.slice.injEq, and_true] at e
    obtain ⟨rfl, rfl, rfl⟩ := e
    clear hcap
    have hsub : ∀ d ∈ elems.map (·.1), ∀ m ∈ d.weights Try.prog 46, m ≤ reachBytes := by
      intro d hd m hm
      refine hw m ?_
      rw [hx]
      simp only [DataW.weights, Try.underlying42]
      exact List.mem_cons_of_mem _ (List.mem_append_left _ (mem_weightsAll hd hm))
    obtain ⟨D, hD1, hD2⟩ := list_of (P := fun i (x : Int × Tm) => StepAt w (some a) i x.1 x.2) n (fun i hin => by
      have h0 := hi 0 (by omega)
      rw [List.getElem?_eq_getElem (by omega)] at h0
      obtain ⟨cs0, hc0, _⟩ := Option.bind_eq_some_iff.1 h0
      rw [Try.cells46] at hc0
      have hsp : a.spot = none := by simpa [Addr.add] using (cells_of hc0 (by omega)).1
      have h1 := hi i hin
      rw [List.getElem?_eq_getElem (by omega)] at h1
      obtain ⟨cs', hc, ht⟩ := Option.bind_eq_some_iff.1 h1
      rw [Try.cells46] at hc
      obtain ⟨_, h8, hat⟩ := cells_of hc (by omega)
      obtain ⟨op, ds, t, rfl, h2, h3⟩ := open_step ht (hsub _ (List.mem_map_of_mem (List.getElem_mem _))) h8
      obtain ⟨kd, ng, la, ln, lc, tx, nm, ia, im, ic, ta, tn, tc, rfl, _⟩ := h2.cells
      rw [Addr.add_eq _ _ hsp] at hat
      obtain ⟨b, o, sp⟩ := a
      simp only at hsp
      subst hsp
      exact ⟨(op, t), b, o, kd, ng, la, ln, lc, tx, nm, ia, im, ic, ta, tn, tc, rfl, h2, h3, hat 0 (by omega), hat 1 (by omega), hat 2 (by omega), hat 3 (by omega), hat 4 (by omega), hat 5 (by omega), hat 6 (by omega), hat 7 (by omega)⟩)
    exact ⟨⟨D, hD1, hD2⟩, hl⟩
end

end Go.Proofs.Ytmkidkfofbnjgaa
