/- What an argument of terms holds, cell by cell. The order of terms as a plain function, and what is true of it. Plain law on trees. -/
import Derived.Test.YtjdbjjjbgibpaaaGreatDoorTermLawJn
import Derived.ProofKit
import Derived.OpenShut
import Derived.Deep.Slices
import Derived.SizedLaws
import Derived.Test.YtjdbjjjbgibpaaaGreatDoorCompareJn
namespace Go.Proofs.YtjdbjjjbgibpaaaGreatDoor
open Go.ChangeShapes Go.WideShapes Go.ChangeAt Go.RowKit Go.Deep

mutual
/-- What every term that comes in holds to. -/
def okT : Tm → Prop
  | .mk k _ limbs text num items tail => (0 ≤ k ∧ k ≤ 255) ∧ (∀ x ∈ limbs, 0 ≤ x ∧ x ≤ 4294967295) ∧ text.size ≤ 140737488355328 ∧ (-9223372036854775808 ≤ num ∧ num ≤ 9223372036854775807) ∧ okTs items ∧ okTs tail
def okTs : List Tm → Prop
  | [] => True
  | t :: ts => okT t ∧ okTs ts
end
/-- Cells that lie one behind the other. -/
theorem tm_cells_of {w : World} {base : Nat} {a : Addr} {n : Nat} {cs : List Value} (h : w.cells? base a n = some cs) (hn : 0 < n) : a.spot = none ∧ cs.length = n ∧ ∀ j, j < n → w.cell? ⟨a.block, a.off + j, none⟩ = cs[j]? := by
  obtain ⟨_, hl, hc⟩ := World.cells?_some h
  have h0 := hc 0 hn
  rw [List.getElem?_eq_getElem (by omega)] at h0
  have hs : a.spot = none := by simpa [Addr.add] using World.cell?_spot h0
  refine ⟨hs, hl, fun j hj => ?_⟩
  rw [← hc j hj, Addr.add_eq _ _ hs]
theorem Tryz.tmcells26 : Tryz.prog.cellsOf 26 = 7 := by kernel_rfl
theorem Tryz.tmcells22 : Tryz.prog.cellsOf 22 = 1 := by kernel_rfl
theorem Tryz.tmcells4 : Tryz.prog.cellsOf 4 = 1 := by kernel_rfl
theorem Tryz.tmcells23 : Tryz.prog.cellsOf 23 = 1 := by kernel_rfl
theorem Tryz.tmcells9 : Tryz.prog.cellsOf 9 = 1 := by kernel_rfl
theorem Tryz.tmcells3 : Tryz.prog.cellsOf 3 = 1 := by kernel_rfl
theorem Tryz.tmcells24 : Tryz.prog.cellsOf 24 = 1 := by kernel_rfl
theorem Tryz.tmcells86 : Tryz.prog.cellsOf 86 = 1 := by kernel_rfl
theorem Tryz.tmbytesT : Tryz.prog.bytesOf 26 = 104 := by kernel_rfl
theorem Tryz.tmbytesL : Tryz.prog.bytesOf 86 = 4 := by kernel_rfl

theorem tm_mem_weightsAll {H : Type} {P : Program} {e : TypeId} : ∀ {ds : List (DataW H)} {d : DataW H} {n : Nat}, d ∈ ds → n ∈ d.weights P e → n ∈ DataW.weightsAll P e ds
  | [], _, _, h, _ => absurd h (by simp)
  | d0 :: ds, d, n, h, hn => by
    unfold DataW.weightsAll
    rcases List.mem_cons.1 h with rfl | h
    · exact List.mem_append_left _ hn
    · exact List.mem_append_right _ (tm_mem_weightsAll h hn)

theorem tm_size_list (tx : ByteArray) : tx.data.toList.length = tx.size := Array.length_toList

theorem tm_blk_lt {w : World} {b o : Nat} {v : Value} (h : w.cell? ⟨b, o, none⟩ = some v) : b < w.heap.size := World.block_lt_of_cell? w _ h

/-- Rows of seven. -/
theorem tm_rows_of {w : World} {B : Nat → Prop} {b o : Nat} : ∀ (m : Nat), (∀ i, i < m → ∃ (cs : List Value) (t : Tm), (∀ j, j < 7 → w.cell? ⟨b, o + i * 7 + j, none⟩ = cs[j]?) ∧ TermIn w B false cs t ∧ okT t) →
    ∃ (css : List (List Value)) (ts : List Tm), css.length = m ∧ TermsIn w B false css ts ∧ okTs ts ∧ ∀ k, k < m * 7 → w.cell? ⟨b, o + k, none⟩ = css.flatten[k]?
  | 0, _ => ⟨[], [], rfl, by unfold TermsIn; trivial, by unfold okTs; trivial, fun k hk => absurd hk (by omega)⟩
  | m + 1, h => by
    obtain ⟨css, ts, hl, ht, hf, hc⟩ := tm_rows_of m (fun i hi => h i (by omega))
    obtain ⟨cs, t, hcs, htt, hft⟩ := h m (by omega)
    have h7 := htt.len
    have hfl : css.flatten.length = m * 7 := by rw [flat_len ht.lens.2, hl]
    refine ⟨css ++ [cs], ts ++ [t], by simp [hl], TermsIn.append ht (TermsIn.one htt), ?_, fun k hk => ?_⟩
    · clear hc hcs hl ht
      induction ts with
      | nil => unfold okTs; exact ⟨hft, by unfold okTs; trivial⟩
      | cons a ts ih => unfold okTs at hf; exact ⟨hf.1, ih hf.2⟩
    · rw [List.flatten_append]
      by_cases hkm : k < m * 7
      · rw [List.getElem?_append_left (by omega)]; exact hc k hkm
      · rw [List.getElem?_append_right (by omega), hfl]
        have := hcs (k - m * 7) (by omega)
        rw [show o + m * 7 + (k - m * 7) = o + k by omega] at this
        rw [this]; simp

section
variable {H : Type} {enc : TypeId × Value → H} {w : World} {base : Nat} {spare : Nat → Bool} {held : Bool}

theorem tm_slice_shape {fuel : Nat} {t e : TypeId} (ht : Tryz.prog.underlying t = some (.slice e)) {v : Value} {x : DataW H × List MemPlace} (h : DataW.trod enc Tryz.prog w base spare held fuel t [v] = some x) : ∃ A n c, v = .slice A n c := by
  rcases DataW.trod_slice ht h with ⟨e, _⟩ | ⟨a, len, cap, _, _, _, _, e, _⟩
  · exact ⟨none, 0, 0, by simpa using e⟩
  · exact ⟨some a, len, cap, by simpa using e⟩

theorem tm_int_ones {fuel : Nat} {k : IntKind} {t : TypeId} (ht : Tryz.prog.underlying t = some (.int k)) {v : Value} {x : DataW H × List MemPlace} (h : DataW.trod enc Tryz.prog w base spare held fuel t [v] = some x) : ∃ n, v = .int k n ∧ (Lit.int k n).wf = true := by
  obtain ⟨n, e, _, hw⟩ := DataW.trod_int ht h
  exact ⟨n, by simpa using e, hw⟩

set_option maxRecDepth 100000 in
theorem tm_open_limbs {fuel : Nat} {A : Option Addr} {n c : Nat} {x : DataW H × List MemPlace} (h : DataW.trod enc Tryz.prog w base spare held fuel 23 [.slice A n c] = some x) (hw : ∀ m ∈ x.1.weights Tryz.prog 23, m ≤ reachBytes) :
    ∃ limbs : List Int, Reads w (fun k => k < w.heap.size) false 1 A n (limbs.map (Value.int .u32)) ∧ (∀ x ∈ limbs, 0 ≤ x ∧ x ≤ 4294967295) ∧ Roomy n 4 ∧ n ≤ c ∧ c ≤ maxLen := by
  rcases DataW.trod_slice Tryz.underlying23 h with ⟨e, _⟩ | ⟨a, len, cap, elems, rest, k, _, e, hx, _, hl, hcap, hlen, hi, _, _⟩
  · simp only [List.cons.injEq, Value.slice.injEq, and_true] at e
    obtain ⟨rfl, rfl, rfl⟩ := e
    exact ⟨[], Reads.zero _ _ _ _ _, (fun _ h => by cases h), by unfold Roomy; omega, Nat.le_refl _, Nat.zero_le _⟩
  · simp only [List.cons.injEq, Value.slice.injEq, and_true] at e
    obtain ⟨rfl, rfl, rfl⟩ := e
    have hroom : Roomy n 4 := by
      have := hw ((elems.length + rest.length) * 4) (by rw [hx]; simp [DataW.weights, Tryz.underlying23, Tryz.tmbytesL])
      unfold Roomy; unfold reachBytes at this; omega
    have hat : ∀ i, i < n → ∃ z, a.spot = none ∧ w.cell? ⟨a.block, a.off + i, none⟩ = some (.int .u32 z) ∧ 0 ≤ z ∧ z ≤ 4294967295 := by
      intro i hin
      have h1 := hi i hin
      rw [List.getElem?_eq_getElem (by omega)] at h1
      obtain ⟨cs', hc, ht⟩ := Option.bind_eq_some_iff.1 h1
      have h0 := hi 0 (by omega)
      rw [List.getElem?_eq_getElem (by omega)] at h0
      obtain ⟨cs0, hc0, _⟩ := Option.bind_eq_some_iff.1 h0
      rw [Tryz.tmcells86] at hc hc0
      have hsp : a.spot = none := by simpa [Addr.add] using (tm_cells_of hc0 (by omega)).1
      obtain ⟨_, h1', hat⟩ := tm_cells_of hc (by omega)
      have hcell := hat 0 (by omega)
      obtain ⟨z, e, _, hwf⟩ := DataW.trod_int Tryz.underlying86 ht
      rw [e, Addr.add_eq _ _ hsp] at hcell
      simp only [Lit.wf, Bool.and_eq_true, decide_eq_true_eq] at hwf
      exact ⟨z, hsp, by simpa using hcell, hwf⟩
    have hl : ∀ m, m ≤ n → ∃ zs : List Int, zs.length = m ∧ (∀ x ∈ zs, 0 ≤ x ∧ x ≤ 4294967295) ∧ ∀ i, i < m → w.cell? ⟨a.block, a.off + i, none⟩ = (zs.map (Value.int .u32))[i]? := by
      intro m
      induction m with
      | zero => intro _; exact ⟨[], rfl, (fun _ h => by cases h), fun i hi => absurd hi (by omega)⟩
      | succ m ih =>
        intro hm
        obtain ⟨zs, hz, hlow, hc⟩ := ih (by omega)
        obtain ⟨z, _, hz2, hz3⟩ := hat m (by omega)
        refine ⟨zs ++ [z], by simp [hz], fun x hx => ?_, fun i hi => ?_⟩
        · rcases List.mem_append.1 hx with hx | hx
          · exact hlow x hx
          · simp at hx; subst hx; exact hz3
        rw [List.map_append]
        by_cases him : i < m
        · rw [List.getElem?_append_left (by simpa [hz] using him)]; exact hc i him
        · obtain rfl : i = m := by omega
          rw [List.getElem?_append_right (by simp [hz]), hz2]; simp [hz]
    obtain ⟨zs, hz, hlow, hc⟩ := hl n (Nat.le_refl _)
    refine ⟨zs, ⟨by simp [hz], fun hn => ?_⟩, hlow, hroom, by assumption, hcap⟩
    obtain ⟨z, hs, hz0, _⟩ := hat 0 hn
    exact ⟨a, rfl, hs, tm_blk_lt hz0, tm_blk_lt hz0, fun j u hu => ⟨by
      have hj : j < n := by
        have := (List.getElem?_eq_some_iff.1 hu).1
        simpa [hz] using this
      rw [hc j hj]; exact hu, fun e => by cases e⟩⟩

theorem tm_field_of {n : Nat} {fs : Array Field} {cs : List Value} {xs : List (DataW H × List MemPlace)} (hf : ∀ (i : Nat) (f : Field), fs[i]? = some f → DataW.trod enc Tryz.prog w base spare held n f.type ((cs.drop f.offset).take (Tryz.prog.cellsOf f.type)) = xs[i]?) (i : Nat) (f : Field) (h : fs[i]? = some f) (t : TypeId) (o : Nat) (ht : f.type = t) (ho : f.offset = o) (h1 : Tryz.prog.cellsOf t = 1) {v : Value} {x : DataW H × List MemPlace} (hv : cs[o]? = some v) (hx : xs[i]? = some x) : DataW.trod enc Tryz.prog w base spare held n t [v] = some x := by
  have h2 := hf i f h
  rw [ht, ho, h1, hx] at h2
  obtain ⟨hlt, e⟩ := List.getElem?_eq_some_iff.1 hv
  rw [List.drop_eq_getElem_cons hlt, e] at h2
  exact h2

def TmOpenSaid (enc : TypeId × Value → H) (w : World) (base : Nat) (spare : Nat → Bool) (held : Bool) (fuel : Nat) : Prop := ∀ (cs : List Value) (x : DataW H × List MemPlace), DataW.trod enc Tryz.prog w base spare held fuel 26 cs = some x → (∀ m ∈ x.1.weights Tryz.prog 26, m ≤ reachBytes) →
  ∃ t, TermIn w (fun k => k < w.heap.size) false cs t ∧ okT t

set_option maxRecDepth 100000 in
theorem tm_open_terms_of {fuel : Nat} (IH : ∀ f, f < fuel → TmOpenSaid enc w base spare held f) {A : Option Addr} {n c : Nat} {x : DataW H × List MemPlace} (h : DataW.trod enc Tryz.prog w base spare held fuel 24 [.slice A n c] = some x) (hw : ∀ m ∈ x.1.weights Tryz.prog 24, m ≤ reachBytes) :
    ∃ (css : List (List Value)) (ts : List Tm), Reads w (fun k => k < w.heap.size) false 7 A n css.flatten ∧ TermsIn w (fun k => k < w.heap.size) false css ts ∧ okTs ts ∧ RoomC n c 104 := by
  rcases DataW.trod_slice Tryz.underlying24 h with ⟨e, _⟩ | ⟨a, len, cap, elems, rest, k, hfu, e, hx, _, hl, hcap, hlen, hi, _, _⟩
  · simp only [List.cons.injEq, Value.slice.injEq, and_true] at e
    obtain ⟨rfl, rfl, rfl⟩ := e
    exact ⟨[], [], Reads.zero _ _ _ _ _, by unfold TermsIn; trivial, by unfold okTs; trivial, RoomC.zero _⟩
  · simp only [List.cons.injEq, Value.slice.injEq, and_true] at e
    obtain ⟨rfl, rfl, rfl⟩ := e
    have hroom : RoomC n c 104 := by
      refine ⟨?_, by assumption, hcap⟩
      clear hcap
      have := hw ((elems.length + rest.length) * 104) (by rw [hx]; simp [DataW.weights, Tryz.underlying24, Tryz.tmbytesT])
      unfold Roomy; unfold reachBytes at this; omega
    have hsub : ∀ d ∈ elems.map (·.1), ∀ m ∈ d.weights Tryz.prog 26, m ≤ reachBytes := by
      intro d hd m hm
      refine hw m ?_
      rw [hx]
      simp only [DataW.weights, Tryz.underlying24]
      exact List.mem_cons_of_mem _ (List.mem_append_left _ (tm_mem_weightsAll hd hm))
    by_cases hn : n = 0
    · subst hn
      exact ⟨[], [], Reads.zero _ _ _ _ _, by unfold TermsIn; trivial, by unfold okTs; trivial, hroom⟩
    · have h0 := hi 0 (by omega)
      rw [List.getElem?_eq_getElem (by omega)] at h0
      obtain ⟨cs0, hc0, _⟩ := Option.bind_eq_some_iff.1 h0
      rw [Tryz.tmcells26] at hc0
      have hsp : a.spot = none := by simpa [Addr.add] using (tm_cells_of hc0 (by omega)).1
      obtain ⟨css, ts, hcl, ht, hf, hc⟩ := tm_rows_of (w := w) (B := fun k => k < w.heap.size) (b := a.block) (o := a.off) n (fun i hin => by
        have h1 := hi i hin
        rw [List.getElem?_eq_getElem (by omega)] at h1
        obtain ⟨cs', hc, ht⟩ := Option.bind_eq_some_iff.1 h1
        obtain ⟨t, h2, h3⟩ := IH k (by omega) cs' _ ht (hsub _ (List.mem_map_of_mem (List.getElem_mem _)))
        rw [Tryz.tmcells26] at hc
        obtain ⟨_, _, hat⟩ := tm_cells_of hc (by omega)
        rw [Addr.add_eq _ _ hsp] at hat
        exact ⟨cs', t, hat, h2, h3⟩)
      have hfl : css.flatten.length = n * 7 := by rw [flat_len ht.lens.2, hcl]
      refine ⟨css, ts, ⟨hfl, fun _ => ?_⟩, ht, hf, hroom⟩
      have hb : a.block < w.heap.size := by
        have h1 := hc 0 (by omega)
        rw [List.getElem?_eq_getElem (by omega)] at h1
        exact tm_blk_lt h1
      exact ⟨a, rfl, hsp, hb, hb, fun j u hu => ⟨by
        have hj : j < n * 7 := by rw [← hfl]; exact (List.getElem?_eq_some_iff.1 hu).1
        rw [hc j hj]; exact hu, fun e => by cases e⟩⟩

set_option maxRecDepth 100000 in
theorem tm_open_term (fuel : Nat) : TmOpenSaid enc w base spare held fuel := by
  induction fuel using Nat.strongRecOn with
  | ind fuel IH =>
  intro cs x h hw
  obtain ⟨xs, n, hfu, hx, h7, hlen, hf⟩ := DataW.trod_struct Tryz.underlying26 h
  have hxl : xs.length = 7 := hlen
  rw [Tryz.tmcells26] at h7
  have hwe : ∀ (j : Nat) (t : TypeId) (d : DataW H), (([22, 4, 23, 9, 3, 24, 24] : List TypeId))[j]? = some t → (xs.map (·.1))[j]? = some d → ∀ m ∈ d.weights Tryz.prog t, m ≤ reachBytes := by
    intro j t d h1 h2 m hm
    refine hw m ?_
    rw [hx]
    simp only [DataW.weights, Tryz.underlying26]
    exact DataW.weights_mem_each h1 h2 m hm
  match cs, h7, xs, hxl, hwe, hf with
  | [v0, v1, v2, v3, v4, v5, v6], _, [x0, x1, x2, x3, x4, x5, x6], _, hwe, hf =>
    have f0 := tm_field_of hf 0 _ rfl 22 0 rfl rfl Tryz.tmcells22 (v := v0) (x := x0) rfl rfl
    have f1 := tm_field_of hf 1 _ rfl 4 1 rfl rfl Tryz.tmcells4 (v := v1) (x := x1) rfl rfl
    have f2 := tm_field_of hf 2 _ rfl 23 2 rfl rfl Tryz.tmcells23 (v := v2) (x := x2) rfl rfl
    have f3 := tm_field_of hf 3 _ rfl 9 3 rfl rfl Tryz.tmcells9 (v := v3) (x := x3) rfl rfl
    have f4 := tm_field_of hf 4 _ rfl 3 4 rfl rfl Tryz.tmcells3 (v := v4) (x := x4) rfl rfl
    have f5 := tm_field_of hf 5 _ rfl 24 5 rfl rfl Tryz.tmcells24 (v := v5) (x := x5) rfl rfl
    have f6 := tm_field_of hf 6 _ rfl 24 6 rfl rfl Tryz.tmcells24 (v := v6) (x := x6) rfl rfl
    obtain ⟨kd, rfl, hkd⟩ := tm_int_ones Tryz.underlying22 f0
    obtain ⟨ng, eb, _⟩ := DataW.trod_bool Tryz.underlying4 f1
    obtain rfl : v1 = .bool ng := by simpa using eb
    obtain ⟨la, ln, lc, rfl⟩ := tm_slice_shape Tryz.underlying23 f2
    obtain ⟨tx, es, hxs, _⟩ := DataW.trod_string Tryz.underlying9 f3
    obtain rfl : v3 = .string tx := by simpa using es
    obtain ⟨nm, rfl, hnm⟩ := tm_int_ones Tryz.underlying3 f4
    obtain ⟨ia, im, ic, rfl⟩ := tm_slice_shape Tryz.underlying24 f5
    obtain ⟨ta, tn, tc, rfl⟩ := tm_slice_shape Tryz.underlying24 f6
    obtain ⟨limbs, hl1, hl3, hl2, hl4, hl5⟩ := tm_open_limbs f2 (hwe 2 23 _ rfl rfl)
    obtain ⟨css, items, hi1, hi2, hi3, hi4⟩ := tm_open_terms_of (fun f hf => IH f (by omega)) f5 (hwe 5 24 _ rfl rfl)
    obtain ⟨dss, tail, ht1, ht2, ht3, ht4⟩ := tm_open_terms_of (fun f hf => IH f (by omega)) f6 (hwe 6 24 _ rfl rfl)
    have htx : tx.size ≤ 140737488355328 := by
      have := hwe 3 9 _ rfl rfl tx.data.toList.length (by rw [hxs]; simp [DataW.weights])
      rw [tm_size_list] at this
      unfold reachBytes at this; omega
    exact ⟨.mk kd ng limbs tx nm items tail, by unfold TermIn; exact ⟨la, ln, lc, ia, im, ic, ta, tn, tc, css, dss, rfl, ⟨⟨hl2, hl4, hl5⟩, hi4, ht4⟩, hl1, hi1, hi2, ht1, ht2⟩, by
      simp only [Lit.wf, Bool.and_eq_true, decide_eq_true_eq] at hkd hnm
      unfold okT; exact ⟨hkd, hl3, htx, hnm, hi3, ht3⟩⟩
end
end Go.Proofs.YtjdbjjjbgibpaaaGreatDoor
namespace Go.Proofs.YtjdbjjjbgibpaaaGreatDoor
set_option maxRecDepth 100000

def Tm.neg : Tm → Bool | .mk _ n _ _ _ _ _ => n
def Tm.limbs : Tm → List Int | .mk _ _ l _ _ _ _ => l
def Tm.items : Tm → List Tm | .mk _ _ _ _ _ l _ => l
def Tm.tail : Tm → List Tm | .mk _ _ _ _ _ _ l => l
/-- The number of an integer. -/
def intV (t : Tm) : Int := sgn t.neg (nat (t.limbs.map Int.toNat))
/-- How two texts stand. -/
def cmpB (s t : ByteArray) : Int := if Op.bytesLess s.toList t.toList = true then -1 else if Op.bytesLess t.toList s.toList = true then 1 else 0
/-- The first that is not 0. -/
def firstI (a b : Int) : Int := if a = 0 then b else a
/-- Item by item, as long as both have one. -/
def rowO (f : Tm → Tm → Int) : List Tm → List Tm → Int
  | x :: l, y :: m => if f x y = 0 then rowO f l m else f x y
  | _, _ => 0
/-- term.tail -/
def nilT : Tm := .mk 7 false [] ByteArray.empty 0 [] []
def restT : List Tm → Tm
  | [] => nilT
  | x :: _ => x
/-- term.order -/
def ordO : Nat → Tm → Tm → Int
  | 0, _, _ => 0
  | M + 1, a, b =>
    if a.kind ≠ b.kind then cmpZ a.kind b.kind
    else if a.kind = 1 then cmpZ (intV a) (intV b)
    else if a.kind = 7 then
      if firstI (rowO (ordO M) a.items b.items) (cmpZ a.items.length b.items.length) = 0 ∧ 0 < a.tail.length + b.tail.length then ordO M (restT a.tail) (restT b.tail)
      else firstI (rowO (ordO M) a.items b.items) (cmpZ a.items.length b.items.length)
    else if firstI (cmpB a.text b.text) (firstI (cmpZ a.num b.num) (cmpZ a.items.length b.items.length)) = 0 then rowO (ordO M) a.items b.items
    else firstI (cmpB a.text b.text) (firstI (cmpZ a.num b.num) (cmpZ a.items.length b.items.length))
theorem ordO_seven (M : Nat) (a b : Tm) (hk : a.kind = b.kind) (h7 : a.kind = 7) : ordO (M + 1) a b =
    if firstI (rowO (ordO M) a.items b.items) (cmpZ a.items.length b.items.length) = 0 ∧ 0 < a.tail.length + b.tail.length then ordO M (restT a.tail) (restT b.tail)
      else firstI (rowO (ordO M) a.items b.items) (cmpZ a.items.length b.items.length) := by
  rw [ordO, if_neg (by simp [hk]), if_neg (by rw [h7]; decide), if_pos h7]
theorem ordO_else (M : Nat) (a b : Tm) (hk : a.kind = b.kind) (h1 : a.kind ≠ 1) (h7 : a.kind ≠ 7) : ordO (M + 1) a b =
    if firstI (cmpB a.text b.text) (firstI (cmpZ a.num b.num) (cmpZ a.items.length b.items.length)) = 0 then rowO (ordO M) a.items b.items
    else firstI (cmpB a.text b.text) (firstI (cmpZ a.num b.num) (cmpZ a.items.length b.items.length)) := by
  rw [ordO, if_neg (by simp [hk]), if_neg h1, if_neg h7]
def orderT (a b : Tm) : Int := ordO (a.size + b.size) a b
theorem cmpZ_anti (x y : Int) : cmpZ y x = -cmpZ x y := by
  unfold cmpZ
  rcases Int.lt_trichotomy x y with h | h | h
  · rw [if_neg (by omega), if_pos h, if_pos h]; rfl
  · subst h; simp
  · rw [if_pos h, if_neg (by omega), if_pos h]
theorem cmpZ_self (x : Int) : cmpZ x x = 0 := by unfold cmpZ; simp
theorem cmpZ_zero {x y : Int} (h : cmpZ x y = 0) : x = y := by
  unfold cmpZ at h
  split at h
  · cases h
  · split at h
    · cases h
    · omega
theorem firstI_anti (a b : Int) : firstI (-a) (-b) = -firstI a b := by
  unfold firstI
  by_cases h : a = 0
  · rw [if_pos h, if_pos (by omega)]
  · rw [if_neg h, if_neg (by omega)]
theorem bytes_asym : ∀ (s t : List UInt8), Op.bytesLess s t = true → Op.bytesLess t s = false
  | [], [], h => by simp [Op.bytesLess] at h
  | [], _ :: _, _ => by simp [Op.bytesLess]
  | _ :: _, [], h => by simp [Op.bytesLess] at h
  | a :: s, b :: t, h => by
    simp only [Op.bytesLess, Bool.or_eq_true, Bool.and_eq_true, decide_eq_true_eq, beq_iff_eq] at h
    simp only [Op.bytesLess, Bool.or_eq_false_iff, Bool.and_eq_false_iff, decide_eq_false_iff_not, beq_eq_false_iff_ne]
    rcases h with h | ⟨rfl, h⟩
    · exact ⟨fun h2 => by rw [UInt8.lt_iff_toNat_lt] at h h2; omega, .inl (fun e => by subst e; rw [UInt8.lt_iff_toNat_lt] at h; omega)⟩
    · exact ⟨fun h2 => by rw [UInt8.lt_iff_toNat_lt] at h2; omega, .inr (bytes_asym _ _ h)⟩
theorem cmpB_anti (s t : ByteArray) : cmpB t s = -cmpB s t := by
  unfold cmpB
  by_cases h : Op.bytesLess s.toList t.toList = true
  · have h2 := bytes_asym _ _ h
    simp [h, h2]
  · by_cases h2 : Op.bytesLess t.toList s.toList = true
    · simp [h, h2]
    · simp [h, h2]
theorem rowO_anti {f : Tm → Tm → Int} (hf : ∀ x y, f y x = -f x y) : ∀ (l m : List Tm), rowO f m l = -rowO f l m
  | [], [] => rfl
  | [], _ :: _ => rfl
  | _ :: _, [] => rfl
  | x :: l, y :: m => by
    unfold rowO
    rw [hf x y]
    by_cases h : f x y = 0
    · rw [if_pos (by omega), if_pos h]; exact rowO_anti hf l m
    · rw [if_neg (by omega), if_neg h]
theorem ordO_anti : ∀ (M : Nat) (a b : Tm), ordO M b a = -ordO M a b
  | 0, _, _ => rfl
  | M + 1, a, b => by
    have e1 := rowO_anti (ordO_anti M) a.items b.items
    have e2 := cmpZ_anti (a.items.length : Int) (b.items.length : Int)
    have e3 := cmpZ_anti a.num b.num
    have e4 := cmpB_anti a.text b.text
    unfold ordO
    by_cases hk : a.kind = b.kind
    · rw [if_neg (show ¬ b.kind ≠ a.kind from fun h => h hk.symm), if_neg (show ¬ a.kind ≠ b.kind from fun h => h hk), hk]
      by_cases h1 : b.kind = 1
      · rw [if_pos h1, if_pos h1]; exact cmpZ_anti _ _
      · rw [if_neg h1, if_neg h1]
        by_cases h7 : b.kind = 7
        · rw [if_pos h7, if_pos h7, e1, e2, firstI_anti]
          generalize firstI (rowO (ordO M) a.items b.items) (cmpZ a.items.length b.items.length) = c
          by_cases hc : c = 0 ∧ 0 < a.tail.length + b.tail.length
          · rw [if_pos hc, if_pos (by omega)]; exact ordO_anti M _ _
          · rw [if_neg hc, if_neg (by omega)]
        · rw [if_neg h7, if_neg h7, e1, e2, e3, e4, firstI_anti, firstI_anti]
          generalize firstI (cmpB a.text b.text) (firstI (cmpZ a.num b.num) (cmpZ a.items.length b.items.length)) = c
          by_cases hc : c = 0
          · rw [if_pos hc, if_pos (by omega)]
          · rw [if_neg hc, if_neg (by omega)]
    · rw [if_pos (fun e => hk e.symm), if_pos hk]; exact cmpZ_anti _ _
theorem cmpB_self (s : ByteArray) : cmpB s s = 0 := by
  have h := cmpB_anti s s
  omega
theorem ordO_self (M : Nat) (a : Tm) : ordO M a a = 0 := by
  have h := ordO_anti M a a
  omega
theorem order_self (a : Tm) : orderT a a = 0 := ordO_self _ _
theorem rowO_take (f : Tm → Tm → Int) : ∀ (l m : List Tm) (k : Nat), k = min l.length m.length → rowO f (l.take k) (m.take k) = rowO f l m
  | [], m, k, h => by simp at h; subst h; simp [rowO]
  | _ :: _, [], k, h => by simp at h; subst h; simp [rowO]
  | x :: l, y :: m, k, h => by
    obtain ⟨j, rfl⟩ : ∃ j, k = j + 1 := ⟨k - 1, by simp at h; omega⟩
    simp only [List.take_succ_cons, rowO]
    rw [rowO_take f l m j (by simp at h; omega)]
/-- A term that is right, and fits. -/
def goodT (t : Tm) : Prop := rightT t = true ∧ okT t
theorem addT_all : ∀ (l : List Tm) (n e m : Int), addT n e l = some m → ∀ x ∈ l, rightT x = true
  | [], _, _, _, _, x, hx => by cases hx
  | y :: l, n, e, m, h, x, hx => by
    unfold addT at h
    split at h
    · rename_i hy
      rcases List.mem_cons.1 hx with rfl | hx
      · unfold rightT; exact decide_eq_true hy.1
      · exact addT_all l _ _ _ h x hx
    · cases h
theorem okTs_all : ∀ {l : List Tm}, okTs l → ∀ x ∈ l, okT x
  | [], _, x, hx => by cases hx
  | y :: l, h, x, hx => by
    unfold okTs at h
    rcases List.mem_cons.1 hx with rfl | hx
    · exact h.1
    · exact okTs_all h.2 x hx
theorem good_parts {t : Tm} (h : goodT t) : (∀ x ∈ t.items, goodT x) ∧ ∀ x ∈ t.tail, goodT x := by
  obtain ⟨k, ng, limbs, tx, nm, items, tail⟩ := t
  obtain ⟨hr, ho⟩ := h
  unfold okT at ho
  have hs : 0 < sizeT (.mk k ng limbs tx nm items tail) := of_decide_eq_true hr
  unfold sizeT at hs
  split at hs
  · split at hs
    · rename_i h1
      unfold intT at h1
      simp only [Bool.and_eq_true, decide_eq_true_eq] at h1
      have h2 : items.length + tail.length = 0 := h1.1.1.2
      have e1 : items = [] := List.eq_nil_of_length_eq_zero (by omega)
      have e2 : tail = [] := List.eq_nil_of_length_eq_zero (by omega)
      subst e1 e2
      exact ⟨fun x hx => (by cases hx), fun x hx => (by cases hx)⟩
    · omega
  · split at hs
    · split at hs
      · omega
      · rename_i n hn
        split at hs
        · omega
        · rename_i m hm
          exact ⟨fun x hx => ⟨addT_all _ _ _ _ hn x hx, okTs_all ho.2.2.2.2.1 x hx⟩, fun x hx => ⟨addT_all _ _ _ _ hm x hx, okTs_all ho.2.2.2.2.2 x hx⟩⟩
    · omega
theorem good_nil : goodT nilT := by
  refine ⟨?_, ?_⟩
  · unfold rightT nilT sizeT headT addT
    simp [baseT, addT]
  · unfold okT nilT okTs
    simp
end Go.Proofs.YtjdbjjjbgibpaaaGreatDoor
