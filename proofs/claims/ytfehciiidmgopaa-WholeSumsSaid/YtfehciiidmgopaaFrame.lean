/- What an argument that is a term holds; words that each row wants. -/
import Derived.Test.YtfehciiidmgopaaRows
import Derived.Test.YtfehciiidmgopaaLaw
import Derived.ProofKit
import Derived.OpenShut
import Derived.Deep.Slices
import Derived.SizedLaws
namespace Go.Proofs.Ytfehciiidmgopaa
open Go.ChangeShapes Go.WideShapes Go.ChangeAt Go.RowKit Go.Deep

theorem Try.own : ownKnob Try.prog.godebug = none := by kernel_rfl
theorem Try.laidOut : laidOutB Try.prog = true := by kernel_rfl
theorem Try.cells26 : Try.prog.cellsOf 26 = 7 := by kernel_rfl
theorem Try.cells22 : Try.prog.cellsOf 22 = 1 := by kernel_rfl
theorem Try.cells4 : Try.prog.cellsOf 4 = 1 := by kernel_rfl
theorem Try.cells23 : Try.prog.cellsOf 23 = 1 := by kernel_rfl
theorem Try.cells9 : Try.prog.cellsOf 9 = 1 := by kernel_rfl
theorem Try.cells3 : Try.prog.cellsOf 3 = 1 := by kernel_rfl
theorem Try.cells24 : Try.prog.cellsOf 24 = 1 := by kernel_rfl
theorem Try.cells44 : Try.prog.cellsOf 44 = 1 := by kernel_rfl
theorem Try.bytes26 : Try.prog.bytesOf 26 = 104 := by kernel_rfl
theorem Try.bytes44 : Try.prog.bytesOf 44 = 4 := by kernel_rfl
theorem shut_truth {H : Type} {enc : TypeId × Value → H} {W : World} {base : Nat} {sp : Nat → Bool} {held : Bool} (b : Bool) : DataW.Trod enc Try.prog W base sp held 4 (.bool b) (.lit (.bool b)) [] := ⟨1, by simp [DataW.trod, Value.cells, Try.underlying4]⟩
theorem i64_range {a : Int} (h : (Lit.int .i64 a).wf = true) : -9223372036854775808 ≤ a ∧ a ≤ 9223372036854775807 := by
  simp only [Lit.wf, Bool.and_eq_true, decide_eq_true_eq] at h
  exact h
theorem seven_of {cs : Array Value} (h : cs.size = 7) : ∃ v0 v1 v2 v3 v4 v5 v6, cs = #[v0, v1, v2, v3, v4, v5, v6] := by
  obtain ⟨l⟩ := cs
  match l, h with
  | [v0, v1, v2, v3, v4, v5, v6], _ => exact ⟨v0, v1, v2, v3, v4, v5, v6, rfl⟩
/-- Cells that lie one behind the other. -/
theorem cells_of {w : World} {base : Nat} {a : Addr} {n : Nat} {cs : List Value} (h : w.cells? base a n = some cs) (hn : 0 < n) : a.spot = none ∧ cs.length = n ∧ ∀ j, j < n → w.cell? ⟨a.block, a.off + j, none⟩ = cs[j]? := by
  obtain ⟨_, hl, hc⟩ := World.cells?_some h
  have h0 := hc 0 hn
  rw [List.getElem?_eq_getElem (by omega)] at h0
  have hs : a.spot = none := by simpa [Addr.add] using World.cell?_spot h0
  refine ⟨hs, hl, fun j hj => ?_⟩
  rw [← hc j hj, Addr.add_eq _ _ hs]

theorem mem_weightsAll {H : Type} {P : Program} {e : TypeId} : ∀ {ds : List (DataW H)} {d : DataW H} {n : Nat}, d ∈ ds → n ∈ d.weights P e → n ∈ DataW.weightsAll P e ds
  | [], _, _, h, _ => absurd h (by simp)
  | d0 :: ds, d, n, h, hn => by
    unfold DataW.weightsAll
    rcases List.mem_cons.1 h with rfl | h
    · exact List.mem_append_left _ hn
    · exact List.mem_append_right _ (mem_weightsAll h hn)


section
variable {H : Type} {enc : TypeId × Value → H} {w : World} {base : Nat} {spare : Nat → Bool} {held : Bool}

theorem blk_lt {w : World} {b o : Nat} {v : Value} (h : w.cell? ⟨b, o, none⟩ = some v) : b < w.heap.size := World.block_lt_of_cell? w _ h
theorem int_ones {fuel : Nat} {k : IntKind} {t : TypeId} (ht : Try.prog.underlying t = some (.int k)) {v : Value} {x : DataW H × List MemPlace} (h : DataW.trod enc Try.prog w base spare held fuel t [v] = some x) : ∃ n, v = .int k n := by
  obtain ⟨n, e, _⟩ := DataW.trod_int ht h
  exact ⟨n, by simpa using e⟩

set_option maxRecDepth 100000 in
theorem open_limbs {fuel : Nat} {v : Value} {x : DataW H × List MemPlace} (h : DataW.trod enc Try.prog w base spare held fuel 23 [v] = some x) :
    ∃ A n c l, v = .slice A n c ∧ LimbsIn w (fun k => k < w.heap.size) A n c l := by
  rcases DataW.trod_slice Try.underlying23 h with ⟨e, _⟩ | ⟨a, len, cap, elems, rest, k, _, e, hx, _, hl, hcap, hlen, hi, _, _⟩
  · exact ⟨none, 0, 0, [], by simpa using e, LimbsIn.nil _ _ _ _ (Nat.zero_le _)⟩
  · have hat : ∀ i, i < len → ∃ z : Nat, a.spot = none ∧ w.cell? ⟨a.block, a.off + i, none⟩ = some (.int .u32 (z : Int)) ∧ z < B32 := by
      intro i hin
      have h1 := hi i hin
      rw [List.getElem?_eq_getElem (by omega)] at h1
      obtain ⟨cs', hc, ht⟩ := Option.bind_eq_some_iff.1 h1
      have h0 := hi 0 (by omega)
      rw [List.getElem?_eq_getElem (by omega)] at h0
      obtain ⟨cs0, hc0, _⟩ := Option.bind_eq_some_iff.1 h0
      rw [Try.cells44] at hc hc0
      have hsp : a.spot = none := by simpa [Addr.add] using (cells_of hc0 (by omega)).1
      obtain ⟨_, h1', hat⟩ := cells_of hc (by omega)
      have hcell := hat 0 (by omega)
      obtain ⟨z, e, _, hw⟩ := DataW.trod_int Try.underlying44 ht
      rw [e, Addr.add_eq _ _ hsp] at hcell
      simp only [Lit.wf, Bool.and_eq_true, decide_eq_true_eq] at hw
      have hr : 0 ≤ z ∧ z ≤ 4294967295 := hw
      refine ⟨z.toNat, hsp, ?_, by unfold B32; omega⟩
      rw [Int.toNat_of_nonneg hr.1]
      simpa using hcell
    have hl : ∀ m, m ≤ len → ∃ l : List Nat, l.length = m ∧ Low l ∧ ∀ i, i < m → w.cell? ⟨a.block, a.off + i, none⟩ = (u32s l)[i]? := by
      intro m
      induction m with
      | zero => intro _; exact ⟨[], rfl, Low.nil, fun i hi => absurd hi (by omega)⟩
      | succ m ih =>
        intro hm
        obtain ⟨l, hz, hlow, hc⟩ := ih (by omega)
        obtain ⟨z, _, hz2, hz3⟩ := hat m (by omega)
        refine ⟨l ++ [z], by simp [hz], hlow.append (fun x hx => by simp at hx; subst hx; exact hz3), fun i hi => ?_⟩
        rw [u32s_append]
        by_cases him : i < m
        · rw [List.getElem?_append_left (by rw [u32s_len]; omega)]; exact hc i him
        · obtain rfl : i = m := by omega
          rw [List.getElem?_append_right (by rw [u32s_len]; omega), hz2, u32s_len, hz, Nat.sub_self]; rfl
    obtain ⟨l, hz, hlow, hc⟩ := hl len (Nat.le_refl _)
    refine ⟨some a, len, cap, l, by simpa using e, ⟨⟨false, by rw [u32s_len]; omega, fun hn => ?_⟩, hlow, by assumption, hcap⟩⟩
    obtain ⟨z, hs, hz0, _⟩ := hat 0 hn
    exact ⟨a, rfl, hs, blk_lt hz0, blk_lt hz0, fun j u hu => ⟨by
      have hj : j < len := by
        have := (List.getElem?_eq_some_iff.1 hu).1
        rw [u32s_len] at this; omega
      rw [hc j hj]; exact hu, fun e => by cases e⟩⟩

set_option maxRecDepth 100000 in
theorem open_items {fuel : Nat} {v : Value} {x : DataW H × List MemPlace} (h : DataW.trod enc Try.prog w base spare held fuel 24 [v] = some x) (hw : ∀ m ∈ x.1.weights Try.prog 24, m ≤ reachBytes) :
    ∃ A n c, v = .slice A n c ∧ n ≤ 140737488355328 := by
  rcases DataW.trod_slice Try.underlying24 h with ⟨e, _⟩ | ⟨a, len, cap, elems, rest, k, _, e, hx, _, hl, hcap, hlen, _⟩
  · exact ⟨none, 0, 0, by simpa using e, by omega⟩
  · refine ⟨some a, len, cap, by simpa using e, ?_⟩
    have := hw ((elems.length + rest.length) * 104) (by rw [hx]; simp [DataW.weights, Try.underlying24, Try.bytes26])
    unfold reachBytes at this; omega

theorem field_of {n : Nat} {fs : Array Field} {cs : List Value} {xs : List (DataW H × List MemPlace)} (hf : ∀ (i : Nat) (f : Field), fs[i]? = some f → DataW.trod enc Try.prog w base spare held n f.type ((cs.drop f.offset).take (Try.prog.cellsOf f.type)) = xs[i]?) (i : Nat) (f : Field) (h : fs[i]? = some f) (t : TypeId) (o : Nat) (ht : f.type = t) (ho : f.offset = o) (h1 : Try.prog.cellsOf t = 1) {v : Value} {x : DataW H × List MemPlace} (hv : cs[o]? = some v) (hx : xs[i]? = some x) : DataW.trod enc Try.prog w base spare held n t [v] = some x := by
  have h2 := hf i f h
  rw [ht, ho, h1, hx] at h2
  obtain ⟨hlt, e⟩ := List.getElem?_eq_some_iff.1 hv
  rw [List.drop_eq_getElem_cons hlt, e] at h2
  exact h2


/-- A term that came in: its seven cells. -/
def TermAt (w : World) (v0 v1 v2 v3 v4 v5 v6 : Value) : Prop := ∃ (kd : Int) (ng : Bool) (la : Option Addr) (ln lc : Nat) (tx : ByteArray) (nm : Int) (ia : Option Addr) (im ic : Nat) (ta : Option Addr) (tm tc : Nat) (l : List Nat),
  v0 = .int .u8 kd ∧ v1 = .bool ng ∧ v2 = .slice la ln lc ∧ v3 = .string tx ∧ v4 = .int .i64 nm ∧ v5 = .slice ia im ic ∧ v6 = .slice ta tm tc ∧ LimbsIn w (fun k => k < w.heap.size) la ln lc l ∧ im ≤ 140737488355328 ∧ tm ≤ 140737488355328
set_option maxRecDepth 100000 in
theorem open_term {fuel : Nat} {v0 v1 v2 v3 v4 v5 v6 : Value} {x : DataW H × List MemPlace} (h : DataW.trod enc Try.prog w base spare held fuel 26 [v0, v1, v2, v3, v4, v5, v6] = some x) (hw : ∀ m ∈ x.1.weights Try.prog 26, m ≤ reachBytes) : TermAt w v0 v1 v2 v3 v4 v5 v6 := by
  obtain ⟨xs, n, hfu, hx, h7, hlen, hf⟩ := DataW.trod_struct Try.underlying26 h
  have hxl : xs.length = 7 := hlen
  have hwe : ∀ (j : Nat) (t : TypeId) (d : DataW H), (([22, 4, 23, 9, 3, 24, 24] : List TypeId))[j]? = some t → (xs.map (·.1))[j]? = some d → ∀ m ∈ d.weights Try.prog t, m ≤ reachBytes := by
    intro j t d h1 h2 m hm
    refine hw m ?_
    rw [hx]
    simp only [DataW.weights, Try.underlying26]
    exact DataW.weights_mem_each h1 h2 m hm
  match xs, hxl, hwe, hf with
  | [x0, x1, x2, x3, x4, x5, x6], _, hwe, hf =>
    have f0 := field_of hf 0 _ rfl 22 0 rfl rfl Try.cells22 (v := v0) (x := x0) rfl rfl
    have f1 := field_of hf 1 _ rfl 4 1 rfl rfl Try.cells4 (v := v1) (x := x1) rfl rfl
    have f2 := field_of hf 2 _ rfl 23 2 rfl rfl Try.cells23 (v := v2) (x := x2) rfl rfl
    have f3 := field_of hf 3 _ rfl 9 3 rfl rfl Try.cells9 (v := v3) (x := x3) rfl rfl
    have f4 := field_of hf 4 _ rfl 3 4 rfl rfl Try.cells3 (v := v4) (x := x4) rfl rfl
    have f5 := field_of hf 5 _ rfl 24 5 rfl rfl Try.cells24 (v := v5) (x := x5) rfl rfl
    have f6 := field_of hf 6 _ rfl 24 6 rfl rfl Try.cells24 (v := v6) (x := x6) rfl rfl
    obtain ⟨kd, e0⟩ := int_ones Try.underlying22 f0
    obtain ⟨ng, eb, _⟩ := DataW.trod_bool Try.underlying4 f1
    obtain ⟨la, ln, lc, l, e2, hl⟩ := open_limbs f2
    obtain ⟨tx, es, _, _⟩ := DataW.trod_string Try.underlying9 f3
    obtain ⟨nm, e4⟩ := int_ones Try.underlying3 f4
    obtain ⟨ia, im, ic, e5, hi⟩ := open_items f5 (hwe 5 24 _ rfl rfl)
    obtain ⟨ta, tm, tc, e6, ht⟩ := open_items f6 (hwe 6 24 _ rfl rfl)
    exact ⟨kd, ng, la, ln, lc, tx, nm, ia, im, ic, ta, tm, tc, l, e0, by simpa using eb, e2, by simpa using es, e4, e5, e6, hl, hi, ht⟩
end
end Go.Proofs.Ytfehciiidmgopaa
