/- What an argument of cores holds, cell by cell. match as a plain function on trees: what a pattern binds. -/
import Derived.Test.YtjdbjjjbgibpaaaGreatDoorCoBaseJn
import Derived.Test.YtjdbjjjbgibpaaaGreatDoorTmOpenJn
import Derived.Test.YtjdbjjjbgibpaaaGreatDoorBifSJn
namespace Go.Proofs.YtjdbjjjbgibpaaaGreatDoor
open Go.ChangeShapes Go.WideShapes Go.ChangeAt Go.RowKit Go.Deep

mutual
/-- What every core that comes in holds to. -/
def okC : Co → Prop
  | .mk k text num t kids => (0 ≤ k ∧ k ≤ 255) ∧ text.size ≤ 140737488355328 ∧ (-9223372036854775808 ≤ num ∧ num ≤ 9223372036854775807) ∧ okT t ∧ okCs kids
def okCs : List Co → Prop
  | [] => True
  | t :: ts => okC t ∧ okCs ts
end
theorem okCs_append : ∀ {ts us : List Co}, okCs ts → okCs us → okCs (ts ++ us)
  | [], _, _, h => h
  | t :: ts, us, h, k => by unfold okCs at h; rw [List.cons_append]; unfold okCs; exact ⟨h.1, okCs_append h.2 k⟩
theorem okCs_mem : ∀ {ts : List Co}, okCs ts → ∀ t ∈ ts, okC t
  | [], _, _, h => by cases h
  | a :: ts, h, t, hm => by
    unfold okCs at h
    rcases List.mem_cons.1 hm with rfl | hm
    · exact h.1
    · exact okCs_mem h.2 t hm
theorem Tryz.cocells34 : Tryz.prog.cellsOf 34 = 11 := by kernel_rfl
theorem Tryz.cocells31 : Tryz.prog.cellsOf 31 = 1 := by kernel_rfl
theorem Tryz.cocells32 : Tryz.prog.cellsOf 32 = 1 := by kernel_rfl
theorem Tryz.cobytes : Tryz.prog.bytesOf 34 = 160 := by kernel_rfl

/-- Rows of eleven. -/
theorem co_rows_of {w : World} {B : Nat → Prop} {b o : Nat} : ∀ (m : Nat), (∀ i, i < m → ∃ (cs : List Value) (t : Co), (∀ j, j < 11 → w.cell? ⟨b, o + i * 11 + j, none⟩ = cs[j]?) ∧ CoreIn w B false cs t ∧ okC t) →
    ∃ (css : List (List Value)) (ts : List Co), css.length = m ∧ CoresIn w B false css ts ∧ okCs ts ∧ ∀ k, k < m * 11 → w.cell? ⟨b, o + k, none⟩ = css.flatten[k]?
  | 0, _ => ⟨[], [], rfl, by unfold CoresIn; trivial, by unfold okCs; trivial, fun k hk => absurd hk (by omega)⟩
  | m + 1, h => by
    obtain ⟨css, ts, hl, ht, hf, hc⟩ := co_rows_of m (fun i hi => h i (by omega))
    obtain ⟨cs, t, hcs, htt, hft⟩ := h m (by omega)
    have h7 := htt.len
    have hfl : css.flatten.length = m * 11 := by rw [flat_len ht.lens.2, hl]
    refine ⟨css ++ [cs], ts ++ [t], by simp [hl], CoresIn.append ht (CoresIn.one htt), okCs_append hf (by unfold okCs; exact ⟨hft, by unfold okCs; trivial⟩), fun k hk => ?_⟩
    rw [List.flatten_append]
    by_cases hkm : k < m * 11
    · rw [List.getElem?_append_left (by omega)]; exact hc k hkm
    · rw [List.getElem?_append_right (by omega), hfl]
      have := hcs (k - m * 11) (by omega)
      rw [show o + m * 11 + (k - m * 11) = o + k by omega] at this
      rw [this]; simp

section
variable {H : Type} {enc : TypeId × Value → H} {w : World} {base : Nat} {spare : Nat → Bool} {held : Bool}

theorem co_field_of {n : Nat} {fs : Array Field} {cs : List Value} {xs : List (DataW H × List MemPlace)} (hf : ∀ (i : Nat) (f : Field), fs[i]? = some f → DataW.trod enc Tryz.prog w base spare held n f.type ((cs.drop f.offset).take (Tryz.prog.cellsOf f.type)) = xs[i]?) (i : Nat) (f : Field) (h : fs[i]? = some f) (t : TypeId) (o m : Nat) (ht : f.type = t) (ho : f.offset = o) (h1 : Tryz.prog.cellsOf t = m) {x : DataW H × List MemPlace} (hx : xs[i]? = some x) : DataW.trod enc Tryz.prog w base spare held n t ((cs.drop o).take m) = some x := by
  have h2 := hf i f h
  rw [ht, ho, h1, hx] at h2
  exact h2

def CoOpenSaid (enc : TypeId × Value → H) (w : World) (base : Nat) (spare : Nat → Bool) (held : Bool) (fuel : Nat) : Prop := ∀ (cs : List Value) (x : DataW H × List MemPlace), DataW.trod enc Tryz.prog w base spare held fuel 34 cs = some x → (∀ m ∈ x.1.weights Tryz.prog 34, m ≤ reachBytes) →
  ∃ t, CoreIn w (fun k => k < w.heap.size) false cs t ∧ okC t

set_option maxRecDepth 100000 in
theorem co_open_cores_of {fuel : Nat} (IH : ∀ f, f < fuel → CoOpenSaid enc w base spare held f) {A : Option Addr} {n c : Nat} {x : DataW H × List MemPlace} (h : DataW.trod enc Tryz.prog w base spare held fuel 32 [.slice A n c] = some x) (hw : ∀ m ∈ x.1.weights Tryz.prog 32, m ≤ reachBytes) :
    ∃ (css : List (List Value)) (ts : List Co), Reads w (fun k => k < w.heap.size) false 11 A n css.flatten ∧ CoresIn w (fun k => k < w.heap.size) false css ts ∧ okCs ts ∧ Roomy n 160 := by
  rcases DataW.trod_slice Tryz.underlying32 h with ⟨e, _⟩ | ⟨a, len, cap, elems, rest, k, hfu, e, hx, _, hl, hcap, hlen, hi, _, _⟩
  · simp only [List.cons.injEq, Value.slice.injEq, and_true] at e
    obtain ⟨rfl, rfl, rfl⟩ := e
    exact ⟨[], [], Reads.zero _ _ _ _ _, by unfold CoresIn; trivial, by unfold okCs; trivial, by unfold Roomy; omega⟩
  · simp only [List.cons.injEq, Value.slice.injEq, and_true] at e
    obtain ⟨rfl, rfl, rfl⟩ := e
    clear hcap
    have hroom : Roomy n 160 := by
      have := hw ((elems.length + rest.length) * 160) (by rw [hx]; simp [DataW.weights, Tryz.underlying32, Tryz.cobytes])
      unfold Roomy; unfold reachBytes at this; omega
    have hsub : ∀ d ∈ elems.map (·.1), ∀ m ∈ d.weights Tryz.prog 34, m ≤ reachBytes := by
      intro d hd m hm
      refine hw m ?_
      rw [hx]
      simp only [DataW.weights, Tryz.underlying32]
      exact List.mem_cons_of_mem _ (List.mem_append_left _ (tm_mem_weightsAll hd hm))
    by_cases hn : n = 0
    · subst hn
      exact ⟨[], [], Reads.zero _ _ _ _ _, by unfold CoresIn; trivial, by unfold okCs; trivial, hroom⟩
    · have h0 := hi 0 (by omega)
      rw [List.getElem?_eq_getElem (by omega)] at h0
      obtain ⟨cs0, hc0, _⟩ := Option.bind_eq_some_iff.1 h0
      rw [Tryz.cocells34] at hc0
      have hsp : a.spot = none := by simpa [Addr.add] using (tm_cells_of hc0 (by omega)).1
      obtain ⟨css, ts, hcl, ht, hf, hc⟩ := co_rows_of (w := w) (B := fun k => k < w.heap.size) (b := a.block) (o := a.off) n (fun i hin => by
        have h1 := hi i hin
        rw [List.getElem?_eq_getElem (by omega)] at h1
        obtain ⟨cs', hc, ht⟩ := Option.bind_eq_some_iff.1 h1
        obtain ⟨t, h2, h3⟩ := IH k (by omega) cs' _ ht (hsub _ (List.mem_map_of_mem (List.getElem_mem _)))
        rw [Tryz.cocells34] at hc
        obtain ⟨_, _, hat⟩ := tm_cells_of hc (by omega)
        rw [Addr.add_eq _ _ hsp] at hat
        exact ⟨cs', t, hat, h2, h3⟩)
      have hfl : css.flatten.length = n * 11 := by rw [flat_len ht.lens.2, hcl]
      refine ⟨css, ts, ⟨hfl, fun _ => ?_⟩, ht, hf, hroom⟩
      have hb : a.block < w.heap.size := by
        have h1 := hc 0 (by omega)
        rw [List.getElem?_eq_getElem (by omega)] at h1
        exact tm_blk_lt h1
      exact ⟨a, rfl, hsp, hb, hb, fun j u hu => ⟨by
        have hj : j < n * 11 := by rw [← hfl]; exact (List.getElem?_eq_some_iff.1 hu).1
        rw [hc j hj]; exact hu, fun e => by cases e⟩⟩

set_option maxRecDepth 100000 in
theorem co_open_core (fuel : Nat) : CoOpenSaid enc w base spare held fuel := by
  induction fuel using Nat.strongRecOn with
  | ind fuel IH =>
  intro cs x h hw
  obtain ⟨xs, n, hfu, hx, h7, hlen, hf⟩ := DataW.trod_struct Tryz.underlying34 h
  have hxl : xs.length = 5 := hlen
  rw [Tryz.cocells34] at h7
  have hwe : ∀ (j : Nat) (t : TypeId) (d : DataW H), (([31, 9, 3, 26, 32] : List TypeId))[j]? = some t → (xs.map (·.1))[j]? = some d → ∀ m ∈ d.weights Tryz.prog t, m ≤ reachBytes := by
    intro j t d h1 h2 m hm
    refine hw m ?_
    rw [hx]
    simp only [DataW.weights, Tryz.underlying34]
    exact DataW.weights_mem_each h1 h2 m hm
  match cs, h7, xs, hxl, hwe, hf with
  | [v0, v1, v2, v3, v4, v5, v6, v7, v8, v9, v10], _, [x0, x1, x2, x3, x4], _, hwe, hf =>
    have f0 := tm_field_of hf 0 _ rfl 31 0 rfl rfl Tryz.cocells31 (v := v0) (x := x0) rfl rfl
    have f1 := tm_field_of hf 1 _ rfl 9 1 rfl rfl Tryz.tmcells9 (v := v1) (x := x1) rfl rfl
    have f2 := tm_field_of hf 2 _ rfl 3 2 rfl rfl Tryz.tmcells3 (v := v2) (x := x2) rfl rfl
    have f4 := tm_field_of hf 4 _ rfl 32 10 rfl rfl Tryz.cocells32 (v := v10) (x := x4) rfl rfl
    have f3 : DataW.trod enc Tryz.prog w base spare held n 26 [v3, v4, v5, v6, v7, v8, v9] = some x3 := co_field_of hf 3 _ rfl 26 3 7 rfl rfl Tryz.tmcells26 rfl
    obtain ⟨kd, rfl, hkd⟩ := tm_int_ones Tryz.underlying31 f0
    obtain ⟨tx, es, hxs, _⟩ := DataW.trod_string Tryz.underlying9 f1
    obtain rfl : v1 = .string tx := by simpa using es
    obtain ⟨nm, rfl, hnm⟩ := tm_int_ones Tryz.underlying3 f2
    obtain ⟨ka, kn, kc, rfl⟩ := tm_slice_shape Tryz.underlying32 f4
    obtain ⟨t, ht1, ht2⟩ := tm_open_term n _ _ f3 (hwe 3 26 _ rfl rfl)
    obtain ⟨css, kids, hi1, hi2, hi3, hi4⟩ := co_open_cores_of (fun f hf => IH f (by omega)) f4 (hwe 4 32 _ rfl rfl)
    have htx : tx.size ≤ 140737488355328 := by
      have := hwe 1 9 _ rfl rfl tx.data.toList.length (by rw [hxs]; simp [DataW.weights])
      rw [tm_size_list] at this
      unfold reachBytes at this; omega
    exact ⟨.mk kd tx nm t kids, by unfold CoreIn; exact ⟨_, ka, kn, kc, css, rfl, ht1, hi4, hi1, hi2⟩, by
      simp only [Lit.wf, Bool.and_eq_true, decide_eq_true_eq] at hkd hnm
      unfold okC; exact ⟨hkd, htx, hnm, ht2, hi3⟩⟩
end
end Go.Proofs.YtjdbjjjbgibpaaaGreatDoor
namespace Go.Proofs.YtjdbjjjbgibpaaaGreatDoor

def Co.text : Co → ByteArray | .mk _ s _ _ _ => s
/-- Variables: which have a value, and it. -/
structure VSt where
  has : List Bool
  vals : List Tm
/-- term.Split -/
def splitT (t : Tm) : Option (Tm × Tm) :=
  if rightT t = true ∧ t.kind = 7 then
    match t.items with
    | [] => none
    | x :: [] => some (x, restT t.tail)
    | x :: y :: l => some (x, .mk 7 false [] ByteArray.empty 0 (y :: l) t.tail)
  else none
/-- A variable's value, if it has one. -/
def VSt.get (v : VSt) (n : Int) : Option Tm := if 0 ≤ n ∧ n < v.has.length ∧ v.has[n.toNat]? = some true then v.vals[n.toNat]? else none
def VSt.bind (v : VSt) (n : Int) (t : Tm) : VSt := ⟨v.has.set n.toNat true, v.vals.set n.toNat t⟩
mutual
/-- Does a pattern match; what it binds. -/
def matchN : Co → Tm → VSt → Option VSt
  | .mk k _ num term kids, t, v =>
    if k = 20 then some v
    else if k = 21 then (if num < 0 ∨ (v.has.length : Int) ≤ num then none else some (v.bind num t))
    else if k = 22 then (match v.get num with | some u => if sameT u t then some v else none | none => none)
    else if k = 23 then (if sameT term t then some v else none)
    else if k = 24 then (if t.kind = 6 then rowsN kids t.items v else none)
    else if k = 25 then (match splitT t with | some (h, r) => rowsN kids [h, r] v | none => none)
    else if k = 26 then rowsN kids [t, t] v
    else none
def rowsN : List Co → List Tm → VSt → Option VSt
  | [], [], v => some v
  | k :: ks, t :: ts, v => if ks.length = ts.length then (match matchN k t v with | some v' => rowsN ks ts v' | none => none) else none
  | [], _ :: _, _ => none
  | _ :: _, [], _ => none
end
/-- Well made: as many values as truths. -/
def VSt.made (v : VSt) : Prop := v.has.length = v.vals.length
mutual
theorem matchN_len : ∀ (p : Co) (t : Tm) (v v' : VSt), matchN p t v = some v' → v'.has.length = v.has.length ∧ v'.vals.length = v.vals.length
  | .mk k _ num term kids, t, v, v', h => by
    unfold matchN at h
    split at h
    · injection h with h; subst h; exact ⟨rfl, rfl⟩
    · split at h
      · split at h
        · cases h
        · injection h with h; subst h
          exact ⟨by simp [VSt.bind], by simp [VSt.bind]⟩
      · split at h
        · split at h
          · split at h
            · injection h with h; subst h; exact ⟨rfl, rfl⟩
            · cases h
          · cases h
        · split at h
          · split at h
            · injection h with h; subst h; exact ⟨rfl, rfl⟩
            · cases h
          · split at h
            · split at h
              · exact rowsN_len _ _ _ _ h
              · cases h
            · split at h
              · split at h
                · exact rowsN_len _ _ _ _ h
                · cases h
              · split at h
                · exact rowsN_len _ _ _ _ h
                · cases h
theorem rowsN_len : ∀ (ks : List Co) (ts : List Tm) (v v' : VSt), rowsN ks ts v = some v' → v'.has.length = v.has.length ∧ v'.vals.length = v.vals.length
  | [], [], v, v', h => by unfold rowsN at h; injection h with h; subst h; exact ⟨rfl, rfl⟩
  | k :: ks, t :: ts, v, v', h => by
    unfold rowsN at h
    split at h
    · split at h
      · rename_i v1 h1
        have e1 := matchN_len k t v v1 h1
        have e2 := rowsN_len ks ts v1 v' h
        exact ⟨e2.1.trans e1.1, e2.2.trans e1.2⟩
      · cases h
    · cases h
  | [], _ :: _, _, _, h => by unfold rowsN at h; cases h
  | _ :: _, [], _, _, h => by unfold rowsN at h; cases h
end
/-- match.Match -/
def matchF (p : Co) (t : Tm) (v : VSt) : Option VSt := if rightT t = true ∧ v.has.length = v.vals.length then matchN p t v else none
def noV : VSt := ⟨[], []⟩
def newV (n : Nat) : VSt := ⟨List.replicate n false, List.replicate n (.mk 0 false [] ByteArray.empty 0 [] [])⟩
/-- What a Match tells, whether or not it matches. -/
def matchR (p : Co) (t : Tm) (v : VSt) : VSt := (matchF p t v).getD noV
theorem two_rows (p q : Co) (t u : Tm) (v : VSt) : rowsN [p, q] [t, u] v = (matchN p t v).bind (matchN q u) := by
  unfold rowsN
  rw [if_pos (show [q].length = [u].length from rfl)]
  cases h : matchN p t v with
  | none => rfl
  | some v1 =>
    show rowsN [q] [u] v1 = matchN q u v1
    unfold rowsN
    rw [if_pos (show ([] : List Co).length = ([] : List Tm).length from rfl)]
    cases h2 : matchN q u v1 with
    | none => rfl
    | some v2 => show rowsN [] [] v2 = _; unfold rowsN; rfl
end Go.Proofs.YtjdbjjjbgibpaaaGreatDoor
