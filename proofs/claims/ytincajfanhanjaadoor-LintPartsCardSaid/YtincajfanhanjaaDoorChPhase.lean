/- The checker's functions as they are declared; copies of patterns. How lint.Check ends, with its deferred closure; what a right module's functions are. -/
import Derived.Test.YtincajfanhanjaaDoorChExpr3
namespace Go.Proofs.YtincajfanhanjaaDoor
open Go.RowKit Go.Maps

theorem FunsAt.wide {w : World} {cb mf hi hi' n n' : Nat} {R : ByteArray → Option Nat} {F : Fns} (h : FunsAt w cb mf hi n R F) (hh : hi ≤ hi') (hn : n ≤ n') : FunsAt w cb mf hi' n' R F := by
  obtain ⟨⟨D, ho, hD⟩, h2, h3, h4, h5⟩ := h
  refine ⟨⟨D, ho.mono hn, hD⟩, ⟨by omega, h2.2⟩, fun s b hb => ?_, h4, h5⟩
  obtain ⟨a1, a2, a3, D2, a4, a5⟩ := h3 s b hb
  exact ⟨by omega, a2, a3, D2, a4.mono hn, a5⟩
set_option maxRecDepth 100000 in
theorem FunsAt.made (w : World) (cb : Nat) (hcb : cb ≠ w.heap.size) : FunsAt (w.alloc (.map #[] 0)) cb w.heap.size (w.heap.size + 1) 0 (fun _ => none) (fun _ _ => false) :=
  ⟨⟨.map [], World.ownsMap_made w Tryd.prog 9 mapR, fun s z => rfl⟩, ⟨by omega, hcb.symm⟩, fun _ _ h => by (cases h), fun _ _ _ => rfl, fun _ _ _ h => by (cases h)⟩
def putR (R : ByteArray → Option Nat) (s : ByteArray) (b : Nat) : ByteArray → Option Nat := fun t => if t = s then some b else R t
theorem int_ne {p q : Int} (h : p ≠ q) : (Lit.int .i64 p) ≠ .int .i64 q := fun e => h (by injection e)
set_option maxRecDepth 100000 in
theorem FunsAt.new {w : World} {cb mf n : Nat} {R : ByteArray → Option Nat} {F : Fns} (h : FunsAt w cb mf w.heap.size n R F) {s : ByteArray} (hs : s.size ≤ maxLen) (hn : n < maxLen) (hR : R s = none) (hcb : cb < w.heap.size) :
    ∃ w2, (Instr.mapUpdate 50 (.map (some mf)) (.string s) (.map (some w.heap.size))).run Tryd.prog (w.alloc (.map #[] 0)) = .ok () w2 ∧ FunsAt w2 cb mf w2.heap.size (n + 1) (putR R s w.heap.size) F ∧ (w.alloc (.map #[] 0)).grownBy w2 (some mf) := by
  have h0 := h.keep ((Keeps.refl NoB w).alloc (.map #[] 0)) (fun _ h => h.elim)
  obtain ⟨⟨D, ho, hD⟩, h2, h3, h4, h5⟩ := h0
  obtain ⟨w2, hr, ho2, hg⟩ := ho.update keyS Tryd.underlying50 hn (keyOf_s hs) (show mapR (.map (some w.heap.size)) = some (.lit (.int .i64 (w.heap.size : Int)), []) from rfl)
  have hsz : w.heap.size + 1 ≤ w2.heap.size := by have := hg.size; simpa using this
  have hkg : Keeps (fun k => k = mf) (w.alloc (.map #[] 0)) w2 := (Keeps.refl _ _).grown hg (fun k e _ => by injection e with e; exact e.symm)
  refine ⟨w2, hr, ⟨⟨_, ho2, fun t z => ?_⟩, ⟨by omega, h2.2⟩, fun t b hb => ?_, fun t p ht => ?_, fun t u b ht hu => ?_⟩, hg⟩
  · by_cases e : t = s
    · subst e
      rw [atKey_put_same ho.isMap (keyS.key (keyOf_s hs))]
      simp [putR]
    · rw [atKey_put_other (str_ne e), hD]
      simp [putR, e]
  · unfold putR at hb
    by_cases e : t = s
    · subst e
      rw [if_pos rfl] at hb
      injection hb with hb
      subst hb
      refine ⟨by omega, by omega, by omega, ?_⟩
      have hi : InnerAt (w.alloc (.map #[] 0)) w.heap.size (n + 1) (F t) := ⟨.map [], (World.ownsMap_made w Tryd.prog 3 boolR).mono (by omega), fun p z => by rw [h4 t p hR]; rfl⟩
      exact hi.keep hkg (fun e => by omega)
    · rw [if_neg e] at hb
      obtain ⟨a1, a2, a3, a4⟩ := h3 t b hb
      obtain ⟨D4, b1, b2⟩ := a4.keep hkg a3
      exact ⟨by omega, a2, a3, D4, b1.mono (by omega), b2⟩
  · unfold putR at ht
    by_cases e : t = s
    · rw [if_pos e] at ht; cases ht
    · rw [if_neg e] at ht; exact h4 t p ht
  · unfold putR at ht hu
    by_cases e : t = s
    · by_cases e' : u = s
      · rw [e, e']
      · rw [if_pos e] at ht; rw [if_neg e'] at hu
        injection ht with ht
        have := (h3 u b hu).1
        omega
    · by_cases e' : u = s
      · rw [if_neg e] at ht; rw [if_pos e'] at hu
        injection hu with hu
        have := (h3 t b ht).1
        omega
      · rw [if_neg e] at ht; rw [if_neg e'] at hu
        exact h5 t u b ht hu
set_option maxRecDepth 100000 in
theorem FunsAt.put {w : World} {cb mf n b : Nat} {R : ByteArray → Option Nat} {F : Fns} (h : FunsAt w cb mf w.heap.size n R F) {s : ByteArray} {p : Int} (hp : (Lit.int .i64 p).wf = true) (hn : n < maxLen) (hR : R s = some b) :
    ∃ w2, (Instr.mapUpdate 55 (.map (some b)) (.int .i64 p) (.bool true)).run Tryd.prog w = .ok () w2 ∧ FunsAt w2 cb mf w2.heap.size (n + 1) R (addF F s p) ∧ w.grownBy w2 (some b) := by
  obtain ⟨⟨D, ho, hD⟩, h2, h3, h4, h5⟩ := h
  obtain ⟨a1, a2, a3, D4, b1, b2⟩ := h3 s b hR
  obtain ⟨w2, hr, ho2, hg⟩ := b1.update keyI Tryd.underlying55 hn (keyOf_i hp) (show boolR (.bool true) = some (.lit (.bool true), []) from rfl)
  have hkg : Keeps (fun k => k = b) w w2 := (Keeps.refl _ _).grown hg (fun k e _ => by injection e with e; exact e.symm)
  have hsz := hg.size
  refine ⟨w2, hr, ⟨⟨D, (own_keep ho hkg (fun e => a3 e.symm)).mono (by omega), hD⟩, ⟨by omega, h2.2⟩, fun t b' hb => ?_, fun t q ht => ?_, h5⟩, hg⟩
  · obtain ⟨c1, c2, c3, c4⟩ := h3 t b' hb
    refine ⟨by omega, c2, c3, ?_⟩
    by_cases e : t = s
    · subst e
      rw [hR] at hb
      injection hb with hb
      subst hb
      refine ⟨_, ho2, fun q z => ?_⟩
      by_cases e : q = p
      · subst e
        rw [atKey_put_same b1.isMap (keyI.key (keyOf_i hp))]
        simp [addF]
      · rw [atKey_put_other (int_ne e), b2]
        simp [addF, e]
    · obtain ⟨D5, d1, d2⟩ := c4.keep hkg (fun e' => e (h5 t s b' hb (e' ▸ hR)))
      refine ⟨D5, d1.mono (by omega), fun q z => ?_⟩
      rw [d2]
      simp [addF, e]
  · have : t ≠ s := fun e => by rw [e, hR] at ht; cases ht
    simp [addF, this, h4 t q ht]
theorem map_eql55_none (w : World) : (binOp .eql 55 (.map none) (.map none)).run Tryd.prog w = .ok (.bool true) w := by kernel_rfl
theorem map_eql55_some (m : Nat) (w : World) : (binOp .eql 55 (.map (some m)) (.map none)).run Tryd.prog w = .ok (.bool false) w := by kernel_rfl
set_option maxRecDepth 100000 in
theorem nd_clone_nil (c : Nat) (w : World) : Calls Tryd.prog 27 #[.slice none 0 c] w fun e w' => e = .returned (.slice none 0 0) ∧ w' = w := by
  have q := fun (w : World) (a : Option Addr) (n c n' c' : Nat) => Lib.run_eql_slice_nil (P := Tryd.prog) w 27 29 a n c n' c' Tryd.underlying27
  go_enter Tryd.func27, Tryd.ntmps27
  go_wp2
  go_ret
  exact ⟨rfl, rfl⟩
theorem cells5_one {w : World} {B : Nat → Prop} {F : Bool} : ∀ {ts : List Nd} {css : List (List Value)}, NodesIn w B F css ts → ∀ u ∈ css.flatten, u.oneCell' = true
  | [], [], _, u, h => by simp at h
  | t :: ts, cs :: css, h, u, hu => by
    unfold NodesIn at h
    rw [List.flatten_cons, List.mem_append] at hu
    rcases hu with hu | hu
    · obtain ⟨_, _, _, _, _, _, _, _, _, _, rfl, _⟩ := h.1.opened
      simp only [List.mem_cons, List.not_mem_nil, or_false] at hu
      rcases hu with rfl | rfl | rfl | rfl | rfl <;> rfl
    · exact cells5_one h.2 u hu
  | [], _ :: _, h, _, _ => by unfold NodesIn at h; exact h.elim
  | _ :: _, [], h, _, _ => by unfold NodesIn at h; exact h.elim
theorem clone_any (B : Nat → Prop) (F : Bool) (A : Option Addr) (n c : Nat) (ts : List Nd) (css : List (List Value)) (w : World) (hr : Reads w B F 5 A n css.flatten) (hc : NodesIn w B F css ts) (hln : ts.length = n) (hb : Roomy n 64) :
    Calls Tryd.prog 27 #[.slice A n c] w fun e w' => ∃ A' c', e = .returned (.slice A' n c') ∧ Reads w' (fun _ => True) false 5 A' n css.flatten ∧ NodesIn w' (fun _ => True) false css ts ∧ Keeps NoB w w' := by
  have hn : NodesIn w (fun _ => True) false css ts := NodesIn.more (fun _ _ _ => trivial) _ _ (NodesIn.weak _ _ hc)
  cases A with
  | none =>
    have h0 : n = 0 := by
      rcases Nat.eq_zero_or_pos n with h | h
      · exact h
      · obtain ⟨_, e, _⟩ := hr.2 h; cases e
    subst h0
    refine (nd_clone_nil c w).mono ?_
    rintro e w' ⟨he, rfl⟩
    obtain rfl : ts = [] := List.length_eq_zero_iff.1 hln
    match css, hc with
    | [], _ => exact ⟨none, 0, he, Reads.zero _ _ _ _ _, by unfold NodesIn; trivial, Keeps.refl _ _⟩
  | some a =>
    refine (nd_clone B F a n c css.flatten w hr (cells5_one hc) hb).mono ?_
    rintro e w' ⟨A', c', he, hr', hk⟩
    exact ⟨A', c', he, (hr'.more (fun _ _ _ => trivial)).weak, NodesIn.keep hk (fun _ _ => id) _ _ hn, hk⟩
end Go.Proofs.YtincajfanhanjaaDoor
namespace Go.Proofs.YtincajfanhanjaaDoor
open Go.RowKit Go.Maps

theorem results_11 (tmps : Array Value) (r : Nat) (k p : Int) (w : World) (ht : tmps[2]? = some (.pointer (some ⟨r, 0, none⟩))) (hB : Blk w r 33 #[.int .i64 k, .int .i64 p]) : (results Tryd.f11 tmps).run Tryd.prog w = .ok (.agg #[.int .i64 k, .int .i64 p]) w := by
  have c0 : w.cell? ⟨r, 0, none⟩ = some (.int .i64 k) := hB.cell 0
  have c1 : w.cell? ⟨r, 1, none⟩ = some (.int .i64 p) := hB.cell 1
  have hr : Tryd.f11.results = #[ResultVar.cell 2 33] := by kernel_rfl
  simp [results, hr, go_sem, ht, c0, c1]
theorem leaves_congr {fn : Func} {tmps tmps' : Array Value} {R : Ending → World → Prop} (ht : ∀ w, (results fn tmps).run Tryd.prog w = (results fn tmps').run Tryd.prog w) : ∀ (ds : List Deferred) (u : FrameMode) (w : World), Leaves Tryd.prog fn tmps R ds u w → Leaves Tryd.prog fn tmps' R ds u w
  | [], .returning, w, h => by
    obtain ⟨v, h1, h2⟩ := h
    exact ⟨v, (ht w).symm.trans h1, h2⟩
  | [], .panicking _, _, h => h
  | [], .run, _, h => h
  | d :: ds, u, w, h => by
    obtain ⟨h1, fv, cap, f, args, h2, h3, h4⟩ := h
    refine ⟨h1, fv, cap, f, args, h2, h3, h4.mono ?_⟩
    intro e u' w' h5
    cases e with
    | returned v => exact leaves_congr ht ds _ _ h5
    | panicked c => exact leaves_congr ht ds _ _ h5
    | outgrown => exact h5
theorem put_out {R : Ending → World → Prop} {d : Option Nat} {v : Value} {c : List PanicEntry} {a : Act} {w : World} (hd : d ≠ some 2) (h : bodyPostD Tryd.prog Tryd.f11 R (.panic c) (a.put d v) w) : bodyPostD Tryd.prog Tryd.f11 R (.panic c) a w := by
  have hr : Tryd.f11.results = #[ResultVar.cell 2 33] := by kernel_rfl
  have hdf : (a.put d v).defers = a.defers := by cases d <;> rfl
  have h1 : Leaves Tryd.prog Tryd.f11 (a.put d v).tmps R (a.put d v).defers (.panicking c) w := h
  rw [hdf] at h1
  refine leaves_congr (fun w => ?_) _ _ _ h1
  have ht : (a.put d v).tmps[2]? = a.tmps[2]? := by
    cases d with
    | none => rfl
    | some i =>
      have hi : i ≠ 2 := fun e => hd (by rw [e])
      simp [Act.put, Array.getElem?_setIfInBounds, hi]
  simp [results, hr, ht]
theorem leaves_idle {tmps : Array Value} {r : Nat} {k p : Int} {w : World} {R : Ending → World → Prop} (ht : tmps[2]? = some (.pointer (some ⟨r, 0, none⟩))) (hB : Blk w r 33 #[.int .i64 k, .int .i64 p]) (hR : R (.returned (.agg #[.int .i64 k, .int .i64 p])) w) :
    Leaves Tryd.prog Tryd.f11 tmps R [{ target := Target.fn (Fn.func 22) #[.pointer (some ⟨r, 0, none⟩)], args := #[] }] .returning w := by
  refine ⟨by simp, .func 22, #[.pointer (some ⟨r, 0, none⟩)], 22, #[.pointer (some ⟨r, 0, none⟩)], rfl, by simp [invoke, go_sem], ?_⟩
  refine (recover_idle ⟨r, 0, none⟩ w).mono ?_
  rintro e u w' ⟨rfl, rfl, rfl⟩
  exact ⟨_, results_11 tmps r k p _ ht hB, hR⟩
theorem leaves_fault {tmps : Array Value} {r : Nat} {k p x0 x1 : Int} {w : World} {R : Ending → World → Prop} (ht : tmps[2]? = some (.pointer (some ⟨r, 0, none⟩))) (hB : Blk w r 33 #[.int .i64 x0, .int .i64 x1]) (hR : ∀ w', Keeps (fun b => b = r) w w' → R (.returned (.agg #[.int .i64 k, .int .i64 p])) w') :
    Leaves Tryd.prog Tryd.f11 tmps R [{ target := Target.fn (Fn.func 22) #[.pointer (some ⟨r, 0, none⟩)], args := #[] }] (.panicking [{ v := .iface 33 (.agg #[.int .i64 k, .int .i64 p]), recovered := false }]) w := by
  refine ⟨by simp, .func 22, #[.pointer (some ⟨r, 0, none⟩)], 22, #[.pointer (some ⟨r, 0, none⟩)], rfl, by simp [invoke, go_sem], ?_⟩
  refine (recover_fault r k p x0 x1 [] w hB).mono ?_
  rintro e u w' ⟨rfl, rfl, hB', hk⟩
  exact ⟨_, results_11 tmps r k p _ ht hB', hR w' hk⟩
/-- A function of a module. -/
structure FunOk (L : List ByteArray) (t : Nd) : Prop where
  text : t.text.size ≤ 40
  ok : okN t
  num : -9223372036854775808 ≤ t.num ∧ t.num ≤ 9223372036854775807
  kids : 0 < t.kids.length
  clauses : ∀ x ∈ t.kids, ∃ p g d, Clause L x p g d
theorem fun_ok {L : List ByteArray} {t : Nd} (h : functionN t = true) (ho : okN t) (hn : namesIn L t) : FunOk L t := by
  have h0 := h
  unfold functionN at h
  simp only [Bool.and_eq_true, decide_eq_true_eq] at h
  obtain ⟨⟨⟨⟨⟨_, _⟩, h3⟩, h4⟩, h5⟩, _⟩ := h
  rw [okAs_nil, List.all_eq_true] at h5
  refine ⟨h3, ho, ?_, ?_, fun x hx => ?_⟩
  · cases t; unfold okN at ho; exact ho.2.2.1
  · cases hk : t.kids with
    | nil => rw [hk] at h4; simp at h4
    | cons a l => simp
  · exact Tree.clause (m := 2) ⟨okN_kids ho x hx, h5 x hx, namesIn_kids hn x hx⟩ (by omega)
theorem module_ok {m : Nd} (hk : m.kind = 22) (hr : rightN m = true) (ho : okN m) : (∀ t ∈ m.kids, FunOk (varsN m) t) ∧ (varsN m).length < 1048576 := by
  unfold rightN at hr
  simp only [Bool.and_eq_true, decide_eq_true_eq, Bool.or_eq_true] at hr
  obtain ⟨⟨h1, _⟩, h3⟩ := hr
  have h2 : moduleN m = true := by
    rcases h1 with h1 | h1
    · exact h1
    · cases m
      simp only [Nd.kind] at hk
      subst hk
      rw [okM_zero] at h1
      simp [itemH, shapeN] at h1
  unfold moduleN at h2
  rw [Bool.and_eq_true, List.all_eq_true] at h2
  exact ⟨fun t ht => fun_ok (h2.2 t ht) (okN_kids ho t ht) (namesIn_kids (names_self m) t ht), by have := vars_many m; omega⟩
end Go.Proofs.YtincajfanhanjaaDoor
