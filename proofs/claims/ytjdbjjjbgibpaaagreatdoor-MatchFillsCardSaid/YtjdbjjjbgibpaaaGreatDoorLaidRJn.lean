/- What the listed variables are in memory; the wrap that hands the world's shape on besides (as in Lint's Kinds). -/
import Derived.Test.YtjdbjjjbgibpaaaGreatDoorOneHJn
import Derived.Test.YtjdbjjjbgibpaaaGreatDoorRows
import Derived.ProofKit
import Derived.OpenShut
import Derived.LaidMore
import Derived.Lay
import Derived.Stop.Joined
import Derived.HandedShaped
import Derived.Shelf.Vars
namespace Go.Proofs.YtjdbjjjbgibpaaaGreatDoor
set_option maxRecDepth 100000
open Go.ChangeShapes Go.WideShapes Go.ChangeAt Go.RowKit

section
variable {H : Type} {enc : TypeId × Value → H}
theorem returns_shaped_and {a : Assume} {C : Checked} {os : Os} {f : FuncId} {fn : Func} {s : ChangeSpec} {conds : List PathCond} {apart fresh handsOn again : Bool} {X : World → Array Value → Prop}
    (hX : ∀ (w w' : World) (args : Array Value), w.heap = w'.heap → X w args → X w' args)
    (own : ownKnob C.prog.godebug = none) (started : os.Started) (noInit : C.prog.inits.idxOf? f = none) (hfn : C.prog.funcs[f]? = some fn)
    (witness : ∃ (w : World) (tape : Tape) (i : Input), w.os = os ∧ (w.forCall tape i).Shaped C.prog ∧ i.vars = [] ∧ Input.okWide C.prog (w.forCall tape i) .any w.heap.size f i ∧
      ((s.pre enc C.prog fn conds apart (w.forCall tape i).memory i.args ∧ X (w.forCall tape i).memory i.args) ∧ sizedMet enc C.prog fn (OpenSpec.ofChange s) apart (w.forCall tape i).memory i.args) ∧ a.holds C.prog (lone (Frame.enter C.prog f i.args .normal) [] (w.forCall tape i)))
    (contract : ∀ (W : World) (base : Nat) (args : Array Value) (ds gs : List (DataW H)) (before : List MemPlace),
      (∀ (j : Nat) t v, fn.params[j]? = some t → args[j]? = some v → Value.okWide C.prog W .any base t v) →
      DataW.Whole enc C.prog fn.params.toList s.vars apart W args.toList ds gs before →
      conds.all (PathCond.test C.prog ⟨fn.params.toList, ds, s.plain.varTypes C.prog, gs⟩) = true →
      (DataW.weightsEach C.prog (fn.params.toList ++ s.plain.varTypes C.prog) (ds ++ gs)).all (· ≤ reachBytes) = true → X W args → W.ShapedOpen C.prog →
      Calls C.prog f args W fun e W' => ∃ v, e = .returned v ∧ s.post enc C.prog fn apart fresh handsOn again W args v W') :
    ReturnsInHanded a C os f .any (fun w args => (s.pre enc C.prog fn conds apart w args ∧ X w args) ∧ sizedMet enc C.prog fn (OpenSpec.ofChange s) apart w args) (s.post enc C.prog fn apart fresh handsOn again) := by
  refine returnsInHanded_of_calls own started noInit witness ?_
  intro w tape i _ hsh _ hok hpre _
  obtain ⟨_, _, _, fn', hfn', _, _, _, _, hval⟩ := hok
  have e : fn' = fn := Option.some.inj (hfn'.symm.trans hfn)
  subst e
  obtain ⟨⟨⟨ds, gs, before, hw, hc⟩, hx⟩, hz⟩ := hpre
  have hw' := DataW.Whole.of_heap (w' := w.forCall tape i) (by rfl) hw
  refine (contract (w.forCall tape i) w.heap.size i.args ds gs before hval hw' hc (hz.weights hw) (hX _ _ _ (by rfl) hx) hsh).mono fun e W' ⟨v, he, hp⟩ => ?_
  subst he
  exact ChangeSpec.post_blind hp
end
/-- Cells of what is plain: integers, strings, arrays and structs of them. -/
def litC : DataW Unit → List Value
  | .lit (.int k n) => [.int k n]
  | .lit (.string l) => [.string ⟨l.toArray⟩]
  | _ => []
section
variable {enc : TypeId × Value → Unit} {P : Program} {w : World} {base fuel : Nat} {spare : Nat → Bool} {held : Bool}
theorem arr_cells {t e : TypeId} {n : Nat} {cs : List Value} {ds : List (DataW Unit)} {ps : List MemPlace} (ht : P.underlying t = some (.array n e)) (hc : P.cellsOf t = n * P.cellsOf e) (g : DataW Unit → List Value)
    (hg : ∀ m cs d ps, DataW.trod enc P w base spare held m e cs = some (d, ps) → cs = g d) (h : DataW.trod enc P w base spare held fuel t cs = some (.agg ds, ps)) : cs = (ds.map g).flatten := by
  obtain ⟨xs, m, _, ex, hl, hn, hel⟩ := DataW.trod_array ht h
  have e1 : ds = xs.map (·.1) := DataW.agg.inj (Prod.mk.inj ex).1
  rw [← chunks_flatten (P.cellsOf e) n cs (by rw [hl, hc])]
  congr 1
  apply List.ext_getElem?
  intro i
  rw [e1]
  by_cases hi : i < n
  · have h1 := hel i hi
    rw [List.getElem?_eq_getElem (by omega : i < xs.length)] at h1
    have h2 := hg m _ _ _ h1
    simp only [List.getElem?_map, List.getElem?_range hi, Option.map_some]
    rw [List.getElem?_eq_getElem (by omega : i < xs.length), Option.map_some, Option.map_some, h2]
    rfl
  · rw [List.getElem?_eq_none (by simp; omega), List.getElem?_eq_none (by simp; omega)]
theorem str_cells {t : TypeId} {cs : List Value} {d : DataW Unit} {ps : List MemPlace} (ht : P.underlying t = some .string) (h : DataW.trod enc P w base spare held fuel t cs = some (d, ps)) : cs = litC d := by
  obtain ⟨s, rfl, e, _⟩ := DataW.trod_string ht h
  injection e with e; subst e
  rfl
theorem int_cellsW {t : TypeId} {k : IntKind} {cs : List Value} {d : DataW Unit} {ps : List MemPlace} (ht : P.underlying t = some (.int k)) (h : DataW.trod enc P w base spare held fuel t cs = some (d, ps)) : cs = litC d := by
  obtain ⟨n, rfl, e, _⟩ := DataW.trod_int ht h
  injection e with e; subst e
  rfl
end
/-- A struct of integers and strings, a cell each. -/
def intFields (P : Program) (fs : Array Field) : Bool := (List.range fs.size).all fun i => match fs[i]? with
  | some f => decide (f.offset = i) && decide (P.cellsOf f.type = 1) && (match P.underlying f.type with | some (.int _) => true | some .string => true | _ => false)
  | none => true
theorem struct_cells {enc : TypeId × Value → Unit} {P : Program} {w : World} {base fuel : Nat} {spare : Nat → Bool} {held : Bool} {t : TypeId} {fs : Array Field} {cs : List Value} {ds : List (DataW Unit)} {ps : List MemPlace} (ht : P.underlying t = some (.struct fs)) (hc : P.cellsOf t = fs.size) (hf : intFields P fs = true)
    (h : DataW.trod enc P w base spare held fuel t cs = some (.agg ds, ps)) : cs = (ds.map litC).flatten := by
  obtain ⟨xs, m, _, ex, hl, hn, hel⟩ := DataW.trod_struct ht h
  have e1 : ds = xs.map (·.1) := DataW.agg.inj (Prod.mk.inj ex).1
  rw [← chunks_flatten 1 fs.size cs (by rw [hl, hc, Nat.mul_one])]
  congr 1
  apply List.ext_getElem?
  intro i
  rw [e1]
  by_cases hi : i < fs.size
  · have hfi : fs[i]? = some fs[i] := Array.getElem?_eq_getElem hi
    simp only [intFields, List.all_eq_true, List.mem_range] at hf
    have h0 := hf i hi
    rw [hfi] at h0
    simp only [Bool.and_eq_true, decide_eq_true_eq] at h0
    obtain ⟨⟨h01, h02⟩, h03⟩ := h0
    have h1 := hel i _ hfi
    rw [List.getElem?_eq_getElem (by omega : i < xs.length), h01, h02] at h1
    have h2 : (cs.drop i).take 1 = litC xs[i].1 := by
      cases hu : P.underlying fs[i].type with
      | none => rw [hu] at h03; cases h03
      | some d => cases d <;> rw [hu] at h03 <;> first | exact int_cellsW hu h1 | exact str_cells hu h1 | cases h03
    simp only [List.getElem?_map, List.getElem?_range hi, Option.map_some, Nat.mul_one]
    rw [List.getElem?_eq_getElem (by omega : i < xs.length), Option.map_some, Option.map_some, h2]
  · rw [List.getElem?_eq_none (by simp; omega), List.getElem?_eq_none (by simp; omega)]
def aggC (g : DataW Unit → List Value) : DataW Unit → List Value
  | .agg ds => (ds.map g).flatten
  | _ => []
abbrev laidL : List (String × DataW Unit) := [("unicode/utf8.acceptRanges", Rows.laid_unicode_utf8_acceptRanges), ("pigeonhole/lint.builtin", Rows.laid_pigeonhole_lint_builtin), ("pigeonhole/bif.kinds", Rows.laid_pigeonhole_bif_kinds), ("unicode/utf8.first", Rows.laid_unicode_utf8_first)]
theorem Tryz.own : ownKnob Tryz.prog.godebug = none := by kernel_rfl
theorem Tryz.laidOut : laidOutB Tryz.prog = true := by kernel_rfl
theorem builtin_cells : aggC (aggC litC) Rows.laid_pigeonhole_lint_builtin = (List.range 16).map fun i => Value.string (textK (i / 4) (i % 4)) := by kernel_rfl
theorem kinds_cells : aggC (aggC litC) Rows.laid_pigeonhole_bif_kinds = [.string ⟨#[105, 115, 95, 105, 110, 116, 101, 103, 101, 114]⟩, .int .u8 1, .string ⟨#[105, 115, 95, 97, 116, 111, 109]⟩, .int .u8 2, .string ⟨#[105, 115, 95, 116, 117, 112, 108, 101]⟩, .int .u8 6, .string ⟨#[105, 115, 95, 108, 105, 115, 116]⟩, .int .u8 7, .string ⟨#[105, 115, 95, 112, 105, 100]⟩, .int .u8 5, .string ⟨#[105, 115, 95, 114, 101, 102, 101, 114, 101, 110, 99, 101]⟩, .int .u8 3, .string ⟨#[105, 115, 95, 102, 117, 110, 99, 116, 105, 111, 110]⟩, .int .u8 4] := by kernel_rfl
set_option maxRecDepth 100000 in
theorem of_laid {W : World} (h : laidMetH Tryz.prog laidL W) (hsh : W.ShapedOpen Tryz.prog) : LaidK W ∧ KindsAt W := by
  rw [MakeChecks.laidMetH_plain _ _ _ (by kernel_rfl)] at h
  obtain ⟨ps, ⟨_, _, _, _, _, _, _, _, _, _, ⟨g1, t1, cs1, f1, p1, q1, hg1, ht1, hv1, hd1, ⟨g2, t2, cs2, f2, p2, q2, hg2, ht2, hv2, hd2, _, _⟩, _⟩, _⟩, _, _⟩ := h
  obtain rfl := Option.some.inj ((show Tryz.prog.globalNamed "pigeonhole/lint.builtin" = some 0 by kernel_rfl).symm.trans hg1)
  obtain rfl := Option.some.inj ((show (Tryz.prog.globals[0]?).map (·.type) = some 96 by kernel_rfl).symm.trans ht1)
  obtain rfl := Option.some.inj ((show Tryz.prog.globalNamed "pigeonhole/bif.kinds" = some 1 by kernel_rfl).symm.trans hg2)
  obtain rfl := Option.some.inj ((show (Tryz.prog.globals[1]?).map (·.type) = some 107 by kernel_rfl).symm.trans ht2)
  have hb : cs1.toList = aggC (aggC litC) Rows.laid_pigeonhole_lint_builtin := by
    have := arr_cells Tryz.underlying96 (by kernel_rfl) (aggC litC) (fun m cs d ps h => by
      obtain ⟨xs, _, _, ex, _⟩ := DataW.trod_array Tryz.underlying95 h
      injection ex with e1 e2
      subst e1
      exact arr_cells Tryz.underlying95 (by kernel_rfl) litC (fun _ _ _ _ h => str_cells Tryz.underlying9 h) h) hd1
    exact this
  have hs : cs2.toList = aggC (aggC litC) Rows.laid_pigeonhole_bif_kinds := by
    have := arr_cells Tryz.underlying107 (by kernel_rfl) (aggC litC) (fun m cs d ps h => by
      obtain ⟨xs, _, _, ex, _⟩ := DataW.trod_struct Tryz.underlying106 h
      injection ex with e1 e2
      subst e1
      exact struct_cells Tryz.underlying106 (by kernel_rfl) (by kernel_rfl) h) hd2
    exact this
  rw [builtin_cells] at hb
  rw [kinds_cells] at hs
  refine ⟨⟨fun k a hk ha => ?_, ?_⟩, ?_⟩
  · rw [World.var?_cell hg1 hv1, ← Array.getElem?_toList, hb, List.getElem?_map, List.getElem?_range (by omega), Option.map_some]
    have h1 : (k * 4 + a) / 4 = k := by omega
    have h2 : (k * 4 + a) % 4 = a := by omega
    rw [h1, h2]
  · exact cell_of_shapedOpen_int (g := 2) (t := 3) (zero := #[.int .i64 0]) hsh (by decide +kernel) (by kernel_rfl) rfl (by kernel_rfl) (by kernel_rfl) Tryz.underlying3
  · refine ⟨?_, ?_, ?_, ?_, ?_, ?_, ?_, ?_, ?_, ?_, ?_, ?_, ?_, ?_⟩ <;> rw [World.var?_cell hg2 hv2, ← Array.getElem?_toList, hs] <;> rfl
end Go.Proofs.YtjdbjjjbgibpaaaGreatDoor
