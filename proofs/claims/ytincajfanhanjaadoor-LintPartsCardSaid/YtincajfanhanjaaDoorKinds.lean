/- law07.awake: true. What the listed variables are in memory; the wrap that hands the world's shape on besides. LintKinds, LintNumbers: the walks. -/
import Derived.Test.YtincajfanhanjaaDoorChOne
import Derived.ProofKit
import Derived.OpenShut
import Derived.LaidMore
import Derived.Lay
import Derived.Stop.Joined
import Derived.HandedShaped
import Derived.Shelf.Vars
import Derived.Test.YtincajfanhanjaaDoorRefKind
namespace Go.Proofs.YtincajfanhanjaaDoor
open Go.RowKit Go.Maps

theorem check_any (t : Nd) (w : World) (B : Nat → Prop) (F : Bool) (kd : Int) (tx : ByteArray) (nm pl : Int) (ka : Option Addr) (kn kc : Nat) (hL : LaidN w) (ho : okN t) (hm : manyN t ≤ 4611686018427387904) (ht : NodeIn w B F [.int .u8 kd, .string tx, .int .i64 nm, .int .i64 pl, .slice ka kn kc] t) :
    Calls Tryd.prog 11 #[.agg #[.int .u8 kd, .string tx, .int .i64 nm, .int .i64 pl, .slice ka kn kc]] w (FaultP (checkN t) w) := by
  have hk := (nd_text ht).1
  by_cases h22 : kd = 22
  · cases hr : rightN t with
    | false =>
      have e : checkN t = (4, 0) := by unfold checkN checkE; rw [if_pos (.inr hr)]
      rw [e]
      exact check_shape t w B F kd tx nm pl ka kn kc hL ho hm ht h22 hr
    | true => subst h22; exact check_right t w B F tx nm pl ka kn kc hL ho hm ht hr
  · have e : checkN t = (4, 0) := by unfold checkN checkE; rw [if_pos (.inl (by rw [hk]; exact h22))]
    rw [e]
    exact check_kind w kd tx nm pl ka kn kc h22
def varT (s : ByteArray) (pl : Int) : Nd := .mk 3 s 0 pl []
theorem check_x : checkN (moduleT (varT ⟨#[88]⟩ 0)) = (0, 0) := by decide +kernel
theorem check_y : checkN (moduleT (varT ⟨#[89]⟩ 7)) = (212, 7) := by decide +kernel
theorem kinds_here : kindN [104, 100] 1 = 2 ∧ kindN [33] 2 = 3 ∧ kindN [104, 100] 2 = 0 := by decide +kernel
theorem ok_x : okN (moduleT (varT ⟨#[88]⟩ 0)) ∧ manyN (moduleT (varT ⟨#[88]⟩ 0)) ≤ 4611686018427387904 := by
  refine ⟨?_, by decide +kernel⟩
  simp only [moduleT, functionT, clauseT, blockT, xT, varT, okN, okNs]
  decide +kernel
theorem ok_y : okN (moduleT (varT ⟨#[89]⟩ 7)) ∧ manyN (moduleT (varT ⟨#[89]⟩ 7)) ≤ 4611686018427387904 := by
  refine ⟨?_, by decide +kernel⟩
  simp only [moduleT, functionT, clauseT, blockT, xT, varT, okN, okNs]
  decide +kernel
theorem var_in (w : World) (s : ByteArray) (pl : Int) : NodeIn w (fun _ => True) true [.int .u8 3, .string s, .int .i64 0, .int .i64 pl, .slice none 0 0] (varT s pl) := by
  unfold varT NodeIn
  exact ⟨none, 0, 0, [], rfl, ⟨by unfold Roomy; omega, Nat.le_refl _⟩, Reads.zero _ _ _ _ _, by unfold NodesIn; trivial⟩
set_option maxRecDepth 100000 in
set_option maxHeartbeats 4000000 in
theorem awake_any (w : World) (hL : LaidN w) : Calls Tryd.prog 7 #[] w fun e w' => e = .returned (.bool true) ∧ Keeps NoB w w' := by
  have HL := hide hL
  have m1 : Hid (1 = 1) := hide rfl
  have n1 : Hid (1 = 1) := hide rfl
  have p1 : Hid (1 = 1) := hide rfl
  have q1 : Hid (1 = 1) := hide rfl
  have q2 : Hid (1 = 1) := hide rfl
  clear hL
  go_enter Tryd.func7, Tryd.ntmps7
  go_wp2_with
    first
    | (go_at_call 18
       have _ := m1
       refine (node_new 3 ⟨#[88]⟩ none 0 0 _).mono ?_
       rintro e w1 ⟨rfl, hk⟩
       have HK1 := hide hk
       clear hk m1)
    | (go_at_call 17
       have _ := n1
       refine (one_any w1 (fun _ => True) true 3 ⟨#[88]⟩ 0 0 none 0 0 (varT ⟨#[88]⟩ 0) (var_in _ _ _)).mono ?_
       rintro e w2 ⟨hk, v, rfl, kd1, tx1, nm1, pl1, ka1, kn1, kc1, rfl, hn⟩
       have HK2 := hide (HK1.out.trans' hk (fun _ _ => id) (fun _ _ => id) : Keeps NoB w w2)
       have HN1 := hide hn
       clear hk n1 hn)
    | (go_at_call 18
       have hkp := HK2.out.alloc (.cells #[.int .u8 kd1, .string tx1, .int .i64 nm1, .int .i64 pl1, .slice ka1 kn1 kc1] 29)
       have HBG := hide (Blk.new w2 29 #[.int .u8 kd1, .string tx1, .int .i64 nm1, .int .i64 pl1, .slice ka1 kn1 kc1])
       have HNG := hide (NodeIn.keep ((Keeps.refl NoB w2).alloc (.cells #[.int .u8 kd1, .string tx1, .int .i64 nm1, .int .i64 pl1, .slice ka1 kn1 kc1] 29)) (fun _ _ => id) _ _ HN1.out)
       refine (node_new 3 ⟨#[89]⟩ none 0 0 _).mono ?_
       rintro e w3 ⟨rfl, hk⟩
       have HK3 := hide (hkp.trans' hk (fun _ _ => id) (fun _ _ => id) : Keeps NoB w w3)
       have HBG3 := hide (HBG.out.keep hk id)
       have HNG3 := hide (NodeIn.keep hk (fun _ _ => id) _ _ HNG.out)
       clear hk hkp HBG HNG)
    | (go_at_call 17
       refine (one_any _ (fun _ => True) true 3 ⟨#[89]⟩ 0 7 none 0 0 (varT ⟨#[89]⟩ 7) (var_in _ _ _)).mono ?_
       rintro e w4 ⟨hk, v, rfl, kd2, tx2, nm2, pl2, ka2, kn2, kc2, rfl, hn⟩
       have hk3 : Keeps NoB w3 (w4.alloc (.cells #[.int .u8 kd2, .string tx2, .int .i64 nm2, .int .i64 pl2, .slice ka2 kn2 kc2] 29)) := (((Keeps.refl NoB w3).alloc _).trans' hk (fun _ _ => id) (fun _ _ => id) : Keeps NoB w3 w4).alloc _
       have HK4 := hide (HK3.out.trans' hk3 (fun _ _ => id) (fun _ _ => id))
       have hb := HBG3.out.keep hk3 id
       have g0 := hb.cell 0; have g1 := hb.cell 1; have g2 := hb.cell 2; have g3 := hb.cell 3; have g4 := hb.cell 4
       have HN4 := hide (NodeIn.keep hk3 (fun _ _ => id) _ _ HNG3.out)
       have HNB := hide (NodeIn.keep ((Keeps.refl NoB w4).alloc (.cells #[.int .u8 kd2, .string tx2, .int .i64 nm2, .int .i64 pl2, .slice ka2 kn2 kc2] 29)) (fun _ _ => id) _ _ hn)
       have HBB := hide (Blk.new w4 29 #[.int .u8 kd2, .string tx2, .int .i64 nm2, .int .i64 pl2, .slice ka2 kn2 kc2])
       clear hk hk3 hb hn HNG3 HBG3)
    | (go_at_call 11
       have _ := p1
       refine (check_any (moduleT (varT ⟨#[88]⟩ 0)) _ _ _ kd1 tx1 nm1 pl1 ka1 kn1 kc1 (HL.out.keep HK4.out) ok_x.1 ok_x.2 HN4.out).mono ?_
       rintro e w5 ⟨he, hk⟩
       rw [check_x] at he
       subst he
       have HK5 := hide (HK4.out.trans' hk (fun _ _ => id) (fun _ _ => id) : Keeps NoB w w5)
       have hb := HBB.out.keep hk id
       have b0 := hb.cell 0; have b1 := hb.cell 1; have b2 := hb.cell 2; have b3 := hb.cell 3; have b4 := hb.cell 4
       have HNB5 := hide (NodeIn.keep hk (fun _ _ => id) _ _ HNB.out)
       clear hk hb p1 g0 g1 g2 g3 g4 HNB HN4)
    | (go_at_call 11
       refine (check_any (moduleT (varT ⟨#[89]⟩ 7)) _ _ _ kd2 tx2 nm2 pl2 ka2 kn2 kc2 (HL.out.keep HK5.out) ok_y.1 ok_y.2 HNB5.out).mono ?_
       rintro e w6 ⟨he, hk⟩
       rw [check_y] at he
       subst he
       have HK6 := hide (HK5.out.trans' hk (fun _ _ => id) (fun _ _ => id) : Keeps NoB w w6)
       clear hk b0 b1 b2 b3 b4)
    | (go_at_call 8
       have _ := q1
       refine (kind_any ⟨#[104, 100]⟩ 1 _ (HL.out.keep HK6.out).kind (by decide +kernel)).mono ?_
       rintro e w7 ⟨he, rfl⟩
       rw [show kindN (⟨#[104, 100]⟩ : ByteArray).data.toList 1 = 2 from kinds_here.1] at he
       subst he
       clear q1)
    | (go_at_call 8
       have _ := q2
       refine (kind_any ⟨#[33]⟩ 2 _ (HL.out.keep HK6.out).kind (by decide +kernel)).mono ?_
       rintro e w7 ⟨he, rfl⟩
       rw [show kindN (⟨#[33]⟩ : ByteArray).data.toList 2 = 3 from kinds_here.2.1] at he
       subst he
       clear q2)
    | (go_at_call 8
       refine (kind_any ⟨#[104, 100]⟩ 2 _ (HL.out.keep HK6.out).kind (by decide +kernel)).mono ?_
       rintro e w7 ⟨he, rfl⟩
       rw [show kindN (⟨#[104, 100]⟩ : ByteArray).data.toList 2 = 0 from kinds_here.2.2] at he
       subst he)
    | fail
  go_ret
  exact ⟨rfl, HK6.out⟩
end Go.Proofs.YtincajfanhanjaaDoor
namespace Go.Proofs.YtincajfanhanjaaDoor
open Go.ChangeShapes Go.WideShapes Go.ChangeAt Go.RowKit

section
variable {H : Type} {enc : TypeId × Value → H}
theorem returns_shaped_and {a : Assume} {C : Checked} {os : Os} {f : FuncId} {fn : Func} {s : ChangeSpec} {conds : List PathCond} {apart fresh handsOn again : Bool} {X : World → Array Value → Prop}
    (hX : ∀ (w w' : World) (args : Array Value), w.heap = w'.heap → X w args → X w' args)
    (own : ownKnob C.prog.godebug = none) (started : os.Started) (noInit : C.prog.inits.idxOf? f = none) (hfn : C.prog.funcs[f]? = some fn)
    (witness : ∃ (w : World) (tape : Tape) (i : Input), w.os = os ∧ (w.forCall tape i).Shaped C.prog ∧ i.vars = [] ∧ Input.okWide C.prog (w.forCall tape i) .any w.heap.size f i ∧
      ((s.pre enc C.prog fn conds apart (w.forCall tape i).memory i.args ∧ X (w.forCall tape i).memory i.args) ∧ sizedMet enc C.prog fn (OpenSpec.ofChange s) apart (w.forCall tape i).memory i.args) ∧ a.holds C.prog (lone (Frame.enter C.prog f i.args .normal) [] (w.forCall tape i)))
    (contract : ∀ (W : World) (base : Nat) (args : Array Value) (ds gs : List (DataW H)) (before : List MemPlace),
      (∀ (j : Nat) t v, fn.params[j]? = some t → args[j]? = some v → Value.okWide C.prog W .any base t v) →
      DataW.Whole enc C.prog fn.params.toList s.vars apart W args.toList ds gs before →
      conds.all (PathCond.test C.prog ⟨fn.params.toList, ds, s.plain.varTypes C.prog, gs⟩) = true →
      (DataW.weightsEach C.prog (fn.params.toList ++ s.plain.varTypes C.prog) (ds ++ gs)).all (· ≤ reachBytes) = true → X W args → W.ShapedOpen C.prog →
      Calls C.prog f args W fun e W' => ∃ v, e = .returned v ∧ s.post enc C.prog fn apart fresh handsOn again W args v W') :
    ReturnsInHanded a C os f .any (fun w args => (s.pre enc C.prog fn conds apart w args ∧ X w args) ∧ sizedMet enc C.prog fn (OpenSpec.ofChange s) apart w args) (s.post enc C.prog fn apart fresh handsOn again) := by
  refine returnsInHanded_of_calls own started noInit witness ?_
  intro w tape i _ hsh _ hok hpre _
  obtain ⟨_, _, _, fn', hfn', _, _, _, _, hval⟩ := hok
  have e : fn' = fn := Option.some.inj (hfn'.symm.trans hfn)
  subst e
  obtain ⟨⟨⟨ds, gs, before, hw, hc⟩, hx⟩, hz⟩ := hpre
  have hw' := DataW.Whole.of_heap (w' := w.forCall tape i) (by rfl) hw
  refine (contract (w.forCall tape i) w.heap.size i.args ds gs before hval hw' hc (hz.weights hw) (hX _ _ _ (by rfl) hx) hsh).mono fun e W' ⟨v, he, hp⟩ => ?_
  subst he
  exact ChangeSpec.post_blind hp
end
/-- Cells of what is plain: integers, strings, arrays and structs of them. -/
def litC : DataW Unit → List Value
  | .lit (.int k n) => [.int k n]
  | .lit (.string l) => [.string ⟨l.toArray⟩]
  | _ => []
section
variable {enc : TypeId × Value → Unit} {P : Program} {w : World} {base fuel : Nat} {spare : Nat → Bool} {held : Bool}
theorem arr_cells {t e : TypeId} {n : Nat} {cs : List Value} {ds : List (DataW Unit)} {ps : List MemPlace} (ht : P.underlying t = some (.array n e)) (hc : P.cellsOf t = n * P.cellsOf e) (g : DataW Unit → List Value)
    (hg : ∀ m cs d ps, DataW.trod enc P w base spare held m e cs = some (d, ps) → cs = g d) (h : DataW.trod enc P w base spare held fuel t cs = some (.agg ds, ps)) : cs = (ds.map g).flatten := by
  obtain ⟨xs, m, _, ex, hl, hn, hel⟩ := DataW.trod_array ht h
  have e1 : ds = xs.map (·.1) := DataW.agg.inj (Prod.mk.inj ex).1
  rw [← chunks_flatten (P.cellsOf e) n cs (by rw [hl, hc])]
  congr 1
  apply List.ext_getElem?
  intro i
  rw [e1]
  by_cases hi : i < n
  · have h1 := hel i hi
    rw [List.getElem?_eq_getElem (by omega : i < xs.length)] at h1
    have h2 := hg m _ _ _ h1
    simp only [List.getElem?_map, List.getElem?_range hi, Option.map_some]
    rw [List.getElem?_eq_getElem (by omega : i < xs.length), Option.map_some, Option.map_some, h2]
    rfl
  · rw [List.getElem?_eq_none (by simp; omega), List.getElem?_eq_none (by simp; omega)]
theorem str_cells {t : TypeId} {cs : List Value} {d : DataW Unit} {ps : List MemPlace} (ht : P.underlying t = some .string) (h : DataW.trod enc P w base spare held fuel t cs = some (d, ps)) : cs = litC d := by
  obtain ⟨s, rfl, e, _⟩ := DataW.trod_string ht h
  injection e with e; subst e
  rfl
theorem int_cells {t : TypeId} {k : IntKind} {cs : List Value} {d : DataW Unit} {ps : List MemPlace} (ht : P.underlying t = some (.int k)) (h : DataW.trod enc P w base spare held fuel t cs = some (d, ps)) : cs = litC d := by
  obtain ⟨n, rfl, e, _⟩ := DataW.trod_int ht h
  injection e with e; subst e
  rfl
end
/-- A struct of integers, a cell each. -/
def intFields (P : Program) (fs : Array Field) : Bool := (List.range fs.size).all fun i => match fs[i]? with
  | some f => decide (f.offset = i) && decide (P.cellsOf f.type = 1) && (match P.underlying f.type with | some (.int _) => true | _ => false)
  | none => true
theorem struct_cells {enc : TypeId × Value → Unit} {P : Program} {w : World} {base fuel : Nat} {spare : Nat → Bool} {held : Bool} {t : TypeId} {fs : Array Field} {cs : List Value} {ds : List (DataW Unit)} {ps : List MemPlace} (ht : P.underlying t = some (.struct fs)) (hc : P.cellsOf t = fs.size) (hf : intFields P fs = true)
    (h : DataW.trod enc P w base spare held fuel t cs = some (.agg ds, ps)) : cs = (ds.map litC).flatten := by
  obtain ⟨xs, m, _, ex, hl, hn, hel⟩ := DataW.trod_struct ht h
  have e1 : ds = xs.map (·.1) := DataW.agg.inj (Prod.mk.inj ex).1
  rw [← chunks_flatten 1 fs.size cs (by rw [hl, hc, Nat.mul_one])]
  congr 1
  apply List.ext_getElem?
  intro i
  rw [e1]
  by_cases hi : i < fs.size
  · have hfi : fs[i]? = some fs[i] := Array.getElem?_eq_getElem hi
    simp only [intFields, List.all_eq_true, List.mem_range] at hf
    have h0 := hf i hi
    rw [hfi] at h0
    simp only [Bool.and_eq_true, decide_eq_true_eq] at h0
    obtain ⟨⟨h01, h02⟩, h03⟩ := h0
    have h1 := hel i _ hfi
    rw [List.getElem?_eq_getElem (by omega : i < xs.length), h01, h02] at h1
    obtain ⟨k, hk⟩ : ∃ k, P.underlying fs[i].type = some (.int k) := by
      cases hu : P.underlying fs[i].type with
      | none => rw [hu] at h03; cases h03
      | some d => cases d <;> rw [hu] at h03 <;> first | exact ⟨_, rfl⟩ | cases h03
    have h2 := int_cells hk h1
    simp only [List.getElem?_map, List.getElem?_range hi, Option.map_some, Nat.mul_one]
    rw [List.getElem?_eq_getElem (by omega : i < xs.length), Option.map_some, Option.map_some, h2]
    rfl
  · rw [List.getElem?_eq_none (by simp; omega), List.getElem?_eq_none (by simp; omega)]
def aggC (g : DataW Unit → List Value) : DataW Unit → List Value
  | .agg ds => (ds.map g).flatten
  | _ => []
abbrev laidL : List (String × DataW Unit) := [("unicode/utf8.acceptRanges", Rows.laid_unicode_utf8_acceptRanges), ("pigeonhole/node.shapes", Rows.laid_pigeonhole_node_shapes), ("pigeonhole/lint.builtin", Rows.laid_pigeonhole_lint_builtin), ("unicode/utf8.first", Rows.laid_unicode_utf8_first)]
theorem Tryd.own : ownKnob Tryd.prog.godebug = none := by kernel_rfl
theorem Tryd.laidOut : laidOutB Tryd.prog = true := by kernel_rfl
theorem builtin_cells : aggC (aggC litC) Rows.laid_pigeonhole_lint_builtin = (List.range 16).map fun i => Value.string (textK (i / 4) (i % 4)) := by kernel_rfl
theorem shapes_cells : aggC (aggC litC) Rows.laid_pigeonhole_node_shapes = ((List.range 20).map shapeC).flatten := by kernel_rfl
set_option maxRecDepth 100000 in
theorem of_laid {W : World} (h : laidMetH Tryd.prog laidL W) (hsh : W.ShapedOpen Tryd.prog) : LaidN W := by
  rw [MakeChecks.laidMetH_plain _ _ _ (by kernel_rfl)] at h
  obtain ⟨ps, ⟨_, _, _, _, _, _, _, _, _, _, ⟨g1, t1, cs1, f1, p1, q1, hg1, ht1, hv1, hd1, ⟨g2, t2, cs2, f2, p2, q2, hg2, ht2, hv2, hd2, _, _⟩, _⟩, _⟩, _, _⟩ := h
  obtain rfl := Option.some.inj ((show Tryd.prog.globalNamed "pigeonhole/node.shapes" = some 1 by kernel_rfl).symm.trans hg1)
  obtain rfl := Option.some.inj ((show (Tryd.prog.globals[1]?).map (·.type) = some 68 by kernel_rfl).symm.trans ht1)
  obtain rfl := Option.some.inj ((show Tryd.prog.globalNamed "pigeonhole/lint.builtin" = some 0 by kernel_rfl).symm.trans hg2)
  obtain rfl := Option.some.inj ((show (Tryd.prog.globals[0]?).map (·.type) = some 46 by kernel_rfl).symm.trans ht2)
  have hb : cs2.toList = aggC (aggC litC) Rows.laid_pigeonhole_lint_builtin := by
    have := arr_cells Tryd.underlying46 (by kernel_rfl) (aggC litC) (fun m cs d ps h => by
      obtain ⟨xs, _, _, ex, _⟩ := DataW.trod_array Tryd.underlying45 h
      injection ex with e1 e2
      subst e1
      exact arr_cells Tryd.underlying45 (by kernel_rfl) litC (fun _ _ _ _ h => str_cells Tryd.underlying9 h) h) hd2
    exact this
  have hs : cs1.toList = aggC (aggC litC) Rows.laid_pigeonhole_node_shapes := by
    have := arr_cells Tryd.underlying68 (by kernel_rfl) (aggC litC) (fun m cs d ps h => by
      obtain ⟨xs, _, _, ex, _⟩ := DataW.trod_struct Tryd.underlying67 h
      injection ex with e1 e2
      subst e1
      exact struct_cells Tryd.underlying67 (by kernel_rfl) (by kernel_rfl) h) hd1
    exact this
  rw [builtin_cells] at hb
  rw [shapes_cells] at hs
  refine ⟨⟨fun k a hk ha => ?_, ?_⟩, fun k j hk hj => ?_⟩
  · rw [World.var?_cell hg2 hv2, ← Array.getElem?_toList, hb, List.getElem?_map, List.getElem?_range (by omega), Option.map_some]
    have h1 : (k * 4 + a) / 4 = k := by omega
    have h2 : (k * 4 + a) % 4 = a := by omega
    rw [h1, h2]
  · exact cell_of_shapedOpen_int (g := 2) (t := 3) (zero := #[.int .i64 0]) hsh (by decide +kernel) (by kernel_rfl) rfl (by kernel_rfl) (by kernel_rfl) Tryd.underlying3
  · have hlen : ∀ c ∈ (List.range 20).map shapeC, c.length = 5 := by
      intro c hc
      obtain ⟨i, _, rfl⟩ := List.mem_map.1 hc
      unfold shapeC; split <;> rfl
    rw [World.var?_cell hg1 hv1, ← Array.getElem?_toList, hs, flat_get hlen k (by simpa using hk) j hj]
    simp
end Go.Proofs.YtincajfanhanjaaDoor
namespace Go.Proofs.YtincajfanhanjaaDoor
open Go.RowKit

set_option maxRecDepth 100000 in
theorem lint_kinds (s : ByteArray) (a : Int) (w : World) (hL : LaidN w) (hs : s.size ≤ 9223372036854775807) : Calls Tryd.prog 3 #[.string s, .int .i64 a] w fun e w' => e = .returned (.bool true) ∧ Keeps NoB w w' := by
  have HL := hide hL
  by_cases h : (s.size : Int) ≤ 100
  · have hb : decide ((100 : Int) < (s.size : Int)) = false := by simp; omega
    have hn : ¬ 100 < s.size := by omega
    have hs2 : s.size ≤ 140737488355328 := by omega
    clear hL
    go_enter Tryd.func3, Tryd.ntmps3
    go_wp2_with
      first
      | (go_at_call 7
         refine (awake_any _ HL.out).mono ?_
         rintro e w2 ⟨rfl, hk⟩
         have HK := hide hk
         clear hk)
      | (go_at_call 8
         refine (kind_any s a _ (HL.out.keep HK.out).kind hs2).mono ?_
         rintro e w3 ⟨rfl, rfl⟩)
      | (go_at_call 9
         refine (ref_kind_any s a _).mono ?_
         rintro e w4 ⟨rfl, hk⟩
         have HK2 := hide (HK.out.trans' hk (fun _ _ => id) (fun _ _ => id) : Keeps NoB w w4)
         clear hk)
      | fail
    go_ret
    exact ⟨by simp, HK2.out⟩
  · have hb : decide ((100 : Int) < (s.size : Int)) = true := by simp; omega
    have hn : 100 < s.size := by omega
    clear hL
    go_enter Tryd.func3, Tryd.ntmps3
    go_wp2_with
      first
      | (go_at_call 7
         refine (awake_any _ HL.out).mono ?_
         rintro e w2 ⟨rfl, hk⟩
         have HK := hide hk
         clear hk)
      | fail
    go_ret
    exact ⟨by simp, HK.out⟩
/-- The names that LintNumbers goes through. -/
def names75 : List (List UInt8) := [[43], [45], [42], [100, 105, 118], [114, 101, 109], [61, 61], [47, 61], [61, 58, 61], [61, 47, 61], [60], [61, 60], [62], [62, 61], [97, 110, 100], [111, 114], [120, 111, 114], [110, 111, 116], [97, 98, 115], [104, 100], [116, 108], [108, 101, 110, 103, 116, 104], [116, 117, 112, 108, 101, 95, 115, 105, 122, 101], [105, 115, 95, 105, 110, 116, 101, 103, 101, 114], [105, 115, 95, 97, 116, 111, 109], [105, 115, 95, 116, 117, 112, 108, 101], [105, 115, 95, 108, 105, 115, 116], [105, 115, 95, 112, 105, 100], [105, 115, 95, 114, 101, 102, 101, 114, 101, 110, 99, 101], [105, 115, 95, 102, 117, 110, 99, 116, 105, 111, 110], [105, 115, 95, 98, 111, 111, 108, 101, 97, 110], [101, 108, 101, 109, 101, 110, 116], [43, 43], [45, 45], [109, 97, 120], [109, 105, 110], [110, 116, 104], [110, 116, 104, 116, 97, 105, 108], [109, 101, 109, 98, 101, 114], [115, 101, 113], [115, 101, 116, 101, 108, 101, 109, 101, 110, 116], [116, 117, 112, 108, 101, 95, 116, 111, 95, 108, 105, 115, 116], [108, 105, 115, 116, 95, 116, 111, 95, 116, 117, 112, 108, 101], [97, 116, 111, 109, 95, 116, 111, 95, 108, 105, 115, 116], [108, 105, 115, 116, 95, 116, 111, 95, 97, 116, 111, 109], [105, 110, 116, 101, 103, 101, 114, 95, 116, 111, 95, 108, 105, 115, 116], [108, 105, 115, 116, 95, 116, 111, 95, 105, 110, 116, 101, 103, 101, 114], [114, 101, 118, 101, 114, 115, 101], [115, 117, 109], [115, 111, 114, 116], [117, 115, 111, 114, 116], [108, 97, 115, 116], [116, 104, 114, 111, 119], [101, 114, 114, 111, 114], [101, 120, 105, 116], [115, 101, 108, 102], [109, 97, 107, 101, 95, 114, 101, 102], [110, 111, 119], [115, 112, 97, 119, 110], [115, 112, 97, 119, 110, 95, 108, 105, 110, 107], [115, 112, 97, 119, 110, 95, 109, 111, 110, 105, 116, 111, 114], [108, 105, 110, 107], [117, 110, 108, 105, 110, 107], [109, 111, 110, 105, 116, 111, 114], [100, 101, 109, 111, 110, 105, 116, 111, 114], [116, 114, 97, 112, 95, 101, 120, 105, 116], [117, 110, 114, 101, 103, 105, 115, 116, 101, 114], [119, 104, 101, 114, 101, 105, 115], [112, 114, 105, 110, 116], [33], [114, 101, 103, 105, 115, 116, 101, 114], [97, 110, 100, 97, 108, 115, 111], [102], [], [32], [104, 100, 32, 116, 108]]
def kcnt (x : List UInt8) (b : Nat) : Nat := ((List.range b).filter fun (j : Nat) => decide (kindN x ((j : Int) - 1) ≠ 0)).length
def ktot (i : Nat) : Nat := ((names75.take i).map fun x => kcnt x 6).sum
theorem kcnt_step (x : List UInt8) (b : Nat) : kcnt x (b + 1) = kcnt x b + if kindN x ((b : Int) - 1) = 0 then 0 else 1 := by
  unfold kcnt
  rw [List.range_succ, List.filter_append, List.length_append]
  by_cases h : kindN x ((b : Int) - 1) = 0
  · simp [h]
  · simp [h]
theorem kcnt_le (x : List UInt8) (b : Nat) : kcnt x b ≤ b := by
  unfold kcnt
  exact Nat.le_trans (List.length_filter_le _ _) (by simp)
theorem ktot_step {i : Nat} {x : List UInt8} (h : names75[i]? = some x) : ktot (i + 1) = ktot i + kcnt x 6 := by
  unfold ktot
  rw [List.take_add_one, h]
  simp
theorem ktot_le (i : Nat) : ktot i ≤ 6 * i := by
  induction i with
  | zero => simp [ktot]
  | succ i ih =>
    cases h : names75[i]? with
    | some x => rw [ktot_step h]; have := kcnt_le x 6; omega
    | none =>
      have : ktot (i + 1) = ktot i := by unfold ktot; rw [List.take_add_one, h]; simp
      omega
theorem ktot_all : ktot 75 = 74 := by decide +kernel
theorem names_short : (names75.all fun x => decide (x.length ≤ 100)) = true := by decide +kernel
theorem wp_of_lits {P : Program} {c : Code} {Q : Exit → Act → World → Prop} {a : Act} {w : World} {cs : Array Value} (ws : List (List UInt8)) (n : Nat) (hn : ws.length = n) (hc : cs = (ws.map (fun x => Value.string ⟨x.toArray⟩)).toArray)
    (h : ∀ wn, Keeps NoB w wn → Reads wn (fun _ => True) true 1 (some ⟨w.heap.size, 0, none⟩) n (ws.map (fun x => Value.string ⟨x.toArray⟩)) → c.wp P Q a wn) : c.wp P Q a (w.alloc (.cells cs 9)) :=
  h _ ((Keeps.refl NoB w).alloc _) (lits_reads w cs ws n _ hc hn rfl)
theorem name_size {i : Nat} {x : List UInt8} (h : names75[i]? = some x) : (⟨x.toArray⟩ : ByteArray).size ≤ 140737488355328 := by
  have h1 := List.all_eq_true.1 names_short x (List.mem_of_getElem? h)
  have h2 : x.length ≤ 100 := by simpa using h1
  show x.toArray.size ≤ _
  simp
  omega
set_option maxRecDepth 100000 in
set_option maxHeartbeats 4000000 in
theorem lint_numbers (w : World) (hL : LaidN w) : Calls Tryd.prog 4 #[] w fun e w' => e = .returned (.bool true) ∧ Keeps NoB w w' := by
  have HL := hide hL
  clear hL
  go_enter Tryd.func4, Tryd.ntmps4
  go_wp2_with
    first
    | (go_at_call 7
       refine (awake_any _ HL.out).mono ?_
       rintro e w2 ⟨rfl, hk⟩
       have HK := hide hk
       clear hk)
    | fail
  refine wp_of_lits names75 75 (by decide +kernel) (by kernel_rfl) ?_
  intro w3 hk3 hrd
  have HK3 := hide (HK.out.trans' hk3 (fun _ _ => id) (fun _ _ => id) : Keeps NoB w w3)
  have HRD := hide hrd
  clear hk3 hrd HK
  go_loopg [2, 3] 75 (fun g s2 s3 wx => ∃ i : Nat, i ≤ 75 ∧ g = 75 - i ∧ s3 = .int .i64 i ∧ s2 = .int .i64 ((ktot i : Nat) : Int) ∧ Keeps NoB w3 wx)
  case atStart => exact ⟨0, by omega, rfl, rfl, by simp [ktot], Keeps.refl _ _⟩
  case round =>
    obtain ⟨i, hi, rfl, rfl, rfl, hkw⟩ := hrel
    have HKW := hide hkw; clear hkw
    by_cases hlt : i < 75
    · obtain ⟨b, o, x, hA, hx, hcell⟩ := str_cell (HRD.out.keep HKW.out (fun _ _ => id)) hlt
      injection hA with hA; injection hA with hA hA'; subst hA; subst hA'
      have hi1 : (i : Int) < 75 := by omega
      have hi0 : (0 : Int) ≤ (i : Int) := by omega
      have HX := hide hx
      have HCL := hide hcell
      have HB := hide (ktot_le i)
      clear hx hcell
      go_wp2
      rename World => wo
      go_loopg [2, 4] 6 (fun g s2 s4 wx => ∃ b : Nat, b ≤ 6 ∧ g = 6 - b ∧ s4 = .int .i64 ((b : Int) - 1) ∧ s2 = .int .i64 ((ktot i + kcnt x b : Nat) : Int) ∧ Keeps NoB wo wx)
      case atStart => exact ⟨0, by omega, rfl, rfl, by simp [kcnt], Keeps.refl _ _⟩
      case round =>
        obtain ⟨b, hb, rfl, rfl, rfl, hkv⟩ := hrel
        have HKV := hide hkv
        have hcx : wr.cell? ⟨w2.heap.size, 0 + i, none⟩ = some (.string ⟨x.toArray⟩) := hkv.cell id HCL.out
        have hcy : wr.cell? ⟨w2.heap.size, i, none⟩ = some (.string ⟨x.toArray⟩) := by rw [Nat.zero_add] at hcx; exact hcx
        have HKN := hide (kcnt_le x b)
        clear hkv hcx
        by_cases hlb : b < 6
        · have hb1 : (b : Int) - 1 < 5 := by omega
          have HST := hide (kcnt_step x b)
          have hbd : ktot i + kcnt x b ≤ 1000 := by have := HB.out; have := HKN.out; omega
          by_cases hq : kindN x ((b : Int) - 1) = 0
          · have hqb : (kindN x ((b : Int) - 1) != 0) = false := by simpa using hq
            have HQ := hide hq
            clear hq
            go_wp2_with
              first
              | (go_at_call 8
                 refine (kind_any ⟨x.toArray⟩ ((b : Int) - 1) _ (HL.out.keep (HK3.out.trans' (HKW.out.trans' HKV.out (fun _ _ => id) (fun _ _ => id) : Keeps NoB w3 wr) (fun _ _ => id) (fun _ _ => id))).kind (name_size HX.out)).mono ?_
                 rintro e w5 ⟨rfl, rfl⟩)
              | (go_at_call 9
                 refine (ref_kind_any ⟨x.toArray⟩ ((b : Int) - 1) _).mono ?_
                 rintro e w6 ⟨rfl, hk⟩
                 have HK6 := hide (HKV.out.trans' hk (fun _ _ => id) (fun _ _ => id) : Keeps NoB wo w6)
                 clear hk)
              | fail
            go_roundg (6 - (b + 1))
            case measure => omega
            case rel => exact ⟨b + 1, by omega, rfl, by go_num, by rw [HST.out, if_pos HQ.out]; go_num, HK6.out⟩
          · have hqb : (kindN x ((b : Int) - 1) != 0) = true := by simpa using hq
            have HQ := hide hq
            clear hq
            go_wp2_with
              first
              | (go_at_call 8
                 refine (kind_any ⟨x.toArray⟩ ((b : Int) - 1) _ (HL.out.keep (HK3.out.trans' (HKW.out.trans' HKV.out (fun _ _ => id) (fun _ _ => id) : Keeps NoB w3 wr) (fun _ _ => id) (fun _ _ => id))).kind (name_size HX.out)).mono ?_
                 rintro e w5 ⟨rfl, rfl⟩)
              | (go_at_call 9
                 refine (ref_kind_any ⟨x.toArray⟩ ((b : Int) - 1) _).mono ?_
                 rintro e w6 ⟨rfl, hk⟩
                 have HK6 := hide (HKV.out.trans' hk (fun _ _ => id) (fun _ _ => id) : Keeps NoB wo w6)
                 clear hk)
              | fail
            go_roundg (6 - (b + 1))
            case measure => omega
            case rel => exact ⟨b + 1, by omega, rfl, by go_num, by rw [HST.out, if_neg HQ.out]; go_num, HK6.out⟩
        · obtain rfl : b = 6 := by omega
          go_wp2
          go_roundg (75 - (i + 1))
          case measure => omega
          case rel => exact ⟨i + 1, by omega, rfl, by go_num, by rw [ktot_step HX.out], HKW.out.trans' HKV.out (fun _ _ => id) (fun _ _ => id)⟩
    · obtain rfl : i = 75 := by omega
      have ht := ktot_all
      have HT := hide ht
      clear ht
      rw [HT.out]
      go_wp2
      go_ret
      exact ⟨by simp, HK3.out.trans' HKW.out (fun _ _ => id) (fun _ _ => id)⟩
end Go.Proofs.YtincajfanhanjaaDoor
