/- checker.inner, checker.apart, of functions that hold to what is asked. -/
import Derived.Test.YtincajfanhanjaaDoorChHead
namespace Go.Proofs.YtincajfanhanjaaDoor
open Go.RowKit Go.Maps

set_option maxRecDepth 100000 in
theorem with_nil {L : List ByteArray} {m : Nat} {S : Scope} (w : World) (h1 : ScopeL w L m S) (hL : L.length < 1048576) :
    Calls Tryd.prog 38 #[.map (some m), .map none] w fun e w' => ∃ m', e = .returned (.map (some m')) ∧ ScopeL w' L m' S ∧ w.heap.size ≤ m' ∧ Keeps NoB w w' := by
  have HN := hide h1.names
  obtain ⟨D, ho, hD⟩ := h1.scope
  have HO := hide ho; have HD := hide hD; have HL := hide hL
  have hq := map_eql_some
  clear h1 ho hD hL
  go_enter Tryd.func38, Tryd.ntmps38
  go_wp2_with
    first
    | (go_at_call 47
       refine (clone_own boolR m _ D _ HO.out).mono ?_
       rintro e w1 ⟨rfl, ho1, _, hb⟩
       have HK1 := hide (Keeps.of_below hb NoB)
       have HC := hide (copy_nil w.heap.size L.length S w1 ⟨D, ho1, HD.out⟩ (by have := HL.out; unfold maxLen; omega))
       clear ho1 hb)
    | (go_at_call 48
       refine HC.out.mono ?_
       rintro e w2 ⟨rfl, hs, hk⟩
       have HS := hide hs
       have HK2 := hide hk
       clear hs hk)
    | fail
  go_ret
  refine ⟨_, rfl, ⟨HS.out, HN.out⟩, Nat.le_refl _, HK1.out.trans' HK2.out (fun _ _ => id) (fun k hk e => ?_)⟩
  subst e; exact Nat.lt_irrefl _ hk
/-- What one of the checker's functions that takes a scope does, told of its tree. -/
def OwnPost (c : Cx) (cb mg mo : Nat) (W : World) (x : Scope × Scope) (e : Ending) (w' : World) : Prop :=
  e = .returned (.tuple #[]) ∧ ScopeL w' c.L mo x.1 ∧ ∃ mg', CkS c cb w' mg' x.2 ∧ (mg' = mg ∨ W.heap.size ≤ mg')
def GonePost (c : Cx) (cb mg : Nat) (W : World) (G : Scope) (e : Ending) (w' : World) : Prop :=
  e = .returned (.tuple #[]) ∧ ∃ mg', CkS c cb w' mg' G ∧ (mg' = mg ∨ W.heap.size ≤ mg')
def innerR (S : Scope) (r : Res) : Except Flt Scope := match r with
  | .error f => .error f
  | .ok (own, G1) => .ok (goneS S own G1)
/-- What went so far: of a scope of its own, those that are no longer to come. -/
def wentS (S own G : Scope) (left : Lit → Bool) : Scope := fun x => G x || (own x && !S x && !left (.string (key x)))
theorem went_end {S own G : Scope} {left : Lit → Bool} (h : ∀ kl, left kl = false) : wentS S own G left = goneS S own G := by
  funext x; simp [wentS, goneS, h]
theorem went_start {S own G : Scope} {left : Lit → Bool} (h : ∀ x, own x = true → left (.string (key x)) = true) : wentS S own G left = G := by
  funext x
  cases ho : own x with
  | false => simp [wentS, ho]
  | true => simp [wentS, h x ho]
theorem key_same {x y : ByteArray} : (Lit.string (key x)).sameKey (.string (key y)) = decide (x = y) := by
  by_cases e : x = y
  · subst e; simp [Lit.sameKey]
  · have h : key x ≠ key y := fun h => e (key_inj h)
    have h' : ((Lit.string (key x)).sameKey (.string (key y))) = (key x == key y) := rfl
    rw [h', beq_eq_false_iff_ne.2 h, decide_eq_false e]
theorem went_put {S own G : Scope} {left : Lit → Bool} {y : ByteArray} (hy : own y = true) (hS : S y = false) : putS (wentS S own G left) y = wentS S own G (fun z => left z && !z.sameKey (.string (key y))) := by
  funext x
  simp only [putS, wentS, key_same]
  by_cases e : x = y
  · subst e; simp [hy, hS]
  · simp [e]
theorem went_stay {S own G : Scope} {left : Lit → Bool} {y : ByteArray} (hS : S y = true) : wentS S own G left = wentS S own G (fun z => left z && !z.sameKey (.string (key y))) := by
  funext x
  simp only [wentS, key_same]
  by_cases e : x = y
  · subst e; simp [hS]
  · simp [e]
theorem ScopeAt.has {D : DataW Unit} {S : Scope} (hm : IsMap D) (hD : ∀ s z, D.atKey (.string (key s)) z = if S s then .lit (.bool true) else z) (x : ByteArray) (h : S x = true) : Maps.has D (.string (key x)) = true := by
  obtain ⟨es, rfl⟩ := hm
  cases hh : Maps.has (.map es) (.string (key x)) with
  | true => rfl
  | false =>
    have h1 := hD x .nil
    rw [h] at h1
    simp [Maps.has] at hh
    simp only [DataW.atKey] at h1
    rw [List.find?_eq_none.2 (fun p hp => by simpa using hh p.1 p.2 hp)] at h1
    simp at h1
theorem own_of_at {D : DataW Unit} {S : Scope} {y : DataW Unit} (hD : ∀ s z, D.atKey (.string (key s)) z = if S s then .lit (.bool true) else z) (x : ByteArray) (h : ∀ zd, D.atKey (.string (key x)) zd = y) : S x = true := by
  cases hS : S x with
  | true => rfl
  | false =>
    have h1 := h .nil
    have h2 := h (.lit (.bool true))
    rw [hD, hS] at h1 h2
    simp at h1 h2
    rw [← h1] at h2; cases h2
theorem keyOf_key {x : ByteArray} {kl : Lit} (h : keyOf Tryd.prog 9 (.string x) = some kl) : x.size ≤ maxLen ∧ kl = .string (key x) := by
  by_cases hm : x.size ≤ maxLen
  · rw [keyOf_s hm] at h; injection h with h; exact ⟨hm, h.symm⟩
  · simp [keyOf, Tryd.underlying9, mapKey, hm] at h
theorem CkS.went {c : Cx} {cb mg : Nat} {w w' : World} {G G' : Scope} (h : CkS c cb w mg G) (hk : Keeps (fun k => k = mg) w w') (hg : ScopeL w' c.L mg G') : CkS c cb w' mg G' := by
  obtain ⟨n, hf⟩ := h.funs
  have h4 := h.cb; have h5 := h.mg
  exact ⟨h.blk.keep hk (fun e => by omega), ⟨n, hf.keep hk (fun k e => .inl (by omega))⟩, hg, h.mg, h.cb, h.laid.keep' hk (fun k hk e => by omega), h.few⟩
set_option maxRecDepth 100000 in
set_option maxHeartbeats 4000000 in
theorem inner_78 (c : Cx) (w : World) (cb mg ms : Nat) (S G : Scope) (a0 a1 : Addr) (r : Res) (hC : CkS c cb w mg G) (hS : ScopeL w c.L ms S) (hms : ms ≠ cb ∧ ms ≠ mg)
    (H : ∀ W mo, Keeps NoB w W → w.heap.size ≤ mo → ScopeL W c.L mo S → CkS c cb W mg G → Calls Tryd.prog 78 #[.map (some mo), .pointer (some a0), .pointer (some a1)] W (Ends r (fun k => k = cb ∨ k = mg ∨ k = mo) W (OwnPost c cb mg mo W))) :
    Calls Tryd.prog 77 #[.pointer (some ⟨cb, 0, none⟩), .map (some ms), .func (.func 78) #[] #[.pointer (some a0), .pointer (some a1)]] w (Ends (innerR S r) (fun k => k = cb ∨ k = mg) w (GonePost c cb mg w)) := by
  have HH := hide H
  have HC := hide hC; have HS := hide hS; have HMS := hide hms
  have hlt := hS.lt
  have hcl := hC.blk.lt
  have hgl := hC.gone.lt
  clear H hC hS hms
  go_enter Tryd.func77, Tryd.ntmps77
  go_wp2_with
    first
    | (go_at_call 38
       refine (with_nil _ HS.out HC.out.few).mono ?_
       rintro e w1 ⟨mo, rfl, hs1, hmo, hk1⟩
       have HMO := hide (And.intro hmo hs1.lt)
       have HK1 := hide hk1
       have HI := hide (HH.out w1 mo hk1 hmo hs1 (HC.out.keep0 hk1))
       clear hs1 hmo hk1)
    | (go_at_call 78
       refine HI.out.mono ?_
       rintro e w2 ⟨hk2, ⟨k9, p9, hr9, he⟩ | ⟨⟨own, G1⟩, hr9, he, ho2, mg', hc2, hm2⟩⟩
       all_goals have HK2 := hide (HK1.out.trans' (fp'' := fun k => k = cb ∨ k = mg) hk2 (fun _ _ h => h.elim) (fun i hi h => by have := HMO.out.1; rcases h with h | h | h <;> first | exact .inl h | exact .inr h | omega) : Keeps (fun k => k = cb ∨ k = mg) w w2)
       all_goals first
         | (unfold Stops at he
            have HX := hide (show innerR S r = .error (k9, p9) by rw [hr9]; rfl)
            subst he
            clear hk2 hr9 HI)
         | (have HX := hide (show innerR S r = .ok (goneS S own G1) by rw [hr9]; rfl)
            have HO2 := hide ho2; have HC2 := hide hc2
            have HM2 := hide (show mg' = mg ∨ w1.heap.size ≤ mg' from hm2)
            have HS2 := hide (HS.out.keep HK2.out (fun h => h.elim HMS.out.1 HMS.out.2))
            have HW1 := hide HK1.out.size
            obtain ⟨D, hown, hD⟩ := ho2.scope
            have HD := hide hD; have HOW := hide hown
            subst he
            clear hk2 hr9 hc2 hm2 ho2 hD hown HI))
    | (at_range
       refine wpList_range_own _ rfl _ 52 rfl 9 4 keyS Tryd.underlying52 boolR mo _ D rfl HOW.out ?_
       intro w3 hrg3 hg3 hs3)
    | fail
  · exact ⟨rfl, HK2.out, .inl ⟨_, _, HX.out, rfl⟩⟩
  · go_frame
    have HNE := hide (show ms ≠ mg' ∧ mo ≠ mg' ∧ mo ≠ cb ∧ w2.heap.size ≠ mg' ∧ w2.heap.size ≠ cb ∧ w2.heap.size ≠ mo ∧ ms ≠ w2.heap.size ∧ c.hi ≤ w2.heap.size ∧ w.heap.size ≤ w2.heap.size by
      have h1 := HMO.out.1; have h10 := HMO.out.2; have h2 := HM2.out; have h3 := HW1.out; have h4 := HC2.out.gone.lt; have h5 := HO2.out.lt; have h6 := HC2.out.blk.lt; have h7 := HS2.out.lt; have h8 := HMS.out; have h9 := HK2.out.size; have h11 := HC2.out.mg
      have h12 := h8.2
      rcases h2 with h2 | h2 <;> refine ⟨?_, ?_, ?_, ?_, ?_, ?_, ?_, ?_, ?_⟩ <;> omega)
    have HK3 := hide ((Keeps.refl NoB w2).grown hg3 (fun k e _ => by cases e))
    clear hg3 hs3
    have HRG := hide hrg3
    clear hrg3
    go_loopw [7] (fun s7 wr => ∃ left cnt, wr.ranges Tryd.prog 9 boolR mo w2.heap.size c.L.length D left cnt ∧ CkS c cb wr mg' (wentS S own G1 left) ∧ ScopeL wr c.L ms S ∧ Keeps (fun k => k = cb ∨ k = mg) w wr) (fun _ wr => wr.rangeLeft mo w2.heap.size)
    case atStart => exact ⟨_, _, HRG.out, by rw [went_start (fun x hx => ScopeAt.has HRG.out.owns.isMap HD.out x hx)]; exact HC2.out.keep0 HK3.out, HS2.out.keep HK3.out id, HK2.out.trans' HK3.out (fun _ _ => id) (fun _ _ h => h.elim)⟩
    case round =>
      obtain ⟨left, cnt, hrg, hc, hs, hkw⟩ := hrel
      have HCW := hide hc; have HSW := hide hs; have HKW := hide hkw; have HRGW := hide hrg
      clear hc hs hkw
      go_wp2_with
        first
        | (at_next
           refine wpList_next_ranges _ rfl _ rfl 9 keyS boolR Value.string Value.bool (fun k kl h => Maps.keyOf_string_inv Tryd.underlying9 h) (fun v y h => by obtain ⟨b, e, _⟩ := boolR_inv (d := y.1) (ps := y.2) h; exact ⟨b, e⟩) mo w2.heap.size _ _ _ _ rfl hrg ?_ ?_
           all_goals first
             | (intro h0 hl0
                have HL0 : Hid (∀ kl, left kl = false) := hide hl0
                clear h0 hl0 hrg HRGW)
             | (intro x cbl kl y w4 cnt4 hkey hlk hv hat hrg4 hlt4 hg4 hsz4 hen
                obtain ⟨hxs, rfl⟩ := keyOf_key hkey
                have hown : own x = true := own_of_at HD.out x hat
                have hk4 : Keeps (fun k => k = w2.heap.size) wr w4 := (Keeps.refl _ wr).grown hg4 (fun k e _ => by injection e with e; exact e.symm)
                have hc4 := HCW.out.keep hk4 (fun e => HNE.out.2.2.2.2.1 e.symm) (fun e => HNE.out.2.2.2.1 e.symm) (fun k e => by subst e; exact HNE.out.2.2.2.2.2.2.2.1)
                have hs4 := HSW.out.keep hk4 (fun e => HNE.out.2.2.2.2.2.2.1 e)
                have HK4 := hide (HKW.out.trans' (fp'' := fun k => k = cb ∨ k = mg) hk4 (fun _ _ => id) (fun i hi e => by have := HNE.out.2.2.2.2.2.2.2.2; omega) : Keeps (fun k => k = cb ∨ k = mg) w w4)
                have hM : mg' = mg ∨ w.heap.size ≤ mg' := HM2.out.imp id (fun h => Nat.le_trans HW1.out h)
                have HLE := hide (show wr.rangeLeft mo w2.heap.size = cnt ∧ cnt4 < cnt from ⟨hrg.left_eq, hlt4⟩)
                rcases hSx : S x with _ | _
                all_goals have hlook := hs4.scope.look hxs
                all_goals rw [hSx] at hlook
                all_goals first
                  | (have hP := went_put (G := G1) (left := left) hown hSx
                     obtain ⟨w5, hput, hsc5, hg5⟩ := hc4.gone.put hxs (by have := HC.out.few; unfold maxLen; omega) (HO2.out.names x hown)
                     rw [hP] at hsc5
                     have hk5 : Keeps (fun k => k = mg') w4 w5 := (Keeps.refl _ w4).grown hg5 (fun k e _ => by injection e with e; exact e.symm)
                     have HC5 := hide (hc4.went hk5 hsc5)
                     have HS5 := hide (hs4.keep hk5 HNE.out.1)
                     have HRG5 := hide (hrg4.kept hg5 (fun e => HNE.out.2.1 (by injection e)) (fun e => HNE.out.2.2.2.1 (by injection e)))
                     have HK5 := hide (HK4.out.trans' (fp'' := fun k => k = cb ∨ k = mg) hk5 (fun _ _ => id) (fun i hi e => by rcases hM with h | h <;> omega) : Keeps (fun k => k = cb ∨ k = mg) w w5)
                     have q1 : w4.cell? ⟨cb, 1, none⟩ = some (.map (some mg')) := hc4.blk.cell 1
                     clear hP hsc5 hk5 hg5 hc4 hs4 hrg4 hg4 hk4 hkey hlk hv hat hlt4 hown hSx hM hrg HRGW)
                  | (have hP := went_stay (own := own) (G := G1) (left := left) hSx
                     rw [hP] at hc4
                     have HC5 := hide hc4
                     have HS5 := hide hs4
                     have HRG5 := hide hrg4
                     clear hP hc4 hs4 hrg4 hg4 hk4 hkey hlk hv hat hlt4 hown hSx hM hrg HRGW)))
        | fail
      · go_end0
        have hf := HCW.out
        rw [went_end HL0.out] at hf
        exact ⟨HKW.out, .inr ⟨_, HX.out, rfl, mg', hf, HM2.out.imp id (fun h => Nat.le_trans HW1.out h)⟩⟩
      · go_roundw
        case measure => rw [HRG5.out.left_eq, HLE.out.1]; exact HLE.out.2
        case rel => exact ⟨_, _, HRG5.out, HC5.out, HS5.out, HK5.out⟩
      · go_roundw
        case measure => rw [HRG5.out.left_eq, HLE.out.1]; exact HLE.out.2
        case rel => exact ⟨_, _, HRG5.out, HC5.out, HS5.out, HK4.out⟩
set_option maxRecDepth 100000 in
set_option maxHeartbeats 4000000 in
theorem inner_79 (c : Cx) (w : World) (cb mg ms : Nat) (S G : Scope) (a0 a1 : Addr) (r : Res) (hC : CkS c cb w mg G) (hS : ScopeL w c.L ms S) (hms : ms ≠ cb ∧ ms ≠ mg)
    (H : ∀ W mo, Keeps NoB w W → w.heap.size ≤ mo → ScopeL W c.L mo S → CkS c cb W mg G → Calls Tryd.prog 79 #[.map (some mo), .pointer (some a0), .pointer (some a1)] W (Ends r (fun k => k = cb ∨ k = mg ∨ k = mo) W (OwnPost c cb mg mo W))) :
    Calls Tryd.prog 77 #[.pointer (some ⟨cb, 0, none⟩), .map (some ms), .func (.func 79) #[] #[.pointer (some a0), .pointer (some a1)]] w (Ends (innerR S r) (fun k => k = cb ∨ k = mg) w (GonePost c cb mg w)) := by
  have HH := hide H
  have HC := hide hC; have HS := hide hS; have HMS := hide hms
  have hlt := hS.lt
  have hcl := hC.blk.lt
  have hgl := hC.gone.lt
  clear H hC hS hms
  go_enter Tryd.func77, Tryd.ntmps77
  go_wp2_with
    first
    | (go_at_call 38
       refine (with_nil _ HS.out HC.out.few).mono ?_
       rintro e w1 ⟨mo, rfl, hs1, hmo, hk1⟩
       have HMO := hide (And.intro hmo hs1.lt)
       have HK1 := hide hk1
       have HI := hide (HH.out w1 mo hk1 hmo hs1 (HC.out.keep0 hk1))
       clear hs1 hmo hk1)
    | (go_at_call 79
       refine HI.out.mono ?_
       rintro e w2 ⟨hk2, ⟨k9, p9, hr9, he⟩ | ⟨⟨own, G1⟩, hr9, he, ho2, mg', hc2, hm2⟩⟩
       all_goals have HK2 := hide (HK1.out.trans' (fp'' := fun k => k = cb ∨ k = mg) hk2 (fun _ _ h => h.elim) (fun i hi h => by have := HMO.out.1; rcases h with h | h | h <;> first | exact .inl h | exact .inr h | omega) : Keeps (fun k => k = cb ∨ k = mg) w w2)
       all_goals first
         | (unfold Stops at he
            have HX := hide (show innerR S r = .error (k9, p9) by rw [hr9]; rfl)
            subst he
            clear hk2 hr9 HI)
         | (have HX := hide (show innerR S r = .ok (goneS S own G1) by rw [hr9]; rfl)
            have HO2 := hide ho2; have HC2 := hide hc2
            have HM2 := hide (show mg' = mg ∨ w1.heap.size ≤ mg' from hm2)
            have HS2 := hide (HS.out.keep HK2.out (fun h => h.elim HMS.out.1 HMS.out.2))
            have HW1 := hide HK1.out.size
            obtain ⟨D, hown, hD⟩ := ho2.scope
            have HD := hide hD; have HOW := hide hown
            subst he
            clear hk2 hr9 hc2 hm2 ho2 hD hown HI))
    | (at_range
       refine wpList_range_own _ rfl _ 52 rfl 9 4 keyS Tryd.underlying52 boolR mo _ D rfl HOW.out ?_
       intro w3 hrg3 hg3 hs3)
    | fail
  · exact ⟨rfl, HK2.out, .inl ⟨_, _, HX.out, rfl⟩⟩
  · go_frame
    have HNE := hide (show ms ≠ mg' ∧ mo ≠ mg' ∧ mo ≠ cb ∧ w2.heap.size ≠ mg' ∧ w2.heap.size ≠ cb ∧ w2.heap.size ≠ mo ∧ ms ≠ w2.heap.size ∧ c.hi ≤ w2.heap.size ∧ w.heap.size ≤ w2.heap.size by
      have h1 := HMO.out.1; have h10 := HMO.out.2; have h2 := HM2.out; have h3 := HW1.out; have h4 := HC2.out.gone.lt; have h5 := HO2.out.lt; have h6 := HC2.out.blk.lt; have h7 := HS2.out.lt; have h8 := HMS.out; have h9 := HK2.out.size; have h11 := HC2.out.mg
      have h12 := h8.2
      rcases h2 with h2 | h2 <;> refine ⟨?_, ?_, ?_, ?_, ?_, ?_, ?_, ?_, ?_⟩ <;> omega)
    have HK3 := hide ((Keeps.refl NoB w2).grown hg3 (fun k e _ => by cases e))
    clear hg3 hs3
    have HRG := hide hrg3
    clear hrg3
    go_loopw [7] (fun s7 wr => ∃ left cnt, wr.ranges Tryd.prog 9 boolR mo w2.heap.size c.L.length D left cnt ∧ CkS c cb wr mg' (wentS S own G1 left) ∧ ScopeL wr c.L ms S ∧ Keeps (fun k => k = cb ∨ k = mg) w wr) (fun _ wr => wr.rangeLeft mo w2.heap.size)
    case atStart => exact ⟨_, _, HRG.out, by rw [went_start (fun x hx => ScopeAt.has HRG.out.owns.isMap HD.out x hx)]; exact HC2.out.keep0 HK3.out, HS2.out.keep HK3.out id, HK2.out.trans' HK3.out (fun _ _ => id) (fun _ _ h => h.elim)⟩
    case round =>
      obtain ⟨left, cnt, hrg, hc, hs, hkw⟩ := hrel
      have HCW := hide hc; have HSW := hide hs; have HKW := hide hkw; have HRGW := hide hrg
      clear hc hs hkw
      go_wp2_with
        first
        | (at_next
           refine wpList_next_ranges _ rfl _ rfl 9 keyS boolR Value.string Value.bool (fun k kl h => Maps.keyOf_string_inv Tryd.underlying9 h) (fun v y h => by obtain ⟨b, e, _⟩ := boolR_inv (d := y.1) (ps := y.2) h; exact ⟨b, e⟩) mo w2.heap.size _ _ _ _ rfl hrg ?_ ?_
           all_goals first
             | (intro h0 hl0
                have HL0 : Hid (∀ kl, left kl = false) := hide hl0
                clear h0 hl0 hrg HRGW)
             | (intro x cbl kl y w4 cnt4 hkey hlk hv hat hrg4 hlt4 hg4 hsz4 hen
                obtain ⟨hxs, rfl⟩ := keyOf_key hkey
                have hown : own x = true := own_of_at HD.out x hat
                have hk4 : Keeps (fun k => k = w2.heap.size) wr w4 := (Keeps.refl _ wr).grown hg4 (fun k e _ => by injection e with e; exact e.symm)
                have hc4 := HCW.out.keep hk4 (fun e => HNE.out.2.2.2.2.1 e.symm) (fun e => HNE.out.2.2.2.1 e.symm) (fun k e => by subst e; exact HNE.out.2.2.2.2.2.2.2.1)
                have hs4 := HSW.out.keep hk4 (fun e => HNE.out.2.2.2.2.2.2.1 e)
                have HK4 := hide (HKW.out.trans' (fp'' := fun k => k = cb ∨ k = mg) hk4 (fun _ _ => id) (fun i hi e => by have := HNE.out.2.2.2.2.2.2.2.2; omega) : Keeps (fun k => k = cb ∨ k = mg) w w4)
                have hM : mg' = mg ∨ w.heap.size ≤ mg' := HM2.out.imp id (fun h => Nat.le_trans HW1.out h)
                have HLE := hide (show wr.rangeLeft mo w2.heap.size = cnt ∧ cnt4 < cnt from ⟨hrg.left_eq, hlt4⟩)
                rcases hSx : S x with _ | _
                all_goals have hlook := hs4.scope.look hxs
                all_goals rw [hSx] at hlook
                all_goals first
                  | (have hP := went_put (G := G1) (left := left) hown hSx
                     obtain ⟨w5, hput, hsc5, hg5⟩ := hc4.gone.put hxs (by have := HC.out.few; unfold maxLen; omega) (HO2.out.names x hown)
                     rw [hP] at hsc5
                     have hk5 : Keeps (fun k => k = mg') w4 w5 := (Keeps.refl _ w4).grown hg5 (fun k e _ => by injection e with e; exact e.symm)
                     have HC5 := hide (hc4.went hk5 hsc5)
                     have HS5 := hide (hs4.keep hk5 HNE.out.1)
                     have HRG5 := hide (hrg4.kept hg5 (fun e => HNE.out.2.1 (by injection e)) (fun e => HNE.out.2.2.2.1 (by injection e)))
                     have HK5 := hide (HK4.out.trans' (fp'' := fun k => k = cb ∨ k = mg) hk5 (fun _ _ => id) (fun i hi e => by rcases hM with h | h <;> omega) : Keeps (fun k => k = cb ∨ k = mg) w w5)
                     have q1 : w4.cell? ⟨cb, 1, none⟩ = some (.map (some mg')) := hc4.blk.cell 1
                     clear hP hsc5 hk5 hg5 hc4 hs4 hrg4 hg4 hk4 hkey hlk hv hat hlt4 hown hSx hM hrg HRGW)
                  | (have hP := went_stay (own := own) (G := G1) (left := left) hSx
                     rw [hP] at hc4
                     have HC5 := hide hc4
                     have HS5 := hide hs4
                     have HRG5 := hide hrg4
                     clear hP hc4 hs4 hrg4 hg4 hk4 hkey hlk hv hat hlt4 hown hSx hM hrg HRGW)))
        | fail
      · go_end0
        have hf := HCW.out
        rw [went_end HL0.out] at hf
        exact ⟨HKW.out, .inr ⟨_, HX.out, rfl, mg', hf, HM2.out.imp id (fun h => Nat.le_trans HW1.out h)⟩⟩
      · go_roundw
        case measure => rw [HRG5.out.left_eq, HLE.out.1]; exact HLE.out.2
        case rel => exact ⟨_, _, HRG5.out, HC5.out, HS5.out, HK5.out⟩
      · go_roundw
        case measure => rw [HRG5.out.left_eq, HLE.out.1]; exact HLE.out.2
        case rel => exact ⟨_, _, HRG5.out, HC5.out, HS5.out, HK4.out⟩
set_option maxRecDepth 100000 in
set_option maxHeartbeats 4000000 in
theorem inner_85 (c : Cx) (w : World) (cb mg ms : Nat) (S G : Scope) (a0 a1 : Addr) (r : Res) (hC : CkS c cb w mg G) (hS : ScopeL w c.L ms S) (hms : ms ≠ cb ∧ ms ≠ mg)
    (H : ∀ W mo, Keeps NoB w W → w.heap.size ≤ mo → ScopeL W c.L mo S → CkS c cb W mg G → Calls Tryd.prog 85 #[.map (some mo), .pointer (some a0), .pointer (some a1)] W (Ends r (fun k => k = cb ∨ k = mg ∨ k = mo) W (OwnPost c cb mg mo W))) :
    Calls Tryd.prog 77 #[.pointer (some ⟨cb, 0, none⟩), .map (some ms), .func (.func 85) #[] #[.pointer (some a0), .pointer (some a1)]] w (Ends (innerR S r) (fun k => k = cb ∨ k = mg) w (GonePost c cb mg w)) := by
  have HH := hide H
  have HC := hide hC; have HS := hide hS; have HMS := hide hms
  have hlt := hS.lt
  have hcl := hC.blk.lt
  have hgl := hC.gone.lt
  clear H hC hS hms
  go_enter Tryd.func77, Tryd.ntmps77
  go_wp2_with
    first
    | (go_at_call 38
       refine (with_nil _ HS.out HC.out.few).mono ?_
       rintro e w1 ⟨mo, rfl, hs1, hmo, hk1⟩
       have HMO := hide (And.intro hmo hs1.lt)
       have HK1 := hide hk1
       have HI := hide (HH.out w1 mo hk1 hmo hs1 (HC.out.keep0 hk1))
       clear hs1 hmo hk1)
    | (go_at_call 85
       refine HI.out.mono ?_
       rintro e w2 ⟨hk2, ⟨k9, p9, hr9, he⟩ | ⟨⟨own, G1⟩, hr9, he, ho2, mg', hc2, hm2⟩⟩
       all_goals have HK2 := hide (HK1.out.trans' (fp'' := fun k => k = cb ∨ k = mg) hk2 (fun _ _ h => h.elim) (fun i hi h => by have := HMO.out.1; rcases h with h | h | h <;> first | exact .inl h | exact .inr h | omega) : Keeps (fun k => k = cb ∨ k = mg) w w2)
       all_goals first
         | (unfold Stops at he
            have HX := hide (show innerR S r = .error (k9, p9) by rw [hr9]; rfl)
            subst he
            clear hk2 hr9 HI)
         | (have HX := hide (show innerR S r = .ok (goneS S own G1) by rw [hr9]; rfl)
            have HO2 := hide ho2; have HC2 := hide hc2
            have HM2 := hide (show mg' = mg ∨ w1.heap.size ≤ mg' from hm2)
            have HS2 := hide (HS.out.keep HK2.out (fun h => h.elim HMS.out.1 HMS.out.2))
            have HW1 := hide HK1.out.size
            obtain ⟨D, hown, hD⟩ := ho2.scope
            have HD := hide hD; have HOW := hide hown
            subst he
            clear hk2 hr9 hc2 hm2 ho2 hD hown HI))
    | (at_range
       refine wpList_range_own _ rfl _ 52 rfl 9 4 keyS Tryd.underlying52 boolR mo _ D rfl HOW.out ?_
       intro w3 hrg3 hg3 hs3)
    | fail
  · exact ⟨rfl, HK2.out, .inl ⟨_, _, HX.out, rfl⟩⟩
  · go_frame
    have HNE := hide (show ms ≠ mg' ∧ mo ≠ mg' ∧ mo ≠ cb ∧ w2.heap.size ≠ mg' ∧ w2.heap.size ≠ cb ∧ w2.heap.size ≠ mo ∧ ms ≠ w2.heap.size ∧ c.hi ≤ w2.heap.size ∧ w.heap.size ≤ w2.heap.size by
      have h1 := HMO.out.1; have h10 := HMO.out.2; have h2 := HM2.out; have h3 := HW1.out; have h4 := HC2.out.gone.lt; have h5 := HO2.out.lt; have h6 := HC2.out.blk.lt; have h7 := HS2.out.lt; have h8 := HMS.out; have h9 := HK2.out.size; have h11 := HC2.out.mg
      have h12 := h8.2
      rcases h2 with h2 | h2 <;> refine ⟨?_, ?_, ?_, ?_, ?_, ?_, ?_, ?_, ?_⟩ <;> omega)
    have HK3 := hide ((Keeps.refl NoB w2).grown hg3 (fun k e _ => by cases e))
    clear hg3 hs3
    have HRG := hide hrg3
    clear hrg3
    go_loopw [7] (fun s7 wr => ∃ left cnt, wr.ranges Tryd.prog 9 boolR mo w2.heap.size c.L.length D left cnt ∧ CkS c cb wr mg' (wentS S own G1 left) ∧ ScopeL wr c.L ms S ∧ Keeps (fun k => k = cb ∨ k = mg) w wr) (fun _ wr => wr.rangeLeft mo w2.heap.size)
    case atStart => exact ⟨_, _, HRG.out, by rw [went_start (fun x hx => ScopeAt.has HRG.out.owns.isMap HD.out x hx)]; exact HC2.out.keep0 HK3.out, HS2.out.keep HK3.out id, HK2.out.trans' HK3.out (fun _ _ => id) (fun _ _ h => h.elim)⟩
    case round =>
      obtain ⟨left, cnt, hrg, hc, hs, hkw⟩ := hrel
      have HCW := hide hc; have HSW := hide hs; have HKW := hide hkw; have HRGW := hide hrg
      clear hc hs hkw
      go_wp2_with
        first
        | (at_next
           refine wpList_next_ranges _ rfl _ rfl 9 keyS boolR Value.string Value.bool (fun k kl h => Maps.keyOf_string_inv Tryd.underlying9 h) (fun v y h => by obtain ⟨b, e, _⟩ := boolR_inv (d := y.1) (ps := y.2) h; exact ⟨b, e⟩) mo w2.heap.size _ _ _ _ rfl hrg ?_ ?_
           all_goals first
             | (intro h0 hl0
                have HL0 : Hid (∀ kl, left kl = false) := hide hl0
                clear h0 hl0 hrg HRGW)
             | (intro x cbl kl y w4 cnt4 hkey hlk hv hat hrg4 hlt4 hg4 hsz4 hen
                obtain ⟨hxs, rfl⟩ := keyOf_key hkey
                have hown : own x = true := own_of_at HD.out x hat
                have hk4 : Keeps (fun k => k = w2.heap.size) wr w4 := (Keeps.refl _ wr).grown hg4 (fun k e _ => by injection e with e; exact e.symm)
                have hc4 := HCW.out.keep hk4 (fun e => HNE.out.2.2.2.2.1 e.symm) (fun e => HNE.out.2.2.2.1 e.symm) (fun k e => by subst e; exact HNE.out.2.2.2.2.2.2.2.1)
                have hs4 := HSW.out.keep hk4 (fun e => HNE.out.2.2.2.2.2.2.1 e)
                have HK4 := hide (HKW.out.trans' (fp'' := fun k => k = cb ∨ k = mg) hk4 (fun _ _ => id) (fun i hi e => by have := HNE.out.2.2.2.2.2.2.2.2; omega) : Keeps (fun k => k = cb ∨ k = mg) w w4)
                have hM : mg' = mg ∨ w.heap.size ≤ mg' := HM2.out.imp id (fun h => Nat.le_trans HW1.out h)
                have HLE := hide (show wr.rangeLeft mo w2.heap.size = cnt ∧ cnt4 < cnt from ⟨hrg.left_eq, hlt4⟩)
                rcases hSx : S x with _ | _
                all_goals have hlook := hs4.scope.look hxs
                all_goals rw [hSx] at hlook
                all_goals first
                  | (have hP := went_put (G := G1) (left := left) hown hSx
                     obtain ⟨w5, hput, hsc5, hg5⟩ := hc4.gone.put hxs (by have := HC.out.few; unfold maxLen; omega) (HO2.out.names x hown)
                     rw [hP] at hsc5
                     have hk5 : Keeps (fun k => k = mg') w4 w5 := (Keeps.refl _ w4).grown hg5 (fun k e _ => by injection e with e; exact e.symm)
                     have HC5 := hide (hc4.went hk5 hsc5)
                     have HS5 := hide (hs4.keep hk5 HNE.out.1)
                     have HRG5 := hide (hrg4.kept hg5 (fun e => HNE.out.2.1 (by injection e)) (fun e => HNE.out.2.2.2.1 (by injection e)))
                     have HK5 := hide (HK4.out.trans' (fp'' := fun k => k = cb ∨ k = mg) hk5 (fun _ _ => id) (fun i hi e => by rcases hM with h | h <;> omega) : Keeps (fun k => k = cb ∨ k = mg) w w5)
                     have q1 : w4.cell? ⟨cb, 1, none⟩ = some (.map (some mg')) := hc4.blk.cell 1
                     clear hP hsc5 hk5 hg5 hc4 hs4 hrg4 hg4 hk4 hkey hlk hv hat hlt4 hown hSx hM hrg HRGW)
                  | (have hP := went_stay (own := own) (G := G1) (left := left) hSx
                     rw [hP] at hc4
                     have HC5 := hide hc4
                     have HS5 := hide hs4
                     have HRG5 := hide hrg4
                     clear hP hc4 hs4 hrg4 hg4 hk4 hkey hlk hv hat hlt4 hown hSx hM hrg HRGW)))
        | fail
      · go_end0
        have hf := HCW.out
        rw [went_end HL0.out] at hf
        exact ⟨HKW.out, .inr ⟨_, HX.out, rfl, mg', hf, HM2.out.imp id (fun h => Nat.le_trans HW1.out h)⟩⟩
      · go_roundw
        case measure => rw [HRG5.out.left_eq, HLE.out.1]; exact HLE.out.2
        case rel => exact ⟨_, _, HRG5.out, HC5.out, HS5.out, HK5.out⟩
      · go_roundw
        case measure => rw [HRG5.out.left_eq, HLE.out.1]; exact HLE.out.2
        case rel => exact ⟨_, _, HRG5.out, HC5.out, HS5.out, HK4.out⟩
set_option maxRecDepth 100000 in
set_option maxHeartbeats 4000000 in
theorem inner_86 (c : Cx) (w : World) (cb mg ms : Nat) (S G : Scope) (a0 a1 : Addr) (r : Res) (hC : CkS c cb w mg G) (hS : ScopeL w c.L ms S) (hms : ms ≠ cb ∧ ms ≠ mg)
    (H : ∀ W mo, Keeps NoB w W → w.heap.size ≤ mo → ScopeL W c.L mo S → CkS c cb W mg G → Calls Tryd.prog 86 #[.map (some mo), .pointer (some a0), .pointer (some a1)] W (Ends r (fun k => k = cb ∨ k = mg ∨ k = mo) W (OwnPost c cb mg mo W))) :
    Calls Tryd.prog 77 #[.pointer (some ⟨cb, 0, none⟩), .map (some ms), .func (.func 86) #[] #[.pointer (some a0), .pointer (some a1)]] w (Ends (innerR S r) (fun k => k = cb ∨ k = mg) w (GonePost c cb mg w)) := by
  have HH := hide H
  have HC := hide hC; have HS := hide hS; have HMS := hide hms
  have hlt := hS.lt
  have hcl := hC.blk.lt
  have hgl := hC.gone.lt
  clear H hC hS hms
  go_enter Tryd.func77, Tryd.ntmps77
  go_wp2_with
    first
    | (go_at_call 38
       refine (with_nil _ HS.out HC.out.few).mono ?_
       rintro e w1 ⟨mo, rfl, hs1, hmo, hk1⟩
       have HMO := hide (And.intro hmo hs1.lt)
       have HK1 := hide hk1
       have HI := hide (HH.out w1 mo hk1 hmo hs1 (HC.out.keep0 hk1))
       clear hs1 hmo hk1)
    | (go_at_call 86
       refine HI.out.mono ?_
       rintro e w2 ⟨hk2, ⟨k9, p9, hr9, he⟩ | ⟨⟨own, G1⟩, hr9, he, ho2, mg', hc2, hm2⟩⟩
       all_goals have HK2 := hide (HK1.out.trans' (fp'' := fun k => k = cb ∨ k = mg) hk2 (fun _ _ h => h.elim) (fun i hi h => by have := HMO.out.1; rcases h with h | h | h <;> first | exact .inl h | exact .inr h | omega) : Keeps (fun k => k = cb ∨ k = mg) w w2)
       all_goals first
         | (unfold Stops at he
            have HX := hide (show innerR S r = .error (k9, p9) by rw [hr9]; rfl)
            subst he
            clear hk2 hr9 HI)
         | (have HX := hide (show innerR S r = .ok (goneS S own G1) by rw [hr9]; rfl)
            have HO2 := hide ho2; have HC2 := hide hc2
            have HM2 := hide (show mg' = mg ∨ w1.heap.size ≤ mg' from hm2)
            have HS2 := hide (HS.out.keep HK2.out (fun h => h.elim HMS.out.1 HMS.out.2))
            have HW1 := hide HK1.out.size
            obtain ⟨D, hown, hD⟩ := ho2.scope
            have HD := hide hD; have HOW := hide hown
            subst he
            clear hk2 hr9 hc2 hm2 ho2 hD hown HI))
    | (at_range
       refine wpList_range_own _ rfl _ 52 rfl 9 4 keyS Tryd.underlying52 boolR mo _ D rfl HOW.out ?_
       intro w3 hrg3 hg3 hs3)
    | fail
  · exact ⟨rfl, HK2.out, .inl ⟨_, _, HX.out, rfl⟩⟩
  · go_frame
    have HNE := hide (show ms ≠ mg' ∧ mo ≠ mg' ∧ mo ≠ cb ∧ w2.heap.size ≠ mg' ∧ w2.heap.size ≠ cb ∧ w2.heap.size ≠ mo ∧ ms ≠ w2.heap.size ∧ c.hi ≤ w2.heap.size ∧ w.heap.size ≤ w2.heap.size by
      have h1 := HMO.out.1; have h10 := HMO.out.2; have h2 := HM2.out; have h3 := HW1.out; have h4 := HC2.out.gone.lt; have h5 := HO2.out.lt; have h6 := HC2.out.blk.lt; have h7 := HS2.out.lt; have h8 := HMS.out; have h9 := HK2.out.size; have h11 := HC2.out.mg
      have h12 := h8.2
      rcases h2 with h2 | h2 <;> refine ⟨?_, ?_, ?_, ?_, ?_, ?_, ?_, ?_, ?_⟩ <;> omega)
    have HK3 := hide ((Keeps.refl NoB w2).grown hg3 (fun k e _ => by cases e))
    clear hg3 hs3
    have HRG := hide hrg3
    clear hrg3
    go_loopw [7] (fun s7 wr => ∃ left cnt, wr.ranges Tryd.prog 9 boolR mo w2.heap.size c.L.length D left cnt ∧ CkS c cb wr mg' (wentS S own G1 left) ∧ ScopeL wr c.L ms S ∧ Keeps (fun k => k = cb ∨ k = mg) w wr) (fun _ wr => wr.rangeLeft mo w2.heap.size)
    case atStart => exact ⟨_, _, HRG.out, by rw [went_start (fun x hx => ScopeAt.has HRG.out.owns.isMap HD.out x hx)]; exact HC2.out.keep0 HK3.out, HS2.out.keep HK3.out id, HK2.out.trans' HK3.out (fun _ _ => id) (fun _ _ h => h.elim)⟩
    case round =>
      obtain ⟨left, cnt, hrg, hc, hs, hkw⟩ := hrel
      have HCW := hide hc; have HSW := hide hs; have HKW := hide hkw; have HRGW := hide hrg
      clear hc hs hkw
      go_wp2_with
        first
        | (at_next
           refine wpList_next_ranges _ rfl _ rfl 9 keyS boolR Value.string Value.bool (fun k kl h => Maps.keyOf_string_inv Tryd.underlying9 h) (fun v y h => by obtain ⟨b, e, _⟩ := boolR_inv (d := y.1) (ps := y.2) h; exact ⟨b, e⟩) mo w2.heap.size _ _ _ _ rfl hrg ?_ ?_
           all_goals first
             | (intro h0 hl0
                have HL0 : Hid (∀ kl, left kl = false) := hide hl0
                clear h0 hl0 hrg HRGW)
             | (intro x cbl kl y w4 cnt4 hkey hlk hv hat hrg4 hlt4 hg4 hsz4 hen
                obtain ⟨hxs, rfl⟩ := keyOf_key hkey
                have hown : own x = true := own_of_at HD.out x hat
                have hk4 : Keeps (fun k => k = w2.heap.size) wr w4 := (Keeps.refl _ wr).grown hg4 (fun k e _ => by injection e with e; exact e.symm)
                have hc4 := HCW.out.keep hk4 (fun e => HNE.out.2.2.2.2.1 e.symm) (fun e => HNE.out.2.2.2.1 e.symm) (fun k e => by subst e; exact HNE.out.2.2.2.2.2.2.2.1)
                have hs4 := HSW.out.keep hk4 (fun e => HNE.out.2.2.2.2.2.2.1 e)
                have HK4 := hide (HKW.out.trans' (fp'' := fun k => k = cb ∨ k = mg) hk4 (fun _ _ => id) (fun i hi e => by have := HNE.out.2.2.2.2.2.2.2.2; omega) : Keeps (fun k => k = cb ∨ k = mg) w w4)
                have hM : mg' = mg ∨ w.heap.size ≤ mg' := HM2.out.imp id (fun h => Nat.le_trans HW1.out h)
                have HLE := hide (show wr.rangeLeft mo w2.heap.size = cnt ∧ cnt4 < cnt from ⟨hrg.left_eq, hlt4⟩)
                rcases hSx : S x with _ | _
                all_goals have hlook := hs4.scope.look hxs
                all_goals rw [hSx] at hlook
                all_goals first
                  | (have hP := went_put (G := G1) (left := left) hown hSx
                     obtain ⟨w5, hput, hsc5, hg5⟩ := hc4.gone.put hxs (by have := HC.out.few; unfold maxLen; omega) (HO2.out.names x hown)
                     rw [hP] at hsc5
                     have hk5 : Keeps (fun k => k = mg') w4 w5 := (Keeps.refl _ w4).grown hg5 (fun k e _ => by injection e with e; exact e.symm)
                     have HC5 := hide (hc4.went hk5 hsc5)
                     have HS5 := hide (hs4.keep hk5 HNE.out.1)
                     have HRG5 := hide (hrg4.kept hg5 (fun e => HNE.out.2.1 (by injection e)) (fun e => HNE.out.2.2.2.1 (by injection e)))
                     have HK5 := hide (HK4.out.trans' (fp'' := fun k => k = cb ∨ k = mg) hk5 (fun _ _ => id) (fun i hi e => by rcases hM with h | h <;> omega) : Keeps (fun k => k = cb ∨ k = mg) w w5)
                     have q1 : w4.cell? ⟨cb, 1, none⟩ = some (.map (some mg')) := hc4.blk.cell 1
                     clear hP hsc5 hk5 hg5 hc4 hs4 hrg4 hg4 hk4 hkey hlk hv hat hlt4 hown hSx hM hrg HRGW)
                  | (have hP := went_stay (own := own) (G := G1) (left := left) hSx
                     rw [hP] at hc4
                     have HC5 := hide hc4
                     have HS5 := hide hs4
                     have HRG5 := hide hrg4
                     clear hP hc4 hs4 hrg4 hg4 hk4 hkey hlk hv hat hlt4 hown hSx hM hrg HRGW)))
        | fail
      · go_end0
        have hf := HCW.out
        rw [went_end HL0.out] at hf
        exact ⟨HKW.out, .inr ⟨_, HX.out, rfl, mg', hf, HM2.out.imp id (fun h => Nat.le_trans HW1.out h)⟩⟩
      · go_roundw
        case measure => rw [HRG5.out.left_eq, HLE.out.1]; exact HLE.out.2
        case rel => exact ⟨_, _, HRG5.out, HC5.out, HS5.out, HK5.out⟩
      · go_roundw
        case measure => rw [HRG5.out.left_eq, HLE.out.1]; exact HLE.out.2
        case rel => exact ⟨_, _, HRG5.out, HC5.out, HS5.out, HK4.out⟩
set_option maxRecDepth 100000 in
set_option maxHeartbeats 4000000 in
theorem apart_75 {α : Type} (c : Cx) (w : World) (cb mg : Nat) (G : Scope) (a0 a1 a2 : Addr) (r : Except Flt α) (hC : CkS c cb w mg G)
    (H : ∀ W, Keeps NoB w W → CkS c cb W mg G → Calls Tryd.prog 75 #[.pointer (some a0), .pointer (some a1), .pointer (some a2)] W (Ends r (fun k => k = cb ∨ k = mg) W fun _ e w' => e = .returned (.tuple #[]) ∧ ∃ mg' G', CkS c cb w' mg' G')) :
    Calls Tryd.prog 74 #[.pointer (some ⟨cb, 0, none⟩), .func (.func 75) #[] #[.pointer (some a0), .pointer (some a1), .pointer (some a2)]] w (Ends r (fun k => k = cb ∨ k = mg) w fun _ e w' => GonePost c cb mg w G e w') := by
  have HH := hide H
  have HC := hide hC
  have hcl := hC.blk.lt
  have hgl := hC.gone.lt
  obtain ⟨D, ho, hD⟩ := hC.gone.scope
  have HO := hide ho; have HD := hide hD
  have q1 : w.cell? ⟨cb, 1, none⟩ = some (.map (some mg)) := hC.blk.cell 1
  clear H hC ho hD
  go_enter Tryd.func74, Tryd.ntmps74
  go_wp2_with
    first
    | (go_at_call 47
       refine (clone_own boolR mg _ D _ HO.out).mono ?_
       rintro e w1 ⟨rfl, ho1, _, hb⟩
       have hk1 := Keeps.of_below hb NoB
       have HS1 : Hid (ScopeL w1 c.L w.heap.size G) := hide ⟨⟨D, ho1, HD.out⟩, HC.out.gone.names⟩
       have HK1 := hide hk1
       have HI := hide (HH.out w1 hk1 (HC.out.keep0 hk1))
       clear ho1 hb hk1)
    | (go_at_call 75
       refine HI.out.mono ?_
       rintro e w2 ⟨hk2, ⟨k9, p9, hr9, he⟩ | ⟨x9, hr9, he, mg', G', hc2⟩⟩
       all_goals have HK2 := hide (HK1.out.trans' (fp'' := fun k => k = cb ∨ k = mg) hk2 (fun _ _ h => h.elim) (fun _ _ => id) : Keeps (fun k => k = cb ∨ k = mg) w w2)
       all_goals first
         | (unfold Stops at he
            have HX := hide hr9
            subst he
            clear hk2 hr9 HI)
         | (have HX := hide hr9
            have HC2 := hide hc2
            have HS2 := hide (HS1.out.keep hk2 (fun h => by omega))
            have hb2 : Blk w2 cb 54 #[.map (some c.mf), .map (some mg')] := hc2.blk
            have c1 : w2.cell? ⟨cb, 1, none⟩ = some (.map (some mg')) := hb2.cell 1
            have z1 : w2.frozen? ⟨cb, 1, none⟩ = false := hb2.free 1
            have HB2 := hide hb2
            subst he
            clear hk2 hr9 hc2 HI hb2))
    | fail
  · exact ⟨rfl, HK2.out, .inl ⟨_, _, HX.out, rfl⟩⟩
  · go_end0
    have hk3 : Keeps (fun k => k = cb) w2 (w2.setCell ⟨cb, 1, none⟩ (.map (some w.heap.size))) := (Keeps.refl (fun k => k = cb) w2).setCell (p := ⟨cb, 1, none⟩) (.inl rfl) _
    have h4 := HC2.out.cb
    have h5 := HC.out.mg
    obtain ⟨n, hf⟩ := HC2.out.funs
    have hhi : c.hi ≤ w.heap.size := by omega
    exact ⟨HK2.out.trans' hk3 (fun _ _ => id) (fun _ _ h => .inl h), .inr ⟨x9, HX.out, rfl, w.heap.size, ⟨HB2.out.put 1 _, ⟨n, hf.keep hk3 (fun k e => .inr e)⟩, HS2.out.keep hk3 (fun e => by omega), hhi, h4, HC2.out.laid.keep' hk3 (fun k hk e => by omega), HC.out.few⟩, .inr (Nat.le_refl _)⟩⟩
set_option maxRecDepth 100000 in
set_option maxHeartbeats 4000000 in
theorem apart_80 {α : Type} (c : Cx) (w : World) (cb mg : Nat) (G : Scope) (a0 a1 a2 : Addr) (r : Except Flt α) (hC : CkS c cb w mg G)
    (H : ∀ W, Keeps NoB w W → CkS c cb W mg G → Calls Tryd.prog 80 #[.pointer (some a0), .pointer (some a1), .pointer (some a2)] W (Ends r (fun k => k = cb ∨ k = mg) W fun _ e w' => e = .returned (.tuple #[]) ∧ ∃ mg' G', CkS c cb w' mg' G')) :
    Calls Tryd.prog 74 #[.pointer (some ⟨cb, 0, none⟩), .func (.func 80) #[] #[.pointer (some a0), .pointer (some a1), .pointer (some a2)]] w (Ends r (fun k => k = cb ∨ k = mg) w fun _ e w' => GonePost c cb mg w G e w') := by
  have HH := hide H
  have HC := hide hC
  have hcl := hC.blk.lt
  have hgl := hC.gone.lt
  obtain ⟨D, ho, hD⟩ := hC.gone.scope
  have HO := hide ho; have HD := hide hD
  have q1 : w.cell? ⟨cb, 1, none⟩ = some (.map (some mg)) := hC.blk.cell 1
  clear H hC ho hD
  go_enter Tryd.func74, Tryd.ntmps74
  go_wp2_with
    first
    | (go_at_call 47
       refine (clone_own boolR mg _ D _ HO.out).mono ?_
       rintro e w1 ⟨rfl, ho1, _, hb⟩
       have hk1 := Keeps.of_below hb NoB
       have HS1 : Hid (ScopeL w1 c.L w.heap.size G) := hide ⟨⟨D, ho1, HD.out⟩, HC.out.gone.names⟩
       have HK1 := hide hk1
       have HI := hide (HH.out w1 hk1 (HC.out.keep0 hk1))
       clear ho1 hb hk1)
    | (go_at_call 80
       refine HI.out.mono ?_
       rintro e w2 ⟨hk2, ⟨k9, p9, hr9, he⟩ | ⟨x9, hr9, he, mg', G', hc2⟩⟩
       all_goals have HK2 := hide (HK1.out.trans' (fp'' := fun k => k = cb ∨ k = mg) hk2 (fun _ _ h => h.elim) (fun _ _ => id) : Keeps (fun k => k = cb ∨ k = mg) w w2)
       all_goals first
         | (unfold Stops at he
            have HX := hide hr9
            subst he
            clear hk2 hr9 HI)
         | (have HX := hide hr9
            have HC2 := hide hc2
            have HS2 := hide (HS1.out.keep hk2 (fun h => by omega))
            have hb2 : Blk w2 cb 54 #[.map (some c.mf), .map (some mg')] := hc2.blk
            have c1 : w2.cell? ⟨cb, 1, none⟩ = some (.map (some mg')) := hb2.cell 1
            have z1 : w2.frozen? ⟨cb, 1, none⟩ = false := hb2.free 1
            have HB2 := hide hb2
            subst he
            clear hk2 hr9 hc2 HI hb2))
    | fail
  · exact ⟨rfl, HK2.out, .inl ⟨_, _, HX.out, rfl⟩⟩
  · go_end0
    have hk3 : Keeps (fun k => k = cb) w2 (w2.setCell ⟨cb, 1, none⟩ (.map (some w.heap.size))) := (Keeps.refl (fun k => k = cb) w2).setCell (p := ⟨cb, 1, none⟩) (.inl rfl) _
    have h4 := HC2.out.cb
    have h5 := HC.out.mg
    obtain ⟨n, hf⟩ := HC2.out.funs
    have hhi : c.hi ≤ w.heap.size := by omega
    exact ⟨HK2.out.trans' hk3 (fun _ _ => id) (fun _ _ h => .inl h), .inr ⟨x9, HX.out, rfl, w.heap.size, ⟨HB2.out.put 1 _, ⟨n, hf.keep hk3 (fun k e => .inr e)⟩, HS2.out.keep hk3 (fun e => by omega), hhi, h4, HC2.out.laid.keep' hk3 (fun k hk e => by omega), HC.out.few⟩, .inr (Nat.le_refl _)⟩⟩
end Go.Proofs.YtincajfanhanjaaDoor
