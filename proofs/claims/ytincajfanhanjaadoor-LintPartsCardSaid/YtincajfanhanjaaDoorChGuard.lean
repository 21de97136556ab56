/- checker.guard of any tree; arities; head. -/
import Derived.Test.YtincajfanhanjaaDoorChPat
namespace Go.Proofs.YtincajfanhanjaaDoor
open Go.RowKit Go.Maps

/-- An item's kids are items, but of some. -/
theorem okM_kids {k : Int} {tx : ByteArray} {num pl : Int} {kids : List Nd} (h : okM 0 (.mk k tx num pl kids) = true) (hk : k ≠ 10 ∧ k ≠ 12 ∧ k ≠ 13 ∧ k ≠ 14 ∧ k ≠ 16 ∧ k ≠ 17) : ∀ t ∈ kids, okM 0 t = true := by
  rw [okM_zero, Bool.and_eq_true] at h
  have h2 := h.2
  unfold kidsM at h2
  rw [if_neg hk.1, if_neg hk.2.1, if_neg hk.2.2.1, if_neg hk.2.2.2.1, if_neg hk.2.2.2.2.1, if_neg hk.2.2.2.2.2, okAs_nil, List.all_eq_true] at h2
  exact h2
theorem okM_least {k : Int} {tx : ByteArray} {num pl : Int} {kids : List Nd} {t q m : Int} {least : Nat} {most : Int} (h : okM 0 (.mk k tx num pl kids) = true) (hs : shapeN k = some (t, q, m, least, most)) : least ≤ kids.length ∧ (most < 0 ∨ (kids.length : Int) ≤ most) ∧ 0 ≤ num ∧ num ≤ m := by
  rw [okM_zero, Bool.and_eq_true] at h
  have h1 := h.1
  unfold itemH at h1
  rw [hs] at h1
  simp only [Bool.and_eq_true, decide_eq_true_eq, Bool.or_eq_true] at h1
  obtain ⟨_, ⟨⟨⟨⟨h2, h3⟩, h4⟩, h5⟩, _⟩, _⟩ := h1
  exact ⟨h4, h5, h2, h3⟩
theorem andalso_toList : andalsoW = [97, 110, 100, 97, 108, 115, 111] := rfl
def GuardOf (t : Nd) : Prop := ∀ (w : World) (B : Nat → Prop) (F : Bool) (c : Cx) (cb mg ms : Nat) (S G : Scope) (kd : Int) (tx : ByteArray) (nm pl : Int) (ka : Option Addr) (kn kc : Nat), NodeIn w B F [.int .u8 kd, .string tx, .int .i64 nm, .int .i64 pl, .slice ka kn kc] t → CkS c cb w mg G → ScopeL w c.L ms S → okN t → okM 0 t = true →
  Calls Tryd.prog 35 #[.pointer (some ⟨cb, 0, none⟩), .agg #[.int .u8 kd, .string tx, .int .i64 nm, .int .i64 pl, .slice ka kn kc], .map (some ms)] w (Ends (guardN t S G) NoB w fun _ e _ => e = .returned (.tuple #[]))
set_option maxRecDepth 100000 in
set_option maxHeartbeats 4000000 in
theorem guard_walk (M : Nat) (IH : ∀ t : Nd, t.size ≤ M → GuardOf t) (t : Nd) (hM : t.size ≤ M + 1) : GuardOf t := by
  intro w B F c cb mg ms S G kd tx nm pl ka kn kc ht hC hS ho hm
  obtain ⟨kids, css, rfl, hroom, hr, hc, hkl⟩ := ht.kidsIn
  have hks : Nd.size.sizes kids ≤ M := by simp only [Nd.size] at hM; omega
  unfold okN at ho
  have htx : tx.size ≤ 140737488355328 := ho.2.1
  have hokk := okNs_mem ho.2.2.2.2
  have HK := hide ((Keeps.refl NoB w).alloc (.cells #[.int .u8 kd, .string tx, .int .i64 nm, .int .i64 pl, .slice ka kn kc] 29))
  have hnm : kn ≤ 9223372036854775807 := by have := hroom.1.len (by omega); unfold maxLen at this; exact this
  by_cases h1 : kd = 1 ∨ kd = 2 ∨ kd = 4 ∨ kd = 5 ∨ kd = 6
  · have HE : Hid (guardN (.mk kd tx nm pl kids) S G = foldE (fun t (_ : Unit) => guardN t S G) kids ()) := hide ((show guardN (.mk kd tx nm pl kids) S G = guardsN kids S G by unfold guardN; rw [if_pos h1]).trans (guards_fold S G kids))
    have HOM := hide (okM_kids hm (by omega))
    have HKS := hide hks; have HR := hide hr; have HC := hide hc; have HKL := hide hkl; have HIH := hide IH; have HCK := hide hC; have HS := hide hS; have HOK := hide hokk
    clear ht ho hC hS hr hc hokk hroom hks IH hM hm hkl
    rcases h1 with rfl | rfl | rfl | rfl | rfl <;> (
      go_enter Tryd.func35, Tryd.ntmps35
      go_wp2
      go_loopg [70] kn (fun g s70 wx => ∃ k : Nat, k ≤ kn ∧ g = kn - k ∧ s70 = .int .i64 k ∧ foldE (fun t (_ : Unit) => guardN t S G) (List.take k kids) () = .ok () ∧ Keeps NoB w wx)
      case atStart => exact ⟨0, Nat.zero_le _, rfl, rfl, by simp [foldE], HK.out⟩
      case round =>
        obtain ⟨k, hk, rfl, rfl, hf, hkw⟩ := hrel
        have HKW := hide hkw; have HF := hide hf; clear hkw hf
        by_cases hlt : k < kn
        · obtain ⟨b9, o9, kd1, tx1, nm1, pl1, ka1, kn1, kc1, t1, hA, _, _, h1, hsz, hu, f0, f1, f2, f3, f4⟩ := node_at (HR.out.keep HKW.out (fun _ _ => id)) (NodesIn.keep HKW.out (fun _ _ => id) _ _ HC.out) k hlt
          subst hA
          have HU := hide hu; have H1 := hide h1
          have HT := hide (show t1.size ≤ M from Nat.le_trans hsz HKS.out)
          have HM := hide (List.mem_of_getElem? h1)
          clear h1 hu hsz
          have hk1 : (k : Int) < (kn : Int) := by omega
          have hk0 : (0 : Int) ≤ (k : Int) := by omega
          go_wp2_with
            first
            | (go_at_call 35
               have hka := HKW.out.alloc (.cells #[.int .u8 kd1, .string tx1, .int .i64 nm1, .int .i64 pl1, .slice ka1 kn1 kc1] 29)
               refine (HIH.out t1 HT.out _ B F c cb mg ms S G kd1 tx1 nm1 pl1 ka1 kn1 kc1 (NodeIn.keep ((Keeps.refl NoB _).alloc _) (fun _ _ => id) _ _ HU.out) (HCK.out.keep0 hka) (HS.out.keep hka id) (HOK.out _ HM.out) (HOM.out _ HM.out)).mono ?_
               rintro e w2 ⟨hk2, ⟨k9, p9, hr9, he⟩ | ⟨S2, hr9, he⟩⟩
               all_goals have HK2 := hide (hka.trans' hk2 (fun _ _ => id) (fun _ _ => id) : Keeps NoB w w2)
               all_goals first
                 | (have HX := hide (foldE_stop (f := fun t (_ : Unit) => guardN t S G) H1.out HF.out hr9)
                    unfold Stops at he
                    subst he
                    clear hk2 hr9 hka)
                 | (have HX := hide (foldE_step (f := fun t (_ : Unit) => guardN t S G) H1.out HF.out hr9)
                    subst he
                    clear hk2 hr9 hka))
            | fail
          · exact ⟨rfl, HK2.out, .inl ⟨_, _, HE.out.trans HX.out, rfl⟩⟩
          · go_roundg (kn - (k + 1))
            case measure => omega
            case rel => exact ⟨k + 1, by omega, rfl, by go_num, HX.out, HK2.out⟩
        · obtain rfl : k = kn := by omega
          have he : List.take k kids = kids := List.take_of_length_le (by have := HKL.out; omega)
          have HX := hide (he ▸ HF.out)
          clear he
          go_wp2
          go_end0
          exact ⟨HKW.out, .inr ⟨(), HE.out.trans HX.out, rfl⟩⟩
      done)
  · by_cases h3 : kd = 3
    · subst h3
      have hkn : kn = 0 := by have h := okM_least hm (show shapeN 3 = some (118, 0, 0, 0, 0) from rfl); omega
      subst hkn
      obtain rfl : kids = [] := List.length_eq_zero_iff.1 hkl
      have HE : Hid (guardN (.mk 3 tx nm pl []) S G = varF tx pl S G) := hide (by unfold guardN; rw [if_neg (by decide), if_pos rfl]; cases varF tx pl S G <;> simp [guardsN])
      have hw : Keeps NoB w (w.alloc (.cells #[.int .u8 3, .string tx, .int .i64 nm, .int .i64 pl, .slice ka 0 kc] 29)) := (Keeps.refl NoB w).alloc _
      have HV := hide (variable_any c _ cb mg ms G S 3 tx nm pl ka 0 kc (hC.keep0 hw) (hS.keep hw id) (by unfold maxLen; omega))
      clear ht ho hC hS hr hc hokk hroom hks IH hM hm hkl hw
      go_enter Tryd.func35, Tryd.ntmps35
      go_wp2_with
        first
        | (go_at_call 45
           refine HV.out.mono ?_
           rintro e w2 ⟨hk2, ⟨k9, p9, hr9, he⟩ | ⟨S2, hr9, he⟩⟩
           all_goals have HK2 := hide (HK.out.trans' hk2 (fun _ _ => id) (fun _ _ => id) : Keeps NoB w w2)
           all_goals have HX := hide (HE.out.trans hr9)
           all_goals clear hk2 hr9
           all_goals first
             | (unfold Stops at he
                subst he
                clear HK HV HE)
             | (subst he
                clear HK HV HE))
        | fail
      · exact ⟨rfl, HK2.out, .inl ⟨_, _, HX.out, rfl⟩⟩
      · refine wp_loop_rounds 1 ?_
        rw [rounds_succ]
        go_wp2
        go_end0
        exact ⟨HK2.out, .inr ⟨_, HX.out, rfl⟩⟩
    · by_cases h7 : kd = 7
      · subst h7
        have HOM := hide (okM_kids hm (by omega))
        have HKS := hide hks; have HR := hide hr; have HC := hide hc; have HKL := hide hkl; have HIH := hide IH; have HCK := hide hC; have HS := hide hS; have HOK := hide hokk
        have HLK := hide hC.laid.kind
        by_cases ha : tx.toList = [97, 110, 100, 97, 108, 115, 111]
        · have HE : Hid (guardN (.mk 7 tx nm pl kids) S G = foldE (fun t (_ : Unit) => guardN t S G) kids ()) := hide ((show guardN (.mk 7 tx nm pl kids) S G = guardsN kids S G by unfold guardN; rw [if_neg (by decide), if_neg (by decide), if_pos rfl, if_pos (.inl ha)]).trans (guards_fold S G kids))
          have hab : (tx.toList == [97, 110, 100, 97, 108, 115, 111]) = true := by simpa using ha
          clear ht ho hC hS hr hc hokk hroom hks IH hM hm hkl h1 h3 ha
          go_enter Tryd.func35, Tryd.ntmps35
          go_wp2
          go_loopg [70] kn (fun g s70 wx => ∃ k : Nat, k ≤ kn ∧ g = kn - k ∧ s70 = .int .i64 k ∧ foldE (fun t (_ : Unit) => guardN t S G) (List.take k kids) () = .ok () ∧ Keeps NoB w wx)
          case atStart => exact ⟨0, Nat.zero_le _, rfl, rfl, by simp [foldE], HK.out⟩
          case round =>
            obtain ⟨k, hk, rfl, rfl, hf, hkw⟩ := hrel
            have HKW := hide hkw; have HF := hide hf; clear hkw hf
            by_cases hlt : k < kn
            · obtain ⟨b9, o9, kd1, tx1, nm1, pl1, ka1, kn1, kc1, t1, hA, _, _, h1, hsz, hu, f0, f1, f2, f3, f4⟩ := node_at (HR.out.keep HKW.out (fun _ _ => id)) (NodesIn.keep HKW.out (fun _ _ => id) _ _ HC.out) k hlt
              subst hA
              have HU := hide hu; have H1 := hide h1
              have HT := hide (show t1.size ≤ M from Nat.le_trans hsz HKS.out)
              have HM := hide (List.mem_of_getElem? h1)
              clear h1 hu hsz
              have hk1 : (k : Int) < (kn : Int) := by omega
              have hk0 : (0 : Int) ≤ (k : Int) := by omega
              go_wp2_with
                first
                | (go_at_call 35
                   have hka := HKW.out.alloc (.cells #[.int .u8 kd1, .string tx1, .int .i64 nm1, .int .i64 pl1, .slice ka1 kn1 kc1] 29)
                   refine (HIH.out t1 HT.out _ B F c cb mg ms S G kd1 tx1 nm1 pl1 ka1 kn1 kc1 (NodeIn.keep ((Keeps.refl NoB _).alloc _) (fun _ _ => id) _ _ HU.out) (HCK.out.keep0 hka) (HS.out.keep hka id) (HOK.out _ HM.out) (HOM.out _ HM.out)).mono ?_
                   rintro e w2 ⟨hk2, ⟨k9, p9, hr9, he⟩ | ⟨S2, hr9, he⟩⟩
                   all_goals have HK2 := hide (hka.trans' hk2 (fun _ _ => id) (fun _ _ => id) : Keeps NoB w w2)
                   all_goals first
                     | (have HX := hide (foldE_stop (f := fun t (_ : Unit) => guardN t S G) H1.out HF.out hr9)
                        unfold Stops at he
                        subst he
                        clear hk2 hr9 hka)
                     | (have HX := hide (foldE_step (f := fun t (_ : Unit) => guardN t S G) H1.out HF.out hr9)
                        subst he
                        clear hk2 hr9 hka))
                | fail
              · exact ⟨rfl, HK2.out, .inl ⟨_, _, HE.out.trans HX.out, rfl⟩⟩
              · go_roundg (kn - (k + 1))
                case measure => omega
                case rel => exact ⟨k + 1, by omega, rfl, by go_num, HX.out, HK2.out⟩
            · obtain rfl : k = kn := by omega
              have he : List.take k kids = kids := List.take_of_length_le (by have := HKL.out; omega)
              have HX := hide (he ▸ HF.out)
              clear he
              go_wp2
              go_end0
              exact ⟨HKW.out, .inr ⟨(), HE.out.trans HX.out, rfl⟩⟩
        · have hab : (tx.toList == [97, 110, 100, 97, 108, 115, 111]) = false := by simpa using ha
          by_cases hb : tx.toList = [111, 114, 101, 108, 115, 101]
          · have HE : Hid (guardN (.mk 7 tx nm pl kids) S G = foldE (fun t (_ : Unit) => guardN t S G) kids ()) := hide ((show guardN (.mk 7 tx nm pl kids) S G = guardsN kids S G by unfold guardN; rw [if_neg (by decide), if_neg (by decide), if_pos rfl, if_pos (.inr (.inl hb))]).trans (guards_fold S G kids))
            have hbb : (tx.toList == [111, 114, 101, 108, 115, 101]) = true := by simpa using hb
            clear ht ho hC hS hr hc hokk hroom hks IH hM hm hkl h1 h3 ha hb
            go_enter Tryd.func35, Tryd.ntmps35
            go_wp2
            go_loopg [70] kn (fun g s70 wx => ∃ k : Nat, k ≤ kn ∧ g = kn - k ∧ s70 = .int .i64 k ∧ foldE (fun t (_ : Unit) => guardN t S G) (List.take k kids) () = .ok () ∧ Keeps NoB w wx)
            case atStart => exact ⟨0, Nat.zero_le _, rfl, rfl, by simp [foldE], HK.out⟩
            case round =>
              obtain ⟨k, hk, rfl, rfl, hf, hkw⟩ := hrel
              have HKW := hide hkw; have HF := hide hf; clear hkw hf
              by_cases hlt : k < kn
              · obtain ⟨b9, o9, kd1, tx1, nm1, pl1, ka1, kn1, kc1, t1, hA, _, _, h1, hsz, hu, f0, f1, f2, f3, f4⟩ := node_at (HR.out.keep HKW.out (fun _ _ => id)) (NodesIn.keep HKW.out (fun _ _ => id) _ _ HC.out) k hlt
                subst hA
                have HU := hide hu; have H1 := hide h1
                have HT := hide (show t1.size ≤ M from Nat.le_trans hsz HKS.out)
                have HM := hide (List.mem_of_getElem? h1)
                clear h1 hu hsz
                have hk1 : (k : Int) < (kn : Int) := by omega
                have hk0 : (0 : Int) ≤ (k : Int) := by omega
                go_wp2_with
                  first
                  | (go_at_call 35
                     have hka := HKW.out.alloc (.cells #[.int .u8 kd1, .string tx1, .int .i64 nm1, .int .i64 pl1, .slice ka1 kn1 kc1] 29)
                     refine (HIH.out t1 HT.out _ B F c cb mg ms S G kd1 tx1 nm1 pl1 ka1 kn1 kc1 (NodeIn.keep ((Keeps.refl NoB _).alloc _) (fun _ _ => id) _ _ HU.out) (HCK.out.keep0 hka) (HS.out.keep hka id) (HOK.out _ HM.out) (HOM.out _ HM.out)).mono ?_
                     rintro e w2 ⟨hk2, ⟨k9, p9, hr9, he⟩ | ⟨S2, hr9, he⟩⟩
                     all_goals have HK2 := hide (hka.trans' hk2 (fun _ _ => id) (fun _ _ => id) : Keeps NoB w w2)
                     all_goals first
                       | (have HX := hide (foldE_stop (f := fun t (_ : Unit) => guardN t S G) H1.out HF.out hr9)
                          unfold Stops at he
                          subst he
                          clear hk2 hr9 hka)
                       | (have HX := hide (foldE_step (f := fun t (_ : Unit) => guardN t S G) H1.out HF.out hr9)
                          subst he
                          clear hk2 hr9 hka))
                  | fail
                · exact ⟨rfl, HK2.out, .inl ⟨_, _, HE.out.trans HX.out, rfl⟩⟩
                · go_roundg (kn - (k + 1))
                  case measure => omega
                  case rel => exact ⟨k + 1, by omega, rfl, by go_num, HX.out, HK2.out⟩
              · obtain rfl : k = kn := by omega
                have he : List.take k kids = kids := List.take_of_length_le (by have := HKL.out; omega)
                have HX := hide (he ▸ HF.out)
                clear he
                go_wp2
                go_end0
                exact ⟨HKW.out, .inr ⟨(), HE.out.trans HX.out, rfl⟩⟩
          · have hbb : (tx.toList == [111, 114, 101, 108, 115, 101]) = false := by simpa using hb
            by_cases hq : kindN tx.data.toList kn = 2
            · have HE : Hid (guardN (.mk 7 tx nm pl kids) S G = foldE (fun t (_ : Unit) => guardN t S G) kids ()) := hide ((show guardN (.mk 7 tx nm pl kids) S G = guardsN kids S G by unfold guardN; rw [if_neg (by decide), if_neg (by decide), if_pos rfl, if_pos (.inr (.inr (by rw [hkl]; exact hq)))]).trans (guards_fold S G kids))
              have HQ : Hid ((kindN tx.data.toList kn == 2) = true) := hide (by simpa using hq)
              clear ht ho hC hS hr hc hokk hroom hks IH hM hm hkl h1 h3 ha hb hq
              go_enter Tryd.func35, Tryd.ntmps35
              go_wp2_with
                first
                | (go_at_call 8
                   refine (kind_any tx kn _ (HLK.out.keep HK.out) (by omega)).mono ?_
                   rintro e w2 ⟨rfl, rfl⟩
                   have hkq := HQ.out)
                | fail
              clear hkq
              go_loopg [70] kn (fun g s70 wx => ∃ k : Nat, k ≤ kn ∧ g = kn - k ∧ s70 = .int .i64 k ∧ foldE (fun t (_ : Unit) => guardN t S G) (List.take k kids) () = .ok () ∧ Keeps NoB w wx)
              case atStart => exact ⟨0, Nat.zero_le _, rfl, rfl, by simp [foldE], HK.out⟩
              case round =>
                obtain ⟨k, hk, rfl, rfl, hf, hkw⟩ := hrel
                have HKW := hide hkw; have HF := hide hf; clear hkw hf
                by_cases hlt : k < kn
                · obtain ⟨b9, o9, kd1, tx1, nm1, pl1, ka1, kn1, kc1, t1, hA, _, _, h1, hsz, hu, f0, f1, f2, f3, f4⟩ := node_at (HR.out.keep HKW.out (fun _ _ => id)) (NodesIn.keep HKW.out (fun _ _ => id) _ _ HC.out) k hlt
                  subst hA
                  have HU := hide hu; have H1 := hide h1
                  have HT := hide (show t1.size ≤ M from Nat.le_trans hsz HKS.out)
                  have HM := hide (List.mem_of_getElem? h1)
                  clear h1 hu hsz
                  have hk1 : (k : Int) < (kn : Int) := by omega
                  have hk0 : (0 : Int) ≤ (k : Int) := by omega
                  go_wp2_with
                    first
                    | (go_at_call 35
                       have hka := HKW.out.alloc (.cells #[.int .u8 kd1, .string tx1, .int .i64 nm1, .int .i64 pl1, .slice ka1 kn1 kc1] 29)
                       refine (HIH.out t1 HT.out _ B F c cb mg ms S G kd1 tx1 nm1 pl1 ka1 kn1 kc1 (NodeIn.keep ((Keeps.refl NoB _).alloc _) (fun _ _ => id) _ _ HU.out) (HCK.out.keep0 hka) (HS.out.keep hka id) (HOK.out _ HM.out) (HOM.out _ HM.out)).mono ?_
                       rintro e w2 ⟨hk2, ⟨k9, p9, hr9, he⟩ | ⟨S2, hr9, he⟩⟩
                       all_goals have HK2 := hide (hka.trans' hk2 (fun _ _ => id) (fun _ _ => id) : Keeps NoB w w2)
                       all_goals first
                         | (have HX := hide (foldE_stop (f := fun t (_ : Unit) => guardN t S G) H1.out HF.out hr9)
                            unfold Stops at he
                            subst he
                            clear hk2 hr9 hka)
                         | (have HX := hide (foldE_step (f := fun t (_ : Unit) => guardN t S G) H1.out HF.out hr9)
                            subst he
                            clear hk2 hr9 hka))
                    | fail
                  · exact ⟨rfl, HK2.out, .inl ⟨_, _, HE.out.trans HX.out, rfl⟩⟩
                  · go_roundg (kn - (k + 1))
                    case measure => omega
                    case rel => exact ⟨k + 1, by omega, rfl, by go_num, HX.out, HK2.out⟩
                · obtain rfl : k = kn := by omega
                  have he : List.take k kids = kids := List.take_of_length_le (by have := HKL.out; omega)
                  have HX := hide (he ▸ HF.out)
                  clear he
                  go_wp2
                  go_end0
                  exact ⟨HKW.out, .inr ⟨(), HE.out.trans HX.out, rfl⟩⟩
            · have HE : Hid (guardN (.mk 7 tx nm pl kids) S G = .error (214, pl)) := hide (by unfold guardN; rw [if_neg (by decide), if_neg (by decide), if_pos rfl, if_neg (fun h => h.elim ha (fun h => h.elim hb (fun h => hq (by rw [hkl] at h; exact h))))])
              have HQ : Hid ((kindN tx.data.toList kn == 2) = false) := hide (by simpa using hq)
              clear ht ho hC hS hr hc hokk hroom hks IH hM hm hkl h1 h3 ha hb hq
              go_enter Tryd.func35, Tryd.ntmps35
              go_wp2_with
                first
                | (go_at_call 8
                   refine (kind_any tx kn _ (HLK.out.keep HK.out) (by omega)).mono ?_
                   rintro e w2 ⟨rfl, rfl⟩
                   have hkq := HQ.out)
                | (go_at_call 23
                   refine (stop_any _ _ 7 tx nm pl ka kn kc).mono ?_
                   rintro e w2 ⟨he, hk⟩
                   unfold Stops at he
                   subst he
                   have HK2 := hide (HK.out.trans' hk (fun _ _ => id) (fun _ _ => id) : Keeps NoB w w2)
                   clear hk)
                | fail
              exact ⟨rfl, HK2.out, .inl ⟨_, _, HE.out, rfl⟩⟩
      · by_cases h9 : kd = 9
        · subst h9
          have hle := (okM_least hm (show shapeN 9 = some (0, 105, 0, 1, -1) from rfl)).1
          obtain ⟨n, rfl⟩ : ∃ n, kn = n + 1 := ⟨kn - 1, by omega⟩
          obtain ⟨b, o, kd1, tx1, nm1, pl1, ka1, kn1, kc1, t1, hA, hB1, hbl, e1, _, hu1, f0, f1, f2, f3, f4⟩ := node_at hr hc 0 (by omega)
          subst hA
          obtain ⟨t0, ts, rfl⟩ : ∃ t0 ts, kids = t0 :: ts := by
            match kids, hkl with
            | t0 :: ts, _ => exact ⟨t0, ts, rfl⟩
          obtain rfl : t0 = t1 := by simpa using e1
          have hln : ts.length = n := by simpa using hkl
          obtain ⟨_, _, et, _⟩ := hu1.kidsIn
          have hkt : t0.kind = kd1 := by rw [et]; rfl
          have hkx : t0.text = tx1 := by rw [et]; rfl
          have htx1 : tx1.size ≤ 140737488355328 := by have h := hokk t0 List.mem_cons_self; rw [et] at h; unfold okN at h; exact h.2.1
          have hk0 : Keeps NoB w (w.alloc (.cells #[.int .u8 9, .string tx, .int .i64 nm, .int .i64 pl, .slice (some ⟨b, o, none⟩) (n + 1) kc] 29)) := (Keeps.refl NoB w).alloc _
          have q0 : (w.alloc (.cells #[.int .u8 9, .string tx, .int .i64 nm, .int .i64 pl, .slice (some ⟨b, o, none⟩) (n + 1) kc] 29)).cell? ⟨b, o, none⟩ = some (.int .u8 kd1) := hk0.cell id (by simpa using f0)
          have q1 : (w.alloc (.cells #[.int .u8 9, .string tx, .int .i64 nm, .int .i64 pl, .slice (some ⟨b, o, none⟩) (n + 1) kc] 29)).cell? ⟨b, o + 1, none⟩ = some (.string tx1) := hk0.cell id (by simpa using f1)
          have hr1 := hr.from' hc.lens.2 (i := 1) (c := kc) (by omega) hroom.2
          rw [show (some ⟨b, if kc = 1 then o else o + 1 * 5, none⟩ : Option Addr) = if kc = 1 then some ⟨b, o, none⟩ else some ⟨b, o + 5, none⟩ by split <;> rfl, Nat.add_sub_cancel] at hr1
          have HOM := hide (fun t h => okM_kids hm (by omega) t (List.mem_cons_of_mem _ h) : ∀ t ∈ ts, okM 0 t = true)
          have HOK := hide (fun t h => hokk t (List.mem_cons_of_mem _ h) : ∀ t ∈ ts, okN t)
          have HKS := hide (show Nd.size.sizes ts ≤ M by simp only [Nd.size.sizes] at hks; omega)
          have HR := hide hr1; have HC := hide (show NodesIn w B F (css.drop 1) ts from NodesIn.drop 1 hc); have HKL := hide hln; have HIH := hide IH; have HCK := hide hC; have HS := hide hS
          have HLK := hide hC.laid.kind
          have hkc : n + 1 ≤ kc := hroom.2
          have hkc1 : ((n : Int) + 1) ≤ (kc : Int) := by omega
          by_cases h2 : kd1 = 2
          · by_cases hq : kindN tx1.data.toList n = 2
            · have HE : Hid (guardN (.mk 9 tx nm pl (t0 :: ts)) S G = foldE (fun t (_ : Unit) => guardN t S G) ts ()) := hide ((show guardN (.mk 9 tx nm pl (t0 :: ts)) S G = guardsN ts S G by unfold guardN; rw [if_neg (by decide), if_neg (by decide), if_neg (by decide), if_pos rfl]; dsimp only; rw [if_pos ⟨hkt.trans h2, by rw [hkx, hln]; exact hq⟩]).trans (guards_fold S G ts))
              have HQ : Hid ((kindN tx1.data.toList n == 2) = true) := hide (by simpa using hq)
              subst h2
              clear ht ho hC hS hr hc hokk hroom hks IH hM hm hkl h1 h3 h7 hq e1 et hkt hkx hu1 f0 f1 f2 f3 f4 hr1 hle
              go_enter Tryd.func35, Tryd.ntmps35
              go_wp2_with
                first
                | (go_at_call 8
                   refine (kind_any tx1 n _ (HLK.out.keep HK.out) (by omega)).mono ?_
                   rintro e w2 ⟨rfl, rfl⟩
                   have hkq := HQ.out)
                | fail
              case inl =>
                obtain rfl : n = 0 := by omega
                have hts := HKL.out
                obtain rfl : ts = [] := List.length_eq_zero_iff.1 hts
                clear hkq
                refine wp_loop_rounds 1 ?_
                rw [rounds_succ]
                go_wp2
                go_end0
                exact ⟨by subst h; exact HK.out, .inr ⟨(), by rw [HE.out]; simp only [foldE], rfl⟩⟩
              case inr =>
                have hr2 := HR.out
                rw [if_neg (by assumption)] at hr2
                clear HR hkq
                have HR := hide hr2
                clear hr2
                go_loopg [70] n (fun g s70 wx => ∃ k : Nat, k ≤ n ∧ g = n - k ∧ s70 = .int .i64 k ∧ foldE (fun t (_ : Unit) => guardN t S G) (List.take k ts) () = .ok () ∧ Keeps NoB w wx)
                case atStart => exact ⟨0, Nat.zero_le _, rfl, rfl, by simp [foldE], HK.out⟩
                case round =>
                  obtain ⟨k, hk, rfl, rfl, hf, hkw⟩ := hrel
                  have HKW := hide hkw; have HF := hide hf; clear hkw hf
                  by_cases hlt : k < n
                  · obtain ⟨b9, o9, kd1, tx1, nm1, pl1, ka1, kn1, kc1, t1, hA, _, _, h1, hsz, hu, f0, f1, f2, f3, f4⟩ := node_at (HR.out.keep HKW.out (fun _ _ => id)) (NodesIn.keep HKW.out (fun _ _ => id) _ _ HC.out) k hlt
                    injection hA with hA; injection hA with hA hA'; subst hA; subst hA'
                    have HU := hide hu; have H1 := hide h1
                    have HT := hide (show t1.size ≤ M from Nat.le_trans hsz HKS.out)
                    have HM := hide (List.mem_of_getElem? h1)
                    clear h1 hu hsz
                    have hk1 : (k : Int) < (n : Int) := by omega
                    have hk0 : (0 : Int) ≤ (k : Int) := by omega
                    go_wp2_with
                      first
                      | (go_at_call 35
                         have hka := HKW.out.alloc (.cells #[.int .u8 kd1, .string tx1, .int .i64 nm1, .int .i64 pl1, .slice ka1 kn1 kc1] 29)
                         refine (HIH.out t1 HT.out _ B F c cb mg ms S G kd1 tx1 nm1 pl1 ka1 kn1 kc1 (NodeIn.keep ((Keeps.refl NoB _).alloc _) (fun _ _ => id) _ _ HU.out) (HCK.out.keep0 hka) (HS.out.keep hka id) (HOK.out _ HM.out) (HOM.out _ HM.out)).mono ?_
                         rintro e w2 ⟨hk2, ⟨k9, p9, hr9, he⟩ | ⟨S2, hr9, he⟩⟩
                         all_goals have HK2 := hide (hka.trans' hk2 (fun _ _ => id) (fun _ _ => id) : Keeps NoB w w2)
                         all_goals first
                           | (have HX := hide (foldE_stop (f := fun t (_ : Unit) => guardN t S G) H1.out HF.out hr9)
                              unfold Stops at he
                              subst he
                              clear hk2 hr9 hka)
                           | (have HX := hide (foldE_step (f := fun t (_ : Unit) => guardN t S G) H1.out HF.out hr9)
                              subst he
                              clear hk2 hr9 hka))
                      | fail
                    · exact ⟨rfl, HK2.out, .inl ⟨_, _, HE.out.trans HX.out, rfl⟩⟩
                    · go_roundg (n - (k + 1))
                      case measure => omega
                      case rel => exact ⟨k + 1, by omega, rfl, by go_num, HX.out, HK2.out⟩
                  · obtain rfl : k = n := by omega
                    have he : List.take k ts = ts := List.take_of_length_le (by have := HKL.out; omega)
                    have HX := hide (he ▸ HF.out)
                    clear he
                    go_wp2
                    go_end0
                    exact ⟨HKW.out, .inr ⟨(), HE.out.trans HX.out, rfl⟩⟩
            · have HE : Hid (guardN (.mk 9 tx nm pl (t0 :: ts)) S G = .error (214, pl)) := hide (by unfold guardN; rw [if_neg (by decide), if_neg (by decide), if_neg (by decide), if_pos rfl]; dsimp only; rw [if_neg (fun h => hq (by rw [hkx, hln] at h; exact h.2))])
              have HQ : Hid ((kindN tx1.data.toList n == 2) = false) := hide (by simpa using hq)
              subst h2
              clear ht ho hC hS hr hc hokk hroom hks IH hM hm hkl h1 h3 h7 hq e1 et hkt hkx hu1 f0 f1 f2 f3 f4 hr1 hle HR
              go_enter Tryd.func35, Tryd.ntmps35
              go_wp2_with
                first
                | (go_at_call 8
                   refine (kind_any tx1 n _ (HLK.out.keep HK.out) (by omega)).mono ?_
                   rintro e w2 ⟨rfl, rfl⟩
                   have hkq := HQ.out)
                | (go_at_call 23
                   refine (stop_any _ _ 9 tx nm pl _ _ _).mono ?_
                   rintro e w2 ⟨he, hk⟩
                   unfold Stops at he
                   subst he
                   have HK2 := hide (HK.out.trans' hk (fun _ _ => id) (fun _ _ => id) : Keeps NoB w w2)
                   clear hk)
                | fail
              all_goals exact ⟨rfl, HK2.out, .inl ⟨_, _, HE.out, rfl⟩⟩
          · have HE : Hid (guardN (.mk 9 tx nm pl (t0 :: ts)) S G = .error (214, pl)) := hide (by unfold guardN; rw [if_neg (by decide), if_neg (by decide), if_neg (by decide), if_pos rfl]; dsimp only; rw [if_neg (fun h => h2 (hkt.symm.trans h.1))])
            have hkb : (kd1 == 2) = false := by simpa using h2
            clear ht ho hC hS hr hc hokk hroom hks IH hM hm hkl h1 h3 h7 e1 et hkt hkx hu1 f0 f1 f2 f3 f4 hr1 hle HR h2
            go_enter Tryd.func35, Tryd.ntmps35
            go_wp2_with
              first
              | (go_at_call 23
                 refine (stop_any _ _ 9 tx nm pl _ _ _).mono ?_
                 rintro e w2 ⟨he, hk⟩
                 unfold Stops at he
                 subst he
                 have HK2 := hide (HK.out.trans' hk (fun _ _ => id) (fun _ _ => id) : Keeps NoB w w2)
                 clear hk)
              | fail
            all_goals exact ⟨rfl, HK2.out, .inl ⟨_, _, HE.out, rfl⟩⟩
        · have HE : Hid (guardN (.mk kd tx nm pl kids) S G = .error (214, pl)) := hide (by unfold guardN; rw [if_neg h1, if_neg h3, if_neg h7, if_neg h9])
          have b1 : (kd == 1) = false := by simp; omega
          have b2 : (kd == 2) = false := by simp; omega
          have b3 : (kd == 3) = false := by simp; omega
          have b4 : (kd == 4) = false := by simp; omega
          have b5 : (kd == 5) = false := by simp; omega
          have b6 : (kd == 6) = false := by simp; omega
          have b7 : (kd == 7) = false := by simp; omega
          have b9 : (kd == 9) = false := by simp; omega
          clear ht ho hC hS hr hc hokk hroom hks IH hM hm hkl h1 h3 h7 h9
          go_enter Tryd.func35, Tryd.ntmps35
          go_wp2_with
            first
            | (go_at_call 23
               refine (stop_any _ _ kd tx nm pl ka kn kc).mono ?_
               rintro e w2 ⟨he, hk⟩
               unfold Stops at he
               subst he
               have HK2 := hide (HK.out.trans' hk (fun _ _ => id) (fun _ _ => id) : Keeps NoB w w2)
               clear hk)
            | fail
          exact ⟨rfl, HK2.out, .inl ⟨_, _, HE.out, rfl⟩⟩
theorem guard_any (t : Nd) : GuardOf t := by
  have H : ∀ M, ∀ t : Nd, t.size ≤ M → GuardOf t := by
    intro M
    induction M with
    | zero => intro t h; have := t.size_pos; omega
    | succ M IH => intro t h; exact guard_walk M IH t h
  exact H _ t (Nat.le_refl _)
end Go.Proofs.YtincajfanhanjaaDoor
