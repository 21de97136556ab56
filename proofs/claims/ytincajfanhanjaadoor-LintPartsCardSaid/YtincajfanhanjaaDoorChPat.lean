/- checker.variable, checker.pattern of any tree. -/
import Derived.Test.YtincajfanhanjaaDoorChBase
namespace Go.Proofs.YtincajfanhanjaaDoor
open Go.RowKit Go.Maps

mutual
/-- The names of a tree's variables are among these. -/
def namesIn (L : List ByteArray) : Nd → Prop
  | .mk k tx _ _ kids => (k = 3 → tx ∈ L) ∧ namesIns L kids
def namesIns (L : List ByteArray) : List Nd → Prop
  | [] => True
  | t :: ts => namesIn L t ∧ namesIns L ts
end
theorem namesIns_mem {L : List ByteArray} : ∀ {ts : List Nd}, namesIns L ts → ∀ t ∈ ts, namesIn L t
  | [], _, _, h => by cases h
  | a :: ts, h, t, hm => by
    unfold namesIns at h
    rcases List.mem_cons.1 hm with rfl | hm
    · exact h.1
    · exact namesIns_mem h.2 t hm
theorem CkS.ckAt {c : Cx} {cb : Nat} {w : World} {mg : Nat} {G : Scope} (h : CkS c cb w mg G) : CkAt w cb c.mf mg c.L.length G := ⟨h.blk, h.gone.scope⟩
theorem variable_any (c : Cx) (w : World) (cb mg ms : Nat) (G S : Scope) (kd : Int) (tx : ByteArray) (nm pl : Int) (ka : Option Addr) (kn kc : Nat) (hC : CkS c cb w mg G) (hS : ScopeL w c.L ms S) (ht : tx.size ≤ maxLen) :
    Calls Tryd.prog 45 #[.pointer (some ⟨cb, 0, none⟩), .agg #[.int .u8 kd, .string tx, .int .i64 nm, .int .i64 pl, .slice ka kn kc], .map (some ms)] w (Ends (varF tx pl S G) NoB w fun _ e _ => e = .returned (.tuple #[])) := by
  by_cases h : ¬ tx.toList = [95] ∧ S tx = true
  · refine (variable_yes w cb ms _ S kd tx nm pl ka kn kc hS.scope ht h.1 h.2).mono ?_
    rintro e w' ⟨he, hk⟩
    exact ⟨hk, .inr ⟨(), by unfold varF; rw [if_pos h], he⟩⟩
  · have h1 : tx.toList = [95] ∨ S tx = false := by
      by_cases hu : tx.toList = [95]
      · exact .inl hu
      · cases hs : S tx with
        | false => exact .inr rfl
        | true => exact absurd ⟨hu, hs⟩ h
    refine (variable_no w cb c.mf mg _ ms _ G S kd tx nm pl ka kn kc hC.ckAt hS.scope ht h1).mono ?_
    rintro e w' ⟨he, hk⟩
    exact ⟨hk, .inl ⟨_, _, by unfold varF; rw [if_neg h], he⟩⟩
def PatOf (t : Nd) : Prop := ∀ (w : World) (B : Nat → Prop) (F : Bool) (L : List ByteArray) (cb ms : Nat) (S : Scope) (kd : Int) (tx : ByteArray) (nm pl : Int) (ka : Option Addr) (kn kc : Nat), NodeIn w B F [.int .u8 kd, .string tx, .int .i64 nm, .int .i64 pl, .slice ka kn kc] t → (∀ k, B k → k ≠ ms) → okN t → namesIn L t → ScopeL w L ms S → L.length < 1048576 →
  Calls Tryd.prog 37 #[.pointer (some ⟨cb, 0, none⟩), .agg #[.int .u8 kd, .string tx, .int .i64 nm, .int .i64 pl, .slice ka kn kc], .map (some ms)] w (Ends (patN t S) (fun k => k = ms) w fun S' e w' => e = .returned (.tuple #[]) ∧ ScopeL w' L ms S')
set_option maxRecDepth 100000 in
set_option maxHeartbeats 4000000 in
theorem pat_walk (M : Nat) (IH : ∀ t : Nd, t.size ≤ M → PatOf t) (t : Nd) (hM : t.size ≤ M + 1) : PatOf t := by
  intro w B F L cb ms S kd tx nm pl ka kn kc ht hB ho hn hS hL
  obtain ⟨kids, css, rfl, hroom, hr, hc, hkl⟩ := ht.kidsIn
  have hks : Nd.size.sizes kids ≤ M := by simp only [Nd.size] at hM; omega
  unfold okN at ho
  unfold namesIn at hn
  have htx : tx.size ≤ maxLen := by have := ho.2.1; unfold maxLen; omega
  have hokk := okNs_mem ho.2.2.2.2
  have hnk := namesIns_mem hn.2
  have hkd := ho.1
  have HK := hide ((Keeps.refl (fun k => k = ms) w).alloc (.cells #[.int .u8 kd, .string tx, .int .i64 nm, .int .i64 pl, .slice ka kn kc] 29))
  have hnm : kn ≤ 9223372036854775807 := by have := hroom.1.len (by omega); unfold maxLen at this; exact this
  by_cases h124 : kd = 1 ∨ kd = 2 ∨ kd = 4
  · have HE : Hid (patN (.mk kd tx nm pl kids) S = .ok S) := hide (by unfold patN; rw [if_pos h124])
    have HS := hide (hS.keep (w' := (w.alloc (.cells #[.int .u8 kd, .string tx, .int .i64 nm, .int .i64 pl, .slice ka kn kc] 29))) ((Keeps.refl NoB w).alloc _) id)
    clear ht hB ho hn hS hr hc hokk hnk hkd hroom hks IH hM
    rcases h124 with rfl | rfl | rfl <;> (
      go_enter Tryd.func37, Tryd.ntmps37
      go_wp2
      go_end0
      exact ⟨HK.out, .inr ⟨S, HE.out, rfl, HS.out⟩⟩)
  · by_cases h3 : kd = 3
    · subst h3
      by_cases hu : tx.toList = [95]
      · have HE : Hid (patN (.mk 3 tx nm pl kids) S = .ok S) := hide (by unfold patN; rw [if_neg (by decide), if_pos rfl, if_pos hu])
        have HS := hide (hS.keep (w' := (w.alloc (.cells #[.int .u8 3, .string tx, .int .i64 nm, .int .i64 pl, .slice ka kn kc] 29))) ((Keeps.refl NoB w).alloc _) id)
        have hub : (tx.toList == [95]) = true := by simpa using hu
        clear ht hB ho hn hS hr hc hokk hnk hkd hroom hks IH hM hu h124
        go_enter Tryd.func37, Tryd.ntmps37
        go_wp2
        go_end0
        exact ⟨HK.out, .inr ⟨S, HE.out, rfl, HS.out⟩⟩
      · have HE : Hid (patN (.mk 3 tx nm pl kids) S = .ok (putS S tx)) := hide (by unfold patN; rw [if_neg (by decide), if_pos rfl, if_neg hu])
        have hw : Keeps NoB w (w.alloc (.cells #[.int .u8 3, .string tx, .int .i64 nm, .int .i64 pl, .slice ka kn kc] 29)) := (Keeps.refl NoB w).alloc _
        obtain ⟨w2, hrun, hs2, hg2⟩ := (hS.keep hw id).put htx (by unfold maxLen; omega) (hn.1 rfl)
        have HKR := hide (((Keeps.refl (fun k => k = ms) w).alloc (.cells #[.int .u8 3, .string tx, .int .i64 nm, .int .i64 pl, .slice ka kn kc] 29)).grown hg2 (fun k e _ => by injection e with e; exact e.symm))
        have HS := hide hs2
        have hub : (tx.toList == [95]) = false := by simpa using hu
        clear ht hB ho hn hS hr hc hokk hnk hkd hroom hks IH hM hu h124 hs2 hg2 hw
        go_enter Tryd.func37, Tryd.ntmps37
        go_wp2
        go_end0
        exact ⟨HKR.out, .inr ⟨_, HE.out, rfl, HS.out⟩⟩
    · by_cases h568 : kd = 5 ∨ kd = 6 ∨ kd = 8
      · have HE : Hid (patN (.mk kd tx nm pl kids) S = foldE patN kids S) := hide (by unfold patN; rw [if_neg h124, if_neg h3, if_pos h568, pats_fold])
        have HS0 := hide (hS.keep (w' := (w.alloc (.cells #[.int .u8 kd, .string tx, .int .i64 nm, .int .i64 pl, .slice ka kn kc] 29))) ((Keeps.refl NoB w).alloc _) id)
        have HKS := hide hks; have HR := hide hr; have HC := hide hc; have HKL := hide hkl; have HIH := hide IH; have HB := hide hB; have HOK := hide hokk; have HNK := hide hnk; have HL := hide hL
        clear ht hB ho hn hS hr hc hokk hnk hkd hroom hks IH hM h124 h3 hL htx hkl
        rcases h568 with rfl | rfl | rfl <;> (
          go_enter Tryd.func37, Tryd.ntmps37
          go_wp2
          go_loopg [31] kn (fun g s31 wx => ∃ (k : Nat) (S' : Scope), k ≤ kn ∧ g = kn - k ∧ s31 = .int .i64 k ∧ foldE patN (kids.take k) S = .ok S' ∧ ScopeL wx L ms S' ∧ Keeps (fun k => k = ms) w wx)
          case atStart => exact ⟨0, S, Nat.zero_le _, rfl, rfl, by simp [foldE], HS0.out, HK.out⟩
          case round =>
            obtain ⟨k, S', hk, rfl, rfl, hf, hs, hkw⟩ := hrel
            have HKW := hide hkw; have HS := hide hs; have HF := hide hf; clear hkw hs hf
            by_cases hlt : k < kn
            · obtain ⟨b, o, kd1, tx1, nm1, pl1, ka1, kn1, kc1, t1, hA, _, _, h1, hsz, hu, f0, f1, f2, f3, f4⟩ := node_at (HR.out.keep HKW.out HB.out) (NodesIn.keep HKW.out HB.out _ _ HC.out) k hlt
              subst hA
              have HU := hide hu; have H1 := hide h1
              have HT := hide (show t1.size ≤ M from Nat.le_trans hsz HKS.out)
              have HM := hide (List.mem_of_getElem? h1)
              clear h1 hu hsz
              have hk1 : (k : Int) < (kn : Int) := by omega
              have hk0 : (0 : Int) ≤ (k : Int) := by omega
              go_wp2_with
                first
                | (go_at_call 37
                   refine (HIH.out t1 HT.out _ B F L cb ms S' kd1 tx1 nm1 pl1 ka1 kn1 kc1 (NodeIn.keep ((Keeps.refl NoB _).alloc _) (fun _ _ => id) _ _ HU.out) HB.out (HOK.out _ HM.out) (HNK.out _ HM.out) (HS.out.keep ((Keeps.refl NoB _).alloc _) id) HL.out).mono ?_
                   rintro e w2 ⟨hk2, ⟨k9, p9, hr9, he⟩ | ⟨S2, hr9, he, hs2⟩⟩
                   all_goals have HK2 := hide ((HKW.out.alloc _).trans' hk2 (fun _ _ => id) (fun _ _ => id) : Keeps (fun k => k = ms) w w2)
                   all_goals first
                     | (have HX := hide (foldE_stop H1.out HF.out hr9)
                        unfold Stops at he
                        subst he
                        clear hk2 hr9)
                     | (have HX := hide (foldE_step H1.out HF.out hr9)
                        have HS2 := hide hs2
                        subst he
                        clear hk2 hr9 hs2))
                | fail
              · exact ⟨rfl, HK2.out, .inl ⟨_, _, HE.out.trans HX.out, rfl⟩⟩
              · go_roundg (kn - (k + 1))
                case measure => omega
                case rel => exact ⟨k + 1, S2, by omega, rfl, by go_num, HX.out, HS2.out, HK2.out⟩
            · obtain rfl : k = kn := by omega
              have he : kids.take k = kids := List.take_of_length_le (by have := HKL.out; omega)
              have HX := hide (he ▸ HF.out)
              clear he
              go_wp2
              go_end0
              exact ⟨HKW.out, .inr ⟨S', HE.out.trans HX.out, rfl, HS.out⟩⟩)
      · by_cases h7 : kd = 7
        · subst h7
          by_cases hu : tx.toList = [45]
          · have hub : (tx.toList == [45]) = true := by simpa using hu
            by_cases h1 : kn = 1
            · subst h1
              obtain ⟨b, o, kd1, tx1, nm1, pl1, ka1, kn1, kc1, t1, hA, _, hb1, e1, _, hu1, f0, f1, f2, f3, f4⟩ := node_at hr hc 0 (by omega)
              subst hA
              obtain ⟨t0, rfl⟩ : ∃ t0, kids = [t0] := by
                match kids, hkl with
                | [t0], _ => exact ⟨t0, rfl⟩
              obtain rfl : t0 = t1 := by simpa using e1
              have hkt : t0.kind = kd1 := by obtain ⟨_, _, e, _⟩ := hu1.kidsIn; rw [e]; rfl
              have q0 : (w.alloc (.cells #[.int .u8 7, .string tx, .int .i64 nm, .int .i64 pl, .slice (some ⟨b, o, none⟩) 1 kc] 29)).cell? ⟨b, o, none⟩ = some (.int .u8 kd1) := HK.out.cell (hB b (by assumption)) (by simpa using f0)
              by_cases hk1 : kd1 = 1
              · have HE : Hid (patN (.mk 7 tx nm pl [t0]) S = .ok S) := hide (by unfold patN; rw [if_neg (by decide), if_neg (by decide), if_neg (by decide), if_pos ⟨rfl, by simp [minusInt, hu, hkt, hk1]⟩])
                have HS := hide (hS.keep (w' := (w.alloc (.cells #[.int .u8 7, .string tx, .int .i64 nm, .int .i64 pl, .slice (some ⟨b, o, none⟩) 1 kc] 29))) ((Keeps.refl NoB w).alloc _) id)
                subst hk1
                clear ht hB ho hn hS hr hc hokk hnk hkd hroom hks IH hM hu h124 h3 h568 hu1 f0 f1 f2 f3 f4 e1
                go_enter Tryd.func37, Tryd.ntmps37
                go_wp2
                go_end0
                exact ⟨HK.out, .inr ⟨S, HE.out, rfl, HS.out⟩⟩
              · have HE : Hid (patN (.mk 7 tx nm pl [t0]) S = .error (216, pl)) := hide (by unfold patN; rw [if_neg (by decide), if_neg (by decide), if_neg (by decide), if_neg (fun h => by have := h.2; simp [minusInt, hkt, hk1] at this)])
                have hkb : (kd1 == 1) = false := by simpa using hk1
                clear ht hB ho hn hS hr hc hokk hnk hkd hroom hks IH hM hu h124 h3 h568 hu1 f0 f1 f2 f3 f4 e1 hk1
                go_enter Tryd.func37, Tryd.ntmps37
                go_wp2_with
                  first
                  | (go_at_call 23
                     refine (stop_any _ _ 7 tx nm pl (some ⟨b, o, none⟩) 1 kc).mono ?_
                     rintro e w2 ⟨he, hk⟩
                     unfold Stops at he
                     subst he
                     have HK2 := hide (HK.out.trans' hk (fun _ _ => id) (fun _ _ h => h.elim) : Keeps (fun k => k = ms) w w2)
                     clear hk)
                  | fail
                exact ⟨rfl, HK2.out, .inl ⟨_, _, HE.out, rfl⟩⟩
            · have HE : Hid (patN (.mk 7 tx nm pl kids) S = .error (216, pl)) := hide (by
                unfold patN; rw [if_neg (by decide), if_neg (by decide), if_neg (by decide), if_neg (fun h => ?_)]
                have h2 := h.2
                unfold minusInt at h2
                match kids, hkl with
                | [], _ => simp at h2
                | [t0], h => simp at h; omega
                | _ :: _ :: _, _ => simp at h2)
              have hnb : ((kn : Int) == 1) = false := by simp; omega
              have hnb2 : (kn == 1) = false := by simpa using h1
              clear ht hB ho hn hS hr hc hokk hnk hkd hroom hks IH hM hu h124 h3 h568
              go_enter Tryd.func37, Tryd.ntmps37
              go_wp2_with
                first
                | (go_at_call 23
                   refine (stop_any _ _ 7 tx nm pl ka kn kc).mono ?_
                   rintro e w2 ⟨he, hk⟩
                   unfold Stops at he
                   subst he
                   have HK2 := hide (HK.out.trans' hk (fun _ _ => id) (fun _ _ h => h.elim) : Keeps (fun k => k = ms) w w2)
                   clear hk)
                | fail
              exact ⟨rfl, HK2.out, .inl ⟨_, _, HE.out, rfl⟩⟩
          · have HE : Hid (patN (.mk 7 tx nm pl kids) S = .error (216, pl)) := hide (by unfold patN; rw [if_neg (by decide), if_neg (by decide), if_neg (by decide), if_neg (fun h => by have := h.2; simp [minusInt, hu] at this)])
            have hub : (tx.toList == [45]) = false := by simpa using hu
            clear ht hB ho hn hS hr hc hokk hnk hkd hroom hks IH hM hu h124 h3 h568
            go_enter Tryd.func37, Tryd.ntmps37
            go_wp2_with
              first
              | (go_at_call 23
                 refine (stop_any _ _ 7 tx nm pl ka kn kc).mono ?_
                 rintro e w2 ⟨he, hk⟩
                 unfold Stops at he
                 subst he
                 have HK2 := hide (HK.out.trans' hk (fun _ _ => id) (fun _ _ h => h.elim) : Keeps (fun k => k = ms) w w2)
                 clear hk)
              | fail
            exact ⟨rfl, HK2.out, .inl ⟨_, _, HE.out, rfl⟩⟩
        · have HE : Hid (patN (.mk kd tx nm pl kids) S = .error (216, pl)) := hide (by unfold patN; rw [if_neg h124, if_neg h3, if_neg h568, if_neg (fun h => h7 h.1)])
          have b1 : (kd == 1) = false := by simp; omega
          have b2 : (kd == 2) = false := by simp; omega
          have b3 : (kd == 3) = false := by simp; omega
          have b4 : (kd == 4) = false := by simp; omega
          have b5 : (kd == 5) = false := by simp; omega
          have b6 : (kd == 6) = false := by simp; omega
          have b7 : (kd == 7) = false := by simp; omega
          have b8 : (kd == 8) = false := by simp; omega
          clear ht hB ho hn hS hr hc hokk hnk hkd hroom hks IH hM h124 h3 h568 h7
          go_enter Tryd.func37, Tryd.ntmps37
          go_wp2_with
            first
            | (go_at_call 23
               refine (stop_any _ _ kd tx nm pl ka kn kc).mono ?_
               rintro e w2 ⟨he, hk⟩
               unfold Stops at he
               subst he
               have HK2 := hide (HK.out.trans' hk (fun _ _ => id) (fun _ _ h => h.elim) : Keeps (fun k => k = ms) w w2)
               clear hk)
            | fail
          exact ⟨rfl, HK2.out, .inl ⟨_, _, HE.out, rfl⟩⟩
theorem pat_any (t : Nd) : PatOf t := by
  have H : ∀ M, ∀ t : Nd, t.size ≤ M → PatOf t := by
    intro M
    induction M with
    | zero => intro t h; have := t.size_pos; omega
    | succ M IH => intro t h; exact pat_walk M IH t h
  exact H _ t (Nat.le_refl _)
end Go.Proofs.YtincajfanhanjaaDoor
