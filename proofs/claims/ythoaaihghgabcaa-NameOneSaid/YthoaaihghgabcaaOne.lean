/- pigeonholelaw15: NameOne. -/
import Derived.Test.YthoaaihghgabcaaOneInv
import Derived.Deep.CutRange
import Derived.Deep.CutBlock
import Derived.Deep.DeepCutAuto
namespace Go.Proofs.Ythoaaihghgabcaa
open Go.RowKit Go.Maps

theorem int_ne {a b : Int} (h : a ≠ b) : (a == b) = false := by simp [h]
def OneAt (w wx : World) (b m1 m2 hb mb i : Nat) : Prop := ∃ (N : Nat) (L : List Nm) (hs : List Bool) (ms : List ByteArray), OneInv w wx b m1 m2 hb mb N L hs ms ∧ N ≤ i

set_option maxRecDepth 100000 in
set_option maxHeartbeats 8000000 in
theorem name_one (A : Option Addr) (n c : Nat) (hnc : n ≤ c) (E : List Dx) (w : World) (h : DosAt w A n E) : Calls Try.prog 4 #[.slice A n c] w fun e w' => e = .returned (.bool true) ∧ Keeps NoB w w' := by
  have H := hide h; clear h
  go_enter Try.func4, Try.ntmps4
  go_upto_if 23 with
    first
    | (go_at_call 5
       refine (awake_any _).mono ?_
       rintro e w2 ⟨rfl, hk⟩
       have HK1 := hide hk
       clear hk)
    | fail
  go_cut [0] (fun s0 wx => wx = w2 ∧ ∃ m : Nat, m ≤ 80 ∧ m ≤ n ∧ s0 = .slice A m c)
  case first =>
    by_cases h80 : n ≤ 80
    · have hz : (n : Int) ≤ 80 := by omega
      go_wp2_with fail
      go_meet
      exact ⟨rfl, n, h80, Nat.le_refl _, rfl⟩
    · have hz : (80 : Int) < n := by omega
      have hzc : (80 : Int) ≤ c := by omega
      go_wp2_with fail
      go_meet
      exact ⟨rfl, 80, Nat.le_refl _, by omega, rfl⟩
  case rest =>
    obtain ⟨rfl, m, hm80, hmn, rfl⟩ := hcut
    have HD := hide ((H.out.pre hmn).keep HK1.out)
    generalize hE : E.take m = D at *
    clear hE H
    go_wp2_with fail
    refine (great_any A m c D wc HD.out (by omega)).mono ?_
    rintro e w3 ⟨r, rfl, rfl⟩
    cases r with
    | true =>
      go_wp2_with fail
      go_ret
      exact ⟨rfl, HK1.out⟩
    | false =>
      go_wp2_with
        first
        | (go_at_call 12
           refine (new_any _).mono ?_
           rintro e w3 ⟨rfl, h1, hk⟩)
        | fail
      have HR := hide (one_start (show Run wc w3 (wc.heap.size + 2) wc.heap.size (wc.heap.size + 1) 0 [] from ⟨h1, hk, by omega, by omega, by omega⟩))
      clear h1 hk
      generalize wc.heap.size + 2 = b at *
      generalize wc.heap.size + 1 = m2 at *
      generalize wc.heap.size = m1 at *
      generalize w3.heap.size + 1 = mb at *
      generalize w3.heap.size = hb at *
      generalize ((w3.alloc (.cells #[.bool false, .bool false, .bool false, .bool false, .bool false, .bool false] 42)).alloc (.cells #[.string { data := #[] }, .string { data := #[] }, .string { data := #[] }, .string { data := #[] }, .string { data := #[] }, .string { data := #[] }] 43)) = w4 at *
      go_loopg [6] m (fun g s6 wx => ∃ i : Nat, i ≤ m ∧ g = m - i ∧ s6 = .int .i64 i ∧ OneAt wc wx b m1 m2 hb mb i)
      case atStart => exact ⟨0, Nat.zero_le _, rfl, rfl, _, _, _, _, HR.out, Nat.le_refl _⟩
      case round =>
        clear HR
        obtain ⟨i, him, rfl, rfl, N, L, hs, ms, hinv, hNi⟩ := hrel
        have HI := hide hinv
        clear hinv
        by_cases hi : i < m
        · obtain ⟨x, hx⟩ : ∃ x, D[i]? = some x := ⟨_, List.getElem?_eq_getElem (by rw [HD.out.1]; exact hi)⟩
          obtain ⟨hsz, _, ab, ao, rfl, d0, d1, d2⟩ := (HD.out.keep HI.out.run.keep).2 i x hx
          obtain ⟨op, pid, s⟩ := x
          simp only at d0 d1 d2 hsz
          have hi1 : (i : Int) < (m : Int) := by omega
          have hi0 : (0 : Int) ≤ (i : Int) := by omega
          have HSZ := hide hsz
          clear hx hsz
          go_wp2_with
            first
            | (go_at_call 13
               refine (pick_any pid 6 (by omega) (by omega) _).mono ?_
               rintro e w' ⟨rfl, rfl⟩)
            | fail
          have hp0 : 0 ≤ pid % 6 := Int.emod_nonneg _ (by omega)
          have hp1 : pid % 6 < 6 := Int.emod_lt_of_pos _ (by omega)
          obtain ⟨p, hp⟩ := Int.eq_ofNat_of_zero_le hp0
          rw [hp] at hp1 ⊢
          clear hp hp0
          have hp6 : p < 6 := by omega
          have hp00 : (0 : Int) ≤ (p : Int) := by omega
          go_loopg [9, 10] 6 (fun g s9 s10 wx => ∃ (k : Nat) (o : Int), k ≤ 6 ∧ g = 6 - k ∧ s9 = .int .i64 o ∧ s10 = .int .i64 k ∧ OwnAt hs ms s k o ∧ wr = wx)
          case atStart => exact ⟨0, -1, by omega, rfl, rfl, rfl, OwnAt.nil, rfl⟩
          case round =>
            obtain ⟨k, o, hk6, rfl, rfl, rfl, ho, rfl⟩ := hrel
            have HO := hide ho
            clear ho
            by_cases hk : k < 6
            · obtain ⟨v, t, hv, ht, c1, c2, _⟩ := HI.out.get hk
              have hkz : (k : Int) < 6 := by omega
              have hk0 : (0 : Int) ≤ k := by omega
              cases v with
              | false =>
                have HO2 := hide (HO.out.no (by rw [hv]; rintro ⟨h, _⟩; cases h))
                clear hv ht HO c2
                go_wp2_with fail
                go_roundg (6 - (k + 1))
                case measure => omega
                case rel => exact ⟨k + 1, o, by omega, rfl, rfl, by go_num, HO2.out, rfl⟩
              | true =>
                by_cases hts : t = s
                · subst hts
                  have HO2 := hide (OwnAt.yes hv ht)
                  clear hv ht HO
                  go_wp2_with fail
                  go_roundg (6 - (k + 1))
                  case measure => omega
                  case rel => exact ⟨k + 1, k, by omega, rfl, rfl, by go_num, HO2.out, rfl⟩
                · have HO2 := hide (HO.out.no (by rw [ht]; rintro ⟨_, h⟩; exact hts (Option.some.inj h)))
                  have hq := strs_ne hts
                  clear hv ht HO hts
                  go_wp2_with fail
                  go_roundg (6 - (k + 1))
                  case measure => omega
                  case rel => exact ⟨k + 1, o, by omega, rfl, rfl, by go_num, HO2.out, rfl⟩
            · obtain rfl : k = 6 := by omega
              have HO2 := hide (HI.out.one.owner HO.out)
              clear HO hk hk6
              go_upto_block 4 with
                first
                | (go_at_call 13
                   refine (pick_any op 5 (by omega) (by omega) _).mono ?_
                   rintro e w' ⟨rfl, rfl⟩)
                | fail
              clear d0 d1 d2
              go_cut [] (fun wx => OneAt wc wx b m1 m2 hb mb (i + 1))
              case first =>
                have hr0 : 0 ≤ op % 5 := Int.emod_nonneg _ (by omega)
                have hr5 : op % 5 < 5 := Int.emod_lt_of_pos _ (by omega)
                generalize op % 5 = r at *
                rcases (by omega : r = 0 ∨ r = 1 ∨ 2 ≤ r) with rfl | rfl | hr2
                · as_aux_lemma =>
                  obtain ⟨v, t, hv, ht, c1, c2, hin⟩ := HI.out.get hp6
                  cases v with
                  | true =>
                    obtain ⟨hit, hts⟩ := hin rfl
                    clear hin
                    go_wp2_with fail
                    refine (end_yes wr b m1 m2 N L t p HI.out.run.at' hts (ok6 hp6) hit).mono ?_
                    rintro e w5 ⟨g, rfl, hg, hgl, h1, hk⟩
                    have HC := hide (HI.out.calls hk h1)
                    have e1 : w5.cell? ⟨hb, p, none⟩ = some (.bool true) := by rw [HC.out.2.1.cell]; simp [hv]
                    have e2 : w5.cell? ⟨mb, p, none⟩ = some (.string t) := by rw [HC.out.2.2.cell]; simp [ht]
                    have e3 : w5.cell? ⟨g, 0, none⟩ = some (.string t) := hg.cell 0
                    have e4 : w5.frozen? ⟨hb, p, none⟩ = false := HC.out.2.1.free p
                    have HF := hide (fun nq => HI.out.setH (cal_fresh HC.out ((Keeps.refl NoB w5).drewN nq)) p false (HI.out.one.drop HI.out.run.at'.up hv ht) (drop_sz HI.out.sz))
                    have hq := neq9 t
                    clear c1 c2 hv ht hit hg hgl h1 hk HC HI
                    go_wp2_with (go_quiet (fail))
                    go_meet
                    exact ⟨_, _, _, _, HF.out _, by omega⟩
                  | false =>
                    have HN := hide (show hasP (p : Int) L = false from by
                      cases e : hasP (p : Int) L with
                      | false => rfl
                      | true => rw [HI.out.one.hasP hp6, hv] at e; cases e)
                    clear hin c2
                    go_wp2_with fail
                    refine (end_no wr b m1 m2 N L p HI.out.run.at' (ok6 hp6) HN.out).mono ?_
                    rintro e w5 ⟨rfl, rfl⟩
                    have e4 : wr.frozen? ⟨hb, p, none⟩ = false := HI.out.hB.free p
                    have HF := hide (fun nq => HI.out.setH (cal_fresh HI.out.cal ((Keeps.refl NoB wr).drewN nq)) p false (by rw [set_same hv]; exact HI.out.one) HI.out.sz)
                    clear hv ht HN HI
                    go_wp2_with (go_quiet (fail))
                    go_meet
                    exact ⟨_, _, _, _, HF.out _, by omega⟩
                · as_aux_lemma =>
                  rcases HO2.out with ⟨rfl, hno⟩ | ⟨q, hq6, rfl, h1, h2, hin⟩
                  · clear HO2
                    go_wp2_with fail
                    refine (take_no wr b m1 m2 N L s HI.out.run.at' HSZ.out hno).mono ?_
                    rintro e w5 ⟨rfl, rfl⟩
                    clear hno
                    go_wp2_with fail
                    go_meet
                    exact ⟨_, _, _, _, HI.out, by omega⟩
                  · clear HO2
                    have hqz : (0 : Int) ≤ q := by omega
                    have hqz6 : (q : Int) < 6 := by omega
                    go_wp2_with fail
                    refine (take_yes wr b m1 m2 N L s q HI.out.run.at' HSZ.out (ok6 hq6) hin).mono ?_
                    rintro e w5 ⟨rfl, hn, hk⟩
                    have HC := hide (HI.out.calls hk hn)
                    have e4 : w5.frozen? ⟨hb, q, none⟩ = false := HC.out.2.1.free q
                    have e1 : w5.cell? ⟨hb, q, none⟩ = some (.bool true) := by rw [HC.out.2.1.cell]; simp [h1]
                    have HF := hide (HI.out.setH HC.out q false (HI.out.one.drop HI.out.run.at'.up h1 h2) (drop_sz HI.out.sz))
                    clear hn hk h1 h2 hin HC HI
                    go_wp2_with fail
                    go_meet
                    exact ⟨_, _, _, _, HF.out, by omega⟩
                · as_aux_lemma =>
                  obtain ⟨v, t, hv, ht, c1, c2, hin⟩ := HI.out.get hp6
                  have hr0' : (r == 0) = false := int_ne (by omega)
                  have hr1' : (r == 1) = false := int_ne (by omega)
                  rcases HO2.out with ⟨rfl, hno⟩ | ⟨q, hq6, rfl, h1, h2, hmem⟩
                  · cases v with
                    | false =>
                      have HN := hide (show hasP (p : Int) L = false from by
                        cases e : hasP (p : Int) L with
                        | false => rfl
                        | true => rw [HI.out.one.hasP hp6, hv] at e; cases e)
                      have HN2 := hide (show hasN s L = false from by
                        cases e : hasN s L with
                        | false => rfl
                        | true => exact absurd (hasN_iff.1 e) hno)
                      clear hin hno HO2
                      go_wp2_with fail
                      refine (put_yes wr b m1 m2 N L s p HI.out.run.at' HSZ.out (ok6 hp6) HN2.out HN.out (by omega)).mono ?_
                      rintro e w5 ⟨rfl, hn, hk⟩
                      have HC := hide (HI.out.calls hk hn)
                      have e4 : w5.frozen? ⟨hb, p, none⟩ = false := HC.out.2.1.free p
                      have e5 : w5.frozen? ⟨mb, p, none⟩ = false := HC.out.2.2.free p
                      have e1 : w5.cell? ⟨hb, p, none⟩ = some (.bool false) := by rw [HC.out.2.1.cell]; simp [hv]
                      have e2 : w5.cell? ⟨mb, p, none⟩ = some (.string t) := by rw [HC.out.2.2.cell]; simp [ht]
                      have HF := hide (HI.out.setHM HC.out p true s (HI.out.one.put hv) (ins_sz HI.out.sz HSZ.out))
                      have hne := HI.out.ne
                      clear hn hk hv ht HC HI c1 c2 HN HN2
                      go_wp2_with fail
                      go_meet
                      exact ⟨_, _, _, _, HF.out, by omega⟩
                    | true =>
                      obtain ⟨hit, hts⟩ := hin rfl
                      have HN := hide (show hasP (p : Int) L = true from (HI.out.one.hasP hp6).2 hv)
                      clear hin hit hts hno HO2 c2
                      go_wp2_with fail
                      refine (put_no wr b m1 m2 N L s p HI.out.run.at' HSZ.out (ok6 hp6) (.inr HN.out)).mono ?_
                      rintro e w5 ⟨rfl, rfl⟩
                      clear hv ht HN
                      go_wp2_with fail
                      go_meet
                      exact ⟨_, _, _, _, HI.out, by omega⟩
                  · have HN := hide (show hasN s L = true from hasN_iff.2 (List.mem_map.2 ⟨_, hmem, rfl⟩))
                    have hqz : (0 : Int) ≤ q := by omega
                    have hqn : ¬ (q : Int) < 0 := by omega
                    clear hin h1 h2 hmem HO2 c2 hv ht
                    go_wp2_with fail
                    refine (put_no wr b m1 m2 N L s p HI.out.run.at' HSZ.out (ok6 hp6) (.inl HN.out)).mono ?_
                    rintro e w5 ⟨rfl, rfl⟩
                    clear HN
                    go_wp2_with fail
                    go_meet
                    exact ⟨_, _, _, _, HI.out, by omega⟩
              case rest =>
                clear HI HO2
                rename_i wy
                obtain ⟨N', L', hs', ms', hinv, hN'⟩ := hcut
                have HI := hide hinv
                clear hinv
                have hlen : L'.length ≤ 6 := by
                  rw [HI.out.one.len, ← HI.out.one.l1]; exact List.countP_le_length
                go_wp2_with fail
                refine (all_at _ b m1 m2 N' L' HI.out.run.at' (by omega) HI.out.sz (by omega)).mono ?_
                rintro e w5 ⟨A5, c5, rfl, hsl, hk, _⟩
                have HI5 := hide (HI.out.fresh hk)
                have HS := hide hsl
                have HLN := hide HI5.out.one.len
                obtain ⟨tl, htl⟩ : ∃ tl, L'.length = tl := ⟨_, rfl⟩
                have HTL := hide htl
                rw [htl] at hlen ⊢
                clear hsl hk HI htl
                go_wp2_with fail
                go_loopg [14, 15] 6 (fun g s14 s15 wx => ∃ k : Nat, k ≤ 6 ∧ g = 6 - k ∧ s15 = .int .i64 k ∧ s14 = .int .i64 ((hs'.take k).countP id) ∧ w5 = wx)
                case atStart => exact ⟨0, by omega, rfl, rfl, rfl, rfl⟩
                case round =>
                  obtain ⟨k, hk6, rfl, rfl, rfl, rfl⟩ := hrel
                  by_cases hk : k < 6
                  · obtain ⟨v, t, hv, ht, c1, c2, hin⟩ := HI5.out.get hk
                    have hkz : (k : Int) < 6 := by omega
                    have hk0 : (0 : Int) ≤ k := by omega
                    have HC := hide (countP_take hv)
                    have hcc : (hs'.take k).countP id ≤ 6 := Nat.le_trans List.countP_le_length (by rw [List.length_take]; omega)
                    generalize hcn : (hs'.take k).countP id = cn at *
                    clear hcn
                    cases v with
                    | false =>
                      clear hin hv ht c2
                      go_wp2_with fail
                      go_roundg (6 - (k + 1))
                      case measure => omega
                      case rel => exact ⟨k + 1, by omega, rfl, by go_num, by rw [HC.out]; rfl, rfl⟩
                    | true =>
                      obtain ⟨hit, hts⟩ := hin rfl
                      have hnn : ((k : Int) != (k : Int)) = false := by simp
                      have HIT := hide hit; have HTS := hide hts
                      clear hin hv ht hit hts
                      go_wp2_with
                        first
                        | (go_at_call 6
                           refine (find_at w5 b m1 m2 N' L' t k true HI5.out.run.at' (.inl ⟨rfl, HIT.out⟩) HTS.out).mono ?_
                           rintro e w6 ⟨rfl, rfl⟩)
                        | fail
                      go_roundg (6 - (k + 1))
                      case measure => omega
                      case rel => exact ⟨k + 1, by omega, rfl, by go_num, by rw [HC.out]; go_num, rfl⟩
                  · obtain rfl : k = 6 := by omega
                    have HCC := hide (show (hs'.take 6).countP id = tl from by rw [← HTL.out, HLN.out, List.take_of_length_le (by rw [HI5.out.one.l1]; omega)])
                    rw [HCC.out]
                    clear hk hk6
                    go_wp2_with fail
                    go_loopg [18] (tl - 1) (fun g s18 wx => ∃ k : Nat, g = tl - k ∧ s18 = .int .i64 k ∧ 1 ≤ k ∧ k ≤ 7 ∧ Keeps NoB w5 wx)
                    case atStart => exact ⟨1, rfl, rfl, by omega, by omega, Keeps.refl _ _⟩
                    case round =>
                      obtain ⟨k, rfl, rfl, hk1, hk7, hkp⟩ := hrel
                      have HKP := hide hkp
                      clear hkp
                      by_cases hkt : k < tl
                      · obtain ⟨j, rfl⟩ : ∃ j, k = j + 1 := ⟨k - 1, by omega⟩
                        obtain ⟨x, hx⟩ : ∃ x, L'[j]? = some x := ⟨_, List.getElem?_eq_getElem (by rw [HTL.out]; omega)⟩
                        obtain ⟨y, hy⟩ : ∃ y, L'[j + 1]? = some y := ⟨_, List.getElem?_eq_getElem (by rw [HTL.out]; omega)⟩
                        have hup : key x.1 < key y.1 := List.pairwise_iff_getElem.1 HI5.out.run.at'.up j (j + 1) (by rw [HTL.out]; omega) (by rw [HTL.out]; omega) (by omega) |> fun h => by
                          rw [(List.getElem?_eq_some_iff.1 hx).2, (List.getElem?_eq_some_iff.1 hy).2] at h; exact h
                        have hge := less9 hup
                        obtain ⟨⟨g, o, sp⟩, hA, hsp, _, _, hc⟩ := (HS.out.fresh HKP.out).reads.2 (by rw [HTL.out]; omega)
                        simp only at hsp
                        subst hsp hA
                        have x0 : wr.cell? ⟨g, o + j * 2, none⟩ = some (.string x.1) := (hc _ _ (nms_at hx).1).1
                        have y0 : wr.cell? ⟨g, o + (j + 1) * 2, none⟩ = some (.string y.1) := (hc _ _ (nms_at hy).1).1
                        have hkz : ((j : Int) + 1) < tl := by omega
                        have hjz : (j : Int) < tl := by omega
                        have hj0 : (0 : Int) ≤ j := by omega
                        have hj1 : (0 : Int) ≤ (j : Int) + 1 := by omega
                        have e1 : IntKind.i64.wrap ((j : Int) + 1 - 1) = (j : Int) := by rw [show (j : Int) + 1 - 1 = j from by omega]; exact IntWalk.i64_in _ (by omega)
                        clear hx hy hup hc
                        go_wp2_with (go_quiet (fail))
                        clear e1
                        go_roundg (tl - (j + 1 + 1))
                        case measure => omega
                        case rel => exact ⟨j + 1 + 1, by omega, by go_num, by omega, by omega, HKP.out.drewN _⟩
                      · have hkz : ¬ (k : Int) < tl := by omega
                        have hnn : ((tl : Int) != (tl : Int)) = false := by simp
                        go_wp2_with fail
                        go_roundg (m - (i + 1))
                        case measure => omega
                        case rel => exact ⟨i + 1, by omega, rfl, by go_num, N', L', hs', ms', HI5.out.fresh HKP.out, hN'⟩
        · have hi1 : ¬ (i : Int) < (m : Int) := by omega
          go_wp2_with fail
          go_ret
          exact ⟨rfl, HK1.out.trans' HI.out.run.keep (fun _ _ => id) (fun _ _ => id)⟩
end Go.Proofs.Ythoaaihghgabcaa
