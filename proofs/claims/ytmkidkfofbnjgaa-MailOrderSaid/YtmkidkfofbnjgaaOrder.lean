/- pigeonholelaw12: MailOrder. -/
import Derived.Test.YtmkidkfofbnjgaaOrderLaw
import Derived.Test.YtmkidkfofbnjgaaPick
import Derived.Deep.LoopGhost
import Derived.Deep.CutRange
import Derived.Deep.CutBlock
import Derived.Deep.DeepCutAuto
namespace Go.Proofs.Ytmkidkfofbnjgaa
open Go.RowKit

/-- Steps, of which the numbers are read: each eight cells. -/
def OpsAt (w : World) (A : Option Addr) (n : Nat) : Prop := ∀ i, i < n → ∃ b o x, A = some ⟨b, o, none⟩ ∧ w.cell? ⟨b, o + i * 8, none⟩ = some (.int .i64 x)

theorem zero47 : Try.zeroCells47 = ((List.replicate 80 false).map Value.bool).toArray := by kernel_rfl

theorem ord_start (w wc : World) (h : Keeps NoB w wc) : OrdInv w ((wc.alloc (.cells #[.slice none 0 0, .int .i64 0, .bool true] 61)).alloc (.cells Try.zeroCells47 47)) wc.heap.size 0 := by
  have hk : Keeps NoB w (wc.alloc (.cells #[.slice none 0 0, .int .i64 0, .bool true] 61)) := h.alloc _
  have hs := h.size
  refine ⟨.slice none 0 0, [], 0, List.replicate 80 false, ⟨(box_new wc).fresh ((Keeps.refl NoB _).alloc _), hk.alloc _, hs, fun g e => by simp [Value.ownBlock] at e⟩, Nat.le_refl _, rfl, by simp, ?_, by simp [Value.ownBlock], fun k _ => ?_, (fun x hx => by cases hx), hs⟩
  · rw [← zero47]; exact Blk.new2 wc _ _ _
  · unfold goneAt; simp only [List.getD, List.getElem?_replicate]; split <;> rfl

def FinInv (w wx : World) (b g : Nat) (last : Int) : Prop := ∃ (sv : Value) (L : List Lt) (ys : List Nat), g = L.length ∧ Run w wx b sv L 0 ∧ L.map (·.t) = ys.map numT ∧ ys.Pairwise (· < ·) ∧ (∀ y ∈ ys, last < (y : Int)) ∧ L.length ≤ 81

theorem fin_start {w wr w5 : World} {b cnt at' : Nat} {sv : Value} {L : List Lt} {G : List Bool} (hr : Run w wr b sv L at') (hm : L.map (·.t) = (kept G cnt).map numT) (hl : L.length ≤ 81) (hbox : BoxAt w5 b sv L 0) (hk : Keeps (fun k => k = b) wr w5) : FinInv w w5 b L.length (-1) :=
  ⟨sv, L, kept G cnt, rfl, hr.turn (hk.mono (fun _ _ e => .inl e)) hbox (.inl rfl), hm, kept_sorted G cnt, fun y _ => by omega, hl⟩

theorem fin_step {w wr w1 : World} {b k : Nat} {sv sv' : Value} {L : List Lt} {x : Lt} {ys : List Nat} (hr : Run w wr b sv L 0) (hm : L.map (·.t) = ys.map numT) (hp : ys.Pairwise (· < ·)) (hl : L.length ≤ 81) (hx : L[0]? = some x) (hxt : x.t = numT k) (hbox : BoxAt w1 b sv' (L.eraseIdx 0) 0) (hk : Keeps (boxFp b sv) wr w1) (hsv : sv'.ownBlock = sv.ownBlock) (o : Obj) : FinInv w (w1.alloc o) b (L.eraseIdx 0).length k := by
  obtain ⟨k', hk', hkt⟩ := nth_of hm hx
  obtain rfl : k = k' := by rw [hxt] at hkt; injection hkt with _ _ _ _ h; omega
  refine ⟨sv', L.eraseIdx 0, ys.eraseIdx 0, rfl, (hr.turn hk hbox (.inl hsv)).fresh ((Keeps.refl NoB _).alloc o), by rw [map_eraseIdx', map_eraseIdx', hm], List.Pairwise.sublist (List.eraseIdx_sublist _ _) hp, ?_, Nat.le_trans (List.length_eraseIdx_le _ _) hl⟩
  cases ys with
  | nil => simp at hk'
  | cons y ys =>
    obtain rfl : y = k := by simpa using hk'
    intro z hz
    have := List.rel_of_pairwise_cons hp (show z ∈ ys from hz)
    omega

theorem int_ne {a b : Int} (h : a ≠ b) : (a == b) = false := by simp [h]

set_option maxRecDepth 100000 in
set_option maxHeartbeats 2000000 in
theorem mail_order (A : Option Addr) (n c : Nat) (hnc : n ≤ c) (w : World) (h : OpsAt w A n) : Calls Try.prog 5 #[.slice A n c] w fun e w' => e = .returned (.bool true) ∧ Keeps NoB w w' := by
  have H := hide h; clear h
  go_enter Try.func5, Try.ntmps5
  go_upto_if 19 with
    first
    | (go_at_call 19
       refine (awake_any _).mono ?_
       rintro e w2 ⟨rfl, hbel⟩
       have HK1 := hide (Keeps.of_below hbel NoB)
       clear hbel)
    | fail
  go_cut [0] (fun s0 wx => wx = w2 ∧ ∃ m : Nat, m ≤ 80 ∧ m ≤ n ∧ s0 = .slice A m c)
  case first =>
    by_cases h80 : n ≤ 80
    · have hz : (n : Int) ≤ 80 := by omega
      go_wp2_with fail
      go_meet
      exact ⟨rfl, n, h80, Nat.le_refl _, rfl⟩
    · have hz : (80 : Int) < n := by omega
      have hzc : (80 : Int) ≤ c := by omega
      go_wp2_with fail
      go_meet
      exact ⟨rfl, 80, Nat.le_refl _, by omega, rfl⟩
  case rest =>
    obtain ⟨rfl, m, hm80, hmn, rfl⟩ := hcut
    go_wp2_with
      first
      | (go_at_call 9
         refine (new_any _).mono ?_
         rintro e w' ⟨rfl, rfl⟩)
      | fail
    have HI := hide (ord_start w wc HK1.out)
    clear HK1
    generalize (wc.alloc (Obj.cells #[Value.slice none 0 0, Value.int IntKind.i64 0, Value.bool true] 61)).alloc (Obj.cells Try.zeroCells47 47) = w3 at *
    generalize wc.heap.size = b at *
    clear wc
    go_loopg [4, 6] m (fun g s4 s6 wx => ∃ cnt i : Nat, cnt ≤ i ∧ i ≤ m ∧ g = m - i ∧ s4 = .int .i64 cnt ∧ s6 = .int .i64 i ∧ OrdInv w wx b cnt)
    case atStart => exact ⟨0, 0, Nat.le_refl _, Nat.zero_le _, rfl, rfl, rfl, HI.out⟩
    case round =>
      clear HI
      obtain ⟨cnt, i, hci, him, rfl, rfl, rfl, hinv⟩ := hrel
      have HI := hide hinv; clear hinv
      by_cases hi : i < m
      · obtain ⟨ab, ao, op, hA, hop⟩ := H.out i (by omega)
        subst hA
        have hk0 := HI.out
        obtain ⟨_, _, _, _, hrun, _⟩ := hk0
        have c0 : wr.cell? ⟨ab, ao + i * 8, none⟩ = some (.int .i64 op) := hrun.keep.cell id hop
        clear hrun hop
        have hi1 : (i : Int) < (m : Int) := by omega
        have hi0 : (0 : Int) ≤ (i : Int) := by omega
        go_upto_block 2 with
          first
          | (go_at_call 22
             refine (pick_any op 5 (by omega) (by omega) _).mono ?_
             rintro e w' ⟨rfl, rfl⟩)
          | fail
        have hr0 : 0 ≤ op % 5 := Int.emod_nonneg _ (by omega)
        have hr5 : op % 5 < 5 := Int.emod_lt_of_pos _ (by omega)
        generalize op % 5 = r at *
        clear c0
        go_cut [4] (fun s4 wx => ∃ cnt' : Nat, cnt' ≤ i + 1 ∧ s4 = .int .i64 cnt' ∧ OrdInv w wx b cnt')
        case first =>
          obtain ⟨sv, L, at', G, hrun, hat, hm, hG, hB, hne, hz, hlo, h0⟩ := HI.out
          have HRUN := hide hrun; have HAT := hide hat; have HM := hide hm; have HG := hide hG; have HB := hide hB; have HNE := hide hne; have HZ := hide hz; have HLO := hide hlo; have H0 := hide h0
          have hLl : L.length ≤ 80 := by rw [nums_len hm]; have := kept_len G cnt; omega
          clear hrun hat hm hG hB hne hz hlo h0
          rcases (by omega : r = 0 ∨ r = 1 ∨ r = 2 ∨ 3 ≤ r) with rfl | rfl | rfl | hr3
          · go_wp2_with
              first
              | (go_at_call 23
                 refine (begin_box b sv L at' _ HRUN.out.box).mono ?_
                 rintro e w' ⟨rfl, hbox, hkeep⟩
                 have HBX := hide hbox; have HK := hide hkeep; clear hbox hkeep)
              | fail
            go_meet
            exact ⟨cnt, by omega, rfl, OrdInv.moved HRUN.out HM.out HG.out HB.out HNE.out HZ.out HLO.out H0.out HBX.out HK.out (Nat.zero_le _)⟩
          · by_cases hat : at' < L.length
            · go_wp2_with
                first
                | (go_at_call 14
                   refine (skip_yes b sv L at' _ HRUN.out.box hat (by omega)).mono ?_
                   rintro e w' ⟨rfl, hbox, hkeep⟩
                   have HBX := hide hbox; have HK := hide hkeep; clear hbox hkeep)
                | fail
              go_meet
              exact ⟨cnt, by omega, rfl, OrdInv.moved HRUN.out HM.out HG.out HB.out HNE.out HZ.out HLO.out H0.out HBX.out HK.out hat⟩
            · go_wp2_with
                first
                | (go_at_call 14
                   refine (skip_no b sv L at' _ HRUN.out.box (by omega)).mono ?_
                   rintro e w' ⟨rfl, hkeep⟩
                   have HK := hide hkeep; clear hkeep)
                | fail
              go_meet
              exact ⟨cnt, by omega, rfl, HI.out.same HK.out⟩
          · by_cases hat : at' < L.length
            · obtain ⟨x, hx⟩ : ∃ x, L[at']? = some x := ⟨_, List.getElem?_eq_getElem hat⟩
              obtain ⟨k, hk, hxt⟩ := nth_of HM.out hx
              obtain ⟨hkc, hkg⟩ := kept_lt (List.mem_of_getElem? hk)
              have HX := hide hx; have HXT := hide hxt; clear hx hxt hk
              have hk80 : k < 80 := by omega
              have hkz : (k : Int) < 80 := by omega
              have hkn : (0 : Int) ≤ k := by omega
              have hkcz : (k : Int) < cnt := by omega
              have HKG := hide (show G[k]? = some false from by
                have := HG.out
                rw [List.getElem?_eq_getElem (by omega)]
                unfold goneAt at hkg
                rw [List.getD_eq_getElem?_getD, List.getElem?_eq_getElem (by omega)] at hkg
                exact congrArg some hkg)
              clear hkg
              have HBL := hide HB.out.lt
              go_wp2_with
                first
                | (go_at_call 16
                   refine (take_yes b sv L at' (L.length - at' - 1) x _ HRUN.out.box HX.out (by omega) (by omega)).mono ?_
                   rintro e w1 ⟨v0, v1, v2, v3, v4, v5, v6, sv', hcs, rfl, hbox, hkeep, hok, hown⟩
                   obtain ⟨Ala, Alc, Aia, Aic, Ata, Atc, rfl, rfl, rfl, rfl, rfl, rfl, rfl⟩ := flat_form (by have := hok.1; rw [hcs, HXT.out] at this; exact this)
                   have hB1 : Blk (w1.alloc (.cells #[.int .u8 3, .bool false, .slice Ala 0 Alc, .string ByteArray.empty, .int .i64 k, .slice Aia 0 Aic, .slice Ata 0 Atc] 33)) (b + 1) 47 (G.map Value.bool).toArray := (HB.out.keep hkeep (by rintro (h | h); omega; exact HNE.out h)).alloc _
                   have HB1 := hide hB1
                   have HBX := hide (hbox.fresh ((Keeps.refl NoB w1).alloc (.cells #[.int .u8 3, .bool false, .slice Ala 0 Alc, .string ByteArray.empty, .int .i64 k, .slice Aia 0 Aic, .slice Ata 0 Atc] 33)))
                   have HK := hide (hkeep.alloc (.cells #[.int .u8 3, .bool false, .slice Ala 0 Alc, .string ByteArray.empty, .int .i64 k, .slice Aia 0 Aic, .slice Ata 0 Atc] 33)); have HOWN := hide hown
                   have gc : (w1.alloc (.cells #[.int .u8 3, .bool false, .slice Ala 0 Alc, .string ByteArray.empty, .int .i64 k, .slice Aia 0 Aic, .slice Ata 0 Atc] 33)).cell? ⟨b + 1, k, none⟩ = some (.bool false) := by
                     rw [hB1.cell k]; simp [HKG.out]
                   have gf : (w1.alloc (.cells #[.int .u8 3, .bool false, .slice Ala 0 Alc, .string ByteArray.empty, .int .i64 k, .slice Aia 0 Aic, .slice Ata 0 Atc] 33)).frozen? ⟨b + 1, k, none⟩ = false := hB1.free k
                   clear hcs hbox hkeep hok hown hB1)
                | fail
              go_meet
              exact ⟨cnt, by omega, rfl, OrdInv.take HRUN.out HM.out HG.out HB1.out HNE.out HZ.out HLO.out H0.out HX.out HXT.out hk80 HBX.out HK.out HOWN.out rfl⟩
            · go_wp2_with
                first
                | (go_at_call 16
                   refine (take_no b sv L at' _ HRUN.out.box (by omega)).mono ?_
                   rintro e w' ⟨rfl, hkeep⟩
                   have HK := hide (hkeep.alloc (.cells zeroT 33)); clear hkeep)
                | fail
              go_meet
              exact ⟨cnt, by omega, rfl, HI.out.same HK.out⟩
          · have hne0 := int_ne (show r ≠ 0 by omega)
            have hne1 := int_ne (show r ≠ 1 by omega)
            have hne2 := int_ne (show r ≠ 2 by omega)
            go_wp2_with
              first
              | (go_at_call 10
                 refine (put_yes b sv L at' _ HRUN.out.box (by omega) 3 false none 0 0 ByteArray.empty cnt none 0 0 none 0 0 (numT cnt) (fun _ => True) false (flat_in _ _ _ 3 _ _)).mono ?_
                 rintro e w' ⟨sv', x, rfl, hxt, hx0, hbox, hkeep, hown⟩
                 have HBX := hide hbox; have HK := hide hkeep; have HXT := hide hxt; have HX0 := hide hx0; have HOWN := hide hown
                 clear hbox hkeep hxt hx0 hown)
              | fail
            go_meet
            exact ⟨cnt + 1, by omega, by go_num, OrdInv.put HRUN.out HAT.out HM.out HG.out HB.out HNE.out HZ.out HLO.out H0.out HXT.out HX0.out HBX.out HK.out HOWN.out⟩
        case rest =>
          obtain ⟨cnt', hc', rfl, hinv⟩ := hcut
          clear HI
          have HI := hide hinv
          obtain ⟨sv, L, at', G, hrun, hat, hm, hG, hB, hne, hz, hlo, h0⟩ := hinv
          have HRUN := hide hrun; have HM := hide hm; have HG := hide hG; have HB := hide hB
          have HLL := hide (nums_len hm)
          have hLl : L.length ≤ 81 := by rw [nums_len hm]; have := kept_len G cnt'; omega
          clear hrun hat hm hG hB hne hz hlo h0
          go_wp2_with
            first
            | (go_at_call 24
               refine (all_box b sv L at' _ HRUN.out.box (by omega)).mono ?_
               rintro e w4 ⟨A', c', css', m', rfl, h1, h2, h3, h4, h5, h6⟩
               have HR4 := hide (h4.more (B' := fun _ => True) (fun _ _ _ => trivial)); have HT4 := hide (TermsIn.more (B' := fun _ => True) (fun _ _ _ => trivial) _ _ h5)
               have HK4 := hide (Keeps.of_below h6 NoB)
               clear h1 h2 h3 h4 h5 h6)
            | fail
          go_loopg [10, 11] cnt' (fun g s10 s11 wx => ∃ k q : Nat, k ≤ cnt' ∧ g = cnt' - k ∧ s10 = .int .i64 q ∧ s11 = .int .i64 k ∧ w4 = wx ∧ q = (kept G k).length)
          case atStart => exact ⟨0, 0, Nat.zero_le _, rfl, rfl, rfl, rfl, rfl⟩
          case round =>
            obtain ⟨k, q, hk, rfl, rfl, rfl, rfl, hq⟩ := hrel
            have HQ := hide hq; clear hq
            by_cases hkc : k < cnt'
            · have hkz : (k : Int) < cnt' := by omega
              have hk0 : (0 : Int) ≤ k := by omega
              have hk80 : (k : Int) < 80 := by omega
              have gc : w4.cell? ⟨b + 1, k, none⟩ = some (.bool (goneAt G k)) := by
                rw [(HB.out.keep HK4.out id).cell k]
                have := HG.out
                unfold goneAt
                rw [List.getD_eq_getElem?_getD, List.getElem?_eq_getElem (by omega)]
                simp [List.getElem?_eq_getElem, show k < G.length by omega]
              cases hgk : goneAt G k with
              | true =>
                rw [hgk] at gc
                have HGK := hide hgk; clear hgk
                go_wp2
                go_roundg (cnt' - (k + 1))
                case measure => omega
                case rel => exact ⟨k + 1, q, by omega, rfl, rfl, by go_num, rfl, by rw [kept_succ, if_pos HGK.out]; exact HQ.out⟩
              | false =>
                rw [hgk] at gc
                have hkat := kept_at hgk (count := cnt') hkc
                rw [← HQ.out] at hkat
                have HGK := hide hgk; clear hgk
                obtain ⟨hqlt, hqk⟩ := List.getElem?_eq_some_iff.1 hkat
                have hqL : q < L.length := by rw [HLL.out]; exact hqlt
                obtain ⟨gb, go', kd, ng, la, ln, lc, tx, nm, ia, im, ic, ta, tn, tc, t, hA', ht1, ht2, _, f0, f1, f2, f3, f4, f5, f6⟩ := cells_at HR4.out HT4.out q hqL
                have htk : t = numT k := by
                  have h2 := ht1
                  rw [HM.out, List.getElem?_map, hkat] at h2
                  exact (Option.some.inj h2).symm
                subst htk hA'
                obtain ⟨_, _, _, _, _, _, _, _, _, _, hnm, _⟩ := flat_form ht2
                injection hnm with _ hnm
                subst hnm
                clear ht1 ht2 hkat hqk hqlt f0 f1 f2 f3 f5 f6
                have hqz : (q : Int) < L.length := by omega
                have hq0 : (0 : Int) ≤ q := by omega
                go_wp2
                go_roundg (cnt' - (k + 1))
                case measure => omega
                case rel => exact ⟨k + 1, q + 1, by omega, rfl, by go_num, by go_num, rfl, by rw [kept_succ, if_neg (by rw [HGK.out]; decide), List.length_append, ← HQ.out]; rfl⟩
            · obtain rfl : k = cnt' := by omega
              obtain rfl : q = L.length := by rw [HQ.out, HLL.out]
              clear HQ
              go_wp2_with
                first
                | (go_at_call 13
                   refine (len_box b sv L at' _ (HRUN.out.fresh HK4.out).box).mono ?_
                   rintro e w' ⟨rfl, rfl⟩)
                | fail
              go_roundg (m - (i + 1))
              case measure => omega
              case rel => exact ⟨k, i + 1, hc', by omega, rfl, rfl, by go_num, HI.out.same HK4.out⟩
      · obtain ⟨sv, L, at', G, hrun, hat, hm, hG, hB, hne, hz, hlo, h0⟩ := HI.out
        have HRUN := hide hrun; have HM := hide hm
        have HLL := hide (nums_len hm)
        have hLl : L.length ≤ 81 := by rw [nums_len hm]; have := kept_len G cnt; omega
        clear hrun hat hm hG hB hne hz hlo h0
        go_wp2_with
          first
          | (go_at_call 23
             refine (begin_box b sv L at' _ HRUN.out.box).mono ?_
             rintro e w5 ⟨rfl, hbox, hkeep⟩
             have HF := hide (fin_start HRUN.out HM.out hLl hbox hkeep)
             clear hbox hkeep)
          | fail
        go_loopg [12] L.length (fun g s12 wx => ∃ last : Int, s12 = .int .i64 last ∧ FinInv w wx b g last)
        case atStart => exact ⟨-1, rfl, HF.out⟩
        case round =>
          clear HRUN HM HF HI
          obtain ⟨last, rfl, sv5, L5, ys, rfl, hrun, hm, hp, hl, h81⟩ := hrel
          have HRUN := hide hrun; have HM := hide hm; have HP := hide hp; have H81 := hide h81
          clear hrun hm hp h81
          by_cases h0 : L5.length = 0
          · have hz0 : (L5.length : Int) ≤ 0 := by omega
            have HZ0 := hide h0; clear h0 hl
            go_wp2_with
              first
              | (go_at_call 13
                 refine (len_box b sv5 L5 0 _ HRUN.out.box).mono ?_
                 rintro e w' ⟨rfl, rfl⟩)
              | fail
            go_ret
            exact ⟨rfl, HRUN.out.keep⟩
          · have hz0 : (0 : Int) < L5.length := by omega
            obtain ⟨x, hx⟩ : ∃ x, L5[0]? = some x := ⟨_, List.getElem?_eq_getElem (by omega)⟩
            obtain ⟨k, hk, hxt⟩ := nth_of HM.out hx
            have hlk : last < (k : Int) := hl k (List.mem_of_getElem? hk)
            have HX := hide hx; have HXT := hide hxt
            clear hx hxt hk hl
            go_wp2_with
              first
              | (go_at_call 13
                 refine (len_box b sv5 L5 0 _ HRUN.out.box).mono ?_
                 rintro e w' ⟨rfl, rfl⟩)
              | (go_at_call 16
                 refine (take_yes b sv5 L5 0 (L5.length - 1) x _ HRUN.out.box HX.out (by omega) (by have := H81.out; omega)).mono ?_
                 rintro e w1 ⟨v0, v1, v2, v3, v4, v5, v6, sv', hcs, rfl, hbox, hkeep, hok, hown⟩
                 obtain ⟨Ala, Alc, Aia, Aic, Ata, Atc, rfl, rfl, rfl, rfl, rfl, rfl, rfl⟩ := flat_form (by have := hok.1; rw [hcs, HXT.out] at this; exact this)
                 have HFI := hide (fin_step HRUN.out HM.out HP.out H81.out HX.out HXT.out hbox hkeep hown (.cells #[.int .u8 3, .bool false, .slice Ala 0 Alc, .string ByteArray.empty, .int .i64 k, .slice Aia 0 Aic, .slice Ata 0 Atc] 33))
                 clear hcs hbox hkeep hok hown)
              | fail
            go_roundg (L5.eraseIdx 0).length
            case measure => rw [List.length_eraseIdx_of_lt (by omega)]; omega
            case rel => exact ⟨k, rfl, HFI.out⟩
end Go.Proofs.Ytmkidkfofbnjgaa
