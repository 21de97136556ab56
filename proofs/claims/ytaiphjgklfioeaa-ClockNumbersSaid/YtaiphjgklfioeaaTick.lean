/- (*clock.Clock).Tick: the clock goes on. -/
import Derived.Test.YtaiphjgklfioeaaPids
namespace Go.Proofs.Ytaiphjgklfioeaa
open Go.RowKit

def TickPost (w : World) (b : Nat) (A : Option Addr) (s : St) (n : Int) (e : Ending) (w' : World) : Prop :=
  ∃ A' c' A2 c2, e = .returned (.tuple #[.slice A2 (s.told n).length c2, .bool (s.tickOk n)]) ∧ ClockAt w' b A' c' (s.tick n) ∧ Keeps (clkFp b A) w w' ∧ Moved w A A' ∧ IntsOut w (s.told n) A2 c2 w'

theorem tick_nil (n : Int) (w : World) : Calls Try.prog 12 #[.pointer none, .int .i64 n] w fun e w' => e = .returned (.tuple #[.slice none 0 0, .bool false]) ∧ w = w' := by
  go_enter Try.func12, Try.ntmps12
  go_wp2_with (go_at_call 20; refine (known_nil _).mono ?_; rintro e w' ⟨rfl, rfl⟩)
  go_ret2
  exact ⟨rfl, rfl⟩
theorem tick_unmade (b : Nat) (n : Int) (w : World) (h : w.cell? ⟨b, 1, none⟩ = some (.bool false)) : Calls Try.prog 12 #[.pointer (some ⟨b, 0, none⟩), .int .i64 n] w fun e w' => e = .returned (.tuple #[.slice none 0 0, .bool false]) ∧ w = w' := by
  go_enter Try.func12, Try.ntmps12
  go_wp2_with (go_at_call 20; refine (known_at b false _ h).mono ?_; rintro e w' ⟨rfl, rfl⟩)
  go_ret2
  exact ⟨rfl, rfl⟩

theorem tick_no_end {w : World} {b c : Nat} {A : Option Addr} {s : St} {n : Int} (h : ClockAt w b A c s) (hn : s.tickOk n = false) : TickPost w b A s n (.returned (.tuple #[.slice none 0 0, .bool false])) w := by
  have e1 : s.tick n = s := by unfold St.tick; simp [hn]
  have e2 : s.told n = [] := by unfold St.told; simp [hn]
  refine ⟨A, c, none, 0, by rw [e2, hn]; rfl, by rw [e1]; exact h, Keeps.refl _ _, Moved.same _ _, by rw [e2]; exact Slab.nil w 3 1, fun k ⟨o, h⟩ => by cases h⟩

def TickInv (w1 : World) (L : List Wt) (t : Int) (k : Nat) (wr : World) : Prop := Keeps NoB w1 wr ∧ ∀ i (h : i < L.length), i < k → (L[i]).1 ≤ t

theorem tick_yes_end {w w1 w2 w3 w4 : World} {b c k m c' c2 : Nat} {A A' A2 : Option Addr} {s : St} {n : Int} (h : ClockAt w b A c s) (hy : s.tickOk n = true) (hw1 : w.setCell ⟨b, 0, none⟩ (.int .i64 (s.now + n)) = w1) (hk : k ≤ s.L.length) (hi : TickInv w1 s.L (s.now + n) k w2) (hlast : ∀ (h : k < s.L.length), s.now + n < (s.L[k]).1)
    (hm : s.L.length - k = m) (hA : Slab w2 53 2 A' m c' (prs (s.L.drop k))) (hAA : ∀ j, rowB A' j → rowB A j) (hw3 : w2.setCell ⟨b, 2, none⟩ (.slice A' m c') = w3) (hk4 : Keeps NoB w3 w4) (ho : IntsOut w3 (pidsOf (s.L.take k)) A2 c2 w4) :
    TickPost w b A s n (.returned (.tuple #[.slice A2 k c2, .bool true])) w4 := by
  subst hw1 hw3
  obtain ⟨d1, d2⟩ := due_split hk hi.2 (fun h => by have := hlast h; omega)
  have e1 : s.tick n = ⟨s.now + n, s.L.drop k⟩ := by unfold St.tick; rw [if_pos hy, d2]
  have e2 : s.told n = pidsOf (s.L.take k) := by unfold St.told; rw [if_pos hy, d1]
  have hg := h.good.tick n
  rw [e1] at hg
  have hk1 : Keeps (fun j => j = b) w (w.setCell ⟨b, 0, none⟩ (.int .i64 (s.now + n))) := (Keeps.refl (fun j => j = b) w).setCell (p := ⟨b, 0, none⟩) (.inl rfl) _
  have hb1 := h.blk.put 0 (.int .i64 (s.now + n))
  have hk3 : Keeps (fun j => j = b) w2 (w2.setCell ⟨b, 2, none⟩ (.slice A' m c')) := (Keeps.refl (fun j => j = b) w2).setCell (p := ⟨b, 2, none⟩) (.inl rfl) _
  have hb3 := ((hb1.keep hi.1 id).put 2 (.slice A' m c')).keep hk4 id
  have hl : m = (s.L.drop k).length := by rw [List.length_drop, hm]
  have hsz : w.heap.size ≤ (w2.setCell ⟨b, 2, none⟩ (.slice A' m c')).heap.size := Nat.le_trans hk1.size (Nat.le_trans hi.1.size hk3.size)
  refine ⟨A', c', A2, c2, by rw [e2, hy, List.length_map, List.length_take, Nat.min_eq_left hk], ?_, ?_, fun j hj => .inl (hAA j hj), ?_⟩
  · rw [e1]
    refine ⟨?_, ?_, hg⟩
    · show Blk w4 b 47 #[.int .i64 (s.now + n), .bool true, .slice A' (s.L.drop k).length c']
      rw [← hl]; exact hb3
    · show Slab w4 53 2 A' (s.L.drop k).length c' (prs (s.L.drop k))
      rw [← hl]
      exact (hA.keep hk3 (fun j hj e => h.sep (by rw [← e]; exact hAA j hj))).fresh hk4
  · exact ((hk1.trans' hi.1 (fun _ _ h => h) (fun _ _ h => h.elim) : Keeps (fun j => j = b) w w2).trans' (hk3.trans' hk4 (fun _ _ h => h) (fun _ _ h => h.elim) : Keeps (fun j => j = b) w2 w4) (fun _ _ h => .inl h) (fun _ _ h => .inl h))
  · rw [e2]; exact ⟨ho.1, fun j hj => Nat.le_trans hsz (ho.2 j hj)⟩

set_option maxRecDepth 100000 in
set_option maxHeartbeats 2000000 in
theorem tick_any (b c : Nat) (A : Option Addr) (s : St) (n : Int) (w : World) (h : ClockAt w b A c s) (hl : s.L.length ≤ 1000000) :
    Calls Try.prog 12 #[.pointer (some ⟨b, 0, none⟩), .int .i64 n] w (TickPost w b A s n) := by
  have k0 : w.cell? ⟨b, 0, none⟩ = some (.int .i64 s.now) := h.blk.cell 0
  have k1 : w.cell? ⟨b, 1, none⟩ = some (.bool true) := h.blk.cell 1
  have f0 : w.frozen? ⟨b, 0, none⟩ = false := h.blk.free 0
  have hnlo := h.good.lo
  have hnhi : s.now ≤ (1099511627776 : Int) := h.good.hi
  have H := hide h
  clear h
  by_cases ha : n < 0
  · have HN := hide (tick_no_end (n := n) H.out (by unfold St.tickOk; simp; intro h; omega))
    clear f0
    go_enter Try.func12, Try.ntmps12
    go_wp2_with (go_at_call 20; refine (known_at b true _ k1).mono ?_; rintro e w' ⟨rfl, rfl⟩)
    go_ret2
    exact HN.out
  have ha0 : 0 ≤ n := by omega
  clear ha
  by_cases hb : (1099511627776 : Int) - s.now < n
  · have HN := hide (tick_no_end (n := n) H.out (by unfold St.tickOk; simp; intro h; unfold lastT; omega))
    clear f0
    go_enter Try.func12, Try.ntmps12
    go_wp2_with (go_at_call 20; refine (known_at b true _ k1).mono ?_; rintro e w' ⟨rfl, rfl⟩)
    go_ret2
    exact HN.out
  have hb' : n ≤ (1099511627776 : Int) - s.now := by omega
  have HY := hide (show s.tickOk n = true from decide_eq_true ⟨ha0, hb'⟩)
  clear hb
  have HROW := hide (H.out.row.keep ((Keeps.refl (fun j => j = b) w).setCell (p := ⟨b, 0, none⟩) (.inl rfl) (.int .i64 (s.now + n))) (fun j hj e => H.out.sep (e ▸ hj)))
  have HBLK := hide (H.out.blk.put 0 (.int .i64 (s.now + n)))
  have HL := hide (rfl : s.L.length = s.L.length)
  obtain ⟨len, hlen⟩ : ∃ len, s.L.length = len := ⟨_, rfl⟩
  have HLEN := hide hlen
  rw [hlen] at hl
  have HROW := hide (show Slab _ 53 2 A len c (prs s.L) from hlen ▸ HROW.out)
  have HBLK := hide (show Blk (w.setCell ⟨b, 0, none⟩ (.int .i64 (s.now + n))) b 47 #[.int .i64 (s.now + n), .bool true, .slice A len c] from hlen ▸ HBLK.out)
  clear hlen HL
  go_enter Try.func12, Try.ntmps12
  go_wp2_with (go_at_call 20; refine (known_at b true _ k1).mono ?_; rintro e w' ⟨rfl, rfl⟩)
  generalize hw1 : w.setCell ⟨b, 0, none⟩ (.int .i64 (s.now + n)) = w1 at *
  have HW1 := hide hw1
  have HSEP := hide H.out.sep
  clear hw1 k0 k1 f0
  go_loopg [6] len (fun g s6 wr => ∃ k : Nat, k ≤ len ∧ g = len - k ∧ s6 = .int .i64 k ∧ TickInv w1 s.L (s.now + n) k wr)
  case atStart => exact ⟨0, Nat.zero_le _, rfl, rfl, Keeps.refl _ _, fun i _ h => by omega⟩
  case round =>
    obtain ⟨k, hk, rfl, rfl, hinv⟩ := hrel
    have HI := hide hinv; clear hinv
    have e0 : wr.cell? ⟨b, 0, none⟩ = some (.int .i64 (s.now + n)) := HI.out.1.cell id (HBLK.out.cell 0)
    have e2 : wr.cell? ⟨b, 2, none⟩ = some (.slice A len c) := HI.out.1.cell id (HBLK.out.cell 2)
    have f2 : wr.frozen? ⟨b, 2, none⟩ = false := (HBLK.out.keep HI.out.1 id).free 2
    by_cases hlt : k < len
    · obtain ⟨⟨g, o, sp⟩, hA, hs, _, _, hc⟩ := (HROW.out.fresh HI.out.1).reads.2 (by omega)
      simp only at hs
      subst hs hA
      obtain ⟨x, hx⟩ : ∃ x, s.L[k]? = some x := ⟨_, List.getElem?_eq_getElem (by have := HLEN.out; omega)⟩
      obtain ⟨g0, _⟩ := prs_at hx
      obtain ⟨t, p⟩ := x
      have c0 : wr.cell? ⟨g, o + k * 2, none⟩ = some (.int .i64 t) := (hc _ _ g0).1
      have HX := hide hx
      have hkz : (k : Int) < len := by omega
      have hk0 : (0 : Int) ≤ k := by omega
      have hnc : len ≤ c := HROW.out.2.1
      have hck : ¬ c = k := by omega
      clear hc g0 hx
      by_cases hd : t ≤ s.now + n
      · have HD := hide hd
        go_wp2_with (go_quiet (fail))
        go_roundg (len - (k + 1))
        case measure => omega
        case rel => exact ⟨k + 1, by omega, rfl, by go_num, HI.out.1.drewN _, fun j hj hjk => by
          by_cases e : j = k
          · subst e; obtain ⟨_, h⟩ := List.getElem?_eq_some_iff.1 HX.out; rw [h]; exact HD.out
          · exact HI.out.2 j hj (by omega)⟩
      · have HLAST := hide (show ∀ (h : k < s.L.length), s.now + n < (s.L[k]).1 from fun h => by obtain ⟨_, h⟩ := List.getElem?_eq_some_iff.1 HX.out; rw [h]; show s.now + n < t; omega)
        have HM := hide (show s.L.length - k = len - k from by rw [HLEN.out])
        have HSUB := hide (show ∀ j, rowB (some ⟨g, o + k * 2, none⟩) j → rowB (some ⟨g, o, none⟩) j from fun j ⟨o', e⟩ => ⟨o, by injection e with e; injection e with e; rw [e]⟩)
        have hdz : s.now + n < t := by omega
        clear hd
        have HUP := hide ((HROW.out.fresh HI.out.1).upto (i := k) (by omega))
        have HTK := hide (prs_take s.L k)
        have HSL := hide (show Slab wr 53 2 (some ⟨g, o + k * 2, none⟩) (len - k) (c - k) (prs (s.L.drop k)) from by have := (HROW.out.fresh HI.out.1).from (i := k) (by omega); rw [if_neg hck, prs_drop] at this; exact this)
        go_wp2_with (first
          | (go_quiet (fail))
          | (go_at_call 27; go_loud (refine (pids_any _ k k (s.L.take k) _ (rowB (some ⟨g, o, none⟩)) true (by rw [← HTK.out]; exact ((HUP.out.fresh ((Keeps.refl NoB wr).drewN _)).keep ((Keeps.refl (fun j => j = b) _).setCell (p := ⟨b, 2, none⟩) (.inl rfl) _) (fun j hj e => HSEP.out (e ▸ hj))).reads) (by omega)).mono ?_; rintro e w4 ⟨A2, c2, rfl, hk4, ho4⟩; (have HO := hide (And.intro hk4 ho4)); clear hk4 ho4)))
        go_ret2
        exact tick_yes_end H.out HY.out HW1.out (by have := HLEN.out; omega) ⟨HI.out.1.drewN _, HI.out.2⟩ HLAST.out HM.out (HSL.out.fresh ((Keeps.refl NoB wr).drewN _)) HSUB.out rfl HO.out.1 HO.out.2
    · obtain rfl : len = k := by omega
      have hnlt : ¬ (len : Int) < len := by omega
      have HLAST := hide (show ∀ (h : len < s.L.length), s.now + n < (s.L[len]).1 from fun h => by have := HLEN.out; omega)
      have HM := hide (show s.L.length - len = 0 from by rw [HLEN.out]; omega)
      have hnc : len ≤ c := HROW.out.2.1
      rcases A with _ | ⟨g, o, sp⟩
      · have hc0 : c = 0 := by
          obtain ⟨_, _, _, ⟨_, h⟩ | ⟨_, _, _, h, _⟩⟩ := HROW.out
          · exact h
          · cases h
        subst hc0
        obtain rfl : len = 0 := by omega
        have HUP := hide ((HROW.out.fresh HI.out.1).upto (i := 0) (by omega))
        have HTK := hide (prs_take s.L 0)
        have HSL := hide (show Slab wr 53 2 none 0 0 (prs (s.L.drop 0)) from by rw [List.drop_eq_nil_of_le (by have := HLEN.out; omega)]; exact Slab.nil wr 53 2)
        go_wp2_with (first
          | (go_quiet (fail))
          | (go_at_call 27; go_loud (refine (pids_any _ 0 0 (s.L.take 0) _ (rowB none) true (by rw [← HTK.out]; exact ((HUP.out.fresh ((Keeps.refl NoB wr).drewN _)).keep ((Keeps.refl (fun j => j = b) _).setCell (p := ⟨b, 2, none⟩) (.inl rfl) _) (fun j hj e => HSEP.out (e ▸ hj))).reads) (by omega)).mono ?_; rintro e w4 ⟨A2, c2, rfl, hk4, ho4⟩; (have HO := hide (And.intro hk4 ho4)); clear hk4 ho4)))
        go_ret2
        exact tick_yes_end H.out HY.out HW1.out (by have := HLEN.out; omega) ⟨HI.out.1.drewN _, HI.out.2⟩ HLAST.out HM.out (HSL.out.fresh ((Keeps.refl NoB wr).drewN _)) (fun j hj => hj) rfl HO.out.1 HO.out.2
      · have hsp : sp = none := by
          obtain ⟨_, _, _, ⟨h, _⟩ | ⟨_, _, _, h, _⟩⟩ := HROW.out
          · cases h
          · injection h with h; injection h
        subst hsp
        by_cases hck : c = len
        · subst hck
          have HUP := hide ((HROW.out.fresh HI.out.1).upto (i := c) (by omega))
          have HTK := hide (prs_take s.L c)
          have HSL := hide (show Slab wr 53 2 (some ⟨g, o, none⟩) 0 0 (prs (s.L.drop c)) from by have := (HROW.out.fresh HI.out.1).from (i := c) (by omega); rw [if_pos rfl, prs_drop, Nat.sub_self] at this; exact this)
          go_wp2_with (first
            | (go_quiet (fail))
            | (go_at_call 27; go_loud (refine (pids_any _ c c (s.L.take c) _ (rowB (some ⟨g, o, none⟩)) true (by rw [← HTK.out]; exact ((HUP.out.fresh ((Keeps.refl NoB wr).drewN _)).keep ((Keeps.refl (fun j => j = b) _).setCell (p := ⟨b, 2, none⟩) (.inl rfl) _) (fun j hj e => HSEP.out (e ▸ hj))).reads) (by omega)).mono ?_; rintro e w4 ⟨A2, c2, rfl, hk4, ho4⟩; (have HO := hide (And.intro hk4 ho4)); clear hk4 ho4)))
          go_ret2
          exact tick_yes_end H.out HY.out HW1.out (by have := HLEN.out; omega) ⟨HI.out.1.drewN _, HI.out.2⟩ HLAST.out HM.out (HSL.out.fresh ((Keeps.refl NoB wr).drewN _)) (fun j hj => hj) rfl HO.out.1 HO.out.2
        · have HUP := hide ((HROW.out.fresh HI.out.1).upto (i := len) (by omega))
          have HTK := hide (prs_take s.L len)
          have HSL := hide (show Slab wr 53 2 (some ⟨g, o + len * 2, none⟩) 0 (c - len) (prs (s.L.drop len)) from by have := (HROW.out.fresh HI.out.1).from (i := len) (by omega); rw [if_neg hck, prs_drop, Nat.sub_self] at this; exact this)
          go_wp2_with (first
            | (go_quiet (fail))
            | (go_at_call 27; go_loud (refine (pids_any _ len len (s.L.take len) _ (rowB (some ⟨g, o, none⟩)) true (by rw [← HTK.out]; exact ((HUP.out.fresh ((Keeps.refl NoB wr).drewN _)).keep ((Keeps.refl (fun j => j = b) _).setCell (p := ⟨b, 2, none⟩) (.inl rfl) _) (fun j hj e => HSEP.out (e ▸ hj))).reads) (by omega)).mono ?_; rintro e w4 ⟨A2, c2, rfl, hk4, ho4⟩; (have HO := hide (And.intro hk4 ho4)); clear hk4 ho4)))
          go_ret2
          exact tick_yes_end H.out HY.out HW1.out (by have := HLEN.out; omega) ⟨HI.out.1.drewN _, HI.out.2⟩ HLAST.out HM.out (HSL.out.fresh ((Keeps.refl NoB wr).drewN _)) (fun j hj => (show ∀ j, rowB (some ⟨g, o + len * 2, none⟩) j → rowB (some ⟨g, o, none⟩) j from fun j ⟨o', e⟩ => ⟨o, by injection e with e; injection e with e; rw [e]⟩) j hj) rfl HO.out.1 HO.out.2
end Go.Proofs.Ytaiphjgklfioeaa
