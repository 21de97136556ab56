/- The document's clock: Tick. -/
import Derived.Test.YtaiphjgklfioeaaRef3
namespace Go.Proofs.Ytaiphjgklfioeaa
open Go.RowKit

theorem least_hd (A : Option Addr) (n c : Nat) (R T : List Wt) (x : Wt) (w : World) (BB : Nat → Prop) (F : Bool) (hr : Reads w BB F 2 A n (prs R)) (hn : n ≤ 1048576) (hp : R.Perm (x :: T)) (hup : Rising (x :: T)) :
    Calls Try.prog 31 #[.slice A n c] w fun e w' => ∃ a : Nat, e = .returned (.int .i64 a) ∧ R[a]? = some x ∧ Keeps NoB w w' := by
  refine (least_any A n c R w BB F hr hn).mono fun e w' ⟨hk, h⟩ => ?_
  rcases h with ⟨h0, _⟩ | ⟨a, y, hy, hle, he⟩
  · subst h0; have := hp.length_eq; simp at this
  · obtain ⟨T', hT⟩ := least_head hp hup (List.mem_of_getElem? hy) hle
    injection hT with e1 e2
    subst e1
    exact ⟨a, he, hy, hk⟩
theorem least_nil (A : Option Addr) (n c : Nat) (R : List Wt) (w : World) (BB : Nat → Prop) (F : Bool) (hr : Reads w BB F 2 A n (prs R)) (hn : n ≤ 1048576) (hp : R.Perm []) :
    Calls Try.prog 31 #[.slice A n c] w fun e w' => e = .returned (.int .i64 (-1)) ∧ Keeps NoB w w' := by
  refine (least_any A n c R w BB F hr hn).mono fun e w' ⟨hk, h⟩ => ?_
  rcases h with ⟨_, he⟩ | ⟨a, y, hy, _, _⟩
  · exact ⟨he, hk⟩
  · have := hp.mem_iff.1 (List.mem_of_getElem? hy); cases this

structure RTInv (w : World) (r : Nat) (B : Option Addr) (now : Int) (L : List Wt) (k : Nat) (A2 : Option Addr) (c2 : Nat) (B' : Option Addr) (c' : Nat) (R : List Wt) (wr : World) : Prop where
  ref : RefAt wr r B' c' now R
  perm : R.Perm (L.drop k)
  due : ∀ j (h : j < L.length), j < k → (L[j]).1 ≤ now
  keep : Keeps (clkFp r B) w wr
  moved : Moved w B B'
  out : Slab wr 3 1 A2 k c2 (ints (pidsOf (L.take k)))
  new : ∀ j, rowB A2 j → w.heap.size ≤ j

theorem RefAt.leaves {w w' : World} {r c n c2 : Nat} {B A2 : Option Addr} {now : Int} {R : List Wt} {xs : List Value} (h : RefAt w r B c now R) (hi : Slab w 3 1 A2 n c2 xs) (hk : Keeps (clkFp r B) w w') : Slab w' 3 1 A2 n c2 xs := by
  refine hi.keep hk (fun k hk2 hf => ?_)
  rcases hf with rfl | hf
  · exact hi.ne h.blk (by decide) hk2
  · obtain ⟨o, rfl⟩ := hf
    obtain ⟨_, _, _, ⟨h0, _⟩ | ⟨g, o', cur, h0, hb, _⟩⟩ := h.row
    · cases h0
    · injection h0 with h0; injection h0 with h0; subst h0
      exact hi.ne hb (by decide) hk2

theorem RefAt.keepInts {w w' : World} {r c n c2 : Nat} {B A2 : Option Addr} {now : Int} {R : List Wt} {xs : List Value} (h : RefAt w r B c now R) (hi : Slab w 3 1 A2 n c2 xs) (hk : Keeps (rowB A2) w w') : RefAt w' r B c now R :=
  h.keep hk (fun j hj hx => by
    rcases hj with rfl | ⟨o, rfl⟩
    · exact hi.ne h.blk (by decide) hx
    · obtain ⟨_, _, _, ⟨h0, _⟩ | ⟨g, o', cur, h0, hb, _⟩⟩ := h.row
      · cases h0
      · injection h0 with h0; injection h0 with h0; subst h0
        exact hi.ne hb (by decide) hx)

theorem RTInv.step {w wr w3 w4 w5 : World} {r k c2 c3 c' c'' : Nat} {B B' B'' A2 A3 : Option Addr} {now : Int} {L R T : List Wt} {x : Wt} (h : RTInv w r B now L k A2 c2 B' c' R wr) (hd : L.drop k = x :: T) (hx : x.1 ≤ now) (hn : (pidsOf L).Nodup) (hk3 : Keeps NoB wr w3)
    (ho : Slab w4 3 1 A3 (k + 1) c3 (ints (pidsOf (L.take k)) ++ [.int .i64 x.2])) (hk4 : Keeps (rowB A2) w3 w4) (hm4 : Moved w3 A2 A3) (hr4 : RefAt w4 r B' c' now R) (hr5 : RefAt w5 r B'' c'' now (dropPid x.2 R)) (hk5 : Keeps (clkFp r B') w4 w5) (hm5 : Moved w4 B' B'') : RTInv w r B now L (k + 1) A3 c3 B'' c'' (dropPid x.2 R) w5 := by
  obtain ⟨hxk, hdk⟩ := drop_cons_perm hd
  have h3 : Keeps (clkFp r B) w w3 := h.keep.trans' hk3 (fun _ _ h => h) (fun _ _ h => h.elim)
  have h4 : Keeps (clkFp r B) w w4 := h3.trans' hk4 (fun _ _ h => h) (fun j hj hr => by have := h.new j hr; omega)
  refine ⟨hr5, ?_, fun j hj hjk => ?_, h4.trans' hk5 (fun _ _ h => h) (fun j hj hf => ?_), h.moved.trans h4.size hm5, ?_, ?_⟩
  · rw [hdk]
    have hp := h.perm
    rw [hd] at hp
    exact perm_dropPid hp (hd ▸ nodup_drop_list hn k)
  · by_cases e : j = k
    · subst e; obtain ⟨_, h⟩ := List.getElem?_eq_some_iff.1 hxk; rw [h]; exact hx
    · exact h.due j hj (by omega)
  · rcases hf with e | hf
    · exact .inl e
    · rcases h.moved j hf with h2 | h2
      · exact .inr h2
      · omega
  · have := hr4.leaves ho hk5
    rw [List.take_add_one, hxk]
    simpa [pidsOf, ints] using this
  · exact fun j hj => (hm4 j hj).elim (h.new j) (fun e => Nat.le_trans h3.size e)

def RTickPost (w : World) (r : Nat) (B : Option Addr) (s : St) (n : Int) (e : Ending) (w' : World) : Prop :=
  ∃ B' c' R' A2 c2, e = .returned (.tuple #[.slice A2 (s.told n).length c2, .bool (s.tickOk n)]) ∧ RefAt w' r B' c' (s.tick n).now R' ∧ R'.Perm (s.tick n).L ∧ Keeps (clkFp r B) w w' ∧ Moved w B B' ∧ IntsOut w (s.told n) A2 c2 w'

theorem RTInv.done {w wr : World} {r k c2 c' : Nat} {B B' A2 : Option Addr} {s : St} {n : Int} {R : List Wt} (h : RTInv w r B (s.now + n) s.L k A2 c2 B' c' R wr) (hk : k ≤ s.L.length) (hok : s.tickOk n = true) (hlast : ∀ (h : k < s.L.length), s.now + n < (s.L[k]).1) :
    RTickPost w r B s n (.returned (.tuple #[.slice A2 k c2, .bool true])) wr := by
  obtain ⟨d1, d2⟩ := due_split hk h.due (fun h2 => by have := hlast h2; omega)
  have e1 : s.tick n = ⟨s.now + n, s.L.drop k⟩ := by unfold St.tick; rw [if_pos hok, d2]
  have e2 : s.told n = pidsOf (s.L.take k) := by unfold St.told; rw [if_pos hok, d1]
  have hl : (pidsOf (s.L.take k)).length = k := by rw [List.length_map, List.length_take]; omega
  refine ⟨B', c', R, A2, c2, by rw [e2, hl, hok], by rw [e1]; exact h.ref, by rw [e1]; exact h.perm, h.keep, h.moved, ?_, h.new⟩
  rw [e2, hl]; exact h.out

set_option maxRecDepth 100000 in
set_option maxHeartbeats 1000000 in
theorem rtick_any (r c : Nat) (B : Option Addr) (s : St) (R : List Wt) (n : Int) (w : World) (h : RefAt w r B c s.now R) (hp : R.Perm s.L) (hg : s.Good) (hl : R.length ≤ 1000000) :
    Calls Try.prog 28 #[.pointer (some ⟨r, 0, none⟩), .int .i64 n] w (RTickPost w r B s n) := by
  obtain ⟨i0, hi0, hz0, hz1, hz2⟩ := info_parts Try.info3
  have k0 : w.cell? ⟨r, 0, none⟩ = some (.int .i64 s.now) := h.blk.cell 0
  have f0 : w.frozen? ⟨r, 0, none⟩ = false := h.blk.free 0
  have hnlo := hg.lo
  have hnhi : s.now ≤ (1099511627776 : Int) := hg.hi
  have H := hide h; have HP := hide hp; have HG := hide hg
  clear h hp hg
  have no_end : s.tickOk n = false → RTickPost w r B s n (.returned (.tuple #[.slice none 0 0, .bool false])) w := fun hn => by
    have e1 : s.tick n = s := by unfold St.tick; simp [hn]
    have e2 : s.told n = [] := by unfold St.told; simp [hn]
    exact ⟨B, c, R, none, 0, by rw [e2, hn]; rfl, by rw [e1]; exact H.out, by rw [e1]; exact HP.out, Keeps.refl _ _, Moved.same _ _, by rw [e2]; exact Slab.nil w 3 1, fun k ⟨o, h⟩ => by cases h⟩
  by_cases ha : n < 0
  · have HN := hide (no_end (by unfold St.tickOk; simp; intro h; omega))
    clear f0 no_end
    go_enter Try.func28, Try.ntmps28
    go_wp2
    go_ret2
    exact HN.out
  have ha0 : 0 ≤ n := by omega
  clear ha
  by_cases hb : (1099511627776 : Int) - s.now < n
  · have HN := hide (no_end (by unfold St.tickOk; simp; intro h; unfold lastT; omega))
    clear f0 no_end
    go_enter Try.func28, Try.ntmps28
    go_wp2
    go_ret2
    exact HN.out
  have hb' : n ≤ (1099511627776 : Int) - s.now := by omega
  have HY := hide (show s.tickOk n = true from decide_eq_true ⟨ha0, hb'⟩)
  clear hb no_end
  have hk1 : Keeps (fun j => j = r) w (w.setCell ⟨r, 0, none⟩ (.int .i64 (s.now + n))) := (Keeps.refl (fun j => j = r) w).setCell (p := ⟨r, 0, none⟩) (.inl rfl) _
  have HS0 := hide (show RTInv w r B (s.now + n) s.L 0 none 0 B c R (w.setCell ⟨r, 0, none⟩ (.int .i64 (s.now + n))) from
    ⟨⟨H.out.blk.put 0 _, H.out.row.keep hk1 (fun j hj e => H.out.sep (e ▸ hj))⟩, by simpa using HP.out, fun j _ h => by omega, hk1.mono (fun _ _ h => .inl h), Moved.same _ _, by simpa using Slab.nil _ 3 1, fun k ⟨o, h⟩ => by cases h⟩)
  have HLR := hide (show s.L.length = R.length from HP.out.length_eq.symm)
  clear hk1
  obtain ⟨len, hlen⟩ : ∃ len, s.L.length = len := ⟨_, rfl⟩
  have HLEN := hide hlen
  have hlen2 : len ≤ 1000000 := by have := HLR.out; omega
  clear hlen hl
  go_enter Try.func28, Try.ntmps28
  go_wp2_with fail
  generalize w.setCell ⟨r, 0, none⟩ (.int .i64 (s.now + n)) = w1 at *
  clear k0 f0
  go_loopg [6] len (fun g s6 wr => ∃ (k : Nat) (A2 : Option Addr) (c2 : Nat) (B' : Option Addr) (c' : Nat) (R' : List Wt), k ≤ len ∧ g = len - k ∧ s6 = .slice A2 k c2 ∧ RTInv w r B (s.now + n) s.L k A2 c2 B' c' R' wr)
  case atStart => exact ⟨0, none, 0, B, c, R, Nat.zero_le _, rfl, rfl, HS0.out⟩
  case round =>
    clear HS0
    obtain ⟨k, A2, c2, B', c', R', hk, rfl, rfl, hinv⟩ := hrel
    have HI := hide hinv
    have hRl : R'.length = len - k := by rw [hinv.perm.length_eq, List.length_drop, HLEN.out]
    have HRL := hide hRl
    have k1 : wr.cell? ⟨r, 1, none⟩ = some (.slice B' (len - k) c') := by rw [← hRl]; exact hinv.ref.blk.cell 1
    have k0 : wr.cell? ⟨r, 0, none⟩ = some (.int .i64 (s.now + n)) := hinv.ref.blk.cell 0
    have HRR := hide hinv.ref.row.reads
    have HRR := hide (show Reads wr (rowB B') true 2 B' (len - k) (prs R') from hRl ▸ HRR.out)
    clear hinv hRl
    by_cases hlt : k < len
    · obtain ⟨x, T, hd⟩ : ∃ x T, s.L.drop k = x :: T := by
        cases hc : s.L.drop k with
        | nil => have := congrArg List.length hc; rw [List.length_drop, HLEN.out] at this; simp at this; omega
        | cons x T => exact ⟨x, T, rfl⟩
      have HDR := hide hd
      clear hd
      go_wp2_with fail
      refine (least_hd B' (len - k) c' R' T x _ _ _ HRR.out (by omega) (HDR.out ▸ HI.out.perm) (HDR.out ▸ HG.out.up.drop_list k)).mono ?_
      rintro e w2 ⟨a, rfl, hxa, hk2⟩
      have HXA := hide hxa; have HK2 := hide hk2
      have hal : a < len - k := by have := (List.getElem?_eq_some_iff.1 hxa).1; have := HRL.out; omega
      obtain ⟨⟨g, o, sp⟩, hA, hs, _, _, hc⟩ := (HRR.out.keep hk2 (fun _ _ => id)).2 (by omega)
      simp only at hs
      subst hs hA
      obtain ⟨e0, e1⟩ := prs_at hxa
      obtain ⟨t, p⟩ := x
      have d0 : w2.cell? ⟨g, o + a * 2, none⟩ = some (.int .i64 t) := (hc _ _ e0).1
      have d1 : w2.cell? ⟨g, o + a * 2 + 1, none⟩ = some (.int .i64 p) := (hc _ _ e1).1
      have k1' : w2.cell? ⟨r, 1, none⟩ = some (.slice (some ⟨g, o, none⟩) (len - k) c') := hk2.cell id k1
      have k0' : w2.cell? ⟨r, 0, none⟩ = some (.int .i64 (s.now + n)) := hk2.cell id k0
      have haz : (a : Int) < ((len - k : Nat) : Int) := by omega
      have ha00 : (0 : Int) ≤ (a : Int) := by omega
      have z0 : decide ((a : Int) < 0) = false := by simp
      clear hc e0 e1 hxa hk2 k1 k0
      generalize hm : len - k = m at *
      have HM := hide hm
      clear hm
      by_cases hx : t ≤ s.now + n
      · have z1 : decide (s.now + n < t) = false := by simp <;> omega
        have HX := hide hx
        obtain ⟨xs, hxs⟩ : ∃ xs, ints (pidsOf (s.L.take k)) = xs := ⟨_, rfl⟩
        have HXS := hide hxs
        have HOUT := hide (show Slab w2 3 1 A2 k c2 xs from hxs ▸ HI.out.out.fresh HK2.out)
        have HPP := hide (show k + 1 ≤ maxLen ∧ (k + 1) * 8 ≤ 140737488355328 from by unfold maxLen; omega)
        clear hxs hx
        go_wp2_with (first
          | (go_quiet (fail))
          | (at_builtin; go_loud (refine wpList_append_slab _ rfl (.tmp 51) (.tmp 60) 30 rfl 3 i0 _ 1 8 Try.underlying30 hi0 hz0 hz1 hz2 rfl (by omega) A2 k c2 xs rfl (HOUT.out.fresh (((Keeps.refl NoB w2).drewN _).alloc _)) (fun _ => True) true (some ⟨_, 0, none⟩) 1 1 [.int .i64 p] rfl (int_reads (Blk.new _ 3 #[.int .i64 p])) (by omega) (ints_ones (xs := [p])) HPP.out.1 HPP.out.2 ?_)))
        intro A3 c3 w4 h1 h2 h3
        have hk3 : Keeps NoB wr ((w2.drewN nq).alloc (.cells #[.int .i64 p] 3)) := (HK2.out.drewN nq).alloc _
        have HR3 := hide (HI.out.ref.fresh hk3)
        have HR4 := hide (HR3.out.keepInts (HOUT.out.fresh (((Keeps.refl NoB w2).drewN nq).alloc (.cells #[.int .i64 p] 3))) h2)
        have h1' : Slab w4 3 1 A3 (k + 1) c3 (ints (pidsOf (s.L.take k)) ++ [.int .i64 (t, p).2]) := by rw [HXS.out]; exact h1
        have HST := hide (fun (w5 : World) (B'' : Option Addr) (c'' : Nat) (g1 : RefAt w5 r B'' c'' (s.now + n) (dropPid p R')) (g2 : Keeps (clkFp r (some ⟨g, o, none⟩)) w4 w5) (g3 : Moved w4 (some ⟨g, o, none⟩) B'') => HI.out.step HDR.out HX.out HG.out.once hk3 h1' h2 h3 HR4.out g1 g2 g3)
        have k1'' : w4.cell? ⟨r, 1, none⟩ = some (.slice (some ⟨g, o, none⟩) m c') := by rw [← HRL.out]; exact HR4.out.blk.cell 1
        obtain ⟨⟨g', o', sp'⟩, hA', _, _, _, hc4⟩ := HR4.out.row.reads.2 (by have := HRL.out; have := HM.out; omega)
        injection hA' with hA'; injection hA' with e1 e2 e3
        subst e1 e2
        have d1' : w4.cell? ⟨g, o + a * 2 + 1, none⟩ = some (.int .i64 p) := (hc4 _ _ (prs_at HXA.out).2).1
        clear h1 h2 h3 hk3 h1' hc4 e3 d0 d1 k1' k0' z0 z1 HR3 HOUT HPP
        go_wp2_with fail
        refine (rdrop_any r c' (some ⟨g, o, none⟩) (s.now + n) p R' _ HR4.out (by have := HRL.out; have := HM.out; omega)).mono ?_
        rintro e w5 ⟨B'', c'', rfl, h1, h2, h3⟩
        have HI2 := hide (HST.out _ _ _ h1 h2 h3)
        clear h1 h2 h3 HST
        go_wp2_with fail
        go_roundg (len - (k + 1))
        case measure => have := HM.out; omega
        case rel => exact ⟨k + 1, A3, c3, B'', c'', _, by omega, rfl, rfl, HI2.out⟩
      · have z1 : decide (s.now + n < t) = true := by simp <;> omega
        have HX := hide (show ∀ (h : k < s.L.length), s.now + n < (s.L[k]).1 from fun h => by
          have := (drop_cons_perm HDR.out).1
          obtain ⟨_, h2⟩ := List.getElem?_eq_some_iff.1 this
          rw [h2]; show s.now + n < t; omega)
        clear hx
        go_wp2_with (go_quiet (fail))
        go_ret2
        exact RTInv.done (A2 := A2) (c2 := c2) (B' := some ⟨g, o, none⟩) (c' := c') (R := R') ⟨HI.out.ref.fresh (HK2.out.drewN _), HI.out.perm, HI.out.due, HI.out.keep.trans' (HK2.out.drewN _) (fun _ _ h => h) (fun _ _ h => h.elim), HI.out.moved, HI.out.out.fresh (HK2.out.drewN _), HI.out.new⟩ (by have := HLEN.out; omega) HY.out HX.out
    · obtain rfl : len = k := by omega
      have hd : s.L.drop len = [] := List.drop_eq_nil_of_le (by have := HLEN.out; omega)
      have HX := hide (show ∀ (h : len < s.L.length), s.now + n < (s.L[len]).1 from fun h => by have := HLEN.out; omega)
      have hp0 : R'.Perm [] := hd ▸ HI.out.perm
      have HP0 := hide hp0
      have HRR := hide (show Reads wr (rowB B') true 2 B' 0 (prs R') from Nat.sub_self len ▸ HRR.out)
      have k1 : wr.cell? ⟨r, 1, none⟩ = some (.slice B' 0 c') := Nat.sub_self len ▸ k1
      clear hd hp0
      go_wp2_with fail
      refine (least_nil B' 0 c' R' _ _ _ HRR.out (by omega) HP0.out).mono ?_
      rintro e w2 ⟨rfl, hk2⟩
      have HK2 := hide hk2
      have z0 : decide ((-1 : Int) < 0) = true := by decide
      clear hk2 k1 k0
      go_wp2_with (go_quiet (fail))
      go_ret2
      exact RTInv.done (A2 := A2) (c2 := c2) (B' := B') (c' := c') (R := R') ⟨HI.out.ref.fresh (HK2.out.drewN _), HI.out.perm, HI.out.due, HI.out.keep.trans' (HK2.out.drewN _) (fun _ _ h => h) (fun _ _ h => h.elim), HI.out.moved, HI.out.out.fresh (HK2.out.drewN _), HI.out.new⟩ (by have := HLEN.out; omega) HY.out HX.out
end Go.Proofs.Ytaiphjgklfioeaa
