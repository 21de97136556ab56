/- at's own function: a part of a pattern (given at for it). -/
import Derived.Test.YtdmldipnalklgaaMaker
import Derived.Test.YtdmldipnalklgaaSeq3
namespace Go.Proofs.Ytdmldipnalklgaa
open Go.RowKit

theorem CoreIn.kindOf {w : World} {B : Nat → Prop} {F : Bool} {kd : Int} {tx : ByteArray} {nm : Int} {cs : List Value} {t : Co} (h : CoreIn w B F (.int .u8 kd :: .string tx :: .int .i64 nm :: cs) t) : t.kind = kd ∧ t.num = nm := by
  cases t
  unfold CoreIn at h
  obtain ⟨_, _, _, _, _, e, _⟩ := h
  simp only [List.cons.injEq, Value.int.injEq, true_and] at e
  exact ⟨e.1.symm, e.2.2.1.symm⟩

set_option maxRecDepth 100000 in
set_option maxHeartbeats 2000000 in
theorem at1_of (M : Nat) (IH : Hid (AtSaid M)) (t : Co) (hM : t.size ≤ M) (w : World) (P : Nat → Prop) (F : Bool) (kd : Int) (tx : ByteArray) (nm tk : Int) (ng : Bool) (la : Option Addr) (ln lc : Nat) (tt : ByteArray) (tn : Int) (ia : Option Addr) (im ic : Nat) (ta : Option Addr) (tm tc : Nat) (ka : Option Addr) (kn kc : Nat) (op n s next free : Int) (cs : List Tm) (mb sb mm : Nat) (ht : CoreIn w P F [.int .u8 kd, .string tx, .int .i64 nm, .int .u8 tk, .bool ng, .slice la ln lc, .string tt, .int .i64 tn, .slice ia im ic, .slice ta tm tc, .slice ka kn kc] t) (hmay : mayC free t = true)
    (hm : MakerAt P w mb next cs) (hb : BoundM next cs t.count) (hs : Blk w sb 3 #[.int .i64 s]) (hsP : P sb) (hmm : Blk w mm 49 #[.pointer (some ⟨mb, 0, none⟩)]) (hmP : P mm) :
    Calls Try.prog 21 #[.agg #[.int .u8 kd, .string tx, .int .i64 nm, .int .u8 tk, .bool ng, .slice la ln lc, .string tt, .int .i64 tn, .slice ia im ic, .slice ta tm tc, .slice ka kn kc], .int .u8 op, .int .i64 n, .pointer (some ⟨sb, 0, none⟩), .pointer (some ⟨mm, 0, none⟩)] w (AtPost P w mb cs (childM op n s next t (atC next (next + 1) cs.length t))) := by
  obtain ⟨hkd, hnm⟩ := ht.kindOf
  have HKB : Hid (Keeps NoB w (w.alloc (.cells #[.int .u8 kd, .string tx, .int .i64 nm, .int .u8 tk, .bool ng, .slice la ln lc, .string tt, .int .i64 tn, .slice ia im ic, .slice ta tm tc, .slice ka kn kc] 30))) := hide ((Keeps.refl NoB w).alloc _)
  have HKI : Hid (Keeps NoB w ((w.alloc (.cells #[.int .u8 kd, .string tx, .int .i64 nm, .int .u8 tk, .bool ng, .slice la ln lc, .string tt, .int .i64 tn, .slice ia im ic, .slice ta tm tc, .slice ka kn kc] 30)).alloc (.cells #[.int .u8 op, .int .i64 0, .int .i64 s, .int .i64 0, .int .i64 n, .int .i64 0, .string { data := #[] }, .slice none 0 0] 44))) := hide (((Keeps.refl NoB w).alloc _).alloc _)
  have HBB : Hid (Blk ((w.alloc (.cells #[.int .u8 kd, .string tx, .int .i64 nm, .int .u8 tk, .bool ng, .slice la ln lc, .string tt, .int .i64 tn, .slice ia im ic, .slice ta tm tc, .slice ka kn kc] 30)).alloc (.cells #[.int .u8 op, .int .i64 0, .int .i64 s, .int .i64 0, .int .i64 n, .int .i64 0, .string { data := #[] }, .slice none 0 0] 44)) w.heap.size 30 #[.int .u8 kd, .string tx, .int .i64 nm, .int .u8 tk, .bool ng, .slice la ln lc, .string tt, .int .i64 tn, .slice ia im ic, .slice ta tm tc, .slice ka kn kc]) := hide ((Blk.new w 30 #[.int .u8 kd, .string tx, .int .i64 nm, .int .u8 tk, .bool ng, .slice la ln lc, .string tt, .int .i64 tn, .slice ia im ic, .slice ta tm tc, .slice ka kn kc]).alloc _)
  have HBI : Hid (Blk ((w.alloc (.cells #[.int .u8 kd, .string tx, .int .i64 nm, .int .u8 tk, .bool ng, .slice la ln lc, .string tt, .int .i64 tn, .slice ia im ic, .slice ta tm tc, .slice ka kn kc] 30)).alloc (.cells #[.int .u8 op, .int .i64 0, .int .i64 s, .int .i64 0, .int .i64 n, .int .i64 0, .string { data := #[] }, .slice none 0 0] 44)) (w.heap.size + 1) 44 #[.int .u8 op, .int .i64 0, .int .i64 s, .int .i64 0, .int .i64 n, .int .i64 0, .string { data := #[] }, .slice none 0 0]) := hide (Blk.new2 w _ _ _)
  have HT := hide ht; have HM := hide hm; have HB := hide hb; have HS := hide hs; have HMM := hide hmm
  have ps : w.cell? ⟨sb, 0, none⟩ = some (.int .i64 s) := hs.cell 0
  have pl := hs.lt
  have ps1 : (w.alloc (.cells #[.int .u8 kd, .string tx, .int .i64 nm, .int .u8 tk, .bool ng, .slice la ln lc, .string tt, .int .i64 tn, .slice ia im ic, .slice ta tm tc, .slice ka kn kc] 30)).cell? ⟨sb, 0, none⟩ = some (.int .i64 s) := (hs.keep HKB.out id).cell 0
  have HHM := hide hmay; have HHS := hide hM
  clear ht hm hb hs hmm hmay hM
  by_cases k20 : kd = 20
  · subst k20
    have HE : Hid (childM op n s next t (atC next (next + 1) cs.length t) = ⟨[], next, []⟩) := hide (by unfold childM; rw [if_pos hkd])
    clear hkd hnm
    go_enter Try.func21, Try.ntmps21
    go_wp2
    go_ret
    unfold AtPost
    rw [HE.out]
    exact ⟨none, 0, rfl, Slab.nil _ _ _, (fun k ⟨o, h⟩ => by cases h), by rw [List.append_nil]; exact HM.out.grow HKI.out (fun k ⟨o, h⟩ => by cases h), HKI.out.mono (fun _ _ h => h.elim)⟩
  · by_cases k21 : kd = 21
    · subst k21
      have HE : Hid (childM op n s next t (atC next (next + 1) cs.length t) = ⟨[⟨op, nm, s, 0, n, 0⟩], next, []⟩) := hide (by unfold childM; rw [if_neg (by omega), if_pos hkd, hnm])
      clear hkd hnm k20
      go_enter Try.func21, Try.ntmps21
      go_wp2_with
        first
        | (go_at_call 22
           have hk4 : Keeps NoB w ((((w.alloc (.cells #[.int .u8 21, .string tx, .int .i64 nm, .int .u8 tk, .bool ng, .slice la ln lc, .string tt, .int .i64 tn, .slice ia im ic, .slice ta tm tc, .slice ka kn kc] 30)).alloc (.cells #[.int .u8 op, .int .i64 nm, .int .i64 s, .int .i64 0, .int .i64 n, .int .i64 0, .string { data := #[] }, .slice none 0 0] 44)).alloc (.cells #[.int .u8 op, .int .i64 nm, .int .i64 s, .int .i64 0, .int .i64 n, .int .i64 0, .string { data := #[] }, .slice none 0 0] 44)).alloc (.cells #[.slice (some ⟨w.heap.size + 1 + 1, 0, none⟩) 1 1] 34)) := ((((Keeps.refl NoB w).alloc _).alloc _).alloc _).alloc _
           have hb2 : Blk ((((w.alloc (.cells #[.int .u8 21, .string tx, .int .i64 nm, .int .u8 tk, .bool ng, .slice la ln lc, .string tt, .int .i64 tn, .slice ia im ic, .slice ta tm tc, .slice ka kn kc] 30)).alloc (.cells #[.int .u8 op, .int .i64 nm, .int .i64 s, .int .i64 0, .int .i64 n, .int .i64 0, .string { data := #[] }, .slice none 0 0] 44)).alloc (.cells #[.int .u8 op, .int .i64 nm, .int .i64 s, .int .i64 0, .int .i64 n, .int .i64 0, .string { data := #[] }, .slice none 0 0] 44)).alloc (.cells #[.slice (some ⟨w.heap.size + 1 + 1, 0, none⟩) 1 1] 34)) (w.heap.size + 1 + 1) 44 #[.int .u8 op, .int .i64 nm, .int .i64 s, .int .i64 0, .int .i64 n, .int .i64 0, .string { data := #[] }, .slice none 0 0] := by
             have h := (Blk.new ((w.alloc (.cells #[.int .u8 21, .string tx, .int .i64 nm, .int .u8 tk, .bool ng, .slice la ln lc, .string tt, .int .i64 tn, .slice ia im ic, .slice ta tm tc, .slice ka kn kc] 30)).alloc (.cells #[.int .u8 op, .int .i64 nm, .int .i64 s, .int .i64 0, .int .i64 n, .int .i64 0, .string { data := #[] }, .slice none 0 0] 44)) 44 #[.int .u8 op, .int .i64 nm, .int .i64 s, .int .i64 0, .int .i64 n, .int .i64 0, .string { data := #[] }, .slice none 0 0]).alloc (.cells #[.slice (some ⟨w.heap.size + 1 + 1, 0, none⟩) 1 1] 34)
             simpa using h
           have hb3 : Blk ((((w.alloc (.cells #[.int .u8 21, .string tx, .int .i64 nm, .int .u8 tk, .bool ng, .slice la ln lc, .string tt, .int .i64 tn, .slice ia im ic, .slice ta tm tc, .slice ka kn kc] 30)).alloc (.cells #[.int .u8 op, .int .i64 nm, .int .i64 s, .int .i64 0, .int .i64 n, .int .i64 0, .string { data := #[] }, .slice none 0 0] 44)).alloc (.cells #[.int .u8 op, .int .i64 nm, .int .i64 s, .int .i64 0, .int .i64 n, .int .i64 0, .string { data := #[] }, .slice none 0 0] 44)).alloc (.cells #[.slice (some ⟨w.heap.size + 1 + 1, 0, none⟩) 1 1] 34)) (w.heap.size + 1 + 1 + 1) 34 #[.slice (some ⟨w.heap.size + 1 + 1, 0, none⟩) 1 1] := by
             have h := Blk.new (((w.alloc (.cells #[.int .u8 21, .string tx, .int .i64 nm, .int .u8 tk, .bool ng, .slice la ln lc, .string tt, .int .i64 tn, .slice ia im ic, .slice ta tm tc, .slice ka kn kc] 30)).alloc (.cells #[.int .u8 op, .int .i64 nm, .int .i64 s, .int .i64 0, .int .i64 n, .int .i64 0, .string { data := #[] }, .slice none 0 0] 44)).alloc (.cells #[.int .u8 op, .int .i64 nm, .int .i64 s, .int .i64 0, .int .i64 n, .int .i64 0, .string { data := #[] }, .slice none 0 0] 44)) 34 #[.slice (some ⟨w.heap.size + 1 + 1, 0, none⟩) 1 1]
             simpa using h
           refine (rows_one ⟨op, nm, s, 0, n, 0⟩ _ _ _ hb3 hb2).mono ?_
           rintro e w2 ⟨A2, c2, rfl, g1, g2, g3⟩
           have HG := hide (And.intro g1 (And.intro (fun k hk => Nat.le_trans hk4.size (g2 k hk)) (hk4.trans' g3 (fun _ _ => id) (fun _ _ => id) : Keeps NoB w w2)))
           clear g1 g2 g3 hb2 hb3 hk4)
        | fail
      go_ret
      unfold AtPost
      rw [HE.out]
      exact ⟨A2, c2, rfl, HG.out.1, HG.out.2.1, by rw [List.append_nil]; exact HM.out.grow HG.out.2.2 (fun k hr => ⟨HG.out.2.1 k hr, HG.out.1.lt hr⟩), HG.out.2.2.mono (fun _ _ h => h.elim)⟩
    · have hkd' := hkd
      have HE : Hid (childM op n s next t (atC next (next + 1) cs.length t) = ⟨⟨op, next, s, 0, n, 0⟩ :: (atC next (next + 1) cs.length t).ins, (atC next (next + 1) cs.length t).next, (atC next (next + 1) cs.length t).cs⟩) := hide (by unfold childM; rw [if_neg (by omega), if_neg (by omega)])
      have b20 : (kd == 20) = false := by simp [k20]
      have b21 : (kd == 21) = false := by simp [k21]
      obtain ⟨A0, c0, hmb⟩ := HM.out.own
      obtain ⟨hn0, hn1, hc1⟩ := HB.out
      have hcnt : 1 ≤ t.count := by cases t; simp only [Co.count]; omega
      have HMB := hide hmb
      have pm0 : w.cell? ⟨mm, 0, none⟩ = some (.pointer (some ⟨mb, 0, none⟩)) := HMM.out.cell 0
      have pb1 : w.cell? ⟨mb, 1, none⟩ = some (.int .i64 next) := hmb.cell 1
      have qb1 : w.frozen? ⟨mb, 1, none⟩ = false := hmb.free 1
      have ml := HMM.out.lt
      have bl := hmb.lt
      have hw1 : wrap64 (next + 1) = next + 1 := by unfold wrap64; omega
      clear hkd hkd' hnm k20 k21 hmb
      go_enter Try.func21, Try.ntmps21
      go_wp2_with fail
      have HSP := hide hsP; have HMP := hide hmP
      obtain ⟨hmt, hkt⟩ := HM.out.turn (next + 1)
      have HK2 : Hid (Keeps (fun k => ¬ P k) w (((w.setCell ⟨mb, 1, none⟩ (.int .i64 (next + 1))).alloc (.cells #[.int .u8 kd, .string tx, .int .i64 nm, .int .u8 tk, .bool ng, .slice la ln lc, .string tt, .int .i64 tn, .slice ia im ic, .slice ta tm tc, .slice ka kn kc] 30)).alloc (.cells #[.int .u8 op, .int .i64 next, .int .i64 s, .int .i64 0, .int .i64 n, .int .i64 0, .string { data := #[] }, .slice none 0 0] 44)).drew) := hide (((hkt.alloc _).alloc _).drew)
      have hsz : (w.setCell ⟨mb, 1, none⟩ (.int .i64 (next + 1))).heap.size = w.heap.size := by simp [World.setCell]
      have HM2 : Hid (MakerAt (fun k => P k ∨ (k = w.heap.size ∨ k = w.heap.size + 1)) (((w.setCell ⟨mb, 1, none⟩ (.int .i64 (next + 1))).alloc (.cells #[.int .u8 kd, .string tx, .int .i64 nm, .int .u8 tk, .bool ng, .slice la ln lc, .string tt, .int .i64 tn, .slice ia im ic, .slice ta tm tc, .slice ka kn kc] 30)).alloc (.cells #[.int .u8 op, .int .i64 next, .int .i64 s, .int .i64 0, .int .i64 n, .int .i64 0, .string { data := #[] }, .slice none 0 0] 44)).drew mb (next + 1) cs) := hide (hmt.grow ((((Keeps.refl NoB _).alloc _).alloc _).drew) (fun k hk => by simp [World.drew, World.alloc, hsz]; omega))
      have HBB2 : Hid (Blk (((w.setCell ⟨mb, 1, none⟩ (.int .i64 (next + 1))).alloc (.cells #[.int .u8 kd, .string tx, .int .i64 nm, .int .u8 tk, .bool ng, .slice la ln lc, .string tt, .int .i64 tn, .slice ia im ic, .slice ta tm tc, .slice ka kn kc] 30)).alloc (.cells #[.int .u8 op, .int .i64 next, .int .i64 s, .int .i64 0, .int .i64 n, .int .i64 0, .string { data := #[] }, .slice none 0 0] 44)).drew w.heap.size 30 #[.int .u8 kd, .string tx, .int .i64 nm, .int .u8 tk, .bool ng, .slice la ln lc, .string tt, .int .i64 tn, .slice ia im ic, .slice ta tm tc, .slice ka kn kc]) := hide (by
        have h := (Blk.new (w.setCell ⟨mb, 1, none⟩ (.int .i64 (next + 1))) 30 #[.int .u8 kd, .string tx, .int .i64 nm, .int .u8 tk, .bool ng, .slice la ln lc, .string tt, .int .i64 tn, .slice ia im ic, .slice ta tm tc, .slice ka kn kc]).alloc (.cells #[.int .u8 op, .int .i64 next, .int .i64 s, .int .i64 0, .int .i64 n, .int .i64 0, .string { data := #[] }, .slice none 0 0] 44)
        rw [hsz] at h; exact h)
      have HBI2 : Hid (Blk (((w.setCell ⟨mb, 1, none⟩ (.int .i64 (next + 1))).alloc (.cells #[.int .u8 kd, .string tx, .int .i64 nm, .int .u8 tk, .bool ng, .slice la ln lc, .string tt, .int .i64 tn, .slice ia im ic, .slice ta tm tc, .slice ka kn kc] 30)).alloc (.cells #[.int .u8 op, .int .i64 next, .int .i64 s, .int .i64 0, .int .i64 n, .int .i64 0, .string { data := #[] }, .slice none 0 0] 44)).drew (w.heap.size + 1) 44 #[.int .u8 op, .int .i64 next, .int .i64 s, .int .i64 0, .int .i64 n, .int .i64 0, .string { data := #[] }, .slice none 0 0]) := hide (by
        have h := Blk.new2 (w.setCell ⟨mb, 1, none⟩ (.int .i64 (next + 1))) (.cells #[.int .u8 kd, .string tx, .int .i64 nm, .int .u8 tk, .bool ng, .slice la ln lc, .string tt, .int .i64 tn, .slice ia im ic, .slice ta tm tc, .slice ka kn kc] 30) 44 #[.int .u8 op, .int .i64 next, .int .i64 s, .int .i64 0, .int .i64 n, .int .i64 0, .string { data := #[] }, .slice none 0 0]
        rw [hsz] at h; exact h)
      have HMM2 : Hid (Blk (((w.setCell ⟨mb, 1, none⟩ (.int .i64 (next + 1))).alloc (.cells #[.int .u8 kd, .string tx, .int .i64 nm, .int .u8 tk, .bool ng, .slice la ln lc, .string tt, .int .i64 tn, .slice ia im ic, .slice ta tm tc, .slice ka kn kc] 30)).alloc (.cells #[.int .u8 op, .int .i64 next, .int .i64 s, .int .i64 0, .int .i64 n, .int .i64 0, .string { data := #[] }, .slice none 0 0] 44)).drew mm 49 #[.pointer (some ⟨mb, 0, none⟩)]) := hide (HMM.out.keep HK2.out (fun h => h hmP))
      have HT2 : Hid (CoreIn (((w.setCell ⟨mb, 1, none⟩ (.int .i64 (next + 1))).alloc (.cells #[.int .u8 kd, .string tx, .int .i64 nm, .int .u8 tk, .bool ng, .slice la ln lc, .string tt, .int .i64 tn, .slice ia im ic, .slice ta tm tc, .slice ka kn kc] 30)).alloc (.cells #[.int .u8 op, .int .i64 next, .int .i64 s, .int .i64 0, .int .i64 n, .int .i64 0, .string { data := #[] }, .slice none 0 0] 44)).drew P F [.int .u8 kd, .string tx, .int .i64 nm, .int .u8 tk, .bool ng, .slice la ln lc, .string tt, .int .i64 tn, .slice ia im ic, .slice ta tm tc, .slice ka kn kc] t) := hide (CoreIn.keep HK2.out (fun k h hn => hn h) _ _ HT.out)
      have HFEW := hide (at_few next (next + 1) cs.length t)
      have HLOW := hide (Nat.le_refl w.heap.size)
      clear hmt hkt hsz pm0 pb1 qb1 ml bl hsP hmP HKB HKI HBB HBI ps ps1 pl
      generalize hgi : w.heap.size + 1 = gi at HBI2 HM2 ⊢
      generalize hgb : w.heap.size = gb at HBB2 HM2 ⊢
      have HGI := hide hgi; have HGB := hide hgb
      clear hgi hgb
      refine order_begin (fun W => Blk W gb 30 #[.int .u8 kd, .string tx, .int .i64 nm, .int .u8 tk, .bool ng, .slice la ln lc, .string tt, .int .i64 tn, .slice ia im ic, .slice ta tm tc, .slice ka kn kc] ∧ Blk W gi 44 #[.int .u8 op, .int .i64 next, .int .i64 s, .int .i64 0, .int .i64 n, .int .i64 0, .string { data := #[] }, .slice none 0 0] ∧ Blk W mm 49 #[.pointer (some ⟨mb, 0, none⟩)]) (fun _ => true) (by kernel_rfl) 10 rfl ?_
      generalize (((w.setCell ⟨mb, 1, none⟩ (.int .i64 (next + 1))).alloc (.cells #[.int .u8 kd, .string tx, .int .i64 nm, .int .u8 tk, .bool ng, .slice la ln lc, .string tt, .int .i64 tn, .slice ia im ic, .slice ta tm tc, .slice ka kn kc] 30)).alloc (.cells #[.int .u8 op, .int .i64 next, .int .i64 s, .int .i64 0, .int .i64 n, .int .i64 0, .string { data := #[] }, .slice none 0 0] 44)).drew = W0 at *
      have HS : Blk W0 gb 30 #[.int .u8 kd, .string tx, .int .i64 nm, .int .u8 tk, .bool ng, .slice la ln lc, .string tt, .int .i64 tn, .slice ia im ic, .slice ta tm tc, .slice ka kn kc] ∧ Blk W0 gi 44 #[.int .u8 op, .int .i64 next, .int .i64 s, .int .i64 0, .int .i64 n, .int .i64 0, .string { data := #[] }, .slice none 0 0] ∧ Blk W0 mm 49 #[.pointer (some ⟨mb, 0, none⟩)] := ⟨HBB2.out, HBI2.out, HMM2.out⟩
      refine order_held (i := 0) rfl (by kernel_rfl) (fun _ _ _ h => h) (.inl ⟨rfl, fun W hW => by
        have q0 : W.cell? ⟨gi, 0, none⟩ = some (.int .u8 op) := hW.2.1.cell 0
        have q1 : W.cell? ⟨gi, 1, none⟩ = some (.int .i64 next) := hW.2.1.cell 1
        have q2 : W.cell? ⟨gi, 2, none⟩ = some (.int .i64 s) := hW.2.1.cell 2
        have q3 : W.cell? ⟨gi, 3, none⟩ = some (.int .i64 0) := hW.2.1.cell 3
        have q4 : W.cell? ⟨gi, 4, none⟩ = some (.int .i64 n) := hW.2.1.cell 4
        have q5 : W.cell? ⟨gi, 5, none⟩ = some (.int .i64 0) := hW.2.1.cell 5
        have q6 : W.cell? ⟨gi, 6, none⟩ = some (.string { data := #[] }) := hW.2.1.cell 6
        have q7 : W.cell? ⟨gi, 7, none⟩ = some (.slice none 0 0) := hW.2.1.cell 7
        go_simp; rfl⟩) HS ?_
      try simp only [Act.put, List.setIfInBounds_toArray, List.set_cons_succ, List.set_cons_zero]
      refine order_held (i := 2) rfl (by kernel_rfl) (fun _ _ _ h => h) (.inl ⟨rfl, fun W hW => by
        have q0 : W.cell? ⟨mm, 0, none⟩ = some (.pointer (some ⟨mb, 0, none⟩)) := hW.2.2.cell 0
        go_simp; rfl⟩) HS ?_
      try simp only [Act.put, List.setIfInBounds_toArray, List.set_cons_succ, List.set_cons_zero]
      refine order_held (i := 3) rfl (by kernel_rfl) (fun _ _ _ h => h) (.inl ⟨rfl, fun W hW => by
        have q0 : W.cell? ⟨gb, 0, none⟩ = some (.int .u8 kd) := hW.1.cell 0
        have q1 : W.cell? ⟨gb, 1, none⟩ = some (.string tx) := hW.1.cell 1
        have q2 : W.cell? ⟨gb, 2, none⟩ = some (.int .i64 nm) := hW.1.cell 2
        have q3 : W.cell? ⟨gb, 3, none⟩ = some (.int .u8 tk) := hW.1.cell 3
        have q4 : W.cell? ⟨gb, 4, none⟩ = some (.bool ng) := hW.1.cell 4
        have q5 : W.cell? ⟨gb, 5, none⟩ = some (.slice la ln lc) := hW.1.cell 5
        have q6 : W.cell? ⟨gb, 6, none⟩ = some (.string tt) := hW.1.cell 6
        have q7 : W.cell? ⟨gb, 7, none⟩ = some (.int .i64 tn) := hW.1.cell 7
        have q8 : W.cell? ⟨gb, 8, none⟩ = some (.slice ia im ic) := hW.1.cell 8
        have q9 : W.cell? ⟨gb, 9, none⟩ = some (.slice ta tm tc) := hW.1.cell 9
        have q10 : W.cell? ⟨gb, 10, none⟩ = some (.slice ka kn kc) := hW.1.cell 10
        go_simp; rfl⟩) HS ?_
      try simp only [Act.put, List.setIfInBounds_toArray, List.set_cons_succ, List.set_cons_zero]
      refine order_pure (i := 4) rfl (by kernel_rfl) (fun _ _ _ h => h) (.inl ⟨rfl, fun _ => by go_simp; rfl⟩) ?_
      try simp only [Act.put, List.setIfInBounds_toArray, List.set_cons_succ, List.set_cons_zero]
      refine order_held (i := 5) rfl (by kernel_rfl) (fun _ _ _ h => h) (.inl ⟨rfl, fun W hW => by
        have q0 : W.cell? ⟨gi, 1, none⟩ = some (.int .i64 next) := hW.2.1.cell 1
        go_simp; rfl⟩) HS ?_
      try simp only [Act.put, List.setIfInBounds_toArray, List.set_cons_succ, List.set_cons_zero]
      obtain ⟨r, hr⟩ : ∃ r, atC next (next + 1) cs.length t = r := ⟨_, rfl⟩
      rw [hr] at HE HFEW
      have HRR := hide hr
      clear hr
      refine order_two (i := 1) (j := 6) rfl rfl (by kernel_rfl) (fun K hK => ?_) (fun K hK => ?_)
      · go_simp
        refine hK _ _ (fun _ hS => ⟨hS.1.alloc _, hS.2.1.alloc _, hS.2.2.alloc _⟩) ?_
        clear hK
        try simp only [Act.put, List.setIfInBounds_toArray, List.set_cons_succ, List.set_cons_zero]
        have HG1 := hide (Blk.new W0 44 #[.int .u8 op, .int .i64 next, .int .i64 s, .int .i64 0, .int .i64 n, .int .i64 0, .string { data := #[] }, .slice none 0 0])
        have HB1 := hide (HS.1.alloc (.cells #[.int .u8 op, .int .i64 next, .int .i64 s, .int .i64 0, .int .i64 n, .int .i64 0, .string { data := #[] }, .slice none 0 0] 44))
        have HI1 := hide (HS.2.1.alloc (.cells #[.int .u8 op, .int .i64 next, .int .i64 s, .int .i64 0, .int .i64 n, .int .i64 0, .string { data := #[] }, .slice none 0 0] 44))
        have HMK1 : Hid (MakerAt (fun k => (P k ∨ (k = gb ∨ k = gi)) ∨ k = W0.heap.size) (W0.alloc (.cells #[.int .u8 op, .int .i64 next, .int .i64 s, .int .i64 0, .int .i64 n, .int .i64 0, .string { data := #[] }, .slice none 0 0] 44)) mb (next + 1) cs) := hide (HM2.out.grow ((Keeps.refl NoB W0).alloc (.cells #[.int .u8 op, .int .i64 next, .int .i64 s, .int .i64 0, .int .i64 n, .int .i64 0, .string { data := #[] }, .slice none 0 0] 44)) (fun k hk => by subst hk; exact ⟨Nat.le_refl _, by simp⟩))
        have HT1 := hide (CoreIn.keep ((Keeps.refl NoB W0).alloc (.cells #[.int .u8 op, .int .i64 next, .int .i64 s, .int .i64 0, .int .i64 n, .int .i64 0, .string { data := #[] }, .slice none 0 0] 44)) (fun _ _ => id) _ _ HT2.out)
        have HK1 := hide (HK2.out.alloc (.cells #[.int .u8 op, .int .i64 next, .int .i64 s, .int .i64 0, .int .i64 n, .int .i64 0, .string { data := #[] }, .slice none 0 0] 44))
        generalize W0.alloc (.cells #[.int .u8 op, .int .i64 next, .int .i64 s, .int .i64 0, .int .i64 n, .int .i64 0, .string { data := #[] }, .slice none 0 0] 44) = V1 at *
        generalize W0.heap.size = g1 at *
        refine order_one (i := 6) rfl (by kernel_rfl) (fun K hK => ?_)
        go_simp
        refine (IH.out t HHS.out V1 (fun k => (P k ∨ (k = gb ∨ k = gi)) ∨ k = g1) F kd tx nm tk ng la ln lc tt tn ia im ic ta tm tc ka kn kc next (next + 1) free cs mb (CoreIn.more (fun k _ h => .inl (.inl h)) _ _ HT1.out) HHM.out HMK1.out ⟨by omega, by omega, hc1⟩).mono ?_
        rintro e V9 ⟨A2, c2, rfl, hs, hf, hm, hk⟩
        rw [HRR.out] at hs hm ⊢
        refine hK _ _ (fun _ hS => ⟨hS.1.keep hk (fun h => h (.inl (.inr (.inl rfl)))), hS.2.1.keep hk (fun h => h (.inl (.inr (.inr rfl)))), hS.2.2.keep hk (fun h => h (.inl (.inl HMP.out)))⟩) ?_
        clear hK
        have HG := hide (HG1.out.keep hk (fun h => h (.inr rfl)))
        have HSL := hide hs
        have HMK := hide (hm.less (P' := P) (fun k h => .inl (.inl (.inl h))))
        have HKW : Hid (Keeps (fun k => ¬ P k) w V9) := hide (HK1.out.trans' hk (fun _ _ h => h) (fun _ _ h hp => h (.inl (.inl hp))))
        clear hs hf hm hk HG1 HB1 HI1 HMK1 HT1 HK1
        try simp only [Act.put, List.setIfInBounds_toArray, List.set_cons_succ, List.set_cons_zero]
        refine order_one (i := 7) rfl (by kernel_rfl) (fun K hK => ?_)
        go_simp
        refine hK _ _ (fun _ hS => ⟨hS.1.alloc _, hS.2.1.alloc _, hS.2.2.alloc _⟩) ?_
        clear hK
        try simp only [Act.put, List.setIfInBounds_toArray, List.set_cons_succ, List.set_cons_zero]
        have H7 := hide (Blk.new V9 34 #[.slice (some ⟨g1, 0, none⟩) 1 1, .slice A2 r.ins.length c2])
        have HG7 := hide (HG.out.alloc (.cells #[.slice (some ⟨g1, 0, none⟩) 1 1, .slice A2 r.ins.length c2] 34))
        have HSL7 := hide (HSL.out.fresh ((Keeps.refl NoB V9).alloc (.cells #[.slice (some ⟨g1, 0, none⟩) 1 1, .slice A2 r.ins.length c2] 34)))
        have HMK7 := hide (HMK.out.keep ((Keeps.refl NoB V9).alloc (.cells #[.slice (some ⟨g1, 0, none⟩) 1 1, .slice A2 r.ins.length c2] 34)))
        have HKW7 := hide (HKW.out.alloc (.cells #[.slice (some ⟨g1, 0, none⟩) 1 1, .slice A2 r.ins.length c2] 34))
        clear HG HSL HMK HKW
        refine order_one (i := 8) rfl (by kernel_rfl) (fun K hK => ?_)
        go_simp
        refine (rows_two ⟨op, next, s, 0, n, 0⟩ r.ins _ g1 A2 r.ins.length c2 _ H7.out HG7.out HSL7.out (by have := HFEW.out.1; omega)).mono ?_
        rintro e V8 ⟨A3, c3, rfl, g1', g2', g3'⟩
        refine hK _ _ (fun _ hS => ⟨hS.1.keep g3' id, hS.2.1.keep g3' id, hS.2.2.keep g3' id⟩) ?_
        clear hK
        have HF1 := hide g1'
        have HF2 : Hid (∀ k, rowB A3 k → w.heap.size ≤ k) := hide (fun k hk => Nat.le_trans HKW7.out.size (g2' k hk))
        have HF3 := hide (HMK7.out.grow (Q := rowB A3) g3' (fun k hr => ⟨g2' k hr, g1'.lt hr⟩))
        have HF4 : Hid (Keeps (fun k => ¬ P k) w V8) := hide (HKW7.out.trans' g3' (fun _ _ h => h) (fun _ _ h => h.elim))
        clear g1' g2' g3'
        try simp only [Act.put, List.setIfInBounds_toArray, List.set_cons_succ, List.set_cons_zero]
        refine order_pure (i := 9) rfl (by kernel_rfl) (fun _ _ _ h => h) (.inl ⟨rfl, fun _ => by go_simp; rfl⟩) ?_
        try simp only [Act.put, List.setIfInBounds_toArray, List.set_cons_succ, List.set_cons_zero]
        refine order_done (by kernel_rfl) ?_
        go_wp2_with fail
        go_ret
        unfold AtPost
        rw [HRR.out, HE.out]
        exact ⟨A3, c3, rfl, HF1.out, HF2.out, HF3.out, HF4.out⟩
      · go_simp
        refine (IH.out t HHS.out W0 (fun k => P k ∨ (k = gb ∨ k = gi)) F kd tx nm tk ng la ln lc tt tn ia im ic ta tm tc ka kn kc next (next + 1) free cs mb (CoreIn.more (fun k _ h => .inl h) _ _ HT2.out) HHM.out HM2.out ⟨by omega, by omega, hc1⟩).mono ?_
        rintro e V1 ⟨A2, c2, rfl, hs, hf, hm, hk⟩
        rw [HRR.out] at hs hm ⊢
        refine hK _ _ (fun _ hS => ⟨hS.1.keep hk (fun h => h (.inr (.inl rfl))), hS.2.1.keep hk (fun h => h (.inr (.inr rfl))), hS.2.2.keep hk (fun h => h (.inl HMP.out))⟩) ?_
        clear hK
        try simp only [Act.put, List.setIfInBounds_toArray, List.set_cons_succ, List.set_cons_zero]
        refine order_one (i := 1) rfl (by kernel_rfl) (fun K hK => ?_)
        go_simp
        refine hK _ _ (fun _ hS => ⟨hS.1.alloc _, hS.2.1.alloc _, hS.2.2.alloc _⟩) ?_
        clear hK
        have HG := hide (Blk.new V1 44 #[.int .u8 op, .int .i64 next, .int .i64 s, .int .i64 0, .int .i64 n, .int .i64 0, .string { data := #[] }, .slice none 0 0])
        have HSL := hide (hs.fresh ((Keeps.refl NoB V1).alloc (.cells #[.int .u8 op, .int .i64 next, .int .i64 s, .int .i64 0, .int .i64 n, .int .i64 0, .string { data := #[] }, .slice none 0 0] 44)))
        have HMK := hide ((hm.less (P' := P) (fun k h => .inl (.inl h))).keep ((Keeps.refl NoB V1).alloc (.cells #[.int .u8 op, .int .i64 next, .int .i64 s, .int .i64 0, .int .i64 n, .int .i64 0, .string { data := #[] }, .slice none 0 0] 44)))
        have HKW : Hid (Keeps (fun k => ¬ P k) w (V1.alloc (.cells #[.int .u8 op, .int .i64 next, .int .i64 s, .int .i64 0, .int .i64 n, .int .i64 0, .string { data := #[] }, .slice none 0 0] 44))) := hide ((HK2.out.trans' hk (fun _ _ h => h) (fun _ _ h hp => h (.inl hp)) : Keeps (fun k => ¬ P k) w V1).alloc (.cells #[.int .u8 op, .int .i64 next, .int .i64 s, .int .i64 0, .int .i64 n, .int .i64 0, .string { data := #[] }, .slice none 0 0] 44))
        clear hs hf hm hk
        try simp only [Act.put, List.setIfInBounds_toArray, List.set_cons_succ, List.set_cons_zero]
        generalize V1.alloc (.cells #[.int .u8 op, .int .i64 next, .int .i64 s, .int .i64 0, .int .i64 n, .int .i64 0, .string { data := #[] }, .slice none 0 0] 44) = V9 at *
        generalize V1.heap.size = g1 at *
        refine order_one (i := 7) rfl (by kernel_rfl) (fun K hK => ?_)
        go_simp
        refine hK _ _ (fun _ hS => ⟨hS.1.alloc _, hS.2.1.alloc _, hS.2.2.alloc _⟩) ?_
        clear hK
        try simp only [Act.put, List.setIfInBounds_toArray, List.set_cons_succ, List.set_cons_zero]
        have H7 := hide (Blk.new V9 34 #[.slice (some ⟨g1, 0, none⟩) 1 1, .slice A2 r.ins.length c2])
        have HG7 := hide (HG.out.alloc (.cells #[.slice (some ⟨g1, 0, none⟩) 1 1, .slice A2 r.ins.length c2] 34))
        have HSL7 := hide (HSL.out.fresh ((Keeps.refl NoB V9).alloc (.cells #[.slice (some ⟨g1, 0, none⟩) 1 1, .slice A2 r.ins.length c2] 34)))
        have HMK7 := hide (HMK.out.keep ((Keeps.refl NoB V9).alloc (.cells #[.slice (some ⟨g1, 0, none⟩) 1 1, .slice A2 r.ins.length c2] 34)))
        have HKW7 := hide (HKW.out.alloc (.cells #[.slice (some ⟨g1, 0, none⟩) 1 1, .slice A2 r.ins.length c2] 34))
        clear HG HSL HMK HKW
        refine order_one (i := 8) rfl (by kernel_rfl) (fun K hK => ?_)
        go_simp
        refine (rows_two ⟨op, next, s, 0, n, 0⟩ r.ins _ g1 A2 r.ins.length c2 _ H7.out HG7.out HSL7.out (by have := HFEW.out.1; omega)).mono ?_
        rintro e V8 ⟨A3, c3, rfl, g1', g2', g3'⟩
        refine hK _ _ (fun _ hS => ⟨hS.1.keep g3' id, hS.2.1.keep g3' id, hS.2.2.keep g3' id⟩) ?_
        clear hK
        have HF1 := hide g1'
        have HF2 : Hid (∀ k, rowB A3 k → w.heap.size ≤ k) := hide (fun k hk => Nat.le_trans HKW7.out.size (g2' k hk))
        have HF3 := hide (HMK7.out.grow (Q := rowB A3) g3' (fun k hr => ⟨g2' k hr, g1'.lt hr⟩))
        have HF4 : Hid (Keeps (fun k => ¬ P k) w V8) := hide (HKW7.out.trans' g3' (fun _ _ h => h) (fun _ _ h => h.elim))
        clear g1' g2' g3'
        try simp only [Act.put, List.setIfInBounds_toArray, List.set_cons_succ, List.set_cons_zero]
        refine order_pure (i := 9) rfl (by kernel_rfl) (fun _ _ _ h => h) (.inl ⟨rfl, fun _ => by go_simp; rfl⟩) ?_
        try simp only [Act.put, List.setIfInBounds_toArray, List.set_cons_succ, List.set_cons_zero]
        refine order_done (by kernel_rfl) ?_
        go_wp2_with fail
        go_ret
        unfold AtPost
        rw [HRR.out, HE.out]
        exact ⟨A3, c3, rfl, HF1.out, HF2.out, HF3.out, HF4.out⟩
end Go.Proofs.Ytdmldipnalklgaa
