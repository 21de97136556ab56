/- (*name.Names).Take, End. -/
import Derived.Test.YthoaaihghgabcaaGreatPut
namespace Go.Proofs.YthoaaihghgabcaaGreat
open Go.RowKit Go.Maps

def TakePost (w : World) (b m1 m2 N : Nat) (L : List Nm) (s : ByteArray) (e : Ending) (w' : World) : Prop := e = .returned (.bool true) ∧ NamesAt w' b m1 m2 N (dropName s L) ∧ Keeps (fun k => k = m1 ∨ k = m2) w w'
set_option maxRecDepth 100000 in
theorem take_no (w : World) (b m1 m2 N : Nat) (L : List Nm) (s : ByteArray) (h : NamesAt w b m1 m2 N L) (hs : s.size ≤ maxLen) (hn : s ∉ names L) :
    Calls Tryz.prog 18 #[.pointer (some ⟨b, 0, none⟩), .string s] w fun e w' => e = .returned (.bool false) ∧ w = w' := by
  have H := hide h; have HN := hide hn
  clear h hn
  go_enter Tryz.func18, Tryz.ntmps18
  go_wp2_with (go_at_call 13; refine (find_at w b m1 m2 N L s 0 false H.out (.inr ⟨rfl, HN.out, rfl⟩) hs).mono ?_; rintro e w' ⟨rfl, rfl⟩)
  go_ret
  exact ⟨rfl, rfl⟩

set_option maxRecDepth 100000 in
theorem take_yes (w : World) (b m1 m2 N : Nat) (L : List Nm) (s : ByteArray) (p : Int) (h : NamesAt w b m1 m2 N L) (hs : s.size ≤ maxLen) (hp : IntOk p) (hm : (s, p) ∈ L) :
    Calls Tryz.prog 18 #[.pointer (some ⟨b, 0, none⟩), .string s] w (TakePost w b m1 m2 N L s) := by
  obtain ⟨D1, o1, s1⟩ := h.one
  obtain ⟨D2, o2, s2⟩ := h.two
  have c0 : w.cell? ⟨b, 0, none⟩ = some (.map (some m1)) := h.blk.cell 0
  have hbm : b ≠ m1 ∧ b ≠ m2 := by
    refine ⟨fun e => ?_, fun e => ?_⟩
    · subst e; obtain ⟨es, cl, hb, _⟩ := o1; have := h.blk; unfold Blk at this; rw [hb] at this; cases this
    · subst e; obtain ⟨es, cl, hb, _⟩ := o2; have := h.blk; unfold Blk at this; rw [hb] at this; cases this
  have HO := hide (And.intro o1 (And.intro s1 (And.intro o2 s2)))
  have H := hide h; have HM := hide hm; have HBM := hide hbm
  have hk1 := keyOf_s hs
  have hk2 := keyOf_p hp
  have mk1 : True := trivial
  clear h hm hbm o1 s1 o2 s2
  go_enter Tryz.func18, Tryz.ntmps18
  go_wp2_with
    first
    | (go_at_call 13; refine (find_at w b m1 m2 N L s p true H.out (.inl ⟨rfl, HM.out⟩) hs).mono ?_; rintro e w' ⟨rfl, rfl⟩)
    | (at_delete
       clear mk1
       refine wpList_delete_own w rfl _ _ 48 9 rfl 3 keyS Tryz.underlying48 _ m1 N D1 rfl HO.out.1 _ _ rfl hk1 ?_
       intro w1 ho1 ht1
       have HO1 := hide ho1
       have hk : Keeps (fun k => k = m1) w w1 := (Keeps.refl (fun k => k = m1) w).grown ht1.grown (fun k e _ => by injection e with e; exact e.symm)
       have HK1 := hide hk
       have c1 : w1.cell? ⟨b, 1, none⟩ = some (.map (some m2)) := (H.out.blk.keep hk HBM.out.1).cell 1
       clear ho1 ht1 hk)
    | (at_delete
       refine wpList_delete_own w1 rfl _ _ 50 3 rfl 9 keyI Tryz.underlying50 _ m2 N D2 rfl (own_keep HO.out.2.2.1 HK1.out (fun e => H.out.ne e.symm)) _ _ rfl hk2 ?_
       intro w2 ho2 ht2
       have HO2 := hide ho2
       have hk : Keeps (fun k => k = m2) w1 w2 := (Keeps.refl (fun k => k = m2) w1).grown ht2.grown (fun k e _ => by injection e with e; exact e.symm)
       have HK2 := hide hk
       clear ho2 ht2 hk)
    | fail
  go_ret
  have q1 := HO.out.2.1.del s
  have q2 := HO.out.2.2.2.del p
  rw [drop_same H.out.up H.out.once HM.out] at q2
  have kk : Keeps (fun k => k = m1 ∨ k = m2) w w2 := HK1.out.trans' HK2.out (fun _ _ h => .inl h) (fun _ _ h => .inr h)
  exact ⟨rfl, ⟨H.out.blk.keep kk (fun e => e.elim HBM.out.1 HBM.out.2), ⟨_, own_keep HO1.out HK2.out H.out.ne, q1⟩, ⟨_, HO2.out, q2⟩, H.out.up.filter _, H.out.once.filter _, H.out.ne⟩, kk⟩

def EndPost (w : World) (b m1 m2 N : Nat) (L : List Nm) (s : ByteArray) (e : Ending) (w' : World) : Prop :=
  ∃ g, e = .returned (.slice (some ⟨g, 0, none⟩) 1 1) ∧ Blk w' g 9 #[.string s] ∧ w.heap.size ≤ g ∧ NamesAt w' b m1 m2 N (dropName s L) ∧ Keeps (fun k => k = m1 ∨ k = m2) w w'
set_option maxRecDepth 100000 in
theorem end_no (w : World) (b m1 m2 N : Nat) (L : List Nm) (p : Int) (h : NamesAt w b m1 m2 N L) (hp : IntOk p) (hn : hasP p L = false) :
    Calls Tryz.prog 14 #[.pointer (some ⟨b, 0, none⟩), .int .i64 p] w fun e w' => e = .returned (.slice none 0 0) ∧ w = w' := by
  obtain ⟨D2, o2, s2⟩ := h.two
  have c0 : w.cell? ⟨b, 0, none⟩ = some (.map (some m1)) := h.blk.cell 0
  have c1 : w.cell? ⟨b, 1, none⟩ = some (.map (some m2)) := h.blk.cell 1
  have HO := hide (And.intro o2 s2); have HN := hide hn
  clear h o2 s2 hn
  go_enter Tryz.func14, Tryz.ntmps14
  go_wp2_with
    first
    | (go_at_call 22; refine (made_at w b m1 c0).mono ?_; rintro e w' ⟨rfl, rfl⟩)
    | (go_at_call 28; refine (has_p w m2 N D2 L p HO.out.1 HO.out.2 hp).mono ?_; rw [HN.out]; rintro e w' ⟨rfl, rfl⟩)
    | fail
  go_ret
  exact ⟨rfl, rfl⟩
set_option maxRecDepth 100000 in
theorem end_yes (w : World) (b m1 m2 N : Nat) (L : List Nm) (s : ByteArray) (p : Int) (h : NamesAt w b m1 m2 N L) (hs : s.size ≤ maxLen) (hp : IntOk p) (hm : (s, p) ∈ L) :
    Calls Tryz.prog 14 #[.pointer (some ⟨b, 0, none⟩), .int .i64 p] w (EndPost w b m1 m2 N L s) := by
  obtain ⟨D2, o2, s2⟩ := h.two
  have c0 : w.cell? ⟨b, 0, none⟩ = some (.map (some m1)) := h.blk.cell 0
  have c1 : w.cell? ⟨b, 1, none⟩ = some (.map (some m2)) := h.blk.cell 1
  have hlook : (Instr.lookup 50 (.map (some m2)) (.int .i64 p) false).run Tryz.prog w = .ok (.string s) w := by
    obtain ⟨v, ps, hrun, hv⟩ := o2.lookup keyI Tryz.underlying50 (zero9 w) (plainElem_string Tryz.underlying9 (s := ByteArray.empty) (by unfold maxLen; decide)) (keyOf_p hp)
    obtain ⟨t, rfl, ht, _⟩ := plainElem_string_inv Tryz.underlying9 hv
    rw [s2.at' (s, p) hm] at ht
    injection ht with ht _
    injection ht with ht; injection ht with ht
    rw [hrun, key_inj (s := s) (t := t) ht]
  have HO := hide (And.intro o2 s2); have HP := hide (hasP_iff.2 (mem_pids hm)); have H := hide h; have HM := hide hm
  have HP := hide (show hasP p L = true from HP.out)
  clear h o2 s2 hm
  go_enter Tryz.func14, Tryz.ntmps14
  go_wp2_with
    first
    | (go_at_call 22; refine (made_at w b m1 c0).mono ?_; rintro e w' ⟨rfl, rfl⟩)
    | (go_at_call 28; refine (has_p w m2 N D2 L p HO.out.1 HO.out.2 hp).mono ?_; rw [HP.out]; rintro e w' ⟨rfl, rfl⟩)
    | (go_at_call 18; refine (take_yes w b m1 m2 N L s p H.out hs hp HM.out).mono ?_; rintro e w2 ⟨rfl, h1, h2⟩; (have H2 := hide h1); (have HK2 := hide h2); clear h1 h2)
    | fail
  go_ret
  exact ⟨w2.heap.size, rfl, Blk.new w2 9 _, HK2.out.size, H2.out.fresh ((Keeps.refl NoB w2).alloc _), HK2.out.alloc _⟩
end Go.Proofs.YthoaaihghgabcaaGreat
