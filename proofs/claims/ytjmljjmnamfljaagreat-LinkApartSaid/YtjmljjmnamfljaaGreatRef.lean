/- The document's links in memory: Link, Unlink, Unwatch. -/
import Derived.Test.YtjmljjmnamfljaaGreatRefBase
namespace Go.Proofs.YtjmljjmnamfljaaGreat
set_option maxRecDepth 100000
open Go.RowKit Go.Maps

section
variable {w w3 : World} {r c d n' c' : Nat} {A B A' : Option Addr} {P P' : List Pr} {M M' : List Mon} {fp : Nat → Prop}
theorem ref_set0 (h : RefAt w r A c B d P M) (hk : Keeps fp w w3) (hf : ∀ k, fp k → rowB A k) (hm : Moved w A A') (hs : Slab w3 106 2 A' n' c' (prs P')) (hl : P'.length = n') :
    RefAt (w3.setCell ⟨r, 0, none⟩ (.slice A' n' c')) r A' c' B d P' M ∧ Keeps (refFp r A B) w (w3.setCell ⟨r, 0, none⟩ (.slice A' n' c')) := by
  subst hl
  have hkr : Keeps (fun j => j = r) w3 (w3.setCell ⟨r, 0, none⟩ (.slice A' P'.length c')) := (Keeps.refl (fun j => j = r) w3).setCell (p := ⟨r, 0, none⟩) (.inl rfl) _
  have hb := h.blk.keep hk (fun e => h.one.ne h.blk (by decide) (hf _ e))
  refine ⟨⟨hb.put 0 _, hs.keep hkr (fun k hr e => ?_), (h.two.keep hk (fun k hr e => Slab.apart h.one h.two (by decide) k (hf k e) hr)).keep hkr (fun k hr e => ?_)⟩, hk.trans' hkr (fun k _ e => .inr (.inl (hf k e))) (fun k _ e => .inl e)⟩
  · subst e
    rcases hm k hr with e | e
    · exact h.one.ne h.blk (by decide) e
    · have := h.blk.lt; omega
  · subst e; exact h.two.ne h.blk (by decide) hr
theorem ref_set1 (h : RefAt w r A c B d P M) (hk : Keeps fp w w3) (hf : ∀ k, fp k → rowB B k) (hm : Moved w B A') (hs : Slab w3 108 3 A' n' c' (mons M')) (hl : M'.length = n') :
    RefAt (w3.setCell ⟨r, 1, none⟩ (.slice A' n' c')) r A c A' c' P M' ∧ Keeps (refFp r A B) w (w3.setCell ⟨r, 1, none⟩ (.slice A' n' c')) := by
  subst hl
  have hkr : Keeps (fun j => j = r) w3 (w3.setCell ⟨r, 1, none⟩ (.slice A' M'.length c')) := (Keeps.refl (fun j => j = r) w3).setCell (p := ⟨r, 1, none⟩) (.inl rfl) _
  have hb := h.blk.keep hk (fun e => h.two.ne h.blk (by decide) (hf _ e))
  refine ⟨⟨hb.put 1 _, (h.one.keep hk (fun k hr e => Slab.apart h.one h.two (by decide) k hr (hf k e))).keep hkr (fun k hr e => ?_), hs.keep hkr (fun k hr e => ?_)⟩, hk.trans' hkr (fun k _ e => .inr (.inr (hf k e))) (fun k _ e => .inl e)⟩
  · subst e; exact h.one.ne h.blk (by decide) hr
  · subst e
    rcases hm k hr with e | e
    · exact h.two.ne h.blk (by decide) e
    · have := h.blk.lt; omega
end
theorem two_reads {w : World} {vb : Nat} {t : TypeId} {u v : Value} (hv : Blk w vb t #[u, v]) : Reads w (fun _ => True) true 2 (some ⟨vb, 0, none⟩) 1 [u, v] := by
  refine ⟨rfl, fun _ => ⟨_, rfl, rfl, trivial, hv.lt, fun j u hu => ⟨?_, fun _ => hv.free _⟩⟩⟩
  rw [hv.cell, ← hu]; simp
theorem Slab.part {w : World} {e : TypeId} {size n c i : Nat} {B : Option Addr} {xs : List Value} (h : Slab w e size B n c xs) (hi : i ≤ n) : Reads w (rowB B) true size B i (xs.take (i * size)) := (h.upto hi).reads
theorem Reads.part {w : World} {B : Nat → Prop} {F : Bool} {size g o n i : Nat} {xs : List Value} (h : Reads w B F size (some ⟨g, o, none⟩) n xs) (hi : i ≤ n) : Reads w B F size (some ⟨g, o + i * size, none⟩) (n - i) (xs.drop (i * size)) := by
  refine ⟨by rw [List.length_drop, h.1, Nat.sub_mul], fun hn => ?_⟩
  obtain ⟨ad, e, hs, hb, hl, hc⟩ := h.2 (by omega)
  injection e with e; subst e
  refine ⟨_, rfl, rfl, hb, hl, fun j u hu => ?_⟩
  rw [List.getElem?_drop] at hu
  have := hc _ u hu
  rw [Nat.add_assoc]
  exact this

def canR (a b : Int) (P : List Pr) : Bool := decide (a ≠ b) && !P.contains (pairOf a b)
def linkR (a b : Int) (P : List Pr) : List Pr := if canR a b P = true then P ++ [pairOf a b] else P
theorem canR_iff {a b : Int} {P : List Pr} : canR a b P = true ↔ a ≠ b ∧ pairOf a b ∉ P := by unfold canR; simp
set_option maxRecDepth 100000 in
set_option maxHeartbeats 4000000 in
theorem rlink_any (w : World) (r c d : Nat) (A B : Option Addr) (P : List Pr) (M : List Mon) (a b : Int) (h : RefAt w r A c B d P M) (hP : P.length ≤ 1000000) : Calls Tryz.prog 29 #[.pointer (some ⟨r, 0, none⟩), .int .i64 a, .int .i64 b] w (RPost w r A B (linkR a b P) M (canR a b P)) := by
  obtain ⟨i0, ni0, nz0, nz1, nz2⟩ := info_parts Tryz.info106
  by_cases hab : a = b
  · have HE := hide (show canR a b P = false ∧ linkR a b P = P from by
      have : canR a b P = false := by unfold canR; simp [hab]
      exact ⟨this, by unfold linkR; rw [this]; rfl⟩)
    have H := hide h
    clear h
    subst hab
    go_enter Tryz.func29, Tryz.ntmps29
    go_wp2_with fail
    go_ret
    rw [HE.out.1, HE.out.2]
    exact rpost_same H.out (Keeps.refl _ _)
  · have hab2 : (a == b) = false := by simpa using hab
    obtain ⟨n, hn⟩ : ∃ n, P.length = n := ⟨_, rfl⟩
    have HN := hide hn; have H := hide h
    rw [hn] at hP
    by_cases hm : pairOf a b ∈ P
    · have HM := hide (show (min a b, max a b) ∈ P from hm)
      have HE := hide (show canR a b P = false ∧ linkR a b P = P from by
        have : canR a b P = false := by unfold canR; simp [hm]
        exact ⟨this, by unfold linkR; rw [this]; rfl⟩)
      clear h hn hab hm
      go_enter Tryz.func29, Tryz.ntmps29
      go_wp2_with
        first
        | (go_at_call 56
           refine (pair_any a b _).mono ?_
           rintro e w1 ⟨rfl, hk⟩
           have HR1 := hide (H.out.fresh hk); have HK1 := hide hk
           clear hk)
        | (go_at_call 55
           refine (find_yes w1 r c d A B P M (min a b) (max a b) HR1.out (by rw [HN.out]; exact hP) HM.out).mono ?_
           rintro e w2 ⟨k, rfl, hk, _⟩
           have HK2 := hide (HK1.out.trans' hk (fun _ _ => id) (fun _ _ => id))
           have hk0 : (0 : Int) ≤ (k : Int) := by omega
           clear hk HR1 HK1)
        | fail
      go_ret
      rw [HE.out.1, HE.out.2]
      exact rpost_same H.out HK2.out
    · have HM := hide (show (min a b, max a b) ∉ P from hm)
      have HE := hide (show canR a b P = true ∧ linkR a b P = P ++ [(min a b, max a b)] from by
        have : canR a b P = true := canR_iff.2 ⟨hab, hm⟩
        exact ⟨this, by unfold linkR; rw [this]; rfl⟩)
      clear h hn hab hm
      go_enter Tryz.func29, Tryz.ntmps29
      go_wp2_with
        first
        | (go_at_call 56
           refine (pair_any a b _).mono ?_
           rintro e w1 ⟨rfl, hk⟩
           have HR1 := hide (H.out.fresh hk); have HK1 := hide hk
           clear hk)
        | (go_at_call 55
           refine (find_no w1 r c d A B P M (min a b) (max a b) HR1.out (by rw [HN.out]; exact hP) HM.out).mono ?_
           rintro e w2 ⟨rfl, hk⟩
           have HK2 := hide (HK1.out.trans' hk (fun _ _ => id) (fun _ _ => id))
           clear hk HR1 HK1)
        | fail
      refine order_begin (fun W => Keeps NoB w W) (fun j => !(j == 9) && !(j == 12)) (by kernel_rfl) 13 rfl ?_
      have HS : Keeps NoB w w2.drew := HK2.out.drew
      clear HK2
      generalize w2.drew = w3 at *
      refine order_pure (i := 0) rfl (by kernel_rfl) (fun _ _ _ h => h) (.inl ⟨rfl, fun _ => by go_simp; rfl⟩) ?_
      try simp only [Act.put, List.setIfInBounds_toArray, List.set_cons_succ, List.set_cons_zero]
      refine order_pure (i := 1) rfl (by kernel_rfl) (fun _ _ _ h => h) (.inl ⟨rfl, fun _ => by go_simp; rfl⟩) ?_
      try simp only [Act.put, List.setIfInBounds_toArray, List.set_cons_succ, List.set_cons_zero]
      refine order_pure (i := 2) rfl (by kernel_rfl) (fun _ _ _ h => h) (.inl ⟨rfl, fun _ => by go_simp; rfl⟩) ?_
      try simp only [Act.put, List.setIfInBounds_toArray, List.set_cons_succ, List.set_cons_zero]
      refine order_pure (i := 3) rfl (by kernel_rfl) (fun _ _ _ h => h) (.inl ⟨rfl, fun _ => by go_simp; rfl⟩) ?_
      try simp only [Act.put, List.setIfInBounds_toArray, List.set_cons_succ, List.set_cons_zero]
      refine order_pure (i := 5) rfl (by kernel_rfl) (fun _ _ _ h => h) (.inl ⟨rfl, fun _ => by go_simp; rfl⟩) ?_
      try simp only [Act.put, List.setIfInBounds_toArray, List.set_cons_succ, List.set_cons_zero]
      refine order_pure (i := 6) rfl (by kernel_rfl) (fun _ _ _ h => h) (.inl ⟨rfl, fun _ => by go_simp; rfl⟩) ?_
      try simp only [Act.put, List.setIfInBounds_toArray, List.set_cons_succ, List.set_cons_zero]
      refine order_held (i := 4) rfl (by kernel_rfl) (fun _ _ _ h => h) (.inl ⟨rfl, fun W hW => by
        have q0 : W.cell? ⟨r, 0, none⟩ = some (.slice A n c) := by rw [← HN.out]; exact (H.out.blk.keep hW id).cell 0
        go_simp; rfl⟩) HS ?_
      try simp only [Act.put, List.setIfInBounds_toArray, List.set_cons_succ, List.set_cons_zero]
      refine order_one (i := 7) rfl (by kernel_rfl) (fun K hK => ?_)
      go_simp
      refine (pair_any a b _).mono ?_
      rintro e w4 ⟨rfl, hk⟩
      have HS4 := HS.trans' hk (fun _ _ => id) (fun _ _ => id)
      refine hK _ _ (fun _ _ => HS4) ?_
      clear hK HS hk
      try simp only [Act.put, List.setIfInBounds_toArray, List.set_cons_succ, List.set_cons_zero]
      refine order_one (i := 8) rfl (by kernel_rfl) (fun K hK => ?_)
      go_simp
      have hka : Keeps NoB w4 (w4.alloc (.cells #[.int .i64 (min a b), .int .i64 (max a b)] 106)) := (Keeps.refl NoB w4).alloc _
      have HS5 := HS4.trans' hka (fun _ _ => id) (fun _ _ => id)
      refine hK _ _ (fun _ _ => HS5) ?_
      have HRD := hide (two_reads (Blk.new w4 106 #[.int .i64 (min a b), .int .i64 (max a b)]))
      clear hK hka
      try simp only [Act.put, List.setIfInBounds_toArray, List.set_cons_succ, List.set_cons_zero]
      have HSL := hide (show Slab (w4.alloc (.cells #[.int .i64 (min a b), .int .i64 (max a b)] 106)) 106 2 A n c (prs P) from HN.out ▸ H.out.one.fresh HS5)
      have HMS := hide (show w.heap.size ≤ (w4.alloc (.cells #[.int .i64 (min a b), .int .i64 (max a b)] 106)).heap.size from HS5.size)
      refine order_one (i := 9) rfl (by kernel_rfl) (fun K hK => ?_)
      refine step_append_any _ rfl (.tmp 22) (.tmp 26) 38 rfl 106 i0 _ 2 16 Tryz.underlying38 ni0 nz0 nz1 nz2 rfl (by omega) A n c (prs P) rfl HSL.out (fun _ => True) true (some ⟨w4.heap.size, 0, none⟩) 1 1 [.int .i64 (min a b), .int .i64 (max a b)] rfl HRD.out (prs_ones [(min a b, max a b)]) (by unfold maxLen; omega) (by omega) (fun A' c' w6 h1 h2 h3 => ?_)
      have hk6 : Keeps (rowB A) w w6 := HS5.trans' h2 (fun _ _ h => h.elim) (fun _ _ h => h)
      have HF := hide (ref_set0 (A' := A') (n' := n + 1) (c' := c') (P' := P ++ [(min a b, max a b)]) H.out hk6 (fun _ h => h) (fun k hr => (h3 k hr).elim .inl (fun e => .inr (Nat.le_trans HMS.out e))) (by rw [prs_append]; exact h1) (by rw [List.length_append, HN.out]; rfl))
      have HMV := hide (show Moved w A A' from fun k hr => (h3 k hr).elim .inl (fun e => .inr (Nat.le_trans HMS.out e)))
      have hb := H.out.blk.keep hk6 (fun e => H.out.one.ne H.out.blk (by decide) e)
      have g0 : w6.cell? ⟨r, 0, none⟩ = some (.slice A P.length c) := hb.cell 0
      have f0 : w6.frozen? ⟨r, 0, none⟩ = false := hb.free 0
      clear h1 h2 h3 hk6 hb HSL HRD HMS HS5 HS4
      refine hK _ _ (fun h => absurd h (by decide)) ?_
      clear hK
      try simp only [Act.put, List.setIfInBounds_toArray, List.set_cons_succ, List.set_cons_zero]
      refine order_pure (i := 10) rfl (by kernel_rfl) (fun _ _ _ h => h) (.inl ⟨rfl, fun _ => by go_simp; rfl⟩) ?_
      try simp only [Act.put, List.setIfInBounds_toArray, List.set_cons_succ, List.set_cons_zero]
      refine order_pure (i := 11) rfl (by kernel_rfl) (fun _ _ _ h => h) (.inl ⟨rfl, fun _ => by go_simp; rfl⟩) ?_
      try simp only [Act.put, List.setIfInBounds_toArray, List.set_cons_succ, List.set_cons_zero]
      refine order_one (i := 12) rfl (by kernel_rfl) (fun K hK => ?_)
      go_simp
      refine hK _ _ (fun h => absurd h (by decide)) ?_
      clear hK
      try simp only [Act.put, List.setIfInBounds_toArray, List.set_cons_succ, List.set_cons_zero]
      refine order_done (by kernel_rfl) ?_
      go_wp2_with fail
      go_ret
      rw [HE.out.1, HE.out.2]
      exact ⟨A', c', B, d, rfl, HF.out.1, HF.out.2, HMV.out, Moved.same _ _⟩
end Go.Proofs.YtjmljjmnamfljaaGreat
