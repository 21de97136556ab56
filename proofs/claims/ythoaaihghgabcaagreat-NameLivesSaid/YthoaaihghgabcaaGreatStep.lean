/- One step, by the program and by the document: the answers are the same. -/
import Derived.Test.YthoaaihghgabcaaGreatRef3
import Derived.Test.YthoaaihghgabcaaGreatPick
import Derived.Test.YthoaaihghgabcaaGreatAwake
import Derived.Test.YthoaaihghgabcaaGreatSum
import Derived.Deep.CutRange
import Derived.Deep.CutBlock
import Derived.Deep.DeepCutAuto
namespace Go.Proofs.YthoaaihghgabcaaGreat
open Go.RowKit Go.Maps

/-- Both names beside each other. -/
structure Two (w w' : World) (b m1 m2 N r : Nat) (B : Option Addr) (c : Nat) (L R : List Nm) : Prop where
  one : Run w w' b m1 m2 N L
  ref : RefAt w' r B c R
  hr : w.heap.size ≤ r
  hB : ∀ k, rowB B k → w.heap.size ≤ k
  sz : ∀ x ∈ L, x.1.size ≤ maxLen ∧ IntOk x.2
section
variable {w w' w'' : World} {b m1 m2 N N' r c c' : Nat} {B B' : Option Addr} {L L' R R' : List Nm}
theorem own_ne {H : Type} {P : Program} {w : World} {k : TypeId} {F : Value → Option (DataW H × List MemPlace)} {m n g : Nat} {D : DataW H} {t : TypeId} {cs : Array Value} (h : w.ownsMap P k F m n D) (hb : Blk w g t cs) : g ≠ m := by
  rintro rfl
  obtain ⟨es, clock, he, _⟩ := h
  unfold Blk at hb
  rw [he] at hb; cases hb
theorem NamesAt.ne_of {g : Nat} {t : TypeId} {cs : Array Value} (h : NamesAt w b m1 m2 N L) (hb : Blk w g t cs) : g ≠ m1 ∧ g ≠ m2 := by
  obtain ⟨_, h1, _⟩ := h.one
  obtain ⟨_, h2, _⟩ := h.two
  exact ⟨own_ne h1 hb, own_ne h2 hb⟩
theorem row_blk {e : TypeId} {size n : Nat} {A : Option Addr} {xs : List Value} {k : Nat} (h : Slab w e size A n c xs) (hk : rowB A k) : ∃ cs, Blk w k e cs := by
  obtain ⟨o, rfl⟩ := hk
  obtain ⟨_, _, _, ⟨h0, _⟩ | ⟨g, o', cur, h0, hb, _⟩⟩ := h
  · cases h0
  · injection h0 with h0; injection h0 with h0 _; subst h0; exact ⟨_, hb⟩
theorem Two.far (h : Two w w' b m1 m2 N r B c L R) (k : Nat) (hk : refFp r B k) : k ≠ b ∧ k ≠ m1 ∧ k ≠ m2 := by
  rcases hk with rfl | hk
  · obtain ⟨h1, h2⟩ := h.one.at'.ne_of h.ref.blk
    exact ⟨fun e => by subst e; exact absurd (Blk.one h.one.at'.blk h.ref.blk).1 (by decide), h1, h2⟩
  · obtain ⟨cs, hc⟩ := row_blk h.ref.row hk
    obtain ⟨h1, h2⟩ := h.one.at'.ne_of hc
    exact ⟨fun e => by subst e; exact absurd (Blk.one h.one.at'.blk hc).1 (by decide), h1, h2⟩
theorem Two.fresh (h : Two w w' b m1 m2 N r B c L R) (k : Keeps NoB w' w'') : Two w w'' b m1 m2 N r B c L R := ⟨h.one.fresh k, h.ref.fresh k, h.hr, h.hB, h.sz⟩
theorem Two.names (h : Two w w' b m1 m2 N r B c L R) (hk : Keeps (fun k => k = m1 ∨ k = m2) w' w'') (hn : NamesAt w'' b m1 m2 N' L') (hs : ∀ x ∈ L', x.1.size ≤ maxLen ∧ IntOk x.2) : Two w w'' b m1 m2 N' r B c L' R :=
  ⟨h.one.turn hk hn, h.ref.keep hk (fun k hf e => by obtain ⟨_, h1, h2⟩ := h.far k hf; exact e.elim h1 h2), h.hr, h.hB, hs⟩
theorem Two.refs (h : Two w w' b m1 m2 N r B c L R) (hr : RefAt w'' r B' c' R') (hk : Keeps (refFp r B) w' w'') (hm : Moved w' B B') : Two w w'' b m1 m2 N r B' c' L R' := by
  refine ⟨⟨h.one.at'.keep hk (fun hf => (h.far _ hf).1 rfl) (fun hf => (h.far _ hf).2.1 rfl) (fun hf => (h.far _ hf).2.2 rfl), h.one.keep.trans' hk (fun _ _ => id) (fun j hj hf => ?_), h.one.hb, h.one.h1, h.one.h2⟩, hr, h.hr, fun k hk2 => (hm k hk2).elim (h.hB k) (fun e => Nat.le_trans h.one.keep.size e), h.sz⟩
  rcases hf with e | hf
  · have := h.hr; omega
  · have := h.hB j hf; omega
theorem Two.offN (h : Two w w' b m1 m2 N r B c L R) {x : Nat} {t : TypeId} {cs : Array Value} (hx : Blk w' x t cs) (hk : Keeps (fun k => k = m1 ∨ k = m2) w' w'') : Blk w'' x t cs := by
  obtain ⟨h1, h2⟩ := h.one.at'.ne_of hx
  exact hx.keep hk (fun e => e.elim h1 h2)
theorem Two.offR (h : Two w w' b m1 m2 N r B c L R) {x : Nat} {t : TypeId} {cs : Array Value} (hx : Blk w' x t cs) (h1 : t ≠ 30) (h2 : t ≠ 42) (hk : Keeps (refFp r B) w' w'') : Blk w'' x t cs := by
  refine hx.keep hk (fun e => ?_)
  rcases e with rfl | e
  · exact h1 (Blk.one hx h.ref.blk).1
  · obtain ⟨cs', hc⟩ := row_blk h.ref.row e
    exact h2 (Blk.one hx hc).1
end
def StepPost (w : World) (b m1 m2 r n m : Nat) (e : Ending) (w' : World) : Prop :=
  ∃ N' B' c' L', e = .returned (.bool true) ∧ Two w w' b m1 m2 N' r B' c' L' L' ∧ N' ≤ n ∧ L'.length ≤ m
theorem drop_len (s : ByteArray) (L : List Nm) : (dropName s L).length ≤ L.length := List.length_filter_le _ _
theorem drop_sz {L : List Nm} {s : ByteArray} (h : ∀ x ∈ L, x.1.size ≤ maxLen ∧ IntOk x.2) : ∀ x ∈ dropName s L, x.1.size ≤ maxLen ∧ IntOk x.2 := fun x hx => h x (List.mem_filter.1 hx).1
theorem ins_sz {L : List Nm} {y : Nm} (h : ∀ x ∈ L, x.1.size ≤ maxLen ∧ IntOk x.2) (hy : y.1.size ≤ maxLen ∧ IntOk y.2) : ∀ x ∈ ins y L, x.1.size ≤ maxLen ∧ IntOk x.2 := fun x hx => by
  rcases mem_ins.1 hx with rfl | hx
  · exact hy
  · exact h x hx
theorem one_reads {w : World} {vb : Nat} {t : TypeId} {u : Value} (hv : Blk w vb t #[u]) : Reads w (fun _ => True) true 1 (some ⟨vb, 0, none⟩) 1 [u] := by
  refine ⟨rfl, fun _ => ⟨_, rfl, rfl, trivial, hv.lt, fun j u hu => ⟨?_, fun _ => hv.free _⟩⟩⟩
  rw [hv.cell, ← hu]; simp

set_option maxRecDepth 100000 in
set_option maxHeartbeats 8000000 in
theorem step_any (b m1 m2 N r c : Nat) (B : Option Addr) (L : List Nm) (op pid : Int) (s : ByteArray) (w w1 : World) (h : Two w w1 b m1 m2 N r B c L L) (hl : L.length ≤ 1000) (hN : N ≤ 1000) (hs : s.size ≤ maxLen) (hp : IntOk pid) :
    Calls Tryz.prog 8 #[.pointer (some ⟨b, 0, none⟩), .pointer (some ⟨r, 0, none⟩), .agg #[.int .i64 op, .int .i64 pid, .string s]] w1 (StepPost w b m1 m2 r (N + 1) (L.length + 1)) := by
  have H := hide (h.fresh ((Keeps.refl NoB w1).alloc (.cells #[.int .i64 op, .int .i64 pid, .string s] 33)))
  have HX := hide (Blk.new w1 33 #[.int .i64 op, .int .i64 pid, .string s])
  have HSZ := hide hs; have HP := hide hp
  clear h hs hp
  go_enter Tryz.func8, Tryz.ntmps8
  go_upto_block 0 with
    first
    | (go_at_call 16
       refine (pick_any op 8 (by omega) (by omega) _).mono ?_
       rintro e w' ⟨rfl, rfl⟩)
    | fail
  generalize w1.alloc (.cells #[.int .i64 op, .int .i64 pid, .string s] 33) = w2 at *
  generalize w1.heap.size = x at *
  clear w1
  have hr0 : 0 ≤ op % 8 := Int.emod_nonneg _ (by omega)
  generalize op % 8 = q at *
  have HB := hide (Keeps.refl NoB w2)
  have x1 : w2.cell? ⟨x, 1, none⟩ = some (.int .i64 pid) := HX.out.cell 1
  have x2 : w2.cell? ⟨x, 2, none⟩ = some (.string s) := HX.out.cell 2
  rcases (by omega : q = 0 ∨ q = 1 ∨ q = 2 ∨ q = 3 ∨ 4 ≤ q) with rfl | rfl | rfl | rfl | hq3
  · obtain ⟨xs, L', he⟩ := endsTo_any L pid
    have hre := fun W (hh : RefAt W r B c L) => rend_any r c B pid L L' xs W hh H.out.one.at'.up H.out.one.at'.once (by omega) he
    have HRE := hide hre
    rcases he with ⟨s0, hin, rfl, rfl⟩ | ⟨hno, rfl, hL⟩
    · have HIN := hide (And.intro hin (H.out.sz _ hin))
      clear hin hre x1 x2
      go_wp2_with fail
      refine order_begin (fun W => Blk W x 33 #[.int .i64 op, .int .i64 pid, .string s]) (fun _ => true) (by kernel_rfl) 10 rfl ?_
      have HS0 := hide H.out
      have HS : Blk w2.drew x 33 #[.int .i64 op, .int .i64 pid, .string s] := HX.out.drew
      have H := hide (H.out.fresh (Keeps.refl NoB w2).drew)
      generalize w2.drew = w3 at *
      refine order_pure (i := 0) rfl (by kernel_rfl) (fun _ _ _ h => h) (.inl ⟨rfl, fun _ => by go_simp; rfl⟩) ?_
      try simp only [Act.put, List.setIfInBounds_toArray, List.set_cons_succ, List.set_cons_zero]
      refine order_pure (i := 1) rfl (by kernel_rfl) (fun _ _ _ h => h) (.inl ⟨rfl, fun _ => by go_simp; rfl⟩) ?_
      try simp only [Act.put, List.setIfInBounds_toArray, List.set_cons_succ, List.set_cons_zero]
      refine order_held (i := 2) rfl (by kernel_rfl) (fun _ _ _ h => h) (.inl ⟨rfl, fun W hW => by
        have q0 : W.cell? ⟨x, 1, none⟩ = some (.int .i64 pid) := hW.cell 1
        go_simp; rfl⟩) HS ?_
      try simp only [Act.put, List.setIfInBounds_toArray, List.set_cons_succ, List.set_cons_zero]
      refine order_pure (i := 4) rfl (by kernel_rfl) (fun _ _ _ h => h) (.inl ⟨rfl, fun _ => by go_simp; rfl⟩) ?_
      try simp only [Act.put, List.setIfInBounds_toArray, List.set_cons_succ, List.set_cons_zero]
      refine order_pure (i := 5) rfl (by kernel_rfl) (fun _ _ _ h => h) (.inl ⟨rfl, fun _ => by go_simp; rfl⟩) ?_
      try simp only [Act.put, List.setIfInBounds_toArray, List.set_cons_succ, List.set_cons_zero]
      refine order_held (i := 6) rfl (by kernel_rfl) (fun _ _ _ h => h) (.inl ⟨rfl, fun W hW => by
        have q0 : W.cell? ⟨x, 1, none⟩ = some (.int .i64 pid) := hW.cell 1
        go_simp; rfl⟩) HS ?_
      try simp only [Act.put, List.setIfInBounds_toArray, List.set_cons_succ, List.set_cons_zero]
      refine order_one (i := 3) rfl (by kernel_rfl) (fun K hK => ?_)
      go_simp
      refine (end_yes w3 b m1 m2 N L s0 pid H.out.one.at' HIN.out.2.1 HP.out HIN.out.1).mono ?_
      rintro e w4 ⟨g, rfl, hg, hgl, h1, hk⟩
      have HS4 := H.out.offN HS hk
      refine hK _ _ (fun _ _ => HS4) ?_
      have H4 := hide (H.out.names hk h1 (drop_sz H.out.sz))
      have HG := hide hg
      clear hK HS hg hgl h1 hk
      try simp only [Act.put, List.setIfInBounds_toArray, List.set_cons_succ, List.set_cons_zero]
      refine order_one (i := 7) rfl (by kernel_rfl) (fun K hK => ?_)
      go_simp
      refine (HRE.out w4 H4.out.ref).mono ?_
      rintro e w5 ⟨A2, B', c', rfl, hrd, h1, hk, hm⟩
      have HS5 := H4.out.offR HS4 (by decide) (by decide) hk
      refine hK _ _ (fun _ _ => HS5) ?_
      have H5 := hide (H4.out.refs h1 hk hm)
      have HG5 := hide (H4.out.offR HG.out (by decide) (by decide) hk)
      have HRD := hide hrd
      clear hK HS4 hrd h1 hk hm
      try simp only [Act.put, List.setIfInBounds_toArray, List.set_cons_succ, List.set_cons_zero]
      refine order_one (i := 8) rfl (by kernel_rfl) (fun K hK => ?_)
      go_simp
      refine (texts_self _ _ 1 1 1 [s0] _ _ _ true true (one_reads HG5.out) HRD.out (by omega)).mono ?_
      rintro e w6 ⟨rfl, hk⟩
      have HS6 := HS5.keep hk id
      refine hK _ _ (fun _ _ => HS6) ?_
      have H6 := hide (H5.out.fresh hk)
      clear hK HS5 hk
      try simp only [Act.put, List.setIfInBounds_toArray, List.set_cons_succ, List.set_cons_zero]
      refine order_pure (i := 9) rfl (by kernel_rfl) (fun _ _ _ h => h) (.inl ⟨rfl, fun _ => by go_simp; rfl⟩) ?_
      try simp only [Act.put, List.setIfInBounds_toArray, List.set_cons_succ, List.set_cons_zero]
      refine order_done (by kernel_rfl) ?_
      clear HS6
      go_wp2_with fail
      go_ret
      exact ⟨N, B', c', _, rfl, H6.out, by omega, Nat.le_succ_of_le (drop_len _ _)⟩
    · have HNO := hide hno
      rw [hL] at HRE
      clear hno hre x1 x2 hL
      go_wp2_with fail
      refine order_begin (fun W => Blk W x 33 #[.int .i64 op, .int .i64 pid, .string s]) (fun _ => true) (by kernel_rfl) 10 rfl ?_
      have HS0 := hide H.out
      have HS : Blk w2.drew x 33 #[.int .i64 op, .int .i64 pid, .string s] := HX.out.drew
      have H := hide (H.out.fresh (Keeps.refl NoB w2).drew)
      generalize w2.drew = w3 at *
      refine order_pure (i := 0) rfl (by kernel_rfl) (fun _ _ _ h => h) (.inl ⟨rfl, fun _ => by go_simp; rfl⟩) ?_
      try simp only [Act.put, List.setIfInBounds_toArray, List.set_cons_succ, List.set_cons_zero]
      refine order_pure (i := 1) rfl (by kernel_rfl) (fun _ _ _ h => h) (.inl ⟨rfl, fun _ => by go_simp; rfl⟩) ?_
      try simp only [Act.put, List.setIfInBounds_toArray, List.set_cons_succ, List.set_cons_zero]
      refine order_held (i := 2) rfl (by kernel_rfl) (fun _ _ _ h => h) (.inl ⟨rfl, fun W hW => by
        have q0 : W.cell? ⟨x, 1, none⟩ = some (.int .i64 pid) := hW.cell 1
        go_simp; rfl⟩) HS ?_
      try simp only [Act.put, List.setIfInBounds_toArray, List.set_cons_succ, List.set_cons_zero]
      refine order_pure (i := 4) rfl (by kernel_rfl) (fun _ _ _ h => h) (.inl ⟨rfl, fun _ => by go_simp; rfl⟩) ?_
      try simp only [Act.put, List.setIfInBounds_toArray, List.set_cons_succ, List.set_cons_zero]
      refine order_pure (i := 5) rfl (by kernel_rfl) (fun _ _ _ h => h) (.inl ⟨rfl, fun _ => by go_simp; rfl⟩) ?_
      try simp only [Act.put, List.setIfInBounds_toArray, List.set_cons_succ, List.set_cons_zero]
      refine order_held (i := 6) rfl (by kernel_rfl) (fun _ _ _ h => h) (.inl ⟨rfl, fun W hW => by
        have q0 : W.cell? ⟨x, 1, none⟩ = some (.int .i64 pid) := hW.cell 1
        go_simp; rfl⟩) HS ?_
      try simp only [Act.put, List.setIfInBounds_toArray, List.set_cons_succ, List.set_cons_zero]
      refine order_one (i := 3) rfl (by kernel_rfl) (fun K hK => ?_)
      go_simp
      refine (end_no w3 b m1 m2 N L pid H.out.one.at' HP.out HNO.out).mono ?_
      rintro e w4 ⟨rfl, rfl⟩
      refine hK _ _ (fun _ h => h) ?_
      clear hK
      try simp only [Act.put, List.setIfInBounds_toArray, List.set_cons_succ, List.set_cons_zero]
      refine order_one (i := 7) rfl (by kernel_rfl) (fun K hK => ?_)
      go_simp
      refine (HRE.out w3 H.out.ref).mono ?_
      rintro e w5 ⟨A2, B', c', rfl, hrd, h1, hk, hm⟩
      have HS5 := H.out.offR HS (by decide) (by decide) hk
      refine hK _ _ (fun _ _ => HS5) ?_
      have H5 := hide (H.out.refs h1 hk hm)
      clear hK HS hrd h1 hk hm
      try simp only [Act.put, List.setIfInBounds_toArray, List.set_cons_succ, List.set_cons_zero]
      refine order_one (i := 8) rfl (by kernel_rfl) (fun K hK => ?_)
      go_simp
      refine (texts_self none A2 0 0 0 [] _ (fun _ => True) (fun _ => True) true true (Reads.zero _ _ _ _ _) (Reads.zero _ _ _ _ _) (by omega)).mono ?_
      rintro e w6 ⟨rfl, hk⟩
      have HS6 := HS5.keep hk id
      refine hK _ _ (fun _ _ => HS6) ?_
      have H6 := hide (H5.out.fresh hk)
      clear hK HS5 hk
      try simp only [Act.put, List.setIfInBounds_toArray, List.set_cons_succ, List.set_cons_zero]
      refine order_pure (i := 9) rfl (by kernel_rfl) (fun _ _ _ h => h) (.inl ⟨rfl, fun _ => by go_simp; rfl⟩) ?_
      try simp only [Act.put, List.setIfInBounds_toArray, List.set_cons_succ, List.set_cons_zero]
      refine order_done (by kernel_rfl) ?_
      clear HS6
      go_wp2_with fail
      go_ret
      exact ⟨N, B', c', _, rfl, H6.out, by omega, by omega⟩
  · have hrt := fun W (hh : RefAt W r B c L) => rtake_any r c B s L W hh H.out.one.at'.up (by omega)
    have HRT := hide hrt
    clear hrt
    by_cases hin : s ∈ names L
    · obtain ⟨p1, hmem⟩ : ∃ p1, (s, p1) ∈ L := by
        obtain ⟨⟨s1, p1⟩, hmem, e⟩ := List.mem_map.1 hin
        exact ⟨p1, by simp only at e; rw [← e]; exact hmem⟩
      have HIN := hide (And.intro hmem (H.out.sz _ hmem).2)
      have h2 : hasN s L = true := hasN_iff.2 hin
      rw [h2] at HRT
      have hbo : (true == true) = true := rfl
      clear hmem hin x1 x2 h2
      go_wp2_with fail
      refine order_begin (fun W => Blk W x 33 #[.int .i64 op, .int .i64 pid, .string s]) (fun _ => true) (by kernel_rfl) 10 rfl ?_
      have HS0 := hide H.out
      have HS : Blk w2.drew x 33 #[.int .i64 op, .int .i64 pid, .string s] := HX.out.drew
      have H := hide (H.out.fresh (Keeps.refl NoB w2).drew)
      generalize w2.drew = w3 at *
      refine order_pure (i := 0) rfl (by kernel_rfl) (fun _ _ _ h => h) (.inl ⟨rfl, fun _ => by go_simp; rfl⟩) ?_
      try simp only [Act.put, List.setIfInBounds_toArray, List.set_cons_succ, List.set_cons_zero]
      refine order_pure (i := 1) rfl (by kernel_rfl) (fun _ _ _ h => h) (.inl ⟨rfl, fun _ => by go_simp; rfl⟩) ?_
      try simp only [Act.put, List.setIfInBounds_toArray, List.set_cons_succ, List.set_cons_zero]
      refine order_held (i := 2) rfl (by kernel_rfl) (fun _ _ _ h => h) (.inl ⟨rfl, fun W hW => by
        have q0 : W.cell? ⟨x, 2, none⟩ = some (.string s) := hW.cell 2
        go_simp; rfl⟩) HS ?_
      try simp only [Act.put, List.setIfInBounds_toArray, List.set_cons_succ, List.set_cons_zero]
      refine order_pure (i := 4) rfl (by kernel_rfl) (fun _ _ _ h => h) (.inl ⟨rfl, fun _ => by go_simp; rfl⟩) ?_
      try simp only [Act.put, List.setIfInBounds_toArray, List.set_cons_succ, List.set_cons_zero]
      refine order_pure (i := 5) rfl (by kernel_rfl) (fun _ _ _ h => h) (.inl ⟨rfl, fun _ => by go_simp; rfl⟩) ?_
      try simp only [Act.put, List.setIfInBounds_toArray, List.set_cons_succ, List.set_cons_zero]
      refine order_held (i := 6) rfl (by kernel_rfl) (fun _ _ _ h => h) (.inl ⟨rfl, fun W hW => by
        have q0 : W.cell? ⟨x, 2, none⟩ = some (.string s) := hW.cell 2
        go_simp; rfl⟩) HS ?_
      try simp only [Act.put, List.setIfInBounds_toArray, List.set_cons_succ, List.set_cons_zero]
      refine order_one (i := 3) rfl (by kernel_rfl) (fun K hK => ?_)
      go_simp
      refine (take_yes w3 b m1 m2 N L s p1 H.out.one.at' HSZ.out HIN.out.2 HIN.out.1).mono ?_
      rintro e w4 ⟨rfl, h1, hk⟩
      have HS4 := H.out.offN HS hk
      refine hK _ _ (fun _ _ => HS4) ?_
      have H4 := hide (H.out.names hk h1 (drop_sz H.out.sz))
      clear hK HS h1 hk
      try simp only [Act.put, List.setIfInBounds_toArray, List.set_cons_succ, List.set_cons_zero]
      refine order_one (i := 7) rfl (by kernel_rfl) (fun K hK => ?_)
      go_simp
      refine (HRT.out w4 H4.out.ref).mono ?_
      rintro e w5 ⟨B', c', rfl, h1, hk, hm⟩
      have HS5 := H4.out.offR HS4 (by decide) (by decide) hk
      refine hK _ _ (fun _ _ => HS5) ?_
      have H5 := hide (H4.out.refs h1 hk hm)
      clear hK HS4 h1 hk hm
      try simp only [Act.put, List.setIfInBounds_toArray, List.set_cons_succ, List.set_cons_zero]
      refine order_pure (i := 8) rfl (by kernel_rfl) (fun _ _ _ h => h) (.inl ⟨rfl, fun _ => by go_simp; rfl⟩) ?_
      try simp only [Act.put, List.setIfInBounds_toArray, List.set_cons_succ, List.set_cons_zero]
      refine order_pure (i := 9) rfl (by kernel_rfl) (fun _ _ _ h => h) (.inl ⟨rfl, fun _ => by go_simp; rfl⟩) ?_
      try simp only [Act.put, List.setIfInBounds_toArray, List.set_cons_succ, List.set_cons_zero]
      refine order_done (by kernel_rfl) ?_
      clear HS5
      go_wp2_with fail
      go_ret
      exact ⟨N, B', c', _, rfl, H5.out, by omega, Nat.le_succ_of_le (drop_len _ _)⟩
    · have HIN := hide hin
      have h2 : hasN s L = false := by
        cases e : hasN s L with
        | false => rfl
        | true => exact absurd (hasN_iff.1 e) hin
      rw [h2, drop_no hin] at HRT
      clear hin x1 x2 h2
      go_wp2_with fail
      refine order_begin (fun W => Blk W x 33 #[.int .i64 op, .int .i64 pid, .string s]) (fun _ => true) (by kernel_rfl) 10 rfl ?_
      have HS0 := hide H.out
      have HS : Blk w2.drew x 33 #[.int .i64 op, .int .i64 pid, .string s] := HX.out.drew
      have H := hide (H.out.fresh (Keeps.refl NoB w2).drew)
      generalize w2.drew = w3 at *
      refine order_pure (i := 0) rfl (by kernel_rfl) (fun _ _ _ h => h) (.inl ⟨rfl, fun _ => by go_simp; rfl⟩) ?_
      try simp only [Act.put, List.setIfInBounds_toArray, List.set_cons_succ, List.set_cons_zero]
      refine order_pure (i := 1) rfl (by kernel_rfl) (fun _ _ _ h => h) (.inl ⟨rfl, fun _ => by go_simp; rfl⟩) ?_
      try simp only [Act.put, List.setIfInBounds_toArray, List.set_cons_succ, List.set_cons_zero]
      refine order_held (i := 2) rfl (by kernel_rfl) (fun _ _ _ h => h) (.inl ⟨rfl, fun W hW => by
        have q0 : W.cell? ⟨x, 2, none⟩ = some (.string s) := hW.cell 2
        go_simp; rfl⟩) HS ?_
      try simp only [Act.put, List.setIfInBounds_toArray, List.set_cons_succ, List.set_cons_zero]
      refine order_pure (i := 4) rfl (by kernel_rfl) (fun _ _ _ h => h) (.inl ⟨rfl, fun _ => by go_simp; rfl⟩) ?_
      try simp only [Act.put, List.setIfInBounds_toArray, List.set_cons_succ, List.set_cons_zero]
      refine order_pure (i := 5) rfl (by kernel_rfl) (fun _ _ _ h => h) (.inl ⟨rfl, fun _ => by go_simp; rfl⟩) ?_
      try simp only [Act.put, List.setIfInBounds_toArray, List.set_cons_succ, List.set_cons_zero]
      refine order_held (i := 6) rfl (by kernel_rfl) (fun _ _ _ h => h) (.inl ⟨rfl, fun W hW => by
        have q0 : W.cell? ⟨x, 2, none⟩ = some (.string s) := hW.cell 2
        go_simp; rfl⟩) HS ?_
      try simp only [Act.put, List.setIfInBounds_toArray, List.set_cons_succ, List.set_cons_zero]
      refine order_one (i := 3) rfl (by kernel_rfl) (fun K hK => ?_)
      go_simp
      refine (take_no w3 b m1 m2 N L s H.out.one.at' HSZ.out HIN.out).mono ?_
      rintro e w4 ⟨rfl, rfl⟩
      refine hK _ _ (fun _ h => h) ?_
      clear hK
      try simp only [Act.put, List.setIfInBounds_toArray, List.set_cons_succ, List.set_cons_zero]
      refine order_one (i := 7) rfl (by kernel_rfl) (fun K hK => ?_)
      go_simp
      refine (HRT.out w3 H.out.ref).mono ?_
      rintro e w5 ⟨B', c', rfl, h1, hk, hm⟩
      have HS5 := H.out.offR HS (by decide) (by decide) hk
      refine hK _ _ (fun _ _ => HS5) ?_
      have H5 := hide (H.out.refs h1 hk hm)
      clear hK HS h1 hk hm
      try simp only [Act.put, List.setIfInBounds_toArray, List.set_cons_succ, List.set_cons_zero]
      refine order_pure (i := 8) rfl (by kernel_rfl) (fun _ _ _ h => h) (.inl ⟨rfl, fun _ => by go_simp; rfl⟩) ?_
      try simp only [Act.put, List.setIfInBounds_toArray, List.set_cons_succ, List.set_cons_zero]
      refine order_pure (i := 9) rfl (by kernel_rfl) (fun _ _ _ h => h) (.inl ⟨rfl, fun _ => by go_simp; rfl⟩) ?_
      try simp only [Act.put, List.setIfInBounds_toArray, List.set_cons_succ, List.set_cons_zero]
      refine order_done (by kernel_rfl) ?_
      clear HS5
      go_wp2_with fail
      go_ret
      exact ⟨N, B', c', _, rfl, H5.out, by omega, by omega⟩
  · obtain ⟨p0, ok, hf⟩ := findAt_any L s
    have HF := hide hf
    have hpp : (p0 == p0) = true := by simp
    have hoo : (ok == ok) = true := by simp
    clear hf x1
    go_wp2_with fail
    refine (find_at w2 b m1 m2 N L s p0 ok H.out.one.at' HF.out HSZ.out).mono ?_
    rintro e w4 ⟨rfl, rfl⟩
    go_wp2_with fail
    refine (rfind_any r c B s L w2 p0 ok H.out.ref H.out.one.at'.up (by omega) HF.out).mono ?_
    rintro e w4 ⟨rfl, rfl⟩
    go_wp2_with fail
    go_ret
    exact ⟨N, B, c, _, rfl, H.out, by omega, by omega⟩
  · obtain ⟨p0, ok, hf⟩ := findAt_any L s
    have HF := hide hf
    have hpp : (p0 == p0) = true := by simp
    have hoo : (ok == ok) = true := by simp
    clear hf x1
    go_wp2_with fail
    refine (find_at w2 b m1 m2 N L s p0 ok H.out.one.at' HF.out HSZ.out).mono ?_
    rintro e w4 ⟨rfl, rfl⟩
    go_wp2_with fail
    refine (rfind_any r c B s L w2 p0 ok H.out.ref H.out.one.at'.up (by omega) HF.out).mono ?_
    rintro e w4 ⟨rfl, rfl⟩
    go_wp2_with fail
    go_ret
    exact ⟨N, B, c, _, rfl, H.out, by omega, by omega⟩
  · have hq0 : (q == 0) = false := int_ne (by omega)
    have hq1 : (q == 1) = false := int_ne (by omega)
    have hq2 : (q == 2) = false := int_ne (by omega)
    have hq33 : (q == 3) = false := int_ne (by omega)
    obtain ⟨ok, L', hpt⟩ := putsTo_any L s pid
    have hrp := fun W (hh : RefAt W r B c L) => rput_any r c B s pid L L' ok W hh H.out.one.at'.up (by omega) hpt
    have HRP := hide hrp
    have hoo : (ok == ok) = true := by simp
    rcases hpt with ⟨h1, h2, rfl, rfl⟩ | ⟨hno, rfl, hL⟩
    · have HP12 := hide (And.intro h1 h2)
      clear h1 h2 x1 x2 hrp hr0
      go_wp2_with fail
      refine order_begin (fun W => Blk W x 33 #[.int .i64 op, .int .i64 pid, .string s]) (fun _ => true) (by kernel_rfl) 14 rfl ?_
      have HS0 := hide H.out
      have HS : Blk w2.drew x 33 #[.int .i64 op, .int .i64 pid, .string s] := HX.out.drew
      have H := hide (H.out.fresh (Keeps.refl NoB w2).drew)
      generalize w2.drew = w3 at *
      refine order_pure (i := 0) rfl (by kernel_rfl) (fun _ _ _ h => h) (.inl ⟨rfl, fun _ => by go_simp; rfl⟩) ?_
      try simp only [Act.put, List.setIfInBounds_toArray, List.set_cons_succ, List.set_cons_zero]
      refine order_pure (i := 1) rfl (by kernel_rfl) (fun _ _ _ h => h) (.inl ⟨rfl, fun _ => by go_simp; rfl⟩) ?_
      try simp only [Act.put, List.setIfInBounds_toArray, List.set_cons_succ, List.set_cons_zero]
      refine order_held (i := 2) rfl (by kernel_rfl) (fun _ _ _ h => h) (.inl ⟨rfl, fun W hW => by
        have q0 : W.cell? ⟨x, 2, none⟩ = some (.string s) := hW.cell 2
        go_simp; rfl⟩) HS ?_
      try simp only [Act.put, List.setIfInBounds_toArray, List.set_cons_succ, List.set_cons_zero]
      refine order_pure (i := 3) rfl (by kernel_rfl) (fun _ _ _ h => h) (.inl ⟨rfl, fun _ => by go_simp; rfl⟩) ?_
      try simp only [Act.put, List.setIfInBounds_toArray, List.set_cons_succ, List.set_cons_zero]
      refine order_held (i := 4) rfl (by kernel_rfl) (fun _ _ _ h => h) (.inl ⟨rfl, fun W hW => by
        have q0 : W.cell? ⟨x, 1, none⟩ = some (.int .i64 pid) := hW.cell 1
        go_simp; rfl⟩) HS ?_
      try simp only [Act.put, List.setIfInBounds_toArray, List.set_cons_succ, List.set_cons_zero]
      refine order_pure (i := 6) rfl (by kernel_rfl) (fun _ _ _ h => h) (.inl ⟨rfl, fun _ => by go_simp; rfl⟩) ?_
      try simp only [Act.put, List.setIfInBounds_toArray, List.set_cons_succ, List.set_cons_zero]
      refine order_pure (i := 7) rfl (by kernel_rfl) (fun _ _ _ h => h) (.inl ⟨rfl, fun _ => by go_simp; rfl⟩) ?_
      try simp only [Act.put, List.setIfInBounds_toArray, List.set_cons_succ, List.set_cons_zero]
      refine order_held (i := 8) rfl (by kernel_rfl) (fun _ _ _ h => h) (.inl ⟨rfl, fun W hW => by
        have q0 : W.cell? ⟨x, 2, none⟩ = some (.string s) := hW.cell 2
        go_simp; rfl⟩) HS ?_
      try simp only [Act.put, List.setIfInBounds_toArray, List.set_cons_succ, List.set_cons_zero]
      refine order_pure (i := 9) rfl (by kernel_rfl) (fun _ _ _ h => h) (.inl ⟨rfl, fun _ => by go_simp; rfl⟩) ?_
      try simp only [Act.put, List.setIfInBounds_toArray, List.set_cons_succ, List.set_cons_zero]
      refine order_held (i := 10) rfl (by kernel_rfl) (fun _ _ _ h => h) (.inl ⟨rfl, fun W hW => by
        have q0 : W.cell? ⟨x, 1, none⟩ = some (.int .i64 pid) := hW.cell 1
        go_simp; rfl⟩) HS ?_
      try simp only [Act.put, List.setIfInBounds_toArray, List.set_cons_succ, List.set_cons_zero]
      refine order_one (i := 5) rfl (by kernel_rfl) (fun K hK => ?_)
      go_simp
      refine (put_yes w3 b m1 m2 N L s pid H.out.one.at' HSZ.out HP.out HP12.out.1 HP12.out.2 (by omega)).mono ?_
      rintro e w4 ⟨rfl, h1, hk⟩
      have HS4 := H.out.offN HS hk
      refine hK _ _ (fun _ _ => HS4) ?_
      have H4 := hide (H.out.names hk h1 (ins_sz H.out.sz ⟨HSZ.out, HP.out⟩))
      clear hK HS h1 hk
      try simp only [Act.put, List.setIfInBounds_toArray, List.set_cons_succ, List.set_cons_zero]
      refine order_one (i := 11) rfl (by kernel_rfl) (fun K hK => ?_)
      go_simp
      refine (HRP.out w4 H4.out.ref).mono ?_
      rintro e w5 ⟨B', c', rfl, h1, hk, hm⟩
      have HS5 := H4.out.offR HS4 (by decide) (by decide) hk
      refine hK _ _ (fun _ _ => HS5) ?_
      have H5 := hide (H4.out.refs h1 hk hm)
      clear hK HS4 h1 hk hm
      try simp only [Act.put, List.setIfInBounds_toArray, List.set_cons_succ, List.set_cons_zero]
      refine order_pure (i := 12) rfl (by kernel_rfl) (fun _ _ _ h => h) (.inl ⟨rfl, fun _ => by go_simp; rfl⟩) ?_
      try simp only [Act.put, List.setIfInBounds_toArray, List.set_cons_succ, List.set_cons_zero]
      refine order_pure (i := 13) rfl (by kernel_rfl) (fun _ _ _ h => h) (.inl ⟨rfl, fun _ => by go_simp; rfl⟩) ?_
      try simp only [Act.put, List.setIfInBounds_toArray, List.set_cons_succ, List.set_cons_zero]
      refine order_done (by kernel_rfl) ?_
      clear HS5
      go_wp2_with fail
      go_ret
      exact ⟨N + 1, B', c', _, rfl, H5.out, by omega, by rw [ins_len]; omega⟩
    · rw [hL] at HRP
      have HNO := hide hno
      clear hno x1 x2 hrp hr0 hL
      go_wp2_with fail
      refine order_begin (fun W => Blk W x 33 #[.int .i64 op, .int .i64 pid, .string s]) (fun _ => true) (by kernel_rfl) 14 rfl ?_
      have HS0 := hide H.out
      have HS : Blk w2.drew x 33 #[.int .i64 op, .int .i64 pid, .string s] := HX.out.drew
      have H := hide (H.out.fresh (Keeps.refl NoB w2).drew)
      generalize w2.drew = w3 at *
      refine order_pure (i := 0) rfl (by kernel_rfl) (fun _ _ _ h => h) (.inl ⟨rfl, fun _ => by go_simp; rfl⟩) ?_
      try simp only [Act.put, List.setIfInBounds_toArray, List.set_cons_succ, List.set_cons_zero]
      refine order_pure (i := 1) rfl (by kernel_rfl) (fun _ _ _ h => h) (.inl ⟨rfl, fun _ => by go_simp; rfl⟩) ?_
      try simp only [Act.put, List.setIfInBounds_toArray, List.set_cons_succ, List.set_cons_zero]
      refine order_held (i := 2) rfl (by kernel_rfl) (fun _ _ _ h => h) (.inl ⟨rfl, fun W hW => by
        have q0 : W.cell? ⟨x, 2, none⟩ = some (.string s) := hW.cell 2
        go_simp; rfl⟩) HS ?_
      try simp only [Act.put, List.setIfInBounds_toArray, List.set_cons_succ, List.set_cons_zero]
      refine order_pure (i := 3) rfl (by kernel_rfl) (fun _ _ _ h => h) (.inl ⟨rfl, fun _ => by go_simp; rfl⟩) ?_
      try simp only [Act.put, List.setIfInBounds_toArray, List.set_cons_succ, List.set_cons_zero]
      refine order_held (i := 4) rfl (by kernel_rfl) (fun _ _ _ h => h) (.inl ⟨rfl, fun W hW => by
        have q0 : W.cell? ⟨x, 1, none⟩ = some (.int .i64 pid) := hW.cell 1
        go_simp; rfl⟩) HS ?_
      try simp only [Act.put, List.setIfInBounds_toArray, List.set_cons_succ, List.set_cons_zero]
      refine order_pure (i := 6) rfl (by kernel_rfl) (fun _ _ _ h => h) (.inl ⟨rfl, fun _ => by go_simp; rfl⟩) ?_
      try simp only [Act.put, List.setIfInBounds_toArray, List.set_cons_succ, List.set_cons_zero]
      refine order_pure (i := 7) rfl (by kernel_rfl) (fun _ _ _ h => h) (.inl ⟨rfl, fun _ => by go_simp; rfl⟩) ?_
      try simp only [Act.put, List.setIfInBounds_toArray, List.set_cons_succ, List.set_cons_zero]
      refine order_held (i := 8) rfl (by kernel_rfl) (fun _ _ _ h => h) (.inl ⟨rfl, fun W hW => by
        have q0 : W.cell? ⟨x, 2, none⟩ = some (.string s) := hW.cell 2
        go_simp; rfl⟩) HS ?_
      try simp only [Act.put, List.setIfInBounds_toArray, List.set_cons_succ, List.set_cons_zero]
      refine order_pure (i := 9) rfl (by kernel_rfl) (fun _ _ _ h => h) (.inl ⟨rfl, fun _ => by go_simp; rfl⟩) ?_
      try simp only [Act.put, List.setIfInBounds_toArray, List.set_cons_succ, List.set_cons_zero]
      refine order_held (i := 10) rfl (by kernel_rfl) (fun _ _ _ h => h) (.inl ⟨rfl, fun W hW => by
        have q0 : W.cell? ⟨x, 1, none⟩ = some (.int .i64 pid) := hW.cell 1
        go_simp; rfl⟩) HS ?_
      try simp only [Act.put, List.setIfInBounds_toArray, List.set_cons_succ, List.set_cons_zero]
      refine order_one (i := 5) rfl (by kernel_rfl) (fun K hK => ?_)
      go_simp
      refine (put_no w3 b m1 m2 N L s pid H.out.one.at' HSZ.out HP.out HNO.out).mono ?_
      rintro e w4 ⟨rfl, rfl⟩
      refine hK _ _ (fun _ h => h) ?_
      clear hK
      try simp only [Act.put, List.setIfInBounds_toArray, List.set_cons_succ, List.set_cons_zero]
      refine order_one (i := 11) rfl (by kernel_rfl) (fun K hK => ?_)
      go_simp
      refine (HRP.out w3 H.out.ref).mono ?_
      rintro e w5 ⟨B', c', rfl, h1, hk, hm⟩
      have HS5 := H.out.offR HS (by decide) (by decide) hk
      refine hK _ _ (fun _ _ => HS5) ?_
      have H5 := hide (H.out.refs h1 hk hm)
      clear hK HS h1 hk hm
      try simp only [Act.put, List.setIfInBounds_toArray, List.set_cons_succ, List.set_cons_zero]
      refine order_pure (i := 12) rfl (by kernel_rfl) (fun _ _ _ h => h) (.inl ⟨rfl, fun _ => by go_simp; rfl⟩) ?_
      try simp only [Act.put, List.setIfInBounds_toArray, List.set_cons_succ, List.set_cons_zero]
      refine order_pure (i := 13) rfl (by kernel_rfl) (fun _ _ _ h => h) (.inl ⟨rfl, fun _ => by go_simp; rfl⟩) ?_
      try simp only [Act.put, List.setIfInBounds_toArray, List.set_cons_succ, List.set_cons_zero]
      refine order_done (by kernel_rfl) ?_
      clear HS5
      go_wp2_with fail
      go_ret
      exact ⟨N, B', c', _, rfl, H5.out, by omega, by omega⟩
end Go.Proofs.YthoaaihghgabcaaGreat
