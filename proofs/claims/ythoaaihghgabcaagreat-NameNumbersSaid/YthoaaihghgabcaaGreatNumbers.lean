/- pigeonholelaw15: NameNumbers. -/
import Derived.Test.YthoaaihghgabcaaGreatLives
import Derived.Test.YthoaaihghgabcaaGreatNumLaw
namespace Go.Proofs.YthoaaihghgabcaaGreat
open Go.RowKit Go.Maps

theorem Tryz.info33 : (Tryz.prog.info? 33).map (fun i => (i.zero, i.size, i.bytes)) = some (some (.agg #[.int .i64 0, .int .i64 0, .string ByteArray.empty]), 3, 32) := by kernel_rfl

structure NumInv (w wx : World) (nb pb : Nat) (A : Option Addr) (n c : Nat) (D : List Dx) : Prop where
  keep : Keeps NoB w wx
  hn : Blk wx nb 9 (#[Value.string { data := #[] }, Value.string { data := #[97] }, Value.string { data := #[97, 0] }, Value.string { data := #[97, 98] }, Value.string { data := #[98] }, Value.string { data := #[255] }] : Array Value)
  hp : Blk wx pb 3 (#[Value.int .i64 (-9223372036854775808), Value.int .i64 (-1), Value.int .i64 0, Value.int .i64 1, Value.int .i64 9223372036854775807, Value.int .i64 7] : Array Value)
  row : Slab wx 33 3 A n c (dosC D)
  ok : DOk D
  new : ∀ k, rowB A k → w.heap.size ≤ k
section
variable {w wx wy : World} {nb pb n c : Nat} {A : Option Addr} {D : List Dx}
theorem NumInv.fresh (h : NumInv w wx nb pb A n c D) (k : Keeps NoB wx wy) : NumInv w wy nb pb A n c D := ⟨h.keep.trans' k (fun _ _ => id) (fun _ _ => id), h.hn.keep k id, h.hp.keep k id, h.row.fresh k, h.ok, h.new⟩
theorem NumInv.more {A' : Option Addr} {c' : Nat} {x y z : Dx} (h : NumInv w wx nb pb A n c D) (hs : Slab wy 33 3 A' (n + 3) c' (dosC D ++ dosC [x, y, z])) (hk : Keeps (rowB A) wx wy) (hm : Moved wx A A') (hx : x.nm.size ≤ maxLen ∧ IntOk x.pid) (hy : y.nm.size ≤ maxLen ∧ IntOk y.pid) (hz : z.nm.size ≤ maxLen ∧ IntOk z.pid) : NumInv w wy nb pb A' (n + 3) c' (D ++ [x, y, z]) :=
  ⟨h.keep.trans' hk (fun _ _ => id) (fun k hk1 hr => by have := h.new k hr; omega), h.hn.keep hk (h.row.ne h.hn (by decide)), h.hp.keep hk (h.row.ne h.hp (by decide)), by rw [dosC_append]; exact hs, fun u hu => by
    rcases List.mem_append.1 hu with hu | hu
    · exact h.ok u hu
    · simp only [List.mem_cons, List.not_mem_nil, or_false] at hu
      rcases hu with rfl | rfl | rfl
      · exact hx
      · exact hy
      · exact hz, fun k hk1 => (hm k hk1).elim (h.new k) (fun e => Nat.le_trans h.keep.size e)⟩
theorem NumInv.maps {b m1 m2 N : Nat} {L : List Nm} (h : NumInv w wx nb pb A n c D) (hn : NamesAt wx b m1 m2 N L) (hk : Keeps (fun k => k = m1 ∨ k = m2) wx wy) (h1 : w.heap.size ≤ m1) (h2 : w.heap.size ≤ m2) : NumInv w wy nb pb A n c D :=
  ⟨h.keep.trans' hk (fun _ _ => id) (fun k hk1 e => by omega), h.hn.keep hk (fun e => by obtain ⟨a1, a2⟩ := hn.ne_of h.hn; exact e.elim a1 a2), h.hp.keep hk (fun e => by obtain ⟨a1, a2⟩ := hn.ne_of h.hp; exact e.elim a1 a2), h.row.keep hk (fun k hr e => by
    obtain ⟨cs, hc⟩ := row_blk h.row hr
    obtain ⟨a1, a2⟩ := hn.ne_of hc; exact e.elim a1 a2), h.ok, h.new⟩
theorem NumInv.name (h : NumInv w wx nb pb A n c D) {j : Nat} (hj : j < 6) : wx.cell? ⟨nb, j, none⟩ = some (.string (sN j)) := by rw [h.hn.cell]; exact ns_at hj
theorem NumInv.pid (h : NumInv w wx nb pb A n c D) {j : Nat} (hj : j < 6) : wx.cell? ⟨pb, j, none⟩ = some (.int .i64 (pN j)) := by rw [h.hp.cell]; exact ps_at hj
end
theorem ok0 : IntOk 0 := by unfold IntOk; decide
theorem ok50 : IntOk 50 := by unfold IntOk; decide
theorem ok99 : IntOk 99 := by unfold IntOk; decide
theorem new_size : (ByteArray.mk #[110, 101, 119]).size ≤ maxLen := by
  have : (ByteArray.mk #[110, 101, 119]).size = 3 := rfl
  unfold maxLen; omega
theorem nil_size : (ByteArray.mk #[]).size ≤ maxLen := by
  have : (ByteArray.mk #[]).size = 0 := rfl
  unfold maxLen; omega
theorem nine_reads {w : World} {vb : Nat} {x y z : Dx} (hv : Blk w vb 33 #[.int .i64 x.op, .int .i64 x.pid, .string x.nm, .int .i64 y.op, .int .i64 y.pid, .string y.nm, .int .i64 z.op, .int .i64 z.pid, .string z.nm]) : Reads w (fun _ => True) true 3 (some ⟨vb, 0, none⟩) 3 (dosC [x, y, z]) := by
  refine ⟨rfl, fun _ => ⟨_, rfl, rfl, trivial, hv.lt, fun j u hu => ⟨?_, fun _ => hv.free _⟩⟩⟩
  rw [hv.cell, ← hu]; simp [dosC]
theorem dosC_ones (D : List Dx) : ∀ u ∈ dosC D, u.oneCell' = true := by
  intro u hu
  unfold dosC at hu
  obtain ⟨x, _, hx⟩ := List.mem_flatMap.1 hu
  simp only [List.mem_cons, List.not_mem_nil, or_false] at hx
  rcases hx with rfl | rfl | rfl <;> rfl
theorem num_start (w : World) : NumInv w ((w.alloc (.cells (#[Value.string { data := #[] }, Value.string { data := #[97] }, Value.string { data := #[97, 0] }, Value.string { data := #[97, 98] }, Value.string { data := #[98] }, Value.string { data := #[255] }] : Array Value) 9)).alloc (.cells (#[Value.int .i64 (-9223372036854775808), Value.int .i64 (-1), Value.int .i64 0, Value.int .i64 1, Value.int .i64 9223372036854775807, Value.int .i64 7] : Array Value) 3)) w.heap.size (w.heap.size + 1) none 0 0 [] :=
  ⟨((Keeps.refl NoB w).alloc _).alloc _, (Blk.new w 9 _).alloc _, by
    have := Blk.new (w.alloc (.cells (#[Value.string { data := #[] }, Value.string { data := #[97] }, Value.string { data := #[97, 0] }, Value.string { data := #[97, 98] }, Value.string { data := #[98] }, Value.string { data := #[255] }] : Array Value) 9)) 3 (#[Value.int .i64 (-9223372036854775808), Value.int .i64 (-1), Value.int .i64 0, Value.int .i64 1, Value.int .i64 9223372036854775807, Value.int .i64 7] : Array Value)
    rw [show (w.alloc (.cells (#[Value.string { data := #[] }, Value.string { data := #[97] }, Value.string { data := #[97, 0] }, Value.string { data := #[97, 98] }, Value.string { data := #[98] }, Value.string { data := #[255] }] : Array Value) 9)).heap.size = w.heap.size + 1 from by simp] at this
    exact this, Slab.nil _ _ _, (fun x hx => by cases hx), fun k ⟨o, e⟩ => by cases e⟩

/-- The two rows that the text itself lays. -/
def NP (w : World) (nb pb : Nat) : Prop := Blk w nb 9 (#[Value.string { data := #[] }, Value.string { data := #[97] }, Value.string { data := #[97, 0] }, Value.string { data := #[97, 98] }, Value.string { data := #[98] }, Value.string { data := #[255] }] : Array Value) ∧ Blk w pb 3 (#[Value.int .i64 (-9223372036854775808), Value.int .i64 (-1), Value.int .i64 0, Value.int .i64 1, Value.int .i64 9223372036854775807, Value.int .i64 7] : Array Value)
theorem NP.name {w : World} {nb pb : Nat} (h : NP w nb pb) {j : Nat} (hj : j < 6) : w.cell? ⟨nb, j, none⟩ = some (.string (sN j)) := by rw [h.1.cell]; exact ns_at hj
theorem NP.pid {w : World} {nb pb : Nat} (h : NP w nb pb) {j : Nat} (hj : j < 6) : w.cell? ⟨pb, j, none⟩ = some (.int .i64 (pN j)) := by rw [h.2.cell]; exact ps_at hj
theorem NumInv.np {w wx : World} {nb pb : Nat} {A : Option Addr} {n c : Nat} {D : List Dx} (h : NumInv w wx nb pb A n c D) : NP wx nb pb := ⟨h.hn, h.hp⟩
theorem rem6 (i : Nat) (h : i < 6) : ∃ j : Nat, (IntKind.i64.wrap ((i : Int) + 3)).tmod 6 = (j : Int) ∧ j < 6 := by
  rcases six h with rfl | rfl | rfl | rfl | rfl | rfl
  · exact ⟨3, by decide, by omega⟩
  · exact ⟨4, by decide, by omega⟩
  · exact ⟨5, by decide, by omega⟩
  · exact ⟨0, by decide, by omega⟩
  · exact ⟨1, by decide, by omega⟩
  · exact ⟨2, by decide, by omega⟩
theorem ok_rem (i : Nat) (h : i < 6) : IntOk ((i : Int).tmod 2) := by rcases six h with rfl | rfl | rfl | rfl | rfl | rfl <;> (unfold IntOk; decide)
theorem all_reads {wx : World} {X : Option Addr} {xc i j : Nat} (h : Slab wx 42 2 X 6 xc (nms (LN 6))) (hi : i < 6) (hj : i + j = 5) : ∃ g o, X = some ⟨g, o, none⟩ ∧ wx.cell? ⟨g, o + i * 2, none⟩ = some (.string (sN i)) ∧ wx.cell? ⟨g, o + i * 2 + 1, none⟩ = some (.int .i64 (pN j)) := by
  obtain ⟨⟨g, o, sp⟩, hA, hs, _, _, hc⟩ := h.reads.2 (by omega)
  simp only at hs
  subst hs
  have e := LN_at hi
  rw [show 5 - i = j from by omega] at e
  obtain ⟨e0, e1⟩ := nms_at e
  exact ⟨g, o, hA, (hc _ _ e0).1, (hc _ _ e1).1⟩

set_option maxRecDepth 100000 in
set_option maxHeartbeats 8000000 in
theorem name_numbers (w : World) : Calls Tryz.prog 4 #[] w fun e w' => e = .returned (.bool true) ∧ Keeps NoB w w' := by
  obtain ⟨i0, ni0, nz0, nz1, nz2⟩ := info_parts Tryz.info33
  go_enter Tryz.func4, Tryz.ntmps4
  go_wp2_with fail
  have HS0 := hide (num_start w)
  generalize (w.alloc (.cells (#[Value.string { data := #[] }, Value.string { data := #[97] }, Value.string { data := #[97, 0] }, Value.string { data := #[97, 98] }, Value.string { data := #[98] }, Value.string { data := #[255] }] : Array Value) 9)).alloc (.cells (#[Value.int .i64 (-9223372036854775808), Value.int .i64 (-1), Value.int .i64 0, Value.int .i64 1, Value.int .i64 9223372036854775807, Value.int .i64 7] : Array Value) 3) = w2 at *
  generalize w.heap.size + 1 = pb at *
  obtain ⟨nb, hnb⟩ : ∃ nb, w.heap.size = nb := ⟨_, rfl⟩
  rw [hnb] at HS0 ⊢
  clear hnb
  go_loopg [3, 4] 6 (fun g s3 s4 wx => ∃ (i : Nat) (A : Option Addr) (c : Nat) (D : List Dx), i ≤ 6 ∧ g = 6 - i ∧ s4 = .int .i64 i ∧ s3 = .slice A (3 * i) c ∧ NumInv w wx nb pb A (3 * i) c D)
  case atStart => exact ⟨0, none, 0, [], by omega, rfl, rfl, rfl, HS0.out⟩
  case round =>
    clear HS0
    obtain ⟨i, A, c, D, hi6, rfl, rfl, rfl, hinv⟩ := hrel
    have HI := hide hinv
    clear hinv
    by_cases hi : i < 6
    · have hiz : (i : Int) < 6 := by omega
      have hi0 : (0 : Int) ≤ i := by omega
      obtain ⟨j, hij⟩ : ∃ j, i + j = 5 := ⟨5 - i, by omega⟩
      have hj6 : j < 6 := by omega
      have hjz : (j : Int) < 6 := by omega
      have hj0 : (0 : Int) ≤ j := by omega
      have e1 : IntKind.i64.wrap (5 - (i : Int)) = (j : Int) := by rw [show 5 - (i : Int) = j from by omega]; exact IntWalk.i64_in _ (by omega)
      have EI := hide hij
      clear hij
      go_wp2_with fail
      refine order_begin (fun W => NumInv w W nb pb A (3 * i) c D) (fun k => !(k == 26)) (by kernel_rfl) 28 rfl ?_
      have HS : NumInv w wr.drew nb pb A (3 * i) c D := HI.out.fresh (Keeps.refl NoB wr).drew
      refine order_pure (i := 0) rfl (by kernel_rfl) (fun _ _ _ h => h) (.inl ⟨rfl, fun _ => by go_simp; rfl⟩) ?_
      try simp only [Act.put, List.setIfInBounds_toArray, List.set_cons_succ, List.set_cons_zero]
      refine order_pure (i := 1) rfl (by kernel_rfl) (fun _ _ _ h => h) (.inl ⟨rfl, fun _ => by go_simp; rfl⟩) ?_
      try simp only [Act.put, List.setIfInBounds_toArray, List.set_cons_succ, List.set_cons_zero]
      refine order_pure (i := 2) rfl (by kernel_rfl) (fun _ _ _ h => h) (.inl ⟨rfl, fun _ => by go_simp; rfl⟩) ?_
      try simp only [Act.put, List.setIfInBounds_toArray, List.set_cons_succ, List.set_cons_zero]
      refine order_pure (i := 3) rfl (by kernel_rfl) (fun _ _ _ h => h) (.inl ⟨rfl, fun _ => by go_simp; rfl⟩) ?_
      try simp only [Act.put, List.setIfInBounds_toArray, List.set_cons_succ, List.set_cons_zero]
      refine order_pure (i := 4) rfl (by kernel_rfl) (fun _ _ _ h => h) (.inl ⟨rfl, fun _ => by go_simp; rfl⟩) ?_
      try simp only [Act.put, List.setIfInBounds_toArray, List.set_cons_succ, List.set_cons_zero]
      refine order_held (i := 5) rfl (by kernel_rfl) (fun _ _ _ h => h) (.inl ⟨rfl, fun W hW => by
        have q0 : W.cell? ⟨nb, j, none⟩ = some (.string (sN j)) := hW.name hj6
        go_simp; rfl⟩) HS ?_
      try simp only [Act.put, List.setIfInBounds_toArray, List.set_cons_succ, List.set_cons_zero]
      refine order_pure (i := 6) rfl (by kernel_rfl) (fun _ _ _ h => h) (.inl ⟨rfl, fun _ => by go_simp; rfl⟩) ?_
      try simp only [Act.put, List.setIfInBounds_toArray, List.set_cons_succ, List.set_cons_zero]
      refine order_pure (i := 7) rfl (by kernel_rfl) (fun _ _ _ h => h) (.inl ⟨rfl, fun _ => by go_simp; rfl⟩) ?_
      try simp only [Act.put, List.setIfInBounds_toArray, List.set_cons_succ, List.set_cons_zero]
      refine order_pure (i := 8) rfl (by kernel_rfl) (fun _ _ _ h => h) (.inl ⟨rfl, fun _ => by go_simp; rfl⟩) ?_
      try simp only [Act.put, List.setIfInBounds_toArray, List.set_cons_succ, List.set_cons_zero]
      refine order_held (i := 9) rfl (by kernel_rfl) (fun _ _ _ h => h) (.inl ⟨rfl, fun W hW => by
        have q0 : W.cell? ⟨pb, i, none⟩ = some (.int .i64 (pN i)) := hW.pid hi
        go_simp; rfl⟩) HS ?_
      try simp only [Act.put, List.setIfInBounds_toArray, List.set_cons_succ, List.set_cons_zero]
      refine order_pure (i := 10) rfl (by kernel_rfl) (fun _ _ _ h => h) (.inl ⟨rfl, fun _ => by go_simp; rfl⟩) ?_
      try simp only [Act.put, List.setIfInBounds_toArray, List.set_cons_succ, List.set_cons_zero]
      refine order_pure (i := 11) rfl (by kernel_rfl) (fun _ _ _ h => h) (.inl ⟨rfl, fun _ => by go_simp; rfl⟩) ?_
      try simp only [Act.put, List.setIfInBounds_toArray, List.set_cons_succ, List.set_cons_zero]
      refine order_pure (i := 12) rfl (by kernel_rfl) (fun _ _ _ h => h) (.inl ⟨rfl, fun _ => by go_simp; rfl⟩) ?_
      try simp only [Act.put, List.setIfInBounds_toArray, List.set_cons_succ, List.set_cons_zero]
      refine order_pure (i := 13) rfl (by kernel_rfl) (fun _ _ _ h => h) (.inl ⟨rfl, fun _ => by go_simp; rfl⟩) ?_
      try simp only [Act.put, List.setIfInBounds_toArray, List.set_cons_succ, List.set_cons_zero]
      refine order_held (i := 14) rfl (by kernel_rfl) (fun _ _ _ h => h) (.inl ⟨rfl, fun W hW => by
        have q0 : W.cell? ⟨nb, i, none⟩ = some (.string (sN i)) := hW.name hi
        go_simp; rfl⟩) HS ?_
      try simp only [Act.put, List.setIfInBounds_toArray, List.set_cons_succ, List.set_cons_zero]
      refine order_pure (i := 15) rfl (by kernel_rfl) (fun _ _ _ h => h) (.inl ⟨rfl, fun _ => by go_simp; rfl⟩) ?_
      try simp only [Act.put, List.setIfInBounds_toArray, List.set_cons_succ, List.set_cons_zero]
      refine order_pure (i := 16) rfl (by kernel_rfl) (fun _ _ _ h => h) (.inl ⟨rfl, fun _ => by go_simp; rfl⟩) ?_
      try simp only [Act.put, List.setIfInBounds_toArray, List.set_cons_succ, List.set_cons_zero]
      refine order_pure (i := 17) rfl (by kernel_rfl) (fun _ _ _ h => h) (.inl ⟨rfl, fun _ => by go_simp; rfl⟩) ?_
      try simp only [Act.put, List.setIfInBounds_toArray, List.set_cons_succ, List.set_cons_zero]
      refine order_held (i := 18) rfl (by kernel_rfl) (fun _ _ _ h => h) (.inl ⟨rfl, fun W hW => by
        have q0 : W.cell? ⟨pb, i, none⟩ = some (.int .i64 (pN i)) := hW.pid hi
        go_simp; rfl⟩) HS ?_
      try simp only [Act.put, List.setIfInBounds_toArray, List.set_cons_succ, List.set_cons_zero]
      refine order_pure (i := 19) rfl (by kernel_rfl) (fun _ _ _ h => h) (.inl ⟨rfl, fun _ => by go_simp; rfl⟩) ?_
      try simp only [Act.put, List.setIfInBounds_toArray, List.set_cons_succ, List.set_cons_zero]
      refine order_pure (i := 20) rfl (by kernel_rfl) (fun _ _ _ h => h) (.inl ⟨rfl, fun _ => by go_simp; rfl⟩) ?_
      try simp only [Act.put, List.setIfInBounds_toArray, List.set_cons_succ, List.set_cons_zero]
      refine order_pure (i := 21) rfl (by kernel_rfl) (fun _ _ _ h => h) (.inl ⟨rfl, fun _ => by go_simp; rfl⟩) ?_
      try simp only [Act.put, List.setIfInBounds_toArray, List.set_cons_succ, List.set_cons_zero]
      refine order_pure (i := 22) rfl (by kernel_rfl) (fun _ _ _ h => h) (.inl ⟨rfl, fun _ => by go_simp; rfl⟩) ?_
      try simp only [Act.put, List.setIfInBounds_toArray, List.set_cons_succ, List.set_cons_zero]
      refine order_held (i := 23) rfl (by kernel_rfl) (fun _ _ _ h => h) (.inl ⟨rfl, fun W hW => by
        have q0 : W.cell? ⟨nb, i, none⟩ = some (.string (sN i)) := hW.name hi
        go_simp; rfl⟩) HS ?_
      try simp only [Act.put, List.setIfInBounds_toArray, List.set_cons_succ, List.set_cons_zero]
      refine order_pure (i := 24) rfl (by kernel_rfl) (fun _ _ _ h => h) (.inl ⟨rfl, fun _ => by go_simp; rfl⟩) ?_
      try simp only [Act.put, List.setIfInBounds_toArray, List.set_cons_succ, List.set_cons_zero]
      refine order_one (i := 25) rfl (by kernel_rfl) (fun K hK => ?_)
      go_simp
      have HS2 := HI.out.fresh ((Keeps.refl NoB wr).alloc (.cells #[.int .i64 7, .int .i64 (pN i), .string (sN j), .int .i64 7, .int .i64 (pN i), .string (sN i), .int .i64 2, .int .i64 0, .string (sN i)] 33)).drew
      refine hK _ _ (fun _ _ => HS2) ?_
      have HNR := hide (nine_reads (x := ⟨7, pN i, sN j⟩) (y := ⟨7, pN i, sN i⟩) (z := ⟨2, 0, sN i⟩) (Blk.new wr 33 #[.int .i64 7, .int .i64 (pN i), .string (sN j), .int .i64 7, .int .i64 (pN i), .string (sN i), .int .i64 2, .int .i64 0, .string (sN i)]).drew)
      clear hK HS HI
      try simp only [Act.put, List.setIfInBounds_toArray, List.set_cons_succ, List.set_cons_zero]
      generalize (wr.alloc (.cells #[.int .i64 7, .int .i64 (pN i), .string (sN j), .int .i64 7, .int .i64 (pN i), .string (sN i), .int .i64 2, .int .i64 0, .string (sN i)] 33)).drew = w5 at *
      have HI5 := hide HS2
      clear HS2
      refine order_one (i := 26) rfl (by kernel_rfl) (fun K hK => ?_)
      refine step_append_any _ rfl (.tmp 16) (.tmp 41) 22 rfl 33 i0 _ 3 32 Tryz.underlying22 ni0 nz0 nz1 nz2 rfl (by omega) A (3 * i) c (dosC D) rfl HI5.out.row _ _ _ 3 3 (dosC [⟨7, pN i, sN j⟩, ⟨7, pN i, sN i⟩, ⟨2, 0, sN i⟩]) rfl HNR.out (dosC_ones _) (by unfold maxLen; omega) (by omega) (fun A2 c2 w6 h1 h2 h3 => ?_)
      have HS6 := hide (HI5.out.more h1 h2 h3 ⟨sN_ok _, pN_ok _⟩ ⟨sN_ok _, pN_ok _⟩ ⟨sN_ok _, ok0⟩)
      clear h1 h2 h3 HI5 HNR
      refine hK _ _ (fun h => absurd h (by decide)) ?_
      clear hK
      try simp only [Act.put, List.setIfInBounds_toArray, List.set_cons_succ, List.set_cons_zero]
      refine order_pure (i := 27) rfl (by kernel_rfl) (fun _ _ _ h => h) (.inl ⟨rfl, fun _ => by go_simp; rfl⟩) ?_
      try simp only [Act.put, List.setIfInBounds_toArray, List.set_cons_succ, List.set_cons_zero]
      refine order_done (by kernel_rfl) ?_
      go_wp2_with fail
      go_roundg (6 - (i + 1))
      case measure => omega
      case rel => exact ⟨i + 1, A2, c2, _, by omega, rfl, by go_num, rfl, HS6.out⟩
    · obtain rfl : i = 6 := by omega
      have hiz : ¬ ((6 : Nat) : Int) < 6 := by omega
      clear hi hi6
      have HJ := hide (show NumInv w wr nb pb A (18 + 3 * 0) c D from HI.out)
      clear HI
      go_wp2_with fail
      go_loopg [3, 5] 6 (fun g s3 s5 wx => ∃ (i : Nat) (A : Option Addr) (c : Nat) (D : List Dx), i ≤ 6 ∧ g = 6 - i ∧ s5 = .int .i64 i ∧ s3 = .slice A (18 + 3 * i) c ∧ NumInv w wx nb pb A (18 + 3 * i) c D)
      case atStart => exact ⟨0, A, c, D, by omega, rfl, rfl, rfl, HJ.out⟩
      case round =>
        clear HJ A c D
        obtain ⟨i, A, c, D, hi6, rfl, rfl, rfl, hinv⟩ := hrel
        have HI := hide hinv
        clear hinv
        by_cases hi : i < 6
        · have hiz : (i : Int) < 6 := by omega
          have hi0 : (0 : Int) ≤ i := by omega
          obtain ⟨q, hq⟩ : ∃ q, (i : Int).tmod 2 = q := ⟨_, rfl⟩
          have OR := hide (show IntOk q from hq ▸ ok_rem i hi)
          obtain ⟨j, hij, hj6⟩ : ∃ j : Nat, (IntKind.i64.wrap ((i : Int) + 3)).tmod 6 = (j : Int) ∧ j < 6 := rem6 i hi
          have hjz : (j : Int) < 6 := by omega
          have hj0 : (0 : Int) ≤ j := by omega
          go_wp2_with fail
          refine order_begin (fun W => NumInv w W nb pb A (18 + 3 * i) c D) (fun k => !(k == 25)) (by kernel_rfl) 27 rfl ?_
          have HS : NumInv w wr.drew nb pb A (18 + 3 * i) c D := HI.out.fresh (Keeps.refl NoB wr).drew
          refine order_pure (i := 0) rfl (by kernel_rfl) (fun _ _ _ h => h) (.inl ⟨rfl, fun _ => by go_simp; rfl⟩) ?_
          try simp only [Act.put, List.setIfInBounds_toArray, List.set_cons_succ, List.set_cons_zero]
          refine order_pure (i := 1) rfl (by kernel_rfl) (fun _ _ _ h => h) (.inl ⟨rfl, fun _ => by go_simp; rfl⟩) ?_
          try simp only [Act.put, List.setIfInBounds_toArray, List.set_cons_succ, List.set_cons_zero]
          refine order_pure (i := 2) rfl (by kernel_rfl) (fun _ _ _ h => h) (.inl ⟨rfl, fun _ => by go_simp; rfl⟩) ?_
          try simp only [Act.put, List.setIfInBounds_toArray, List.set_cons_succ, List.set_cons_zero]
          refine order_pure (i := 3) rfl (by kernel_rfl) (fun _ _ _ h => h) (.inl ⟨rfl, fun _ => by go_simp; rfl⟩) ?_
          try simp only [Act.put, List.setIfInBounds_toArray, List.set_cons_succ, List.set_cons_zero]
          refine order_pure (i := 4) rfl (by kernel_rfl) (fun _ _ _ h => h) (.inl ⟨rfl, fun _ => by go_simp; rfl⟩) ?_
          try simp only [Act.put, List.setIfInBounds_toArray, List.set_cons_succ, List.set_cons_zero]
          refine order_pure (i := 5) rfl (by kernel_rfl) (fun _ _ _ h => h) (.inl ⟨rfl, fun _ => by go_simp; rfl⟩) ?_
          try simp only [Act.put, List.setIfInBounds_toArray, List.set_cons_succ, List.set_cons_zero]
          refine order_held (i := 6) rfl (by kernel_rfl) (fun _ _ _ h => h) (.inl ⟨rfl, fun W hW => by
            have q0 : W.cell? ⟨nb, i, none⟩ = some (.string (sN i)) := hW.name hi
            go_simp; rfl⟩) HS ?_
          try simp only [Act.put, List.setIfInBounds_toArray, List.set_cons_succ, List.set_cons_zero]
          refine order_pure (i := 7) rfl (by kernel_rfl) (fun _ _ _ h => h) (.inl ⟨rfl, fun _ => by go_simp; rfl⟩) ?_
          try simp only [Act.put, List.setIfInBounds_toArray, List.set_cons_succ, List.set_cons_zero]
          refine order_pure (i := 8) rfl (by kernel_rfl) (fun _ _ _ h => h) (.inl ⟨rfl, fun _ => by go_simp; rfl⟩) ?_
          try simp only [Act.put, List.setIfInBounds_toArray, List.set_cons_succ, List.set_cons_zero]
          refine order_pure (i := 9) rfl (by kernel_rfl) (fun _ _ _ h => h) (.inl ⟨rfl, fun _ => by go_simp; rfl⟩) ?_
          try simp only [Act.put, List.setIfInBounds_toArray, List.set_cons_succ, List.set_cons_zero]
          refine order_pure (i := 10) rfl (by kernel_rfl) (fun _ _ _ h => h) (.inl ⟨rfl, fun _ => by go_simp; rfl⟩) ?_
          try simp only [Act.put, List.setIfInBounds_toArray, List.set_cons_succ, List.set_cons_zero]
          refine order_pure (i := 11) rfl (by kernel_rfl) (fun _ _ _ h => h) (.inl ⟨rfl, fun _ => by go_simp; rfl⟩) ?_
          try simp only [Act.put, List.setIfInBounds_toArray, List.set_cons_succ, List.set_cons_zero]
          refine order_held (i := 12) rfl (by kernel_rfl) (fun _ _ _ h => h) (.inl ⟨rfl, fun W hW => by
            have q0 : W.cell? ⟨pb, j, none⟩ = some (.int .i64 (pN j)) := hW.pid hj6
            go_simp; rfl⟩) HS ?_
          try simp only [Act.put, List.setIfInBounds_toArray, List.set_cons_succ, List.set_cons_zero]
          refine order_pure (i := 13) rfl (by kernel_rfl) (fun _ _ _ h => h) (.inl ⟨rfl, fun _ => by go_simp; rfl⟩) ?_
          try simp only [Act.put, List.setIfInBounds_toArray, List.set_cons_succ, List.set_cons_zero]
          refine order_pure (i := 14) rfl (by kernel_rfl) (fun _ _ _ h => h) (.inl ⟨rfl, fun _ => by go_simp; rfl⟩) ?_
          try simp only [Act.put, List.setIfInBounds_toArray, List.set_cons_succ, List.set_cons_zero]
          refine order_pure (i := 15) rfl (by kernel_rfl) (fun _ _ _ h => h) (.inl ⟨rfl, fun _ => by go_simp; rfl⟩) ?_
          try simp only [Act.put, List.setIfInBounds_toArray, List.set_cons_succ, List.set_cons_zero]
          refine order_pure (i := 16) rfl (by kernel_rfl) (fun _ _ _ h => h) (.inl ⟨rfl, fun _ => by go_simp; rfl⟩) ?_
          try simp only [Act.put, List.setIfInBounds_toArray, List.set_cons_succ, List.set_cons_zero]
          refine order_held (i := 17) rfl (by kernel_rfl) (fun _ _ _ h => h) (.inl ⟨rfl, fun W hW => by
            have q0 : W.cell? ⟨nb, i, none⟩ = some (.string (sN i)) := hW.name hi
            go_simp; rfl⟩) HS ?_
          try simp only [Act.put, List.setIfInBounds_toArray, List.set_cons_succ, List.set_cons_zero]
          refine order_pure (i := 18) rfl (by kernel_rfl) (fun _ _ _ h => h) (.inl ⟨rfl, fun _ => by go_simp; rfl⟩) ?_
          try simp only [Act.put, List.setIfInBounds_toArray, List.set_cons_succ, List.set_cons_zero]
          refine order_pure (i := 19) rfl (by kernel_rfl) (fun _ _ _ h => h) (.inl ⟨rfl, fun _ => by go_simp; rfl⟩) ?_
          try simp only [Act.put, List.setIfInBounds_toArray, List.set_cons_succ, List.set_cons_zero]
          refine order_pure (i := 20) rfl (by kernel_rfl) (fun _ _ _ h => h) (.inl ⟨rfl, fun _ => by go_simp; rfl⟩) ?_
          try simp only [Act.put, List.setIfInBounds_toArray, List.set_cons_succ, List.set_cons_zero]
          refine order_held (i := 21) rfl (by kernel_rfl) (fun _ _ _ h => h) (.inl ⟨rfl, fun W hW => by
            have q0 : W.cell? ⟨pb, i, none⟩ = some (.int .i64 (pN i)) := hW.pid hi
            go_simp; rfl⟩) HS ?_
          try simp only [Act.put, List.setIfInBounds_toArray, List.set_cons_succ, List.set_cons_zero]
          refine order_pure (i := 22) rfl (by kernel_rfl) (fun _ _ _ h => h) (.inl ⟨rfl, fun _ => by go_simp; rfl⟩) ?_
          try simp only [Act.put, List.setIfInBounds_toArray, List.set_cons_succ, List.set_cons_zero]
          refine order_pure (i := 23) rfl (by kernel_rfl) (fun _ _ _ h => h) (.inl ⟨rfl, fun _ => by go_simp; rfl⟩) ?_
          try simp only [Act.put, List.setIfInBounds_toArray, List.set_cons_succ, List.set_cons_zero]
          refine order_one (i := 24) rfl (by kernel_rfl) (fun K hK => ?_)
          go_simp
          have HS2 := HI.out.fresh ((Keeps.refl NoB wr).alloc (.cells #[.int .i64 q, .int .i64 (pN j), .string (sN i), .int .i64 7, .int .i64 (pN i), .string (sN i), .int .i64 0, .int .i64 99, .string { data := #[] }] 33)).drew
          refine hK _ _ (fun _ _ => HS2) ?_
          have HNR := hide (nine_reads (x := ⟨q, pN j, sN i⟩) (y := ⟨7, pN i, sN i⟩) (z := ⟨0, 99, ⟨#[]⟩⟩) (Blk.new wr 33 #[.int .i64 q, .int .i64 (pN j), .string (sN i), .int .i64 7, .int .i64 (pN i), .string (sN i), .int .i64 0, .int .i64 99, .string { data := #[] }]).drew)
          clear hK HS HI
          try simp only [Act.put, List.setIfInBounds_toArray, List.set_cons_succ, List.set_cons_zero]
          generalize (wr.alloc (.cells #[.int .i64 q, .int .i64 (pN j), .string (sN i), .int .i64 7, .int .i64 (pN i), .string (sN i), .int .i64 0, .int .i64 99, .string { data := #[] }] 33)).drew = w5 at *
          have HI5 := hide HS2
          clear HS2
          refine order_one (i := 25) rfl (by kernel_rfl) (fun K hK => ?_)
          refine step_append_any _ rfl (.tmp 47) (.tmp 71) 22 rfl 33 i0 _ 3 32 Tryz.underlying22 ni0 nz0 nz1 nz2 rfl (by omega) A (18 + 3 * i) c (dosC D) rfl HI5.out.row _ _ _ 3 3 (dosC [⟨q, pN j, sN i⟩, ⟨7, pN i, sN i⟩, ⟨0, 99, ⟨#[]⟩⟩]) rfl HNR.out (dosC_ones _) (by unfold maxLen; omega) (by omega) (fun A2 c2 w6 h1 h2 h3 => ?_)
          have HS6 := hide (HI5.out.more h1 h2 h3 ⟨sN_ok _, pN_ok _⟩ ⟨sN_ok _, pN_ok _⟩ ⟨nil_size, ok99⟩)
          clear h1 h2 h3 HI5 HNR
          refine hK _ _ (fun h => absurd h (by decide)) ?_
          clear hK
          try simp only [Act.put, List.setIfInBounds_toArray, List.set_cons_succ, List.set_cons_zero]
          refine order_pure (i := 26) rfl (by kernel_rfl) (fun _ _ _ h => h) (.inl ⟨rfl, fun _ => by go_simp; rfl⟩) ?_
          try simp only [Act.put, List.setIfInBounds_toArray, List.set_cons_succ, List.set_cons_zero]
          refine order_done (by kernel_rfl) ?_
          go_wp2_with fail
          go_roundg (6 - (i + 1))
          case measure => omega
          case rel => exact ⟨i + 1, A2, c2, _, by omega, rfl, by go_num, rfl, HS6.out⟩
        · obtain rfl : i = 6 := by omega
          have hiz : ¬ ((6 : Nat) : Int) < 6 := by omega
          clear hi hi6
          have HJ := hide (show NumInv w wr nb pb A 36 c D from HI.out)
          clear HI
          go_wp2_with
            first
            | (go_at_call 7
               refine (new_any _).mono ?_
               rintro e w3 ⟨rfl, h1, hk⟩
               have HJ3 := hide (HJ.out.fresh hk)
               have HNA := hide h1
               have HMZ := hide (show w.heap.size ≤ wr.heap.size ∧ w.heap.size ≤ wr.heap.size + 1 from by have := HJ.out.keep.size; omega)
               clear h1 hk HJ)
            | fail
          generalize wr.heap.size + 2 = b at *
          generalize wr.heap.size + 1 = m2 at *
          generalize wr.heap.size = m1 at *
          clear wr
          go_loopg [7] 6 (fun g s7 wx => ∃ i : Nat, i ≤ 6 ∧ g = 6 - i ∧ s7 = .int .i64 i ∧ NumInv w wx nb pb A 36 c D ∧ NamesAt wx b m1 m2 i (LN i))
          case atStart => exact ⟨0, by omega, rfl, rfl, HJ3.out, HNA.out⟩
          case round =>
            clear HJ3 HNA
            obtain ⟨i, hi6, rfl, rfl, hinv, hna⟩ := hrel
            have HI := hide hinv; have HNA := hide hna
            clear hinv hna
            by_cases hi : i < 6
            · have hiz : (i : Int) < 6 := by omega
              have hi0 : (0 : Int) ≤ i := by omega
              have NF := hide (num_facts hi)
              obtain ⟨j, hij⟩ : ∃ j, 5 - i = j := ⟨_, rfl⟩
              have hj6 : j < 6 := by omega
              have hjz : (j : Int) < 6 := by omega
              have hj0 : (0 : Int) ≤ j := by omega
              have e1 : IntKind.i64.wrap (5 - (i : Int)) = (j : Int) := by rw [show 5 - (i : Int) = j from by omega]; exact IntWalk.i64_in _ (by omega)
              have EI := hide hij
              clear hij
              go_wp2_with fail
              refine order_begin (fun W => NP W nb pb) (fun _ => true) (by kernel_rfl) 29 rfl ?_
              have HI1 := hide (HI.out.fresh (Keeps.refl NoB wr).drew)
              have HNA1 := hide (HNA.out.fresh (Keeps.refl NoB wr).drew)
              clear HI HNA
              generalize wr.drew = w4 at *
              have HS : NP w4 nb pb := HI1.out.np
              refine order_pure (i := 0) rfl (by kernel_rfl) (fun _ _ _ h => h) (.inl ⟨rfl, fun _ => by go_simp; rfl⟩) ?_
              try simp only [Act.put, List.setIfInBounds_toArray, List.set_cons_succ, List.set_cons_zero]
              refine order_pure (i := 1) rfl (by kernel_rfl) (fun _ _ _ h => h) (.inl ⟨rfl, fun _ => by go_simp; rfl⟩) ?_
              try simp only [Act.put, List.setIfInBounds_toArray, List.set_cons_succ, List.set_cons_zero]
              refine order_pure (i := 2) rfl (by kernel_rfl) (fun _ _ _ h => h) (.inl ⟨rfl, fun _ => by go_simp; rfl⟩) ?_
              try simp only [Act.put, List.setIfInBounds_toArray, List.set_cons_succ, List.set_cons_zero]
              refine order_pure (i := 3) rfl (by kernel_rfl) (fun _ _ _ h => h) (.inl ⟨rfl, fun _ => by go_simp; rfl⟩) ?_
              try simp only [Act.put, List.setIfInBounds_toArray, List.set_cons_succ, List.set_cons_zero]
              refine order_pure (i := 4) rfl (by kernel_rfl) (fun _ _ _ h => h) (.inl ⟨rfl, fun _ => by go_simp; rfl⟩) ?_
              try simp only [Act.put, List.setIfInBounds_toArray, List.set_cons_succ, List.set_cons_zero]
              refine order_held (i := 5) rfl (by kernel_rfl) (fun _ _ _ h => h) (.inl ⟨rfl, fun W hW => by
                have q0 : W.cell? ⟨nb, j, none⟩ = some (.string (sN j)) := hW.name hj6
                go_simp; rfl⟩) HS ?_
              try simp only [Act.put, List.setIfInBounds_toArray, List.set_cons_succ, List.set_cons_zero]
              refine order_pure (i := 6) rfl (by kernel_rfl) (fun _ _ _ h => h) (.inl ⟨rfl, fun _ => by go_simp; rfl⟩) ?_
              try simp only [Act.put, List.setIfInBounds_toArray, List.set_cons_succ, List.set_cons_zero]
              refine order_pure (i := 7) rfl (by kernel_rfl) (fun _ _ _ h => h) (.inl ⟨rfl, fun _ => by go_simp; rfl⟩) ?_
              try simp only [Act.put, List.setIfInBounds_toArray, List.set_cons_succ, List.set_cons_zero]
              refine order_pure (i := 8) rfl (by kernel_rfl) (fun _ _ _ h => h) (.inl ⟨rfl, fun _ => by go_simp; rfl⟩) ?_
              try simp only [Act.put, List.setIfInBounds_toArray, List.set_cons_succ, List.set_cons_zero]
              refine order_held (i := 9) rfl (by kernel_rfl) (fun _ _ _ h => h) (.inl ⟨rfl, fun W hW => by
                have q0 : W.cell? ⟨pb, i, none⟩ = some (.int .i64 (pN i)) := hW.pid hi
                go_simp; rfl⟩) HS ?_
              try simp only [Act.put, List.setIfInBounds_toArray, List.set_cons_succ, List.set_cons_zero]
              refine order_one (i := 10) rfl (by kernel_rfl) (fun K hK => ?_)
              go_simp
              refine (put_yes w4 b m1 m2 i (LN i) (sN j) (pN i) HNA1.out (sN_ok _) (pN_ok _) (EI.out ▸ NF.out.n1) NF.out.p1 (by omega)).mono ?_
              rintro e w5 ⟨rfl, hna, hk⟩
              have HI2 := hide (HI1.out.maps HNA1.out hk HMZ.out.1 HMZ.out.2)
              have HNA2 := hide (show NamesAt w5 b m1 m2 (i + 1) (LN (i + 1)) from by rw [NF.out.nx, EI.out]; exact hna)
              have HS2 : NP w5 nb pb := HI2.out.np
              refine hK _ _ (fun _ _ => HS2) ?_
              clear hK hk hna HI1 HNA1 HS
              try simp only [Act.put, List.setIfInBounds_toArray, List.set_cons_succ, List.set_cons_zero]
              have HS := HS2
              refine order_pure (i := 11) rfl (by kernel_rfl) (fun _ _ _ h => h) (.inl ⟨rfl, fun _ => by go_simp; rfl⟩) ?_
              try simp only [Act.put, List.setIfInBounds_toArray, List.set_cons_succ, List.set_cons_zero]
              refine order_pure (i := 12) rfl (by kernel_rfl) (fun _ _ _ h => h) (.inl ⟨rfl, fun _ => by go_simp; rfl⟩) ?_
              try simp only [Act.put, List.setIfInBounds_toArray, List.set_cons_succ, List.set_cons_zero]
              refine order_pure (i := 13) rfl (by kernel_rfl) (fun _ _ _ h => h) (.inl ⟨rfl, fun _ => by go_simp; rfl⟩) ?_
              try simp only [Act.put, List.setIfInBounds_toArray, List.set_cons_succ, List.set_cons_zero]
              refine order_pure (i := 14) rfl (by kernel_rfl) (fun _ _ _ h => h) (.inl ⟨rfl, fun _ => by go_simp; rfl⟩) ?_
              try simp only [Act.put, List.setIfInBounds_toArray, List.set_cons_succ, List.set_cons_zero]
              refine order_pure (i := 15) rfl (by kernel_rfl) (fun _ _ _ h => h) (.inl ⟨rfl, fun _ => by go_simp; rfl⟩) ?_
              try simp only [Act.put, List.setIfInBounds_toArray, List.set_cons_succ, List.set_cons_zero]
              refine order_pure (i := 16) rfl (by kernel_rfl) (fun _ _ _ h => h) (.inl ⟨rfl, fun _ => by go_simp; rfl⟩) ?_
              try simp only [Act.put, List.setIfInBounds_toArray, List.set_cons_succ, List.set_cons_zero]
              refine order_pure (i := 17) rfl (by kernel_rfl) (fun _ _ _ h => h) (.inl ⟨rfl, fun _ => by go_simp; rfl⟩) ?_
              try simp only [Act.put, List.setIfInBounds_toArray, List.set_cons_succ, List.set_cons_zero]
              refine order_held (i := 18) rfl (by kernel_rfl) (fun _ _ _ h => h) (.inl ⟨rfl, fun W hW => by
                have q0 : W.cell? ⟨nb, j, none⟩ = some (.string (sN j)) := hW.name hj6
                go_simp; rfl⟩) HS ?_
              try simp only [Act.put, List.setIfInBounds_toArray, List.set_cons_succ, List.set_cons_zero]
              refine order_one (i := 19) rfl (by kernel_rfl) (fun K hK => ?_)
              go_simp
              refine (put_no w5 b m1 m2 (i + 1) (LN (i + 1)) (sN j) 50 HNA2.out (sN_ok _) ok50 (.inl (EI.out ▸ NF.out.n2))).mono ?_
              rintro e w6 ⟨rfl, rfl⟩
              refine hK _ _ (fun _ _ => HS2) ?_
              clear hK
              try simp only [Act.put, List.setIfInBounds_toArray, List.set_cons_succ, List.set_cons_zero]
              refine order_pure (i := 20) rfl (by kernel_rfl) (fun _ _ _ h => h) (.inl ⟨rfl, fun _ => by go_simp; rfl⟩) ?_
              try simp only [Act.put, List.setIfInBounds_toArray, List.set_cons_succ, List.set_cons_zero]
              refine order_pure (i := 21) rfl (by kernel_rfl) (fun _ _ _ h => h) (.inl ⟨rfl, fun _ => by go_simp; rfl⟩) ?_
              try simp only [Act.put, List.setIfInBounds_toArray, List.set_cons_succ, List.set_cons_zero]
              refine order_pure (i := 22) rfl (by kernel_rfl) (fun _ _ _ h => h) (.inl ⟨rfl, fun _ => by go_simp; rfl⟩) ?_
              try simp only [Act.put, List.setIfInBounds_toArray, List.set_cons_succ, List.set_cons_zero]
              refine order_pure (i := 23) rfl (by kernel_rfl) (fun _ _ _ h => h) (.inl ⟨rfl, fun _ => by go_simp; rfl⟩) ?_
              try simp only [Act.put, List.setIfInBounds_toArray, List.set_cons_succ, List.set_cons_zero]
              refine order_pure (i := 24) rfl (by kernel_rfl) (fun _ _ _ h => h) (.inl ⟨rfl, fun _ => by go_simp; rfl⟩) ?_
              try simp only [Act.put, List.setIfInBounds_toArray, List.set_cons_succ, List.set_cons_zero]
              refine order_pure (i := 25) rfl (by kernel_rfl) (fun _ _ _ h => h) (.inl ⟨rfl, fun _ => by go_simp; rfl⟩) ?_
              try simp only [Act.put, List.setIfInBounds_toArray, List.set_cons_succ, List.set_cons_zero]
              refine order_held (i := 26) rfl (by kernel_rfl) (fun _ _ _ h => h) (.inl ⟨rfl, fun W hW => by
                have q0 : W.cell? ⟨pb, i, none⟩ = some (.int .i64 (pN i)) := hW.pid hi
                go_simp; rfl⟩) HS ?_
              try simp only [Act.put, List.setIfInBounds_toArray, List.set_cons_succ, List.set_cons_zero]
              refine order_one (i := 27) rfl (by kernel_rfl) (fun K hK => ?_)
              go_simp
              refine (put_no w5 b m1 m2 (i + 1) (LN (i + 1)) ⟨#[110, 101, 119]⟩ (pN i) HNA2.out new_size (pN_ok _) (.inr NF.out.p2)).mono ?_
              rintro e w6 ⟨rfl, rfl⟩
              refine hK _ _ (fun _ _ => HS2) ?_
              clear hK
              try simp only [Act.put, List.setIfInBounds_toArray, List.set_cons_succ, List.set_cons_zero]
              refine order_pure (i := 28) rfl (by kernel_rfl) (fun _ _ _ h => h) (.inl ⟨rfl, fun _ => by go_simp; rfl⟩) ?_
              try simp only [Act.put, List.setIfInBounds_toArray, List.set_cons_succ, List.set_cons_zero]
              refine order_done (by kernel_rfl) ?_
              clear HS HS2
              go_wp2_with fail
              go_roundg (6 - (i + 1))
              case measure => omega
              case rel => exact ⟨i + 1, by omega, rfl, by go_num, HI2.out, HNA2.out⟩
            · obtain rfl : i = 6 := by omega
              have hiz : ¬ ((6 : Nat) : Int) < 6 := by omega
              clear hi hi6
              go_wp2_with
                first
                | (go_at_call 10
                   refine (all_at wr b m1 m2 6 (LN 6) HNA.out (by omega) LN_sz (by rw [LN_len]; omega)).mono ?_
                   rintro e w5 ⟨X, xc, rfl, hx, hk, _⟩
                   rw [show (LN 6).length = 6 from LN_len 6] at hx ⊢
                   have HX := hide hx
                   have HI5 := hide (HI.out.fresh hk)
                   clear hx hk HI HNA)
                | fail
              go_loopg [9] 6 (fun g s9 wx => ∃ i : Nat, i ≤ 6 ∧ g = 6 - i ∧ s9 = .int .i64 i ∧ Keeps NoB w5 wx)
              case atStart => exact ⟨0, by omega, rfl, rfl, Keeps.refl _ _⟩
              case round =>
                obtain ⟨i, hi6, rfl, rfl, hk⟩ := hrel
                have HI := hide (HI5.out.fresh hk); have HX2 := hide (HX.out.fresh hk); have HKP := hide hk
                clear hk
                by_cases hi : i < 6
                · have hiz : (i : Int) < 6 := by omega
                  have hi0 : (0 : Int) ≤ i := by omega
                  obtain ⟨j, hij⟩ : ∃ j, i + j = 5 := ⟨5 - i, by omega⟩
                  have hj6 : j < 6 := by omega
                  have hjz : (j : Int) < 6 := by omega
                  have hj0 : (0 : Int) ≤ j := by omega
                  have e1 : IntKind.i64.wrap (5 - (i : Int)) = (j : Int) := by rw [show 5 - (i : Int) = j from by omega]; exact IntWalk.i64_in _ (by omega)
                  obtain ⟨g, o, rfl, p0, p1⟩ := all_reads HX2.out hi hij
                  have p2 : wr.cell? ⟨nb, i, none⟩ = some (.string (sN i)) := HI.out.np.name hi
                  have p3 : wr.cell? ⟨pb, j, none⟩ = some (.int .i64 (pN j)) := HI.out.np.pid hj6
                  have ne1 := neq9 (sN i) wr
                  clear hij
                  go_wp2_with fail
                  go_quiet (fail)
                  go_wp2_with fail
                  go_roundg (6 - (i + 1))
                  case measure => omega
                  case rel => exact ⟨i + 1, by omega, rfl, by go_num, HKP.out.drewN _⟩
                · obtain rfl : i = 6 := by omega
                  have hiz : ¬ ((6 : Nat) : Int) < 6 := by omega
                  clear hi hi6
                  go_wp2_with
                    first
                    | (go_at_call 3
                       refine (name_lives A 36 c HI.out.row.2.1 D wr (dos_at HI.out.row HI.out.ok)).mono ?_
                       rintro e w6 ⟨rfl, hk⟩
                       have HK6 := hide (HI.out.keep.trans' hk (fun _ _ => id) (fun _ _ => id))
                       clear hk)
                    | (go_at_call 6
                       refine (awake_any w6).mono ?_
                       rintro e w7 ⟨rfl, hk⟩
                       have HK7 := hide (HK6.out.trans' hk (fun _ _ => id) (fun _ _ => id))
                       clear hk)
                    | fail
                  go_ret
                  exact ⟨rfl, HK7.out⟩
end Go.Proofs.YthoaaihghgabcaaGreat
