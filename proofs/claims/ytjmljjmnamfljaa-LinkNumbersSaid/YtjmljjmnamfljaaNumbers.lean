/- pigeonholelaw14: LinkNumbers. -/
import Derived.Test.YtjmljjmnamfljaaLives
namespace Go.Proofs.Ytjmljjmnamfljaa
open Go.RowKit Go.Maps

def eN : Nat → Int
  | 0 => -9223372036854775808
  | 1 => -1
  | 2 => 0
  | 3 => 1
  | _ => 9223372036854775807
theorem five {i : Nat} (h : i < 5) : i = 0 ∨ i = 1 ∨ i = 2 ∨ i = 3 ∨ i = 4 := by omega
theorem es_at {i : Nat} (h : i < 5) : (#[Value.int .i64 (-9223372036854775808), Value.int .i64 (-1), Value.int .i64 0, Value.int .i64 1, Value.int .i64 9223372036854775807] : Array Value)[i]? = some (.int .i64 (eN i)) := by rcases five h with rfl | rfl | rfl | rfl | rfl <;> rfl
theorem eN_ok (i : Nat) : IntOk (eN i) := by unfold IntOk eN; split <;> decide
theorem rem5 {i k : Nat} (hi : i < 5) (hk : k < 5) : ∃ j : Nat, (IntKind.i64.wrap ((i : Int) + (k : Int))).tmod 5 = (j : Int) ∧ j < 5 := by
  rw [IntWalk.i64_in _ (by omega), Int.tmod_eq_emod_of_nonneg (by omega)]
  exact ⟨(i + k) % 5, by omega, by omega⟩
/-- Steps as cells. -/
def dosC (D : List Dx) : List Value := D.flatMap fun x => [.int .i64 x.op, .int .i64 x.a, .int .i64 x.b, .int .i64 x.ref]
def DOk (D : List Dx) : Prop := ∀ x ∈ D, IntOk x.a ∧ IntOk x.b ∧ IntOk x.ref
theorem dosC_cons (x : Dx) (D : List Dx) : dosC (x :: D) = [.int .i64 x.op, .int .i64 x.a, .int .i64 x.b, .int .i64 x.ref] ++ dosC D := rfl
theorem dosC_append (D E : List Dx) : dosC (D ++ E) = dosC D ++ dosC E := by unfold dosC; rw [List.flatMap_append]
theorem dosC_len : ∀ D : List Dx, (dosC D).length = D.length * 4
  | [] => rfl
  | x :: D => by rw [dosC_cons, List.length_append, dosC_len D, List.length_cons]; simp; omega
theorem dosC_take (P : List Dx) : ∀ k, dosC (P.take k) = (dosC P).take (k * 4) := by
  induction P with
  | nil => intro k; simp [dosC]
  | cons x P ih =>
    intro k
    cases k with
    | zero => simp [dosC]
    | succ k => rw [List.take_succ_cons, dosC_cons, dosC_cons, ih, show (k + 1) * 4 = k * 4 + 1 + 1 + 1 + 1 from by omega]; rfl
theorem dosC_ones (D : List Dx) : ∀ u ∈ dosC D, u.oneCell' = true := by
  intro u hu
  unfold dosC at hu
  obtain ⟨x, _, hx⟩ := List.mem_flatMap.1 hu
  simp only [List.mem_cons, List.not_mem_nil, or_false] at hx
  rcases hx with rfl | rfl | rfl | rfl <;> rfl
theorem dosC_at : ∀ {D : List Dx} {i : Nat} {x : Dx}, D[i]? = some x → (dosC D)[i * 4]? = some (.int .i64 x.op) ∧ (dosC D)[i * 4 + 1]? = some (.int .i64 x.a) ∧ (dosC D)[i * 4 + 2]? = some (.int .i64 x.b) ∧ (dosC D)[i * 4 + 3]? = some (.int .i64 x.ref)
  | [], _, _, h => by simp at h
  | y :: D, 0, x, h => by
    obtain rfl : y = x := by simpa using h
    exact ⟨rfl, rfl, rfl, rfl⟩
  | y :: D, i + 1, x, h => by
    obtain ⟨h1, h2, h3, h4⟩ := dosC_at (D := D) (i := i) (x := x) (by simpa using h)
    rw [dosC_cons]
    refine ⟨?_, ?_, ?_, ?_⟩
    · rw [List.getElem?_append_right (by simp; omega), ← h1]; congr 1; simp; omega
    · rw [List.getElem?_append_right (by simp; omega), ← h2]; congr 1; simp; omega
    · rw [List.getElem?_append_right (by simp; omega), ← h3]; congr 1; simp; omega
    · rw [List.getElem?_append_right (by simp; omega), ← h4]; congr 1; simp; omega
theorem dos_at {w : World} {A : Option Addr} {n c : Nat} {D : List Dx} (h : Slab w 27 4 A n c (dosC D)) (hok : DOk D) : DosAt w A n D := by
  have hl : D.length = n := by have := h.1; rw [dosC_len] at this; omega
  refine ⟨hl, fun i x hx => ?_⟩
  have hin := (List.getElem?_eq_some_iff.1 hx).1
  obtain ⟨⟨g, o, sp⟩, hA, hs, _, _, hc⟩ := h.reads.2 (by omega)
  simp only at hs
  subst hs
  obtain ⟨e0, e1, e2, e3⟩ := dosC_at hx
  exact ⟨hok x (List.mem_of_getElem? hx), g, o, hA, (hc _ _ e0).1, (hc _ _ e1).1, (hc _ _ e2).1, (hc _ _ e3).1⟩
theorem Slab.cut {w : World} {e : TypeId} {s n c n' c' : Nat} {A : Option Addr} {xs : List Value} (h : Slab w e s A n c xs) (h1 : n' ≤ n) (h2 : n' ≤ c') (h3 : c' ≤ c) : Slab w e s A n' c' (xs.take (n' * s)) := by
  obtain ⟨l1, l2, l3, l4⟩ := h
  refine ⟨?_, h2, Nat.le_trans h3 l3, ?_⟩
  · rw [List.length_take, l1]; exact Nat.min_eq_left (Nat.mul_le_mul_right _ h1)
  · rcases l4 with ⟨rfl, rfl⟩ | ⟨g, o, cur, rfl, hb, hc, hx⟩
    · exact .inl ⟨rfl, by omega⟩
    · refine .inr ⟨g, o, cur, rfl, hb, Nat.le_trans (Nat.add_le_add_left (Nat.mul_le_mul_right _ h3) _) hc, ?_⟩
      rw [← hx, List.take_take, Nat.min_eq_left (Nat.mul_le_mul_right _ h1)]
structure NumInv (w wx : World) (eb : Nat) (A : Option Addr) (n c : Nat) (D : List Dx) : Prop where
  keep : Keeps NoB w wx
  he : Blk wx eb 3 (#[Value.int .i64 (-9223372036854775808), Value.int .i64 (-1), Value.int .i64 0, Value.int .i64 1, Value.int .i64 9223372036854775807] : Array Value)
  row : Slab wx 27 4 A n c (dosC D)
  ok : DOk D
  new : ∀ k, rowB A k → w.heap.size ≤ k
section
variable {w wx wy : World} {eb n c : Nat} {A : Option Addr} {D : List Dx}
theorem NumInv.fresh (h : NumInv w wx eb A n c D) (k : Keeps NoB wx wy) : NumInv w wy eb A n c D := ⟨h.keep.trans' k (fun _ _ => id) (fun _ _ => id), h.he.keep k id, h.row.fresh k, h.ok, h.new⟩
theorem NumInv.more {A' : Option Addr} {c' m : Nat} {E : List Dx} (h : NumInv w wx eb A n c D) (hs : Slab wy 27 4 A' m c' (dosC D ++ dosC E)) (hk : Keeps (rowB A) wx wy) (hm : Moved wx A A') (hE : DOk E) : NumInv w wy eb A' m c' (D ++ E) :=
  ⟨h.keep.trans' hk (fun _ _ => id) (fun k hk1 hr => by have := h.new k hr; omega), h.he.keep hk (h.row.ne h.he (by decide)), by rw [dosC_append]; exact hs, fun u hu => (List.mem_append.1 hu).elim (h.ok u) (hE u), fun k hk1 => (hm k hk1).elim (h.new k) (fun e => Nat.le_trans h.keep.size e)⟩
theorem NumInv.cut (h : NumInv w wx eb A n c D) {n' c' : Nat} (h1 : n' ≤ n) (h2 : n' ≤ c') (h3 : c' ≤ c) : NumInv w wx eb A n' c' (D.take n') :=
  ⟨h.keep, h.he, by rw [dosC_take]; exact h.row.cut h1 h2 h3, fun u hu => h.ok u (List.mem_of_mem_take hu), h.new⟩
theorem NumInv.at' (h : NumInv w wx eb A n c D) {j : Nat} (hj : j < 5) : wx.cell? ⟨eb, j, none⟩ = some (.int .i64 (eN j)) := by rw [h.he.cell]; exact es_at hj
end
def six : List Dx := [⟨1, 1, -1, 0⟩, ⟨1, 1, -1, 0⟩, ⟨0, 0, 0, 0⟩, ⟨0, 0, 0, 0⟩, ⟨2, 1, 0, 0⟩, ⟨0, -9223372036854775808, 0, 0⟩]
theorem six_ok : DOk six := by
  intro x hx
  simp only [six, List.mem_cons, List.not_mem_nil, or_false] at hx
  rcases hx with rfl | rfl | rfl | rfl | rfl | rfl <;> exact ⟨ok_of (by decide), ok_of (by decide), ok_of (by decide)⟩
theorem row_reads {w : World} {vb : Nat} {D : List Dx} (hv : Blk w vb 27 (dosC D).toArray) : Reads w (fun _ => True) true 4 (some ⟨vb, 0, none⟩) D.length (dosC D) := by
  refine ⟨dosC_len D, fun _ => ⟨_, rfl, rfl, trivial, hv.lt, fun j u hu => ⟨?_, fun _ => hv.free _⟩⟩⟩
  rw [hv.cell, ← hu]; simp
theorem Try.info27 : (Try.prog.info? 27).map (fun i => (i.zero, i.size, i.bytes)) = some (some (.agg #[.int .i64 0, .int .i64 0, .int .i64 0, .int .i64 0]), 4, 32) := by kernel_rfl
theorem oper_append {P : Program} {w w' : World} {o : Oper} {a : Act} {K : Act → World → Prop} {Q : Exit → Act → World → Prop} {s x : Operand} {t : TypeId} {u v r : Value}
    (ho : o.op = .call { callee := .builtin .append, args := #[s, x], argTypes := #[t, t] }) (he : a.eval s = u) (hx : a.eval x = v) (h0 : (Builtin.append_ #[t, t] o.type #[u, v]).run P w = .ok r w') (h : K (a.put o.dst r) w') : Oper.wp P o a w K Q := by
  unfold Oper.wp execOp
  simp only [ho, resolve, invoke, builtin, Sem.run_bind, Sem.run_pure, Result.andThen_ok, List.map_toArray, List.map_cons, List.map_nil, he, hx, h0]
  exact h
def nM : List Mon := [⟨1, 5, 5⟩, ⟨2, 5, 6⟩, ⟨3, 6, 5⟩]
set_option maxRecDepth 100000 in
set_option maxHeartbeats 8000000 in
theorem link_numbers (w : World) : Calls Try.prog 6 #[] w fun e w' => e = .returned (.bool true) ∧ Keeps NoB w w' := by
  obtain ⟨i0, ni0, nz0, nz1, nz2⟩ := info_parts Try.info27
  go_enter Try.func6, Try.ntmps6
  go_wp2_with fail
  have HS0 := hide (show NumInv w (w.alloc (.cells (#[Value.int .i64 (-9223372036854775808), Value.int .i64 (-1), Value.int .i64 0, Value.int .i64 1, Value.int .i64 9223372036854775807] : Array Value) 3)) w.heap.size none 0 0 [] from ⟨(Keeps.refl NoB w).alloc _, Blk.new w 3 _, Slab.nil _ _ _, (fun x hx => by cases hx), fun k ⟨o, e⟩ => by cases e⟩)
  generalize w.alloc (.cells (#[Value.int .i64 (-9223372036854775808), Value.int .i64 (-1), Value.int .i64 0, Value.int .i64 1, Value.int .i64 9223372036854775807] : Array Value) 3) = w2 at *
  obtain ⟨eb, heb⟩ : ∃ eb, w.heap.size = eb := ⟨_, rfl⟩
  rw [heb] at HS0 ⊢
  clear heb
  go_loopg [2, 3] 5 (fun g s2 s3 wx => ∃ (i : Nat) (A : Option Addr) (c : Nat) (D : List Dx), i ≤ 5 ∧ g = 5 - i ∧ s3 = .int .i64 i ∧ s2 = .slice A (10 * i) c ∧ NumInv w wx eb A (10 * i) c D)
  case atStart => exact ⟨0, none, 0, [], by omega, rfl, rfl, rfl, HS0.out⟩
  case round =>
    clear HS0
    obtain ⟨i, A, c, D, hi5, rfl, rfl, rfl, hinv⟩ := hrel
    have HI := hide hinv
    clear hinv
    have hi0 : (0 : Int) ≤ i := by omega
    by_cases hi : i < 5
    · have hiz : (i : Int) < 5 := by omega
      have HI0 := hide (show NumInv w wr eb A (10 * i + 2 * 0) c D from HI.out)
      clear HI
      go_wp2_with fail
      go_loopg [2, 4] 5 (fun g s2 s4 wx => ∃ (k : Nat) (A : Option Addr) (c : Nat) (D : List Dx), k ≤ 5 ∧ g = 5 - k ∧ s4 = .int .i64 k ∧ s2 = .slice A (10 * i + 2 * k) c ∧ NumInv w wx eb A (10 * i + 2 * k) c D)
      case atStart => exact ⟨0, A, c, D, by omega, rfl, rfl, rfl, HI0.out⟩
      case round =>
        clear HI0 A c D
        obtain ⟨k, A, c, D, hk5, rfl, rfl, rfl, hinv⟩ := hrel
        have HI := hide hinv
        clear hinv
        have hk0 : (0 : Int) ≤ k := by omega
        by_cases hk : k < 5
        · have hkz : (k : Int) < 5 := by omega
          obtain ⟨j, hij, hj5⟩ := rem5 hi hk
          have hjz : (j : Int) < 5 := by omega
          have hj0 : (0 : Int) ≤ j := by omega
          go_wp2_with fail
          refine order_begin (fun W => NumInv w W eb A (10 * i + 2 * k) c D) (fun t => !(t == 27)) (by kernel_rfl) 29 rfl ?_
          have HS : NumInv w wr.drew eb A (10 * i + 2 * k) c D := HI.out.fresh (Keeps.refl NoB wr).drew
          clear HI
          generalize wr.drew = w3 at *
          refine order_pure (i := 0) rfl (by kernel_rfl) (fun _ _ _ h => h) (.inl ⟨rfl, fun _ => by go_simp; rfl⟩) ?_
          try simp only [Act.put, List.setIfInBounds_toArray, List.set_cons_succ, List.set_cons_zero]
          refine order_pure (i := 1) rfl (by kernel_rfl) (fun _ _ _ h => h) (.inl ⟨rfl, fun _ => by go_simp; rfl⟩) ?_
          try simp only [Act.put, List.setIfInBounds_toArray, List.set_cons_succ, List.set_cons_zero]
          refine order_pure (i := 2) rfl (by kernel_rfl) (fun _ _ _ h => h) (.inl ⟨rfl, fun _ => by go_simp; rfl⟩) ?_
          try simp only [Act.put, List.setIfInBounds_toArray, List.set_cons_succ, List.set_cons_zero]
          refine order_pure (i := 3) rfl (by kernel_rfl) (fun _ _ _ h => h) (.inl ⟨rfl, fun _ => by go_simp; rfl⟩) ?_
          try simp only [Act.put, List.setIfInBounds_toArray, List.set_cons_succ, List.set_cons_zero]
          refine order_held (i := 4) rfl (by kernel_rfl) (fun _ _ _ h => h) (.inl ⟨rfl, fun W hW => by
            have q0 : W.cell? ⟨eb, i, none⟩ = some (.int .i64 (eN i)) := hW.at' hi
            go_simp; rfl⟩) HS ?_
          try simp only [Act.put, List.setIfInBounds_toArray, List.set_cons_succ, List.set_cons_zero]
          refine order_pure (i := 5) rfl (by kernel_rfl) (fun _ _ _ h => h) (.inl ⟨rfl, fun _ => by go_simp; rfl⟩) ?_
          try simp only [Act.put, List.setIfInBounds_toArray, List.set_cons_succ, List.set_cons_zero]
          refine order_pure (i := 6) rfl (by kernel_rfl) (fun _ _ _ h => h) (.inl ⟨rfl, fun _ => by go_simp; rfl⟩) ?_
          try simp only [Act.put, List.setIfInBounds_toArray, List.set_cons_succ, List.set_cons_zero]
          refine order_pure (i := 7) rfl (by kernel_rfl) (fun _ _ _ h => h) (.inl ⟨rfl, fun _ => by go_simp; rfl⟩) ?_
          try simp only [Act.put, List.setIfInBounds_toArray, List.set_cons_succ, List.set_cons_zero]
          refine order_held (i := 8) rfl (by kernel_rfl) (fun _ _ _ h => h) (.inl ⟨rfl, fun W hW => by
            have q0 : W.cell? ⟨eb, k, none⟩ = some (.int .i64 (eN k)) := hW.at' hk
            go_simp; rfl⟩) HS ?_
          try simp only [Act.put, List.setIfInBounds_toArray, List.set_cons_succ, List.set_cons_zero]
          refine order_pure (i := 9) rfl (by kernel_rfl) (fun _ _ _ h => h) (.inl ⟨rfl, fun _ => by go_simp; rfl⟩) ?_
          try simp only [Act.put, List.setIfInBounds_toArray, List.set_cons_succ, List.set_cons_zero]
          refine order_pure (i := 10) rfl (by kernel_rfl) (fun _ _ _ h => h) (.inl ⟨rfl, fun _ => by go_simp; rfl⟩) ?_
          try simp only [Act.put, List.setIfInBounds_toArray, List.set_cons_succ, List.set_cons_zero]
          refine order_pure (i := 11) rfl (by kernel_rfl) (fun _ _ _ h => h) (.inl ⟨rfl, fun _ => by go_simp; rfl⟩) ?_
          try simp only [Act.put, List.setIfInBounds_toArray, List.set_cons_succ, List.set_cons_zero]
          refine order_pure (i := 12) rfl (by kernel_rfl) (fun _ _ _ h => h) (.inl ⟨rfl, fun _ => by go_simp; rfl⟩) ?_
          try simp only [Act.put, List.setIfInBounds_toArray, List.set_cons_succ, List.set_cons_zero]
          refine order_held (i := 13) rfl (by kernel_rfl) (fun _ _ _ h => h) (.inl ⟨rfl, fun W hW => by
            have q0 : W.cell? ⟨eb, i, none⟩ = some (.int .i64 (eN i)) := hW.at' hi
            go_simp; rfl⟩) HS ?_
          try simp only [Act.put, List.setIfInBounds_toArray, List.set_cons_succ, List.set_cons_zero]
          refine order_pure (i := 14) rfl (by kernel_rfl) (fun _ _ _ h => h) (.inl ⟨rfl, fun _ => by go_simp; rfl⟩) ?_
          try simp only [Act.put, List.setIfInBounds_toArray, List.set_cons_succ, List.set_cons_zero]
          refine order_pure (i := 15) rfl (by kernel_rfl) (fun _ _ _ h => h) (.inl ⟨rfl, fun _ => by go_simp; rfl⟩) ?_
          try simp only [Act.put, List.setIfInBounds_toArray, List.set_cons_succ, List.set_cons_zero]
          refine order_pure (i := 16) rfl (by kernel_rfl) (fun _ _ _ h => h) (.inl ⟨rfl, fun _ => by go_simp; rfl⟩) ?_
          try simp only [Act.put, List.setIfInBounds_toArray, List.set_cons_succ, List.set_cons_zero]
          refine order_held (i := 17) rfl (by kernel_rfl) (fun _ _ _ h => h) (.inl ⟨rfl, fun W hW => by
            have q0 : W.cell? ⟨eb, k, none⟩ = some (.int .i64 (eN k)) := hW.at' hk
            go_simp; rfl⟩) HS ?_
          try simp only [Act.put, List.setIfInBounds_toArray, List.set_cons_succ, List.set_cons_zero]
          refine order_pure (i := 18) rfl (by kernel_rfl) (fun _ _ _ h => h) (.inl ⟨rfl, fun _ => by go_simp; rfl⟩) ?_
          try simp only [Act.put, List.setIfInBounds_toArray, List.set_cons_succ, List.set_cons_zero]
          refine order_pure (i := 19) rfl (by kernel_rfl) (fun _ _ _ h => h) (.inl ⟨rfl, fun _ => by go_simp; rfl⟩) ?_
          try simp only [Act.put, List.setIfInBounds_toArray, List.set_cons_succ, List.set_cons_zero]
          refine order_pure (i := 20) rfl (by kernel_rfl) (fun _ _ _ h => h) (.inl ⟨rfl, fun _ => by go_simp; rfl⟩) ?_
          try simp only [Act.put, List.setIfInBounds_toArray, List.set_cons_succ, List.set_cons_zero]
          refine order_pure (i := 21) rfl (by kernel_rfl) (fun _ _ _ h => h) (.inl ⟨rfl, fun _ => by go_simp; rfl⟩) ?_
          try simp only [Act.put, List.setIfInBounds_toArray, List.set_cons_succ, List.set_cons_zero]
          refine order_pure (i := 22) rfl (by kernel_rfl) (fun _ _ _ h => h) (.inl ⟨rfl, fun _ => by go_simp; rfl⟩) ?_
          try simp only [Act.put, List.setIfInBounds_toArray, List.set_cons_succ, List.set_cons_zero]
          refine order_pure (i := 23) rfl (by kernel_rfl) (fun _ _ _ h => h) (.inl ⟨rfl, fun _ => by go_simp; rfl⟩) ?_
          try simp only [Act.put, List.setIfInBounds_toArray, List.set_cons_succ, List.set_cons_zero]
          refine order_held (i := 24) rfl (by kernel_rfl) (fun _ _ _ h => h) (.inl ⟨rfl, fun W hW => by
            have q0 : W.cell? ⟨eb, j, none⟩ = some (.int .i64 (eN j)) := hW.at' hj5
            go_simp; rfl⟩) HS ?_
          try simp only [Act.put, List.setIfInBounds_toArray, List.set_cons_succ, List.set_cons_zero]
          refine order_pure (i := 25) rfl (by kernel_rfl) (fun _ _ _ h => h) (.inl ⟨rfl, fun _ => by go_simp; rfl⟩) ?_
          try simp only [Act.put, List.setIfInBounds_toArray, List.set_cons_succ, List.set_cons_zero]
          refine order_one (i := 26) rfl (by kernel_rfl) (fun K hK => ?_)
          go_simp
          have HS2 := HS.fresh ((Keeps.refl NoB w3).alloc (.cells #[.int .i64 8, .int .i64 (eN i), .int .i64 (eN k), .int .i64 0, .int .i64 3, .int .i64 (eN i), .int .i64 (eN k), .int .i64 (eN j)] 27))
          refine hK _ _ (fun _ _ => HS2) ?_
          have HNR := hide (row_reads (D := [⟨8, eN i, eN k, 0⟩, ⟨3, eN i, eN k, eN j⟩]) (Blk.new w3 27 #[.int .i64 8, .int .i64 (eN i), .int .i64 (eN k), .int .i64 0, .int .i64 3, .int .i64 (eN i), .int .i64 (eN k), .int .i64 (eN j)]))
          have HI5 := hide HS2
          clear hK HS HS2
          try simp only [Act.put, List.setIfInBounds_toArray, List.set_cons_succ, List.set_cons_zero]
          refine order_one (i := 27) rfl (by kernel_rfl) (fun K hK => ?_)
          refine step_append_any _ rfl (.tmp 17) (.tmp 43) 22 rfl 27 i0 _ 4 32 Try.underlying22 ni0 nz0 nz1 nz2 rfl (by omega) A (10 * i + 2 * k) c (dosC D) rfl HI5.out.row _ _ _ 2 2 (dosC [⟨8, eN i, eN k, 0⟩, ⟨3, eN i, eN k, eN j⟩]) rfl HNR.out (dosC_ones _) (by unfold maxLen; omega) (by omega) (fun A2 c2 w6 h1 h2 h3 => ?_)
          have HS6 := hide (HI5.out.more h1 h2 h3 (fun x hx => by
            simp only [List.mem_cons, List.not_mem_nil, or_false] at hx
            rcases hx with rfl | rfl
            · exact ⟨eN_ok _, eN_ok _, ok_of (p := 0) (by decide)⟩
            · exact ⟨eN_ok _, eN_ok _, eN_ok _⟩))
          clear h1 h2 h3 HI5 HNR
          refine hK _ _ (fun h => absurd h (by decide)) ?_
          clear hK
          try simp only [Act.put, List.setIfInBounds_toArray, List.set_cons_succ, List.set_cons_zero]
          refine order_pure (i := 28) rfl (by kernel_rfl) (fun _ _ _ h => h) (.inl ⟨rfl, fun _ => by go_simp; rfl⟩) ?_
          try simp only [Act.put, List.setIfInBounds_toArray, List.set_cons_succ, List.set_cons_zero]
          refine order_done (by kernel_rfl) ?_
          go_wp2_with fail
          go_roundg (5 - (k + 1))
          case measure => omega
          case rel => exact ⟨k + 1, A2, c2, _, by omega, rfl, by go_num, rfl, HS6.out⟩
        · obtain rfl : k = 5 := by omega
          have hkz : ¬ ((5 : Nat) : Int) < 5 := by omega
          clear hk hk5
          have HJ := hide (show NumInv w wr eb A (10 * (i + 1)) c D from HI.out)
          go_wp2_with fail
          go_roundg (5 - (i + 1))
          case measure => omega
          case rel => exact ⟨i + 1, A, c, D, by omega, rfl, by go_num, rfl, HJ.out⟩
    · obtain rfl : i = 5 := by omega
      have hiz : ¬ ((5 : Nat) : Int) < 5 := by omega
      clear hi hi5
      have HJ := hide (show NumInv w wr eb A 50 c D from HI.out)
      have hc50 : 50 ≤ c := HI.out.row.2.1
      have hc40 : (40 : Int) ≤ c := by omega
      clear HI
      go_wp2_with
        first
        | (go_at_call 4
           refine (link_lives A 50 c hc50 D wr (dos_at HJ.out.row HJ.out.ok)).mono ?_
           rintro e w3 ⟨rfl, hk⟩
           have HI3 := hide ((HJ.out.fresh hk).cut (n' := 40) (c' := 40) (by omega) (by omega) (by omega))
           have HI4 := hide (HI3.out.fresh ((Keeps.refl NoB w3).alloc (.cells #[.int .i64 1, .int .i64 1, .int .i64 (-1), .int .i64 0, .int .i64 1, .int .i64 1, .int .i64 (-1), .int .i64 0, .int .i64 0, .int .i64 0, .int .i64 0, .int .i64 0, .int .i64 0, .int .i64 0, .int .i64 0, .int .i64 0, .int .i64 2, .int .i64 1, .int .i64 0, .int .i64 0, .int .i64 0, .int .i64 (-9223372036854775808), .int .i64 0, .int .i64 0] 27)))
           have HR6 := hide (row_reads (D := six) (Blk.new w3 27 #[.int .i64 1, .int .i64 1, .int .i64 (-1), .int .i64 0, .int .i64 1, .int .i64 1, .int .i64 (-1), .int .i64 0, .int .i64 0, .int .i64 0, .int .i64 0, .int .i64 0, .int .i64 0, .int .i64 0, .int .i64 0, .int .i64 0, .int .i64 2, .int .i64 1, .int .i64 0, .int .i64 0, .int .i64 0, .int .i64 (-9223372036854775808), .int .i64 0, .int .i64 0]))
           obtain ⟨A6, c6, w6, hap, hs6, hk6, hm6⟩ := run_append_slab (P := Try.prog) (w3.alloc (.cells #[.int .i64 1, .int .i64 1, .int .i64 (-1), .int .i64 0, .int .i64 1, .int .i64 1, .int .i64 (-1), .int .i64 0, .int .i64 0, .int .i64 0, .int .i64 0, .int .i64 0, .int .i64 0, .int .i64 0, .int .i64 0, .int .i64 0, .int .i64 2, .int .i64 1, .int .i64 0, .int .i64 0, .int .i64 0, .int .i64 (-9223372036854775808), .int .i64 0, .int .i64 0] 27)) 22 22 27 i0 _ 4 32 Try.underlying22 ni0 nz0 nz1 nz2 rfl (by omega) A 40 40 (dosC (D.take 40)) HI4.out.row (fun _ => True) true (some ⟨w3.heap.size, 0, none⟩) 6 6 (dosC six) HR6.out (by omega) (dosC_ones _) (by unfold maxLen; omega) (by omega)
           have HI6 := hide (HI4.out.more hs6 hk6 hm6 six_ok)
           clear hk HJ HI3 HI4 HR6 hs6 hk6 hm6)
        | fail
      refine oper_append (s := .tmp 50) (x := .tmp 57) (t := 22) rfl rfl rfl hap ?_
      go_wp2_with
        first
        | (go_at_call 4
           refine (link_lives A6 46 c6 HI6.out.row.2.1 _ w6 (dos_at HI6.out.row HI6.out.ok)).mono ?_
           rintro e w7 ⟨rfl, hk⟩
           have HK7 := hide (HI6.out.keep.trans' hk (fun _ _ => id) (fun _ _ => id))
           clear hk hap HI6)
        | (go_at_call 9
           refine (new_any w7).mono ?_
           rintro e w1 ⟨rfl, h1, hk⟩
           have R1 := hide (show Run w7 w1 (w7.heap.size + 2) w7.heap.size (w7.heap.size + 1) 0 (fun _ => []) [] from ⟨h1, hk⟩)
           clear h1 hk)
        | fail
      generalize w7.heap.size + 2 = b at *
      generalize w7.heap.size + 1 = m2 at *
      obtain ⟨m1, hm1⟩ : ∃ m1, w7.heap.size = m1 := ⟨_, rfl⟩
      rw [hm1] at R1
      clear hm1
      refine (watch_any w1 w7.heap.size b m1 m2 _ (fun _ => []) _ ⟨1, 5, 5⟩ R1.out.at' ⟨ok_of (by decide), ok_of (by decide), ok_of (by decide)⟩ (by omega)).mono ?_
      rintro e w8 ⟨rfl, h1, h2⟩
      have R2 := hide (R1.out.turn h2 h1)
      clear h1 h2 R1
      rw [show canW 1 [] = true from by decide +kernel]
      have R2 := hide (show Run w7 w8 b m1 m2 _ (fun _ => []) [⟨1, 5, 5⟩] from R2.out)
      go_wp2_with fail
      refine (watch_any w8 w7.heap.size b m1 m2 _ (fun _ => []) _ ⟨2, 5, 6⟩ R2.out.at' ⟨ok_of (by decide), ok_of (by decide), ok_of (by decide)⟩ (by omega)).mono ?_
      rintro e w9 ⟨rfl, h1, h2⟩
      have R3 := hide (R2.out.turn h2 h1)
      clear h1 h2 R2
      rw [show canW 2 [⟨1, 5, 5⟩] = true from by decide +kernel]
      have R3 := hide (show Run w7 w9 b m1 m2 _ (fun _ => []) [⟨1, 5, 5⟩, ⟨2, 5, 6⟩] from R3.out)
      go_wp2_with fail
      refine (watch_any w9 w7.heap.size b m1 m2 _ (fun _ => []) _ ⟨3, 6, 5⟩ R3.out.at' ⟨ok_of (by decide), ok_of (by decide), ok_of (by decide)⟩ (by omega)).mono ?_
      rintro e w10 ⟨rfl, h1, h2⟩
      have R4 := hide (R3.out.turn h2 h1)
      clear h1 h2 R3
      rw [show canW 3 [⟨1, 5, 5⟩, ⟨2, 5, 6⟩] = true from by decide +kernel]
      have R4 := hide (show Run w7 w10 b m1 m2 _ (fun _ => []) nM from R4.out)
      go_wp2_with fail
      refine (unwatch_any w10 w7.heap.size b m1 m2 _ (fun _ => []) nM 1 6 R4.out.at' (ok_of (by decide))).mono ?_
      rintro e w11 ⟨rfl, h1, h2⟩
      have R5 := hide (R4.out.turn h2 h1)
      clear h1 h2 R4
      rw [show canX 1 6 nM = false from by decide +kernel]
      have R5 := hide (show Run w7 w11 b m1 m2 _ (fun _ => []) nM from R5.out)
      go_wp2_with fail
      refine (unwatch_any w11 w7.heap.size b m1 m2 _ (fun _ => []) nM 4 5 R5.out.at' (ok_of (by decide))).mono ?_
      rintro e w12 ⟨rfl, h1, h2⟩
      have R6 := hide (R5.out.turn h2 h1)
      clear h1 h2 R5
      rw [show canX 4 5 nM = false from by decide +kernel]
      have R6 := hide (show Run w7 w12 b m1 m2 _ (fun _ => []) nM from R6.out)
      go_wp2_with fail
      refine (end_any w12 w7.heap.size b m1 m2 _ (fun _ => []) nM 5 R6.out.at' (ok_of (by decide)) (by omega) (by show 3 ≤ 1000000; omega)).mono ?_
      rintro e w13 ⟨A7, c7, A8, c8, rfl, _, h2, h3, hk, _, _⟩
      rw [show toldM 5 nM = [⟨1, 5, 5⟩, ⟨3, 6, 5⟩] from by kernel_rfl] at h2 ⊢
      rw [show endM 5 nM = [] from by kernel_rfl] at h3
      have R7 := hide (R6.out.turn hk h3)
      have HS2 := hide h2
      clear h2 h3 hk R6
      simp only [List.length_cons, List.length_nil, Nat.zero_add, Nat.reduceAdd] at HS2 ⊢
      obtain ⟨g, o, e1, p0, _, _⟩ := mon_reads HS2.out.reads (i := 0) (x := ⟨1, 5, 5⟩) rfl
      obtain ⟨g', o', e2, p3, _, _⟩ := mon_reads HS2.out.reads (i := 1) (x := ⟨3, 6, 5⟩) rfl
      subst e1
      injection e2 with e2; injection e2 with e2 e3; subst e2 e3
      simp only [Nat.zero_mul, Nat.one_mul, Nat.add_zero] at p0 p3
      go_wp2_with fail
      refine (mons_any w13 w7.heap.size b m1 m2 _ (endL 5 (fun _ => [])) [] R7.out.at' (by omega) (by simp)).mono ?_
      rintro e w14 ⟨X, cx, rfl, _, hk, _⟩
      have R8 := hide (R7.out.fresh hk)
      clear hk R7 HS2 p0 p3
      simp only [List.length_nil]
      go_wp2_with fail
      refine (awake_any w14).mono ?_
      rintro e w15 ⟨rfl, hk⟩
      have HK15 := hide ((HK7.out.trans' R8.out.keep (fun _ _ => id) (fun _ _ => id)).trans' hk (fun _ _ => id) (fun _ _ => id) : Keeps NoB w w15)
      clear hk
      go_wp2_with fail
      go_ret
      exact ⟨rfl, HK15.out⟩
end Go.Proofs.Ytjmljjmnamfljaa
