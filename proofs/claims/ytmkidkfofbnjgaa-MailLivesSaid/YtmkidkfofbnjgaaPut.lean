/- (*mail.Box).Put. -/
import Derived.Test.YtmkidkfofbnjgaaBox
import Derived.Test.YtmkidkfofbnjgaaA
namespace Go.Proofs.Ytmkidkfofbnjgaa
open Go.RowKit

def PutPost (w : World) (b : Nat) (sv : Value) (L : List Lt) (i : Nat) (t : Tm) (e : Ending) (w' : World) : Prop :=
  ∃ sv' x, e = .returned (.int .i64 0) ∧ x.t = t ∧ w.heap.size ≤ x.lo ∧ BoxAt w' b sv' (L ++ [x]) i ∧ Keeps (boxFp b sv) w w' ∧ (sv'.ownBlock = sv.ownBlock ∨ ∃ g, sv'.ownBlock = some g ∧ w.heap.size ≤ g)

theorem put_end {w W1 w2 w3 w4 : World} {b : Nat} {A A3 A5 : Option Addr} {c c3 m5 : Nat} {L : List Lt} {i : Nat} {t : Tm} {css5 : List (List Value)} (h : BoxAt w b (.slice A L.length c) L i) (hl : L.length < 1024)
    (hk2 : Keeps NoB w w2) (ho : m5 ≤ w2.heap.size ∧ W1.heap.size ≤ m5 ∧ Reads w2 (fun k => W1.heap.size ≤ k ∧ k < m5) true 7 A5 1 (List.flatten css5) ∧ TermsIn w2 (fun k => m5 ≤ k ∧ k < w2.heap.size) true css5 [t])
    (hk3 : Keeps (boxFp b (.slice A L.length c)) w2 w3) (hk4 : Keeps (fun x => x = b) w3 w4) (hown : w3.ownsRow 0 33 7 (.slice A3 (L.length + 1) c3) (L.length + 1) ((cellsOf L).flatten ++ css5.flatten))
    (hat : (Value.slice A3 (L.length + 1) c3).ownBlock = (Value.slice A L.length c).ownBlock ∨ (Value.slice A3 (L.length + 1) c3).ownBlock = some w2.heap.size)
    (hb4 : Blk w4 b 61 (#[.slice A L.length c, .int .i64 i, .bool true].setIfInBounds 0 (.slice A3 (L.length + 1) c3))) (hw1 : w.heap.size ≤ W1.heap.size) :
    PutPost w b (.slice A L.length c) L i t (.returned (.int .i64 0)) w4 := by
  obtain ⟨hm5, hn5, hr5, ht5⟩ := ho
  obtain ⟨x5, rfl⟩ : ∃ x, css5 = [x] := by
    have := ht5.lens.1
    match css5, this with
    | [x], _ => exact ⟨x, rfl⟩
  have ht5 : TermIn w2 (fun k => m5 ≤ k ∧ k < w2.heap.size) true x5 t := by unfold TermsIn at ht5; exact ht5.1
  have hbl := h.blk.lt
  have hgt : ∀ g, (Value.slice A L.length c).ownBlock = some g → g < w.heap.size := fun g hg => ownsRow_lt h.row hg
  have hs2 := hk2.size
  have hs3 := hk3.size
  have hs4 := hk4.size
  have hsep3 : (Value.slice A3 (L.length + 1) c3).ownBlock ≠ some b := by
    rcases hat with e | e <;> rw [e]
    · exact h.sep
    · intro e; injection e; omega
  have hk24 : Keeps (boxFp b (.slice A L.length c)) w2 w4 := hk3.trans' hk4 (fun _ _ h => h) (fun _ _ h => .inl h)
  have hk4' : Keeps (boxFp b (.slice A L.length c)) w w4 := hk2.trans' hk24 (fun _ _ h => h.elim) (fun _ _ h => h)
  have hx : TermIn w4 (fun k => m5 ≤ k ∧ k < w2.heap.size) true x5 t := TermIn.keep hk24 (fun k hB hf => by
    rcases hf with hf | hf
    · have := hB.1; omega
    · have := hgt _ hf; have := hB.1; omega) _ _ ht5
  refine ⟨.slice A3 (L.length + 1) c3, ⟨x5, t, m5, w2.heap.size⟩, rfl, rfl, by simp only; omega, ⟨hb4, ?_, ?_, ?_, ?_⟩, hk4', ?_⟩
  · have := ownsRow_keep hown hk4 (fun g hg e => hsep3 (by rw [hg, e]))
    simpa using this
  · intro y hy
    rcases List.mem_append.1 hy with hy | hy
    · exact (h.ok y hy).keep hk4' (fun k hf => by
        rcases hf with rfl | hf
        · exact (h.off y hy).1
        · exact (h.off y hy).2 k hf)
    · rw [List.mem_singleton] at hy
      subst hy
      exact ⟨hx, hm5, by simp only; omega⟩
  · intro y hy
    rcases List.mem_append.1 hy with hy | hy
    · refine ⟨(h.off y hy).1, fun g hg => ?_⟩
      rcases hat with e | e <;> rw [e] at hg
      · exact (h.off y hy).2 g hg
      · injection hg with hg
        have := (h.ok y hy).2.2
        exact .inr (by omega)
    · rw [List.mem_singleton] at hy
      subst hy
      refine ⟨.inl (by simp only; omega), fun g hg => ?_⟩
      rcases hat with e | e <;> rw [e] at hg
      · have := hgt g hg
        exact .inl (by simp only; omega)
      · injection hg with hg
        exact .inr (by simp only; omega)
  · rw [List.pairwise_append]
    refine ⟨h.apart, List.pairwise_singleton _ _, fun y hy z hz => ?_⟩
    rw [List.mem_singleton] at hz
    subst hz
    have := (h.ok y hy).2.2
    simp only
    omega
  · rcases hat with e | e
    · exact .inl e
    · exact .inr ⟨_, e, hs2⟩

set_option maxRecDepth 100000 in
set_option maxHeartbeats 1000000 in
theorem put_yes (b : Nat) (sv : Value) (L : List Lt) (i : Nat) (w : World) (h : BoxAt w b sv L i) (hl : L.length < 1024)
    (kd : Int) (ng : Bool) (la : Option Addr) (ln lc : Nat) (tx : ByteArray) (nm : Int) (ia : Option Addr) (im ic : Nat) (ta : Option Addr) (tn tc : Nat) (t : Tm) (B : Nat → Prop) (F : Bool)
    (ht : TermIn w B F [.int .u8 kd, .bool ng, .slice la ln lc, .string tx, .int .i64 nm, .slice ia im ic, .slice ta tn tc] t) :
    Calls Try.prog 10 #[.pointer (some ⟨b, 0, none⟩), .agg #[.int .u8 kd, .bool ng, .slice la ln lc, .string tx, .int .i64 nm, .slice ia im ic, .slice ta tn tc]] w (PutPost w b sv L i t) := by
  obtain ⟨i0, hi0, hz0, hz1, hz2⟩ := info_parts Try.info33
  obtain ⟨A, c, hsv, hnc, _⟩ := ownsRow_mk h.row
  subst hsv
  have H := hide h; have HT := hide ht
  have hk2 : w.cell? ⟨b, 2, none⟩ = some (.bool true) := h.blk.cell 2
  have hk0 : w.cell? ⟨b, 0, none⟩ = some (.slice A L.length c) := h.blk.cell 0
  have hbl : b < w.heap.size := h.blk.lt
  have hk2' : (w.alloc (.cells #[.int .u8 kd, .bool ng, .slice la ln lc, .string tx, .int .i64 nm, .slice ia im ic, .slice ta tn tc] 33)).cell? ⟨b, 2, none⟩ = some (.bool true) := (World.cell?_alloc_lt _ _ _ hbl).trans hk2
  clear h ht
  go_enter Try.func10, Try.ntmps10
  go_wp2_with (go_at_call 32; refine (known_at b true _ hk2').mono ?_; rintro e w' ⟨rfl, rfl⟩)
  have HS0 : Blk (w.alloc (.cells #[.int .u8 kd, .bool ng, .slice la ln lc, .string tx, .int .i64 nm, .slice ia im ic, .slice ta tn tc] 33)).drew b 61 #[.slice A L.length c, .int .i64 i, .bool true] ∧ Blk (w.alloc (.cells #[.int .u8 kd, .bool ng, .slice la ln lc, .string tx, .int .i64 nm, .slice ia im ic, .slice ta tn tc] 33)).drew w.heap.size 33 #[.int .u8 kd, .bool ng, .slice la ln lc, .string tx, .int .i64 nm, .slice ia im ic, .slice ta tn tc] := ⟨(H.out.blk.alloc _).drew, Blk.new w 33 _⟩
  have HK0 := hide ((((Keeps.refl NoB w).alloc (.cells #[.int .u8 kd, .bool ng, .slice la ln lc, .string tx, .int .i64 nm, .slice ia im ic, .slice ta tn tc] 33)).drew))
  refine order_begin (fun W => Blk W b 61 #[.slice A L.length c, .int .i64 i, .bool true] ∧ Blk W w.heap.size 33 #[.int .u8 kd, .bool ng, .slice la ln lc, .string tx, .int .i64 nm, .slice ia im ic, .slice ta tn tc]) (fun j => !(j == 11)) (by kernel_rfl) 12 rfl ?_
  clear hk2'
  generalize (w.alloc (.cells #[.int .u8 kd, .bool ng, .slice la ln lc, .string tx, .int .i64 nm, .slice ia im ic, .slice ta tn tc] 33)).drew = W0 at *
  have HS := HS0
  clear HS0
  refine order_pure (i := 0) rfl (by kernel_rfl) (fun _ _ _ h => h) (.inl ⟨rfl, fun _ => by go_simp; rfl⟩) ?_
  try simp only [Act.put, List.setIfInBounds_toArray, List.set_cons_succ, List.set_cons_zero]
  refine order_pure (i := 1) rfl (by kernel_rfl) (fun _ _ _ h => h) (.inl ⟨rfl, fun _ => by go_simp; rfl⟩) ?_
  try simp only [Act.put, List.setIfInBounds_toArray, List.set_cons_succ, List.set_cons_zero]
  refine order_pure (i := 2) rfl (by kernel_rfl) (fun _ _ _ h => h) (.inl ⟨rfl, fun _ => by go_simp; rfl⟩) ?_
  try simp only [Act.put, List.setIfInBounds_toArray, List.set_cons_succ, List.set_cons_zero]
  refine order_pure (i := 3) rfl (by kernel_rfl) (fun _ _ _ h => h) (.inl ⟨rfl, fun _ => by go_simp; rfl⟩) ?_
  try simp only [Act.put, List.setIfInBounds_toArray, List.set_cons_succ, List.set_cons_zero]
  refine order_held (i := 4) rfl (by kernel_rfl) (fun _ _ _ h => h) (.inl ⟨rfl, fun W hW => by
    have q0 : W.cell? ⟨b, 0, none⟩ = some (.slice A L.length c) := hW.1.cell 0
    go_simp; rfl⟩) HS ?_
  try simp only [Act.put, List.setIfInBounds_toArray, List.set_cons_succ, List.set_cons_zero]
  refine order_held (i := 5) rfl (by kernel_rfl) (fun _ _ _ h => h) (.inl ⟨rfl, fun W hW => by
    have q0 : W.cell? ⟨w.heap.size, 0, none⟩ = some (.int .u8 kd) := hW.2.cell 0
    have q1 : W.cell? ⟨w.heap.size, 1, none⟩ = some (.bool ng) := hW.2.cell 1
    have q2 : W.cell? ⟨w.heap.size, 2, none⟩ = some (.slice la ln lc) := hW.2.cell 2
    have q3 : W.cell? ⟨w.heap.size, 3, none⟩ = some (.string tx) := hW.2.cell 3
    have q4 : W.cell? ⟨w.heap.size, 4, none⟩ = some (.int .i64 nm) := hW.2.cell 4
    have q5 : W.cell? ⟨w.heap.size, 5, none⟩ = some (.slice ia im ic) := hW.2.cell 5
    have q6 : W.cell? ⟨w.heap.size, 6, none⟩ = some (.slice ta tn tc) := hW.2.cell 6
    go_simp; rfl⟩) HS ?_
  try simp only [Act.put, List.setIfInBounds_toArray, List.set_cons_succ, List.set_cons_zero]
  refine order_one (i := 6) rfl (by kernel_rfl) (fun K hK => ?_)
  go_simp
  refine hK _ _ (fun _ hS => ⟨hS.1.alloc _, hS.2.alloc _⟩) ?_
  clear hK
  have HS1 : Blk (W0.alloc (.cells #[.int .u8 kd, .bool ng, .slice la ln lc, .string tx, .int .i64 nm, .slice ia im ic, .slice ta tn tc] 33)) b 61 #[.slice A L.length c, .int .i64 i, .bool true] ∧ Blk (W0.alloc (.cells #[.int .u8 kd, .bool ng, .slice la ln lc, .string tx, .int .i64 nm, .slice ia im ic, .slice ta tn tc] 33)) w.heap.size 33 #[.int .u8 kd, .bool ng, .slice la ln lc, .string tx, .int .i64 nm, .slice ia im ic, .slice ta tn tc] := ⟨HS.1.alloc _, HS.2.alloc _⟩
  have HK1 := hide (HK0.out.alloc (.cells #[.int .u8 kd, .bool ng, .slice la ln lc, .string tx, .int .i64 nm, .slice ia im ic, .slice ta tn tc] 33))
  have hrd : Reads (W0.alloc (.cells #[.int .u8 kd, .bool ng, .slice la ln lc, .string tx, .int .i64 nm, .slice ia im ic, .slice ta tn tc] 33)) (fun _ => True) false 7 (some ⟨W0.heap.size, 0, none⟩) 1 (List.flatten [[.int .u8 kd, .bool ng, .slice la ln lc, .string tx, .int .i64 nm, .slice ia im ic, .slice ta tn tc]]) := by
    refine ⟨rfl, fun _ => ⟨_, rfl, rfl, trivial, (Blk.new W0 33 #[.int .u8 kd, .bool ng, .slice la ln lc, .string tx, .int .i64 nm, .slice ia im ic, .slice ta tn tc]).lt, fun j u hu => ⟨?_, fun h => by cases h⟩⟩⟩
    simp only [Nat.zero_add]
    rw [(Blk.new W0 33 #[.int .u8 kd, .bool ng, .slice la ln lc, .string tx, .int .i64 nm, .slice ia im ic, .slice ta tn tc]).cell j]
    simpa using hu
  have HRD := hide hrd
  clear hrd
  generalize W0.alloc (.cells #[.int .u8 kd, .bool ng, .slice la ln lc, .string tx, .int .i64 nm, .slice ia im ic, .slice ta tn tc] 33) = W1 at *
  try simp only [Act.put, List.setIfInBounds_toArray, List.set_cons_succ, List.set_cons_zero]
  refine order_one (i := 7) rfl (by kernel_rfl) (fun K hK => ?_)
  go_simp
  refine (own_any [t] [[.int .u8 kd, .bool ng, .slice la ln lc, .string tx, .int .i64 nm, .slice ia im ic, .slice ta tn tc]] (some ⟨W0.heap.size, 0, none⟩) 1 1 W1 (fun _ => True) false HRD.out (TermsIn.one (TermIn.more (fun _ _ _ => trivial) _ _ (TermIn.weak _ _ (TermIn.keep HK1.out (fun _ _ => id) _ _ HT.out)))) (Roomy.small (by omega) (by omega))).mono ?_
  rintro e w2 ⟨A5, c5, css5, m5, rfl, hc5, hm5, hn5, hr5, ht5, hbel5⟩
  have HO5 := hide (And.intro hm5 (And.intro hn5 (And.intro hr5 ht5)))
  have HK5 := hide (Keeps.of_below hbel5 NoB)
  clear hm5 hn5 hr5 ht5 hbel5
  refine hK _ _ (fun _ hS => ⟨hS.1.keep HK5.out id, hS.2.keep HK5.out id⟩) ?_
  clear hK
  have HS2 : Blk w2 b 61 #[.slice A L.length c, .int .i64 i, .bool true] ∧ Blk w2 w.heap.size 33 #[.int .u8 kd, .bool ng, .slice la ln lc, .string tx, .int .i64 nm, .slice ia im ic, .slice ta tn tc] := ⟨HS1.1.keep HK5.out id, HS1.2.keep HK5.out id⟩
  have HK2 := hide (HK1.out.trans' HK5.out (fun _ _ => id) (fun _ _ => id) : Keeps NoB w w2)
  try simp only [Act.put, List.setIfInBounds_toArray, List.set_cons_succ, List.set_cons_zero]
  refine order_one (i := 8) rfl (by kernel_rfl) (fun K hK => ?_)
  have hb2 := hide (H.out.fresh HK2.out)
  refine step_append_reads _ rfl (.tmp 20) (.tmp 23) 25 rfl 0 33 i0 _ 7 104 Try.underlying25 hi0 hz0 hz1 hz2 rfl (by omega) (.slice A L.length c) L.length (cellsOf L).flatten rfl hb2.out.row (fun k => W1.heap.size ≤ k ∧ k < m5) true A5 1 c5 css5.flatten rfl HO5.out.2.2.1 (TermsIn.ones _ _ HO5.out.2.2.2) (by unfold maxLen; omega) (Roomy.small (by omega) (by omega)) (Nat.zero_le _) ?_
  intro v3 w3 hown3 hg3 hat3
  obtain ⟨A3, c3, hv3, hnc3, _⟩ := ownsRow_mk hown3
  subst hv3
  have hsep := hb2.out.sep
  have HK3 := hide ((Keeps.refl (boxFp b (.slice A L.length c)) w2).grown hg3 (fun k h _ => .inr h))
  have hgt : ∀ g, (Value.slice A L.length c).ownBlock = some g → g < w.heap.size := fun g hg => ownsRow_lt H.out.row hg
  have HS3 : Blk w3 b 61 #[.slice A L.length c, .int .i64 i, .bool true] ∧ Blk w3 w.heap.size 33 #[.int .u8 kd, .bool ng, .slice la ln lc, .string tx, .int .i64 nm, .slice ia im ic, .slice ta tn tc] := by
    refine ⟨(hg3.block b HS2.1.lt (fun e => hsep e.symm)).trans HS2.1, (hg3.block _ HS2.2.lt (fun e => ?_)).trans HS2.2⟩
    have := hgt _ e.symm
    omega
  refine hK _ _ (fun _ _ => HS3) ?_
  clear hK
  have HO3 := hide (And.intro hown3 hat3)
  have HSEP := hide hsep
  have HGT := hide hgt
  clear hown3 hg3 hat3 hsep hgt
  try simp only [Act.put, List.setIfInBounds_toArray, List.set_cons_succ, List.set_cons_zero]
  refine order_pure (i := 9) rfl (by kernel_rfl) (fun _ _ _ h => h) (.inl ⟨rfl, fun _ => by go_simp; rfl⟩) ?_
  try simp only [Act.put, List.setIfInBounds_toArray, List.set_cons_succ, List.set_cons_zero]
  refine order_pure (i := 10) rfl (by kernel_rfl) (fun _ _ _ h => h) (.inl ⟨rfl, fun _ => by go_simp; rfl⟩) ?_
  try simp only [Act.put, List.setIfInBounds_toArray, List.set_cons_succ, List.set_cons_zero]
  have s2 : w3.cell? ⟨b, 0, none⟩ = some (.slice A L.length c) := HS3.1.cell 0
  have t2 : w3.frozen? ⟨b, 0, none⟩ = false := HS3.1.free 0
  refine order_one (i := 11) rfl (by kernel_rfl) (fun K hK => ?_)
  go_simp
  refine hK _ _ (fun h => absurd h (by decide)) ?_
  clear hK
  try simp only [Act.put, List.setIfInBounds_toArray, List.set_cons_succ, List.set_cons_zero]
  clear s2 t2
  have HB4 := hide (HS3.1.put 0 (.slice A3 (L.length + 1) c3))
  have HK4 := hide ((Keeps.refl (fun x => x = b) w3).setCell (p := ⟨b, 0, none⟩) (.inl rfl) (.slice A3 (L.length + 1) c3))
  generalize w3.setCell ⟨b, 0, none⟩ (.slice A3 (L.length + 1) c3) = w4 at *
  refine order_done (by kernel_rfl) ?_
  go_wp2
  go_ret
  show PutPost w b (.slice A L.length c) L i t (.returned (.int .i64 0)) w4
  exact put_end H.out hl HK2.out HO5.out HK3.out HK4.out HO3.out.1 HO3.out.2 HB4.out HK1.out.size
end Go.Proofs.Ytmkidkfofbnjgaa
