/- (*mail.Box).Next: a letter is told, as a copy. -/
import Derived.Test.YtmkidkfofbnjgaaNext
namespace Go.Proofs.Ytmkidkfofbnjgaa
open Go.RowKit

def Told (w : World) (t : Tm) (v2 : Value) (e : Ending) (w' : World) : Prop :=
  ∃ v0 v1 v2' v3 v4 v5 v6, e = .returned (.tuple #[.agg #[v0, v1, v2', v3, v4, v5, v6], v2]) ∧ TermIn w' (Fresh w w') true [v0, v1, v2', v3, v4, v5, v6] t ∧ Keeps NoB w w'

set_option maxRecDepth 100000 in
set_option maxHeartbeats 600000 in
theorem next_yes (b : Nat) (sv : Value) (L : List Lt) (i : Nat) (x : Lt) (w : World) (h : BoxAt w b sv L i) (hx : L[i]? = some x) (hl : L.length ≤ 1024) :
    Calls Try.prog 26 #[.pointer (some ⟨b, 0, none⟩)] w (Told w x.t (.bool true)) := by
  have hi : i < L.length := (List.getElem?_eq_some_iff.1 hx).1
  obtain ⟨A, c, hsv, hnc, hA⟩ := ownsRow_mk h.row
  subst hsv
  obtain ⟨g, hA⟩ : ∃ g, A = some ⟨g, 0, none⟩ := by
    rcases h.row.2 with ⟨_, h0⟩ | ⟨g, cap, cur, hv, _⟩
    · omega
    · injection hv with hv; exact ⟨g, hv⟩
  subst hA
  have HX := hide hx; have H := hide h
  have hic : ¬ c = i := by omega
  have HS0 : Blk (w.alloc (.cells zeroT 33)).drew b 61 #[.slice (some ⟨g, 0, none⟩) L.length c, .int .i64 i, .bool true] := (h.blk.alloc _).drew
  have hK0 : Keeps NoB w (w.alloc (.cells zeroT 33)).drew := ((Keeps.refl NoB w).alloc _).drew
  have HT0 := hide (Blk.new w 33 zeroT)
  clear h hx hA
  go_enter Try.func26, Try.ntmps26
  go_wp2_with fail
  refine order_begin (fun W => Blk W b 61 #[.slice (some ⟨g, 0, none⟩) L.length c, .int .i64 i, .bool true]) (fun _ => true) (by kernel_rfl) 15 rfl ?_
  have HS := HS0; clear HS0
  refine order_pure (i := 0) rfl (by kernel_rfl) (fun _ _ _ h => h) (.inl ⟨rfl, fun _ => by go_simp; rfl⟩) ?_
  try simp only [Act.put, List.setIfInBounds_toArray, List.set_cons_succ, List.set_cons_zero]
  refine order_one (i := 1) rfl (by kernel_rfl) (fun K hK => ?_)
  go_simp
  refine (known_at b true _ (HS.cell 2)).mono ?_
  rintro e w' ⟨rfl, rfl⟩
  refine hK _ _ (fun _ h => h) ?_
  clear hK
  try simp only [Act.put, List.setIfInBounds_toArray, List.set_cons_succ, List.set_cons_zero]
  refine order_pure (i := 2) rfl (by kernel_rfl) (fun _ _ _ h => h) (.inl ⟨rfl, fun _ => by go_simp; rfl⟩) ?_
  try simp only [Act.put, List.setIfInBounds_toArray, List.set_cons_succ, List.set_cons_zero]
  refine order_pure (i := 3) rfl (by kernel_rfl) (fun _ _ _ h => h) (.inl ⟨rfl, fun _ => by go_simp; rfl⟩) ?_
  try simp only [Act.put, List.setIfInBounds_toArray, List.set_cons_succ, List.set_cons_zero]
  refine order_pure (i := 4) rfl (by kernel_rfl) (fun _ _ _ h => h) (.inl ⟨rfl, fun _ => by go_simp; rfl⟩) ?_
  try simp only [Act.put, List.setIfInBounds_toArray, List.set_cons_succ, List.set_cons_zero]
  refine order_pure (i := 5) rfl (by kernel_rfl) (fun _ _ _ h => h) (.inl ⟨rfl, fun _ => by go_simp; rfl⟩) ?_
  try simp only [Act.put, List.setIfInBounds_toArray, List.set_cons_succ, List.set_cons_zero]
  refine order_pure (i := 6) rfl (by kernel_rfl) (fun _ _ _ h => h) (.inl ⟨rfl, fun _ => by go_simp; rfl⟩) ?_
  try simp only [Act.put, List.setIfInBounds_toArray, List.set_cons_succ, List.set_cons_zero]
  refine order_held (i := 7) rfl (by kernel_rfl) (fun _ _ _ h => h) (.inl ⟨rfl, fun W hW => by
    have q0 : W.cell? ⟨b, 1, none⟩ = some (.int .i64 i) := hW.cell 1
    go_simp; rfl⟩) HS ?_
  try simp only [Act.put, List.setIfInBounds_toArray, List.set_cons_succ, List.set_cons_zero]
  refine order_pure (i := 8) rfl (by kernel_rfl) (fun _ _ _ h => h) (.inl ⟨rfl, fun _ => by go_simp; rfl⟩) ?_
  try simp only [Act.put, List.setIfInBounds_toArray, List.set_cons_succ, List.set_cons_zero]
  refine order_pure (i := 9) rfl (by kernel_rfl) (fun _ _ _ h => h) (.inl ⟨rfl, fun _ => by go_simp; rfl⟩) ?_
  try simp only [Act.put, List.setIfInBounds_toArray, List.set_cons_succ, List.set_cons_zero]
  refine order_pure (i := 10) rfl (by kernel_rfl) (fun _ _ _ h => h) (.inl ⟨rfl, fun _ => by go_simp; rfl⟩) ?_
  try simp only [Act.put, List.setIfInBounds_toArray, List.set_cons_succ, List.set_cons_zero]
  refine order_held (i := 11) rfl (by kernel_rfl) (fun _ _ _ h => h) (.inl ⟨rfl, fun W hW => by
    have q0 : W.cell? ⟨b, 0, none⟩ = some (.slice (some ⟨g, 0, none⟩) L.length c) := hW.cell 0
    go_simp; rfl⟩) HS ?_
  try simp only [Act.put, List.setIfInBounds_toArray, List.set_cons_succ, List.set_cons_zero]
  refine order_pure (i := 12) rfl (by kernel_rfl) (fun _ _ _ h => h) (.inl ⟨rfl, fun _ => by go_simp; rfl⟩) ?_
  try simp only [Act.put, List.setIfInBounds_toArray, List.set_cons_succ, List.set_cons_zero]
  refine order_pure (i := 13) rfl (by kernel_rfl) (fun _ _ _ h => h) (.inl ⟨rfl, fun _ => by go_simp; rfl⟩) ?_
  try simp only [Act.put, List.setIfInBounds_toArray, List.set_cons_succ, List.set_cons_zero]
  refine order_pure (i := 14) rfl (by kernel_rfl) (fun _ _ _ h => h) (.inl ⟨rfl, fun _ => by go_simp; rfl⟩) ?_
  try simp only [Act.put, List.setIfInBounds_toArray, List.set_cons_succ, List.set_cons_zero]
  refine order_done (by kernel_rfl) ?_
  have HSn := hide HS
  have HK0 := hide hK0
  clear HS hK0
  go_wp2_with fail
  refine order_begin (fun W => Blk W b 61 #[.slice (some ⟨g, 0, none⟩) L.length c, .int .i64 i, .bool true]) (fun j => !(j == 17 || j == 18)) (by kernel_rfl) 19 rfl ?_
  have HS := HSn.out.drew; clear HSn
  refine order_pure (i := 0) rfl (by kernel_rfl) (fun _ _ _ h => h) (.inl ⟨rfl, fun _ => by go_simp; rfl⟩) ?_
  try simp only [Act.put, List.setIfInBounds_toArray, List.set_cons_succ, List.set_cons_zero]
  refine order_pure (i := 1) rfl (by kernel_rfl) (fun _ _ _ h => h) (.inl ⟨rfl, fun _ => by go_simp; rfl⟩) ?_
  try simp only [Act.put, List.setIfInBounds_toArray, List.set_cons_succ, List.set_cons_zero]
  refine order_pure (i := 2) rfl (by kernel_rfl) (fun _ _ _ h => h) (.inl ⟨rfl, fun _ => by go_simp; rfl⟩) ?_
  try simp only [Act.put, List.setIfInBounds_toArray, List.set_cons_succ, List.set_cons_zero]
  refine order_held (i := 3) rfl (by kernel_rfl) (fun _ _ _ h => h) (.inl ⟨rfl, fun W hW => by
    have q0 : W.cell? ⟨b, 0, none⟩ = some (.slice (some ⟨g, 0, none⟩) L.length c) := hW.cell 0
    go_simp; rfl⟩) HS ?_
  try simp only [Act.put, List.setIfInBounds_toArray, List.set_cons_succ, List.set_cons_zero]
  refine order_pure (i := 4) rfl (by kernel_rfl) (fun _ _ _ h => h) (.inl ⟨rfl, fun _ => by go_simp; rfl⟩) ?_
  try simp only [Act.put, List.setIfInBounds_toArray, List.set_cons_succ, List.set_cons_zero]
  refine order_pure (i := 5) rfl (by kernel_rfl) (fun _ _ _ h => h) (.inl ⟨rfl, fun _ => by go_simp; rfl⟩) ?_
  try simp only [Act.put, List.setIfInBounds_toArray, List.set_cons_succ, List.set_cons_zero]
  refine order_pure (i := 6) rfl (by kernel_rfl) (fun _ _ _ h => h) (.inl ⟨rfl, fun _ => by go_simp; rfl⟩) ?_
  try simp only [Act.put, List.setIfInBounds_toArray, List.set_cons_succ, List.set_cons_zero]
  refine order_held (i := 7) rfl (by kernel_rfl) (fun _ _ _ h => h) (.inl ⟨rfl, fun W hW => by
    have q0 : W.cell? ⟨b, 1, none⟩ = some (.int .i64 i) := hW.cell 1
    go_simp; rfl⟩) HS ?_
  try simp only [Act.put, List.setIfInBounds_toArray, List.set_cons_succ, List.set_cons_zero]
  refine order_pure (i := 8) rfl (by kernel_rfl) (fun _ _ _ h => h) (.inl ⟨rfl, fun _ => by go_simp; rfl⟩) ?_
  try simp only [Act.put, List.setIfInBounds_toArray, List.set_cons_succ, List.set_cons_zero]
  refine order_pure (i := 9) rfl (by kernel_rfl) (fun _ _ _ h => h) (.inl ⟨rfl, fun _ => by go_simp; rfl⟩) ?_
  try simp only [Act.put, List.setIfInBounds_toArray, List.set_cons_succ, List.set_cons_zero]
  refine order_pure (i := 10) rfl (by kernel_rfl) (fun _ _ _ h => h) (.inl ⟨rfl, fun _ => by go_simp; rfl⟩) ?_
  try simp only [Act.put, List.setIfInBounds_toArray, List.set_cons_succ, List.set_cons_zero]
  refine order_held (i := 11) rfl (by kernel_rfl) (fun _ _ _ h => h) (.inl ⟨rfl, fun W hW => by
    have q0 : W.cell? ⟨b, 1, none⟩ = some (.int .i64 i) := hW.cell 1
    go_simp; rfl⟩) HS ?_
  try simp only [Act.put, List.setIfInBounds_toArray, List.set_cons_succ, List.set_cons_zero]
  have hwr : IntKind.i64.wrap ((i : Int) + 1) = (i : Int) + 1 := IntWalk.i64_in _ (by omega)
  have hw0 : (0 : Int) ≤ (i : Int) + 1 := by omega
  have hw1 : ((i : Int) + 1).toNat = i + 1 := by omega
  have hw2 : i + 1 ≤ c := by omega
  have hw3 : i ≤ i + 1 := by omega
  refine order_pure (i := 12) rfl (by kernel_rfl) (fun _ _ _ h => h) (.inl ⟨rfl, fun _ => by go_simp; rfl⟩) ?_
  try simp only [Act.put, List.setIfInBounds_toArray, List.set_cons_succ, List.set_cons_zero]
  refine order_pure (i := 13) (v := .slice (some ⟨g, i * 7, none⟩) 1 (c - i)) rfl (by kernel_rfl) (fun _ _ _ h => h) (.inl ⟨rfl, fun W => by go_simp; intro hlt; omega⟩) ?_
  try simp only [Act.put, List.setIfInBounds_toArray, List.set_cons_succ, List.set_cons_zero]
  have HWf := hide (And.intro hwr (And.intro hw0 (And.intro hw1 (And.intro hw2 hw3))))
  clear hwr hw0 hw1 hw2 hw3
  have HK1 := hide (HK0.out.drew)
  have HT1 := hide (HT0.out.drew.drew)
  clear HT0
  generalize (w.alloc (.cells zeroT 33)).drew.drew = W1 at *
  refine order_one (i := 14) rfl (by kernel_rfl) (fun K hK => ?_)
  go_simp
  refine (own_any [x.t] [x.cs] (some ⟨g, i * 7, none⟩) 1 (c - i) W1 (fun _ => True) true (row_at (H.out.fresh HK1.out).row H.out.lens HX.out) (TermsIn.one (TermIn.more (fun _ _ _ => trivial) _ _ ((H.out.fresh HK1.out).ok x (List.mem_of_getElem? HX.out)).1)) (Roomy.small (by omega) (by omega))).mono ?_
  rintro e w2 ⟨A5, c5, css5, m5, rfl, hc5, hm5, hn5, hr5, ht5, hbel5⟩
  obtain ⟨y, rfl⟩ : ∃ y, css5 = [y] := by
    have := ht5.lens.1
    match css5, this with
    | [y], _ => exact ⟨y, rfl⟩
  have ht5 : TermIn w2 (fun k => m5 ≤ k ∧ k < w2.heap.size) true y x.t := by unfold TermsIn at ht5; exact ht5.1
  obtain ⟨kd, ng, la, ln, lc, tx, nm, ia, im, ic, ta, tn, tc, rfl, heq⟩ := ht5.cells
  clear heq
  obtain ⟨_, hAd⟩ := hr5
  obtain ⟨⟨gb, go, sp⟩, rfl, hs, hB, hgl, hcells⟩ := hAd (by omega)
  simp only at hs
  subst hs
  have f0 : w2.cell? ⟨gb, go, none⟩ = some (.int .u8 kd) := (hcells 0 _ rfl).1
  have f1 : w2.cell? ⟨gb, go + 1, none⟩ = some (.bool ng) := (hcells 1 _ rfl).1
  have f2 : w2.cell? ⟨gb, go + 2, none⟩ = some (.slice la ln lc) := (hcells 2 _ rfl).1
  have f3 : w2.cell? ⟨gb, go + 3, none⟩ = some (.string tx) := (hcells 3 _ rfl).1
  have f4 : w2.cell? ⟨gb, go + 4, none⟩ = some (.int .i64 nm) := (hcells 4 _ rfl).1
  have f5 : w2.cell? ⟨gb, go + 5, none⟩ = some (.slice ia im ic) := (hcells 5 _ rfl).1
  have f6 : w2.cell? ⟨gb, go + 6, none⟩ = some (.slice ta tn tc) := (hcells 6 _ rfl).1
  have HF := hide (And.intro f0 (And.intro f1 (And.intro f2 (And.intro f3 (And.intro f4 (And.intro f5 f6))))))
  have HK5 := hide (Keeps.of_below hbel5 NoB)
  have HT5 := hide ht5
  have HB2 := hide (HT1.out.keep HK5.out id)
  have HM := hide (And.intro hm5 hn5)
  clear f0 f1 f2 f3 f4 f5 f6 hcells hB hAd ht5 hbel5 hm5 hn5 hc5
  refine hK _ _ (fun _ hS => hS.keep HK5.out id) ?_
  clear hK
  try simp only [Act.put, List.setIfInBounds_toArray, List.set_cons_succ, List.set_cons_zero]
  refine order_pure (i := 15) rfl (by kernel_rfl) (fun _ _ _ h => h) (.inl ⟨rfl, fun _ => by go_simp; rfl⟩) ?_
  try simp only [Act.put, List.setIfInBounds_toArray, List.set_cons_succ, List.set_cons_zero]
  obtain ⟨f0, f1, f2, f3, f4, f5, f6⟩ := HF.out
  refine order_one (i := 16) rfl (by kernel_rfl) (fun K hK => ?_)
  go_simp
  refine hK _ _ (fun _ hS => hS) ?_
  clear hK
  try simp only [Act.put, List.setIfInBounds_toArray, List.set_cons_succ, List.set_cons_zero]
  clear f0 f1 f2 f3 f4 f5 f6
  have s0 : w2.cell? ⟨w.heap.size, 0, none⟩ = some (.int .u8 0) := HB2.out.cell 0
  have s1 : w2.cell? ⟨w.heap.size, 1, none⟩ = some (.bool false) := HB2.out.cell 1
  have s2 : w2.cell? ⟨w.heap.size, 2, none⟩ = some (.slice none 0 0) := HB2.out.cell 2
  have s3 : w2.cell? ⟨w.heap.size, 3, none⟩ = some (.string ByteArray.empty) := HB2.out.cell 3
  have s4 : w2.cell? ⟨w.heap.size, 4, none⟩ = some (.int .i64 0) := HB2.out.cell 4
  have s5 : w2.cell? ⟨w.heap.size, 5, none⟩ = some (.slice none 0 0) := HB2.out.cell 5
  have s6 : w2.cell? ⟨w.heap.size, 6, none⟩ = some (.slice none 0 0) := HB2.out.cell 6
  have z0 := HB2.out.free 0
  have z1 := HB2.out.free 1
  have z2 := HB2.out.free 2
  have z3 := HB2.out.free 3
  have z4 := HB2.out.free 4
  have z5 := HB2.out.free 5
  have z6 := HB2.out.free 6
  refine order_one (i := 17) rfl (by kernel_rfl) (fun K hK => ?_)
  go_simp
  refine hK _ _ (fun h => absurd h (by decide)) ?_
  clear hK
  try simp only [Act.put, List.setIfInBounds_toArray, List.set_cons_succ, List.set_cons_zero]
  clear s0 s1 s2 s3 s4 s5 s6 z0 z1 z2 z3 z4 z5 z6
  have HBf := hide (HB2.out.put7 (.int .u8 kd) (.bool ng) (.slice la ln lc) (.string tx) (.int .i64 nm) (.slice ia im ic) (.slice ta tn tc))
  have HKf := hide ((((((((Keeps.refl (fun k => k = w.heap.size) w2).setCell (p := ⟨w.heap.size, 0, none⟩) (.inl rfl) (.int .u8 kd)).setCell (p := ⟨w.heap.size, 1, none⟩) (.inl rfl) (.bool ng)).setCell (p := ⟨w.heap.size, 2, none⟩) (.inl rfl) (.slice la ln lc)).setCell (p := ⟨w.heap.size, 3, none⟩) (.inl rfl) (.string tx)).setCell (p := ⟨w.heap.size, 4, none⟩) (.inl rfl) (.int .i64 nm)).setCell (p := ⟨w.heap.size, 5, none⟩) (.inl rfl) (.slice ia im ic)).setCell (p := ⟨w.heap.size, 6, none⟩) (.inl rfl) (.slice ta tn tc))
  generalize (((((((w2.setCell ⟨w.heap.size, 0, none⟩ (.int .u8 kd)).setCell ⟨w.heap.size, 1, none⟩ (.bool ng)).setCell ⟨w.heap.size, 2, none⟩ (.slice la ln lc)).setCell ⟨w.heap.size, 3, none⟩ (.string tx)).setCell ⟨w.heap.size, 4, none⟩ (.int .i64 nm)).setCell ⟨w.heap.size, 5, none⟩ (.slice ia im ic)).setCell ⟨w.heap.size, 6, none⟩ (.slice ta tn tc)) = wf at *
  refine order_pure (i := 18) rfl (by kernel_rfl) (fun _ _ _ h => h) (.inl ⟨rfl, fun _ => by go_simp; rfl⟩) ?_
  try simp only [Act.put, List.setIfInBounds_toArray, List.set_cons_succ, List.set_cons_zero]
  refine order_done (by kernel_rfl) ?_
  go_wp2
  have c0 : wf.cell? ⟨w.heap.size, 0, none⟩ = some (.int .u8 kd) := HBf.out.cell 0
  have c1 : wf.cell? ⟨w.heap.size, 1, none⟩ = some (.bool ng) := HBf.out.cell 1
  have c2 : wf.cell? ⟨w.heap.size, 2, none⟩ = some (.slice la ln lc) := HBf.out.cell 2
  have c3 : wf.cell? ⟨w.heap.size, 3, none⟩ = some (.string tx) := HBf.out.cell 3
  have c4 : wf.cell? ⟨w.heap.size, 4, none⟩ = some (.int .i64 nm) := HBf.out.cell 4
  have c5 : wf.cell? ⟨w.heap.size, 5, none⟩ = some (.slice ia im ic) := HBf.out.cell 5
  have c6 : wf.cell? ⟨w.heap.size, 6, none⟩ = some (.slice ta tn tc) := HBf.out.cell 6
  refine bodyPost_ret (v := .tuple #[.agg #[.int .u8 kd, .bool ng, .slice la ln lc, .string tx, .int .i64 nm, .slice ia im ic, .slice ta tn tc], .bool true]) (by simp [results, Try.results26, go_sem, c0, c1, c2, c3, c4, c5, c6]) rfl ?_
  have hlt := HT1.out.lt
  obtain ⟨hm5, hn5⟩ := HM.out
  have hsf := HKf.out.size
  exact ⟨_, _, _, _, _, _, _, rfl, TermIn.more (fun k _ hk => ⟨by have := hk.1; omega, by have := hk.2; omega⟩) _ _ (TermIn.keep HKf.out (fun k hk e => by have := hk.1; omega) _ _ HT5.out), (HK1.out.trans' HK5.out (fun _ _ => id) (fun _ _ => id) : Keeps NoB w w2).trans' HKf.out (fun _ _ => id) (fun k hk e => by omega)⟩
end Go.Proofs.Ytmkidkfofbnjgaa
