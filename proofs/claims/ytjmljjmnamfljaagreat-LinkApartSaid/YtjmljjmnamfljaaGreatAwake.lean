/- The chapter's example: awake() is true. -/
import Derived.Test.YtjmljjmnamfljaaGreatAny
import Derived.Test.YtjmljjmnamfljaaGreatKitInts
namespace Go.Proofs.YtjmljjmnamfljaaGreat
set_option maxRecDepth 100000
open Go.RowKit Go.Maps

def TrueK (w : World) (e : Ending) (w' : World) : Prop := e = .returned (.bool true) ∧ Keeps NoB w w'
theorem lit_reads {w : World} {g : Nat} {xs : List Int} (h : Blk w g 3 (xs.map (Value.int .i64)).toArray) : Reads w (fun _ => True) true 1 (some ⟨g, 0, none⟩) xs.length (xs.map (Value.int .i64)) := by
  refine ⟨by simp, fun _ => ⟨_, rfl, rfl, trivial, h.lt, fun j u hu => ⟨?_, fun _ => h.free _⟩⟩⟩
  rw [h.cell, ← hu]; simp
theorem same_self (A A' : Option Addr) (n c c' : Nat) (xs : List Int) (w : World) (B B' : Nat → Prop) (F F' : Bool) (hx : Reads w B F 1 A n (xs.map (Value.int .i64))) (hy : Reads w B' F' 1 A' n (xs.map (Value.int .i64))) (hr : Roomy n 8) :
    Calls Tryz.prog 7 #[.slice A n c, .slice A' n c'] w (TrueK w) := by
  have := same_ints A A' n c n c' xs xs w B B' F F' hx hy hr
  refine this.mono ?_
  rintro e w' ⟨h1, h2⟩
  refine ⟨h1.trans ?_, h2⟩
  unfold eqL; rw [decide_eq_true rfl]

def exL : LK := goL 2 1 (goL 1 3 (goL 1 2 (fun _ => [])))
def exM : List Mon := [⟨5, 3, 1⟩, ⟨7, 1, 2⟩, ⟨9, 2, 1⟩]
theorem ok_of {p : Int} (h : (Lit.int .i64 p).wf = true) : IntOk p := h
set_option maxRecDepth 100000 in
set_option maxHeartbeats 4000000 in
theorem awake_any (w : World) : Calls Tryz.prog 9 #[] w (TrueK w) := by
  go_enter Tryz.func9, Tryz.ntmps9
  go_wp2_with fail
  refine (new_any w).mono ?_
  rintro e w1 ⟨rfl, h1, hk⟩
  have R1 := hide (show Run w w1 (w.heap.size + 2) w.heap.size (w.heap.size + 1) 0 (fun _ => []) [] from ⟨h1, hk⟩)
  have HZ := hide (show ∀ w', Keeps NoB w w' → w.heap.size ≤ w'.heap.size from fun w' h => h.size)
  clear h1 hk
  generalize w.heap.size + 2 = b at *
  generalize w.heap.size + 1 = m2 at *
  obtain ⟨m1, hm1⟩ : ∃ m1, w.heap.size = m1 := ⟨_, rfl⟩
  rw [hm1] at R1
  clear hm1
  go_wp2_with fail
  refine (link_any w1 w.heap.size b m1 m2 0 _ _ 1 2 R1.out.at' (ok_of (by decide)) (ok_of (by decide)) (by omega) (HZ.out _ R1.out.keep)).mono ?_
  rintro e w2 ⟨rfl, h1, h2⟩
  have R2 := hide (R1.out.turn h2 h1)
  clear h1 h2 R1
  rw [show canL 1 2 (fun _ => []) = true from by decide]
  go_wp2_with fail
  refine (link_any w2 w.heap.size b m1 m2 _ _ _ 1 3 R2.out.at' (ok_of (by decide)) (ok_of (by decide)) (by omega) (HZ.out _ R2.out.keep)).mono ?_
  rintro e w3 ⟨rfl, h1, h2⟩
  have R3 := hide (R2.out.turn h2 h1)
  clear h1 h2 R2
  rw [show canL 1 3 (goL 1 2 (fun _ => [])) = true from by decide +kernel]
  go_wp2_with fail
  refine (link_any w3 w.heap.size b m1 m2 _ _ _ 2 1 R3.out.at' (ok_of (by decide)) (ok_of (by decide)) (by omega) (HZ.out _ R3.out.keep)).mono ?_
  rintro e w4 ⟨rfl, h1, h2⟩
  have R4 := hide (R3.out.turn h2 h1)
  clear h1 h2 R3
  rw [show canL 2 1 (goL 1 3 (goL 1 2 (fun _ => []))) = false from by decide +kernel]
  have R4 := hide (show Run w w4 b m1 m2 _ exL [] from R4.out)
  go_wp2_with fail
  refine (watch_any w4 w.heap.size b m1 m2 _ exL _ ⟨9, 2, 1⟩ R4.out.at' ⟨ok_of (by decide), ok_of (by decide), ok_of (by decide)⟩ (by omega)).mono ?_
  rintro e w5 ⟨rfl, h1, h2⟩
  have R5 := hide (R4.out.turn h2 h1)
  clear h1 h2 R4
  rw [show canW 9 [] = true from by decide +kernel]
  have R5 := hide (show Run w w5 b m1 m2 _ exL [⟨9, 2, 1⟩] from R5.out)
  go_wp2_with fail
  refine (watch_any w5 w.heap.size b m1 m2 _ exL _ ⟨5, 3, 1⟩ R5.out.at' ⟨ok_of (by decide), ok_of (by decide), ok_of (by decide)⟩ (by omega)).mono ?_
  rintro e w6 ⟨rfl, h1, h2⟩
  have R6 := hide (R5.out.turn h2 h1)
  clear h1 h2 R5
  rw [show canW 5 [⟨9, 2, 1⟩] = true from by decide +kernel]
  have R6 := hide (show Run w w6 b m1 m2 _ exL [⟨5, 3, 1⟩, ⟨9, 2, 1⟩] from R6.out)
  go_wp2_with fail
  refine (watch_any w6 w.heap.size b m1 m2 _ exL _ ⟨7, 1, 2⟩ R6.out.at' ⟨ok_of (by decide), ok_of (by decide), ok_of (by decide)⟩ (by omega)).mono ?_
  rintro e w7 ⟨rfl, h1, h2⟩
  have R7 := hide (R6.out.turn h2 h1)
  clear h1 h2 R6
  rw [show canW 7 [⟨5, 3, 1⟩, ⟨9, 2, 1⟩] = true from by decide +kernel]
  have R7 := hide (show Run w w7 b m1 m2 _ exL exM from R7.out)
  go_wp2_with fail
  refine (watch_any w7 w.heap.size b m1 m2 _ exL _ ⟨9, 3, 3⟩ R7.out.at' ⟨ok_of (by decide), ok_of (by decide), ok_of (by decide)⟩ (by omega)).mono ?_
  rintro e w8 ⟨rfl, h1, h2⟩
  have R8 := hide (R7.out.turn h2 h1)
  clear h1 h2 R7
  rw [show canW 9 exM = false from by decide +kernel]
  have R8 := hide (show Run w w8 b m1 m2 _ exL exM from R8.out)
  go_wp2_with fail
  refine (end_any w8 w.heap.size b m1 m2 _ exL exM 1 R8.out.at' (ok_of (by decide)) (by omega) (by show 3 ≤ 1000000; omega)).mono ?_
  rintro e w9 ⟨A, c, A2, c2, rfl, h1, h2, h3, hk, _, _⟩
  rw [show exL 1 = [2, 3] from by decide +kernel] at h1 ⊢
  rw [show toldM 1 exM = [⟨5, 3, 1⟩, ⟨9, 2, 1⟩] from by kernel_rfl] at h2 ⊢
  rw [show endM 1 exM = [] from by kernel_rfl] at h3
  have R9 := hide (R8.out.turn hk h3)
  have HS1 := hide h1; have HS2 := hide h2
  clear h1 h2 h3 hk R8 HZ
  simp only [List.length_cons, List.length_nil, Nat.zero_add, Nat.reduceAdd] at HS1 HS2 ⊢
  go_wp2_with fail
  have hka : Keeps NoB w9 (w9.alloc (.cells #[.int .i64 2, .int .i64 3] 3)) := (Keeps.refl NoB w9).alloc _
  refine (same_self A _ 2 c 2 [2, 3] _ _ _ _ _ (HS1.out.fresh hka).reads (lit_reads (xs := [2, 3]) (Blk.new w9 3 #[.int .i64 2, .int .i64 3])) (Roomy.small (by omega) (by omega))).mono ?_
  rintro e w10 ⟨rfl, hk⟩
  have R10 := hide ((R9.out.fresh hka).fresh hk)
  have HS3 := hide ((HS2.out.fresh hka).fresh hk)
  clear hka hk R9 HS1 HS2
  obtain ⟨g, o, e1, p0, p1, p2⟩ := mon_reads HS3.out.reads (i := 0) (x := ⟨5, 3, 1⟩) rfl
  obtain ⟨g', o', e2, p3, p4, p5⟩ := mon_reads HS3.out.reads (i := 1) (x := ⟨9, 2, 1⟩) rfl
  subst e1
  injection e2 with e2; injection e2 with e2 e3; subst e2 e3
  simp only [Nat.zero_mul, Nat.one_mul, Nat.add_zero] at p0 p1 p2 p3 p4 p5
  go_wp2_with fail
  clear p0 p1 p2 p3 p4 p5
  refine (mons_any w10 w.heap.size b m1 m2 _ (endL 1 exL) [] R10.out.at' (by omega) (by simp)).mono ?_
  rintro e w11 ⟨X, cx, rfl, _, hk, _⟩
  have R11 := hide (R10.out.fresh hk)
  clear hk R10 HS3
  simp only [List.length_nil]
  go_wp2_with fail
  refine (of_at w11 w.heap.size b m1 m2 _ (endL 1 exL) [] 2 R11.out.at' (ok_of (by decide)) (by omega)).mono ?_
  rintro e w12 ⟨Y, cy, rfl, _, hk, _⟩
  have R12 := hide (R11.out.fresh hk)
  clear hk R11
  rw [show endL 1 exL 2 = [] from by decide +kernel]
  simp only [List.length_nil]
  go_wp2_with fail
  go_ret
  exact ⟨rfl, R12.out.keep⟩
end Go.Proofs.YtjmljjmnamfljaaGreat
