/- The chapter's example: awake() is true. -/
import Derived.Test.YtaiphjgklfioeaaTick
import Derived.Test.YtaiphjgklfioeaaKitInts
namespace Go.Proofs.Ytaiphjgklfioeaa
open Go.RowKit

theorem Slab.apart {w : World} {e e2 : TypeId} {size size2 n n2 c c2 : Nat} {A A2 : Option Addr} {xs ys : List Value} (h : Slab w e size A n c xs) (h2 : Slab w e2 size2 A2 n2 c2 ys) (hne : e ≠ e2) (k : Nat) (hk : rowB A k) : ¬ rowB A2 k := by
  obtain ⟨o, rfl⟩ := hk
  obtain ⟨_, _, _, ⟨h0, _⟩ | ⟨g, o', cur, h0, hb, _⟩⟩ := h
  · cases h0
  · injection h0 with h0; injection h0 with h0; subst h0
    exact h2.ne hb (Ne.symm hne)

/-- What the clock writes leaves a list of numbers as it is. -/
theorem ClockAt.leaves {w w' : World} {b c n c2 : Nat} {A A2 : Option Addr} {s : St} {xs : List Value} (h : ClockAt w b A c s) (hi : Slab w 3 1 A2 n c2 xs) (hk : Keeps (clkFp b A) w w') : Slab w' 3 1 A2 n c2 xs := by
  refine hi.keep hk (fun k hk2 hf => ?_)
  rcases hf with rfl | hf
  · exact hi.ne h.blk (by decide) hk2
  · exact h.row.apart hi (by decide) k hf hk2

/-- From w on nothing that was there has turned; the clock lies behind. -/
structure Run (w w' : World) (b : Nat) (A : Option Addr) (c : Nat) (s : St) : Prop where
  at' : ClockAt w' b A c s
  keep : Keeps NoB w w'
  hb : w.heap.size ≤ b
  hg : ∀ k, rowB A k → w.heap.size ≤ k
theorem Run.new (w wc : World) (h : Keeps NoB w wc) : Run w (wc.alloc (.cells #[.int .i64 0, .bool true, .slice none 0 0] 47)) wc.heap.size none 0 ⟨0, []⟩ :=
  ⟨⟨Blk.new wc 47 _, Slab.nil _ _ _, St.Good.new⟩, h.alloc _, h.size, fun k ⟨o, h⟩ => by cases h⟩
theorem Run.fresh {w w' w'' : World} {b c : Nat} {A : Option Addr} {s : St} (h : Run w w' b A c s) (k : Keeps NoB w' w'') : Run w w'' b A c s :=
  ⟨h.at'.fresh k, h.keep.trans' k (fun _ _ => id) (fun _ _ => id), h.hb, h.hg⟩
theorem Run.turn {w w' w'' : World} {b c c' : Nat} {A A' : Option Addr} {s s' : St} (h : Run w w' b A c s) (hc : ClockAt w'' b A' c' s') (k : Keeps (clkFp b A) w' w'') (hm : Moved w' A A') : Run w w'' b A' c' s' := by
  refine ⟨hc, h.keep.trans' k (fun _ _ => id) (fun x hx hf => ?_), h.hb, fun k hk => ?_⟩
  · rcases hf with rfl | hf
    · have := h.hb; omega
    · have := h.hg x hf; omega
  · exact (hm k hk).elim (h.hg k) (fun e => Nat.le_trans h.keep.size e)

theorem set_to (b c : Nat) (A : Option Addr) (s s' : St) (r : Bool) (pid after : Int) (w : World) (h : ClockAt w b A c s) (hl : s.L.length ≤ 1000000) (hr : s.setOk pid after = r) (hs : s.set pid after = s') :
    Calls Try.prog 11 #[.pointer (some ⟨b, 0, none⟩), .int .i64 pid, .int .i64 after] w (SetPost w b A s s' r) := by
  rw [← hr, ← hs]; exact set_any b c A s pid after w h hl
theorem drop_to (b c : Nat) (A : Option Addr) (s s' : St) (r : Bool) (pid : Int) (w : World) (h : ClockAt w b A c s) (hl : s.L.length ≤ 1000000) (hr : s.dropOk pid = r) (hs : s.drop pid = s') :
    Calls Try.prog 19 #[.pointer (some ⟨b, 0, none⟩), .int .i64 pid] w (SetPost w b A s s' r) := by
  rw [← hr, ← hs]; exact drop_any b c A s pid w h hl
def TickTo (w : World) (b : Nat) (A : Option Addr) (s' : St) (xs : List Int) (k : Nat) (r : Bool) (e : Ending) (w' : World) : Prop :=
  ∃ A' c' A2 c2, e = .returned (.tuple #[.slice A2 k c2, .bool r]) ∧ ClockAt w' b A' c' s' ∧ Keeps (clkFp b A) w w' ∧ Moved w A A' ∧ Slab w' 3 1 A2 k c2 (ints xs) ∧ ∀ j, rowB A2 j → w.heap.size ≤ j
theorem tick_to (b c : Nat) (A : Option Addr) (s s' : St) (xs : List Int) (k : Nat) (r : Bool) (n : Int) (w : World) (h : ClockAt w b A c s) (hl : s.L.length ≤ 1000000) (hr : s.tickOk n = r) (hs : s.tick n = s') (hx : s.told n = xs) (hk : xs.length = k) :
    Calls Try.prog 12 #[.pointer (some ⟨b, 0, none⟩), .int .i64 n] w (TickTo w b A s' xs k r) := by
  subst hk hr hs hx
  exact (tick_any b c A s n w h hl).mono fun e w' ⟨A', c', A2, c2, he, h1, h2, h3, h4⟩ => ⟨A', c', A2, c2, he, h1, h2, h3, h4⟩
theorem same_yes (A A' : Option Addr) (n c n' c' : Nat) (xs : List Int) (w : World) (B B' : Nat → Prop) (F F' : Bool) (hx : Reads w B F 1 A n (ints xs)) (hy : Reads w B' F' 1 A' n' (ints xs)) (hr : Roomy n 8) :
    Calls Try.prog 13 #[.slice A n c, .slice A' n' c'] w fun e w' => e = .returned (.bool true) ∧ Keeps NoB w w' := by
  have := same_ints A A' n c n' c' xs xs w B B' F F' hx hy hr
  rwa [show eqL xs xs = true from by simp [eqL]] at this
theorem lit_reads {w : World} {g : Nat} {xs : List Int} (h : Blk w g 3 (ints xs).toArray) : Reads w (fun _ => True) true 1 (some ⟨g, 0, none⟩) xs.length (ints xs) := by
  refine ⟨by simp, fun _ => ⟨_, rfl, rfl, trivial, h.lt, fun j u hu => ⟨?_, fun _ => h.free _⟩⟩⟩
  rw [h.cell, ← hu]; simp

set_option maxRecDepth 100000 in
set_option maxHeartbeats 2000000 in
theorem awake_any (w : World) : Calls Try.prog 8 #[] w fun e w' => e = .returned (.bool true) ∧ Keeps NoB w w' := by
  go_enter Try.func8, Try.ntmps8
  go_wp2_with (go_at_call 9; refine (new_any _).mono ?_; rintro e w' ⟨rfl, rfl⟩)
  have R0 := hide (Run.new w w (Keeps.refl NoB w))
  generalize w.alloc (.cells #[.int .i64 0, .bool true, .slice none 0 0] 47) = w0 at *
  generalize hbb : w.heap.size = b at *
  have HBB := hide hbb
  clear hbb
  refine (set_to b _ _ ⟨0, []⟩ ⟨0, [(5, 3)]⟩ true 3 5 w0 R0.out.at' (by simp) (by decide) (by rfl)).mono ?_
  rintro e w1 ⟨A1, c1, rfl, h1, h2, h3⟩
  have R1 := hide (R0.out.turn h1 h2 h3)
  clear h1 h2 h3 R0
  go_wp2_with fail
  refine (set_to b _ _ ⟨0, [(5, 3)]⟩ ⟨0, [(5, 1), (5, 3)]⟩ true 1 5 w1 R1.out.at' (by simp) (by decide) (by rfl)).mono ?_
  rintro e w2 ⟨A2, c2, rfl, h1, h2, h3⟩
  have R2 := hide (R1.out.turn h1 h2 h3)
  clear h1 h2 h3 R1
  go_wp2_with fail
  refine (set_to b _ _ ⟨0, [(5, 1), (5, 3)]⟩ ⟨0, [(0, 2), (5, 1), (5, 3)]⟩ true 2 0 w2 R2.out.at' (by simp) (by decide) (by rfl)).mono ?_
  rintro e w3 ⟨A3, c3, rfl, h1, h2, h3⟩
  have R3 := hide (R2.out.turn h1 h2 h3)
  clear h1 h2 h3 R2
  go_wp2_with fail
  refine (set_to b _ _ ⟨0, [(0, 2), (5, 1), (5, 3)]⟩ ⟨0, [(0, 2), (5, 1), (5, 3)]⟩ false 3 1 w3 R3.out.at' (by simp) (by decide) (by rfl)).mono ?_
  rintro e w4 ⟨A4, c4, rfl, h1, h2, h3⟩
  have R4 := hide (R3.out.turn h1 h2 h3)
  clear h1 h2 h3 R3
  go_wp2_with fail
  refine (waits_any b _ _ ⟨0, [(0, 2), (5, 1), (5, 3)]⟩ w4 R4.out.at' (by simp)).mono ?_
  rintro e w5 ⟨B5, d5, rfl, hk, ho⟩
  have R5 := hide (R4.out.fresh hk)
  have HO := hide ho.1
  clear hk ho R4
  go_wp2_with fail
  have hka : Keeps NoB w5 (w5.alloc (.cells #[.int .i64 2, .int .i64 1, .int .i64 3] 3)) := (Keeps.refl NoB w5).alloc _
  have HSM := hide (fun c c' => same_yes _ _ 3 c 3 c' [2, 1, 3] _ _ _ _ _ (HO.out.fresh hka).reads (lit_reads (xs := [2, 1, 3]) (Blk.new w5 3 #[.int .i64 2, .int .i64 1, .int .i64 3])) (Roomy.small (by omega) (by omega)))
  have R6a := hide (R5.out.fresh hka)
  clear hka R5
  generalize w5.alloc (.cells #[.int .i64 2, .int .i64 1, .int .i64 3] 3) = w5a at *
  refine (HSM.out _ _).mono ?_
  rintro e w6 ⟨rfl, hk⟩
  have R6 := hide (R6a.out.fresh hk)
  clear hk HSM R6a
  go_wp2_with fail
  refine (tick_to b _ _ ⟨0, [(0, 2), (5, 1), (5, 3)]⟩ ⟨0, [(5, 1), (5, 3)]⟩ [2] 1 true 0 w6 R6.out.at' (by simp) (by decide) (by rfl) (by rfl) rfl).mono ?_
  rintro e w7 ⟨AR7, cR7, BR7, dR7, rfl, h1, h2, h3, h4⟩
  have R7 := hide (R6.out.turn h1 h2 h3)
  have HA := hide h4.1
  clear h1 h2 h3 h4 R6
  go_wp2_with fail
  refine (tick_to b _ _ ⟨0, [(5, 1), (5, 3)]⟩ ⟨4, [(5, 1), (5, 3)]⟩ [] 0 true 4 w7 R7.out.at' (by simp) (by decide) (by rfl) (by rfl) rfl).mono ?_
  rintro e w8 ⟨AR8, cR8, BR8, dR8, rfl, h1, h2, h3, h4⟩
  have HA := hide (R7.out.at'.leaves HA.out h2)
  have R8 := hide (R7.out.turn h1 h2 h3)
  clear h1 h2 h3 h4 R7
  go_wp2_with fail
  refine (tick_to b _ _ ⟨4, [(5, 1), (5, 3)]⟩ ⟨5, []⟩ [1, 3] 2 true 1 w8 R8.out.at' (by simp) (by decide) (by rfl) (by rfl) rfl).mono ?_
  rintro e w9 ⟨AR9, cR9, BR9, dR9, rfl, h1, h2, h3, h4⟩
  have HA := hide (R8.out.at'.leaves HA.out h2)
  have R9 := hide (R8.out.turn h1 h2 h3)
  have HD := hide h4.1
  clear h1 h2 h3 h4 R8
  go_wp2_with fail
  refine (tick_to b _ _ ⟨5, []⟩ ⟨5, []⟩ [] 0 false (-1) w9 R9.out.at' (by simp) (by decide) (by rfl) (by rfl) rfl).mono ?_
  rintro e w10 ⟨AR10, cR10, BR10, dR10, rfl, h1, h2, h3, h4⟩
  have HA := hide (R9.out.at'.leaves HA.out h2)
  have HD := hide (R9.out.at'.leaves HD.out h2)
  have R10 := hide (R9.out.turn h1 h2 h3)
  clear h1 h2 h3 h4 R9
  go_wp2_with fail
  have hka : Keeps NoB w10 (w10.alloc (.cells #[.int .i64 2] 3)) := (Keeps.refl NoB w10).alloc _
  have HSM := hide (fun c c' => same_yes _ _ 1 c 1 c' [2] _ _ _ _ _ (HA.out.fresh hka).reads (lit_reads (xs := [2]) (Blk.new w10 3 #[.int .i64 2])) (Roomy.small (by omega) (by omega)))
  have R11a := hide (R10.out.fresh hka)
  have HD := hide (HD.out.fresh hka)
  clear hka R10
  generalize w10.alloc (.cells #[.int .i64 2] 3) = w10a at *
  refine (HSM.out _ _).mono ?_
  rintro e w11 ⟨rfl, hk⟩
  have R11 := hide (R11a.out.fresh hk)
  have HD := hide (HD.out.fresh hk)
  clear hk HSM R11a
  go_wp2_with fail
  have hka : Keeps NoB w11 (w11.alloc (.cells #[.int .i64 1, .int .i64 3] 3)) := (Keeps.refl NoB w11).alloc _
  have HSM := hide (fun c c' => same_yes _ _ 2 c 2 c' [1, 3] _ _ _ _ _ (HD.out.fresh hka).reads (lit_reads (xs := [1, 3]) (Blk.new w11 3 #[.int .i64 1, .int .i64 3])) (Roomy.small (by omega) (by omega)))
  have R12a := hide (R11.out.fresh hka)
  clear hka R11
  generalize w11.alloc (.cells #[.int .i64 1, .int .i64 3] 3) = w11a at *
  refine (HSM.out _ _).mono ?_
  rintro e w12 ⟨rfl, hk⟩
  have R12 := hide (R12a.out.fresh hk)
  clear hk HSM R12a
  go_wp2_with fail
  refine (now_at b 5 w12 (R12.out.at'.blk.cell 1) (R12.out.at'.blk.cell 0)).mono ?_
  rintro e w13 ⟨rfl, rfl⟩
  go_wp2_with fail
  go_ret
  exact ⟨rfl, R12.out.keep⟩
end Go.Proofs.Ytaiphjgklfioeaa
