/- maker.at: the arms that make no more than one test (a bound variable, a variable with a value, none). -/
import Derived.Test.YtdmldipnalklgaaAt1
namespace Go.Proofs.Ytdmldipnalklgaa
open Go.RowKit

/-- The three boxes that at begins with. -/
structure Boxes (w w3 : World) (mb bm bp bs : Nat) (cs : Array Value) (s : Int) : Prop where
  keep : Keeps NoB w w3
  m : Blk w3 bm 49 #[.pointer (some ⟨mb, 0, none⟩)]
  p : Blk w3 bp 30 cs
  s : Blk w3 bs 3 #[.int .i64 s]
theorem boxes_new (w : World) (mb : Nat) (cs : Array Value) (s : Int) : Boxes w (((w.alloc (.cells #[.pointer (some ⟨mb, 0, none⟩)] 49)).alloc (.cells cs 30)).alloc (.cells #[.int .i64 s] 3)) mb w.heap.size (w.heap.size + 1) (w.heap.size + 1 + 1) cs s :=
  ⟨(((Keeps.refl NoB w).alloc _).alloc _).alloc _, ((Blk.new w _ _).alloc _).alloc _, (Blk.new2 w _ _ _).alloc _, by
    have h := Blk.new ((w.alloc (.cells #[.pointer (some ⟨mb, 0, none⟩)] 49)).alloc (.cells cs 30)) 3 #[.int .i64 s]
    simpa using h⟩

set_option maxRecDepth 100000 in
set_option maxHeartbeats 1000000 in
theorem at_none (w : World) (kd : Int) (tx : ByteArray) (nm tk : Int) (ng : Bool) (la : Option Addr) (ln lc : Nat) (tt : ByteArray) (tn : Int) (ia : Option Addr) (im ic : Nat) (ta : Option Addr) (tm tc : Nat) (ka : Option Addr) (kn kc : Nat) (s : Int) (mb : Nat) (h : kd < 21 ∨ 26 < kd) :
    Calls Try.prog 15 #[.pointer (some ⟨mb, 0, none⟩), .agg #[.int .u8 kd, .string tx, .int .i64 nm, .int .u8 tk, .bool ng, .slice la ln lc, .string tt, .int .i64 tn, .slice ia im ic, .slice ta tm tc, .slice ka kn kc], .int .i64 s] w fun e w' => e = .returned (.slice none 0 0) ∧ Keeps NoB w w' := by
  have HK : Hid (Keeps NoB w (((w.alloc (.cells #[.pointer (some ⟨mb, 0, none⟩)] 49)).alloc (.cells #[.int .u8 kd, .string tx, .int .i64 nm, .int .u8 tk, .bool ng, .slice la ln lc, .string tt, .int .i64 tn, .slice ia im ic, .slice ta tm tc, .slice ka kn kc] 30)).alloc (.cells #[.int .i64 s] 3))) := hide ((((Keeps.refl NoB w).alloc _).alloc _).alloc _)
  have b1 : (kd == 21) = false := by simp; omega
  have b2 : (kd == 22) = false := by simp; omega
  have b3 : (kd == 23) = false := by simp; omega
  have b4 : (kd == 24) = false := by simp; omega
  have b5 : (kd == 25) = false := by simp; omega
  have b6 : (kd == 26) = false := by simp; omega
  clear h
  go_enter Try.func15, Try.ntmps15
  go_wp2
  go_ret
  exact ⟨rfl, HK.out⟩

def OneP (w : World) (i : Ins) (e : Ending) (w' : World) : Prop := ∃ A c, e = .returned (.slice A 1 c) ∧ Slab w' 44 8 A 1 c (insL [i]) ∧ (∀ k, rowB A k → w.heap.size ≤ k) ∧ Keeps NoB w w'

theorem OneP.of {w w3 : World} {i : Ins} {e : Ending} {w' : World} (h : OneP w3 i e w') (hk : Keeps NoB w w3) : OneP w i e w' := by
  obtain ⟨A, c, e1, h1, h2, h3⟩ := h
  exact ⟨A, c, e1, h1, fun k hr => Nat.le_trans hk.size (h2 k hr), hk.trans' h3 (fun _ _ => id) (fun _ _ => id)⟩
theorem rows_new (i : Ins) (w3 : World) (g : Nat) (hg : w3.heap.size = g) :
    Calls Try.prog 22 #[.slice (some ⟨g + 1, 0, none⟩) 1 1] ((w3.alloc (.cells #[.int .u8 i.op, .int .i64 i.a, .int .i64 i.b, .int .i64 i.c, .int .i64 i.n, .int .i64 i.l, .string { data := #[] }, .slice none 0 0] 44)).alloc (.cells #[.slice (some ⟨g, 0, none⟩) 1 1] 34)) (OneP w3 i) := by
  subst hg
  have hb2 := (Blk.new w3 44 #[.int .u8 i.op, .int .i64 i.a, .int .i64 i.b, .int .i64 i.c, .int .i64 i.n, .int .i64 i.l, .string { data := #[] }, .slice none 0 0]).alloc (.cells #[.slice (some ⟨w3.heap.size, 0, none⟩) 1 1] 34)
  have hb3 := Blk.new2 w3 (.cells #[.int .u8 i.op, .int .i64 i.a, .int .i64 i.b, .int .i64 i.c, .int .i64 i.n, .int .i64 i.l, .string { data := #[] }, .slice none 0 0] 44) 34 #[.slice (some ⟨w3.heap.size, 0, none⟩) 1 1]
  refine (rows_one i _ _ _ hb3 hb2).mono ?_
  rintro e w' ⟨A, c, e1, h1, h2, h3⟩
  have hk : Keeps NoB w3 _ := (((Keeps.refl NoB w3).alloc (.cells #[.int .u8 i.op, .int .i64 i.a, .int .i64 i.b, .int .i64 i.c, .int .i64 i.n, .int .i64 i.l, .string { data := #[] }, .slice none 0 0] 44)).alloc (.cells #[.slice (some ⟨w3.heap.size, 0, none⟩) 1 1] 34))
  exact ⟨A, c, e1, h1, fun k hr => Nat.le_trans hk.size (h2 k hr), hk.trans' h3 (fun _ _ => id) (fun _ _ => id)⟩

set_option maxRecDepth 100000 in
set_option maxHeartbeats 1000000 in
theorem at_bind (w : World) (kd : Int) (tx : ByteArray) (nm tk : Int) (ng : Bool) (la : Option Addr) (ln lc : Nat) (tt : ByteArray) (tn : Int) (ia : Option Addr) (im ic : Nat) (ta : Option Addr) (tm tc : Nat) (ka : Option Addr) (kn kc : Nat) (s : Int) (mb : Nat) (h : kd = 21) :
    Calls Try.prog 15 #[.pointer (some ⟨mb, 0, none⟩), .agg #[.int .u8 kd, .string tx, .int .i64 nm, .int .u8 tk, .bool ng, .slice la ln lc, .string tt, .int .i64 tn, .slice ia im ic, .slice ta tm tc, .slice ka kn kc], .int .i64 s] w (OneP w ⟨2, nm, s, 0, 0, 0⟩) := by
  subst h
  go_enter Try.func15, Try.ntmps15
  go_wp2_with
    first
    | (go_at_call 22
       generalize hw3 : (((w.alloc (.cells #[.pointer (some ⟨mb, 0, none⟩)] 49)).alloc (.cells #[.int .u8 21, .string tx, .int .i64 nm, .int .u8 tk, .bool ng, .slice la ln lc, .string tt, .int .i64 tn, .slice ia im ic, .slice ta tm tc, .slice ka kn kc] 30)).alloc (.cells #[.int .i64 s] 3)) = w3
       have hk3 : Keeps NoB w w3 := hw3 ▸ ((((Keeps.refl NoB w).alloc _).alloc _).alloc _)
       refine (rows_new ⟨2, nm, s, 0, 0, 0⟩ w3 (w.heap.size + 1 + 1 + 1) (by rw [← hw3]; simp)).mono ?_
       rintro e w4 hp
       obtain ⟨A4, c4, rfl, hp1⟩ := hp.of hk3
       have HP := hide hp1
       clear hp hp1 hk3 hw3)
    | fail
  go_ret
  exact ⟨A4, c4, rfl, HP.out⟩

set_option maxRecDepth 100000 in
set_option maxHeartbeats 1000000 in
theorem at_bound (w : World) (kd : Int) (tx : ByteArray) (nm tk : Int) (ng : Bool) (la : Option Addr) (ln lc : Nat) (tt : ByteArray) (tn : Int) (ia : Option Addr) (im ic : Nat) (ta : Option Addr) (tm tc : Nat) (ka : Option Addr) (kn kc : Nat) (s : Int) (mb : Nat) (h : kd = 22) :
    Calls Try.prog 15 #[.pointer (some ⟨mb, 0, none⟩), .agg #[.int .u8 kd, .string tx, .int .i64 nm, .int .u8 tk, .bool ng, .slice la ln lc, .string tt, .int .i64 tn, .slice ia im ic, .slice ta tm tc, .slice ka kn kc], .int .i64 s] w (OneP w (testI 16 s nm 0)) := by
  subst h
  have HK3 : Hid (Keeps NoB w (((w.alloc (.cells #[.pointer (some ⟨mb, 0, none⟩)] 49)).alloc (.cells #[.int .u8 22, .string tx, .int .i64 nm, .int .u8 tk, .bool ng, .slice la ln lc, .string tt, .int .i64 tn, .slice ia im ic, .slice ta tm tc, .slice ka kn kc] 30)).alloc (.cells #[.int .i64 s] 3))) := hide ((((Keeps.refl NoB w).alloc _).alloc _).alloc _)
  go_enter Try.func15, Try.ntmps15
  go_wp2_with
    first
    | (go_at_call 23
       refine (test_any 16 s nm 0 _).mono ?_
       rintro e w3 ⟨rfl, hk3⟩
       have HK4 : Hid (Keeps NoB w w3) := hide (HK3.out.trans' hk3 (fun _ _ => id) (fun _ _ => id))
       clear hk3)
    | (go_at_call 22
       refine (rows_new (testI 16 s nm 0) w3 w3.heap.size rfl).mono ?_
       rintro e w4 hp
       obtain ⟨A4, c4, rfl, hp1⟩ := hp.of HK4.out
       have HP := hide hp1
       clear hp hp1)
    | fail
  go_ret
  exact ⟨A4, c4, rfl, HP.out⟩
end Go.Proofs.Ytdmldipnalklgaa
