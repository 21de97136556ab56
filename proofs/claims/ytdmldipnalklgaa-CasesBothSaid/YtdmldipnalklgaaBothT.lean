/- What CasesBoth holds: what Pattern has told, in blocks of an interval. -/
import Derived.Test.YtdmldipnalklgaaAwake
import Derived.Test.YtdmldipnalklgaaBothLaw
import Derived.Test.YtdmldipnalklgaaPick
namespace Go.Proofs.Ytdmldipnalklgaa
open Go.RowKit

structure Held (lo hi : Nat) (r : Made) (A : Option Addr) (c : Nat) (A2 : Option Addr) (c2 : Nat) (css : List (List Value)) (w : World) : Prop where
  ins : Slab w 44 8 A r.ins.length c (insL r.ins)
  row : Slab w 27 7 A2 r.cs.length c2 (List.flatten css)
  cs : TermsIn w (fun k => (lo ≤ k ∧ k < hi) ∧ ¬ rowB A k ∧ ¬ rowB A2 k) true css r.cs
  newI : ∀ k, rowB A k → lo ≤ k ∧ k < hi
  newC : ∀ k, rowB A2 k → lo ≤ k ∧ k < hi
theorem Told.held {w w' : World} {r : Made} {A : Option Addr} {c : Nat} {A2 : Option Addr} {c2 : Nat} {css : List (List Value)} (h : Told w r A c A2 c2 css w') : Held w.heap.size w'.heap.size r A c A2 c2 css w' :=
  ⟨h.ins, h.row, TermsIn.more (fun k hl hb => ⟨⟨hb.1, hl⟩, hb.2⟩) _ _ h.cs, fun k hr => ⟨h.newI k hr, h.ins.lt hr⟩, fun k hr => ⟨h.newC k hr, h.row.lt hr⟩⟩
theorem Held.keep {lo hi : Nat} {fp : Nat → Prop} {w w' : World} {r : Made} {A : Option Addr} {c : Nat} {A2 : Option Addr} {c2 : Nat} {css : List (List Value)} (h : Held lo hi r A c A2 c2 css w) (hk : Keeps fp w w') (hf : ∀ k, lo ≤ k → k < hi → ¬ fp k) : Held lo hi r A c A2 c2 css w' :=
  ⟨h.ins.keep hk (fun k hr => hf k (h.newI k hr).1 (h.newI k hr).2), h.row.keep hk (fun k hr => hf k (h.newC k hr).1 (h.newC k hr).2), TermsIn.keep hk (fun k hb => hf k hb.1.1 hb.1.2) _ _ h.cs, h.newI, h.newC⟩
theorem Held.fresh {lo hi : Nat} {w w' : World} {r : Made} {A : Option Addr} {c : Nat} {A2 : Option Addr} {c2 : Nat} {css : List (List Value)} (h : Held lo hi r A c A2 c2 css w) (hk : Keeps NoB w w') : Held lo hi r A c A2 c2 css w' := h.keep hk (fun _ _ _ => id)
theorem Held.apart {lo hi : Nat} {w : World} {r : Made} {A : Option Addr} {c : Nat} {A2 : Option Addr} {c2 : Nat} {css : List (List Value)} (h : Held lo hi r A c A2 c2 css w) (k : Nat) (h1 : rowB A k) : ¬ rowB A2 k := by
  intro h2
  obtain ⟨_, _, _, ⟨h0, _⟩ | ⟨g, o, cur, h0, hb, _⟩⟩ := h.row
  · obtain ⟨o, e⟩ := h2; rw [h0] at e; cases e
  · obtain ⟨o2, e⟩ := h2
    rw [h0] at e
    injection e with e; injection e with e
    subst e
    exact h.ins.ne hb (by decide) h1
def HeldPost (w : World) (r : Made) (e : Ending) (w' : World) : Prop :=
  ∃ A c A2 c2 css, e = .returned (.tuple #[.slice A r.ins.length c, .slice A2 r.cs.length c2, .int .i64 r.next]) ∧ Held w.heap.size w'.heap.size r A c A2 c2 css w' ∧ Keeps NoB w w'
theorem pat_held (r : Made) (t : Co) (w : World) (B : Nat → Prop) (F : Bool) (kd : Int) (tx : ByteArray) (nm tk : Int) (ng : Bool) (la : Option Addr) (ln lc : Nat) (tt : ByteArray) (tn : Int) (ia : Option Addr) (im ic : Nat) (ta : Option Addr) (tm tc : Nat) (ka : Option Addr) (kn kc : Nat) (s free : Int) (hr : patC t s free = r) (ht : CoreIn w B F [.int .u8 kd, .string tx, .int .i64 nm, .int .u8 tk, .bool ng, .slice la ln lc, .string tt, .int .i64 tn, .slice ia im ic, .slice ta tm tc, .slice ka kn kc] t) (hB : ∀ k, B k → k < w.heap.size) (hc : t.count ≤ 900000) :
    Calls Try.prog 7 #[.agg #[.int .u8 kd, .string tx, .int .i64 nm, .int .u8 tk, .bool ng, .slice la ln lc, .string tt, .int .i64 tn, .slice ia im ic, .slice ta tm tc, .slice ka kn kc], .int .i64 s, .int .i64 free] w (HeldPost w r) := by
  subst hr
  refine (pat_any t w F kd tx nm tk ng la ln lc tt tn ia im ic ta tm tc ka kn kc s free (CoreIn.more (fun k _ h => hB k h) _ _ ht) hc).mono ?_
  rintro e w' ⟨A, c, A2, c2, css, rfl, h⟩
  exact ⟨A, c, A2, c2, css, rfl, h.held, h.keep⟩
/-- of's core of two. -/
theorem both_in {w : World} {B : Nat → Prop} {F : Bool} {g : Nat} {xs ys : List Value} {p q : Co} (hb : Blk w g 30 (xs ++ ys).toArray) (hg : B g) (hp : CoreIn w B F xs p) (hq : CoreIn w B F ys q) :
    CoreIn w B F [.int .u8 26, .string { data := #[] }, .int .i64 0, .int .u8 0, .bool false, .slice none 0 0, .string { data := #[] }, .int .i64 0, .slice none 0 0, .slice none 0 0, .slice (some ⟨g, 0, none⟩) 2 2] (bothT p q) := by
  have h := two_cores hb hg hp hq
  exact core_of 26 0 0 { data := #[] } h.1 h.2 (by unfold Roomy; omega)
theorem any_in {w : World} {B : Nat → Prop} {F : Bool} : CoreIn w B F [.int .u8 20, .string { data := #[] }, .int .i64 0, .int .u8 0, .bool false, .slice none 0 0, .string { data := #[] }, .int .i64 0, .slice none 0 0, .slice none 0 0, .slice none 0 0] (anyT 0) := core_flat 20 0 0 { data := #[] }
theorem both_count (p q : Co) : (bothT p q).count = 1 + (p.count + q.count) := by simp [bothT, Co.count, Co.count.counts]
theorem any_count (n : Int) : (anyT n).count = 1 := by simp [anyT, Co.count, Co.count.counts]
/-- The first k with constants told by where they begin. -/
def turnL (d : Int) (l : List Ins) (k : Nat) : List Ins := (l.take k).map (shiftI d) ++ l.drop k
theorem turn_zero (d : Int) (l : List Ins) : turnL d l 0 = l := by simp [turnL]
theorem turn_all (d : Int) (l : List Ins) {k : Nat} (hk : l.length ≤ k) : turnL d l k = l.map (shiftI d) := by
  unfold turnL
  rw [List.take_of_length_le hk, List.drop_of_length_le hk, List.append_nil]
theorem turn_len (d : Int) (l : List Ins) (k : Nat) : (turnL d l k).length = l.length := by
  unfold turnL
  rw [List.length_append, List.length_map, List.length_take, List.length_drop]
  omega
theorem turn_get (d : Int) (l : List Ins) {k : Nat} {i : Ins} (h : l[k]? = some i) : (turnL d l k)[k]? = some i := by
  have hk : k < l.length := (List.getElem?_eq_some_iff.1 h).1
  unfold turnL
  rw [List.getElem?_append_right (by simp; omega), List.getElem?_drop, List.length_map, List.length_take, Nat.min_eq_left (by omega), Nat.sub_self, Nat.add_zero, h]
theorem turn_same (d : Int) (l : List Ins) {k : Nat} {i : Ins} (h : l[k]? = some i) (ho : i.op ≠ 15) : turnL d l (k + 1) = turnL d l k := by
  have hk : k < l.length := (List.getElem?_eq_some_iff.1 h).1
  have hd : l.drop k = i :: l.drop (k + 1) := by rw [List.drop_eq_getElem_cons hk]; congr 1; exact (List.getElem?_eq_some_iff.1 h).2
  unfold turnL
  rw [List.take_add_one, h, hd]
  simp [shiftI, ho]
theorem turn_set (d : Int) (l : List Ins) {k : Nat} {i : Ins} (h : l[k]? = some i) (ho : i.op = 15) : (insL (turnL d l k)).set (k * 8 + 4) (.int .i64 (i.n + d)) = insL (turnL d l (k + 1)) := by
  have hk : k < l.length := (List.getElem?_eq_some_iff.1 h).1
  have hd : l.drop k = i :: l.drop (k + 1) := by rw [List.drop_eq_getElem_cons hk]; congr 1; exact (List.getElem?_eq_some_iff.1 h).2
  have hl : (insL ((l.take k).map (shiftI d))).length = k * 8 := by rw [insL_len, List.length_map, List.length_take, Nat.min_eq_left (by omega)]
  unfold turnL
  rw [insL_append, hd, List.set_append_right _ _ (by omega), hl, Nat.add_sub_cancel_left, List.take_add_one, h, List.map_append, insL_append, insL_append, List.append_assoc]
  congr 1
  simp [insL, insC, shiftI, ho]
end Go.Proofs.Ytdmldipnalklgaa
