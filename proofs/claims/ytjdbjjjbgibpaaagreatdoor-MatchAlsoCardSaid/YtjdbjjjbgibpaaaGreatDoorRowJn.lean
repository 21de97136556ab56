/- A whole as a tree, and back. bif.Call at one and at two arguments, by what one and two tell. Printed by mkcallr.py. A row of digits that the call itself makes. -/
import Derived.Test.YtjdbjjjbgibpaaaGreatDoorAreJn
import Derived.Test.YtjdbjjjbgibpaaaGreatDoorLitLJn
import Derived.Test.YtjdbjjjbgibpaaaGreatDoorTmOpenJn
import Derived.OwnWalk
namespace Go.Proofs.YtjdbjjjbgibpaaaGreatDoor
set_option maxRecDepth 100000
open Go.RowKit

def intTm (z : Int) : Tm := .mk 1 (decide (z < 0)) ((dig z.natAbs).map Int.ofNat) ByteArray.empty 0 [] []
theorem u32s_ofNat (l : List Nat) : (l.map Int.ofNat).map (Value.int .u32) = u32s l := by
  unfold u32s
  rw [List.map_map]
  rfl
theorem IA.tm {w : World} {B : Nat → Prop} {ng : Bool} {A : Option Addr} {n c : Nat} {z : Int} (h : IA w B ng A n c z) : TermIn w B false [.int .u8 1, .bool ng, .slice A n c, .string ⟨#[]⟩, .int .i64 0, .slice none 0 0, .slice none 0 0] (intTm z) := by
  obtain ⟨⟨F, hr⟩, _, hnc, hc⟩ := h.limbs
  have hn : n ≤ 32 := h.len
  unfold intTm TermIn
  rw [u32s_ofNat]
  refine ⟨A, n, c, none, 0, 0, none, 0, 0, [], [], by rw [← h.sign]; rfl, ⟨⟨by unfold Roomy; omega, hnc, hc⟩, RoomC.zero _, RoomC.zero _⟩, ?_, Reads.zero _ _ _ _ _, by unfold TermsIn; trivial, Reads.zero _ _ _ _ _, by unfold TermsIn; trivial⟩
  cases F with
  | true => exact hr.weak
  | false => exact hr
end Go.Proofs.YtjdbjjjbgibpaaaGreatDoor
namespace Go.Proofs.YtjdbjjjbgibpaaaGreatDoor
set_option maxRecDepth 100000
open Go.RowKit

theorem one_readsC {w : World} {g : Nat} {kd : Int} {ng : Bool} {la : Option Addr} {ln lc : Nat} {tx : ByteArray} {nm : Int} {ia : Option Addr} {im ic : Nat} {ta : Option Addr} {tn tc : Nat} (h : Blk w g 26 #[.int .u8 kd, .bool ng, .slice la ln lc, .string tx, .int .i64 nm, .slice ia im ic, .slice ta tn tc]) : Reads w (fun _ => True) false 7 (some ⟨g, 0, none⟩) 1 [[.int .u8 kd, .bool ng, .slice la ln lc, .string tx, .int .i64 nm, .slice ia im ic, .slice ta tn tc]].flatten :=
  ⟨rfl, fun _ => ⟨_, rfl, rfl, trivial, h.lt, fun j u hu => ⟨by rw [h.cell, Nat.zero_add]; simpa using hu, fun h => by cases h⟩⟩⟩
def ResB (N : Nat) (w : World) : Nat → Prop := fun k => k < N ∨ w.heap.size ≤ k
/-- A value, and what is raised: what bif's inner functions answer. -/
def ResP (N : Nat) (w : World) (v r : Tm) (e : Ending) (w' : World) : Prop := ∃ (kv : Int) (gv : Bool) (lv : Option Addr) (lvn lvc : Nat) (sv : ByteArray) (mv : Int) (iv : Option Addr) (ivn ivc : Nat) (tv : Option Addr) (tvn tvc : Nat) (kr : Int) (gr : Bool) (lr : Option Addr) (lrn lrc : Nat) (sr : ByteArray) (mr : Int) (ir : Option Addr) (irn irc : Nat) (tr : Option Addr) (trn trc : Nat), e = .returned (.agg #[.int .u8 kv, .bool gv, .slice lv lvn lvc, .string sv, .int .i64 mv, .slice iv ivn ivc, .slice tv tvn tvc, .int .u8 kr, .bool gr, .slice lr lrn lrc, .string sr, .int .i64 mr, .slice ir irn irc, .slice tr trn trc]) ∧ TermIn w' (ResB N w) false [.int .u8 kv, .bool gv, .slice lv lvn lvc, .string sv, .int .i64 mv, .slice iv ivn ivc, .slice tv tvn tvc] v ∧ TermIn w' (ResB N w) false [.int .u8 kr, .bool gr, .slice lr lrn lrc, .string sr, .int .i64 mr, .slice ir irn irc, .slice tr trn trc] r ∧ Keeps NoB w w'
def CallR (w : World) (v r : Tm) (e : Ending) (w' : World) : Prop := ∃ (kv : Int) (gv : Bool) (lv : Option Addr) (lvn lvc : Nat) (sv : ByteArray) (mv : Int) (iv : Option Addr) (ivn ivc : Nat) (tv : Option Addr) (tvn tvc : Nat) (kr : Int) (gr : Bool) (lr : Option Addr) (lrn lrc : Nat) (sr : ByteArray) (mr : Int) (ir : Option Addr) (irn irc : Nat) (tr : Option Addr) (trn trc : Nat), e = .returned (.tuple #[.agg #[.int .u8 kv, .bool gv, .slice lv lvn lvc, .string sv, .int .i64 mv, .slice iv ivn ivc, .slice tv tvn tvc], .agg #[.int .u8 kr, .bool gr, .slice lr lrn lrc, .string sr, .int .i64 mr, .slice ir irn irc, .slice tr trn trc], .bool true]) ∧ TermIn w' (fun k => w.heap.size ≤ k) false [.int .u8 kv, .bool gv, .slice lv lvn lvc, .string sv, .int .i64 mv, .slice iv ivn ivc, .slice tv tvn tvc] v ∧ TermIn w' (fun k => w.heap.size ≤ k) false [.int .u8 kr, .bool gr, .slice lr lrn lrc, .string sr, .int .i64 mr, .slice ir irn irc, .slice tr trn trc] r ∧ Keeps NoB w w'
theorem kind_cells {w : World} {B : Nat → Prop} {F : Bool} {t : Tm} {k : Int} {v1 v2 v3 v4 v5 v6 : Value} (h : TermIn w B F [.int .u8 k, v1, v2, v3, v4, v5, v6] t) : k = t.kind := by
  obtain ⟨_, _, _, _, _, _, _, _, _, _, _, _, _, he, e1, _⟩ := h.cells
  simp only [List.cons.injEq, Value.int.injEq, true_and] at he
  exact he.1.trans e1
end Go.Proofs.YtjdbjjjbgibpaaaGreatDoor
namespace Go.Proofs.YtjdbjjjbgibpaaaGreatDoor
set_option maxRecDepth 100000
set_option maxRecDepth 100000
open Go.RowKit

/-- Block g is just these digits. -/
def RowAt (w : World) (g : Nat) (l : List Nat) : Prop := Blk w g 86 (u32s l).toArray
section
variable {w w' : World} {g : Nat} {l : List Nat} {fp : Nat → Prop}
theorem RowAt.lt (h : RowAt w g l) : g < w.heap.size := Blk.lt h
theorem RowAt.cell (h : RowAt w g l) {i : Nat} (hi : i < l.length) : w.cell? ⟨g, i, none⟩ = some (.int .u32 ((l.getD i 0 : Nat) : Int)) := by
  rw [Blk.cell h i, List.getElem?_toArray, u32s_get hi]
theorem RowAt.free (h : RowAt w g l) (i : Nat) : w.frozen? ⟨g, i, none⟩ = false := Blk.free h i
theorem RowAt.keep (h : RowAt w g l) (hk : Keeps fp w w') (hg : ¬ fp g) : RowAt w' g l := Blk.keep h hk hg
theorem RowAt.put (h : RowAt w g l) (i : Nat) {v : Int} {n : Nat} (hv : v = (n : Int)) : RowAt (w.setCell ⟨g, i, none⟩ (.int .u32 v)) g (l.set i n) := by
  subst hv
  have := Blk.put h i (.int .u32 (n : Int))
  unfold RowAt
  rw [u32s_set]
  simpa using this
theorem RowAt.drew (h : RowAt w g l) : RowAt w.drew g l := h
theorem RowAt.limbs (h : RowAt w g l) {n : Nat} (hn : l.length = n) (hm : n ≤ maxLen) (hl : Low l) : LimbsIn w (fun k => k = g) (some ⟨g, 0, none⟩) n n l := by
  have hs : Slab w 86 1 (some ⟨g, 0, none⟩) n n (u32s l) := Slab.mk' (by rw [u32s_len]; omega) (Nat.le_refl _) hm h (by simp [u32s_len, hn]) (fun j hj => by rw [List.getElem?_toArray, Nat.zero_add])
  exact (LimbsIn.of_slab hs hl).more (fun k _ ⟨o, e⟩ => by injection e with e; injection e with e; exact e.symm)
end
/-- Yes or no. -/
def AnyK (w' : World) (B : Nat → Prop) (z : Int) (kd : Int) (ng : Bool) (A : Option Addr) (n c : Nat) (ok : Bool) : Prop := (ok = true ∧ kd = 1 ∧ IA w' B ng A n c z) ∨ (ok = false ∧ kd = 0 ∧ ng = false ∧ A = none ∧ n = 0 ∧ c = 0 ∧ Big ≤ z.natAbs)
def AnyP (w : World) (z : Int) (e : Ending) (w' : World) : Prop := ∃ kd ng A n c ok, e = .returned (.tuple #[.agg #[.int .u8 kd, .bool ng, .slice A n c, .string { data := #[] }, .int .i64 0, .slice none 0 0, .slice none 0 0], .bool ok]) ∧ AnyK w' (fun k => w.heap.size ≤ k) z kd ng A n c ok ∧ Keeps NoB w w'
theorem AnyK.far {w w' : World} {B fp : Nat → Prop} {z kd : Int} {ng ok : Bool} {A : Option Addr} {n c : Nat} (h : AnyK w B z kd ng A n c ok) (hk : Keeps fp w w') (hf : ∀ k, B k → ¬ fp k) : AnyK w' B z kd ng A n c ok := by
  rcases h with ⟨h1, h2, h3⟩ | h
  · exact .inl ⟨h1, h2, h3.far hk hf⟩
  · exact .inr h
theorem AnyK.more {w : World} {B B' : Nat → Prop} {z kd : Int} {ng ok : Bool} {A : Option Addr} {n c : Nat} (h : AnyK w B z kd ng A n c ok) (hB : ∀ k, k < w.heap.size → B k → B' k) : AnyK w B' z kd ng A n c ok := by
  rcases h with ⟨h1, h2, h3⟩ | h
  · exact .inl ⟨h1, h2, h3.more hB⟩
  · exact .inr h
theorem IA.toNat {w : World} {B : Nat → Prop} {ng : Bool} {A : Option Addr} {n c : Nat} {z : Int} (h : IA w B ng A n c z) : nat (dig z.natAbs) = z.natAbs := nat_dig _
end Go.Proofs.YtjdbjjjbgibpaaaGreatDoor
