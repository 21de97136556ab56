/- bif.raise: its contract. Printed by mkraise.py. bif.bad: its contract. Printed by mkraise.py. slices.ContainsFunc at bif.are's own function: are terms all of a kind? A whole as a tree, and back. bif.Call at one and at two arguments, by what one and two tell. Printed by mkcallr.py. A row of digits that the call itself makes. -/
import Derived.Test.YtjdbjjjbgibpaaaGreatDoorLitLJn
import Derived.Test.YtjdbjjjbgibpaaaGreatDoorCompareJn
import Derived.OwnWalk
namespace Go.Proofs.YtjdbjjjbgibpaaaGreatDoor
set_option maxRecDepth 100000
open Go.RowKit

def RaiseP (w : World) (cs : Array Value) (e : Ending) (w' : World) : Prop := ∃ g, e = .returned (.agg #[.int .u8 0, .bool false, .slice none 0 0, .string ⟨#[]⟩, .int .i64 0, .slice none 0 0, .slice none 0 0, .int .u8 6, .bool false, .slice none 0 0, .string ⟨#[]⟩, .int .i64 0, .slice (some ⟨g, 0, none⟩) 2 2, .slice none 0 0]) ∧ w.heap.size ≤ g ∧ Blk w' g 26 cs ∧ Keeps NoB w w'
set_option maxRecDepth 100000 in
set_option maxHeartbeats 1000000 in
theorem raise_any (s : ByteArray) (kd : Int) (ng : Bool) (la : Option Addr) (ln lc : Nat) (tx : ByteArray) (nm : Int) (ia : Option Addr) (im ic : Nat) (ta : Option Addr) (tn tc : Nat) (w : World) : Calls Tryz.prog 76 #[.string s, .agg #[.int .u8 kd, .bool ng, .slice la ln lc, .string tx, .int .i64 nm, .slice ia im ic, .slice ta tn tc]] w (RaiseP w #[.int .u8 2, .bool false, .slice none 0 0, .string s, .int .i64 0, .slice none 0 0, .slice none 0 0, .int .u8 kd, .bool ng, .slice la ln lc, .string tx, .int .i64 nm, .slice ia im ic, .slice ta tn tc]) := by
  have HC := hide ((Blk.new w 26 #[.int .u8 kd, .bool ng, .slice la ln lc, .string tx, .int .i64 nm, .slice ia im ic, .slice ta tn tc]).alloc (.cells #[.int .u8 0, .bool false, .slice none 0 0, .string ⟨#[]⟩, .int .i64 0, .slice none 0 0, .slice none 0 0, .int .u8 0, .bool false, .slice none 0 0, .string ⟨#[]⟩, .int .i64 0, .slice none 0 0, .slice none 0 0] 99))
  have HB := hide (Blk.new2 w (.cells #[.int .u8 kd, .bool ng, .slice la ln lc, .string tx, .int .i64 nm, .slice ia im ic, .slice ta tn tc] 26) 99 #[.int .u8 0, .bool false, .slice none 0 0, .string ⟨#[]⟩, .int .i64 0, .slice none 0 0, .slice none 0 0, .int .u8 0, .bool false, .slice none 0 0, .string ⟨#[]⟩, .int .i64 0, .slice none 0 0, .slice none 0 0])
  have HK := hide (((Keeps.refl NoB w).alloc (.cells #[.int .u8 kd, .bool ng, .slice la ln lc, .string tx, .int .i64 nm, .slice ia im ic, .slice ta tn tc] 26)).alloc (.cells #[.int .u8 0, .bool false, .slice none 0 0, .string ⟨#[]⟩, .int .i64 0, .slice none 0 0, .slice none 0 0, .int .u8 0, .bool false, .slice none 0 0, .string ⟨#[]⟩, .int .i64 0, .slice none 0 0, .slice none 0 0] 99))
  go_enter Tryz.func76, Tryz.ntmps76
  go_upto_region 1 with fail
  generalize (w.alloc (.cells #[.int .u8 kd, .bool ng, .slice la ln lc, .string tx, .int .i64 nm, .slice ia im ic, .slice ta tn tc] 26)).alloc (.cells #[.int .u8 0, .bool false, .slice none 0 0, .string ⟨#[]⟩, .int .i64 0, .slice none 0 0, .slice none 0 0, .int .u8 0, .bool false, .slice none 0 0, .string ⟨#[]⟩, .int .i64 0, .slice none 0 0, .slice none 0 0] 99) = w1 at *
  refine order_begin (fun W => Keeps NoB w1 W) (fun i => !(i == 6)) (by kernel_rfl) 7 rfl ?_
  have HS : Keeps NoB w1 w1.drew := (Keeps.refl _ _).drew
  refine order_pure (i := 0) rfl (by kernel_rfl) (fun _ _ _ h => h) (.inl ⟨rfl, fun _ => by go_simp; rfl⟩) ?_
  try simp only [Act.put, List.setIfInBounds_toArray, List.set_cons_succ, List.set_cons_zero]
  refine order_held (i := 2) rfl (by kernel_rfl) (fun _ _ _ h => h) (.inl ⟨rfl, fun W hW => by
    have q0 : W.cell? ⟨w.heap.size, 0, none⟩ = some (.int .u8 kd) := hW.cell id (HC.out.cell 0)
    have q1 : W.cell? ⟨w.heap.size, 1, none⟩ = some (.bool ng) := hW.cell id (HC.out.cell 1)
    have q2 : W.cell? ⟨w.heap.size, 2, none⟩ = some (.slice la ln lc) := hW.cell id (HC.out.cell 2)
    have q3 : W.cell? ⟨w.heap.size, 3, none⟩ = some (.string tx) := hW.cell id (HC.out.cell 3)
    have q4 : W.cell? ⟨w.heap.size, 4, none⟩ = some (.int .i64 nm) := hW.cell id (HC.out.cell 4)
    have q5 : W.cell? ⟨w.heap.size, 5, none⟩ = some (.slice ia im ic) := hW.cell id (HC.out.cell 5)
    have q6 : W.cell? ⟨w.heap.size, 6, none⟩ = some (.slice ta tn tc) := hW.cell id (HC.out.cell 6)
    go_simp; rfl⟩) HS ?_
  try simp only [Act.put, List.setIfInBounds_toArray, List.set_cons_succ, List.set_cons_zero]
  refine order_one (i := 1) rfl (by kernel_rfl) (fun K hK => ?_)
  go_simp
  refine (atom_any s _).mono ?_
  rintro e w2 ⟨rfl, hk2⟩
  unfold atomV
  have HK2 := hide (HS.trans' hk2 (fun _ _ => id) (fun _ _ => id) : Keeps NoB w1 w2)
  refine hK _ _ (fun _ _ => HK2.out) ?_
  clear hK hk2
  try simp only [Act.put, List.setIfInBounds_toArray, List.set_cons_succ, List.set_cons_zero]
  refine order_one (i := 3) rfl (by kernel_rfl) (fun K hK => ?_)
  go_simp
  refine hK _ _ (fun _ h => h.alloc _) ?_
  clear hK
  try simp only [Act.put, List.setIfInBounds_toArray, List.set_cons_succ, List.set_cons_zero]
  have HN := hide (Blk.new w2 26 #[.int .u8 2, .bool false, .slice none 0 0, .string s, .int .i64 0, .slice none 0 0, .slice none 0 0, .int .u8 kd, .bool ng, .slice la ln lc, .string tx, .int .i64 nm, .slice ia im ic, .slice ta tn tc])
  have HK3 := hide (HK2.out.alloc (.cells #[.int .u8 2, .bool false, .slice none 0 0, .string s, .int .i64 0, .slice none 0 0, .slice none 0 0, .int .u8 kd, .bool ng, .slice la ln lc, .string tx, .int .i64 nm, .slice ia im ic, .slice ta tn tc] 26))
  have HG := hide (show w.heap.size ≤ w2.heap.size from Nat.le_trans HK.out.size HK2.out.size)
  have HLT := hide HB.out.lt
  generalize w2.alloc (.cells #[.int .u8 2, .bool false, .slice none 0 0, .string s, .int .i64 0, .slice none 0 0, .slice none 0 0, .int .u8 kd, .bool ng, .slice la ln lc, .string tx, .int .i64 nm, .slice ia im ic, .slice ta tn tc] 26) = w3 at *
  have HLU := hide HK2.out.size
  generalize w2.heap.size = g at *
  refine order_one (i := 4) rfl (by kernel_rfl) (fun K hK => ?_)
  go_simp
  refine (bif_tuple (some ⟨g, 0, none⟩) 2 2 w3).mono ?_
  rintro e w4 ⟨rfl, hk4⟩
  have HK4 := hide (HK3.out.trans' hk4 (fun _ _ => id) (fun _ _ => id) : Keeps NoB w1 w4)
  have HN4 := hide (HN.out.keep hk4 id)
  have HB4 := hide (HB.out.keep HK4.out id)
  refine hK _ _ (fun _ _ => HK4.out) ?_
  clear hK hk4
  try simp only [Act.put, List.setIfInBounds_toArray, List.set_cons_succ, List.set_cons_zero]
  refine order_pure (i := 5) rfl (by kernel_rfl) (fun _ _ _ h => h) (.inl ⟨rfl, fun _ => by go_simp; rfl⟩) ?_
  try simp only [Act.put, List.setIfInBounds_toArray, List.set_cons_succ, List.set_cons_zero]
  obtain ⟨z0, z1, z2, z3, z4, z5, z6, z7, z8, z9, z10, z11, z12, z13⟩ := Blk.f14 (w := w4) (g := w.heap.size + 1) HB4.out
  obtain ⟨v0, v1, v2, v3, v4, v5, v6, v7, v8, v9, v10, v11, v12, v13⟩ := Blk.c14 (show Blk w4 (w.heap.size + 1) _ #[.int .u8 0, .bool false, .slice none 0 0, .string ⟨#[]⟩, .int .i64 0, .slice none 0 0, .slice none 0 0, .int .u8 0, .bool false, .slice none 0 0, .string ⟨#[]⟩, .int .i64 0, .slice none 0 0, .slice none 0 0] from HB4.out)
  refine order_one (i := 6) rfl (by kernel_rfl) (fun K hK => ?_)
  go_simp
  refine hK _ _ (fun h => absurd h (by decide)) ?_
  clear hK
  try simp only [Act.put, List.setIfInBounds_toArray, List.set_cons_succ, List.set_cons_zero]
  refine order_done (by kernel_rfl) ?_
  go_wp2_with fail
  refine bodyPost_ret (results14 Tryz.f76 4 (by kernel_rfl) _ _ _ _ _ _ _ _ _ _ _ _ _ _ _ _ _ rfl (HB4.out.tput14 _ _ _ _ _ _ _ _ _ _ _ _ _ _)) rfl ?_
  exact ⟨g, rfl, HG.out, HN4.out.keep (keeps_tput14 w4 (w.heap.size + 1) _ _ _ _ _ _ _ _ _ _ _ _ _ _) (fun e => by have := HLT.out; have := HLU.out; omega), (HK.out.trans' HK4.out (fun _ _ => id) (fun _ _ => id) : Keeps NoB w w4).trans' (keeps_tput14 w4 (w.heap.size + 1) _ _ _ _ _ _ _ _ _ _ _ _ _ _) (fun _ _ => id) (fun i hi e => by omega)⟩
end Go.Proofs.YtjdbjjjbgibpaaaGreatDoor
namespace Go.Proofs.YtjdbjjjbgibpaaaGreatDoor
set_option maxRecDepth 100000
open Go.RowKit

set_option maxRecDepth 100000 in
set_option maxHeartbeats 1000000 in
theorem bad_any (s : ByteArray) (w : World) : Calls Tryz.prog 71 #[.string s] w (RaiseP w #[.int .u8 2, .bool false, .slice none 0 0, .string ⟨#[101, 114, 114, 111, 114]⟩, .int .i64 0, .slice none 0 0, .slice none 0 0, .int .u8 2, .bool false, .slice none 0 0, .string s, .int .i64 0, .slice none 0 0, .slice none 0 0]) := by
  have HB0 := hide (Blk.new w 99 #[.int .u8 0, .bool false, .slice none 0 0, .string ⟨#[]⟩, .int .i64 0, .slice none 0 0, .slice none 0 0, .int .u8 0, .bool false, .slice none 0 0, .string ⟨#[]⟩, .int .i64 0, .slice none 0 0, .slice none 0 0])
  have HK0 := hide ((Keeps.refl NoB w).alloc (.cells #[.int .u8 0, .bool false, .slice none 0 0, .string ⟨#[]⟩, .int .i64 0, .slice none 0 0, .slice none 0 0, .int .u8 0, .bool false, .slice none 0 0, .string ⟨#[]⟩, .int .i64 0, .slice none 0 0, .slice none 0 0] 99))
  have HL := hide HB0.out.lt
  go_enter Tryz.func71, Tryz.ntmps71
  go_upto_region 1 with fail
  generalize w.alloc (.cells #[.int .u8 0, .bool false, .slice none 0 0, .string ⟨#[]⟩, .int .i64 0, .slice none 0 0, .slice none 0 0, .int .u8 0, .bool false, .slice none 0 0, .string ⟨#[]⟩, .int .i64 0, .slice none 0 0, .slice none 0 0] 99) = w0 at *
  go_wp2_with
    first
    | (go_at_call 94
       refine (atom_any s w0).mono ?_
       rintro e w1 ⟨rfl, hk1⟩
       unfold atomV
       have HK1 := hide (HK0.out.trans' hk1 (fun _ _ => id) (fun _ _ => id) : Keeps NoB w w1)
       have HB1 := hide (HB0.out.keep hk1 id)
       have HS1 := hide hk1.size
       clear hk1)
    | (go_at_call 76
       refine (raise_any ⟨#[101, 114, 114, 111, 114]⟩ _ _ _ _ _ _ _ _ _ _ _ _ _ w1).mono ?_
       rintro e w2 ⟨g, rfl, hg, hb, hk2⟩
       have HK2 := hide (HK1.out.trans' hk2 (fun _ _ => id) (fun _ _ => id) : Keeps NoB w w2)
       have HB2 := hide (HB1.out.keep hk2 id)
       have HG := hide hg; have HN := hide hb
       obtain ⟨z0, z1, z2, z3, z4, z5, z6, z7, z8, z9, z10, z11, z12, z13⟩ := Blk.f14 (w := w2) (g := w.heap.size) HB2.out
       obtain ⟨v0, v1, v2, v3, v4, v5, v6, v7, v8, v9, v10, v11, v12, v13⟩ := Blk.c14 (show Blk w2 (w.heap.size) _ #[.int .u8 0, .bool false, .slice none 0 0, .string ⟨#[]⟩, .int .i64 0, .slice none 0 0, .slice none 0 0, .int .u8 0, .bool false, .slice none 0 0, .string ⟨#[]⟩, .int .i64 0, .slice none 0 0, .slice none 0 0] from HB2.out)
       clear hk2 hg hb)
    | fail
  refine bodyPost_ret (results14 Tryz.f71 2 (by kernel_rfl) _ _ _ _ _ _ _ _ _ _ _ _ _ _ _ _ _ rfl (HB2.out.tput14 _ _ _ _ _ _ _ _ _ _ _ _ _ _)) rfl ?_
  exact ⟨g, rfl, by have := HG.out; have := HS1.out; have := HL.out; omega, HN.out.keep (keeps_tput14 w2 w.heap.size _ _ _ _ _ _ _ _ _ _ _ _ _ _) (fun e => by have := HG.out; have := HS1.out; have := HL.out; omega), HK2.out.trans' (keeps_tput14 w2 w.heap.size _ _ _ _ _ _ _ _ _ _ _ _ _ _) (fun _ _ => id) (fun i hi e => by omega)⟩
end Go.Proofs.YtjdbjjjbgibpaaaGreatDoor
namespace Go.Proofs.YtjdbjjjbgibpaaaGreatDoor
set_option maxRecDepth 100000
open Go.RowKit

def ofK (q : Int) (t : Tm) : Bool := decide (t.kind = q)
end Go.Proofs.YtjdbjjjbgibpaaaGreatDoor
namespace Go.Proofs.YtjdbjjjbgibpaaaGreatDoor
set_option maxRecDepth 100000
open Go.RowKit

def intTm (z : Int) : Tm := .mk 1 (decide (z < 0)) ((dig z.natAbs).map Int.ofNat) ByteArray.empty 0 [] []
theorem u32s_ofNat (l : List Nat) : (l.map Int.ofNat).map (Value.int .u32) = u32s l := by
  unfold u32s
  rw [List.map_map]
  rfl
theorem IA.tm {w : World} {B : Nat → Prop} {ng : Bool} {A : Option Addr} {n c : Nat} {z : Int} (h : IA w B ng A n c z) : TermIn w B false [.int .u8 1, .bool ng, .slice A n c, .string ⟨#[]⟩, .int .i64 0, .slice none 0 0, .slice none 0 0] (intTm z) := by
  obtain ⟨⟨F, hr⟩, _, hnc, hc⟩ := h.limbs
  have hn : n ≤ 32 := h.len
  unfold intTm TermIn
  rw [u32s_ofNat]
  refine ⟨A, n, c, none, 0, 0, none, 0, 0, [], [], by rw [← h.sign]; rfl, ⟨⟨by unfold Roomy; omega, hnc, hc⟩, RoomC.zero _, RoomC.zero _⟩, ?_, Reads.zero _ _ _ _ _, by unfold TermsIn; trivial, Reads.zero _ _ _ _ _, by unfold TermsIn; trivial⟩
  cases F with
  | true => exact hr.weak
  | false => exact hr
end Go.Proofs.YtjdbjjjbgibpaaaGreatDoor
namespace Go.Proofs.YtjdbjjjbgibpaaaGreatDoor
set_option maxRecDepth 100000
open Go.RowKit

theorem one_readsC {w : World} {g : Nat} {kd : Int} {ng : Bool} {la : Option Addr} {ln lc : Nat} {tx : ByteArray} {nm : Int} {ia : Option Addr} {im ic : Nat} {ta : Option Addr} {tn tc : Nat} (h : Blk w g 26 #[.int .u8 kd, .bool ng, .slice la ln lc, .string tx, .int .i64 nm, .slice ia im ic, .slice ta tn tc]) : Reads w (fun _ => True) false 7 (some ⟨g, 0, none⟩) 1 [[.int .u8 kd, .bool ng, .slice la ln lc, .string tx, .int .i64 nm, .slice ia im ic, .slice ta tn tc]].flatten :=
  ⟨rfl, fun _ => ⟨_, rfl, rfl, trivial, h.lt, fun j u hu => ⟨by rw [h.cell, Nat.zero_add]; simpa using hu, fun h => by cases h⟩⟩⟩
def ResB (N : Nat) (w : World) : Nat → Prop := fun k => k < N ∨ w.heap.size ≤ k
/-- A value, and what is raised: what bif's inner functions answer. -/
def ResP (N : Nat) (w : World) (v r : Tm) (e : Ending) (w' : World) : Prop := ∃ (kv : Int) (gv : Bool) (lv : Option Addr) (lvn lvc : Nat) (sv : ByteArray) (mv : Int) (iv : Option Addr) (ivn ivc : Nat) (tv : Option Addr) (tvn tvc : Nat) (kr : Int) (gr : Bool) (lr : Option Addr) (lrn lrc : Nat) (sr : ByteArray) (mr : Int) (ir : Option Addr) (irn irc : Nat) (tr : Option Addr) (trn trc : Nat), e = .returned (.agg #[.int .u8 kv, .bool gv, .slice lv lvn lvc, .string sv, .int .i64 mv, .slice iv ivn ivc, .slice tv tvn tvc, .int .u8 kr, .bool gr, .slice lr lrn lrc, .string sr, .int .i64 mr, .slice ir irn irc, .slice tr trn trc]) ∧ TermIn w' (ResB N w) false [.int .u8 kv, .bool gv, .slice lv lvn lvc, .string sv, .int .i64 mv, .slice iv ivn ivc, .slice tv tvn tvc] v ∧ TermIn w' (ResB N w) false [.int .u8 kr, .bool gr, .slice lr lrn lrc, .string sr, .int .i64 mr, .slice ir irn irc, .slice tr trn trc] r ∧ Keeps NoB w w'
def CallR (w : World) (v r : Tm) (e : Ending) (w' : World) : Prop := ∃ (kv : Int) (gv : Bool) (lv : Option Addr) (lvn lvc : Nat) (sv : ByteArray) (mv : Int) (iv : Option Addr) (ivn ivc : Nat) (tv : Option Addr) (tvn tvc : Nat) (kr : Int) (gr : Bool) (lr : Option Addr) (lrn lrc : Nat) (sr : ByteArray) (mr : Int) (ir : Option Addr) (irn irc : Nat) (tr : Option Addr) (trn trc : Nat), e = .returned (.tuple #[.agg #[.int .u8 kv, .bool gv, .slice lv lvn lvc, .string sv, .int .i64 mv, .slice iv ivn ivc, .slice tv tvn tvc], .agg #[.int .u8 kr, .bool gr, .slice lr lrn lrc, .string sr, .int .i64 mr, .slice ir irn irc, .slice tr trn trc], .bool true]) ∧ TermIn w' (fun k => w.heap.size ≤ k) false [.int .u8 kv, .bool gv, .slice lv lvn lvc, .string sv, .int .i64 mv, .slice iv ivn ivc, .slice tv tvn tvc] v ∧ TermIn w' (fun k => w.heap.size ≤ k) false [.int .u8 kr, .bool gr, .slice lr lrn lrc, .string sr, .int .i64 mr, .slice ir irn irc, .slice tr trn trc] r ∧ Keeps NoB w w'
theorem kind_cells {w : World} {B : Nat → Prop} {F : Bool} {t : Tm} {k : Int} {v1 v2 v3 v4 v5 v6 : Value} (h : TermIn w B F [.int .u8 k, v1, v2, v3, v4, v5, v6] t) : k = t.kind := by
  obtain ⟨_, _, _, _, _, _, _, _, _, _, _, _, _, he, e1, _⟩ := h.cells
  simp only [List.cons.injEq, Value.int.injEq, true_and] at he
  exact he.1.trans e1
end Go.Proofs.YtjdbjjjbgibpaaaGreatDoor
namespace Go.Proofs.YtjdbjjjbgibpaaaGreatDoor
set_option maxRecDepth 100000
set_option maxRecDepth 100000
open Go.RowKit

/-- Block g is just these digits. -/
def RowAt (w : World) (g : Nat) (l : List Nat) : Prop := Blk w g 86 (u32s l).toArray
section
variable {w w' : World} {g : Nat} {l : List Nat} {fp : Nat → Prop}
theorem RowAt.lt (h : RowAt w g l) : g < w.heap.size := Blk.lt h
theorem RowAt.cell (h : RowAt w g l) {i : Nat} (hi : i < l.length) : w.cell? ⟨g, i, none⟩ = some (.int .u32 ((l.getD i 0 : Nat) : Int)) := by
  rw [Blk.cell h i, List.getElem?_toArray, u32s_get hi]
theorem RowAt.free (h : RowAt w g l) (i : Nat) : w.frozen? ⟨g, i, none⟩ = false := Blk.free h i
theorem RowAt.keep (h : RowAt w g l) (hk : Keeps fp w w') (hg : ¬ fp g) : RowAt w' g l := Blk.keep h hk hg
theorem RowAt.put (h : RowAt w g l) (i : Nat) {v : Int} {n : Nat} (hv : v = (n : Int)) : RowAt (w.setCell ⟨g, i, none⟩ (.int .u32 v)) g (l.set i n) := by
  subst hv
  have := Blk.put h i (.int .u32 (n : Int))
  unfold RowAt
  rw [u32s_set]
  simpa using this
theorem RowAt.drew (h : RowAt w g l) : RowAt w.drew g l := h
theorem RowAt.limbs (h : RowAt w g l) {n : Nat} (hn : l.length = n) (hm : n ≤ maxLen) (hl : Low l) : LimbsIn w (fun k => k = g) (some ⟨g, 0, none⟩) n n l := by
  have hs : Slab w 86 1 (some ⟨g, 0, none⟩) n n (u32s l) := Slab.mk' (by rw [u32s_len]; omega) (Nat.le_refl _) hm h (by simp [u32s_len, hn]) (fun j hj => by rw [List.getElem?_toArray, Nat.zero_add])
  exact (LimbsIn.of_slab hs hl).more (fun k _ ⟨o, e⟩ => by injection e with e; injection e with e; exact e.symm)
end
/-- Yes or no. -/
def AnyK (w' : World) (B : Nat → Prop) (z : Int) (kd : Int) (ng : Bool) (A : Option Addr) (n c : Nat) (ok : Bool) : Prop := (ok = true ∧ kd = 1 ∧ IA w' B ng A n c z) ∨ (ok = false ∧ kd = 0 ∧ ng = false ∧ A = none ∧ n = 0 ∧ c = 0 ∧ Big ≤ z.natAbs)
def AnyP (w : World) (z : Int) (e : Ending) (w' : World) : Prop := ∃ kd ng A n c ok, e = .returned (.tuple #[.agg #[.int .u8 kd, .bool ng, .slice A n c, .string { data := #[] }, .int .i64 0, .slice none 0 0, .slice none 0 0], .bool ok]) ∧ AnyK w' (fun k => w.heap.size ≤ k) z kd ng A n c ok ∧ Keeps NoB w w'
theorem AnyK.far {w w' : World} {B fp : Nat → Prop} {z kd : Int} {ng ok : Bool} {A : Option Addr} {n c : Nat} (h : AnyK w B z kd ng A n c ok) (hk : Keeps fp w w') (hf : ∀ k, B k → ¬ fp k) : AnyK w' B z kd ng A n c ok := by
  rcases h with ⟨h1, h2, h3⟩ | h
  · exact .inl ⟨h1, h2, h3.far hk hf⟩
  · exact .inr h
theorem AnyK.more {w : World} {B B' : Nat → Prop} {z kd : Int} {ng ok : Bool} {A : Option Addr} {n c : Nat} (h : AnyK w B z kd ng A n c ok) (hB : ∀ k, k < w.heap.size → B k → B' k) : AnyK w B' z kd ng A n c ok := by
  rcases h with ⟨h1, h2, h3⟩ | h
  · exact .inl ⟨h1, h2, h3.more hB⟩
  · exact .inr h
theorem IA.toNat {w : World} {B : Nat → Prop} {ng : Bool} {A : Option Addr} {n c : Nat} {z : Int} (h : IA w B ng A n c z) : nat (dig z.natAbs) = z.natAbs := nat_dig _
end Go.Proofs.YtjdbjjjbgibpaaaGreatDoor
