/- bif.raise: its contract. Printed by mkraise.py. bif.bad: its contract. Printed by mkraise.py. slices.ContainsFunc at bif.are's own function: are terms all of a kind? -/
import Derived.Test.YtjdbjjjbgibpaaaGreatDoorLitLJn
namespace Go.Proofs.YtjdbjjjbgibpaaaGreatDoor
set_option maxRecDepth 100000
open Go.RowKit

def RaiseP (w : World) (cs : Array Value) (e : Ending) (w' : World) : Prop := ∃ g, e = .returned (.agg #[.int .u8 0, .bool false, .slice none 0 0, .string ⟨#[]⟩, .int .i64 0, .slice none 0 0, .slice none 0 0, .int .u8 6, .bool false, .slice none 0 0, .string ⟨#[]⟩, .int .i64 0, .slice (some ⟨g, 0, none⟩) 2 2, .slice none 0 0]) ∧ w.heap.size ≤ g ∧ Blk w' g 26 cs ∧ Keeps NoB w w'
set_option maxRecDepth 100000 in
set_option maxHeartbeats 1000000 in
theorem raise_any (s : ByteArray) (kd : Int) (ng : Bool) (la : Option Addr) (ln lc : Nat) (tx : ByteArray) (nm : Int) (ia : Option Addr) (im ic : Nat) (ta : Option Addr) (tn tc : Nat) (w : World) : Calls Tryz.prog 76 #[.string s, .agg #[.int .u8 kd, .bool ng, .slice la ln lc, .string tx, .int .i64 nm, .slice ia im ic, .slice ta tn tc]] w (RaiseP w #[.int .u8 2, .bool false, .slice none 0 0, .string s, .int .i64 0, .slice none 0 0, .slice none 0 0, .int .u8 kd, .bool ng, .slice la ln lc, .string tx, .int .i64 nm, .slice ia im ic, .slice ta tn tc]) := by
  have HC := hide ((Blk.new w 26 #[.int .u8 kd, .bool ng, .slice la ln lc, .string tx, .int .i64 nm, .slice ia im ic, .slice ta tn tc]).alloc (.cells #[.int .u8 0, .bool false, .slice none 0 0, .string ⟨#[]⟩, .int .i64 0, .slice none 0 0, .slice none 0 0, .int .u8 0, .bool false, .slice none 0 0, .string ⟨#[]⟩, .int .i64 0, .slice none 0 0, .slice none 0 0] 99))
  have HB := hide (Blk.new2 w (.cells #[.int .u8 kd, .bool ng, .slice la ln lc, .string tx, .int .i64 nm, .slice ia im ic, .slice ta tn tc] 26) 99 #[.int .u8 0, .bool false, .slice none 0 0, .string ⟨#[]⟩, .int .i64 0, .slice none 0 0, .slice none 0 0, .int .u8 0, .bool false, .slice none 0 0, .string ⟨#[]⟩, .int .i64 0, .slice none 0 0, .slice none 0 0])
  have HK := hide (((Keeps.refl NoB w).alloc (.cells #[.int .u8 kd, .bool ng, .slice la ln lc, .string tx, .int .i64 nm, .slice ia im ic, .slice ta tn tc] 26)).alloc (.cells #[.int .u8 0, .bool false, .slice none 0 0, .string ⟨#[]⟩, .int .i64 0, .slice none 0 0, .slice none 0 0, .int .u8 0, .bool false, .slice none 0 0, .string ⟨#[]⟩, .int .i64 0, .slice none 0 0, .slice none 0 0] 99))
  go_enter Tryz.func76, Tryz.ntmps76
  go_upto_region 1 with fail
  generalize (w.alloc (.cells #[.int .u8 kd, .bool ng, .slice la ln lc, .string tx, .int .i64 nm, .slice ia im ic, .slice ta tn tc] 26)).alloc (.cells #[.int .u8 0, .bool false, .slice none 0 0, .string ⟨#[]⟩, .int .i64 0, .slice none 0 0, .slice none 0 0, .int .u8 0, .bool false, .slice none 0 0, .string ⟨#[]⟩, .int .i64 0, .slice none 0 0, .slice none 0 0] 99) = w1 at *
  refine order_begin (fun W => Keeps NoB w1 W) (fun i => !(i == 6)) (by kernel_rfl) 7 rfl ?_
  have HS : Keeps NoB w1 w1.drew := (Keeps.refl _ _).drew
  refine order_pure (i := 0) rfl (by kernel_rfl) (fun _ _ _ h => h) (.inl ⟨rfl, fun _ => by go_simp; rfl⟩) ?_
  try simp only [Act.put, List.setIfInBounds_toArray, List.set_cons_succ, List.set_cons_zero]
  refine order_held (i := 2) rfl (by kernel_rfl) (fun _ _ _ h => h) (.inl ⟨rfl, fun W hW => by
    have q0 : W.cell? ⟨w.heap.size, 0, none⟩ = some (.int .u8 kd) := hW.cell id (HC.out.cell 0)
    have q1 : W.cell? ⟨w.heap.size, 1, none⟩ = some (.bool ng) := hW.cell id (HC.out.cell 1)
    have q2 : W.cell? ⟨w.heap.size, 2, none⟩ = some (.slice la ln lc) := hW.cell id (HC.out.cell 2)
    have q3 : W.cell? ⟨w.heap.size, 3, none⟩ = some (.string tx) := hW.cell id (HC.out.cell 3)
    have q4 : W.cell? ⟨w.heap.size, 4, none⟩ = some (.int .i64 nm) := hW.cell id (HC.out.cell 4)
    have q5 : W.cell? ⟨w.heap.size, 5, none⟩ = some (.slice ia im ic) := hW.cell id (HC.out.cell 5)
    have q6 : W.cell? ⟨w.heap.size, 6, none⟩ = some (.slice ta tn tc) := hW.cell id (HC.out.cell 6)
    go_simp; rfl⟩) HS ?_
  try simp only [Act.put, List.setIfInBounds_toArray, List.set_cons_succ, List.set_cons_zero]
  refine order_one (i := 1) rfl (by kernel_rfl) (fun K hK => ?_)
  go_simp
  refine (atom_any s _).mono ?_
  rintro e w2 ⟨rfl, hk2⟩
  unfold atomV
  have HK2 := hide (HS.trans' hk2 (fun _ _ => id) (fun _ _ => id) : Keeps NoB w1 w2)
  refine hK _ _ (fun _ _ => HK2.out) ?_
  clear hK hk2
  try simp only [Act.put, List.setIfInBounds_toArray, List.set_cons_succ, List.set_cons_zero]
  refine order_one (i := 3) rfl (by kernel_rfl) (fun K hK => ?_)
  go_simp
  refine hK _ _ (fun _ h => h.alloc _) ?_
  clear hK
  try simp only [Act.put, List.setIfInBounds_toArray, List.set_cons_succ, List.set_cons_zero]
  have HN := hide (Blk.new w2 26 #[.int .u8 2, .bool false, .slice none 0 0, .string s, .int .i64 0, .slice none 0 0, .slice none 0 0, .int .u8 kd, .bool ng, .slice la ln lc, .string tx, .int .i64 nm, .slice ia im ic, .slice ta tn tc])
  have HK3 := hide (HK2.out.alloc (.cells #[.int .u8 2, .bool false, .slice none 0 0, .string s, .int .i64 0, .slice none 0 0, .slice none 0 0, .int .u8 kd, .bool ng, .slice la ln lc, .string tx, .int .i64 nm, .slice ia im ic, .slice ta tn tc] 26))
  have HG := hide (show w.heap.size ≤ w2.heap.size from Nat.le_trans HK.out.size HK2.out.size)
  have HLT := hide HB.out.lt
  generalize w2.alloc (.cells #[.int .u8 2, .bool false, .slice none 0 0, .string s, .int .i64 0, .slice none 0 0, .slice none 0 0, .int .u8 kd, .bool ng, .slice la ln lc, .string tx, .int .i64 nm, .slice ia im ic, .slice ta tn tc] 26) = w3 at *
  have HLU := hide HK2.out.size
  generalize w2.heap.size = g at *
  refine order_one (i := 4) rfl (by kernel_rfl) (fun K hK => ?_)
  go_simp
  refine (bif_tuple (some ⟨g, 0, none⟩) 2 2 w3).mono ?_
  rintro e w4 ⟨rfl, hk4⟩
  have HK4 := hide (HK3.out.trans' hk4 (fun _ _ => id) (fun _ _ => id) : Keeps NoB w1 w4)
  have HN4 := hide (HN.out.keep hk4 id)
  have HB4 := hide (HB.out.keep HK4.out id)
  refine hK _ _ (fun _ _ => HK4.out) ?_
  clear hK hk4
  try simp only [Act.put, List.setIfInBounds_toArray, List.set_cons_succ, List.set_cons_zero]
  refine order_pure (i := 5) rfl (by kernel_rfl) (fun _ _ _ h => h) (.inl ⟨rfl, fun _ => by go_simp; rfl⟩) ?_
  try simp only [Act.put, List.setIfInBounds_toArray, List.set_cons_succ, List.set_cons_zero]
  obtain ⟨z0, z1, z2, z3, z4, z5, z6, z7, z8, z9, z10, z11, z12, z13⟩ := Blk.f14 (w := w4) (g := w.heap.size + 1) HB4.out
  obtain ⟨v0, v1, v2, v3, v4, v5, v6, v7, v8, v9, v10, v11, v12, v13⟩ := Blk.c14 (show Blk w4 (w.heap.size + 1) _ #[.int .u8 0, .bool false, .slice none 0 0, .string ⟨#[]⟩, .int .i64 0, .slice none 0 0, .slice none 0 0, .int .u8 0, .bool false, .slice none 0 0, .string ⟨#[]⟩, .int .i64 0, .slice none 0 0, .slice none 0 0] from HB4.out)
  refine order_one (i := 6) rfl (by kernel_rfl) (fun K hK => ?_)
  go_simp
  refine hK _ _ (fun h => absurd h (by decide)) ?_
  clear hK
  try simp only [Act.put, List.setIfInBounds_toArray, List.set_cons_succ, List.set_cons_zero]
  refine order_done (by kernel_rfl) ?_
  go_wp2_with fail
  refine bodyPost_ret (results14 Tryz.f76 4 (by kernel_rfl) _ _ _ _ _ _ _ _ _ _ _ _ _ _ _ _ _ rfl (HB4.out.tput14 _ _ _ _ _ _ _ _ _ _ _ _ _ _)) rfl ?_
  exact ⟨g, rfl, HG.out, HN4.out.keep (keeps_tput14 w4 (w.heap.size + 1) _ _ _ _ _ _ _ _ _ _ _ _ _ _) (fun e => by have := HLT.out; have := HLU.out; omega), (HK.out.trans' HK4.out (fun _ _ => id) (fun _ _ => id) : Keeps NoB w w4).trans' (keeps_tput14 w4 (w.heap.size + 1) _ _ _ _ _ _ _ _ _ _ _ _ _ _) (fun _ _ => id) (fun i hi e => by omega)⟩
end Go.Proofs.YtjdbjjjbgibpaaaGreatDoor
namespace Go.Proofs.YtjdbjjjbgibpaaaGreatDoor
set_option maxRecDepth 100000
open Go.RowKit

set_option maxRecDepth 100000 in
set_option maxHeartbeats 1000000 in
theorem bad_any (s : ByteArray) (w : World) : Calls Tryz.prog 71 #[.string s] w (RaiseP w #[.int .u8 2, .bool false, .slice none 0 0, .string ⟨#[101, 114, 114, 111, 114]⟩, .int .i64 0, .slice none 0 0, .slice none 0 0, .int .u8 2, .bool false, .slice none 0 0, .string s, .int .i64 0, .slice none 0 0, .slice none 0 0]) := by
  have HB0 := hide (Blk.new w 99 #[.int .u8 0, .bool false, .slice none 0 0, .string ⟨#[]⟩, .int .i64 0, .slice none 0 0, .slice none 0 0, .int .u8 0, .bool false, .slice none 0 0, .string ⟨#[]⟩, .int .i64 0, .slice none 0 0, .slice none 0 0])
  have HK0 := hide ((Keeps.refl NoB w).alloc (.cells #[.int .u8 0, .bool false, .slice none 0 0, .string ⟨#[]⟩, .int .i64 0, .slice none 0 0, .slice none 0 0, .int .u8 0, .bool false, .slice none 0 0, .string ⟨#[]⟩, .int .i64 0, .slice none 0 0, .slice none 0 0] 99))
  have HL := hide HB0.out.lt
  go_enter Tryz.func71, Tryz.ntmps71
  go_upto_region 1 with fail
  generalize w.alloc (.cells #[.int .u8 0, .bool false, .slice none 0 0, .string ⟨#[]⟩, .int .i64 0, .slice none 0 0, .slice none 0 0, .int .u8 0, .bool false, .slice none 0 0, .string ⟨#[]⟩, .int .i64 0, .slice none 0 0, .slice none 0 0] 99) = w0 at *
  go_wp2_with
    first
    | (go_at_call 94
       refine (atom_any s w0).mono ?_
       rintro e w1 ⟨rfl, hk1⟩
       unfold atomV
       have HK1 := hide (HK0.out.trans' hk1 (fun _ _ => id) (fun _ _ => id) : Keeps NoB w w1)
       have HB1 := hide (HB0.out.keep hk1 id)
       have HS1 := hide hk1.size
       clear hk1)
    | (go_at_call 76
       refine (raise_any ⟨#[101, 114, 114, 111, 114]⟩ _ _ _ _ _ _ _ _ _ _ _ _ _ w1).mono ?_
       rintro e w2 ⟨g, rfl, hg, hb, hk2⟩
       have HK2 := hide (HK1.out.trans' hk2 (fun _ _ => id) (fun _ _ => id) : Keeps NoB w w2)
       have HB2 := hide (HB1.out.keep hk2 id)
       have HG := hide hg; have HN := hide hb
       obtain ⟨z0, z1, z2, z3, z4, z5, z6, z7, z8, z9, z10, z11, z12, z13⟩ := Blk.f14 (w := w2) (g := w.heap.size) HB2.out
       obtain ⟨v0, v1, v2, v3, v4, v5, v6, v7, v8, v9, v10, v11, v12, v13⟩ := Blk.c14 (show Blk w2 (w.heap.size) _ #[.int .u8 0, .bool false, .slice none 0 0, .string ⟨#[]⟩, .int .i64 0, .slice none 0 0, .slice none 0 0, .int .u8 0, .bool false, .slice none 0 0, .string ⟨#[]⟩, .int .i64 0, .slice none 0 0, .slice none 0 0] from HB2.out)
       clear hk2 hg hb)
    | fail
  refine bodyPost_ret (results14 Tryz.f71 2 (by kernel_rfl) _ _ _ _ _ _ _ _ _ _ _ _ _ _ _ _ _ rfl (HB2.out.tput14 _ _ _ _ _ _ _ _ _ _ _ _ _ _)) rfl ?_
  exact ⟨g, rfl, by have := HG.out; have := HS1.out; have := HL.out; omega, HN.out.keep (keeps_tput14 w2 w.heap.size _ _ _ _ _ _ _ _ _ _ _ _ _ _) (fun e => by have := HG.out; have := HS1.out; have := HL.out; omega), HK2.out.trans' (keeps_tput14 w2 w.heap.size _ _ _ _ _ _ _ _ _ _ _ _ _ _) (fun _ _ => id) (fun i hi e => by omega)⟩
end Go.Proofs.YtjdbjjjbgibpaaaGreatDoor
namespace Go.Proofs.YtjdbjjjbgibpaaaGreatDoor
set_option maxRecDepth 100000
open Go.RowKit

def ofK (q : Int) (t : Tm) : Bool := decide (t.kind = q)
end Go.Proofs.YtjdbjjjbgibpaaaGreatDoor
