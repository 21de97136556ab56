/- bif.Call at two arguments, where bif.two answers with a right value. Printed by mkcall.py. law10's list and atom, bif's tuple and list: contracts. Printed by mklit.py. -/
import Derived.Test.YtjdbjjjbgibpaaaGreatDoorHeadsJn
import Derived.Test.YtjdbjjjbgibpaaaGreatDoorTmCopyJn
import Derived.Test.YtjdbjjjbgibpaaaGreatDoorAmountsJn
namespace Go.Proofs.YtjdbjjjbgibpaaaGreatDoor
set_option maxRecDepth 100000
open Go.RowKit

theorem two_terms {w : World} {B : Nat → Prop} {F : Bool} {cs ds : List Value} {a b : Tm} (ha : TermIn w B F cs a) (hb : TermIn w B F ds b) : TermsIn w B F [cs, ds] [a, b] := by
  unfold TermsIn TermsIn TermsIn
  exact ⟨ha, hb, trivial⟩
theorem results_12 (tmps : Array Value) (g4 g5 : Nat) (b : Bool) (v0 v1 v2 v3 v4 v5 v6 u0 u1 u2 u3 u4 u5 u6 : Value) (w : World) (h4 : tmps[4]? = some (.pointer (some ⟨g4, 0, none⟩))) (h5 : tmps[5]? = some (.pointer (some ⟨g5, 0, none⟩))) (h6 : tmps[6]? = some (.bool b)) (hB4 : Blk w g4 26 #[v0, v1, v2, v3, v4, v5, v6]) (hB5 : Blk w g5 26 #[u0, u1, u2, u3, u4, u5, u6]) :
    (results Tryz.f56 tmps).run Tryz.prog w = .ok (.tuple #[.agg #[v0, v1, v2, v3, v4, v5, v6], .agg #[u0, u1, u2, u3, u4, u5, u6], .bool b]) w := by
  have c0 : w.cell? ⟨g4, 0, none⟩ = some v0 := hB4.cell 0
  have d0 : w.cell? ⟨g5, 0, none⟩ = some u0 := hB5.cell 0
  have c1 : w.cell? ⟨g4, 1, none⟩ = some v1 := hB4.cell 1
  have d1 : w.cell? ⟨g5, 1, none⟩ = some u1 := hB5.cell 1
  have c2 : w.cell? ⟨g4, 2, none⟩ = some v2 := hB4.cell 2
  have d2 : w.cell? ⟨g5, 2, none⟩ = some u2 := hB5.cell 2
  have c3 : w.cell? ⟨g4, 3, none⟩ = some v3 := hB4.cell 3
  have d3 : w.cell? ⟨g5, 3, none⟩ = some u3 := hB5.cell 3
  have c4 : w.cell? ⟨g4, 4, none⟩ = some v4 := hB4.cell 4
  have d4 : w.cell? ⟨g5, 4, none⟩ = some u4 := hB5.cell 4
  have c5 : w.cell? ⟨g4, 5, none⟩ = some v5 := hB4.cell 5
  have d5 : w.cell? ⟨g5, 5, none⟩ = some u5 := hB5.cell 5
  have c6 : w.cell? ⟨g4, 6, none⟩ = some v6 := hB4.cell 6
  have d6 : w.cell? ⟨g5, 6, none⟩ = some u6 := hB5.cell 6
  have hr : Tryz.f56.results = #[ResultVar.cell 4 26, ResultVar.cell 5 26, ResultVar.tmp 6] := by kernel_rfl
  simp [results, hr, go_sem, h4, h5, h6, c0, d0, c1, d1, c2, d2, c3, d3, c4, d4, c5, d5, c6, d6]
def CallP (w : World) (v : Tm) (e : Ending) (w' : World) : Prop := ∃ (kv : Int) (gv : Bool) (lv : Option Addr) (lvn lvc : Nat) (sv : ByteArray) (mv : Int) (iv : Option Addr) (ivn ivc : Nat) (tv : Option Addr) (tvn tvc : Nat) (r2 : Option Addr) (r2c : Nat) (r5 : Option Addr) (r5c : Nat) (r6 : Option Addr) (r6c : Nat), e = .returned (.tuple #[.agg #[.int .u8 kv, .bool gv, .slice lv lvn lvc, .string sv, .int .i64 mv, .slice iv ivn ivc, .slice tv tvn tvc], .agg #[.int .u8 0, .bool false, .slice r2 0 r2c, .string ByteArray.empty, .int .i64 0, .slice r5 0 r5c, .slice r6 0 r6c], .bool true]) ∧ TermIn w' (fun k => w.heap.size ≤ k) false [.int .u8 kv, .bool gv, .slice lv lvn lvc, .string sv, .int .i64 mv, .slice iv ivn ivc, .slice tv tvn tvc] v ∧ Keeps NoB w w'
end Go.Proofs.YtjdbjjjbgibpaaaGreatDoor
namespace Go.Proofs.YtjdbjjjbgibpaaaGreatDoor
set_option maxRecDepth 100000
open Go.RowKit

set_option maxRecDepth 100000 in
theorem law_atom (s : ByteArray) (w : World) : Calls Tryz.prog 20 #[.string s] w (ValP w (.agg #[.int .u8 2, .bool false, .slice none 0 0, .string s, .int .i64 0, .slice none 0 0, .slice none 0 0])) := by
  have HB := hide (Blk.new w 26 #[.int .u8 0, .bool false, .slice none 0 0, .string ⟨#[]⟩, .int .i64 0, .slice none 0 0, .slice none 0 0])
  have HK := hide ((Keeps.refl NoB w).alloc (.cells #[.int .u8 0, .bool false, .slice none 0 0, .string ⟨#[]⟩, .int .i64 0, .slice none 0 0, .slice none 0 0] 26))
  go_enter Tryz.func20, Tryz.ntmps20
  go_upto_region 1 with fail
  generalize w.alloc (.cells #[.int .u8 0, .bool false, .slice none 0 0, .string ⟨#[]⟩, .int .i64 0, .slice none 0 0, .slice none 0 0] 26) = w1 at *
  generalize hg : w.heap.size = g at HB ⊢
  obtain ⟨z0, z1, z2, z3, z4, z5, z6⟩ := Blk.f7 (w := w1) (g := g) HB.out
  obtain ⟨v0, v1, v2, v3, v4, v5, v6⟩ := Blk.c7 (show Blk w1 (g) _ #[.int .u8 0, .bool false, .slice none 0 0, .string ⟨#[]⟩, .int .i64 0, .slice none 0 0, .slice none 0 0] from HB.out)
  have HG := hide hg
  clear hg
  go_wp2
  refine bodyPost_ret (results7 Tryz.f20 2 (by kernel_rfl) _ _ _ _ _ _ _ _ _ _ rfl (HB.out.tput7 _ _ _ _ _ _ _)) rfl ?_
  exact ⟨rfl, HK.out.trans' (keeps_tput7 w1 g _ _ _ _ _ _ _) (fun _ _ => id) (fun i hi e => by have := HG.out; omega)⟩
set_option maxRecDepth 100000 in
theorem bif_tuple (A : Option Addr) (n c : Nat) (w : World) : Calls Tryz.prog 93 #[.slice A n c] w (ValP w (.agg #[.int .u8 6, .bool false, .slice none 0 0, .string ⟨#[]⟩, .int .i64 0, .slice A n c, .slice none 0 0])) := by
  have HB := hide (Blk.new w 26 #[.int .u8 0, .bool false, .slice none 0 0, .string ⟨#[]⟩, .int .i64 0, .slice none 0 0, .slice none 0 0])
  have HK := hide ((Keeps.refl NoB w).alloc (.cells #[.int .u8 0, .bool false, .slice none 0 0, .string ⟨#[]⟩, .int .i64 0, .slice none 0 0, .slice none 0 0] 26))
  go_enter Tryz.func93, Tryz.ntmps93
  go_upto_region 1 with fail
  generalize w.alloc (.cells #[.int .u8 0, .bool false, .slice none 0 0, .string ⟨#[]⟩, .int .i64 0, .slice none 0 0, .slice none 0 0] 26) = w1 at *
  generalize hg : w.heap.size = g at HB ⊢
  obtain ⟨z0, z1, z2, z3, z4, z5, z6⟩ := Blk.f7 (w := w1) (g := g) HB.out
  obtain ⟨v0, v1, v2, v3, v4, v5, v6⟩ := Blk.c7 (show Blk w1 (g) _ #[.int .u8 0, .bool false, .slice none 0 0, .string ⟨#[]⟩, .int .i64 0, .slice none 0 0, .slice none 0 0] from HB.out)
  have HG := hide hg
  clear hg
  go_wp2
  refine bodyPost_ret (results7 Tryz.f93 2 (by kernel_rfl) _ _ _ _ _ _ _ _ _ _ rfl (HB.out.tput7 _ _ _ _ _ _ _)) rfl ?_
  exact ⟨rfl, HK.out.trans' (keeps_tput7 w1 g _ _ _ _ _ _ _) (fun _ _ => id) (fun i hi e => by have := HG.out; omega)⟩
end Go.Proofs.YtjdbjjjbgibpaaaGreatDoor
