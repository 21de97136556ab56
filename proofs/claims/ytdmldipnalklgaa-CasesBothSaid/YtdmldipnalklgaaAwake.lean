/- awake. -/
import Derived.Test.YtdmldipnalklgaaAwakeT
namespace Go.Proofs.Ytdmldipnalklgaa
open Go.RowKit

def awk : Co := .mk 24 ByteArray.empty 0 tm0 [.mk 21 ByteArray.empty 0 tm0 [], .mk 23 ByteArray.empty 0 (tmA { data := #[97] }) []]
def awkM : Made := ⟨[⟨13, 0, 1, 0, 2, -1⟩, ⟨17, 0, 1, 0, 0, 0⟩, ⟨17, 2, 1, 0, 1, 0⟩, ⟨15, 0, 2, 0, 0, -1⟩], 1, [tmA { data := #[97] }]⟩
theorem awk_right : rightT (tmA { data := #[97] }) = true := by decide +kernel
theorem awk_made : patC awk 1 2 = awkM := by
  have h : mayC 2 awk = true := by simp [awk, mayC, mays, awk_right]
  unfold patC
  rw [if_neg (by simp [h])]
  simp [awk, awkM, atC, eachC, childM, joinM, testI, Co.kind, Co.num]
theorem awk_pat (w : World) (F : Bool) (A : Option Addr) (c : Nat) (h : CoreIn w (fun k => k < w.heap.size) F [.int .u8 24, .string { data := #[] }, .int .i64 0, .int .u8 0, .bool false, .slice none 0 0, .string { data := #[] }, .int .i64 0, .slice none 0 0, .slice none 0 0, .slice A 2 c] awk) :
    Calls Try.prog 7 #[.agg #[.int .u8 24, .string { data := #[] }, .int .i64 0, .int .u8 0, .bool false, .slice none 0 0, .string { data := #[] }, .int .i64 0, .slice none 0 0, .slice none 0 0, .slice A 2 c], .int .i64 1, .int .i64 2] w fun e w' =>
      ∃ A c A2 c2 css, e = .returned (.tuple #[.slice A 4 c, .slice A2 1 c2, .int .i64 1]) ∧ Told w awkM A c A2 c2 css w' := by
  have h := pat_any awk w F 24 { data := #[] } 0 0 false none 0 0 { data := #[] } 0 none 0 0 none 0 0 A 2 c 1 2 h (by decide)
  rw [awk_made] at h
  exact h
/-- The cells of the one constant. -/
theorem awk_text {w w' : World} {A A2 : Option Addr} {c c2 : Nat} {css : List (List Value)} (h : Told w awkM A c A2 c2 css w') : ∃ g o, A2 = some ⟨g, o, none⟩ ∧ w'.cell? ⟨g, o + 3, none⟩ = some (.string { data := #[97] }) := by
  have hr := h.row
  have hc := h.cs
  have hl := hc.lens.1
  obtain ⟨x, rfl⟩ : ∃ x, css = [x] := by
    match css, hl with
    | [x], _ => exact ⟨x, rfl⟩
  have ht : TermIn w' (fun k => w.heap.size ≤ k ∧ ¬rowB A k ∧ ¬rowB A2 k) true x (tmA { data := #[97] }) := by unfold awkM TermsIn at hc; exact hc.1
  unfold tmA TermIn at ht
  obtain ⟨la, ln, lc, ia, im, ic, ta, tn, tc, cs1, cs2, rfl, _⟩ := ht
  obtain ⟨g, o, hA, hcell, _, _⟩ := Slab.last7 (n := 0) (front := []) (by simpa [awkM] using hr) rfl
  refine ⟨g, o, hA, ?_⟩
  have := hcell.2.2.2.1
  simpa using this

set_option maxRecDepth 100000 in
set_option maxHeartbeats 1000000 in
theorem awake_any (w : World) : Calls Try.prog 4 #[] w fun e w' => e = .returned (.bool true) ∧ Keeps NoB w w' := by
  go_enter Try.func4, Try.ntmps4
  go_wp2_with
    first
    | (go_at_call 9
       refine (num_any 21 0 _).mono ?_
       rintro e w1 ⟨rfl, hk⟩
       have HK1 := hide hk
       clear hk)
    | (go_at_call 12
       refine (const_any { data := #[97] } _).mono ?_
       rintro e w2 ⟨rfl, hk⟩
       have HK2 := hide (HK1.out.trans' hk (fun _ _ => id) (fun _ _ => id) : Keeps NoB w w2)
       clear hk)
    | (go_at_call 8
       refine (of_any 24 _ 2 2 _).mono ?_
       rintro e w4 ⟨rfl, hk⟩
       have HK3 : Hid (Keeps NoB w w4) := hide ((HK2.out.alloc (.cells #[.int .u8 21, .string { data := #[] }, .int .i64 0, .int .u8 0, .bool false, .slice none 0 0, .string { data := #[] }, .int .i64 0, .slice none 0 0, .slice none 0 0, .slice none 0 0, .int .u8 23, .string { data := #[] }, .int .i64 0, .int .u8 2, .bool false, .slice none 0 0, .string { data := #[97] }, .int .i64 0, .slice none 0 0, .slice none 0 0, .slice none 0 0] 30)).trans' hk (fun _ _ => id) (fun _ _ => id))
       have HB3 : Hid (Blk w4 w2.heap.size 30 #[.int .u8 21, .string { data := #[] }, .int .i64 0, .int .u8 0, .bool false, .slice none 0 0, .string { data := #[] }, .int .i64 0, .slice none 0 0, .slice none 0 0, .slice none 0 0, .int .u8 23, .string { data := #[] }, .int .i64 0, .int .u8 2, .bool false, .slice none 0 0, .string { data := #[97] }, .int .i64 0, .slice none 0 0, .slice none 0 0, .slice none 0 0]) := hide ((Blk.new w2 30 #[.int .u8 21, .string { data := #[] }, .int .i64 0, .int .u8 0, .bool false, .slice none 0 0, .string { data := #[] }, .int .i64 0, .slice none 0 0, .slice none 0 0, .slice none 0 0, .int .u8 23, .string { data := #[] }, .int .i64 0, .int .u8 2, .bool false, .slice none 0 0, .string { data := #[97] }, .int .i64 0, .slice none 0 0, .slice none 0 0, .slice none 0 0]).keep hk id)
       clear hk)
    | (go_at_call 7
       have h2 := two_cores (B := fun k => k < w4.heap.size) (F := false) (xs := [.int .u8 21, .string { data := #[] }, .int .i64 0, .int .u8 0, .bool false, .slice none 0 0, .string { data := #[] }, .int .i64 0, .slice none 0 0, .slice none 0 0, .slice none 0 0]) (ys := [.int .u8 23, .string { data := #[] }, .int .i64 0, .int .u8 2, .bool false, .slice none 0 0, .string { data := #[97] }, .int .i64 0, .slice none 0 0, .slice none 0 0, .slice none 0 0]) (by have h := HB3.out; simpa using h) HB3.out.lt (core_flat 21 0 0 { data := #[] }) (core_flat 23 0 2 { data := #[97] })
       refine (awk_pat w4 false _ 2 (core_of 24 0 0 { data := #[] } h2.1 h2.2 (by unfold Roomy; omega))).mono ?_
       rintro e w5 ⟨A, c, A2, c2, css, rfl, ht⟩
       have HK5 := hide (HK3.out.trans' ht.keep (fun _ _ => id) (fun _ _ => id) : Keeps NoB w w5)
       have HTD := hide ht
       clear ht h2)
    | (go_at_call 10
       have hw : Reads (w5.alloc (.cells #[.int .u8 13, .int .i64 0, .int .i64 1, .int .i64 0, .int .i64 2, .int .i64 (-1), .string { data := #[] }, .slice none 0 0, .int .u8 17, .int .i64 0, .int .i64 1, .int .i64 0, .int .i64 0, .int .i64 0, .string { data := #[] }, .slice none 0 0, .int .u8 17, .int .i64 2, .int .i64 1, .int .i64 0, .int .i64 1, .int .i64 0, .string { data := #[] }, .slice none 0 0, .int .u8 15, .int .i64 0, .int .i64 2, .int .i64 0, .int .i64 0, .int .i64 (-1), .string { data := #[] }, .slice none 0 0] 44)) (fun _ => True) true 8 (some ⟨w5.heap.size, 0, none⟩) 4 (insL awkM.ins) := by
         refine ⟨rfl, fun _ => ⟨_, rfl, rfl, trivial, (Blk.new w5 44 #[.int .u8 13, .int .i64 0, .int .i64 1, .int .i64 0, .int .i64 2, .int .i64 (-1), .string { data := #[] }, .slice none 0 0, .int .u8 17, .int .i64 0, .int .i64 1, .int .i64 0, .int .i64 0, .int .i64 0, .string { data := #[] }, .slice none 0 0, .int .u8 17, .int .i64 2, .int .i64 1, .int .i64 0, .int .i64 1, .int .i64 0, .string { data := #[] }, .slice none 0 0, .int .u8 15, .int .i64 0, .int .i64 2, .int .i64 0, .int .i64 0, .int .i64 (-1), .string { data := #[] }, .slice none 0 0]).lt, fun j u hu => ⟨?_, fun _ => (Blk.new w5 44 #[.int .u8 13, .int .i64 0, .int .i64 1, .int .i64 0, .int .i64 2, .int .i64 (-1), .string { data := #[] }, .slice none 0 0, .int .u8 17, .int .i64 0, .int .i64 1, .int .i64 0, .int .i64 0, .int .i64 0, .string { data := #[] }, .slice none 0 0, .int .u8 17, .int .i64 2, .int .i64 1, .int .i64 0, .int .i64 1, .int .i64 0, .string { data := #[] }, .slice none 0 0, .int .u8 15, .int .i64 0, .int .i64 2, .int .i64 0, .int .i64 0, .int .i64 (-1), .string { data := #[] }, .slice none 0 0]).free _⟩⟩⟩
         rw [(Blk.new w5 44 #[.int .u8 13, .int .i64 0, .int .i64 1, .int .i64 0, .int .i64 2, .int .i64 (-1), .string { data := #[] }, .slice none 0 0, .int .u8 17, .int .i64 0, .int .i64 1, .int .i64 0, .int .i64 0, .int .i64 0, .string { data := #[] }, .slice none 0 0, .int .u8 17, .int .i64 2, .int .i64 1, .int .i64 0, .int .i64 1, .int .i64 0, .string { data := #[] }, .slice none 0 0, .int .u8 15, .int .i64 0, .int .i64 2, .int .i64 0, .int .i64 0, .int .i64 (-1), .string { data := #[] }, .slice none 0 0]).cell, ← hu]
         simp [insL, insC, awkM]
       refine (same_instrs awkM.ins A _ 4 c 4 4 _ _ _ _ _ (HTD.out.ins.fresh ((Keeps.refl NoB w5).alloc _)).reads hw (by unfold Roomy; omega)).mono ?_
       rintro e w6 ⟨rfl, hk⟩
       obtain ⟨g, o, rfl, hct⟩ := awk_text HTD.out
       have hct6 : w6.cell? ⟨g, o + 3, none⟩ = some (.string { data := #[97] }) := hk.cell id (((Keeps.refl NoB w5).alloc (.cells #[.int .u8 13, .int .i64 0, .int .i64 1, .int .i64 0, .int .i64 2, .int .i64 (-1), .string { data := #[] }, .slice none 0 0, .int .u8 17, .int .i64 0, .int .i64 1, .int .i64 0, .int .i64 0, .int .i64 0, .string { data := #[] }, .slice none 0 0, .int .u8 17, .int .i64 2, .int .i64 1, .int .i64 0, .int .i64 1, .int .i64 0, .string { data := #[] }, .slice none 0 0, .int .u8 15, .int .i64 0, .int .i64 2, .int .i64 0, .int .i64 0, .int .i64 (-1), .string { data := #[] }, .slice none 0 0] 44)).cell id hct)
       have HK6 : Hid (Keeps NoB w w6) := hide ((HK5.out.alloc (.cells #[.int .u8 13, .int .i64 0, .int .i64 1, .int .i64 0, .int .i64 2, .int .i64 (-1), .string { data := #[] }, .slice none 0 0, .int .u8 17, .int .i64 0, .int .i64 1, .int .i64 0, .int .i64 0, .int .i64 0, .string { data := #[] }, .slice none 0 0, .int .u8 17, .int .i64 2, .int .i64 1, .int .i64 0, .int .i64 1, .int .i64 0, .string { data := #[] }, .slice none 0 0, .int .u8 15, .int .i64 0, .int .i64 2, .int .i64 0, .int .i64 0, .int .i64 (-1), .string { data := #[] }, .slice none 0 0] 44)).trans' hk (fun _ _ => id) (fun _ _ => id))
       clear hk hct hw)
    | fail
  go_ret
  exact ⟨rfl, HK6.out⟩
end Go.Proofs.Ytdmldipnalklgaa
