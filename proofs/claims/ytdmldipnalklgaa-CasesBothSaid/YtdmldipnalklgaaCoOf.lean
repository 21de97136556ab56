/- pigeonholekit: CoresOf: how many cores there are, if it does not leave off. -/
import Derived.Test.YtdmldipnalklgaaCoOpen
import Derived.Test.YtdmldipnalklgaaTmOf
namespace Go.Proofs.Ytdmldipnalklgaa
open Go.RowKit

def Co.count : Co → Nat
  | .mk _ _ _ _ kids => 1 + counts kids
where counts : List Co → Nat
  | [] => 0
  | t :: ts => t.count + counts ts
theorem counts_append : ∀ (ts us : List Co), Co.count.counts (ts ++ us) = Co.count.counts ts + Co.count.counts us
  | [], us => by simp [Co.count.counts]
  | t :: ts, us => by rw [List.cons_append]; simp only [Co.count.counts]; rw [counts_append ts us]; omega
theorem counts_take {ts : List Co} {k : Nat} {t : Co} (h : ts[k]? = some t) : Co.count.counts (ts.take (k + 1)) = Co.count.counts (ts.take k) + t.count := by
  rw [List.take_add_one, h, counts_append]; simp [Co.count.counts]

def OfCPost (w : World) (t : Co) (most : Int) (e : Ending) (w' : World) : Prop := ∃ r : Int, e = .returned (.int .i64 r) ∧ 1 ≤ r ∧ r ≤ most + 562949953421312 ∧ (r ≤ most → (t.count : Int) ≤ r) ∧ Keeps NoB w w'

def OfCSaid (M : Nat) : Prop := ∀ (t : Co), t.size ≤ M → okC t → ∀ (w : World) (B : Nat → Prop) (F : Bool)
    (kd : Int) (tx : ByteArray) (nm tk : Int) (ng : Bool) (la : Option Addr) (ln lc : Nat) (tt : ByteArray) (tn : Int) (ia : Option Addr) (im ic : Nat) (ta : Option Addr) (tm tc : Nat) (ka : Option Addr) (kn kc : Nat) (most : Int),
    CoreIn w B F [.int .u8 kd, .string tx, .int .i64 nm, .int .u8 tk, .bool ng, .slice la ln lc, .string tt, .int .i64 tn, .slice ia im ic, .slice ta tm tc, .slice ka kn kc] t → 0 ≤ most → most ≤ 3000 → Calls Try.prog 5 #[.agg #[.int .u8 kd, .string tx, .int .i64 nm, .int .u8 tk, .bool ng, .slice la ln lc, .string tt, .int .i64 tn, .slice ia im ic, .slice ta tm tc, .slice ka kn kc], .int .i64 most] w (OfCPost w t most)

set_option maxRecDepth 100000 in
set_option maxHeartbeats 1000000 in
theorem cores_of_all (M : Nat) : OfCSaid M := by
  induction M using Nat.strongRecOn with
  | ind M IH =>
  intro t hM hok w B F kd tx nm tk ng la ln lc tt tn ia im ic ta tm tc ka kn kc most ht h0 h3
  obtain ⟨tr, kids, css, rfl, htr, hroom, hrk, hck, hkl⟩ : ∃ tr kids css, t = .mk kd tx nm tr kids ∧ TermIn w B F [.int .u8 tk, .bool ng, .slice la ln lc, .string tt, .int .i64 tn, .slice ia im ic, .slice ta tm tc] tr ∧ Roomy kn 160 ∧ Reads w B F 11 ka kn (List.flatten css) ∧ CoresIn w B F css kids ∧ List.length kids = kn := by
    obtain ⟨_, _, _, _, _, _, _, _, _, _, _, _, _, _, _, _, _, _, _, tr, kids, css, e1, e2, h1, h2, h3, h4, h5⟩ := ht.opened
    simp only [List.cons.injEq, Value.int.injEq, Value.bool.injEq, Value.slice.injEq, Value.string.injEq, true_and, and_true] at e2
    obtain ⟨rfl, rfl, rfl, rfl, rfl, ⟨rfl, rfl, rfl⟩, rfl, rfl, ⟨rfl, rfl, rfl⟩, ⟨rfl, rfl, rfl⟩, rfl, rfl, rfl⟩ := e2
    exact ⟨tr, kids, css, e1, h1, h2, h3, h4, h5⟩
  have HSZ : Hid (Co.size.sizes kids < M) := hide (by have := hM; simp only [Co.size] at this; omega)
  unfold okC at hok
  obtain ⟨_, hs1, _, hot, hoks⟩ := hok
  have htx : (tx.size : Int) ≤ 140737488355328 := by omega
  have hkm : (kn : Int) ≤ 35184372088832 := by have := hroom; unfold Roomy at this; omega
  have HTR := hide htr; have HRK := hide hrk; have HCK := hide hck; have HKL := hide hkl; have HOT := hide hot; have HOK := hide hoks; have HIH := hide IH
  clear ht htr hrk hck hkl hot hoks IH hM hs1 hroom
  go_enter Try.func5, Try.ntmps5
  go_wp2_with fail
  have HBX : Hid (Blk (w.alloc (.cells #[.int .u8 kd, .string tx, .int .i64 nm, .int .u8 tk, .bool ng, .slice la ln lc, .string tt, .int .i64 tn, .slice ia im ic, .slice ta tm tc, .slice ka kn kc] 30)).drew w.heap.size 30 #[.int .u8 kd, .string tx, .int .i64 nm, .int .u8 tk, .bool ng, .slice la ln lc, .string tt, .int .i64 tn, .slice ia im ic, .slice ta tm tc, .slice ka kn kc]) := hide (Blk.new w 30 #[.int .u8 kd, .string tx, .int .i64 nm, .int .u8 tk, .bool ng, .slice la ln lc, .string tt, .int .i64 tn, .slice ia im ic, .slice ta tm tc, .slice ka kn kc])
  have HK0 : Hid (Keeps NoB w (w.alloc (.cells #[.int .u8 kd, .string tx, .int .i64 nm, .int .u8 tk, .bool ng, .slice la ln lc, .string tt, .int .i64 tn, .slice ia im ic, .slice ta tm tc, .slice ka kn kc] 30)).drew) := hide ((Keeps.refl NoB w).alloc (.cells #[.int .u8 kd, .string tx, .int .i64 nm, .int .u8 tk, .bool ng, .slice la ln lc, .string tt, .int .i64 tn, .slice ia im ic, .slice ta tm tc, .slice ka kn kc] 30)).drew
  have HS := HBX.out
  refine order_begin (fun W => Blk W w.heap.size 30 #[.int .u8 kd, .string tx, .int .i64 nm, .int .u8 tk, .bool ng, .slice la ln lc, .string tt, .int .i64 tn, .slice ia im ic, .slice ta tm tc, .slice ka kn kc]) (fun _ => true) (by kernel_rfl) 11 rfl ?_
  generalize (w.alloc (.cells #[.int .u8 kd, .string tx, .int .i64 nm, .int .u8 tk, .bool ng, .slice la ln lc, .string tt, .int .i64 tn, .slice ia im ic, .slice ta tm tc, .slice ka kn kc] 30)).drew = W0 at *
  refine order_pure (i := 0) rfl (by kernel_rfl) (fun _ _ _ h => h) (.inl ⟨rfl, fun _ => by go_simp; rfl⟩) ?_
  try simp only [Act.put, List.setIfInBounds_toArray, List.set_cons_succ, List.set_cons_zero]
  refine order_held (i := 1) rfl (by kernel_rfl) (fun _ _ _ h => h) (.inl ⟨rfl, fun W hW => by
    have q0 : W.cell? ⟨w.heap.size, 1, none⟩ = some (.string tx) := hW.cell 1
    go_simp; rfl⟩) HS ?_
  try simp only [Act.put, List.setIfInBounds_toArray, List.set_cons_succ, List.set_cons_zero]
  refine order_pure (i := 2) rfl (by kernel_rfl) (fun _ _ _ h => h) (.inl ⟨rfl, fun _ => by go_simp; rfl⟩) ?_
  try simp only [Act.put, List.setIfInBounds_toArray, List.set_cons_succ, List.set_cons_zero]
  refine order_pure (i := 3) rfl (by kernel_rfl) (fun _ _ _ h => h) (.inl ⟨rfl, fun _ => by go_simp; rfl⟩) ?_
  try simp only [Act.put, List.setIfInBounds_toArray, List.set_cons_succ, List.set_cons_zero]
  refine order_pure (i := 4) rfl (by kernel_rfl) (fun _ _ _ h => h) (.inl ⟨rfl, fun _ => by go_simp; rfl⟩) ?_
  try simp only [Act.put, List.setIfInBounds_toArray, List.set_cons_succ, List.set_cons_zero]
  refine order_pure (i := 5) rfl (by kernel_rfl) (fun _ _ _ h => h) (.inl ⟨rfl, fun _ => by go_simp; rfl⟩) ?_
  try simp only [Act.put, List.setIfInBounds_toArray, List.set_cons_succ, List.set_cons_zero]
  refine order_held (i := 6) rfl (by kernel_rfl) (fun _ _ _ h => h) (.inl ⟨rfl, fun W hW => by
    have q0 : W.cell? ⟨w.heap.size, 3, none⟩ = some (.int .u8 tk) := hW.cell 3
    have q1 : W.cell? ⟨w.heap.size, 4, none⟩ = some (.bool ng) := hW.cell 4
    have q2 : W.cell? ⟨w.heap.size, 5, none⟩ = some (.slice la ln lc) := hW.cell 5
    have q3 : W.cell? ⟨w.heap.size, 6, none⟩ = some (.string tt) := hW.cell 6
    have q4 : W.cell? ⟨w.heap.size, 7, none⟩ = some (.int .i64 tn) := hW.cell 7
    have q5 : W.cell? ⟨w.heap.size, 8, none⟩ = some (.slice ia im ic) := hW.cell 8
    have q6 : W.cell? ⟨w.heap.size, 9, none⟩ = some (.slice ta tm tc) := hW.cell 9
    go_simp; rfl⟩) HS ?_
  try simp only [Act.put, List.setIfInBounds_toArray, List.set_cons_succ, List.set_cons_zero]
  refine order_pure (i := 7) rfl (by kernel_rfl) (fun _ _ _ h => h) (.inl ⟨rfl, fun _ => by go_simp; rfl⟩) ?_
  try simp only [Act.put, List.setIfInBounds_toArray, List.set_cons_succ, List.set_cons_zero]
  refine order_one (i := 8) rfl (by kernel_rfl) (fun K hK => ?_)
  go_simp
  refine (terms_of_all2 tr.size tr (Nat.le_refl _) HOT.out _ B F tk ng la ln lc tt tn ia im ic ta tm tc most (TermIn.keep HK0.out (fun _ _ => id) _ _ HTR.out) h0 h3).mono ?_
  rintro e w2 ⟨s, rfl, hs1, hs2, _, hk2⟩
  refine hK _ _ (fun _ hS => hS.keep hk2 id) ?_
  clear hK
  have HBX2 := hide (HBX.out.keep hk2 id)
  have HK2 := hide (HK0.out.trans' hk2 (fun _ _ => id) (fun _ _ => id) : Keeps NoB w w2)
  clear hk2 HS
  try simp only [Act.put, List.setIfInBounds_toArray, List.set_cons_succ, List.set_cons_zero]
  have hw1 : IntKind.i64.wrap ((tx.size : Int) / 8) = (tx.size : Int) / 8 := IntWalk.i64_in _ (by omega)
  have hw2 : IntKind.i64.wrap (1 + (tx.size : Int) / 8) = 1 + (tx.size : Int) / 8 := IntWalk.i64_in _ (by omega)
  have hq : 1 ≤ 1 + (tx.size : Int) / 8 ∧ 1 + (tx.size : Int) / 8 ≤ 17592186044417 := by omega
  rw [hw1, hw2]
  clear hw1 hw2
  generalize 1 + (tx.size : Int) / 8 = n0 at *
  refine order_pure (i := 9) rfl (by kernel_rfl) (fun _ _ _ h => h) (.inl ⟨rfl, fun _ => by go_simp; rfl⟩) ?_
  try simp only [Act.put, List.setIfInBounds_toArray, List.set_cons_succ, List.set_cons_zero]
  refine order_pure (i := 10) rfl (by kernel_rfl) (fun _ _ _ h => h) (.inl ⟨rfl, fun _ => by go_simp; rfl⟩) ?_
  try simp only [Act.put, List.setIfInBounds_toArray, List.set_cons_succ, List.set_cons_zero]
  have hw3 : IntKind.i64.wrap (n0 + s) = n0 + s := IntWalk.i64_in _ (by omega)
  rw [hw3]
  clear hw3
  refine order_done (by kernel_rfl) ?_
  obtain ⟨r0, hr0⟩ : ∃ r0, n0 + s = r0 := ⟨_, rfl⟩
  have hb0 : 1 ≤ r0 ∧ r0 ≤ most + 562949953421312 := by omega
  rw [hr0]
  clear hr0 hq hs1 hs2
  go_wp2_with fail
  go_loopg [5, 6] kn (fun g s5 s6 wx => ∃ (i : Nat) (r : Int), i ≤ kn ∧ g = kn - i ∧ s5 = .int .i64 r ∧ s6 = .int .i64 i ∧ 1 ≤ r ∧ r ≤ most + 562949953421312 ∧ Hid (r ≤ most → 1 + (Co.count.counts (kids.take i) : Int) ≤ r) ∧ Keeps NoB w2 wx)
  case atStart => exact ⟨0, r0, Nat.zero_le _, rfl, rfl, rfl, hb0.1, hb0.2, hide (fun _ => by rw [List.take_zero]; simp only [Co.count.counts]; omega), Keeps.refl _ _⟩
  case round =>
    obtain ⟨i, r, hi, rfl, rfl, rfl, hr1, hr2, HSM, hkw⟩ := hrel
    have HKW := hide hkw; clear hkw
    have p10 : wr.cell? ⟨w.heap.size, 10, none⟩ = some (.slice ka kn kc) := (HBX2.out.keep HKW.out id).cell 10
    have hi0 : (0 : Int) ≤ i := by omega
    have HKA := hide (HK2.out.trans' HKW.out (fun _ _ => id) (fun _ _ => id) : Keeps NoB w wr)
    by_cases hin : i < kn
    · have hiz : (i : Int) < kn := by omega
      by_cases hrm : r ≤ most
      · obtain ⟨b, o, kd', tx', nm', tk', ng', la', ln', lc', tt', tn', ia', im', ic', ta', tm', tc', ka', kn', kc', u, hA, h1, h2, hu, f0, f1, f2, f3, f4, f5, f6, f7, f8, f9, f10⟩ := core_at (HRK.out.keep HKA.out (fun _ _ => id)) (CoresIn.keep HKA.out (fun _ _ => id) _ _ HCK.out) i hin
        subst hA
        have HAT := hide h1; have HZ := hide h2; have HU := hide hu; have HOU := hide (okCs_mem HOK.out u (List.mem_of_getElem? h1))
        clear h1 h2 hu
        go_wp2_with
          first
          | (go_at_call 5
             refine (HIH.out _ HSZ.out u HZ.out HOU.out _ B F kd' tx' nm' tk' ng' la' ln' lc' tt' tn' ia' im' ic' ta' tm' tc' ka' kn' kc' (most - r) HU.out (by omega) (by omega)).mono ?_
             rintro e w3 ⟨q, rfl, hq1, hq2, hq3, hk3⟩
             have HQ3 := hide hq3
             have HKS := hide (HKW.out.trans' hk3 (fun _ _ => id) (fun _ _ => id) : Keeps NoB w2 w3)
             clear hk3 hq3)
          | fail
        go_roundg (kn - (i + 1))
        case measure => omega
        case rel => exact ⟨i + 1, r + q, by omega, rfl, by go_num, by go_num, by omega, by omega, hide (fun h => by rw [counts_take HAT.out]; have h1 := HSM.out (by omega); have h2 := HQ3.out (by omega); omega), HKS.out⟩
      · have hrm' : most < r := by omega
        clear hrm
        go_wp2
        go_ret
        exact ⟨r, rfl, hr1, hr2, fun h => absurd h (by omega), HKA.out⟩
    · have hiz : (kn : Int) ≤ i := by omega
      obtain rfl : i = kn := by omega
      go_wp2
      go_ret
      refine ⟨r, rfl, hr1, hr2, fun h => ?_, HKA.out⟩
      have h1 := HSM.out h
      rw [List.take_of_length_le (by have := HKL.out; omega)] at h1
      simp only [Co.count]; omega
end Go.Proofs.Ytdmldipnalklgaa
