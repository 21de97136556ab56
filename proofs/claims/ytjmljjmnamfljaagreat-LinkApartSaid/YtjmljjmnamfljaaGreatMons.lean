/- (*link.Links).Monitors: all monitors, rising. -/
import Derived.Test.YtjmljjmnamfljaaGreatOps
namespace Go.Proofs.YtjmljjmnamfljaaGreat
set_option maxRecDepth 100000
open Go.RowKit Go.Maps Go.Sort Go.Shelf

theorem Tryz.info33 : (Tryz.prog.info? 33).map (fun i => (i.zero, i.size, i.bytes)) = some (some (.agg #[.int .i64 0, .int .i64 0, .int .i64 0]), 3, 24) := by kernel_rfl

/-- Monitors as cells. -/
def mons (M : List Mon) : List Value := M.flatMap fun x => [.int .i64 x.ref, .int .i64 x.who, .int .i64 x.whom]
theorem mons_cons (x : Mon) (M : List Mon) : mons (x :: M) = [.int .i64 x.ref, .int .i64 x.who, .int .i64 x.whom] ++ mons M := rfl
theorem mons_len : ∀ M : List Mon, (mons M).length = M.length * 3
  | [] => rfl
  | x :: M => by rw [mons_cons, List.length_append, mons_len M, List.length_cons]; simp; omega
theorem mons_append (L M : List Mon) : mons (L ++ M) = mons L ++ mons M := by unfold mons; rw [List.flatMap_append]
theorem mons_ones (L : List Mon) : ∀ u ∈ mons L, u.oneCell' = true := by
  intro u hu
  unfold mons at hu
  obtain ⟨x, _, hx⟩ := List.mem_flatMap.1 hu
  simp only [List.mem_cons, List.not_mem_nil, or_false] at hx
  rcases hx with rfl | rfl | rfl <;> rfl
theorem mons_at : ∀ {M : List Mon} {i : Nat} {x : Mon}, M[i]? = some x → (mons M)[i * 3]? = some (.int .i64 x.ref) ∧ (mons M)[i * 3 + 1]? = some (.int .i64 x.who) ∧ (mons M)[i * 3 + 2]? = some (.int .i64 x.whom)
  | [], _, _, h => by simp at h
  | y :: M, 0, x, h => by
    obtain rfl : y = x := by simpa using h
    exact ⟨rfl, rfl, rfl⟩
  | y :: M, i + 1, x, h => by
    obtain ⟨h1, h2, h3⟩ := mons_at (M := M) (i := i) (x := x) (by simpa using h)
    rw [mons_cons]
    refine ⟨?_, ?_, ?_⟩
    · rw [List.getElem?_append_right (by simp; omega), ← h1]; congr 1; simp; omega
    · rw [List.getElem?_append_right (by simp; omega), ← h2]; congr 1; simp; omega
    · rw [List.getElem?_append_right (by simp; omega), ← h3]; congr 1; simp; omega
/-- A monitor's cells in a row of them. -/
theorem mon_reads {w : World} {B : Nat → Prop} {F : Bool} {A : Option Addr} {n i : Nat} {M : List Mon} {x : Mon} (h : Reads w B F 3 A n (mons M)) (hx : M[i]? = some x) : ∃ g o, A = some ⟨g, o, none⟩ ∧ w.cell? ⟨g, o + i * 3, none⟩ = some (.int .i64 x.ref) ∧ w.cell? ⟨g, o + i * 3 + 1, none⟩ = some (.int .i64 x.who) ∧ w.cell? ⟨g, o + i * 3 + 2, none⟩ = some (.int .i64 x.whom) := by
  have hin := (List.getElem?_eq_some_iff.1 hx).1
  have hn : M.length = n := by have := h.1; rw [mons_len] at this; omega
  obtain ⟨⟨g, o, sp⟩, hA, hs, _, _, hc⟩ := h.2 (by omega)
  simp only at hs
  subst hs
  obtain ⟨e0, e1, e2⟩ := mons_at hx
  exact ⟨g, o, hA, (hc _ _ e0).1, (hc _ _ e1).1, (hc _ _ e2).1⟩
theorem three_reads {w : World} {vb : Nat} {t : TypeId} {u v x : Value} (hv : Blk w vb t #[u, v, x]) : Reads w (fun _ => True) true 3 (some ⟨vb, 0, none⟩) 1 [u, v, x] := by
  refine ⟨rfl, fun _ => ⟨_, rfl, rfl, trivial, hv.lt, fun j u hu => ⟨?_, fun _ => hv.free _⟩⟩⟩
  rw [hv.cell, ← hu]; simp
theorem Slab.apart {w : World} {e e' : TypeId} {s s' n n' c c' : Nat} {A A' : Option Addr} {xs xs' : List Value} (h : Slab w e s A n c xs) (h' : Slab w e' s' A' n' c' xs') (hne : e ≠ e') (k : Nat) (hk : rowB A k) (hk' : rowB A' k) : False := by
  obtain ⟨o, rfl⟩ := hk
  obtain ⟨_, _, _, ⟨h0, _⟩ | ⟨g, o', cur, h0, hb, _⟩⟩ := h
  · cases h0
  · injection h0 with h0; injection h0 with h0 _; subst h0
    exact h'.ne hb (Ne.symm hne) hk'

def MonsPost (w : World) (M : List Mon) (e : Ending) (w' : World) : Prop :=
  ∃ A c, e = .returned (.slice A M.length c) ∧ Slab w' 33 3 A M.length c (mons M) ∧ Keeps NoB w w' ∧ ∀ k, rowB A k → w.heap.size ≤ k
set_option maxRecDepth 100000 in
set_option maxHeartbeats 2000000 in
theorem mons_any (w : World) (B b m1 m2 N : Nat) (L : LK) (M : List Mon) (h : LinksAt w B b m1 m2 N L M) (hN : N ≤ 1000000) (hM : M.length ≤ 1000000) :
    Calls Tryz.prog 6 #[.pointer (some ⟨b, 0, none⟩)] w (MonsPost w M) := by
  obtain ⟨i0, ni0, nz0, nz1, nz2⟩ := info_parts Tryz.info33
  obtain ⟨⟨T, hr⟩, hg⟩ := h
  obtain ⟨D, o, s⟩ := hr.mon
  have c0 : w.cell? ⟨b, 0, none⟩ = some (.map (some m1)) := hr.blk.cell 0
  have c1 : w.cell? ⟨b, 1, none⟩ = some (.map (some m2)) := hr.blk.cell 1
  have HS := hide (sorted26 m2 N D M w o s hr.up hN)
  obtain ⟨n, hn⟩ : ∃ n, M.length = n := ⟨_, rfl⟩
  have HN := hide hn
  have HR := hide hr
  rw [hn] at hM
  have hln : (M.map (·.ref)).length = n := by rw [List.length_map]; exact hn
  have HLN := hide hln
  clear hr hg o s hn hln
  go_enter Tryz.func6, Tryz.ntmps6
  go_wp2_with
    first
    | (go_at_call 12; refine (made_at w b m1 c0).mono ?_; rintro e w' ⟨rfl, rfl⟩)
    | (go_at_call 15; refine (keysM_any (some m2) w).mono ?_; rintro e w' ⟨rfl, rfl⟩)
    | (go_at_call 13
       refine HS.out.mono ?_
       rintro e w1 ⟨A, c, rfl, h1, h2, h3⟩
       rw [HLN.out] at h1 ⊢
       have HSL := hide h1
       have HK1 := hide (((Keeps.refl NoB w).alloc (.cells #[.map (some m2)] 51)).trans' h2 (fun _ _ => id) (fun _ _ => id) : Keeps NoB w w1)
       clear h1 h2 h3 HS)
    | fail
  go_loopg [3, 16] n (fun g s3 s16 wr => ∃ (i : Nat) (A' : Option Addr) (c' : Nat), i ≤ n ∧ g = n - i ∧ s3 = .slice A' i c' ∧ s16 = .int .i64 i ∧ Hid (Slab wr 33 3 A' i c' (mons (M.take i))) ∧ Hid (Slab wr 3 1 A n c ((M.map (·.ref)).map (Value.int .i64))) ∧ Keeps NoB w wr ∧ Hid (∀ k, rowB A' k → w.heap.size ≤ k))
  case atStart => exact ⟨0, none, 0, Nat.zero_le _, rfl, rfl, rfl, hide (Slab.nil _ _ _), HSL, HK1.out, hide (fun k ⟨o, e⟩ => by cases e)⟩
  case round =>
    obtain ⟨i, A', c', hi, rfl, rfl, rfl, HS1, HS2, hkw, HA⟩ := hrel
    have HKW := hide hkw; clear hkw
    have hiz0 : (0 : Int) ≤ i := by omega
    by_cases hin : i < n
    · have hiz : (i : Int) < n := by omega
      obtain ⟨x, hx⟩ : ∃ x, M[i]? = some x := ⟨_, List.getElem?_eq_getElem (by have := HN.out; omega)⟩
      have hxM : x ∈ M := List.mem_of_getElem? hx
      obtain ⟨⟨g, o, sp⟩, hA, hsp, _, _, hc⟩ := HS2.out.reads.2 (by omega)
      simp only at hsp
      subst hsp hA
      have p0 : wr.cell? ⟨g, o + i, none⟩ = some (.int .i64 x.ref) := (hc i (.int .i64 x.ref) (by simp [hx])).1
      have HRW := hide (HR.out.fresh HKW.out)
      have q0 : wr.cell? ⟨b, 1, none⟩ = some (.map (some m2)) := HRW.out.blk.cell 1
      have hl := HRW.out.lookM1 hxM
      have HX := hide hx
      obtain ⟨r, wh, wm⟩ := x
      simp only [monV] at p0 hl
      clear hx hxM hc
      go_wp2_with
        first
        | (at_builtin
           have HSA := hide (HS1.out.fresh ((Keeps.refl NoB wr).alloc (.cells #[.int .i64 r, .int .i64 wh, .int .i64 wm] 33)))
           have HRD := hide (three_reads (Blk.new wr 33 #[.int .i64 r, .int .i64 wh, .int .i64 wm]))
           refine wpList_append_any _ rfl (.tmp 20) (.tmp 27) 27 rfl 33 i0 _ 3 24 Tryz.underlying27 ni0 nz0 nz1 nz2 rfl (by omega) A' i c' (mons (M.take i)) rfl HSA.out (fun _ => True) true (some ⟨wr.heap.size, 0, none⟩) 1 1 [.int .i64 r, .int .i64 wh, .int .i64 wm] rfl HRD.out (mons_ones [⟨r, wh, wm⟩]) (by unfold maxLen; omega) (by omega) ?_
           intro A2 c3 w3 hs3 hk3 hm3
           have HS3 := hide hs3; have HK3 := hide hk3; have HM3 := hide hm3
           clear hs3 hk3 hm3)
        | fail
      have hka : Keeps NoB wr (wr.alloc (.cells #[.int .i64 r, .int .i64 wh, .int .i64 wm] 33)) := (Keeps.refl NoB wr).alloc _
      have hkk : Keeps NoB w w3 := (HKW.out.alloc (.cells #[.int .i64 r, .int .i64 wh, .int .i64 wm] 33)).trans' HK3.out (fun _ _ => id) (fun j hj hr => by have := HA.out j hr; omega)
      have hs2 : Slab w3 3 1 (some ⟨g, o, none⟩) n c ((M.map (·.ref)).map (Value.int .i64)) := (HS2.out.fresh hka).keep HK3.out (fun j h1 h2 => Slab.apart (HS2.out.fresh hka) HSA.out (by decide) j h1 h2)
      have hsz := HKW.out.size
      go_roundg (n - (i + 1))
      case measure => omega
      case rel => exact ⟨i + 1, A2, c3, by omega, rfl, rfl, by go_num, hide (by rw [List.take_add_one, HX.out]; simpa [mons_append, mons] using HS3.out), hide hs2, hkk, hide (fun k hk => (HM3.out k hk).elim (HA.out k) (fun e => by have := World.size_alloc wr (.cells #[.int .i64 r, .int .i64 wh, .int .i64 wm] 33); omega))⟩
    · obtain rfl : i = n := by omega
      have hiz : ¬ (i : Int) < i := by omega
      go_wp2_with fail
      go_ret
      have e : M.length = i := HN.out
      exact ⟨A', c', by rw [e]; rfl, by rw [e]; have := HS1.out; rwa [List.take_of_length_le (by omega)] at this, HKW.out, HA.out⟩
end Go.Proofs.YtjmljjmnamfljaaGreat
