/- (*name.Names).All: all names, rising. -/
import Derived.Test.YthoaaihghgabcaaGreatTake
import Derived.Test.YthoaaihghgabcaaGreatIter
import Derived.Deep.LoopGhost
namespace Go.Proofs.YthoaaihghgabcaaGreat
open Go.RowKit Go.Maps Go.Sort Go.Shelf

theorem Tryz.info42 : (Tryz.prog.info? 42).map (fun i => (i.zero, i.size, i.bytes)) = some (some (.agg #[.string ByteArray.empty, .int .i64 0]), 2, 24) := by kernel_rfl

/-- Names as cells: name and number by turns. -/
def nms (L : List Nm) : List Value := L.flatMap fun x => [.string x.1, .int .i64 x.2]
theorem nms_len : ∀ L : List Nm, (nms L).length = L.length * 2
  | [] => rfl
  | x :: L => by
    show ([Value.string x.1, .int .i64 x.2] ++ nms L).length = _
    rw [List.length_append, nms_len L, List.length_cons]; simp; omega
theorem nms_append (L M : List Nm) : nms (L ++ M) = nms L ++ nms M := by unfold nms; rw [List.flatMap_append]
theorem nms_ones (L : List Nm) : ∀ u ∈ nms L, u.oneCell' = true := by
  intro u hu
  unfold nms at hu
  obtain ⟨x, _, hx⟩ := List.mem_flatMap.1 hu
  simp only [List.mem_cons, List.not_mem_nil, or_false] at hx
  rcases hx with rfl | rfl <;> rfl
theorem nms_at : ∀ {L : List Nm} {i : Nat} {x : Nm}, L[i]? = some x → (nms L)[i * 2]? = some (.string x.1) ∧ (nms L)[i * 2 + 1]? = some (.int .i64 x.2)
  | [], _, _, h => by simp at h
  | y :: L, 0, x, h => by
    obtain rfl : y = x := by simpa using h
    exact ⟨rfl, rfl⟩
  | y :: L, i + 1, x, h => by
    obtain ⟨h1, h2⟩ := nms_at (L := L) (i := i) (x := x) (by simpa using h)
    have e : nms (y :: L) = [Value.string y.1, .int .i64 y.2] ++ nms L := rfl
    rw [e]
    constructor
    · rw [List.getElem?_append_right (by simp; omega)]
      rw [← h1]; congr 1; simp; omega
    · rw [List.getElem?_append_right (by simp; omega)]
      rw [← h2]; congr 1; simp; omega

theorem keys_any (m : Nat) (w : World) : Calls Tryz.prog 24 #[.map (some m)] w fun e w' => e = .returned (.func (.func 31) #[] #[.pointer (some ⟨w.heap.size, 0, none⟩)]) ∧ w' = w.alloc (.cells #[.map (some m)] 48) :=
  callsIn_wide.1 (Tryz.maps_Keys_24 (some m) w)

def SortedPost (w : World) (L : List Nm) (e : Ending) (w' : World) : Prop :=
  ∃ A c, e = .returned (.slice A L.length c) ∧ Slab w' 9 1 A L.length c (L.map fun x => .string x.1) ∧ Keeps NoB w w' ∧ ∀ k, rowB A k → w.heap.size ≤ k
theorem sorted_any (m N : Nat) (D : DataW Unit) (L : List Nm) (w : World) (hown : w.ownsMap Tryz.prog 9 (plainElem Tryz.prog 3) m N D) (hD : SMap D L) (hu : Up L) (hN : N ≤ 1000000) :
    Calls Tryz.prog 23 #[.func (.func 31) #[] #[.pointer (some ⟨w.heap.size, 0, none⟩)]] (w.alloc (.cells #[.map (some m)] 48)) (SortedPost (w.alloc (.cells #[.map (some m)] 48)) L) := by
  have hsz := hown.size_le
  refine (callsIn_wide.1 (Tryz.slices_Sorted_keys_23_24 m N D _ w hown (by unfold maxLen; omega) (by omega))).mono ?_
  rintro e w' ⟨v, ss, rfl, hp, hrow, _, hb⟩
  have hp2 := hp.trans (hD.keys hown keyS Tryz.underlying9 hu)
  have hl : ss.length = L.length := by rw [hp2.length_eq, List.length_map]
  rw [sorted_names hu hp2, hl] at hrow
  have he : ((L.map fun x => key x.1).map encStr) = L.map fun x => Value.string x.1 := by
    rw [List.map_map]
    apply List.map_congr_left
    intro x _
    simp [encStr, key]
  rw [he] at hrow
  obtain ⟨A, c, rfl, hs⟩ := Slab.of_own hrow
  refine ⟨A, c, rfl, hs, Keeps.of_below hb NoB, ?_⟩
  rintro k ⟨o, rfl⟩
  exact (hrow.lt k rfl).1

theorem Slab.apart {w : World} {e e' : TypeId} {s s' n n' c c' : Nat} {A A' : Option Addr} {xs xs' : List Value} (h : Slab w e s A n c xs) (h' : Slab w e' s' A' n' c' xs') (hne : e ≠ e') (k : Nat) (hk : rowB A k) (hk' : rowB A' k) : False := by
  obtain ⟨o, rfl⟩ := hk
  obtain ⟨_, _, _, ⟨h0, _⟩ | ⟨g, o', cur, h0, hb, _⟩⟩ := h
  · cases h0
  · injection h0 with h0; injection h0 with h0 _; subst h0
    exact h'.ne hb (Ne.symm hne) hk'
theorem two_reads {w : World} {vb : Nat} {t : TypeId} {u v : Value} (hv : Blk w vb t #[u, v]) : Reads w (fun _ => True) true 2 (some ⟨vb, 0, none⟩) 1 [u, v] := by
  refine ⟨rfl, fun _ => ⟨_, rfl, rfl, trivial, hv.lt, fun j u hu => ⟨?_, fun _ => hv.free _⟩⟩⟩
  rw [hv.cell, ← hu]; simp

def AllPost (w : World) (L : List Nm) (e : Ending) (w' : World) : Prop :=
  ∃ A c, e = .returned (.slice A L.length c) ∧ Slab w' 42 2 A L.length c (nms L) ∧ Keeps NoB w w' ∧ ∀ k, rowB A k → w.heap.size ≤ k
set_option maxRecDepth 100000 in
set_option maxHeartbeats 2000000 in
theorem all_at (w : World) (b m1 m2 N : Nat) (L : List Nm) (h : NamesAt w b m1 m2 N L) (hN : N ≤ 1000000) (hs : ∀ x ∈ L, x.1.size ≤ maxLen) (hL : L.length ≤ 1000000) :
    Calls Tryz.prog 10 #[.pointer (some ⟨b, 0, none⟩)] w (AllPost w L) := by
  obtain ⟨i0, hi0, hz0, hz1, hz2⟩ := info_parts Tryz.info42
  obtain ⟨D1, o1, s1⟩ := h.one
  have c0 : w.cell? ⟨b, 0, none⟩ = some (.map (some m1)) := h.blk.cell 0
  have HO := hide (And.intro o1 s1); have H := hide h; have HS := hide hs
  obtain ⟨n, hn⟩ : ∃ n, L.length = n := ⟨_, rfl⟩
  have HN := hide hn
  rw [hn] at hL
  clear h o1 s1 hs hn
  go_enter Tryz.func10, Tryz.ntmps10
  go_wp2_with
    first
    | (go_at_call 22; refine (made_at w b m1 c0).mono ?_; rintro e w' ⟨rfl, rfl⟩)
    | (go_at_call 24; refine (keys_any m1 w).mono ?_; rintro e w' ⟨rfl, rfl⟩)
    | (go_at_call 23
       refine (sorted_any m1 N D1 L w HO.out.1 HO.out.2 H.out.up hN).mono ?_
       rintro e w1 ⟨A, c, rfl, h1, h2, h3⟩
       rw [HN.out]
       have HSL := hide (show Slab w1 9 1 A n c (L.map fun x => .string x.1) from HN.out ▸ h1)
       have HK1 := hide (((Keeps.refl NoB w).alloc (.cells #[.map (some m1)] 48)).trans' h2 (fun _ _ => id) (fun _ _ => id) : Keeps NoB w w1)
       clear h1 h2 h3)
    | fail
  go_loopg [3, 16] n (fun g s3 s16 wr => ∃ (i : Nat) (A' : Option Addr) (c' : Nat), i ≤ n ∧ g = n - i ∧ s3 = .slice A' i c' ∧ s16 = .int .i64 i ∧ Hid (Slab wr 42 2 A' i c' (nms (L.take i))) ∧ Hid (Slab wr 9 1 A n c (L.map fun x => .string x.1)) ∧ Keeps NoB w wr ∧ Hid (∀ k, rowB A' k → w.heap.size ≤ k))
  case atStart => exact ⟨0, none, 0, Nat.zero_le _, rfl, rfl, rfl, hide (Slab.nil _ _ _), HSL, HK1.out, hide (fun k ⟨o, e⟩ => by cases e)⟩
  case round =>
    obtain ⟨i, A', c', hi, rfl, rfl, rfl, HS1, HS2, hkw, HA⟩ := hrel
    have HKW := hide hkw; clear hkw
    have hiz0 : (0 : Int) ≤ i := by omega
    by_cases hin : i < n
    · have hiz : (i : Int) < n := by omega
      obtain ⟨x, hx⟩ : ∃ x, L[i]? = some x := ⟨_, List.getElem?_eq_getElem (by have := HN.out; omega)⟩
      have hxL : x ∈ L := List.mem_of_getElem? hx
      obtain ⟨⟨g, o, sp⟩, hA, hsp, _, _, hc⟩ := HS2.out.reads.2 (by omega)
      simp only at hsp
      subst hsp hA
      have p0 : wr.cell? ⟨g, o + i, none⟩ = some (.string x.1) := (hc i (.string x.1) (by simp [hx])).1
      have q0 : wr.cell? ⟨b, 0, none⟩ = some (.map (some m1)) := (H.out.blk.keep HKW.out id).cell 0
      have HOW := hide (own_keep HO.out.1 HKW.out id)
      have hkey := keyOf_s (HS.out x hxL)
      have HAT := hide (show ∀ c : Int, D1.atKey (.string (key x.1)) (.lit (.int .i64 0)) = .lit (.int .i64 c) → c = x.2 from fun c hc => by
        rw [HO.out.2.at' x hxL] at hc
        injection hc with hc; injection hc with _ hc; exact hc.symm)
      have HX := hide hx
      obtain ⟨s, p⟩ := x
      simp only at p0 hkey
      clear hx hxL hc
      go_wp2_with
        first
        | (at_lookup
           refine wpList_lookup_own_int wr rfl _ _ 48 rfl 9 3 .i64 keyS Tryz.underlying48 Tryz.underlying3 (zero3 wr) m1 N D1 rfl HOW.out _ _ rfl hkey ?_
           intro c2 hat hwc
           have hc2 : c2 = p := HAT.out c2 hat
           subst hc2
           clear hat hwc
           have HSA := hide (HS1.out.fresh ((Keeps.refl NoB wr).alloc (.cells #[.string s, .int .i64 c2] 42)))
           have HRD := hide (two_reads (Blk.new wr 42 #[.string s, .int .i64 c2])))
        | (at_builtin
           refine wpList_append_any _ rfl (.tmp 20) (.tmp 29) 28 rfl 42 i0 _ 2 24 Tryz.underlying28 hi0 hz0 hz1 hz2 rfl (by omega) A' i c' (nms (L.take i)) rfl HSA.out (fun _ => True) true (some ⟨wr.heap.size, 0, none⟩) 1 1 [.string s, .int .i64 c2] rfl HRD.out (nms_ones [(s, c2)]) (by unfold maxLen; omega) (by omega) ?_
           intro A2 c3 w3 hs3 hk3 hm3
           have HS3 := hide hs3; have HK3 := hide hk3; have HM3 := hide hm3
           clear hs3 hk3 hm3)
        | fail
      have hka : Keeps NoB wr (wr.alloc (.cells #[.string s, .int .i64 c2] 42)) := (Keeps.refl NoB wr).alloc _
      have hkk : Keeps NoB w w3 := (HKW.out.alloc (.cells #[.string s, .int .i64 c2] 42)).trans' HK3.out (fun _ _ => id) (fun j hj hr => by have := HA.out j hr; omega)
      have hs2 : Slab w3 9 1 (some ⟨g, o, none⟩) n c (L.map fun x => .string x.1) := (HS2.out.fresh hka).keep HK3.out (fun j h1 h2 => Slab.apart (HS2.out.fresh hka) HSA.out (by decide) j h1 h2)
      have hsz := HKW.out.size
      go_roundg (n - (i + 1))
      case measure => omega
      case rel => exact ⟨i + 1, A2, c3, by omega, rfl, rfl, by go_num, hide (by rw [List.take_add_one, HX.out]; simpa [nms_append, nms] using HS3.out), hide hs2, hkk, hide (fun k hk => (HM3.out k hk).elim (HA.out k) (fun e => by have := World.size_alloc wr (.cells #[.string s, .int .i64 c2] 42); omega))⟩
    · obtain rfl : i = n := by omega
      have hiz : ¬ (i : Int) < i := by omega
      go_wp2_with fail
      go_ret
      have e : L.length = i := HN.out
      exact ⟨A', c', by rw [e]; rfl, by rw [e]; have := HS1.out; rwa [List.take_of_length_le (by omega)] at this, HKW.out, HA.out⟩
end Go.Proofs.YthoaaihghgabcaaGreat
