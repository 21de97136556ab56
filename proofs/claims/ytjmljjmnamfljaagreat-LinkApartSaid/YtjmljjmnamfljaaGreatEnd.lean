/- (*link.Links).End. -/
import Derived.Test.YtjmljjmnamfljaaGreatLink
namespace Go.Proofs.YtjmljjmnamfljaaGreat
set_option maxRecDepth 100000
open Go.RowKit Go.Maps

theorem row_blk {w : World} {e : TypeId} {s n c : Nat} {A : Option Addr} {xs : List Value} {k : Nat} (h : Slab w e s A n c xs) (hk : rowB A k) : ∃ cs, Blk w k e cs := by
  obtain ⟨o, rfl⟩ := hk
  obtain ⟨_, _, _, ⟨h0, _⟩ | ⟨g, o', cur, h0, hb, _⟩⟩ := h
  · cases h0
  · injection h0 with h0; injection h0 with h0 _; subst h0; exact ⟨_, hb⟩
theorem FP.slab {w : World} {B : Nat} {e : TypeId} {s n c : Nat} {A : Option Addr} {xs : List Value} (h : Slab w e s A n c xs) : ∀ k, rowB A k → ¬ FP w B k := fun k hk => by
  obtain ⟨cs, hc⟩ := row_blk h hk
  exact FP.blk hc
theorem LinksAt.dropM {w : World} {B b m1 m2 N : Nat} {L : LK} {M : List Mon} (h : LinksAt w B b m1 m2 N L M) {r : Int} (hr : IntOk r) : ∃ w', (Builtin.delete_ #[51, 3] 0 #[.map (some m2), .int .i64 r]).run Tryz.prog w = .ok (.tuple #[]) w' ∧ LinksAt w' B b m1 m2 N L (dropRef r M) ∧ Keeps (FP w B) w w' := by
  obtain ⟨⟨T, hr'⟩, hg⟩ := h
  obtain ⟨w', h1, h2, h3⟩ := hr'.dropM hr
  exact ⟨w', h1, ⟨⟨T, h2⟩, hg⟩, hr'.fp_mon h3⟩
theorem told_take {a : Int} {M : List Mon} {i : Nat} {x : Mon} (h : M[i]? = some x) : toldM a (M.take (i + 1)) = toldM a (M.take i) ++ (if x.whom = a then [x] else []) := by
  unfold toldM
  rw [List.take_add_one, h, List.filter_append]
  congr 1
  by_cases e : x.whom = a <;> simp [e]
theorem told_len {a : Int} {M : List Mon} (i : Nat) : (toldM a (M.take i)).length ≤ i := Nat.le_trans (toldM_len _ _) (List.length_take_le _ _)

def EndPost (w : World) (B b m1 m2 N : Nat) (L : LK) (M : List Mon) (a : Int) (e : Ending) (w' : World) : Prop :=
  ∃ A c A2 c2, e = .returned (.tuple #[.slice A (L a).length c, .slice A2 (toldM a M).length c2]) ∧ Slab w' 3 1 A (L a).length c ((L a).map (Value.int .i64)) ∧ Slab w' 33 3 A2 (toldM a M).length c2 (mons (toldM a M)) ∧
    LinksAt w' B b m1 m2 N (endL a L) (endM a M) ∧ Keeps (FP w B) w w' ∧ (∀ k, rowB A k → w.heap.size ≤ k) ∧ ∀ k, rowB A2 k → w.heap.size ≤ k
set_option maxRecDepth 100000 in
set_option maxHeartbeats 4000000 in
theorem end_any (w : World) (B b m1 m2 N : Nat) (L : LK) (M : List Mon) (a : Int) (h : LinksAt w B b m1 m2 N L M) (ha : IntOk a) (hN : N ≤ 1000000) (hM : M.length ≤ 1000000) :
    Calls Tryz.prog 20 #[.pointer (some ⟨b, 0, none⟩), .int .i64 a] w (EndPost w B b m1 m2 N L M a) := by
  obtain ⟨i0, ni0, nz0, nz1, nz2⟩ := info_parts Tryz.info33
  have H := hide h; have HG := hide h.good; have HU := hide h.up; have HOK := hide h.ok
  clear h
  obtain ⟨l, hl⟩ : ∃ l, L a = l := ⟨_, rfl⟩
  obtain ⟨n, hn⟩ : ∃ n, l.length = n := ⟨_, rfl⟩
  have HL := hide hl; have HN := hide hn
  clear hl hn
  go_enter Tryz.func20, Tryz.ntmps20
  go_wp2_with
    first
    | (go_at_call 5
       refine (of_at w B b m1 m2 N L M a H.out ha hN).mono ?_
       rintro e w1 ⟨A, c, rfl, h1, h2, h3⟩
       rw [HL.out, HN.out] at h1
       rw [HL.out, HN.out]
       have HS := hide h1; have HK1 := hide h2; have HF := hide h3
       clear h1 h2 h3)
    | fail
  have hn6 : n ≤ maxLen := Nat.le_trans HS.out.2.1 HS.out.2.2.1
  unfold maxLen at hn6
  go_loopg [15] n (fun g s15 wr => ∃ i : Nat, i ≤ n ∧ g = n - i ∧ s15 = .int .i64 i ∧ LinksAt wr B b m1 m2 N (unl a (l.take i) L) M ∧ Keeps (FP w1 B) w1 wr)
  case atStart => exact ⟨0, Nat.zero_le _, rfl, rfl, H.out.fresh HK1.out, Keeps.refl _ _⟩
  case round =>
    obtain ⟨i, hi, rfl, rfl, hla, hk⟩ := hrel
    have HLA := hide hla; have HK := hide hk
    clear hla hk
    have hi0 : (0 : Int) ≤ i := by omega
    by_cases hin : i < n
    · have hiz : (i : Int) < n := by omega
      obtain ⟨x, hx⟩ : ∃ x, l[i]? = some x := ⟨_, List.getElem?_eq_getElem (by have := HN.out; omega)⟩
      obtain ⟨g, o, hA, p0⟩ : ∃ g o, A = some ⟨g, o, none⟩ ∧ wr.cell? ⟨g, o + i, none⟩ = some (.int .i64 x) := by
        obtain ⟨⟨g, o, sp⟩, hA, hsp, _, _, hc⟩ := (HS.out.keep HK.out (FP.slab HS.out)).reads.2 (by omega)
        simp only at hsp
        subst hsp
        exact ⟨g, o, hA, by have := (hc i (.int .i64 x) (by rw [List.getElem?_map, hx]; rfl)).1; simpa using this⟩
      subst hA
      have HX := hide hx
      have HXL := hide (show x ∈ L a from HL.out ▸ List.mem_of_getElem? hx)
      have HIN := hide (show x ∈ unl a (l.take i) L a from by
        have hnot : a ∉ l.take i := fun e => HG.out.irr a (HL.out ▸ List.mem_of_mem_take e)
        rw [unl_left (l.take i) (l.drop i) L HG.out (by rw [List.take_append_drop]; exact HL.out) hnot]
        obtain ⟨hi', e⟩ := List.getElem?_eq_some_iff.1 hx
        rw [List.drop_eq_getElem_cons hi', e]; exact List.mem_cons_self)
      clear hx
      go_wp2_with fail
      refine (unlink_yes wr B b m1 m2 N _ M a x HLA.out ha (HG.out.ok _ _ HXL.out) HIN.out).mono ?_
      rintro e w2 ⟨rfl, h1, h2⟩
      have HLA2 := hide (show LinksAt w2 B b m1 m2 N (unl a (l.take (i + 1)) L) M from by rw [unl_take HX.out]; exact h1)
      have HK2 := hide (FP.trans HK.out h2)
      clear h1 h2 HLA HK HIN p0
      go_wp2_with fail
      go_roundg (n - (i + 1))
      case measure => omega
      case rel => exact ⟨i + 1, by omega, rfl, by go_num, HLA2.out, HK2.out⟩
    · obtain rfl : i = n := by omega
      have hiz : ¬ (i : Int) < i := by omega
      have HLA2 := hide (show LinksAt wr B b m1 m2 N (endL a L) M from by
        rw [← unl_end l L HG.out HL.out]; have := HLA.out; rwa [List.take_of_length_le (by have := HN.out; omega)] at this)
      have HS2 := hide (HS.out.keep HK.out (FP.slab HS.out))
      have HKW := hide (FP.trans (FP.of w B HK1.out) HK.out)
      clear HLA HS HK HK1 hi hin
      obtain ⟨q, hq⟩ : ∃ q, M.length = q := ⟨_, rfl⟩
      have HQ := hide hq
      have hq6 : q ≤ 1000000 := by omega
      clear hM hq
      go_wp2_with
        first
        | (go_at_call 6
           refine (mons_any wr B b m1 m2 N (endL a L) M HLA2.out hN (by have := HQ.out; omega)).mono ?_
           rintro e w2 ⟨X, cX, rfl, h1, h2, h3⟩
           rw [HQ.out] at h1 ⊢
           have HX := hide h1
           have HLA3 := hide (HLA2.out.fresh h2)
           have HS3 := hide (HS2.out.fresh h2)
           have HKW3 := hide (FP.trans HKW.out (FP.of wr B h2))
           clear h1 h2 h3 HLA2 HS2 HKW)
        | fail
      go_loopg [5, 27] q (fun g s5 s27 wr => ∃ (k : Nat) (A2 : Option Addr) (c2 : Nat), k ≤ q ∧ g = q - k ∧ s27 = .int .i64 k ∧ s5 = .slice A2 (toldM a (M.take k)).length c2 ∧ LinksAt wr B b m1 m2 N (endL a L) (midM a k M) ∧ Slab wr 33 3 A2 (toldM a (M.take k)).length c2 (mons (toldM a (M.take k))) ∧ Keeps (FP w2 B) w2 wr ∧ ∀ k, rowB A2 k → w2.heap.size ≤ k)
      case atStart => exact ⟨0, none, 0, Nat.zero_le _, rfl, rfl, rfl, by rw [midM_zero]; exact HLA3.out, Slab.nil _ _ _, Keeps.refl _ _, fun k ⟨o, e⟩ => by cases e⟩
      case round =>
        obtain ⟨k, A2, c2, hk, rfl, rfl, rfl, hla, hs, hkk, hnew⟩ := hrel
        have HLA := hide hla; have HS := hide hs; have HK := hide hkk; have HNEW := hide hnew
        clear hla hs hkk hnew
        have hk0 : (0 : Int) ≤ k := by omega
        by_cases hkq : k < q
        · have hkz : (k : Int) < q := by omega
          obtain ⟨x, hx⟩ : ∃ x, M[k]? = some x := ⟨_, List.getElem?_eq_getElem (by have := HQ.out; omega)⟩
          obtain ⟨g, o, hA, p0, p1, p2⟩ := mon_reads (HX.out.keep HK.out (FP.slab HX.out)).reads hx
          subst hA
          have HXM := hide hx
          have HXO := hide (HOK.out x (List.mem_of_getElem? hx)).1
          have HTT := hide (told_take (a := a) hx)
          have hlen := told_len (a := a) (M := M) k
          obtain ⟨L0, hL0⟩ : ∃ L0, toldM a (M.take k) = L0 := ⟨_, rfl⟩
          rw [hL0] at HS HTT hlen ⊢
          clear hx hL0
          obtain ⟨r, wh, wm⟩ := x
          simp only at p0 p1 p2
          have hka : Keeps NoB wr (wr.alloc (.cells #[.int .i64 r, .int .i64 wh, .int .i64 wm] 33)) := (Keeps.refl NoB wr).alloc _
          have HLB := hide (HLA.out.fresh hka)
          have HSB := hide (HS.out.fresh hka)
          have HKB := hide (HK.out.alloc (.cells #[.int .i64 r, .int .i64 wh, .int .i64 wm] 33))
          have HPB := hide (Blk.new wr 33 #[.int .i64 r, .int .i64 wh, .int .i64 wm])
          have HSZ := hide HK.out.size
          have HAL := hide (show ∀ k, rowB A2 k → k < wr.heap.size from fun k hr => HS.out.lt hr)
          clear hka HLA HS HK
          by_cases hwm : wm = a
          · have hbq : (wm == a) = true := by simpa using hwm
            have HT2 := hide (show toldM a (M.take (k + 1)) = L0 ++ [⟨r, wh, wm⟩] from by rw [HTT.out, if_pos hwm])
            have HKP := hide (show keepM a ⟨r, wh, wm⟩ = false from by unfold keepM; simp [hwm])
            clear HTT hwm
            go_wp2_with
              first
              | (at_builtin
                 clear p0 p1 p2
                 have HRD := hide (show Reads ((wr.alloc (.cells #[.int .i64 r, .int .i64 wh, .int .i64 wm] 33)).alloc (.cells #[.int .i64 r, .int .i64 wh, .int .i64 wm] 33)) (fun _ => True) true 3 (some ⟨wr.heap.size + 1, 0, none⟩) 1 [.int .i64 r, .int .i64 wh, .int .i64 wm] from by
                   have := three_reads (Blk.new (wr.alloc (.cells #[.int .i64 r, .int .i64 wh, .int .i64 wm] 33)) 33 #[.int .i64 r, .int .i64 wh, .int .i64 wm])
                   rwa [World.size_alloc] at this)
                 have hkc : Keeps NoB (wr.alloc (.cells #[.int .i64 r, .int .i64 wh, .int .i64 wm] 33)) ((wr.alloc (.cells #[.int .i64 r, .int .i64 wh, .int .i64 wm] 33)).alloc (.cells #[.int .i64 r, .int .i64 wh, .int .i64 wm] 33)) := (Keeps.refl NoB _).alloc _
                 have HLC := hide (HLB.out.fresh hkc)
                 have HSC := hide (HSB.out.fresh hkc)
                 have HKC := hide (HKB.out.alloc (.cells #[.int .i64 r, .int .i64 wh, .int .i64 wm] 33))
                 have HPC := hide (HPB.out.keep hkc id)
                 clear hkc HLB HSB HKB HPB
                 refine wpList_append_any _ rfl (.tmp 35) (.tmp 37) 27 rfl 33 i0 _ 3 24 Tryz.underlying27 ni0 nz0 nz1 nz2 rfl (by omega) A2 L0.length c2 (mons L0) rfl HSC.out (fun _ => True) true (some ⟨wr.heap.size + 1, 0, none⟩) 1 1 [.int .i64 r, .int .i64 wh, .int .i64 wm] rfl HRD.out (mons_ones [⟨r, wh, wm⟩]) (by unfold maxLen; omega) (by omega) ?_
                 intro A3 c3 w3 hs3 hk3 hm3
                 have HL3 := hide (HLC.out.cells hk3 (fun k hr => ⟨_, row_blk HSC.out hr⟩) (fun e => HSC.out.ne HLC.out.blk (by decide) e))
                 have HP3 := hide (HPC.out.keep hk3 (fun e => by have := HAL.out _ e; omega))
                 have HK3 := hide (HKC.out.trans' hk3 (fun _ _ h => h) (fun j hj hr => by have := HNEW.out j hr; omega))
                 have HN3 := hide (show ∀ k, rowB A3 k → w2.heap.size ≤ k from fun k hr => (hm3 k hr).elim (HNEW.out k) (fun e => by
                   rw [World.size_alloc, World.size_alloc] at e
                   have := HSZ.out; omega))
                 have HS3 := hide hs3
                 have c2' : w3.cell? ⟨wr.heap.size, 2, none⟩ = some (.int .i64 wm) := HP3.out.cell 2
                 clear hs3 hk3 hm3 HLC HSC HKC HPC HRD HNEW HAL HSZ)
              | fail
            clear c2'
            generalize wr.heap.size = pb at *
            refine order_begin (fun W => LinksAt W B b m1 m2 N (endL a L) (midM a k M) ∧ Blk W pb 33 #[.int .i64 r, .int .i64 wh, .int .i64 wm]) (fun k => !(k == 6)) (by kernel_rfl) 7 rfl ?_
            have HC := And.intro (HL3.out.fresh (Keeps.refl NoB w3).drew) (HP3.out.keep (Keeps.refl NoB w3).drew id)
            have HKD := hide (HK3.out.drew)
            have HSD := hide (HS3.out.fresh (Keeps.refl NoB w3).drew)
            clear HL3 HP3 HK3 HS3
            generalize w3.drew = w8 at *
            clear w3
            have HS := HC
            refine order_pure (i := 0) rfl (by kernel_rfl) (fun _ _ _ h => h) (.inl ⟨rfl, fun _ => by go_simp; rfl⟩) ?_
            try simp only [Act.put, List.setIfInBounds_toArray, List.set_cons_succ, List.set_cons_zero]
            refine order_pure (i := 1) rfl (by kernel_rfl) (fun _ _ _ h => h) (.inl ⟨rfl, fun _ => by go_simp; rfl⟩) ?_
            try simp only [Act.put, List.setIfInBounds_toArray, List.set_cons_succ, List.set_cons_zero]
            refine order_pure (i := 2) rfl (by kernel_rfl) (fun _ _ _ h => h) (.inl ⟨rfl, fun _ => by go_simp; rfl⟩) ?_
            try simp only [Act.put, List.setIfInBounds_toArray, List.set_cons_succ, List.set_cons_zero]
            refine order_held (i := 3) rfl (by kernel_rfl) (fun _ _ _ h => h) (.inl ⟨rfl, fun W hW => by
              have q0 : W.cell? ⟨b, 1, none⟩ = some (.map (some m2)) := hW.1.blk.cell 1
              go_simp; rfl⟩) HS ?_
            try simp only [Act.put, List.setIfInBounds_toArray, List.set_cons_succ, List.set_cons_zero]
            refine order_pure (i := 4) rfl (by kernel_rfl) (fun _ _ _ h => h) (.inl ⟨rfl, fun _ => by go_simp; rfl⟩) ?_
            try simp only [Act.put, List.setIfInBounds_toArray, List.set_cons_succ, List.set_cons_zero]
            refine order_held (i := 5) rfl (by kernel_rfl) (fun _ _ _ h => h) (.inl ⟨rfl, fun W hW => by
              have q0 : W.cell? ⟨pb, 0, none⟩ = some (.int .i64 r) := hW.2.cell 0
              go_simp; rfl⟩) HS ?_
            try simp only [Act.put, List.setIfInBounds_toArray, List.set_cons_succ, List.set_cons_zero]
            obtain ⟨w9, hdel, hl9, hk9⟩ := HC.1.dropM HXO.out
            try simp only at hdel
            have HL9 := hide (show LinksAt w9 B b m1 m2 N (endL a L) (midM a (k + 1) M) from by rw [midM_drop HU.out HXM.out HKP.out]; exact hl9)
            have HK9 := hide (FP.trans HKD.out hk9)
            have HS9 := hide (HSD.out.keep hk9 (FP.slab HSD.out))
            clear hl9 hk9
            refine order_one (i := 6) rfl (by kernel_rfl) (fun K hK => ?_)
            go_simp
            clear hdel
            refine hK _ _ (fun h => absurd h (by decide)) ?_
            clear hK
            try simp only [Act.put, List.setIfInBounds_toArray, List.set_cons_succ, List.set_cons_zero]
            refine order_done (by kernel_rfl) ?_
            clear HC HS HKD HSD w8
            go_wp2_with fail
            go_roundg (q - (k + 1))
            case measure => omega
            case rel => exact ⟨k + 1, _, _, by omega, rfl, by go_num, (by rw [HT2.out, List.length_append]; rfl), HL9.out, (by rw [HT2.out, List.length_append, mons_append]; exact HS9.out), HK9.out, HN3.out⟩
          · have hbq : (wm == a) = false := by simpa using hwm
            have HT2 := hide (show toldM a (M.take (k + 1)) = L0 from by rw [HTT.out, if_neg hwm, List.append_nil])
            clear HAL HSZ HTT
            by_cases hwh : wh = a
            · have hbr : (wh == a) = true := by simpa using hwh
              have HKP := hide (show keepM a ⟨r, wh, wm⟩ = false from by unfold keepM; simp [hwh])
              clear hwm hwh
              go_wp2_with fail
              clear p0 p1 p2
              generalize wr.alloc (.cells #[.int .i64 r, .int .i64 wh, .int .i64 wm] 33) = w3 at *
              generalize wr.heap.size = pb at *
              refine order_begin (fun W => LinksAt W B b m1 m2 N (endL a L) (midM a k M) ∧ Blk W pb 33 #[.int .i64 r, .int .i64 wh, .int .i64 wm]) (fun k => !(k == 6)) (by kernel_rfl) 7 rfl ?_
              have HC := And.intro (HLB.out.fresh (Keeps.refl NoB w3).drew) (HPB.out.keep (Keeps.refl NoB w3).drew id)
              have HKD := hide (HKB.out.drew)
              have HSD := hide (HSB.out.fresh (Keeps.refl NoB w3).drew)
              clear HLB HPB HKB HSB
              generalize w3.drew = w8 at *
              clear w3
              have HS := HC
              refine order_pure (i := 0) rfl (by kernel_rfl) (fun _ _ _ h => h) (.inl ⟨rfl, fun _ => by go_simp; rfl⟩) ?_
              try simp only [Act.put, List.setIfInBounds_toArray, List.set_cons_succ, List.set_cons_zero]
              refine order_pure (i := 1) rfl (by kernel_rfl) (fun _ _ _ h => h) (.inl ⟨rfl, fun _ => by go_simp; rfl⟩) ?_
              try simp only [Act.put, List.setIfInBounds_toArray, List.set_cons_succ, List.set_cons_zero]
              refine order_pure (i := 2) rfl (by kernel_rfl) (fun _ _ _ h => h) (.inl ⟨rfl, fun _ => by go_simp; rfl⟩) ?_
              try simp only [Act.put, List.setIfInBounds_toArray, List.set_cons_succ, List.set_cons_zero]
              refine order_held (i := 3) rfl (by kernel_rfl) (fun _ _ _ h => h) (.inl ⟨rfl, fun W hW => by
                have q0 : W.cell? ⟨b, 1, none⟩ = some (.map (some m2)) := hW.1.blk.cell 1
                go_simp; rfl⟩) HS ?_
              try simp only [Act.put, List.setIfInBounds_toArray, List.set_cons_succ, List.set_cons_zero]
              refine order_pure (i := 4) rfl (by kernel_rfl) (fun _ _ _ h => h) (.inl ⟨rfl, fun _ => by go_simp; rfl⟩) ?_
              try simp only [Act.put, List.setIfInBounds_toArray, List.set_cons_succ, List.set_cons_zero]
              refine order_held (i := 5) rfl (by kernel_rfl) (fun _ _ _ h => h) (.inl ⟨rfl, fun W hW => by
                have q0 : W.cell? ⟨pb, 0, none⟩ = some (.int .i64 r) := hW.2.cell 0
                go_simp; rfl⟩) HS ?_
              try simp only [Act.put, List.setIfInBounds_toArray, List.set_cons_succ, List.set_cons_zero]
              obtain ⟨w9, hdel, hl9, hk9⟩ := HC.1.dropM HXO.out
              try simp only at hdel
              have HL9 := hide (show LinksAt w9 B b m1 m2 N (endL a L) (midM a (k + 1) M) from by rw [midM_drop HU.out HXM.out HKP.out]; exact hl9)
              have HK9 := hide (FP.trans HKD.out hk9)
              have HS9 := hide (HSD.out.keep hk9 (FP.slab HSD.out))
              clear hl9 hk9
              refine order_one (i := 6) rfl (by kernel_rfl) (fun K hK => ?_)
              go_simp
              clear hdel
              refine hK _ _ (fun h => absurd h (by decide)) ?_
              clear hK
              try simp only [Act.put, List.setIfInBounds_toArray, List.set_cons_succ, List.set_cons_zero]
              refine order_done (by kernel_rfl) ?_
              clear HC HS HKD HSD w8
              go_wp2_with fail
              go_roundg (q - (k + 1))
              case measure => omega
              case rel => exact ⟨k + 1, _, _, by omega, rfl, by go_num, (by rw [HT2.out]), HL9.out, (by rw [HT2.out]; exact HS9.out), HK9.out, HNEW.out⟩
            · have hbr : (wh == a) = false := by simpa using hwh
              have HLK := hide (show LinksAt (wr.alloc (.cells #[.int .i64 r, .int .i64 wh, .int .i64 wm] 33)) B b m1 m2 N (endL a L) (midM a (k + 1) M) from by rw [midM_keep HXM.out (by unfold keepM; simp [hwh, hwm])]; exact HLB.out)
              clear hwm hwh
              go_wp2_with fail
              go_roundg (q - (k + 1))
              case measure => omega
              case rel => exact ⟨k + 1, _, _, by omega, rfl, by go_num, (by rw [HT2.out]), HLK.out, (by rw [HT2.out]; exact HSB.out), HKB.out, HNEW.out⟩
        · obtain rfl : k = q := by omega
          have hkz : ¬ (k : Int) < k := by omega
          have e1 : M.take k = M := List.take_of_length_le (by have := HQ.out; omega)
          have e2 : midM a k M = endM a M := by rw [← HQ.out]; exact midM_all a M
          rw [e1] at HS ⊢
          rw [e2] at HLA
          go_wp2_with fail
          go_ret2
          have hq2 := HQ.out
          exact ⟨A, c, A2, c2, (by rw [HL.out, HN.out]; rfl), by rw [HL.out, HN.out]; exact HS3.out.keep HK.out (FP.slab HS3.out), HS.out, HLA.out, FP.trans HKW3.out HK.out, HF.out, fun k hr => Nat.le_trans HKW3.out.size (HNEW.out k hr)⟩
end Go.Proofs.YtjmljjmnamfljaaGreat
