/- slices.Insert at those that wait. -/
import Derived.Test.YtaiphjgklfioeaaBin
import Derived.Lib.Overlaps
import Derived.Lib.AppendZerosOnto
namespace Go.Proofs.Ytaiphjgklfioeaa
open Go.RowKit

theorem Try.info53 : (Try.prog.info? 53).map (fun i => (i.zero, i.size, i.bytes)) = some (some (.agg #[.int .i64 0, .int .i64 0]), 2, 16) := by kernel_rfl

def InsPost (w : World) (A : Option Addr) (n : Nat) (xs : List Value) (e : Ending) (w' : World) : Prop :=
  ∃ A' c', e = .returned (.slice A' n c') ∧ Slab w' 53 2 A' n c' xs ∧ Keeps (rowB A) w w' ∧ Moved w A A'

theorem ins_prs (L : List Wt) (i : Nat) (x : Wt) : prs (L.take i ++ x :: L.drop i) = (prs L).take (i * 2) ++ (prc x ++ (prs L).drop (i * 2)) := by
  rw [prs_take, prs_drop, prs_append]; rfl

theorem one_reads {w : World} {vb : Nat} {t p : Int} (hv : Blk w vb 53 #[.int .i64 t, .int .i64 p]) : Reads w (fun _ => True) true 2 (some ⟨vb, 0, none⟩) 1 ([.int .i64 t, .int .i64 p] : List Value) := by
  refine ⟨rfl, fun _ => ⟨_, rfl, rfl, trivial, hv.lt, fun j u hu => ⟨?_, fun _ => hv.free _⟩⟩⟩
  rw [hv.cell, ← hu]; simp

set_option maxRecDepth 100000 in
theorem insert_end (A : Option Addr) (n c vb : Nat) (L : List Wt) (t p : Int) (w : World) (hs : Slab w 53 2 A n c (prs L)) (hn : n ≤ 1048576) (hv : Blk w vb 53 #[.int .i64 t, .int .i64 p]) :
    Calls Try.prog 26 #[.slice A n c, .int .i64 n, .slice (some ⟨vb, 0, none⟩) 1 1] w (InsPost w A (n + 1) (prs L ++ ([.int .i64 t, .int .i64 p] : List Value))) := by
  obtain ⟨i0, hi0, hz0, hz1, hz2⟩ := info_parts Try.info53
  have hnc : n ≤ c := hs.2.1
  have HS := hide hs; have HV := hide (one_reads hv)
  clear hs hv
  have HP := hide (show n + 1 ≤ maxLen ∧ (n + 1) * 16 ≤ 140737488355328 from by unfold maxLen; omega)
  by_cases hcn : c = n
  · subst hcn
    go_enter Try.func26, Try.ntmps26
    go_wp2_with (at_builtin; refine wpList_append_slab _ rfl _ _ 45 rfl 53 i0 _ 2 16 Try.underlying45 hi0 hz0 hz1 hz2 rfl (by omega) A c c (prs L) rfl HS.out (fun _ => True) true (some ⟨vb, 0, none⟩) 1 1 ([.int .i64 t, .int .i64 p] : List Value) rfl HV.out (by omega) (prs_ones (L := [(t, p)])) HP.out.1 HP.out.2 ?_)
    intro A' c' w' h1 h2 h3
    have H := hide (And.intro h1 (And.intro h2 h3))
    clear h1 h2 h3
    go_wp2
    go_ret
    exact ⟨A', c', rfl, H.out.1, H.out.2.1, H.out.2.2⟩
  · go_enter Try.func26, Try.ntmps26
    go_wp2_with (at_builtin; refine wpList_append_slab _ rfl _ _ 45 rfl 53 i0 _ 2 16 Try.underlying45 hi0 hz0 hz1 hz2 rfl (by omega) A n c (prs L) rfl HS.out (fun _ => True) true (some ⟨vb, 0, none⟩) 1 1 ([.int .i64 t, .int .i64 p] : List Value) rfl HV.out (by omega) (prs_ones (L := [(t, p)])) HP.out.1 HP.out.2 ?_)
    intro A' c' w' h1 h2 h3
    have H := hide (And.intro h1 (And.intro h2 h3))
    clear h1 h2 h3
    go_wp2
    go_ret
    exact ⟨A', c', rfl, H.out.1, H.out.2.1, H.out.2.2⟩

/-- What the new row of an append of zeros holds. -/
theorem zeros_row {olds : List Value} {z : Array Value} {i k G : Nat} (ho : olds.length = i * 2) (hz : z.size = 2) (hG : i + k ≤ G) :
    (olds.toArray ++ Builtin.zeroCells z k ++ Builtin.zeroCells z (G - (i + k))).size = G * 2 ∧ ∀ j, j < i * 2 → (olds.toArray ++ Builtin.zeroCells z k ++ Builtin.zeroCells z (G - (i + k)))[j]? = olds[j]? := by
  constructor
  · simp only [Array.size_append, List.size_toArray, size_zeroCells, hz, ho]
    have : (G - (i + k)) * 2 + (i + k) * 2 = G * 2 := by omega
    omega
  · intro j hj
    rw [Array.append_assoc, Array.getElem?_append_left (by simpa [ho] using hj)]
    simp

set_option maxRecDepth 100000 in
set_option maxHeartbeats 1000000 in
theorem insert_grow (A : Option Addr) (n c i vb : Nat) (L : List Wt) (t p : Int) (w : World) (hs : Slab w 53 2 A n c (prs L)) (hi : i < n) (hc : c < n + 1) (hn : n ≤ 1048576) (hv : Blk w vb 53 #[.int .i64 t, .int .i64 p]) :
    Calls Try.prog 26 #[.slice A n c, .int .i64 i, .slice (some ⟨vb, 0, none⟩) 1 1] w (InsPost w A (n + 1) ((prs L).take (i * 2) ++ (([.int .i64 t, .int .i64 p] : List Value) ++ ((prs L).drop (i * 2))))) := by
  obtain ⟨i0, hi0, hz0, hz1, hz2⟩ := info_parts Try.info53
  have hnc : n ≤ c := hs.2.1
  have hci : ¬ c = i := by omega
  have hlL := hs.1
  obtain ⟨ad, rfl, hsp, _, hgl, hcell⟩ := hs.reads.2 (by omega)
  obtain ⟨g, o, sp⟩ := ad
  simp only at hsp hgl hcell
  subst hsp
  have hto : ((prs L).take (i * 2)).length = i * 2 := by rw [List.length_take, hlL]; omega
  have hfc : (Builtin.firstCells i0.size i (.slice (some ⟨g, o, none⟩) i c)).run Try.prog w.drew = .ok ((prs L).take (i * 2)).toArray w.drew :=
    run_firstCells_some (P := Try.prog) w.drew i0.size i ⟨g, o, none⟩ i c ((prs L).take (i * 2)) (by rw [hz1]; exact hto) (fun j u hu => by
      rw [Addr.add_lit]
      rw [List.getElem?_take] at hu
      split at hu
      · exact (hcell j u hu).1
      · cases hu)
  have hik : i + (n + 1 - i) = n + 1 := by omega
  have hk : ((n + 1 - i : Nat) : Int) = (n : Int) + 1 - i := by omega
  have hrun := fun ty => Lib.run_append_grow_zeros (P := Try.prog) w 45 3 ty 53 i0 _ .i64 .i64 Try.underlying45 Try.underlying3 hi0 hz0 (some ⟨g, o, none⟩) i c ((prs L).take (i * 2)) hfc (n + 1 - i) (by omega) (by omega) (by omega) (by omega) (by rw [hz2]; omega) (growslice_fits (by omega) (by rw [hz2]; omega))
  rw [hik, hk] at hrun
  have hG : n + 1 ≤ grownCap w (n + 1) c 53 := grownCap_ge w (n + 1) c 53
  have hGm : grownCap w (n + 1) c 53 ≤ maxLen := grownCap_le_maxLen w (n + 1) c 53 (by unfold maxLen; omega)
  generalize grownCap w (n + 1) c 53 = G at *
  obtain ⟨hsz, hold⟩ := zeros_row (z := (Value.agg #[.int .i64 0, .int .i64 0]).cells) (k := n + 1 - i) (G := G) hto rfl (by omega)
  rw [hik] at hsz hold
  generalize hcur : ((prs L).take (i * 2)).toArray ++ Builtin.zeroCells (Value.agg #[.int .i64 0, .int .i64 0]).cells (n + 1 - i) ++ Builtin.zeroCells (Value.agg #[.int .i64 0, .int .i64 0]).cells (G - (n + 1)) = cur0 at *
  have HRUN := hide hrun
  have hbw : Blk (w.alloc (.cells cur0 53)).drew w.heap.size 53 cur0 := (Blk.new w 53 cur0).drew
  have hk1 : Keeps NoB w (w.alloc (.cells cur0 53)).drew := ((Keeps.refl NoB w).alloc (.cells cur0 53)).drew
  have hdl : ((prs L).drop (i * 2)).length = (n - i) * 2 := by rw [List.length_drop, hlL]; omega
  have hfit1 : i * 2 + ([.int .i64 t, .int .i64 p] : List Value).length ≤ cur0.size := by rw [hsz]; simp only [List.length_cons, List.length_nil]; omega
  have HSRC := hide (show 0 < 1 → ∃ ad, some (⟨vb, 0, none⟩ : Addr) = some ad ∧ ad.spot = none ∧ ∀ j u, ([.int .i64 t, .int .i64 p] : List Value)[j]? = some u → (w.alloc (.cells cur0 53)).drew.cell? ⟨ad.block, ad.off + j, none⟩ = some u from fun _ => by
    obtain ⟨ad, e1, e2, _, _, e3⟩ := (one_reads (hv.keep hk1 id)).2 (by omega)
    exact ⟨ad, e1, e2, fun j u hu => (e3 j u hu).1⟩)
  have HFIT1 := hide hfit1
  have HBW := hide hbw
  have HB2 := hide (hbw.row (splice cur0 (i * 2) ([.int .i64 t, .int .i64 p] : List Value)))
  have hk2 : Keeps NoB w ((w.alloc (.cells cur0 53)).drew.setRow w.heap.size (splice cur0 (i * 2) ([.int .i64 t, .int .i64 p] : List Value))) := hk1.row (.inr (Nat.le_refl _)) _
  have HK2 := hide hk2
  have HSZ := hide (show (splice cur0 (i * 2) ([.int .i64 t, .int .i64 p] : List Value)).size = G * 2 from (splice_size hfit1).trans hsz)
  have HLB := hide (fun jj hj => (laid_between (o := 0) (cur := cur0) (D := ((prs L).drop (i * 2))) hto (show ([.int .i64 t, .int .i64 p] : List Value).length = 2 from rfl) hdl (by omega) (fun j hj => by rw [Nat.zero_add]; exact hold j hj) jj hj).2)
  have HM := hide (show Nat.min 1 (n + 1 - i) = 1 from Nat.min_eq_left (by omega))
  have HT := hide (And.intro hsz (And.intro hto hdl))
  have HCE := hide (fun j u hu => hk2.cell (p := ⟨g, o + j, none⟩) id (hcell j u hu).1)
  have hGi : ¬ G = i := by omega
  have hGi1 : ¬ G = i + 1 := by omega
  have hGn : ¬ G < i + 1 := by omega
  have hGM := hide hGm
  have HLL := hide hlL
  clear hcur hrun hv hsz hold hto hfc hk hik hs hGm hbw hdl hlL hcell hfit1 hk1 hk2
  go_enter Try.func26, Try.ntmps26
  go_wp2_with (first
    | (at_builtin; refine Lib.wpList_append_run _ rfl (.tmp 34) (.tmp 39) 45 3 rfl (.slice (some ⟨g, o, none⟩) i c) (.int .i64 ((n : Int) + 1 - i)) rfl rfl _ _ (HRUN.out _) ?_)
    | (refine wpList_copy_blk _ rfl (.tmp 43) (.tmp 44) 45 45 rfl 53 53 _ Try.underlying45 hi0 2 hz1 w.heap.size (i * 2) cur0 HBW.out (n + 1 - i) (G - i) 1 1 1 (some ⟨vb, 0, none⟩) rfl rfl ([.int .i64 t, .int .i64 p] : List Value) HM.out rfl HSRC.out HFIT1.out (prs_ones (L := [(t, p)])) ?_; clear HRUN HBW HM HSRC HFIT1; generalize (w.alloc (.cells cur0 53)).drew.setRow w.heap.size (splice cur0 (i * 2) ([.int .i64 t, .int .i64 p] : List Value)) = W2 at *))
  have hwr : IntKind.i64.wrap ((i : Int) + 1) = (i : Int) + 1 := IntWalk.i64_in _ (by omega)
  have hw0 : (0 : Int) ≤ (i : Int) + 1 := by omega
  have hw1 : ((i : Int) + 1).toNat = i + 1 := by omega
  have hin1 : i + 1 ≤ n + 1 := by omega
  have hin0 : i ≤ n := by omega
  generalize hc1 : splice cur0 (i * 2) ([.int .i64 t, .int .i64 p] : List Value) = cur1 at *
  have HC1 := hide hc1
  clear hc1
  generalize hbx : w.heap.size = bx at *
  have HBX := hide hbx
  clear hbx
  refine order_begin (fun _ => True) (fun _ => true) (by kernel_rfl) 9 rfl ?_
  refine order_pure (i := 0) rfl (by kernel_rfl) (fun _ _ _ h => h) (.inl ⟨rfl, fun _ => by go_simp; rfl⟩) ?_
  try simp only [Act.put, List.setIfInBounds_toArray, List.set_cons_succ, List.set_cons_zero]
  refine order_pure (i := 1) rfl (by kernel_rfl) (fun _ _ _ h => h) (.inl ⟨rfl, fun _ => by go_simp; rfl⟩) ?_
  try simp only [Act.put, List.setIfInBounds_toArray, List.set_cons_succ, List.set_cons_zero]
  refine order_pure (i := 2) rfl (by kernel_rfl) (fun _ _ _ h => h) (.inl ⟨rfl, fun _ => by go_simp; rfl⟩) ?_
  try simp only [Act.put, List.setIfInBounds_toArray, List.set_cons_succ, List.set_cons_zero]
  refine order_pure (i := 3) rfl (by kernel_rfl) (fun _ _ _ h => h) (.inl ⟨rfl, fun _ => by go_simp; rfl⟩) ?_
  try simp only [Act.put, List.setIfInBounds_toArray, List.set_cons_succ, List.set_cons_zero]
  refine order_pure (i := 4) (v := .slice (some ⟨bx, (i + 1) * 2, none⟩) (n + 1 - (i + 1)) (G - (i + 1))) rfl (by kernel_rfl) (fun _ _ _ h => h) (.inl ⟨rfl, fun W => by go_simp⟩) ?_
  try simp only [Act.put, List.setIfInBounds_toArray, List.set_cons_succ, List.set_cons_zero]
  refine order_pure (i := 5) rfl (by kernel_rfl) (fun _ _ _ h => h) (.inl ⟨rfl, fun _ => by go_simp; rfl⟩) ?_
  try simp only [Act.put, List.setIfInBounds_toArray, List.set_cons_succ, List.set_cons_zero]
  refine order_pure (i := 6) rfl (by kernel_rfl) (fun _ _ _ h => h) (.inl ⟨rfl, fun _ => by go_simp; rfl⟩) ?_
  try simp only [Act.put, List.setIfInBounds_toArray, List.set_cons_succ, List.set_cons_zero]
  refine order_pure (i := 7) (v := .slice (some ⟨g, o + i * 2, none⟩) (n - i) (c - i)) rfl (by kernel_rfl) (fun _ _ _ h => h) (.inl ⟨rfl, fun W => by go_simp⟩) ?_
  try simp only [Act.put, List.setIfInBounds_toArray, List.set_cons_succ, List.set_cons_zero]
  clear hwr hw0 hw1
  refine order_one (i := 8) rfl (by kernel_rfl) (fun K hK => ?_)
  have hB := HB2.out.drew
  refine step_copy_blk _ rfl (.tmp 50) (.tmp 53) 45 45 rfl 53 53 _ Try.underlying45 hi0 2 hz1 bx ((i + 1) * 2) cur1 hB (n + 1 - (i + 1)) (G - (i + 1)) (n - i) (c - i) (n - i) (some ⟨g, o + i * 2, none⟩) rfl rfl ((prs L).drop (i * 2)) (by show min _ _ = _; omega) HT.out.2.2 ?_ ?_ ?_ ?_
  · intro _
    refine ⟨_, rfl, rfl, fun j u hu => ?_⟩
    rw [List.getElem?_drop] at hu
    rw [show (⟨g, o + i * 2 + j, none⟩ : Addr) = ⟨g, o + (i * 2 + j), none⟩ from by rw [Nat.add_assoc]]
    exact HCE.out _ u hu
  · rw [HT.out.2.2, HSZ.out]; omega
  · intro u hu; exact prs_ones _ (List.mem_of_mem_drop hu)
  refine hK _ _ (fun _ _ => trivial) ?_
  clear hK
  have HB3 := hide (hB.row (splice cur1 ((i + 1) * 2) ((prs L).drop (i * 2))))
  have HK3 := hide (HK2.out.drew.row (g := bx) (.inr (by rw [HBX.out]; exact Nat.le_refl _)) (splice cur1 ((i + 1) * 2) ((prs L).drop (i * 2))))
  change Order _ _ _ _ _ _ _ _ (W2.drew.setRow bx (splice cur1 ((i + 1) * 2) ((prs L).drop (i * 2))))
  generalize W2.drew.setRow bx (splice cur1 ((i + 1) * 2) ((prs L).drop (i * 2))) = W3 at *
  clear hB
  try simp only [Act.put, List.setIfInBounds_toArray, List.set_cons_succ, List.set_cons_zero]
  refine order_done (by kernel_rfl) ?_
  go_wp2_with fail
  go_ret
  have hfit : (i + 1) * 2 + ((prs L).drop (i * 2)).length ≤ cur1.size := by rw [HT.out.2.2, HSZ.out]; omega
  refine ⟨some ⟨bx, 0, none⟩, G, rfl, Slab.mk' ?_ (by omega) hGM.out HB3.out ?_ ?_, HK3.out.mono (fun _ _ h => h.elim), Moved.new ?_⟩
  · rw [List.length_append, List.length_cons, List.length_cons, HT.out.2.1, HT.out.2.2]; omega
  · rw [splice_size hfit, HSZ.out]; omega
  · intro j hj
    have := HLB.out j (by omega)
    rw [show 0 + i * 2 + 2 = (i + 1) * 2 from by omega, show 0 + i * 2 = i * 2 from by omega, HC1.out] at this
    exact this
  · rintro k ⟨o', e⟩
    injection e with e; injection e with e; rw [← e, HBX.out]; exact Nat.le_refl _

set_option maxRecDepth 100000 in
set_option maxHeartbeats 1000000 in
theorem insert_shift (A : Option Addr) (n c i vb : Nat) (L : List Wt) (t p : Int) (w : World) (hs : Slab w 53 2 A n c (prs L)) (hi : i < n) (hc : n + 1 ≤ c) (hn : n ≤ 1048576) (hv : Blk w vb 53 #[.int .i64 t, .int .i64 p]) (hvA : ¬ rowB A vb) :
    Calls Try.prog 26 #[.slice A n c, .int .i64 i, .slice (some ⟨vb, 0, none⟩) 1 1] w (InsPost w A (n + 1) ((prs L).take (i * 2) ++ (([.int .i64 t, .int .i64 p] : List Value) ++ ((prs L).drop (i * 2))))) := by
  obtain ⟨i0, hi0, hz0, hz1, hz2⟩ := info_parts Try.info53
  obtain ⟨hlL, hnc, hcm, ⟨rfl, h0⟩ | ⟨g, o, cur, rfl, hb, hfit, hwin⟩⟩ := hs
  · omega
  have hvg : vb ≠ g := fun e => hvA ⟨o, by rw [e]⟩
  have hto : ((prs L).take (i * 2)).length = i * 2 := by rw [List.length_take, hlL]; omega
  have hdl : ((prs L).drop (i * 2)).length = (n - i) * 2 := by rw [List.length_drop, hlL]; omega
  have hold : ∀ j, j < i * 2 → cur[o + j]? = ((prs L).take (i * 2))[j]? := fun j hj => by
    rw [List.getElem?_take_of_lt hj]; exact window_get hwin (by omega)
  have hfit1 : o + (i + 1) * 2 + ((prs L).drop (i * 2)).length ≤ cur.size := by rw [hdl]; omega
  have hsz1 := splice_size hfit1
  have hfit2 : o + i * 2 + ([.int .i64 t, .int .i64 p] : List Value).length ≤ (splice cur (o + (i + 1) * 2) ((prs L).drop (i * 2))).size := by rw [hsz1]; simp only [List.length_cons, List.length_nil]; omega
  have HSZ := hide (show (splice (splice cur (o + (i + 1) * 2) ((prs L).drop (i * 2))) (o + i * 2) ([.int .i64 t, .int .i64 p] : List Value)).size = cur.size from (splice_size hfit2).trans hsz1)
  have HLB := hide (fun jj hj => (laid_between (o := o) (cur := cur) (D := ((prs L).drop (i * 2))) hto (show ([.int .i64 t, .int .i64 p] : List Value).length = 2 from rfl) hdl (by omega) hold jj hj).1)
  have hov : ∀ lb cb, (callFunc 38 #[.slice (some ⟨vb, 0, none⟩) 1 1, .slice (some ⟨g, o + (i + 1) * 2, none⟩) lb cb]).run Try.prog w = .ok (.value (.bool false)) w := fun lb cb => by
    rw [run_callFunc_extern Try.func38 (by kernel_rfl) (by kernel_rfl) (by kernel_rfl) (e := Extern.SlicesOverlaps.overlaps #[45, 45] #[4]) (by kernel_rfl),
      Lib.run_overlaps_apart w 45 4 53 Try.underlying45 2 (fun _ => by kernel_rfl) ⟨vb, 0, none⟩ ⟨g, o + (i + 1) * 2, none⟩ 1 1 lb cb hvg 53 53 2 cur.size (by unfold World.shape?; rw [hv]; rfl) (by unfold World.shape?; rw [hb]) (by omega) (hv.free 0) (hv.free 2)]
    rfl
  have HSRC1 := hide (fun j u (hu : ((prs L).drop (i * 2))[j]? = some u) => (show w.drew.cell? ⟨g, o + i * 2 + j, none⟩ = some u from by
    rw [hb.drew.cell]
    rw [List.getElem?_drop] at hu
    rw [Nat.add_assoc, window_get hwin (by have := (List.getElem?_eq_some_iff.1 hu).1; omega)]; exact hu))
  have HBD := hide hb.drew
  have HB1 := hide (hb.drew.row (splice cur (o + (i + 1) * 2) ((prs L).drop (i * 2))))
  have hk1 : Keeps (fun k => k = g) w (w.drew.setRow g (splice cur (o + (i + 1) * 2) ((prs L).drop (i * 2)))) := (Keeps.refl (fun k => k = g) w).drew.row (g := g) (.inl rfl) _
  have HK1 := hide hk1
  have HSRC := hide (show 0 < 1 → ∃ ad, some (⟨vb, 0, none⟩ : Addr) = some ad ∧ ad.spot = none ∧ ∀ j u, ([.int .i64 t, .int .i64 p] : List Value)[j]? = some u → (w.drew.setRow g (splice cur (o + (i + 1) * 2) ((prs L).drop (i * 2)))).cell? ⟨ad.block, ad.off + j, none⟩ = some u from fun _ => by
    obtain ⟨ad, e1, e2, _, _, e3⟩ := (one_reads (hv.keep hk1 hvg)).2 (by omega)
    exact ⟨ad, e1, e2, fun j u hu => (e3 j u hu).1⟩)
  have HT := hide (And.intro hto (And.intro hdl (And.intro hfit1 (And.intro hfit2 hfit))))
  have HCM := hide hcm; have HLL := hide hlL
  have hci : ¬ c = i := by omega
  have hci1 : ¬ c = i + 1 := by omega
  have HM := hide (show Nat.min 1 (n + 1 - i) = 1 from Nat.min_eq_left (by omega))
  clear hto hdl hold hfit1 hsz1 hfit2 hb hv hfit hwin hvA hvg hcm hlL hk1
  have hin1 : i + 1 ≤ n + 1 := by omega
  have hin0 : i ≤ n + 1 := by omega
  go_enter Try.func26, Try.ntmps26
  go_wp2_with (simp only [hov])
  have hwr : IntKind.i64.wrap ((i : Int) + 1) = (i : Int) + 1 := IntWalk.i64_in _ (by omega)
  have hw0 : (0 : Int) ≤ (i : Int) + 1 := by omega
  have hw1 : ((i : Int) + 1).toNat = i + 1 := by omega
  refine order_begin (fun _ => True) (fun _ => true) (by kernel_rfl) 9 rfl ?_
  refine order_pure (i := 0) rfl (by kernel_rfl) (fun _ _ _ h => h) (.inl ⟨rfl, fun _ => by go_simp; rfl⟩) ?_
  try simp only [Act.put, List.setIfInBounds_toArray, List.set_cons_succ, List.set_cons_zero]
  refine order_pure (i := 1) rfl (by kernel_rfl) (fun _ _ _ h => h) (.inl ⟨rfl, fun _ => by go_simp; rfl⟩) ?_
  try simp only [Act.put, List.setIfInBounds_toArray, List.set_cons_succ, List.set_cons_zero]
  refine order_pure (i := 2) rfl (by kernel_rfl) (fun _ _ _ h => h) (.inl ⟨rfl, fun _ => by go_simp; rfl⟩) ?_
  try simp only [Act.put, List.setIfInBounds_toArray, List.set_cons_succ, List.set_cons_zero]
  refine order_pure (i := 3) rfl (by kernel_rfl) (fun _ _ _ h => h) (.inl ⟨rfl, fun _ => by go_simp; rfl⟩) ?_
  try simp only [Act.put, List.setIfInBounds_toArray, List.set_cons_succ, List.set_cons_zero]
  refine order_pure (i := 4) (v := .slice (some ⟨g, o + (i + 1) * 2, none⟩) (n + 1 - (i + 1)) (c - (i + 1))) rfl (by kernel_rfl) (fun _ _ _ h => h) (.inl ⟨rfl, fun W => by go_simp <;> (intro hlt; omega)⟩) ?_
  try simp only [Act.put, List.setIfInBounds_toArray, List.set_cons_succ, List.set_cons_zero]
  refine order_pure (i := 5) rfl (by kernel_rfl) (fun _ _ _ h => h) (.inl ⟨rfl, fun _ => by go_simp; rfl⟩) ?_
  try simp only [Act.put, List.setIfInBounds_toArray, List.set_cons_succ, List.set_cons_zero]
  refine order_pure (i := 6) rfl (by kernel_rfl) (fun _ _ _ h => h) (.inl ⟨rfl, fun _ => by go_simp; rfl⟩) ?_
  try simp only [Act.put, List.setIfInBounds_toArray, List.set_cons_succ, List.set_cons_zero]
  refine order_pure (i := 7) (v := .slice (some ⟨g, o + i * 2, none⟩) (n + 1 - i) (c - i)) rfl (by kernel_rfl) (fun _ _ _ h => h) (.inl ⟨rfl, fun W => by go_simp <;> (intro hlt; omega)⟩) ?_
  try simp only [Act.put, List.setIfInBounds_toArray, List.set_cons_succ, List.set_cons_zero]
  clear hwr hw0 hw1
  refine order_one (i := 8) rfl (by kernel_rfl) (fun K hK => ?_)
  refine step_copy_blk _ rfl (.tmp 73) (.tmp 76) 45 45 rfl 53 53 _ Try.underlying45 hi0 2 hz1 g (o + (i + 1) * 2) cur HBD.out (n + 1 - (i + 1)) (c - (i + 1)) (n + 1 - i) (c - i) (n - i) (some ⟨g, o + i * 2, none⟩) rfl rfl ((prs L).drop (i * 2)) (by show min _ _ = _; omega) HT.out.2.1 ?_ HT.out.2.2.1 ?_ ?_
  · intro _
    exact ⟨_, rfl, rfl, HSRC1.out⟩
  · intro u hu; exact prs_ones _ (List.mem_of_mem_drop hu)
  refine hK _ _ (fun _ _ => trivial) ?_
  clear hK
  change Order _ _ _ _ _ _ _ _ (w.drew.setRow g (splice cur (o + (i + 1) * 2) ((prs L).drop (i * 2))))
  have HB2 := hide (HB1.out.row (splice (splice cur (o + (i + 1) * 2) ((prs L).drop (i * 2))) (o + i * 2) ([.int .i64 t, .int .i64 p] : List Value)))
  have HK2 := hide (HK1.out.row (g := g) (.inl rfl) (splice (splice cur (o + (i + 1) * 2) ((prs L).drop (i * 2))) (o + i * 2) ([.int .i64 t, .int .i64 p] : List Value)))
  generalize w.drew.setRow g (splice cur (o + (i + 1) * 2) ((prs L).drop (i * 2))) = W1 at *
  generalize hc1 : splice cur (o + (i + 1) * 2) ((prs L).drop (i * 2)) = cur1 at *
  have HC1 := hide hc1
  clear hc1
  try simp only [Act.put, List.setIfInBounds_toArray, List.set_cons_succ, List.set_cons_zero]
  refine order_done (by kernel_rfl) ?_
  go_wp2_with (refine wpList_copy_blk _ rfl (.tmp 80) (.tmp 81) 45 45 rfl 53 53 _ Try.underlying45 hi0 2 hz1 g (o + i * 2) cur1 HB1.out (n + 1 - i) (c - i) 1 1 1 (some ⟨vb, 0, none⟩) rfl rfl ([.int .i64 t, .int .i64 p] : List Value) HM.out rfl HSRC.out HT.out.2.2.2.1 (prs_ones (L := [(t, p)])) ?_; clear HB1 HM HSRC; generalize W1.setRow g (splice cur1 (o + i * 2) ([.int .i64 t, .int .i64 p] : List Value)) = W2 at *)
  go_ret
  refine ⟨some ⟨g, o, none⟩, c, rfl, Slab.mk' ?_ (by omega) HCM.out HB2.out ?_ ?_, HK2.out.mono (fun k _ e => ⟨o, by rw [e]⟩), Moved.same _ _⟩
  · rw [List.length_append, List.length_cons, List.length_cons, HT.out.1, HT.out.2.1]; omega
  · rw [HSZ.out]; exact HT.out.2.2.2.2
  · intro j hj
    have := HLB.out j (by omega)
    rw [show o + i * 2 + 2 = o + (i + 1) * 2 from by omega, HC1.out] at this
    exact this

/-- Whichever road: who waits, and one more in its place. -/
theorem insert_any (A : Option Addr) (n c i vb : Nat) (L : List Wt) (t p : Int) (w : World) (hs : Slab w 53 2 A n c (prs L)) (hi : i ≤ n) (hn : n ≤ 1048576) (hv : Blk w vb 53 #[.int .i64 t, .int .i64 p]) (hvA : ¬ rowB A vb) :
    Calls Try.prog 26 #[.slice A n c, .int .i64 i, .slice (some ⟨vb, 0, none⟩) 1 1] w (InsPost w A (n + 1) (prs (L.take i ++ (t, p) :: L.drop i))) := by
  rw [ins_prs]
  by_cases h1 : i = n
  · subst h1
    have hl := hs.1
    have := insert_end A i c vb L t p w hs hn hv
    rwa [List.take_of_length_le (by omega), List.drop_eq_nil_of_le (by omega), List.append_nil]
  · by_cases h2 : n + 1 ≤ c
    · exact insert_shift A n c i vb L t p w hs (by omega) h2 hn hv hvA
    · exact insert_grow A n c i vb L t p w hs (by omega) (by omega) hn hv
end Go.Proofs.Ytaiphjgklfioeaa
