/- term.order: its contract. -/
import Derived.Test.YtjdbjjjbgibpaaaGreatDoorBridgeJn
import Derived.Test.YtjdbjjjbgibpaaaGreatDoorTmAddJn
import Derived.Deep.CutRange
import Derived.Deep.CutBlock
import Derived.Deep.DeepCutAuto
namespace Go.Proofs.YtjdbjjjbgibpaaaGreatDoor
set_option maxRecDepth 100000
open Go.RowKit

theorem flat_take7 : ∀ (css : List (List Value)) (i : Nat), (∀ c ∈ css, c.length = 7) → (css.take i).flatten = css.flatten.take (i * 7)
  | [], i, _ => by simp
  | c :: css, 0, _ => by simp
  | c :: css, i + 1, h => by
    have hc : c.length = 7 := h c List.mem_cons_self
    rw [List.take_succ_cons, List.flatten_cons, List.flatten_cons, flat_take7 css i (fun d hd => h d (List.mem_cons_of_mem _ hd)), show (i + 1) * 7 = c.length + i * 7 by omega, List.take_length_add_append]
theorem Reads.upto7 {w : World} {B : Nat → Prop} {F : Bool} {A : Option Addr} {n i : Nat} {css : List (List Value)} (h : Reads w B F 7 A n css.flatten) (h7 : ∀ c ∈ css, c.length = 7) (hi : i ≤ n) : Reads w B F 7 A i (css.take i).flatten := by
  have hl : css.length = n := by have h1 := h.1; rw [flat_len h7] at h1; omega
  refine ⟨by rw [flat_len (fun c hc => h7 c (List.mem_of_mem_take hc)), List.length_take, hl, Nat.min_eq_left hi], fun hn => ?_⟩
  obtain ⟨ad, e, hs, hB, hlt, hcell⟩ := h.2 (by omega)
  refine ⟨ad, e, hs, hB, hlt, fun j u hu => hcell j u ?_⟩
  rw [flat_take7 _ _ h7, List.getElem?_take] at hu
  split at hu
  · exact hu
  · cases hu
theorem TermsIn.take {w : World} {B : Nat → Prop} {F : Bool} : ∀ {ts : List Tm} {css : List (List Value)} (i : Nat), TermsIn w B F css ts → TermsIn w B F (css.take i) (ts.take i)
  | _, _, 0, _ => by simp only [List.take_zero]; unfold TermsIn; trivial
  | [], [], i + 1, _ => by simp only [List.take_nil]; unfold TermsIn; trivial
  | t :: ts, c :: css, i + 1, h => by
    unfold TermsIn at h
    simp only [List.take_succ_cons]
    unfold TermsIn
    exact ⟨h.1, TermsIn.take i h.2⟩
  | [], _ :: _, _ + 1, h => by unfold TermsIn at h; exact h.elim
  | _ :: _, [], _ + 1, h => by unfold TermsIn at h; exact h.elim
theorem sizes_take : ∀ (ts : List Tm) (i : Nat), Tm.size.sizes (ts.take i) ≤ Tm.size.sizes ts
  | _, 0 => by simp only [List.take_zero, Tm.size.sizes]; omega
  | [], i + 1 => by simp only [List.take_nil]; omega
  | t :: ts, i + 1 => by simp only [List.take_succ_cons, Tm.size.sizes]; have := sizes_take ts i; omega
def OrderSaid (M : Nat) : Prop := ∀ a b : Tm, a.size + b.size ≤ M → goodT a → goodT b → ∀ (w : World) (B B' : Nat → Prop) (F F' : Bool) (kd : Int) (ng : Bool) (la : Option Addr) (ln lc : Nat) (tx : ByteArray) (nm : Int) (ia : Option Addr) (im ic : Nat) (ta : Option Addr) (tn tc : Nat) (kd' : Int) (ng' : Bool) (la' : Option Addr) (ln' lc' : Nat) (tx' : ByteArray) (nm' : Int) (ia' : Option Addr) (im' ic' : Nat) (ta' : Option Addr) (tn' tc' : Nat), TermIn w B F [.int .u8 kd, .bool ng, .slice la ln lc, .string tx, .int .i64 nm, .slice ia im ic, .slice ta tn tc] a → TermIn w B' F' [.int .u8 kd', .bool ng', .slice la' ln' lc', .string tx', .int .i64 nm', .slice ia' im' ic', .slice ta' tn' tc'] b →
  Calls Tryz.prog 29 #[.agg #[.int .u8 kd, .bool ng, .slice la ln lc, .string tx, .int .i64 nm, .slice ia im ic, .slice ta tn tc], .agg #[.int .u8 kd', .bool ng', .slice la' ln' lc', .string tx', .int .i64 nm', .slice ia' im' ic', .slice ta' tn' tc']] w (NumP w (ordO M a b))
theorem rowO_drop {f : Tm → Tm → Int} {ts us : List Tm} {k : Nat} {t u : Tm} (ht : ts[k]? = some t) (hu : us[k]? = some u) : rowO f (ts.drop k) (us.drop k) = if f t u = 0 then rowO f (ts.drop (k + 1)) (us.drop (k + 1)) else f t u := by
  obtain ⟨h1, e1⟩ := List.getElem?_eq_some_iff.1 ht
  obtain ⟨h2, e2⟩ := List.getElem?_eq_some_iff.1 hu
  rw [List.drop_eq_getElem_cons h1, List.drop_eq_getElem_cons h2, e1, e2]
  rfl
set_option maxRecDepth 100000 in
set_option maxHeartbeats 4000000 in
theorem rowf_any (M : Nat) (IH : Hid (OrderSaid M)) (ts us : List Tm) (hM : Tm.size.sizes ts + Tm.size.sizes us ≤ M) (css dss : List (List Value)) (A A' : Option Addr) (n c c' : Nat) (w : World) (B B' : Nat → Prop) (F F' : Bool) (hr : Reads w B F 7 A n css.flatten) (ht : TermsIn w B F css ts) (hr' : Reads w B' F' 7 A' n dss.flatten) (ht' : TermsIn w B' F' dss us) (hg : ∀ t ∈ ts, goodT t) (hg' : ∀ t ∈ us, goodT t) (hn : n ≤ 1000000) :
    Calls Tryz.prog 50 #[.slice A n c, .slice A' n c', .func (.func 29) #[] #[]] w (NumP w (rowO (ordO M) ts us)) := by
  have hl1 : ts.length = n := by have h1 := hr.1; rw [flat_len ht.lens.2, ht.lens.1] at h1; omega
  have hl2 : us.length = n := by have h1 := hr'.1; rw [flat_len ht'.lens.2, ht'.lens.1] at h1; omega
  have HR := hide hr; have HT := hide ht; have HR' := hide hr'; have HT' := hide ht'; have HG := hide hg; have HG' := hide hg'; have HM := hide hM; have HL1 := hide hl1; have HL2 := hide hl2
  clear hr ht hr' ht' hg hg' hM hl1 hl2
  have hnn : ¬ (n : Int) < (n : Int) := by omega
  go_enter Tryz.func50, Tryz.ntmps50
  go_wp2
  go_loopg [13] n (fun g s13 wx => ∃ k : Nat, k ≤ n ∧ g = n - k ∧ s13 = .int .i64 k ∧ Keeps NoB w wx ∧ Hid (rowO (ordO M) ts us = rowO (ordO M) (ts.drop k) (us.drop k)))
  case atStart => exact ⟨0, Nat.zero_le _, rfl, rfl, Keeps.refl _ _, hide (by rw [List.drop_zero, List.drop_zero])⟩
  case round =>
    obtain ⟨k, hk, rfl, rfl, hkw, HO⟩ := hrel
    have HKW := hide hkw
    clear hkw
    by_cases hlt : k < n
    · have hk1 : (k : Int) < (n : Int) := by omega
      have hk2 : ¬ (n : Int) ≤ (k : Int) := by omega
      have hk0 : (0 : Int) ≤ (k : Int) := by omega
      obtain ⟨b, o, kd, ng, la, ln, lc, tx, nm, ia, im, ic, ta, tn, tc, t, hA, h1, h2, h3, f0, f1, f2, f3, f4, f5, f6⟩ := cells_at (HR.out.keep HKW.out (fun _ _ => id)) (TermsIn.keep HKW.out (fun _ _ => id) _ _ HT.out) k hlt
      subst hA
      obtain ⟨b', o', kd', ng', la', ln', lc', tx', nm', ia', im', ic', ta', tn', tc', u, hA', h1', h2', h3', g0, g1, g2, g3, g4, g5, g6⟩ := cells_at ((HR'.out.keep HKW.out (fun _ _ => id)).keep ((Keeps.refl NoB wr).alloc (.cells #[.int .u8 kd, .bool ng, .slice la ln lc, .string tx, .int .i64 nm, .slice ia im ic, .slice ta tn tc] 26)) (fun _ _ => id)) (TermsIn.keep ((Keeps.refl NoB wr).alloc (.cells #[.int .u8 kd, .bool ng, .slice la ln lc, .string tx, .int .i64 nm, .slice ia im ic, .slice ta tn tc] 26)) (fun _ _ => id) _ _ (TermsIn.keep HKW.out (fun _ _ => id) _ _ HT'.out)) k hlt
      subst hA'
      have hkw2 : Keeps NoB wr ((wr.alloc (.cells #[.int .u8 kd, .bool ng, .slice la ln lc, .string tx, .int .i64 nm, .slice ia im ic, .slice ta tn tc] 26)).alloc (.cells #[.int .u8 kd', .bool ng', .slice la' ln' lc', .string tx', .int .i64 nm', .slice ia' im' ic', .slice ta' tn' tc'] 26)) := ((Keeps.refl NoB wr).alloc _).alloc _
      have HKX := hide (HKW.out.trans' hkw2 (fun _ _ => id) (fun _ _ => id) : Keeps NoB w ((wr.alloc (.cells #[.int .u8 kd, .bool ng, .slice la ln lc, .string tx, .int .i64 nm, .slice ia im ic, .slice ta tn tc] 26)).alloc (.cells #[.int .u8 kd', .bool ng', .slice la' ln' lc', .string tx', .int .i64 nm', .slice ia' im' ic', .slice ta' tn' tc'] 26)))
      have HI := hide (IH.out t u (by have := HM.out; omega) (HG.out t (List.mem_of_getElem? h1)) (HG'.out u (List.mem_of_getElem? h1')) ((wr.alloc (.cells #[.int .u8 kd, .bool ng, .slice la ln lc, .string tx, .int .i64 nm, .slice ia im ic, .slice ta tn tc] 26)).alloc (.cells #[.int .u8 kd', .bool ng', .slice la' ln' lc', .string tx', .int .i64 nm', .slice ia' im' ic', .slice ta' tn' tc'] 26)) B B' F F' _ _ _ _ _ _ _ _ _ _ _ _ _ _ _ _ _ _ _ _ _ _ _ _ _ _ (TermIn.keep hkw2 (fun _ _ => id) _ _ h2) (TermIn.keep ((Keeps.refl NoB (wr.alloc (.cells #[.int .u8 kd, .bool ng, .slice la ln lc, .string tx, .int .i64 nm, .slice ia im ic, .slice ta tn tc] 26))).alloc _) (fun _ _ => id) _ _ h2'))
      have HD := hide (rowO_drop (f := ordO M) h1 h1')
      clear hkw2 h1 h1' h2 h2' h3 h3'
      obtain ⟨z, hz⟩ : ∃ z, ordO M t u = z := ⟨_, rfl⟩
      rw [hz] at HI HD
      clear hz
      by_cases hz0 : z = 0
      · subst hz0
        go_wp2_with
          first
          | (go_at_call 29
             refine HI.out.mono ?_
             rintro e w2 ⟨rfl, hk2⟩
             have HK2 := hide (HKX.out.trans' hk2 (fun _ _ => id) (fun _ _ => id) : Keeps NoB w w2)
             clear hk2)
          | fail
        go_roundg (n - (k + 1))
        case measure => omega
        case rel => exact ⟨k + 1, by omega, rfl, by go_num, HK2.out, hide (by rw [HO.out, HD.out]; simp)⟩
      · have hzb : (z == 0) = false := by simpa using hz0
        go_wp2_with
          first
          | (go_at_call 29
             refine HI.out.mono ?_
             rintro e w2 ⟨rfl, hk2⟩
             have HK2 := hide (HKX.out.trans' hk2 (fun _ _ => id) (fun _ _ => id) : Keeps NoB w w2)
             clear hk2)
          | fail
        go_ret
        exact ⟨by rw [HO.out, HD.out, if_neg hz0]; rfl, HK2.out⟩
    · obtain rfl : n = k := by omega
      go_wp2
      go_ret
      exact ⟨by rw [HO.out, List.drop_of_length_le (by have := HL1.out; omega)]; rfl, HKW.out⟩
set_option maxRecDepth 100000 in
set_option maxHeartbeats 4000000 in
theorem rowt_any (M : Nat) (IH : Hid (OrderSaid M)) (a b : Tm) (hM : a.size + b.size ≤ M + 1) (ga gb : Nat) (w : World) (B B' : Nat → Prop) (F F' : Bool) (kd : Int) (ng : Bool) (la : Option Addr) (ln lc : Nat) (tx : ByteArray) (nm : Int) (ia : Option Addr) (im ic : Nat) (ta : Option Addr) (tn tc : Nat) (kd' : Int) (ng' : Bool) (la' : Option Addr) (ln' lc' : Nat) (tx' : ByteArray) (nm' : Int) (ia' : Option Addr) (im' ic' : Nat) (ta' : Option Addr) (tn' tc' : Nat) (hA : Blk w ga 26 #[.int .u8 kd, .bool ng, .slice la ln lc, .string tx, .int .i64 nm, .slice ia im ic, .slice ta tn tc]) (hB : Blk w gb 26 #[.int .u8 kd', .bool ng', .slice la' ln' lc', .string tx', .int .i64 nm', .slice ia' im' ic', .slice ta' tn' tc']) (ha : TermIn w B F [.int .u8 kd, .bool ng, .slice la ln lc, .string tx, .int .i64 nm, .slice ia im ic, .slice ta tn tc] a) (hb : TermIn w B' F' [.int .u8 kd', .bool ng', .slice la' ln' lc', .string tx', .int .i64 nm', .slice ia' im' ic', .slice ta' tn' tc'] b) (hga : goodT a) (hgb : goodT b) (hi : im ≤ 1000000) (hi' : im' ≤ 1000000) :
    Calls Tryz.prog 49 #[.pointer (some ⟨ga, 0, none⟩), .pointer (some ⟨gb, 0, none⟩)] w (NumP w (rowO (ordO M) a.items b.items)) := by
  obtain ⟨limbs, items, tail, css, dss, rfl, hra, _, hri, hti, _, _, _, hl, _⟩ := ha.parts
  obtain ⟨limbs', items', tail', css', dss', rfl, hrb, _, hri', hti', _, _, _, hl', _⟩ := hb.parts
  obtain ⟨m, hm⟩ : ∃ m, min im im' = m := ⟨_, rfl⟩
  have hm1 : m ≤ im := by omega
  have hm2 : m ≤ im' := by omega
  have hmi : (if im' < im then (im' : Int) else (im : Int)) = (m : Int) := by split <;> omega
  have hsz : Tm.size.sizes (items.take m) + Tm.size.sizes (items'.take m) ≤ M := by
    have h1 := sizes_take items m; have h2 := sizes_take items' m
    simp only [Tm.size] at hM; omega
  have HMI := hide hmi
  have HRES := hide (show rowO (ordO M) (items.take m) (items'.take m) = rowO (ordO M) items items' from rowO_take _ _ _ _ (by omega))
  have HG := hide (show ∀ t ∈ items.take m, goodT t from fun t ht => (good_parts hga).1 t (List.mem_of_mem_take ht))
  have HG' := hide (show ∀ t ∈ items'.take m, goodT t from fun t ht => (good_parts hgb).1 t (List.mem_of_mem_take ht))
  have HR := hide (hri.upto7 hti.lens.2 hm1); have HT := hide (TermsIn.take m hti); have HR' := hide (hri'.upto7 hti'.lens.2 hm2); have HT' := hide (TermsIn.take m hti')
  have HSZ := hide hsz; have HBA := hide hA; have HBB := hide hB
  have hmc : (m : Int) ≤ (ic : Int) := by have := hra.2.1.2.1; omega
  have hmc' : (m : Int) ≤ (ic' : Int) := by have := hrb.2.1.2.1; omega
  have hm0 : (0 : Int) ≤ (m : Int) := by omega
  clear hsz hri hti hri' hti' hl hl' hga hgb ha hb hra hrb hmi hm hM hA hB
  obtain ⟨x0, x1, x2, x3, x4, x5, x6⟩ := Blk.c7 (show Blk w (ga) _ #[.int .u8 kd, .bool ng, .slice la ln lc, .string tx, .int .i64 nm, .slice ia im ic, .slice ta tn tc] from HBA.out)
  obtain ⟨y0, y1, y2, y3, y4, y5, y6⟩ := Blk.c7 (show Blk w (gb) _ #[.int .u8 kd', .bool ng', .slice la' ln' lc', .string tx', .int .i64 nm', .slice ia' im' ic', .slice ta' tn' tc'] from HBB.out)
  go_enter Tryz.func49, Tryz.ntmps49
  go_upto_region 2 with fail
  rw [HMI.out]
  clear x0 x1 x2 x3 x4 x5 x6 y0 y1 y2 y3 y4 y5 y6
  refine order_begin (fun W => Keeps NoB w W) (fun _ => true) (by kernel_rfl) 10 rfl ?_
  have HS : Keeps NoB w w.drew := (Keeps.refl _ _).drew
  refine order_pure (i := 0) rfl (by kernel_rfl) (fun _ _ _ h => h) (.inl ⟨rfl, fun _ => by go_simp; rfl⟩) ?_
  try simp only [Act.put, List.setIfInBounds_toArray, List.set_cons_succ, List.set_cons_zero]
  refine order_held (i := 1) rfl (by kernel_rfl) (fun _ _ _ h => h) (.inl ⟨rfl, fun W hW => by
    have q0 : W.cell? ⟨ga, 5, none⟩ = some (.slice ia im ic) := hW.cell id (HBA.out.cell 5)
    go_simp; rfl⟩) HS ?_
  try simp only [Act.put, List.setIfInBounds_toArray, List.set_cons_succ, List.set_cons_zero]
  refine order_pure (i := 2) rfl (by kernel_rfl) (fun _ _ _ h => h) (.inl ⟨rfl, fun _ => by go_simp; rfl⟩) ?_
  try simp only [Act.put, List.setIfInBounds_toArray, List.set_cons_succ, List.set_cons_zero]
  refine order_pure (i := 3) rfl (by kernel_rfl) (fun _ _ _ h => h) (.inl ⟨rfl, fun _ => by go_simp; rfl⟩) ?_
  try simp only [Act.put, List.setIfInBounds_toArray, List.set_cons_succ, List.set_cons_zero]
  refine order_pure (i := 4) rfl (by kernel_rfl) (fun _ _ _ h => h) (.inl ⟨rfl, fun _ => by go_simp; rfl⟩) ?_
  try simp only [Act.put, List.setIfInBounds_toArray, List.set_cons_succ, List.set_cons_zero]
  refine order_held (i := 5) rfl (by kernel_rfl) (fun _ _ _ h => h) (.inl ⟨rfl, fun W hW => by
    have q0 : W.cell? ⟨gb, 5, none⟩ = some (.slice ia' im' ic') := hW.cell id (HBB.out.cell 5)
    go_simp; rfl⟩) HS ?_
  try simp only [Act.put, List.setIfInBounds_toArray, List.set_cons_succ, List.set_cons_zero]
  refine order_pure (i := 6) rfl (by kernel_rfl) (fun _ _ _ h => h) (.inl ⟨rfl, fun _ => by go_simp; rfl⟩) ?_
  try simp only [Act.put, List.setIfInBounds_toArray, List.set_cons_succ, List.set_cons_zero]
  refine order_pure (i := 7) rfl (by kernel_rfl) (fun _ _ _ h => h) (.inl ⟨rfl, fun _ => by go_simp; rfl⟩) ?_
  try simp only [Act.put, List.setIfInBounds_toArray, List.set_cons_succ, List.set_cons_zero]
  refine order_one (i := 8) rfl (by kernel_rfl) (fun K hK => ?_)
  go_simp
  refine (rowf_any M IH (items.take m) (items'.take m) HSZ.out (css.take m) (css'.take m) ia ia' m ic ic' w.drew B B' F F' (HR.out.keep HS (fun _ _ => id)) (TermsIn.keep HS (fun _ _ => id) _ _ HT.out) (HR'.out.keep HS (fun _ _ => id)) (TermsIn.keep HS (fun _ _ => id) _ _ HT'.out) HG.out HG'.out (by omega)).mono ?_
  rintro e w2 ⟨rfl, hk2⟩
  rw [HRES.out]
  have HK2 := hide (HS.trans' hk2 (fun _ _ => id) (fun _ _ => id) : Keeps NoB w w2)
  refine hK _ _ (fun _ _ => HK2.out) ?_
  clear hK hk2
  try simp only [Act.put, List.setIfInBounds_toArray, List.set_cons_succ, List.set_cons_zero]
  refine order_pure (i := 9) rfl (by kernel_rfl) (fun _ _ _ h => h) (.inl ⟨rfl, fun _ => by go_simp; rfl⟩) ?_
  try simp only [Act.put, List.setIfInBounds_toArray, List.set_cons_succ, List.set_cons_zero]
  refine order_done (by kernel_rfl) ?_
  go_wp2_with fail
  go_ret
  exact ⟨rfl, HK2.out⟩
theorem addT_len : ∀ (l : List Tm) (n e m : Int), addT n e l = some m → 0 ≤ e → n + l.length ≤ m
  | [], n, e, m, h, _ => by unfold addT at h; injection h with h; simp; omega
  | x :: l, n, e, m, h, he => by
    unfold addT at h
    split at h
    · rename_i hx
      have := addT_len l _ _ _ h he
      simp only [List.length_cons]
      omega
    · cases h
theorem good_lens {t : Tm} (h : goodT t) : t.items.length ≤ 4096 ∧ t.tail.length ≤ 4096 := by
  obtain ⟨k, ng, limbs, tx, nm, items, tail⟩ := t
  obtain ⟨hr, _⟩ := h
  have hs : 0 < sizeT (.mk k ng limbs tx nm items tail) := of_decide_eq_true hr
  have hb : baseT k = 1 ∨ baseT k = 2 := by unfold baseT; split <;> simp
  have he : eachT k = 0 ∨ eachT k = 1 := by unfold eachT; split <;> simp
  unfold sizeT at hs
  split at hs
  · split at hs
    · rename_i h1
      unfold intT at h1
      simp only [Bool.and_eq_true, decide_eq_true_eq] at h1
      have h2 : items.length + tail.length = 0 := h1.1.1.2
      exact ⟨by show items.length ≤ _; omega, by show tail.length ≤ _; omega⟩
    · omega
  · split at hs
    · split at hs
      · omega
      · rename_i n hn
        split at hs
        · omega
        · rename_i m hm
          have a1 := addT_len _ _ _ _ hn (by omega)
          have a2 := addT_le _ _ _ _ hn (by omega) (by omega) (by omega)
          have a3 := addT_len _ _ _ _ hm (by omega)
          have a4 := addT_le _ _ _ _ hm (by omega) (by omega) (by omega)
          exact ⟨by show items.length ≤ _; omega, by show tail.length ≤ _; omega⟩
    · omega
theorem rest_good {l : List Tm} (h : ∀ x ∈ l, goodT x) : goodT (restT l) := by
  cases l with
  | nil => exact good_nil
  | cons x l => exact h x List.mem_cons_self
theorem rest_size (a b : Tm) (h : 0 < a.tail.length + b.tail.length) : (restT a.tail).size + (restT b.tail).size + 1 ≤ a.size + b.size := by
  have hs : ∀ t : Tm, (restT t.tail).size ≤ t.size ∧ (0 < t.tail.length → (restT t.tail).size + 1 ≤ t.size) := by
    intro t
    obtain ⟨k, ng, limbs, tx, nm, items, tail⟩ := t
    cases tail with
    | nil => exact ⟨by simp only [Tm.tail, restT, nilT, Tm.size, Tm.size.sizes]; omega, fun h => by simp [Tm.tail] at h⟩
    | cons x l => exact ⟨by simp only [Tm.tail, restT, Tm.size, Tm.size.sizes]; omega, fun _ => by simp only [Tm.tail, restT, Tm.size, Tm.size.sizes]; omega⟩
  have h1 := hs a; have h2 := hs b
  by_cases h0 : 0 < a.tail.length
  · have := h1.2 h0; omega
  · have := h2.2 (by omega); omega
theorem two_ints {w : World} {g : Nat} {t : TypeId} {x y : Int} (h : Blk w g t #[.int .i64 x, .int .i64 y]) : Reads w (fun _ => True) false 1 (some ⟨g, 0, none⟩) 2 ([x, y].map (Value.int .i64)) :=
  ⟨rfl, fun _ => ⟨_, rfl, rfl, trivial, h.lt, fun j u hu => ⟨by rw [h.cell, Nat.zero_add]; simpa using hu, fun h => by cases h⟩⟩⟩
theorem three_ints {w : World} {g : Nat} {t : TypeId} {x y z : Int} (h : Blk w g t #[.int .i64 x, .int .i64 y, .int .i64 z]) : Reads w (fun _ => True) false 1 (some ⟨g, 0, none⟩) 3 ([x, y, z].map (Value.int .i64)) :=
  ⟨rfl, fun _ => ⟨_, rfl, rfl, trivial, h.lt, fun j u hu => ⟨by rw [h.cell, Nat.zero_add]; simpa using hu, fun h => by cases h⟩⟩⟩
set_option maxRecDepth 100000 in
set_option maxHeartbeats 4000000 in
theorem order_walk (M : Nat) (IH : Hid (OrderSaid M)) (a b : Tm) (hM : a.size + b.size ≤ M + 1) (hga : goodT a) (hgb : goodT b) (w : World) (B B' : Nat → Prop) (F F' : Bool) (kd : Int) (ng : Bool) (la : Option Addr) (ln lc : Nat) (tx : ByteArray) (nm : Int) (ia : Option Addr) (im ic : Nat) (ta : Option Addr) (tn tc : Nat) (kd' : Int) (ng' : Bool) (la' : Option Addr) (ln' lc' : Nat) (tx' : ByteArray) (nm' : Int) (ia' : Option Addr) (im' ic' : Nat) (ta' : Option Addr) (tn' tc' : Nat) (ha : TermIn w B F [.int .u8 kd, .bool ng, .slice la ln lc, .string tx, .int .i64 nm, .slice ia im ic, .slice ta tn tc] a) (hb : TermIn w B' F' [.int .u8 kd', .bool ng', .slice la' ln' lc', .string tx', .int .i64 nm', .slice ia' im' ic', .slice ta' tn' tc'] b) :
    Calls Tryz.prog 29 #[.agg #[.int .u8 kd, .bool ng, .slice la ln lc, .string tx, .int .i64 nm, .slice ia im ic, .slice ta tn tc], .agg #[.int .u8 kd', .bool ng', .slice la' ln' lc', .string tx', .int .i64 nm', .slice ia' im' ic', .slice ta' tn' tc']] w (NumP w (ordO (M + 1) a b)) := by
  have HK0 := hide (((Keeps.refl NoB w).alloc (.cells #[.int .u8 kd, .bool ng, .slice la ln lc, .string tx, .int .i64 nm, .slice ia im ic, .slice ta tn tc] 26)).alloc (.cells #[.int .u8 kd', .bool ng', .slice la' ln' lc', .string tx', .int .i64 nm', .slice ia' im' ic', .slice ta' tn' tc'] 26))
  have HA0 := hide (two_tblks w 26 26 #[.int .u8 kd, .bool ng, .slice la ln lc, .string tx, .int .i64 nm, .slice ia im ic, .slice ta tn tc] #[.int .u8 kd', .bool ng', .slice la' ln' lc', .string tx', .int .i64 nm', .slice ia' im' ic', .slice ta' tn' tc']).1; have HB0 := hide (two_tblks w 26 26 #[.int .u8 kd, .bool ng, .slice la ln lc, .string tx, .int .i64 nm, .slice ia im ic, .slice ta tn tc] #[.int .u8 kd', .bool ng', .slice la' ln' lc', .string tx', .int .i64 nm', .slice ia' im' ic', .slice ta' tn' tc']).2
  obtain ⟨limbs, items, tail, css, dss, hae, _, _, _, _, _, _, _, hli, hlt⟩ := ha.parts
  obtain ⟨limbs', items', tail', css', dss', hbe, _, _, _, _, _, _, _, hli', hlt'⟩ := hb.parts
  have hl1 := good_lens hga; have hl2 := good_lens hgb
  have hka : a.kind = kd := by rw [hae]; rfl
  have hkb : b.kind = kd' := by rw [hbe]; rfl
  have hai : a.items.length = im := by rw [hae]; exact hli
  have hbi : b.items.length = im' := by rw [hbe]; exact hli'
  have hat : a.tail.length = tn := by rw [hae]; exact hlt
  have hbt : b.tail.length = tn' := by rw [hbe]; exact hlt'
  rw [hai, hat] at hl1; rw [hbi, hbt] at hl2
  have HMA := hide (show a.text = tx ∧ a.num = nm from by rw [hae]; exact ⟨rfl, rfl⟩); have HMB := hide (show b.text = tx' ∧ b.num = nm' from by rw [hbe]; exact ⟨rfl, rfl⟩)
  have HHA := hide ha; have HHB := hide hb; have HGA := hide hga; have HGB := hide hgb; have HM := hide hM
  have HKA := hide hka; have HKB := hide hkb; have HAI := hide hai; have HBI := hide hbi; have HAT := hide hat; have HBT := hide hbt
  clear hae hbe hli hlt hli' hlt' hka hkb hai hbi hat hbt ha hb hga hgb hM
  have M1 : Hid (1 = 1) := hide rfl
  by_cases hk : kd = kd'
  · subst hk
    have hkk : (kd == kd) = true := by simp
    have HC := hide (show cmpZ (im : Int) (im' : Int) = cmpZ (a.items.length : Int) (b.items.length : Int) from by rw [HAI.out, HBI.out])
    by_cases h1 : kd = 1
    · subst h1
      obtain ⟨rfl, rfl, rfl, rfl, hIA⟩ := int_IA _ _ _ _ _ _ _ _ _ _ _ _ _ HHA.out HGA.out rfl
      obtain ⟨rfl, rfl, rfl, rfl, hIB⟩ := int_IA _ _ _ _ _ _ _ _ _ _ _ _ _ HHB.out HGB.out rfl
      have HIA := hide hIA; have HIB := hide hIB
      have HV := hide (show ordO (M + 1) a b = cmpZ (intV a) (intV b) from by unfold ordO; rw [if_neg (by rw [HKA.out, HKB.out]; simp), if_pos HKA.out])
      clear hIA hIB
      go_enter Tryz.func29, Tryz.ntmps29
      go_wp2_with
        first
        | (go_at_call 48
           refine (cmp_int _ _ _).mono ?_
           rintro e w1 ⟨rfl, hk1⟩
           have HK1 := hide (HK0.out.trans' hk1 (fun _ _ => id) (fun _ _ => id) : Keeps NoB w w1)
           have HA1 := hide (HA0.out.keep hk1 id)
           have HB1 := hide (HB0.out.keep hk1 id)
           obtain ⟨x0, x1, x2, x3, x4, x5, x6⟩ := Blk.c7 (show Blk w1 (w.heap.size) _ #[.int .u8 1, .bool ng, .slice la ln lc, .string ByteArray.empty, .int .i64 0, .slice ia 0 ic, .slice ta 0 tc] from HA1.out)
           obtain ⟨y0, y1, y2, y3, y4, y5, y6⟩ := Blk.c7 (show Blk w1 (w.heap.size + 1) _ #[.int .u8 1, .bool ng', .slice la' ln' lc', .string ByteArray.empty, .int .i64 0, .slice ia' 0 ic', .slice ta' 0 tc'] from HB1.out)
           clear hk1)
        | (go_at_call 51
           refine (compare_any ng ng' la la' ia ta ia' ta' ln lc ln' lc' ic tc ic' tc' (intV a) (intV b) w1 B B' (HIA.out.keep HK1.out) (HIB.out.keep HK1.out)).mono ?_
           rintro e w2 ⟨rfl, hk2⟩
           have HK2 := hide (HK1.out.trans' hk2 (fun _ _ => id) (fun _ _ => id) : Keeps NoB w w2)
           clear hk2)
        | fail
      go_ret
      exact ⟨by rw [HV.out]; rfl, HK2.out⟩
    · have h1b : (kd == 1) = false := by simpa using h1
      obtain ⟨r, hr⟩ : ∃ r, rowO (ordO M) a.items b.items = r := ⟨_, rfl⟩
      obtain ⟨n1, hn1⟩ : ∃ n1, cmpZ (im : Int) (im' : Int) = n1 := ⟨_, rfl⟩
      have HR := hide hr; have HN := hide hn1
      have HNC := hide (show cmpZ (a.items.length : Int) (b.items.length : Int) = n1 from by rw [← HC.out]; exact hn1)
      clear hr hn1
      by_cases h7 : kd = 7
      · subst h7
        obtain ⟨c, hc⟩ : ∃ c, firstI r n1 = c := ⟨_, rfl⟩
        have HCC := hide hc
        clear hc
        have HV := hide (show ordO (M + 1) a b = if c = 0 ∧ 0 < tn + tn' then ordO M (restT a.tail) (restT b.tail) else c from by
          have e := ordO_seven M a b (by rw [HKA.out, HKB.out]) HKA.out
          rw [HR.out, HNC.out, HCC.out, HAT.out, HBT.out] at e
          exact e)
        have hw : IntKind.i64.wrap ((tn : Int) + (tn' : Int)) = (tn : Int) + (tn' : Int) := IntWalk.i64_in _ (by omega)
        have HW := hide hw
        clear hw
        by_cases hc0 : c = 0
        · subst hc0
          by_cases htl : 0 < tn + tn'
          · have hti : (0 : Int) < (tn : Int) + (tn' : Int) := by omega
            obtain ⟨z, hz⟩ : ∃ z, ordO M (restT a.tail) (restT b.tail) = z := ⟨_, rfl⟩
            have HZ := hide hz
            have HSZ := hide (rest_size a b (by rw [HAT.out, HBT.out]; exact htl))
            have HRA := hide (rest_good (good_parts HGA.out).2); have HRB := hide (rest_good (good_parts HGB.out).2)
            clear hz
            go_enter Tryz.func29, Tryz.ntmps29
            go_upto_region 10 with
              first
              | (go_at_call 48
                 refine (cmp_int _ _ _).mono ?_
                 rintro e w1 ⟨rfl, hk1⟩
                 rw [HN.out]
                 have HK1 := hide (HK0.out.trans' hk1 (fun _ _ => id) (fun _ _ => id) : Keeps NoB w w1)
                 have HA1 := hide (HA0.out.keep hk1 id)
                 have HB1 := hide (HB0.out.keep hk1 id)
                 obtain ⟨x0, x1, x2, x3, x4, x5, x6⟩ := Blk.c7 (show Blk w1 (w.heap.size) _ #[.int .u8 7, .bool ng, .slice la ln lc, .string tx, .int .i64 nm, .slice ia im ic, .slice ta tn tc] from HA1.out)
                 obtain ⟨y0, y1, y2, y3, y4, y5, y6⟩ := Blk.c7 (show Blk w1 (w.heap.size + 1) _ #[.int .u8 7, .bool ng', .slice la' ln' lc', .string tx', .int .i64 nm', .slice ia' im' ic', .slice ta' tn' tc'] from HB1.out)
                 clear hk1)
              | (go_at_call 49
                 refine (rowt_any M IH a b HM.out w.heap.size (w.heap.size + 1) w1 B B' F F' _ _ _ _ _ _ _ _ _ _ _ _ _ _ _ _ _ _ _ _ _ _ _ _ _ _ HA1.out HB1.out (TermIn.keep HK1.out (fun _ _ => id) _ _ HHA.out) (TermIn.keep HK1.out (fun _ _ => id) _ _ HHB.out) HGA.out HGB.out (by omega) (by omega)).mono ?_
                 rintro e w2 ⟨rfl, hk2⟩
                 rw [HR.out]
                 have HK2 := hide (HK1.out.trans' hk2 (fun _ _ => id) (fun _ _ => id) : Keeps NoB w w2)
                 have HA2 := hide (HA1.out.keep hk2 id)
                 have HB2 := hide (HB1.out.keep hk2 id)
                 clear hk2)
              | (go_at_call 52
                 refine (or_any [r, n1] 2 2 _ _ (fun _ => True) false (two_ints (Blk.new w2 _ _)) (by omega)).mono ?_
                 rintro e w3 ⟨rfl, hk3⟩
                 rw [orL_two]
                 have hk3' : Keeps NoB w2 w3 := ((Keeps.refl NoB w2).alloc _).trans' hk3 (fun _ _ => id) (fun _ _ => id)
                 have HK3 := hide (HK2.out.trans' hk3' (fun _ _ => id) (fun _ _ => id) : Keeps NoB w w3)
                 have HA3 := hide (HA2.out.keep hk3' id)
                 have HB3 := hide (HB2.out.keep hk3' id)
                 obtain ⟨u0, u1, u2, u3, u4, u5, u6⟩ := Blk.c7 (show Blk w3 (w.heap.size) _ #[.int .u8 7, .bool ng, .slice la ln lc, .string tx, .int .i64 nm, .slice ia im ic, .slice ta tn tc] from HA3.out)
                 obtain ⟨v0, v1, v2, v3, v4, v5, v6⟩ := Blk.c7 (show Blk w3 (w.heap.size + 1) _ #[.int .u8 7, .bool ng', .slice la' ln' lc', .string tx', .int .i64 nm', .slice ia' im' ic', .slice ta' tn' tc'] from HB3.out)
                 clear hk3 hk3')
              | fail
            rw [HCC.out]
            have hw := HW.out
            go_upto_region 11 with fail
            clear hw u0 u1 u2 u3 u4 u5 u6 v0 v1 v2 v3 v4 v5 v6 x0 x1 x2 x3 x4 x5 x6 y0 y1 y2 y3 y4 y5 y6
            go_cut [7] (fun s7 wx => s7 = .int .i64 z ∧ Keeps NoB w3 wx)
            case first =>
              go_wp2_with fail
              refine order_begin (fun W => Keeps NoB w3 W) (fun _ => true) (by kernel_rfl) 6 rfl ?_
              have HS : Keeps NoB w3 w3.drew := (Keeps.refl _ _).drew
              refine order_held (i := 0) rfl (by kernel_rfl) (fun _ _ _ h => h) (.inl ⟨rfl, fun W hW => by
                have q0 : W.cell? ⟨w.heap.size, 0, none⟩ = some (.int .u8 7) := hW.cell id (HA3.out.cell 0)
                have q1 : W.cell? ⟨w.heap.size, 1, none⟩ = some (.bool ng) := hW.cell id (HA3.out.cell 1)
                have q2 : W.cell? ⟨w.heap.size, 2, none⟩ = some (.slice la ln lc) := hW.cell id (HA3.out.cell 2)
                have q3 : W.cell? ⟨w.heap.size, 3, none⟩ = some (.string tx) := hW.cell id (HA3.out.cell 3)
                have q4 : W.cell? ⟨w.heap.size, 4, none⟩ = some (.int .i64 nm) := hW.cell id (HA3.out.cell 4)
                have q5 : W.cell? ⟨w.heap.size, 5, none⟩ = some (.slice ia im ic) := hW.cell id (HA3.out.cell 5)
                have q6 : W.cell? ⟨w.heap.size, 6, none⟩ = some (.slice ta tn tc) := hW.cell id (HA3.out.cell 6)
                go_simp; rfl⟩) HS ?_
              try simp only [Act.put, List.setIfInBounds_toArray, List.set_cons_succ, List.set_cons_zero]
              refine order_held (i := 2) rfl (by kernel_rfl) (fun _ _ _ h => h) (.inl ⟨rfl, fun W hW => by
                have q0 : W.cell? ⟨w.heap.size + 1, 0, none⟩ = some (.int .u8 7) := hW.cell id (HB3.out.cell 0)
                have q1 : W.cell? ⟨w.heap.size + 1, 1, none⟩ = some (.bool ng') := hW.cell id (HB3.out.cell 1)
                have q2 : W.cell? ⟨w.heap.size + 1, 2, none⟩ = some (.slice la' ln' lc') := hW.cell id (HB3.out.cell 2)
                have q3 : W.cell? ⟨w.heap.size + 1, 3, none⟩ = some (.string tx') := hW.cell id (HB3.out.cell 3)
                have q4 : W.cell? ⟨w.heap.size + 1, 4, none⟩ = some (.int .i64 nm') := hW.cell id (HB3.out.cell 4)
                have q5 : W.cell? ⟨w.heap.size + 1, 5, none⟩ = some (.slice ia' im' ic') := hW.cell id (HB3.out.cell 5)
                have q6 : W.cell? ⟨w.heap.size + 1, 6, none⟩ = some (.slice ta' tn' tc') := hW.cell id (HB3.out.cell 6)
                go_simp; rfl⟩) HS ?_
              try simp only [Act.put, List.setIfInBounds_toArray, List.set_cons_succ, List.set_cons_zero]
              refine order_one (i := 1) rfl (by kernel_rfl) (fun K hK => ?_)
              go_simp
              refine (tail_any a w3.drew B F _ _ _ _ _ _ _ _ _ _ _ _ _ (TermIn.keep (HK3.out.trans' HS (fun _ _ => id) (fun _ _ => id) : Keeps NoB w w3.drew) (fun _ _ => id) _ _ HHA.out)).mono ?_
              rintro e w4 ⟨k4, g4, a4, n4, c4, t4, m4, i4, j4, d4, p4, q4, r4, rfl, ht4, hk4⟩
              have HT4 := hide ht4
              have HK4 := hide (HS.trans' hk4 (fun _ _ => id) (fun _ _ => id) : Keeps NoB w3 w4)
              refine hK _ _ (fun _ _ => HK4.out) ?_
              clear hK hk4 ht4
              try simp only [Act.put, List.setIfInBounds_toArray, List.set_cons_succ, List.set_cons_zero]
              refine order_one (i := 3) rfl (by kernel_rfl) (fun K hK => ?_)
              go_simp
              refine (tail_any b w4 B' F' _ _ _ _ _ _ _ _ _ _ _ _ _ (TermIn.keep (HK3.out.trans' HK4.out (fun _ _ => id) (fun _ _ => id) : Keeps NoB w w4) (fun _ _ => id) _ _ HHB.out)).mono ?_
              rintro e w5 ⟨k5, g5, a5, n5, c5, t5, m5, i5, j5, d5, p5, q5, r5, rfl, ht5, hk5⟩
              have HT5 := hide ht5
              have HT45 := hide (TermIn.keep hk5 (fun _ _ => id) _ _ HT4.out)
              have HK5 := hide (HK4.out.trans' hk5 (fun _ _ => id) (fun _ _ => id) : Keeps NoB w3 w5)
              refine hK _ _ (fun _ _ => HK5.out) ?_
              clear hK hk5 ht5
              try simp only [Act.put, List.setIfInBounds_toArray, List.set_cons_succ, List.set_cons_zero]
              refine order_one (i := 4) rfl (by kernel_rfl) (fun K hK => ?_)
              go_simp
              refine (IH.out _ _ (by have := HSZ.out; have := HM.out; omega) HRA.out HRB.out w5 _ _ false false _ _ _ _ _ _ _ _ _ _ _ _ _ _ _ _ _ _ _ _ _ _ _ _ _ _ HT45.out HT5.out).mono ?_
              rintro e w6 ⟨rfl, hk6⟩
              rw [HZ.out]
              have HK6 := hide (HK5.out.trans' hk6 (fun _ _ => id) (fun _ _ => id) : Keeps NoB w3 w6)
              refine hK _ _ (fun _ _ => HK6.out) ?_
              clear hK hk6
              try simp only [Act.put, List.setIfInBounds_toArray, List.set_cons_succ, List.set_cons_zero]
              refine order_pure (i := 5) rfl (by kernel_rfl) (fun _ _ _ h => h) (.inl ⟨rfl, fun _ => by go_simp; rfl⟩) ?_
              try simp only [Act.put, List.setIfInBounds_toArray, List.set_cons_succ, List.set_cons_zero]
              refine order_done (by kernel_rfl) ?_
              go_wp2_with fail
              go_meet
              exact ⟨rfl, HK6.out⟩
            case rest =>
              obtain ⟨rfl, hkc⟩ := hcut
              have HKC := hide (HK3.out.trans' hkc (fun _ _ => id) (fun _ _ => id) : Keeps NoB w wc)
              clear hkc
              go_wp2_with fail
              go_ret
              exact ⟨by rw [HV.out, if_pos (by simp [htl]), HZ.out]; rfl, HKC.out⟩
          · have hti : ¬ (0 : Int) < (tn : Int) + (tn' : Int) := by omega
            go_enter Tryz.func29, Tryz.ntmps29
            go_upto_region 10 with
              first
              | (go_at_call 48
                 refine (cmp_int _ _ _).mono ?_
                 rintro e w1 ⟨rfl, hk1⟩
                 rw [HN.out]
                 have HK1 := hide (HK0.out.trans' hk1 (fun _ _ => id) (fun _ _ => id) : Keeps NoB w w1)
                 have HA1 := hide (HA0.out.keep hk1 id)
                 have HB1 := hide (HB0.out.keep hk1 id)
                 obtain ⟨x0, x1, x2, x3, x4, x5, x6⟩ := Blk.c7 (show Blk w1 (w.heap.size) _ #[.int .u8 7, .bool ng, .slice la ln lc, .string tx, .int .i64 nm, .slice ia im ic, .slice ta tn tc] from HA1.out)
                 obtain ⟨y0, y1, y2, y3, y4, y5, y6⟩ := Blk.c7 (show Blk w1 (w.heap.size + 1) _ #[.int .u8 7, .bool ng', .slice la' ln' lc', .string tx', .int .i64 nm', .slice ia' im' ic', .slice ta' tn' tc'] from HB1.out)
                 clear hk1)
              | (go_at_call 49
                 refine (rowt_any M IH a b HM.out w.heap.size (w.heap.size + 1) w1 B B' F F' _ _ _ _ _ _ _ _ _ _ _ _ _ _ _ _ _ _ _ _ _ _ _ _ _ _ HA1.out HB1.out (TermIn.keep HK1.out (fun _ _ => id) _ _ HHA.out) (TermIn.keep HK1.out (fun _ _ => id) _ _ HHB.out) HGA.out HGB.out (by omega) (by omega)).mono ?_
                 rintro e w2 ⟨rfl, hk2⟩
                 rw [HR.out]
                 have HK2 := hide (HK1.out.trans' hk2 (fun _ _ => id) (fun _ _ => id) : Keeps NoB w w2)
                 have HA2 := hide (HA1.out.keep hk2 id)
                 have HB2 := hide (HB1.out.keep hk2 id)
                 clear hk2)
              | (go_at_call 52
                 refine (or_any [r, n1] 2 2 _ _ (fun _ => True) false (two_ints (Blk.new w2 _ _)) (by omega)).mono ?_
                 rintro e w3 ⟨rfl, hk3⟩
                 rw [orL_two]
                 have hk3' : Keeps NoB w2 w3 := ((Keeps.refl NoB w2).alloc _).trans' hk3 (fun _ _ => id) (fun _ _ => id)
                 have HK3 := hide (HK2.out.trans' hk3' (fun _ _ => id) (fun _ _ => id) : Keeps NoB w w3)
                 have HA3 := hide (HA2.out.keep hk3' id)
                 have HB3 := hide (HB2.out.keep hk3' id)
                 obtain ⟨u0, u1, u2, u3, u4, u5, u6⟩ := Blk.c7 (show Blk w3 (w.heap.size) _ #[.int .u8 7, .bool ng, .slice la ln lc, .string tx, .int .i64 nm, .slice ia im ic, .slice ta tn tc] from HA3.out)
                 obtain ⟨v0, v1, v2, v3, v4, v5, v6⟩ := Blk.c7 (show Blk w3 (w.heap.size + 1) _ #[.int .u8 7, .bool ng', .slice la' ln' lc', .string tx', .int .i64 nm', .slice ia' im' ic', .slice ta' tn' tc'] from HB3.out)
                 clear hk3 hk3')
              | fail
            rw [HCC.out]
            have hw := HW.out
            go_wp2_with fail
            go_ret
            exact ⟨by rw [HV.out, if_neg (fun h => htl h.2)]; rfl, HK3.out⟩
        · have hcb : (c == 0) = false := by simpa using hc0
          go_enter Tryz.func29, Tryz.ntmps29
          go_upto_region 10 with
            first
            | (go_at_call 48
               refine (cmp_int _ _ _).mono ?_
               rintro e w1 ⟨rfl, hk1⟩
               rw [HN.out]
               have HK1 := hide (HK0.out.trans' hk1 (fun _ _ => id) (fun _ _ => id) : Keeps NoB w w1)
               have HA1 := hide (HA0.out.keep hk1 id)
               have HB1 := hide (HB0.out.keep hk1 id)
               obtain ⟨x0, x1, x2, x3, x4, x5, x6⟩ := Blk.c7 (show Blk w1 (w.heap.size) _ #[.int .u8 7, .bool ng, .slice la ln lc, .string tx, .int .i64 nm, .slice ia im ic, .slice ta tn tc] from HA1.out)
               obtain ⟨y0, y1, y2, y3, y4, y5, y6⟩ := Blk.c7 (show Blk w1 (w.heap.size + 1) _ #[.int .u8 7, .bool ng', .slice la' ln' lc', .string tx', .int .i64 nm', .slice ia' im' ic', .slice ta' tn' tc'] from HB1.out)
               clear hk1)
            | (go_at_call 49
               refine (rowt_any M IH a b HM.out w.heap.size (w.heap.size + 1) w1 B B' F F' _ _ _ _ _ _ _ _ _ _ _ _ _ _ _ _ _ _ _ _ _ _ _ _ _ _ HA1.out HB1.out (TermIn.keep HK1.out (fun _ _ => id) _ _ HHA.out) (TermIn.keep HK1.out (fun _ _ => id) _ _ HHB.out) HGA.out HGB.out (by omega) (by omega)).mono ?_
               rintro e w2 ⟨rfl, hk2⟩
               rw [HR.out]
               have HK2 := hide (HK1.out.trans' hk2 (fun _ _ => id) (fun _ _ => id) : Keeps NoB w w2)
               have HA2 := hide (HA1.out.keep hk2 id)
               have HB2 := hide (HB1.out.keep hk2 id)
               clear hk2)
            | (go_at_call 52
               refine (or_any [r, n1] 2 2 _ _ (fun _ => True) false (two_ints (Blk.new w2 _ _)) (by omega)).mono ?_
               rintro e w3 ⟨rfl, hk3⟩
               rw [orL_two]
               have hk3' : Keeps NoB w2 w3 := ((Keeps.refl NoB w2).alloc _).trans' hk3 (fun _ _ => id) (fun _ _ => id)
               have HK3 := hide (HK2.out.trans' hk3' (fun _ _ => id) (fun _ _ => id) : Keeps NoB w w3)
               have HA3 := hide (HA2.out.keep hk3' id)
               have HB3 := hide (HB2.out.keep hk3' id)
               obtain ⟨u0, u1, u2, u3, u4, u5, u6⟩ := Blk.c7 (show Blk w3 (w.heap.size) _ #[.int .u8 7, .bool ng, .slice la ln lc, .string tx, .int .i64 nm, .slice ia im ic, .slice ta tn tc] from HA3.out)
               obtain ⟨v0, v1, v2, v3, v4, v5, v6⟩ := Blk.c7 (show Blk w3 (w.heap.size + 1) _ #[.int .u8 7, .bool ng', .slice la' ln' lc', .string tx', .int .i64 nm', .slice ia' im' ic', .slice ta' tn' tc'] from HB3.out)
               clear hk3 hk3')
            | fail
          rw [HCC.out]
          go_wp2_with fail
          go_ret
          exact ⟨by rw [HV.out, if_neg (by omega)]; rfl, HK3.out⟩
      · have h7b : (kd == 7) = false := by simpa using h7
        obtain ⟨c, hc⟩ : ∃ c, firstI (cmpB tx tx') (firstI (cmpZ nm nm') n1) = c := ⟨_, rfl⟩
        have HCC := hide hc
        clear hc
        have HV := hide (show ordO (M + 1) a b = if c = 0 then r else c from by
          have e := ordO_else M a b (by rw [HKA.out, HKB.out]) (by rw [HKA.out]; exact h1) (by rw [HKA.out]; exact h7)
          rw [HR.out, HNC.out, HMA.out.1, HMA.out.2, HMB.out.1, HMB.out.2, HCC.out] at e
          exact e)
        go_enter Tryz.func29, Tryz.ntmps29
        go_upto_region 13 with
          first
          | (go_at_call 48
             refine (cmp_int _ _ _).mono ?_
             rintro e w1 ⟨rfl, hk1⟩
             rw [HN.out]
             have HK1 := hide (HK0.out.trans' hk1 (fun _ _ => id) (fun _ _ => id) : Keeps NoB w w1)
             have HA1 := hide (HA0.out.keep hk1 id)
             have HB1 := hide (HB0.out.keep hk1 id)
             obtain ⟨x0, x1, x2, x3, x4, x5, x6⟩ := Blk.c7 (show Blk w1 (w.heap.size) _ #[.int .u8 kd, .bool ng, .slice la ln lc, .string tx, .int .i64 nm, .slice ia im ic, .slice ta tn tc] from HA1.out)
             obtain ⟨y0, y1, y2, y3, y4, y5, y6⟩ := Blk.c7 (show Blk w1 (w.heap.size + 1) _ #[.int .u8 kd, .bool ng', .slice la' ln' lc', .string tx', .int .i64 nm', .slice ia' im' ic', .slice ta' tn' tc'] from HB1.out)
             clear hk1)
          | (go_at_call 49
             refine (rowt_any M IH a b HM.out w.heap.size (w.heap.size + 1) w1 B B' F F' _ _ _ _ _ _ _ _ _ _ _ _ _ _ _ _ _ _ _ _ _ _ _ _ _ _ HA1.out HB1.out (TermIn.keep HK1.out (fun _ _ => id) _ _ HHA.out) (TermIn.keep HK1.out (fun _ _ => id) _ _ HHB.out) HGA.out HGB.out (by omega) (by omega)).mono ?_
             rintro e w2 ⟨rfl, hk2⟩
             rw [HR.out]
             have HK2 := hide (HK1.out.trans' hk2 (fun _ _ => id) (fun _ _ => id) : Keeps NoB w w2)
             have HA2 := hide (HA1.out.keep hk2 id)
             have HB2 := hide (HB1.out.keep hk2 id)
             clear hk2)
          | (go_at_call 52
             refine (or_any [r, n1] 2 2 _ _ (fun _ => True) false (two_ints (Blk.new w2 _ _)) (by omega)).mono ?_
             rintro e w3 ⟨rfl, hk3⟩
             rw [orL_two]
             have hk3' : Keeps NoB w2 w3 := ((Keeps.refl NoB w2).alloc _).trans' hk3 (fun _ _ => id) (fun _ _ => id)
             have HK3 := hide (HK2.out.trans' hk3' (fun _ _ => id) (fun _ _ => id) : Keeps NoB w w3)
             have HA3 := hide (HA2.out.keep hk3' id)
             have HB3 := hide (HB2.out.keep hk3' id)
             obtain ⟨u0, u1, u2, u3, u4, u5, u6⟩ := Blk.c7 (show Blk w3 (w.heap.size) _ #[.int .u8 kd, .bool ng, .slice la ln lc, .string tx, .int .i64 nm, .slice ia im ic, .slice ta tn tc] from HA3.out)
             obtain ⟨v0, v1, v2, v3, v4, v5, v6⟩ := Blk.c7 (show Blk w3 (w.heap.size + 1) _ #[.int .u8 kd, .bool ng', .slice la' ln' lc', .string tx', .int .i64 nm', .slice ia' im' ic', .slice ta' tn' tc'] from HB3.out)
             clear hk3 hk3')
          | fail
        clear x0 x1 x2 x3 x4 x5 x6 y0 y1 y2 y3 y4 y5 y6
        go_cut [8] (fun s8 wx => s8 = .int .i64 c ∧ Keeps NoB w1 wx)
        case first =>
          go_wp2_with fail
          refine order_begin (fun W => Keeps NoB w1 W) (fun _ => true) (by kernel_rfl) 14 rfl ?_
          have HS : Keeps NoB w1 w1.drew := (Keeps.refl _ _).drew
          refine order_pure (i := 0) rfl (by kernel_rfl) (fun _ _ _ h => h) (.inl ⟨rfl, fun _ => by go_simp; rfl⟩) ?_
          try simp only [Act.put, List.setIfInBounds_toArray, List.set_cons_succ, List.set_cons_zero]
          refine order_held (i := 1) rfl (by kernel_rfl) (fun _ _ _ h => h) (.inl ⟨rfl, fun W hW => by
            have q0 : W.cell? ⟨w.heap.size, 3, none⟩ = some (.string tx) := hW.cell id (HA1.out.cell 3)
            go_simp; rfl⟩) HS ?_
          try simp only [Act.put, List.setIfInBounds_toArray, List.set_cons_succ, List.set_cons_zero]
          refine order_pure (i := 2) rfl (by kernel_rfl) (fun _ _ _ h => h) (.inl ⟨rfl, fun _ => by go_simp; rfl⟩) ?_
          try simp only [Act.put, List.setIfInBounds_toArray, List.set_cons_succ, List.set_cons_zero]
          refine order_held (i := 3) rfl (by kernel_rfl) (fun _ _ _ h => h) (.inl ⟨rfl, fun W hW => by
            have q0 : W.cell? ⟨w.heap.size + 1, 3, none⟩ = some (.string tx') := hW.cell id (HB1.out.cell 3)
            go_simp; rfl⟩) HS ?_
          try simp only [Act.put, List.setIfInBounds_toArray, List.set_cons_succ, List.set_cons_zero]
          refine order_pure (i := 5) rfl (by kernel_rfl) (fun _ _ _ h => h) (.inl ⟨rfl, fun _ => by go_simp; rfl⟩) ?_
          try simp only [Act.put, List.setIfInBounds_toArray, List.set_cons_succ, List.set_cons_zero]
          refine order_held (i := 6) rfl (by kernel_rfl) (fun _ _ _ h => h) (.inl ⟨rfl, fun W hW => by
            have q0 : W.cell? ⟨w.heap.size, 4, none⟩ = some (.int .i64 nm) := hW.cell id (HA1.out.cell 4)
            go_simp; rfl⟩) HS ?_
          try simp only [Act.put, List.setIfInBounds_toArray, List.set_cons_succ, List.set_cons_zero]
          refine order_pure (i := 7) rfl (by kernel_rfl) (fun _ _ _ h => h) (.inl ⟨rfl, fun _ => by go_simp; rfl⟩) ?_
          try simp only [Act.put, List.setIfInBounds_toArray, List.set_cons_succ, List.set_cons_zero]
          refine order_held (i := 8) rfl (by kernel_rfl) (fun _ _ _ h => h) (.inl ⟨rfl, fun W hW => by
            have q0 : W.cell? ⟨w.heap.size + 1, 4, none⟩ = some (.int .i64 nm') := hW.cell id (HB1.out.cell 4)
            go_simp; rfl⟩) HS ?_
          try simp only [Act.put, List.setIfInBounds_toArray, List.set_cons_succ, List.set_cons_zero]
          refine order_pure (i := 10) rfl (by kernel_rfl) (fun _ _ _ h => h) (.inl ⟨rfl, fun _ => by go_simp; rfl⟩) ?_
          try simp only [Act.put, List.setIfInBounds_toArray, List.set_cons_succ, List.set_cons_zero]
          refine order_one (i := 4) rfl (by kernel_rfl) (fun K hK => ?_)
          go_simp
          refine (cmp_str tx tx' w1.drew).mono ?_
          rintro e w2 ⟨rfl, hk2⟩
          have HK2 := hide (HS.trans' hk2 (fun _ _ => id) (fun _ _ => id) : Keeps NoB w1 w2)
          refine hK _ _ (fun _ _ => HK2.out) ?_
          clear hK hk2
          try simp only [Act.put, List.setIfInBounds_toArray, List.set_cons_succ, List.set_cons_zero]
          refine order_one (i := 9) rfl (by kernel_rfl) (fun K hK => ?_)
          go_simp
          refine (cmp_int nm nm' w2).mono ?_
          rintro e w3 ⟨rfl, hk3⟩
          have HK3 := hide (HK2.out.trans' hk3 (fun _ _ => id) (fun _ _ => id) : Keeps NoB w1 w3)
          refine hK _ _ (fun _ _ => HK3.out) ?_
          clear hK hk3
          try simp only [Act.put, List.setIfInBounds_toArray, List.set_cons_succ, List.set_cons_zero]
          refine order_one (i := 11) rfl (by kernel_rfl) (fun K hK => ?_)
          go_simp
          refine hK _ _ (fun _ h => h.alloc _) ?_
          clear hK
          try simp only [Act.put, List.setIfInBounds_toArray, List.set_cons_succ, List.set_cons_zero]
          refine order_one (i := 12) rfl (by kernel_rfl) (fun K hK => ?_)
          go_simp
          refine (or_any [cmpB tx tx', cmpZ nm nm', n1] 3 3 _ _ (fun _ => True) false (three_ints (Blk.new w3 _ _)) (by omega)).mono ?_
          rintro e w4 ⟨rfl, hk4⟩
          rw [orL_three, HCC.out]
          have HK4 := hide (HK3.out.trans' (((Keeps.refl NoB w3).alloc _).trans' hk4 (fun _ _ => id) (fun _ _ => id) : Keeps NoB w3 w4) (fun _ _ => id) (fun _ _ => id) : Keeps NoB w1 w4)
          refine hK _ _ (fun _ _ => HK4.out) ?_
          clear hK hk4
          try simp only [Act.put, List.setIfInBounds_toArray, List.set_cons_succ, List.set_cons_zero]
          refine order_pure (i := 13) rfl (by kernel_rfl) (fun _ _ _ h => h) (.inl ⟨rfl, fun _ => by go_simp; rfl⟩) ?_
          try simp only [Act.put, List.setIfInBounds_toArray, List.set_cons_succ, List.set_cons_zero]
          refine order_done (by kernel_rfl) ?_
          go_wp2_with fail
          go_meet
          exact ⟨rfl, HK4.out⟩
        case rest =>
          obtain ⟨rfl, hkc⟩ := hcut
          obtain ⟨w5, rfl⟩ : ∃ w5, w5 = wc := ⟨_, rfl⟩
          have HKC := hide (HK1.out.trans' hkc (fun _ _ => id) (fun _ _ => id) : Keeps NoB w w5)
          have HA5 := hide (HA1.out.keep hkc id); have HB5 := hide (HB1.out.keep hkc id)
          clear hkc
          by_cases hc0 : c = 0
          · subst hc0
            go_wp2_with
              first
              | (go_at_call 49
                 refine (rowt_any M IH a b HM.out w.heap.size (w.heap.size + 1) w5 B B' F F' _ _ _ _ _ _ _ _ _ _ _ _ _ _ _ _ _ _ _ _ _ _ _ _ _ _ HA5.out HB5.out (TermIn.keep HKC.out (fun _ _ => id) _ _ HHA.out) (TermIn.keep HKC.out (fun _ _ => id) _ _ HHB.out) HGA.out HGB.out (by omega) (by omega)).mono ?_
                 rintro e w6 ⟨rfl, hk6⟩
                 rw [HR.out]
                 have HK6 := hide (HKC.out.trans' hk6 (fun _ _ => id) (fun _ _ => id) : Keeps NoB w w6)
                 clear hk6)
              | fail
            go_ret
            exact ⟨by rw [HV.out, if_pos (by simp)]; rfl, HK6.out⟩
          · have hcb : (c == 0) = false := by simpa using hc0
            go_wp2_with fail
            go_ret
            exact ⟨by rw [HV.out, if_neg hc0]; rfl, HKC.out⟩
  · have hkb : (kd == kd') = false := by simpa using hk
    have HV := hide (show ordO (M + 1) a b = cmpZ kd kd' from by unfold ordO; rw [if_pos (by rw [HKA.out, HKB.out]; exact hk), HKA.out, HKB.out])
    go_enter Tryz.func29, Tryz.ntmps29
    go_wp2_with
      first
      | (go_at_call 47
         refine (cmp_kind kd kd' _).mono ?_
         rintro e w1 ⟨rfl, hk1⟩
         have HK1 := hide (HK0.out.trans' hk1 (fun _ _ => id) (fun _ _ => id) : Keeps NoB w w1)
         clear hk1)
      | fail
    go_ret
    exact ⟨by rw [HV.out]; rfl, HK1.out⟩
theorem order_all (M : Nat) : OrderSaid M := by
  induction M with
  | zero => intro a b h; have := a.size_pos; omega
  | succ M IH => intro a b hM hga hgb w B B' F F' kd ng la ln lc tx nm ia im ic ta tn tc kd' ng' la' ln' lc' tx' nm' ia' im' ic' ta' tn' tc' ha hb; exact order_walk M (hide IH) a b hM hga hgb w B B' F F' _ _ _ _ _ _ _ _ _ _ _ _ _ _ _ _ _ _ _ _ _ _ _ _ _ _ ha hb
theorem order_any (a b : Tm) (hga : goodT a) (hgb : goodT b) (w : World) (B B' : Nat → Prop) (F F' : Bool) (kd : Int) (ng : Bool) (la : Option Addr) (ln lc : Nat) (tx : ByteArray) (nm : Int) (ia : Option Addr) (im ic : Nat) (ta : Option Addr) (tn tc : Nat) (kd' : Int) (ng' : Bool) (la' : Option Addr) (ln' lc' : Nat) (tx' : ByteArray) (nm' : Int) (ia' : Option Addr) (im' ic' : Nat) (ta' : Option Addr) (tn' tc' : Nat) (ha : TermIn w B F [.int .u8 kd, .bool ng, .slice la ln lc, .string tx, .int .i64 nm, .slice ia im ic, .slice ta tn tc] a) (hb : TermIn w B' F' [.int .u8 kd', .bool ng', .slice la' ln' lc', .string tx', .int .i64 nm', .slice ia' im' ic', .slice ta' tn' tc'] b) : Calls Tryz.prog 29 #[.agg #[.int .u8 kd, .bool ng, .slice la ln lc, .string tx, .int .i64 nm, .slice ia im ic, .slice ta tn tc], .agg #[.int .u8 kd', .bool ng', .slice la' ln' lc', .string tx', .int .i64 nm', .slice ia' im' ic', .slice ta' tn' tc']] w (NumP w (orderT a b)) :=
  order_all _ a b (Nat.le_refl _) hga hgb w B B' F F' _ _ _ _ _ _ _ _ _ _ _ _ _ _ _ _ _ _ _ _ _ _ _ _ _ _ ha hb
end Go.Proofs.YtjdbjjjbgibpaaaGreatDoor
