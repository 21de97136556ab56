/- (*name.Names).Find, Put. -/
import Derived.Test.YthoaaihghgabcaaGreatEntry
namespace Go.Proofs.YthoaaihghgabcaaGreat
open Go.RowKit Go.Maps

/-- Find's answer. -/
def FindAt (L : List Nm) (s : ByteArray) (p : Int) (ok : Bool) : Prop := (ok = true ∧ (s, p) ∈ L) ∨ (ok = false ∧ s ∉ names L ∧ p = 0)
theorem findAt_any (L : List Nm) (s : ByteArray) : ∃ p ok, FindAt L s p ok := by
  by_cases h : s ∈ names L
  · obtain ⟨x, hx, rfl⟩ := List.mem_map.1 h
    exact ⟨x.2, true, .inl ⟨rfl, hx⟩⟩
  · exact ⟨0, false, .inr ⟨rfl, h, rfl⟩⟩

set_option maxRecDepth 100000 in
theorem find_at (w : World) (b m1 m2 N : Nat) (L : List Nm) (s : ByteArray) (p : Int) (ok : Bool) (h : NamesAt w b m1 m2 N L) (hf : FindAt L s p ok) (hs : s.size ≤ maxLen) :
    Calls Tryz.prog 13 #[.pointer (some ⟨b, 0, none⟩), .string s] w fun e w' => e = .returned (.tuple #[.int .i64 p, .bool ok]) ∧ w = w' := by
  obtain ⟨D, hown, hD⟩ := h.one
  have hkey := keyOf_s hs
  have HO := hide hown
  have c0 : w.cell? ⟨b, 0, none⟩ = some (.map (some m1)) := h.blk.cell 0
  have HOK := hide (show Maps.has D (.string (key s)) = ok from by
    rcases hf with ⟨rfl, hm⟩ | ⟨rfl, hn, _⟩
    · exact (hD.has s).2 (mem_names hm)
    · exact hD.not hn)
  have HAT := hide (show ∀ c : Int, D.atKey (.string (key s)) (.lit (.int .i64 0)) = .lit (.int .i64 c) → c = p from fun c hc => by
    rcases hf with ⟨rfl, hm⟩ | ⟨rfl, hn, rfl⟩
    · rw [hD.at' (s, p) hm] at hc
      injection hc with hc; injection hc with _ hc; exact hc.symm
    · rw [Maps.atKey_of_not_has (hD.not hn)] at hc
      injection hc with hc; injection hc with _ hc; exact hc.symm)
  clear h hown hD hf hs
  go_enter Tryz.func13, Tryz.ntmps13
  go_wp2_with
    first
    | (go_at_call 22; refine (made_at w b m1 c0).mono ?_; rintro e w' ⟨rfl, rfl⟩)
    | (at_lookup; go_loud (refine wpList_lookup_own_ok_int w rfl _ _ 48 rfl 9 3 .i64 keyS Tryz.underlying48 Tryz.underlying3 (zero3 w) m1 N D rfl HO.out _ _ rfl hkey ?_; intro c hat hwc; (have hc := HAT.out c hat); subst hc; rw [HOK.out]; clear hat hwc))
    | fail
  go_ret2
  exact ⟨rfl, rfl⟩

def PutPost (w : World) (b m1 m2 N : Nat) (L : List Nm) (x : Nm) (e : Ending) (w' : World) : Prop := e = .returned (.bool true) ∧ NamesAt w' b m1 m2 (N + 1) (ins x L) ∧ Keeps (fun k => k = m1 ∨ k = m2) w w'
set_option maxRecDepth 100000 in
theorem put_no (w : World) (b m1 m2 N : Nat) (L : List Nm) (s : ByteArray) (p : Int) (h : NamesAt w b m1 m2 N L) (hs : s.size ≤ maxLen) (hp : IntOk p) (hno : hasN s L = true ∨ hasP p L = true) :
    Calls Tryz.prog 12 #[.pointer (some ⟨b, 0, none⟩), .string s, .int .i64 p] w fun e w' => e = .returned (.bool false) ∧ w = w' := by
  obtain ⟨D1, o1, s1⟩ := h.one
  obtain ⟨D2, o2, s2⟩ := h.two
  have c0 : w.cell? ⟨b, 0, none⟩ = some (.map (some m1)) := h.blk.cell 0
  have c1 : w.cell? ⟨b, 1, none⟩ = some (.map (some m2)) := h.blk.cell 1
  have HO := hide (And.intro o1 (And.intro s1 (And.intro o2 s2)))
  clear h o1 s1 o2 s2
  cases h1 : hasN s L with
  | true =>
    have H1 := hide h1
    clear h1 hno
    go_enter Tryz.func12, Tryz.ntmps12
    go_wp2_with
      first
      | (go_at_call 22; refine (made_at w b m1 c0).mono ?_; rintro e w' ⟨rfl, rfl⟩)
      | (go_at_call 27; refine (has_s w m1 N D1 L s HO.out.1 HO.out.2.1 hs).mono ?_; rw [H1.out]; rintro e w' ⟨rfl, rfl⟩)
      | fail
    go_ret
    exact ⟨rfl, rfl⟩
  | false =>
    have H1 := hide h1
    have H2 := hide (show hasP p L = true from hno.resolve_left (by rw [h1]; decide))
    clear h1 hno
    go_enter Tryz.func12, Tryz.ntmps12
    go_wp2_with
      first
      | (go_at_call 22; refine (made_at w b m1 c0).mono ?_; rintro e w' ⟨rfl, rfl⟩)
      | (go_at_call 27; refine (has_s w m1 N D1 L s HO.out.1 HO.out.2.1 hs).mono ?_; rw [H1.out]; rintro e w' ⟨rfl, rfl⟩)
      | (go_at_call 28; refine (has_p w m2 N D2 L p HO.out.2.2.1 HO.out.2.2.2 hp).mono ?_; rw [H2.out]; rintro e w' ⟨rfl, rfl⟩)
      | fail
    go_ret
    exact ⟨rfl, rfl⟩

set_option maxRecDepth 100000 in
set_option maxHeartbeats 2000000 in
theorem put_yes (w : World) (b m1 m2 N : Nat) (L : List Nm) (s : ByteArray) (p : Int) (h : NamesAt w b m1 m2 N L) (hs : s.size ≤ maxLen) (hp : IntOk p) (h1 : hasN s L = false) (h2 : hasP p L = false) (hN : N < 1000000) :
    Calls Tryz.prog 12 #[.pointer (some ⟨b, 0, none⟩), .string s, .int .i64 p] w (PutPost w b m1 m2 N L (s, p)) := by
  have hn1 : s ∉ names L := fun hm => by rw [hasN_iff.2 hm] at h1; cases h1
  have hn2 : p ∉ pids L := fun hm => by rw [hasP_iff.2 hm] at h2; cases h2
  obtain ⟨D1, o1, s1⟩ := h.one
  obtain ⟨D2, o2, s2⟩ := h.two
  have c0 : w.cell? ⟨b, 0, none⟩ = some (.map (some m1)) := h.blk.cell 0
  have c1 : w.cell? ⟨b, 1, none⟩ = some (.map (some m2)) := h.blk.cell 1
  have HO := hide (And.intro o1 (And.intro s1 (And.intro o2 s2)))
  have HN := hide (And.intro hn1 hn2)
  have H := hide h; have H1 := hide h1; have H2 := hide h2
  have hbm : b ≠ m1 ∧ b ≠ m2 := by
    refine ⟨fun e => ?_, fun e => ?_⟩
    · subst e; obtain ⟨es, cl, hb, _⟩ := o1; have := h.blk; unfold Blk at this; rw [hb] at this; cases this
    · subst e; obtain ⟨es, cl, hb, _⟩ := o2; have := h.blk; unfold Blk at this; rw [hb] at this; cases this
  have HBM := hide hbm
  clear h o1 s1 o2 s2 h1 h2 hn1 hn2 hbm
  go_enter Tryz.func12, Tryz.ntmps12
  go_wp2_with
    first
    | (go_at_call 22; refine (made_at w b m1 c0).mono ?_; rintro e w' ⟨rfl, rfl⟩)
    | (go_at_call 27; refine (has_s w m1 N D1 L s HO.out.1 HO.out.2.1 hs).mono ?_; rw [H1.out]; rintro e w' ⟨rfl, rfl⟩)
    | (go_at_call 28; refine (has_p w m2 N D2 L p HO.out.2.2.1 HO.out.2.2.2 hp).mono ?_; rw [H2.out]; rintro e w' ⟨rfl, rfl⟩)
    | fail
  have HS : Blk w.drew b 52 #[.map (some m1), .map (some m2)] := H.out.blk.drew
  refine order_begin (fun W => Blk W b 52 #[.map (some m1), .map (some m2)]) (fun _ => true) (by kernel_rfl) 18 rfl ?_
  refine order_pure (i := 0) rfl (by kernel_rfl) (fun _ _ _ h => h) (.inl ⟨rfl, fun _ => by go_simp; rfl⟩) ?_
  try simp only [Act.put, List.setIfInBounds_toArray, List.set_cons_succ, List.set_cons_zero]
  refine order_pure (i := 1) rfl (by kernel_rfl) (fun _ _ _ h => h) (.inl ⟨rfl, fun _ => by go_simp; rfl⟩) ?_
  try simp only [Act.put, List.setIfInBounds_toArray, List.set_cons_succ, List.set_cons_zero]
  refine order_pure (i := 2) rfl (by kernel_rfl) (fun _ _ _ h => h) (.inl ⟨rfl, fun _ => by go_simp; rfl⟩) ?_
  try simp only [Act.put, List.setIfInBounds_toArray, List.set_cons_succ, List.set_cons_zero]
  refine order_held (i := 3) rfl (by kernel_rfl) (fun _ _ _ h => h) (.inl ⟨rfl, fun W hW => by
    have q0 : W.cell? ⟨b, 0, none⟩ = some (.map (some m1)) := hW.cell 0
    go_simp; rfl⟩) HS ?_
  try simp only [Act.put, List.setIfInBounds_toArray, List.set_cons_succ, List.set_cons_zero]
  refine order_pure (i := 4) rfl (by kernel_rfl) (fun _ _ _ h => h) (.inl ⟨rfl, fun _ => by go_simp; rfl⟩) ?_
  try simp only [Act.put, List.setIfInBounds_toArray, List.set_cons_succ, List.set_cons_zero]
  refine order_pure (i := 5) rfl (by kernel_rfl) (fun _ _ _ h => h) (.inl ⟨rfl, fun _ => by go_simp; rfl⟩) ?_
  try simp only [Act.put, List.setIfInBounds_toArray, List.set_cons_succ, List.set_cons_zero]
  refine order_pure (i := 6) rfl (by kernel_rfl) (fun _ _ _ h => h) (.inl ⟨rfl, fun _ => by go_simp; rfl⟩) ?_
  try simp only [Act.put, List.setIfInBounds_toArray, List.set_cons_succ, List.set_cons_zero]
  refine order_pure (i := 7) rfl (by kernel_rfl) (fun _ _ _ h => h) (.inl ⟨rfl, fun _ => by go_simp; rfl⟩) ?_
  try simp only [Act.put, List.setIfInBounds_toArray, List.set_cons_succ, List.set_cons_zero]
  refine order_held (i := 8) rfl (by kernel_rfl) (fun _ _ _ h => h) (.inl ⟨rfl, fun W hW => by
    have q0 : W.cell? ⟨b, 1, none⟩ = some (.map (some m2)) := hW.cell 1
    go_simp; rfl⟩) HS ?_
  try simp only [Act.put, List.setIfInBounds_toArray, List.set_cons_succ, List.set_cons_zero]
  refine order_pure (i := 9) rfl (by kernel_rfl) (fun _ _ _ h => h) (.inl ⟨rfl, fun _ => by go_simp; rfl⟩) ?_
  try simp only [Act.put, List.setIfInBounds_toArray, List.set_cons_succ, List.set_cons_zero]
  refine order_pure (i := 10) rfl (by kernel_rfl) (fun _ _ _ h => h) (.inl ⟨rfl, fun _ => by go_simp; rfl⟩) ?_
  try simp only [Act.put, List.setIfInBounds_toArray, List.set_cons_succ, List.set_cons_zero]
  refine order_pure (i := 11) rfl (by kernel_rfl) (fun _ _ _ h => h) (.inl ⟨rfl, fun _ => by go_simp; rfl⟩) ?_
  try simp only [Act.put, List.setIfInBounds_toArray, List.set_cons_succ, List.set_cons_zero]
  have HO1 := hide (own_keep HO.out.1 (Keeps.refl NoB w).drew id)
  have HO2 := hide (own_keep HO.out.2.2.1 (Keeps.refl NoB w).drew id)
  have HKD := hide ((Keeps.refl (fun k => k = m1 ∨ k = m2) w).drew)
  generalize w.drew = W0 at *
  obtain ⟨st, w1, hr1, ht1, hst1⟩ := entry_new keyS Tryz.underlying48 (fun u => zero3 u) HO1.out (by unfold maxLen; omega) (keyOf_s hs) (HO.out.2.1.not HN.out.1)
  have HT1 := hide ht1; have HST1 := hide hst1
  clear ht1 hst1
  refine order_one (i := 12) rfl (by kernel_rfl) (fun K hK => ?_)
  go_simp
  have HK1 := hide ((Keeps.refl (fun k => k = m1 ∨ k = m2) W0).grown HT1.out.grown (fun k e _ => by injection e with e; exact .inl e.symm))
  have HS1 : Blk w1 b 52 #[.map (some m1), .map (some m2)] := HS.keep HK1.out (fun e => e.elim HBM.out.1 HBM.out.2)
  refine hK _ _ (fun _ _ => HS1) ?_
  clear hK
  try simp only [Act.put, List.setIfInBounds_toArray, List.set_cons_succ, List.set_cons_zero]
  refine order_pure (i := 13) rfl (by kernel_rfl) (fun _ _ _ h => h) (.inl ⟨rfl, fun _ => by go_simp; rfl⟩) ?_
  try simp only [Act.put, List.setIfInBounds_toArray, List.set_cons_succ, List.set_cons_zero]
  obtain ⟨w2, hr2, ho2, ht2⟩ := HST1.out w1 (.int .i64 p) (.lit (.int .i64 p)) [] rfl (plainElem_int Tryz.underlying3 hp)
  replace hr2 : (Instr.entryStore 48 (.map (some m1)) (.int .i64 (st : Int)) (.int .i64 p)).run Tryz.prog w1 = .ok () w2 := hr2
  have HO3 := hide ho2; have HT2 := hide ht2
  clear ho2 ht2 HST1
  refine order_one (i := 14) rfl (by kernel_rfl) (fun K hK => ?_)
  go_simp
  have HK2 := hide ((Keeps.refl (fun k => k = m1 ∨ k = m2) w1).grown HT2.out.grown (fun k e _ => by injection e with e; exact .inl e.symm))
  have HS2 : Blk w2 b 52 #[.map (some m1), .map (some m2)] := HS1.keep HK2.out (fun e => e.elim HBM.out.1 HBM.out.2)
  refine hK _ _ (fun _ _ => HS2) ?_
  clear hK hr1 hr2
  try simp only [Act.put, List.setIfInBounds_toArray, List.set_cons_succ, List.set_cons_zero]
  have hk02 : Keeps (fun k => k = m1) W0 w2 := ((Keeps.refl (fun k => k = m1) W0).grown HT1.out.grown (fun k e _ => by injection e with e; exact e.symm)).grown HT2.out.grown (fun k e _ => by injection e with e; exact e.symm)
  have HO4 := hide (own_keep HO2.out hk02 (fun e => H.out.ne e.symm))
  obtain ⟨st2, w3, hr3, ht3, hst3⟩ := entry_new keyI Tryz.underlying50 (fun u => zero9 u) HO4.out (by unfold maxLen; omega) (keyOf_p hp) (HO.out.2.2.2.not HN.out.2)
  have HT3 := hide ht3; have HST3 := hide hst3
  clear ht3 hst3 hk02
  refine order_one (i := 15) rfl (by kernel_rfl) (fun K hK => ?_)
  go_simp
  have HK3 := hide ((Keeps.refl (fun k => k = m1 ∨ k = m2) w2).grown HT3.out.grown (fun k e _ => by injection e with e; exact .inr e.symm))
  have HS3 : Blk w3 b 52 #[.map (some m1), .map (some m2)] := HS2.keep HK3.out (fun e => e.elim HBM.out.1 HBM.out.2)
  refine hK _ _ (fun _ _ => HS3) ?_
  clear hK
  try simp only [Act.put, List.setIfInBounds_toArray, List.set_cons_succ, List.set_cons_zero]
  refine order_pure (i := 16) rfl (by kernel_rfl) (fun _ _ _ h => h) (.inl ⟨rfl, fun _ => by go_simp; rfl⟩) ?_
  try simp only [Act.put, List.setIfInBounds_toArray, List.set_cons_succ, List.set_cons_zero]
  obtain ⟨w4, hr4, ho4, ht4⟩ := HST3.out w3 (.string s) (.lit (.string (key s))) [] rfl (plainElem_string Tryz.underlying9 hs)
  replace hr4 : (Instr.entryStore 50 (.map (some m2)) (.int .i64 (st2 : Int)) (.string s)).run Tryz.prog w3 = .ok () w4 := hr4
  have HO5 := hide ho4; have HT4 := hide ht4
  clear ho4 ht4 HST3
  refine order_one (i := 17) rfl (by kernel_rfl) (fun K hK => ?_)
  go_simp
  have HK4 := hide ((Keeps.refl (fun k => k = m1 ∨ k = m2) w3).grown HT4.out.grown (fun k e _ => by injection e with e; exact .inr e.symm))
  have HS4 : Blk w4 b 52 #[.map (some m1), .map (some m2)] := HS3.keep HK4.out (fun e => e.elim HBM.out.1 HBM.out.2)
  refine hK _ _ (fun _ _ => HS4) ?_
  clear hK hr3 hr4
  try simp only [Act.put, List.setIfInBounds_toArray, List.set_cons_succ, List.set_cons_zero]
  refine order_done (by kernel_rfl) ?_
  go_wp2
  go_ret
  have k4 : Keeps (fun k => k = m2) w2 w4 := ((Keeps.refl (fun k => k = m2) w2).grown HT3.out.grown (fun k e _ => by injection e with e; exact e.symm)).grown HT4.out.grown (fun k e _ => by injection e with e; exact e.symm)
  have hD1 : IsMap D1 := HO.out.1.isMap
  have hD2 : IsMap D2 := HO.out.2.2.1.isMap
  have e1 : dropName s L = L := dropName_none HN.out.1
  have q1 := HO.out.2.1.put hD1 (s, p) trivial
  rw [e1] at q1
  have q2 := HO.out.2.2.2.put hD2 (s, p) trivial HN.out.2
  refine ⟨rfl, ⟨HS4, ⟨_, own_keep HO3.out k4 H.out.ne, q1⟩, ⟨_, HO5.out, q2⟩, ins_up H.out.up HN.out.1, ins_once H.out.once HN.out.2, H.out.ne⟩, ?_⟩
  exact (((HKD.out.trans' HK1.out (fun _ _ h => h) (fun _ _ h => h)).trans' HK2.out (fun _ _ h => h) (fun _ _ h => h)).trans' HK3.out (fun _ _ h => h) (fun _ _ h => h)).trans' HK4.out (fun _ _ h => h) (fun _ _ h => h)
end Go.Proofs.YthoaaihghgabcaaGreat
