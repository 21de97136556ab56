/- slices.Reverse of bytes; bytes made a string. -/
import Derived.Test.YtfehciiidmgopaaShort
import Derived.Laws.IdiomStrings
namespace Go.Proofs.Ytfehciiidmgopaa
open Go.RowKit

def u8s (l : List Nat) : List Value := l.map fun (x : Nat) => Value.int .u8 (x : Int)
theorem u8s_len (l : List Nat) : (u8s l).length = l.length := List.length_map _
theorem u8s_get {l : List Nat} {i : Nat} (h : i < l.length) : (u8s l)[i]? = some (.int .u8 ((l.getD i 0 : Nat) : Int)) := by
  unfold u8s; rw [List.getElem?_map, List.getD_eq_getElem?_getD, List.getElem?_eq_getElem h]; rfl
theorem u8s_ones (l : List Nat) : ∀ u ∈ u8s l, u.oneCell' = true := by
  intro u hu; obtain ⟨x, _, rfl⟩ := List.mem_map.1 hu; rfl
theorem u8s_set (l : List Nat) (i v : Nat) : (u8s l).set i (.int .u8 (v : Int)) = u8s (l.set i v) := by unfold u8s; rw [List.map_set]
theorem u8s_append (l m : List Nat) : u8s (l ++ m) = u8s l ++ u8s m := List.map_append
/-- The string of some bytes. -/
def strOf (l : List Nat) : ByteArray := ⟨(l.map UInt8.ofNat).toArray⟩

/-- Reversed from both ends up to i. -/
structure RevAt (w1 : World) (R o : Nat) (n c : Nat) (l : List Nat) (i : Nat) (wr : World) (m : List Nat) : Prop where
  keep : Keeps (fun k => k = R) w1 wr
  slab : Slab wr 5 1 (some ⟨R, o, none⟩) n c (u8s m)
  len : m.length = n
  out : ∀ j, j < n → (j < i ∨ n ≤ j + i) → m.getD j 0 = l.getD (n - 1 - j) 0
  mid : ∀ j, i ≤ j → j + i < n → m.getD j 0 = l.getD j 0
theorem RevAt.step {w1 wr w' : World} {R o n c i j : Nat} {l m : List Nat} (h : RevAt w1 R o n c l i wr m) (hj : j + i + 1 = n) (hij : i < j)
    (hs : Slab w' 5 1 (some ⟨R, o, none⟩) n c (u8s ((m.set i (m.getD j 0)).set j (m.getD i 0)))) (hk : Keeps (fun k => k = R) w1 w') : RevAt w1 R o n c l (i + 1) w' ((m.set i (m.getD j 0)).set j (m.getD i 0)) := by
  have hl := h.len
  refine ⟨hk, hs, by simp [hl], fun k hk hh => ?_, fun k h1 h2 => ?_⟩
  · by_cases e : k = j
    · subst e
      rw [getD_set _ _ (by rw [List.length_set]; omega), h.mid i (by omega) (by omega)]; congr 1; omega
    · rw [getD_set_ne _ _ (by omega)]
      by_cases e2 : k = i
      · subst e2
        rw [getD_set _ _ (by omega), h.mid j (by omega) (by omega)]; congr 1; omega
      · rw [getD_set_ne _ _ (by omega)]; exact h.out k hk (by omega)
  · rw [getD_set_ne _ _ (by omega), getD_set_ne _ _ (by omega)]; exact h.mid k (by omega) (by omega)
theorem RevAt.done {w1 wr : World} {R o n c i : Nat} {l m : List Nat} (h : RevAt w1 R o n c l i wr m) (hi : n ≤ 2 * i + 1) (hl : l.length = n) : m = l.reverse := by
  refine List.ext_getElem? fun j => ?_
  by_cases hj : j < n
  · have e : m.getD j 0 = l.getD (n - 1 - j) 0 := by
      rcases (by omega : (j < i ∨ n ≤ j + i) ∨ (i ≤ j ∧ j + i < n)) with h1 | ⟨h1, h2⟩
      · exact h.out j hj h1
      · rw [h.mid j h1 h2]; congr 1; omega
    have hm := h.len
    rw [List.getElem?_reverse (by omega), hl]
    rw [List.getD_eq_getElem?_getD, List.getD_eq_getElem?_getD, List.getElem?_eq_getElem (by omega), List.getElem?_eq_getElem (by omega)] at e
    rw [List.getElem?_eq_getElem (by omega), List.getElem?_eq_getElem (by omega)]
    exact congrArg some e
  · have hm := h.len
    rw [List.getElem?_eq_none (by omega), List.getElem?_eq_none (by rw [List.length_reverse]; omega)]

theorem slab_cell {w : World} {e : TypeId} {n c g o j : Nat} {xs : List Value} {u : Value} (h : Slab w e 1 (some ⟨g, o, none⟩) n c xs) (hu : xs[j]? = some u) : w.cell? ⟨g, o + j, none⟩ = some u ∧ w.frozen? ⟨g, o + j, none⟩ = false := by
  have hj : j < xs.length := (List.getElem?_eq_some_iff.1 hu).1
  obtain ⟨hl, hn, hm, ⟨h0, hc⟩ | ⟨g', o', cur, h0, hb, hs, hw⟩⟩ := h
  · cases h0
  · injection h0 with h0; injection h0 with h0 h1; subst h0 h1
    refine ⟨?_, hb.free _⟩
    rw [hb.cell, window_get hw (by omega)]; exact hu

set_option maxRecDepth 100000 in
theorem reverse_any (R o n c : Nat) (l : List Nat) (w : World) (h : Slab w 5 1 (some ⟨R, o, none⟩) n c (u8s l)) :
    Calls Try.prog 46 #[.slice (some ⟨R, o, none⟩) n c] w fun e w' => e = .returned (.tuple #[]) ∧ Slab w' 5 1 (some ⟨R, o, none⟩) n c (u8s l.reverse) ∧ Keeps (fun k => k = R) w w' := by
  have hl : l.length = n := by have := h.1; rw [u8s_len] at this; omega
  have hmx : n ≤ 9223372036854775807 := by have := Nat.le_trans h.2.1 h.2.2.1; unfold maxLen at this; omega
  have H0 := hide (⟨Keeps.refl _ _, h, hl, fun j h1 h2 => by omega, fun j _ _ => rfl⟩ : RevAt w R o n c l 0 w l)
  clear h
  go_enter Try.func46, Try.ntmps46
  go_wp2
  go_loopw [2, 3] (fun iv jv wr => ∃ (i : Nat) (m : List Nat), iv = .int .i64 (i : Int) ∧ jv = .int .i64 ((n : Int) - 1 - (i : Int)) ∧ 2 * i ≤ n + 1 ∧ Hid (RevAt w R o n c l i wr m)) (fun iv jv _ => (intOf jv - intOf iv + 2).toNat)
  case atStart => exact ⟨0, l, rfl, by simp, by omega, H0⟩
  case round =>
    obtain ⟨i, m, rfl, rfl, hi, HM⟩ := hrel
    have hm := HM.out.len
    by_cases hlt : 2 * i + 1 < n
    · obtain ⟨j, hj⟩ : ∃ j, j + i + 1 = n := ⟨n - 1 - i, by omega⟩
      have hj1 : (n : Int) - 1 - (i : Int) = (j : Int) := by omega
      have hij : (i : Int) < (j : Int) := by omega
      have hjn : (j : Int) < (n : Int) := by omega
      have hi0 : (0 : Int) ≤ (i : Int) := by omega
      have hin : (i : Int) < (n : Int) := by omega
      have hj0 : (0 : Int) ≤ (j : Int) := by omega
      have hjn' : j < n := by omega
      have hin' : i < n := by omega
      rw [hj1]
      obtain ⟨ci, fi⟩ := slab_cell HM.out.slab (j := i) (u8s_get (by omega))
      obtain ⟨cj, fj⟩ := slab_cell HM.out.slab (j := j) (u8s_get (by omega))
      have HST := hide (fun w' hs hk => HM.out.step (w' := w') hj (by omega) hs hk)
      have HSL := hide HM.out.slab; have HK := hide HM.out.keep
      obtain ⟨a, ha⟩ : ∃ a, m.getD i 0 = a := ⟨_, rfl⟩
      obtain ⟨b, hb⟩ : ∃ b, m.getD j 0 = b := ⟨_, rfl⟩
      rw [ha, hb] at HST
      rw [ha] at ci
      rw [hb] at cj
      have HJ := hide hj
      clear ha hb HM hj1 hj
      go_wp2
      refine order_begin (fun W => Keeps NoB wr.drew W) (fun k => k != 13 && k != 15) (by kernel_rfl) 16 rfl ?_
      have HSL1 := hide HSL.out.drew
      have HK1 := hide HK.out.drew
      have ci1 : wr.drew.cell? ⟨R, o + i, none⟩ = some (.int .u8 (a : Int)) := ci
      have cj1 : wr.drew.cell? ⟨R, o + j, none⟩ = some (.int .u8 (b : Int)) := cj
      have fi1 : wr.drew.frozen? ⟨R, o + i, none⟩ = false := fi
      have fj1 : wr.drew.frozen? ⟨R, o + j, none⟩ = false := fj
      clear ci cj fi fj HSL HK
      generalize wr.drew = W0 at *
      have HS : Keeps NoB W0 W0 := Keeps.refl _ _
      refine order_pure (i := 0) rfl (by kernel_rfl) (fun _ _ _ h => h) (.inl ⟨rfl, fun _ => by go_simp; rfl⟩) ?_
      try simp only [Act.put, List.setIfInBounds_toArray, List.set_cons_succ, List.set_cons_zero]
      refine order_pure (i := 1) rfl (by kernel_rfl) (fun _ _ _ h => h) (.inl ⟨rfl, fun _ => by go_simp; rfl⟩) ?_
      try simp only [Act.put, List.setIfInBounds_toArray, List.set_cons_succ, List.set_cons_zero]
      refine order_pure (i := 2) rfl (by kernel_rfl) (fun _ _ _ h => h) (.inl ⟨rfl, fun _ => by go_simp; rfl⟩) ?_
      try simp only [Act.put, List.setIfInBounds_toArray, List.set_cons_succ, List.set_cons_zero]
      refine order_pure (i := 3) rfl (by kernel_rfl) (fun _ _ _ h => h) (.inl ⟨rfl, fun _ => by go_simp; rfl⟩) ?_
      try simp only [Act.put, List.setIfInBounds_toArray, List.set_cons_succ, List.set_cons_zero]
      refine order_pure (i := 4) rfl (by kernel_rfl) (fun _ _ _ h => h) (.inl ⟨rfl, fun _ => by go_simp; rfl⟩) ?_
      try simp only [Act.put, List.setIfInBounds_toArray, List.set_cons_succ, List.set_cons_zero]
      refine order_pure (i := 5) rfl (by kernel_rfl) (fun _ _ _ h => h) (.inl ⟨rfl, fun _ => by go_simp; rfl⟩) ?_
      try simp only [Act.put, List.setIfInBounds_toArray, List.set_cons_succ, List.set_cons_zero]
      refine order_pure (i := 8) rfl (by kernel_rfl) (fun _ _ _ h => h) (.inl ⟨rfl, fun _ => by go_simp; rfl⟩) ?_
      try simp only [Act.put, List.setIfInBounds_toArray, List.set_cons_succ, List.set_cons_zero]
      refine order_pure (i := 9) rfl (by kernel_rfl) (fun _ _ _ h => h) (.inl ⟨rfl, fun _ => by go_simp; rfl⟩) ?_
      try simp only [Act.put, List.setIfInBounds_toArray, List.set_cons_succ, List.set_cons_zero]
      refine order_pure (i := 6) rfl (by kernel_rfl) (fun _ _ _ h => h) (.inl ⟨rfl, fun _ => by go_simp; rfl⟩) ?_
      try simp only [Act.put, List.setIfInBounds_toArray, List.set_cons_succ, List.set_cons_zero]
      refine order_pure (i := 10) rfl (by kernel_rfl) (fun _ _ _ h => h) (.inl ⟨rfl, fun _ => by go_simp; rfl⟩) ?_
      try simp only [Act.put, List.setIfInBounds_toArray, List.set_cons_succ, List.set_cons_zero]
      refine order_held (i := 7) rfl (by kernel_rfl) (fun _ _ _ h => h) (.inl ⟨rfl, fun W hW => by
        have q0 : W.cell? ⟨R, o + j, none⟩ = some (.int .u8 (b : Int)) := hW.cell id cj1
        go_simp; rfl⟩) HS ?_
      try simp only [Act.put, List.setIfInBounds_toArray, List.set_cons_succ, List.set_cons_zero]
      refine order_held (i := 11) rfl (by kernel_rfl) (fun _ _ _ h => h) (.inl ⟨rfl, fun W hW => by
        have q0 : W.cell? ⟨R, o + i, none⟩ = some (.int .u8 (a : Int)) := hW.cell id ci1
        go_simp; rfl⟩) HS ?_
      try simp only [Act.put, List.setIfInBounds_toArray, List.set_cons_succ, List.set_cons_zero]
      refine order_pure (i := 12) rfl (by kernel_rfl) (fun _ _ _ h => h) (.inl ⟨rfl, fun _ => by go_simp; rfl⟩) ?_
      try simp only [Act.put, List.setIfInBounds_toArray, List.set_cons_succ, List.set_cons_zero]
      refine order_one (i := 13) rfl (by kernel_rfl) (fun K hK => ?_)
      go_simp
      refine hK _ _ (fun h => absurd h (by decide)) ?_
      clear hK
      try simp only [Act.put, List.setIfInBounds_toArray, List.set_cons_succ, List.set_cons_zero]
      refine order_pure (i := 14) rfl (by kernel_rfl) (fun _ _ _ h => h) (.inl ⟨rfl, fun _ => by go_simp; rfl⟩) ?_
      try simp only [Act.put, List.setIfInBounds_toArray, List.set_cons_succ, List.set_cons_zero]
      refine order_one (i := 15) rfl (by kernel_rfl) (fun K hK => ?_)
      go_simp
      refine hK _ _ (fun h => absurd h (by decide)) ?_
      clear hK
      try simp only [Act.put, List.setIfInBounds_toArray, List.set_cons_succ, List.set_cons_zero]
      refine order_done (by kernel_rfl) ?_
      have HSL2 := hide (show Slab ((W0.setCell ⟨R, o + i, none⟩ (.int .u8 (b : Int))).setCell ⟨R, o + j, none⟩ (.int .u8 (a : Int))) 5 1 (some ⟨R, o, none⟩) n c (u8s ((m.set i b).set j a)) from by
        rw [← u8s_set, ← u8s_set]
        exact (HSL1.out.put1 (j := i) (by omega) _).put1 (j := j) (by omega) _)
      have HK2 := hide ((HK1.out.setCell (p := ⟨R, o + i, none⟩) (.inl rfl) (.int .u8 (b : Int))).setCell (p := ⟨R, o + j, none⟩) (.inl rfl) (.int .u8 (a : Int)))
      clear HSL1 HK1 HS ci1 cj1 fi1 fj1
      generalize (W0.setCell ⟨R, o + i, none⟩ (.int .u8 (b : Int))).setCell ⟨R, o + j, none⟩ (.int .u8 (a : Int)) = W2 at *
      go_wp2
      go_roundw
      case rel => exact ⟨i + 1, (m.set i b).set j a, rfl, congrArg (Value.int .i64) (by have := HJ.out; omega), by have := HJ.out; omega, hide (HST.out _ HSL2.out HK2.out)⟩
      case measure => have := HJ.out; simp [intOf]; omega
    · have hij : ¬ (i : Int) < (n : Int) - 1 - (i : Int) := by omega
      have hb : decide ((i : Int) < (n : Int) - 1 - (i : Int)) = false := decide_eq_false hij
      have HD := hide (HM.out.done (by omega) hl)
      clear hij
      go_wp2
      go_end0
      exact ⟨rfl, HD.out ▸ HM.out.slab, HM.out.keep⟩
end Go.Proofs.Ytfehciiidmgopaa
