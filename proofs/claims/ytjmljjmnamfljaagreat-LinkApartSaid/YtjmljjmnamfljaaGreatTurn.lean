/- Links in memory: what a store into one of the maps, or a delete, comes to. -/
import Derived.Test.YtjmljjmnamfljaaGreatSmall
namespace Go.Proofs.YtjmljjmnamfljaaGreat
set_option maxRecDepth 100000
open Go.RowKit Go.Maps

theorem turned_keeps {w w' : World} {m : Nat} (h : w.mapTurned w' m) : Keeps (fun k => k = m) w w' := (Keeps.refl (fun k => k = m) w).grown h.grown (fun k e _ => by injection e with e; exact e.symm)
/-- One inner row turned. -/
def atL (a : Int) (l : List Int) (L : LK) : LK := fun x => if x = a then l else L x
theorem linkL_two {L : LK} {a b : Int} (hab : a ≠ b) : atL b (insI a (atL a (insI b (L a)) L b)) (atL a (insI b (L a)) L) = linkL a b L := by
  funext x
  unfold atL linkL
  by_cases e1 : x = a
  · subst e1; simp [hab]
  · by_cases e2 : x = b
    · subst e2; simp [e1]
    · simp [e1, e2]
theorem unlinkL_two {L : LK} {a b : Int} (hab : a ≠ b) : atL b (delI a (atL a (delI b (L a)) L b)) (atL a (delI b (L a)) L) = unlinkL a b L := by
  funext x
  unfold atL unlinkL
  by_cases e1 : x = a
  · subst e1; simp [hab]
  · by_cases e2 : x = b
    · subst e2; simp [e1]
    · simp [e1, e2]
section
variable {w w' : World} {B b m1 m2 N n m : Nat} {T : List (Int × Nat)} {L : LK} {M : List Mon}
theorem Raw.ne_blk (h : Raw w B b m1 m2 N T L M) (hm : ∃ es cl, w.heap[m]? = some (.map es cl)) : b ≠ m := fun e => by
  subst e
  obtain ⟨es, cl, he⟩ := hm
  have := h.blk; unfold Blk at this; rw [this] at he; cases he
theorem inn_ne (hb : (T.map (·.2)).Nodup) {x y : Int × Nat} (hx : x ∈ T) (hy : y ∈ T) (e : x.2 = y.2) : x = y := by
  induction T with
  | nil => cases hx
  | cons z T ih =>
    rw [List.map_cons] at hb
    obtain ⟨h1, h2⟩ := List.nodup_cons.1 hb
    rcases List.mem_cons.1 hx with e1 | hx'
    · rcases List.mem_cons.1 hy with e2 | hy'
      · rw [e1, e2]
      · exact absurd (List.mem_map.2 ⟨y, hy', by rw [← e, e1]⟩) h1
    · rcases List.mem_cons.1 hy with e2 | hy'
      · exact absurd (List.mem_map.2 ⟨x, hx', by rw [e, e2]⟩) h1
      · exact ih h2 hx' hy'
theorem key_ne (hb : (T.map (·.1)).Nodup) {x y : Int × Nat} (hx : x ∈ T) (hy : y ∈ T) (e : x.1 = y.1) : x = y := by
  induction T with
  | nil => cases hx
  | cons z T ih =>
    rw [List.map_cons] at hb
    obtain ⟨h1, h2⟩ := List.nodup_cons.1 hb
    rcases List.mem_cons.1 hx with e1 | hx'
    · rcases List.mem_cons.1 hy with e2 | hy'
      · rw [e1, e2]
      · exact absurd (List.mem_map.2 ⟨y, hy', by rw [← e, e1]⟩) h1
    · rcases List.mem_cons.1 hy with e2 | hy'
      · exact absurd (List.mem_map.2 ⟨x, hx', by rw [e, e2]⟩) h1
      · exact ih h2 hx' hy'
/-- An inner map turned: what it reads as now. -/
theorem Raw.inner (h : Raw w B b m1 m2 N T L M) {a : Int} (hm : (a, m) ∈ T) (hn : N ≤ n) (ht : w.mapTurned w' m) {l : List Int} {D : DataW Unit} (ho : w'.ownsMap Tryz.prog 3 (plainElem Tryz.prog 3) m n D) (hD : LMap oneC id D l) : Raw w' B b m1 m2 n T (atL a l L) M := by
  have hk := turned_keeps ht
  obtain ⟨D1, o1, s1⟩ := h.out
  obtain ⟨D2, o2, s2⟩ := h.mon
  obtain ⟨n1, n2, _⟩ := h.sep _ hm
  have hmb : b ≠ m := h.ne_blk (by obtain ⟨D', o', _⟩ := h.inn _ hm; exact own_map o')
  refine ⟨h.blk.keep hk hmb, ⟨D1, (own_keep o1 hk (fun e => n1 e.symm)).mono hn, s1⟩, fun x hx => ?_, fun c hc => ?_, h.keys, h.blks, ⟨D2, (own_keep o2 hk (fun e => n2 e.symm)).mono hn, s2⟩, h.up, h.ok, h.ne, h.low, h.sep⟩
  · by_cases e : x = (a, m)
    · subst e
      exact ⟨D, ho, by unfold atL; rw [if_pos rfl]; exact hD⟩
    · obtain ⟨D', o', s'⟩ := h.inn x hx
      have e1 : x.1 ≠ a := fun e1 => e (key_ne h.keys hx hm e1)
      have e2 : x.2 ≠ m := fun e2 => e (inn_ne h.blks hx hm e2)
      exact ⟨D', (own_keep o' hk e2).mono hn, by unfold atL; rw [if_neg e1]; exact s'⟩
  · have e1 : c ≠ a := fun e => hc (e ▸ List.mem_map_of_mem (f := (·.1)) hm)
    unfold atL; rw [if_neg e1]; exact h.non c hc
theorem Raw.dropIn (h : Raw w B b m1 m2 N T L M) {a c : Int} (hm : (a, m) ∈ T) (hc : IntOk c) : ∃ w', (Builtin.delete_ #[49, 3] 0 #[.map (some m), .int .i64 c]).run Tryz.prog w = .ok (.tuple #[]) w' ∧ Raw w' B b m1 m2 N T (atL a (delI c (L a)) L) M ∧ w.mapTurned w' m := by
  obtain ⟨D, o, s⟩ := h.inn _ hm
  obtain ⟨w', hr, ho, ht⟩ := o.drop keyI Tryz.underlying49 (keyOf_p hc) 0
  exact ⟨w', hr, h.inner hm (Nat.le_refl _) ht ho (s.del c (fun y => by rw [mem_delI]; rfl)), ht⟩
theorem Raw.putIn (h : Raw w B b m1 m2 N T L M) {a c : Int} (hm : (a, m) ∈ T) (hc : IntOk c) (hno : c ∉ L a) (hN : N < maxLen) : ∃ w', (Instr.mapUpdate 49 (.map (some m)) (.int .i64 c) (.int .i64 1)).run Tryz.prog w = .ok () w' ∧ Raw w' B b m1 m2 (N + 1) T (atL a (insI c (L a)) L) M ∧ w.mapTurned w' m := by
  obtain ⟨D, o, s⟩ := h.inn _ hm
  obtain ⟨w', hr, ho, ht⟩ := o.store keyI Tryz.underlying49 hN (keyOf_p hc) (plainElem_int Tryz.underlying3 (a := 1) (by decide))
  exact ⟨w', hr, h.inner hm (by omega) ht ho (s.put o.isMap c (by simpa using hno) (fun y => mem_insI)), ht⟩
theorem Raw.putOut (h : Raw w B b m1 m2 N T L M) {a : Int} (ha : IntOk a) (hno : a ∉ T.map (·.1)) (hN : N < maxLen) {D0 : DataW Unit} (ho : w.ownsMap Tryz.prog 3 (plainElem Tryz.prog 3) m 0 D0) (hD0 : D0 = .map []) (hB : B ≤ m) (hm1 : m ≠ m1) (hm2 : m ≠ m2) (hmT : ∀ x ∈ T, x.2 ≠ m) :
    ∃ w', (Instr.mapUpdate 50 (.map (some m1)) (.int .i64 a) (.map (some m))).run Tryz.prog w = .ok () w' ∧ Raw w' B b m1 m2 (N + 1) ((a, m) :: T) L M ∧ w.mapTurned w' m1 := by
  obtain ⟨D1, o1, s1⟩ := h.out
  obtain ⟨D2, o2, s2⟩ := h.mon
  obtain ⟨w', hr, ho1, ht⟩ := o1.store (val := .map (some m)) (d := .lit (.int .i64 m)) (ps := []) keyI Tryz.underlying50 hN (keyOf_p ha) rfl
  have hk := turned_keeps ht
  have hmb : b ≠ m1 := h.ne_blk (own_map o1)
  refine ⟨w', hr, ⟨h.blk.keep hk hmb, ⟨_, ho1, s1.put o1.isMap (a, m) hno (fun y => List.mem_cons)⟩, fun x hx => ?_, fun c hc => h.non c (fun e => hc (List.mem_cons_of_mem _ e)), ?_, ?_, ⟨D2, (own_keep o2 hk (fun e => h.ne e.symm)).mono (by omega), s2⟩, h.up, h.ok, h.ne, h.low, fun x hx => ?_⟩, ht⟩
  · rcases List.mem_cons.1 hx with rfl | hx
    · subst hD0
      exact ⟨_, (own_keep ho hk hm1).mono (by omega), by rw [h.non a hno]; exact LMap.empty⟩
    · obtain ⟨D', o', s'⟩ := h.inn x hx
      exact ⟨D', (own_keep o' hk (h.sep x hx).1).mono (by omega), s'⟩
  · rw [List.map_cons]; exact List.nodup_cons.2 ⟨hno, h.keys⟩
  · rw [List.map_cons]
    refine List.nodup_cons.2 ⟨fun e => ?_, h.blks⟩
    obtain ⟨x, hx, e⟩ := List.mem_map.1 e
    exact hmT x hx e
  · rcases List.mem_cons.1 hx with rfl | hx
    · exact ⟨hm1, hm2, hB⟩
    · exact h.sep x hx
theorem Raw.monitors (h : Raw w B b m1 m2 N T L M) (hn : N ≤ n) (ht : w.mapTurned w' m2) {M' : List Mon} {D : DataW Unit} (ho : w'.ownsMap Tryz.prog 3 monR m2 n D) (hD : LMap monC (·.ref) D M') (hu : UpM M') (hok : ∀ x ∈ M', MonOk x) : Raw w' B b m1 m2 n T L M' := by
  have hk := turned_keeps ht
  obtain ⟨D1, o1, s1⟩ := h.out
  obtain ⟨D2, o2, s2⟩ := h.mon
  have hmb : b ≠ m2 := h.ne_blk (own_map o2)
  exact ⟨h.blk.keep hk hmb, ⟨D1, (own_keep o1 hk h.ne).mono hn, s1⟩, fun x hx => by
    obtain ⟨D', o', s'⟩ := h.inn x hx
    exact ⟨D', (own_keep o' hk (h.sep x hx).2.1).mono hn, s'⟩, h.non, h.keys, h.blks, ⟨D, ho, hD⟩, hu, hok, h.ne, h.low, h.sep⟩
theorem Raw.putM (h : Raw w B b m1 m2 N T L M) {x : Mon} (hx : MonOk x) (hno : x.ref ∉ refs M) (hN : N < maxLen) : ∃ w', (Instr.mapUpdate 51 (.map (some m2)) (.int .i64 x.ref) (monV x)).run Tryz.prog w = .ok () w' ∧ Raw w' B b m1 m2 (N + 1) T L (insM x M) ∧ w.mapTurned w' m2 := by
  obtain ⟨D, o, s⟩ := h.mon
  obtain ⟨w', hr, ho, ht⟩ := o.store keyI Tryz.underlying51 hN (keyOf_p hx.1) (monR_mk x)
  exact ⟨w', hr, h.monitors (by omega) ht ho (s.put o.isMap x hno (fun y => mem_insM)) (up_insM h.up hno) (fun y hy => (mem_insM.1 hy).elim (fun e => e ▸ hx) (h.ok y)), ht⟩
theorem Raw.dropM (h : Raw w B b m1 m2 N T L M) {r : Int} (hr : IntOk r) : ∃ w', (Builtin.delete_ #[51, 3] 0 #[.map (some m2), .int .i64 r]).run Tryz.prog w = .ok (.tuple #[]) w' ∧ Raw w' B b m1 m2 N T L (dropRef r M) ∧ w.mapTurned w' m2 := by
  obtain ⟨D, o, s⟩ := h.mon
  obtain ⟨w', hrun, ho, ht⟩ := o.drop keyI Tryz.underlying51 (keyOf_p hr) 0
  exact ⟨w', hrun, h.monitors (Nat.le_refl _) ht ho (s.del r (fun y => mem_dropRef)) (h.up.filter _) (fun y hy => h.ok y (mem_dropRef.1 hy).1), ht⟩
theorem Raw.fp_in (h : Raw w B b m1 m2 N T L M) {a : Int} (hm : (a, m) ∈ T) (ht : w.mapTurned w' m) : Keeps (FP w B) w w' := (turned_keeps ht).mono (fun k hk e => e ▸ h.fp3 hm)
theorem Raw.fp_out (h : Raw w B b m1 m2 N T L M) (ht : w.mapTurned w' m1) : Keeps (FP w B) w w' := (turned_keeps ht).mono (fun k hk e => e ▸ h.fp1)
theorem Raw.fp_mon (h : Raw w B b m1 m2 N T L M) (ht : w.mapTurned w' m2) : Keeps (FP w B) w w' := (turned_keeps ht).mono (fun k hk e => e ▸ h.fp2)
end
/-- What may be turned behind the first step could be turned ahead of it. -/
theorem FP.back {w w' : World} {B : Nat} (hk : Keeps (FP w B) w w') {k : Nat} (hlt : k < w.heap.size) (h : FP w' B k) : FP w B k := by
  by_cases e : FP w B k
  · exact e
  · obtain ⟨hb, es, cl, he⟩ := h
    exact ⟨hb, es, cl, by rw [← hk.block k hlt e]; exact he⟩
theorem FP.trans {w w' w'' : World} {B : Nat} (h : Keeps (FP w B) w w') (k : Keeps (FP w' B) w' w'') : Keeps (FP w B) w w'' := h.trans' k (fun _ _ h => h) (fun j hj e => FP.back h hj e)
theorem FP.of (w : World) (B : Nat) {w' : World} (k : Keeps NoB w w') : Keeps (FP w B) w w' := k.mono (fun _ _ h => h.elim)
end Go.Proofs.YtjmljjmnamfljaaGreat
