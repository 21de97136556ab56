/- ClockOnce's plain law: what is written down of twelve processes, beside the clock. -/
import Derived.Test.YtaiphjgklfioeaaPartsLaw
namespace Go.Proofs.Ytaiphjgklfioeaa
open Go.RowKit

def dueAt (D : List Int) (p : Nat) : Int := D.getD p 0
theorem dueAt_get {D : List Int} {p : Nat} (h : p < D.length) : D[p]? = some (dueAt D p) := by
  unfold dueAt; rw [List.getD_eq_getElem?_getD, List.getElem?_eq_getElem h]; rfl
theorem dueAt_set {D : List Int} {p q : Nat} {v : Int} (h : p < D.length) : dueAt (D.set p v) q = if q = p then v else dueAt D q := by
  unfold dueAt
  simp only [List.getD_eq_getElem?_getD]
  by_cases e : q = p
  · subst e; rw [List.getElem?_set_self h]; simp
  · rw [List.getElem?_set_ne (Ne.symm e), if_neg e]

structure OnceRel (D : List Int) (s : St) : Prop where
  len : D.length = 12
  mem : ∀ x ∈ s.L, 0 ≤ x.2 ∧ x.2 < 12 ∧ dueAt D x.2.toNat = x.1
  out : ∀ p : Nat, p < 12 → dueAt D p = -1 ∨ (dueAt D p, (p : Int)) ∈ s.L

theorem OnceRel.start : OnceRel (List.replicate 12 (-1)) ⟨0, []⟩ :=
  ⟨by simp, fun _ h => by simp at h, fun p hp => by
    left; unfold dueAt; rw [List.getD_eq_getElem?_getD, List.getElem?_replicate, if_pos hp]; rfl⟩
theorem OnceRel.waits {D : List Int} {s : St} (h : OnceRel D s) (hg : s.Good) {p : Nat} (hp : p < 12) : (p : Int) ∈ pidsOf s.L ↔ 0 ≤ dueAt D p := by
  constructor
  · intro hm
    obtain ⟨x, hx, e⟩ := List.mem_map.1 hm
    have h1 := (h.mem x hx).2.2
    rw [e, Int.toNat_natCast] at h1
    rw [h1]; exact (hg.times x hx).1
  · intro h0
    rcases h.out p hp with h1 | h1
    · omega
    · exact List.mem_map.2 ⟨_, h1, rfl⟩
theorem OnceRel.setOk {D : List Int} {s : St} (h : OnceRel D s) (hg : s.Good) {p : Nat} (hp : p < 12) {n : Int} (h0 : 0 ≤ n) (hn : n < 64) : s.setOk p n = decide (dueAt D p < 0) := by
  have := h.waits hg hp
  unfold St.setOk lastT
  rw [decide_eq_decide, this]; omega
theorem OnceRel.dropOk {D : List Int} {s : St} (h : OnceRel D s) (hg : s.Good) {p : Nat} (hp : p < 12) : s.dropOk p = decide (0 ≤ dueAt D p) := by
  unfold St.dropOk; rw [decide_eq_decide, h.waits hg hp]
theorem OnceRel.set {D : List Int} {s : St} (h : OnceRel D s) (hg : s.Good) {p : Nat} (hp : p < 12) {n : Int} (h0 : 0 ≤ n) (hn : n < 64) (hd : dueAt D p < 0) : OnceRel (D.set p (s.now + n)) (s.set p n) := by
  have hok : s.setOk p n = true := by rw [h.setOk hg hp h0 hn]; simp [hd]
  have e : s.set p n = ⟨s.now, ins (s.now + n, (p : Int)) s.L⟩ := by unfold St.set; rw [if_pos hok]
  have hnm : (p : Int) ∉ pidsOf s.L := fun hm => by have := (h.waits hg hp).1 hm; omega
  have hpl : p < D.length := by rw [h.len]; exact hp
  rw [e]
  refine ⟨by simp [h.len], fun x hx => ?_, fun q hq => ?_⟩
  · rcases mem_ins.1 hx with rfl | hx
    · refine ⟨by simp, by simp only; omega, ?_⟩
      rw [dueAt_set hpl]; simp
    · obtain ⟨h1, h2, h3⟩ := h.mem x hx
      refine ⟨h1, h2, ?_⟩
      rw [dueAt_set hpl, if_neg, h3]
      intro e
      exact hnm (List.mem_map.2 ⟨x, hx, by omega⟩)
  · rw [dueAt_set hpl]
    by_cases e : q = p
    · subst e
      right; rw [if_pos rfl]; exact mem_ins.2 (.inl rfl)
    · rw [if_neg e]
      exact (h.out q hq).imp id (fun h => mem_ins.2 (.inr h))
theorem OnceRel.set_no {D : List Int} {s : St} (h : OnceRel D s) (hg : s.Good) {p : Nat} (hp : p < 12) {n : Int} (h0 : 0 ≤ n) (hn : n < 64) (hd : ¬ dueAt D p < 0) : s.set p n = s := by
  have hok : s.setOk p n = false := by rw [h.setOk hg hp h0 hn]; simpa using hd
  unfold St.set; simp [hok]

theorem mem_drop_pid {L : List Wt} {pid : Int} (hn : (pidsOf L).Nodup) {x : Wt} : x ∈ dropPid pid L ↔ x ∈ L ∧ x.2 ≠ pid := by
  induction L with
  | nil => simp [dropPid]
  | cons y L ih =>
    unfold pidsOf at hn ih
    rw [List.map_cons, List.nodup_cons] at hn
    have ih := ih hn.2
    unfold dropPid findPid
    by_cases e : y.2 = pid
    · rw [if_pos e, List.eraseIdx_cons_zero]
      constructor
      · intro hx
        refine ⟨List.mem_cons_of_mem _ hx, fun e2 => hn.1 (List.mem_map.2 ⟨x, hx, by rw [e2, e]⟩)⟩
      · rintro ⟨hx, hne⟩
        rcases List.mem_cons.1 hx with rfl | hx
        · exact absurd e hne
        · exact hx
    · rw [if_neg e, List.eraseIdx_cons_succ]
      unfold dropPid at ih
      rw [List.mem_cons, ih, List.mem_cons]
      constructor
      · rintro (rfl | ⟨h1, h2⟩)
        · exact ⟨.inl rfl, e⟩
        · exact ⟨.inr h1, h2⟩
      · rintro ⟨rfl | h1, h2⟩
        · exact .inl rfl
        · exact .inr ⟨h1, h2⟩

theorem OnceRel.drop {D : List Int} {s : St} (h : OnceRel D s) (hg : s.Good) {p : Nat} (hp : p < 12) : OnceRel (D.set p (-1)) (s.drop p) := by
  have hpl : p < D.length := by rw [h.len]; exact hp
  refine ⟨by simp [h.len], fun x hx => ?_, fun q hq => ?_⟩
  · obtain ⟨hx, hne⟩ := (mem_drop_pid hg.once).1 hx
    obtain ⟨h1, h2, h3⟩ := h.mem x hx
    refine ⟨h1, h2, ?_⟩
    rw [dueAt_set hpl, if_neg (by omega), h3]
  · rw [dueAt_set hpl]
    by_cases e : q = p
    · left; rw [if_pos e]
    · rw [if_neg e]
      exact (h.out q hq).imp id (fun h => (mem_drop_pid hg.once).2 ⟨h, by simp only; omega⟩)

theorem mem_due {t : Int} : ∀ {L : List Wt}, Rising L → ∀ {x : Wt}, x ∈ due t L ↔ x ∈ L ∧ x.1 ≤ t
  | [], _, x => by simp [due]
  | y :: L, h, x => by
    unfold Rising at h
    rw [List.pairwise_cons] at h
    have ih := mem_due (t := t) h.2 (x := x)
    unfold due at ih ⊢
    by_cases e : y.1 ≤ t
    · rw [List.takeWhile_cons, if_pos (decide_eq_true e), List.mem_cons, ih, List.mem_cons]
      constructor
      · rintro (rfl | ⟨h1, h2⟩)
        · exact ⟨.inl rfl, e⟩
        · exact ⟨.inr h1, h2⟩
      · rintro ⟨rfl | h1, h2⟩
        · exact .inl rfl
        · exact .inr ⟨h1, h2⟩
    · rw [List.takeWhile_cons, if_neg (by simpa using e)]
      constructor
      · intro hx; cases hx
      · rintro ⟨hx, hxt⟩
        rcases List.mem_cons.1 hx with rfl | hx
        · exact absurd hxt e
        · have := h.1 x hx; unfold wlt at this; omega
theorem nodup_of_map {α β : Type} {f : α → β} {L : List α} (h : (L.map f).Nodup) : L.Nodup := by
  unfold List.Nodup at h ⊢
  rw [List.pairwise_map] at h
  exact h.imp (fun hne e => hne (by rw [e]))
theorem mem_left {t : Int} {L : List Wt} (hr : Rising L) (hn : (pidsOf L).Nodup) {x : Wt} : x ∈ left t L ↔ x ∈ L ∧ ¬ x.1 ≤ t := by
  have hd := mem_due (t := t) hr (x := x)
  have he := due_left t L
  have hnd : (due t L ++ left t L).Nodup := by rw [he]; exact nodup_of_map hn
  have h1 : x ∈ L ↔ x ∈ due t L ∨ x ∈ left t L := by rw [← List.mem_append, he]
  have h2 : x ∈ due t L → x ∉ left t L := fun ha hb => (List.nodup_append.1 hnd).2.2 x ha x hb rfl
  constructor
  · intro hx
    refine ⟨h1.2 (.inr hx), fun e => h2 (hd.2 ⟨h1.2 (.inr hx), e⟩) hx⟩
  · rintro ⟨hx, hne⟩
    rcases h1.1 hx with h3 | h3
    · exact absurd (hd.1 h3).2 hne
    · exact h3

/-- How many of the first k are due. -/
def cnt (D : List Int) (t : Int) (k : Nat) : Nat := ((List.range k).filter (fun i => decide (0 ≤ dueAt D i ∧ dueAt D i ≤ t))).length
theorem cnt_succ (D : List Int) (t : Int) (k : Nat) : cnt D t (k + 1) = if 0 ≤ dueAt D k ∧ dueAt D k ≤ t then cnt D t k + 1 else cnt D t k := by
  unfold cnt
  rw [List.range_succ, List.filter_append, List.length_append]
  by_cases h : 0 ≤ dueAt D k ∧ dueAt D k ≤ t
  · rw [if_pos h]; simp [h]
  · rw [if_neg h]; simp [h]
theorem cnt_le (D : List Int) (t : Int) (k : Nat) : cnt D t k ≤ k := by
  unfold cnt; exact Nat.le_trans (List.length_filter_le _ _) (by simp)

section
variable {D : List Int} {s : St} {t : Int}
theorem OnceRel.told_at (h : OnceRel D s) (hg : s.Good) {k : Nat} {q : Int} (hq : (pidsOf (due t s.L))[k]? = some q) : ∃ p : Nat, q = p ∧ p < 12 ∧ 0 ≤ dueAt D p ∧ dueAt D p ≤ t ∧ (due t s.L)[k]? = some (dueAt D p, q) := by
  rw [List.getElem?_map] at hq
  cases hx : (due t s.L)[k]? with
  | none => rw [hx] at hq; cases hq
  | some x =>
    rw [hx] at hq
    simp only [Option.map_some, Option.some.injEq] at hq
    obtain ⟨hm, ht⟩ := (mem_due hg.up).1 (List.mem_of_getElem? hx)
    obtain ⟨h1, h2, h3⟩ := h.mem x hm
    refine ⟨q.toNat, by omega, by omega, ?_, ?_, ?_⟩
    · rw [← hq, h3]; exact (hg.times x hm).1
    · rw [← hq, h3]; exact ht
    · rw [← hq, h3]
theorem OnceRel.told_up (h : OnceRel D s) (hg : s.Good) {k p q : Nat} (hp : (pidsOf (due t s.L))[k]? = some (p : Int)) (hq : (pidsOf (due t s.L))[k + 1]? = some (q : Int)) : dueAt D p < dueAt D q ∨ dueAt D p = dueAt D q ∧ p < q := by
  obtain ⟨p', e1, _, _, _, h1⟩ := h.told_at hg hp
  obtain ⟨q', e2, _, _, _, h2⟩ := h.told_at hg hq
  obtain rfl : p = p' := by omega
  obtain rfl : q = q' := by omega
  have hr : Rising (due t s.L) := List.Pairwise.sublist (List.takeWhile_sublist _) hg.up
  obtain ⟨l1, g1⟩ := List.getElem?_eq_some_iff.1 h1
  obtain ⟨l2, g2⟩ := List.getElem?_eq_some_iff.1 h2
  have := List.pairwise_iff_getElem.1 hr k (k + 1) l1 l2 (by omega)
  rw [g1, g2] at this
  unfold wlt at this
  simp only at this
  omega
theorem OnceRel.count (h : OnceRel D s) (hg : s.Good) : cnt D t 12 = (pidsOf (due t s.L)).length := by
  have hnd : (pidsOf (due t s.L)).Nodup := List.Nodup.sublist (List.Sublist.map _ (List.takeWhile_sublist _)) hg.once
  have h0 : ((List.range 12).filter (fun i => decide (0 ≤ dueAt D i ∧ dueAt D i ≤ t))).map (fun i : Nat => (i : Int)) = ((List.range 12).filter (fun i => decide (0 ≤ dueAt D i ∧ dueAt D i ≤ t))).map (fun i : Nat => (i : Int)) := rfl
  have hnd2 : (((List.range 12).filter (fun i => decide (0 ≤ dueAt D i ∧ dueAt D i ≤ t))).map (fun i : Nat => (i : Int))).Nodup := by
    have h1 : (List.range 12).Nodup := List.nodup_range
    have h2 : ((List.range 12).filter (fun i => decide (0 ≤ dueAt D i ∧ dueAt D i ≤ t))).Nodup := h1.filter _
    unfold List.Nodup at h2 ⊢
    rw [List.pairwise_map]
    exact h2.imp (fun hne e => hne (by omega))
  have hp : ((List.range 12).filter (fun i => decide (0 ≤ dueAt D i ∧ dueAt D i ≤ t))).map (fun i : Nat => (i : Int)) |>.Perm (pidsOf (due t s.L)) := by
    rw [List.perm_ext_iff_of_nodup hnd2 hnd]
    intro q
    constructor
    · intro hq
      obtain ⟨p, hp, e⟩ := List.mem_map.1 hq
      rw [List.mem_filter, List.mem_range, decide_eq_true_eq] at hp
      rcases h.out p hp.1 with h1 | h1
      · omega
      · exact List.mem_map.2 ⟨_, (mem_due hg.up).2 ⟨h1, hp.2.2⟩, e⟩
    · intro hq
      obtain ⟨k, hk, e⟩ := List.getElem_of_mem hq
      obtain ⟨p, e2, hp, h1, h2, _⟩ := h.told_at hg (t := t) (k := k) (q := q) (by rw [List.getElem?_eq_getElem hk, e])
      exact List.mem_map.2 ⟨p, by rw [List.mem_filter, List.mem_range, decide_eq_true_eq]; exact ⟨hp, h1, h2⟩, e2.symm⟩
  have := hp.length_eq
  rw [List.length_map] at this
  exact this

def resets (D : List Int) (ts : List Int) : List Int := ts.foldl (fun D q => D.set q.toNat (-1)) D
theorem resets_snoc (D : List Int) (ts : List Int) (q : Int) : resets D (ts ++ [q]) = (resets D ts).set q.toNat (-1) := by simp [resets]
theorem resets_len (D : List Int) : ∀ ts : List Int, (resets D ts).length = D.length := by
  intro ts
  induction ts generalizing D with
  | nil => rfl
  | cons q ts ih => show (resets (D.set q.toNat (-1)) ts).length = _; rw [ih, List.length_set]
theorem resets_at : ∀ (ts : List Int) (D : List Int), D.length = 12 → (∀ q ∈ ts, 0 ≤ q ∧ q < 12) → ∀ p : Nat, p < 12 → dueAt (resets D ts) p = if (p : Int) ∈ ts then -1 else dueAt D p
  | [], D, _, _, p, _ => by simp [resets]
  | q :: ts, D, hl, hq, p, hp => by
    have h0 := hq q List.mem_cons_self
    have ih := resets_at ts (D.set q.toNat (-1)) (by simpa using hl) (fun x hx => hq x (List.mem_cons_of_mem _ hx)) p hp
    show dueAt (resets (D.set q.toNat (-1)) ts) p = _
    rw [ih, dueAt_set (by omega)]
    by_cases h1 : (p : Int) ∈ ts
    · simp [h1]
    · by_cases h2 : (p : Int) = q
      · rw [if_neg h1, if_pos (by omega), if_pos (by simp [h2])]
      · rw [if_neg h1, if_neg (by omega), if_neg (by simp [h1, h2])]
theorem OnceRel.tick (h : OnceRel D s) (hg : s.Good) {n : Int} (hok : s.tickOk n = true) : OnceRel (resets D (s.told n)) (s.tick n) := by
  have e1 : s.told n = pidsOf (due (s.now + n) s.L) := by unfold St.told; rw [if_pos hok]
  have e2 : s.tick n = ⟨s.now + n, left (s.now + n) s.L⟩ := by unfold St.tick; rw [if_pos hok]
  rw [e1, e2]
  have hin : ∀ q ∈ pidsOf (due (s.now + n) s.L), 0 ≤ q ∧ q < 12 := fun q hq => by
    obtain ⟨x, hx, rfl⟩ := List.mem_map.1 hq
    have := h.mem x ((mem_due hg.up).1 hx).1
    exact ⟨this.1, this.2.1⟩
  refine ⟨by rw [resets_len, h.len], fun x hx => ?_, fun p hp => ?_⟩
  · obtain ⟨hx, hne⟩ := (mem_left hg.up hg.once).1 hx
    obtain ⟨h1, h2, h3⟩ := h.mem x hx
    refine ⟨h1, h2, ?_⟩
    rw [resets_at _ _ h.len hin _ (by omega), if_neg, h3]
    intro hm
    obtain ⟨y, hy, e⟩ := List.mem_map.1 hm
    obtain ⟨hy, hyt⟩ := (mem_due hg.up).1 hy
    have := (h.mem y hy).2.2
    have e3 : y.2.toNat = x.2.toNat := by omega
    rw [e3, h3] at this
    omega
  · rw [resets_at _ _ h.len hin _ hp]
    split
    · exact .inl rfl
    · rename_i hnm
      refine (h.out p hp).imp id (fun hm => (mem_left hg.up hg.once).2 ⟨hm, fun hle => hnm ?_⟩)
      exact List.mem_map.2 ⟨_, (mem_due hg.up).2 ⟨hm, hle⟩, rfl⟩
end
end Go.Proofs.Ytaiphjgklfioeaa
