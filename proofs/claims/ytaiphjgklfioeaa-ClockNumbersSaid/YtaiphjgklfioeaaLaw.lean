/- The clock's plain laws: who waits, by times and numbers. No program in sight. -/
import Derived.WalkKit
namespace Go.Proofs.Ytaiphjgklfioeaa

/-- One that waits: a time, a number. -/
abbrev Wt := Int × Int
def wlt (a b : Wt) : Prop := a.1 < b.1 ∨ (a.1 = b.1 ∧ a.2 < b.2)
instance (a b : Wt) : Decidable (wlt a b) := by unfold wlt; infer_instance

theorem wlt.trans {a b c : Wt} (h : wlt a b) (k : wlt b c) : wlt a c := by unfold wlt at *; omega
theorem wlt.irr {a : Wt} : ¬ wlt a a := by unfold wlt; omega
theorem wlt.tri (a b : Wt) : wlt a b ∨ a = b ∨ wlt b a := by
  unfold wlt
  rcases a with ⟨a1, a2⟩; rcases b with ⟨b1, b2⟩
  simp only [Prod.mk.injEq]; omega
theorem wlt.of_not {a b : Wt} (h : ¬ wlt a b) (hne : a.2 ≠ b.2) : wlt b a := by
  rcases wlt.tri a b with h1 | h1 | h1
  · exact absurd h1 h
  · subst h1; exact absurd rfl hne
  · exact h1

abbrev pidsOf (L : List Wt) : List Int := L.map (·.2)
def Rising (L : List Wt) : Prop := L.Pairwise wlt
def ins (x : Wt) : List Wt → List Wt
  | [] => [x]
  | y :: L => if wlt y x then y :: ins x L else x :: y :: L

theorem ins_split {x : Wt} : ∀ {L : List Wt} {i : Nat}, (∀ k (h : k < L.length), k < i → wlt L[k] x) → (∀ k (h : k < L.length), i ≤ k → ¬ wlt L[k] x) → ins x L = L.take i ++ x :: L.drop i
  | [], i, _, _ => by simp [ins]
  | y :: L, 0, _, h2 => by
    have := h2 0 (by simp) (by omega)
    simp only [List.getElem_cons_zero] at this
    simp [ins, this]
  | y :: L, i + 1, h1, h2 => by
    have h0 := h1 0 (by simp) (by omega)
    simp only [List.getElem_cons_zero] at h0
    have ih := ins_split (x := x) (L := L) (i := i) (fun k h hk => h1 (k + 1) (by simpa using h) (by omega)) (fun k h hk => h2 (k + 1) (by simpa using h) (by omega))
    simp [ins, h0, ih]

theorem mem_ins {x y : Wt} : ∀ {L : List Wt}, y ∈ ins x L ↔ y = x ∨ y ∈ L
  | [] => by simp [ins]
  | z :: L => by
    unfold ins
    split
    · rw [List.mem_cons, mem_ins]; simp only [List.mem_cons]; constructor
      · rintro (h | h | h) <;> simp [h]
      · rintro (h | h | h) <;> simp [h]
    · simp [List.mem_cons]

theorem perm_ins {x : Wt} : ∀ {L : List Wt}, (ins x L).Perm (x :: L)
  | [] => by simp [ins]
  | z :: L => by
    unfold ins
    split
    · exact (List.Perm.cons z perm_ins).trans (List.Perm.swap x z L)
    · exact List.Perm.refl _

theorem ins_len {x : Wt} {L : List Wt} : (ins x L).length = L.length + 1 := by simpa using (perm_ins (x := x) (L := L)).length_eq

theorem Rising.ins {x : Wt} : ∀ {L : List Wt}, Rising L → x.2 ∉ pidsOf L → Rising (ins x L)
  | [], _, _ => by simp [Rising, Ytaiphjgklfioeaa.ins]
  | z :: L, h, hx => by
    unfold Rising at h ⊢
    rw [List.pairwise_cons] at h
    unfold Ytaiphjgklfioeaa.ins
    simp only [pidsOf, List.map_cons, List.mem_cons, not_or] at hx
    split
    · rename_i hz
      rw [List.pairwise_cons]
      refine ⟨fun y hy => ?_, Rising.ins h.2 hx.2⟩
      rcases mem_ins.1 hy with rfl | hy
      · exact hz
      · exact h.1 y hy
    · rename_i hz
      have hxz : wlt x z := wlt.of_not hz (Ne.symm hx.1)
      rw [List.pairwise_cons]
      refine ⟨fun y hy => ?_, List.pairwise_cons.2 h⟩
      rcases List.mem_cons.1 hy with rfl | hy
      · exact hxz
      · exact hxz.trans (h.1 y hy)

/-- The place of a number among those that wait. -/
def findPid (pid : Int) : List Wt → Nat
  | [] => 0
  | y :: L => if y.2 = pid then 0 else findPid pid L + 1

theorem findPid_mem {pid : Int} : ∀ {L : List Wt}, pid ∈ pidsOf L ↔ findPid pid L < L.length
  | [] => by simp [findPid]
  | y :: L => by
    have := findPid_mem (pid := pid) (L := L)
    unfold findPid
    simp only [pidsOf, List.map_cons, List.mem_cons, List.length_cons] at *
    split
    · rename_i h; simp [h]
    · rename_i h; rw [this]; constructor
      · rintro (e | e)
        · exact absurd e.symm h
        · omega
      · intro e; right; omega
theorem findPid_le {pid : Int} : ∀ {L : List Wt}, findPid pid L ≤ L.length
  | [] => by simp [findPid]
  | y :: L => by
    have := findPid_le (pid := pid) (L := L)
    unfold findPid; split <;> simp; omega
theorem findPid_at {pid : Int} : ∀ {L : List Wt} (h : findPid pid L < L.length), (L[findPid pid L]'h).2 = pid
  | [], h => by simp [findPid] at h
  | y :: L, h => by
    by_cases e : y.2 = pid
    · simp [findPid, e]
    · have h1 : findPid pid (y :: L) = findPid pid L + 1 := by simp [findPid, e]
      have h2 : findPid pid L < L.length := by rw [h1] at h; simpa using h
      simp only [h1, List.getElem_cons_succ]
      exact findPid_at h2
theorem findPid_eq {pid : Int} : ∀ {L : List Wt} {i : Nat} (h : i < L.length), (L[i]).2 = pid → (∀ k (hk : k < L.length), k < i → (L[k]).2 ≠ pid) → findPid pid L = i
  | [], i, h, _, _ => by simp at h
  | y :: L, 0, _, h1, _ => by
    simp only [List.getElem_cons_zero] at h1
    simp [findPid, h1]
  | y :: L, i + 1, h, h1, h2 => by
    have h0 := h2 0 (by simp) (by omega)
    simp only [List.getElem_cons_zero] at h0
    have ih := findPid_eq (pid := pid) (L := L) (i := i) (by simpa using h) (by simpa using h1) (fun k hk hki => h2 (k + 1) (by simpa using hk) (by omega))
    simp [findPid, h0, ih]
theorem findPid_none {pid : Int} {L : List Wt} (h : ∀ k (hk : k < L.length), (L[k]).2 ≠ pid) : pid ∉ pidsOf L := by
  intro hm
  obtain ⟨y, hy, e⟩ := List.mem_map.1 hm
  obtain ⟨k, hk, e2⟩ := List.getElem_of_mem hy
  exact h k hk (by rw [e2]; exact e)

def dropPid (pid : Int) (L : List Wt) : List Wt := L.eraseIdx (findPid pid L)
theorem dropPid_none {pid : Int} {L : List Wt} (h : pid ∉ pidsOf L) : dropPid pid L = L := by
  have h1 : ¬ findPid pid L < L.length := fun e => h (findPid_mem.2 e)
  exact List.eraseIdx_of_length_le (by omega)

theorem Rising.drop {L : List Wt} (h : Rising L) (pid : Int) : Rising (dropPid pid L) := List.Pairwise.sublist (List.eraseIdx_sublist _ _) h
theorem nodup_drop {L : List Wt} (h : (pidsOf L).Nodup) (pid : Int) : (pidsOf (dropPid pid L)).Nodup :=
  List.Nodup.sublist (List.Sublist.map _ (List.eraseIdx_sublist _ _)) h

def due (now : Int) (L : List Wt) : List Wt := L.takeWhile (fun x => decide (x.1 ≤ now))
def left (now : Int) (L : List Wt) : List Wt := L.dropWhile (fun x => decide (x.1 ≤ now))
theorem due_left (now : Int) (L : List Wt) : due now L ++ left now L = L := List.takeWhile_append_dropWhile
theorem due_split {now : Int} : ∀ {L : List Wt} {k : Nat}, k ≤ L.length → (∀ i (h : i < L.length), i < k → (L[i]).1 ≤ now) → (∀ (h : k < L.length), ¬ (L[k]).1 ≤ now) → due now L = L.take k ∧ left now L = L.drop k
  | [], k, _, _, _ => by simp [due, left]
  | y :: L, 0, _, _, h2 => by
    have := h2 (by simp)
    simp only [List.getElem_cons_zero] at this
    simp [due, left, this]
  | y :: L, k + 1, hk, h1, h2 => by
    have h0 := h1 0 (by simp) (by omega)
    simp only [List.getElem_cons_zero] at h0
    have ih := due_split (now := now) (L := L) (k := k) (by simpa using hk) (fun i h hik => h1 (i + 1) (by simpa using h) (by omega)) (fun h => h2 (by simpa using h))
    unfold due left at ih ⊢
    simp [h0, ih.1, ih.2]
theorem Rising.left {L : List Wt} (h : Rising L) (now : Int) : Rising (left now L) := List.Pairwise.sublist (List.dropWhile_sublist _) h
theorem nodup_left {L : List Wt} (h : (pidsOf L).Nodup) (now : Int) : (pidsOf (left now L)).Nodup :=
  List.Nodup.sublist (List.Sublist.map _ (List.dropWhile_sublist _)) h
theorem left_len (now : Int) (L : List Wt) : (left now L).length ≤ L.length := (List.dropWhile_sublist _).length_le

abbrev lastT : Int := 1099511627776
/-- A clock's time, and who waits. -/
structure St where
  now : Int
  L : List Wt

def St.setOk (s : St) (pid after : Int) : Bool := decide (0 ≤ after ∧ after ≤ lastT ∧ pid ∉ pidsOf s.L)
def St.set (s : St) (pid after : Int) : St := if s.setOk pid after then ⟨s.now, Ytaiphjgklfioeaa.ins (s.now + after, pid) s.L⟩ else s
def St.dropOk (s : St) (pid : Int) : Bool := decide (pid ∈ pidsOf s.L)
def St.drop (s : St) (pid : Int) : St := ⟨s.now, dropPid pid s.L⟩
def St.tickOk (s : St) (n : Int) : Bool := decide (0 ≤ n ∧ n ≤ lastT - s.now)
def St.tick (s : St) (n : Int) : St := if s.tickOk n then ⟨s.now + n, Ytaiphjgklfioeaa.left (s.now + n) s.L⟩ else s
def St.told (s : St) (n : Int) : List Int := if s.tickOk n then pidsOf (Ytaiphjgklfioeaa.due (s.now + n) s.L) else []

structure St.Good (s : St) : Prop where
  lo : 0 ≤ s.now
  hi : s.now ≤ lastT
  up : Rising s.L
  once : (pidsOf s.L).Nodup
  times : ∀ x ∈ s.L, 0 ≤ x.1 ∧ x.1 ≤ lastT + lastT

theorem St.Good.new : St.Good ⟨0, []⟩ := ⟨by simp, by simp, List.Pairwise.nil, List.nodup_nil, fun _ h => by cases h⟩
theorem St.Good.set {s : St} (h : s.Good) (pid after : Int) : (s.set pid after).Good := by
  unfold St.set
  split
  · rename_i hok
    simp only [St.setOk, decide_eq_true_eq] at hok
    refine ⟨h.lo, h.hi, h.up.ins hok.2.2, ?_, fun x hx => ?_⟩
    · exact ((perm_ins (x := (s.now + after, pid)) (L := s.L)).map _).nodup_iff.2 (by simpa [pidsOf] using ⟨by simpa [pidsOf] using hok.2.2, h.once⟩)
    · rcases mem_ins.1 hx with rfl | hx
      · have := h.lo; have := h.hi; simp only; omega
      · exact h.times x hx
  · exact h
theorem St.Good.drop {s : St} (h : s.Good) (pid : Int) : (s.drop pid).Good :=
  ⟨h.lo, h.hi, h.up.drop pid, nodup_drop h.once pid, fun x hx => h.times x (List.mem_of_mem_eraseIdx hx)⟩
theorem St.Good.tick {s : St} (h : s.Good) (n : Int) : (s.tick n).Good := by
  unfold St.tick
  split
  · rename_i hok
    simp only [St.tickOk, decide_eq_true_eq] at hok
    exact ⟨by have := h.lo; simp only; omega, by simp only; omega, h.up.left _, nodup_left h.once _, fun x hx => h.times x ((List.dropWhile_sublist _).mem hx)⟩
  · exact h
theorem St.set_len (s : St) (pid after : Int) : (s.set pid after).L.length ≤ s.L.length + 1 := by
  unfold St.set; split
  · simp [ins_len]
  · omega
theorem St.drop_len (s : St) (pid : Int) : (s.drop pid).L.length ≤ s.L.length := List.length_eraseIdx_le _ _
theorem St.tick_len (s : St) (n : Int) : (s.tick n).L.length ≤ s.L.length := by
  unfold St.tick; split
  · exact left_len _ _
  · omega
end Go.Proofs.Ytaiphjgklfioeaa
