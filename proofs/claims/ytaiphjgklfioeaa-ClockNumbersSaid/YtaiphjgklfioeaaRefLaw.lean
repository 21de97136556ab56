/- The document's clock: those that wait in whatever order. Plain laws. -/
import Derived.Test.YtaiphjgklfioeaaLaw
namespace Go.Proofs.Ytaiphjgklfioeaa

/-- None of these comes ahead of it. -/
def Least (R : List Wt) (x : Wt) : Prop := ∀ y ∈ R, ¬ wlt y x
theorem least_head {R T : List Wt} {x : Wt} (hp : R.Perm T) (hr : Rising T) (hx : x ∈ R) (hl : Least R x) : ∃ T', T = x :: T' := by
  cases T with
  | nil => have := hp.mem_iff.1 hx; cases this
  | cons y T =>
    have hy : y ∈ R := hp.mem_iff.2 List.mem_cons_self
    have h1 := hl y hy
    rcases List.mem_cons.1 (hp.mem_iff.1 hx) with rfl | h
    · exact ⟨T, rfl⟩
    · unfold Rising at hr
      exact absurd ((List.pairwise_cons.1 hr).1 x h) h1
theorem perm_nodup {R T : List Wt} (hp : R.Perm T) (h : (pidsOf T).Nodup) : (pidsOf R).Nodup := (hp.map _).nodup_iff.2 h
theorem eraseIdx_perm : ∀ {R : List Wt} {i : Nat} (h : i < R.length), (R[i] :: R.eraseIdx i).Perm R
  | [], i, h => by simp at h
  | x :: R, 0, _ => by simp
  | x :: R, i + 1, h => by
    have ih := eraseIdx_perm (R := R) (i := i) (by simpa using h)
    simp only [List.getElem_cons_succ, List.eraseIdx_cons_succ]
    exact (List.Perm.swap x _ _).trans (List.Perm.cons x ih)
theorem perm_dropPid {R T : List Wt} {x : Wt} (hp : R.Perm (x :: T)) (hn : (pidsOf (x :: T)).Nodup) : (dropPid x.2 R).Perm T := by
  have hx : x ∈ R := hp.mem_iff.2 List.mem_cons_self
  have hm : x.2 ∈ pidsOf R := List.mem_map.2 ⟨x, hx, rfl⟩
  have hlt := findPid_mem.1 hm
  have hat := findPid_at hlt
  have he : R[findPid x.2 R] = x := by
    have hmem : R[findPid x.2 R] ∈ x :: T := hp.mem_iff.1 (List.getElem_mem hlt)
    rcases List.mem_cons.1 hmem with h | h
    · exact h
    · unfold pidsOf at hn
      rw [List.map_cons, List.nodup_cons] at hn
      exact absurd (List.mem_map.2 ⟨_, h, hat⟩) hn.1
  have h1 := eraseIdx_perm hlt
  rw [he] at h1
  exact (List.Perm.cons_inv (h1.trans hp))
theorem pids_perm {R T : List Wt} (hp : R.Perm T) (pid : Int) : pid ∈ pidsOf R ↔ pid ∈ pidsOf T := (hp.map _).mem_iff
/-- Whichever row it is in, one that waits no more leaves the same. -/
theorem perm_drops {R T : List Wt} (hp : R.Perm T) (hn : (pidsOf T).Nodup) (pid : Int) : (dropPid pid R).Perm (dropPid pid T) := by
  by_cases hm : pid ∈ pidsOf T
  · have hlt := findPid_mem.1 hm
    have h1 := eraseIdx_perm hlt
    have hat := findPid_at hlt
    have hq : R.Perm (T[findPid pid T] :: T.eraseIdx (findPid pid T)) := hp.trans h1.symm
    have hnn : (pidsOf (T[findPid pid T] :: T.eraseIdx (findPid pid T))).Nodup := perm_nodup h1 hn
    have := perm_dropPid hq hnn
    rw [hat] at this
    exact this
  · rw [dropPid_none hm, dropPid_none (fun h => hm ((pids_perm hp pid).1 h))]; exact hp
theorem drop_cons_perm {L : List Wt} {k : Nat} {x : Wt} {T : List Wt} (h : L.drop k = x :: T) : L[k]? = some x ∧ L.drop (k + 1) = T := by
  have h0 : (L.drop k)[0]? = some x := by rw [h]; rfl
  rw [List.getElem?_drop] at h0
  refine ⟨by simpa using h0, ?_⟩
  rw [← List.drop_drop, h]; rfl
theorem nodup_drop_list {L : List Wt} (h : (pidsOf L).Nodup) (k : Nat) : (pidsOf (L.drop k)).Nodup := List.Nodup.sublist (List.Sublist.map _ (List.drop_sublist _ _)) h
theorem Rising.drop_list {L : List Wt} (h : Rising L) (k : Nat) : Rising (L.drop k) := List.Pairwise.sublist (List.drop_sublist _ _) h
end Go.Proofs.Ytaiphjgklfioeaa
