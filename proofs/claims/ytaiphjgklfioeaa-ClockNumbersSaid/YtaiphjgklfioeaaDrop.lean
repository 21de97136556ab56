/- (*clock.Clock).Drop, and slices.Delete: one that waits no more. -/
import Derived.Test.YtaiphjgklfioeaaSet
namespace Go.Proofs.Ytaiphjgklfioeaa
open Go.RowKit

theorem zero53 (w : World) : (zeroValue 53).run Try.prog w = .ok (.agg #[.int .i64 0, .int .i64 0]) w := by kernel_rfl
abbrev zeroW : List Value := [.int .i64 0, .int .i64 0]

theorem erase_prs (L : List Wt) (i : Nat) : prs (L.eraseIdx i) = (prs L).take (i * 2) ++ (prs L).drop ((i + 1) * 2) := by
  rw [prs_take, prs_drop, ← prs_append, List.eraseIdx_eq_take_drop_succ]

theorem Reads.part {w : World} {B : Nat → Prop} {F : Bool} {size g o n i : Nat} {xs : List Value} (h : Reads w B F size (some ⟨g, o, none⟩) n xs) (hi : i ≤ n) : Reads w B F size (some ⟨g, o + i * size, none⟩) (n - i) (xs.drop (i * size)) := by
  refine ⟨by rw [List.length_drop, h.1, Nat.sub_mul], fun hn => ?_⟩
  obtain ⟨ad, e, hs, hb, hl, hc⟩ := h.2 (by omega)
  injection e with e; subst e
  refine ⟨_, rfl, rfl, hb, hl, fun j u hu => ?_⟩
  rw [List.getElem?_drop] at hu
  have := hc _ u hu
  simpa [Nat.add_assoc] using this

def DelPost (w : World) (g o n c : Nat) (xs : List Value) (e : Ending) (w' : World) : Prop :=
  e = .returned (.slice (some ⟨g, o, none⟩) n c) ∧ Slab w' 53 2 (some ⟨g, o, none⟩) n c xs ∧ Keeps (fun k => k = g) w w'

set_option maxRecDepth 100000 in
set_option maxHeartbeats 1000000 in
theorem delete_any (g o n c i : Nat) (L : List Wt) (w : World) (hs : Slab w 53 2 (some ⟨g, o, none⟩) (n + 1) c (prs L)) (hi : i < n + 1) (hn : n ≤ 1048576) :
    Calls Try.prog 34 #[.slice (some ⟨g, o, none⟩) (n + 1) c, .int .i64 i, .int .i64 ((i : Int) + 1)] w (DelPost w g o n c (prs (L.eraseIdx i))) := by
  obtain ⟨i0, hi0, hz0, hz1, hz2⟩ := info_parts Try.info53
  have hnc : n + 1 ≤ c := hs.2.1
  have hcm : c ≤ maxLen := hs.2.2.1
  have hlL : L.length = n + 1 := by have := hs.1; rw [prs_len] at this; omega
  rw [erase_prs]
  have HS := hide hs.drew
  have HS1 := hide (hs.drew.upto (i := i) (by omega))
  have HR := hide (Reads.part hs.drew.reads (i := i + 1) (by omega))
  have HLL := hide hlL
  have HCM := hide hcm
  clear hs hlL hcm
  have hwr : IntKind.i64.wrap ((i : Int) + 1) = (i : Int) + 1 := IntWalk.i64_in _ (by omega)
  have hw0 : (0 : Int) ≤ (i : Int) + 1 := by omega
  have hw1 : ((i : Int) + 1).toNat = i + 1 := by omega
  have hci : ¬ c = i := by omega
  have hin1 : i + 1 ≤ n + 1 := by omega
  have hne : ((i : Int) == (i : Int) + 1) = false := by simp; omega
  have hin2 : (i : Int) + 1 ≤ (n : Int) + 1 := by omega
  go_enter Try.func34, Try.ntmps34
  go_wp2_with fail
  refine order_begin (fun _ => True) (fun _ => true) (by kernel_rfl) 8 rfl ?_
  have HR2 : Hid (Reads w.drew (rowB (some ⟨g, o, none⟩)) true 2 (if c = i + 1 then some ⟨g, o, none⟩ else some ⟨g, o + (i + 1) * 2, none⟩) (n + 1 - (i + 1)) ((prs L).drop ((i + 1) * 2))) := by
    apply hide
    split
    · have e : n + 1 - (i + 1) = 0 := by omega
      rw [e, List.drop_eq_nil_of_le (by rw [prs_len, HLL.out]; omega)]
      exact Reads.zero _ _ _ _ _
    · exact HR.out
  generalize hsp : (if c = i + 1 then some (⟨g, o, none⟩ : Addr) else some ⟨g, o + (i + 1) * 2, none⟩) = sp at HR2
  have HSP := hide hsp
  clear hsp HR
  refine order_pure (i := 0) rfl (by kernel_rfl) (fun _ _ _ h => h) (.inl ⟨rfl, fun _ => by go_simp; rfl⟩) ?_
  try simp only [Act.put, List.setIfInBounds_toArray, List.set_cons_succ, List.set_cons_zero]
  refine order_pure (i := 1) rfl (by kernel_rfl) (fun _ _ _ h => h) (.inl ⟨rfl, fun _ => by go_simp; rfl⟩) ?_
  try simp only [Act.put, List.setIfInBounds_toArray, List.set_cons_succ, List.set_cons_zero]
  refine order_pure (i := 2) (v := .slice (some ⟨g, o, none⟩) i c) rfl (by kernel_rfl) (fun _ _ _ h => h) (.inl ⟨rfl, fun W => by go_simp <;> (intro hlt; omega)⟩) ?_
  try simp only [Act.put, List.setIfInBounds_toArray, List.set_cons_succ, List.set_cons_zero]
  refine order_pure (i := 3) rfl (by kernel_rfl) (fun _ _ _ h => h) (.inl ⟨rfl, fun _ => by go_simp; rfl⟩) ?_
  try simp only [Act.put, List.setIfInBounds_toArray, List.set_cons_succ, List.set_cons_zero]
  refine order_pure (i := 4) rfl (by kernel_rfl) (fun _ _ _ h => h) (.inl ⟨rfl, fun _ => by go_simp; rfl⟩) ?_
  try simp only [Act.put, List.setIfInBounds_toArray, List.set_cons_succ, List.set_cons_zero]
  refine order_pure (i := 5) (v := .slice sp (n + 1 - (i + 1)) (c - (i + 1))) rfl (by kernel_rfl) (fun _ _ _ h => h) (.inl ⟨rfl, fun W => by rw [← HSP.out]; go_simp <;> (intro hlt; omega)⟩) ?_
  try simp only [Act.put, List.setIfInBounds_toArray, List.set_cons_succ, List.set_cons_zero]
  clear hwr hw0 hw1 hne
  refine order_one (i := 6) rfl (by kernel_rfl) (fun K hK => ?_)
  have hm : i + (n + 1 - (i + 1)) = n := by omega
  refine step_append_room_slab _ rfl (.tmp 22) (.tmp 25) 45 rfl 53 i0 2 Try.underlying45 hi0 hz1 (some ⟨g, o, none⟩) i c ((prs L).take (i * 2)) rfl HS1.out _ _ sp (n + 1 - (i + 1)) _ ((prs L).drop ((i + 1) * 2)) rfl HR2.out (fun u hu => prs_ones _ (List.mem_of_mem_drop hu)) (by omega) (fun w2 hs2 hk2 => ?_)
  rw [hm] at hs2 ⊢
  have HK2 := hide (((Keeps.refl (fun k => k = g) w).drew).trans' (hk2.mono (fp' := fun k => k = g) (fun k _ h => by obtain ⟨o', e⟩ := h; injection e with e; injection e with e; exact e.symm)) (fun _ _ h => h) (fun _ _ h => h))
  obtain ⟨cur2, hb2, hsz2, hbe⟩ := hs2.behind
  have HB2 := hide hb2
  have HS2 := hide (hbe (n * 2) zeroW (Nat.le_refl _) (by simp only [List.length_cons, List.length_nil]; omega))
  have HK3 := hide (HK2.out.row (g := g) (.inl rfl) (splice cur2 (o + n * 2) zeroW))
  have HSZ := hide (show o + n * 2 + 2 ≤ cur2.size from by omega)
  refine hK _ _ (fun _ h => h) ?_
  clear hK hs2 hk2 hb2 hbe HS HS1 HR2
  try simp only [Act.put, List.setIfInBounds_toArray, List.set_cons_succ, List.set_cons_zero]
  refine order_pure (i := 7) rfl (by kernel_rfl) (fun _ _ _ h => h) (.inl ⟨rfl, fun _ => by go_simp; rfl⟩) ?_
  try simp only [Act.put, List.setIfInBounds_toArray, List.set_cons_succ, List.set_cons_zero]
  refine order_done (by kernel_rfl) ?_
  have hcn : ¬ c = n := by omega
  have hnn : n ≤ n + 1 := by omega
  have hone : n + 1 - n = 1 := by omega
  have HON := hide hone; clear hone hm
  go_wp2_with (refine wpList_clear_blk _ rfl (.tmp 31) 45 rfl 53 53 Try.underlying45 (.agg #[.int .i64 0, .int .i64 0]) 2 zero53 rfl (by decide +kernel) g (o + n * 2) cur2 HB2.out _ _ rfl rfl HSZ.out ?_; change wpList _ _ _ _ _ (w2.setRow g (splice cur2 (o + n * 2) zeroW)); generalize w2.setRow g (splice cur2 (o + n * 2) zeroW) = w3 at *)
  go_ret
  exact ⟨rfl, HS2.out, HK3.out⟩

theorem drop_nil (pid : Int) (w : World) : Calls Try.prog 19 #[.pointer none, .int .i64 pid] w fun e w' => e = .returned (.bool false) ∧ w = w' := by
  go_enter Try.func19, Try.ntmps19
  go_wp2_with (go_at_call 20; refine (known_nil _).mono ?_; rintro e w' ⟨rfl, rfl⟩)
  go_ret
  exact ⟨rfl, rfl⟩
theorem drop_unmade (b : Nat) (pid : Int) (w : World) (h : w.cell? ⟨b, 1, none⟩ = some (.bool false)) : Calls Try.prog 19 #[.pointer (some ⟨b, 0, none⟩), .int .i64 pid] w fun e w' => e = .returned (.bool false) ∧ w = w' := by
  go_enter Try.func19, Try.ntmps19
  go_wp2_with (go_at_call 20; refine (known_at b false _ h).mono ?_; rintro e w' ⟨rfl, rfl⟩)
  go_ret
  exact ⟨rfl, rfl⟩

theorem drop_end {w w1 w2 : World} {b c n g o : Nat} {s : St} {pid : Int} (h : ClockAt w b (some ⟨g, o, none⟩) c s) (hn : s.L.length = n + 1) (hp : pid ∈ pidsOf s.L) (hk1 : Keeps NoB w w1) (hs : Slab w2 53 2 (some ⟨g, o, none⟩) n c (prs (s.L.eraseIdx (findPid pid s.L)))) (hk2 : Keeps (fun k => k = g) w1 w2) : SetPost w b (some ⟨g, o, none⟩) s (s.drop pid) (s.dropOk pid) (.returned (.bool true)) (w2.setCell ⟨b, 2, none⟩ (.slice (some ⟨g, o, none⟩) n c)) := by
  have hgb : ¬ b = g := fun e => h.sep ⟨o, by rw [e]⟩
  have hb4 := ((h.blk.keep hk1 id).keep hk2 hgb).put 2 (.slice (some ⟨g, o, none⟩) n c)
  have hk4 : Keeps (fun k => k = b) w2 (w2.setCell ⟨b, 2, none⟩ (.slice (some ⟨g, o, none⟩) n c)) := (Keeps.refl (fun k => k = b) w2).setCell (p := ⟨b, 2, none⟩) (.inl rfl) _
  have hl : (s.drop pid).L.length = n := by
    show (s.L.eraseIdx _).length = n
    rw [List.length_eraseIdx_of_lt (findPid_mem.1 hp)]; omega
  have hok : s.dropOk pid = true := decide_eq_true hp
  rw [hok]
  refine ⟨some ⟨g, o, none⟩, c, rfl, ⟨?_, ?_, h.good.drop pid⟩, ?_, Moved.same _ _⟩
  · rw [hl]; exact hb4
  · rw [hl]
    refine hs.keep hk4 (fun k hk e => ?_)
    obtain ⟨o', e2⟩ := hk
    injection e2 with e2; injection e2 with e2
    omega
  · exact ((hk1.trans' hk2 (fun _ _ h => h.elim) (fun _ _ h => h) : Keeps (fun k => k = g) w w2).trans' hk4 (fun k _ h => .inr ⟨o, by rw [h]⟩) (fun _ _ h => .inl h))

set_option maxRecDepth 100000 in
theorem drop_any (b c : Nat) (A : Option Addr) (s : St) (pid : Int) (w : World) (h : ClockAt w b A c s) (hl : s.L.length ≤ 1000000) :
    Calls Try.prog 19 #[.pointer (some ⟨b, 0, none⟩), .int .i64 pid] w (SetPost w b A s (s.drop pid) (s.dropOk pid)) := by
  have k1 : w.cell? ⟨b, 1, none⟩ = some (.bool true) := h.blk.cell 1
  have k2 : w.cell? ⟨b, 2, none⟩ = some (.slice A s.L.length c) := h.blk.cell 2
  by_cases hp : pid ∈ pidsOf s.L
  · have hfl := findPid_mem.1 hp
    obtain ⟨n, hn⟩ : ∃ n, s.L.length = n + 1 := ⟨s.L.length - 1, by omega⟩
    obtain ⟨ad, rfl, hsp, _, _, _⟩ := h.row.reads.2 (by omega)
    obtain ⟨g, o, sp⟩ := ad
    simp only at hsp
    subst hsp
    have hf := find_yes b (some ⟨g, o, none⟩) s.L.length c s.L pid w _ _ k2 h.row.reads (by omega) hp
    have hrow := h.row
    rw [hn] at k2 hrow
    have hi : findPid pid s.L < n + 1 := by omega
    have HROW := hide hrow
    have H := hide h; have HN := hide hn; have HP := hide hp
    obtain ⟨fi, hfp⟩ : ∃ fi, findPid pid s.L = fi := ⟨_, rfl⟩
    rw [hfp] at hf hi
    have HFP := hide hfp
    have hlen : n + 1 ≤ 1000000 := by have := HN.out; omega
    have hz : (0 : Int) ≤ (fi : Int) := by omega
    clear h hn hp hrow hfl hl hfp
    go_enter Try.func19, Try.ntmps19
    go_wp2_with (first
      | (go_at_call 20; refine (known_at b true _ k1).mono ?_; rintro e w' ⟨rfl, rfl⟩)
      | (go_at_call 21; refine hf.mono ?_; rintro e w1 ⟨rfl, hk⟩; (have k2' : w1.cell? ⟨b, 2, none⟩ = some (.slice (some ⟨g, o, none⟩) (n + 1) c) := hk.cell id k2); (have HK := hide hk); clear hk)
      | (go_at_call 34; go_loud (refine (delete_any g o n c fi s.L _ (HROW.out.fresh HK.out) (by omega) (by omega)).mono ?_; rintro e w2 ⟨rfl, hs, hk2⟩; (have hb2 := (H.out.blk.keep HK.out id).keep hk2 (fun e => H.out.sep ⟨o, by rw [e]⟩)); (have s1 : w2.cell? ⟨b, 2, none⟩ = some (.slice (some ⟨g, o, none⟩) s.L.length c) := hb2.cell 2); (have s2 : w2.frozen? ⟨b, 2, none⟩ = false := hb2.free 2); (have HE := hide (drop_end H.out HN.out HP.out HK.out (by rw [HFP.out]; exact hs) hk2)); clear hs hk2 hb2)))
    go_ret
    exact HE.out
  · have hf := find_no b A s.L.length c s.L pid w _ _ k2 h.row.reads (by omega) hp
    have HN : Hid (∀ w', Keeps NoB w w' → SetPost w b A s (s.drop pid) (s.dropOk pid) (.returned (.bool false)) w') := hide (fun w' hk => by
      have e : s.drop pid = s := by unfold St.drop; rw [dropPid_none hp]
      have e2 : s.dropOk pid = false := decide_eq_false hp
      rw [e, e2]
      exact ⟨A, c, rfl, h.fresh hk, hk.mono (fun _ _ h => h.elim), Moved.same _ _⟩)
    clear hp h
    go_enter Try.func19, Try.ntmps19
    go_wp2_with (first
      | (go_at_call 20; refine (known_at b true _ k1).mono ?_; rintro e w' ⟨rfl, rfl⟩)
      | (go_at_call 21; refine hf.mono ?_; rintro e w1 ⟨rfl, hk⟩; (have HK := hide hk); clear hk))
    go_ret
    exact HN.out _ HK.out
end Go.Proofs.Ytaiphjgklfioeaa
