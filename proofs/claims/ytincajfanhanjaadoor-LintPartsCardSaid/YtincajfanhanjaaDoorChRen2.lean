/- Names of variables make no difference to what is right, nor to what Check tells: plain law on trees. -/
import Derived.Test.YtincajfanhanjaaDoorChRen
namespace Go.Proofs.YtincajfanhanjaaDoor

/-- Small letters and digits. -/
def lowly (c : UInt8) : Bool := (97 ≤ c && c ≤ 122) || (48 ≤ c && c ≤ 57)
theorem lowly_lettered {c : UInt8} (h : lowly c = true) : lettered c = true := by
  unfold lowly at h; unfold lettered
  rw [Bool.or_eq_true] at h
  rcases h with h | h <;> simp [h]
theorem lowly_first {c : UInt8} (h : lowly c = true) : ((65 ≤ c && c ≤ 90) || c == 95) = false := by
  unfold lowly at h
  simp only [Bool.or_eq_true, Bool.and_eq_true, decide_eq_true_eq, UInt8.le_iff_toNat_le] at h
  have h1 : (97 : UInt8).toNat = 97 := rfl
  have h2 : (122 : UInt8).toNat = 122 := rfl
  have h3 : (48 : UInt8).toNat = 48 := rfl
  have h4 : (57 : UInt8).toNat = 57 := rfl
  have h5 : (65 : UInt8).toNat = 65 := rfl
  have h6 : (90 : UInt8).toNat = 90 := rfl
  have h7 : (95 : UInt8).toNat = 95 := rfl
  rw [h1, h2, h3, h4] at h
  have e1 : (decide (65 ≤ c) && decide (c ≤ 90)) = false := by
    rw [Bool.and_eq_false_iff, decide_eq_false_iff_not, decide_eq_false_iff_not, UInt8.le_iff_toNat_le, UInt8.le_iff_toNat_le, h5, h6]
    omega
  have e2 : (c == 95) = false := by
    rw [beq_eq_false_iff_ne]
    intro e
    rw [e, h7] at h
    omega
  rw [e1, e2]; rfl
theorem tail_of {u : ByteArray} (h1 : u.toList ≠ []) (h2 : u.toList.all lowly = true) : Tail u := by
  refine ⟨h1, fun l e => ?_⟩
  rw [List.all_eq_true] at h2
  obtain ⟨c, hc⟩ : ∃ c, c ∈ u.toList := by
    cases hl : u.toList with
    | nil => exact absurd hl h1
    | cons c r => exact ⟨c, by simp⟩
  have h3 : c ∈ l ++ u.toList := List.mem_append_right _ hc
  rw [e, List.mem_singleton] at h3
  subst h3
  exact absurd (h2 _ hc) (by decide)
mutual
/-- law07.longest -/
def longN : Nd → Nat
  | .mk k tx _ _ kids => max (if k = 3 then tx.size else 0) (longsN kids)
def longsN : List Nd → Nat
  | [] => 0
  | t :: ts => max (longN t) (longsN ts)
end
theorem worded_ren {u : ByteArray} (h1 : u.toList ≠ []) (h2 : u.toList.all lowly = true) (tx : ByteArray) (kids : Nat) (hl : tx.size + u.size ≤ 40) : wordedN 118 (renT u 3 tx).data.toList kids = wordedN 118 tx.data.toList kids := by
  by_cases h : tx.toList = [95]
  · have e : renT u 3 tx = tx := by unfold renT; rw [if_neg (fun e => e.2 h)]
    rw [e]
  · have e : renT u 3 tx = tx ++ u := by unfold renT; rw [if_pos ⟨rfl, h⟩]
    rw [e]
    have ha : (tx ++ u).data.toList = tx.data.toList ++ u.data.toList := by rw [← Lib.toList_data, app_toList, Lib.toList_data, Lib.toList_data]
    rw [ha]
    rw [Lib.toList_data] at h1 h2
    have hs1 : tx.data.toList.length = tx.size := Array.length_toList
    have hs2 : u.data.toList.length = u.size := Array.length_toList
    unfold wordedN
    rw [if_neg (by decide), if_neg (by decide), if_neg (by decide), if_pos rfl, if_neg (by decide), if_neg (by decide), if_neg (by decide), if_pos rfl]
    cases ht : tx.data.toList with
    | nil =>
      cases hu : u.data.toList with
      | nil => exact absurd hu h1
      | cons c r =>
        have hc : lowly c = true := by rw [hu] at h2; exact (List.all_eq_true.1 h2) c (by simp)
        have hx := lowly_first hc
        simp [hx]
    | cons c r =>
      have h3 : (u.data.toList.all lettered) = true := List.all_eq_true.2 (fun x hx => lowly_lettered (List.all_eq_true.1 h2 x hx))
      have hd1 : decide ((c :: r ++ u.data.toList).length ≤ 40) = true := by rw [ht] at hs1; simp only [List.length_append, decide_eq_true_eq]; omega
      have hd2 : decide ((c :: r).length ≤ 40) = true := by rw [ht] at hs1; simp only [decide_eq_true_eq]; omega
      rw [hd1, hd2]
      simp [h3]
theorem plain_ren (u : ByteArray) (t : Nd) (k : Int) (hk : k ≠ 3) : plainN (renN u t) k = plainN t k := by
  unfold plainN
  rw [ren_kind, ren_num, ren_place]
  by_cases h : t.kind = k
  · rw [ren_text u t (by rw [h]; exact hk)]
  · simp [h]
theorem itemH_ren {u : ByteArray} (h1 : u.toList ≠ []) (h2 : u.toList.all lowly = true) (k : Int) (tx : ByteArray) (num pl : Int) (kids : Nat) (hl : k = 3 → tx.size + u.size ≤ 40) : itemH k (renT u k tx).data.toList num pl kids = itemH k tx.data.toList num pl kids := by
  by_cases h3 : k = 3
  · subst h3
    unfold itemH
    rw [show shapeN 3 = some (118, 0, 0, 0, 0) from rfl]
    simp only
    rw [worded_ren h1 h2 tx kids (hl rfl)]
  · rw [ren_other h3]
theorem getD_ren (u : ByteArray) (kids : List Nd) (i : Nat) (n : Nd) : (rensN u kids).getD i (renN u n) = renN u (kids.getD i n) := by
  rw [rens_map]
  simp only [List.getD_eq_getElem?_getD, List.getElem?_map]
  cases kids[i]? <;> rfl
mutual
theorem ok_ren {u : ByteArray} (h1 : u.toList ≠ []) (h2 : u.toList.all lowly = true) : ∀ (m : Nat) (t : Nd), longN t + u.size ≤ 40 → okM m (renN u t) = okM m t
  | m, .mk k tx num pl kids, hl => by
    have hk : k = 3 → tx.size + u.size ≤ 40 := fun e => by unfold longN at hl; rw [if_pos e] at hl; omega
    have hs : longsN kids + u.size ≤ 40 := by unfold longN at hl; omega
    have ho : ∀ ms d, okAs ms d (rensN u kids) = okAs ms d kids := fun ms d => oks_ren h1 h2 ms d kids hs
    have hg := getD_ren u kids 0 (.mk k tx num pl kids)
    have hg1 := getD_ren u kids 1 (.mk k tx num pl kids)
    have hp := fun q (hq : q ≠ 3) => plain_ren u (.mk k tx num pl kids) q hq
    have hi := itemH_ren h1 h2 k tx num pl kids.length hk
    have er : renN u (.mk k tx num pl kids) = .mk k (renT u k tx) num pl (rensN u kids) := by unfold renN; rfl
    rw [er] at hg hg1 ⊢
    simp only [er] at hp
    unfold okM
    simp only [rens_len, ho, hi, hp 15 (by decide), hp 18 (by decide), hp 19 (by decide), hp 20 (by decide)]
    have e1 : ((rensN u kids).getD 0 (.mk k (renT u k tx) num pl (rensN u kids))).kids.length = (kids.getD 0 (.mk k tx num pl kids)).kids.length := by rw [hg, ren_kids, rens_len]
    have e2 : ((rensN u kids).getD 1 (.mk k (renT u k tx) num pl (rensN u kids))).kids.length = (kids.getD 1 (.mk k tx num pl kids)).kids.length := by rw [hg1, ren_kids, rens_len]
    have e3 : ((rensN u kids).getD 0 (.mk k (renT u k tx) num pl (rensN u kids))).kids.getD 0 (.mk k (renT u k tx) num pl (rensN u kids)) = renN u ((kids.getD 0 (.mk k tx num pl kids)).kids.getD 0 (.mk k tx num pl kids)) := by
      rw [hg, ren_kids]; exact getD_ren u _ 0 (.mk k tx num pl kids)
    have e4 : ∀ x : Nd, ((renN u x).kids.getD 0 (.mk k (renT u k tx) num pl (rensN u kids))) = renN u (x.kids.getD 0 (.mk k tx num pl kids)) := fun x => by
      rw [ren_kids]; exact getD_ren u _ 0 (.mk k tx num pl kids)
    have e5 : ∀ ks : List Nd, ((rensN u ks).getD 0 (.mk k (renT u k tx) num pl (rensN u kids))) = renN u (ks.getD 0 (.mk k tx num pl kids)) := fun ks => by
      rw [← er]; exact getD_ren u ks 0 (.mk k tx num pl kids)
    simp only [e1, e2, e3, e4, e5, ren_kind, ren_kids, rens_len]
theorem oks_ren {u : ByteArray} (h1 : u.toList ≠ []) (h2 : u.toList.all lowly = true) : ∀ (ms : List Nat) (d : Nat) (ts : List Nd), longsN ts + u.size ≤ 40 → okAs ms d (rensN u ts) = okAs ms d ts
  | _, _, [], _ => by unfold rensN okAs; rfl
  | ms, d, t :: ts, hl => by
    unfold rensN okAs
    unfold longsN at hl
    rw [ok_ren h1 h2 (ms.headD d) t (by omega), oks_ren h1 h2 ms.tail d ts (by omega)]
end
mutual
theorem deep_ren (u : ByteArray) : ∀ t : Nd, deepN (renN u t) = deepN t
  | .mk _ _ _ _ kids => by unfold renN deepN; rw [deeps_ren u kids]
theorem deeps_ren (u : ByteArray) : ∀ ts : List Nd, deepsN (rensN u ts) = deepsN ts
  | [] => by unfold rensN deepsN; rfl
  | t :: ts => by unfold rensN deepsN; rw [deep_ren u t, deeps_ren u ts]
end
mutual
theorem many_ren (u : ByteArray) : ∀ t : Nd, manyN (renN u t) = manyN t
  | .mk _ _ _ _ kids => by unfold renN manyN; rw [manys_ren u kids]
theorem manys_ren (u : ByteArray) : ∀ ts : List Nd, manysN (rensN u ts) = manysN ts
  | [] => by unfold rensN manysN; rfl
  | t :: ts => by unfold rensN manysN; rw [many_ren u t, manys_ren u ts]
end
theorem long_mem {t : Nd} : ∀ {ts : List Nd}, t ∈ ts → longN t ≤ longsN ts
  | [], h => by cases h
  | a :: ts, h => by
    unfold longsN
    rcases List.mem_cons.1 h with rfl | h
    · omega
    · have := long_mem h; omega
theorem long_kids {t x : Nd} (h : x ∈ t.kids) : longN x ≤ longN t := by
  cases t with
  | mk k tx nm pl ks =>
    have h1 := long_mem (show x ∈ ks from h)
    have h2 : longN (.mk k tx nm pl ks) = max (if k = 3 then tx.size else 0) (longsN ks) := by unfold longN; rfl
    omega
theorem function_ren {u : ByteArray} (h1 : u.toList ≠ []) (h2 : u.toList.all lowly = true) (t : Nd) (hl : longN t + u.size ≤ 40) : functionN (renN u t) = functionN t := by
  unfold functionN
  rw [ren_kind, ren_place, ren_num]
  by_cases h : t.kind = 21
  · rw [ren_text u t (by rw [h]; decide), ren_kids, oks_ren h1 h2 [] 2 t.kids (by have : longsN t.kids ≤ longN t := by { cases t; unfold longN; simp only [Nd.kids]; omega }; omega)]
    have e1 : (rensN u t.kids).isEmpty = t.kids.isEmpty := by cases t.kids <;> rfl
    have e2 : (((rensN u t.kids).getD 0 (renN u t)).kids.getD 0 (renN u t)).kids.length = ((t.kids.getD 0 t).kids.getD 0 t).kids.length := by
      rw [getD_ren, ren_kids, getD_ren, ren_kids, rens_len]
    rw [e1, e2]
  · simp [h]
theorem right_ren {u : ByteArray} (h1 : u.toList ≠ []) (h2 : u.toList.all lowly = true) (t : Nd) (hl : longN t + u.size ≤ 40) : rightN (renN u t) = rightN t := by
  unfold rightN moduleN
  rw [plain_ren u t 22 (by decide), ok_ren h1 h2 0 t hl, deep_ren, many_ren, ren_kids, rens_map, List.all_map]
  congr 3
  congr 1
  rw [Bool.eq_iff_iff, List.all_eq_true, List.all_eq_true]
  exact ⟨fun h x hx => by have := h x hx; rw [Function.comp, function_ren h1 h2 x (by have := long_kids hx; omega)] at this; exact this, fun h x hx => by rw [Function.comp, function_ren h1 h2 x (by have := long_kids hx; omega)]; exact h x hx⟩
theorem fold_ren {σ : Type} {u : ByteArray} {f f' : Nd → σ → Except Flt σ} : ∀ (ts : List Nd) (s : σ), (∀ t ∈ ts, ∀ s, f (renN u t) s = f' t s) → foldE f (rensN u ts) s = foldE f' ts s
  | [], _, _ => by simp only [rensN, foldE]
  | t :: ts, s, h => by
    simp only [rensN, foldE]
    rw [h t List.mem_cons_self s]
    cases f' t s with
    | error e => rfl
    | ok s' => exact fold_ren ts s' (fun t ht => h t (List.mem_cons_of_mem _ ht))
theorem top_ren {u : ByteArray} (hu : Tail u) (F : Fns) (t : Nd) (x : Unit) : topE F (renN u t) x = topE F t x := by
  unfold topE
  rw [ren_kids]
  match t.kids with
  | [] => rfl
  | [_] => rfl
  | [_, _] => rfl
  | [p, g, d] =>
    simp only [rensN, ren_kids]
    have h1 := pats_ren hu p.kids (fun _ => false) (fun _ => false) (Same.nil u)
    revert h1
    cases patsN p.kids (fun _ => false) with
    | error f => cases patsN (rensN u p.kids) (fun _ => false) with
      | error f' => intro h; exact congrArg Except.error h.symm
      | ok _ => exact fun h => h.elim
    | ok own => cases patsN (rensN u p.kids) (fun _ => false) with
      | error f' => exact fun h => h.elim
      | ok own' =>
        intro h1
        dsimp only
        unfold restR
        rw [ren_kids, ren_kids, all_ren hu g.kids own own' _ _ h1 (Same.nil u)]
        cases allGuards g.kids own (fun _ => false) with
        | error f => rfl
        | ok _ =>
          have h2 := exs_ren hu F true d.kids own own' _ _ h1 (Same.nil u)
          revert h2
          dsimp only
          cases exsN F true d.kids own (fun _ => false) with
          | error f => cases exsN F true (rensN u d.kids) own' (fun _ => false) with
            | error f' => intro h; exact congrArg Except.error h.symm
            | ok _ => exact fun h => h.elim
          | ok y => cases exsN F true (rensN u d.kids) own' (fun _ => false) with
            | error f' => exact fun h => h.elim
            | ok y' => exact fun _ => rfl
  | _ :: _ :: _ :: _ :: _ => rfl
theorem decl_ren (u : ByteArray) (t : Nd) (h : t.kind ≠ 3) (F : Fns) : declE (renN u t) F = declE t F := by
  unfold declE
  rw [ren_text u t h, ren_num, ren_place, ren_kids, arity_ren]
/-- What variables are called makes no difference to what Check tells. -/
theorem check_ren {u : ByteArray} (h1 : u.toList ≠ []) (h2 : u.toList.all lowly = true) (m : Nd) (hl : longN m + u.size ≤ 40) (hk : m.kind = 22) (hr : rightN m = true) (ho : okN m) : checkN (renN u m) = checkN m := by
  have hu := tail_of h1 h2
  have hf := (module_ok hk hr ho).1
  have hk3 : ∀ t ∈ m.kids, t.kind ≠ 3 := by
    unfold rightN at hr
    simp only [Bool.and_eq_true, decide_eq_true_eq, Bool.or_eq_true] at hr
    have h3 : moduleN m = true := by
      rcases hr.1.1 with h | h
      · exact h
      · cases m
        simp only [Nd.kind] at hk
        subst hk
        rw [okM_zero] at h
        simp [itemH, shapeN] at h
    unfold moduleN at h3
    rw [Bool.and_eq_true, List.all_eq_true] at h3
    intro t ht e
    have h4 := h3.2 t ht
    unfold functionN at h4
    simp only [Bool.and_eq_true, decide_eq_true_eq] at h4
    rw [e] at h4
    exact absurd h4.1.1.1.1.1 (by decide)
  unfold checkN checkE
  rw [ren_kind, right_ren h1 h2 m hl, ren_kids, fold_ren (f := declE) (f' := declE) m.kids _ (fun t ht F => decl_ren u t (hk3 t ht) F)]
  rw [if_neg (by rw [hk, hr]; simp), if_neg (by rw [hk, hr]; simp)]
  cases foldE declE m.kids (fun _ _ => false) with
  | error f => rfl
  | ok F =>
    dsimp only
    rw [fold_ren (f := fnsE F) (f' := fnsE F) m.kids () (fun t _ x => by unfold fnsE; rw [ren_kids, fold_ren (f := topE F) (f' := topE F) t.kids x (fun y _ z => top_ren hu F y z)])]
end Go.Proofs.YtincajfanhanjaaDoor
