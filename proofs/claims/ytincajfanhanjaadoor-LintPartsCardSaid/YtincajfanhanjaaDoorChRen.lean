/- Names of variables make no difference to the checker: plain law on trees. -/
import Derived.Test.YtincajfanhanjaaDoorChPhase
namespace Go.Proofs.YtincajfanhanjaaDoor

/-- A variable's other name. -/
def renT (u : ByteArray) (k : Int) (tx : ByteArray) : ByteArray := if k = 3 ∧ ¬ tx.toList = [95] then tx ++ u else tx
mutual
/-- law07.renamed -/
def renN (u : ByteArray) : Nd → Nd
  | .mk k tx nm pl kids => .mk k (renT u k tx) nm pl (rensN u kids)
def rensN (u : ByteArray) : List Nd → List Nd
  | [] => []
  | t :: ts => renN u t :: rensN u ts
end
theorem rens_map (u : ByteArray) : ∀ ts, rensN u ts = ts.map (renN u)
  | [] => rfl
  | t :: ts => by simp only [rensN, List.map_cons, rens_map u ts]
theorem rens_len (u : ByteArray) (ts : List Nd) : (rensN u ts).length = ts.length := by rw [rens_map]; simp
theorem ren_kind (u : ByteArray) (t : Nd) : (renN u t).kind = t.kind := by cases t; rfl
theorem ren_num (u : ByteArray) (t : Nd) : (renN u t).num = t.num := by cases t; rfl
theorem ren_place (u : ByteArray) (t : Nd) : (renN u t).place = t.place := by cases t; rfl
theorem ren_kids (u : ByteArray) (t : Nd) : (renN u t).kids = rensN u t.kids := by cases t; rfl
theorem ren_text (u : ByteArray) (t : Nd) (h : t.kind ≠ 3) : (renN u t).text = t.text := by
  cases t
  simp only [renN, Nd.text, renT]
  rw [if_neg (fun e => h e.1)]
/-- What comes behind a name ends it otherwise than with an underscore. -/
structure Tail (u : ByteArray) : Prop where
  some' : u.toList ≠ []
  last : ∀ l : List UInt8, l ++ u.toList ≠ [95]
theorem app_toList (a b : ByteArray) : (a ++ b).toList = a.toList ++ b.toList := by
  rw [Lib.toList_data, Lib.toList_data, Lib.toList_data]
  simp
theorem app_inj {a b u : ByteArray} (h : a ++ u = b ++ u) : a = b := by
  have h1 := congrArg ByteArray.toList h
  rw [app_toList, app_toList] at h1
  have h2 := List.append_cancel_right h1
  rw [Lib.toList_data, Lib.toList_data] at h2
  exact key_inj h2
/-- Scopes that are the same but for the names. -/
def Same (u : ByteArray) (S S' : Scope) : Prop := ∀ x : ByteArray, ¬ x.toList = [95] → S' (x ++ u) = S x
theorem Same.nil (u : ByteArray) : Same u (fun _ => false) (fun _ => false) := fun _ _ => rfl
theorem Same.put {u : ByteArray} {S S' : Scope} (h : Same u S S') (tx : ByteArray) : Same u (putS S tx) (putS S' (tx ++ u)) := by
  intro x hx
  simp only [putS, h x hx]
  congr 1
  by_cases e : x = tx
  · subst e; simp
  · have : ¬ x ++ u = tx ++ u := fun h => e (app_inj h)
    simp [e, this]
theorem Same.or {u : ByteArray} {S S' T T' : Scope} (h : Same u S S') (k : Same u T T') : Same u (fun t => S t || T t) (fun t => S' t || T' t) := fun x hx => by simp only [h x hx, k x hx]
theorem Same.gone {u : ByteArray} {S S' T T' G G' : Scope} (h : Same u S S') (k : Same u T T') (g : Same u G G') : Same u (goneS S T G) (goneS S' T' G') := fun x hx => by simp only [goneS, h x hx, k x hx, g x hx]
theorem var_ren {u : ByteArray} (hu : Tail u) (tx : ByteArray) (pl : Int) {S S' G G' : Scope} (hS : Same u S S') (hG : Same u G G') : varF (renT u 3 tx) pl S' G' = varF tx pl S G := by
  by_cases h : tx.toList = [95]
  · have e : renT u 3 tx = tx := by unfold renT; rw [if_neg (fun e => e.2 h)]
    rw [e]
    simp [varF, h]
  · have e : renT u 3 tx = tx ++ u := by unfold renT; rw [if_pos ⟨rfl, h⟩]
    have h2 : ¬ (tx ++ u).toList = [95] := by rw [app_toList]; exact hu.last _
    rw [e]
    simp [varF, h, h2, hS tx h, hG tx h]
def Like {α : Type} (R : α → α → Prop) : Except Flt α → Except Flt α → Prop
  | .error f, .error f' => f = f'
  | .ok a, .ok b => R a b
  | _, _ => False
abbrev LikeS (u : ByteArray) : Except Flt Scope → Except Flt Scope → Prop := Like (Same u)
abbrev LikeR (u : ByteArray) : Res → Res → Prop := Like (fun a b => Same u a.1 b.1 ∧ Same u a.2 b.2)
theorem minus_ren (u : ByteArray) (k : Int) (tx : ByteArray) (kids : List Nd) (hk : k = 7) : minusInt (renT u k tx) (rensN u kids) = minusInt tx kids := by
  subst hk
  have : renT u 7 tx = tx := by unfold renT; rw [if_neg (fun e => absurd e.1 (by decide))]
  rw [this]
  unfold minusInt
  congr 1
  match kids with
  | [] => rfl
  | [t] => simp only [rensN, ren_kind]
  | _ :: _ :: _ => rfl
mutual
theorem pat_ren {u : ByteArray} (hu : Tail u) : ∀ (t : Nd) (S S' : Scope), Same u S S' → LikeS u (patN t S) (patN (renN u t) S')
  | .mk k tx nm pl kids, S, S', h => by
    unfold renN patN
    by_cases h1 : k = 1 ∨ k = 2 ∨ k = 4
    · rw [if_pos h1, if_pos h1]; exact h
    · rw [if_neg h1, if_neg h1]
      by_cases h2 : k = 3
      · subst h2
        rw [if_pos rfl, if_pos rfl]
        by_cases h3 : tx.toList = [95]
        · have e : renT u 3 tx = tx := by unfold renT; rw [if_neg (fun e => e.2 h3)]
          rw [e, if_pos h3, if_pos h3]; exact h
        · have e : renT u 3 tx = tx ++ u := by unfold renT; rw [if_pos ⟨rfl, h3⟩]
          rw [e, if_neg h3, if_neg (by rw [app_toList]; exact hu.last _)]; exact h.put tx
      · rw [if_neg h2, if_neg h2]
        by_cases h4 : k = 5 ∨ k = 6 ∨ k = 8
        · rw [if_pos h4, if_pos h4]; exact pats_ren hu kids S S' h
        · rw [if_neg h4, if_neg h4]
          by_cases h5 : k = 7 ∧ minusInt tx kids = true
          · rw [if_pos h5, if_pos ⟨h5.1, by rw [minus_ren u k tx kids h5.1]; exact h5.2⟩]; exact h
          · rw [if_neg h5, if_neg (fun e => h5 ⟨e.1, by rw [← minus_ren u k tx kids e.1]; exact e.2⟩)]; rfl
theorem pats_ren {u : ByteArray} (hu : Tail u) : ∀ (ts : List Nd) (S S' : Scope), Same u S S' → LikeS u (patsN ts S) (patsN (rensN u ts) S')
  | [], S, S', h => by unfold rensN patsN; exact h
  | t :: ts, S, S', h => by
    unfold rensN patsN
    have h1 := pat_ren hu t S S' h
    revert h1
    cases patN t S with
    | error f => cases patN (renN u t) S' with
      | error f' => exact id
      | ok _ => exact fun h => h.elim
    | ok S1 => cases patN (renN u t) S' with
      | error f' => exact fun h => h.elim
      | ok S1' => exact fun h => pats_ren hu ts S1 S1' h
end
theorem ren_other {u : ByteArray} {k : Int} (hk : k ≠ 3) (tx : ByteArray) : renT u k tx = tx := by unfold renT; rw [if_neg (fun e => hk e.1)]
mutual
theorem guard_ren {u : ByteArray} (hu : Tail u) : ∀ (t : Nd) (S S' G G' : Scope), Same u S S' → Same u G G' → guardN (renN u t) S' G' = guardN t S G
  | .mk k tx nm pl kids, S, S', G, G', h, g => by
    unfold renN guardN
    by_cases h1 : k = 1 ∨ k = 2 ∨ k = 4 ∨ k = 5 ∨ k = 6
    · rw [if_pos h1, if_pos h1]; exact guards_ren hu kids S S' G G' h g
    · rw [if_neg h1, if_neg h1]
      by_cases h2 : k = 3
      · subst h2
        rw [if_pos rfl, if_pos rfl, var_ren hu tx pl h g]
        cases varF tx pl S G with
        | error f => rfl
        | ok _ => exact guards_ren hu kids S S' G G' h g
      · rw [if_neg h2, if_neg h2]
        by_cases h3 : k = 7
        · rw [if_pos h3, if_pos h3, ren_other h2, rens_len]
          split
          · exact guards_ren hu kids S S' G G' h g
          · rfl
        · rw [if_neg h3, if_neg h3]
          by_cases h4 : k = 9
          · rw [if_pos h4, if_pos h4]
            match kids with
            | [] => rfl
            | c :: cs =>
              simp only [rensN, ren_kind, rens_len]
              by_cases h5 : c.kind = 2
              · rw [ren_text u c (by rw [h5]; decide)]
                split
                · exact guards_ren hu cs S S' G G' h g
                · rfl
              · rw [if_neg (fun e => h5 e.1), if_neg (fun e => h5 e.1)]
          · rw [if_neg h4, if_neg h4]
theorem guards_ren {u : ByteArray} (hu : Tail u) : ∀ (ts : List Nd) (S S' G G' : Scope), Same u S S' → Same u G G' → guardsN (rensN u ts) S' G' = guardsN ts S G
  | [], _, _, _, _, _, _ => by unfold rensN guardsN; rfl
  | t :: ts, S, S', G, G', h, g => by
    unfold rensN guardsN
    rw [guard_ren hu t S S' G G' h g]
    cases guardN t S G with
    | error f => rfl
    | ok _ => exact guards_ren hu ts S S' G G' h g
end
theorem all_ren {u : ByteArray} (hu : Tail u) : ∀ (ts : List Nd) (S S' G G' : Scope), Same u S S' → Same u G G' → allGuards (rensN u ts) S' G' = allGuards ts S G
  | [], _, _, _, _, _, _ => by unfold rensN allGuards; rfl
  | t :: ts, S, S', G, G', h, g => by
    unfold rensN allGuards
    rw [ren_kids, guards_ren hu t.kids S S' G G' h g]
    cases guardsN t.kids S G with
    | error f => rfl
    | ok _ => exact all_ren hu ts S S' G G' h g
theorem first_ren (u : ByteArray) (t : Nd) : firstN (renN u t) = firstN t := by
  unfold firstN
  rw [ren_kids]
  cases t.kids with
  | nil => rfl
  | cons p l => simp only [rensN, ren_kids, rens_len]
theorem arity_ren (u : ByteArray) : ∀ (ts : List Nd) (a : Int), arityN (rensN u ts) a = arityN ts a
  | [], _ => by unfold rensN arityN; rfl
  | t :: ts, a => by
    unfold rensN arityN
    rw [first_ren, ren_place, arity_ren u ts a]
theorem callE_ren (u : ByteArray) (F : Fns) (kids : List Nd) (pl : Int) : callE F (rensN u kids) pl = callE F kids pl := by
  unfold callE callN
  rw [rens_len]
  by_cases h : 12 < (kids.length : Int) - 1
  · rw [if_pos h, if_pos h]
  · rw [if_neg h, if_neg h]
    match kids with
    | [] => rfl
    | c :: cs =>
      simp only [rensN, ren_kind, rens_len]
      by_cases h5 : c.kind = 2
      · rw [ren_text u c (by rw [h5]; decide)]
        have hk2 : ¬ (c.kind ≠ 2) := fun h => h h5
        simp only [if_neg hk2]
        by_cases hc : F c.text cs.length = false ∧ kindN c.text.data.toList cs.length = 0
        · simp only [if_pos hc]
        · simp only [if_neg hc]
      · simp [h5]
mutual
theorem ex_ren {u : ByteArray} (hu : Tail u) (F : Fns) (b : Bool) : ∀ (t : Nd) (S S' G G' : Scope), Same u S S' → Same u G G' → LikeR u (exN F b t S G) (exN F b (renN u t) S' G')
  | .mk k tx nm pl kids, S, S', G, G', h, g => by
    unfold renN exN
    by_cases h8 : k = 8
    · rw [if_pos h8, if_pos h8]
      cases b with
      | false => rw [if_neg (by decide), if_neg (by decide)]; rfl
      | true =>
        rw [if_pos rfl, if_pos rfl]
        match kids with
        | [] => exact ⟨h, g⟩
        | [_] => exact ⟨h, g⟩
        | [p, e] =>
          simp only [rensN]
          have h1 := ex_ren hu F true e S S' G G' h g
          revert h1
          cases exN F true e S G with
          | error f => cases exN F true (renN u e) S' G' with
            | error f' => exact id
            | ok _ => exact fun h => h.elim
          | ok x => cases exN F true (renN u e) S' G' with
            | error f' => exact fun h => h.elim
            | ok x' =>
              intro h1
              have h2 := pat_ren hu p x.1 x'.1 h1.1
              revert h2
              dsimp only
              cases patN p x.1 with
              | error f => cases patN (renN u p) x'.1 with
                | error f' => exact id
                | ok _ => exact fun h => h.elim
              | ok y => cases patN (renN u p) x'.1 with
                | error f' => exact fun h => h.elim
                | ok y' => exact fun h2 => ⟨h2, h1.2⟩
        | _ :: _ :: _ :: _ => exact ⟨h, g⟩
    · rw [if_neg h8, if_neg h8]
      by_cases h3 : k = 3
      · subst h3
        rw [if_pos rfl, if_pos rfl, var_ren hu tx pl h g]
        cases varF tx pl S G with
        | error f => rfl
        | ok _ => exact exs_ren hu F false kids S S' G G' h g
      · rw [if_neg h3, if_neg h3, ren_other h3]
        by_cases h9 : k = 9
        · rw [if_pos h9, if_pos h9, callE_ren]
          cases callE F kids pl with
          | error f => rfl
          | ok c => cases c with
            | true => exact tail_ren hu F kids S S' G G' h g
            | false => exact exs_ren hu F false kids S S' G G' h g
        · rw [if_neg h9, if_neg h9]
          by_cases h11 : k = 11
          · rw [if_pos h11, if_pos h11]
            split
            · exact exs_ren hu F false kids S S' G G' h g
            · rfl
          · rw [if_neg h11, if_neg h11]
            by_cases h10 : k = 10
            · rw [if_pos h10, if_pos h10, arity_ren]
              have e : firstN ((rensN u kids).headD (.mk k tx nm pl (rensN u kids))) = firstN (kids.headD (.mk k tx nm pl kids)) := by
                cases kids with
                | nil => rfl
                | cons c cs => simp only [rensN, List.headD_cons, first_ren]
              rw [e]
              cases arityN kids (firstN (kids.headD (.mk k tx nm pl kids))) with
              | error f => rfl
              | ok _ =>
                have h1 := funs_ren hu F kids S S' G G' h g
                revert h1
                dsimp only
                cases funsN F kids S G with
                | error f => cases funsN F (rensN u kids) S' G' with
                  | error f' => exact id
                  | ok _ => exact fun h => h.elim
                | ok x => cases funsN F (rensN u kids) S' G' with
                  | error f' => exact fun h => h.elim
                  | ok x' => exact fun _ => ⟨h, g⟩
            · rw [if_neg h10, if_neg h10]
              by_cases h12 : k = 12
              · rw [if_pos h12, if_pos h12]
                match kids with
                | [] => exact ⟨h, g⟩
                | e :: cs =>
                  simp only [rensN]
                  have h1 := ex_ren hu F false e S S' G G' h g
                  revert h1
                  cases exN F false e S G with
                  | error f => cases exN F false (renN u e) S' G' with
                    | error f' => exact id
                    | ok _ => exact fun h => h.elim
                  | ok x => cases exN F false (renN u e) S' G' with
                    | error f' => exact fun h => h.elim
                    | ok x' => exact fun h1 => cls_ren hu F cs S S' x.2 x'.2 h h1.2
              · rw [if_neg h12, if_neg h12]
                by_cases h13 : k = 13 ∨ k = 14
                · rw [if_pos h13, if_pos h13]; exact cls_ren hu F kids S S' G G' h g
                · rw [if_neg h13, if_neg h13]
                  by_cases h16 : k = 16
                  · rw [if_pos h16, if_pos h16]
                    match kids with
                    | [] => exact ⟨h, g⟩
                    | d :: cs =>
                      simp only [rensN]
                      have h1 := body_ren hu F d S S' G G' h g
                      revert h1
                      cases bodyK F d S G with
                      | error f => cases bodyK F (renN u d) S' G' with
                        | error f' => exact id
                        | ok _ => exact fun h => h.elim
                      | ok x => cases bodyK F (renN u d) S' G' with
                        | error f' => exact fun h => h.elim
                        | ok x' => exact fun h1 => cls_ren hu F cs S S' _ _ h (h.gone h1.1 h1.2)
                  · rw [if_neg h16, if_neg h16]
                    by_cases h19 : k = 19
                    · rw [if_pos h19, if_pos h19]
                      have h1 := exs_ren hu F true kids S S' G G' h g
                      revert h1
                      cases exsN F true kids S G with
                      | error f => cases exsN F true (rensN u kids) S' G' with
                        | error f' => exact id
                        | ok _ => exact fun h => h.elim
                      | ok x => cases exsN F true (rensN u kids) S' G' with
                        | error f' => exact fun h => h.elim
                        | ok x' => exact fun h1 => ⟨h, h.gone h1.1 h1.2⟩
                    · rw [if_neg h19, if_neg h19]
                      by_cases h17 : k = 17
                      · rw [if_pos h17, if_pos h17]
                        match kids with
                        | [] => exact ⟨h, g⟩
                        | e :: qs =>
                          simp only [rensN]
                          have h1 := qua_ren hu F qs S S' G G' h g
                          revert h1
                          cases quaN F qs S G with
                          | error f => cases quaN F (rensN u qs) S' G' with
                            | error f' => exact id
                            | ok _ => exact fun h => h.elim
                          | ok x => cases quaN F (rensN u qs) S' G' with
                            | error f' => exact fun h => h.elim
                            | ok x' =>
                              intro h1
                              have h2 := ex_ren hu F false e x.1 x'.1 x.2 x'.2 h1.1 h1.2
                              revert h2
                              dsimp only
                              cases exN F false e x.1 x.2 with
                              | error f => cases exN F false (renN u e) x'.1 x'.2 with
                                | error f' => exact id
                                | ok _ => exact fun h => h.elim
                              | ok y => cases exN F false (renN u e) x'.1 x'.2 with
                                | error f' => exact fun h => h.elim
                                | ok y' => exact fun _ => ⟨h, g⟩
                      · rw [if_neg h17, if_neg h17]; exact exs_ren hu F false kids S S' G G' h g
theorem exs_ren {u : ByteArray} (hu : Tail u) (F : Fns) (b : Bool) : ∀ (ts : List Nd) (S S' G G' : Scope), Same u S S' → Same u G G' → LikeR u (exsN F b ts S G) (exsN F b (rensN u ts) S' G')
  | [], S, S', G, G', h, g => by unfold rensN exsN; exact ⟨h, g⟩
  | t :: ts, S, S', G, G', h, g => by
    unfold rensN exsN
    have h1 := ex_ren hu F b t S S' G G' h g
    revert h1
    cases exN F b t S G with
    | error f => cases exN F b (renN u t) S' G' with
      | error f' => exact id
      | ok _ => exact fun h => h.elim
    | ok x => cases exN F b (renN u t) S' G' with
      | error f' => exact fun h => h.elim
      | ok x' => exact fun h1 => exs_ren hu F b ts x.1 x'.1 x.2 x'.2 h1.1 h1.2
theorem tail_ren {u : ByteArray} (hu : Tail u) (F : Fns) : ∀ (ts : List Nd) (S S' G G' : Scope), Same u S S' → Same u G G' → LikeR u (exsTail F ts S G) (exsTail F (rensN u ts) S' G')
  | [], S, S', G, G', h, g => by unfold rensN exsTail; exact ⟨h, g⟩
  | t :: ts, S, S', G, G', h, g => by unfold rensN exsTail; exact exs_ren hu F false ts S S' G G' h g
theorem body_ren {u : ByteArray} (hu : Tail u) (F : Fns) : ∀ (t : Nd) (S S' G G' : Scope), Same u S S' → Same u G G' → LikeR u (bodyK F t S G) (bodyK F (renN u t) S' G')
  | .mk _ _ _ _ kids, S, S', G, G', h, g => by unfold renN bodyK; exact exs_ren hu F true kids S S' G G' h g
theorem cls_ren {u : ByteArray} (hu : Tail u) (F : Fns) : ∀ (ts : List Nd) (S S' G G' : Scope), Same u S S' → Same u G G' → LikeR u (clsN F ts S G) (clsN F (rensN u ts) S' G')
  | [], S, S', G, G', h, g => by unfold rensN clsN; exact ⟨h, g⟩
  | t :: ts, S, S', G, G', h, g => by
    unfold rensN clsN
    have h1 := cl_ren hu F t S S' G G' h g
    revert h1
    cases clN F t S G with
    | error f => cases clN F (renN u t) S' G' with
      | error f' => exact id
      | ok _ => exact fun h => h.elim
    | ok x => cases clN F (renN u t) S' G' with
      | error f' => exact fun h => h.elim
      | ok x' => exact fun h1 => cls_ren hu F ts S S' x.2 x'.2 h h1.2
theorem cl_ren {u : ByteArray} (hu : Tail u) (F : Fns) : ∀ (t : Nd) (S S' G G' : Scope), Same u S S' → Same u G G' → LikeR u (clN F t S G) (clN F (renN u t) S' G')
  | .mk k _ _ _ kids, S, S', G, G', h, g => by
    unfold renN clN
    by_cases h15 : k = 15
    · rw [if_pos h15, if_pos h15]
      match kids with
      | [] => exact ⟨h, g⟩
      | [_] => exact ⟨h, g⟩
      | [e, d] =>
        simp only [rensN]
        have h1 := ex_ren hu F false e S S' G G' h g
        revert h1
        cases exN F false e S G with
        | error f => cases exN F false (renN u e) S' G' with
          | error f' => exact id
          | ok _ => exact fun h => h.elim
        | ok x => cases exN F false (renN u e) S' G' with
          | error f' => exact fun h => h.elim
          | ok x' =>
            intro h1
            have h2 := body_ren hu F d S S' x.2 x'.2 h h1.2
            revert h2
            dsimp only
            cases bodyK F d S x.2 with
            | error f => cases bodyK F (renN u d) S' x'.2 with
              | error f' => exact id
              | ok _ => exact fun h => h.elim
            | ok y => cases bodyK F (renN u d) S' x'.2 with
              | error f' => exact fun h => h.elim
              | ok y' => exact fun h2 => ⟨h, h.gone h2.1 h2.2⟩
      | _ :: _ :: _ :: _ => exact ⟨h, g⟩
    · rw [if_neg h15, if_neg h15]
      match kids with
      | [] => exact ⟨h, g⟩
      | [_] => exact ⟨h, g⟩
      | [_, _] => exact ⟨h, g⟩
      | [p, gg, d] =>
        simp only [rensN, ren_kids]
        have h1 := pats_ren hu p.kids S S' h
        revert h1
        cases patsN p.kids S with
        | error f => cases patsN (rensN u p.kids) S' with
          | error f' => exact id
          | ok _ => exact fun h => h.elim
        | ok own => cases patsN (rensN u p.kids) S' with
          | error f' => exact fun h => h.elim
          | ok own' =>
            intro h1
            dsimp only
            rw [all_ren hu gg.kids own own' G G' h1 g]
            cases allGuards gg.kids own G with
            | error f => rfl
            | ok _ =>
              have h2 := body_ren hu F d own own' G G' h1 g
              revert h2
              dsimp only
              cases bodyK F d own G with
              | error f => cases bodyK F (renN u d) own' G' with
                | error f' => exact id
                | ok _ => exact fun h => h.elim
              | ok y => cases bodyK F (renN u d) own' G' with
                | error f' => exact fun h => h.elim
                | ok y' => exact fun h2 => ⟨h, h.gone h2.1 h2.2⟩
      | _ :: _ :: _ :: _ :: _ => exact ⟨h, g⟩
theorem funs_ren {u : ByteArray} (hu : Tail u) (F : Fns) : ∀ (ts : List Nd) (S S' G G' : Scope), Same u S S' → Same u G G' → LikeR u (funsN F ts S G) (funsN F (rensN u ts) S' G')
  | [], S, S', G, G', h, g => by unfold rensN funsN; exact ⟨h, g⟩
  | t :: ts, S, S', G, G', h, g => by
    unfold rensN funsN
    have h1 := fun_ren hu F t S S' G G' h g
    revert h1
    cases funN F t S G with
    | error f => cases funN F (renN u t) S' G' with
      | error f' => exact id
      | ok _ => exact fun h => h.elim
    | ok x => cases funN F (renN u t) S' G' with
      | error f' => exact fun h => h.elim
      | ok x' => exact fun h1 => funs_ren hu F ts S S' x.2 x'.2 h h1.2
theorem fun_ren {u : ByteArray} (hu : Tail u) (F : Fns) : ∀ (t : Nd) (S S' G G' : Scope), Same u S S' → Same u G G' → LikeR u (funN F t S G) (funN F (renN u t) S' G')
  | .mk _ _ _ _ kids, S, S', G, G', h, g => by
    unfold renN funN
    match kids with
    | [] => exact ⟨h, g⟩
    | [_] => exact ⟨h, g⟩
    | [_, _] => exact ⟨h, g⟩
    | [p, gg, d] =>
      simp only [rensN, ren_kids]
      have h1 := pats_ren hu p.kids (fun _ => false) (fun _ => false) (Same.nil u)
      revert h1
      cases patsN p.kids (fun _ => false) with
      | error f => cases patsN (rensN u p.kids) (fun _ => false) with
        | error f' => exact id
        | ok _ => exact fun h => h.elim
      | ok own => cases patsN (rensN u p.kids) (fun _ => false) with
        | error f' => exact fun h => h.elim
        | ok own' =>
          intro h1
          dsimp only
          rw [all_ren hu gg.kids _ _ G G' (Same.or h1 h) g]
          cases allGuards gg.kids (fun t => own t || S t) G with
          | error f => rfl
          | ok _ => exact body_ren hu F d _ _ G G' (Same.or h1 h) g
    | _ :: _ :: _ :: _ :: _ => exact ⟨h, g⟩
theorem qua_ren {u : ByteArray} (hu : Tail u) (F : Fns) : ∀ (ts : List Nd) (S S' G G' : Scope), Same u S S' → Same u G G' → LikeR u (quaN F ts S G) (quaN F (rensN u ts) S' G')
  | [], S, S', G, G', h, g => by unfold rensN quaN; exact ⟨h, g⟩
  | t :: ts, S, S', G, G', h, g => by
    unfold rensN quaN
    rw [ren_kind]
    by_cases h18 : t.kind = 18
    · rw [if_pos h18, if_pos h18]
      have h1 := qu_ren hu F t S S' G G' h g
      revert h1
      cases quN F t S G with
      | error f => cases quN F (renN u t) S' G' with
        | error f' => exact id
        | ok _ => exact fun h => h.elim
      | ok x => cases quN F (renN u t) S' G' with
        | error f' => exact fun h => h.elim
        | ok x' => exact fun h1 => qua_ren hu F ts x.1 x'.1 x.2 x'.2 h1.1 h1.2
    · rw [if_neg h18, if_neg h18]
      have h1 := ex_ren hu F false t S S' G G' h g
      revert h1
      cases exN F false t S G with
      | error f => cases exN F false (renN u t) S' G' with
        | error f' => exact id
        | ok _ => exact fun h => h.elim
      | ok x => cases exN F false (renN u t) S' G' with
        | error f' => exact fun h => h.elim
        | ok x' => exact fun h1 => qua_ren hu F ts S S' x.2 x'.2 h h1.2
theorem qu_ren {u : ByteArray} (hu : Tail u) (F : Fns) : ∀ (t : Nd) (S S' G G' : Scope), Same u S S' → Same u G G' → LikeR u (quN F t S G) (quN F (renN u t) S' G')
  | .mk _ _ _ _ kids, S, S', G, G', h, g => by
    unfold renN quN
    match kids with
    | [] => exact ⟨h, g⟩
    | [_] => exact ⟨h, g⟩
    | [p, e] =>
      simp only [rensN]
      have h1 := ex_ren hu F false e S S' G G' h g
      revert h1
      cases exN F false e S G with
      | error f => cases exN F false (renN u e) S' G' with
        | error f' => exact id
        | ok _ => exact fun h => h.elim
      | ok x => cases exN F false (renN u e) S' G' with
        | error f' => exact fun h => h.elim
        | ok x' =>
          intro h1
          have h2 := pat_ren hu p (fun _ => false) (fun _ => false) (Same.nil u)
          revert h2
          dsimp only
          cases patN p (fun _ => false) with
          | error f => cases patN (renN u p) (fun _ => false) with
            | error f' => exact id
            | ok _ => exact fun h => h.elim
          | ok y => cases patN (renN u p) (fun _ => false) with
            | error f' => exact fun h => h.elim
            | ok y' => exact fun h2 => ⟨Same.or h2 h, h1.2⟩
    | _ :: _ :: _ :: _ => exact ⟨h, g⟩
end
end Go.Proofs.YtincajfanhanjaaDoor
