/- More functions: what was a program stays one. Plain law on trees. A program's parts: fewer functions, one twice, two programs together. Plain law on trees. -/
import Derived.Test.YtincajfanhanjaaDoorChPhase
namespace Go.Proofs.YtincajfanhanjaaDoor

/-- What is told without a fault is told so there too. -/
def Up {α : Type} : Except Flt α → Except Flt α → Prop
  | .error f, _ => f.1 ≠ 0
  | .ok r, b => b = .ok r
/-- No fault is told as none. -/
def Nz {α : Type} (a : Except Flt α) : Prop := ∀ f, a = .error f → f.1 ≠ 0
theorem Up.same {α : Type} (r : α) : Up (.ok r) (.ok r) := rfl
theorem Nz.ok {α : Type} (r : α) : Nz (.ok r : Except Flt α) := fun f h => by cases h
theorem Nz.at {α : Type} {c p : Int} (h : c ≠ 0) : Nz (.error (c, p) : Except Flt α) := fun f e => by cases e; exact h
theorem Up.nz {α : Type} {a b : Except Flt α} (h : Up a b) : Nz a := fun f e => by subst e; exact h
mutual
theorem pat_nz : ∀ (t : Nd) (S : Scope), Nz (patN t S)
  | .mk k tx nm pl kids, S => by
    unfold patN
    split
    · exact Nz.ok _
    · split
      · exact Nz.ok _
      · split
        · exact pats_nz kids S
        · split
          · exact Nz.ok _
          · exact Nz.at (by decide)
theorem pats_nz : ∀ (ts : List Nd) (S : Scope), Nz (patsN ts S)
  | [], S => by unfold patsN; exact Nz.ok _
  | t :: ts, S => by
    unfold patsN
    have h1 := pat_nz t S
    revert h1
    cases patN t S with
    | error f => exact fun h g e => by cases e; exact h f rfl
    | ok S' => exact fun _ => pats_nz ts S'
end
theorem var_nz (tx : ByteArray) (pl : Int) (S G : Scope) : Nz (varF tx pl S G) := by
  unfold varF
  split
  · exact Nz.ok _
  · split <;> exact Nz.at (by decide)
mutual
theorem guard_nz : ∀ (t : Nd) (S G : Scope), Nz (guardN t S G)
  | .mk k tx nm pl kids, S, G => by
    unfold guardN
    split
    · exact guards_nz kids S G
    · split
      · have h1 := var_nz tx pl S G
        revert h1
        cases varF tx pl S G with
        | error f => exact fun h g e => by cases e; exact h f rfl
        | ok _ => exact fun _ => guards_nz kids S G
      · split
        · split
          · exact guards_nz kids S G
          · exact Nz.at (by decide)
        · split
          · match kids with
            | [] => exact Nz.ok _
            | c :: cs =>
              dsimp only
              split
              · exact guards_nz cs S G
              · exact Nz.at (by decide)
          · exact Nz.at (by decide)
theorem guards_nz : ∀ (ts : List Nd) (S G : Scope), Nz (guardsN ts S G)
  | [], _, _ => by unfold guardsN; exact Nz.ok _
  | t :: ts, S, G => by
    unfold guardsN
    have h1 := guard_nz t S G
    revert h1
    cases guardN t S G with
    | error f => exact fun h g e => by cases e; exact h f rfl
    | ok _ => exact fun _ => guards_nz ts S G
end
theorem all_nz : ∀ (ts : List Nd) (S G : Scope), Nz (allGuards ts S G)
  | [], _, _ => by unfold allGuards; exact Nz.ok _
  | t :: ts, S, G => by
    unfold allGuards
    have h1 := guards_nz t.kids S G
    revert h1
    cases guardsN t.kids S G with
    | error f => exact fun h g e => by cases e; exact h f rfl
    | ok _ => exact fun _ => all_nz ts S G
theorem arity_nz (a : Int) : ∀ ts : List Nd, Nz (arityN ts a)
  | [] => by unfold arityN; exact Nz.ok _
  | t :: ts => by
    unfold arityN
    split
    · exact Nz.at (by decide)
    · split
      · exact Nz.at (by decide)
      · exact arity_nz a ts
theorem Up.ok {α : Type} {a b : Except Flt α} {r : α} (h : Up a b) (e : a = .ok r) : b = .ok r := by subst e; exact h
mutual
/-- A tree names no function of Q. -/
def freeN (Q : ByteArray → Int → Prop) : Nd → Prop
  | .mk k tx nm _ kids => (k = 11 → ¬ Q tx nm) ∧ (k = 9 → ∀ c cs, kids = c :: cs → c.kind = 2 → ¬ Q c.text cs.length) ∧ freesN Q kids
def freesN (Q : ByteArray → Int → Prop) : List Nd → Prop
  | [] => True
  | t :: ts => freeN Q t ∧ freesN Q ts
end
theorem free_kids {Q : ByteArray → Int → Prop} {t : Nd} (h : freeN Q t) : freesN Q t.kids := by
  cases t; unfold freeN at h; exact h.2.2
section
variable {F F' : Fns} {Q : ByteArray → Int → Prop} (H : ∀ x n, ¬ Q x n → F x n = true → F' x n = true)
theorem call_up (H : ∀ x n, ¬ Q x n → F x n = true → F' x n = true) (kids : List Nd) (pl : Int) (h : ∀ c cs, kids = c :: cs → c.kind = 2 → ¬ Q c.text cs.length) : Up (callE F kids pl) (callE F' kids pl) := by
  unfold callE callN
  by_cases h12 : 12 < (kids.length : Int) - 1
  · rw [if_pos h12]; show (217 : Int) ≠ 0; decide
  · rw [if_neg h12, if_neg h12]
    match kids with
    | [] => exact Up.same _
    | c :: cs =>
      dsimp only
      by_cases hc : c.kind ≠ 2
      · rw [if_pos hc, if_pos hc]; exact Up.same _
      · rw [if_neg hc, if_neg hc]
        by_cases hf : F c.text cs.length = false ∧ kindN c.text.data.toList cs.length = 0
        · rw [if_pos hf]; show (215 : Int) ≠ 0; decide
        · have hf' : ¬ (F' c.text cs.length = false ∧ kindN c.text.data.toList cs.length = 0) := by
            intro e
            refine hf ⟨?_, e.2⟩
            cases hF : F c.text cs.length with
            | false => rfl
            | true =>
              have h2 := H c.text cs.length (h c cs rfl (Classical.not_not.1 hc)) hF
              rw [e.1] at h2; cases h2
          rw [if_neg hf, if_neg hf']
          exact Up.same _
mutual
theorem ex_up (H : ∀ x n, ¬ Q x n → F x n = true → F' x n = true) (b : Bool) : ∀ (t : Nd) (S G : Scope), freeN Q t → Up (exN F b t S G) (exN F' b t S G)
  | .mk k tx nm pl kids, S, G, hf => by
    unfold freeN at hf
    obtain ⟨hq, hc, hk⟩ := hf
    unfold exN
    by_cases h8 : k = 8
    · rw [if_pos h8, if_pos h8]
      cases b with
      | false => rw [if_neg (by decide)]; show (216 : Int) ≠ 0; decide
      | true =>
        rw [if_pos rfl, if_pos rfl]
        match kids, hk with
        | [], _ => exact Up.same _
        | [_], _ => exact Up.same _
        | [p, e], hk =>
          unfold freesN at hk
          have hk2 := hk.2
          unfold freesN at hk2
          have h1 := ex_up H true e S G hk2.1
          revert h1
          dsimp only
          cases exN F true e S G with
          | error f => exact id
          | ok x =>
            intro h1
            rw [show exN F' true e S G = .ok x from h1]
            have h2 := pat_nz p x.1
            revert h2
            dsimp only
            cases patN p x.1 with
            | error f => exact fun h => h f rfl
            | ok y => exact fun _ => Up.same _
        | _ :: _ :: _ :: _, _ => exact Up.same _
    · rw [if_neg h8, if_neg h8]
      by_cases h3 : k = 3
      · rw [if_pos h3, if_pos h3]
        have h1 := var_nz tx pl S G
        revert h1
        cases varF tx pl S G with
        | error f => exact fun h => h f rfl
        | ok _ => exact fun _ => exs_up H false kids S G hk
      · rw [if_neg h3, if_neg h3]
        by_cases h9 : k = 9
        · rw [if_pos h9, if_pos h9]
          have h1 := call_up H kids pl (hc h9)
          revert h1
          cases callE F kids pl with
          | error f => exact id
          | ok c =>
            intro h1
            rw [show callE F' kids pl = .ok c from h1]
            cases c with
            | true => exact tail_up H kids S G hk
            | false => exact exs_up H false kids S G hk
        · rw [if_neg h9, if_neg h9]
          by_cases h11 : k = 11
          · rw [if_pos h11, if_pos h11]
            by_cases hF : F tx nm = true
            · rw [if_pos hF, if_pos (H tx nm (hq h11) hF)]; exact exs_up H false kids S G hk
            · rw [if_neg hF]; show (215 : Int) ≠ 0; decide
          · rw [if_neg h11, if_neg h11]
            by_cases h10 : k = 10
            · rw [if_pos h10, if_pos h10]
              have h0 := arity_nz (firstN (kids.headD (.mk k tx nm pl kids))) kids
              revert h0
              cases arityN kids (firstN (kids.headD (.mk k tx nm pl kids))) with
              | error f => exact fun h => h f rfl
              | ok _ =>
                intro _
                have h1 := funs_up H kids S G hk
                revert h1
                dsimp only
                cases funsN F kids S G with
                | error f => exact id
                | ok x => intro h1; rw [show funsN F' kids S G = .ok x from h1]; exact Up.same _
            · rw [if_neg h10, if_neg h10]
              by_cases h12 : k = 12
              · rw [if_pos h12, if_pos h12]
                match kids, hk with
                | [], _ => exact Up.same _
                | e :: cs, hk =>
                  unfold freesN at hk
                  have h1 := ex_up H false e S G hk.1
                  revert h1
                  dsimp only
                  cases exN F false e S G with
                  | error f => exact id
                  | ok x => intro h1; rw [show exN F' false e S G = .ok x from h1]; exact cls_up H cs S x.2 hk.2
              · rw [if_neg h12, if_neg h12]
                by_cases h13 : k = 13 ∨ k = 14
                · rw [if_pos h13, if_pos h13]; exact cls_up H kids S G hk
                · rw [if_neg h13, if_neg h13]
                  by_cases h16 : k = 16
                  · rw [if_pos h16, if_pos h16]
                    match kids, hk with
                    | [], _ => exact Up.same _
                    | d :: cs, hk =>
                      unfold freesN at hk
                      have h1 := body_up H d S G hk.1
                      revert h1
                      dsimp only
                      cases bodyK F d S G with
                      | error f => exact id
                      | ok x => intro h1; rw [show bodyK F' d S G = .ok x from h1]; exact cls_up H cs S _ hk.2
                  · rw [if_neg h16, if_neg h16]
                    by_cases h19 : k = 19
                    · rw [if_pos h19, if_pos h19]
                      have h1 := exs_up H true kids S G hk
                      revert h1
                      cases exsN F true kids S G with
                      | error f => exact id
                      | ok x => intro h1; rw [show exsN F' true kids S G = .ok x from h1]; exact Up.same _
                    · rw [if_neg h19, if_neg h19]
                      by_cases h17 : k = 17
                      · rw [if_pos h17, if_pos h17]
                        match kids, hk with
                        | [], _ => exact Up.same _
                        | e :: qs, hk =>
                          unfold freesN at hk
                          have h1 := qua_up H qs S G hk.2
                          revert h1
                          dsimp only
                          cases quaN F qs S G with
                          | error f => exact id
                          | ok x =>
                            intro h1
                            rw [show quaN F' qs S G = .ok x from h1]
                            dsimp only
                            have h2 := ex_up H false e x.1 x.2 hk.1
                            revert h2
                            cases exN F false e x.1 x.2 with
                            | error f => exact id
                            | ok y => intro h2; rw [show exN F' false e x.1 x.2 = .ok y from h2]; exact Up.same _
                      · rw [if_neg h17, if_neg h17]; exact exs_up H false kids S G hk
theorem exs_up (H : ∀ x n, ¬ Q x n → F x n = true → F' x n = true) (b : Bool) : ∀ (ts : List Nd) (S G : Scope), freesN Q ts → Up (exsN F b ts S G) (exsN F' b ts S G)
  | [], S, G, _ => by unfold exsN; exact Up.same _
  | t :: ts, S, G, h => by
    unfold freesN at h
    unfold exsN
    have h1 := ex_up H b t S G h.1
    revert h1
    cases exN F b t S G with
    | error f => exact id
    | ok x => intro h1; rw [show exN F' b t S G = .ok x from h1]; exact exs_up H b ts x.1 x.2 h.2
theorem tail_up (H : ∀ x n, ¬ Q x n → F x n = true → F' x n = true) : ∀ (ts : List Nd) (S G : Scope), freesN Q ts → Up (exsTail F ts S G) (exsTail F' ts S G)
  | [], S, G, _ => by unfold exsTail; exact Up.same _
  | t :: ts, S, G, h => by unfold freesN at h; unfold exsTail; exact exs_up H false ts S G h.2
theorem body_up (H : ∀ x n, ¬ Q x n → F x n = true → F' x n = true) : ∀ (t : Nd) (S G : Scope), freeN Q t → Up (bodyK F t S G) (bodyK F' t S G)
  | .mk _ _ _ _ kids, S, G, h => by unfold freeN at h; unfold bodyK; exact exs_up H true kids S G h.2.2
theorem cls_up (H : ∀ x n, ¬ Q x n → F x n = true → F' x n = true) : ∀ (ts : List Nd) (S G : Scope), freesN Q ts → Up (clsN F ts S G) (clsN F' ts S G)
  | [], S, G, _ => by unfold clsN; exact Up.same _
  | t :: ts, S, G, h => by
    unfold freesN at h
    unfold clsN
    have h1 := cl_up H t S G h.1
    revert h1
    cases clN F t S G with
    | error f => exact id
    | ok x => intro h1; rw [show clN F' t S G = .ok x from h1]; exact cls_up H ts S x.2 h.2
theorem cl_up (H : ∀ x n, ¬ Q x n → F x n = true → F' x n = true) : ∀ (t : Nd) (S G : Scope), freeN Q t → Up (clN F t S G) (clN F' t S G)
  | .mk k _ _ _ kids, S, G, h => by
    unfold freeN at h
    have hk := h.2.2
    clear h
    unfold clN
    by_cases h15 : k = 15
    · rw [if_pos h15, if_pos h15]
      match kids, hk with
      | [], _ => exact Up.same _
      | [_], _ => exact Up.same _
      | [e, d], hk =>
        unfold freesN at hk
        have hk2 := hk.2
        unfold freesN at hk2
        have h1 := ex_up H false e S G hk.1
        revert h1
        dsimp only
        cases exN F false e S G with
        | error f => exact id
        | ok x =>
          intro h1
          rw [show exN F' false e S G = .ok x from h1]
          dsimp only
          have h2 := body_up H d S x.2 hk2.1
          revert h2
          cases bodyK F d S x.2 with
          | error f => exact id
          | ok y => intro h2; rw [show bodyK F' d S x.2 = .ok y from h2]; exact Up.same _
      | _ :: _ :: _ :: _, _ => exact Up.same _
    · rw [if_neg h15, if_neg h15]
      match kids, hk with
      | [], _ => exact Up.same _
      | [_], _ => exact Up.same _
      | [_, _], _ => exact Up.same _
      | [p, g, d], hk =>
        unfold freesN at hk
        have hk2 := hk.2
        unfold freesN at hk2
        have hk3 := hk2.2
        unfold freesN at hk3
        dsimp only
        have h0 := pats_nz p.kids S
        revert h0
        cases patsN p.kids S with
        | error f => exact fun h => h f rfl
        | ok own =>
          intro _
          dsimp only
          have h1 := all_nz g.kids own G
          revert h1
          cases allGuards g.kids own G with
          | error f => exact fun h => h f rfl
          | ok _ =>
            intro _
            dsimp only
            have h2 := body_up H d own G hk3.1
            revert h2
            cases bodyK F d own G with
            | error f => exact id
            | ok y => intro h2; rw [show bodyK F' d own G = .ok y from h2]; exact Up.same _
      | _ :: _ :: _ :: _ :: _, _ => exact Up.same _
theorem funs_up (H : ∀ x n, ¬ Q x n → F x n = true → F' x n = true) : ∀ (ts : List Nd) (S G : Scope), freesN Q ts → Up (funsN F ts S G) (funsN F' ts S G)
  | [], S, G, _ => by unfold funsN; exact Up.same _
  | t :: ts, S, G, h => by
    unfold freesN at h
    unfold funsN
    have h1 := fun_up H t S G h.1
    revert h1
    cases funN F t S G with
    | error f => exact id
    | ok x => intro h1; rw [show funN F' t S G = .ok x from h1]; exact funs_up H ts S x.2 h.2
theorem fun_up (H : ∀ x n, ¬ Q x n → F x n = true → F' x n = true) : ∀ (t : Nd) (S G : Scope), freeN Q t → Up (funN F t S G) (funN F' t S G)
  | .mk _ _ _ _ kids, S, G, h => by
    unfold freeN at h
    have hk := h.2.2
    clear h
    unfold funN
    match kids, hk with
    | [], _ => exact Up.same _
    | [_], _ => exact Up.same _
    | [_, _], _ => exact Up.same _
    | [p, g, d], hk =>
      unfold freesN at hk
      have hk2 := hk.2
      unfold freesN at hk2
      have hk3 := hk2.2
      unfold freesN at hk3
      dsimp only
      have h0 := pats_nz p.kids (fun _ => false)
      revert h0
      cases patsN p.kids (fun _ => false) with
      | error f => exact fun h => h f rfl
      | ok own =>
        intro _
        dsimp only
        have h1 := all_nz g.kids (fun t => own t || S t) G
        revert h1
        cases allGuards g.kids (fun t => own t || S t) G with
        | error f => exact fun h => h f rfl
        | ok _ => exact fun _ => body_up H d _ G hk3.1
    | _ :: _ :: _ :: _ :: _, _ => exact Up.same _
theorem qua_up (H : ∀ x n, ¬ Q x n → F x n = true → F' x n = true) : ∀ (ts : List Nd) (S G : Scope), freesN Q ts → Up (quaN F ts S G) (quaN F' ts S G)
  | [], S, G, _ => by unfold quaN; exact Up.same _
  | t :: ts, S, G, h => by
    unfold freesN at h
    unfold quaN
    by_cases h18 : t.kind = 18
    · rw [if_pos h18, if_pos h18]
      have h1 := qu_up H t S G h.1
      revert h1
      cases quN F t S G with
      | error f => exact id
      | ok x => intro h1; rw [show quN F' t S G = .ok x from h1]; exact qua_up H ts x.1 x.2 h.2
    · rw [if_neg h18, if_neg h18]
      have h1 := ex_up H false t S G h.1
      revert h1
      cases exN F false t S G with
      | error f => exact id
      | ok x => intro h1; rw [show exN F' false t S G = .ok x from h1]; exact qua_up H ts S x.2 h.2
theorem qu_up (H : ∀ x n, ¬ Q x n → F x n = true → F' x n = true) : ∀ (t : Nd) (S G : Scope), freeN Q t → Up (quN F t S G) (quN F' t S G)
  | .mk _ _ _ _ kids, S, G, h => by
    unfold freeN at h
    have hk := h.2.2
    clear h
    unfold quN
    match kids, hk with
    | [], _ => exact Up.same _
    | [_], _ => exact Up.same _
    | [p, e], hk =>
      unfold freesN at hk
      have hk2 := hk.2
      unfold freesN at hk2
      have h1 := ex_up H false e S G hk2.1
      revert h1
      dsimp only
      cases exN F false e S G with
      | error f => exact id
      | ok x =>
        intro h1
        rw [show exN F' false e S G = .ok x from h1]
        have h2 := pat_nz p (fun _ => false)
        revert h2
        dsimp only
        cases patN p (fun _ => false) with
        | error f => exact fun h => h f rfl
        | ok y => exact fun _ => Up.same _
    | _ :: _ :: _ :: _, _ => exact Up.same _
end
theorem top_up (H : ∀ x n, ¬ Q x n → F x n = true → F' x n = true) (t : Nd) (u : Unit) (h : freeN Q t) : Up (topE F t u) (topE F' t u) := by
  have hk := free_kids h
  unfold topE
  match t.kids, hk with
  | [], _ => exact Up.same _
  | [_], _ => exact Up.same _
  | [_, _], _ => exact Up.same _
  | [p, g, d], hk =>
    unfold freesN at hk
    have hk2 := hk.2
    unfold freesN at hk2
    have hk3 := hk2.2
    unfold freesN at hk3
    have h0 := pats_nz p.kids (fun _ => false)
    revert h0
    dsimp only
    cases patsN p.kids (fun _ => false) with
    | error f => exact fun h => h f rfl
    | ok own =>
      intro _
      dsimp only
      unfold restR
      have h1 := all_nz g.kids own (fun _ => false)
      revert h1
      cases allGuards g.kids own (fun _ => false) with
      | error f => exact fun h => h f rfl
      | ok _ =>
        intro _
        dsimp only
        have h2 := exs_up H true d.kids own (fun _ => false) (free_kids hk3.1)
        revert h2
        cases exsN F true d.kids own (fun _ => false) with
        | error f => exact id
        | ok x => intro h2; rw [show exsN F' true d.kids own (fun _ => false) = .ok x from h2]; exact Up.same _
  | _ :: _ :: _ :: _ :: _, _ => exact Up.same _
end
theorem fold_up {σ : Type} {f g : Nd → σ → Except Flt σ} : ∀ (ts : List Nd) (s : σ), (∀ t ∈ ts, ∀ s, Up (f t s) (g t s)) → Up (foldE f ts s) (foldE g ts s)
  | [], s, _ => by unfold foldE; exact Up.same _
  | t :: ts, s, h => by
    unfold foldE
    have h1 := h t List.mem_cons_self s
    revert h1
    cases f t s with
    | error e => exact id
    | ok x => intro h1; rw [show g t s = .ok x from h1]; exact fold_up ts x (fun t ht => h t (List.mem_cons_of_mem _ ht))
theorem frees_mem {Q : ByteArray → Int → Prop} {t : Nd} : ∀ {ts : List Nd}, freesN Q ts → t ∈ ts → freeN Q t
  | a :: l, h, hm => by
    unfold freesN at h
    rcases List.mem_cons.1 hm with rfl | hm
    · exact h.1
    · exact frees_mem h.2 hm
theorem fns_up {F F' : Fns} {Q : ByteArray → Int → Prop} (H : ∀ x n, ¬ Q x n → F x n = true → F' x n = true) (t : Nd) (u : Unit) (h : freeN Q t) : Up (fnsE F t u) (fnsE F' t u) := by
  unfold fnsE
  exact fold_up _ _ (fun x hx s => top_up H x s (frees_mem (free_kids h) hx))
end Go.Proofs.YtincajfanhanjaaDoor
namespace Go.Proofs.YtincajfanhanjaaDoor

/-- law07.calls -/
def hereN (nm : ByteArray) (ar : Int) : Nd → Bool
  | .mk k tx num _ kids => (decide (k = 11) && decide (tx = nm) && decide (num = ar)) || (decide (k = 9) && (match kids with | [] => false | c :: cs => decide (c.kind = 2) && decide (c.text = nm) && decide (((c :: cs).length : Int) = ar + 1)))
mutual
def callsN (nm : ByteArray) (ar : Int) : Nd → Bool
  | .mk k tx num pl kids => hereN nm ar (.mk k tx num pl kids) || callssN nm ar kids
def callssN (nm : ByteArray) (ar : Int) : List Nd → Bool
  | [] => false
  | t :: ts => callsN nm ar t || callssN nm ar ts
end
mutual
theorem free_of_calls {nm : ByteArray} {ar : Int} : ∀ t : Nd, callsN nm ar t = false → freeN (fun x n => x = nm ∧ n = ar) t
  | .mk k tx num pl kids, h => by
    unfold callsN hereN at h
    simp only [Bool.or_eq_false_iff, Bool.and_eq_false_iff, decide_eq_false_iff_not] at h
    unfold freeN
    refine ⟨fun hk e => ?_, fun hk c cs hc h2 e => ?_, frees_of_calls kids h.2⟩
    · rcases h.1.1 with (h1 | h1) | h1
      · exact h1 hk
      · exact h1 e.1
      · exact h1 e.2
    · subst hc
      rcases h.1.2 with h1 | h1
      · exact h1 hk
      · have h3 : (decide (c.kind = 2) && decide (c.text = nm) && decide (((c :: cs).length : Int) = ar + 1)) = false := h1
        simp only [Bool.and_eq_false_iff, decide_eq_false_iff_not] at h3
        clear h1
        rcases h3 with (h1 | h1) | h1
        · exact h1 h2
        · exact h1 e.1
        · exact h1 (by have := e.2; simp only [List.length_cons]; omega)
theorem frees_of_calls {nm : ByteArray} {ar : Int} : ∀ ts : List Nd, callssN nm ar ts = false → freesN (fun x n => x = nm ∧ n = ar) ts
  | [], _ => by unfold freesN; trivial
  | t :: ts, h => by
    unfold callssN at h
    rw [Bool.or_eq_false_iff] at h
    unfold freesN
    exact ⟨free_of_calls t h.1, frees_of_calls ts h.2⟩
end
mutual
theorem free_none : ∀ t : Nd, freeN (fun _ _ => False) t
  | .mk k tx num pl kids => by unfold freeN; exact ⟨fun _ h => h, fun _ _ _ _ _ h => h, frees_none kids⟩
theorem frees_none : ∀ ts : List Nd, freesN (fun _ _ => False) ts
  | [] => by unfold freesN; trivial
  | t :: ts => by unfold freesN; exact ⟨free_none t, frees_none ts⟩
end
/-! ### The functions that are declared -/
theorem decl_one {t : Nd} {F F1 : Fns} (h : declE t F = .ok F1) : F t.text t.num = false ∧ kindN t.text.data.toList t.num = 0 ∧ (∃ u, arityN t.kids t.num = .ok u) ∧ F1 = addF F t.text t.num := by
  unfold declE at h
  split at h
  · cases h
  · rename_i hn
    rw [not_or] at hn
    cases ha : arityN t.kids t.num with
    | error f => rw [ha] at h; cases h
    | ok u =>
      rw [ha] at h
      cases h
      exact ⟨by simpa using hn.1, by simpa using hn.2, ⟨u, rfl⟩, rfl⟩
theorem decl_one_mk {t : Nd} {F : Fns} (h1 : F t.text t.num = false) (h2 : kindN t.text.data.toList t.num = 0) {u : Unit} (h3 : arityN t.kids t.num = .ok u) : declE t F = .ok (addF F t.text t.num) := by
  unfold declE
  rw [if_neg (by rw [not_or]; exact ⟨by rw [h1]; decide, by simp [h2]⟩), h3]
def Apart (a b : Nd) : Prop := ¬ (b.text = a.text ∧ b.num = a.num)
def Fine (F0 : Fns) (t : Nd) : Prop := F0 t.text t.num = false ∧ kindN t.text.data.toList t.num = 0 ∧ ∃ u, arityN t.kids t.num = .ok u
theorem addF_iff {F : Fns} {s : ByteArray} {p : Int} {x : ByteArray} {n : Int} : addF F s p x n = true ↔ (x = s ∧ n = p) ∨ F x n = true := by
  unfold addF; simp
theorem decl_ok : ∀ (ts : List Nd) (F0 F : Fns), foldE declE ts F0 = .ok F → (∀ t ∈ ts, Fine F0 t) ∧ ts.Pairwise Apart ∧ ∀ x n, F x n = true ↔ F0 x n = true ∨ ∃ t ∈ ts, x = t.text ∧ n = t.num
  | [], F0, F, h => by
    unfold foldE at h
    cases h
    exact ⟨(fun t ht => by cases ht), .nil, fun x n => by simp⟩
  | t :: ts, F0, F, h => by
    unfold foldE at h
    cases hd : declE t F0 with
    | error f => rw [hd] at h; cases h
    | ok F1 =>
      rw [hd] at h
      obtain ⟨h1, h2, h3, rfl⟩ := decl_one hd
      obtain ⟨g1, g2, g3⟩ := decl_ok ts _ F h
      refine ⟨fun y hy => ?_, List.pairwise_cons.2 ⟨fun y hy e => ?_, g2⟩, fun x n => ?_⟩
      · rcases List.mem_cons.1 hy with rfl | hy
        · exact ⟨h1, h2, h3⟩
        · obtain ⟨e1, e2, e3⟩ := g1 y hy
          refine ⟨?_, e2, e3⟩
          cases hf : F0 y.text y.num with
          | false => rfl
          | true => rw [addF_iff.2 (.inr hf)] at e1; cases e1
      · have e1 := (g1 y hy).1
        rw [addF_iff.2 (.inl e)] at e1; cases e1
      · rw [g3 x n, addF_iff]
        constructor
        · rintro ((e | e) | ⟨y, hy, e⟩)
          · exact .inr ⟨t, List.mem_cons_self, e⟩
          · exact .inl e
          · exact .inr ⟨y, List.mem_cons_of_mem _ hy, e⟩
        · rintro (e | ⟨y, hy, e⟩)
          · exact .inl (.inr e)
          · rcases List.mem_cons.1 hy with rfl | hy
            · exact .inl (.inl e)
            · exact .inr ⟨y, hy, e⟩
theorem decl_mk : ∀ (ts : List Nd) (F0 : Fns), (∀ t ∈ ts, Fine F0 t) → ts.Pairwise Apart → ∃ F, foldE declE ts F0 = .ok F
  | [], F0, _, _ => ⟨F0, by unfold foldE; rfl⟩
  | t :: ts, F0, h, hp => by
    obtain ⟨h1, h2, u, h3⟩ := h t List.mem_cons_self
    obtain ⟨F, hF⟩ := decl_mk ts (addF F0 t.text t.num) (fun y hy => by
      obtain ⟨e1, e2, e3⟩ := h y (List.mem_cons_of_mem _ hy)
      refine ⟨?_, e2, e3⟩
      cases hf : addF F0 t.text t.num y.text y.num with
      | false => rfl
      | true =>
        rcases addF_iff.1 hf with e | e
        · exact absurd e ((List.pairwise_cons.1 hp).1 y hy)
        · rw [e1] at e; cases e) (List.pairwise_cons.1 hp).2
    exact ⟨F, by unfold foldE; rw [decl_one_mk h1 h2 h3]; exact hF⟩
theorem fold_all {f : Nd → Unit → Except Flt Unit} : ∀ {ts : List Nd}, (∃ u, foldE f ts () = .ok u) ↔ ∀ t ∈ ts, f t () = .ok ()
  | [] => by unfold foldE; exact ⟨(fun _ t h => by cases h), fun _ => ⟨_, rfl⟩⟩
  | t :: ts => by
    unfold foldE
    have ih := fold_all (f := f) (ts := ts)
    cases hf : f t () with
    | error e =>
      dsimp only
      exact ⟨(fun ⟨u, h⟩ => by cases h), fun h => by have := h t List.mem_cons_self; rw [hf] at this; cases this⟩
    | ok u =>
      dsimp only
      rw [ih]
      exact ⟨(fun h y hy => by
        rcases List.mem_cons.1 hy with rfl | hy
        · exact hf
        · exact h y hy), fun h y hy => h y (List.mem_cons_of_mem _ hy)⟩
/-! ### A module that is one -/
theorem fold_nz {σ : Type} {f : Nd → σ → Except Flt σ} (h : ∀ t s, Nz (f t s)) : ∀ (ts : List Nd) (s : σ), Nz (foldE f ts s)
  | [], s => by unfold foldE; exact Nz.ok _
  | t :: ts, s => by
    unfold foldE
    have h1 := h t s
    revert h1
    cases f t s with
    | error e => exact fun h g e => by cases e; exact h _ rfl
    | ok x => exact fun _ => fold_nz h ts x
theorem decl_nz (t : Nd) (F : Fns) : Nz (declE t F) := by
  unfold declE
  split
  · exact Nz.at (by decide)
  · have h1 := arity_nz t.num t.kids
    revert h1
    cases arityN t.kids t.num with
    | error e => exact fun h g e => by cases e; exact h _ rfl
    | ok x => exact fun _ => Nz.ok _
theorem fns_nz (F : Fns) (t : Nd) (u : Unit) : Nz (fnsE F t u) := (fns_up (F := F) (F' := F) (Q := fun _ _ => False) (fun _ _ _ h => h) t u (free_none t)).nz
theorem check_zero {m : Nd} (h : (checkN m).1 = 0) : m.kind = 22 ∧ rightN m = true ∧ ∃ F, foldE declE m.kids (fun _ _ => false) = .ok F ∧ ∀ t ∈ m.kids, fnsE F t () = .ok () := by
  unfold checkN checkE at h
  split at h
  · rename_i f hf
    split at hf
    · cases hf; exact absurd h (by decide)
    · exfalso
      cases hd : foldE declE m.kids (fun _ _ => false) with
      | error e =>
        rw [hd] at hf
        cases hf
        exact fold_nz decl_nz m.kids _ _ hd h
      | ok F =>
        rw [hd] at hf
        exact fold_nz (fns_nz F) m.kids _ _ hf h
  · rename_i u hu
    split at hu
    · cases hu
    · rename_i hn
      rw [not_or] at hn
      cases hd : foldE declE m.kids (fun _ _ => false) with
      | error e => rw [hd] at hu; cases hu
      | ok F =>
        rw [hd] at hu
        exact ⟨Classical.not_not.1 hn.1, by simpa using hn.2, F, rfl, fold_all.1 ⟨_, hu⟩⟩
theorem check_mk {m : Nd} {F : Fns} (hk : m.kind = 22) (hr : rightN m = true) (hd : foldE declE m.kids (fun _ _ => false) = .ok F) (hf : ∀ t ∈ m.kids, fnsE F t () = .ok ()) : (checkN m).1 = 0 := by
  obtain ⟨u, hu⟩ := fold_all.2 hf
  unfold checkN checkE
  rw [if_neg (by rw [hk, hr]; simp), hd]
  dsimp only
  rw [hu]
theorem module_of {m : Nd} (hk : m.kind = 22) (hr : rightN m = true) : (∀ t ∈ m.kids, functionN t = true) ∧ 0 ≤ m.place ∧ deepsN m.kids ≤ 49 ∧ manysN m.kids ≤ 16383 := by
  unfold rightN at hr
  simp only [Bool.and_eq_true, decide_eq_true_eq, Bool.or_eq_true] at hr
  have h3 : moduleN m = true := by
    rcases hr.1.1 with h | h
    · exact h
    · cases m
      simp only [Nd.kind] at hk
      subst hk
      rw [okM_zero] at h
      simp [itemH, shapeN] at h
  unfold moduleN plainN at h3
  simp only [Bool.and_eq_true, List.all_eq_true, decide_eq_true_eq] at h3
  obtain ⟨⟨_, h4⟩, h5⟩ := hr
  cases m with
  | mk k tx nm pl kids =>
    unfold deepN at h4
    unfold manyN at h5
    exact ⟨h3.2, h3.1.2, by simp only [Nd.kids]; omega, by simp only [Nd.kids]; omega⟩
theorem module_mk {kids : List Nd} {pl : Int} (hf : ∀ t ∈ kids, functionN t = true) (hp : 0 ≤ pl) (hd : deepsN kids ≤ 49) (hm : manysN kids ≤ 16383) : rightN (.mk 22 ⟨#[]⟩ 0 pl kids) = true := by
  unfold rightN
  simp only [Bool.and_eq_true, decide_eq_true_eq, Bool.or_eq_true]
  refine ⟨⟨.inl ?_, by unfold deepN; omega⟩, by unfold manyN; omega⟩
  unfold moduleN plainN
  simp only [Bool.and_eq_true, List.all_eq_true]
  exact ⟨⟨⟨⟨rfl, rfl⟩, rfl⟩, decide_eq_true hp⟩, hf⟩
theorem deeps_app : ∀ (a b : List Nd), deepsN (a ++ b) = max (deepsN a) (deepsN b)
  | [], b => by simp [deepsN]
  | t :: ts, b => by
    have := deeps_app ts b
    simp only [List.cons_append, deepsN]; omega
theorem manys_app : ∀ (a b : List Nd), manysN (a ++ b) = manysN a + manysN b
  | [], b => by simp [manysN]
  | t :: ts, b => by
    have := manys_app ts b
    simp only [List.cons_append, manysN]; omega
/-! ### The three laws -/
theorem law_rest {a : Nd} (h : (checkN a).1 = 0) {k : Nat} {f : Nd} (hf : a.kids[k]? = some f) (hc : callssN f.text f.num (a.kids.take k ++ a.kids.drop (k + 1)) = false) :
    (checkN (.mk 22 ⟨#[]⟩ 0 a.place (a.kids.take k ++ a.kids.drop (k + 1)))).1 = 0 := by
  obtain ⟨hk, hr, F, hd, hfs⟩ := check_zero h
  obtain ⟨m1, m2, m3, m4⟩ := module_of hk hr
  obtain ⟨d1, d2, d3⟩ := decl_ok _ _ _ hd
  have hl : k < a.kids.length := (List.getElem?_eq_some_iff.1 hf).1
  have hsplit : a.kids = a.kids.take k ++ f :: a.kids.drop (k + 1) := by
    have h1 := List.take_append_drop k a.kids
    rw [List.drop_eq_getElem_cons hl, (List.getElem?_eq_some_iff.1 hf).2] at h1
    exact h1.symm
  obtain ⟨X, hX⟩ : ∃ X, a.kids.take k = X := ⟨_, rfl⟩
  obtain ⟨Y, hY⟩ : ∃ Y, a.kids.drop (k + 1) = Y := ⟨_, rfl⟩
  rw [hX, hY] at hsplit hc ⊢
  have hmem : ∀ t ∈ X ++ Y, t ∈ a.kids := fun t ht => by
    rw [hsplit]
    rcases List.mem_append.1 ht with h | h
    · exact List.mem_append_left _ h
    · exact List.mem_append_right _ (List.mem_cons_of_mem _ h)
  have hdp : deepsN (X ++ Y) ≤ 49 := by rw [hsplit, deeps_app] at m3; rw [deeps_app]; simp only [deepsN] at m3; omega
  have hmn : manysN (X ++ Y) ≤ 16383 := by rw [hsplit, manys_app] at m4; rw [manys_app]; simp only [manysN] at m4; omega
  have hpw : (X ++ Y).Pairwise Apart := by
    rw [hsplit] at d2
    refine d2.sublist ?_
    exact List.Sublist.append (List.Sublist.refl _) (List.sublist_cons_self _ _)
  obtain ⟨F', hF'⟩ := decl_mk (X ++ Y) (fun _ _ => false) (fun t ht => d1 t (hmem t ht)) hpw
  obtain ⟨_, _, e3⟩ := decl_ok _ _ _ hF'
  refine check_mk rfl (module_mk (fun t ht => m1 t (hmem t ht)) m2 hdp hmn) hF' (fun t ht => ?_)
  refine (fns_up (F := F) (F' := F') (Q := fun x n => x = f.text ∧ n = f.num) (fun x n hq hF => ?_) t () (frees_mem (frees_of_calls _ hc) ht)).ok (hfs t (hmem t ht))
  rw [e3]
  rcases (d3 x n).1 hF with e | ⟨y, hy, e⟩
  · exact .inl e
  · refine .inr ⟨y, ?_, e⟩
    rw [hsplit] at hy
    rcases List.mem_append.1 hy with h | h
    · exact List.mem_append_left _ h
    · rcases List.mem_cons.1 h with rfl | h
      · exact absurd e hq
      · exact List.mem_append_right _ h
theorem fold_app {σ : Type} {f : Nd → σ → Except Flt σ} : ∀ (a b : List Nd) (s : σ), foldE f (a ++ b) s = match foldE f a s with | .error e => .error e | .ok s' => foldE f b s'
  | [], b, s => by simp only [List.nil_append, foldE]
  | t :: ts, b, s => by
    simp only [List.cons_append, foldE]
    cases f t s with
    | error e => rfl
    | ok x => exact fold_app ts b x
theorem law_twice {a : Nd} (h : (checkN a).1 = 0) {f : Nd} (hf : f ∈ a.kids) (hm : manysN a.kids + manyN f ≤ 16383) : checkN (.mk 22 ⟨#[]⟩ 0 0 (a.kids ++ [f])) = (210, f.place) := by
  obtain ⟨hk, hr, F, hd, hfs⟩ := check_zero h
  obtain ⟨m1, m2, m3, m4⟩ := module_of hk hr
  obtain ⟨d1, d2, d3⟩ := decl_ok _ _ _ hd
  have hdf : ∀ {ts : List Nd}, f ∈ ts → deepN f ≤ deepsN ts := by
    intro ts
    induction ts with
    | nil => intro h; cases h
    | cons t ts ih =>
      intro h
      unfold deepsN
      rcases List.mem_cons.1 h with rfl | h
      · omega
      · have := ih h; omega
  have h1 := hdf hf
  have hr2 : rightN (.mk 22 ⟨#[]⟩ 0 0 (a.kids ++ [f])) = true := module_mk (fun t ht => by
    rcases List.mem_append.1 ht with h | h
    · exact m1 t h
    · rw [List.mem_singleton] at h; subst h; exact m1 t hf) (by omega) (by rw [deeps_app]; simp only [deepsN]; omega) (by rw [manys_app]; simp only [manysN]; omega)
  have hF : F f.text f.num = true := (d3 _ _).2 (.inr ⟨f, hf, rfl, rfl⟩)
  unfold checkN checkE
  rw [if_neg (by rw [hr2]; simp [Nd.kind])]
  rw [show (Nd.mk 22 ⟨#[]⟩ 0 0 (a.kids ++ [f])).kids = a.kids ++ [f] from rfl, fold_app, hd]
  have he : declE f F = .error (210, f.place) := by unfold declE; rw [if_pos (.inl hF)]
  dsimp only
  unfold foldE
  rw [he]
theorem law_both {a b : Nd} (ha : (checkN a).1 = 0) (hb : (checkN b).1 = 0) (hab : ∀ x ∈ a.kids, ∀ y ∈ b.kids, ¬ (x.text = y.text ∧ x.num = y.num)) (hm : manysN a.kids + manysN b.kids ≤ 16383) : (checkN (.mk 22 ⟨#[]⟩ 0 0 (a.kids ++ b.kids))).1 = 0 := by
  obtain ⟨hk, hr, F, hd, hfs⟩ := check_zero ha
  obtain ⟨m1, m2, m3, m4⟩ := module_of hk hr
  obtain ⟨d1, d2, d3⟩ := decl_ok _ _ _ hd
  obtain ⟨hk', hr', F', hd', hfs'⟩ := check_zero hb
  obtain ⟨m1', m2', m3', m4'⟩ := module_of hk' hr'
  obtain ⟨d1', d2', d3'⟩ := decl_ok _ _ _ hd'
  obtain ⟨F2, hF2⟩ := decl_mk (a.kids ++ b.kids) (fun _ _ => false) (fun t ht => (List.mem_append.1 ht).elim (d1 t) (d1' t)) (List.pairwise_append.2 ⟨d2, d2', fun x hx y hy e => hab x hx y hy ⟨e.1.symm, e.2.symm⟩⟩)
  obtain ⟨_, _, e3⟩ := decl_ok _ _ _ hF2
  refine check_mk rfl (module_mk (fun t ht => (List.mem_append.1 ht).elim (m1 t) (m1' t)) (by omega) (by rw [deeps_app]; omega) (by rw [manys_app]; omega)) hF2 (fun t ht => ?_)
  rcases List.mem_append.1 ht with h | h
  · refine (fns_up (F := F) (F' := F2) (Q := fun _ _ => False) (fun x n _ hF => ?_) t () (free_none t)).ok (hfs t h)
    rw [e3]
    exact ((d3 x n).1 hF).imp id (fun ⟨y, hy, e⟩ => ⟨y, List.mem_append_left _ hy, e⟩)
  · refine (fns_up (F := F') (F' := F2) (Q := fun _ _ => False) (fun x n _ hF => ?_) t () (free_none t)).ok (hfs' t h)
    rw [e3]
    exact ((d3' x n).1 hF).imp id (fun ⟨y, hy, e⟩ => ⟨y, List.mem_append_right _ hy, e⟩)
end Go.Proofs.YtincajfanhanjaaDoor
