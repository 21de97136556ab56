/- What a pattern's filling is made of, part by part; appends of a term and of a core as an operation. law11.filled: a pattern's places filled with what is bound. Printed by mkmatfill.py. -/
import Derived.Test.YtjdbjjjbgibpaaaGreatDoorMatConsJn
namespace Go.Proofs.YtjdbjjjbgibpaaaGreatDoor
open Go.RowKit

mutual
/-- What law11.filled goes through: the pattern, and the right term that it makes. -/
inductive Fill (V : VSt) : Co → Tm → Prop
  | any {n : Nat} {u : Tm} (h : V.vals[n]? = some u) : Fill V (.mk 21 ⟨#[]⟩ n zeroTm []) u
  | tup {ks : List Co} {us : List Tm} (hs : Fills V ks us) (hl : us.length ≤ 4096) : Fill V (.mk 24 ⟨#[]⟩ 0 zeroTm ks) (.mk 6 false [] ⟨#[]⟩ 0 us [])
  | cons {c d : Co} {u x y : Tm} (hg : goodT u) (hs : splitT u = some (x, y)) (h1 : Fill V c x) (h2 : Fill V d y) : Fill V (.mk 25 ⟨#[]⟩ 0 zeroTm [c, d]) u
  | con {t : Tm} : Fill V (.mk 23 ⟨#[]⟩ 0 t []) t
inductive Fills (V : VSt) : List Co → List Tm → Prop
  | nil : Fills V [] []
  | cons {c : Co} {u : Tm} {cs : List Co} {us : List Tm} (h : Fill V c u) (hs : Fills V cs us) : Fills V (c :: cs) (u :: us)
end
theorem Fills.len {V : VSt} : ∀ {ks : List Co} {us : List Tm}, Fills V ks us → ks.length = us.length
  | _, _, .nil => rfl
  | _, _, .cons _ hs => by simp [hs.len]
theorem Fills.get {V : VSt} : ∀ {ks : List Co} {us : List Tm}, Fills V ks us → ∀ {i : Nat} {c : Co}, ks[i]? = some c → ∃ u, us[i]? = some u ∧ Fill V c u
  | _, _, .nil, i, c, h => by simp at h
  | _, _, .cons h hs, i, c, hc => by
    cases i with
    | zero =>
      simp only [List.getElem?_cons_zero, Option.some.injEq] at hc
      subst hc
      exact ⟨_, rfl, h⟩
    | succ i => exact hs.get (by simpa using hc)
mutual
theorem Pat.fill : ∀ {t : Tm} {a b : Nat} {c : Co}, Pat t a c b → goodT t → ∀ (u : Tm) (v v' : VSt), goodT u → V100 v → matchN c u v = some v' → ∀ V, ValsAs V v' a b → Fill V c u
  | t, a, _, _, .any h, _, u, v, v', hu, hv, hm => by
    rw [match_21, if_neg (by rw [hv.1]; omega)] at hm
    injection hm with hm
    subst hm
    intro V hV
    refine .any ?_
    rw [hV a (Nat.le_refl _) (by omega)]
    show (v.vals.set a u)[a]? = _
    rw [List.getElem?_set, if_pos rfl, if_pos (by rw [hv.2]; omega)]
  | t, a, b, _, .tup h hs, hg, u, v, v', hu, hv, hm => by
    rw [match_24'] at hm
    split at hm
    · rename_i h6
      intro V hV
      have h1 := hs.fill (good_parts hg).1 u.items v v' (good_parts hu).1 hv hm V hV
      have h2 := Fill.tup h1 (right_items hu.1 (.inl h6))
      rw [six_eq hu h6]
      exact h2
    · cases hm
  | t, a, b, _, .cons (m := m) (c := c) (d := d) h6 hsp h1 h2, hg, u, v, v', hu, hv, hm => by
    obtain ⟨gh, gr, _, _⟩ := cons_split hg hsp
    rw [match_25'] at hm
    cases hsu : splitT u with
    | none => rw [hsu] at hm; cases hm
    | some p =>
      obtain ⟨x, r⟩ := p
      rw [hsu] at hm
      have hm : rowsN [c, d] [x, r] v = some v' := hm
      rw [two_rows] at hm
      obtain ⟨gx, gr', _, _⟩ := cons_split hu hsu
      cases e1 : matchN c x v with
      | none => rw [e1] at hm; cases hm
      | some v1 =>
        rw [e1, Option.bind_some] at hm
        obtain ⟨b1, _⟩ := h2.fills gr r v1 v' gr' (match_100 e1 hv) hm
        have l1 := h1.le.1
        have l2 := h2.le.1
        intro V hV
        exact .cons hu hsu (h1.fill gh x v v1 gx hv e1 V (fun i h1 h2 => by rw [hV i h1 (by omega), b1 i (by omega)])) (h2.fill gr r v1 v' gr' (match_100 e1 hv) hm V (fun i h1 h2 => hV i (by omega) h2))
  | t, a, _, _, .con h6 hsp, hg, u, v, v', hu, hv, hm => by
    rw [match_23'] at hm
    split at hm
    · rename_i hs
      intro V _
      rw [← ((same_iff hg.2 hu.2).1 hs).2]
      exact .con
    · cases hm
theorem Pats.fill : ∀ {l : List Tm} {a b : Nat} {cs : List Co}, Pats l a cs b → (∀ x ∈ l, goodT x) → ∀ (us : List Tm) (v v' : VSt), (∀ x ∈ us, goodT x) → V100 v → rowsN cs us v = some v' → ∀ V, ValsAs V v' a b → Fills V cs us
  | _, a, _, _, .nil, _, us, v, v', _, _, hm => by
    match us, hm with
    | [], hm => exact fun V _ => .nil
    | _ :: _, hm => unfold rowsN at hm; cases hm
  | _, _, _, _, .cons (m := m) (cs := cs) h hs, hg, us, v, v', hu, hv, hm => by
    match us, hm, hu with
    | [], hm, _ => unfold rowsN at hm; cases hm
    | u :: us, hm, hu =>
      have hl : cs.length = us.length := by
        unfold rowsN at hm
        split at hm
        · assumption
        · cases hm
      rw [rows_cons _ _ _ _ _ hl] at hm
      cases e1 : matchN _ u v with
      | none => rw [e1] at hm; cases hm
      | some v1 =>
        rw [e1, Option.bind_some] at hm
        obtain ⟨b1, _⟩ := hs.fills (fun x hx => hg x (List.mem_cons_of_mem _ hx)) us v1 v' (fun x hx => hu x (List.mem_cons_of_mem _ hx)) (match_100 e1 hv) hm
        have l1 := h.le.1
        have l2 := hs.le.1
        intro V hV
        exact .cons (h.fill (hg _ List.mem_cons_self) u v v1 (hu _ List.mem_cons_self) hv e1 V (fun i h1 h2 => by rw [hV i h1 (by omega), b1 i (by omega)])) (hs.fill (fun x hx => hg x (List.mem_cons_of_mem _ hx)) us v1 v' (fun x hx => hu x (List.mem_cons_of_mem _ hx)) (match_100 e1 hv) hm V (fun i h1 h2 => hV i (by omega) h2))
end
theorem self_fill {t : Tm} {c : Co} {b : Nat} (h : Pat t 0 c b) (hg : goodT t) : ∃ v, matchF c t (newV 100) = some v ∧ V100 v ∧ Fill v c t ∧ ∀ i, i < 100 → v.has[i]? = some (decide (i < b)) := by
  obtain ⟨v, e, h1, _, h3⟩ := fills_self h hg
  refine ⟨v, e, h1, ?_, h3⟩
  unfold matchF at e
  rw [if_pos ⟨hg.1, newV_made 100⟩] at e
  exact h.fill hg t _ v hg newV_100 e v (fun _ _ _ => rfl)
theorem other_fill {t u : Tm} {c : Co} {b : Nat} {v : VSt} (h : Pat t 0 c b) (hg : goodT t) (hu : okT u) (hm : matchF c u (newV 100) = some v) : V100 v ∧ Fill v c u ∧ rightT u = true := by
  obtain ⟨h1, _, h3⟩ := fills_other h hg hu hm
  refine ⟨h1, ?_, h3⟩
  unfold matchF at hm
  rw [if_pos ⟨h3, newV_made 100⟩] at hm
  exact h.fill hg u _ v ⟨h3, hu⟩ newV_100 hm v (fun _ _ _ => rfl)
theorem okT_items {t : Tm} (h : okT t) : okTs t.items := by
  obtain ⟨k, ng, limbs, text, num, items, tail⟩ := t
  unfold okT at h
  exact h.2.2.2.2.1
mutual
theorem Pat.okc : ∀ {t : Tm} {a b : Nat} {c : Co}, Pat t a c b → okT t → a ≤ 100 → okC c
  | _, a, _, _, .any h, _, _ => core_ok 21 a [] (by omega) (by omega) cores_ok_nil
  | _, _, _, _, .tup h hs, ho, ha => core_ok 24 0 _ (by omega) (by omega) (hs.okc (okT_items ho) ha)
  | _, _, _, _, .cons h6 hsp h1 h2, ho, ha => core_ok 25 0 _ (by omega) (by omega) (cores_ok_two (h1.okc (okT_split hsp ho).1 ha) (h2.okc (okT_split hsp ho).2 (h1.le.2 ha)))
  | _, _, _, _, .con h6 hsp, ho, _ => by
    unfold okC
    exact ⟨by omega, by show (0 : Nat) ≤ _; omega, by omega, ho, cores_ok_nil⟩
theorem Pats.okc : ∀ {l : List Tm} {a b : Nat} {cs : List Co}, Pats l a cs b → okTs l → a ≤ 100 → okCs cs
  | _, _, _, _, .nil, _, _ => cores_ok_nil
  | _, _, _, _, .cons h hs, ho, ha => by
    unfold okTs at ho
    unfold okCs
    exact ⟨h.okc ho.1 ha, hs.okc ho.2 (h.le.2 ha)⟩
end
/-- An append, as an operation. -/
theorem wp_append_op {P : Program} (w : World) {o : Oper} {a : Act} {K : Act → World → Prop} {Q : Exit → Act → World → Prop} (s x : Operand) (t : TypeId)
    (ho : o.op = .call { callee := .builtin .append, args := #[s, x], argTypes := #[t, t] })
    (e : TypeId) (i : TypeInfo) (z : Value) (size bytes : Nat) (ht : P.underlying t = some (.slice e)) (hi : P.info? e = some i) (hz : i.zero = some z)
    (hsize : i.size = size) (hby : i.bytes = bytes) (hzs : z.cells.size = size) (hsz : 0 < size)
    (A : Option Addr) (n c : Nat) (xs : List Value) (he : a.eval s = .slice A n c) (hs : Slab w e size A n c xs)
    (B : Nat → Prop) (F : Bool) (A2 : Option Addr) (m c2 : Nat) (news : List Value) (hx : a.eval x = .slice A2 m c2) (hr : Reads w B F size A2 m news) (hm : 0 < m) (h1 : ∀ u ∈ news, u.oneCell' = true)
    (h63 : n + m ≤ maxLen) (hbytes : (n + m) * bytes ≤ 140737488355328)
    (h : ∀ A' c' w', Slab w' e size A' (n + m) c' (xs ++ news) → Keeps (rowB A) w w' → Moved w A A' → K (a.put o.dst (.slice A' (n + m) c')) w') : o.wp P a w K Q := by
  obtain ⟨A', c', w', hrun, h2, h3, h4⟩ := run_append_slab (P := P) w t o.type e i z size bytes ht hi hz hsize hby hzs hsz A n c xs hs B F A2 m c2 news hr hm h1 h63 hbytes
  unfold Oper.wp execOp
  simp only [ho, resolve, invoke, builtin, Sem.run_bind, Sem.run_pure, Result.andThen_ok, List.map_toArray, List.map_cons, List.map_nil, he, hx, hrun]
  exact h A' c' w' h2 h3 h4
theorem seven_ones {w : World} {B : Nat → Prop} {F : Bool} {t : Tm} {cs : List Value} (h : TermIn w B F cs t) : ∀ u ∈ cs, u.oneCell' = true := by
  cases t
  unfold TermIn at h
  obtain ⟨la, ln, lc, ia, im, ic, ta, tn, tc, css, dss, rfl, _⟩ := h
  intro u hu
  simp only [List.mem_cons, List.not_mem_nil, or_false] at hu
  rcases hu with rfl | rfl | rfl | rfl | rfl | rfl | rfl <;> rfl
theorem eleven_ones {w : World} {B : Nat → Prop} {F : Bool} {t : Co} {cs : List Value} (h : CoreIn w B F cs t) : ∀ u ∈ cs, u.oneCell' = true := by
  obtain ⟨kd, tx, nm, tk, ng, la, ln, lc, tt, tn, ia, im, ic, ta, tm, tc, ka, kn, kc, tr, kids, dss, rfl, rfl, _⟩ := h.opened
  intro u hu
  simp only [List.mem_cons, List.not_mem_nil, or_false] at hu
  rcases hu with rfl | rfl | rfl | rfl | rfl | rfl | rfl | rfl | rfl | rfl | rfl <;> rfl
theorem one_reads {w : World} {g size : Nat} {t : TypeId} {cs : List Value} (hb : Blk w g t cs.toArray) (h : cs.length = size) : Reads w (fun k => k = g) false size (some ⟨g, 0, none⟩) 1 cs := by
  refine ⟨by omega, fun _ => ⟨_, rfl, rfl, rfl, hb.lt, fun j u hu => ⟨?_, fun h => by cases h⟩⟩⟩
  rw [hb.cell, Nat.zero_add]
  simpa using hu
theorem Tryz.infoF26 : (Tryz.prog.info? 26).map (fun i => (i.zero, i.size, i.bytes)) = some (some (.agg #[.int .u8 0, .bool false, .slice none 0 0, .string ⟨#[]⟩, .int .i64 0, .slice none 0 0, .slice none 0 0]), 7, 104) := by kernel_rfl
theorem Tryz.infoF34 : (Tryz.prog.info? 34).map (fun i => (i.zero, i.size, i.bytes)) = some (some (.agg #[.int .u8 0, .string ⟨#[]⟩, .int .i64 0, .int .u8 0, .bool false, .slice none 0 0, .string ⟨#[]⟩, .int .i64 0, .slice none 0 0, .slice none 0 0, .slice none 0 0]), 11, 160) := by kernel_rfl
/-- A term appended. -/
theorem wp_append_term (w : World) {o : Oper} {a : Act} {K : Act → World → Prop} {Q : Exit → Act → World → Prop} (s x : Operand)
    (ho : o.op = .call { callee := .builtin .append, args := #[s, x], argTypes := #[24, 24] })
    (A : Option Addr) (n c : Nat) (css : List (List Value)) (he : a.eval s = .slice A n c) (hs : Slab w 26 7 A n c css.flatten) (hn : n ≤ 10000)
    (g : Nat) (t : TypeId) (cs : List Value) (u : Tm) (B : Nat → Prop) (hx : a.eval x = .slice (some ⟨g, 0, none⟩) 1 1) (hb : Blk w g t cs.toArray) (hu : TermIn w B false cs u)
    (h : ∀ A' c' w', Slab w' 26 7 A' (n + 1) c' (css ++ [cs]).flatten → Keeps (rowB A) w w' → Moved w A A' → K (a.put o.dst (.slice A' (n + 1) c')) w') : o.wp Tryz.prog a w K Q := by
  obtain ⟨i0, ni0, nz0, nz1, nz2⟩ := info_parts Tryz.infoF26
  refine wp_append_op w s x 24 ho 26 i0 _ 7 104 Tryz.underlying24 ni0 nz0 nz1 nz2 rfl (by omega) A n c css.flatten he hs _ false _ 1 1 cs hx (one_reads hb hu.len) (by omega) (seven_ones hu) (by unfold maxLen; omega) (by omega) (fun A' c' w' h1 h2 h3 => h A' c' w' ?_ h2 h3)
  rw [List.flatten_append]
  simpa using h1
/-- A core appended. -/
theorem wp_append_core (w : World) {o : Oper} {a : Act} {K : Act → World → Prop} {Q : Exit → Act → World → Prop} (s x : Operand)
    (ho : o.op = .call { callee := .builtin .append, args := #[s, x], argTypes := #[32, 32] })
    (A : Option Addr) (n c : Nat) (css : List (List Value)) (he : a.eval s = .slice A n c) (hs : Slab w 34 11 A n c css.flatten) (hn : n ≤ 10000)
    (g : Nat) (t : TypeId) (cs : List Value) (u : Co) (B : Nat → Prop) (hx : a.eval x = .slice (some ⟨g, 0, none⟩) 1 1) (hb : Blk w g t cs.toArray) (hu : CoreIn w B false cs u)
    (h : ∀ A' c' w', Slab w' 34 11 A' (n + 1) c' (css ++ [cs]).flatten → Keeps (rowB A) w w' → Moved w A A' → K (a.put o.dst (.slice A' (n + 1) c')) w') : o.wp Tryz.prog a w K Q := by
  obtain ⟨i0, ni0, nz0, nz1, nz2⟩ := info_parts Tryz.infoF34
  refine wp_append_op w s x 32 ho 34 i0 _ 11 160 Tryz.underlying32 ni0 nz0 nz1 nz2 rfl (by omega) A n c css.flatten he hs _ false _ 1 1 cs hx (one_reads hb hu.len) (by omega) (eleven_ones hu) (by unfold maxLen; omega) (by omega) (fun A' c' w' h1 h2 h3 => h A' c' w' ?_ h2 h3)
  rw [List.flatten_append]
  simpa using h1
theorem core_parts {w : World} {B : Nat → Prop} {k z : Int} {s : ByteArray} {tr : Tm} {ks : List Co} {ck : Int} {cx : ByteArray} {cn tk : Int} {cg : Bool} {ca : Option Addr} {cl cc : Nat} {tt : ByteArray} {tz : Int} {ja : Option Addr} {jm jc : Nat} {ua : Option Addr} {um uc : Nat} {ka : Option Addr} {kn kc : Nat}
    (h : CoreIn w B false [.int .u8 ck, .string cx, .int .i64 cn, .int .u8 tk, .bool cg, .slice ca cl cc, .string tt, .int .i64 tz, .slice ja jm jc, .slice ua um uc, .slice ka kn kc] (.mk k s z tr ks)) :
    ck = k ∧ cn = z ∧ TermIn w B false [.int .u8 tk, .bool cg, .slice ca cl cc, .string tt, .int .i64 tz, .slice ja jm jc, .slice ua um uc] tr ∧ Roomy kn 160 ∧ ∃ css, Reads w B false 11 ka kn (List.flatten css) ∧ CoresIn w B false css ks ∧ ks.length = kn := by
  obtain ⟨kd, tx, nm, tk', ng, la, ln, lc, tt', tn, ia, im, ic, ta, tm, tc, ka', kn', kc', tr', kids, css, e1, e2, h1, h2, h3, h4, h5⟩ := h.opened
  cases e1
  cases e2
  exact ⟨rfl, rfl, h1, h2, css, h3, h4, h5⟩
end Go.Proofs.YtjdbjjjbgibpaaaGreatDoor
namespace Go.Proofs.YtjdbjjjbgibpaaaGreatDoor
open Go.RowKit

def FP (w : World) (B : Nat → Prop) (u : Tm) (e : Ending) (w' : World) : Prop := ∃ (kd9 : Int) (ng9 : Bool) (la9 : Option Addr) (ln9 lc9 : Nat) (tx9 : ByteArray) (nm9 : Int) (ia9 : Option Addr) (im9 ic9 : Nat) (ta9 : Option Addr) (tn9 tc9 : Nat), e = .returned (.agg #[.int .u8 kd9, .bool ng9, .slice la9 ln9 lc9, .string tx9, .int .i64 nm9, .slice ia9 im9 ic9, .slice ta9 tn9 tc9]) ∧ TermIn w' (fun k => B k ∨ w.heap.size ≤ k) false [.int .u8 kd9, .bool ng9, .slice la9 ln9 lc9, .string tx9, .int .i64 nm9, .slice ia9 im9 ic9, .slice ta9 tn9 tc9] u ∧ Keeps NoB w w'
def FSaid (V : VSt) (M : Nat) : Prop := ∀ (p : Co) (u : Tm), p.size ≤ M → Fill V p u → ∀ (w : World) (B : Nat → Prop) (ck1 : Int) (cx1 : ByteArray) (cn1 tk1 : Int) (cg1 : Bool) (ca1 : Option Addr) (cl1 cc1 : Nat) (tt1 : ByteArray) (tz1 : Int) (ja1 : Option Addr) (jm1 jc1 : Nat) (ua1 : Option Addr) (um1 uc1 : Nat) (ka1 : Option Addr) (kn1 kc1 : Nat) (A : Option Addr) (n c : Nat) (D : Option Addr) (m d : Nat) (css : List (List Value)),
  CoreIn w B false [.int .u8 ck1, .string cx1, .int .i64 cn1, .int .u8 tk1, .bool cg1, .slice ca1 cl1 cc1, .string tt1, .int .i64 tz1, .slice ja1 jm1 jc1, .slice ua1 um1 uc1, .slice ka1 kn1 kc1] p → VIn w B A n c D m d css V → Calls Tryz.prog 13 #[.agg #[.int .u8 ck1, .string cx1, .int .i64 cn1, .int .u8 tk1, .bool cg1, .slice ca1 cl1 cc1, .string tt1, .int .i64 tz1, .slice ja1 jm1 jc1, .slice ua1 um1 uc1, .slice ka1 kn1 kc1], .agg #[.slice A n c, .slice D m d]] w (FP w B u)
theorem VIn.wide {w : World} {B : Nat → Prop} {A D : Option Addr} {n c m d : Nat} {css : List (List Value)} {v : VSt} (h : VIn w B A n c D m d css v) : VIn w TT A n c D m d css v :=
  ⟨h.hb.more (fun _ _ _ => trivial), h.hv.more (fun _ _ _ => trivial), TermsIn.more (fun _ _ _ => trivial) _ _ h.ht, h.r1, h.r2⟩
theorem core_cells {w : World} {B : Nat → Prop} {ts : List Co} {css : List (List Value)} {A : Option Addr} {n : Nat} (hr : Reads w B false 11 A n css.flatten) (ht : CoresIn w B false css ts) (k : Nat) (hk : k < n) :
    ∃ (b o : Nat) (t : Co) (ck2 : Int) (cx2 : ByteArray) (cn2 tk2 : Int) (cg2 : Bool) (ca2 : Option Addr) (cl2 cc2 : Nat) (tt2 : ByteArray) (tz2 : Int) (ja2 : Option Addr) (jm2 jc2 : Nat) (ua2 : Option Addr) (um2 uc2 : Nat) (ka2 : Option Addr) (kn2 kc2 : Nat), A = some ⟨b, o, none⟩ ∧ B b ∧ ts[k]? = some t ∧ t.size ≤ Co.size.sizes ts ∧ CoreIn w B false [.int .u8 ck2, .string cx2, .int .i64 cn2, .int .u8 tk2, .bool cg2, .slice ca2 cl2 cc2, .string tt2, .int .i64 tz2, .slice ja2 jm2 jc2, .slice ua2 um2 uc2, .slice ka2 kn2 kc2] t ∧
      (w.cell? ⟨b, o + k * 11, none⟩ = some (.int .u8 ck2) ∧ w.cell? ⟨b, o + k * 11 + 1, none⟩ = some (.string cx2) ∧ w.cell? ⟨b, o + k * 11 + 2, none⟩ = some (.int .i64 cn2) ∧ w.cell? ⟨b, o + k * 11 + 3, none⟩ = some (.int .u8 tk2) ∧ w.cell? ⟨b, o + k * 11 + 4, none⟩ = some (.bool cg2) ∧ w.cell? ⟨b, o + k * 11 + 5, none⟩ = some (.slice ca2 cl2 cc2) ∧ w.cell? ⟨b, o + k * 11 + 6, none⟩ = some (.string tt2) ∧ w.cell? ⟨b, o + k * 11 + 7, none⟩ = some (.int .i64 tz2) ∧ w.cell? ⟨b, o + k * 11 + 8, none⟩ = some (.slice ja2 jm2 jc2) ∧ w.cell? ⟨b, o + k * 11 + 9, none⟩ = some (.slice ua2 um2 uc2) ∧ w.cell? ⟨b, o + k * 11 + 10, none⟩ = some (.slice ka2 kn2 kc2)) := by
  obtain ⟨b, o, kd, tx, nm, tk, ng, la, ln, lc, tt, tn, ia, im, ic, ta, tm, tc, ka, kn, kc, t, rfl, h1, h2, h3, h4⟩ := core_at hr ht k hk
  obtain ⟨_, hA, _, hB, _⟩ := hr.2 (by omega)
  injection hA with hA
  subst hA
  exact ⟨b, o, t, kd, tx, nm, tk, ng, la, ln, lc, tt, tn, ia, im, ic, ta, tm, tc, ka, kn, kc, rfl, hB, h1, h2, h3, h4⟩
set_option maxRecDepth 100000 in
set_option maxHeartbeats 8000000 in
set_option pp.deepTerms true in
set_option pp.maxSteps 100000 in
theorem filled_21 (V : VSt) (z : Nat) (u : Tm) (hz : V.vals[z]? = some u) (w : World) (B : Nat → Prop) (ck1 : Int) (cx1 : ByteArray) (cn1 tk1 : Int) (cg1 : Bool) (ca1 : Option Addr) (cl1 cc1 : Nat) (tt1 : ByteArray) (tz1 : Int) (ja1 : Option Addr) (jm1 jc1 : Nat) (ua1 : Option Addr) (um1 uc1 : Nat) (ka1 : Option Addr) (kn1 kc1 : Nat) (A : Option Addr) (n c : Nat) (D : Option Addr) (m d : Nat) (css : List (List Value)) (hc : CoreIn w B false [.int .u8 ck1, .string cx1, .int .i64 cn1, .int .u8 tk1, .bool cg1, .slice ca1 cl1 cc1, .string tt1, .int .i64 tz1, .slice ja1 jm1 jc1, .slice ua1 um1 uc1, .slice ka1 kn1 kc1] (.mk 21 ⟨#[]⟩ z zeroTm [])) (hv : VIn w B A n c D m d css V) : Calls Tryz.prog 13 #[.agg #[.int .u8 ck1, .string cx1, .int .i64 cn1, .int .u8 tk1, .bool cg1, .slice ca1 cl1 cc1, .string tt1, .int .i64 tz1, .slice ja1 jm1 jc1, .slice ua1 um1 uc1, .slice ka1 kn1 kc1], .agg #[.slice A n c, .slice D m d]] w (FP w B u) := by
  obtain ⟨rfl, rfl, _⟩ := core_parts hc
  have hzm : z < m := by have h1 := (List.getElem?_eq_some_iff.1 hz).1; have := hv.nv; omega
  have HK0 := hide ((((Keeps.refl NoB w).alloc (.cells #[.int .u8 21, .string cx1, .int .i64 z, .int .u8 tk1, .bool cg1, .slice ca1 cl1 cc1, .string tt1, .int .i64 tz1, .slice ja1 jm1 jc1, .slice ua1 um1 uc1, .slice ka1 kn1 kc1] 34)).alloc (.cells #[.slice A n c, .slice D m d] 39)).alloc (.cells #[.int .u8 0, .bool false, .slice none 0 0, .string ⟨#[]⟩, .int .i64 0, .slice none 0 0, .slice none 0 0] 26))
  have HB1 := hide (three_tblks w 34 39 26 #[.int .u8 21, .string cx1, .int .i64 z, .int .u8 tk1, .bool cg1, .slice ca1 cl1 cc1, .string tt1, .int .i64 tz1, .slice ja1 jm1 jc1, .slice ua1 um1 uc1, .slice ka1 kn1 kc1] #[.slice A n c, .slice D m d] #[.int .u8 0, .bool false, .slice none 0 0, .string ⟨#[]⟩, .int .i64 0, .slice none 0 0, .slice none 0 0]).1; have HB2 := hide (three_tblks w 34 39 26 #[.int .u8 21, .string cx1, .int .i64 z, .int .u8 tk1, .bool cg1, .slice ca1 cl1 cc1, .string tt1, .int .i64 tz1, .slice ja1 jm1 jc1, .slice ua1 um1 uc1, .slice ka1 kn1 kc1] #[.slice A n c, .slice D m d] #[.int .u8 0, .bool false, .slice none 0 0, .string ⟨#[]⟩, .int .i64 0, .slice none 0 0, .slice none 0 0]).2.1; have HB4 := hide (three_tblks w 34 39 26 #[.int .u8 21, .string cx1, .int .i64 z, .int .u8 tk1, .bool cg1, .slice ca1 cl1 cc1, .string tt1, .int .i64 tz1, .slice ja1 jm1 jc1, .slice ua1 um1 uc1, .slice ka1 kn1 kc1] #[.slice A n c, .slice D m d] #[.int .u8 0, .bool false, .slice none 0 0, .string ⟨#[]⟩, .int .i64 0, .slice none 0 0, .slice none 0 0]).2.2
  obtain ⟨b, q, kd, ng, la, ln, lc, tx, nm, ia, im, ic, ta, tn, tc, t, hD, htk, htm, _, f0', f1', f2', f3', f4', f5', f6'⟩ := cells_at ((hv.hv.more (fun k hk h => (show B k ∧ k < w.heap.size from ⟨h, hk⟩))).keep HK0.out (fun _ _ => id)) (TermsIn.keep HK0.out (fun _ _ => id) _ _ (TermsIn.more (fun k hk h => (show B k ∧ k < w.heap.size from ⟨h, hk⟩)) _ _ hv.ht)) z hzm
  rw [hz] at htk
  injection htk with htk
  subst htk
  subst hD
  have HT := hide htm
  clear htm
  have hz1 : (z : Int) < (m : Int) := by omega
  have hz0 : (0 : Int) ≤ z := by omega
  have hz2 : ¬ (z : Int) < 0 := by omega
  have hz3 : ¬ (m : Int) ≤ z := by omega
  clear hc hv hz hzm
  go_enter Tryz.func13, Tryz.ntmps13
  go_upto_region 1 with fail
  generalize ((w.alloc (.cells #[.int .u8 21, .string cx1, .int .i64 z, .int .u8 tk1, .bool cg1, .slice ca1 cl1 cc1, .string tt1, .int .i64 tz1, .slice ja1 jm1 jc1, .slice ua1 um1 uc1, .slice ka1 kn1 kc1] 34)).alloc (.cells #[.slice A n c, .slice (some ⟨b, q, none⟩) m d] 39)).alloc (.cells #[.int .u8 0, .bool false, .slice none 0 0, .string ⟨#[]⟩, .int .i64 0, .slice none 0 0, .slice none 0 0] 26) = w0 at *
  obtain ⟨gp, hgp⟩ : ∃ g, w.heap.size = g := ⟨_, rfl⟩
  rw [hgp] at HB1 HB2 HB4
  simp only [hgp]
  have HGP := hide hgp
  clear hgp
  have p0 := HB1.out.cell 0
  have p2 := HB1.out.cell 2; have v1 := HB2.out.cell 1
  have HB4Z := HB4
  obtain ⟨y0, y1, y2, y3, y4, y5, y6⟩ := Blk.f7 (w := w0) (g := gp + 1 + 1) HB4.out
  obtain ⟨x0, x1, x2, x3, x4, x5, x6⟩ := Blk.c7 HB4.out
  go_wp2
  have HKA := hide (keeps_tput7 w0 (gp + 1 + 1) (.int .u8 kd) (.bool ng) (.slice la ln lc) (.string tx) (.int .i64 nm) (.slice ia im ic) (.slice ta tn tc))
  refine bodyPost_ret (results7 Tryz.f13 4 (by kernel_rfl) _ _ _ _ _ _ _ _ _ _ rfl (HB4Z.out.tput7 _ _ _ _ _ _ _)) rfl ?_
  have HG := HGP.out
  refine ⟨_, _, _, _, _, _, _, _, _, _, _, _, _, rfl, ?_, ?_⟩
  · exact TermIn.more (fun k _ (hk : B k ∧ k < w.heap.size) => .inl hk.1) _ _ (TermIn.keep HKA.out (fun k (hk : B k ∧ k < w.heap.size) (e : k = gp + 1 + 1) => by omega) _ _ HT.out)
  · exact HK0.out.trans' HKA.out (fun _ _ => id) (fun k hk (e : k = gp + 1 + 1) => by omega)
set_option maxRecDepth 100000 in
set_option maxHeartbeats 8000000 in
set_option pp.deepTerms true in
set_option pp.maxSteps 100000 in
theorem filled_23 (V : VSt) (t : Tm) (w : World) (B : Nat → Prop) (ck1 : Int) (cx1 : ByteArray) (cn1 tk1 : Int) (cg1 : Bool) (ca1 : Option Addr) (cl1 cc1 : Nat) (tt1 : ByteArray) (tz1 : Int) (ja1 : Option Addr) (jm1 jc1 : Nat) (ua1 : Option Addr) (um1 uc1 : Nat) (ka1 : Option Addr) (kn1 kc1 : Nat) (A : Option Addr) (n c : Nat) (D : Option Addr) (m d : Nat) (css : List (List Value)) (hc : CoreIn w B false [.int .u8 ck1, .string cx1, .int .i64 cn1, .int .u8 tk1, .bool cg1, .slice ca1 cl1 cc1, .string tt1, .int .i64 tz1, .slice ja1 jm1 jc1, .slice ua1 um1 uc1, .slice ka1 kn1 kc1] (.mk 23 ⟨#[]⟩ 0 t [])) : Calls Tryz.prog 13 #[.agg #[.int .u8 ck1, .string cx1, .int .i64 cn1, .int .u8 tk1, .bool cg1, .slice ca1 cl1 cc1, .string tt1, .int .i64 tz1, .slice ja1 jm1 jc1, .slice ua1 um1 uc1, .slice ka1 kn1 kc1], .agg #[.slice A n c, .slice D m d]] w (FP w B t) := by
  obtain ⟨rfl, rfl, ht, _⟩ := core_parts hc
  have HK0 := hide ((((Keeps.refl NoB w).alloc (.cells #[.int .u8 23, .string cx1, .int .i64 0, .int .u8 tk1, .bool cg1, .slice ca1 cl1 cc1, .string tt1, .int .i64 tz1, .slice ja1 jm1 jc1, .slice ua1 um1 uc1, .slice ka1 kn1 kc1] 34)).alloc (.cells #[.slice A n c, .slice D m d] 39)).alloc (.cells #[.int .u8 0, .bool false, .slice none 0 0, .string ⟨#[]⟩, .int .i64 0, .slice none 0 0, .slice none 0 0] 26))
  have HB1 := hide (three_tblks w 34 39 26 #[.int .u8 23, .string cx1, .int .i64 0, .int .u8 tk1, .bool cg1, .slice ca1 cl1 cc1, .string tt1, .int .i64 tz1, .slice ja1 jm1 jc1, .slice ua1 um1 uc1, .slice ka1 kn1 kc1] #[.slice A n c, .slice D m d] #[.int .u8 0, .bool false, .slice none 0 0, .string ⟨#[]⟩, .int .i64 0, .slice none 0 0, .slice none 0 0]).1; have HB2 := hide (three_tblks w 34 39 26 #[.int .u8 23, .string cx1, .int .i64 0, .int .u8 tk1, .bool cg1, .slice ca1 cl1 cc1, .string tt1, .int .i64 tz1, .slice ja1 jm1 jc1, .slice ua1 um1 uc1, .slice ka1 kn1 kc1] #[.slice A n c, .slice D m d] #[.int .u8 0, .bool false, .slice none 0 0, .string ⟨#[]⟩, .int .i64 0, .slice none 0 0, .slice none 0 0]).2.1; have HB4 := hide (three_tblks w 34 39 26 #[.int .u8 23, .string cx1, .int .i64 0, .int .u8 tk1, .bool cg1, .slice ca1 cl1 cc1, .string tt1, .int .i64 tz1, .slice ja1 jm1 jc1, .slice ua1 um1 uc1, .slice ka1 kn1 kc1] #[.slice A n c, .slice D m d] #[.int .u8 0, .bool false, .slice none 0 0, .string ⟨#[]⟩, .int .i64 0, .slice none 0 0, .slice none 0 0]).2.2
  have HT := hide (TermIn.keep HK0.out (fun _ _ => id) _ _ (TermIn.more (fun k hk h => (show B k ∧ k < w.heap.size from ⟨h, hk⟩)) _ _ ht))
  clear hc ht
  go_enter Tryz.func13, Tryz.ntmps13
  go_upto_region 1 with fail
  generalize ((w.alloc (.cells #[.int .u8 23, .string cx1, .int .i64 0, .int .u8 tk1, .bool cg1, .slice ca1 cl1 cc1, .string tt1, .int .i64 tz1, .slice ja1 jm1 jc1, .slice ua1 um1 uc1, .slice ka1 kn1 kc1] 34)).alloc (.cells #[.slice A n c, .slice D m d] 39)).alloc (.cells #[.int .u8 0, .bool false, .slice none 0 0, .string ⟨#[]⟩, .int .i64 0, .slice none 0 0, .slice none 0 0] 26) = w0 at *
  obtain ⟨gp, hgp⟩ : ∃ g, w.heap.size = g := ⟨_, rfl⟩
  rw [hgp] at HB1 HB2 HB4
  simp only [hgp]
  have HGP := hide hgp
  clear hgp
  have p0 := HB1.out.cell 0
  have p3 := HB1.out.cell 3; have p4 := HB1.out.cell 4; have p5 := HB1.out.cell 5; have p6 := HB1.out.cell 6; have p7 := HB1.out.cell 7; have p8 := HB1.out.cell 8; have p9 := HB1.out.cell 9
  have HB4Z := HB4
  obtain ⟨y0, y1, y2, y3, y4, y5, y6⟩ := Blk.f7 (w := w0) (g := gp + 1 + 1) HB4.out
  obtain ⟨x0, x1, x2, x3, x4, x5, x6⟩ := Blk.c7 HB4.out
  go_wp2
  have HKA := hide (keeps_tput7 w0 (gp + 1 + 1) (.int .u8 tk1) (.bool cg1) (.slice ca1 cl1 cc1) (.string tt1) (.int .i64 tz1) (.slice ja1 jm1 jc1) (.slice ua1 um1 uc1))
  refine bodyPost_ret (results7 Tryz.f13 4 (by kernel_rfl) _ _ _ _ _ _ _ _ _ _ rfl (HB4Z.out.tput7 _ _ _ _ _ _ _)) rfl ?_
  have HG := HGP.out
  refine ⟨_, _, _, _, _, _, _, _, _, _, _, _, _, rfl, ?_, ?_⟩
  · exact TermIn.more (fun k _ (hk : B k ∧ k < w.heap.size) => .inl hk.1) _ _ (TermIn.keep HKA.out (fun k (hk : B k ∧ k < w.heap.size) (e : k = gp + 1 + 1) => by omega) _ _ HT.out)
  · exact HK0.out.trans' HKA.out (fun _ _ => id) (fun k hk (e : k = gp + 1 + 1) => by omega)
set_option maxRecDepth 100000 in
set_option maxHeartbeats 8000000 in
set_option pp.deepTerms true in
set_option pp.maxSteps 100000 in
theorem filled_25 (V : VSt) (M : Nat) (IH : FSaid V M) (p q : Co) (u x y : Tm) (hpq : p.size ≤ M ∧ q.size ≤ M) (hg : goodT u) (hs : splitT u = some (x, y)) (h1 : Fill V p x) (h2 : Fill V q y) (w : World) (B : Nat → Prop) (ck1 : Int) (cx1 : ByteArray) (cn1 tk1 : Int) (cg1 : Bool) (ca1 : Option Addr) (cl1 cc1 : Nat) (tt1 : ByteArray) (tz1 : Int) (ja1 : Option Addr) (jm1 jc1 : Nat) (ua1 : Option Addr) (um1 uc1 : Nat) (ka1 : Option Addr) (kn1 kc1 : Nat) (A : Option Addr) (n c : Nat) (D : Option Addr) (m d : Nat) (css : List (List Value)) (hc : CoreIn w B false [.int .u8 ck1, .string cx1, .int .i64 cn1, .int .u8 tk1, .bool cg1, .slice ca1 cl1 cc1, .string tt1, .int .i64 tz1, .slice ja1 jm1 jc1, .slice ua1 um1 uc1, .slice ka1 kn1 kc1] (.mk 25 ⟨#[]⟩ 0 zeroTm [p, q])) (hv : VIn w B A n c D m d css V) : Calls Tryz.prog 13 #[.agg #[.int .u8 ck1, .string cx1, .int .i64 cn1, .int .u8 tk1, .bool cg1, .slice ca1 cl1 cc1, .string tt1, .int .i64 tz1, .slice ja1 jm1 jc1, .slice ua1 um1 uc1, .slice ka1 kn1 kc1], .agg #[.slice A n c, .slice D m d]] w (FP w B u) := by
  obtain ⟨rfl, rfl, _, _, kss, hr, hks, hkn⟩ := core_parts hc
  obtain rfl : kn1 = 2 := by rw [← hkn]; rfl
  have HK0 := hide ((((Keeps.refl NoB w).alloc (.cells #[.int .u8 25, .string cx1, .int .i64 0, .int .u8 tk1, .bool cg1, .slice ca1 cl1 cc1, .string tt1, .int .i64 tz1, .slice ja1 jm1 jc1, .slice ua1 um1 uc1, .slice ka1 2 kc1] 34)).alloc (.cells #[.slice A n c, .slice D m d] 39)).alloc (.cells #[.int .u8 0, .bool false, .slice none 0 0, .string ⟨#[]⟩, .int .i64 0, .slice none 0 0, .slice none 0 0] 26))
  have HB1 := hide (three_tblks w 34 39 26 #[.int .u8 25, .string cx1, .int .i64 0, .int .u8 tk1, .bool cg1, .slice ca1 cl1 cc1, .string tt1, .int .i64 tz1, .slice ja1 jm1 jc1, .slice ua1 um1 uc1, .slice ka1 2 kc1] #[.slice A n c, .slice D m d] #[.int .u8 0, .bool false, .slice none 0 0, .string ⟨#[]⟩, .int .i64 0, .slice none 0 0, .slice none 0 0]).1; have HB2 := hide (three_tblks w 34 39 26 #[.int .u8 25, .string cx1, .int .i64 0, .int .u8 tk1, .bool cg1, .slice ca1 cl1 cc1, .string tt1, .int .i64 tz1, .slice ja1 jm1 jc1, .slice ua1 um1 uc1, .slice ka1 2 kc1] #[.slice A n c, .slice D m d] #[.int .u8 0, .bool false, .slice none 0 0, .string ⟨#[]⟩, .int .i64 0, .slice none 0 0, .slice none 0 0]).2.1; have HB4 := hide (three_tblks w 34 39 26 #[.int .u8 25, .string cx1, .int .i64 0, .int .u8 tk1, .bool cg1, .slice ca1 cl1 cc1, .string tt1, .int .i64 tz1, .slice ja1 jm1 jc1, .slice ua1 um1 uc1, .slice ka1 2 kc1] #[.slice A n c, .slice D m d] #[.int .u8 0, .bool false, .slice none 0 0, .string ⟨#[]⟩, .int .i64 0, .slice none 0 0, .slice none 0 0]).2.2
  have hr := (hr.more (fun k hk h => (show B k ∧ k < w.heap.size from ⟨h, hk⟩))).keep HK0.out (fun _ _ => id)
  have hks := CoresIn.keep HK0.out (fun _ _ => id) _ _ (CoresIn.more (fun k hk h => (show B k ∧ k < w.heap.size from ⟨h, hk⟩)) _ _ hks)
  obtain ⟨b, o, t2, ck2, cx2, cn2, tk2, cg2, ca2, cl2, cc2, tt2, tz2, ja2, jm2, jc2, ua2, um2, uc2, ka2, kn2, kc2, hA, hBb, e2, _, hc2, hq2⟩ := core_cells hr hks 0 (by omega)
  obtain ⟨b', o', t3, ck3, cx3, cn3, tk3, cg3, ca3, cl3, cc3, tt3, tz3, ja3, jm3, jc3, ua3, um3, uc3, ka3, kn3, kc3, hA', _, e3, _, hc3, hq3⟩ := core_cells hr hks 1 (by omega)
  rw [hA] at hA'
  injection hA' with hA'
  injection hA' with q1 q2 q3
  subst q1 q2
  subst hA
  simp only [List.getElem?_cons_zero, List.getElem?_cons_succ, Option.some.injEq] at e2 e3
  subst e2 e3
  simp only [Nat.zero_mul, Nat.add_zero] at hq2
  have HQ2 := hide hq2; have HQ3 := hide hq3; have HC2 := hide hc2; have HC3 := hide hc3
  have HV := hide (hv.keep HK0.out (fun _ _ => id))
  have HG := hide hg; have HS := hide hs; have HF1 := hide h1; have HF2 := hide h2; have HPQ := hide hpq; have HIH := hide IH
  clear hc hv hr hks hkn hq2 hq3 hc2 hc3 q3 hg hs h1 h2 hpq IH hBb
  go_enter Tryz.func13, Tryz.ntmps13
  go_upto_region 1 with fail
  generalize ((w.alloc (.cells #[.int .u8 25, .string cx1, .int .i64 0, .int .u8 tk1, .bool cg1, .slice ca1 cl1 cc1, .string tt1, .int .i64 tz1, .slice ja1 jm1 jc1, .slice ua1 um1 uc1, .slice (some ⟨b, o, none⟩) 2 kc1] 34)).alloc (.cells #[.slice A n c, .slice D m d] 39)).alloc (.cells #[.int .u8 0, .bool false, .slice none 0 0, .string ⟨#[]⟩, .int .i64 0, .slice none 0 0, .slice none 0 0] 26) = w0 at *
  obtain ⟨gp, hgp⟩ : ∃ g, w.heap.size = g := ⟨_, rfl⟩
  rw [hgp] at HB1 HB2 HB4
  simp only [hgp]
  have HGP := hide hgp
  clear hgp
  have p0 := HB1.out.cell 0
  go_upto_region 12 with fail
  have HS0 := hide ((Keeps.refl NoB w0).drew)
  refine order_begin (fun W => Keeps NoB w0.drew W) (fun i => !(i == 13)) (by kernel_rfl) 14 rfl ?_
  have HSW := hide (Keeps.refl NoB w0.drew)
  refine order_pure (i := 0) rfl (by kernel_rfl) (fun _ _ _ h => h) (.inl ⟨rfl, fun _ => by go_simp; rfl⟩) ?_
  try simp only [Act.put, List.setIfInBounds_toArray, List.set_cons_succ, List.set_cons_zero]
  refine order_held (i := 1) rfl (by kernel_rfl) (fun _ _ _ h => h) (.inl ⟨rfl, fun W hW => by
    have q10 : W.cell? ⟨gp, 10, none⟩ = some (.slice (some ⟨b, o, none⟩) 2 kc1) := hW.cell id (HB1.out.cell 10)
    go_simp; rfl⟩) HSW.out ?_
  try simp only [Act.put, List.setIfInBounds_toArray, List.set_cons_succ, List.set_cons_zero]
  refine order_pure (i := 2) rfl (by kernel_rfl) (fun _ _ _ h => h) (.inl ⟨rfl, fun _ => by go_simp; rfl⟩) ?_
  try simp only [Act.put, List.setIfInBounds_toArray, List.set_cons_succ, List.set_cons_zero]
  refine order_held (i := 3) rfl (by kernel_rfl) (fun _ _ _ h => h) (.inl ⟨rfl, fun W hW => by
    have q0 : W.cell? ⟨b, o, none⟩ = some (.int .u8 ck2) := hW.cell id HQ2.out.1
    have q1 : W.cell? ⟨b, o + 1, none⟩ = some (.string cx2) := hW.cell id HQ2.out.2.1
    have q2 : W.cell? ⟨b, o + 2, none⟩ = some (.int .i64 cn2) := hW.cell id HQ2.out.2.2.1
    have q3 : W.cell? ⟨b, o + 3, none⟩ = some (.int .u8 tk2) := hW.cell id HQ2.out.2.2.2.1
    have q4 : W.cell? ⟨b, o + 4, none⟩ = some (.bool cg2) := hW.cell id HQ2.out.2.2.2.2.1
    have q5 : W.cell? ⟨b, o + 5, none⟩ = some (.slice ca2 cl2 cc2) := hW.cell id HQ2.out.2.2.2.2.2.1
    have q6 : W.cell? ⟨b, o + 6, none⟩ = some (.string tt2) := hW.cell id HQ2.out.2.2.2.2.2.2.1
    have q7 : W.cell? ⟨b, o + 7, none⟩ = some (.int .i64 tz2) := hW.cell id HQ2.out.2.2.2.2.2.2.2.1
    have q8 : W.cell? ⟨b, o + 8, none⟩ = some (.slice ja2 jm2 jc2) := hW.cell id HQ2.out.2.2.2.2.2.2.2.2.1
    have q9 : W.cell? ⟨b, o + 9, none⟩ = some (.slice ua2 um2 uc2) := hW.cell id HQ2.out.2.2.2.2.2.2.2.2.2.1
    have q10 : W.cell? ⟨b, o + 10, none⟩ = some (.slice ka2 kn2 kc2) := hW.cell id HQ2.out.2.2.2.2.2.2.2.2.2.2
    go_simp; rfl⟩) HSW.out ?_
  try simp only [Act.put, List.setIfInBounds_toArray, List.set_cons_succ, List.set_cons_zero]
  refine order_held (i := 4) rfl (by kernel_rfl) (fun _ _ _ h => h) (.inl ⟨rfl, fun W hW => by
    have v0 : W.cell? ⟨gp + 1, 0, none⟩ = some (.slice A n c) := hW.cell id (HB2.out.cell 0)
    have v1 : W.cell? ⟨gp + 1, 1, none⟩ = some (.slice D m d) := hW.cell id (HB2.out.cell 1)
    go_simp; rfl⟩) HSW.out ?_
  try simp only [Act.put, List.setIfInBounds_toArray, List.set_cons_succ, List.set_cons_zero]
  refine order_pure (i := 6) rfl (by kernel_rfl) (fun _ _ _ h => h) (.inl ⟨rfl, fun _ => by go_simp; rfl⟩) ?_
  try simp only [Act.put, List.setIfInBounds_toArray, List.set_cons_succ, List.set_cons_zero]
  refine order_held (i := 7) rfl (by kernel_rfl) (fun _ _ _ h => h) (.inl ⟨rfl, fun W hW => by
    have q10 : W.cell? ⟨gp, 10, none⟩ = some (.slice (some ⟨b, o, none⟩) 2 kc1) := hW.cell id (HB1.out.cell 10)
    go_simp; rfl⟩) HSW.out ?_
  try simp only [Act.put, List.setIfInBounds_toArray, List.set_cons_succ, List.set_cons_zero]
  refine order_pure (i := 8) rfl (by kernel_rfl) (fun _ _ _ h => h) (.inl ⟨rfl, fun _ => by go_simp; rfl⟩) ?_
  try simp only [Act.put, List.setIfInBounds_toArray, List.set_cons_succ, List.set_cons_zero]
  refine order_held (i := 9) rfl (by kernel_rfl) (fun _ _ _ h => h) (.inl ⟨rfl, fun W hW => by
    have q0 : W.cell? ⟨b, o + 1 * 11, none⟩ = some (.int .u8 ck3) := hW.cell id HQ3.out.1
    have q1 : W.cell? ⟨b, o + 1 * 11 + 1, none⟩ = some (.string cx3) := hW.cell id HQ3.out.2.1
    have q2 : W.cell? ⟨b, o + 1 * 11 + 2, none⟩ = some (.int .i64 cn3) := hW.cell id HQ3.out.2.2.1
    have q3 : W.cell? ⟨b, o + 1 * 11 + 3, none⟩ = some (.int .u8 tk3) := hW.cell id HQ3.out.2.2.2.1
    have q4 : W.cell? ⟨b, o + 1 * 11 + 4, none⟩ = some (.bool cg3) := hW.cell id HQ3.out.2.2.2.2.1
    have q5 : W.cell? ⟨b, o + 1 * 11 + 5, none⟩ = some (.slice ca3 cl3 cc3) := hW.cell id HQ3.out.2.2.2.2.2.1
    have q6 : W.cell? ⟨b, o + 1 * 11 + 6, none⟩ = some (.string tt3) := hW.cell id HQ3.out.2.2.2.2.2.2.1
    have q7 : W.cell? ⟨b, o + 1 * 11 + 7, none⟩ = some (.int .i64 tz3) := hW.cell id HQ3.out.2.2.2.2.2.2.2.1
    have q8 : W.cell? ⟨b, o + 1 * 11 + 8, none⟩ = some (.slice ja3 jm3 jc3) := hW.cell id HQ3.out.2.2.2.2.2.2.2.2.1
    have q9 : W.cell? ⟨b, o + 1 * 11 + 9, none⟩ = some (.slice ua3 um3 uc3) := hW.cell id HQ3.out.2.2.2.2.2.2.2.2.2.1
    have q10 : W.cell? ⟨b, o + 1 * 11 + 10, none⟩ = some (.slice ka3 kn3 kc3) := hW.cell id HQ3.out.2.2.2.2.2.2.2.2.2.2
    go_simp; rfl⟩) HSW.out ?_
  try simp only [Act.put, List.setIfInBounds_toArray, List.set_cons_succ, List.set_cons_zero]
  refine order_held (i := 10) rfl (by kernel_rfl) (fun _ _ _ h => h) (.inl ⟨rfl, fun W hW => by
    have v0 : W.cell? ⟨gp + 1, 0, none⟩ = some (.slice A n c) := hW.cell id (HB2.out.cell 0)
    have v1 : W.cell? ⟨gp + 1, 1, none⟩ = some (.slice D m d) := hW.cell id (HB2.out.cell 1)
    go_simp; rfl⟩) HSW.out ?_
  try simp only [Act.put, List.setIfInBounds_toArray, List.set_cons_succ, List.set_cons_zero]
  refine order_one (i := 5) rfl (by kernel_rfl) (fun K hK => ?_)
  go_simp
  refine (HIH.out p x HPQ.out.1 HF1.out w0.drew TT _ _ _ _ _ _ _ _ _ _ _ _ _ _ _ _ _ _ _ _ _ _ _ _ _ _ (CoreIn.keep HS0.out (fun _ _ => id) _ _ (CoreIn.more (fun _ _ _ => trivial) _ _ HC2.out)) ((HV.out.keep HS0.out (fun _ _ => id)).wide)).mono ?_
  rintro e w4 ⟨kd4, ng4, la4, ln4, lc4, tx4, nm4, ia4, im4, ic4, ta4, tn4, tc4, rfl, ht4, hk4⟩
  have HK4 := hide hk4; have HT4 := hide ht4
  refine hK _ _ (fun _ _ => HK4.out) ?_
  clear hK hk4 ht4
  try simp only [Act.put, List.setIfInBounds_toArray, List.set_cons_succ, List.set_cons_zero]
  refine order_one (i := 11) rfl (by kernel_rfl) (fun K hK => ?_)
  go_simp
  refine (HIH.out q y HPQ.out.2 HF2.out w4 TT _ _ _ _ _ _ _ _ _ _ _ _ _ _ _ _ _ _ _ _ _ _ _ _ _ _ (CoreIn.keep (HS0.out.trans' HK4.out (fun _ _ => id) (fun _ _ => id)) (fun _ _ => id) _ _ (CoreIn.more (fun _ _ _ => trivial) _ _ HC3.out)) ((HV.out.keep (HS0.out.trans' HK4.out (fun _ _ => id) (fun _ _ => id)) (fun _ _ => id)).wide)).mono ?_
  rintro e w5 ⟨kd5, ng5, la5, ln5, lc5, tx5, nm5, ia5, im5, ic5, ta5, tn5, tc5, rfl, ht5, hk5⟩
  have HK5 := hide (HK4.out.trans' hk5 (fun _ _ => id) (fun _ _ => id) : Keeps NoB w0.drew w5)
  have HT5 := hide ht5; have HT45 := hide (TermIn.keep hk5 (fun _ _ => id) _ _ HT4.out)
  refine hK _ _ (fun _ _ => HK5.out) ?_
  clear hK hk5 ht5
  try simp only [Act.put, List.setIfInBounds_toArray, List.set_cons_succ, List.set_cons_zero]
  refine order_one (i := 12) rfl (by kernel_rfl) (fun K hK => ?_)
  go_simp
  refine (cons_any u x y HG.out HS.out w5 (TermIn.more (fun _ _ _ => trivial) _ _ HT45.out) (TermIn.more (fun _ _ _ => trivial) _ _ HT5.out)).mono ?_
  rintro e w6 ⟨kd6, ng6, la6, ln6, lc6, tx6, nm6, ia6, im6, ic6, ta6, tn6, tc6, rfl, ht6, hk6⟩
  have HK6 := hide (HK5.out.trans' hk6 (fun _ _ => id) (fun _ _ => id) : Keeps NoB w0.drew w6)
  have HT6 := hide ht6
  refine hK _ _ (fun _ _ => HK6.out) ?_
  clear hK hk6 ht6
  try simp only [Act.put, List.setIfInBounds_toArray, List.set_cons_succ, List.set_cons_zero]
  have HB4Z := hide (HB4.out.keep (HS0.out.trans' HK6.out (fun _ _ => id) (fun _ _ => id)) id)
  obtain ⟨y0, y1, y2, y3, y4, y5, y6⟩ := Blk.f7 (w := w6) (g := gp + 1 + 1) HB4Z.out
  obtain ⟨x0, x1, x2, x3, x4, x5, x6⟩ := Blk.c7 HB4Z.out
  refine order_one (i := 13) rfl (by kernel_rfl) (fun K hK => ?_)
  go_simp
  refine hK _ _ (fun h => absurd h (by decide)) ?_
  clear hK
  try simp only [Act.put, List.setIfInBounds_toArray, List.set_cons_succ, List.set_cons_zero]
  refine order_done (by kernel_rfl) ?_
  go_wp2_with fail
  have HKN := hide ((HK0.out.trans' HS0.out (fun _ _ => id) (fun _ _ => id)).trans' HK6.out (fun _ _ => id) (fun _ _ => id) : Keeps NoB w w6)
  have HN5 := hide (show gp + 3 ≤ w5.heap.size from by have h1 := HB4.out.lt; have h2 := HS0.out.size; have h3 := HK5.out.size; omega)
  have HKA := hide (keeps_tput7 w6 (gp + 1 + 1) (.int .u8 kd6) (.bool ng6) (.slice la6 ln6 lc6) (.string tx6) (.int .i64 nm6) (.slice ia6 im6 ic6) (.slice ta6 tn6 tc6))
  refine bodyPost_ret (results7 Tryz.f13 4 (by kernel_rfl) _ _ _ _ _ _ _ _ _ _ rfl (HB4Z.out.tput7 _ _ _ _ _ _ _)) rfl ?_
  have HG := HGP.out
  refine ⟨_, _, _, _, _, _, _, _, _, _, _, _, _, rfl, ?_, ?_⟩
  · exact TermIn.more (fun k _ (hk : w5.heap.size ≤ k) => .inr (by have := HN5.out; omega)) _ _ (TermIn.keep HKA.out (fun k (hk : w5.heap.size ≤ k) (e : k = gp + 1 + 1) => by have := HN5.out; omega) _ _ HT6.out)
  · exact HKN.out.trans' HKA.out (fun _ _ => id) (fun k hk (e : k = gp + 1 + 1) => by omega)
/-- Behind k kids: the row, and the terms in it. -/
structure TupFill (w : World) (B : Nat → Prop) (gp gt : Nat) (us : List Tm) (w1 : World) (k : Nat) (A5 : Option Addr) (c5 : Nat) (wr : World) : Prop where
  box : Blk wr gt 26 #[.int .u8 6, .bool false, .slice none 0 0, .string ⟨#[]⟩, .int .i64 0, .slice A5 k c5, .slice none 0 0]
  row : ∃ dss, Slab wr 26 7 A5 k c5 dss.flatten ∧ TermsIn wr (fun j => (B j ∧ j < w.heap.size) ∨ (gt < j ∧ ¬ rowB A5 j)) false dss us
  new : ∀ j, rowB A5 j → w1.heap.size ≤ j
  keep : Keeps (fun j => j = gt) w1 wr
theorem TermIn.off {w w' : World} {P : Nat → Prop} {A A' : Option Addr} {cs : List Value} {t : Tm} {B : Nat → Prop} {N gt : Nat} (h : TermIn w P false cs t) (hk : Keeps (rowB A) w w') (hm : Moved w A A') (hP : ∀ j, P j → (B j ∧ j < N) ∨ (gt < j ∧ ¬ rowB A j)) (hn : ∀ j, rowB A j → gt < j) (hN : N ≤ gt) :
    TermIn w' (fun j => (B j ∧ j < N) ∨ (gt < j ∧ ¬ rowB A' j)) false cs t := by
  have h1 := TermIn.more (B' := fun j => ((B j ∧ j < N) ∨ (gt < j ∧ ¬ rowB A j)) ∧ j < w.heap.size) (fun j hj hp => ⟨hP j hp, hj⟩) _ _ h
  refine TermIn.more (fun j _ hj => ?_) _ _ (TermIn.keep hk (fun j hj hr => ?_) _ _ h1)
  · rcases hj.1 with h2 | h2
    · exact .inl h2
    · refine .inr ⟨h2.1, fun hr => ?_⟩
      rcases hm j hr with h3 | h3
      · exact h2.2 h3
      · have := hj.2; omega
  · rcases hj.1 with h2 | h2
    · have := hn j hr; omega
    · exact h2.2 hr
theorem TermsIn.off {w w' : World} {P : Nat → Prop} {A A' : Option Addr} {css : List (List Value)} {ts : List Tm} {B : Nat → Prop} {N gt : Nat} (h : TermsIn w P false css ts) (hk : Keeps (rowB A) w w') (hm : Moved w A A') (hP : ∀ j, P j → (B j ∧ j < N) ∨ (gt < j ∧ ¬ rowB A j)) (hn : ∀ j, rowB A j → gt < j) (hN : N ≤ gt) :
    TermsIn w' (fun j => (B j ∧ j < N) ∨ (gt < j ∧ ¬ rowB A' j)) false css ts := by
  have h1 := TermsIn.more (B' := fun j => ((B j ∧ j < N) ∨ (gt < j ∧ ¬ rowB A j)) ∧ j < w.heap.size) (fun j hj hp => ⟨hP j hp, hj⟩) _ _ h
  refine TermsIn.more (fun j _ hj => ?_) _ _ (TermsIn.keep hk (fun j hj hr => ?_) _ _ h1)
  · rcases hj.1 with h2 | h2
    · exact .inl h2
    · refine .inr ⟨h2.1, fun hr => ?_⟩
      rcases hm j hr with h3 | h3
      · exact h2.2 h3
      · have := hj.2; omega
  · rcases hj.1 with h2 | h2
    · have := hn j hr; omega
    · exact h2.2 hr
set_option maxRecDepth 100000 in
set_option maxHeartbeats 8000000 in
set_option pp.deepTerms true in
set_option pp.maxSteps 100000 in
theorem filled_24 (V : VSt) (M : Nat) (IH : FSaid V M) (ks : List Co) (us : List Tm) (hM : Co.size.sizes ks ≤ M) (hl : us.length ≤ 4096) (hf : Fills V ks us) (w : World) (B : Nat → Prop) (ck1 : Int) (cx1 : ByteArray) (cn1 tk1 : Int) (cg1 : Bool) (ca1 : Option Addr) (cl1 cc1 : Nat) (tt1 : ByteArray) (tz1 : Int) (ja1 : Option Addr) (jm1 jc1 : Nat) (ua1 : Option Addr) (um1 uc1 : Nat) (ka1 : Option Addr) (kn1 kc1 : Nat) (A : Option Addr) (n c : Nat) (D : Option Addr) (m d : Nat) (css : List (List Value)) (hc : CoreIn w B false [.int .u8 ck1, .string cx1, .int .i64 cn1, .int .u8 tk1, .bool cg1, .slice ca1 cl1 cc1, .string tt1, .int .i64 tz1, .slice ja1 jm1 jc1, .slice ua1 um1 uc1, .slice ka1 kn1 kc1] (.mk 24 ⟨#[]⟩ 0 zeroTm ks)) (hv : VIn w B A n c D m d css V) : Calls Tryz.prog 13 #[.agg #[.int .u8 ck1, .string cx1, .int .i64 cn1, .int .u8 tk1, .bool cg1, .slice ca1 cl1 cc1, .string tt1, .int .i64 tz1, .slice ja1 jm1 jc1, .slice ua1 um1 uc1, .slice ka1 kn1 kc1], .agg #[.slice A n c, .slice D m d]] w (FP w B (.mk 6 false [] ⟨#[]⟩ 0 us [])) := by
  obtain ⟨rfl, rfl, _, _, kss, hr, hks, hkn⟩ := core_parts hc
  have HK0 := hide ((((Keeps.refl NoB w).alloc (.cells #[.int .u8 24, .string cx1, .int .i64 0, .int .u8 tk1, .bool cg1, .slice ca1 cl1 cc1, .string tt1, .int .i64 tz1, .slice ja1 jm1 jc1, .slice ua1 um1 uc1, .slice ka1 kn1 kc1] 34)).alloc (.cells #[.slice A n c, .slice D m d] 39)).alloc (.cells #[.int .u8 0, .bool false, .slice none 0 0, .string ⟨#[]⟩, .int .i64 0, .slice none 0 0, .slice none 0 0] 26))
  have HB1 := hide (three_tblks w 34 39 26 #[.int .u8 24, .string cx1, .int .i64 0, .int .u8 tk1, .bool cg1, .slice ca1 cl1 cc1, .string tt1, .int .i64 tz1, .slice ja1 jm1 jc1, .slice ua1 um1 uc1, .slice ka1 kn1 kc1] #[.slice A n c, .slice D m d] #[.int .u8 0, .bool false, .slice none 0 0, .string ⟨#[]⟩, .int .i64 0, .slice none 0 0, .slice none 0 0]).1; have HB2 := hide (three_tblks w 34 39 26 #[.int .u8 24, .string cx1, .int .i64 0, .int .u8 tk1, .bool cg1, .slice ca1 cl1 cc1, .string tt1, .int .i64 tz1, .slice ja1 jm1 jc1, .slice ua1 um1 uc1, .slice ka1 kn1 kc1] #[.slice A n c, .slice D m d] #[.int .u8 0, .bool false, .slice none 0 0, .string ⟨#[]⟩, .int .i64 0, .slice none 0 0, .slice none 0 0]).2.1; have HB4 := hide (three_tblks w 34 39 26 #[.int .u8 24, .string cx1, .int .i64 0, .int .u8 tk1, .bool cg1, .slice ca1 cl1 cc1, .string tt1, .int .i64 tz1, .slice ja1 jm1 jc1, .slice ua1 um1 uc1, .slice ka1 kn1 kc1] #[.slice A n c, .slice D m d] #[.int .u8 0, .bool false, .slice none 0 0, .string ⟨#[]⟩, .int .i64 0, .slice none 0 0, .slice none 0 0]).2.2
  have HR := hide ((hr.more (fun k hk h => (show B k ∧ k < w.heap.size from ⟨h, hk⟩))).keep HK0.out (fun _ _ => id))
  have HKS := hide (CoresIn.keep HK0.out (fun _ _ => id) _ _ (CoresIn.more (fun k hk h => (show B k ∧ k < w.heap.size from ⟨h, hk⟩)) _ _ hks))
  have HV := hide (VIn.keep (B := fun k => B k ∧ k < w.heap.size) ⟨hv.hb.more (fun k hk h => ⟨h, hk⟩), hv.hv.more (fun k hk h => ⟨h, hk⟩), TermsIn.more (fun k hk h => ⟨h, hk⟩) _ _ hv.ht, hv.r1, hv.r2⟩ HK0.out (fun _ _ => id))
  have HKN := hide hkn; have HUN := hide (show us.length = kn1 from by rw [← hkn, hf.len]); have HL := hide hl; have HM := hide hM; have HIH := hide IH; have HF := hide hf
  clear hc hv hr hks hkn hl hM IH hf
  go_enter Tryz.func13, Tryz.ntmps13
  go_upto_region 1 with fail
  generalize ((w.alloc (.cells #[.int .u8 24, .string cx1, .int .i64 0, .int .u8 tk1, .bool cg1, .slice ca1 cl1 cc1, .string tt1, .int .i64 tz1, .slice ja1 jm1 jc1, .slice ua1 um1 uc1, .slice ka1 kn1 kc1] 34)).alloc (.cells #[.slice A n c, .slice D m d] 39)).alloc (.cells #[.int .u8 0, .bool false, .slice none 0 0, .string ⟨#[]⟩, .int .i64 0, .slice none 0 0, .slice none 0 0] 26) = w0 at *
  obtain ⟨gp, hgp⟩ : ∃ g, w.heap.size = g := ⟨_, rfl⟩
  rw [hgp] at HB1 HB2 HB4
  simp only [hgp]
  have HGP := hide hgp
  clear hgp
  have p0 := HB1.out.cell 0
  have HBT := hide (Blk.new w0 26 #[.int .u8 6, .bool false, .slice none 0 0, .string ⟨#[]⟩, .int .i64 0, .slice none 0 0, .slice none 0 0])
  have HKT := hide ((Keeps.refl NoB w0).alloc (.cells #[.int .u8 6, .bool false, .slice none 0 0, .string ⟨#[]⟩, .int .i64 0, .slice none 0 0, .slice none 0 0] 26))
  go_upto_region 6 with fail
  clear p0
  generalize w0.alloc (.cells #[.int .u8 6, .bool false, .slice none 0 0, .string ⟨#[]⟩, .int .i64 0, .slice none 0 0, .slice none 0 0] 26) = w1 at *
  have HGT := hide (show gp + 3 ≤ w0.heap.size from by have h1 := HB4.out.lt; omega)
  generalize hgt : w0.heap.size = gt at *
  clear hgt
  have HP1 := hide (HB1.out.keep HKT.out id); have HP2 := hide (HB2.out.keep HKT.out id); have HP4 := hide (HB4.out.keep HKT.out id)
  have HR1 := hide (HR.out.keep HKT.out (fun _ _ => id)); have HKS1 := hide (CoresIn.keep HKT.out (fun _ _ => id) _ _ HKS.out); have HV1 := hide (HV.out.keep HKT.out (fun _ _ => id))
  have HKW := hide (HK0.out.trans' HKT.out (fun _ _ => id) (fun _ _ => id))
  clear HB1 HB2 HB4 HR HKS HV HK0 HKT
  go_wp2_with fail
  go_loopw [6] (fun i wr => ∃ (k : Nat) (A5 : Option Addr) (c5 : Nat), k ≤ kn1 ∧ i = .int .i64 k ∧ TupFill w B gp gt (us.take k) w1 k A5 c5 wr) (fun i _ => kn1 - (intOf i).toNat)
  case atStart => exact ⟨0, none, 0, Nat.zero_le _, rfl, ⟨HBT.out, ⟨[], Slab.nil _ _ _, by rw [List.take_zero]; unfold TermsIn; trivial⟩, (fun j ⟨o, e⟩ => by cases e), Keeps.refl _ _⟩⟩
  case round =>
    obtain ⟨k, A5, c5, hk, rfl, hat⟩ := hrel
    have HAT := hide hat; clear hat
    have p10 : wr.cell? ⟨gp, 10, none⟩ = some (.slice ka1 kn1 kc1) := HAT.out.keep.cell (by show ¬ gp = gt; have := HGT.out; omega) (HP1.out.cell 10)
    by_cases hlt : k < kn1
    · obtain ⟨b, o, p, ck2, cx2, cn2, tk2, cg2, ca2, cl2, cc2, tt2, tz2, ja2, jm2, jc2, ua2, um2, uc2, ka2, kn2, kc2, hA, hBb, hpk, hps, hc2, hq2⟩ := core_cells HR1.out HKS1.out k hlt
      subst hA
      have hbg : ¬ b = gt := by have h1 := hBb.2; have h2 := HGP.out; have h3 := HGT.out; omega
      obtain ⟨u, huk, hfu⟩ := HF.out.get hpk
      have HQ2 := hide hq2; have HC2 := hide hc2; have HPS := hide hps; have HUK := hide huk; have HFU := hide hfu
      have hk1 : (k : Int) < (kn1 : Int) := by omega
      have hk0 : (0 : Int) ≤ (k : Int) := by omega
      have hk2 : ¬ (k : Int) < 0 := by omega
      have hk3 : ¬ (kn1 : Int) ≤ k := by omega
      have hkb : (kn1 : Int) ≤ 4096 := by have h1 := HL.out; have h2 := HUN.out; omega
      clear hBb hpk hps hc2 hq2 huk hfu
      go_upto_region 9 with fail
      refine order_begin (fun W => Keeps NoB wr.drew W) (fun i => !(i == 10) && !(i == 12)) (by kernel_rfl) 13 rfl ?_
      have HSW := hide (Keeps.refl NoB wr.drew)
      have HBW := hide (show Blk wr.drew gt 26 #[.int .u8 6, .bool false, .slice none 0 0, .string ⟨#[]⟩, .int .i64 0, .slice A5 k c5, .slice none 0 0] from HAT.out.box)
      have HPW := hide (show wr.drew.cell? ⟨gp, 10, none⟩ = some (.slice (some ⟨b, o, none⟩) kn1 kc1) from p10)
      have HVW0 := hide (show wr.drew.cell? ⟨gp + 1, 0, none⟩ = some (.slice A n c) from HAT.out.keep.cell (by show ¬ gp + 1 = gt; have := HGT.out; omega) (HP2.out.cell 0))
      have HVW1 := hide (show wr.drew.cell? ⟨gp + 1, 1, none⟩ = some (.slice D m d) from HAT.out.keep.cell (by show ¬ gp + 1 = gt; have := HGT.out; omega) (HP2.out.cell 1))
      have HK20 := hide (show wr.drew.cell? ⟨b, o + k * 11, none⟩ = some (.int .u8 ck2) from HAT.out.keep.cell hbg HQ2.out.1)
      have HK21 := hide (show wr.drew.cell? ⟨b, o + k * 11 + 1, none⟩ = some (.string cx2) from HAT.out.keep.cell hbg HQ2.out.2.1)
      have HK22 := hide (show wr.drew.cell? ⟨b, o + k * 11 + 2, none⟩ = some (.int .i64 cn2) from HAT.out.keep.cell hbg HQ2.out.2.2.1)
      have HK23 := hide (show wr.drew.cell? ⟨b, o + k * 11 + 3, none⟩ = some (.int .u8 tk2) from HAT.out.keep.cell hbg HQ2.out.2.2.2.1)
      have HK24 := hide (show wr.drew.cell? ⟨b, o + k * 11 + 4, none⟩ = some (.bool cg2) from HAT.out.keep.cell hbg HQ2.out.2.2.2.2.1)
      have HK25 := hide (show wr.drew.cell? ⟨b, o + k * 11 + 5, none⟩ = some (.slice ca2 cl2 cc2) from HAT.out.keep.cell hbg HQ2.out.2.2.2.2.2.1)
      have HK26 := hide (show wr.drew.cell? ⟨b, o + k * 11 + 6, none⟩ = some (.string tt2) from HAT.out.keep.cell hbg HQ2.out.2.2.2.2.2.2.1)
      have HK27 := hide (show wr.drew.cell? ⟨b, o + k * 11 + 7, none⟩ = some (.int .i64 tz2) from HAT.out.keep.cell hbg HQ2.out.2.2.2.2.2.2.2.1)
      have HK28 := hide (show wr.drew.cell? ⟨b, o + k * 11 + 8, none⟩ = some (.slice ja2 jm2 jc2) from HAT.out.keep.cell hbg HQ2.out.2.2.2.2.2.2.2.2.1)
      have HK29 := hide (show wr.drew.cell? ⟨b, o + k * 11 + 9, none⟩ = some (.slice ua2 um2 uc2) from HAT.out.keep.cell hbg HQ2.out.2.2.2.2.2.2.2.2.2.1)
      have HK210 := hide (show wr.drew.cell? ⟨b, o + k * 11 + 10, none⟩ = some (.slice ka2 kn2 kc2) from HAT.out.keep.cell hbg HQ2.out.2.2.2.2.2.2.2.2.2.2)
      clear p10
      refine order_pure (i := 0) rfl (by kernel_rfl) (fun _ _ _ h => h) (.inl ⟨rfl, fun _ => by go_simp; rfl⟩) ?_
      try simp only [Act.put, List.setIfInBounds_toArray, List.set_cons_succ, List.set_cons_zero]
      refine order_held (i := 1) rfl (by kernel_rfl) (fun _ _ _ h => h) (.inl ⟨rfl, fun W hW => by
        have q5 : W.cell? ⟨gt, 5, none⟩ = some (.slice A5 k c5) := hW.cell id (HBW.out.cell 5)
        go_simp; rfl⟩) HSW.out ?_
      try simp only [Act.put, List.setIfInBounds_toArray, List.set_cons_succ, List.set_cons_zero]
      refine order_pure (i := 2) rfl (by kernel_rfl) (fun _ _ _ h => h) (.inl ⟨rfl, fun _ => by go_simp; rfl⟩) ?_
      try simp only [Act.put, List.setIfInBounds_toArray, List.set_cons_succ, List.set_cons_zero]
      refine order_held (i := 3) rfl (by kernel_rfl) (fun _ _ _ h => h) (.inl ⟨rfl, fun W hW => by
        have q10 : W.cell? ⟨gp, 10, none⟩ = some (.slice (some ⟨b, o, none⟩) kn1 kc1) := hW.cell id HPW.out
        go_simp; rfl⟩) HSW.out ?_
      try simp only [Act.put, List.setIfInBounds_toArray, List.set_cons_succ, List.set_cons_zero]
      refine order_pure (i := 4) rfl (by kernel_rfl) (fun _ _ _ h => h) (.inl ⟨rfl, fun _ => by go_simp; rfl⟩) ?_
      try simp only [Act.put, List.setIfInBounds_toArray, List.set_cons_succ, List.set_cons_zero]
      refine order_pure (i := 5) rfl (by kernel_rfl) (fun _ _ _ h => h) (.inl ⟨rfl, fun _ => by go_simp; rfl⟩) ?_
      try simp only [Act.put, List.setIfInBounds_toArray, List.set_cons_succ, List.set_cons_zero]
      refine order_held (i := 6) rfl (by kernel_rfl) (fun _ _ _ h => h) (.inl ⟨rfl, fun W hW => by
        have q0 : W.cell? ⟨b, o + k * 11, none⟩ = some (.int .u8 ck2) := hW.cell id HK20.out
        have q1 : W.cell? ⟨b, o + k * 11 + 1, none⟩ = some (.string cx2) := hW.cell id HK21.out
        have q2 : W.cell? ⟨b, o + k * 11 + 2, none⟩ = some (.int .i64 cn2) := hW.cell id HK22.out
        have q3 : W.cell? ⟨b, o + k * 11 + 3, none⟩ = some (.int .u8 tk2) := hW.cell id HK23.out
        have q4 : W.cell? ⟨b, o + k * 11 + 4, none⟩ = some (.bool cg2) := hW.cell id HK24.out
        have q5 : W.cell? ⟨b, o + k * 11 + 5, none⟩ = some (.slice ca2 cl2 cc2) := hW.cell id HK25.out
        have q6 : W.cell? ⟨b, o + k * 11 + 6, none⟩ = some (.string tt2) := hW.cell id HK26.out
        have q7 : W.cell? ⟨b, o + k * 11 + 7, none⟩ = some (.int .i64 tz2) := hW.cell id HK27.out
        have q8 : W.cell? ⟨b, o + k * 11 + 8, none⟩ = some (.slice ja2 jm2 jc2) := hW.cell id HK28.out
        have q9 : W.cell? ⟨b, o + k * 11 + 9, none⟩ = some (.slice ua2 um2 uc2) := hW.cell id HK29.out
        have q10 : W.cell? ⟨b, o + k * 11 + 10, none⟩ = some (.slice ka2 kn2 kc2) := hW.cell id HK210.out
        go_simp; rfl⟩) HSW.out ?_
      try simp only [Act.put, List.setIfInBounds_toArray, List.set_cons_succ, List.set_cons_zero]
      refine order_held (i := 7) rfl (by kernel_rfl) (fun _ _ _ h => h) (.inl ⟨rfl, fun W hW => by
        have v0 : W.cell? ⟨gp + 1, 0, none⟩ = some (.slice A n c) := hW.cell id HVW0.out
        have v1 : W.cell? ⟨gp + 1, 1, none⟩ = some (.slice D m d) := hW.cell id HVW1.out
        go_simp; rfl⟩) HSW.out ?_
      try simp only [Act.put, List.setIfInBounds_toArray, List.set_cons_succ, List.set_cons_zero]
      refine order_one (i := 8) rfl (by kernel_rfl) (fun K hK => ?_)
      go_simp
      have HKR := hide (HAT.out.keep.drew : Keeps (fun j => j = gt) w1 wr.drew)
      have HNG := hide (show ∀ j, (B j ∧ j < w.heap.size) → ¬ j = gt from fun j hj e => by have h2 := HGP.out; have h3 := HGT.out; have := hj.2; omega)
      refine (HIH.out p u (by have h1 := HPS.out; have h2 := HM.out; omega) HFU.out wr.drew (fun j => B j ∧ j < w.heap.size) _ _ _ _ _ _ _ _ _ _ _ _ _ _ _ _ _ _ _ _ _ _ _ _ _ _ (CoreIn.keep HKR.out HNG.out _ _ HC2.out) (HV1.out.keep HKR.out HNG.out)).mono ?_
      rintro e w4 ⟨kd4, ng4, la4, ln4, lc4, tx4, nm4, ia4, im4, ic4, ta4, tn4, tc4, rfl, ht4, hk4⟩
      have HK4 := hide hk4; have HT4 := hide ht4
      refine hK _ _ (fun _ _ => HK4.out) ?_
      clear hK hk4 ht4
      try simp only [Act.put, List.setIfInBounds_toArray, List.set_cons_succ, List.set_cons_zero]
      refine order_one (i := 9) rfl (by kernel_rfl) (fun K hK => ?_)
      go_simp
      have HK5 := hide (HK4.out.alloc (.cells #[.int .u8 kd4, .bool ng4, .slice la4 ln4 lc4, .string tx4, .int .i64 nm4, .slice ia4 im4 ic4, .slice ta4 tn4 tc4] 26))
      refine hK _ _ (fun _ _ => HK5.out) ?_
      clear hK
      try simp only [Act.put, List.setIfInBounds_toArray, List.set_cons_succ, List.set_cons_zero]
      have HT5 := hide (TermIn.keep ((Keeps.refl NoB w4).alloc (.cells #[.int .u8 kd4, .bool ng4, .slice la4 ln4 lc4, .string tx4, .int .i64 nm4, .slice ia4 im4 ic4, .slice ta4 tn4 tc4] 26)) (fun _ _ => id) _ _ HT4.out)
      have HB5 := hide (Blk.new w4 26 #[.int .u8 kd4, .bool ng4, .slice la4 ln4 lc4, .string tx4, .int .i64 nm4, .slice ia4 im4 ic4, .slice ta4 tn4 tc4])
      generalize w4.alloc (.cells #[.int .u8 kd4, .bool ng4, .slice la4 ln4 lc4, .string tx4, .int .i64 nm4, .slice ia4 im4 ic4, .slice ta4 tn4 tc4] 26) = w5 at *
      obtain ⟨dss, hsl, htm⟩ := HAT.out.row
      have hsl_lt : ∀ j, rowB A5 j → j < wr.heap.size := fun j hj => hsl.lt hj
      have HSL := hide (hsl.drew.fresh HK5.out); have HTM := hide (TermsIn.keep ((Keeps.refl NoB wr).drew.trans' HK5.out (fun _ _ => id) (fun _ _ => id)) (fun _ _ => id) _ _ htm)
      clear hsl htm
      refine order_one (i := 10) rfl (by kernel_rfl) (fun K hK => ?_)
      rw [if_pos (by kernel_rfl)]
      refine wp_append_term w5 _ _ rfl A5 k c5 dss rfl HSL.out (by have h1 := HL.out; have h2 := HUN.out; omega) w4.heap.size 26 [.int .u8 kd4, .bool ng4, .slice la4 ln4 lc4, .string tx4, .int .i64 nm4, .slice ia4 im4 ic4, .slice ta4 tn4 tc4] u _ rfl HB5.out HT5.out (fun A6 c6 w6 hs6 hk6 hm6 => ?_)
      refine hK _ _ (fun h => absurd h (by decide)) ?_
      clear hK
      try simp only [Act.put, List.setIfInBounds_toArray, List.set_cons_succ, List.set_cons_zero]
      have HS6 := hide hs6; have HK6 := hide hk6; have HM6 := hide hm6
      have HNR := hide HAT.out.new
      have HGW := hide (show gt < w1.heap.size from HBT.out.lt)
      have HB6 := hide ((HBW.out.keep HK5.out id).keep hk6 (fun e => by have h1 := HNR.out gt e; have h2 := HGW.out; omega))
      clear hs6 hk6 hm6
      refine order_pure (i := 11) rfl (by kernel_rfl) (fun _ _ _ h => h) (.inl ⟨rfl, fun _ => by go_simp; rfl⟩) ?_
      try simp only [Act.put, List.setIfInBounds_toArray, List.set_cons_succ, List.set_cons_zero]
      have z5 := HB6.out.free 5
      have q5 := HB6.out.cell 5
      refine order_one (i := 12) rfl (by kernel_rfl) (fun K hK => ?_)
      go_simp
      refine hK _ _ (fun h => absurd h (by decide)) ?_
      clear hK z5 q5
      try simp only [Act.put, List.setIfInBounds_toArray, List.set_cons_succ, List.set_cons_zero]
      refine order_done (by kernel_rfl) ?_
      have HTN : Hid (TupFill w B gp gt (us.take (k + 1)) w1 (k + 1) A6 c6 (w6.setCell ⟨gt, 5, none⟩ (.slice A6 (k + 1 : Nat) c6))) := hide (by
        have h1 := HGW.out; have h2 := HGT.out; have h3 := HGP.out
        have h4 : w1.heap.size ≤ wr.heap.size := HAT.out.keep.size
        have h5 : wr.heap.size ≤ w5.heap.size := HK5.out.size
        have hks : Keeps (fun j => j = gt) w6 (w6.setCell ⟨gt, 5, none⟩ (.slice A6 (k + 1 : Nat) c6)) := (Keeps.refl (fun j => j = gt) w6).setCell (p := ⟨gt, 5, none⟩) (.inl rfl) _
        have hn : ∀ j, rowB A5 j → gt < j := fun j hj => Nat.lt_of_lt_of_le h1 (HNR.out j hj)
        have hn6 : ∀ j, rowB A6 j → w1.heap.size ≤ j := fun j hj => by
          rcases HM6.out j hj with h | h
          · exact HNR.out j h
          · omega
        refine ⟨HB6.out.put 5 _, ⟨dss ++ [[.int .u8 kd4, .bool ng4, .slice la4 ln4 lc4, .string tx4, .int .i64 nm4, .slice ia4 im4 ic4, .slice ta4 tn4 tc4]], HS6.out.keep hks (fun j hj e => by have h6 := hn6 j hj; have e : j = gt := e; omega), ?_⟩, hn6, ?_⟩
        · rw [List.take_add_one, HUK.out]
          refine TermsIn.keep hks (fun j hj e => ?_) _ _ (TermsIn.append (TermsIn.off HTM.out HK6.out HM6.out (fun j h => h) hn (by omega)) (TermsIn.one (TermIn.off HT5.out HK6.out HM6.out (fun j h => ?_) hn (by omega))))
          · have e : j = gt := e
            rcases hj with h | h
            · have := h.2; omega
            · have := h.1; omega
          · rcases h with h | h
            · exact .inl h
            · refine .inr ⟨?_, fun hr => ?_⟩
              · have h6 : wr.heap.size ≤ j := h
                omega
              · have h7 := (hsl_lt : ∀ j, rowB A5 j → j < wr.heap.size) j hr
                have h6 : wr.heap.size ≤ j := h
                omega
        · exact (((HAT.out.keep.drew.trans' HK5.out (fun _ _ => id) (fun _ _ h => h.elim)).trans' HK6.out (fun _ _ => id) (fun j hj hr => by have := HNR.out j hr; omega)).trans' hks (fun _ _ => id) (fun _ _ => id) : Keeps (fun j => j = gt) w1 _))
      go_wp2_with fail
      go_roundw
      case rel => exact ⟨k + 1, A6, c6, by omega, by go_num, HTN.out⟩
      case measure => simp [intOf]; omega
    · obtain rfl : k = kn1 := by omega
      have HB4Z := hide (HP4.out.keep HAT.out.keep (by show ¬ gp + 1 + 1 = gt; have := HGT.out; omega))
      obtain ⟨y0, y1, y2, y3, y4, y5, y6⟩ := Blk.f7 (w := wr) (g := gp + 1 + 1) HB4Z.out
      obtain ⟨x0, x1, x2, x3, x4, x5, x6⟩ := Blk.c7 HB4Z.out
      obtain ⟨t0, t1, t2, t3, t4, t5, t6⟩ := Blk.c7 HAT.out.box
      go_wp2
      have HKA := hide (keeps_tput7 wr (gp + 1 + 1) (.int .u8 6) (.bool false) (.slice none 0 0) (.string ⟨#[]⟩) (.int .i64 0) (.slice A5 k c5) (.slice none 0 0))
      refine bodyPost_ret (results7 Tryz.f13 4 (by kernel_rfl) _ _ _ _ _ _ _ _ _ _ rfl (HB4Z.out.tput7 _ _ _ _ _ _ _)) rfl ?_
      have HG := HGP.out; have HGT2 := HGT.out; have hbt := HBT.out.lt
      obtain ⟨dss, hsl, htm⟩ := HAT.out.row
      rw [List.take_of_length_le (by have := HUN.out; omega)] at htm
      have hoff : ∀ j, ((B j ∧ j < w.heap.size) ∨ gt < j) → ¬ j = gp + 1 + 1 := fun j hj e => by
        rcases hj with h | h
        · have := h.2; omega
        · omega
      have hres : ∀ j, j < (((((((wr.setCell ⟨gp + 1 + 1, 0, none⟩ (.int .u8 6)).setCell ⟨gp + 1 + 1, 1, none⟩ (.bool false)).setCell ⟨gp + 1 + 1, 2, none⟩ (.slice none 0 0)).setCell ⟨gp + 1 + 1, 3, none⟩ (.string ⟨#[]⟩)).setCell ⟨gp + 1 + 1, 4, none⟩ (.int .i64 0)).setCell ⟨gp + 1 + 1, 5, none⟩ (.slice A5 k c5)).setCell ⟨gp + 1 + 1, 6, none⟩ (.slice none 0 0)).heap.size → ((B j ∧ j < w.heap.size) ∨ gt < j) → (B j ∨ w.heap.size ≤ j) := fun j _ hj => hj.elim (fun h => .inl h.1) (fun h => .inr (by omega))
      refine ⟨_, _, _, _, _, _, _, _, _, _, _, _, _, rfl, TermIn.more hres _ _ (TermIn.keep HKA.out hoff _ _ ?_), ?_⟩
      · have hsl' := ((hsl.reads.more (B' := fun j => (B j ∧ j < w.heap.size) ∨ gt < j) (fun j _ hr => .inr (Nat.lt_of_lt_of_le hbt (HAT.out.new j hr)))).weak)
        have htm' := TermsIn.more (B' := fun j => (B j ∧ j < w.heap.size) ∨ gt < j) (fun j _ hj => hj.imp id (fun h => h.1)) _ _ htm
        unfold TermIn
        exact ⟨_, _, _, _, _, _, _, _, _, dss, [], rfl, ⟨RoomC.zero _, ⟨roomy4096 (by have h1 := HL.out; have h2 := HUN.out; omega), hsl.2.1, hsl.2.2.1⟩, RoomC.zero _⟩, Reads.zero _ _ _ _ _, hsl', htm', Reads.zero _ _ _ _ _, by unfold TermsIn; trivial⟩
      · exact (HKW.out.trans' HAT.out.keep (fun _ _ => id) (fun k hk e => by have e : k = gt := e; omega)).trans' HKA.out (fun _ _ => id) (fun k hk (e : k = gp + 1 + 1) => by omega)
theorem filled_all (V : VSt) : ∀ M, FSaid V M
  | 0 => fun p u hp => by have := p.size_pos; omega
  | M + 1 => by
    intro p u hp hf w B ck1 cx1 cn1 tk1 cg1 ca1 cl1 cc1 tt1 tz1 ja1 jm1 jc1 ua1 um1 uc1 ka1 kn1 kc1 A n c D m d css hc hv
    have IH := filled_all V M
    cases hf with
    | any h => exact filled_21 V _ u h w B _ _ _ _ _ _ _ _ _ _ _ _ _ _ _ _ _ _ _ A n c D m d css hc hv
    | tup hs hl => exact filled_24 V M IH _ _ (by simp only [Co.size] at hp; omega) hl hs w B _ _ _ _ _ _ _ _ _ _ _ _ _ _ _ _ _ _ _ A n c D m d css hc hv
    | cons hg hs h1 h2 => exact filled_25 V M IH _ _ u _ _ (by simp only [Co.size, Co.size.sizes] at hp; omega) hg hs h1 h2 w B _ _ _ _ _ _ _ _ _ _ _ _ _ _ _ _ _ _ _ A n c D m d css hc hv
    | con => exact filled_23 V _ w B _ _ _ _ _ _ _ _ _ _ _ _ _ _ _ _ _ _ _ A n c D m d css hc
/-- law11.filled, of a pattern of these kinds. -/
theorem filled_any (V : VSt) (p : Co) (u : Tm) (hf : Fill V p u) (w : World) (B : Nat → Prop) (ck1 : Int) (cx1 : ByteArray) (cn1 tk1 : Int) (cg1 : Bool) (ca1 : Option Addr) (cl1 cc1 : Nat) (tt1 : ByteArray) (tz1 : Int) (ja1 : Option Addr) (jm1 jc1 : Nat) (ua1 : Option Addr) (um1 uc1 : Nat) (ka1 : Option Addr) (kn1 kc1 : Nat) (A : Option Addr) (n c : Nat) (D : Option Addr) (m d : Nat) (css : List (List Value)) (hc : CoreIn w B false [.int .u8 ck1, .string cx1, .int .i64 cn1, .int .u8 tk1, .bool cg1, .slice ca1 cl1 cc1, .string tt1, .int .i64 tz1, .slice ja1 jm1 jc1, .slice ua1 um1 uc1, .slice ka1 kn1 kc1] p) (hv : VIn w B A n c D m d css V) : Calls Tryz.prog 13 #[.agg #[.int .u8 ck1, .string cx1, .int .i64 cn1, .int .u8 tk1, .bool cg1, .slice ca1 cl1 cc1, .string tt1, .int .i64 tz1, .slice ja1 jm1 jc1, .slice ua1 um1 uc1, .slice ka1 kn1 kc1], .agg #[.slice A n c, .slice D m d]] w (FP w B u) :=
  filled_all V p.size p u (Nat.le_refl _) hf w B _ _ _ _ _ _ _ _ _ _ _ _ _ _ _ _ _ _ _ A n c D m d css hc hv
end Go.Proofs.YtjdbjjjbgibpaaaGreatDoor
