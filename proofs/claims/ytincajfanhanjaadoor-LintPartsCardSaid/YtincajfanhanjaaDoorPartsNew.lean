/- An append as an operation of a region that draws its order. Rows of nodes that are new, and what lies off them. What is left of a region that draws its order, by what holds whichever operations have come up; a node over two appends onto a new row. -/
import Derived.Test.YtincajfanhanjaaDoorPartsPick
import Derived.Test.YtincajfanhanjaaDoorSeq4
namespace Go.Proofs.YtincajfanhanjaaDoor
open Go.RowKit

theorem wp_append_any {P : Program} (w : World) {o : Oper} {a : Act} {K : Act → World → Prop} {Q : Exit → Act → World → Prop} (s x : Operand) (t : TypeId)
    (ho : o.op = .call { callee := .builtin .append, args := #[s, x], argTypes := #[t, t] })
    (e : TypeId) (i : TypeInfo) (z : Value) (size bytes : Nat) (ht : P.underlying t = some (.slice e)) (hi : P.info? e = some i) (hz : i.zero = some z)
    (hsize : i.size = size) (hby : i.bytes = bytes) (hzs : z.cells.size = size) (hsz : 0 < size)
    (A : Option Addr) (n c : Nat) (xs : List Value) (he : a.eval s = .slice A n c) (hs : Slab w e size A n c xs)
    (B : Nat → Prop) (F : Bool) (A2 : Option Addr) (m c2 : Nat) (news : List Value) (hx : a.eval x = .slice A2 m c2) (hr : Reads w B F size A2 m news) (h1 : ∀ u ∈ news, u.oneCell' = true)
    (h63 : n + m ≤ maxLen) (hbytes : (n + m) * bytes ≤ 140737488355328)
    (h : ∀ A' c' w', Slab w' e size A' (n + m) c' (xs ++ news) → Keeps (rowB A) w w' → Moved w A A' → K (a.put o.dst (.slice A' (n + m) c')) w') : o.wp P a w K Q := by
  rcases Nat.eq_zero_or_pos m with rfl | hm
  · obtain ⟨w', hrun, h2, h3⟩ := run_append_room_slab (P := P) w t o.type e i size ht hi hsize A n c xs hs B F A2 0 c2 news hr h1 (by have := hs.2.1; omega)
    unfold Oper.wp execOp
    simp only [ho, resolve, invoke, builtin, Sem.run_bind, Sem.run_pure, Result.andThen_ok, List.map_toArray, List.map_cons, List.map_nil, he, hx, hrun]
    exact h A c w' h2 h3 (Moved.same _ _)
  · obtain ⟨A', c', w', hrun, h2, h3, h4⟩ := run_append_slab (P := P) w t o.type e i z size bytes ht hi hz hsize hby hzs hsz A n c xs hs B F A2 m c2 news hr hm h1 h63 hbytes
    unfold Oper.wp execOp
    simp only [ho, resolve, invoke, builtin, Sem.run_bind, Sem.run_pure, Result.andThen_ok, List.map_toArray, List.map_cons, List.map_nil, he, hx, hrun]
    exact h A' c' w' h2 h3 h4
/-- Nodes appended to a row of nodes. -/
theorem wp_append_nodes (w : World) {o : Oper} {a : Act} {K : Act → World → Prop} {Q : Exit → Act → World → Prop} (s x : Operand)
    (ho : o.op = .call { callee := .builtin .append, args := #[s, x], argTypes := #[27, 27] })
    (A : Option Addr) (n c : Nat) (xs : List Value) (he : a.eval s = .slice A n c) (hs : Slab w 29 5 A n c xs)
    (B : Nat → Prop) (F : Bool) (A2 : Option Addr) (m c2 : Nat) (css : List (List Value)) (ts : List Nd) (hx : a.eval x = .slice A2 m c2) (hr : Reads w B F 5 A2 m css.flatten) (hc : NodesIn w B F css ts)
    (hn : n ≤ 1000000) (hm : m ≤ 1000000)
    (h : ∀ A' c' w', Slab w' 29 5 A' (n + m) c' (xs ++ css.flatten) → Keeps (rowB A) w w' → Moved w A A' → K (a.put o.dst (.slice A' (n + m) c')) w') : o.wp Tryd.prog a w K Q := by
  obtain ⟨i0, ni0, nz0, nz1, nz2⟩ := nd_info_parts Tryd.infoNd
  exact wp_append_any w s x 27 ho 29 i0 _ 5 64 Tryd.underlying27 ni0 nz0 nz1 nz2 rfl (by omega) A n c xs he hs B F A2 m c2 css.flatten hx hr (cells5_one hc) (by unfold maxLen; omega) (by omega) h
end Go.Proofs.YtincajfanhanjaaDoor
namespace Go.Proofs.YtincajfanhanjaaDoor
open Go.RowKit

/-- v is a row of n nodes with these cells, that lies in no block of W0's. -/
def RowNew (W0 w : World) (n : Nat) (xs : List Value) (v : Value) : Prop := ∃ A c, v = .slice A n c ∧ Slab w 29 5 A n c xs ∧ ∀ k, rowB A k → W0.heap.size ≤ k
/-- The block g is none of the row's. -/
def OffRow (g : Nat) (v : Value) : Prop := ∀ A n c, v = .slice A n c → ¬ rowB A g
theorem RowNew.keep {W0 w w' : World} {n : Nat} {xs : List Value} {v : Value} {fp : Nat → Prop} (h : RowNew W0 w n xs v) (hk : Keeps fp w w') (hf : ∀ A c k, v = .slice A n c → rowB A k → ¬ fp k) : RowNew W0 w' n xs v := by
  obtain ⟨A, c, e, h1, h2⟩ := h
  exact ⟨A, c, e, h1.keep hk (fun k hk2 => hf A c k e hk2), h2⟩
theorem RowNew.fresh {W0 w w' : World} {n : Nat} {xs : List Value} {v : Value} (h : RowNew W0 w n xs v) (hk : Keeps NoB w w') : RowNew W0 w' n xs v := h.keep hk (fun _ _ _ _ _ => id)
/-- A block that is made behind it lies off it. -/
theorem RowNew.off {W0 w : World} {n : Nat} {xs : List Value} {v : Value} (h : RowNew W0 w n xs v) {g : Nat} (hg : w.heap.size ≤ g) : OffRow g v := by
  obtain ⟨A, c, rfl, h1, _⟩ := h
  intro A' n' c' e hr
  injection e with e1 e2 e3
  subst e1
  have := h1.lt hr
  omega
/-- The empty slice that was just laid. -/
theorem RowNew.none {W0 w : World} (hs : W0.heap.size ≤ w.heap.size) : RowNew W0 (w.alloc (.cells #[] 29)) 0 [] (.slice (some ⟨w.heap.size, 0, Option.none⟩) 0 0) :=
  ⟨_, _, rfl, Slab.mk' rfl (Nat.le_refl _) (by unfold maxLen; omega) (Blk.new w 29 #[]) (by simp) (fun j hj => by omega), fun k ⟨o, e⟩ => by injection e with e; injection e with e; omega⟩
/-- An append onto a new row: the row is new, what lay off it and was there lies off the longer one. -/
theorem wp_append_new {W0 w : World} {o : Oper} {a : Act} {K : Act → World → Prop} {Q : Exit → Act → World → Prop} (s x : Operand)
    (ho : o.op = .call { callee := .builtin .append, args := #[s, x], argTypes := #[27, 27] })
    (n : Nat) (xs : List Value) (v : Value) (he : a.eval s = v) (hs : RowNew W0 w n xs v) (hw : W0.heap.size ≤ w.heap.size)
    (B : Nat → Prop) (F : Bool) (A2 : Option Addr) (m c2 : Nat) (css : List (List Value)) (ts : List Nd) (hx : a.eval x = .slice A2 m c2) (hr : Reads w B F 5 A2 m css.flatten) (hc : NodesIn w B F css ts)
    (hn : n ≤ 1000000) (hm : m ≤ 1000000)
    (h : ∀ v' w', RowNew W0 w' (n + m) (xs ++ css.flatten) v' → Keeps NoB W0 w' → (∀ g t cs, Blk w g t cs → OffRow g v → Blk w' g t cs ∧ OffRow g v') → K (a.put o.dst v') w') (hk0 : Keeps NoB W0 w) : o.wp Tryd.prog a w K Q := by
  obtain ⟨A, c, rfl, h1, h2⟩ := hs
  refine wp_append_nodes w s x ho A n c xs he h1 B F A2 m c2 css ts hx hr hc hn hm (fun A' c' w' h3 h4 h5 => ?_)
  refine h _ w' ⟨A', c', rfl, h3, fun k hk => (h5 k hk).elim (h2 k) (fun e => by omega)⟩ (hk0.trans' h4 (fun _ _ => id) (fun i hi e => by have := h2 i e; omega)) (fun g t cs hb ho2 => ⟨hb.keep h4 (ho2 A n c rfl), fun A9 n9 c9 e hr9 => ?_⟩)
  injection e with e1 e2 e3
  subst e1
  rcases h5 g hr9 with e | e
  · exact ho2 A n c rfl e
  · have := hb.lt; omega
end Go.Proofs.YtincajfanhanjaaDoor
namespace Go.Proofs.YtincajfanhanjaaDoor
open Go.RowKit

section
variable {P : Program} {ops : Array Oper} {Q : Exit → Act → World → Prop} {S : World → Prop} {need : Nat → Bool}
theorem inv_walkN (I : (Nat → Bool) → Act → World → Prop) (done : List Nat) (hw : (wellOrdered ops && downward ops) = true) (hS : ∀ d a w, I d a w → S w)
    (hstep : ∀ d a w i oi, ops[i]? = some oi → done.contains i = false → I d a w → d i = false → (∀ e ∈ oi.after, Region.binds .any e = true → d e.on = true) → ∀ K : Act → World → Prop, (∀ a' w', I (setB d i) a' w' → K a' w') →
      if Region.wanted oi (yielded ops a.tmps) then oi.wp P a w K Q else K (a.put oi.dst undef) w)
    (hend : ∀ d a w, I d a w → (∀ i, i < ops.size → d i = true) → Q .normal a w) :
    ∀ (fuel : Nat) (listed : Array Bool) (d : Nat → Bool) (a : Act) (w : World), listed.size = ops.size → (∀ j, j < ops.size → listed.getD j false = d j) → (∀ j, done.contains j = true → d j = true) → leftB ops.size d ≤ fuel → I d a w → wpAnyN P ops Q S need fuel listed a w := by
  rw [Bool.and_eq_true] at hw
  have hw2 := hw.1
  simp only [wellOrdered, Bool.and_eq_true] at hw2
  have hready : ∀ (listed : Array Bool) (d : Nat → Bool), listed.size = ops.size → (∀ j, j < ops.size → listed.getD j false = d j) → ∀ i, i ∈ Region.ready .any ops listed ↔ ∃ oi, ops[i]? = some oi ∧ d i = false ∧ ∀ e ∈ oi.after, Region.binds .any e = true → d e.on = true := by
    intro listed d hs hl i
    rw [mem_ready]
    constructor
    · rintro ⟨h1, oi, h2, h3⟩
      have hi : i < ops.size := (Array.getElem?_eq_some_iff.1 h2).1
      refine ⟨oi, h2, ?_, fun e he hb => ?_⟩
      · rw [← hl i hi]; rw [getD_true_of (by omega)] at h1; exact h1
      · have := h3 e he hb
        have hall := Array.all_eq_true_iff_forall_mem.1 (Array.all_eq_true_iff_forall_mem.1 hw2.2 oi (Array.mem_of_getElem? h2)) e he
        simp only [decide_eq_true_eq] at hall
        rw [← hl e.on hall]; exact this
    · rintro ⟨oi, h2, h1, h3⟩
      have hi : i < ops.size := (Array.getElem?_eq_some_iff.1 h2).1
      refine ⟨?_, oi, h2, fun e he hb => ?_⟩
      · rw [getD_true_of (by omega), hl i hi]; exact h1
      · have := h3 e he hb
        have hall := Array.all_eq_true_iff_forall_mem.1 (Array.all_eq_true_iff_forall_mem.1 hw2.2 oi (Array.mem_of_getElem? h2)) e he
        simp only [decide_eq_true_eq] at hall
        rw [hl e.on hall]; exact this
  have hdone : ∀ (listed : Array Bool) (d : Nat → Bool), listed.size = ops.size → (∀ j, j < ops.size → listed.getD j false = d j) → Region.ready .any ops listed = [] → ∀ i, i < ops.size → d i = true := by
    intro listed d hs hl h
    refine all_of_ready hw.2 (fun i oi h1 h2 h3 => ?_)
    have := (hready listed d hs hl i).2 ⟨oi, h1, h2, h3⟩
    rw [h] at this; cases this
  intro fuel
  induction fuel with
  | zero =>
    intro listed d a w hs hl hdd hf hI
    have h0 : Region.ready .any ops listed = [] := by
      cases hr : Region.ready .any ops listed with
      | nil => rfl
      | cons i l =>
        obtain ⟨oi, h1, h2, _⟩ := (hready listed d hs hl i).1 (by rw [hr]; exact List.mem_cons_self)
        have := leftB_set (Array.getElem?_eq_some_iff.1 h1).1 h2
        omega
    exact ⟨h0, hend d a w hI (hdone listed d hs hl h0)⟩
  | succ fuel ih =>
    intro listed d a w hs hl hdd hf hI
    refine ⟨fun h0 => hend d a w hI (hdone listed d hs hl h0), fun i hi => ?_⟩
    obtain ⟨oi, h1, h2, h3⟩ := (hready listed d hs hl i).1 hi
    have hlt := (Array.getElem?_eq_some_iff.1 h1).1
    have hnd : done.contains i = false := by
      cases h : done.contains i with
      | false => rfl
      | true => rw [hdd i h] at h2; cases h2
    have hK := hstep d a w i oi h1 hnd hI h2 h3 (fun a' w' => (need i = true → S w → S w') ∧ wpAnyN P ops Q S need fuel (listed.setIfInBounds i true) a' w') (fun a' w' h' => ⟨fun _ _ => hS _ _ _ h', ih _ (setB d i) a' w' (by simp [hs]) (fun j hj => by
      by_cases e : i = j
      · subst e; rw [setB_self]; simp [Array.getD, hs, hlt]
      · rw [getD_set_ne false e, setB_ne d (fun e' => e e'.symm)]; exact hl j hj) (fun j hj => by
        by_cases e : j = i
        · subst e; exact setB_self d j
        · rw [setB_ne d e]; exact hdd j hj) (by have := leftB_set hlt h2; omega) h'⟩)
    unfold wpOp
    simp only [h1]
    split
    · rename_i hwt; rw [if_pos hwt] at hK; exact .inl hK
    · rename_i hwt; rw [if_neg hwt] at hK; exact hK
/-- What is left of the region. -/
theorem order_rest {fuel : Nat} {done : List Nat} {a : Act} {w : World} (I : (Nat → Bool) → Act → World → Prop) (hw : (wellOrdered ops && downward ops && decide (leftB ops.size (fun j => done.contains j) ≤ fuel)) = true) (hS : ∀ d a w, I d a w → S w) (hI : I (fun j => done.contains j) a w)
    (hstep : ∀ d a w i oi, ops[i]? = some oi → done.contains i = false → I d a w → d i = false → (∀ e ∈ oi.after, Region.binds .any e = true → d e.on = true) → ∀ K : Act → World → Prop, (∀ a' w', I (setB d i) a' w' → K a' w') →
      if Region.wanted oi (yielded ops a.tmps) then oi.wp P a w K Q else K (a.put oi.dst undef) w)
    (hend : ∀ d a w, I d a w → (∀ i, i < ops.size → d i = true) → Q .normal a w) : Order P ops Q S need fuel done a w := by
  rw [Bool.and_eq_true] at hw
  intro listed hag
  exact inv_walkN I done hw.1 hS hstep hend fuel listed _ a w hag.1 (fun j hj => by rw [hag.2]; simp [hj]) (fun j h => h) (of_decide_eq_true hw.2) hI
end

/-- The block g lies off the row that is the current one. -/
def OffAt (b1 b2 b3 : Bool) (x1 x2 x3 : Value) (g : Nat) : Prop := (b1 = true → b2 = false → OffRow g x1) ∧ (b2 = true → b3 = false → OffRow g x2) ∧ (b3 = true → OffRow g x3)
/-- What holds whichever have come up: 1 the empty slice, 2 and 3 the appends, 4 the node's block, 5 a slice of one, 6 the node, 7 its store. -/
structure RowsI (W0 w : World) (n1 : Nat) (cs1 : List Value) (n2 : Nat) (cs2 : List Value) (f5 : Array Value) (pl : Int) (b1 b2 b3 b4 b5 b6 b7 : Bool) (x1 x2 x3 x4 x5 x6 : Value) : Prop where
  keep : Keeps NoB W0 w
  h1 : b1 = true → b2 = false → RowNew W0 w 0 [] x1
  h2 : b2 = true → b3 = false → RowNew W0 w n1 cs1 x2
  h3 : b3 = true → RowNew W0 w (n1 + n2) (cs1 ++ cs2) x3
  h4 : b4 = true → ∃ g c5, x4 = .pointer (some ⟨g, 0, none⟩) ∧ W0.heap.size ≤ g ∧ Blk w g 29 c5 ∧ (b7 = false → c5 = #[.int .u8 0, .string ByteArray.empty, .int .i64 0, .int .i64 0, .slice none 0 0]) ∧ (b7 = true → c5 = #[.int .u8 22, .string ByteArray.empty, .int .i64 0, .int .i64 pl, x3]) ∧ OffAt b1 b2 b3 x1 x2 x3 g
  h5 : b5 = true → b3 = false → ∃ g, x5 = .slice (some ⟨g, 0, none⟩) 1 1 ∧ W0.heap.size ≤ g ∧ Blk w g 29 f5 ∧ OffAt b1 b2 b3 x1 x2 x3 g
  h6 : b6 = true → b3 = true ∧ x6 = .agg #[.int .u8 22, .string ByteArray.empty, .int .i64 0, .int .i64 pl, x3]
  up : (b3 = true → b2 = true) ∧ (b2 = true → b1 = true) ∧ (b7 = true → b4 = true ∧ b3 = true)
namespace RowsI
variable {W0 w : World} {n1 : Nat} {cs1 : List Value} {n2 : Nat} {cs2 : List Value} {f5 : Array Value} {pl : Int} {b1 b2 b3 b4 b5 b6 b7 : Bool} {x1 x2 x3 x4 x5 x6 : Value}
theorem begin (w : World) : RowsI w w n1 cs1 n2 cs2 f5 pl false false false false false false false x1 x2 x3 x4 x5 x6 :=
  ⟨Keeps.refl _ _, fun h => (by cases h), fun h => (by cases h), fun h => (by cases h), fun h => (by cases h), fun h => (by cases h), fun h => (by cases h), fun h => (by cases h), fun h => (by cases h), fun h => (by cases h)⟩
theorem alloc (h : RowsI W0 w n1 cs1 n2 cs2 f5 pl b1 b2 b3 b4 b5 b6 b7 x1 x2 x3 x4 x5 x6) (o : Obj) : RowsI W0 (w.alloc o) n1 cs1 n2 cs2 f5 pl b1 b2 b3 b4 b5 b6 b7 x1 x2 x3 x4 x5 x6 :=
  have hk : Keeps NoB w (w.alloc o) := (Keeps.refl _ w).alloc o
  ⟨h.keep.alloc o, fun a b => (h.h1 a b).fresh hk, fun a b => (h.h2 a b).fresh hk, fun a => (h.h3 a).fresh hk, fun a => by
    obtain ⟨g, c5, e1, e2, e3, e4⟩ := h.h4 a
    exact ⟨g, c5, e1, e2, e3.alloc o, e4⟩, fun a b => by
    obtain ⟨g, e1, e2, e3, e4⟩ := h.h5 a b
    exact ⟨g, e1, e2, e3.alloc o, e4⟩, h.h6, h.up⟩
/-- The empty slice. -/
theorem s1 (h : RowsI W0 w n1 cs1 n2 cs2 f5 pl b1 b2 b3 b4 b5 b6 b7 x1 x2 x3 x4 x5 x6) (hb : b1 = false) : RowsI W0 (w.alloc (.cells #[] 29)) n1 cs1 n2 cs2 f5 pl true b2 b3 b4 b5 b6 b7 (.slice (some ⟨w.heap.size, 0, none⟩) 0 0) x2 x3 x4 x5 x6 := by
  subst hb
  have hb2 : b2 = false := by cases b2 with
    | false => rfl
    | true => exact absurd (h.up.2.1 rfl) (by decide)
  subst hb2
  have hb3 : b3 = false := by cases b3 with
    | false => rfl
    | true => exact absurd (h.up.1 rfl) (by decide)
  subst hb3
  have hoff : ∀ {g : Nat} {t : TypeId} {cs : Array Value}, Blk w g t cs → OffRow g (.slice (some ⟨w.heap.size, 0, none⟩) 0 0) := by
    intro g t cs hb A n c e ⟨o, hr⟩
    injection e with e
    rw [← e] at hr
    injection hr with hr
    injection hr with hr
    have := hb.lt
    omega
  refine ⟨h.keep.alloc _, fun _ _ => RowNew.none h.keep.size, fun a => (by cases a), fun a => (by cases a), fun a => ?_, fun a b => ?_, h.h6, fun a => (by cases a), fun _ => rfl, h.up.2.2⟩
  · obtain ⟨g, c5, e1, e2, e3, e4, e5, _⟩ := h.h4 a
    exact ⟨g, c5, e1, e2, e3.alloc _, e4, e5, fun _ _ => hoff e3, fun a => (by cases a), fun a => (by cases a)⟩
  · obtain ⟨g, e1, e2, e3, _⟩ := h.h5 a b
    exact ⟨g, e1, e2, e3.alloc _, fun _ _ => hoff e3, fun a => (by cases a), fun a => (by cases a)⟩
/-- The first append. -/
theorem s2 (h : RowsI W0 w n1 cs1 n2 cs2 f5 pl b1 b2 b3 b4 b5 b6 b7 x1 x2 x3 x4 x5 x6) (hb1 : b1 = true) (hb : b2 = false) {v : Value} {w' : World} (hr : RowNew W0 w' (0 + n1) ([] ++ cs1) v) (hk : Keeps NoB W0 w') (ho : ∀ g t cs, Blk w g t cs → OffRow g x1 → Blk w' g t cs ∧ OffRow g v) :
    RowsI W0 w' n1 cs1 n2 cs2 f5 pl b1 true b3 b4 b5 b6 b7 x1 v x3 x4 x5 x6 := by
  subst hb hb1
  have hb3 : b3 = false := by cases b3 with
    | false => rfl
    | true => exact absurd (h.up.1 rfl) (by decide)
  subst hb3
  rw [Nat.zero_add, List.nil_append] at hr
  refine ⟨hk, fun _ a => (by cases a), fun _ _ => hr, fun a => (by cases a), fun a => ?_, fun a b => ?_, h.h6, fun a => (by cases a), fun _ => rfl, h.up.2.2⟩
  · obtain ⟨g, c5, e1, e2, e3, e4, e5, e6, _⟩ := h.h4 a
    exact ⟨g, c5, e1, e2, (ho g _ _ e3 (e6 rfl rfl)).1, e4, e5, fun _ a => (by cases a), fun _ _ => (ho g _ _ e3 (e6 rfl rfl)).2, fun a => (by cases a)⟩
  · obtain ⟨g, e1, e2, e3, e6, _⟩ := h.h5 a b
    exact ⟨g, e1, e2, (ho g _ _ e3 (e6 rfl rfl)).1, fun _ a => (by cases a), fun _ _ => (ho g _ _ e3 (e6 rfl rfl)).2, fun a => (by cases a)⟩
/-- The second append. -/
theorem s3 (h : RowsI W0 w n1 cs1 n2 cs2 f5 pl b1 b2 b3 b4 b5 b6 b7 x1 x2 x3 x4 x5 x6) (hb2 : b2 = true) (hb : b3 = false) {v : Value} {w' : World} (hr : RowNew W0 w' (n1 + n2) (cs1 ++ cs2) v) (hk : Keeps NoB W0 w') (ho : ∀ g t cs, Blk w g t cs → OffRow g x2 → Blk w' g t cs ∧ OffRow g v) :
    RowsI W0 w' n1 cs1 n2 cs2 f5 pl b1 b2 true b4 b5 b6 b7 x1 x2 v x4 x5 x6 := by
  have hb6 : b6 = false := by cases b6 with
    | false => rfl
    | true => have := (h.h6 rfl).1; rw [hb] at this; cases this
  have hb7 : b7 = false := by cases b7 with
    | false => rfl
    | true => have := (h.up.2.2 rfl).2; rw [hb] at this; cases this
  subst hb hb2 hb6 hb7
  refine ⟨hk, fun _ a => (by cases a), fun _ a => (by cases a), fun _ => hr, fun a => ?_, fun a b => (by cases b), fun a => (by cases a), fun _ => rfl, h.up.2.1, fun a => (by cases a)⟩
  obtain ⟨g, c5, e1, e2, e3, e4, _, _, e6, _⟩ := h.h4 a
  exact ⟨g, c5, e1, e2, (ho g _ _ e3 (e6 rfl rfl)).1, e4, fun a => (by cases a), fun _ a => (by cases a), fun _ a => (by cases a), fun _ => (ho g _ _ e3 (e6 rfl rfl)).2⟩
theorem off (h : RowsI W0 w n1 cs1 n2 cs2 f5 pl b1 b2 b3 b4 b5 b6 b7 x1 x2 x3 x4 x5 x6) : OffAt b1 b2 b3 x1 x2 x3 w.heap.size :=
  ⟨fun a b => (h.h1 a b).off (Nat.le_refl _), fun a b => (h.h2 a b).off (Nat.le_refl _), fun a => (h.h3 a).off (Nat.le_refl _)⟩
/-- The node's block. -/
theorem s4 (h : RowsI W0 w n1 cs1 n2 cs2 f5 pl b1 b2 b3 b4 b5 b6 b7 x1 x2 x3 x4 x5 x6) (hb : b4 = false) : RowsI W0 (w.alloc (.cells #[.int .u8 0, .string ByteArray.empty, .int .i64 0, .int .i64 0, .slice none 0 0] 29)) n1 cs1 n2 cs2 f5 pl b1 b2 b3 true b5 b6 b7 x1 x2 x3 (.pointer (some ⟨w.heap.size, 0, none⟩)) x5 x6 := by
  subst hb
  have hb7 : b7 = false := by cases b7 with
    | false => rfl
    | true => exact absurd (h.up.2.2 rfl).1 (by decide)
  subst hb7
  have h' := h.alloc (.cells #[.int .u8 0, .string ByteArray.empty, .int .i64 0, .int .i64 0, .slice none 0 0] 29)
  exact ⟨h'.keep, h'.h1, h'.h2, h'.h3, fun _ => ⟨_, _, rfl, h.keep.size, Blk.new w 29 _, fun _ => rfl, fun a => (by cases a), h.off⟩, h'.h5, h'.h6, h.up.1, h.up.2.1, fun a => (by cases a)⟩
/-- The slice of one. -/
theorem s5 (h : RowsI W0 w n1 cs1 n2 cs2 f5 pl b1 b2 b3 b4 b5 b6 b7 x1 x2 x3 x4 x5 x6) : RowsI W0 (w.alloc (.cells f5 29)) n1 cs1 n2 cs2 f5 pl b1 b2 b3 b4 true b6 b7 x1 x2 x3 x4 (.slice (some ⟨w.heap.size, 0, none⟩) 1 1) x6 := by
  have h' := h.alloc (.cells f5 29)
  exact ⟨h'.keep, h'.h1, h'.h2, h'.h3, h'.h4, fun _ _ => ⟨_, rfl, h.keep.size, Blk.new w 29 _, h.off⟩, h'.h6, h'.up⟩
/-- The node. -/
theorem s6 (h : RowsI W0 w n1 cs1 n2 cs2 f5 pl b1 b2 b3 b4 b5 b6 b7 x1 x2 x3 x4 x5 x6) (hb : b3 = true) : RowsI W0 w n1 cs1 n2 cs2 f5 pl b1 b2 b3 b4 b5 true b7 x1 x2 x3 x4 x5 (.agg #[.int .u8 22, .string ByteArray.empty, .int .i64 0, .int .i64 pl, x3]) :=
  ⟨h.keep, h.h1, h.h2, h.h3, h.h4, h.h5, fun _ => ⟨hb, rfl⟩, h.up⟩
/-- Its store. -/
theorem s7 (h : RowsI W0 w n1 cs1 n2 cs2 f5 pl b1 b2 b3 b4 b5 b6 b7 x1 x2 x3 x4 x5 x6) (hb3 : b3 = true) {g : Nat} (hx : x4 = .pointer (some ⟨g, 0, none⟩)) (hg : W0.heap.size ≤ g) (ho : OffRow g x3) (hb4 : b4 = true) {w' : World} (hk : Keeps (fun k => k = g) w w') (hb : Blk w' g 29 #[.int .u8 22, .string ByteArray.empty, .int .i64 0, .int .i64 pl, x3]) :
    RowsI W0 w' n1 cs1 n2 cs2 f5 pl b1 b2 b3 b4 b5 b6 true x1 x2 x3 x4 x5 x6 := by
  subst hb3 hb4
  refine ⟨h.keep.trans' hk (fun _ _ => id) (fun i hi e => by omega), fun a b => absurd (h.up.1 rfl) (by rw [b]; decide), fun _ b => (by cases b), fun _ => (h.h3 rfl).keep hk (fun A c k e hr hk => by subst hk; exact ho _ _ _ e hr), fun _ => ⟨g, _, hx, hg, hb, fun a => (by cases a), fun _ => rfl, fun a b => absurd (h.up.1 rfl) (by rw [b]; decide), fun _ b => (by cases b), fun _ => ho⟩, fun _ b => (by cases b), h.h6, h.up.1, h.up.2.1, fun _ => ⟨rfl, rfl⟩⟩
/-- Behind all of them: a node over all the cells. -/
theorem node (h : RowsI W0 w n1 cs1 n2 cs2 f5 pl true true true true b5 true true x1 x2 x3 x4 x5 x6) {B : Nat → Prop} {F : Bool} {css : List (List Value)} {ts : List Nd} (hc : NodesIn W0 B F css ts) (he : css.flatten = cs1 ++ cs2) (hn : n1 + n2 ≤ 1000000) :
    ∃ g A c, x4 = .pointer (some ⟨g, 0, none⟩) ∧ W0.heap.size ≤ g ∧ Blk w g 29 #[.int .u8 22, .string ByteArray.empty, .int .i64 0, .int .i64 pl, .slice A (n1 + n2) c] ∧ Keeps NoB W0 w ∧
      NodeIn w (fun _ => True) false [.int .u8 22, .string ByteArray.empty, .int .i64 0, .int .i64 pl, .slice A (n1 + n2) c] (.mk 22 ⟨#[]⟩ 0 pl ts) := by
  obtain ⟨g, c5, e1, e2, e3, _, e5, _⟩ := h.h4 rfl
  obtain ⟨A, c, rfl, hs, _⟩ := h.h3 rfl
  rw [e5 rfl] at e3
  refine ⟨g, A, c, e1, e2, e3, h.keep, ?_⟩
  unfold NodeIn
  refine ⟨A, _, c, css, rfl, ⟨Roomy.small (by omega) (by omega), hs.2.1⟩, ?_, NodesIn.weak _ _ (NodesIn.keep h.keep (fun _ _ => id) _ _ (NodesIn.more (fun _ _ _ => trivial) _ _ hc))⟩
  rw [he]
  exact (hs.reads.more (fun _ _ _ => trivial)).weak
end RowsI
end Go.Proofs.YtincajfanhanjaaDoor
