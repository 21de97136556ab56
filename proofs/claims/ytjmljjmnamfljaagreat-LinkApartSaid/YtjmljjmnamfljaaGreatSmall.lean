/- Links in memory; New, made. -/
import Derived.Test.YtjmljjmnamfljaaGreatLaw
import Derived.Test.YtjmljjmnamfljaaGreatRows
import Derived.Test.YtjmljjmnamfljaaGreatMore
import Derived.Deep.QuietTactic
import Derived.BigQuiet
import Derived.Deep.LoopGhost
namespace Go.Proofs.YtjmljjmnamfljaaGreat
set_option maxRecDepth 100000
open Go.RowKit Go.Maps

theorem keyI : Keyed Tryz.prog 3 := int_keyed Tryz.underlying3
theorem zero3 (w : World) : (zeroValue 3).run Tryz.prog w = .ok (.int .i64 0) w := by kernel_rfl
theorem zero58 (w : World) : (zeroValue 49).run Tryz.prog w = .ok (.map none) w := by kernel_rfl
theorem zero36 (w : World) : (zeroValue 33).run Tryz.prog w = .ok (.agg #[.int .i64 0, .int .i64 0, .int .i64 0]) w := by kernel_rfl
theorem keyOf_p {p : Int} (h : IntOk p) : keyOf Tryz.prog 3 (.int .i64 p) = some (.int .i64 p) := keyOf_int_mk Tryz.underlying3 h

/-- How a map of the outer map reads: by its block's number. -/
def outR : Value → Option (DataW Unit × List MemPlace)
  | .map (some m) => some (.lit (.int .i64 m), [])
  | .map none => some (.nil, [])
  | _ => none
/-- How a monitor reads. -/
def monC (x : Mon) : DataW Unit := .agg [.lit (.int .i64 x.ref), .lit (.int .i64 x.who), .lit (.int .i64 x.whom)]
def monV (x : Mon) : Value := .agg #[.int .i64 x.ref, .int .i64 x.who, .int .i64 x.whom]
def monL : List Value → Option (DataW Unit × List MemPlace)
  | [.int .i64 a, .int .i64 b, .int .i64 c] => some (monC ⟨a, b, c⟩, [])
  | _ => none
def monR : Value → Option (DataW Unit × List MemPlace)
  | .agg cs => monL cs.toList
  | _ => none
theorem outR_map {v : Value} {m : Nat} {ps : List MemPlace} (h : outR v = some (.lit (.int .i64 m), ps)) : v = .map (some m) := by
  unfold outR at h
  split at h
  · injection h with h; injection h with h1 h2; injection h1 with h1; injection h1 with _ h1
    rw [Int.ofNat.inj h1]
  · injection h with h; injection h with h1 h2; cases h1
  · cases h
theorem outR_nil {v : Value} {ps : List MemPlace} (h : outR v = some (.nil, ps)) : v = .map none := by
  unfold outR at h
  split at h
  · injection h with h; injection h with h1 h2; cases h1
  · rfl
  · cases h
theorem monR_mk (x : Mon) : monR (monV x) = some (monC x, []) := rfl
theorem monL_inv {l : List Value} {x : Mon} {ps : List MemPlace} (h : monL l = some (monC x, ps)) : l = [.int .i64 x.ref, .int .i64 x.who, .int .i64 x.whom] := by
  unfold monL at h
  split at h
  · rename_i a b c
    injection h with h; injection h with h1 h2
    unfold monC at h1
    injection h1 with h1
    injection h1 with e1 h1; injection h1 with e2 h1; injection h1 with e3 h1
    injection e1 with e1; injection e1 with _ e1
    injection e2 with e2; injection e2 with _ e2
    injection e3 with e3; injection e3 with _ e3
    rw [← e1, ← e2, ← e3]
  · cases h
theorem monR_inv {v : Value} {x : Mon} {ps : List MemPlace} (h : monR v = some (monC x, ps)) : v = monV x := by
  unfold monR at h
  split at h
  · rename_i cs
    have := monL_inv h
    unfold monV
    congr 1
    apply Array.ext'
    rw [this]
  · cases h

abbrev outC (x : Int × Nat) : DataW Unit := .lit (.int .i64 x.2)
abbrev oneC (_ : Int) : DataW Unit := .lit (.int .i64 1)
/-- Links in memory: the struct in block b, its two maps, the inner maps T (whose each is, and its block); B: from where on they lie. -/
structure Raw (w : World) (B b m1 m2 N : Nat) (T : List (Int × Nat)) (L : LK) (M : List Mon) : Prop where
  blk : Blk w b 53 #[.map (some m1), .map (some m2)]
  out : ∃ D : DataW Unit, w.ownsMap Tryz.prog 3 outR m1 N D ∧ LMap outC (·.1) D T
  inn : ∀ x ∈ T, ∃ D : DataW Unit, w.ownsMap Tryz.prog 3 (plainElem Tryz.prog 3) x.2 N D ∧ LMap oneC id D (L x.1)
  non : ∀ a, a ∉ T.map (·.1) → L a = []
  keys : (T.map (·.1)).Nodup
  blks : (T.map (·.2)).Nodup
  mon : ∃ D : DataW Unit, w.ownsMap Tryz.prog 3 monR m2 N D ∧ LMap monC (·.ref) D M
  up : UpM M
  ok : ∀ x ∈ M, MonOk x
  ne : m1 ≠ m2
  low : B ≤ m1 ∧ B ≤ m2
  sep : ∀ x ∈ T, x.2 ≠ m1 ∧ x.2 ≠ m2 ∧ B ≤ x.2
/-- The blocks that Links may turn: maps, from B on. -/
def FP (w : World) (B : Nat) (k : Nat) : Prop := B ≤ k ∧ ∃ es cl, w.heap[k]? = some (.map es cl)
theorem FP.blk {w : World} {B k : Nat} {t : TypeId} {cs : Array Value} (h : Blk w k t cs) : ¬ FP w B k := fun ⟨_, es, cl, e⟩ => by unfold Blk at h; rw [h] at e; cases e
theorem own_keep {H : Type} {w w' : World} {k : TypeId} {R : Value → Option (DataW H × List MemPlace)} {b n : Nat} {D : DataW H} {fp : Nat → Prop} (h : w.ownsMap Tryz.prog k R b n D) (hk : Keeps fp w w') (hb : ¬ fp b) : w'.ownsMap Tryz.prog k R b n D := by
  have hlt := h.lt
  obtain ⟨es, clock, he, r⟩ := h
  exact ⟨es, clock, (hk.block b hlt hb).trans he, r⟩
section
variable {w w' : World} {B b m1 m2 N n m : Nat} {T : List (Int × Nat)} {L : LK} {M : List Mon}
theorem own_map {H : Type} {k : TypeId} {R : Value → Option (DataW H × List MemPlace)} {D : DataW H} (h : w.ownsMap Tryz.prog k R m n D) : ∃ es cl, w.heap[m]? = some (.map es cl) := by
  obtain ⟨es, cl, he, _⟩ := h; exact ⟨es, cl, he⟩
theorem Raw.fresh (h : Raw w B b m1 m2 N T L M) (hk : Keeps NoB w w') : Raw w' B b m1 m2 N T L M := by
  obtain ⟨D1, o1, s1⟩ := h.out
  obtain ⟨D2, o2, s2⟩ := h.mon
  exact ⟨h.blk.keep hk id, ⟨D1, own_keep o1 hk id, s1⟩, fun x hx => by
    obtain ⟨D, o, s⟩ := h.inn x hx
    exact ⟨D, own_keep o hk id, s⟩, h.non, h.keys, h.blks, ⟨D2, own_keep o2 hk id, s2⟩, h.up, h.ok, h.ne, h.low, h.sep⟩
/-- What turned are cells, none of them the struct's. -/
theorem Raw.cells {fp : Nat → Prop} (h : Raw w B b m1 m2 N T L M) (hk : Keeps fp w w') (hf : ∀ k, fp k → ∃ t cs, Blk w k t cs) (hb : ¬ fp b) : Raw w' B b m1 m2 N T L M := by
  obtain ⟨D1, o1, s1⟩ := h.out
  obtain ⟨D2, o2, s2⟩ := h.mon
  have hno : ∀ {k n : Nat} {R : Value → Option (DataW Unit × List MemPlace)} {D : DataW Unit}, w.ownsMap Tryz.prog 3 R k n D → ¬ fp k := fun o e => by
    obtain ⟨t, cs, hc⟩ := hf _ e
    obtain ⟨es, cl, he⟩ := own_map o
    unfold Blk at hc; rw [hc] at he; cases he
  exact ⟨h.blk.keep hk hb, ⟨D1, own_keep o1 hk (hno o1), s1⟩, fun x hx => by
    obtain ⟨D, o, s⟩ := h.inn x hx
    exact ⟨D, own_keep o hk (hno o), s⟩, h.non, h.keys, h.blks, ⟨D2, own_keep o2 hk (hno o2), s2⟩, h.up, h.ok, h.ne, h.low, h.sep⟩
theorem Raw.mono (h : Raw w B b m1 m2 N T L M) (hn : N ≤ n) : Raw w B b m1 m2 n T L M := by
  obtain ⟨D1, o1, s1⟩ := h.out
  obtain ⟨D2, o2, s2⟩ := h.mon
  exact ⟨h.blk, ⟨D1, o1.mono hn, s1⟩, fun x hx => by
    obtain ⟨D, o, s⟩ := h.inn x hx
    exact ⟨D, o.mono hn, s⟩, h.non, h.keys, h.blks, ⟨D2, o2.mono hn, s2⟩, h.up, h.ok, h.ne, h.low, h.sep⟩
theorem Raw.fp1 (h : Raw w B b m1 m2 N T L M) : FP w B m1 := by obtain ⟨D, o, _⟩ := h.out; exact ⟨h.low.1, own_map o⟩
theorem Raw.fp2 (h : Raw w B b m1 m2 N T L M) : FP w B m2 := by obtain ⟨D, o, _⟩ := h.mon; exact ⟨h.low.2, own_map o⟩
theorem Raw.fp3 (h : Raw w B b m1 m2 N T L M) {x : Int × Nat} (hx : x ∈ T) : FP w B x.2 := by obtain ⟨D, o, _⟩ := h.inn x hx; exact ⟨(h.sep x hx).2.2, own_map o⟩
theorem Raw.low' (h : Raw w B b m1 m2 N T L M) : b < w.heap.size ∧ m1 < w.heap.size ∧ m2 < w.heap.size ∧ ∀ x ∈ T, x.2 < w.heap.size := by
  obtain ⟨D1, o1, _⟩ := h.out
  obtain ⟨D2, o2, _⟩ := h.mon
  exact ⟨h.blk.lt, o1.lt, o2.lt, fun x hx => by obtain ⟨D, o, _⟩ := h.inn x hx; exact o.lt⟩

/-- Looked up: whose map a's is. -/
theorem Raw.look (h : Raw w B b m1 m2 N T L M) {a : Int} (ha : IntOk a) : ∃ om, (Instr.lookup 50 (.map (some m1)) (.int .i64 a) false).run Tryz.prog w = .ok (.map om) w ∧ ((om = none ∧ a ∉ T.map (·.1)) ∨ ∃ m, om = some m ∧ (a, m) ∈ T) := by
  obtain ⟨D, o, s⟩ := h.out
  obtain ⟨v, ps, hr, hv⟩ := o.lookup keyI Tryz.underlying50 (zero58 w) (zd := .nil) (zp := []) rfl (keyOf_p ha)
  by_cases hm : a ∈ T.map (·.1)
  · obtain ⟨⟨a', m⟩, hx, rfl⟩ := List.mem_map.1 hm
    rw [s.at' _ hx] at hv
    have := outR_map hv
    subst this
    exact ⟨some m, hr, .inr ⟨m, rfl, hx⟩⟩
  · rw [s.zero hm] at hv
    have := outR_nil hv
    subst this
    exact ⟨none, hr, .inl ⟨rfl, hm⟩⟩
/-- .. and whether b is in it. -/
theorem Raw.look2 (h : Raw w B b m1 m2 N T L M) {a c : Int} (hc : IntOk c) {om : Option Nat} (hom : (om = none ∧ a ∉ T.map (·.1)) ∨ ∃ m, om = some m ∧ (a, m) ∈ T) : (Instr.lookup 49 (.map om) (.int .i64 c) false).run Tryz.prog w = .ok (.int .i64 (if c ∈ L a then 1 else 0)) w := by
  rcases hom with ⟨rfl, hn⟩ | ⟨m, rfl, hm⟩
  · rw [h.non a hn, if_neg (by simp)]
    exact Maps.look_nil false keyI Tryz.underlying49 (zero3 w) (keyOf_p hc)
  · obtain ⟨D, o, s⟩ := h.inn _ hm
    obtain ⟨x, hr, hat, _⟩ := o.lookup_int keyI Tryz.underlying49 Tryz.underlying3 (zero3 w) (keyOf_p hc)
    rw [hr]
    have e : x = if c ∈ L a then 1 else 0 := by
      by_cases hcm : c ∈ L a
      · rw [if_pos hcm]
        have h2 := s.at' c hcm (.lit (.int .i64 0))
        simp only [id] at h2
        rw [h2] at hat
        injection hat with hat; injection hat with _ hat; exact hat.symm
      · rw [if_neg hcm]
        rw [s.zero (by simpa using hcm)] at hat
        injection hat with hat; injection hat with _ hat; exact hat.symm
    rw [e]
/-- A monitor looked up. -/
theorem Raw.lookM (h : Raw w B b m1 m2 N T L M) {r : Int} (hr : IntOk r) : ∃ v, (Instr.lookup 51 (.map (some m2)) (.int .i64 r) true).run Tryz.prog w = .ok (.tuple #[v, .bool (decide (r ∈ refs M))]) w ∧ ((∃ x ∈ M, x.ref = r ∧ v = monV x) ∨ (r ∉ refs M ∧ v = monV ⟨0, 0, 0⟩)) := by
  obtain ⟨D, o, s⟩ := h.mon
  obtain ⟨v, ps, hrun, hv⟩ := o.look_ok keyI Tryz.underlying51 (zero36 w) (monR_mk ⟨0, 0, 0⟩) (keyOf_p hr)
  have e : Maps.has D (.int .i64 r) = decide (r ∈ refs M) := by
    rw [Bool.eq_iff_iff, s.has, decide_eq_true_eq]; rfl
  rw [e] at hrun
  refine ⟨v, hrun, ?_⟩
  by_cases hm : r ∈ refs M
  · obtain ⟨x, hx, rfl⟩ := List.mem_map.1 hm
    rw [s.at' x hx] at hv
    exact .inl ⟨x, hx, rfl, monR_inv hv⟩
  · rw [s.zero hm] at hv
    exact .inr ⟨hm, monR_inv (x := ⟨0, 0, 0⟩) hv⟩
theorem Raw.lookM1 (h : Raw w B b m1 m2 N T L M) {x : Mon} (hx : x ∈ M) : (Instr.lookup 51 (.map (some m2)) (.int .i64 x.ref) false).run Tryz.prog w = .ok (monV x) w := by
  obtain ⟨D, o, s⟩ := h.mon
  obtain ⟨v, ps, hrun, hv⟩ := o.lookup keyI Tryz.underlying51 (zero36 w) (monR_mk ⟨0, 0, 0⟩) (keyOf_p (h.ok x hx).1)
  rw [s.at' x hx] at hv
  rw [hrun, monR_inv hv]
end
/-- Links, with all that is true of them between two calls. -/
structure LinksAt (w : World) (B b m1 m2 N : Nat) (L : LK) (M : List Mon) : Prop where
  raw : ∃ T, Raw w B b m1 m2 N T L M
  good : Good L
section
variable {w w' : World} {B b m1 m2 N n : Nat} {L : LK} {M : List Mon}
theorem LinksAt.fresh (h : LinksAt w B b m1 m2 N L M) (hk : Keeps NoB w w') : LinksAt w' B b m1 m2 N L M := ⟨let ⟨T, r⟩ := h.raw; ⟨T, r.fresh hk⟩, h.good⟩
theorem LinksAt.cells {fp : Nat → Prop} (h : LinksAt w B b m1 m2 N L M) (hk : Keeps fp w w') (hf : ∀ k, fp k → ∃ t cs, Blk w k t cs) (hb : ¬ fp b) : LinksAt w' B b m1 m2 N L M := ⟨let ⟨T, r⟩ := h.raw; ⟨T, r.cells hk hf hb⟩, h.good⟩
theorem LinksAt.mono (h : LinksAt w B b m1 m2 N L M) (hn : N ≤ n) : LinksAt w B b m1 m2 n L M := ⟨let ⟨T, r⟩ := h.raw; ⟨T, r.mono hn⟩, h.good⟩
theorem LinksAt.blk (h : LinksAt w B b m1 m2 N L M) : Blk w b 53 #[.map (some m1), .map (some m2)] := let ⟨_, r⟩ := h.raw; r.blk
theorem LinksAt.up (h : LinksAt w B b m1 m2 N L M) : UpM M := let ⟨_, r⟩ := h.raw; r.up
theorem LinksAt.ok (h : LinksAt w B b m1 m2 N L M) : ∀ x ∈ M, MonOk x := let ⟨_, r⟩ := h.raw; r.ok
end

theorem map_ne (m : Nat) (w : World) : (binOp .neq 50 (.map (some m)) (.map none)).run Tryz.prog w = .ok (.bool true) w := by kernel_rfl
theorem map_ne_nil (w : World) : (binOp .neq 50 (.map none) (.map none)).run Tryz.prog w = .ok (.bool false) w := by kernel_rfl
theorem map_eq (m : Nat) (w : World) : (binOp .eql 49 (.map (some m)) (.map none)).run Tryz.prog w = .ok (.bool false) w := by kernel_rfl
theorem map_eq_nil (w : World) : (binOp .eql 49 (.map none) (.map none)).run Tryz.prog w = .ok (.bool true) w := by kernel_rfl

set_option maxRecDepth 100000 in
theorem made_at (w : World) (b m1 : Nat) (h : w.cell? ⟨b, 0, none⟩ = some (.map (some m1))) : Calls Tryz.prog 12 #[.pointer (some ⟨b, 0, none⟩)] w fun e w' => e = .returned (.bool true) ∧ w = w' := by
  have hm := map_ne m1 w
  go_enter Tryz.func12, Tryz.ntmps12
  go_wp2
  go_ret
  exact ⟨rfl, rfl⟩
theorem made_nil (w : World) : Calls Tryz.prog 12 #[.pointer none] w fun e w' => e = .returned (.bool false) ∧ w = w' := by
  go_enter Tryz.func12, Tryz.ntmps12
  go_wp2
  go_ret
  exact ⟨rfl, rfl⟩
set_option maxRecDepth 100000 in
theorem made_un (w : World) (b : Nat) (h : w.cell? ⟨b, 0, none⟩ = some (.map none)) : Calls Tryz.prog 12 #[.pointer (some ⟨b, 0, none⟩)] w fun e w' => e = .returned (.bool false) ∧ w = w' := by
  have hm := map_ne_nil w
  go_enter Tryz.func12, Tryz.ntmps12
  go_wp2
  go_ret
  exact ⟨rfl, rfl⟩

def NewPost (w : World) (e : Ending) (w' : World) : Prop := e = .returned (.pointer (some ⟨w.heap.size + 2, 0, none⟩)) ∧ LinksAt w' w.heap.size (w.heap.size + 2) w.heap.size (w.heap.size + 1) 0 (fun _ => []) [] ∧ Keeps NoB w w'
set_option maxRecDepth 100000 in
theorem new_any (w : World) : Calls Tryz.prog 10 #[] w (NewPost w) := by
  go_enter Tryz.func10, Tryz.ntmps10
  have hmm := @run_makeMap Tryz.prog
  go_wp2
  go_ret
  have o1 : ((w.alloc (.map #[] 0)).alloc (.map #[] 0)).ownsMap Tryz.prog 3 outR w.heap.size 0 (.map []) := (World.ownsMap_made w _ _ _).alloc _
  have o2 : ((w.alloc (.map #[] 0)).alloc (.map #[] 0)).ownsMap Tryz.prog 3 monR (w.heap.size + 1) 0 (.map []) := by
    have := World.ownsMap_made (w.alloc (.map #[] 0)) Tryz.prog 3 monR
    simpa using this
  have hb := Blk.new ((w.alloc (.map #[] 0)).alloc (.map #[] 0)) 53 #[.map (some w.heap.size), .map (some (w.heap.size + 1))]
  exact ⟨rfl, ⟨⟨[], by simpa using hb, ⟨_, o1.alloc _, LMap.empty⟩, (fun x hx => by cases hx), fun _ _ => rfl, List.nodup_nil, List.nodup_nil, ⟨_, o2.alloc _, LMap.empty⟩, List.Pairwise.nil, (fun x hx => by cases hx), by omega, ⟨Nat.le_refl _, by omega⟩, (fun x hx => by cases hx)⟩, Good.none⟩, (((Keeps.refl NoB w).alloc _).alloc _).alloc _⟩
end Go.Proofs.YtjmljjmnamfljaaGreat
