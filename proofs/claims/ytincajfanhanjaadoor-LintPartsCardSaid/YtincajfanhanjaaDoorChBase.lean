/- slices.Clone of nodes. lint.Check's deferred closure: with a fault, and with none. The checker's functions: a map of maps; the tree of one function in memory. lint.Check as plain functions on trees: scopes are names, a fault is a code and a place. The checker in memory: scopes of names that are known, its functions; how its functions end. The checker's functions in memory, the checker; lists gone through with a fault; checker.variable of any. -/
import Derived.Test.YtincajfanhanjaaDoorCkMap
import Derived.Tactics
import Derived.Tactics2
import Derived.Defers
import Derived.Recover
import Derived.Laws.Pointers
import Derived.Maps.Ext
import Derived.Maps.RangeWalk
import Derived.Sort.MapsRangeIn
namespace Go.Proofs.YtincajfanhanjaaDoor
open Go.RowKit Go.Maps

abbrev Above (w : World) : Nat → Prop := fun k => w.heap.size ≤ k
theorem Tryd.infoNd : (Tryd.prog.info? 29).map (fun i => (i.zero, i.size, i.bytes)) = some (some (.agg #[.int .u8 0, .string ByteArray.empty, .int .i64 0, .int .i64 0, .slice none 0 0]), 5, 64) := by kernel_rfl
theorem nd_info_parts {P : Program} {e : TypeId} {z : Value} {s b : Nat} (h : (P.info? e).map (fun i => (i.zero, i.size, i.bytes)) = some (some z, s, b)) : ∃ i, P.info? e = some i ∧ i.zero = some z ∧ i.size = s ∧ i.bytes = b := by
  cases hi : P.info? e with
  | none => rw [hi] at h; cases h
  | some i =>
    rw [hi] at h
    simp only [Option.map_some, Option.some.injEq, Prod.mk.injEq] at h
    exact ⟨i, rfl, h.1, h.2.1, h.2.2⟩
set_option maxRecDepth 100000 in
theorem nd_clone (B : Nat → Prop) (F : Bool) (a : Addr) (n c : Nat) (xs : List Value) (w : World) (hr : Reads w B F 5 (some a) n xs) (h1 : ∀ u ∈ xs, u.oneCell' = true) (hb : Roomy n 64) :
    Calls Tryd.prog 27 #[.slice (some a) n c] w fun e w' => ∃ A' c', e = .returned (.slice A' n c') ∧ Reads w' (Above w) true 5 A' n xs ∧ Keeps NoB w w' := by
  obtain ⟨i0, hi0, hz0, hz1, hz2⟩ := nd_info_parts Tryd.infoNd
  have q := fun (w : World) (a : Option Addr) (n c n' c' : Nat) => Lib.run_eql_slice_nil (P := Tryd.prog) w 27 29 a n c n' c' Tryd.underlying27
  go_enter Tryd.func27, Tryd.ntmps27
  go_wp2_with (at_builtin; go_must (refine wpList_append_reads _ rfl (.tmp 5) (.tmp 6) 27 rfl w.heap.size 29 i0 _ 5 64 Tryd.underlying27 hi0 hz0 hz1 hz2 rfl (by omega) (.slice (some ⟨w.heap.size, 0, none⟩) 0 0) 0 [] rfl ?z1 B F (some a) n c xs rfl ?z2 h1 ?z3 ?z4 ?z5 ?_))
  case z1 => exact World.ownsRow_made w #[] 0 (Nat.le_refl _) (Nat.zero_le _) rfl
  case z2 => exact hr.keep ((Keeps.refl NoB w).alloc _) (fun _ _ => id)
  case z3 => rw [Nat.zero_add]; exact hb.len (by omega)
  case z4 => rw [Nat.zero_add]; exact hb
  case z5 => simp
  intro v' w' hown hg _
  obtain ⟨A', c', hv, hs⟩ := Slab.of_own hown
  subst hv
  have hbel : Below w.heap.size w w' := ((Below.refl _ _).alloc (Nat.le_refl _) _).grown hg (by simp) (fun k h => by simp [Value.ownBlock] at h; omega)
  have H := hide (hs.reads.more (B' := Above w) (by
    rintro k hk ⟨o, rfl⟩
    rcases hown.2 with ⟨hv, _⟩ | ⟨g, cap, cur, hv, hb, _⟩
    · cases hv
    · injection hv with hv; injection hv with hv; injection hv with hv; subst hv; exact hb))
  have HB := hide (Keeps.of_below hbel NoB); clear hbel hg hown hs
  go_wp2
  go_ret
  exact ⟨A', c', rfl, H.out, HB.out⟩
end Go.Proofs.YtincajfanhanjaaDoor
namespace Go.Proofs.YtincajfanhanjaaDoor
open Go.RowKit Go.Maps

theorem tmps_at (x v : Value) : #[x] ++ ((Array.replicate 15 undef).setIfInBounds 3 v).setIfInBounds 0 v = #[x, v, undef, undef, v, undef, undef, undef, undef, undef, undef, undef, undef, undef, undef, undef] := by rfl
set_option maxRecDepth 100000 in
theorem recover_idle (p : Addr) (w : World) :
    CallsD Tryd.prog 22 #[.pointer (some p)] .returning w fun e u' w' => e = .returned (.tuple #[]) ∧ u' = .returning ∧ w' = w := by
  refine callsD_of_wpS Tryd.func22 rfl fun c₀ cs hu => ?_
  apply wpS_seq
  apply wpS_region
  simp [wpOpsS, go_sem, recoverD, hu, Tryd.ntmps22, Exit.thenS]
  rw [tmps_at]
  refine wpS_of_wp ?_
  go_wp2
  cases c₀
  simp_all [bodyPostS, results, Tryd.results22]
theorem fault_assert (v : Value) (w : World) : (Instr.typeAssert (.iface 33 v) 20 33 true).run Tryd.prog w = .ok (.tuple #[v, .bool true]) w := by kernel_rfl
set_option maxRecDepth 100000 in
theorem recover_fault (g : Nat) (k pl x0 x1 : Int) (older : List PanicEntry) (w : World) (hB : Blk w g 33 #[.int .i64 x0, .int .i64 x1]) :
    CallsD Tryd.prog 22 #[.pointer (some ⟨g, 0, none⟩)] (.panicking ({ v := .iface 33 (.agg #[.int .i64 k, .int .i64 pl]), recovered := false } :: older)) w fun e u' w' =>
      e = .returned (.tuple #[]) ∧ u' = .panicking ({ v := .iface 33 (.agg #[.int .i64 k, .int .i64 pl]), recovered := true } :: older) ∧ Blk w' g 33 #[.int .i64 k, .int .i64 pl] ∧ Keeps (fun b => b = g) w w' := by
  refine callsD_of_wpS Tryd.func22 rfl fun c₀ cs hu => ?_
  apply wpS_seq
  apply wpS_region
  simp [wpOpsS, go_sem, recoverD, hu, Tryd.ntmps22, Exit.thenS]
  rw [tmps_at]
  refine wpS_of_wp ?_
  have hta := fault_assert
  have h1 : Blk (w.alloc (.cells #[.int .i64 k, .int .i64 pl] 33)) g 33 #[.int .i64 x0, .int .i64 x1] := hB.alloc _
  have hlt := hB.lt
  have c0 : (w.alloc (.cells #[.int .i64 k, .int .i64 pl] 33)).cell? ⟨g, 0, none⟩ = some (.int .i64 x0) := h1.cell 0
  have c1 : (w.alloc (.cells #[.int .i64 k, .int .i64 pl] 33)).cell? ⟨g, 1, none⟩ = some (.int .i64 x1) := h1.cell 1
  have z0 : (w.alloc (.cells #[.int .i64 k, .int .i64 pl] 33)).frozen? ⟨g, 0, none⟩ = false := h1.free 0
  have z1 : (w.alloc (.cells #[.int .i64 k, .int .i64 pl] 33)).frozen? ⟨g, 1, none⟩ = false := h1.free 1
  have HR := hide h1
  have HL := hide hlt
  clear h1 hB hlt
  go_wp2
  have HK := hide (((((Keeps.refl (fun b => b = g) w).alloc (.cells #[.int .i64 k, .int .i64 pl] 33)).setCell (p := ⟨g, 0, none⟩) (.inl rfl) (.int .i64 k)).setCell (p := ⟨g, 1, none⟩) (.inl rfl) (.int .i64 pl)))
  have HB : Hid (Blk _ g 33 #[.int .i64 k, .int .i64 pl]) := hide ((Blk.put HR.out 0 (.int .i64 k)).put 1 (.int .i64 pl))
  cases c₀
  simp [bodyPostS, results, Tryd.results22]
  exact ⟨HB.out, HK.out⟩
end Go.Proofs.YtincajfanhanjaaDoor
namespace Go.Proofs.YtincajfanhanjaaDoor
open Go.RowKit Go.Maps

/-- Elements that are maps, as marks. -/
def mapR (v : Value) : Option (DataW Unit × List MemPlace) := match v with | .map none => some (.nil, []) | .map (some b) => some (.lit (.int .i64 (b : Int)), []) | _ => none
theorem mapR_none {v : Value} {ps : List MemPlace} (h : mapR v = some (.nil, ps)) : v = .map none := by
  cases v with
  | map r => cases r with
    | none => rfl
    | some b => simp [mapR] at h
  | _ => simp [mapR] at h
theorem mapR_some {v : Value} {b : Nat} {ps : List MemPlace} (h : mapR v = some (.lit (.int .i64 (b : Int)), ps)) : v = .map (some b) := by
  cases v with
  | map r => cases r with
    | none => simp [mapR] at h
    | some b' =>
      simp [mapR] at h
      have : b' = b := by omega
      rw [this]
  | _ => simp [mapR] at h
theorem zero55 (w : World) : (zeroValue 55).run Tryd.prog w = .ok (.map none) w := by kernel_rfl
theorem keyOf_i {p : Int} (h : (Lit.int .i64 p).wf = true) : keyOf Tryd.prog 3 (.int .i64 p) = some (.int .i64 p) := keyOf_int_mk Tryd.underlying3 h
theorem wf_one : (Lit.int .i64 1).wf = true := by kernel_rfl
end Go.Proofs.YtincajfanhanjaaDoor
namespace Go.Proofs.YtincajfanhanjaaDoor

abbrev Scope := ByteArray → Bool
abbrev Flt := Int × Int
abbrev Res := Except Flt (Scope × Scope)
def putS (S : Scope) (s : ByteArray) : Scope := fun t => decide (t = s) || S t
/-- The names that went: those of a scope of its own. -/
def goneS (S own G : Scope) : Scope := fun t => G t || (own t && !S t)
def minusInt (tx : ByteArray) (kids : List Nd) : Bool := decide (tx.toList = [45]) && (match kids with | [t] => decide (t.kind = 1) | _ => false)
mutual
/-- checker.pattern -/
def patN : Nd → Scope → Except Flt Scope
  | .mk k tx _ pl kids, S =>
    if k = 1 ∨ k = 2 ∨ k = 4 then .ok S
    else if k = 3 then .ok (if tx.toList = [95] then S else putS S tx)
    else if k = 5 ∨ k = 6 ∨ k = 8 then patsN kids S
    else if k = 7 ∧ minusInt tx kids = true then .ok S
    else .error (216, pl)
def patsN : List Nd → Scope → Except Flt Scope
  | [], S => .ok S
  | t :: ts, S => match patN t S with
    | .error f => .error f
    | .ok S' => patsN ts S'
end
/-- checker.variable -/
def varF (tx : ByteArray) (pl : Int) (S G : Scope) : Except Flt Unit :=
  if ¬ tx.toList = [95] ∧ S tx = true then .ok () else .error (if ¬ tx.toList = [95] ∧ G tx = true then 213 else 212, pl)
def andalsoW : List UInt8 := [97, 110, 100, 97, 108, 115, 111]
def orelseW : List UInt8 := [111, 114, 101, 108, 115, 101]
mutual
/-- checker.guard -/
def guardN : Nd → Scope → Scope → Except Flt Unit
  | .mk k tx _ pl kids, S, G =>
    if k = 1 ∨ k = 2 ∨ k = 4 ∨ k = 5 ∨ k = 6 then guardsN kids S G
    else if k = 3 then (match varF tx pl S G with
      | .error f => .error f
      | .ok _ => guardsN kids S G)
    else if k = 7 then (if tx.toList = andalsoW ∨ tx.toList = orelseW ∨ kindN tx.data.toList kids.length = 2 then guardsN kids S G else .error (214, pl))
    else if k = 9 then (match kids with
      | [] => .ok ()
      | c :: cs => if c.kind = 2 ∧ kindN c.text.data.toList cs.length = 2 then guardsN cs S G else .error (214, pl))
    else .error (214, pl)
def guardsN : List Nd → Scope → Scope → Except Flt Unit
  | [], _, _ => .ok ()
  | t :: ts, S, G => match guardN t S G with
    | .error f => .error f
    | .ok _ => guardsN ts S G
end
/-- A clause's guards. -/
def allGuards : List Nd → Scope → Scope → Except Flt Unit
  | [], _, _ => .ok ()
  | t :: ts, S, G => match guardsN t.kids S G with
    | .error f => .error f
    | .ok _ => allGuards ts S G
def firstN (t : Nd) : Nat := match t.kids with | p :: _ => p.kids.length | [] => 0
/-- lint.arities -/
def arityN : List Nd → Int → Except Flt Unit
  | [], _ => .ok ()
  | t :: ts, a => if 12 < firstN t then .error (217, t.place) else if (firstN t : Int) ≠ a then .error (211, t.place) else arityN ts a
/-- checker.call -/
def callN (F : ByteArray → Int → Bool) (kids : List Nd) (pl : Int) : Except Flt (List Nd) :=
  if 12 < (kids.length : Int) - 1 then .error (217, pl) else match kids with
    | [] => .ok []
    | c :: cs => if c.kind ≠ 2 then .ok (c :: cs) else if F c.text cs.length = false ∧ kindN c.text.data.toList cs.length = 0 then .error (215, pl) else .ok cs
def callE (F : ByteArray → Int → Bool) (kids : List Nd) (pl : Int) : Except Flt Bool :=
  match callN F kids pl with
  | .error f => .error f
  | .ok _ => .ok (match kids with | [] => false | c :: _ => decide (c.kind = 2))
mutual
/-- checker.item (b), checker.expr (not b). -/
def exN (F : ByteArray → Int → Bool) (b : Bool) : Nd → Scope → Scope → Res
  | .mk k tx nm pl kids, S, G =>
    if k = 8 then (if b = true then (match kids with
        | [p, e] => (match exN F true e S G with
          | .error f => .error f
          | .ok (S1, G1) => (match patN p S1 with
            | .error f => .error f
            | .ok S2 => .ok (S2, G1)))
        | _ => .ok (S, G)) else .error (216, pl))
    else if k = 3 then (match varF tx pl S G with
      | .error f => .error f
      | .ok _ => exsN F false kids S G)
    else if k = 9 then (match callE F kids pl with
      | .error f => .error f
      | .ok true => exsTail F kids S G
      | .ok false => exsN F false kids S G)
    else if k = 11 then (if F tx nm = true then exsN F false kids S G else .error (215, pl))
    else if k = 10 then (match arityN kids (firstN (kids.headD (.mk k tx nm pl kids))) with
      | .error f => .error f
      | .ok _ => (match funsN F kids S G with
        | .error f => .error f
        | .ok _ => .ok (S, G)))
    else if k = 12 then (match kids with
      | [] => .ok (S, G)
      | e :: cs => (match exN F false e S G with
        | .error f => .error f
        | .ok (_, G1) => clsN F cs S G1))
    else if k = 13 ∨ k = 14 then clsN F kids S G
    else if k = 16 then (match kids with
      | [] => .ok (S, G)
      | d :: cs => (match bodyK F d S G with
        | .error f => .error f
        | .ok (own, G1) => clsN F cs S (goneS S own G1)))
    else if k = 19 then (match exsN F true kids S G with
      | .error f => .error f
      | .ok (own, G1) => .ok (S, goneS S own G1))
    else if k = 17 then (match kids with
      | [] => .ok (S, G)
      | e :: qs => (match quaN F qs S G with
        | .error f => .error f
        | .ok (own, G1) => (match exN F false e own G1 with
          | .error f => .error f
          | .ok _ => .ok (S, G))))
    else exsN F false kids S G
/-- One behind the other. -/
def exsN (F : ByteArray → Int → Bool) (b : Bool) : List Nd → Scope → Scope → Res
  | [], S, G => .ok (S, G)
  | t :: ts, S, G => match exN F b t S G with
    | .error f => .error f
    | .ok (S1, G1) => exsN F b ts S1 G1
/-- All but the first. -/
def exsTail (F : ByteArray → Int → Bool) : List Nd → Scope → Scope → Res
  | [], S, G => .ok (S, G)
  | _ :: ts, S, G => exsN F false ts S G
/-- The items of a body. -/
def bodyK (F : ByteArray → Int → Bool) : Nd → Scope → Scope → Res
  | .mk _ _ _ _ kids, S, G => exsN F true kids S G
/-- checker.clauses -/
def clsN (F : ByteArray → Int → Bool) : List Nd → Scope → Scope → Res
  | [], S, G => .ok (S, G)
  | t :: ts, S, G => match clN F t S G with
    | .error f => .error f
    | .ok (_, G1) => clsN F ts S G1
def clN (F : ByteArray → Int → Bool) : Nd → Scope → Scope → Res
  | .mk k _ _ _ kids, S, G =>
    if k = 15 then (match kids with
      | [e, d] => (match exN F false e S G with
        | .error f => .error f
        | .ok (_, G1) => (match bodyK F d S G1 with
          | .error f => .error f
          | .ok (own, G2) => .ok (S, goneS S own G2)))
      | _ => .ok (S, G))
    else (match kids with
      | [p, g, d] => (match patsN p.kids S with
        | .error f => .error f
        | .ok own => (match allGuards g.kids own G with
          | .error f => .error f
          | .ok _ => (match bodyK F d own G with
            | .error f => .error f
            | .ok (own2, G2) => .ok (S, goneS S own2 G2))))
      | _ => .ok (S, G))
/-- The clauses of a fun. -/
def funsN (F : ByteArray → Int → Bool) : List Nd → Scope → Scope → Res
  | [], S, G => .ok (S, G)
  | t :: ts, S, G => match funN F t S G with
    | .error f => .error f
    | .ok (_, G1) => funsN F ts S G1
def funN (F : ByteArray → Int → Bool) : Nd → Scope → Scope → Res
  | .mk _ _ _ _ kids, S, G => match kids with
    | [p, g, d] => (match patsN p.kids (fun _ => false) with
      | .error f => .error f
      | .ok own => (match allGuards g.kids (fun t => own t || S t) G with
        | .error f => .error f
        | .ok _ => bodyK F d (fun t => own t || S t) G))
    | _ => .ok (S, G)
/-- The generators and filters of a comprehension. -/
def quaN (F : ByteArray → Int → Bool) : List Nd → Scope → Scope → Res
  | [], S, G => .ok (S, G)
  | t :: ts, S, G => if t.kind = 18 then (match quN F t S G with
      | .error f => .error f
      | .ok (S1, G1) => quaN F ts S1 G1)
    else (match exN F false t S G with
      | .error f => .error f
      | .ok (_, G1) => quaN F ts S G1)
def quN (F : ByteArray → Int → Bool) : Nd → Scope → Scope → Res
  | .mk _ _ _ _ kids, S, G => match kids with
    | [p, e] => (match exN F false e S G with
      | .error f => .error f
      | .ok (_, G1) => (match patN p (fun _ => false) with
        | .error f => .error f
        | .ok own => .ok (fun t => own t || S t, G1)))
    | _ => .ok (S, G)
end
end Go.Proofs.YtincajfanhanjaaDoor
namespace Go.Proofs.YtincajfanhanjaaDoor
open Go.RowKit Go.Maps

/-! ### Scopes of names that are known -/
theorem len_of_sub : ∀ (l : List ByteArray) {L : List ByteArray}, l.Pairwise (· ≠ ·) → (∀ x ∈ l, x ∈ L) → l.length ≤ L.length
  | [], _, _, _ => by simp
  | a :: l, L, h, hs => by
    have ha : a ∈ L := hs a List.mem_cons_self
    have h1 := len_of_sub l (L := L.filter (fun y => decide (y ≠ a))) (List.pairwise_cons.1 h).2 (fun x hx => List.mem_filter.2 ⟨hs x (List.mem_cons_of_mem _ hx), by simpa using fun e => (List.pairwise_cons.1 h).1 x hx e.symm⟩)
    have h2 : (L.filter (fun y => decide (y ≠ a))).length < L.length := List.length_filter_lt_length_iff_exists.2 ⟨a, ha, by simp⟩
    simp only [List.length_cons]; omega
theorem str_of_key (l : List UInt8) : key (ByteArray.mk l.toArray) = l := by simp [key]
theorem sub_of_lits : ∀ (es : List (Lit × DataW Unit)), es.Pairwise (fun p q => p.1 ≠ q.1) → (∀ p ∈ es, ∃ s : ByteArray, p.1 = .string (key s)) → ∃ l : List ByteArray, l.length = es.length ∧ l.Pairwise (· ≠ ·) ∧ ∀ s ∈ l, ∃ p ∈ es, p.1 = .string (key s)
  | [], _, _ => ⟨[], rfl, .nil, fun _ h => by cases h⟩
  | p :: es, h, hk => by
    obtain ⟨l, h1, h2, h3⟩ := sub_of_lits es (List.pairwise_cons.1 h).2 (fun q hq => hk q (List.mem_cons_of_mem _ hq))
    obtain ⟨s, hs⟩ := hk p List.mem_cons_self
    refine ⟨s :: l, by simp [h1], List.pairwise_cons.2 ⟨fun t ht e => ?_, h2⟩, fun t ht => ?_⟩
    · subst e
      obtain ⟨q, hq, hqe⟩ := h3 _ ht
      exact (List.pairwise_cons.1 h).1 q hq (hs.trans hqe.symm)
    · rcases List.mem_cons.1 ht with rfl | ht
      · exact ⟨p, List.mem_cons_self, hs⟩
      · obtain ⟨q, hq, hqe⟩ := h3 _ ht
        exact ⟨q, List.mem_cons_of_mem _ hq, hqe⟩
theorem own_lits {w : World} {R : Value → Option (DataW Unit × List MemPlace)} {b n : Nat} {D : DataW Unit} (h : w.ownsMap Tryd.prog 9 R b n D) : ∃ es, D = .map es ∧ es.Pairwise (fun p q => p.1 ≠ q.1) ∧ ∀ p ∈ es, ∃ s : ByteArray, p.1 = .string (key s) := by
  obtain ⟨es, clock, _, F, _, rfl⟩ := h
  refine ⟨_, rfl, ((WideShapes.sorted_perm _).pairwise_iff (fun {_ _} hne => Ne.symm hne)).2 (Maps.fit_apart keyS F), fun p hp => ?_⟩
  obtain ⟨x, hx, rfl⟩ := List.mem_map.1 (mem_sorted.1 hp)
  obtain ⟨y, hy⟩ := F.reads x hx
  rw [WideElems.rg_of hy]
  have hk := WideElems.rd_key hy
  obtain ⟨s, hs⟩ := Maps.keyOf_string_inv Tryd.underlying9 hk
  rw [hs] at hk
  refine ⟨s, ?_⟩
  have : keyOf Tryd.prog 9 (.string s) = some (.string (key s)) := by
    by_cases hm : s.size ≤ maxLen
    · exact keyOf_s hm
    · simp [keyOf, Tryd.underlying9, mapKey, hm] at hk
  rw [this] at hk
  injection hk with hk
  exact hk.symm
theorem own_small {w : World} {m n : Nat} {S : Scope} {L : List ByteArray} (h : ScopeAt w m n S) (hL : ∀ s, S s = true → s ∈ L) : ScopeAt w m L.length S := by
  obtain ⟨D, ho, hD⟩ := h
  obtain ⟨es, rfl, hp, hk⟩ := own_lits ho
  obtain ⟨l, hl, hlp, hls⟩ := sub_of_lits es hp hk
  have hle : es.length ≤ L.length := by
    rw [← hl]
    refine len_of_sub l hlp (fun s hs => hL s ?_)
    obtain ⟨p, hpm, hpe⟩ := hls s hs
    cases hS : S s with
    | true => rfl
    | false =>
      have h1 := hD s (.nil)
      have h2 := hD s (.lit (.bool true))
      rw [hS] at h1 h2
      simp only [DataW.atKey] at h1 h2
      cases hf : es.find? (fun q => q.1.sameKey (.string (key s))) with
      | none =>
        rw [List.find?_eq_none] at hf
        have := hf p hpm
        rw [hpe] at this
        simp [Lit.sameKey] at this
      | some q =>
        rw [hf] at h1 h2
        simp at h1 h2
        rw [h1] at h2; cases h2
  have hsz : Maps.size (.map es) = es.length := rfl
  obtain ⟨es0, clock, hb, F, hs, he⟩ := ho
  refine ⟨.map es, ⟨es0, clock, hb, F, ?_, he⟩, hD⟩
  have h3 : (DataW.map es : DataW Unit) = .map ((es0.toList.map (WideElems.rg Tryd.prog 9 boolR)).foldr DataW.insert []) := he
  injection h3 with h3
  have h4 := congrArg List.length h3
  rw [length_sorted] at h4
  simp at h4
  omega
/-- A scope whose names are all in L. -/
structure ScopeL (w : World) (L : List ByteArray) (m : Nat) (S : Scope) : Prop where
  scope : ScopeAt w m L.length S
  names : ∀ s, S s = true → s ∈ L
section
variable {w w' : World} {L : List ByteArray} {m : Nat} {S : Scope} {fp : Nat → Prop}
theorem ScopeL.keep (h : ScopeL w L m S) (hk : Keeps fp w w') (hm : ¬ fp m) : ScopeL w' L m S := ⟨h.scope.keep hk hm, h.names⟩
theorem ScopeL.lt (h : ScopeL w L m S) : m < w.heap.size := h.scope.lt
theorem ScopeL.made (w : World) (L : List ByteArray) : ScopeL (w.alloc (.map #[] 0)) L w.heap.size (fun _ => false) := ⟨(ScopeAt.made w).mono (Nat.zero_le _), fun _ h => by cases h⟩
theorem ScopeL.put (h : ScopeL w L m S) {s : ByteArray} (hs : s.size ≤ maxLen) (hL : L.length < maxLen) (hm : s ∈ L) :
    ∃ w', (Instr.mapUpdate 52 (.map (some m)) (.string s) (.bool true)).run Tryd.prog w = .ok () w' ∧ ScopeL w' L m (putS S s) ∧ w.grownBy w' (some m) := by
  obtain ⟨w', h1, h2, h3⟩ := h.scope.put hs hL
  have hn : ∀ t, putS S s t = true → t ∈ L := fun t ht => by
    simp only [putS, Bool.or_eq_true, decide_eq_true_eq] at ht
    rcases ht with rfl | ht
    · exact hm
    · exact h.names t ht
  exact ⟨w', h1, ⟨own_small h2 hn, hn⟩, h3⟩
end
theorem ScopeL.with_any {L : List ByteArray} {mo : Nat} {So : Scope} (ps : Option Nat) (S1 : Scope) (w : World) (h1 : (ps = none ∧ S1 = fun _ => false) ∨ ∃ m, ps = some m ∧ ScopeL w L m S1) (h2 : ScopeL w L mo So) (hL : L.length < 1048576) :
    Calls Tryd.prog 38 #[.map ps, .map (some mo)] w fun e w' => ∃ m', e = .returned (.map (some m')) ∧ ScopeL w' L m' (fun s => So s || S1 s) ∧ w.heap.size ≤ m' ∧ Keeps NoB w w' := by
  have hn1 : ∀ s, S1 s = true → s ∈ L := by
    rcases h1 with ⟨_, rfl⟩ | ⟨m, _, h⟩
    · intro s h; cases h
    · exact h.names
  refine (Go.Proofs.YtincajfanhanjaaDoor.with_any ps L.length mo L.length S1 So w (h1.imp id (fun ⟨m, e, h⟩ => ⟨m, e, h.scope⟩)) h2.scope (by unfold maxLen; omega)).mono ?_
  rintro e w' ⟨m', he, hs, hm, hk⟩
  have hn : ∀ t, (So t || S1 t) = true → t ∈ L := fun t ht => by
    rw [Bool.or_eq_true] at ht
    exact ht.elim (h2.names t) (hn1 t)
  exact ⟨m', he, ⟨own_small hs hn, hn⟩, hm, hk⟩
/-- A copy without more: scope.with of nil. -/
theorem copy_nil (bd n : Nat) (S : Scope) (w : World) (h : ScopeAt w bd n S) (hn : n ≤ maxLen) :
    Calls Tryd.prog 48 #[.map (some bd), .map none] w fun e w' => e = .returned (.tuple #[]) ∧ ScopeAt w' bd n S ∧ Keeps (fun k => k = bd) w w' := by
  obtain ⟨D, ho, hD⟩ := h
  refine (copy_opt boolR bd n none D .nil w ho (.inl ⟨rfl, rfl⟩) (by simp) (by simp [Maps.size]; omega)).mono ?_
  rintro e w' ⟨he, ho', hg⟩
  refine ⟨he, ⟨_, ho'.mono (by simp [Maps.size]), fun s z => ?_⟩, (Keeps.refl _ w).grown hg (fun k e _ => by injection e with e; exact e.symm)⟩
  exact hD s z
/-! ### How a function of the checker ends -/
def Ends {α : Type} (r : Except Flt α) (fp : Nat → Prop) (w : World) (ok : α → Ending → World → Prop) (e : Ending) (w' : World) : Prop :=
  Keeps fp w w' ∧ ((∃ k p, r = .error (k, p) ∧ Stops k p e) ∨ ∃ a, r = .ok a ∧ ok a e w')
end Go.Proofs.YtincajfanhanjaaDoor
namespace Go.Proofs.YtincajfanhanjaaDoor
open Go.RowKit Go.Maps

abbrev Fns := ByteArray → Int → Bool
/-- What the checker has to do with: block of its functions' map, the first block that is not there yet when it begins, inner maps, functions, names. -/
structure Cx where
  mf : Nat
  hi : Nat
  R : ByteArray → Option Nat
  F : Fns
  L : List ByteArray
def InnerAt (w : World) (b : Nat) (n : Nat) (f : Int → Bool) : Prop := ∃ D, w.ownsMap Tryd.prog 3 boolR b n D ∧ ∀ p z, D.atKey (.int .i64 p) z = if f p then .lit (.bool true) else z
structure FunsAt (w : World) (cb mf hi : Nat) (n : Nat) (R : ByteArray → Option Nat) (F : Fns) : Prop where
  outer : ∃ D, w.ownsMap Tryd.prog 9 mapR mf n D ∧ ∀ s z, D.atKey (.string (key s)) z = match R s with | some b => .lit (.int .i64 (b : Int)) | none => z
  at' : mf < hi ∧ mf ≠ cb
  inner : ∀ s b, R s = some b → b < hi ∧ b ≠ cb ∧ b ≠ mf ∧ InnerAt w b n (F s)
  none' : ∀ s p, R s = none → F s p = false
  one : ∀ s t b, R s = some b → R t = some b → s = t
section
variable {w w' : World} {cb mf hi n : Nat} {R : ByteArray → Option Nat} {F : Fns} {fp : Nat → Prop}
theorem InnerAt.keep {b : Nat} {f : Int → Bool} (h : InnerAt w b n f) (hk : Keeps fp w w') (hb : ¬ fp b) : InnerAt w' b n f := by
  obtain ⟨D, ho, hD⟩ := h
  exact ⟨D, own_keep ho hk hb, hD⟩
theorem FunsAt.keep (h : FunsAt w cb mf hi n R F) (hk : Keeps fp w w') (hf : ∀ k, fp k → hi ≤ k ∨ k = cb) : FunsAt w' cb mf hi n R F := by
  obtain ⟨⟨D, ho, hD⟩, h2, h3, h4, h5⟩ := h
  refine ⟨⟨D, own_keep ho hk (fun e => ?_), hD⟩, h2, fun s b hb => ?_, h4, h5⟩
  · have := h2.1; have := h2.2; rcases hf _ e with h | h <;> omega
  · obtain ⟨a1, a2, a3, a4⟩ := h3 s b hb
    exact ⟨a1, a2, a3, a4.keep hk (fun e => by rcases hf _ e with h | h <;> omega)⟩
theorem FunsAt.look (h : FunsAt w cb mf hi n R F) {s : ByteArray} (hs : s.size ≤ maxLen) : (Instr.lookup 50 (.map (some mf)) (.string s) false).run Tryd.prog w = .ok (.map (R s)) w := by
  obtain ⟨⟨D, ho, hD⟩, _⟩ := h
  obtain ⟨v, ps, hr, hv⟩ := ho.lookup keyS Tryd.underlying50 (zero55 w) (show mapR (.map none) = some (.nil, []) from rfl) (keyOf_s hs)
  rw [hD] at hv
  rw [hr]
  cases hR : R s with
  | none => rw [hR] at hv; rw [mapR_none hv]
  | some b => rw [hR] at hv; rw [mapR_some hv]
theorem nil55 (w : World) (p : Int) : (Instr.lookup 55 (.map none) (.int .i64 p) false).run Tryd.prog w = .ok (.bool false) w := by kernel_rfl
theorem InnerAt.look {b : Nat} {f : Int → Bool} (h : InnerAt w b n f) {p : Int} (hp : (Lit.int .i64 p).wf = true) : (Instr.lookup 55 (.map (some b)) (.int .i64 p) false).run Tryd.prog w = .ok (.bool (f p)) w := by
  obtain ⟨D, ho, hD⟩ := h
  obtain ⟨v, ps, hr, hv⟩ := ho.lookup keyI Tryd.underlying55 (zero4 w) (show boolR (.bool false) = some (.lit (.bool false), []) from rfl) (keyOf_i hp)
  rw [hD] at hv
  obtain ⟨b, rfl, hb⟩ := boolR_inv hv
  rw [hr]
  cases hS : f p with
  | true => rw [hS] at hb; simp at hb; rw [← hb]
  | false => rw [hS] at hb; simp at hb; rw [← hb]
theorem FunsAt.look2 (h : FunsAt w cb mf hi n R F) (s : ByteArray) {p : Int} (hp : (Lit.int .i64 p).wf = true) : (Instr.lookup 55 (.map (R s)) (.int .i64 p) false).run Tryd.prog w = .ok (.bool (F s p)) w := by
  cases hR : R s with
  | none => rw [nil55, h.none' s p hR]
  | some b => exact (h.inner s b hR).2.2.2.look hp
end
theorem wf_i64 {p : Int} (h1 : -9223372036854775808 ≤ p) (h2 : p ≤ 9223372036854775807) : (Lit.int .i64 p).wf = true := by
  simp [Lit.wf, IntKind.min, IntKind.max, IntKind.bits, IntKind.signed]
  omega
theorem LaidN.keep' {w w' : World} {fp : Nat → Prop} (h : LaidN w) (hk : Keeps fp w w') (hf : ∀ k, k < 3 → ¬ fp k) : LaidN w' :=
  ⟨⟨fun k a h1 h2 => hk.cell (hf 0 (by decide)) (h.kind.1 k a h1 h2), h.kind.2.imp fun _ h => hk.cell (hf 2 (by decide)) h⟩, fun k j h1 h2 => by
    have hl : (shapeC k).length = 5 := by unfold shapeC; split <;> rfl
    have h3 := h.shape k j h1 h2
    rw [List.getElem?_eq_getElem (by omega)] at h3 ⊢
    exact hk.cell (hf 1 (by decide)) h3⟩
/-- The checker, in block cb: what it holds. -/
structure CkS (c : Cx) (cb : Nat) (w : World) (mg : Nat) (G : Scope) : Prop where
  blk : Blk w cb 54 #[.map (some c.mf), .map (some mg)]
  funs : ∃ n, FunsAt w cb c.mf c.hi n c.R c.F
  gone : ScopeL w c.L mg G
  mg : c.hi ≤ mg
  cb : 3 ≤ cb ∧ cb < c.hi
  laid : LaidN w
  few : c.L.length < 1048576
section
variable {c : Cx} {w w' : World} {cb mg ms : Nat} {G S : Scope} {fp : Nat → Prop}
theorem CkS.keep (h : CkS c cb w mg G) (hk : Keeps fp w w') (h1 : ¬ fp cb) (h2 : ¬ fp mg) (h3 : ∀ k, fp k → c.hi ≤ k) : CkS c cb w' mg G := by
  obtain ⟨n, hf⟩ := h.funs
  have h4 := h.cb
  exact ⟨h.blk.keep hk h1, ⟨n, hf.keep hk (fun k e => .inl (h3 k e))⟩, h.gone.keep hk h2, h.mg, h.cb, h.laid.keep' hk (fun k hk e => by have := h3 k e; omega), h.few⟩
theorem CkS.keep0 (h : CkS c cb w mg G) (hk : Keeps NoB w w') : CkS c cb w' mg G := h.keep hk id id (fun _ h => h.elim)
end
/-- Where a tree lies: in blocks that nobody turns. -/
abbrev Bt (c : Cx) (cb : Nat) : Nat → Prop := fun k => k < c.hi ∧ k ≠ cb
/-! ### Lists gone through with a fault -/
def foldE {σ : Type} (f : Nd → σ → Except Flt σ) : List Nd → σ → Except Flt σ
  | [], s => .ok s
  | t :: ts, s => match f t s with
    | .error e => .error e
    | .ok s' => foldE f ts s'
theorem foldE_step {σ : Type} {f : Nd → σ → Except Flt σ} : ∀ {ts : List Nd} {k : Nat} {t : Nd} {s s' s'' : σ}, ts[k]? = some t → foldE f (ts.take k) s = .ok s' → f t s' = .ok s'' → foldE f (ts.take (k + 1)) s = .ok s''
  | [], k, t, _, _, _, h, _, _ => by simp at h
  | a :: ts, 0, t, s, s', s'', h, h1, h2 => by
    obtain rfl : a = t := by simpa using h
    simp only [List.take_zero, foldE] at h1
    injection h1 with h1; subst h1
    simp only [List.take_succ_cons, List.take_zero, foldE, h2]
  | a :: ts, k + 1, t, s, s', s'', h, h1, h2 => by
    simp only [List.take_succ_cons, foldE] at h1 ⊢
    cases hf : f a s with
    | error e => rw [hf] at h1; cases h1
    | ok s1 =>
      rw [hf] at h1
      exact foldE_step (ts := ts) (k := k) (by simpa using h) h1 h2
theorem foldE_stop {σ : Type} {f : Nd → σ → Except Flt σ} : ∀ {ts : List Nd} {k : Nat} {t : Nd} {s s' : σ} {e : Flt}, ts[k]? = some t → foldE f (ts.take k) s = .ok s' → f t s' = .error e → foldE f ts s = .error e
  | [], k, t, _, _, _, h, _, _ => by simp at h
  | a :: ts, 0, t, s, s', e, h, h1, h2 => by
    obtain rfl : a = t := by simpa using h
    simp only [List.take_zero, foldE] at h1
    injection h1 with h1; subst h1
    simp only [foldE, h2]
  | a :: ts, k + 1, t, s, s', e, h, h1, h2 => by
    simp only [List.take_succ_cons, foldE] at h1 ⊢
    cases hf : f a s with
    | error e => rw [hf] at h1; cases h1
    | ok s1 =>
      rw [hf] at h1
      exact foldE_stop (ts := ts) (k := k) (by simpa using h) h1 h2
theorem pats_fold : ∀ (ts : List Nd) (S : Scope), patsN ts S = foldE patN ts S
  | [], _ => by simp only [patsN, foldE]
  | t :: ts, S => by
    simp only [patsN, foldE]
    cases patN t S with
    | error e => rfl
    | ok S' => exact pats_fold ts S'
theorem guards_fold (S G : Scope) : ∀ (ts : List Nd), guardsN ts S G = foldE (fun t (_ : Unit) => guardN t S G) ts ()
  | [] => by simp only [guardsN, foldE]
  | t :: ts => by
    simp only [guardsN, foldE]
    cases guardN t S G with
    | error e => rfl
    | ok S' => exact guards_fold S G ts
theorem all_fold (S G : Scope) : ∀ (ts : List Nd), allGuards ts S G = foldE (fun t (_ : Unit) => guardsN t.kids S G) ts ()
  | [] => by simp only [allGuards, foldE]
  | t :: ts => by
    simp only [allGuards, foldE]
    cases guardsN t.kids S G with
    | error e => rfl
    | ok S' => exact all_fold S G ts
def arE (a : Int) (t : Nd) (_ : Unit) : Except Flt Unit := if 12 < firstN t then .error (217, t.place) else if (firstN t : Int) ≠ a then .error (211, t.place) else .ok ()
theorem arity_fold (a : Int) : ∀ (ts : List Nd), arityN ts a = foldE (arE a) ts ()
  | [] => by simp only [arityN, foldE]
  | t :: ts => by
    simp only [arityN, foldE, arE]
    by_cases h1 : 12 < firstN t
    · rw [if_pos h1, if_pos h1]
    · rw [if_neg h1, if_neg h1]
      by_cases h2 : (firstN t : Int) ≠ a
      · rw [if_pos h2, if_pos h2]
      · rw [if_neg h2, if_neg h2]; exact arity_fold a ts
theorem exs_fold (F : Fns) (b : Bool) : ∀ (ts : List Nd) (S G : Scope), exsN F b ts S G = foldE (fun t s => exN F b t s.1 s.2) ts (S, G)
  | [], _, _ => by simp only [exsN, foldE]
  | t :: ts, S, G => by
    simp only [exsN, foldE]
    cases exN F b t S G with
    | error e => rfl
    | ok s => exact exs_fold F b ts s.1 s.2
theorem cls_fold (F : Fns) (S : Scope) : ∀ (ts : List Nd) (G : Scope), clsN F ts S G = (foldE (fun t g => (clN F t S g).map (·.2)) ts G).map (fun g => (S, g))
  | [], _ => by simp only [clsN, foldE]; rfl
  | t :: ts, G => by
    simp only [clsN, foldE]
    cases clN F t S G with
    | error e => rfl
    | ok s => exact cls_fold F S ts s.2
theorem funs_fold (F : Fns) (S : Scope) : ∀ (ts : List Nd) (G : Scope), funsN F ts S G = (foldE (fun t g => (funN F t S g).map (·.2)) ts G).map (fun g => (S, g))
  | [], _ => by simp only [funsN, foldE]; rfl
  | t :: ts, G => by
    simp only [funsN, foldE]
    cases funN F t S G with
    | error e => rfl
    | ok s => exact funs_fold F S ts s.2
def quE (F : Fns) (t : Nd) (s : Scope × Scope) : Res := if t.kind = 18 then quN F t s.1 s.2 else (exN F false t s.1 s.2).map (fun x => (s.1, x.2))
theorem qua_fold (F : Fns) : ∀ (ts : List Nd) (S G : Scope), quaN F ts S G = foldE (quE F) ts (S, G)
  | [], _, _ => by simp only [quaN, foldE]
  | t :: ts, S, G => by
    simp only [quaN, foldE, quE]
    by_cases h : t.kind = 18
    · rw [if_pos h, if_pos h]
      cases quN F t S G with
      | error e => rfl
      | ok s => exact qua_fold F ts s.1 s.2
    · rw [if_neg h, if_neg h]
      cases exN F false t S G with
      | error e => rfl
      | ok s => exact qua_fold F ts S s.2
end Go.Proofs.YtincajfanhanjaaDoor
