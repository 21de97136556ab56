/- lint.stop, law07.node, variable, arities of one: small functions of the checker. The checker's maps: scopes; scope.with. scope.with: a copy, and what comes to it. checker.variable; expr, item, body of a variable; pattern of a variable. -/
import Derived.Test.YtincajfanhanjaaDoorNdRight
import Derived.Recover
import Derived.Test.YtincajfanhanjaaDoorShelf
import Derived.Maps.OwnSet
import Derived.Lib.SlMapMerge
namespace Go.Proofs.YtincajfanhanjaaDoor
open Go.RowKit

/-- How the checker stops: code k at the place. -/
def Stops (k pl : Int) (e : Ending) : Prop := e = .panicked [{ v := .iface 33 (.agg #[.int .i64 k, .int .i64 pl]), recovered := false }]
set_option maxRecDepth 100000 in
theorem stop_any (k : Int) (w : World) (kd : Int) (tx : ByteArray) (nm pl : Int) (ka : Option Addr) (kn kc : Nat) : Calls Tryd.prog 23 #[.int .i64 k, .agg #[.int .u8 kd, .string tx, .int .i64 nm, .int .i64 pl, .slice ka kn kc]] w fun e w' => Stops k pl e ∧ Keeps NoB w w' := by
  have HK := hide ((Keeps.refl NoB w).alloc (.cells #[.int .u8 kd, .string tx, .int .i64 nm, .int .i64 pl, .slice ka kn kc] 29))
  go_enter Tryd.func23, Tryd.ntmps23
  go_wp2
  exact ⟨rfl, rfl, HK.out⟩
set_option maxRecDepth 100000 in
theorem node_new (k : Int) (tx : ByteArray) (A : Option Addr) (n c : Nat) (w : World) : Calls Tryd.prog 18 #[.int .u8 k, .string tx, .slice A n c] w fun e w' => e = .returned (.agg #[.int .u8 k, .string tx, .int .i64 0, .int .i64 0, .slice A n c]) ∧ Keeps NoB w w' := by
  have HK := hide ((Keeps.refl NoB w).alloc (.cells #[.int .u8 k, .string tx, .int .i64 0, .int .i64 0, .slice A n c] 29))
  have HBX := hide (Blk.new w 29 #[.int .u8 k, .string tx, .int .i64 0, .int .i64 0, .slice A n c])
  go_enter Tryd.func18, Tryd.ntmps18
  go_wp2
  have d0 : (w.alloc (.cells #[.int .u8 k, .string tx, .int .i64 0, .int .i64 0, .slice A n c] 29)).cell? ⟨w.heap.size, 0, none⟩ = some (.int .u8 k) := HBX.out.cell 0; have d1 : (w.alloc (.cells #[.int .u8 k, .string tx, .int .i64 0, .int .i64 0, .slice A n c] 29)).cell? ⟨w.heap.size, 1, none⟩ = some (.string tx) := HBX.out.cell 1; have d2 : (w.alloc (.cells #[.int .u8 k, .string tx, .int .i64 0, .int .i64 0, .slice A n c] 29)).cell? ⟨w.heap.size, 2, none⟩ = some (.int .i64 0) := HBX.out.cell 2; have d3 : (w.alloc (.cells #[.int .u8 k, .string tx, .int .i64 0, .int .i64 0, .slice A n c] 29)).cell? ⟨w.heap.size, 3, none⟩ = some (.int .i64 0) := HBX.out.cell 3; have d4 : (w.alloc (.cells #[.int .u8 k, .string tx, .int .i64 0, .int .i64 0, .slice A n c] 29)).cell? ⟨w.heap.size, 4, none⟩ = some (.slice A n c) := HBX.out.cell 4
  refine bodyPost_ret (v := .agg #[.int .u8 k, .string tx, .int .i64 0, .int .i64 0, .slice A n c]) (by simp [results, Tryd.results18, go_sem, d0, d1, d2, d3, d4]) rfl ?_
  exact ⟨rfl, HK.out⟩
end Go.Proofs.YtincajfanhanjaaDoor
namespace Go.Proofs.YtincajfanhanjaaDoor
open Go.RowKit Go.Maps

theorem keyS : Keyed Tryd.prog 9 := string_keyed Tryd.underlying9
theorem keyI : Keyed Tryd.prog 3 := int_keyed Tryd.underlying3
theorem zero4 (w : World) : (zeroValue 4).run Tryd.prog w = .ok (.bool false) w := by kernel_rfl
abbrev key (s : ByteArray) : List UInt8 := s.data.toList
theorem key_inj {s t : ByteArray} (h : key s = key t) : s = t := by
  cases s; cases t
  simp only [key] at h
  congr 1
  exact Array.ext' h
theorem str_ne {s t : ByteArray} (h : s ≠ t) : (Lit.string (key s)) ≠ .string (key t) := fun e => h (key_inj (by injection e))
theorem keyOf_s {s : ByteArray} (h : s.size ≤ maxLen) : keyOf Tryd.prog 9 (.string s) = some (.string (key s)) := WideMaps.keyOf_string_mk Tryd.underlying9 h
theorem own_keep {H : Type} {w w' : World} {k : TypeId} {R : Value → Option (DataW H × List MemPlace)} {b n : Nat} {D : DataW H} {fp : Nat → Prop} (h : w.ownsMap Tryd.prog k R b n D) (hk : Keeps fp w w') (hb : ¬ fp b) : w'.ownsMap Tryd.prog k R b n D := by
  have hlt := h.lt
  obtain ⟨es, clock, he, r⟩ := h
  exact ⟨es, clock, (hk.block b hlt hb).trans he, r⟩
/-- Elements that are bools. -/
def boolR (v : Value) : Option (DataW Unit × List MemPlace) := match v with | .bool b => some (.lit (.bool b), []) | _ => none
theorem boolR_inv {v : Value} {d : DataW Unit} {ps : List MemPlace} (h : boolR v = some (d, ps)) : ∃ b, v = .bool b ∧ d = .lit (.bool b) := by
  cases v with
  | bool b => simp only [boolR, Option.some.injEq, Prod.mk.injEq] at h; exact ⟨b, rfl, h.1.symm⟩
  | _ => simp [boolR] at h
/-- A scope in block m: the names that it holds. -/
def ScopeAt (w : World) (m n : Nat) (S : ByteArray → Bool) : Prop := ∃ D : DataW Unit, w.ownsMap Tryd.prog 9 boolR m n D ∧ ∀ s z, D.atKey (.string (key s)) z = if S s then .lit (.bool true) else z
theorem ScopeAt.keep {w w' : World} {m n : Nat} {S : ByteArray → Bool} {fp : Nat → Prop} (h : ScopeAt w m n S) (hk : Keeps fp w w') (hm : ¬ fp m) : ScopeAt w' m n S := by
  obtain ⟨D, ho, hD⟩ := h
  exact ⟨D, own_keep ho hk hm, hD⟩
theorem ScopeAt.lt {w : World} {m n : Nat} {S : ByteArray → Bool} (h : ScopeAt w m n S) : m < w.heap.size := by
  obtain ⟨D, ho, _⟩ := h
  exact ho.lt
theorem ScopeAt.mono {w : World} {m n n' : Nat} {S : ByteArray → Bool} (h : ScopeAt w m n S) (hn : n ≤ n') : ScopeAt w m n' S := by
  obtain ⟨D, ho, hD⟩ := h
  exact ⟨D, ho.mono hn, hD⟩
theorem ScopeAt.made (w : World) : ScopeAt (w.alloc (.map #[] 0)) w.heap.size 0 (fun _ => false) := ⟨.map [], World.ownsMap_made w Tryd.prog 9 boolR, fun s z => rfl⟩
theorem ScopeAt.look {w : World} {m n : Nat} {S : ByteArray → Bool} (h : ScopeAt w m n S) {s : ByteArray} (hs : s.size ≤ maxLen) : (Instr.lookup 52 (.map (some m)) (.string s) false).run Tryd.prog w = .ok (.bool (S s)) w := by
  obtain ⟨D, ho, hD⟩ := h
  obtain ⟨v, ps, hr, hv⟩ := ho.lookup keyS Tryd.underlying52 (zero4 w) (show boolR (.bool false) = some (.lit (.bool false), []) from rfl) (keyOf_s hs)
  rw [hD] at hv
  obtain ⟨b, rfl, hb⟩ := boolR_inv hv
  rw [hr]
  cases hS : S s with
  | true => rw [hS] at hb; simp at hb; rw [← hb]
  | false => rw [hS] at hb; simp at hb; rw [← hb]
theorem ScopeAt.put {w : World} {m n : Nat} {S : ByteArray → Bool} (h : ScopeAt w m n S) {s : ByteArray} (hs : s.size ≤ maxLen) (hn : n < maxLen) :
    ∃ w', (Instr.mapUpdate 52 (.map (some m)) (.string s) (.bool true)).run Tryd.prog w = .ok () w' ∧ ScopeAt w' m (n + 1) (fun t => decide (t = s) || S t) ∧ w.grownBy w' (some m) := by
  obtain ⟨D, ho, hD⟩ := h
  obtain ⟨w', hr, ho', hg⟩ := ho.update keyS Tryd.underlying52 hn (keyOf_s hs) (show boolR (.bool true) = some (.lit (.bool true), []) from rfl)
  refine ⟨w', hr, ⟨_, ho', fun t z => ?_⟩, hg⟩
  by_cases e : t = s
  · subst e
    rw [atKey_put_same ho.isMap (keyS.key (keyOf_s hs))]; simp
  · rw [atKey_put_other (str_ne e), hD]; simp [e]
end Go.Proofs.YtincajfanhanjaaDoor
namespace Go.Proofs.YtincajfanhanjaaDoor
open Go.RowKit Go.Maps

theorem clone_nil (w : World) : Calls Tryd.prog 47 #[.map none] w fun e w' => e = .returned (.map none) ∧ w' = w := AnyW.maps_Clone_nil Tryd.cloneM w
theorem clone_own (R : Value → Option (DataW Unit × List MemPlace)) (b n : Nat) (D : DataW Unit) (w : World) (hown : w.ownsMap Tryd.prog 9 R b n D) :
    Calls Tryd.prog 47 #[.map (some b)] w fun e w' => e = .returned (.map (some w.heap.size)) ∧ w'.ownsMap Tryd.prog 9 R w.heap.size n D ∧ w'.ownsMap Tryd.prog 9 R b n D ∧ Below w.heap.size w w' := AnyW.maps_Clone_owns Tryd.cloneM 9 R b n D w hown
theorem copy_opt (R : Value → Option (DataW Unit × List MemPlace)) (bd nd : Nat) (ps : Option Nat) (Dd Ds : DataW Unit) (w : World) (hd : w.ownsMap Tryd.prog 9 R bd nd Dd) (hs : SrcOf Tryd.prog 9 R w ps Ds) (hne : ps ≠ some bd) (hroom : nd + Maps.size Ds ≤ maxLen) :
    Calls Tryd.prog 48 #[.map (some bd), .map ps] w fun e w' => e = .returned (.tuple #[]) ∧ w'.ownsMap Tryd.prog 9 R bd (nd + Maps.size Ds) (Lib.mergeD Dd Ds) ∧ w.grownBy w' (some bd) := AnyX.maps_Copy_opt Tryd.copyN keyS R bd nd ps Dd Ds w hd hs hne hroom
theorem merge_atKey {D1 D2 : DataW Unit} (h1 : IsMap D1) (h2 : Canon D2) (k : Lit) (z : DataW Unit) : (Lib.mergeD D1 D2).atKey k z = D2.atKey k (D1.atKey k z) := by
  obtain ⟨es, rfl, rs, ks⟩ := h2
  exact atKey_foldPut k z es D1 h1 ks (apart_of_rising rs)
theorem own_size {w : World} {R : Value → Option (DataW Unit × List MemPlace)} {b n : Nat} {D : DataW Unit} (h : w.ownsMap Tryd.prog 9 R b n D) : Maps.size D ≤ n := by
  obtain ⟨es, clock, hb, F, hs, rfl⟩ := h
  simp only [Maps.size]
  rw [length_sorted]
  simpa using hs
/-- Scopes laid together in the block of the first one. -/
theorem ScopeAt.copy {w : World} {m n m2 n2 : Nat} {S S2 : ByteArray → Bool} (h : ScopeAt w m n S) (h2 : ScopeAt w m2 n2 S2) (hne : m2 ≠ m) (hroom : n + n2 ≤ maxLen) :
    Calls Tryd.prog 48 #[.map (some m), .map (some m2)] w fun e w' => e = .returned (.tuple #[]) ∧ ScopeAt w' m (n + n2) (fun s => S2 s || S s) ∧ Keeps (fun k => k = m) w w' := by
  obtain ⟨D, ho, hD⟩ := h
  obtain ⟨D2, ho2, hD2⟩ := h2
  have hsz := own_size ho2
  refine (copy_opt boolR m n (some m2) D D2 w ho (.inr ⟨m2, n2, rfl, ho2⟩) (fun e => hne (by injection e)) (by omega)).mono ?_
  rintro e w' ⟨he, ho', hg⟩
  refine ⟨he, ⟨_, ho'.mono (by omega), fun s z => ?_⟩, (Keeps.refl _ w).grown hg (fun k e _ => by injection e with e; exact e.symm)⟩
  rw [merge_atKey ho.isMap (ho2.canon keyS), hD2, hD]
  cases hb : S2 s <;> simp [hb]
def SrcScope (w : World) (ps : Option Nat) (n : Nat) (S : ByteArray → Bool) : Prop := (ps = none ∧ S = fun _ => false) ∨ ∃ m, ps = some m ∧ ScopeAt w m n S
theorem map_eql_none (w : World) : (binOp .eql 52 (.map none) (.map none)).run Tryd.prog w = .ok (.bool true) w := by kernel_rfl
theorem map_eql_some (m : Nat) (w : World) : (binOp .eql 52 (.map (some m)) (.map none)).run Tryd.prog w = .ok (.bool false) w := by kernel_rfl
def WithPost (w : World) (n : Nat) (S : ByteArray → Bool) (e : Ending) (w' : World) : Prop := ∃ m', e = .returned (.map (some m')) ∧ ScopeAt w' m' n S ∧ w.heap.size ≤ m' ∧ Keeps NoB w w'
set_option maxRecDepth 100000 in
theorem with_any (ps : Option Nat) (n1 mo no : Nat) (S1 So : ByteArray → Bool) (w : World) (h1 : SrcScope w ps n1 S1) (h2 : ScopeAt w mo no So) (hroom : n1 + no ≤ maxLen) :
    Calls Tryd.prog 38 #[.map ps, .map (some mo)] w (WithPost w (n1 + no) (fun s => So s || S1 s)) := by
  rcases h1 with ⟨rfl, rfl⟩ | ⟨m, rfl, h1⟩
  · have hA := ScopeAt.made w
    have hB := h2.keep ((Keeps.refl NoB w).alloc (.map #[] 0)) id
    have hlt := h2.lt
    have HC := hide (hA.copy hB (fun e => by rw [e] at hlt; exact Nat.lt_irrefl _ hlt) (by omega))
    have hq := map_eql_none
    have hmm := @run_makeMap Tryd.prog
    have HK := hide ((Keeps.refl NoB w).alloc (.map #[] 0))
    clear hA hB h2 hlt
    go_enter Tryd.func38, Tryd.ntmps38
    go_wp2_with
      first
      | (go_at_call 47; refine (clone_nil _).mono ?_; rintro e w' ⟨rfl, rfl⟩)
      | (go_at_call 48
         refine HC.out.mono ?_
         rintro e w2 ⟨rfl, hs, hk⟩
         have HS := hide hs
         have HK2 := hide hk
         clear hs hk)
      | fail
    go_ret
    refine ⟨_, rfl, ScopeAt.mono HS.out (by omega), Nat.le_refl _, HK.out.trans' HK2.out (fun _ _ => id) (fun k hk e => ?_)⟩
    subst e; exact Nat.lt_irrefl _ hk
  · have hlt2 := h2.lt
    obtain ⟨D, ho, hD⟩ := h1
    have HO := hide ho; have HD := hide hD; have H2 := hide h2
    have hq := map_eql_some
    clear h2 ho hD
    go_enter Tryd.func38, Tryd.ntmps38
    go_wp2_with
      first
      | (go_at_call 47
         refine (clone_own boolR m n1 D _ HO.out).mono ?_
         rintro e w1 ⟨rfl, ho1, _, hb⟩
         have HK1 := hide (Keeps.of_below hb NoB)
         have HC := hide (ScopeAt.copy ⟨D, ho1, HD.out⟩ (H2.out.keep HK1.out id) (fun e => by rw [e] at hlt2; exact Nat.lt_irrefl _ hlt2) hroom)
         clear ho1 hb)
      | (go_at_call 48
         refine HC.out.mono ?_
         rintro e w2 ⟨rfl, hs, hk⟩
         have HS := hide hs
         have HK2 := hide hk
         clear hs hk)
      | fail
    go_ret
    refine ⟨_, rfl, HS.out, Nat.le_refl _, HK1.out.trans' HK2.out (fun _ _ => id) (fun k hk e => ?_)⟩
    subst e; exact Nat.lt_irrefl _ hk
end Go.Proofs.YtincajfanhanjaaDoor
namespace Go.Proofs.YtincajfanhanjaaDoor
open Go.RowKit Go.Maps

/-- The checker in block cb: the functions' map and the scope of names that went. -/
structure CkAt (w : World) (cb mf mg ng : Nat) (G : ByteArray → Bool) : Prop where
  blk : Blk w cb 54 #[.map (some mf), .map (some mg)]
  gone : ScopeAt w mg ng G
theorem CkAt.keep {w w' : World} {cb mf mg ng : Nat} {G : ByteArray → Bool} {fp : Nat → Prop} (h : CkAt w cb mf mg ng G) (hk : Keeps fp w w') (h1 : ¬ fp cb) (h2 : ¬ fp mg) : CkAt w' cb mf mg ng G := ⟨h.blk.keep hk h1, h.gone.keep hk h2⟩
set_option maxRecDepth 100000 in
theorem variable_yes (w : World) (cb ms ns : Nat) (S : ByteArray → Bool) (kd : Int) (tx : ByteArray) (nm pl : Int) (ka : Option Addr) (kn kc : Nat) (hS : ScopeAt w ms ns S) (ht : tx.size ≤ maxLen) (hu : ¬ tx.toList = [95]) (h1 : S tx = true) :
    Calls Tryd.prog 45 #[.pointer (some ⟨cb, 0, none⟩), .agg #[.int .u8 kd, .string tx, .int .i64 nm, .int .i64 pl, .slice ka kn kc], .map (some ms)] w fun e w' => e = .returned (.tuple #[]) ∧ Keeps NoB w w' := by
  have HK := hide ((Keeps.refl NoB w).alloc (.cells #[.int .u8 kd, .string tx, .int .i64 nm, .int .i64 pl, .slice ka kn kc] 29))
  have hl := (hS.keep HK.out id).look ht
  rw [h1] at hl
  have hub : (tx.toList == [95]) = false := by simpa using hu
  clear hS h1 hu
  go_enter Tryd.func45, Tryd.ntmps45
  go_wp2
  go_end0
  exact ⟨rfl, HK.out⟩
set_option maxRecDepth 100000 in
set_option maxHeartbeats 1000000 in
theorem variable_no (w : World) (cb mf mg ng ms ns : Nat) (G S : ByteArray → Bool) (kd : Int) (tx : ByteArray) (nm pl : Int) (ka : Option Addr) (kn kc : Nat) (hC : CkAt w cb mf mg ng G) (hS : ScopeAt w ms ns S) (ht : tx.size ≤ maxLen) (h1 : tx.toList = [95] ∨ S tx = false) :
    Calls Tryd.prog 45 #[.pointer (some ⟨cb, 0, none⟩), .agg #[.int .u8 kd, .string tx, .int .i64 nm, .int .i64 pl, .slice ka kn kc], .map (some ms)] w fun e w' => Stops (if ¬ tx.toList = [95] ∧ G tx = true then 213 else 212) pl e ∧ Keeps NoB w w' := by
  have HK := hide ((Keeps.refl NoB w).alloc (.cells #[.int .u8 kd, .string tx, .int .i64 nm, .int .i64 pl, .slice ka kn kc] 29))
  have HBX := hide (Blk.new w 29 #[.int .u8 kd, .string tx, .int .i64 nm, .int .i64 pl, .slice ka kn kc])
  have hl := (hS.keep HK.out id).look ht
  have HC := hide hC; have HT := hide ht
  clear hC hS
  by_cases hu : tx.toList = [95]
  · have HE : Hid ((if ¬ tx.toList = [95] ∧ G tx = true then (213 : Int) else 212) = 212) := hide (by rw [if_neg (fun h => h.1 hu)])
    have hub : (tx.toList == [95]) = true := by simpa using hu
    clear hl h1 ht hu
    rw [HE.out]
    go_enter Tryd.func45, Tryd.ntmps45
    go_wp2_with fail
    refine order_begin (fun W => CkAt W cb mf mg ng G ∧ Blk W w.heap.size 29 #[.int .u8 kd, .string tx, .int .i64 nm, .int .i64 pl, .slice ka kn kc]) (fun _ => true) (by kernel_rfl) 13 rfl ?_
    have HS : CkAt ((w.alloc (.cells #[.int .u8 kd, .string tx, .int .i64 nm, .int .i64 pl, .slice ka kn kc] 29))).drew cb mf mg ng G ∧ Blk ((w.alloc (.cells #[.int .u8 kd, .string tx, .int .i64 nm, .int .i64 pl, .slice ka kn kc] 29))).drew w.heap.size 29 #[.int .u8 kd, .string tx, .int .i64 nm, .int .i64 pl, .slice ka kn kc] := ⟨HC.out.keep HK.out.drew id id, HBX.out.keep (Keeps.refl NoB _).drew id⟩
    refine order_pure (i := 0) rfl (by kernel_rfl) (fun _ _ _ h => h) (.inl ⟨rfl, fun _ => by go_simp; rfl⟩) ?_
    try simp only [Act.put, List.setIfInBounds_toArray, List.set_cons_succ, List.set_cons_zero]
    refine order_held (i := 1) rfl (by kernel_rfl) (fun _ _ _ h => h) (.inl ⟨rfl, fun W hW => by
      have q0 : W.cell? ⟨w.heap.size, 1, none⟩ = some (.string tx) := hW.2.cell 1
      go_simp; rfl⟩) HS ?_
    try simp only [Act.put, List.setIfInBounds_toArray, List.set_cons_succ, List.set_cons_zero]
    refine order_pure (i := 2) rfl (by kernel_rfl) (fun _ _ _ h => h) (.inl ⟨rfl, fun _ => by go_simp; rfl⟩) ?_
    try simp only [Act.put, List.setIfInBounds_toArray, List.set_cons_succ, List.set_cons_zero]
    refine order_pure (i := 3) rfl (by kernel_rfl) (fun _ _ _ h => h) (.inl ⟨rfl, fun _ => by go_simp; rfl⟩) ?_
    try simp only [Act.put, List.setIfInBounds_toArray, List.set_cons_succ, List.set_cons_zero]
    refine order_skip (i := 4) rfl (by kernel_rfl) (fun _ _ _ h => h) (by kernel_rfl) ?_
    try simp only [Act.put, List.setIfInBounds_toArray, List.set_cons_succ, List.set_cons_zero]
    refine order_skip (i := 5) rfl (by kernel_rfl) (fun _ _ _ h => h) (by kernel_rfl) ?_
    try simp only [Act.put, List.setIfInBounds_toArray, List.set_cons_succ, List.set_cons_zero]
    refine order_skip (i := 6) rfl (by kernel_rfl) (fun _ _ _ h => h) (by kernel_rfl) ?_
    try simp only [Act.put, List.setIfInBounds_toArray, List.set_cons_succ, List.set_cons_zero]
    refine order_skip (i := 7) rfl (by kernel_rfl) (fun _ _ _ h => h) (by kernel_rfl) ?_
    try simp only [Act.put, List.setIfInBounds_toArray, List.set_cons_succ, List.set_cons_zero]
    refine order_skip (i := 8) rfl (by kernel_rfl) (fun _ _ _ h => h) (by kernel_rfl) ?_
    try simp only [Act.put, List.setIfInBounds_toArray, List.set_cons_succ, List.set_cons_zero]
    refine order_skip (i := 9) rfl (by kernel_rfl) (fun _ _ _ h => h) (by kernel_rfl) ?_
    try simp only [Act.put, List.setIfInBounds_toArray, List.set_cons_succ, List.set_cons_zero]
    refine order_skip (i := 10) rfl (by kernel_rfl) (fun _ _ _ h => h) (by kernel_rfl) ?_
    try simp only [Act.put, List.setIfInBounds_toArray, List.set_cons_succ, List.set_cons_zero]
    refine order_pure (i := 11) rfl (by kernel_rfl) (fun _ _ _ h => h) (.inl ⟨rfl, fun _ => by go_simp; rfl⟩) ?_
    try simp only [Act.put, List.setIfInBounds_toArray, List.set_cons_succ, List.set_cons_zero]
    refine order_pure (i := 12) rfl (by kernel_rfl) (fun _ _ _ h => h) (.inl ⟨rfl, fun _ => by go_simp; rfl⟩) ?_
    try simp only [Act.put, List.setIfInBounds_toArray, List.set_cons_succ, List.set_cons_zero]
    refine order_done (by kernel_rfl) ?_
    clear HS
    go_wp2_with
      first
      | (go_at_call 23
         refine (stop_any _ _ kd tx nm pl ka kn kc).mono ?_
         rintro e w2 ⟨he, hk⟩
         unfold Stops at he
         subst he
         have HK2 := hide (HK.out.drew.trans' hk (fun _ _ => id) (fun _ _ => id) : Keeps NoB w w2)
         clear hk)
      | fail
    exact ⟨rfl, rfl, HK2.out⟩
  · have h2 : S tx = false := h1.resolve_left hu
    rw [h2] at hl
    have hub : (tx.toList == [95]) = false := by simpa using hu
    clear h1 ht
    cases hg : G tx with
    | true =>
      have HE : Hid ((if ¬ tx.toList = [95] ∧ true = true then (213 : Int) else 212) = 213) := hide (by rw [if_pos ⟨hu, rfl⟩])
      have HG := hide hg
      clear hg h2 hu
      rw [HE.out]
      go_enter Tryd.func45, Tryd.ntmps45
      go_wp2_with fail
      clear hl
      refine order_begin (fun W => CkAt W cb mf mg ng G ∧ Blk W w.heap.size 29 #[.int .u8 kd, .string tx, .int .i64 nm, .int .i64 pl, .slice ka kn kc]) (fun _ => true) (by kernel_rfl) 13 rfl ?_
      have HS : CkAt ((w.alloc (.cells #[.int .u8 kd, .string tx, .int .i64 nm, .int .i64 pl, .slice ka kn kc] 29))).drew cb mf mg ng G ∧ Blk ((w.alloc (.cells #[.int .u8 kd, .string tx, .int .i64 nm, .int .i64 pl, .slice ka kn kc] 29))).drew w.heap.size 29 #[.int .u8 kd, .string tx, .int .i64 nm, .int .i64 pl, .slice ka kn kc] := ⟨HC.out.keep HK.out.drew id id, HBX.out.keep (Keeps.refl NoB _).drew id⟩
      refine order_pure (i := 0) rfl (by kernel_rfl) (fun _ _ _ h => h) (.inl ⟨rfl, fun _ => by go_simp; rfl⟩) ?_
      try simp only [Act.put, List.setIfInBounds_toArray, List.set_cons_succ, List.set_cons_zero]
      refine order_held (i := 1) rfl (by kernel_rfl) (fun _ _ _ h => h) (.inl ⟨rfl, fun W hW => by
        have q0 : W.cell? ⟨w.heap.size, 1, none⟩ = some (.string tx) := hW.2.cell 1
        go_simp; rfl⟩) HS ?_
      try simp only [Act.put, List.setIfInBounds_toArray, List.set_cons_succ, List.set_cons_zero]
      refine order_pure (i := 2) rfl (by kernel_rfl) (fun _ _ _ h => h) (.inl ⟨rfl, fun _ => by go_simp; rfl⟩) ?_
      try simp only [Act.put, List.setIfInBounds_toArray, List.set_cons_succ, List.set_cons_zero]
      refine order_pure (i := 3) rfl (by kernel_rfl) (fun _ _ _ h => h) (.inl ⟨rfl, fun _ => by go_simp; rfl⟩) ?_
      try simp only [Act.put, List.setIfInBounds_toArray, List.set_cons_succ, List.set_cons_zero]
      refine order_pure (i := 4) rfl (by kernel_rfl) (fun _ _ _ h => h) (.inl ⟨rfl, fun _ => by go_simp; rfl⟩) ?_
      try simp only [Act.put, List.setIfInBounds_toArray, List.set_cons_succ, List.set_cons_zero]
      refine order_pure (i := 5) rfl (by kernel_rfl) (fun _ _ _ h => h) (.inl ⟨rfl, fun _ => by go_simp; rfl⟩) ?_
      try simp only [Act.put, List.setIfInBounds_toArray, List.set_cons_succ, List.set_cons_zero]
      refine order_pure (i := 6) rfl (by kernel_rfl) (fun _ _ _ h => h) (.inl ⟨rfl, fun _ => by go_simp; rfl⟩) ?_
      try simp only [Act.put, List.setIfInBounds_toArray, List.set_cons_succ, List.set_cons_zero]
      refine order_held (i := 7) rfl (by kernel_rfl) (fun _ _ _ h => h) (.inl ⟨rfl, fun W hW => by
        have q0 : W.cell? ⟨cb, 1, none⟩ = some (.map (some mg)) := hW.1.blk.cell 1
        go_simp; rfl⟩) HS ?_
      try simp only [Act.put, List.setIfInBounds_toArray, List.set_cons_succ, List.set_cons_zero]
      refine order_pure (i := 8) rfl (by kernel_rfl) (fun _ _ _ h => h) (.inl ⟨rfl, fun _ => by go_simp; rfl⟩) ?_
      try simp only [Act.put, List.setIfInBounds_toArray, List.set_cons_succ, List.set_cons_zero]
      refine order_held (i := 9) rfl (by kernel_rfl) (fun _ _ _ h => h) (.inl ⟨rfl, fun W hW => by
        have q0 : W.cell? ⟨w.heap.size, 1, none⟩ = some (.string tx) := hW.2.cell 1
        go_simp; rfl⟩) HS ?_
      try simp only [Act.put, List.setIfInBounds_toArray, List.set_cons_succ, List.set_cons_zero]
      refine order_held (i := 10) rfl (by kernel_rfl) (fun _ _ _ h => h) (.inl ⟨rfl, fun W hW => by
        have q0 : (Instr.lookup 52 (.map (some mg)) (.string tx) false).run Tryd.prog W = .ok (.bool (G tx)) W := hW.1.gone.look HT.out
        have q1 : G tx = true := HG.out
        go_simp; rfl⟩) HS ?_
      try simp only [Act.put, List.setIfInBounds_toArray, List.set_cons_succ, List.set_cons_zero]
      refine order_pure (i := 11) rfl (by kernel_rfl) (fun _ _ _ h => h) (.inl ⟨rfl, fun _ => by go_simp; rfl⟩) ?_
      try simp only [Act.put, List.setIfInBounds_toArray, List.set_cons_succ, List.set_cons_zero]
      refine order_pure (i := 12) rfl (by kernel_rfl) (fun _ _ _ h => h) (.inl ⟨rfl, fun _ => by go_simp; rfl⟩) ?_
      try simp only [Act.put, List.setIfInBounds_toArray, List.set_cons_succ, List.set_cons_zero]
      refine order_done (by kernel_rfl) ?_
      clear HS
      go_wp2_with
        first
        | (go_at_call 23
           refine (stop_any _ _ kd tx nm pl ka kn kc).mono ?_
           rintro e w2 ⟨he, hk⟩
           unfold Stops at he
           subst he
           have HK2 := hide (HK.out.drew.trans' hk (fun _ _ => id) (fun _ _ => id) : Keeps NoB w w2)
           clear hk)
        | fail
      exact ⟨rfl, rfl, HK2.out⟩
    | false =>
      have HE : Hid ((if ¬ tx.toList = [95] ∧ false = true then (213 : Int) else 212) = 212) := hide (by simp)
      have HG := hide hg
      clear hg h2 hu
      rw [HE.out]
      go_enter Tryd.func45, Tryd.ntmps45
      go_wp2_with fail
      clear hl
      refine order_begin (fun W => CkAt W cb mf mg ng G ∧ Blk W w.heap.size 29 #[.int .u8 kd, .string tx, .int .i64 nm, .int .i64 pl, .slice ka kn kc]) (fun _ => true) (by kernel_rfl) 13 rfl ?_
      have HS : CkAt ((w.alloc (.cells #[.int .u8 kd, .string tx, .int .i64 nm, .int .i64 pl, .slice ka kn kc] 29))).drew cb mf mg ng G ∧ Blk ((w.alloc (.cells #[.int .u8 kd, .string tx, .int .i64 nm, .int .i64 pl, .slice ka kn kc] 29))).drew w.heap.size 29 #[.int .u8 kd, .string tx, .int .i64 nm, .int .i64 pl, .slice ka kn kc] := ⟨HC.out.keep HK.out.drew id id, HBX.out.keep (Keeps.refl NoB _).drew id⟩
      refine order_pure (i := 0) rfl (by kernel_rfl) (fun _ _ _ h => h) (.inl ⟨rfl, fun _ => by go_simp; rfl⟩) ?_
      try simp only [Act.put, List.setIfInBounds_toArray, List.set_cons_succ, List.set_cons_zero]
      refine order_held (i := 1) rfl (by kernel_rfl) (fun _ _ _ h => h) (.inl ⟨rfl, fun W hW => by
        have q0 : W.cell? ⟨w.heap.size, 1, none⟩ = some (.string tx) := hW.2.cell 1
        go_simp; rfl⟩) HS ?_
      try simp only [Act.put, List.setIfInBounds_toArray, List.set_cons_succ, List.set_cons_zero]
      refine order_pure (i := 2) rfl (by kernel_rfl) (fun _ _ _ h => h) (.inl ⟨rfl, fun _ => by go_simp; rfl⟩) ?_
      try simp only [Act.put, List.setIfInBounds_toArray, List.set_cons_succ, List.set_cons_zero]
      refine order_pure (i := 3) rfl (by kernel_rfl) (fun _ _ _ h => h) (.inl ⟨rfl, fun _ => by go_simp; rfl⟩) ?_
      try simp only [Act.put, List.setIfInBounds_toArray, List.set_cons_succ, List.set_cons_zero]
      refine order_pure (i := 4) rfl (by kernel_rfl) (fun _ _ _ h => h) (.inl ⟨rfl, fun _ => by go_simp; rfl⟩) ?_
      try simp only [Act.put, List.setIfInBounds_toArray, List.set_cons_succ, List.set_cons_zero]
      refine order_pure (i := 5) rfl (by kernel_rfl) (fun _ _ _ h => h) (.inl ⟨rfl, fun _ => by go_simp; rfl⟩) ?_
      try simp only [Act.put, List.setIfInBounds_toArray, List.set_cons_succ, List.set_cons_zero]
      refine order_pure (i := 6) rfl (by kernel_rfl) (fun _ _ _ h => h) (.inl ⟨rfl, fun _ => by go_simp; rfl⟩) ?_
      try simp only [Act.put, List.setIfInBounds_toArray, List.set_cons_succ, List.set_cons_zero]
      refine order_held (i := 7) rfl (by kernel_rfl) (fun _ _ _ h => h) (.inl ⟨rfl, fun W hW => by
        have q0 : W.cell? ⟨cb, 1, none⟩ = some (.map (some mg)) := hW.1.blk.cell 1
        go_simp; rfl⟩) HS ?_
      try simp only [Act.put, List.setIfInBounds_toArray, List.set_cons_succ, List.set_cons_zero]
      refine order_pure (i := 8) rfl (by kernel_rfl) (fun _ _ _ h => h) (.inl ⟨rfl, fun _ => by go_simp; rfl⟩) ?_
      try simp only [Act.put, List.setIfInBounds_toArray, List.set_cons_succ, List.set_cons_zero]
      refine order_held (i := 9) rfl (by kernel_rfl) (fun _ _ _ h => h) (.inl ⟨rfl, fun W hW => by
        have q0 : W.cell? ⟨w.heap.size, 1, none⟩ = some (.string tx) := hW.2.cell 1
        go_simp; rfl⟩) HS ?_
      try simp only [Act.put, List.setIfInBounds_toArray, List.set_cons_succ, List.set_cons_zero]
      refine order_held (i := 10) rfl (by kernel_rfl) (fun _ _ _ h => h) (.inl ⟨rfl, fun W hW => by
        have q0 : (Instr.lookup 52 (.map (some mg)) (.string tx) false).run Tryd.prog W = .ok (.bool (G tx)) W := hW.1.gone.look HT.out
        have q1 : G tx = false := HG.out
        go_simp; rfl⟩) HS ?_
      try simp only [Act.put, List.setIfInBounds_toArray, List.set_cons_succ, List.set_cons_zero]
      refine order_pure (i := 11) rfl (by kernel_rfl) (fun _ _ _ h => h) (.inl ⟨rfl, fun _ => by go_simp; rfl⟩) ?_
      try simp only [Act.put, List.setIfInBounds_toArray, List.set_cons_succ, List.set_cons_zero]
      refine order_pure (i := 12) rfl (by kernel_rfl) (fun _ _ _ h => h) (.inl ⟨rfl, fun _ => by go_simp; rfl⟩) ?_
      try simp only [Act.put, List.setIfInBounds_toArray, List.set_cons_succ, List.set_cons_zero]
      refine order_done (by kernel_rfl) ?_
      clear HS
      go_wp2_with
        first
        | (go_at_call 23
           refine (stop_any _ _ kd tx nm pl ka kn kc).mono ?_
           rintro e w2 ⟨he, hk⟩
           unfold Stops at he
           subst he
           have HK2 := hide (HK.out.drew.trans' hk (fun _ _ => id) (fun _ _ => id) : Keeps NoB w w2)
           clear hk)
        | fail
      exact ⟨rfl, rfl, HK2.out⟩
end Go.Proofs.YtincajfanhanjaaDoor
