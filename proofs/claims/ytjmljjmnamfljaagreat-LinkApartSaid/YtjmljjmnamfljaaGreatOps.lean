/- (*link.Links).Of, Unlink, Watch, Unwatch. -/
import Derived.Test.YtjmljjmnamfljaaGreatTurn
import Derived.Test.YtjmljjmnamfljaaGreatIter
namespace Go.Proofs.YtjmljjmnamfljaaGreat
set_option maxRecDepth 100000
open Go.RowKit Go.Maps Go.Sort Go.Shelf

theorem keys_any (om : Option Nat) (w : World) : Calls Tryz.prog 14 #[.map om] w fun e w' => e = .returned (.func (.func 32) #[] #[.pointer (some ⟨w.heap.size, 0, none⟩)]) ∧ w' = w.alloc (.cells #[.map om] 49) :=
  callsIn_wide.1 (Tryz.maps_Keys_14 om w)
theorem keysM_any (om : Option Nat) (w : World) : Calls Tryz.prog 15 #[.map om] w fun e w' => e = .returned (.func (.func 33) #[] #[.pointer (some ⟨w.heap.size, 0, none⟩)]) ∧ w' = w.alloc (.cells #[.map om] 51) :=
  callsIn_wide.1 (Tryz.maps_Keys_15 om w)
def IntsPost (w : World) (l : List Int) (e : Ending) (w' : World) : Prop := ∃ A c, e = .returned (.slice A l.length c) ∧ Slab w' 3 1 A l.length c (l.map (Value.int .i64)) ∧ Keeps NoB w w' ∧ ∀ k, rowB A k → w.heap.size ≤ k
theorem sorted25 {X : Type} {code : X → DataW Unit} {key : X → Int} {R : Value → Option (DataW Unit × List MemPlace)} (m N : Nat) (D : DataW Unit) (l : List X) (w : World) (hown : w.ownsMap Tryz.prog 3 R m N D) (hD : LMap code key D l) (hu : Rise (l.map key)) (hN : N ≤ 1000000) :
    Calls Tryz.prog 13 #[.func (.func 32) #[] #[.pointer (some ⟨w.heap.size, 0, none⟩)]] (w.alloc (.cells #[.map (some m)] 49)) (IntsPost (w.alloc (.cells #[.map (some m)] 49)) (l.map key)) := by
  have hsz := hown.size_le
  refine (callsIn_wide.1 (Tryz.slices_Sorted_keys_13_14 m N D _ w hown (by unfold maxLen; omega) (by omega))).mono ?_
  rintro e w' ⟨v, ss, rfl, hp, hrow, _, hb⟩
  have hp2 := hp.trans (hD.keys hown keyI Tryz.underlying3 hu.nodup)
  have hl : ss.length = (l.map key).length := hp2.length_eq
  rw [sorted_rise hu hp2, hl] at hrow
  obtain ⟨A, c, rfl, hs⟩ := Slab.of_own hrow
  refine ⟨A, c, rfl, hs, Keeps.of_below hb NoB, ?_⟩
  rintro k ⟨o, rfl⟩
  exact (hrow.lt k rfl).1
theorem sorted26 {X : Type} {code : X → DataW Unit} {key : X → Int} {R : Value → Option (DataW Unit × List MemPlace)} (m N : Nat) (D : DataW Unit) (l : List X) (w : World) (hown : w.ownsMap Tryz.prog 3 R m N D) (hD : LMap code key D l) (hu : Rise (l.map key)) (hN : N ≤ 1000000) :
    Calls Tryz.prog 13 #[.func (.func 33) #[] #[.pointer (some ⟨w.heap.size, 0, none⟩)]] (w.alloc (.cells #[.map (some m)] 51)) (IntsPost (w.alloc (.cells #[.map (some m)] 51)) (l.map key)) := by
  have hsz := hown.size_le
  refine (callsIn_wide.1 (Tryz.slices_Sorted_keys_13_15 m N D _ w hown (by unfold maxLen; omega) (by omega))).mono ?_
  rintro e w' ⟨v, ss, rfl, hp, hrow, _, hb⟩
  have hp2 := hp.trans (hD.keys hown keyI Tryz.underlying3 hu.nodup)
  have hl : ss.length = (l.map key).length := hp2.length_eq
  rw [sorted_rise hu hp2, hl] at hrow
  obtain ⟨A, c, rfl, hs⟩ := Slab.of_own hrow
  refine ⟨A, c, rfl, hs, Keeps.of_below hb NoB, ?_⟩
  rintro k ⟨o, rfl⟩
  exact (hrow.lt k rfl).1
theorem sorted_nil (w : World) : Calls Tryz.prog 13 #[.func (.func 32) #[] #[.pointer (some ⟨w.heap.size, 0, none⟩)]] (w.alloc (.cells #[.map none] 49)) (IntsPost (w.alloc (.cells #[.map none] 49)) []) := by
  refine (callsIn_wide.1 (Tryz.slices_Sorted_keys_nil_13_14 w)).mono ?_
  rintro e w' ⟨v, ss, rfl, rfl, _, hn, hb⟩
  obtain rfl := hn.2 rfl
  exact ⟨none, 0, rfl, Slab.nil _ _ _, Keeps.of_below hb NoB, fun k ⟨o, e⟩ => by cases e⟩

section
variable {w : World} {B b m1 m2 N : Nat} {T : List (Int × Nat)} {L : LK} {M : List Mon} {a : Int}
/-- What a row's map tells, sorted. -/
theorem Raw.sorted (h : Raw w B b m1 m2 N T L M) (hg : Rise (L a)) {om : Option Nat} (hom : (om = none ∧ a ∉ T.map (·.1)) ∨ ∃ m, om = some m ∧ (a, m) ∈ T) (hN : N ≤ 1000000) :
    Calls Tryz.prog 13 #[.func (.func 32) #[] #[.pointer (some ⟨w.heap.size, 0, none⟩)]] (w.alloc (.cells #[.map om] 49)) (IntsPost (w.alloc (.cells #[.map om] 49)) (L a)) := by
  rcases hom with ⟨rfl, hn⟩ | ⟨m, rfl, hm⟩
  · rw [h.non a hn]; exact sorted_nil w
  · obtain ⟨D, o, s⟩ := h.inn _ hm
    have := sorted25 m N D (L a) w o s (by simpa using hg) hN
    simpa using this
end

set_option maxRecDepth 100000 in
theorem of_at (w : World) (B b m1 m2 N : Nat) (L : LK) (M : List Mon) (a : Int) (h : LinksAt w B b m1 m2 N L M) (ha : IntOk a) (hN : N ≤ 1000000) : Calls Tryz.prog 5 #[.pointer (some ⟨b, 0, none⟩), .int .i64 a] w (IntsPost w (L a)) := by
  obtain ⟨⟨T, hr⟩, hg⟩ := h
  obtain ⟨om, hl, hom⟩ := hr.look ha
  have c0 : w.cell? ⟨b, 0, none⟩ = some (.map (some m1)) := hr.blk.cell 0
  have HS := hide (hr.sorted (hg.rise a) hom hN)
  clear hr hg hom
  go_enter Tryz.func5, Tryz.ntmps5
  go_wp2_with
    first
    | (go_at_call 12; refine (made_at w b m1 c0).mono ?_; rintro e w' ⟨rfl, rfl⟩)
    | (go_at_call 14; refine (keys_any om w).mono ?_; rintro e w' ⟨rfl, rfl⟩)
    | (go_at_call 13
       refine HS.out.mono ?_
       rintro e w1 ⟨A, c, rfl, h1, h2, h3⟩)
    | fail
  go_ret
  exact ⟨A, c, rfl, h1, ((Keeps.refl NoB w).alloc (.cells #[.map om] 49)).trans' h2 (fun _ _ => id) (fun _ _ => id), fun k hk => by have := h3 k hk; simp at this; omega⟩

def UnlinkPost (w : World) (B b m1 m2 N : Nat) (L : LK) (M : List Mon) (e : Ending) (w' : World) : Prop := e = .returned (.bool true) ∧ LinksAt w' B b m1 m2 N L M ∧ Keeps (FP w B) w w'
set_option maxRecDepth 100000 in
theorem unlink_no (w : World) (B b m1 m2 N : Nat) (L : LK) (M : List Mon) (a c : Int) (h : LinksAt w B b m1 m2 N L M) (ha : IntOk a) (hc : IntOk c) (hno : c ∉ L a) : Calls Tryz.prog 24 #[.pointer (some ⟨b, 0, none⟩), .int .i64 a, .int .i64 c] w fun e w' => e = .returned (.bool false) ∧ w = w' := by
  obtain ⟨⟨T, hr⟩, hg⟩ := h
  obtain ⟨om, hl, hom⟩ := hr.look ha
  have hl2 := hr.look2 hc hom
  rw [if_neg hno] at hl2
  have c0 : w.cell? ⟨b, 0, none⟩ = some (.map (some m1)) := hr.blk.cell 0
  clear hr hg hom hno
  go_enter Tryz.func24, Tryz.ntmps24
  go_wp2_with (go_at_call 12; refine (made_at w b m1 c0).mono ?_; rintro e w' ⟨rfl, rfl⟩)
  go_ret
  exact ⟨rfl, rfl⟩
theorem Raw.in_map {w : World} {B b m1 m2 N : Nat} {T : List (Int × Nat)} {L : LK} {M : List Mon} (h : Raw w B b m1 m2 N T L M) {a c : Int} (hc : c ∈ L a) : ∃ m, (a, m) ∈ T := by
  by_cases hm : a ∈ T.map (·.1)
  · obtain ⟨⟨a', m⟩, hx, rfl⟩ := List.mem_map.1 hm
    exact ⟨m, hx⟩
  · rw [h.non a hm] at hc; cases hc
theorem Raw.look_at {w : World} {B b m1 m2 N m : Nat} {T : List (Int × Nat)} {L : LK} {M : List Mon} (h : Raw w B b m1 m2 N T L M) {a : Int} (ha : IntOk a) (hm : (a, m) ∈ T) : (Instr.lookup 50 (.map (some m1)) (.int .i64 a) false).run Tryz.prog w = .ok (.map (some m)) w := by
  obtain ⟨om, hl, ⟨_, hn⟩ | ⟨m', rfl, hm'⟩⟩ := h.look ha
  · exact absurd (List.mem_map_of_mem (f := (·.1)) hm) hn
  · have := key_ne h.keys hm hm' rfl
    injection this with _ e
    rw [hl, e]
set_option maxRecDepth 100000 in
theorem unlink_yes (w : World) (B b m1 m2 N : Nat) (L : LK) (M : List Mon) (a c : Int) (h : LinksAt w B b m1 m2 N L M) (ha : IntOk a) (hc : IntOk c) (hin : c ∈ L a) : Calls Tryz.prog 24 #[.pointer (some ⟨b, 0, none⟩), .int .i64 a, .int .i64 c] w (UnlinkPost w B b m1 m2 N (unlinkL a c L) M) := by
  obtain ⟨⟨T, hr⟩, hg⟩ := h
  have hac : a ≠ c := fun e => hg.irr a (e ▸ hin)
  obtain ⟨ma, hma⟩ := hr.in_map hin
  obtain ⟨mc, hmc⟩ := hr.in_map (hg.sym _ _ hin)
  have hl := hr.look_at ha hma
  have hl2 := hr.look2 (a := a) (om := some ma) hc (.inr ⟨ma, rfl, hma⟩)
  rw [if_pos hin] at hl2
  obtain ⟨w1, hd1, hr1, ht1⟩ := hr.dropIn hma hc
  have hl3 := hr1.look_at hc hmc
  obtain ⟨w2, hd2, hr2, ht2⟩ := hr1.dropIn (a := c) (c := a) hmc ha
  have c0 : w.cell? ⟨b, 0, none⟩ = some (.map (some m1)) := hr.blk.cell 0
  have c1 : w1.cell? ⟨b, 0, none⟩ = some (.map (some m1)) := hr1.blk.cell 0
  have HP := hide (show UnlinkPost w B b m1 m2 N (unlinkL a c L) M (.returned (.bool true)) w2 from ⟨rfl, ⟨⟨T, unlinkL_two hac ▸ hr2⟩, hg.unlink hac⟩, FP.trans (hr.fp_in hma ht1) (hr1.fp_in hmc ht2)⟩)
  clear hr hg hma hmc hr1 hr2 ht1 ht2 hin
  go_enter Tryz.func24, Tryz.ntmps24
  go_wp2_with (go_at_call 12; refine (made_at w b m1 c0).mono ?_; rintro e w' ⟨rfl, rfl⟩)
  go_ret
  exact HP.out

set_option maxRecDepth 100000 in
theorem watch_no (w : World) (B b m1 m2 N : Nat) (L : LK) (M : List Mon) (x : Mon) (h : LinksAt w B b m1 m2 N L M) (hx : MonOk x) (hin : x.ref ∈ refs M) :
    Calls Tryz.prog 19 #[.pointer (some ⟨b, 0, none⟩), .int .i64 x.ref, .int .i64 x.who, .int .i64 x.whom] w fun e w' => e = .returned (.bool false) ∧ Keeps NoB w w' := by
  obtain ⟨⟨T, hr⟩, hg⟩ := h
  obtain ⟨v, hl, hv⟩ := hr.lookM hx.1
  rw [decide_eq_true hin] at hl
  obtain ⟨y, rfl⟩ : ∃ y, v = monV y := hv.elim (fun ⟨y, _, _, e⟩ => ⟨y, e⟩) (fun ⟨_, e⟩ => ⟨_, e⟩)
  unfold monV at hl
  have c0 : w.cell? ⟨b, 0, none⟩ = some (.map (some m1)) := hr.blk.cell 0
  have c1 : w.cell? ⟨b, 1, none⟩ = some (.map (some m2)) := hr.blk.cell 1
  obtain ⟨r, wh, wm⟩ := x
  clear hr hg hv hin hx
  go_enter Tryz.func19, Tryz.ntmps19
  go_wp2_with (go_at_call 12; refine (made_at w b m1 c0).mono ?_; rintro e w' ⟨rfl, rfl⟩)
  go_ret
  exact ⟨rfl, (Keeps.refl NoB w).alloc _⟩

def WatchPost (w : World) (B b m1 m2 N : Nat) (L : LK) (M : List Mon) (e : Ending) (w' : World) : Prop := e = .returned (.bool true) ∧ LinksAt w' B b m1 m2 N L M ∧ Keeps (FP w B) w w'
set_option maxRecDepth 100000 in
theorem watch_yes (w : World) (B b m1 m2 N : Nat) (L : LK) (M : List Mon) (x : Mon) (h : LinksAt w B b m1 m2 N L M) (hx : MonOk x) (hno : x.ref ∉ refs M) (hN : N < maxLen) :
    Calls Tryz.prog 19 #[.pointer (some ⟨b, 0, none⟩), .int .i64 x.ref, .int .i64 x.who, .int .i64 x.whom] w (WatchPost w B b m1 m2 (N + 1) L (insM x M)) := by
  obtain ⟨⟨T, hr⟩, hg⟩ := h
  obtain ⟨v, hl, hv⟩ := hr.lookM hx.1
  rw [decide_eq_false hno] at hl
  obtain rfl : v = monV ⟨0, 0, 0⟩ := hv.elim (fun ⟨y, hy, e, _⟩ => absurd (e ▸ mem_refs hy) hno) (fun ⟨_, e⟩ => e)
  have hk : Keeps NoB w (w.alloc (.cells #[.int .i64 0, .int .i64 0, .int .i64 0] 33)) := (Keeps.refl NoB w).alloc _
  have hr1 := hr.fresh hk
  obtain ⟨w', hu, hr2, ht⟩ := hr1.putM hx hno hN
  have c0 : w.cell? ⟨b, 0, none⟩ = some (.map (some m1)) := hr.blk.cell 0
  have c1 : w.cell? ⟨b, 1, none⟩ = some (.map (some m2)) := hr.blk.cell 1
  have c2 : (w.alloc (.cells #[.int .i64 0, .int .i64 0, .int .i64 0] 33)).cell? ⟨b, 1, none⟩ = some (.map (some m2)) := hr1.blk.cell 1
  have HP := hide (show WatchPost w B b m1 m2 (N + 1) L (insM x M) (.returned (.bool true)) w' from ⟨rfl, ⟨⟨T, hr2⟩, hg⟩, FP.trans (FP.of w B hk) (hr1.fp_mon ht)⟩)
  obtain ⟨r, wh, wm⟩ := x
  simp only [monV] at hl hu
  clear hr hg hv hno hx hr1 hr2 ht hk
  go_enter Tryz.func19, Tryz.ntmps19
  go_wp2_with (go_at_call 12; refine (made_at w b m1 c0).mono ?_; rintro e w' ⟨rfl, rfl⟩)
  go_ret
  exact HP.out

set_option maxRecDepth 100000 in
theorem unwatch_no (w : World) (B b m1 m2 N : Nat) (L : LK) (M : List Mon) (r p : Int) (h : LinksAt w B b m1 m2 N L M) (hr' : IntOk r) (hno : ∀ x ∈ M, x.ref = r → x.who ≠ p) :
    Calls Tryz.prog 26 #[.pointer (some ⟨b, 0, none⟩), .int .i64 r, .int .i64 p] w fun e w' => e = .returned (.bool false) ∧ Keeps NoB w w' := by
  obtain ⟨⟨T, hr⟩, hg⟩ := h
  obtain ⟨v, hl, hv⟩ := hr.lookM hr'
  have c0 : w.cell? ⟨b, 0, none⟩ = some (.map (some m1)) := hr.blk.cell 0
  have c1 : w.cell? ⟨b, 1, none⟩ = some (.map (some m2)) := hr.blk.cell 1
  rcases hv with ⟨⟨r0, wh, wm⟩, hx, rfl, rfl⟩ | ⟨hn, rfl⟩
  · have hne := hno _ hx rfl
    simp only at hne
    rw [decide_eq_true (mem_refs hx)] at hl
    simp only [monV] at hl ⊢
    clear hr hg hno hx
    go_enter Tryz.func26, Tryz.ntmps26
    go_wp2_with (go_at_call 12; refine (made_at w b m1 c0).mono ?_; rintro e w' ⟨rfl, rfl⟩)
    go_ret
    exact ⟨rfl, (Keeps.refl NoB w).alloc _⟩
  · rw [decide_eq_false hn] at hl
    simp only [monV] at hl
    clear hr hg hno hn
    go_enter Tryz.func26, Tryz.ntmps26
    go_wp2_with (go_at_call 12; refine (made_at w b m1 c0).mono ?_; rintro e w' ⟨rfl, rfl⟩)
    go_ret
    exact ⟨rfl, (Keeps.refl NoB w).alloc _⟩
set_option maxRecDepth 100000 in
theorem unwatch_yes (w : World) (B b m1 m2 N : Nat) (L : LK) (M : List Mon) (x : Mon) (h : LinksAt w B b m1 m2 N L M) (hx : x ∈ M) :
    Calls Tryz.prog 26 #[.pointer (some ⟨b, 0, none⟩), .int .i64 x.ref, .int .i64 x.who] w (WatchPost w B b m1 m2 N L (dropRef x.ref M)) := by
  obtain ⟨⟨T, hr⟩, hg⟩ := h
  have hok := (hr.ok x hx).1
  obtain ⟨v, hl, hv⟩ := hr.lookM hok
  rw [decide_eq_true (mem_refs hx)] at hl
  obtain rfl : v = monV x := hv.elim (fun ⟨y, hy, e, ev⟩ => by rw [ev, hr.up.one hy hx e]) (fun ⟨e, _⟩ => absurd (mem_refs hx) e)
  have hk : Keeps NoB w (w.alloc (.cells #[.int .i64 x.ref, .int .i64 x.who, .int .i64 x.whom] 33)) := (Keeps.refl NoB w).alloc _
  have hr1 := hr.fresh hk
  obtain ⟨w', hu, hr2, ht⟩ := hr1.dropM hok
  have c0 : w.cell? ⟨b, 0, none⟩ = some (.map (some m1)) := hr.blk.cell 0
  have c1 : w.cell? ⟨b, 1, none⟩ = some (.map (some m2)) := hr.blk.cell 1
  have c2 : (w.alloc (.cells #[.int .i64 x.ref, .int .i64 x.who, .int .i64 x.whom] 33)).cell? ⟨b, 1, none⟩ = some (.map (some m2)) := hr1.blk.cell 1
  have HP := hide (show WatchPost w B b m1 m2 N L (dropRef x.ref M) (.returned (.bool true)) w' from ⟨rfl, ⟨⟨T, hr2⟩, hg⟩, FP.trans (FP.of w B hk) (hr1.fp_mon ht)⟩)
  obtain ⟨r, wh, wm⟩ := x
  simp only [monV] at hl hu c2 HP ⊢
  clear hr hg hv hx hr1 hr2 ht hk hok
  go_enter Tryz.func26, Tryz.ntmps26
  go_wp2_with (go_at_call 12; refine (made_at w b m1 c0).mono ?_; rintro e w' ⟨rfl, rfl⟩)
  go_ret
  exact HP.out
end Go.Proofs.YtjmljjmnamfljaaGreat
