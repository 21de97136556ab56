/- lint.Check of any tree. -/
import Derived.Test.YtincajfanhanjaaDoorChPhase
namespace Go.Proofs.YtincajfanhanjaaDoor
open Go.RowKit Go.Maps

def FaultP (f : Flt) (w : World) (e : Ending) (w' : World) : Prop := e = .returned (.agg #[.int .i64 f.1, .int .i64 f.2]) ∧ Keeps NoB w w'
theorem two_blks (w : World) (t0 t1 : TypeId) (c0 c1 : Array Value) : Blk ((w.alloc (.cells c0 t0)).alloc (.cells c1 t1)) w.heap.size t0 c0 ∧ Blk ((w.alloc (.cells c0 t0)).alloc (.cells c1 t1)) (w.heap.size + 1) t1 c1 := by
  have e1 : (w.alloc (.cells c0 t0)).heap.size = w.heap.size + 1 := by simp
  have b1 := Blk.new (w.alloc (.cells c0 t0)) t1 c1
  rw [e1] at b1
  exact ⟨(Blk.new w t0 c0).alloc _, b1⟩
set_option maxRecDepth 100000 in
theorem check_kind (w : World) (kd : Int) (tx : ByteArray) (nm pl : Int) (ka : Option Addr) (kn kc : Nat) (hk : kd ≠ 22) : Calls Tryd.prog 11 #[.agg #[.int .u8 kd, .string tx, .int .i64 nm, .int .i64 pl, .slice ka kn kc]] w (FaultP (4, 0) w) := by
  have hkb : (kd != 22) = true := by simpa using hk
  have HK3 := hide (((Keeps.refl NoB w).alloc (.cells #[.int .u8 kd, .string tx, .int .i64 nm, .int .i64 pl, .slice ka kn kc] 29)).alloc (.cells #[.int .i64 4, .int .i64 0] 33))
  have HB3 := hide (two_blks w 29 33 #[.int .u8 kd, .string tx, .int .i64 nm, .int .i64 pl, .slice ka kn kc] #[.int .i64 4, .int .i64 0]).2
  clear hk
  go_enter_defers Tryd.func11, Tryd.ntmps11
  go_wp2
  refine ⟨_, results_11 _ (w.heap.size + 1) 4 0 _ rfl HB3.out, rfl, HK3.out⟩
set_option maxRecDepth 100000 in
theorem check_shape (t : Nd) (w : World) (B : Nat → Prop) (F : Bool) (kd : Int) (tx : ByteArray) (nm pl : Int) (ka : Option Addr) (kn kc : Nat) (hL : LaidN w) (ho : okN t) (hm : manyN t ≤ 4611686018427387904) (ht : NodeIn w B F [.int .u8 kd, .string tx, .int .i64 nm, .int .i64 pl, .slice ka kn kc] t) (hk : kd = 22) (hr : rightN t = false) : Calls Tryd.prog 11 #[.agg #[.int .u8 kd, .string tx, .int .i64 nm, .int .i64 pl, .slice ka kn kc]] w (FaultP (4, 0) w) := by
  subst hk
  have hk0 : Keeps NoB w ((w.alloc (.cells #[.int .u8 22, .string tx, .int .i64 nm, .int .i64 pl, .slice ka kn kc] 29)).alloc (.cells #[.int .i64 0, .int .i64 0] 33)) := ((Keeps.refl NoB w).alloc _).alloc _
  have HI := hide (right_any t ho hm _ B F 22 tx nm pl ka kn kc (hL.keep hk0) ho (NodeIn.keep hk0 (fun _ _ => id) _ _ ht))
  rw [hr] at HI
  have HK := hide hk0
  obtain ⟨_, b1⟩ := two_blks w 29 33 #[.int .u8 22, .string tx, .int .i64 nm, .int .i64 pl, .slice ka kn kc] #[.int .i64 0, .int .i64 0]
  have HB := hide b1
  clear b1 hk0 hL ho hm ht hr
  go_enter_defers Tryd.func11, Tryd.ntmps11
  go_wp2_with
    first
    | (go_at_call 21
       refine HI.out.mono ?_
       rintro e w2 ⟨rfl, hk⟩
       have HK2 := hide (HK.out.trans' hk (fun _ _ => id) (fun _ _ => id) : Keeps NoB w w2)
       have b1 := HB.out.keep hk id
       have HB2 := hide b1
       have z0 := b1.free 0; have z1 := b1.free 1
       have c0 := b1.cell 0; have c1 := b1.cell 1
       clear hk b1 HI)
    | fail
  have HK3 := hide ((HK2.out.setCell (p := ⟨w.heap.size + 1, 0, none⟩) (.inr (by show w.heap.size ≤ w.heap.size + 1; omega)) (.int .i64 4)).setCell (p := ⟨w.heap.size + 1, 1, none⟩) (.inr (by show w.heap.size ≤ w.heap.size + 1; omega)) (.int .i64 0))
  have HB3 := hide ((Blk.put HB2.out 0 (.int .i64 4)).put 1 (.int .i64 0))
  refine ⟨_, results_11 _ (w.heap.size + 1) 4 0 _ rfl HB3.out, rfl, HK3.out⟩
/-- The first of Check's loops: the functions that were declared. -/
structure Decl (w : World) (cb mf q r : Nat) (M : Array Value) (wx : World) (n : Nat) (R : ByteArray → Option Nat) (F : Fns) : Prop where
  funs : FunsAt wx cb mf wx.heap.size n R F
  blk : ∃ mg, Blk wx cb 54 #[.map (some mf), .map (some mg)]
  keep : Keeps NoB w wx
  out : Blk wx r 33 #[.int .i64 0, .int .i64 0]
  box : Blk wx q 29 M
  up : ∀ s b, R s = some b → mf < b
  lies : w.heap.size ≤ mf ∧ q < mf ∧ r < mf ∧ mf < cb
section
variable {w : World} {cb mf q r : Nat} {M : Array Value} {wx wy : World} {n : Nat} {R : ByteArray → Option Nat} {F : Fns}
theorem Decl.go (h : Decl w cb mf q r M wx n R F) (hk : Keeps NoB wx wy) : Decl w cb mf q r M wy n R F := by
  obtain ⟨mg, hb⟩ := h.blk
  exact ⟨(h.funs.keep hk (fun _ h => h.elim)).wide hk.size (Nat.le_refl _), ⟨mg, hb.keep hk id⟩, h.keep.trans' hk (fun _ _ => id) (fun _ _ => id), h.out.keep hk id, h.box.keep hk id, h.up, h.lies⟩
theorem Decl.wide (h : Decl w cb mf q r M wx n R F) {n' : Nat} (hn : n ≤ n') : Decl w cb mf q r M wx n' R F := ⟨h.funs.wide (Nat.le_refl _) hn, h.blk, h.keep, h.out, h.box, h.up, h.lies⟩
theorem Decl.cell (h : Decl w cb mf q r M wx n R F) : wx.cell? ⟨cb, 0, none⟩ = some (.map (some mf)) := by
  obtain ⟨mg, hb⟩ := h.blk
  exact hb.cell 0
set_option maxRecDepth 100000 in
theorem Decl.new (h : Decl w cb mf q r M wx n R F) {s : ByteArray} (hs : s.size ≤ maxLen) (hn : n < maxLen) (hR : R s = none) :
    ∃ w2, (Instr.mapUpdate 50 (.map (some mf)) (.string s) (.map (some wx.heap.size))).run Tryd.prog (wx.alloc (.map #[] 0)) = .ok () w2 ∧ Decl w cb mf q r M w2 (n + 1) (putR R s wx.heap.size) F ∧ Keeps (fun k => k = mf) (wx.alloc (.map #[] 0)) w2 := by
  obtain ⟨mg, hb⟩ := h.blk
  obtain ⟨w2, hr, hf, hg⟩ := h.funs.new hs hn hR hb.lt
  have hk : Keeps (fun k => k = mf) (wx.alloc (.map #[] 0)) w2 := (Keeps.refl _ _).grown hg (fun k e _ => by injection e with e; exact e.symm)
  have hka : Keeps (fun k => k = mf) wx w2 := ((Keeps.refl (fun k => k = mf) wx).alloc _).trans' hk (fun _ _ => id) (fun _ _ => id)
  have hl := h.lies
  refine ⟨w2, hr, ⟨hf, ⟨mg, hb.keep hka (fun e => by omega)⟩, h.keep.trans' hka (fun _ _ => id) (fun i hi e => by omega), h.out.keep hka (fun e => by omega), h.box.keep hka (fun e => by omega), fun t b hb => ?_, hl⟩, hk⟩
  unfold putR at hb
  split at hb
  · injection hb with hb; have := h.funs.at'.1; omega
  · exact h.up t b hb
set_option maxRecDepth 100000 in
theorem Decl.put (h : Decl w cb mf q r M wx n R F) {s : ByteArray} {p : Int} {b : Nat} (hp : (Lit.int .i64 p).wf = true) (hn : n < maxLen) (hR : R s = some b) :
    ∃ w2, (Instr.mapUpdate 55 (.map (some b)) (.int .i64 p) (.bool true)).run Tryd.prog wx = .ok () w2 ∧ Decl w cb mf q r M w2 (n + 1) R (addF F s p) ∧ Keeps (fun k => k = b) wx w2 := by
  obtain ⟨mg, hb⟩ := h.blk
  obtain ⟨w2, hr, hf, hg⟩ := h.funs.put hp hn hR
  have hk : Keeps (fun k => k = b) wx w2 := (Keeps.refl _ _).grown hg (fun k e _ => by injection e with e; exact e.symm)
  have hl := h.lies
  have hu := h.up s b hR
  have hbc := (h.funs.inner s b hR).2.1
  exact ⟨w2, hr, ⟨hf, ⟨mg, hb.keep hk (fun e => hbc e.symm)⟩, h.keep.trans' hk (fun _ _ => id) (fun i hi e => by omega), h.out.keep hk (fun e => by omega), h.box.keep hk (fun e => by omega), h.up, hl⟩, hk⟩
end
/-- The second of Check's loops. -/
structure Chk (w : World) (hz cb mf q r : Nat) (M : Array Value) (R : ByteArray → Option Nat) (F : Fns) (wx : World) : Prop where
  funs : ∃ n, FunsAt wx cb mf hz n R F
  blk : ∃ mg, Blk wx cb 54 #[.map (some mf), .map (some mg)]
  keep : Keeps NoB w wx
  out : Blk wx r 33 #[.int .i64 0, .int .i64 0]
  box : Blk wx q 29 M
  big : hz ≤ wx.heap.size
theorem Chk.go {w : World} {hz cb mf q r : Nat} {M : Array Value} {R : ByteArray → Option Nat} {F : Fns} {wx wy : World} (h : Chk w hz cb mf q r M R F wx) (hk : Keeps NoB wx wy) : Chk w hz cb mf q r M R F wy := by
  obtain ⟨mg, hb⟩ := h.blk
  obtain ⟨n, hf⟩ := h.funs
  exact ⟨⟨n, hf.keep hk (fun _ h => h.elim)⟩, ⟨mg, hb.keep hk id⟩, h.keep.trans' hk (fun _ _ => id) (fun _ _ => id), h.out.keep hk id, h.box.keep hk id, Nat.le_trans h.big hk.size⟩
theorem topE_eq {F : Fns} {t p g d : Nd} (kids : t.kids = [p, g, d]) : topE F t () = match patsN p.kids (fun _ => false) with
    | .error f => .error f
    | .ok own => (restR F g d own (fun _ => false)).map (fun _ => ()) := by
  unfold topE; rw [kids]; rfl
set_option maxRecDepth 100000 in
set_option maxHeartbeats 16000000 in
theorem check_right (t : Nd) (w : World) (B : Nat → Prop) (F : Bool) (tx : ByteArray) (nm pl : Int) (ka : Option Addr) (kn kc : Nat) (hL : LaidN w) (ho : okN t) (hm : manyN t ≤ 4611686018427387904) (ht : NodeIn w B F [.int .u8 22, .string tx, .int .i64 nm, .int .i64 pl, .slice ka kn kc] t) (hrt : rightN t = true) : Calls Tryd.prog 11 #[.agg #[.int .u8 22, .string tx, .int .i64 nm, .int .i64 pl, .slice ka kn kc]] w (FaultP (checkN t) w) := by
  have hkind := (nd_text ht).1
  obtain ⟨hfo, hfew⟩ := module_ok hkind hrt ho
  have ht' : NodeIn w (fun k => k < w.heap.size) false [.int .u8 22, .string tx, .int .i64 nm, .int .i64 pl, .slice ka kn kc] t := NodeIn.more (fun k hk _ => hk) _ _ (NodeIn.weak _ _ ht)
  obtain ⟨kids, css, rfl, hroom, hr, hc, hkl⟩ := ht'.kidsIn
  have hnm : kn ≤ 9223372036854775807 := by have := hroom.1.len (by omega); unfold maxLen at this; exact this
  have hbig : kn ≤ 140737488355328 := by have := hroom.1; unfold Roomy at this; omega
  have HRES : Hid (checkN (.mk 22 tx nm pl kids) = match (match foldE declE kids (fun _ _ => false) with
    | .error f => (.error f : Except Flt Unit)
    | .ok F => foldE (fnsE F) kids ()) with
    | .error f => f
    | .ok _ => (0, 0)) := hide (by
      unfold checkN checkE
      rw [if_neg (by rw [hrt]; simp [Nd.kind])]
      rfl)
  have hk0 : Keeps NoB w ((w.alloc (.cells #[.int .u8 22, .string tx, .int .i64 nm, .int .i64 pl, .slice ka kn kc] 29)).alloc (.cells #[.int .i64 0, .int .i64 0] 33)) := ((Keeps.refl NoB w).alloc _).alloc _
  have HI := hide (right_any _ ho hm _ B F 22 tx nm pl ka kn kc (hL.keep hk0) ho (NodeIn.keep hk0 (fun _ _ => id) _ _ ht))
  rw [hrt] at HI
  have HK := hide hk0
  obtain ⟨b0, b1⟩ := two_blks w 29 33 #[.int .u8 22, .string tx, .int .i64 nm, .int .i64 pl, .slice ka kn kc] #[.int .i64 0, .int .i64 0]
  have HB0 := hide b0; have HB1 := hide b1
  have HRD := hide hr; have HC := hide hc; have HKL := hide hkl; have HFO := hide hfo; have HFEW := hide hfew; have HLD := hide hL
  have HBIG := hide hbig
  have HQR := hide (show w.heap.size + 1 ≥ w.heap.size from Nat.le_succ _)
  have hmf : ∀ (fn : Fn) (first cap : Array Value) (w : World), (Instr.makeFunc fn first cap).run Tryd.prog w = .ok (.func fn first cap) w := fun _ _ _ _ => rfl
  have hmm := @run_makeMap Tryd.prog
  have h3 : 3 ≤ w.heap.size := by obtain ⟨m, h⟩ := hL.kind.2; exact nd_blk_lt h
  have H3 := hide h3
  clear hkind hfo hfew ht ht' hr hc hkl hroom hL ho hm hrt hk0 b0 b1 hbig h3
  go_enter_defers Tryd.func11, Tryd.ntmps11
  go_wp2_with
    first
    | (go_at_call 21
       refine HI.out.mono ?_
       rintro e w2 ⟨rfl, hk⟩
       have HKW := hide hk
       have q4 : ((((w2.alloc (.map #[] 0)).alloc (.map #[] 0)).alloc (.cells #[.map (some w2.heap.size), .map (some (w2.heap.size + 1))] 54))).cell? ⟨w.heap.size, 4, none⟩ = some (.slice ka kn kc) := ((((Keeps.refl NoB w2).alloc _).alloc _).alloc _).cell id (hk.cell id (HB0.out.cell 4))
       clear hk HI)
    | fail
  have hk3 : Keeps NoB w2 (((w2.alloc (.map #[] 0)).alloc (.map #[] 0)).alloc (.cells #[.map (some w2.heap.size), .map (some (w2.heap.size + 1))] 54)) := (((Keeps.refl NoB w2).alloc _).alloc _).alloc _
  have HMW := hide (HKW.out.size)
  have hw2 : w.heap.size + 2 ≤ w2.heap.size := by have := HKW.out.size; simpa using this
  have HW2 := hide hw2
  have hcbk : Blk (((w2.alloc (.map #[] 0)).alloc (.map #[] 0)).alloc (.cells #[.map (some w2.heap.size), .map (some (w2.heap.size + 1))] 54)) (w2.heap.size + 1 + 1) 54 #[.map (some w2.heap.size), .map (some (w2.heap.size + 1))] := by
    have h := Blk.new ((w2.alloc (.map #[] 0)).alloc (.map #[] 0)) 54 #[.map (some w2.heap.size), .map (some (w2.heap.size + 1))]
    have e : ((w2.alloc (.map #[] 0)).alloc (.map #[] 0)).heap.size = w2.heap.size + 1 + 1 := by simp
    rw [e] at h; exact h
  have hfu : FunsAt (((w2.alloc (.map #[] 0)).alloc (.map #[] 0)).alloc (.cells #[.map (some w2.heap.size), .map (some (w2.heap.size + 1))] 54)) (w2.heap.size + 1 + 1) w2.heap.size ((((w2.alloc (.map #[] 0)).alloc (.map #[] 0)).alloc (.cells #[.map (some w2.heap.size), .map (some (w2.heap.size + 1))] 54))).heap.size (0 + 0) (fun _ => none) (fun _ _ => false) := ((FunsAt.made w2 (w2.heap.size + 1 + 1) (by omega)).keep (((Keeps.refl NoB _).alloc (.map #[] 0)).alloc (.cells #[.map (some w2.heap.size), .map (some (w2.heap.size + 1))] 54)) (fun _ h => h.elim)).wide (by simp) (Nat.le_refl _)
  have HD0 : Hid (Decl w (w2.heap.size + 1 + 1) w2.heap.size w.heap.size (w.heap.size + 1) #[.int .u8 22, .string tx, .int .i64 nm, .int .i64 pl, .slice ka kn kc] (((w2.alloc (.map #[] 0)).alloc (.map #[] 0)).alloc (.cells #[.map (some w2.heap.size), .map (some (w2.heap.size + 1))] 54)) (0 + 0) (fun _ => none) (fun _ _ => false)) := hide ⟨hfu, ⟨_, hcbk⟩, HK.out.trans' (HKW.out.trans' hk3 (fun _ _ => id) (fun _ _ => id) : Keeps NoB ((w.alloc (.cells #[.int .u8 22, .string tx, .int .i64 nm, .int .i64 pl, .slice ka kn kc] 29)).alloc (.cells #[.int .i64 0, .int .i64 0] 33)) (((w2.alloc (.map #[] 0)).alloc (.map #[] 0)).alloc (.cells #[.map (some w2.heap.size), .map (some (w2.heap.size + 1))] 54))) (fun _ _ => id) (fun _ _ => id), (HB1.out.keep HKW.out id).keep hk3 id, (HB0.out.keep HKW.out id).keep hk3 id, fun _ _ h => (by cases h), by have := HKW.out.size; omega⟩
  clear hk3 hcbk hfu hw2
  go_loopg [27] kn (fun g s27 wx => ∃ (k : Nat) (R : ByteArray → Option Nat) (F' : Fns), k ≤ kn ∧ g = kn - k ∧ s27 = .int .i64 k ∧ foldE declE (List.take k kids) (fun _ _ => false) = .ok F' ∧ Decl w (w2.heap.size + 1 + 1) w2.heap.size w.heap.size (w.heap.size + 1) #[.int .u8 22, .string tx, .int .i64 nm, .int .i64 pl, .slice ka kn kc] wx (k + k) R F')
  case atStart => exact ⟨0, _, _, Nat.zero_le _, rfl, rfl, by simp [foldE], HD0.out⟩
  case round =>
    obtain ⟨k, R, F1, hk, rfl, rfl, hf, hd⟩ := hrel
    have HF := hide hf; have HD := hide hd
    clear hf
    by_cases hlt : k < kn
    · obtain ⟨b1, o1, kd1, tx1, nm1, pl1, ka1, kn1, kc1, t1, hA, _, hb1, h1, hsz, hu, f0, f1, f2, f3, f4⟩ := node_at HRD.out HC.out k hlt
      subst hA
      replace f0 := hd.keep.cell id f0; replace f1 := hd.keep.cell id f1; replace f2 := hd.keep.cell id f2; replace f3 := hd.keep.cell id f3; replace f4 := hd.keep.cell id f4
      have hfok := HFO.out t1 (List.mem_of_getElem? h1)
      obtain ⟨hkt, htt, hnt, hpt, _⟩ := nd_text hu
      have hts : tx1.size ≤ 40 := by rw [← htt]; exact hfok.text
      have hnw : (Lit.int .i64 nm1).wf = true := by rw [← hnt]; exact wf_i64 hfok.num.1 hfok.num.2
      obtain ⟨kids1, css1, e1, hro1, hr1, hc1, hl1⟩ := hu.kidsIn
      have hek : t1.kids = kids1 := by rw [e1]; rfl
      have hk1 : (k : Int) < (kn : Int) := by omega
      have hk0 : (0 : Int) ≤ (k : Int) := by omega
      have hka : Keeps NoB wr (wr.alloc (.cells #[.int .u8 kd1, .string tx1, .int .i64 nm1, .int .i64 pl1, .slice ka1 kn1 kc1] 29)) := (Keeps.refl NoB wr).alloc _
      have hda := hd.go hka
      have HDA := hide hda
      have HBN := hide (Blk.new wr 29 #[.int .u8 kd1, .string tx1, .int .i64 nm1, .int .i64 pl1, .slice ka1 kn1 kc1])
      have H1 := hide h1
      have HTZ := hide hts
      have HTS := hide (show tx1.size ≤ maxLen by unfold maxLen; omega)
      have HNW := hide hnw
      have hkb : k + k + 1 < maxLen ∧ k + k < maxLen := by have := HBIG.out; unfold maxLen; omega
      have HKB := hide hkb
      have HDE : Hid (declE t1 F1 = if F1 tx1 nm1 = true ∨ kindN tx1.data.toList nm1 ≠ 0 then .error (210, pl1) else match arityN kids1 nm1 with
        | .error f => .error f
        | .ok _ => .ok (addF F1 tx1 nm1)) := hide (by unfold declE; rw [htt, hnt, hpt, hek]; rfl)
      have HAR := hide (fun W (h : Keeps NoB w W) => arities_any W (fun k => k < w.heap.size) false kids1 css1 ka1 kn1 kc1 nm1 (hr1.keep h (fun _ _ => id)) (NodesIn.keep h (fun _ _ => id) _ _ hc1) hl1 hro1.1 (fun x hx => by obtain ⟨p, g, d, hcl⟩ := hfok.clauses x (by rw [hek]; exact hx); rw [hcl.kids]; simp))
      clear hd hfok hkt htt hnt hpt hts hnw e1 hro1 hr1 hc1 hl1 hek hka hda h1 hu hsz hkb
      have hmw : w2.heap.size < wr.heap.size ∧ w2.heap.size + 1 + 1 < wr.heap.size := by obtain ⟨mg, hb⟩ := HD.out.blk; have := hb.lt; omega
      have HMW2 := hide hmw
      clear hmw
      have hq0 := map_eql55_none
      have hq1 := map_eql55_some
      go_wp2_with fail
      refine order_begin (fun W => Keeps NoB (wr.alloc (.cells #[.int .u8 kd1, .string tx1, .int .i64 nm1, .int .i64 pl1, .slice ka1 kn1 kc1] 29)) W) (fun _ => true) (by kernel_rfl) 8 rfl ?_
      have HS : Keeps NoB (wr.alloc (.cells #[.int .u8 kd1, .string tx1, .int .i64 nm1, .int .i64 pl1, .slice ka1 kn1 kc1] 29)) ((wr.alloc (.cells #[.int .u8 kd1, .string tx1, .int .i64 nm1, .int .i64 pl1, .slice ka1 kn1 kc1] 29))).drew := (Keeps.refl NoB _).drew
      refine order_pure (i := 0) rfl (by kernel_rfl) (fun _ _ _ h => put_out (by decide) h) (.inl ⟨rfl, fun _ => by go_simp; rfl⟩) ?_
      try simp only [Act.put, List.setIfInBounds_toArray, List.set_cons_succ, List.set_cons_zero]
      refine order_pure (i := 1) rfl (by kernel_rfl) (fun _ _ _ h => put_out (by decide) h) (.inl ⟨rfl, fun _ => by go_simp; rfl⟩) ?_
      try simp only [Act.put, List.setIfInBounds_toArray, List.set_cons_succ, List.set_cons_zero]
      refine order_pure (i := 2) rfl (by kernel_rfl) (fun _ _ _ h => put_out (by decide) h) (.inl ⟨rfl, fun _ => by go_simp; rfl⟩) ?_
      try simp only [Act.put, List.setIfInBounds_toArray, List.set_cons_succ, List.set_cons_zero]
      refine order_held (i := 3) rfl (by kernel_rfl) (fun _ _ _ h => put_out (by decide) h) (.inl ⟨rfl, fun W hW => by
        have q0 : W.cell? ⟨w2.heap.size + 1 + 1, 0, none⟩ = some (.map (some w2.heap.size)) := (HDA.out.go hW).cell
        go_simp; rfl⟩) HS ?_
      try simp only [Act.put, List.setIfInBounds_toArray, List.set_cons_succ, List.set_cons_zero]
      refine order_pure (i := 4) rfl (by kernel_rfl) (fun _ _ _ h => put_out (by decide) h) (.inl ⟨rfl, fun _ => by go_simp; rfl⟩) ?_
      try simp only [Act.put, List.setIfInBounds_toArray, List.set_cons_succ, List.set_cons_zero]
      refine order_held (i := 5) rfl (by kernel_rfl) (fun _ _ _ h => put_out (by decide) h) (.inl ⟨rfl, fun W hW => by
        have q0 : W.cell? ⟨wr.heap.size, 1, none⟩ = some (.string tx1) := hW.cell id (HBN.out.cell 1)
        go_simp; rfl⟩) HS ?_
      try simp only [Act.put, List.setIfInBounds_toArray, List.set_cons_succ, List.set_cons_zero]
      cases hR : R tx1 with
      | none =>
        have HR := hide hR
        clear hR
        refine order_held (i := 6) rfl (by kernel_rfl) (fun _ _ _ h => put_out (by decide) h) (.inl ⟨rfl, fun W hW => by
          have q0 : (Instr.lookup 50 (.map (some w2.heap.size)) (.string tx1) false).run Tryd.prog W = .ok (.map none) W := by have h := (HDA.out.go hW).funs.look HTS.out; rw [HR.out] at h; exact h
          go_simp; rfl⟩) HS ?_
        try simp only [Act.put, List.setIfInBounds_toArray, List.set_cons_succ, List.set_cons_zero]
        refine order_pure (i := 7) rfl (by kernel_rfl) (fun _ _ _ h => put_out (by decide) h) (.inl ⟨rfl, fun _ => by go_simp; rfl⟩) ?_
        try simp only [Act.put, List.setIfInBounds_toArray, List.set_cons_succ, List.set_cons_zero]
        refine order_done (by kernel_rfl) ?_
        go_wp2_with fail
        refine order_begin (fun W => Keeps NoB (wr.alloc (.cells #[.int .u8 kd1, .string tx1, .int .i64 nm1, .int .i64 pl1, .slice ka1 kn1 kc1] 29)) W) (fun i => decide (i ≠ 7)) (by kernel_rfl) 8 rfl ?_
        have HS2 : Keeps NoB (wr.alloc (.cells #[.int .u8 kd1, .string tx1, .int .i64 nm1, .int .i64 pl1, .slice ka1 kn1 kc1] 29)) ((wr.alloc (.cells #[.int .u8 kd1, .string tx1, .int .i64 nm1, .int .i64 pl1, .slice ka1 kn1 kc1] 29))).drew.drew := HS.drew
        clear HS
        have HS := HS2
        clear HS2
        refine order_pure (i := 0) rfl (by kernel_rfl) (fun _ _ _ h => put_out (by decide) h) (.inl ⟨rfl, fun _ => by go_simp; rfl⟩) ?_
        try simp only [Act.put, List.setIfInBounds_toArray, List.set_cons_succ, List.set_cons_zero]
        refine order_pure (i := 1) rfl (by kernel_rfl) (fun _ _ _ h => put_out (by decide) h) (.inl ⟨rfl, fun _ => by go_simp; rfl⟩) ?_
        try simp only [Act.put, List.setIfInBounds_toArray, List.set_cons_succ, List.set_cons_zero]
        refine order_pure (i := 2) rfl (by kernel_rfl) (fun _ _ _ h => put_out (by decide) h) (.inl ⟨rfl, fun _ => by go_simp; rfl⟩) ?_
        try simp only [Act.put, List.setIfInBounds_toArray, List.set_cons_succ, List.set_cons_zero]
        refine order_held (i := 3) rfl (by kernel_rfl) (fun _ _ _ h => put_out (by decide) h) (.inl ⟨rfl, fun W hW => by
          have q0 : W.cell? ⟨w2.heap.size + 1 + 1, 0, none⟩ = some (.map (some w2.heap.size)) := (HDA.out.go hW).cell
          go_simp; rfl⟩) HS ?_
        try simp only [Act.put, List.setIfInBounds_toArray, List.set_cons_succ, List.set_cons_zero]
        refine order_pure (i := 4) rfl (by kernel_rfl) (fun _ _ _ h => put_out (by decide) h) (.inl ⟨rfl, fun _ => by go_simp; rfl⟩) ?_
        try simp only [Act.put, List.setIfInBounds_toArray, List.set_cons_succ, List.set_cons_zero]
        refine order_held (i := 5) rfl (by kernel_rfl) (fun _ _ _ h => put_out (by decide) h) (.inl ⟨rfl, fun W hW => by
          have q0 : W.cell? ⟨wr.heap.size, 1, none⟩ = some (.string tx1) := hW.cell id (HBN.out.cell 1)
          go_simp; rfl⟩) HS ?_
        try simp only [Act.put, List.setIfInBounds_toArray, List.set_cons_succ, List.set_cons_zero]
        generalize ((wr.alloc (.cells #[.int .u8 kd1, .string tx1, .int .i64 nm1, .int .i64 pl1, .slice ka1 kn1 kc1] 29))).drew.drew = w3 at *
        refine order_one (i := 6) rfl (by kernel_rfl) (fun K hK => ?_)
        go_simp
        refine hK _ _ (fun _ h => h.alloc _) ?_
        clear hK
        try simp only [Act.put, List.setIfInBounds_toArray, List.set_cons_succ, List.set_cons_zero]
        obtain ⟨w4, hput, hd4, hk4⟩ := (HDA.out.go HS).new HTS.out HKB.out.2 HR.out
        refine order_one (i := 7) rfl (by kernel_rfl) (fun K hK => ?_)
        go_simp
        refine hK _ _ (fun h => absurd h (by decide)) ?_
        clear hK
        try simp only [Act.put, List.setIfInBounds_toArray, List.set_cons_succ, List.set_cons_zero]
        refine order_done (by kernel_rfl) ?_
        have HB4 : Hid (Blk w4 wr.heap.size 29 #[.int .u8 kd1, .string tx1, .int .i64 nm1, .int .i64 pl1, .slice ka1 kn1 kc1]) := hide (((HBN.out.keep HS id).alloc _).keep hk4 (fun e => by have := HMW2.out; omega))
        have HR4 : Hid (putR R tx1 w3.heap.size tx1 = some w3.heap.size) := hide (by simp [putR])
        have HD4 := hide hd4
        have HNB := hide (show w3.heap.size ≠ wr.heap.size from fun e => by have := HS.size; simp at this; omega)
        generalize w3.heap.size = b9 at *
        clear hput hd4 hk4 HS
        go_wp2_with fail
        cases hF : F1 tx1 nm1 with
        | true =>
          have HFF := hide hF
          have HQ : Hid (declE t1 F1 = .error (210, pl1)) := hide (by rw [HDE.out, if_pos (.inl HFF.out)])
          clear hF
          refine order_begin (fun W => Keeps NoB w4 W) (fun _ => true) (by kernel_rfl) 18 rfl ?_
          have HS : Keeps NoB w4 w4.drew := (Keeps.refl NoB _).drew
          refine order_pure (i := 0) rfl (by kernel_rfl) (fun _ _ _ h => put_out (by decide) h) (.inl ⟨rfl, fun _ => by go_simp; rfl⟩) ?_
          try simp only [Act.put, List.setIfInBounds_toArray, List.set_cons_succ, List.set_cons_zero]
          refine order_pure (i := 1) rfl (by kernel_rfl) (fun _ _ _ h => put_out (by decide) h) (.inl ⟨rfl, fun _ => by go_simp; rfl⟩) ?_
          try simp only [Act.put, List.setIfInBounds_toArray, List.set_cons_succ, List.set_cons_zero]
          refine order_pure (i := 2) rfl (by kernel_rfl) (fun _ _ _ h => put_out (by decide) h) (.inl ⟨rfl, fun _ => by go_simp; rfl⟩) ?_
          try simp only [Act.put, List.setIfInBounds_toArray, List.set_cons_succ, List.set_cons_zero]
          refine order_held (i := 3) rfl (by kernel_rfl) (fun _ _ _ h => put_out (by decide) h) (.inl ⟨rfl, fun W hW => by
            have q0 : W.cell? ⟨w2.heap.size + 1 + 1, 0, none⟩ = some (.map (some w2.heap.size)) := (HD4.out.go hW).cell
            go_simp; rfl⟩) HS ?_
          try simp only [Act.put, List.setIfInBounds_toArray, List.set_cons_succ, List.set_cons_zero]
          refine order_pure (i := 4) rfl (by kernel_rfl) (fun _ _ _ h => put_out (by decide) h) (.inl ⟨rfl, fun _ => by go_simp; rfl⟩) ?_
          try simp only [Act.put, List.setIfInBounds_toArray, List.set_cons_succ, List.set_cons_zero]
          refine order_held (i := 5) rfl (by kernel_rfl) (fun _ _ _ h => put_out (by decide) h) (.inl ⟨rfl, fun W hW => by
            have q0 : W.cell? ⟨wr.heap.size, 1, none⟩ = some (.string tx1) := hW.cell id (HB4.out.cell 1)
            go_simp; rfl⟩) HS ?_
          try simp only [Act.put, List.setIfInBounds_toArray, List.set_cons_succ, List.set_cons_zero]
          refine order_held (i := 6) rfl (by kernel_rfl) (fun _ _ _ h => put_out (by decide) h) (.inl ⟨rfl, fun W hW => by
            have q0 : (Instr.lookup 50 (.map (some w2.heap.size)) (.string tx1) false).run Tryd.prog W = .ok (.map (some b9)) W := by have h := (HD4.out.go hW).funs.look HTS.out; rw [HR4.out] at h; exact h
            go_simp; rfl⟩) HS ?_
          try simp only [Act.put, List.setIfInBounds_toArray, List.set_cons_succ, List.set_cons_zero]
          refine order_pure (i := 7) rfl (by kernel_rfl) (fun _ _ _ h => put_out (by decide) h) (.inl ⟨rfl, fun _ => by go_simp; rfl⟩) ?_
          try simp only [Act.put, List.setIfInBounds_toArray, List.set_cons_succ, List.set_cons_zero]
          refine order_held (i := 8) rfl (by kernel_rfl) (fun _ _ _ h => put_out (by decide) h) (.inl ⟨rfl, fun W hW => by
            have q0 : W.cell? ⟨wr.heap.size, 2, none⟩ = some (.int .i64 nm1) := hW.cell id (HB4.out.cell 2)
            go_simp; rfl⟩) HS ?_
          try simp only [Act.put, List.setIfInBounds_toArray, List.set_cons_succ, List.set_cons_zero]
          refine order_held (i := 9) rfl (by kernel_rfl) (fun _ _ _ h => put_out (by decide) h) (.inl ⟨rfl, fun W hW => by
            have q0 : (Instr.lookup 55 (.map (some b9)) (.int .i64 nm1) false).run Tryd.prog W = .ok (.bool true) W := by have h := (HD4.out.go hW).funs.look2 tx1 HNW.out; rw [HR4.out, HFF.out] at h; exact h
            go_simp; rfl⟩) HS ?_
          try simp only [Act.put, List.setIfInBounds_toArray, List.set_cons_succ, List.set_cons_zero]
          refine order_pure (i := 10) rfl (by kernel_rfl) (fun _ _ _ h => put_out (by decide) h) (.inl ⟨rfl, fun _ => by go_simp; rfl⟩) ?_
          try simp only [Act.put, List.setIfInBounds_toArray, List.set_cons_succ, List.set_cons_zero]
          refine order_skip (i := 11) rfl (by kernel_rfl) (fun _ _ _ h => put_out (by decide) h) (by kernel_rfl) ?_
          try simp only [Act.put, List.setIfInBounds_toArray, List.set_cons_succ, List.set_cons_zero]
          refine order_skip (i := 12) rfl (by kernel_rfl) (fun _ _ _ h => put_out (by decide) h) (by kernel_rfl) ?_
          try simp only [Act.put, List.setIfInBounds_toArray, List.set_cons_succ, List.set_cons_zero]
          refine order_skip (i := 13) rfl (by kernel_rfl) (fun _ _ _ h => put_out (by decide) h) (by kernel_rfl) ?_
          try simp only [Act.put, List.setIfInBounds_toArray, List.set_cons_succ, List.set_cons_zero]
          refine order_skip (i := 14) rfl (by kernel_rfl) (fun _ _ _ h => put_out (by decide) h) (by kernel_rfl) ?_
          try simp only [Act.put, List.setIfInBounds_toArray, List.set_cons_succ, List.set_cons_zero]
          refine order_skip (i := 15) rfl (by kernel_rfl) (fun _ _ _ h => put_out (by decide) h) (by kernel_rfl) ?_
          try simp only [Act.put, List.setIfInBounds_toArray, List.set_cons_succ, List.set_cons_zero]
          refine order_skip (i := 16) rfl (by kernel_rfl) (fun _ _ _ h => put_out (by decide) h) (by kernel_rfl) ?_
          try simp only [Act.put, List.setIfInBounds_toArray, List.set_cons_succ, List.set_cons_zero]
          refine order_pure (i := 17) rfl (by kernel_rfl) (fun _ _ _ h => put_out (by decide) h) (.inl ⟨rfl, fun _ => by go_simp; rfl⟩) ?_
          try simp only [Act.put, List.setIfInBounds_toArray, List.set_cons_succ, List.set_cons_zero]
          refine order_done (by kernel_rfl) ?_
          have hbs := HB4.out.keep HS id
          have e0 := hbs.cell 0; have e1 := hbs.cell 1; have e2 := hbs.cell 2; have e3 := hbs.cell 3; have e4 := hbs.cell 4
          clear hbs
          go_wp2_with
            first
            | (go_at_call 23
               refine (stop_any _ _ kd1 tx1 nm1 pl1 ka1 kn1 kc1).mono ?_
               rintro e w5 ⟨he, hk⟩
               unfold Stops at he
               subst he
               have HD5 := hide (HD4.out.go (HS.trans' hk (fun _ _ => id) (fun _ _ => id) : Keeps NoB w4 w5))
               clear hk)
            | fail
          have HX := hide (foldE_stop (f := declE) H1.out HF.out HQ.out)
          exact leaves_fault rfl HD5.out.out (fun w' hk => ⟨by rw [HRES.out, HX.out], HD5.out.keep.trans' hk (fun _ _ h => h.elim) (fun i hi e => by have := HQR.out; omega)⟩)
        | false =>
          have HFF := hide hF
          clear hF
          refine order_begin (fun W => Keeps NoB w4 W) (fun _ => true) (by kernel_rfl) 18 rfl ?_
          have HS : Keeps NoB w4 w4.drew := (Keeps.refl NoB _).drew
          refine order_pure (i := 0) rfl (by kernel_rfl) (fun _ _ _ h => put_out (by decide) h) (.inl ⟨rfl, fun _ => by go_simp; rfl⟩) ?_
          try simp only [Act.put, List.setIfInBounds_toArray, List.set_cons_succ, List.set_cons_zero]
          refine order_pure (i := 1) rfl (by kernel_rfl) (fun _ _ _ h => put_out (by decide) h) (.inl ⟨rfl, fun _ => by go_simp; rfl⟩) ?_
          try simp only [Act.put, List.setIfInBounds_toArray, List.set_cons_succ, List.set_cons_zero]
          refine order_pure (i := 2) rfl (by kernel_rfl) (fun _ _ _ h => put_out (by decide) h) (.inl ⟨rfl, fun _ => by go_simp; rfl⟩) ?_
          try simp only [Act.put, List.setIfInBounds_toArray, List.set_cons_succ, List.set_cons_zero]
          refine order_held (i := 3) rfl (by kernel_rfl) (fun _ _ _ h => put_out (by decide) h) (.inl ⟨rfl, fun W hW => by
            have q0 : W.cell? ⟨w2.heap.size + 1 + 1, 0, none⟩ = some (.map (some w2.heap.size)) := (HD4.out.go hW).cell
            go_simp; rfl⟩) HS ?_
          try simp only [Act.put, List.setIfInBounds_toArray, List.set_cons_succ, List.set_cons_zero]
          refine order_pure (i := 4) rfl (by kernel_rfl) (fun _ _ _ h => put_out (by decide) h) (.inl ⟨rfl, fun _ => by go_simp; rfl⟩) ?_
          try simp only [Act.put, List.setIfInBounds_toArray, List.set_cons_succ, List.set_cons_zero]
          refine order_held (i := 5) rfl (by kernel_rfl) (fun _ _ _ h => put_out (by decide) h) (.inl ⟨rfl, fun W hW => by
            have q0 : W.cell? ⟨wr.heap.size, 1, none⟩ = some (.string tx1) := hW.cell id (HB4.out.cell 1)
            go_simp; rfl⟩) HS ?_
          try simp only [Act.put, List.setIfInBounds_toArray, List.set_cons_succ, List.set_cons_zero]
          refine order_held (i := 6) rfl (by kernel_rfl) (fun _ _ _ h => put_out (by decide) h) (.inl ⟨rfl, fun W hW => by
            have q0 : (Instr.lookup 50 (.map (some w2.heap.size)) (.string tx1) false).run Tryd.prog W = .ok (.map (some b9)) W := by have h := (HD4.out.go hW).funs.look HTS.out; rw [HR4.out] at h; exact h
            go_simp; rfl⟩) HS ?_
          try simp only [Act.put, List.setIfInBounds_toArray, List.set_cons_succ, List.set_cons_zero]
          refine order_pure (i := 7) rfl (by kernel_rfl) (fun _ _ _ h => put_out (by decide) h) (.inl ⟨rfl, fun _ => by go_simp; rfl⟩) ?_
          try simp only [Act.put, List.setIfInBounds_toArray, List.set_cons_succ, List.set_cons_zero]
          refine order_held (i := 8) rfl (by kernel_rfl) (fun _ _ _ h => put_out (by decide) h) (.inl ⟨rfl, fun W hW => by
            have q0 : W.cell? ⟨wr.heap.size, 2, none⟩ = some (.int .i64 nm1) := hW.cell id (HB4.out.cell 2)
            go_simp; rfl⟩) HS ?_
          try simp only [Act.put, List.setIfInBounds_toArray, List.set_cons_succ, List.set_cons_zero]
          refine order_held (i := 9) rfl (by kernel_rfl) (fun _ _ _ h => put_out (by decide) h) (.inl ⟨rfl, fun W hW => by
            have q0 : (Instr.lookup 55 (.map (some b9)) (.int .i64 nm1) false).run Tryd.prog W = .ok (.bool false) W := by have h := (HD4.out.go hW).funs.look2 tx1 HNW.out; rw [HR4.out, HFF.out] at h; exact h
            go_simp; rfl⟩) HS ?_
          try simp only [Act.put, List.setIfInBounds_toArray, List.set_cons_succ, List.set_cons_zero]
          refine order_pure (i := 10) rfl (by kernel_rfl) (fun _ _ _ h => put_out (by decide) h) (.inl ⟨rfl, fun _ => by go_simp; rfl⟩) ?_
          try simp only [Act.put, List.setIfInBounds_toArray, List.set_cons_succ, List.set_cons_zero]
          refine order_pure (i := 11) rfl (by kernel_rfl) (fun _ _ _ h => put_out (by decide) h) (.inl ⟨rfl, fun _ => by go_simp; rfl⟩) ?_
          try simp only [Act.put, List.setIfInBounds_toArray, List.set_cons_succ, List.set_cons_zero]
          refine order_held (i := 12) rfl (by kernel_rfl) (fun _ _ _ h => put_out (by decide) h) (.inl ⟨rfl, fun W hW => by
            have q0 : W.cell? ⟨wr.heap.size, 1, none⟩ = some (.string tx1) := hW.cell id (HB4.out.cell 1)
            go_simp; rfl⟩) HS ?_
          try simp only [Act.put, List.setIfInBounds_toArray, List.set_cons_succ, List.set_cons_zero]
          refine order_pure (i := 13) rfl (by kernel_rfl) (fun _ _ _ h => put_out (by decide) h) (.inl ⟨rfl, fun _ => by go_simp; rfl⟩) ?_
          try simp only [Act.put, List.setIfInBounds_toArray, List.set_cons_succ, List.set_cons_zero]
          refine order_held (i := 14) rfl (by kernel_rfl) (fun _ _ _ h => put_out (by decide) h) (.inl ⟨rfl, fun W hW => by
            have q0 : W.cell? ⟨wr.heap.size, 2, none⟩ = some (.int .i64 nm1) := hW.cell id (HB4.out.cell 2)
            go_simp; rfl⟩) HS ?_
          try simp only [Act.put, List.setIfInBounds_toArray, List.set_cons_succ, List.set_cons_zero]
          refine order_one (i := 15) rfl (by kernel_rfl) (fun K hK => ?_)
          go_simp
          refine (kind_any tx1 nm1 _ (HLD.out.keep (HD4.out.go HS).keep).kind (by have := HTZ.out; omega)).mono ?_
          rintro e w5 ⟨rfl, rfl⟩
          refine hK _ _ (fun _ h => h) ?_
          clear hK
          try simp only [Act.put, List.setIfInBounds_toArray, List.set_cons_succ, List.set_cons_zero]
          by_cases hq : kindN tx1.data.toList nm1 = 0
          · have hqb : (kindN tx1.data.toList nm1 != 0) = false := by simpa using hq
            have HQ0 := hide hq
            have hqn : ¬ (F1 tx1 nm1 = true ∨ kindN tx1.data.toList nm1 ≠ 0) := fun h => h.elim (fun h => by rw [HFF.out] at h; cases h) (fun h => h hq)
            have HDQ := hide (HDE.out.trans (if_neg hqn))
            clear hq hqn
            refine order_pure (i := 16) rfl (by kernel_rfl) (fun _ _ _ h => put_out (by decide) h) (.inl ⟨rfl, fun _ => by go_simp; rfl⟩) ?_
            try simp only [Act.put, List.setIfInBounds_toArray, List.set_cons_succ, List.set_cons_zero]
            refine order_pure (i := 17) rfl (by kernel_rfl) (fun _ _ _ h => put_out (by decide) h) (.inl ⟨rfl, fun _ => by go_simp; rfl⟩) ?_
            try simp only [Act.put, List.setIfInBounds_toArray, List.set_cons_succ, List.set_cons_zero]
            refine order_done (by kernel_rfl) ?_
            go_wp2_with fail
            refine order_begin (fun W => Keeps NoB w4 W) (fun i => decide (i ≠ 9)) (by kernel_rfl) 10 rfl ?_
            have HS2 : Keeps NoB w4 w4.drew.drew := HS.drew
            clear HS hqb
            have HS := HS2
            clear HS2
            refine order_pure (i := 0) rfl (by kernel_rfl) (fun _ _ _ h => put_out (by decide) h) (.inl ⟨rfl, fun _ => by go_simp; rfl⟩) ?_
            try simp only [Act.put, List.setIfInBounds_toArray, List.set_cons_succ, List.set_cons_zero]
            refine order_pure (i := 1) rfl (by kernel_rfl) (fun _ _ _ h => put_out (by decide) h) (.inl ⟨rfl, fun _ => by go_simp; rfl⟩) ?_
            try simp only [Act.put, List.setIfInBounds_toArray, List.set_cons_succ, List.set_cons_zero]
            refine order_pure (i := 2) rfl (by kernel_rfl) (fun _ _ _ h => put_out (by decide) h) (.inl ⟨rfl, fun _ => by go_simp; rfl⟩) ?_
            try simp only [Act.put, List.setIfInBounds_toArray, List.set_cons_succ, List.set_cons_zero]
            refine order_held (i := 3) rfl (by kernel_rfl) (fun _ _ _ h => put_out (by decide) h) (.inl ⟨rfl, fun W hW => by
              have q0 : W.cell? ⟨w2.heap.size + 1 + 1, 0, none⟩ = some (.map (some w2.heap.size)) := (HD4.out.go hW).cell
              go_simp; rfl⟩) HS ?_
            try simp only [Act.put, List.setIfInBounds_toArray, List.set_cons_succ, List.set_cons_zero]
            refine order_pure (i := 4) rfl (by kernel_rfl) (fun _ _ _ h => put_out (by decide) h) (.inl ⟨rfl, fun _ => by go_simp; rfl⟩) ?_
            try simp only [Act.put, List.setIfInBounds_toArray, List.set_cons_succ, List.set_cons_zero]
            refine order_held (i := 5) rfl (by kernel_rfl) (fun _ _ _ h => put_out (by decide) h) (.inl ⟨rfl, fun W hW => by
              have q0 : W.cell? ⟨wr.heap.size, 1, none⟩ = some (.string tx1) := hW.cell id (HB4.out.cell 1)
              go_simp; rfl⟩) HS ?_
            try simp only [Act.put, List.setIfInBounds_toArray, List.set_cons_succ, List.set_cons_zero]
            refine order_held (i := 6) rfl (by kernel_rfl) (fun _ _ _ h => put_out (by decide) h) (.inl ⟨rfl, fun W hW => by
              have q0 : (Instr.lookup 50 (.map (some w2.heap.size)) (.string tx1) false).run Tryd.prog W = .ok (.map (some b9)) W := by have h := (HD4.out.go hW).funs.look HTS.out; rw [HR4.out] at h; exact h
              go_simp; rfl⟩) HS ?_
            try simp only [Act.put, List.setIfInBounds_toArray, List.set_cons_succ, List.set_cons_zero]
            refine order_pure (i := 7) rfl (by kernel_rfl) (fun _ _ _ h => put_out (by decide) h) (.inl ⟨rfl, fun _ => by go_simp; rfl⟩) ?_
            try simp only [Act.put, List.setIfInBounds_toArray, List.set_cons_succ, List.set_cons_zero]
            refine order_held (i := 8) rfl (by kernel_rfl) (fun _ _ _ h => put_out (by decide) h) (.inl ⟨rfl, fun W hW => by
              have q0 : W.cell? ⟨wr.heap.size, 2, none⟩ = some (.int .i64 nm1) := hW.cell id (HB4.out.cell 2)
              go_simp; rfl⟩) HS ?_
            try simp only [Act.put, List.setIfInBounds_toArray, List.set_cons_succ, List.set_cons_zero]
            obtain ⟨w6, hput6, hd6, hk6⟩ := (HD4.out.go HS).put HNW.out HKB.out.1 HR4.out
            have HD6 := hide hd6
            have hb9 := HD4.out.funs.inner tx1 b9 HR4.out
            have h9 : b9 ≠ wr.heap.size := HNB.out
            have HB6 := hide ((HB4.out.keep HS id).keep hk6 (fun e => h9 e.symm))
            have c4 := HB6.out.cell 4; have c2 := HB6.out.cell 2
            refine order_one (i := 9) rfl (by kernel_rfl) (fun K hK => ?_)
            go_simp
            refine hK _ _ (fun h => absurd h (by decide)) ?_
            clear hK
            try simp only [Act.put, List.setIfInBounds_toArray, List.set_cons_succ, List.set_cons_zero]
            refine order_done (by kernel_rfl) ?_
            clear hd6 hk6 hput6 hb9 h9 HS
            have HI6 := hide (HAR.out w6 HD6.out.keep)
            go_wp2_with
              first
              | (go_at_call 24
                 refine HI6.out.mono ?_
                 rintro e w7 ⟨hk7, ⟨k9, p9, hr9, he⟩ | ⟨x9, hr9, he⟩⟩
                 all_goals have HD7 := hide (HD6.out.go hk7)
                 all_goals have HQ := hide (HDQ.out.trans (by rw [hr9]))
                 all_goals first
                   | (unfold Stops at he
                      have HX := hide (foldE_stop (f := declE) H1.out HF.out HQ.out)
                      subst he
                      clear hk7 hr9)
                   | (have HX := hide (foldE_step (f := declE) H1.out HF.out HQ.out)
                      subst he
                      clear hk7 hr9))
              | fail
            · exact leaves_fault rfl HD7.out.out (fun w' hk => ⟨by rw [HRES.out, HX.out], HD7.out.keep.trans' hk (fun _ _ h => h.elim) (fun i hi e => by have := HQR.out; omega)⟩)
            · go_roundg (kn - (k + 1))
              case measure => omega
              case rel => exact ⟨k + 1, _, _, by omega, rfl, by go_num, HX.out, (show k + k + 1 + 1 = k + 1 + (k + 1) by omega) ▸ HD7.out⟩
          · have hqb : (kindN tx1.data.toList nm1 != 0) = true := by simpa using hq
            have HQ : Hid (declE t1 F1 = .error (210, pl1)) := hide (by rw [HDE.out, if_pos (.inr hq)])
            clear hq
            refine order_pure (i := 16) rfl (by kernel_rfl) (fun _ _ _ h => put_out (by decide) h) (.inl ⟨rfl, fun _ => by go_simp; rfl⟩) ?_
            try simp only [Act.put, List.setIfInBounds_toArray, List.set_cons_succ, List.set_cons_zero]
            refine order_pure (i := 17) rfl (by kernel_rfl) (fun _ _ _ h => put_out (by decide) h) (.inl ⟨rfl, fun _ => by go_simp; rfl⟩) ?_
            try simp only [Act.put, List.setIfInBounds_toArray, List.set_cons_succ, List.set_cons_zero]
            refine order_done (by kernel_rfl) ?_
            have hbs := HB4.out.keep HS id
            have e0 := hbs.cell 0; have e1 := hbs.cell 1; have e2 := hbs.cell 2; have e3 := hbs.cell 3; have e4 := hbs.cell 4
            clear hbs
            go_wp2_with
              first
              | (go_at_call 23
                 refine (stop_any _ _ kd1 tx1 nm1 pl1 ka1 kn1 kc1).mono ?_
                 rintro e w5 ⟨he, hk⟩
                 unfold Stops at he
                 subst he
                 have HD5 := hide (HD4.out.go (HS.trans' hk (fun _ _ => id) (fun _ _ => id) : Keeps NoB w4 w5))
                 clear hk)
              | fail
            have HX := hide (foldE_stop (f := declE) H1.out HF.out HQ.out)
            exact leaves_fault rfl HD5.out.out (fun w' hk => ⟨by rw [HRES.out, HX.out], HD5.out.keep.trans' hk (fun _ _ h => h.elim) (fun i hi e => by have := HQR.out; omega)⟩)
      | some b9 =>
        have HR4 := hide hR
        clear hR
        refine order_held (i := 6) rfl (by kernel_rfl) (fun _ _ _ h => put_out (by decide) h) (.inl ⟨rfl, fun W hW => by
          have q0 : (Instr.lookup 50 (.map (some w2.heap.size)) (.string tx1) false).run Tryd.prog W = .ok (.map (some b9)) W := by have h := (HDA.out.go hW).funs.look HTS.out; rw [HR4.out] at h; exact h
          go_simp; rfl⟩) HS ?_
        try simp only [Act.put, List.setIfInBounds_toArray, List.set_cons_succ, List.set_cons_zero]
        refine order_pure (i := 7) rfl (by kernel_rfl) (fun _ _ _ h => put_out (by decide) h) (.inl ⟨rfl, fun _ => by go_simp; rfl⟩) ?_
        try simp only [Act.put, List.setIfInBounds_toArray, List.set_cons_succ, List.set_cons_zero]
        refine order_done (by kernel_rfl) ?_
        have HD4 := hide ((HDA.out.go HS).wide (n' := k + k + 1) (by omega))
        have HB4 := hide (HBN.out.keep HS id)
        have HNB := hide (show b9 ≠ wr.heap.size from fun e => by
          have h1 := (HD.out.funs.inner tx1 b9 HR4.out).1
          omega)
        generalize ((wr.alloc (.cells #[.int .u8 kd1, .string tx1, .int .i64 nm1, .int .i64 pl1, .slice ka1 kn1 kc1] 29))).drew = w4 at *
        clear HS
        go_wp2_with fail
        cases hF : F1 tx1 nm1 with
        | true =>
          have HFF := hide hF
          have HQ : Hid (declE t1 F1 = .error (210, pl1)) := hide (by rw [HDE.out, if_pos (.inl HFF.out)])
          clear hF
          refine order_begin (fun W => Keeps NoB w4 W) (fun _ => true) (by kernel_rfl) 18 rfl ?_
          have HS : Keeps NoB w4 w4.drew := (Keeps.refl NoB _).drew
          refine order_pure (i := 0) rfl (by kernel_rfl) (fun _ _ _ h => put_out (by decide) h) (.inl ⟨rfl, fun _ => by go_simp; rfl⟩) ?_
          try simp only [Act.put, List.setIfInBounds_toArray, List.set_cons_succ, List.set_cons_zero]
          refine order_pure (i := 1) rfl (by kernel_rfl) (fun _ _ _ h => put_out (by decide) h) (.inl ⟨rfl, fun _ => by go_simp; rfl⟩) ?_
          try simp only [Act.put, List.setIfInBounds_toArray, List.set_cons_succ, List.set_cons_zero]
          refine order_pure (i := 2) rfl (by kernel_rfl) (fun _ _ _ h => put_out (by decide) h) (.inl ⟨rfl, fun _ => by go_simp; rfl⟩) ?_
          try simp only [Act.put, List.setIfInBounds_toArray, List.set_cons_succ, List.set_cons_zero]
          refine order_held (i := 3) rfl (by kernel_rfl) (fun _ _ _ h => put_out (by decide) h) (.inl ⟨rfl, fun W hW => by
            have q0 : W.cell? ⟨w2.heap.size + 1 + 1, 0, none⟩ = some (.map (some w2.heap.size)) := (HD4.out.go hW).cell
            go_simp; rfl⟩) HS ?_
          try simp only [Act.put, List.setIfInBounds_toArray, List.set_cons_succ, List.set_cons_zero]
          refine order_pure (i := 4) rfl (by kernel_rfl) (fun _ _ _ h => put_out (by decide) h) (.inl ⟨rfl, fun _ => by go_simp; rfl⟩) ?_
          try simp only [Act.put, List.setIfInBounds_toArray, List.set_cons_succ, List.set_cons_zero]
          refine order_held (i := 5) rfl (by kernel_rfl) (fun _ _ _ h => put_out (by decide) h) (.inl ⟨rfl, fun W hW => by
            have q0 : W.cell? ⟨wr.heap.size, 1, none⟩ = some (.string tx1) := hW.cell id (HB4.out.cell 1)
            go_simp; rfl⟩) HS ?_
          try simp only [Act.put, List.setIfInBounds_toArray, List.set_cons_succ, List.set_cons_zero]
          refine order_held (i := 6) rfl (by kernel_rfl) (fun _ _ _ h => put_out (by decide) h) (.inl ⟨rfl, fun W hW => by
            have q0 : (Instr.lookup 50 (.map (some w2.heap.size)) (.string tx1) false).run Tryd.prog W = .ok (.map (some b9)) W := by have h := (HD4.out.go hW).funs.look HTS.out; rw [HR4.out] at h; exact h
            go_simp; rfl⟩) HS ?_
          try simp only [Act.put, List.setIfInBounds_toArray, List.set_cons_succ, List.set_cons_zero]
          refine order_pure (i := 7) rfl (by kernel_rfl) (fun _ _ _ h => put_out (by decide) h) (.inl ⟨rfl, fun _ => by go_simp; rfl⟩) ?_
          try simp only [Act.put, List.setIfInBounds_toArray, List.set_cons_succ, List.set_cons_zero]
          refine order_held (i := 8) rfl (by kernel_rfl) (fun _ _ _ h => put_out (by decide) h) (.inl ⟨rfl, fun W hW => by
            have q0 : W.cell? ⟨wr.heap.size, 2, none⟩ = some (.int .i64 nm1) := hW.cell id (HB4.out.cell 2)
            go_simp; rfl⟩) HS ?_
          try simp only [Act.put, List.setIfInBounds_toArray, List.set_cons_succ, List.set_cons_zero]
          refine order_held (i := 9) rfl (by kernel_rfl) (fun _ _ _ h => put_out (by decide) h) (.inl ⟨rfl, fun W hW => by
            have q0 : (Instr.lookup 55 (.map (some b9)) (.int .i64 nm1) false).run Tryd.prog W = .ok (.bool true) W := by have h := (HD4.out.go hW).funs.look2 tx1 HNW.out; rw [HR4.out, HFF.out] at h; exact h
            go_simp; rfl⟩) HS ?_
          try simp only [Act.put, List.setIfInBounds_toArray, List.set_cons_succ, List.set_cons_zero]
          refine order_pure (i := 10) rfl (by kernel_rfl) (fun _ _ _ h => put_out (by decide) h) (.inl ⟨rfl, fun _ => by go_simp; rfl⟩) ?_
          try simp only [Act.put, List.setIfInBounds_toArray, List.set_cons_succ, List.set_cons_zero]
          refine order_skip (i := 11) rfl (by kernel_rfl) (fun _ _ _ h => put_out (by decide) h) (by kernel_rfl) ?_
          try simp only [Act.put, List.setIfInBounds_toArray, List.set_cons_succ, List.set_cons_zero]
          refine order_skip (i := 12) rfl (by kernel_rfl) (fun _ _ _ h => put_out (by decide) h) (by kernel_rfl) ?_
          try simp only [Act.put, List.setIfInBounds_toArray, List.set_cons_succ, List.set_cons_zero]
          refine order_skip (i := 13) rfl (by kernel_rfl) (fun _ _ _ h => put_out (by decide) h) (by kernel_rfl) ?_
          try simp only [Act.put, List.setIfInBounds_toArray, List.set_cons_succ, List.set_cons_zero]
          refine order_skip (i := 14) rfl (by kernel_rfl) (fun _ _ _ h => put_out (by decide) h) (by kernel_rfl) ?_
          try simp only [Act.put, List.setIfInBounds_toArray, List.set_cons_succ, List.set_cons_zero]
          refine order_skip (i := 15) rfl (by kernel_rfl) (fun _ _ _ h => put_out (by decide) h) (by kernel_rfl) ?_
          try simp only [Act.put, List.setIfInBounds_toArray, List.set_cons_succ, List.set_cons_zero]
          refine order_skip (i := 16) rfl (by kernel_rfl) (fun _ _ _ h => put_out (by decide) h) (by kernel_rfl) ?_
          try simp only [Act.put, List.setIfInBounds_toArray, List.set_cons_succ, List.set_cons_zero]
          refine order_pure (i := 17) rfl (by kernel_rfl) (fun _ _ _ h => put_out (by decide) h) (.inl ⟨rfl, fun _ => by go_simp; rfl⟩) ?_
          try simp only [Act.put, List.setIfInBounds_toArray, List.set_cons_succ, List.set_cons_zero]
          refine order_done (by kernel_rfl) ?_
          have hbs := HB4.out.keep HS id
          have e0 := hbs.cell 0; have e1 := hbs.cell 1; have e2 := hbs.cell 2; have e3 := hbs.cell 3; have e4 := hbs.cell 4
          clear hbs
          go_wp2_with
            first
            | (go_at_call 23
               refine (stop_any _ _ kd1 tx1 nm1 pl1 ka1 kn1 kc1).mono ?_
               rintro e w5 ⟨he, hk⟩
               unfold Stops at he
               subst he
               have HD5 := hide (HD4.out.go (HS.trans' hk (fun _ _ => id) (fun _ _ => id) : Keeps NoB w4 w5))
               clear hk)
            | fail
          have HX := hide (foldE_stop (f := declE) H1.out HF.out HQ.out)
          exact leaves_fault rfl HD5.out.out (fun w' hk => ⟨by rw [HRES.out, HX.out], HD5.out.keep.trans' hk (fun _ _ h => h.elim) (fun i hi e => by have := HQR.out; omega)⟩)
        | false =>
          have HFF := hide hF
          clear hF
          refine order_begin (fun W => Keeps NoB w4 W) (fun _ => true) (by kernel_rfl) 18 rfl ?_
          have HS : Keeps NoB w4 w4.drew := (Keeps.refl NoB _).drew
          refine order_pure (i := 0) rfl (by kernel_rfl) (fun _ _ _ h => put_out (by decide) h) (.inl ⟨rfl, fun _ => by go_simp; rfl⟩) ?_
          try simp only [Act.put, List.setIfInBounds_toArray, List.set_cons_succ, List.set_cons_zero]
          refine order_pure (i := 1) rfl (by kernel_rfl) (fun _ _ _ h => put_out (by decide) h) (.inl ⟨rfl, fun _ => by go_simp; rfl⟩) ?_
          try simp only [Act.put, List.setIfInBounds_toArray, List.set_cons_succ, List.set_cons_zero]
          refine order_pure (i := 2) rfl (by kernel_rfl) (fun _ _ _ h => put_out (by decide) h) (.inl ⟨rfl, fun _ => by go_simp; rfl⟩) ?_
          try simp only [Act.put, List.setIfInBounds_toArray, List.set_cons_succ, List.set_cons_zero]
          refine order_held (i := 3) rfl (by kernel_rfl) (fun _ _ _ h => put_out (by decide) h) (.inl ⟨rfl, fun W hW => by
            have q0 : W.cell? ⟨w2.heap.size + 1 + 1, 0, none⟩ = some (.map (some w2.heap.size)) := (HD4.out.go hW).cell
            go_simp; rfl⟩) HS ?_
          try simp only [Act.put, List.setIfInBounds_toArray, List.set_cons_succ, List.set_cons_zero]
          refine order_pure (i := 4) rfl (by kernel_rfl) (fun _ _ _ h => put_out (by decide) h) (.inl ⟨rfl, fun _ => by go_simp; rfl⟩) ?_
          try simp only [Act.put, List.setIfInBounds_toArray, List.set_cons_succ, List.set_cons_zero]
          refine order_held (i := 5) rfl (by kernel_rfl) (fun _ _ _ h => put_out (by decide) h) (.inl ⟨rfl, fun W hW => by
            have q0 : W.cell? ⟨wr.heap.size, 1, none⟩ = some (.string tx1) := hW.cell id (HB4.out.cell 1)
            go_simp; rfl⟩) HS ?_
          try simp only [Act.put, List.setIfInBounds_toArray, List.set_cons_succ, List.set_cons_zero]
          refine order_held (i := 6) rfl (by kernel_rfl) (fun _ _ _ h => put_out (by decide) h) (.inl ⟨rfl, fun W hW => by
            have q0 : (Instr.lookup 50 (.map (some w2.heap.size)) (.string tx1) false).run Tryd.prog W = .ok (.map (some b9)) W := by have h := (HD4.out.go hW).funs.look HTS.out; rw [HR4.out] at h; exact h
            go_simp; rfl⟩) HS ?_
          try simp only [Act.put, List.setIfInBounds_toArray, List.set_cons_succ, List.set_cons_zero]
          refine order_pure (i := 7) rfl (by kernel_rfl) (fun _ _ _ h => put_out (by decide) h) (.inl ⟨rfl, fun _ => by go_simp; rfl⟩) ?_
          try simp only [Act.put, List.setIfInBounds_toArray, List.set_cons_succ, List.set_cons_zero]
          refine order_held (i := 8) rfl (by kernel_rfl) (fun _ _ _ h => put_out (by decide) h) (.inl ⟨rfl, fun W hW => by
            have q0 : W.cell? ⟨wr.heap.size, 2, none⟩ = some (.int .i64 nm1) := hW.cell id (HB4.out.cell 2)
            go_simp; rfl⟩) HS ?_
          try simp only [Act.put, List.setIfInBounds_toArray, List.set_cons_succ, List.set_cons_zero]
          refine order_held (i := 9) rfl (by kernel_rfl) (fun _ _ _ h => put_out (by decide) h) (.inl ⟨rfl, fun W hW => by
            have q0 : (Instr.lookup 55 (.map (some b9)) (.int .i64 nm1) false).run Tryd.prog W = .ok (.bool false) W := by have h := (HD4.out.go hW).funs.look2 tx1 HNW.out; rw [HR4.out, HFF.out] at h; exact h
            go_simp; rfl⟩) HS ?_
          try simp only [Act.put, List.setIfInBounds_toArray, List.set_cons_succ, List.set_cons_zero]
          refine order_pure (i := 10) rfl (by kernel_rfl) (fun _ _ _ h => put_out (by decide) h) (.inl ⟨rfl, fun _ => by go_simp; rfl⟩) ?_
          try simp only [Act.put, List.setIfInBounds_toArray, List.set_cons_succ, List.set_cons_zero]
          refine order_pure (i := 11) rfl (by kernel_rfl) (fun _ _ _ h => put_out (by decide) h) (.inl ⟨rfl, fun _ => by go_simp; rfl⟩) ?_
          try simp only [Act.put, List.setIfInBounds_toArray, List.set_cons_succ, List.set_cons_zero]
          refine order_held (i := 12) rfl (by kernel_rfl) (fun _ _ _ h => put_out (by decide) h) (.inl ⟨rfl, fun W hW => by
            have q0 : W.cell? ⟨wr.heap.size, 1, none⟩ = some (.string tx1) := hW.cell id (HB4.out.cell 1)
            go_simp; rfl⟩) HS ?_
          try simp only [Act.put, List.setIfInBounds_toArray, List.set_cons_succ, List.set_cons_zero]
          refine order_pure (i := 13) rfl (by kernel_rfl) (fun _ _ _ h => put_out (by decide) h) (.inl ⟨rfl, fun _ => by go_simp; rfl⟩) ?_
          try simp only [Act.put, List.setIfInBounds_toArray, List.set_cons_succ, List.set_cons_zero]
          refine order_held (i := 14) rfl (by kernel_rfl) (fun _ _ _ h => put_out (by decide) h) (.inl ⟨rfl, fun W hW => by
            have q0 : W.cell? ⟨wr.heap.size, 2, none⟩ = some (.int .i64 nm1) := hW.cell id (HB4.out.cell 2)
            go_simp; rfl⟩) HS ?_
          try simp only [Act.put, List.setIfInBounds_toArray, List.set_cons_succ, List.set_cons_zero]
          refine order_one (i := 15) rfl (by kernel_rfl) (fun K hK => ?_)
          go_simp
          refine (kind_any tx1 nm1 _ (HLD.out.keep (HD4.out.go HS).keep).kind (by have := HTZ.out; omega)).mono ?_
          rintro e w5 ⟨rfl, rfl⟩
          refine hK _ _ (fun _ h => h) ?_
          clear hK
          try simp only [Act.put, List.setIfInBounds_toArray, List.set_cons_succ, List.set_cons_zero]
          by_cases hq : kindN tx1.data.toList nm1 = 0
          · have hqb : (kindN tx1.data.toList nm1 != 0) = false := by simpa using hq
            have HQ0 := hide hq
            have hqn : ¬ (F1 tx1 nm1 = true ∨ kindN tx1.data.toList nm1 ≠ 0) := fun h => h.elim (fun h => by rw [HFF.out] at h; cases h) (fun h => h hq)
            have HDQ := hide (HDE.out.trans (if_neg hqn))
            clear hq hqn
            refine order_pure (i := 16) rfl (by kernel_rfl) (fun _ _ _ h => put_out (by decide) h) (.inl ⟨rfl, fun _ => by go_simp; rfl⟩) ?_
            try simp only [Act.put, List.setIfInBounds_toArray, List.set_cons_succ, List.set_cons_zero]
            refine order_pure (i := 17) rfl (by kernel_rfl) (fun _ _ _ h => put_out (by decide) h) (.inl ⟨rfl, fun _ => by go_simp; rfl⟩) ?_
            try simp only [Act.put, List.setIfInBounds_toArray, List.set_cons_succ, List.set_cons_zero]
            refine order_done (by kernel_rfl) ?_
            go_wp2_with fail
            refine order_begin (fun W => Keeps NoB w4 W) (fun i => decide (i ≠ 9)) (by kernel_rfl) 10 rfl ?_
            have HS2 : Keeps NoB w4 w4.drew.drew := HS.drew
            clear HS hqb
            have HS := HS2
            clear HS2
            refine order_pure (i := 0) rfl (by kernel_rfl) (fun _ _ _ h => put_out (by decide) h) (.inl ⟨rfl, fun _ => by go_simp; rfl⟩) ?_
            try simp only [Act.put, List.setIfInBounds_toArray, List.set_cons_succ, List.set_cons_zero]
            refine order_pure (i := 1) rfl (by kernel_rfl) (fun _ _ _ h => put_out (by decide) h) (.inl ⟨rfl, fun _ => by go_simp; rfl⟩) ?_
            try simp only [Act.put, List.setIfInBounds_toArray, List.set_cons_succ, List.set_cons_zero]
            refine order_pure (i := 2) rfl (by kernel_rfl) (fun _ _ _ h => put_out (by decide) h) (.inl ⟨rfl, fun _ => by go_simp; rfl⟩) ?_
            try simp only [Act.put, List.setIfInBounds_toArray, List.set_cons_succ, List.set_cons_zero]
            refine order_held (i := 3) rfl (by kernel_rfl) (fun _ _ _ h => put_out (by decide) h) (.inl ⟨rfl, fun W hW => by
              have q0 : W.cell? ⟨w2.heap.size + 1 + 1, 0, none⟩ = some (.map (some w2.heap.size)) := (HD4.out.go hW).cell
              go_simp; rfl⟩) HS ?_
            try simp only [Act.put, List.setIfInBounds_toArray, List.set_cons_succ, List.set_cons_zero]
            refine order_pure (i := 4) rfl (by kernel_rfl) (fun _ _ _ h => put_out (by decide) h) (.inl ⟨rfl, fun _ => by go_simp; rfl⟩) ?_
            try simp only [Act.put, List.setIfInBounds_toArray, List.set_cons_succ, List.set_cons_zero]
            refine order_held (i := 5) rfl (by kernel_rfl) (fun _ _ _ h => put_out (by decide) h) (.inl ⟨rfl, fun W hW => by
              have q0 : W.cell? ⟨wr.heap.size, 1, none⟩ = some (.string tx1) := hW.cell id (HB4.out.cell 1)
              go_simp; rfl⟩) HS ?_
            try simp only [Act.put, List.setIfInBounds_toArray, List.set_cons_succ, List.set_cons_zero]
            refine order_held (i := 6) rfl (by kernel_rfl) (fun _ _ _ h => put_out (by decide) h) (.inl ⟨rfl, fun W hW => by
              have q0 : (Instr.lookup 50 (.map (some w2.heap.size)) (.string tx1) false).run Tryd.prog W = .ok (.map (some b9)) W := by have h := (HD4.out.go hW).funs.look HTS.out; rw [HR4.out] at h; exact h
              go_simp; rfl⟩) HS ?_
            try simp only [Act.put, List.setIfInBounds_toArray, List.set_cons_succ, List.set_cons_zero]
            refine order_pure (i := 7) rfl (by kernel_rfl) (fun _ _ _ h => put_out (by decide) h) (.inl ⟨rfl, fun _ => by go_simp; rfl⟩) ?_
            try simp only [Act.put, List.setIfInBounds_toArray, List.set_cons_succ, List.set_cons_zero]
            refine order_held (i := 8) rfl (by kernel_rfl) (fun _ _ _ h => put_out (by decide) h) (.inl ⟨rfl, fun W hW => by
              have q0 : W.cell? ⟨wr.heap.size, 2, none⟩ = some (.int .i64 nm1) := hW.cell id (HB4.out.cell 2)
              go_simp; rfl⟩) HS ?_
            try simp only [Act.put, List.setIfInBounds_toArray, List.set_cons_succ, List.set_cons_zero]
            obtain ⟨w6, hput6, hd6, hk6⟩ := (HD4.out.go HS).put HNW.out HKB.out.1 HR4.out
            have HD6 := hide hd6
            have hb9 := HD4.out.funs.inner tx1 b9 HR4.out
            have h9 : b9 ≠ wr.heap.size := HNB.out
            have HB6 := hide ((HB4.out.keep HS id).keep hk6 (fun e => h9 e.symm))
            have c4 := HB6.out.cell 4; have c2 := HB6.out.cell 2
            refine order_one (i := 9) rfl (by kernel_rfl) (fun K hK => ?_)
            go_simp
            refine hK _ _ (fun h => absurd h (by decide)) ?_
            clear hK
            try simp only [Act.put, List.setIfInBounds_toArray, List.set_cons_succ, List.set_cons_zero]
            refine order_done (by kernel_rfl) ?_
            clear hd6 hk6 hput6 hb9 h9 HS
            have HI6 := hide (HAR.out w6 HD6.out.keep)
            go_wp2_with
              first
              | (go_at_call 24
                 refine HI6.out.mono ?_
                 rintro e w7 ⟨hk7, ⟨k9, p9, hr9, he⟩ | ⟨x9, hr9, he⟩⟩
                 all_goals have HD7 := hide (HD6.out.go hk7)
                 all_goals have HQ := hide (HDQ.out.trans (by rw [hr9]))
                 all_goals first
                   | (unfold Stops at he
                      have HX := hide (foldE_stop (f := declE) H1.out HF.out HQ.out)
                      subst he
                      clear hk7 hr9)
                   | (have HX := hide (foldE_step (f := declE) H1.out HF.out HQ.out)
                      subst he
                      clear hk7 hr9))
              | fail
            · exact leaves_fault rfl HD7.out.out (fun w' hk => ⟨by rw [HRES.out, HX.out], HD7.out.keep.trans' hk (fun _ _ h => h.elim) (fun i hi e => by have := HQR.out; omega)⟩)
            · go_roundg (kn - (k + 1))
              case measure => omega
              case rel => exact ⟨k + 1, _, _, by omega, rfl, by go_num, HX.out, (show k + k + 1 + 1 = k + 1 + (k + 1) by omega) ▸ HD7.out⟩
          · have hqb : (kindN tx1.data.toList nm1 != 0) = true := by simpa using hq
            have HQ : Hid (declE t1 F1 = .error (210, pl1)) := hide (by rw [HDE.out, if_pos (.inr hq)])
            clear hq
            refine order_pure (i := 16) rfl (by kernel_rfl) (fun _ _ _ h => put_out (by decide) h) (.inl ⟨rfl, fun _ => by go_simp; rfl⟩) ?_
            try simp only [Act.put, List.setIfInBounds_toArray, List.set_cons_succ, List.set_cons_zero]
            refine order_pure (i := 17) rfl (by kernel_rfl) (fun _ _ _ h => put_out (by decide) h) (.inl ⟨rfl, fun _ => by go_simp; rfl⟩) ?_
            try simp only [Act.put, List.setIfInBounds_toArray, List.set_cons_succ, List.set_cons_zero]
            refine order_done (by kernel_rfl) ?_
            have hbs := HB4.out.keep HS id
            have e0 := hbs.cell 0; have e1 := hbs.cell 1; have e2 := hbs.cell 2; have e3 := hbs.cell 3; have e4 := hbs.cell 4
            clear hbs
            go_wp2_with
              first
              | (go_at_call 23
                 refine (stop_any _ _ kd1 tx1 nm1 pl1 ka1 kn1 kc1).mono ?_
                 rintro e w5 ⟨he, hk⟩
                 unfold Stops at he
                 subst he
                 have HD5 := hide (HD4.out.go (HS.trans' hk (fun _ _ => id) (fun _ _ => id) : Keeps NoB w4 w5))
                 clear hk)
              | fail
            have HX := hide (foldE_stop (f := declE) H1.out HF.out HQ.out)
            exact leaves_fault rfl HD5.out.out (fun w' hk => ⟨by rw [HRES.out, HX.out], HD5.out.keep.trans' hk (fun _ _ h => h.elim) (fun i hi e => by have := HQR.out; omega)⟩)
    · obtain rfl : kn = k := by omega
      have he : List.take kn kids = kids := List.take_of_length_le (by have := HKL.out; omega)
      have hfz : foldE declE kids (fun _ _ => false) = .ok F1 := he ▸ HF.out
      have HRES2 : Hid (checkN (.mk 22 tx nm pl kids) = match foldE (fnsE F1) kids () with
        | .error f => f
        | .ok _ => (0, 0)) := hide (by rw [HRES.out, hfz])
      obtain ⟨wz, hwz⟩ : ∃ wz, wz = wr := ⟨_, rfl⟩
      subst hwz
      have HLIES := hide hd.lies
      have HCBZ := hide (show w2.heap.size + 1 + 1 < wz.heap.size by obtain ⟨mg, hb⟩ := hd.blk; exact hb.lt)
      have HCH : Hid (Chk w wz.heap.size (w2.heap.size + 1 + 1) w2.heap.size w.heap.size (w.heap.size + 1) #[.int .u8 22, .string tx, .int .i64 nm, .int .i64 pl, .slice ka kn kc] R F1 wz) := hide ⟨⟨_, hd.funs⟩, hd.blk, hd.keep, hd.out, hd.box, Nat.le_refl _⟩
      have q4 : wz.cell? ⟨w.heap.size, 4, none⟩ = some (.slice ka kn kc) := hd.box.cell 4
      clear he hfz hd HD HF HRES
      go_wp2
      go_loopg [84] kn (fun g s84 wx => ∃ j : Nat, j ≤ kn ∧ g = kn - j ∧ s84 = .int .i64 j ∧ foldE (fnsE F1) (List.take j kids) () = .ok () ∧ Chk w wz.heap.size (w2.heap.size + 1 + 1) w2.heap.size w.heap.size (w.heap.size + 1) #[.int .u8 22, .string tx, .int .i64 nm, .int .i64 pl, .slice ka kn kc] R F1 wx)
      case atStart => exact ⟨0, Nat.zero_le _, rfl, rfl, by simp [foldE], HCH.out⟩
      case round =>
        obtain ⟨j, hj, rfl, rfl, hf, hch⟩ := hrel
        have HF := hide hf; have HCJ := hide hch
        clear hf
        by_cases hlt : j < kn
        · obtain ⟨b1, o1, kd1, tx1, nm1, pl1, ka1, kn1, kc1, t1, hA, _, hb1, h1, hsz, hu, f0, f1, f2, f3, f4⟩ := node_at HRD.out HC.out j hlt
          subst hA
          replace f0 := hch.keep.cell id f0; replace f1 := hch.keep.cell id f1; replace f2 := hch.keep.cell id f2; replace f3 := hch.keep.cell id f3; replace f4 := hch.keep.cell id f4
          have hfok := HFO.out t1 (List.mem_of_getElem? h1)
          obtain ⟨kids1, css1, e1, hro1, hr1, hc1, hl1⟩ := hu.kidsIn
          have hek : t1.kids = kids1 := by rw [e1]; rfl
          have hn1 : kn1 ≤ 9223372036854775807 := by have := hro1.1.len (by omega); unfold maxLen at this; exact this
          have hk1 : (j : Int) < (kn : Int) := by omega
          have hk0 : (0 : Int) ≤ (j : Int) := by omega
          have H1 := hide h1; have HR1 := hide hr1; have HC1 := hide hc1; have HL1 := hide hl1; have HEK := hide hek
          have HCLS := hide (show ∀ x ∈ kids1, ∃ p g d, Clause (varsN (.mk 22 tx nm pl kids)) x p g d by rw [← hek]; exact hfok.clauses)
          have HCR := hide (hch.go ((Keeps.refl NoB wr).alloc (.cells #[.int .u8 kd1, .string tx1, .int .i64 nm1, .int .i64 pl1, .slice ka1 kn1 kc1] 29)))
          clear h1 hsz hu hfok e1 hro1 hr1 hc1 hl1 hek hch
          go_wp2
          rename World => wo
          go_loopg [91] kn1 (fun g s91 wx => ∃ i : Nat, i ≤ kn1 ∧ g = kn1 - i ∧ s91 = .int .i64 i ∧ foldE (topE F1) (List.take i kids1) () = .ok () ∧ Chk w wz.heap.size (w2.heap.size + 1 + 1) w2.heap.size w.heap.size (w.heap.size + 1) #[.int .u8 22, .string tx, .int .i64 nm, .int .i64 pl, .slice (some ⟨b1, o1, none⟩) kn kc] R F1 wx)
          case atStart => exact ⟨0, Nat.zero_le _, rfl, rfl, by simp [foldE], HCR.out⟩
          case round =>
            obtain ⟨i, hi, rfl, rfl, hf, hch⟩ := hrel
            have HFI := hide hf; have HCI := hide hch
            clear hf
            by_cases hli : i < kn1
            · obtain ⟨b2, o2, kd2, tx2, nm2, pl2, ka2, kn2, kc2, t2, hA, _, hb2, h2, hsz, hu, g0, g1, g2, g3, g4⟩ := node_at HR1.out HC1.out i hli
              subst hA
              replace g0 := hch.keep.cell id g0; replace g1 := hch.keep.cell id g1; replace g2 := hch.keep.cell id g2; replace g3 := hch.keep.cell id g3; replace g4 := hch.keep.cell id g4
              obtain ⟨p, gg, d, hcl⟩ := HCLS.out t2 (List.mem_of_getElem? h2)
              obtain ⟨b3, o3, rfl, hB3, hb3, rfl, ⟨pa, pn, pc, pcs, p4, pr, pni, pnl, pro⟩, _, _⟩ := three_at kd2 tx2 nm2 pl2 ka2 kn2 kc2 hu hcl.kids
              have hk2 : (i : Int) < (kn1 : Int) := by omega
              have hk3 : (0 : Int) ≤ (i : Int) := by omega
              have hkj : Keeps NoB wr (wr.alloc (.cells #[.int .u8 kd2, .string tx2, .int .i64 nm2, .int .i64 pl2, .slice (some ⟨b3, o3, none⟩) 3 kc2] 29)) := (Keeps.refl NoB wr).alloc _
              have hkk : Keeps NoB wr (((wr.alloc (.cells #[.int .u8 kd2, .string tx2, .int .i64 nm2, .int .i64 pl2, .slice (some ⟨b3, o3, none⟩) 3 kc2] 29))).alloc (.map #[] 0)) := hkj.alloc _
              have hck := hch.go hkk
              obtain ⟨mgx, hbx⟩ := hck.blk
              have zc : ((((wr.alloc (.cells #[.int .u8 kd2, .string tx2, .int .i64 nm2, .int .i64 pl2, .slice (some ⟨b3, o3, none⟩) 3 kc2] 29))).alloc (.map #[] 0))).frozen? ⟨w2.heap.size + 1 + 1, 1, none⟩ = false := hbx.free 1
              have cc : ((((wr.alloc (.cells #[.int .u8 kd2, .string tx2, .int .i64 nm2, .int .i64 pl2, .slice (some ⟨b3, o3, none⟩) 3 kc2] 29))).alloc (.map #[] 0))).cell? ⟨w2.heap.size + 1 + 1, 1, none⟩ = some (.map (some mgx)) := hbx.cell 1
              have hls := HLIES.out; have hcz := HCBZ.out
              have hsj : ((wr.alloc (.cells #[.int .u8 kd2, .string tx2, .int .i64 nm2, .int .i64 pl2, .slice (some ⟨b3, o3, none⟩) 3 kc2] 29))).heap.size = wr.heap.size + 1 := by simp
              have hbig := hch.big
              have hkw := hch.keep.size
              let C : Cx := ⟨w2.heap.size, wz.heap.size, R, F1, varsN (.mk 22 tx nm pl kids)⟩
              have hks : Keeps (fun k => k = w2.heap.size + 1 + 1) (((wr.alloc (.cells #[.int .u8 kd2, .string tx2, .int .i64 nm2, .int .i64 pl2, .slice (some ⟨b3, o3, none⟩) 3 kc2] 29))).alloc (.map #[] 0)) (((((wr.alloc (.cells #[.int .u8 kd2, .string tx2, .int .i64 nm2, .int .i64 pl2, .slice (some ⟨b3, o3, none⟩) 3 kc2] 29))).alloc (.map #[] 0))).setCell ⟨w2.heap.size + 1 + 1, 1, none⟩ (.map (some (wr.heap.size + 1)))) := (Keeps.refl (fun k => k = w2.heap.size + 1 + 1) (((wr.alloc (.cells #[.int .u8 kd2, .string tx2, .int .i64 nm2, .int .i64 pl2, .slice (some ⟨b3, o3, none⟩) 3 kc2] 29))).alloc (.map #[] 0))).setCell (p := ⟨w2.heap.size + 1 + 1, 1, none⟩) (.inl rfl) _
              have hkws : Keeps NoB w (((((wr.alloc (.cells #[.int .u8 kd2, .string tx2, .int .i64 nm2, .int .i64 pl2, .slice (some ⟨b3, o3, none⟩) 3 kc2] 29))).alloc (.map #[] 0))).setCell ⟨w2.heap.size + 1 + 1, 1, none⟩ (.map (some (wr.heap.size + 1)))) := hck.keep.trans' hks (fun _ _ => id) (fun q hq e => by omega)
              have hcks : CkS C (w2.heap.size + 1 + 1) (((((wr.alloc (.cells #[.int .u8 kd2, .string tx2, .int .i64 nm2, .int .i64 pl2, .slice (some ⟨b3, o3, none⟩) 3 kc2] 29))).alloc (.map #[] 0))).setCell ⟨w2.heap.size + 1 + 1, 1, none⟩ (.map (some (wr.heap.size + 1)))) (wr.heap.size + 1) (fun _ => false) := by
                obtain ⟨nf, hf⟩ := hck.funs
                have hg := ScopeL.made (wr.alloc (.cells #[.int .u8 kd2, .string tx2, .int .i64 nm2, .int .i64 pl2, .slice (some ⟨b3, o3, none⟩) 3 kc2] 29)) (varsN (.mk 22 tx nm pl kids))
                rw [hsj] at hg
                exact ⟨hbx.put 1 _, ⟨nf, hf.keep hks (fun q e => .inr e)⟩, hg.keep hks (fun e => by omega), by show wz.heap.size ≤ wr.heap.size + 1; omega, ⟨by have := H3.out; omega, hcz⟩, (HLD.out).keep hkws, HFEW.out⟩
              have HCKS := hide hcks; have HKWS := hide hkws
              have hbn : Blk (((((wr.alloc (.cells #[.int .u8 kd2, .string tx2, .int .i64 nm2, .int .i64 pl2, .slice (some ⟨b3, o3, none⟩) 3 kc2] 29))).alloc (.map #[] 0))).setCell ⟨w2.heap.size + 1 + 1, 1, none⟩ (.map (some (wr.heap.size + 1)))) wr.heap.size 29 #[.int .u8 kd2, .string tx2, .int .i64 nm2, .int .i64 pl2, .slice (some ⟨b3, o3, none⟩) 3 kc2] := ((Blk.new wr 29 #[.int .u8 kd2, .string tx2, .int .i64 nm2, .int .i64 pl2, .slice (some ⟨b3, o3, none⟩) 3 kc2]).alloc _).keep hks (fun e => by have := hch.keep.size; obtain ⟨mg, hb⟩ := hch.blk; have := hb.lt; omega)
              have HBN := hide hbn
              have hob := hck.out.keep hks (fun e => by omega)
              have hxb := hck.box.keep hks (fun e => by omega)
              have HOB := hide hob; have HXB := hide hxb
              have P4 := hide (hkws.cell id p4)
              have HCLN := hide (fun W (h : Keeps NoB w W) => clone_any (fun k => k < w.heap.size) false pa pn pc p.kids pcs W (pr.keep h (fun _ _ => id)) (NodesIn.keep h (fun _ _ => id) _ _ pni) pnl pro)
              have HCL := hide hcl; have HPN := hide (And.intro pnl pro)
              have H2 := hide h2
              have HUB := hide (fun W (h : Keeps NoB w W) => (NodeIn.keep h (fun _ _ => id) _ _ (NodeIn.more (B' := Bt C (w2.heap.size + 1 + 1)) (fun q hq _ => ⟨by show q < wz.heap.size; omega, by omega⟩) _ _ hu)))
              have HSZ := hide (And.intro hls (And.intro hcz (And.intro hbig hkw)))
              have HTE := hide (topE_eq (F := F1) hcl.kids)
              clear hu h2 hsz hcl p4 pr pni pnl pro hB3 hb3 hkj hkk hck hbx hls hcz hsj hbig hkw hks hkws hcks hbn hob hxb hch
              go_wp2_with fail
              generalize (((((wr.alloc (.cells #[.int .u8 kd2, .string tx2, .int .i64 nm2, .int .i64 pl2, .slice (some ⟨b3, o3, none⟩) 3 kc2] 29))).alloc (.map #[] 0))).setCell ⟨w2.heap.size + 1 + 1, 1, none⟩ (.map (some (wr.heap.size + 1)))) = ws at *
              refine order_begin (fun W => Keeps NoB ws W) (fun i => decide (i ≠ 10)) (by kernel_rfl) 11 rfl ?_
              have HS : Keeps NoB ws ws.drew := (Keeps.refl NoB _).drew
              refine order_pure (i := 0) rfl (by kernel_rfl) (fun _ _ _ h => put_out (by decide) h) (.inl ⟨rfl, fun _ => by go_simp; rfl⟩) ?_
              try simp only [Act.put, List.setIfInBounds_toArray, List.set_cons_succ, List.set_cons_zero]
              refine order_held (i := 1) rfl (by kernel_rfl) (fun _ _ _ h => put_out (by decide) h) (.inl ⟨rfl, fun W hW => by
                have q0 : W.cell? ⟨wr.heap.size, 0, none⟩ = some (.int .u8 kd2) := hW.cell id (HBN.out.cell 0)
                have q1 : W.cell? ⟨wr.heap.size, 1, none⟩ = some (.string tx2) := hW.cell id (HBN.out.cell 1)
                have q2 : W.cell? ⟨wr.heap.size, 2, none⟩ = some (.int .i64 nm2) := hW.cell id (HBN.out.cell 2)
                have q3 : W.cell? ⟨wr.heap.size, 3, none⟩ = some (.int .i64 pl2) := hW.cell id (HBN.out.cell 3)
                have q4 : W.cell? ⟨wr.heap.size, 4, none⟩ = some (.slice (some ⟨b3, o3, none⟩) 3 kc2) := hW.cell id (HBN.out.cell 4)
                go_simp; rfl⟩) HS ?_
              try simp only [Act.put, List.setIfInBounds_toArray, List.set_cons_succ, List.set_cons_zero]
              refine order_pure (i := 2) rfl (by kernel_rfl) (fun _ _ _ h => put_out (by decide) h) (.inl ⟨rfl, fun _ => by go_simp; rfl⟩) ?_
              try simp only [Act.put, List.setIfInBounds_toArray, List.set_cons_succ, List.set_cons_zero]
              refine order_pure (i := 3) rfl (by kernel_rfl) (fun _ _ _ h => put_out (by decide) h) (.inl ⟨rfl, fun _ => by go_simp; rfl⟩) ?_
              try simp only [Act.put, List.setIfInBounds_toArray, List.set_cons_succ, List.set_cons_zero]
              have q9 : ws.drew.cell? ⟨wr.heap.size, 4, none⟩ = some (.slice (some ⟨b3, o3, none⟩) 3 kc2) := HBN.out.cell 4
              refine order_one (i := 4) rfl (by kernel_rfl) (fun K hK => ?_)
              go_simp
              refine hK _ _ (fun _ h => h) ?_
              clear hK q9
              try simp only [Act.put, List.setIfInBounds_toArray, List.set_cons_succ, List.set_cons_zero]
              refine order_pure (i := 5) rfl (by kernel_rfl) (fun _ _ _ h => put_out (by decide) h) (.inl ⟨rfl, fun _ => by go_simp; rfl⟩) ?_
              try simp only [Act.put, List.setIfInBounds_toArray, List.set_cons_succ, List.set_cons_zero]
              refine order_pure (i := 6) rfl (by kernel_rfl) (fun _ _ _ h => put_out (by decide) h) (.inl ⟨rfl, fun _ => by go_simp; rfl⟩) ?_
              try simp only [Act.put, List.setIfInBounds_toArray, List.set_cons_succ, List.set_cons_zero]
              refine order_held (i := 7) rfl (by kernel_rfl) (fun _ _ _ h => put_out (by decide) h) (.inl ⟨rfl, fun W hW => by
                have q0 : W.cell? ⟨b3, o3 + 4, none⟩ = some (.slice pa pn pc) := hW.cell id P4.out
                go_simp; rfl⟩) HS ?_
              try simp only [Act.put, List.setIfInBounds_toArray, List.set_cons_succ, List.set_cons_zero]
              refine order_one (i := 8) rfl (by kernel_rfl) (fun K hK => ?_)
              go_simp
              refine (HCLN.out _ (HKWS.out.trans' HS (fun _ _ => id) (fun _ _ => id))).mono ?_
              rintro e5 w5 ⟨A', c', rfl, hr5, hn5, hk5⟩
              have HS5 : Keeps NoB ws w5 := HS.trans' hk5 (fun _ _ => id) (fun _ _ => id)
              refine hK _ _ (fun _ _ => HS5) ?_
              clear hK HS
              try simp only [Act.put, List.setIfInBounds_toArray, List.set_cons_succ, List.set_cons_zero]
              refine order_one (i := 9) rfl (by kernel_rfl) (fun K hK => ?_)
              go_simp
              refine (head_any w5 (fun _ => True) false (varsN (.mk 22 tx nm pl kids)) p.kids pcs A' pn c' (w2.heap.size + 1 + 1) none (fun _ => false) hr5 hn5 HPN.out.1 HPN.out.2 (fun x hx => (HCL.out.pats x hx).ok) (fun x hx => (HCL.out.pats x hx).names) (.inl ⟨rfl, rfl⟩) HFEW.out).mono ?_
              rintro e6 w6 ⟨hk6, ⟨k9, p9, hr9, he⟩ | ⟨own, hr9, m', he, hs6, hm6⟩⟩
              · have HX := hide (foldE_stop (f := topE F1) H2.out HFI.out (HTE.out.trans (by rw [hr9])))
                have hx : fnsE F1 t1 () = _ := (show fnsE F1 t1 () = foldE (topE F1) kids1 () by unfold fnsE; rw [HEK.out]).trans HX.out
                have HY := hide (foldE_stop (f := fnsE F1) H1.out HF.out hx)
                have HS6 : Keeps NoB ws w6 := HS5.trans' hk6 (fun _ _ => id) (fun _ _ => id)
                unfold Stops at he
                subst he
                exact leaves_fault rfl (HOB.out.keep HS6 id) (fun w' hk => ⟨by rw [HRES2.out, HY.out], (HKWS.out.trans' HS6 (fun _ _ => id) (fun _ _ => id) : Keeps NoB w w6).trans' hk (fun _ _ h => h.elim) (fun i hi e => by have := HQR.out; omega)⟩)
              · subst he
                have HS6 : Keeps NoB ws w6 := HS5.trans' hk6 (fun _ _ => id) (fun _ _ => id)
                refine hK _ _ (fun _ _ => HS6) ?_
                clear hK
                try simp only [Act.put, List.setIfInBounds_toArray, List.set_cons_succ, List.set_cons_zero]
                have hfe : (fun t : ByteArray => own t || (fun _ => false) t) = own := by funext t; simp
                rw [hfe] at hs6
                have hz := HSZ.out
                have hsz5 : wr.heap.size + 1 < w5.heap.size := Nat.lt_of_lt_of_le HCKS.out.gone.lt HS5.size
                have hm7 : wr.heap.size + 1 < m' := Nat.lt_of_lt_of_le hsz5 hm6
                have HM7 := hide hm7
                have hHere : Here C (w2.heap.size + 1 + 1) (wr.heap.size + 1) m' w6 own (fun _ => false) := ⟨HCKS.out.keep0 HS6, hs6, ⟨by omega, by omega⟩, by show wz.heap.size ≤ m'; omega⟩
                have HRS := hide (rest_all _ w6 C (w2.heap.size + 1 + 1) (wr.heap.size + 1) m' own (fun _ => false) t2 p gg d kd2 tx2 nm2 pl2 (some ⟨b3, o3, none⟩) 3 kc2 (HUB.out w6 (HKWS.out.trans' HS6 (fun _ _ => id) (fun _ _ => id))) hHere HCL.out (Nat.le_refl _))
                clear hk5 hk6 hr5 hn5 hm6 hfe hsz5 hm7 hHere hz
                refine order_one (i := 10) rfl (by kernel_rfl) (fun K hK => ?_)
                go_simp
                refine HRS.out.mono ?_
                rintro e7 w7 ⟨hk7, hcase⟩
                have hz := HSZ.out; have hm7 := HM7.out
                have hkw7 : Keeps NoB w w7 := (HKWS.out.trans' HS6 (fun _ _ => id) (fun _ _ => id) : Keeps NoB w w6).trans' hk7 (fun _ _ h => h.elim) (fun q hq e => by rcases e with e | e | e <;> omega)
                have hob7 := (HOB.out.keep HS6 id).keep hk7 (fun e => by rcases e with e | e | e <;> omega)
                have hxb7 := (HXB.out.keep HS6 id).keep hk7 (fun e => by rcases e with e | e | e <;> omega)
                have hte : topE F1 t2 () = (restR F1 gg d own (fun _ => false)).map (fun _ => ()) := HTE.out.trans (by rw [hr9])
                rcases hcase with ⟨k9, p9, hr8, he⟩ | ⟨x9, hr8, he, hs7, mg7, hc7, hm7'⟩
                · have HX := hide (foldE_stop (f := topE F1) H2.out HFI.out (hte.trans (show _ = (.error (k9, p9) : Except Flt Unit) by rw [show restR F1 gg d own (fun _ => false) = .error (k9, p9) from hr8]; rfl)))
                  have hx : fnsE F1 t1 () = _ := (show fnsE F1 t1 () = foldE (topE F1) kids1 () by unfold fnsE; rw [HEK.out]).trans HX.out
                  have HY := hide (foldE_stop (f := fnsE F1) H1.out HF.out hx)
                  unfold Stops at he
                  subst he
                  exact leaves_fault rfl hob7 (fun w' hk => ⟨by rw [HRES2.out, HY.out], hkw7.trans' hk (fun _ _ h => h.elim) (fun i hi e => by have := HQR.out; omega)⟩)
                · have HX := hide (foldE_step (f := topE F1) H2.out HFI.out (hte.trans (show _ = (.ok () : Except Flt Unit) by rw [show restR F1 gg d own (fun _ => false) = .ok x9 from hr8]; rfl)))
                  have hch7 : Chk w wz.heap.size (w2.heap.size + 1 + 1) w2.heap.size w.heap.size (w.heap.size + 1) #[.int .u8 22, .string tx, .int .i64 nm, .int .i64 pl, .slice (some ⟨b1, o1, none⟩) kn kc] R F1 w7 := ⟨hc7.funs, ⟨_, hc7.blk⟩, hkw7, hob7, hxb7, by
                    have h1 := hk7.size; have h2 := HS6.size; have h3 := HCKS.out.gone.lt; omega⟩
                  have HC7 := hide hch7
                  subst he
                  refine hK _ _ (fun h => absurd h (by decide)) ?_
                  clear hK
                  try simp only [Act.put, List.setIfInBounds_toArray, List.set_cons_succ, List.set_cons_zero]
                  refine order_done (by kernel_rfl) ?_
                  clear hk7 hkw7 hob7 hxb7 hte hr8 hr9 hs7 hc7 hm7' hch7 HS6 HS5 hz hm7 hs6
                  go_wp2_with fail
                  go_roundg (kn1 - (i + 1))
                  case measure => omega
                  case rel => exact ⟨i + 1, by omega, rfl, by go_num, HX.out, HC7.out⟩
            · obtain rfl : i = kn1 := by omega
              have he : List.take i kids1 = kids1 := List.take_of_length_le (by have := HL1.out; omega)
              have hx : fnsE F1 t1 () = .ok () := by unfold fnsE; rw [HEK.out]; exact he ▸ HFI.out
              have HX := hide (foldE_step (f := fnsE F1) H1.out HF.out hx)
              clear he hx hch
              go_wp2
              go_roundg (kn - (j + 1))
              case measure => omega
              case rel => exact ⟨j + 1, by omega, rfl, by go_num, HX.out, HCI.out⟩
        · obtain rfl : j = kn := by omega
          have he : List.take j kids = kids := List.take_of_length_le (by have := HKL.out; omega)
          have hx : foldE (fnsE F1) kids () = .ok () := he ▸ HF.out
          have HX := hide (show checkN (.mk 22 tx nm pl kids) = (0, 0) by rw [HRES2.out, hx])
          have z0 := hch.out.free 0; have z1 := hch.out.free 1
          have c0 := hch.out.cell 0; have c1 := hch.out.cell 1
          have HOB := hide hch.out
          have HKB := hide hch.keep
          clear he hx hch
          go_wp2
          have HK3 := hide ((HKB.out.setCell (p := ⟨w.heap.size + 1, 0, none⟩) (.inr (by show w.heap.size ≤ w.heap.size + 1; omega)) (.int .i64 0)).setCell (p := ⟨w.heap.size + 1, 1, none⟩) (.inr (by show w.heap.size ≤ w.heap.size + 1; omega)) (.int .i64 0))
          have HB3 := hide ((Blk.put HOB.out 0 (.int .i64 0)).put 1 (.int .i64 0))
          exact leaves_idle rfl HB3.out ⟨by rw [HX.out], HK3.out⟩
end Go.Proofs.YtincajfanhanjaaDoor
