/- law07.renamed: its contract. -/
import Derived.Test.YtincajfanhanjaaDoorKitNodes
import Derived.Test.YtincajfanhanjaaDoorSlab
namespace Go.Proofs.YtincajfanhanjaaDoor
open Go.RowKit

theorem nd_reads {w : World} {g : Nat} {a b c d e : Value} (hb : Blk w g 29 #[a, b, c, d, e]) : Reads w (fun _ => True) false 5 (some ⟨g, 0, none⟩) 1 [a, b, c, d, e] :=
  ⟨rfl, fun _ => ⟨_, rfl, rfl, trivial, hb.lt, fun j u hu => ⟨by rw [hb.cell, Nat.zero_add]; simpa using hu, fun h => by cases h⟩⟩⟩
theorem Blk.put5 {w : World} {g : Nat} {t : TypeId} {a0 a1 a2 a3 a4 : Value} (h : Blk w g t #[a0, a1, a2, a3, a4]) (v0 v1 v2 v3 v4 : Value) :
    Blk (((((w.setCell ⟨g, 0, none⟩ v0).setCell ⟨g, 1, none⟩ v1).setCell ⟨g, 2, none⟩ v2).setCell ⟨g, 3, none⟩ v3).setCell ⟨g, 4, none⟩ v4) g t #[v0, v1, v2, v3, v4] := by
  have := ((((h.put 0 v0).put 1 v1).put 2 v2).put 3 v3).put 4 v4
  simpa using this
theorem keeps_put5 (w : World) (g : Nat) (v0 v1 v2 v3 v4 : Value) :
    Keeps (fun j => j = g) w (((((w.setCell ⟨g, 0, none⟩ v0).setCell ⟨g, 1, none⟩ v1).setCell ⟨g, 2, none⟩ v2).setCell ⟨g, 3, none⟩ v3).setCell ⟨g, 4, none⟩ v4) :=
  (((((Keeps.refl (fun j => j = g) w).setCell (p := ⟨g, 0, none⟩) (.inl rfl) v0).setCell (p := ⟨g, 1, none⟩) (.inl rfl) v1).setCell (p := ⟨g, 2, none⟩) (.inl rfl) v2).setCell (p := ⟨g, 3, none⟩) (.inl rfl) v3).setCell (p := ⟨g, 4, none⟩) (.inl rfl) v4
theorem results_13 (tmps : Array Value) (r : Nat) (v0 v1 v2 v3 v4 : Value) (w : World) (ht : tmps[4]? = some (.pointer (some ⟨r, 0, none⟩))) (hB : Blk w r 29 #[v0, v1, v2, v3, v4]) : (results Tryd.f13 tmps).run Tryd.prog w = .ok (.agg #[v0, v1, v2, v3, v4]) w := by
  have c0 : w.cell? ⟨r, 0, none⟩ = some v0 := hB.cell 0
  have c1 : w.cell? ⟨r, 1, none⟩ = some v1 := hB.cell 1
  have c2 : w.cell? ⟨r, 2, none⟩ = some v2 := hB.cell 2
  have c3 : w.cell? ⟨r, 3, none⟩ = some v3 := hB.cell 3
  have c4 : w.cell? ⟨r, 4, none⟩ = some v4 := hB.cell 4
  have hr : Tryd.f13.results = #[ResultVar.cell 4 29] := by kernel_rfl
  simp [results, hr, go_sem, ht, c0, c1, c2, c3, c4]
/-- The other tree, all of it new. -/
def RenP (u : ByteArray) (t : Nd) (w : World) (e : Ending) (w' : World) : Prop := ∃ tx' A n c, e = .returned (.agg #[.int .u8 t.kind, .string tx', .int .i64 t.num, .int .i64 t.place, .slice A n c]) ∧ NodeIn w' (fun k => w.heap.size ≤ k) false [.int .u8 t.kind, .string tx', .int .i64 t.num, .int .i64 t.place, .slice A n c] (renN u t) ∧ Keeps NoB w w'
def RenSaid (M : Nat) (u : ByteArray) : Prop := ∀ t : Nd, t.size ≤ M → okN t → manyN t ≤ 1000000 → longN t + u.size ≤ 40 → ∀ (w : World) (B : Nat → Prop) (F : Bool) (kd : Int) (tx : ByteArray) (nm pl : Int) (ka : Option Addr) (kn kc : Nat), NodeIn w B F [.int .u8 kd, .string tx, .int .i64 nm, .int .i64 pl, .slice ka kn kc] t →
  Calls Tryd.prog 13 #[.agg #[.int .u8 kd, .string tx, .int .i64 nm, .int .i64 pl, .slice ka kn kc], .string u] w (RenP u t w)
theorem rens_take {u : ByteArray} {ts : List Nd} {k : Nat} {t : Nd} (h : ts[k]? = some t) : rensN u (ts.take (k + 1)) = rensN u (ts.take k) ++ [renN u t] := by
  rw [rens_map, rens_map, List.take_add_one, h]; simp
theorem many_kids {kd : Int} {tx : ByteArray} {nm pl : Int} {kids : List Nd} : kids.length ≤ manyN (.mk kd tx nm pl kids) := by
  have H : ∀ ts : List Nd, ts.length ≤ manysN ts := by
    intro ts
    induction ts with
    | nil => exact Nat.zero_le _
    | cons a l ih =>
      have : 1 ≤ manyN a := by cases a; unfold manyN; omega
      unfold manysN; rw [List.length_cons]; omega
  have := H kids
  unfold manyN; omega
theorem many_mem {t : Nd} : ∀ {ts : List Nd}, t ∈ ts → manyN t ≤ manysN ts
  | a :: l, h => by
    unfold manysN
    rcases List.mem_cons.1 h with rfl | h
    · omega
    · have := many_mem h; omega
set_option maxRecDepth 100000 in
set_option maxHeartbeats 4000000 in
theorem ren_walk (M : Nat) (u : ByteArray) (IH : RenSaid M u) (t : Nd) (hM : t.size ≤ M + 1) (ho : okN t) (hmn : manyN t ≤ 1000000) (hlg : longN t + u.size ≤ 40) (w : World) (B : Nat → Prop) (F : Bool) (kd : Int) (tx : ByteArray) (nm pl : Int) (ka : Option Addr) (kn kc : Nat) (ht : NodeIn w B F [.int .u8 kd, .string tx, .int .i64 nm, .int .i64 pl, .slice ka kn kc] t) :
    Calls Tryd.prog 13 #[.agg #[.int .u8 kd, .string tx, .int .i64 nm, .int .i64 pl, .slice ka kn kc], .string u] w (RenP u t w) := by
  obtain ⟨kids, css, rfl, hroom, hr, hc, hkl⟩ := ht.kidsIn
  obtain ⟨i0, ni0, nz0, nz1, nz2⟩ := nd_info_parts Tryd.infoNd
  have hnm : kn ≤ 9223372036854775807 := by have := hroom.1.len (by omega); unfold maxLen at this; exact this
  have hks : Nd.size.sizes kids ≤ M := by simp only [Nd.size] at hM; omega
  have hkn6 : kn ≤ 1000000 := by have := many_kids (kd := kd) (tx := tx) (nm := nm) (pl := pl) (kids := kids); omega
  unfold okN at ho
  have htx := ho.2.1
  have hokk := okNs_mem ho.2.2.2.2
  have hmk : ∀ x ∈ kids, manyN x ≤ 1000000 := fun x hx => by have := many_mem hx; unfold manyN at hmn; omega
  have hlk : ∀ x ∈ kids, longN x + u.size ≤ 40 := fun x hx => by have := long_mem hx; unfold longN at hlg; omega
  have hl3 : kd = 3 → tx.size + u.size ≤ 40 := fun e => by unfold longN at hlg; rw [if_pos e] at hlg; omega
  have HKS := hide hks; have HR := hide hr; have HC := hide hc; have HKL := hide hkl; have HIH := hide IH; have HOK := hide hokk; have HMK := hide hmk; have HLK := hide hlk
  have HK0 := hide ((Keeps.refl NoB w).alloc (.cells #[.int .u8 kd, .string tx, .int .i64 nm, .int .i64 pl, .slice ka kn kc] 29))
  have HBX := hide (Blk.new w 29 #[.int .u8 kd, .string tx, .int .i64 nm, .int .i64 pl, .slice ka kn kc])
  clear ht ho hroom hr hc hkl hks hM IH hokk hmk hlk hmn hlg
  by_cases h3 : kd = 3
  · subst h3
    by_cases hu : tx.toList = [95]
    · have hq : (!tx.toList == [95]) = false := by simpa using hu
      go_enter Tryd.func13, Tryd.ntmps13
      go_wp2
      go_loopg [6, 7] kn (fun g s6 s7 wx => ∃ (k : Nat) (X : Option Addr) (cX : Nat) (dss : List (List Value)), k ≤ kn ∧ g = kn - k ∧ s6 = .int .i64 k ∧
        Keeps (fun j => j = w.heap.size + 1 + 1) (((w.alloc (.cells #[.int .u8 3, .string tx, .int .i64 nm, .int .i64 pl, .slice ka kn kc] 29)).alloc (.cells #[.int .u8 0, .string ⟨#[]⟩, .int .i64 0, .int .i64 0, .slice none 0 0] 29)).alloc (.cells #[.int .u8 3, .string (tx), .int .i64 nm, .int .i64 pl, .slice none 0 0] 29)) wx ∧
        Blk wx (w.heap.size + 1 + 1) 29 #[.int .u8 3, .string (tx), .int .i64 nm, .int .i64 pl, .slice X k cX] ∧ Slab wx 29 5 X k cX dss.flatten ∧ NodesIn wx (fun j => w.heap.size + 3 ≤ j ∧ ¬ rowB X j) false dss (rensN u (kids.take k)) ∧ ∀ j, rowB X j → w.heap.size + 3 ≤ j)
      case atStart => exact ⟨0, none, 0, [], Nat.zero_le _, rfl, rfl, Keeps.refl _ _, by have h := Blk.new ((w.alloc (.cells #[.int .u8 3, .string tx, .int .i64 nm, .int .i64 pl, .slice ka kn kc] 29)).alloc (.cells #[.int .u8 0, .string ⟨#[]⟩, .int .i64 0, .int .i64 0, .slice none 0 0] 29)) 29 #[.int .u8 3, .string (tx), .int .i64 nm, .int .i64 pl, .slice none 0 0]; rwa [World.size_alloc, World.size_alloc] at h, Slab.nil _ _ _, by simp only [List.take_zero, rensN]; unfold NodesIn; trivial, fun j ⟨o, e⟩ => by cases e⟩
      case round =>
        obtain ⟨k, X, cX, dss, hk, rfl, rfl, hkw, hbo, hsl, hnd, hnx⟩ := hrel
        have HKW := hide (((HK0.out.alloc (.cells #[.int .u8 0, .string ⟨#[]⟩, .int .i64 0, .int .i64 0, .slice none 0 0] 29)).alloc (.cells #[.int .u8 3, .string (tx), .int .i64 nm, .int .i64 pl, .slice none 0 0] 29)).trans' hkw (fun _ _ => id) (fun j hj e => by omega) : Keeps NoB w wr)
        have HBA := hide (((HBX.out.alloc (.cells #[.int .u8 0, .string ⟨#[]⟩, .int .i64 0, .int .i64 0, .slice none 0 0] 29)).alloc (.cells #[.int .u8 3, .string (tx), .int .i64 nm, .int .i64 pl, .slice none 0 0] 29)).keep hkw (by omega))
        have HBZ := hide ((show Blk (((w.alloc (.cells #[.int .u8 3, .string tx, .int .i64 nm, .int .i64 pl, .slice ka kn kc] 29)).alloc (.cells #[.int .u8 0, .string ⟨#[]⟩, .int .i64 0, .int .i64 0, .slice none 0 0] 29)).alloc (.cells #[.int .u8 3, .string (tx), .int .i64 nm, .int .i64 pl, .slice none 0 0] 29)) (w.heap.size + 1) 29 #[.int .u8 0, .string ⟨#[]⟩, .int .i64 0, .int .i64 0, .slice none 0 0] from by have h := Blk.new (w.alloc (.cells #[.int .u8 3, .string tx, .int .i64 nm, .int .i64 pl, .slice ka kn kc] 29)) 29 #[.int .u8 0, .string ⟨#[]⟩, .int .i64 0, .int .i64 0, .slice none 0 0]; rw [World.size_alloc] at h; exact h.alloc _).keep hkw (by omega))
        have hsz := hkw.size
        rw [World.size_alloc, World.size_alloc, World.size_alloc] at hsz
        have HKV := hide hkw; have HBO := hide hbo; have HSL := hide hsl; have HND := hide hnd; have HNX := hide hnx
        have q4 : wr.cell? ⟨w.heap.size, 4, none⟩ = some (.slice ka kn kc) := HBA.out.cell 4
        clear hkw hbo hsl hnd hnx
        by_cases hlt : k < kn
        · have hk1 : (k : Int) < (kn : Int) := by omega
          have hk0 : (0 : Int) ≤ (k : Int) := by omega
          obtain ⟨b1, o1, kd1, tx1, nm1, pl1, ka1, kn1, kc1, t1, hA, _, _, h1, hsz1, hu, f0, f1, f2, f3, f4⟩ := node_at (HR.out.keep HKW.out (fun _ _ => id)) (NodesIn.keep HKW.out (fun _ _ => id) _ _ HC.out) k hlt
          subst hA
          have HI := hide (HIH.out t1 (Nat.le_trans hsz1 HKS.out) (HOK.out _ (List.mem_of_getElem? h1)) (HMK.out _ (List.mem_of_getElem? h1)) (HLK.out _ (List.mem_of_getElem? h1)) wr B F kd1 tx1 nm1 pl1 ka1 kn1 kc1 hu)
          have HT := hide (rens_take (u := u) h1)
          clear hu h1 hsz1
          go_wp2_with
            first
            | (go_at_call 13
               refine HI.out.mono ?_
               rintro e w2 ⟨tx2, A2, n2, c2, rfl, hn2, hk2⟩
               have p5 : (w2.alloc (.cells #[.int .u8 t1.kind, .string tx2, .int .i64 t1.num, .int .i64 t1.place, .slice A2 n2 c2] 29)).cell? ⟨w.heap.size + 1 + 1, 4, none⟩ = some (.slice X k cX) := ((HBO.out.keep hk2 id).alloc _).cell 4
               have hs2 : w.heap.size + 1 + 1 < w2.heap.size := Nat.lt_of_lt_of_le (by omega) hk2.size
               have HN2 := hide hn2; have HK2 := hide hk2
               clear hn2 hk2)
            | (at_builtin
               have HD1 := hide (Blk.new w2 29 #[.int .u8 t1.kind, .string tx2, .int .i64 t1.num, .int .i64 t1.place, .slice A2 n2 c2])
               have hka : Keeps NoB w2 ((w2.alloc (.cells #[.int .u8 t1.kind, .string tx2, .int .i64 t1.num, .int .i64 t1.place, .slice A2 n2 c2] 29)).alloc (.cells #[.int .u8 t1.kind, .string tx2, .int .i64 t1.num, .int .i64 t1.place, .slice A2 n2 c2] 29)) := ((Keeps.refl NoB w2).alloc _).alloc _
               have hxl : ∀ j, rowB X j → j < wr.heap.size := fun j hj => HSL.out.lt hj
               refine wpList_append_any _ rfl (.tmp 45) (.tmp 47) 27 rfl 29 i0 _ 5 64 Tryd.underlying27 ni0 nz0 nz1 nz2 rfl (by omega) X k cX dss.flatten rfl ((HSL.out.fresh HK2.out).fresh hka) (fun _ => True) false (some ⟨w2.heap.size + 1, 0, none⟩) 1 1 [.int .u8 t1.kind, .string tx2, .int .i64 t1.num, .int .i64 t1.place, .slice A2 n2 c2] rfl (nd_reads (by have h := Blk.new (w2.alloc (.cells #[.int .u8 t1.kind, .string tx2, .int .i64 t1.num, .int .i64 t1.place, .slice A2 n2 c2] 29)) 29 #[.int .u8 t1.kind, .string tx2, .int .i64 t1.num, .int .i64 t1.place, .slice A2 n2 c2]; rwa [World.size_alloc] at h)) (by intro v hv; simp only [List.mem_cons, List.not_mem_nil, or_false] at hv; rcases hv with rfl | rfl | rfl | rfl | rfl <;> rfl) (by unfold maxLen; omega) (by omega) ?_
               intro X3 c3 w3 hs3 hk3 hm3
               have hsz2 := HK2.out.size
               have hbX : ∀ j, rowB X3 j → w.heap.size + 3 ≤ j := fun j hj => (hm3 j hj).elim (HNX.out j) (fun e => by rw [World.size_alloc, World.size_alloc] at e; omega)
               have hbo : Blk w3 (w.heap.size + 1 + 1) 29 #[.int .u8 3, .string (tx), .int .i64 nm, .int .i64 pl, .slice X k cX] := ((HBO.out.keep HK2.out id).keep hka id).keep hk3 (fun e => by have := HNX.out _ e; omega)
               have hn3 : NodesIn w3 (fun j => w.heap.size + 3 ≤ j ∧ ¬ rowB X3 j) false (dss ++ [[.int .u8 t1.kind, .string tx2, .int .i64 t1.num, .int .i64 t1.place, .slice A2 n2 c2]]) (rensN u (kids.take (k + 1))) := by
                 rw [HT.out]
                 refine NodesIn.append ?_ (NodesIn.one ?_)
                 · have h1 := NodesIn.keep HK2.out (fun _ _ => id) _ _ HND.out
                   have h2 : NodesIn w2 (fun j => (w.heap.size + 3 ≤ j ∧ ¬ rowB X3 j) ∧ ¬ rowB X j) false dss (rensN u (kids.take k)) :=
                     NodesIn.more (fun j hj e => ⟨⟨e.1, fun h => (hm3 j h).elim e.2 (fun g => by rw [World.size_alloc, World.size_alloc] at g; omega)⟩, e.2⟩) _ _ h1
                   exact NodesIn.more (fun j _ e => e.1) _ _ (NodesIn.keep hk3 (fun j e => e.2) _ _ (NodesIn.keep hka (fun _ _ => id) _ _ h2))
                 · have h2 : NodeIn w2 (fun j => (w.heap.size + 3 ≤ j ∧ ¬ rowB X3 j) ∧ ¬ rowB X j) false [.int .u8 t1.kind, .string tx2, .int .i64 t1.num, .int .i64 t1.place, .slice A2 n2 c2] (renN u t1) :=
                     NodeIn.more (fun j hj e => ⟨⟨by omega, fun h => (hm3 j h).elim (fun g => by have := hxl j g; omega) (fun g => by rw [World.size_alloc, World.size_alloc] at g; omega)⟩, fun g => by have := hxl j g; omega⟩) _ _ HN2.out
                   exact NodeIn.more (fun j _ e => e.1) _ _ (NodeIn.keep hk3 (fun j e => e.2) _ _ (NodeIn.keep hka (fun _ _ => id) _ _ h2))
               have hkw3 : Keeps (fun j => j = w.heap.size + 1 + 1) (((w.alloc (.cells #[.int .u8 3, .string tx, .int .i64 nm, .int .i64 pl, .slice (some ⟨b1, o1, none⟩) kn kc] 29)).alloc (.cells #[.int .u8 0, .string ⟨#[]⟩, .int .i64 0, .int .i64 0, .slice none 0 0] 29)).alloc (.cells #[.int .u8 3, .string (tx), .int .i64 nm, .int .i64 pl, .slice none 0 0] 29)) w3 :=
                 ((HKV.out.trans' HK2.out (fun _ _ e => e) (fun _ _ e => e.elim)).trans' hka (fun _ _ e => e) (fun _ _ e => e.elim)).trans' hk3 (fun _ _ e => e) (fun j hj e => by have := HNX.out j e; rw [World.size_alloc, World.size_alloc, World.size_alloc] at hj; omega)
               have HS3 := hide hs3; have HBX3 := hide hbX; have HBO3 := hide hbo; have HN3 := hide hn3; have HKW3 := hide hkw3
               have p6 : w3.cell? ⟨w.heap.size + 1 + 1, 4, none⟩ = some (.slice X k cX) := hbo.cell 4
               have hnew : w.heap.size + 1 + 1 < w3.heap.size := hbo.lt
               have hfr : w3.frozen? ⟨w.heap.size + 1 + 1, 4, none⟩ = false := hbo.free 4
               clear hs3 hbX hbo hn3 hkw3 hk3 hm3 hka hxl)
            | fail
          go_roundg (kn - (k + 1))
          case measure => omega
          case rel =>
            have hkf : Keeps (fun j => j = w.heap.size + 1 + 1) w3 (w3.setCell ⟨w.heap.size + 1 + 1, 4, none⟩ (.slice X3 (k + 1) c3)) := (Keeps.refl (fun j => j = w.heap.size + 1 + 1) w3).setCell (p := ⟨w.heap.size + 1 + 1, 4, none⟩) (.inl rfl) _
            exact ⟨k + 1, X3, c3, dss ++ [[.int .u8 t1.kind, .string tx2, .int .i64 t1.num, .int .i64 t1.place, .slice A2 n2 c2]], by omega, rfl, by go_num, HKW3.out.trans' hkf (fun _ _ e => e) (fun _ _ e => e), HBO3.out.put 4 _, by rw [List.flatten_append]; exact HS3.out.keep hkf (fun j hj e => by have := HBX3.out j hj; omega), NodesIn.keep hkf (fun j hj e => by have := hj.1; omega) _ _ HN3.out, HBX3.out⟩
        · obtain rfl : k = kn := by omega
          have he : kids.take k = kids := List.take_of_length_le (by have := HKL.out; omega)
          have r0 : wr.cell? ⟨w.heap.size + 1 + 1, 0, none⟩ = some (.int .u8 3) := HBO.out.cell 0
          have r1 : wr.cell? ⟨w.heap.size + 1 + 1, 1, none⟩ = some (.string (tx)) := HBO.out.cell 1
          have r2 : wr.cell? ⟨w.heap.size + 1 + 1, 2, none⟩ = some (.int .i64 nm) := HBO.out.cell 2
          have r3 : wr.cell? ⟨w.heap.size + 1 + 1, 3, none⟩ = some (.int .i64 pl) := HBO.out.cell 3
          have r4 : wr.cell? ⟨w.heap.size + 1 + 1, 4, none⟩ = some (.slice X k cX) := HBO.out.cell 4
          have z0 : wr.cell? ⟨w.heap.size + 1, 0, none⟩ = some (.int .u8 0) := HBZ.out.cell 0
          have z1 : wr.cell? ⟨w.heap.size + 1, 1, none⟩ = some (.string ⟨#[]⟩) := HBZ.out.cell 1
          have z2 : wr.cell? ⟨w.heap.size + 1, 2, none⟩ = some (.int .i64 0) := HBZ.out.cell 2
          have z3 : wr.cell? ⟨w.heap.size + 1, 3, none⟩ = some (.int .i64 0) := HBZ.out.cell 3
          have z4 : wr.cell? ⟨w.heap.size + 1, 4, none⟩ = some (.slice none 0 0) := HBZ.out.cell 4
          have y0 := HBZ.out.free 0
          have y1 := HBZ.out.free 1
          have y2 := HBZ.out.free 2
          have y3 := HBZ.out.free 3
          have y4 := HBZ.out.free 4
          have HE := hide he
          clear he
          go_wp2
          have hb := HBZ.out.put5 (.int .u8 3) (.string (tx)) (.int .i64 nm) (.int .i64 pl) (.slice X k cX)
          have hkf := keeps_put5 wr (w.heap.size + 1) (.int .u8 3) (.string (tx)) (.int .i64 nm) (.int .i64 pl) (.slice X k cX)
          refine bodyPost_ret (results_13 _ (w.heap.size + 1) _ _ _ _ _ _ rfl hb) rfl ?_
          refine ⟨tx, X, k, cX, rfl, ?_, HKW.out.trans' hkf (fun _ _ => id) (fun j hj e => by omega)⟩
          have hm := HND.out
          rw [HE.out] at hm
          simp only [renN, Nd.kind, Nd.num, Nd.place]
          rw [show renT u 3 tx = tx from (by unfold renT; rw [if_neg (fun e => e.2 hu)])]
          unfold NodeIn
          refine ⟨X, k, cX, dss, rfl, ⟨Roomy.small (by omega) (by omega), HSL.out.2.1⟩, ?_, NodesIn.more (fun j _ e => by omega) _ _ (NodesIn.keep hkf (fun j e1 e2 => by have := e1.1; omega) _ _ hm)⟩
          exact ((HSL.out.keep hkf (fun j e1 e2 => by have := HNX.out j e1; omega)).reads.more (fun j _ e => by have := HNX.out j e; omega)).weak
    · have hq : (!tx.toList == [95]) = true := by simpa using hu
      go_enter Tryd.func13, Tryd.ntmps13
      go_wp2
      go_loopg [6, 7] kn (fun g s6 s7 wx => ∃ (k : Nat) (X : Option Addr) (cX : Nat) (dss : List (List Value)), k ≤ kn ∧ g = kn - k ∧ s6 = .int .i64 k ∧
        Keeps (fun j => j = w.heap.size + 1 + 1) (((w.alloc (.cells #[.int .u8 3, .string tx, .int .i64 nm, .int .i64 pl, .slice ka kn kc] 29)).alloc (.cells #[.int .u8 0, .string ⟨#[]⟩, .int .i64 0, .int .i64 0, .slice none 0 0] 29)).alloc (.cells #[.int .u8 3, .string (tx ++ u), .int .i64 nm, .int .i64 pl, .slice none 0 0] 29)) wx ∧
        Blk wx (w.heap.size + 1 + 1) 29 #[.int .u8 3, .string (tx ++ u), .int .i64 nm, .int .i64 pl, .slice X k cX] ∧ Slab wx 29 5 X k cX dss.flatten ∧ NodesIn wx (fun j => w.heap.size + 3 ≤ j ∧ ¬ rowB X j) false dss (rensN u (kids.take k)) ∧ ∀ j, rowB X j → w.heap.size + 3 ≤ j)
      case atStart => exact ⟨0, none, 0, [], Nat.zero_le _, rfl, rfl, Keeps.refl _ _, by have h := Blk.new ((w.alloc (.cells #[.int .u8 3, .string tx, .int .i64 nm, .int .i64 pl, .slice ka kn kc] 29)).alloc (.cells #[.int .u8 0, .string ⟨#[]⟩, .int .i64 0, .int .i64 0, .slice none 0 0] 29)) 29 #[.int .u8 3, .string (tx ++ u), .int .i64 nm, .int .i64 pl, .slice none 0 0]; rwa [World.size_alloc, World.size_alloc] at h, Slab.nil _ _ _, by simp only [List.take_zero, rensN]; unfold NodesIn; trivial, fun j ⟨o, e⟩ => by cases e⟩
      case round =>
        obtain ⟨k, X, cX, dss, hk, rfl, rfl, hkw, hbo, hsl, hnd, hnx⟩ := hrel
        have HKW := hide (((HK0.out.alloc (.cells #[.int .u8 0, .string ⟨#[]⟩, .int .i64 0, .int .i64 0, .slice none 0 0] 29)).alloc (.cells #[.int .u8 3, .string (tx ++ u), .int .i64 nm, .int .i64 pl, .slice none 0 0] 29)).trans' hkw (fun _ _ => id) (fun j hj e => by omega) : Keeps NoB w wr)
        have HBA := hide (((HBX.out.alloc (.cells #[.int .u8 0, .string ⟨#[]⟩, .int .i64 0, .int .i64 0, .slice none 0 0] 29)).alloc (.cells #[.int .u8 3, .string (tx ++ u), .int .i64 nm, .int .i64 pl, .slice none 0 0] 29)).keep hkw (by omega))
        have HBZ := hide ((show Blk (((w.alloc (.cells #[.int .u8 3, .string tx, .int .i64 nm, .int .i64 pl, .slice ka kn kc] 29)).alloc (.cells #[.int .u8 0, .string ⟨#[]⟩, .int .i64 0, .int .i64 0, .slice none 0 0] 29)).alloc (.cells #[.int .u8 3, .string (tx ++ u), .int .i64 nm, .int .i64 pl, .slice none 0 0] 29)) (w.heap.size + 1) 29 #[.int .u8 0, .string ⟨#[]⟩, .int .i64 0, .int .i64 0, .slice none 0 0] from by have h := Blk.new (w.alloc (.cells #[.int .u8 3, .string tx, .int .i64 nm, .int .i64 pl, .slice ka kn kc] 29)) 29 #[.int .u8 0, .string ⟨#[]⟩, .int .i64 0, .int .i64 0, .slice none 0 0]; rw [World.size_alloc] at h; exact h.alloc _).keep hkw (by omega))
        have hsz := hkw.size
        rw [World.size_alloc, World.size_alloc, World.size_alloc] at hsz
        have HKV := hide hkw; have HBO := hide hbo; have HSL := hide hsl; have HND := hide hnd; have HNX := hide hnx
        have q4 : wr.cell? ⟨w.heap.size, 4, none⟩ = some (.slice ka kn kc) := HBA.out.cell 4
        clear hkw hbo hsl hnd hnx
        by_cases hlt : k < kn
        · have hk1 : (k : Int) < (kn : Int) := by omega
          have hk0 : (0 : Int) ≤ (k : Int) := by omega
          obtain ⟨b1, o1, kd1, tx1, nm1, pl1, ka1, kn1, kc1, t1, hA, _, _, h1, hsz1, hu, f0, f1, f2, f3, f4⟩ := node_at (HR.out.keep HKW.out (fun _ _ => id)) (NodesIn.keep HKW.out (fun _ _ => id) _ _ HC.out) k hlt
          subst hA
          have HI := hide (HIH.out t1 (Nat.le_trans hsz1 HKS.out) (HOK.out _ (List.mem_of_getElem? h1)) (HMK.out _ (List.mem_of_getElem? h1)) (HLK.out _ (List.mem_of_getElem? h1)) wr B F kd1 tx1 nm1 pl1 ka1 kn1 kc1 hu)
          have HT := hide (rens_take (u := u) h1)
          clear hu h1 hsz1
          go_wp2_with
            first
            | (go_at_call 13
               refine HI.out.mono ?_
               rintro e w2 ⟨tx2, A2, n2, c2, rfl, hn2, hk2⟩
               have p5 : (w2.alloc (.cells #[.int .u8 t1.kind, .string tx2, .int .i64 t1.num, .int .i64 t1.place, .slice A2 n2 c2] 29)).cell? ⟨w.heap.size + 1 + 1, 4, none⟩ = some (.slice X k cX) := ((HBO.out.keep hk2 id).alloc _).cell 4
               have hs2 : w.heap.size + 1 + 1 < w2.heap.size := Nat.lt_of_lt_of_le (by omega) hk2.size
               have HN2 := hide hn2; have HK2 := hide hk2
               clear hn2 hk2)
            | (at_builtin
               have HD1 := hide (Blk.new w2 29 #[.int .u8 t1.kind, .string tx2, .int .i64 t1.num, .int .i64 t1.place, .slice A2 n2 c2])
               have hka : Keeps NoB w2 ((w2.alloc (.cells #[.int .u8 t1.kind, .string tx2, .int .i64 t1.num, .int .i64 t1.place, .slice A2 n2 c2] 29)).alloc (.cells #[.int .u8 t1.kind, .string tx2, .int .i64 t1.num, .int .i64 t1.place, .slice A2 n2 c2] 29)) := ((Keeps.refl NoB w2).alloc _).alloc _
               have hxl : ∀ j, rowB X j → j < wr.heap.size := fun j hj => HSL.out.lt hj
               refine wpList_append_any _ rfl (.tmp 45) (.tmp 47) 27 rfl 29 i0 _ 5 64 Tryd.underlying27 ni0 nz0 nz1 nz2 rfl (by omega) X k cX dss.flatten rfl ((HSL.out.fresh HK2.out).fresh hka) (fun _ => True) false (some ⟨w2.heap.size + 1, 0, none⟩) 1 1 [.int .u8 t1.kind, .string tx2, .int .i64 t1.num, .int .i64 t1.place, .slice A2 n2 c2] rfl (nd_reads (by have h := Blk.new (w2.alloc (.cells #[.int .u8 t1.kind, .string tx2, .int .i64 t1.num, .int .i64 t1.place, .slice A2 n2 c2] 29)) 29 #[.int .u8 t1.kind, .string tx2, .int .i64 t1.num, .int .i64 t1.place, .slice A2 n2 c2]; rwa [World.size_alloc] at h)) (by intro v hv; simp only [List.mem_cons, List.not_mem_nil, or_false] at hv; rcases hv with rfl | rfl | rfl | rfl | rfl <;> rfl) (by unfold maxLen; omega) (by omega) ?_
               intro X3 c3 w3 hs3 hk3 hm3
               have hsz2 := HK2.out.size
               have hbX : ∀ j, rowB X3 j → w.heap.size + 3 ≤ j := fun j hj => (hm3 j hj).elim (HNX.out j) (fun e => by rw [World.size_alloc, World.size_alloc] at e; omega)
               have hbo : Blk w3 (w.heap.size + 1 + 1) 29 #[.int .u8 3, .string (tx ++ u), .int .i64 nm, .int .i64 pl, .slice X k cX] := ((HBO.out.keep HK2.out id).keep hka id).keep hk3 (fun e => by have := HNX.out _ e; omega)
               have hn3 : NodesIn w3 (fun j => w.heap.size + 3 ≤ j ∧ ¬ rowB X3 j) false (dss ++ [[.int .u8 t1.kind, .string tx2, .int .i64 t1.num, .int .i64 t1.place, .slice A2 n2 c2]]) (rensN u (kids.take (k + 1))) := by
                 rw [HT.out]
                 refine NodesIn.append ?_ (NodesIn.one ?_)
                 · have h1 := NodesIn.keep HK2.out (fun _ _ => id) _ _ HND.out
                   have h2 : NodesIn w2 (fun j => (w.heap.size + 3 ≤ j ∧ ¬ rowB X3 j) ∧ ¬ rowB X j) false dss (rensN u (kids.take k)) :=
                     NodesIn.more (fun j hj e => ⟨⟨e.1, fun h => (hm3 j h).elim e.2 (fun g => by rw [World.size_alloc, World.size_alloc] at g; omega)⟩, e.2⟩) _ _ h1
                   exact NodesIn.more (fun j _ e => e.1) _ _ (NodesIn.keep hk3 (fun j e => e.2) _ _ (NodesIn.keep hka (fun _ _ => id) _ _ h2))
                 · have h2 : NodeIn w2 (fun j => (w.heap.size + 3 ≤ j ∧ ¬ rowB X3 j) ∧ ¬ rowB X j) false [.int .u8 t1.kind, .string tx2, .int .i64 t1.num, .int .i64 t1.place, .slice A2 n2 c2] (renN u t1) :=
                     NodeIn.more (fun j hj e => ⟨⟨by omega, fun h => (hm3 j h).elim (fun g => by have := hxl j g; omega) (fun g => by rw [World.size_alloc, World.size_alloc] at g; omega)⟩, fun g => by have := hxl j g; omega⟩) _ _ HN2.out
                   exact NodeIn.more (fun j _ e => e.1) _ _ (NodeIn.keep hk3 (fun j e => e.2) _ _ (NodeIn.keep hka (fun _ _ => id) _ _ h2))
               have hkw3 : Keeps (fun j => j = w.heap.size + 1 + 1) (((w.alloc (.cells #[.int .u8 3, .string tx, .int .i64 nm, .int .i64 pl, .slice (some ⟨b1, o1, none⟩) kn kc] 29)).alloc (.cells #[.int .u8 0, .string ⟨#[]⟩, .int .i64 0, .int .i64 0, .slice none 0 0] 29)).alloc (.cells #[.int .u8 3, .string (tx ++ u), .int .i64 nm, .int .i64 pl, .slice none 0 0] 29)) w3 :=
                 ((HKV.out.trans' HK2.out (fun _ _ e => e) (fun _ _ e => e.elim)).trans' hka (fun _ _ e => e) (fun _ _ e => e.elim)).trans' hk3 (fun _ _ e => e) (fun j hj e => by have := HNX.out j e; rw [World.size_alloc, World.size_alloc, World.size_alloc] at hj; omega)
               have HS3 := hide hs3; have HBX3 := hide hbX; have HBO3 := hide hbo; have HN3 := hide hn3; have HKW3 := hide hkw3
               have p6 : w3.cell? ⟨w.heap.size + 1 + 1, 4, none⟩ = some (.slice X k cX) := hbo.cell 4
               have hnew : w.heap.size + 1 + 1 < w3.heap.size := hbo.lt
               have hfr : w3.frozen? ⟨w.heap.size + 1 + 1, 4, none⟩ = false := hbo.free 4
               clear hs3 hbX hbo hn3 hkw3 hk3 hm3 hka hxl)
            | fail
          go_roundg (kn - (k + 1))
          case measure => omega
          case rel =>
            have hkf : Keeps (fun j => j = w.heap.size + 1 + 1) w3 (w3.setCell ⟨w.heap.size + 1 + 1, 4, none⟩ (.slice X3 (k + 1) c3)) := (Keeps.refl (fun j => j = w.heap.size + 1 + 1) w3).setCell (p := ⟨w.heap.size + 1 + 1, 4, none⟩) (.inl rfl) _
            exact ⟨k + 1, X3, c3, dss ++ [[.int .u8 t1.kind, .string tx2, .int .i64 t1.num, .int .i64 t1.place, .slice A2 n2 c2]], by omega, rfl, by go_num, HKW3.out.trans' hkf (fun _ _ e => e) (fun _ _ e => e), HBO3.out.put 4 _, by rw [List.flatten_append]; exact HS3.out.keep hkf (fun j hj e => by have := HBX3.out j hj; omega), NodesIn.keep hkf (fun j hj e => by have := hj.1; omega) _ _ HN3.out, HBX3.out⟩
        · obtain rfl : k = kn := by omega
          have he : kids.take k = kids := List.take_of_length_le (by have := HKL.out; omega)
          have r0 : wr.cell? ⟨w.heap.size + 1 + 1, 0, none⟩ = some (.int .u8 3) := HBO.out.cell 0
          have r1 : wr.cell? ⟨w.heap.size + 1 + 1, 1, none⟩ = some (.string (tx ++ u)) := HBO.out.cell 1
          have r2 : wr.cell? ⟨w.heap.size + 1 + 1, 2, none⟩ = some (.int .i64 nm) := HBO.out.cell 2
          have r3 : wr.cell? ⟨w.heap.size + 1 + 1, 3, none⟩ = some (.int .i64 pl) := HBO.out.cell 3
          have r4 : wr.cell? ⟨w.heap.size + 1 + 1, 4, none⟩ = some (.slice X k cX) := HBO.out.cell 4
          have z0 : wr.cell? ⟨w.heap.size + 1, 0, none⟩ = some (.int .u8 0) := HBZ.out.cell 0
          have z1 : wr.cell? ⟨w.heap.size + 1, 1, none⟩ = some (.string ⟨#[]⟩) := HBZ.out.cell 1
          have z2 : wr.cell? ⟨w.heap.size + 1, 2, none⟩ = some (.int .i64 0) := HBZ.out.cell 2
          have z3 : wr.cell? ⟨w.heap.size + 1, 3, none⟩ = some (.int .i64 0) := HBZ.out.cell 3
          have z4 : wr.cell? ⟨w.heap.size + 1, 4, none⟩ = some (.slice none 0 0) := HBZ.out.cell 4
          have y0 := HBZ.out.free 0
          have y1 := HBZ.out.free 1
          have y2 := HBZ.out.free 2
          have y3 := HBZ.out.free 3
          have y4 := HBZ.out.free 4
          have HE := hide he
          clear he
          go_wp2
          have hb := HBZ.out.put5 (.int .u8 3) (.string (tx ++ u)) (.int .i64 nm) (.int .i64 pl) (.slice X k cX)
          have hkf := keeps_put5 wr (w.heap.size + 1) (.int .u8 3) (.string (tx ++ u)) (.int .i64 nm) (.int .i64 pl) (.slice X k cX)
          refine bodyPost_ret (results_13 _ (w.heap.size + 1) _ _ _ _ _ _ rfl hb) rfl ?_
          refine ⟨tx ++ u, X, k, cX, rfl, ?_, HKW.out.trans' hkf (fun _ _ => id) (fun j hj e => by omega)⟩
          have hm := HND.out
          rw [HE.out] at hm
          simp only [renN, Nd.kind, Nd.num, Nd.place]
          rw [show renT u 3 tx = tx ++ u from (by unfold renT; rw [if_pos ⟨rfl, hu⟩])]
          unfold NodeIn
          refine ⟨X, k, cX, dss, rfl, ⟨Roomy.small (by omega) (by omega), HSL.out.2.1⟩, ?_, NodesIn.more (fun j _ e => by omega) _ _ (NodesIn.keep hkf (fun j e1 e2 => by have := e1.1; omega) _ _ hm)⟩
          exact ((HSL.out.keep hkf (fun j e1 e2 => by have := HNX.out j e1; omega)).reads.more (fun j _ e => by have := HNX.out j e; omega)).weak
  · have hkb : (kd == 3) = false := by simpa using h3
    go_enter Tryd.func13, Tryd.ntmps13
    go_wp2
    go_loopg [6, 7] kn (fun g s6 s7 wx => ∃ (k : Nat) (X : Option Addr) (cX : Nat) (dss : List (List Value)), k ≤ kn ∧ g = kn - k ∧ s6 = .int .i64 k ∧
      Keeps (fun j => j = w.heap.size + 1 + 1) (((w.alloc (.cells #[.int .u8 kd, .string tx, .int .i64 nm, .int .i64 pl, .slice ka kn kc] 29)).alloc (.cells #[.int .u8 0, .string ⟨#[]⟩, .int .i64 0, .int .i64 0, .slice none 0 0] 29)).alloc (.cells #[.int .u8 kd, .string (tx), .int .i64 nm, .int .i64 pl, .slice none 0 0] 29)) wx ∧
      Blk wx (w.heap.size + 1 + 1) 29 #[.int .u8 kd, .string (tx), .int .i64 nm, .int .i64 pl, .slice X k cX] ∧ Slab wx 29 5 X k cX dss.flatten ∧ NodesIn wx (fun j => w.heap.size + 3 ≤ j ∧ ¬ rowB X j) false dss (rensN u (kids.take k)) ∧ ∀ j, rowB X j → w.heap.size + 3 ≤ j)
    case atStart => exact ⟨0, none, 0, [], Nat.zero_le _, rfl, rfl, Keeps.refl _ _, by have h := Blk.new ((w.alloc (.cells #[.int .u8 kd, .string tx, .int .i64 nm, .int .i64 pl, .slice ka kn kc] 29)).alloc (.cells #[.int .u8 0, .string ⟨#[]⟩, .int .i64 0, .int .i64 0, .slice none 0 0] 29)) 29 #[.int .u8 kd, .string (tx), .int .i64 nm, .int .i64 pl, .slice none 0 0]; rwa [World.size_alloc, World.size_alloc] at h, Slab.nil _ _ _, by simp only [List.take_zero, rensN]; unfold NodesIn; trivial, fun j ⟨o, e⟩ => by cases e⟩
    case round =>
      obtain ⟨k, X, cX, dss, hk, rfl, rfl, hkw, hbo, hsl, hnd, hnx⟩ := hrel
      have HKW := hide (((HK0.out.alloc (.cells #[.int .u8 0, .string ⟨#[]⟩, .int .i64 0, .int .i64 0, .slice none 0 0] 29)).alloc (.cells #[.int .u8 kd, .string (tx), .int .i64 nm, .int .i64 pl, .slice none 0 0] 29)).trans' hkw (fun _ _ => id) (fun j hj e => by omega) : Keeps NoB w wr)
      have HBA := hide (((HBX.out.alloc (.cells #[.int .u8 0, .string ⟨#[]⟩, .int .i64 0, .int .i64 0, .slice none 0 0] 29)).alloc (.cells #[.int .u8 kd, .string (tx), .int .i64 nm, .int .i64 pl, .slice none 0 0] 29)).keep hkw (by omega))
      have HBZ := hide ((show Blk (((w.alloc (.cells #[.int .u8 kd, .string tx, .int .i64 nm, .int .i64 pl, .slice ka kn kc] 29)).alloc (.cells #[.int .u8 0, .string ⟨#[]⟩, .int .i64 0, .int .i64 0, .slice none 0 0] 29)).alloc (.cells #[.int .u8 kd, .string (tx), .int .i64 nm, .int .i64 pl, .slice none 0 0] 29)) (w.heap.size + 1) 29 #[.int .u8 0, .string ⟨#[]⟩, .int .i64 0, .int .i64 0, .slice none 0 0] from by have h := Blk.new (w.alloc (.cells #[.int .u8 kd, .string tx, .int .i64 nm, .int .i64 pl, .slice ka kn kc] 29)) 29 #[.int .u8 0, .string ⟨#[]⟩, .int .i64 0, .int .i64 0, .slice none 0 0]; rw [World.size_alloc] at h; exact h.alloc _).keep hkw (by omega))
      have hsz := hkw.size
      rw [World.size_alloc, World.size_alloc, World.size_alloc] at hsz
      have HKV := hide hkw; have HBO := hide hbo; have HSL := hide hsl; have HND := hide hnd; have HNX := hide hnx
      have q4 : wr.cell? ⟨w.heap.size, 4, none⟩ = some (.slice ka kn kc) := HBA.out.cell 4
      clear hkw hbo hsl hnd hnx
      by_cases hlt : k < kn
      · have hk1 : (k : Int) < (kn : Int) := by omega
        have hk0 : (0 : Int) ≤ (k : Int) := by omega
        obtain ⟨b1, o1, kd1, tx1, nm1, pl1, ka1, kn1, kc1, t1, hA, _, _, h1, hsz1, hu, f0, f1, f2, f3, f4⟩ := node_at (HR.out.keep HKW.out (fun _ _ => id)) (NodesIn.keep HKW.out (fun _ _ => id) _ _ HC.out) k hlt
        subst hA
        have HI := hide (HIH.out t1 (Nat.le_trans hsz1 HKS.out) (HOK.out _ (List.mem_of_getElem? h1)) (HMK.out _ (List.mem_of_getElem? h1)) (HLK.out _ (List.mem_of_getElem? h1)) wr B F kd1 tx1 nm1 pl1 ka1 kn1 kc1 hu)
        have HT := hide (rens_take (u := u) h1)
        clear hu h1 hsz1
        go_wp2_with
          first
          | (go_at_call 13
             refine HI.out.mono ?_
             rintro e w2 ⟨tx2, A2, n2, c2, rfl, hn2, hk2⟩
             have p5 : (w2.alloc (.cells #[.int .u8 t1.kind, .string tx2, .int .i64 t1.num, .int .i64 t1.place, .slice A2 n2 c2] 29)).cell? ⟨w.heap.size + 1 + 1, 4, none⟩ = some (.slice X k cX) := ((HBO.out.keep hk2 id).alloc _).cell 4
             have hs2 : w.heap.size + 1 + 1 < w2.heap.size := Nat.lt_of_lt_of_le (by omega) hk2.size
             have HN2 := hide hn2; have HK2 := hide hk2
             clear hn2 hk2)
          | (at_builtin
             have HD1 := hide (Blk.new w2 29 #[.int .u8 t1.kind, .string tx2, .int .i64 t1.num, .int .i64 t1.place, .slice A2 n2 c2])
             have hka : Keeps NoB w2 ((w2.alloc (.cells #[.int .u8 t1.kind, .string tx2, .int .i64 t1.num, .int .i64 t1.place, .slice A2 n2 c2] 29)).alloc (.cells #[.int .u8 t1.kind, .string tx2, .int .i64 t1.num, .int .i64 t1.place, .slice A2 n2 c2] 29)) := ((Keeps.refl NoB w2).alloc _).alloc _
             have hxl : ∀ j, rowB X j → j < wr.heap.size := fun j hj => HSL.out.lt hj
             refine wpList_append_any _ rfl (.tmp 45) (.tmp 47) 27 rfl 29 i0 _ 5 64 Tryd.underlying27 ni0 nz0 nz1 nz2 rfl (by omega) X k cX dss.flatten rfl ((HSL.out.fresh HK2.out).fresh hka) (fun _ => True) false (some ⟨w2.heap.size + 1, 0, none⟩) 1 1 [.int .u8 t1.kind, .string tx2, .int .i64 t1.num, .int .i64 t1.place, .slice A2 n2 c2] rfl (nd_reads (by have h := Blk.new (w2.alloc (.cells #[.int .u8 t1.kind, .string tx2, .int .i64 t1.num, .int .i64 t1.place, .slice A2 n2 c2] 29)) 29 #[.int .u8 t1.kind, .string tx2, .int .i64 t1.num, .int .i64 t1.place, .slice A2 n2 c2]; rwa [World.size_alloc] at h)) (by intro v hv; simp only [List.mem_cons, List.not_mem_nil, or_false] at hv; rcases hv with rfl | rfl | rfl | rfl | rfl <;> rfl) (by unfold maxLen; omega) (by omega) ?_
             intro X3 c3 w3 hs3 hk3 hm3
             have hsz2 := HK2.out.size
             have hbX : ∀ j, rowB X3 j → w.heap.size + 3 ≤ j := fun j hj => (hm3 j hj).elim (HNX.out j) (fun e => by rw [World.size_alloc, World.size_alloc] at e; omega)
             have hbo : Blk w3 (w.heap.size + 1 + 1) 29 #[.int .u8 kd, .string (tx), .int .i64 nm, .int .i64 pl, .slice X k cX] := ((HBO.out.keep HK2.out id).keep hka id).keep hk3 (fun e => by have := HNX.out _ e; omega)
             have hn3 : NodesIn w3 (fun j => w.heap.size + 3 ≤ j ∧ ¬ rowB X3 j) false (dss ++ [[.int .u8 t1.kind, .string tx2, .int .i64 t1.num, .int .i64 t1.place, .slice A2 n2 c2]]) (rensN u (kids.take (k + 1))) := by
               rw [HT.out]
               refine NodesIn.append ?_ (NodesIn.one ?_)
               · have h1 := NodesIn.keep HK2.out (fun _ _ => id) _ _ HND.out
                 have h2 : NodesIn w2 (fun j => (w.heap.size + 3 ≤ j ∧ ¬ rowB X3 j) ∧ ¬ rowB X j) false dss (rensN u (kids.take k)) :=
                   NodesIn.more (fun j hj e => ⟨⟨e.1, fun h => (hm3 j h).elim e.2 (fun g => by rw [World.size_alloc, World.size_alloc] at g; omega)⟩, e.2⟩) _ _ h1
                 exact NodesIn.more (fun j _ e => e.1) _ _ (NodesIn.keep hk3 (fun j e => e.2) _ _ (NodesIn.keep hka (fun _ _ => id) _ _ h2))
               · have h2 : NodeIn w2 (fun j => (w.heap.size + 3 ≤ j ∧ ¬ rowB X3 j) ∧ ¬ rowB X j) false [.int .u8 t1.kind, .string tx2, .int .i64 t1.num, .int .i64 t1.place, .slice A2 n2 c2] (renN u t1) :=
                   NodeIn.more (fun j hj e => ⟨⟨by omega, fun h => (hm3 j h).elim (fun g => by have := hxl j g; omega) (fun g => by rw [World.size_alloc, World.size_alloc] at g; omega)⟩, fun g => by have := hxl j g; omega⟩) _ _ HN2.out
                 exact NodeIn.more (fun j _ e => e.1) _ _ (NodeIn.keep hk3 (fun j e => e.2) _ _ (NodeIn.keep hka (fun _ _ => id) _ _ h2))
             have hkw3 : Keeps (fun j => j = w.heap.size + 1 + 1) (((w.alloc (.cells #[.int .u8 kd, .string tx, .int .i64 nm, .int .i64 pl, .slice (some ⟨b1, o1, none⟩) kn kc] 29)).alloc (.cells #[.int .u8 0, .string ⟨#[]⟩, .int .i64 0, .int .i64 0, .slice none 0 0] 29)).alloc (.cells #[.int .u8 kd, .string (tx), .int .i64 nm, .int .i64 pl, .slice none 0 0] 29)) w3 :=
               ((HKV.out.trans' HK2.out (fun _ _ e => e) (fun _ _ e => e.elim)).trans' hka (fun _ _ e => e) (fun _ _ e => e.elim)).trans' hk3 (fun _ _ e => e) (fun j hj e => by have := HNX.out j e; rw [World.size_alloc, World.size_alloc, World.size_alloc] at hj; omega)
             have HS3 := hide hs3; have HBX3 := hide hbX; have HBO3 := hide hbo; have HN3 := hide hn3; have HKW3 := hide hkw3
             have p6 : w3.cell? ⟨w.heap.size + 1 + 1, 4, none⟩ = some (.slice X k cX) := hbo.cell 4
             have hnew : w.heap.size + 1 + 1 < w3.heap.size := hbo.lt
             have hfr : w3.frozen? ⟨w.heap.size + 1 + 1, 4, none⟩ = false := hbo.free 4
             clear hs3 hbX hbo hn3 hkw3 hk3 hm3 hka hxl)
          | fail
        go_roundg (kn - (k + 1))
        case measure => omega
        case rel =>
          have hkf : Keeps (fun j => j = w.heap.size + 1 + 1) w3 (w3.setCell ⟨w.heap.size + 1 + 1, 4, none⟩ (.slice X3 (k + 1) c3)) := (Keeps.refl (fun j => j = w.heap.size + 1 + 1) w3).setCell (p := ⟨w.heap.size + 1 + 1, 4, none⟩) (.inl rfl) _
          exact ⟨k + 1, X3, c3, dss ++ [[.int .u8 t1.kind, .string tx2, .int .i64 t1.num, .int .i64 t1.place, .slice A2 n2 c2]], by omega, rfl, by go_num, HKW3.out.trans' hkf (fun _ _ e => e) (fun _ _ e => e), HBO3.out.put 4 _, by rw [List.flatten_append]; exact HS3.out.keep hkf (fun j hj e => by have := HBX3.out j hj; omega), NodesIn.keep hkf (fun j hj e => by have := hj.1; omega) _ _ HN3.out, HBX3.out⟩
      · obtain rfl : k = kn := by omega
        have he : kids.take k = kids := List.take_of_length_le (by have := HKL.out; omega)
        have r0 : wr.cell? ⟨w.heap.size + 1 + 1, 0, none⟩ = some (.int .u8 kd) := HBO.out.cell 0
        have r1 : wr.cell? ⟨w.heap.size + 1 + 1, 1, none⟩ = some (.string (tx)) := HBO.out.cell 1
        have r2 : wr.cell? ⟨w.heap.size + 1 + 1, 2, none⟩ = some (.int .i64 nm) := HBO.out.cell 2
        have r3 : wr.cell? ⟨w.heap.size + 1 + 1, 3, none⟩ = some (.int .i64 pl) := HBO.out.cell 3
        have r4 : wr.cell? ⟨w.heap.size + 1 + 1, 4, none⟩ = some (.slice X k cX) := HBO.out.cell 4
        have z0 : wr.cell? ⟨w.heap.size + 1, 0, none⟩ = some (.int .u8 0) := HBZ.out.cell 0
        have z1 : wr.cell? ⟨w.heap.size + 1, 1, none⟩ = some (.string ⟨#[]⟩) := HBZ.out.cell 1
        have z2 : wr.cell? ⟨w.heap.size + 1, 2, none⟩ = some (.int .i64 0) := HBZ.out.cell 2
        have z3 : wr.cell? ⟨w.heap.size + 1, 3, none⟩ = some (.int .i64 0) := HBZ.out.cell 3
        have z4 : wr.cell? ⟨w.heap.size + 1, 4, none⟩ = some (.slice none 0 0) := HBZ.out.cell 4
        have y0 := HBZ.out.free 0
        have y1 := HBZ.out.free 1
        have y2 := HBZ.out.free 2
        have y3 := HBZ.out.free 3
        have y4 := HBZ.out.free 4
        have HE := hide he
        clear he
        go_wp2
        have hb := HBZ.out.put5 (.int .u8 kd) (.string (tx)) (.int .i64 nm) (.int .i64 pl) (.slice X k cX)
        have hkf := keeps_put5 wr (w.heap.size + 1) (.int .u8 kd) (.string (tx)) (.int .i64 nm) (.int .i64 pl) (.slice X k cX)
        refine bodyPost_ret (results_13 _ (w.heap.size + 1) _ _ _ _ _ _ rfl hb) rfl ?_
        refine ⟨tx, X, k, cX, rfl, ?_, HKW.out.trans' hkf (fun _ _ => id) (fun j hj e => by omega)⟩
        have hm := HND.out
        rw [HE.out] at hm
        simp only [renN, Nd.kind, Nd.num, Nd.place]
        rw [show renT u kd tx = tx from (by unfold renT; rw [if_neg (fun e => h3 e.1)])]
        unfold NodeIn
        refine ⟨X, k, cX, dss, rfl, ⟨Roomy.small (by omega) (by omega), HSL.out.2.1⟩, ?_, NodesIn.more (fun j _ e => by omega) _ _ (NodesIn.keep hkf (fun j e1 e2 => by have := e1.1; omega) _ _ hm)⟩
        exact ((HSL.out.keep hkf (fun j e1 e2 => by have := HNX.out j e1; omega)).reads.more (fun j _ e => by have := HNX.out j e; omega)).weak
theorem ren_any (u : ByteArray) (t : Nd) (ho : okN t) (hmn : manyN t ≤ 1000000) (hlg : longN t + u.size ≤ 40) (w : World) (B : Nat → Prop) (F : Bool) (kd : Int) (tx : ByteArray) (nm pl : Int) (ka : Option Addr) (kn kc : Nat) (ht : NodeIn w B F [.int .u8 kd, .string tx, .int .i64 nm, .int .i64 pl, .slice ka kn kc] t) :
    Calls Tryd.prog 13 #[.agg #[.int .u8 kd, .string tx, .int .i64 nm, .int .i64 pl, .slice ka kn kc], .string u] w (RenP u t w) := by
  have H : ∀ M, RenSaid M u := by
    intro M
    induction M with
    | zero => intro t h; have := t.size_pos; omega
    | succ M IH => intro t h ho hmn hlg w B F kd tx nm pl ka kn kc ht; exact ren_walk M u IH t h ho hmn hlg w B F kd tx nm pl ka kn kc ht
  exact H _ t (Nat.le_refl _) ho hmn hlg w B F kd tx nm pl ka kn kc ht
end Go.Proofs.YtincajfanhanjaaDoor
