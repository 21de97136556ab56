/- Text: an integer's digits. -/
import Derived.Test.YtfehciiidmgopaaBytes
namespace Go.Proofs.Ytfehciiidmgopaa
open Go.RowKit


theorem Try.info5 : (Try.prog.info? 5).map (fun i => (i.zero, i.size, i.bytes)) = some (some (.int .u8 0), 1, 1) := by kernel_rfl
theorem big_ten : Big ≤ 10 ^ 309 := by rw [Big_eq]; decide +kernel
/-- The decimal digits as bytes, the lowest first. -/
def dd (N : Nat) : List Nat := (decs N).map (48 + ·)
theorem dd_len {N : Nat} (h : N < Big) : (dd N).length ≤ 309 := by
  unfold dd; rw [List.length_map]; exact decs_len (Nat.lt_of_lt_of_le h big_ten)
theorem one_reads {w : World} {vb : Nat} {t : TypeId} {v : Value} (hv : Blk w vb t #[v]) : Reads w (fun _ => True) true 1 (some ⟨vb, 0, none⟩) 1 [v] := by
  refine ⟨rfl, fun _ => ⟨_, rfl, rfl, trivial, hv.lt, fun j u hu => ?_⟩⟩
  have hj : j < 1 := (List.getElem?_eq_some_iff.1 hu).1
  obtain rfl : j = 0 := by omega
  exact ⟨(hv.cell _).trans hu, fun _ => hv.free _⟩
theorem set7_size {w : World} {g : Nat} (v0 v1 v2 v3 v4 v5 v6 : Value) : (((((((w.setCell ⟨g, 0, none⟩ v0).setCell ⟨g, 1, none⟩ v1).setCell ⟨g, 2, none⟩ v2).setCell ⟨g, 3, none⟩ v3).setCell ⟨g, 4, none⟩ v4).setCell ⟨g, 5, none⟩ v5).setCell ⟨g, 6, none⟩ v6).heap.size = w.heap.size := by
  simp [World.setCell]
theorem dd_step {N : Nat} (h : 0 < N) : dd N = (48 + N % 10) :: dd (N / 10) := by
  unfold dd; rw [decs_pos (by omega)]; rfl

structure TxtAt (w : World) (T : List Nat) (N g : Nat) (ngl : Bool) (A : Option Addr) (n c : Nat) (ia ta : Option Addr) (ic tc : Nat) (A2 : Option Addr) (m c2 : Nat) (wr : World) : Prop where
  keep : Keeps NoB w wr
  blk : Blk wr g 26 #[.int .u8 1, .bool ngl, .slice A n c, .string { data := #[] }, .int .i64 0, .slice ia 0 ic, .slice ta 0 tc]
  limbs : LimbsIn wr (fun k => ¬ rowB A2 k) A n c (dig N)
  hg : w.heap.size ≤ g
  slab : ∃ bs, Slab wr 5 1 A2 m c2 (u8s bs) ∧ bs ++ dd N = T
  new : ∀ k, rowB A2 k → w.heap.size ≤ k
  big : N < Big

theorem TxtAt.len {w wr : World} {T : List Nat} {N g : Nat} {ngl : Bool} {A ia ta A2 : Option Addr} {n c ic tc m c2 : Nat} (h : TxtAt w T N g ngl A n c ia ta ic tc A2 m c2 wr) : m ≤ T.length := by
  obtain ⟨bs, hs, e⟩ := h.slab
  have h1 := hs.1
  rw [u8s_len] at h1
  rw [← e, List.length_append]; omega

theorem Slab.row {w : World} {e : TypeId} {size n c : Nat} {A : Option Addr} {xs : List Value} (h : Slab w e size A n c xs) (hn : 0 < n) : ∃ R o, A = some ⟨R, o, none⟩ := by
  obtain ⟨_, hc, _, ⟨_, h0⟩ | ⟨g, o, _, h0, _⟩⟩ := h
  · omega
  · exact ⟨g, o, h0⟩
theorem str_run {w : World} {R o n c : Nat} {L : List Nat} (h : Slab w 5 1 (some ⟨R, o, none⟩) n c (u8s L)) (hb : ∀ x ∈ L, x < 256) : (convert 63 9 (.slice (some ⟨R, o, none⟩) n c)).run Try.prog w = .ok (.string (strOf L)) w := by
  have hl : L.length = n := by have := h.1; rw [u8s_len] at this; omega
  have hm : (L.map UInt8.ofNat).length = n := by rw [List.length_map, hl]
  have := run_convert_bytes_back (P := Try.prog) w 63 9 5 ⟨R, o, none⟩ c (L.map UInt8.ofNat) Try.underlying63 Try.underlying5 Try.underlying9 (fun j hj => by
    rw [hm] at hj
    rw [Addr.add_eq _ _ rfl, (slab_cell h (u8s_get (by omega))).1, List.getD_eq_getElem?_getD, List.getElem?_eq_getElem (by omega), List.getElem_map]
    have := hb _ (List.getElem_mem (l := L) (n := j) (by omega))
    simp [UInt8.toNat_ofNat_of_lt' (n := L[j]'(by omega)) (by simpa using this)])
  rw [hm] at this
  exact this
theorem dd_small {N : Nat} : ∀ x ∈ dd N, x < 256 := by
  unfold dd
  intro x hx
  obtain ⟨d, hd, rfl⟩ := List.mem_map.1 hx
  have := decs_lt N d hd
  omega
theorem dd_pos {N : Nat} (h : 0 < N) : 0 < (dd N).length := by rw [dd_step h]; simp
/-- The bytes of an integer's text. -/
def txtL (z : Int) : List Nat := (if z < 0 then [45] else []) ++ (if z = 0 then [48] else (dd z.natAbs).reverse)
def txt (z : Int) : ByteArray := strOf (txtL z)
theorem TxtAt.step {w w4 w5 : World} {T bs : List Nat} {N r M n3 c3 m c5 : Nat} {A2 A3 A5 : Option Addr} (hk4 : Keeps NoB w w4) (hs : bs ++ dd N = T) (hnew : ∀ k, rowB A2 k → w.heap.size ≤ k) (hL : LimbsIn w4 (fun k => ¬ rowB A2 k ∧ k < w4.heap.size) A3 n3 c3 (dig M))
    (h1 : Slab w5 5 1 A5 (m + 1) c5 (u8s bs ++ [.int .u8 (48 + (r : Int))])) (h2 : Keeps (rowB A2) w4 w5) (h3 : Moved w4 A2 A5) (hN : M * 10 + r = N) (hr : r < 10) (hbig : N < Big) (hpos : 0 < N) :
    TxtAt w T M w5.heap.size false A3 n3 c3 none none 0 0 A5 (m + 1) c5 (w5.alloc (.cells #[.int .u8 1, .bool false, .slice A3 n3 c3, .string { data := #[] }, .int .i64 0, .slice none 0 0, .slice none 0 0] 26)) := by
  have hk5 : Keeps NoB w w5 := hk4.trans' h2 (fun _ _ h => h) (fun k hk hr => absurd (hnew k hr) (Nat.not_le.2 hk))
  refine ⟨hk5.alloc _, Blk.new w5 26 #[.int .u8 1, .bool false, .slice A3 n3 c3, .string { data := #[] }, .int .i64 0, .slice none 0 0, .slice none 0 0], ?_, hk5.size, ⟨bs ++ [48 + r], ?_, ?_⟩, fun k hk => ?_, by omega⟩
  · refine ((hL.far h2 (fun k hk => hk.1)).keep ((Keeps.refl NoB w5).alloc (.cells #[.int .u8 1, .bool false, .slice A3 n3 c3, .string { data := #[] }, .int .i64 0, .slice none 0 0, .slice none 0 0] 26))).more (fun k _ hk hr => ?_)
    rcases h3 k hr with h | h
    · exact hk.1 h
    · exact absurd hk.2 (Nat.not_lt.2 h)
  · have e : u8s (bs ++ [48 + r]) = u8s bs ++ [.int .u8 (48 + (r : Int))] := by rw [u8s_append]; rfl
    rw [e]
    exact h1.fresh ((Keeps.refl NoB w5).alloc _)
  · rw [← hs, dd_step hpos, show N % 10 = r by omega, show N / 10 = M by omega, List.append_assoc]; rfl
  · rcases h3 k hk with h | h
    · exact hnew k h
    · exact Nat.le_trans hk4.size h
theorem Slab.at_new {w w4 w5 : World} {A2 A5 : Option Addr} {m c5 : Nat} {xs : List Value} (h : Slab w5 5 1 A5 (m + 1) c5 xs) (hk : Keeps NoB w w4) (h2 : Keeps (rowB A2) w4 w5) (h3 : Moved w4 A2 A5) (hnew : ∀ k, rowB A2 k → w.heap.size ≤ k) : ∃ R o, A5 = some ⟨R, o, none⟩ ∧ w.heap.size ≤ R ∧ Keeps NoB w w5 := by
  obtain ⟨R, o, rfl⟩ := h.row (Nat.succ_pos _)
  refine ⟨R, o, rfl, ?_, hk.trans' h2 (fun _ _ h => h) (fun k hk hr => absurd (hnew k hr) (Nat.not_le.2 hk))⟩
  rcases h3 R ⟨o, rfl⟩ with h | h
  · exact hnew R h
  · exact Nat.le_trans hk.size h
set_option maxHeartbeats 1000000 in
set_option maxRecDepth 100000 in
theorem text_any (ng : Bool) (A ia ta : Option Addr) (n c ic tc : Nat) (z : Int) (w : World) (B : Nat → Prop) (h : IA w B ng A n c z) :
    Calls Try.prog 18 #[.agg #[.int .u8 1, .bool ng, .slice A n c, .string { data := #[] }, .int .i64 0, .slice ia 0 ic, .slice ta 0 tc]] w fun e w' => e = .returned (.string (txt z)) ∧ Keeps NoB w w' := by
  have HI := hide h
  have hbig := h.room
  obtain ⟨i0, hi0, hz0, hz1, hz2⟩ := info_parts Try.info5
  go_enter Try.func18, Try.ntmps18
  have HX0 := hide (Blk.new w 26 #[.int .u8 1, .bool ng, .slice A n c, .string { data := #[] }, .int .i64 0, .slice ia 0 ic, .slice ta 0 tc])
  have HK0 := hide ((Keeps.refl NoB w).alloc (.cells #[.int .u8 1, .bool ng, .slice A n c, .string { data := #[] }, .int .i64 0, .slice ia 0 ic, .slice ta 0 tc] 26))
  go_wp2_with (go_at_call 24; refine ((HI.out.keep HK0.out).right _ _ _ _).mono ?_; rintro e w1 ⟨rfl, hk1⟩; have HK1 := hide (HK0.out.trans' hk1 (fun _ _ => id) (fun _ _ => id)); have HX1 := hide (HX0.out.keep hk1 id); clear hk1 HX0 HK0; have x0 : w1.cell? ⟨w.heap.size, 0, none⟩ = some (.int .u8 1) := HX1.out.cell 0; have x1 : w1.cell? ⟨w.heap.size, 1, none⟩ = some (.bool ng) := HX1.out.cell 1; have x2 : w1.cell? ⟨w.heap.size, 2, none⟩ = some (.slice A n c) := HX1.out.cell 2; have x3 : w1.cell? ⟨w.heap.size, 3, none⟩ = some (.string { data := #[] }) := HX1.out.cell 3; have x4 : w1.cell? ⟨w.heap.size, 4, none⟩ = some (.int .i64 0) := HX1.out.cell 4; have x5 : w1.cell? ⟨w.heap.size, 5, none⟩ = some (.slice ia 0 ic) := HX1.out.cell 5; have x6 : w1.cell? ⟨w.heap.size, 6, none⟩ = some (.slice ta 0 tc) := HX1.out.cell 6)
  have H0 := hide (⟨(Keeps.refl NoB w1).alloc (.cells #[.int .u8 1, .bool ng, .slice A n c, .string { data := #[] }, .int .i64 0, .slice ia 0 ic, .slice ta 0 tc] 26), Blk.new w1 26 #[.int .u8 1, .bool ng, .slice A n c, .string { data := #[] }, .int .i64 0, .slice ia 0 ic, .slice ta 0 tc], ((HI.out.limbs.keep (HK1.out.alloc (.cells #[.int .u8 1, .bool ng, .slice A n c, .string { data := #[] }, .int .i64 0, .slice ia 0 ic, .slice ta 0 tc] 26))).more (fun k _ _ ⟨o, e⟩ => by cases e)), Nat.le_refl _, ⟨[], Slab.nil _ _ _, rfl⟩, (fun k ⟨o, e⟩ => by cases e), hbig⟩ : TxtAt w1 (dd z.natAbs) z.natAbs w1.heap.size ng A n c ia ta ic tc none 0 0 (w1.alloc (.cells #[.int .u8 1, .bool ng, .slice A n c, .string { data := #[] }, .int .i64 0, .slice ia 0 ic, .slice ta 0 tc] 26)))
  obtain ⟨T, hT⟩ : ∃ T, dd z.natAbs = T := ⟨_, rfl⟩
  have hT9 : T.length ≤ 309 := hT ▸ dd_len hbig
  rw [hT] at H0
  have HT := hide hT
  clear hbig hT x0 x1 x2 x3 x4 x5 x6
  have hi9 : i0.bytes = 1 := hz2
  go_loopg [3, 4] z.natAbs (fun f ov pv wr => ∃ (N g : Nat) (ngl : Bool) (A : Option Addr) (n c : Nat) (ia ta : Option Addr) (ic tc : Nat) (A2 : Option Addr) (m c2 : Nat), ov = .slice A2 m c2 ∧ pv = .pointer (some ⟨g, 0, none⟩) ∧ N ≤ f ∧ Hid (TxtAt w1 T N g ngl A n c ia ta ic tc A2 m c2 wr))
  case atStart => exact ⟨z.natAbs, _, ng, A, n, c, ia, ta, ic, tc, none, 0, 0, rfl, rfl, Nat.le_refl _, H0⟩
  case round =>
    obtain ⟨N, g, ngl, A, n, c, ia, ta, ic, tc, A2, m, c2, rfl, rfl, hf, HM⟩ := hrel
    have hg := HM.out.blk.lt
    have hln := HM.out.limbs.len
    have HB := hide HM.out.blk
    have x0 : wr.cell? ⟨g, 0, none⟩ = some (.int .u8 1) := HB.out.cell 0; have x1 : wr.cell? ⟨g, 1, none⟩ = some (.bool ngl) := HB.out.cell 1; have x2 : wr.cell? ⟨g, 2, none⟩ = some (.slice A n c) := HB.out.cell 2; have x3 : wr.cell? ⟨g, 3, none⟩ = some (.string { data := #[] }) := HB.out.cell 3; have x4 : wr.cell? ⟨g, 4, none⟩ = some (.int .i64 0) := HB.out.cell 4; have x5 : wr.cell? ⟨g, 5, none⟩ = some (.slice ia 0 ic) := HB.out.cell 5; have x6 : wr.cell? ⟨g, 6, none⟩ = some (.slice ta 0 tc) := HB.out.cell 6
    by_cases hN : 0 < N
    · have hn0 : 0 < n := by rw [← hln]; exact dig_pos_len.2 hN
      have hn1 : decide (0 < (n : Int)) = true := by simp; exact hn0
      have hn32 : n ≤ 32 := by rw [← hln]; exact dig_big.2 HM.out.big
      have hml := HM.out.len
      have HS := hide (short_any A n c 10 (dig N) wr _ HM.out.limbs hn32 (by decide) (by decide))
      rw [nat_dig] at HS
      go_wp2_with first | (go_at_call 40; (refine HS.out.mono ?_); (rintro e w2 ⟨O, r, qs, rfl, hO, hrow, hql, hlow, hr, hv, hk⟩); (have HR2 := hide (hrow.limbs hql (Nat.le_trans hn32 (by decide)) hlow)); (have HB2 := hide (HM.out.blk.keep hk id)); have HK2 := hide hk; have HV := hide (And.intro hr hv); (have hr' : (r : Int) < 10 := by omega); clear hO hrow hql hlow hv hk; have y0 : w2.cell? ⟨g, 0, none⟩ = some (.int .u8 1) := HB2.out.cell 0; have y1 : w2.cell? ⟨g, 1, none⟩ = some (.bool ngl) := HB2.out.cell 1; have y2 : w2.cell? ⟨g, 2, none⟩ = some (.slice A n c) := HB2.out.cell 2; have y3 : w2.cell? ⟨g, 3, none⟩ = some (.string { data := #[] }) := HB2.out.cell 3; have y4 : w2.cell? ⟨g, 4, none⟩ = some (.int .i64 0) := HB2.out.cell 4; have y5 : w2.cell? ⟨g, 5, none⟩ = some (.slice ia 0 ic) := HB2.out.cell 5; have y6 : w2.cell? ⟨g, 6, none⟩ = some (.slice ta 0 tc) := HB2.out.cell 6; have f0 : w2.frozen? ⟨g, 0, none⟩ = false := HB2.out.free 0; have f1 : w2.frozen? ⟨g, 1, none⟩ = false := HB2.out.free 1; have f2 : w2.frozen? ⟨g, 2, none⟩ = false := HB2.out.free 2; have f3 : w2.frozen? ⟨g, 3, none⟩ = false := HB2.out.free 3; have f4 : w2.frozen? ⟨g, 4, none⟩ = false := HB2.out.free 4; have f5 : w2.frozen? ⟨g, 5, none⟩ = false := HB2.out.free 5; have f6 : w2.frozen? ⟨g, 6, none⟩ = false := HB2.out.free 6) | fail
      have hqb : nat qs < Big := by
        have h1 := HV.out.2
        have h2 := HM.out.big
        omega
      have HY3 := hide (made_yes _ _ _ false qs w2 _ HR2.out hqb)
      refine HY3.out.mono ?_
      rintro e w3 ⟨ng3, A3, n3, c3, rfl, hi3, hk3⟩
      have hng : ng3 = false := hi3.sign.trans (sgn_neg false _)
      subst hng
      have HI3 := hide hi3
      have HB3 := hide (HB2.out.keep hk3 id)
      have HK3 := hide hk3
      clear hi3 hk3 y0 y1 y2 y3 y4 y5 y6 f0 f1 f2 f3 f4 f5 f6 HY3
      have v0 : w3.cell? ⟨g, 0, none⟩ = some (.int .u8 1) := HB3.out.cell 0; have v1 : w3.cell? ⟨g, 1, none⟩ = some (.bool ngl) := HB3.out.cell 1; have v2 : w3.cell? ⟨g, 2, none⟩ = some (.slice A n c) := HB3.out.cell 2; have v3 : w3.cell? ⟨g, 3, none⟩ = some (.string { data := #[] }) := HB3.out.cell 3; have v4 : w3.cell? ⟨g, 4, none⟩ = some (.int .i64 0) := HB3.out.cell 4; have v5 : w3.cell? ⟨g, 5, none⟩ = some (.slice ia 0 ic) := HB3.out.cell 5; have v6 : w3.cell? ⟨g, 6, none⟩ = some (.slice ta 0 tc) := HB3.out.cell 6
      have u0 : w3.frozen? ⟨g, 0, none⟩ = false := HB3.out.free 0; have u1 : w3.frozen? ⟨g, 1, none⟩ = false := HB3.out.free 1; have u2 : w3.frozen? ⟨g, 2, none⟩ = false := HB3.out.free 2; have u3 : w3.frozen? ⟨g, 3, none⟩ = false := HB3.out.free 3; have u4 : w3.frozen? ⟨g, 4, none⟩ = false := HB3.out.free 4; have u5 : w3.frozen? ⟨g, 5, none⟩ = false := HB3.out.free 5; have u6 : w3.frozen? ⟨g, 6, none⟩ = false := HB3.out.free 6
      obtain ⟨bs, hsl, hbs⟩ := HM.out.slab
      have hgn : ¬ rowB A2 g := hsl.ne HM.out.blk (by decide)
      have hk3' : Keeps NoB wr w3 := HK2.out.trans' HK3.out (fun _ _ h => h) (fun _ _ h => h)
      have hsl3 := hsl.fresh hk3'
      have hset := Keeps.set7' (w := w3) (g := g) (.int .u8 1) (.bool false) (.slice A3 n3 c3) (.string { data := #[] }) (.int .i64 0) (.slice none 0 0) (.slice none 0 0)
      have hgq : g < w2.heap.size := HB2.out.lt
      have HS4 := hide ((hsl3.keep hset (fun k hk e => hgn (e ▸ hk))).fresh ((Keeps.refl NoB _).alloc (.cells #[.int .u8 (48 + (r : Int))] 5)))
      have HB4 := hide ((HB3.out.put7 (.int .u8 1) (.bool false) (.slice A3 n3 c3) (.string { data := #[] }) (.int .i64 0) (.slice none 0 0) (.slice none 0 0)).alloc (.cells #[.int .u8 (48 + (r : Int))] 5))
      have HL4 := hide ((HI3.out.limbs.far hset (fun k hk e => absurd (e ▸ hgq) (Nat.not_lt.2 hk))).keep ((Keeps.refl NoB _).alloc (.cells #[.int .u8 (48 + (r : Int))] 5)))
      have HK4 := hide (((HM.out.keep.trans' hk3' (fun _ _ h => h) (fun _ _ h => h)).set7 HM.out.hg (.int .u8 1) (.bool false) (.slice A3 n3 c3) (.string { data := #[] }) (.int .i64 0) (.slice none 0 0) (.slice none 0 0)).alloc (.cells #[.int .u8 (48 + (r : Int))] 5))
      have HR4 := hide (one_reads (Blk.new (((((((w3.setCell ⟨g, 0, none⟩ (.int .u8 1)).setCell ⟨g, 1, none⟩ (.bool false)).setCell ⟨g, 2, none⟩ (.slice A3 n3 c3)).setCell ⟨g, 3, none⟩ (.string { data := #[] })).setCell ⟨g, 4, none⟩ (.int .i64 0)).setCell ⟨g, 5, none⟩ (.slice none 0 0)).setCell ⟨g, 6, none⟩ (.slice none 0 0)) 5 #[.int .u8 (48 + (r : Int))]))
      rw [set7_size (w := w3) (g := g) (.int .u8 1) (.bool false) (.slice A3 n3 c3) (.string { data := #[] }) (.int .i64 0) (.slice none 0 0) (.slice none 0 0)] at HR4
      have HN4 := hide (And.intro HM.out.new hbs)
      have HQ4 := hide (show ∀ k, w2.heap.size ≤ k → ¬ rowB A2 k from fun k hk hr => absurd (Nat.lt_of_lt_of_le (hsl.lt hr) HK2.out.size) (Nat.not_lt.2 hk))
      have HGN := hide hgn
      clear hsl hgn hgq hk3' hsl3 hset hbs
      go_wp2_with (at_builtin; go_loud (refine wpList_append_slab _ rfl (.tmp 26) (.tmp 30) 63 rfl 5 i0 _ 1 1 Try.underlying63 hi0 hz0 hz1 hz2 rfl (by omega) A2 m c2 (u8s bs) rfl ?q1 (fun _ => True) true (some ⟨w3.heap.size, 0, none⟩) 1 1 [.int .u8 (48 + (r : Int))] rfl ?q2 (Nat.zero_lt_one) ?q3 ?q4 ?q5 ?_))
      case q1 => exact HS4.out
      case q2 => exact HR4.out
      case q3 => intro u hu; simp at hu; subst hu; rfl
      case q4 => unfold maxLen; omega
      case q5 => omega
      intro A5 c5 w5 h1 h2 h3
      have HB5 := hide (HB4.out.keep h2 HGN.out)
      have hst := TxtAt.step HK4.out HN4.out.2 HN4.out.1 (HL4.out.more (fun k h1 h2 => ⟨HQ4.out k h2, h1⟩)) h1 h2 h3 (by rw [sgn_abs]; exact HV.out.2) HV.out.1 HM.out.big hN
      have HST := hide hst
      clear h1 h2 h3 hst v0 v1 v2 v3 v4 v5 v6 u0 u1 u2 u3 u4 u5 u6
      have v0 : w5.cell? ⟨g, 0, none⟩ = some (.int .u8 1) := HB5.out.cell 0; have v1 : w5.cell? ⟨g, 1, none⟩ = some (.bool false) := HB5.out.cell 1; have v2 : w5.cell? ⟨g, 2, none⟩ = some (.slice A3 n3 c3) := HB5.out.cell 2; have v3 : w5.cell? ⟨g, 3, none⟩ = some (.string { data := #[] }) := HB5.out.cell 3; have v4 : w5.cell? ⟨g, 4, none⟩ = some (.int .i64 0) := HB5.out.cell 4; have v5 : w5.cell? ⟨g, 5, none⟩ = some (.slice none 0 0) := HB5.out.cell 5; have v6 : w5.cell? ⟨g, 6, none⟩ = some (.slice none 0 0) := HB5.out.cell 6
      have hlt : nat qs < gk := by have h1 := HV.out.2; omega
      rw [sgn_abs] at HST
      go_wp2
      go_roundg (nat qs)
      case measure => exact hlt
      case rel => exact ⟨nat qs, w5.heap.size, false, A3, n3, c3, none, none, 0, 0, A5, m + 1, c5, rfl, rfl, Nat.le_refl _, HST.out⟩
    · obtain rfl : N = 0 := by omega
      have hn0 : n = 0 := by rw [← hln, dig_zero]; rfl
      subst hn0
      obtain ⟨bs, hsl, hbs⟩ := HM.out.slab
      have hTT : bs = T := by rw [← hbs]; unfold dd; rw [decs_zero]; simp
      subst hTT
      have hml : m = bs.length := by have := hsl.1; rw [u8s_len] at this; omega
      have HSL := hide hsl
      have HKW := hide HM.out.keep; have HNW := hide HM.out.new
      have HX3 := hide (HX1.out.keep HM.out.keep id)
      have hsg := HI.out.sign
      have hb8 : ∀ x ∈ bs, x < 256 := HT.out ▸ dd_small
      have HB8 := hide hb8
      have HX2 := hide HX1.out
      have HML := hide hml
      clear hsl hbs HM HB HX1 H0 hb8 hml
      by_cases hz : z = 0
      · subst hz
        have hbs0 : bs = [] := by rw [← HT.out]; show dd 0 = []; unfold dd; rw [decs_zero]; rfl
        subst hbs0
        obtain rfl : m = 0 := HML.out
        obtain rfl : ng = false := hsg
        have HS4 := hide (HSL.out.fresh ((Keeps.refl NoB wr).alloc (.cells #[.int .u8 48] 5)))
        have HR4 := hide (one_reads (Blk.new wr 5 #[.int .u8 48]))
        go_wp2_with (at_builtin; refine wpList_append_slab _ rfl (.tmp 36) (.tmp 37) 63 rfl 5 i0 _ 1 1 Try.underlying63 hi0 hz0 hz1 hz2 rfl (by omega) A2 0 c2 (u8s []) rfl HS4.out (fun _ => True) true (some ⟨wr.heap.size, 0, none⟩) 1 1 [.int .u8 48] rfl HR4.out (Nat.zero_lt_one) (fun u hu => by simp at hu; subst hu; rfl) (by unfold maxLen; omega) (by omega) ?_)
        intro A5 c5 w5 h1 h2 h3
        obtain ⟨R, o, rfl, hR, hk5⟩ := Slab.at_new h1 ((HKW.out).alloc _) h2 h3 HNW.out
        have HS5 := hide (show Slab w5 5 1 (some ⟨R, o, none⟩) (0 + 1) c5 (u8s [48]) from h1)
        have HR := hide hR; have HK5 := hide hk5
        have HX5 := hide ((HX3.out.alloc (.cells #[.int .u8 48] 5)).keep h2 (fun hr => absurd (HNW.out _ hr) (Nat.not_le.2 HX2.out.lt)))
        have HB5 := hide (show ∀ x ∈ [48].reverse, x < 256 from by decide)
        have HE := hide (show txtL 0 = [48].reverse from rfl)
        clear h1 h2 h3 hR hk5
        have x0 : w5.cell? ⟨w.heap.size, 0, none⟩ = some (.int .u8 1) := HX5.out.cell 0; have x1 : w5.cell? ⟨w.heap.size, 1, none⟩ = some (.bool false) := HX5.out.cell 1
        go_wp2_with (go_at_call 46; refine (reverse_any R o (0 + 1) c5 [48] _ HS5.out).mono ?_; rintro e w6 ⟨rfl, hs6, hk6⟩; have q6 := str_run hs6 HB5.out; have HK6 := hide ((HK1.out.trans' HK5.out (fun _ _ h => h) (fun _ _ h => h)).trans' hk6 (fun _ _ h => h) (fun k h1 h2 => absurd (Nat.lt_of_lt_of_le h1 (Nat.le_trans HK1.out.size HR.out)) (by omega))); clear hs6 hk6)
        go_ret
        refine ⟨?_, HK6.out⟩
        show Ending.returned (.string (strOf _)) = _
        unfold txt
        rw [HE.out]
        try simp
      · have hbp : 0 < bs.length := by rw [← HT.out]; exact dd_pos (by omega)
        have hm0 : 0 < m := by have := HML.out; omega
        have hb0 : ((m : Int) == 0) = false := by simp; omega
        have hm9 : m ≤ 309 := by have := HML.out; omega
        clear hT9
        cases hng : ng with
        | true =>
          rw [hng] at hsg
          subst hng
          have hneg : z < 0 := of_decide_eq_true hsg.symm
          have HE := hide (show txtL z = (bs ++ [45]).reverse from by unfold txtL; rw [if_pos hneg, if_neg hz, HT.out, List.reverse_append]; rfl)
          have HB5 := hide (show ∀ x ∈ (bs ++ [45]).reverse, x < 256 from fun x hx => by
            rw [List.mem_reverse] at hx
            rcases List.mem_append.1 hx with h | h
            · exact HB8.out x h
            · simp at h; omega)
          have HS4 := hide (HSL.out.fresh ((Keeps.refl NoB wr).alloc (.cells #[.int .u8 45] 5)))
          have HR4 := hide (one_reads (Blk.new wr 5 #[.int .u8 45]))
          clear hz hsg hneg hbp
          have x0 : wr.cell? ⟨w.heap.size, 0, none⟩ = some (.int .u8 1) := HX3.out.cell 0; have x1 : wr.cell? ⟨w.heap.size, 1, none⟩ = some (.bool true) := HX3.out.cell 1
          go_wp2_with (at_builtin; refine wpList_append_slab _ rfl (.tmp 41) (.tmp 42) 63 rfl 5 i0 _ 1 1 Try.underlying63 hi0 hz0 hz1 hz2 rfl (by omega) A2 m c2 (u8s bs) rfl HS4.out (fun _ => True) true (some ⟨wr.heap.size, 0, none⟩) 1 1 [.int .u8 45] rfl HR4.out (Nat.zero_lt_one) (fun u hu => by simp at hu; subst hu; rfl) (by unfold maxLen; omega) (by omega) ?_)
          intro A5 c5 w5 h1 h2 h3
          obtain ⟨R, o, rfl, hR, hk5⟩ := Slab.at_new h1 ((HKW.out).alloc _) h2 h3 HNW.out
          have HS5 := hide (show Slab w5 5 1 (some ⟨R, o, none⟩) (m + 1) c5 (u8s (bs ++ [45])) from by rw [u8s_append]; exact h1)
          have HR := hide hR; have HK5 := hide hk5
          clear h1 h2 h3 hR hk5
          go_wp2_with (go_at_call 46; refine (reverse_any R o (m + 1) c5 (bs ++ [45]) _ HS5.out).mono ?_; rintro e w6 ⟨rfl, hs6, hk6⟩; have q6 := str_run hs6 HB5.out; have HK6 := hide ((HK1.out.trans' HK5.out (fun _ _ h => h) (fun _ _ h => h)).trans' hk6 (fun _ _ h => h) (fun k h1 h2 => absurd (Nat.lt_of_lt_of_le h1 (Nat.le_trans HK1.out.size HR.out)) (by omega))); clear hs6 hk6)
          go_ret
          refine ⟨?_, HK6.out⟩
          show Ending.returned (.string (strOf _)) = _
          unfold txt
          rw [HE.out]
          try simp
        | false =>
          rw [hng] at hsg
          subst hng
          have hneg : ¬ z < 0 := of_decide_eq_false hsg.symm
          have HE := hide (show txtL z = bs.reverse from by unfold txtL; rw [if_neg hneg, if_neg hz, HT.out]; rfl)
          have HB5 := hide (show ∀ x ∈ bs.reverse, x < 256 from fun x hx => HB8.out x (List.mem_reverse.1 hx))
          obtain ⟨R, o, rfl⟩ := HSL.out.row hm0
          have HS5 := hide HSL.out
          have HR := hide (HNW.out R ⟨o, rfl⟩); have HK5 := hide HKW.out
          clear hz hsg hneg hbp
          have x0 : wr.cell? ⟨w.heap.size, 0, none⟩ = some (.int .u8 1) := HX3.out.cell 0; have x1 : wr.cell? ⟨w.heap.size, 1, none⟩ = some (.bool false) := HX3.out.cell 1
          go_wp2_with (go_at_call 46; refine (reverse_any R o m c2 bs _ HS5.out).mono ?_; rintro e w6 ⟨rfl, hs6, hk6⟩; have q6 := str_run hs6 HB5.out; have HK6 := hide ((HK1.out.trans' HK5.out (fun _ _ h => h) (fun _ _ h => h)).trans' hk6 (fun _ _ h => h) (fun k h1 h2 => absurd (Nat.lt_of_lt_of_le h1 (Nat.le_trans HK1.out.size HR.out)) (by omega))); clear hs6 hk6)
          go_ret
          refine ⟨?_, HK6.out⟩
          show Ending.returned (.string (strOf _)) = _
          unfold txt
          rw [HE.out]
          try simp
end Go.Proofs.Ytfehciiidmgopaa
