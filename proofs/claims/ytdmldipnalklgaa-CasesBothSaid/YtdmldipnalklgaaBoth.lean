/- CasesBoth. -/
import Derived.Test.YtdmldipnalklgaaBothT
namespace Go.Proofs.Ytdmldipnalklgaa
open Go.RowKit

/-- The two boxes, and that nothing of what was there has turned. -/
def Two (w : World) (bp bq : Nat) (xs ys : Array Value) (W : World) : Prop := Blk W bp 30 xs ∧ Blk W bq 30 ys ∧ Keeps NoB w W
theorem Two.fresh {w W W' : World} {bp bq : Nat} {xs ys : Array Value} (h : Two w bp bq xs ys W) (hk : Keeps NoB W W') : Two w bp bq xs ys W' := ⟨h.1.keep hk id, h.2.1.keep hk id, h.2.2.trans' hk (fun _ _ => id) (fun _ _ => id)⟩
theorem Two.drew {w W : World} {bp bq : Nat} {xs ys : Array Value} (h : Two w bp bq xs ys W) : Two w bp bq xs ys W.drew := h.fresh (Keeps.refl _ _).drew
theorem run_append_any {P : Program} (w : World) (t ty e : TypeId) (i : TypeInfo) (z : Value) (size bytes : Nat) (ht : P.underlying t = some (.slice e)) (hi : P.info? e = some i) (hz : i.zero = some z)
    (hsize : i.size = size) (hby : i.bytes = bytes) (hzs : z.cells.size = size) (hsz : 0 < size)
    (A : Option Addr) (n c : Nat) (xs : List Value) (hs : Slab w e size A n c xs)
    (B : Nat → Prop) (F : Bool) (A2 : Option Addr) (m c2 : Nat) (news : List Value) (hr : Reads w B F size A2 m news) (h1 : ∀ u ∈ news, u.oneCell' = true)
    (h63 : n + m ≤ maxLen) (hbytes : (n + m) * bytes ≤ 140737488355328) :
    ∃ A' c' w', (Builtin.append_ #[t, t] ty #[.slice A n c, .slice A2 m c2]).run P w = .ok (.slice A' (n + m) c') w' ∧ Slab w' e size A' (n + m) c' (xs ++ news) ∧ Keeps (rowB A) w w' ∧ Moved w A A' := by
  rcases Nat.eq_zero_or_pos m with rfl | hm
  · obtain ⟨w', h0, h2, h3⟩ := run_append_room_slab (P := P) w t ty e i size ht hi hsize A n c xs hs B F A2 0 c2 news hr h1 (by have := hs.2.1; omega)
    exact ⟨A, c, w', h0, h2, h3, Moved.same _ _⟩
  · exact run_append_slab (P := P) w t ty e i z size bytes ht hi hz hsize hby hzs hsz A n c xs hs B F A2 m c2 news hr hm h1 h63 hbytes
theorem oper_append {P : Program} {w w' : World} {o : Oper} {a : Act} {K : Act → World → Prop} {Q : Exit → Act → World → Prop} {s x : Operand} {t : TypeId} {u v r : Value}
    (ho : o.op = .call { callee := .builtin .append, args := #[s, x], argTypes := #[t, t] }) (he : a.eval s = u) (hx : a.eval x = v) (h0 : (Builtin.append_ #[t, t] o.type #[u, v]).run P w = .ok r w') (h : K (a.put o.dst r) w') : Oper.wp P o a w K Q := by
  unfold Oper.wp execOp
  simp only [ho, resolve, invoke, builtin, Sem.run_bind, Sem.run_pure, Result.andThen_ok, List.map_toArray, List.map_cons, List.map_nil, he, hx, h0]
  exact h
theorem wpList_append_run {P : Program} {w w' : World} {ops : Array Oper} {rest : List Oper} {o : Oper} {a : Act} {Q : Exit → Act → World → Prop} {s x : Operand} {t : TypeId} {u v r : Value} (hw : Region.wanted o (yielded ops a.tmps) = true)
    (ho : o.op = .call { callee := .builtin .append, args := #[s, x], argTypes := #[t, t] }) (he : a.eval s = u) (hx : a.eval x = v) (h0 : (Builtin.append_ #[t, t] o.type #[u, v]).run P w = .ok r w') (h : wpList P ops Q rest (a.put o.dst r) w') : wpList P ops Q (o :: rest) a w :=
  wpList_step fun K hK => by rw [if_pos hw]; exact oper_append ho he hx h0 (hK _ _ h)
/-- A test's cells, where some have been turned. -/
theorem turned_at {w : World} {A : Option Addr} {n c : Nat} {d : Int} {l : List Ins} {k : Nat} {i : Ins} (h : Slab w 44 8 A n c (insL (turnL d l k))) (hk : l[k]? = some i) :
    ∃ g o, A = some ⟨g, o, none⟩ ∧ g < w.heap.size ∧ w.cell? ⟨g, o + k * 8, none⟩ = some (.int .u8 i.op) ∧ w.cell? ⟨g, o + k * 8 + 4, none⟩ = some (.int .i64 i.n) ∧ w.frozen? ⟨g, o + k * 8 + 4, none⟩ = false := by
  have hl : l.length = n := by have h := h.1; rw [insL_len, turn_len] at h; omega
  have hkn : k < n := by rw [← hl]; exact (List.getElem?_eq_some_iff.1 hk).1
  obtain ⟨g, o, j, hA, e, hc⟩ := ins_at h.reads k hkn
  rw [turn_get d l hk] at e
  injection e with e
  subst e
  obtain ⟨ad, ha, _, _, hlt, hf⟩ := h.reads.2 (by omega)
  rw [hA] at ha
  injection ha with ha
  subst ha
  refine ⟨g, o, hA, hlt, hc 0 _ rfl, hc 4 _ rfl, ?_⟩
  obtain ⟨_, _, _, ⟨h0, _⟩ | ⟨g', o', cur, h0, hb, _⟩⟩ := h
  · rw [hA] at h0; cases h0
  · rw [hA] at h0; injection h0 with h0; injection h0 with h0; subst h0
    exact hb.free _
def TruePost (w : World) (e : Ending) (w' : World) : Prop := e = .returned (.bool true) ∧ Keeps NoB w w'

set_option maxRecDepth 100000 in
set_option maxHeartbeats 8000000 in
theorem cases_both (p q : Co) (w : World) (B : Nat → Prop) (F : Bool) (kd1 : Int) (tx1 : ByteArray) (nm1 tk1 : Int) (ng1 : Bool) (la1 : Option Addr) (ln1 lc1 : Nat) (tt1 : ByteArray) (tn1 : Int) (ia1 : Option Addr) (im1 ic1 : Nat) (ta1 : Option Addr) (tm1 tc1 : Nat) (ka1 : Option Addr) (kn1 kc1 : Nat) (kd2 : Int) (tx2 : ByteArray) (nm2 tk2 : Int) (ng2 : Bool) (la2 : Option Addr) (ln2 lc2 : Nat) (tt2 : ByteArray) (tn2 : Int) (ia2 : Option Addr) (im2 ic2 : Nat) (ta2 : Option Addr) (tm2 tc2 : Nat) (ka2 : Option Addr) (kn2 kc2 : Nat) (sl fr : Int) (hp : CoreIn w B F [.int .u8 kd1, .string tx1, .int .i64 nm1, .int .u8 tk1, .bool ng1, .slice la1 ln1 lc1, .string tt1, .int .i64 tn1, .slice ia1 im1 ic1, .slice ta1 tm1 tc1, .slice ka1 kn1 kc1] p) (hq : CoreIn w B F [.int .u8 kd2, .string tx2, .int .i64 nm2, .int .u8 tk2, .bool ng2, .slice la2 ln2 lc2, .string tt2, .int .i64 tn2, .slice ia2 im2 ic2, .slice ta2 tm2 tc2, .slice ka2 kn2 kc2] q) (hB : ∀ k, B k → k < w.heap.size) (op : okC p) (oq : okC q) :
    Calls Try.prog 3 #[.agg #[.int .u8 kd1, .string tx1, .int .i64 nm1, .int .u8 tk1, .bool ng1, .slice la1 ln1 lc1, .string tt1, .int .i64 tn1, .slice ia1 im1 ic1, .slice ta1 tm1 tc1, .slice ka1 kn1 kc1], .agg #[.int .u8 kd2, .string tx2, .int .i64 nm2, .int .u8 tk2, .bool ng2, .slice la2 ln2 lc2, .string tt2, .int .i64 tn2, .slice ia2 im2 ic2, .slice ta2 tm2 tc2, .slice ka2 kn2 kc2], .int .i64 sl, .int .i64 fr] w (TruePost w) := by
  have HP := hide hp; have HQ := hide hq; have HBB := hide hB
  have hk0 : Keeps NoB w ((w.alloc (.cells #[.int .u8 kd1, .string tx1, .int .i64 nm1, .int .u8 tk1, .bool ng1, .slice la1 ln1 lc1, .string tt1, .int .i64 tn1, .slice ia1 im1 ic1, .slice ta1 tm1 tc1, .slice ka1 kn1 kc1] 30)).alloc (.cells #[.int .u8 kd2, .string tx2, .int .i64 nm2, .int .u8 tk2, .bool ng2, .slice la2 ln2 lc2, .string tt2, .int .i64 tn2, .slice ia2 im2 ic2, .slice ta2 tm2 tc2, .slice ka2 kn2 kc2] 30)) := ((Keeps.refl NoB w).alloc _).alloc _
  have HT0 : Hid (Two w w.heap.size (w.heap.size + 1) #[.int .u8 kd1, .string tx1, .int .i64 nm1, .int .u8 tk1, .bool ng1, .slice la1 ln1 lc1, .string tt1, .int .i64 tn1, .slice ia1 im1 ic1, .slice ta1 tm1 tc1, .slice ka1 kn1 kc1] #[.int .u8 kd2, .string tx2, .int .i64 nm2, .int .u8 tk2, .bool ng2, .slice la2 ln2 lc2, .string tt2, .int .i64 tn2, .slice ia2 im2 ic2, .slice ta2 tm2 tc2, .slice ka2 kn2 kc2] ((w.alloc (.cells #[.int .u8 kd1, .string tx1, .int .i64 nm1, .int .u8 tk1, .bool ng1, .slice la1 ln1 lc1, .string tt1, .int .i64 tn1, .slice ia1 im1 ic1, .slice ta1 tm1 tc1, .slice ka1 kn1 kc1] 30)).alloc (.cells #[.int .u8 kd2, .string tx2, .int .i64 nm2, .int .u8 tk2, .bool ng2, .slice la2 ln2 lc2, .string tt2, .int .i64 tn2, .slice ia2 im2 ic2, .slice ta2 tm2 tc2, .slice ka2 kn2 kc2] 30))) := hide ⟨(Blk.new w 30 #[.int .u8 kd1, .string tx1, .int .i64 nm1, .int .u8 tk1, .bool ng1, .slice la1 ln1 lc1, .string tt1, .int .i64 tn1, .slice ia1 im1 ic1, .slice ta1 tm1 tc1, .slice ka1 kn1 kc1]).alloc _, Blk.new2 w _ _ _, hk0⟩
  clear hp hq hB hk0
  go_enter Try.func3, Try.ntmps3
  go_wp2_with
    first
    | (go_at_call 4
       refine (awake_any _).mono ?_
       rintro e w1 ⟨rfl, hk⟩
       have HT1 := hide (HT0.out.fresh hk)
       clear hk HT0)
    | fail
  generalize hbq : w.heap.size + 1 = bq at HT1 ⊢
  generalize hbp : w.heap.size = bp at HT1 ⊢
  clear hbq hbp
  refine order_begin (Two w bp bq #[.int .u8 kd1, .string tx1, .int .i64 nm1, .int .u8 tk1, .bool ng1, .slice la1 ln1 lc1, .string tt1, .int .i64 tn1, .slice ia1 im1 ic1, .slice ta1 tm1 tc1, .slice ka1 kn1 kc1] #[.int .u8 kd2, .string tx2, .int .i64 nm2, .int .u8 tk2, .bool ng2, .slice la2 ln2 lc2, .string tt2, .int .i64 tn2, .slice ia2 im2 ic2, .slice ta2 tm2 tc2, .slice ka2 kn2 kc2]) (fun _ => true) (by kernel_rfl) 6 rfl ?_
  have HS := HT1.out.drew
  clear HT1
  generalize w1.drew = W0 at *
  refine order_held (i := 0) rfl (by kernel_rfl) (fun _ _ _ h => h) (.inl ⟨rfl, fun W hW => by
    have q0 : W.cell? ⟨bp, 0, none⟩ = some (.int .u8 kd1) := hW.1.cell 0
    have q1 : W.cell? ⟨bp, 1, none⟩ = some (.string tx1) := hW.1.cell 1
    have q2 : W.cell? ⟨bp, 2, none⟩ = some (.int .i64 nm1) := hW.1.cell 2
    have q3 : W.cell? ⟨bp, 3, none⟩ = some (.int .u8 tk1) := hW.1.cell 3
    have q4 : W.cell? ⟨bp, 4, none⟩ = some (.bool ng1) := hW.1.cell 4
    have q5 : W.cell? ⟨bp, 5, none⟩ = some (.slice la1 ln1 lc1) := hW.1.cell 5
    have q6 : W.cell? ⟨bp, 6, none⟩ = some (.string tt1) := hW.1.cell 6
    have q7 : W.cell? ⟨bp, 7, none⟩ = some (.int .i64 tn1) := hW.1.cell 7
    have q8 : W.cell? ⟨bp, 8, none⟩ = some (.slice ia1 im1 ic1) := hW.1.cell 8
    have q9 : W.cell? ⟨bp, 9, none⟩ = some (.slice ta1 tm1 tc1) := hW.1.cell 9
    have q10 : W.cell? ⟨bp, 10, none⟩ = some (.slice ka1 kn1 kc1) := hW.1.cell 10
    go_simp; rfl⟩) HS ?_
  try simp only [Act.put, List.setIfInBounds_toArray, List.set_cons_succ, List.set_cons_zero]
  refine order_held (i := 2) rfl (by kernel_rfl) (fun _ _ _ h => h) (.inl ⟨rfl, fun W hW => by
    have q0 : W.cell? ⟨bq, 0, none⟩ = some (.int .u8 kd2) := hW.2.1.cell 0
    have q1 : W.cell? ⟨bq, 1, none⟩ = some (.string tx2) := hW.2.1.cell 1
    have q2 : W.cell? ⟨bq, 2, none⟩ = some (.int .i64 nm2) := hW.2.1.cell 2
    have q3 : W.cell? ⟨bq, 3, none⟩ = some (.int .u8 tk2) := hW.2.1.cell 3
    have q4 : W.cell? ⟨bq, 4, none⟩ = some (.bool ng2) := hW.2.1.cell 4
    have q5 : W.cell? ⟨bq, 5, none⟩ = some (.slice la2 ln2 lc2) := hW.2.1.cell 5
    have q6 : W.cell? ⟨bq, 6, none⟩ = some (.string tt2) := hW.2.1.cell 6
    have q7 : W.cell? ⟨bq, 7, none⟩ = some (.int .i64 tn2) := hW.2.1.cell 7
    have q8 : W.cell? ⟨bq, 8, none⟩ = some (.slice ia2 im2 ic2) := hW.2.1.cell 8
    have q9 : W.cell? ⟨bq, 9, none⟩ = some (.slice ta2 tm2 tc2) := hW.2.1.cell 9
    have q10 : W.cell? ⟨bq, 10, none⟩ = some (.slice ka2 kn2 kc2) := hW.2.1.cell 10
    go_simp; rfl⟩) HS ?_
  try simp only [Act.put, List.setIfInBounds_toArray, List.set_cons_succ, List.set_cons_zero]
  refine order_one (i := 1) rfl (by kernel_rfl) (fun K hK => ?_)
  go_simp
  refine (cores_of_all _ p (Nat.le_refl _) op W0 B F kd1 tx1 nm1 tk1 ng1 la1 ln1 lc1 tt1 tn1 ia1 im1 ic1 ta1 tm1 tc1 ka1 kn1 kc1 3000 (CoreIn.keep HS.2.2 (fun _ _ => id) _ _ HP.out) (by omega) (by omega)).mono ?_
  rintro e W1 ⟨r1, rfl, ha1, hb1, hc1, hk⟩
  refine hK _ _ (fun _ hS => hS.fresh hk) ?_
  clear hK
  have HS1 := hide (HS.fresh hk)
  have HC1 := hide hc1
  clear HS hk hc1
  try simp only [Act.put, List.setIfInBounds_toArray, List.set_cons_succ, List.set_cons_zero]
  refine order_one (i := 3) rfl (by kernel_rfl) (fun K hK => ?_)
  go_simp
  refine (cores_of_all _ q (Nat.le_refl _) oq W1 B F kd2 tx2 nm2 tk2 ng2 la2 ln2 lc2 tt2 tn2 ia2 im2 ic2 ta2 tm2 tc2 ka2 kn2 kc2 3000 (CoreIn.keep HS1.out.2.2 (fun _ _ => id) _ _ HQ.out) (by omega) (by omega)).mono ?_
  rintro e W2 ⟨r2, rfl, ha2, hb2, hc2, hk⟩
  refine hK _ _ (fun _ hS => hS.fresh hk) ?_
  clear hK
  have HT2 := hide (HS1.out.fresh hk)
  have HC2 := hide hc2
  clear HS1 hk hc2
  have hs12 : IntKind.i64.wrap (r1 + r2) = r1 + r2 := IntWalk.i64_in _ (by omega)
  try simp only [Act.put, List.setIfInBounds_toArray, List.set_cons_succ, List.set_cons_zero]
  refine order_pure (i := 4) rfl (by kernel_rfl) (fun _ _ _ h => h) (.inl ⟨rfl, fun _ => by go_simp; rfl⟩) ?_
  try simp only [Act.put, List.setIfInBounds_toArray, List.set_cons_succ, List.set_cons_zero]
  refine order_pure (i := 5) rfl (by kernel_rfl) (fun _ _ _ h => h) (.inl ⟨rfl, fun _ => by go_simp; rfl⟩) ?_
  try simp only [Act.put, List.setIfInBounds_toArray, List.set_cons_succ, List.set_cons_zero]
  refine order_done (by kernel_rfl) ?_
  clear hs12
  by_cases hmany : 3000 < r1 + r2
  · have b1 : decide (3000 < r1 + r2) = true := by simpa using hmany
    go_wp2
    go_ret
    exact ⟨rfl, HT2.out.2.2⟩
  have b1 : decide (3000 < r1 + r2) = false := by simpa using hmany
  have HN : Hid (p.count ≤ 3000 ∧ q.count ≤ 3000) := hide ⟨by have := HC1.out (by omega); omega, by have := HC2.out (by omega); omega⟩
  clear HC1 HC2
  go_wp2_with fail
  refine (pick_any fr 400 (by omega) (by omega) _).mono ?_
  rintro e W2' ⟨rfl, rfl⟩
  clear b1 hmany ha1 ha2 hb1 hb2
  obtain ⟨f, hf⟩ : ∃ f, 1 + fr % 400 = f := ⟨_, rfl⟩
  have hf1 : 1 ≤ f := by omega
  have hf2 : f ≤ 400 := by omega
  have HF := hide hf
  go_wp2_with fail
  refine (pick_any sl f (by omega) (by omega) _).mono ?_
  rintro e W2' ⟨rfl, rfl⟩
  obtain ⟨s, hs⟩ : ∃ s, sl % f = s := ⟨_, rfl⟩
  have hs1 : 0 ≤ s := by rw [← hs]; exact Int.emod_nonneg _ (by omega)
  have hs2 : s < f := by rw [← hs]; exact Int.emod_lt_of_pos _ (by omega)
  rw [hs]
  clear hs hf HF
  obtain ⟨hn1, hn2⟩ := HN.out
  obtain ⟨r0, hr0⟩ : ∃ r0, patC p s f = r0 := ⟨_, rfl⟩
  obtain ⟨q1, q2, q3, q4⟩ := pat_few p s f
  rw [hr0] at q1 q2 q3 q4
  have hra : patC (bothT p (anyT 0)) s f = r0 := by rw [pat_both_any, hr0]
  obtain ⟨rx, hrx⟩ : ∃ rx, patC q s (f + r0.next) = rx := ⟨_, rfl⟩
  obtain ⟨x1, x2, x3, x4⟩ := pat_few q s (f + r0.next)
  have hok := pat_ok q s (f + r0.next)
  rw [hrx] at x1 x2 x3 x4 hok
  obtain ⟨rb, hrb⟩ : ∃ rb, patC (bothT p q) s f = rb := ⟨_, rfl⟩
  have hlaw := pat_law s f p q ⟨hs1, hs2, by omega⟩
  obtain ⟨y1, y2, y3, y4⟩ := pat_few (bothT p q) s f
  rw [both_count] at y1 y2 y4
  rw [hrb] at y1 y2 y3 y4
  rw [hr0, hrx, hrb] at hlaw
  have HR0 := hide hr0; have HRA := hide hra; have HRX := hide hrx; have HRB := hide hrb; have HLAW := hide hlaw; have HOK := hide hok
  clear hr0 hra hrx hrb hlaw hok HN
  go_wp2_with fail
  refine order_begin (Two w bp bq #[.int .u8 kd1, .string tx1, .int .i64 nm1, .int .u8 tk1, .bool ng1, .slice la1 ln1 lc1, .string tt1, .int .i64 tn1, .slice ia1 im1 ic1, .slice ta1 tm1 tc1, .slice ka1 kn1 kc1] #[.int .u8 kd2, .string tx2, .int .i64 nm2, .int .u8 tk2, .bool ng2, .slice la2 ln2 lc2, .string tt2, .int .i64 tn2, .slice ia2 im2 ic2, .slice ta2 tm2 tc2, .slice ka2 kn2 kc2]) (fun _ => true) (by kernel_rfl) 14 rfl ?_
  have HS := HT2.out.drew
  clear HT2
  generalize W2.drew = W3 at *
  refine order_held (i := 0) rfl (by kernel_rfl) (fun _ _ _ h => h) (.inl ⟨rfl, fun W hW => by
    have q0 : W.cell? ⟨bp, 0, none⟩ = some (.int .u8 kd1) := hW.1.cell 0
    have q1 : W.cell? ⟨bp, 1, none⟩ = some (.string tx1) := hW.1.cell 1
    have q2 : W.cell? ⟨bp, 2, none⟩ = some (.int .i64 nm1) := hW.1.cell 2
    have q3 : W.cell? ⟨bp, 3, none⟩ = some (.int .u8 tk1) := hW.1.cell 3
    have q4 : W.cell? ⟨bp, 4, none⟩ = some (.bool ng1) := hW.1.cell 4
    have q5 : W.cell? ⟨bp, 5, none⟩ = some (.slice la1 ln1 lc1) := hW.1.cell 5
    have q6 : W.cell? ⟨bp, 6, none⟩ = some (.string tt1) := hW.1.cell 6
    have q7 : W.cell? ⟨bp, 7, none⟩ = some (.int .i64 tn1) := hW.1.cell 7
    have q8 : W.cell? ⟨bp, 8, none⟩ = some (.slice ia1 im1 ic1) := hW.1.cell 8
    have q9 : W.cell? ⟨bp, 9, none⟩ = some (.slice ta1 tm1 tc1) := hW.1.cell 9
    have q10 : W.cell? ⟨bp, 10, none⟩ = some (.slice ka1 kn1 kc1) := hW.1.cell 10
    go_simp; rfl⟩) HS ?_
  try simp only [Act.put, List.setIfInBounds_toArray, List.set_cons_succ, List.set_cons_zero]
  refine order_pure (i := 4) rfl (by kernel_rfl) (fun _ _ _ h => h) (.inl ⟨rfl, fun _ => by go_simp; rfl⟩) ?_
  try simp only [Act.put, List.setIfInBounds_toArray, List.set_cons_succ, List.set_cons_zero]
  refine order_pure (i := 5) rfl (by kernel_rfl) (fun _ _ _ h => h) (.inl ⟨rfl, fun _ => by go_simp; rfl⟩) ?_
  try simp only [Act.put, List.setIfInBounds_toArray, List.set_cons_succ, List.set_cons_zero]
  refine order_one (i := 1) rfl (by kernel_rfl) (fun K hK => ?_)
  go_simp
  refine (num_any 20 0 W3).mono ?_
  rintro e W4 ⟨rfl, hk⟩
  refine hK _ _ (fun _ hS => hS.fresh hk) ?_
  clear hK
  have HS4 := hide (HS.fresh hk)
  clear HS hk
  try simp only [Act.put, List.setIfInBounds_toArray, List.set_cons_succ, List.set_cons_zero]
  refine order_one (i := 2) rfl (by kernel_rfl) (fun K hK => ?_)
  go_simp
  refine hK _ _ (fun _ hS => hS.fresh ((Keeps.refl NoB W4).alloc _)) ?_
  clear hK
  have HB5 := hide (Blk.new W4 30 #[.int .u8 kd1, .string tx1, .int .i64 nm1, .int .u8 tk1, .bool ng1, .slice la1 ln1 lc1, .string tt1, .int .i64 tn1, .slice ia1 im1 ic1, .slice ta1 tm1 tc1, .slice ka1 kn1 kc1, .int .u8 20, .string { data := #[] }, .int .i64 0, .int .u8 0, .bool false, .slice none 0 0, .string { data := #[] }, .int .i64 0, .slice none 0 0, .slice none 0 0, .slice none 0 0])
  have HS5 := hide (HS4.out.fresh ((Keeps.refl NoB W4).alloc (.cells #[.int .u8 kd1, .string tx1, .int .i64 nm1, .int .u8 tk1, .bool ng1, .slice la1 ln1 lc1, .string tt1, .int .i64 tn1, .slice ia1 im1 ic1, .slice ta1 tm1 tc1, .slice ka1 kn1 kc1, .int .u8 20, .string { data := #[] }, .int .i64 0, .int .u8 0, .bool false, .slice none 0 0, .string { data := #[] }, .int .i64 0, .slice none 0 0, .slice none 0 0, .slice none 0 0] 30)))
  clear HS4
  generalize W4.alloc (.cells #[.int .u8 kd1, .string tx1, .int .i64 nm1, .int .u8 tk1, .bool ng1, .slice la1 ln1 lc1, .string tt1, .int .i64 tn1, .slice ia1 im1 ic1, .slice ta1 tm1 tc1, .slice ka1 kn1 kc1, .int .u8 20, .string { data := #[] }, .int .i64 0, .int .u8 0, .bool false, .slice none 0 0, .string { data := #[] }, .int .i64 0, .slice none 0 0, .slice none 0 0, .slice none 0 0] 30) = W5 at *
  generalize W4.heap.size = g5 at *
  try simp only [Act.put, List.setIfInBounds_toArray, List.set_cons_succ, List.set_cons_zero]
  refine order_one (i := 3) rfl (by kernel_rfl) (fun K hK => ?_)
  go_simp
  refine (of_any 26 _ 2 2 W5).mono ?_
  rintro e W6 ⟨rfl, hk⟩
  refine hK _ _ (fun _ hS => hS.fresh hk) ?_
  clear hK
  have HS6 := hide (HS5.out.fresh hk)
  have HB6 := hide (HB5.out.keep hk id)
  clear HS5 HB5 hk
  try simp only [Act.put, List.setIfInBounds_toArray, List.set_cons_succ, List.set_cons_zero]
  refine order_one (i := 6) rfl (by kernel_rfl) (fun K hK => ?_)
  go_simp
  refine (pat_held r0 (bothT p (anyT 0)) W6 (fun k => B k ∨ k = g5) false 26 { data := #[] } 0 0 false none 0 0 { data := #[] } 0 none 0 0 none 0 0 (some ⟨g5, 0, none⟩) 2 2 s f HRA.out (both_in HB6.out (.inr rfl) (CoreIn.more (fun k _ h => .inl h) _ _ (CoreIn.weak _ _ (CoreIn.keep HS6.out.2.2 (fun _ _ => id) _ _ HP.out))) any_in) (fun k h => h.elim (fun h => Nat.lt_of_lt_of_le (HBB.out k h) HS6.out.2.2.size) (fun h => h ▸ HB6.out.lt)) (by rw [both_count, any_count]; omega)).mono ?_
  rintro e W7 ⟨Aa, ca, Aa2, ca2, cssa, rfl, hha, hk⟩
  refine hK _ _ (fun _ hS => hS.fresh hk) ?_
  clear hK
  have HT7 := hide (HS6.out.fresh hk)
  have HA7 := hide hha
  clear HS6 HB6 hk hha
  try simp only [Act.put, List.setIfInBounds_toArray, List.set_cons_succ, List.set_cons_zero]
  refine order_pure (i := 7) rfl (by kernel_rfl) (fun _ _ _ h => h) (.inl ⟨rfl, fun _ => by go_simp; rfl⟩) ?_
  try simp only [Act.put, List.setIfInBounds_toArray, List.set_cons_succ, List.set_cons_zero]
  refine order_pure (i := 8) rfl (by kernel_rfl) (fun _ _ _ h => h) (.inl ⟨rfl, fun _ => by go_simp; rfl⟩) ?_
  try simp only [Act.put, List.setIfInBounds_toArray, List.set_cons_succ, List.set_cons_zero]
  refine order_pure (i := 9) rfl (by kernel_rfl) (fun _ _ _ h => h) (.inl ⟨rfl, fun _ => by go_simp; rfl⟩) ?_
  try simp only [Act.put, List.setIfInBounds_toArray, List.set_cons_succ, List.set_cons_zero]
  refine order_pure (i := 10) rfl (by kernel_rfl) (fun _ _ _ h => h) (.inl ⟨rfl, fun _ => by go_simp; rfl⟩) ?_
  try simp only [Act.put, List.setIfInBounds_toArray, List.set_cons_succ, List.set_cons_zero]
  refine order_pure (i := 11) rfl (by kernel_rfl) (fun _ _ _ h => h) (.inl ⟨rfl, fun _ => by go_simp; rfl⟩) ?_
  try simp only [Act.put, List.setIfInBounds_toArray, List.set_cons_succ, List.set_cons_zero]
  refine order_pure (i := 12) rfl (by kernel_rfl) (fun _ _ _ h => h) (.inl ⟨rfl, fun _ => by go_simp; rfl⟩) ?_
  try simp only [Act.put, List.setIfInBounds_toArray, List.set_cons_succ, List.set_cons_zero]
  refine order_pure (i := 13) rfl (by kernel_rfl) (fun _ _ _ h => h) (.inl ⟨rfl, fun _ => by go_simp; rfl⟩) ?_
  try simp only [Act.put, List.setIfInBounds_toArray, List.set_cons_succ, List.set_cons_zero]
  refine order_done (by kernel_rfl) ?_
  have p0 : W7.cell? ⟨bp, 0, none⟩ = some (.int .u8 kd1) := HT7.out.1.cell 0; have p1 : W7.cell? ⟨bp, 1, none⟩ = some (.string tx1) := HT7.out.1.cell 1; have p2 : W7.cell? ⟨bp, 2, none⟩ = some (.int .i64 nm1) := HT7.out.1.cell 2; have p3 : W7.cell? ⟨bp, 3, none⟩ = some (.int .u8 tk1) := HT7.out.1.cell 3; have p4 : W7.cell? ⟨bp, 4, none⟩ = some (.bool ng1) := HT7.out.1.cell 4; have p5 : W7.cell? ⟨bp, 5, none⟩ = some (.slice la1 ln1 lc1) := HT7.out.1.cell 5; have p6 : W7.cell? ⟨bp, 6, none⟩ = some (.string tt1) := HT7.out.1.cell 6; have p7 : W7.cell? ⟨bp, 7, none⟩ = some (.int .i64 tn1) := HT7.out.1.cell 7; have p8 : W7.cell? ⟨bp, 8, none⟩ = some (.slice ia1 im1 ic1) := HT7.out.1.cell 8; have p9 : W7.cell? ⟨bp, 9, none⟩ = some (.slice ta1 tm1 tc1) := HT7.out.1.cell 9; have p10 : W7.cell? ⟨bp, 10, none⟩ = some (.slice ka1 kn1 kc1) := HT7.out.1.cell 10
  have nov : decide (r0.next = r0.next) = true := by simp
  go_wp2_with fail
  clear p0 p1 p2 p3 p4 p5 p6 p7 p8 p9 p10
  refine (pat_held r0 p W7 B F kd1 tx1 nm1 tk1 ng1 la1 ln1 lc1 tt1 tn1 ia1 im1 ic1 ta1 tm1 tc1 ka1 kn1 kc1 s f HR0.out (CoreIn.keep HT7.out.2.2 (fun _ _ => id) _ _ HP.out) (fun k h => Nat.lt_of_lt_of_le (HBB.out k h) HT7.out.2.2.size) (by omega)).mono ?_
  rintro e W8 ⟨Ab, cb, Ab2, cb2, cssb, rfl, hhb, hk⟩
  have HT8 := hide (HT7.out.fresh hk)
  have O7 : Hid (w.heap.size ≤ W7.heap.size) := hide HT7.out.2.2.size
  have HA8 := hide (HA7.out.fresh hk)
  have HB8 := hide hhb
  have O8 : Hid (w.heap.size ≤ W8.heap.size) := hide HT8.out.2.2.size
  clear HT7 HA7 hk hhb
  go_wp2_with fail
  refine (same_instrs r0.ins Aa Ab _ ca _ cb W8 _ _ _ _ HA8.out.ins.reads HB8.out.ins.reads (by unfold Roomy; omega)).mono ?_
  rintro e W9 ⟨rfl, hk⟩
  have HT9 := hide (HT8.out.fresh hk)
  have HA9 := hide (HA8.out.fresh hk)
  have O9 : Hid (W8.heap.size ≤ W9.heap.size) := hide hk.size
  have HB9 := hide (HB8.out.fresh hk)
  clear HT8 HA8 HB8 hk
  go_wp2_with fail
  refine (tm_sames_self r0.cs cssa cssb Aa2 Ab2 _ ca2 _ cb2 W9 _ _ _ _ (HA9.out.row.reads.more (fun _ _ _ => trivial)) (TermsIn.more (fun _ _ _ => trivial) _ _ HA9.out.cs) (HB9.out.row.reads.more (fun _ _ _ => trivial)) (TermsIn.more (fun _ _ _ => trivial) _ _ HB9.out.cs) (by unfold Roomy; omega)).mono ?_
  rintro e W10 ⟨rfl, hk⟩
  have HT10 := hide (HT9.out.fresh hk)
  have HB10 := hide (HB9.out.fresh hk)
  have O10 : Hid (W8.heap.size ≤ W10.heap.size) := hide (Nat.le_trans O9.out hk.size)
  clear HT9 HA9 HB9 hk
  have p0 : W10.cell? ⟨bq, 0, none⟩ = some (.int .u8 kd2) := HT10.out.2.1.cell 0; have p1 : W10.cell? ⟨bq, 1, none⟩ = some (.string tx2) := HT10.out.2.1.cell 1; have p2 : W10.cell? ⟨bq, 2, none⟩ = some (.int .i64 nm2) := HT10.out.2.1.cell 2; have p3 : W10.cell? ⟨bq, 3, none⟩ = some (.int .u8 tk2) := HT10.out.2.1.cell 3; have p4 : W10.cell? ⟨bq, 4, none⟩ = some (.bool ng2) := HT10.out.2.1.cell 4; have p5 : W10.cell? ⟨bq, 5, none⟩ = some (.slice la2 ln2 lc2) := HT10.out.2.1.cell 5; have p6 : W10.cell? ⟨bq, 6, none⟩ = some (.string tt2) := HT10.out.2.1.cell 6; have p7 : W10.cell? ⟨bq, 7, none⟩ = some (.int .i64 tn2) := HT10.out.2.1.cell 7; have p8 : W10.cell? ⟨bq, 8, none⟩ = some (.slice ia2 im2 ic2) := HT10.out.2.1.cell 8; have p9 : W10.cell? ⟨bq, 9, none⟩ = some (.slice ta2 tm2 tc2) := HT10.out.2.1.cell 9; have p10 : W10.cell? ⟨bq, 10, none⟩ = some (.slice ka2 kn2 kc2) := HT10.out.2.1.cell 10
  go_wp2_with fail
  clear p0 p1 p2 p3 p4 p5 p6 p7 p8 p9 p10
  refine (pat_held rx q W10 B F kd2 tx2 nm2 tk2 ng2 la2 ln2 lc2 tt2 tn2 ia2 im2 ic2 ta2 tm2 tc2 ka2 kn2 kc2 s (f + r0.next) HRX.out (CoreIn.keep HT10.out.2.2 (fun _ _ => id) _ _ HQ.out) (fun k h => Nat.lt_of_lt_of_le (HBB.out k h) HT10.out.2.2.size) (by omega)).mono ?_
  rintro e W11 ⟨Ax, cx, Ax2, cx2, cssx, rfl, hhx, hk⟩
  have HT11 := hide (HT10.out.fresh hk)
  have HB11 := hide (HB10.out.fresh hk)
  have HX11 := hide hhx
  have O11 : Hid (W10.heap.size ≤ W11.heap.size) := hide hk.size
  clear HT10 HB10 hk hhx
  have p0 : W11.cell? ⟨bp, 0, none⟩ = some (.int .u8 kd1) := HT11.out.1.cell 0; have p1 : W11.cell? ⟨bp, 1, none⟩ = some (.string tx1) := HT11.out.1.cell 1; have p2 : W11.cell? ⟨bp, 2, none⟩ = some (.int .i64 nm1) := HT11.out.1.cell 2; have p3 : W11.cell? ⟨bp, 3, none⟩ = some (.int .u8 tk1) := HT11.out.1.cell 3; have p4 : W11.cell? ⟨bp, 4, none⟩ = some (.bool ng1) := HT11.out.1.cell 4; have p5 : W11.cell? ⟨bp, 5, none⟩ = some (.slice la1 ln1 lc1) := HT11.out.1.cell 5; have p6 : W11.cell? ⟨bp, 6, none⟩ = some (.string tt1) := HT11.out.1.cell 6; have p7 : W11.cell? ⟨bp, 7, none⟩ = some (.int .i64 tn1) := HT11.out.1.cell 7; have p8 : W11.cell? ⟨bp, 8, none⟩ = some (.slice ia1 im1 ic1) := HT11.out.1.cell 8; have p9 : W11.cell? ⟨bp, 9, none⟩ = some (.slice ta1 tm1 tc1) := HT11.out.1.cell 9; have p10 : W11.cell? ⟨bp, 10, none⟩ = some (.slice ka1 kn1 kc1) := HT11.out.1.cell 10
  have u0 : W11.cell? ⟨bq, 0, none⟩ = some (.int .u8 kd2) := HT11.out.2.1.cell 0; have u1 : W11.cell? ⟨bq, 1, none⟩ = some (.string tx2) := HT11.out.2.1.cell 1; have u2 : W11.cell? ⟨bq, 2, none⟩ = some (.int .i64 nm2) := HT11.out.2.1.cell 2; have u3 : W11.cell? ⟨bq, 3, none⟩ = some (.int .u8 tk2) := HT11.out.2.1.cell 3; have u4 : W11.cell? ⟨bq, 4, none⟩ = some (.bool ng2) := HT11.out.2.1.cell 4; have u5 : W11.cell? ⟨bq, 5, none⟩ = some (.slice la2 ln2 lc2) := HT11.out.2.1.cell 5; have u6 : W11.cell? ⟨bq, 6, none⟩ = some (.string tt2) := HT11.out.2.1.cell 6; have u7 : W11.cell? ⟨bq, 7, none⟩ = some (.int .i64 tn2) := HT11.out.2.1.cell 7; have u8 : W11.cell? ⟨bq, 8, none⟩ = some (.slice ia2 im2 ic2) := HT11.out.2.1.cell 8; have u9 : W11.cell? ⟨bq, 9, none⟩ = some (.slice ta2 tm2 tc2) := HT11.out.2.1.cell 9; have u10 : W11.cell? ⟨bq, 10, none⟩ = some (.slice ka2 kn2 kc2) := HT11.out.2.1.cell 10
  go_wp2_with fail
  clear p0 p1 p2 p3 p4 p5 p6 p7 p8 p9 p10
  clear u0 u1 u2 u3 u4 u5 u6 u7 u8 u9 u10
  refine (of_any 26 _ 2 2 _).mono ?_
  rintro e W12 ⟨rfl, hk⟩
  have hk' : Keeps NoB W11 W12 := ((Keeps.refl NoB W11).alloc (.cells #[.int .u8 kd1, .string tx1, .int .i64 nm1, .int .u8 tk1, .bool ng1, .slice la1 ln1 lc1, .string tt1, .int .i64 tn1, .slice ia1 im1 ic1, .slice ta1 tm1 tc1, .slice ka1 kn1 kc1, .int .u8 kd2, .string tx2, .int .i64 nm2, .int .u8 tk2, .bool ng2, .slice la2 ln2 lc2, .string tt2, .int .i64 tn2, .slice ia2 im2 ic2, .slice ta2 tm2 tc2, .slice ka2 kn2 kc2] 30)).trans' hk (fun _ _ => id) (fun _ _ => id)
  have HG12 : Hid (Blk W12 W11.heap.size 30 #[.int .u8 kd1, .string tx1, .int .i64 nm1, .int .u8 tk1, .bool ng1, .slice la1 ln1 lc1, .string tt1, .int .i64 tn1, .slice ia1 im1 ic1, .slice ta1 tm1 tc1, .slice ka1 kn1 kc1, .int .u8 kd2, .string tx2, .int .i64 nm2, .int .u8 tk2, .bool ng2, .slice la2 ln2 lc2, .string tt2, .int .i64 tn2, .slice ia2 im2 ic2, .slice ta2 tm2 tc2, .slice ka2 kn2 kc2]) := hide ((Blk.new W11 30 #[.int .u8 kd1, .string tx1, .int .i64 nm1, .int .u8 tk1, .bool ng1, .slice la1 ln1 lc1, .string tt1, .int .i64 tn1, .slice ia1 im1 ic1, .slice ta1 tm1 tc1, .slice ka1 kn1 kc1, .int .u8 kd2, .string tx2, .int .i64 nm2, .int .u8 tk2, .bool ng2, .slice la2 ln2 lc2, .string tt2, .int .i64 tn2, .slice ia2 im2 ic2, .slice ta2 tm2 tc2, .slice ka2 kn2 kc2]).keep hk id)
  have HT12 := hide (HT11.out.fresh hk')
  have O12 : Hid (W11.heap.size ≤ W12.heap.size) := hide hk'.size
  have HB12 := hide (HB11.out.fresh hk')
  have HX12 := hide (HX11.out.fresh hk')
  generalize W11.heap.size = g11 at *
  clear HT11 HB11 HX11 hk hk'
  go_wp2_with fail
  refine (pat_held rb (bothT p q) W12 (fun k => B k ∨ k = g11) false 26 { data := #[] } 0 0 false none 0 0 { data := #[] } 0 none 0 0 none 0 0 (some ⟨g11, 0, none⟩) 2 2 s f HRB.out (both_in HG12.out (.inr rfl) (CoreIn.more (fun k _ h => .inl h) _ _ (CoreIn.weak _ _ (CoreIn.keep HT12.out.2.2 (fun _ _ => id) _ _ HP.out))) (CoreIn.more (fun k _ h => .inl h) _ _ (CoreIn.weak _ _ (CoreIn.keep HT12.out.2.2 (fun _ _ => id) _ _ HQ.out)))) (fun k h => h.elim (fun h => Nat.lt_of_lt_of_le (HBB.out k h) HT12.out.2.2.size) (fun h => h ▸ HG12.out.lt)) (by rw [both_count]; omega)).mono ?_
  rintro e W13 ⟨Aw, cw, Aw2, cw2, cssw, rfl, hhw, hk⟩
  have HT13 := hide (HT12.out.fresh hk)
  have O13 : Hid (g11 ≤ W13.heap.size) := hide (Nat.le_trans O12.out hk.size)
  have HB13 := hide (HB12.out.fresh hk)
  have HX13 := hide (HX12.out.fresh hk)
  clear HT12 HB12 HX12 HG12 hk hhw
  have p0 : W13.cell? ⟨bp, 0, none⟩ = some (.int .u8 kd1) := HT13.out.1.cell 0; have p1 : W13.cell? ⟨bp, 1, none⟩ = some (.string tx1) := HT13.out.1.cell 1; have p2 : W13.cell? ⟨bp, 2, none⟩ = some (.int .i64 nm1) := HT13.out.1.cell 2; have p3 : W13.cell? ⟨bp, 3, none⟩ = some (.int .u8 tk1) := HT13.out.1.cell 3; have p4 : W13.cell? ⟨bp, 4, none⟩ = some (.bool ng1) := HT13.out.1.cell 4; have p5 : W13.cell? ⟨bp, 5, none⟩ = some (.slice la1 ln1 lc1) := HT13.out.1.cell 5; have p6 : W13.cell? ⟨bp, 6, none⟩ = some (.string tt1) := HT13.out.1.cell 6; have p7 : W13.cell? ⟨bp, 7, none⟩ = some (.int .i64 tn1) := HT13.out.1.cell 7; have p8 : W13.cell? ⟨bp, 8, none⟩ = some (.slice ia1 im1 ic1) := HT13.out.1.cell 8; have p9 : W13.cell? ⟨bp, 9, none⟩ = some (.slice ta1 tm1 tc1) := HT13.out.1.cell 9; have p10 : W13.cell? ⟨bp, 10, none⟩ = some (.slice ka1 kn1 kc1) := HT13.out.1.cell 10
  have u0 : W13.cell? ⟨bq, 0, none⟩ = some (.int .u8 kd2) := HT13.out.2.1.cell 0; have u1 : W13.cell? ⟨bq, 1, none⟩ = some (.string tx2) := HT13.out.2.1.cell 1; have u2 : W13.cell? ⟨bq, 2, none⟩ = some (.int .i64 nm2) := HT13.out.2.1.cell 2; have u3 : W13.cell? ⟨bq, 3, none⟩ = some (.int .u8 tk2) := HT13.out.2.1.cell 3; have u4 : W13.cell? ⟨bq, 4, none⟩ = some (.bool ng2) := HT13.out.2.1.cell 4; have u5 : W13.cell? ⟨bq, 5, none⟩ = some (.slice la2 ln2 lc2) := HT13.out.2.1.cell 5; have u6 : W13.cell? ⟨bq, 6, none⟩ = some (.string tt2) := HT13.out.2.1.cell 6; have u7 : W13.cell? ⟨bq, 7, none⟩ = some (.int .i64 tn2) := HT13.out.2.1.cell 7; have u8 : W13.cell? ⟨bq, 8, none⟩ = some (.slice ia2 im2 ic2) := HT13.out.2.1.cell 8; have u9 : W13.cell? ⟨bq, 9, none⟩ = some (.slice ta2 tm2 tc2) := HT13.out.2.1.cell 9; have u10 : W13.cell? ⟨bq, 10, none⟩ = some (.slice ka2 kn2 kc2) := HT13.out.2.1.cell 10
  go_wp2_with fail
  clear p0 p1 p2 p3 p4 p5 p6 p7 p8 p9 p10
  clear u0 u1 u2 u3 u4 u5 u6 u7 u8 u9 u10
  refine (of_any 26 _ 2 2 _).mono ?_
  rintro e W14 ⟨rfl, hk⟩
  have hk' : Keeps NoB W13 W14 := ((Keeps.refl NoB W13).alloc (.cells #[.int .u8 kd1, .string tx1, .int .i64 nm1, .int .u8 tk1, .bool ng1, .slice la1 ln1 lc1, .string tt1, .int .i64 tn1, .slice ia1 im1 ic1, .slice ta1 tm1 tc1, .slice ka1 kn1 kc1, .int .u8 kd2, .string tx2, .int .i64 nm2, .int .u8 tk2, .bool ng2, .slice la2 ln2 lc2, .string tt2, .int .i64 tn2, .slice ia2 im2 ic2, .slice ta2 tm2 tc2, .slice ka2 kn2 kc2] 30)).trans' hk (fun _ _ => id) (fun _ _ => id)
  have HG14 : Hid (Blk W14 W13.heap.size 30 #[.int .u8 kd1, .string tx1, .int .i64 nm1, .int .u8 tk1, .bool ng1, .slice la1 ln1 lc1, .string tt1, .int .i64 tn1, .slice ia1 im1 ic1, .slice ta1 tm1 tc1, .slice ka1 kn1 kc1, .int .u8 kd2, .string tx2, .int .i64 nm2, .int .u8 tk2, .bool ng2, .slice la2 ln2 lc2, .string tt2, .int .i64 tn2, .slice ia2 im2 ic2, .slice ta2 tm2 tc2, .slice ka2 kn2 kc2]) := hide ((Blk.new W13 30 #[.int .u8 kd1, .string tx1, .int .i64 nm1, .int .u8 tk1, .bool ng1, .slice la1 ln1 lc1, .string tt1, .int .i64 tn1, .slice ia1 im1 ic1, .slice ta1 tm1 tc1, .slice ka1 kn1 kc1, .int .u8 kd2, .string tx2, .int .i64 nm2, .int .u8 tk2, .bool ng2, .slice la2 ln2 lc2, .string tt2, .int .i64 tn2, .slice ia2 im2 ic2, .slice ta2 tm2 tc2, .slice ka2 kn2 kc2]).keep hk id)
  have HT14 := hide (HT13.out.fresh hk')
  have O14 : Hid (g11 ≤ W14.heap.size) := hide (Nat.le_trans O13.out hk'.size)
  have HB14 := hide (HB13.out.fresh hk')
  have HX14 := hide (HX13.out.fresh hk')
  generalize W13.heap.size = g13 at *
  clear HT13 HB13 HX13 hk hk'
  go_wp2_with fail
  refine (pat_held rb (bothT p q) W14 (fun k => B k ∨ k = g13) false 26 { data := #[] } 0 0 false none 0 0 { data := #[] } 0 none 0 0 none 0 0 (some ⟨g13, 0, none⟩) 2 2 s f HRB.out (both_in HG14.out (.inr rfl) (CoreIn.more (fun k _ h => .inl h) _ _ (CoreIn.weak _ _ (CoreIn.keep HT14.out.2.2 (fun _ _ => id) _ _ HP.out))) (CoreIn.more (fun k _ h => .inl h) _ _ (CoreIn.weak _ _ (CoreIn.keep HT14.out.2.2 (fun _ _ => id) _ _ HQ.out)))) (fun k h => h.elim (fun h => Nat.lt_of_lt_of_le (HBB.out k h) HT14.out.2.2.size) (fun h => h ▸ HG14.out.lt)) (by rw [both_count]; omega)).mono ?_
  rintro e W15 ⟨Al, cl, Al2, cl2, cssl, rfl, hhl, hk⟩
  have HT15 := hide (HT14.out.fresh hk)
  have HB15 := hide (HB14.out.fresh hk)
  have HX15 := hide (HX14.out.fresh hk)
  have HL15 := hide hhl
  clear HT14 HB14 HX14 HG14 hk hhl
  by_cases hbig : 1000 < f + r0.next
  · have b1 : decide (1000 < f + r0.next) = true := by simpa using hbig
    go_wp2
    go_ret
    exact ⟨rfl, HT15.out.2.2⟩
  have b1 : decide (1000 < f + r0.next) = false := by simpa using hbig
  by_cases hnil : rb.ins.length = 0
  · have b2 : ((rb.ins.length : Int) == 0) = true := by simpa using hnil
    have HNIL := hide hnil
    clear hnil
    go_wp2
    go_ret
    exact ⟨rfl, HT15.out.2.2⟩
  have b2 : ((rb.ins.length : Int) == 0) = false := by simpa using hnil
  have HRBE := hide (HLAW.out (by omega) (fun h => hnil (by rw [h]; rfl)))
  have HD : Hid (r0.cs.length ≤ 3000 ∧ q.count ≤ 3000) := hide ⟨by omega, hn2⟩
  clear hnil hbig
  go_wp2_with fail
  obtain ⟨i0, hi0, hz0, hz1, hz2⟩ := info_parts Try.inCInfo
  obtain ⟨j0, hj0, jz0, jz1, jz2⟩ := info_parts Try.infoTm
  have HI := hide (And.intro hi0 (And.intro hz0 (And.intro hz1 hz2)))
  have HJ := hide (And.intro hj0 (And.intro jz0 (And.intro jz1 jz2)))
  clear hi0 hz0 hz1 hz2 hj0 jz0 jz1 jz2
  have hxn : rx.ins.length ≤ 6000 := by omega
  go_loopw [24] (fun i wr => ∃ k : Nat, k ≤ rx.ins.length ∧ i = .int .i64 k ∧ Slab wr 44 8 Ax rx.ins.length cx (insL (turnL r0.cs.length rx.ins k)) ∧ Keeps (rowB Ax) W15 wr) (fun i _ => rx.ins.length - (intOf i).toNat)
  case atStart => exact ⟨0, Nat.zero_le _, rfl, by rw [turn_zero]; exact HX15.out.ins, Keeps.refl _ _⟩
  case round =>
    obtain ⟨k, hk, rfl, hsl, hkw⟩ := hrel
    have HSL := hide hsl; have HKW := hide hkw
    clear hsl hkw
    by_cases hlt : k < rx.ins.length
    · obtain ⟨i, hi⟩ : ∃ i, rx.ins[k]? = some i := ⟨_, List.getElem?_eq_getElem hlt⟩
      obtain ⟨g, o, hA, hgl, f0, f4, fz⟩ := turned_at HSL.out hi
      have hmem : i ∈ rx.ins := List.mem_of_getElem? hi
      have HMEM := hide hmem; have HIK := hide hi
      have hk1 : (k : Int) < (rx.ins.length : Int) := by omega
      have hk0 : (0 : Int) ≤ (k : Int) := by omega
      subst hA
      clear hmem hi
      by_cases ho : i.op = 15
      · obtain ⟨hi1, hi2⟩ := HOK.out i HMEM.out ho
        obtain ⟨hd1, hd2⟩ := HD.out
        have HO := hide ho
        have b3 : (i.op == 15) = true := by simpa using ho
        have HSL2 : Hid (Slab (wr.setCell ⟨g, o + k * 8 + 4, none⟩ (.int .i64 (i.n + r0.cs.length))) 44 8 (some ⟨g, o, none⟩) rx.ins.length cx (insL (turnL r0.cs.length rx.ins (k + 1)))) := hide (by
          have h := HSL.out.put1 (j := k * 8 + 4) (by omega) (.int .i64 (i.n + r0.cs.length))
          rw [turn_set _ _ HIK.out ho, ← Nat.add_assoc] at h
          exact h)
        have HKW2 : Hid (Keeps (rowB (some ⟨g, o, none⟩)) W15 (wr.setCell ⟨g, o + k * 8 + 4, none⟩ (.int .i64 (i.n + r0.cs.length)))) := hide (HKW.out.setCell (p := ⟨g, o + k * 8 + 4, none⟩) (.inl ⟨o, rfl⟩) _)
        obtain ⟨v, hv⟩ : ∃ v, i.n = v := ⟨_, rfl⟩
        obtain ⟨u, hu⟩ : ∃ u, i.op = u := ⟨_, rfl⟩
        rw [hv] at HSL2 HKW2 f4 hi1 hi2
        rw [hu] at b3 f0
        clear hv hu ho
        go_wp2
        go_roundw
        case rel => exact ⟨k + 1, by omega, by go_num, HSL2.out, HKW2.out⟩
        case measure => simp [intOf]; omega
      · have HSL2 : Hid (Slab wr 44 8 (some ⟨g, o, none⟩) rx.ins.length cx (insL (turnL r0.cs.length rx.ins (k + 1)))) := hide (by rw [turn_same _ _ HIK.out ho]; exact HSL.out)
        have b3 : (i.op == 15) = false := by simpa using ho
        obtain ⟨u, hu⟩ : ∃ u, i.op = u := ⟨_, rfl⟩
        rw [hu] at b3 f0
        clear hu ho f4 fz
        go_wp2
        go_roundw
        case rel => exact ⟨k + 1, by omega, by go_num, HSL2.out, HKW.out⟩
        case measure => simp [intOf]; omega
    · obtain rfl : k = rx.ins.length := by omega
      obtain ⟨hi0, hz0, hz1, hz2⟩ := HI.out
      obtain ⟨hj0, jz0, jz1, jz2⟩ := HJ.out
      have hx16 := HSL.out
      rw [turn_all _ _ (Nat.le_refl _)] at hx16
      have hrxA : ∀ j, rowB Ax j → W10.heap.size ≤ j ∧ j < g11 := HX15.out.newI
      have hb16 : Held W7.heap.size W8.heap.size r0 Ab cb Ab2 cb2 cssb wr := HB15.out.keep HKW.out (fun j h1 h2 h3 => by have := (hrxA j h3).1; have := O10.out; omega)
      have hl16 : Held W14.heap.size W15.heap.size rb Al cl Al2 cl2 cssl wr := HL15.out.keep HKW.out (fun j h1 h2 h3 => by have := (hrxA j h3).2; have := O14.out; omega)
      have hy16 : Slab wr 27 7 Ax2 rx.cs.length cx2 (List.flatten cssx) := HX15.out.row.keep HKW.out (fun j h1 h2 => HX15.out.apart j h2 h1)
      have hyt16 : TermsIn wr (fun k => (W10.heap.size ≤ k ∧ k < g11) ∧ ¬ rowB Ax k ∧ ¬ rowB Ax2 k) true cssx rx.cs := TermsIn.keep HKW.out (fun j hj hr => hj.2.1 hr) _ _ HX15.out.cs
      obtain ⟨A5, c5, w5, hap, hs5, hk5, hm5⟩ := run_append_any (P := Try.prog) wr 34 34 44 i0 _ 8 88 Try.underlying34 hi0 hz0 hz1 hz2 rfl (by omega) Ab r0.ins.length cb (insL r0.ins) hb16.ins (rowB Ax) true Ax rx.ins.length cx (insL (rx.ins.map (shiftI r0.cs.length))) hx16.reads (insL_ones _) (by unfold maxLen; omega) (by omega)
      have hl17 := hl16.keep hk5 (fun j h1 h2 h3 => by have := (hb16.newI j h3).2; have := O10.out; have := O11.out; have := O14.out; omega)
      have hbr17 : Slab w5 27 7 Ab2 r0.cs.length cb2 (List.flatten cssb) := hb16.row.keep hk5 (fun j h1 h2 => hb16.apart j h2 h1)
      have hbt17 := TermsIn.keep hk5 (fun j hj hr => hj.2.1 hr) _ _ hb16.cs
      have hy17 : Slab w5 27 7 Ax2 rx.cs.length cx2 (List.flatten cssx) := hy16.keep hk5 (fun j h1 h2 => by have := (hb16.newI j h2).2; have := (HX15.out.newC j h1).1; have := O10.out; omega)
      have hyt17 := TermsIn.keep hk5 (fun j hj hr => by have := (hb16.newI j hr).2; have := hj.1.1; have := O10.out; omega) _ _ hyt16
      have hins : insL r0.ins ++ insL (rx.ins.map (shiftI r0.cs.length)) = insL rb.ins := by rw [HRBE.out, insL_append]
      rw [hins] at hs5
      have hlen : rb.ins.length = r0.ins.length + rx.ins.length := by rw [HRBE.out]; simp
      have hnx : rb.next = r0.next + rx.next := by rw [HRBE.out]
      have hcs : r0.cs ++ rx.cs = rb.cs := by rw [HRBE.out]
      have hcl : rb.cs.length = r0.cs.length + rx.cs.length := by rw [← hcs, List.length_append]
      have hk15 : Keeps NoB w wr := HT15.out.2.2.trans' HKW.out (fun _ _ => id) (fun j hj hr => by have := (hrxA j hr).1; have := HT15.out.2.2.size; have := O10.out; have := O8.out; omega)
      have hk17 : Keeps NoB w w5 := hk15.trans' hk5 (fun _ _ => id) (fun j hj hr => by have := (hb16.newI j hr).1; have := O7.out; omega)
      have b5 : (rb.next == r0.next + rx.next) = true := by simp [hnx]
      have HS5 := hide hs5; have HL17 := hide hl17; have HK17 := hide hk17
      have HBR := hide hbr17; have HBT := hide hbt17; have HYR := hide hy17; have HYT := hide hyt17; have HLEN := hide hlen; have HCS := hide hcs; have HCL := hide hcl
      have HGE : Hid (∀ j, rowB Ab2 j → w.heap.size ≤ j) := hide (fun j hr => by have := (hb16.newC j hr).1; have := O7.out; omega)
      have HBI : Hid (∀ j, rowB Ab2 j → W7.heap.size ≤ j ∧ j < W8.heap.size) := hide hb16.newC
      clear hx16 hrxA hb16 hl16 hy16 hyt16 hs5 hl17 hk5 hm5 hbr17 hbt17 hy17 hyt17 hlen hcs hcl hk15 hk17 hins hnx
      go_wp2_with
        first
        | (at_builtin
           refine wpList_append_run (s := .tmp 145) (x := .tmp 146) (t := 34) (by rfl) rfl rfl rfl hap ?_
           clear hap)
        | fail
      refine (same_instrs rb.ins Al A5 _ cl (r0.ins.length + rx.ins.length) c5 w5 _ _ _ _ HL17.out.ins.reads (by have h := HS5.out.reads; exact h) (by unfold Roomy; omega)).mono ?_
      rintro e w6 ⟨rfl, hk6⟩
      obtain ⟨A7, c7, w7, hap, hs7, hk7, hm7⟩ := run_append_any (P := Try.prog) w6 25 25 27 j0 _ 7 104 Try.underlying25 hj0 jz0 jz1 jz2 rfl (by omega) Ab2 r0.cs.length cb2 (List.flatten cssb) (HBR.out.fresh hk6) (rowB Ax2) true Ax2 rx.cs.length cx2 (List.flatten cssx) (HYR.out.fresh hk6).reads (TermsIn.ones _ _ HYT.out) (by unfold maxLen; omega) (by omega)
      have hl7 := (HL17.out.fresh hk6).keep hk7 (fun j h1 h2 h3 => by have := (HBI.out j h3).2; have := O10.out; have := O11.out; have := O14.out; omega)
      have hbt7 := TermsIn.keep hk7 (fun j hj hr => hj.2.2 hr) _ _ (TermsIn.keep hk6 (fun _ _ => id) _ _ HBT.out)
      have hyt7 := TermsIn.keep hk7 (fun j hj hr => by have := (HBI.out j hr).2; have := hj.1.1; have := O10.out; omega) _ _ (TermsIn.keep hk6 (fun _ _ => id) _ _ HYT.out)
      have hall := TermsIn.append (TermsIn.more (B' := fun _ => True) (fun _ _ _ => trivial) _ _ hbt7) (TermsIn.more (B' := fun _ => True) (fun _ _ _ => trivial) _ _ hyt7)
      rw [HCS.out] at hall
      rw [← List.flatten_append] at hs7
      have HL7 := hide hl7; have HALL := hide hall; have HS7 := hide hs7
      have HK7 : Hid (Keeps NoB w w7) := hide ((HK17.out.trans' hk6 (fun _ _ => id) (fun _ _ => id) : Keeps NoB w w6).trans' hk7 (fun _ _ => id) (fun j hj hr => by have := HGE.out j hr; omega))
      clear hs7 hk7 hm7 hl7 hbt7 hyt7 hall hk6
      go_wp2_with
        first
        | (at_builtin
           refine wpList_append_run (s := .tmp 152) (x := .tmp 153) (t := 25) (by rfl) rfl rfl rfl hap ?_
           clear hap)
        | fail
      refine (tm_sames_self rb.cs cssl (cssb ++ cssx) Al2 A7 _ cl2 (r0.cs.length + rx.cs.length) c7 w7 _ _ _ _ (HL7.out.row.reads.more (fun _ _ _ => trivial)) (TermsIn.more (fun _ _ _ => trivial) _ _ HL7.out.cs) (HS7.out.reads.more (fun _ _ _ => trivial)) HALL.out (by unfold Roomy; omega)).mono ?_
      rintro e w8 ⟨rfl, hk8⟩
      have HK8 := hide (HK7.out.trans' hk8 (fun _ _ => id) (fun _ _ => id) : Keeps NoB w w8)
      clear hk8
      go_wp2
      go_ret
      exact ⟨rfl, HK8.out⟩
end Go.Proofs.Ytdmldipnalklgaa
