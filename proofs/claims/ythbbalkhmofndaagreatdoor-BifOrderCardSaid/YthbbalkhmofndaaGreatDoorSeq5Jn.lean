/- law10.yes, where bif.Call tells a truth: its contract. law10.yes and law10.call at two right terms. Printed by mkyest.py. pigeonholekit: TermsOf: what it does not leave off is small. law10.small: it returns, whatever it says. A region that draws its order: two slices that are built and two calls of them, where the second one may be built at any time. Plain law over whatever program. -/
import Derived.Test.YthbbalkhmofndaaGreatDoorNumLJn
import Derived.Test.YthbbalkhmofndaaGreatDoorTwoJn
import Derived.Test.YthbbalkhmofndaaGreatDoorBridgeJn
import Derived.Test.YthbbalkhmofndaaGreatDoorTmAddJn
import Derived.Deep.CutRange
import Derived.Deep.CutBlock
import Derived.Deep.DeepCutAuto
import Derived.Test.YthbbalkhmofndaaGreatDoorMoreJn
namespace Go.Proofs.YthbbalkhmofndaaGreatDoor
open Go.RowKit

set_option maxRecDepth 100000 in
theorem is_true (gv : Bool) (lv : Option Addr) (lvn lvc : Nat) (mv : Int) (iv : Option Addr) (ivn ivc : Nat) (tv : Option Addr) (tvn tvc : Nat) (w : World) :
    Calls Tryz.prog 17 #[.agg #[.int .u8 2, .bool gv, .slice lv lvn lvc, .string ⟨#[116, 114, 117, 101]⟩, .int .i64 mv, .slice iv ivn ivc, .slice tv tvn tvc], .string ⟨#[116, 114, 117, 101]⟩] w fun e w' => e = .returned (.bool true) ∧ Keeps NoB w w' := by
  go_enter Tryz.func17, Tryz.ntmps17
  go_wp2
  go_ret
  exact ⟨rfl, (Keeps.refl _ _).alloc _⟩
set_option maxRecDepth 100000 in
theorem is_false (gv : Bool) (lv : Option Addr) (lvn lvc : Nat) (mv : Int) (iv : Option Addr) (ivn ivc : Nat) (tv : Option Addr) (tvn tvc : Nat) (w : World) :
    Calls Tryz.prog 17 #[.agg #[.int .u8 2, .bool gv, .slice lv lvn lvc, .string ⟨#[102, 97, 108, 115, 101]⟩, .int .i64 mv, .slice iv ivn ivc, .slice tv tvn tvc], .string ⟨#[116, 114, 117, 101]⟩] w fun e w' => e = .returned (.bool false) ∧ Keeps NoB w w' := by
  go_enter Tryz.func17, Tryz.ntmps17
  go_wp2
  go_ret
  exact ⟨rfl, (Keeps.refl _ _).alloc _⟩
set_option maxRecDepth 100000 in
set_option maxHeartbeats 400000 in
theorem law_yes_true (s : ByteArray) (A : Option Addr) (n c : Nat) (w : World) (hc : ∀ w', Keeps NoB w w' → Calls Tryz.prog 12 #[.string s, .slice A n c] w' (CallP w' (flatT 2 ⟨#[116, 114, 117, 101]⟩ 0))) : Calls Tryz.prog 8 #[.string s, .slice A n c] w fun e w' => e = .returned (.bool true) ∧ Keeps NoB w w' := by
  have HC := hide hc
  clear hc
  go_enter Tryz.func8, Tryz.ntmps8
  go_wp2_with
    first
    | (go_at_call 9
       refine (law_call s A n c (flatT 2 ⟨#[116, 114, 117, 101]⟩ 0) w HC.out).mono ?_
       rintro e w1 ⟨kv, gv, lv, lvn, lvc, sv, mv, iv, ivn, ivc, tv, tvn, tvc, rfl, ht1, hk1⟩
       have hk2 : kv = 2 ∧ sv = ⟨#[116, 114, 117, 101]⟩ := by
         obtain ⟨_, _, _, _, _, _, _, _, _, _, _, _, _, he, e1, e2, _⟩ := ht1.cells
         simp only [List.cons.injEq, Value.int.injEq, Value.string.injEq, true_and] at he
         exact ⟨he.1.trans e1, he.2.2.2.1.trans e2⟩
       obtain ⟨rfl, rfl⟩ := hk2
       have HK1 := hide hk1
       clear ht1 hk1)
    | (go_at_call 17
       refine (is_true gv lv lvn lvc mv iv ivn ivc tv tvn tvc _).mono ?_
       rintro e w2 ⟨rfl, hk2⟩
       have HK2 := hide ((HK1.out.alloc (.cells #[.int .u8 2, .bool gv, .slice lv lvn lvc, .string ⟨#[116, 114, 117, 101]⟩, .int .i64 mv, .slice iv ivn ivc, .slice tv tvn tvc] 26)).trans' hk2 (fun _ _ => id) (fun _ _ => id) : Keeps NoB w w2)
       clear hk2)
    | fail
  go_ret
  exact ⟨rfl, HK2.out⟩
set_option maxRecDepth 100000 in
set_option maxHeartbeats 400000 in
theorem law_yes_false (s : ByteArray) (A : Option Addr) (n c : Nat) (w : World) (hc : ∀ w', Keeps NoB w w' → Calls Tryz.prog 12 #[.string s, .slice A n c] w' (CallP w' (flatT 2 ⟨#[102, 97, 108, 115, 101]⟩ 0))) : Calls Tryz.prog 8 #[.string s, .slice A n c] w fun e w' => e = .returned (.bool false) ∧ Keeps NoB w w' := by
  have HC := hide hc
  clear hc
  go_enter Tryz.func8, Tryz.ntmps8
  go_wp2_with
    first
    | (go_at_call 9
       refine (law_call s A n c (flatT 2 ⟨#[102, 97, 108, 115, 101]⟩ 0) w HC.out).mono ?_
       rintro e w1 ⟨kv, gv, lv, lvn, lvc, sv, mv, iv, ivn, ivc, tv, tvn, tvc, rfl, ht1, hk1⟩
       have hk2 : kv = 2 ∧ sv = ⟨#[102, 97, 108, 115, 101]⟩ := by
         obtain ⟨_, _, _, _, _, _, _, _, _, _, _, _, _, he, e1, e2, _⟩ := ht1.cells
         simp only [List.cons.injEq, Value.int.injEq, Value.string.injEq, true_and] at he
         exact ⟨he.1.trans e1, he.2.2.2.1.trans e2⟩
       obtain ⟨rfl, rfl⟩ := hk2
       have HK1 := hide hk1
       clear ht1 hk1)
    | (go_at_call 17
       refine (is_false gv lv lvn lvc mv iv ivn ivc tv tvn tvc _).mono ?_
       rintro e w2 ⟨rfl, hk2⟩
       have HK2 := hide ((HK1.out.alloc (.cells #[.int .u8 2, .bool gv, .slice lv lvn lvc, .string ⟨#[102, 97, 108, 115, 101]⟩, .int .i64 mv, .slice iv ivn ivc, .slice tv tvn tvc] 26)).trans' hk2 (fun _ _ => id) (fun _ _ => id) : Keeps NoB w w2)
       clear hk2)
    | fail
  go_ret
  exact ⟨rfl, HK2.out⟩
end Go.Proofs.YthbbalkhmofndaaGreatDoor
namespace Go.Proofs.YthbbalkhmofndaaGreatDoor
open Go.RowKit

theorem yes_two (S : ByteArray) (hs : S.size ≤ 140737488355328) (hkn : kindN S.data.toList 2 = 2) (r : Bool) (a b : Tm) (hga : goodT a) (hgb : goodT b) (w : World) (hL : LaidK w) (ga c : Nat) (kd : Int) (ng : Bool) (la : Option Addr) (ln lc : Nat) (tx : ByteArray) (nm : Int) (ia : Option Addr) (im ic : Nat) (ta : Option Addr) (tn tc : Nat) (kd' : Int) (ng' : Bool) (la' : Option Addr) (ln' lc' : Nat) (tx' : ByteArray) (nm' : Int) (ia' : Option Addr) (im' ic' : Nat) (ta' : Option Addr) (tn' tc' : Nat) (hA : Blk w ga 26 #[.int .u8 kd, .bool ng, .slice la ln lc, .string tx, .int .i64 nm, .slice ia im ic, .slice ta tn tc, .int .u8 kd', .bool ng', .slice la' ln' lc', .string tx', .int .i64 nm', .slice ia' im' ic', .slice ta' tn' tc']) (ha : TermIn w (fun _ => True) false [.int .u8 kd, .bool ng, .slice la ln lc, .string tx, .int .i64 nm, .slice ia im ic, .slice ta tn tc] a) (hb : TermIn w (fun _ => True) false [.int .u8 kd', .bool ng', .slice la' ln' lc', .string tx', .int .i64 nm', .slice ia' im' ic', .slice ta' tn' tc'] b) (hh : ∀ w, Calls Tryz.prog 56 #[.string S, .int .i64 (compT a b)] w (HeldP w r true)) :
    Calls Tryz.prog 8 #[.string S, .slice (some ⟨ga, 0, none⟩) 2 c] w fun e w' => e = .returned (.bool r) ∧ Keeps NoB w w' := by
  cases r with
  | true =>
    exact law_yes_true S (some ⟨ga, 0, none⟩) 2 c w fun w1 hk => call_two S hs 2 (Or.inr rfl) hkn a b (flatT 2 ⟨#[116, 114, 117, 101]⟩ 0) hga.1 hgb.1 (by kernel_rfl) w1 (hL.keep hk) ga c _ _ _ _ _ _ _ _ _ _ _ _ _ _ _ _ _ _ _ _ _ _ _ _ _ _ 2 false none 0 0 ⟨#[116, 114, 117, 101]⟩ 0 none 0 0 none 0 0 (hA.keep hk id) (TermIn.keep hk (fun _ _ => id) _ _ ha) (TermIn.keep hk (fun _ _ => id) _ _ hb)
      (fun w2 hk2 => two_held S true a b hga.2 hgb.2 w2 (fun _ => True) (fun _ => True) false false _ _ _ _ _ _ _ _ _ _ _ _ _ _ _ _ _ _ _ _ _ _ _ _ _ _ (TermIn.keep (hk.trans' hk2 (fun _ _ => id) (fun _ _ => id) : Keeps NoB w w2) (fun _ _ => id) _ _ ha) (TermIn.keep (hk.trans' hk2 (fun _ _ => id) (fun _ _ => id) : Keeps NoB w w2) (fun _ _ => id) _ _ hb) hh) (fun w2 hk2 => flat_in _ _ _ _ _ _)
  | false =>
    exact law_yes_false S (some ⟨ga, 0, none⟩) 2 c w fun w1 hk => call_two S hs 2 (Or.inr rfl) hkn a b (flatT 2 ⟨#[102, 97, 108, 115, 101]⟩ 0) hga.1 hgb.1 (by kernel_rfl) w1 (hL.keep hk) ga c _ _ _ _ _ _ _ _ _ _ _ _ _ _ _ _ _ _ _ _ _ _ _ _ _ _ 2 false none 0 0 ⟨#[102, 97, 108, 115, 101]⟩ 0 none 0 0 none 0 0 (hA.keep hk id) (TermIn.keep hk (fun _ _ => id) _ _ ha) (TermIn.keep hk (fun _ _ => id) _ _ hb)
      (fun w2 hk2 => two_held S false a b hga.2 hgb.2 w2 (fun _ => True) (fun _ => True) false false _ _ _ _ _ _ _ _ _ _ _ _ _ _ _ _ _ _ _ _ _ _ _ _ _ _ (TermIn.keep (hk.trans' hk2 (fun _ _ => id) (fun _ _ => id) : Keeps NoB w w2) (fun _ _ => id) _ _ ha) (TermIn.keep (hk.trans' hk2 (fun _ _ => id) (fun _ _ => id) : Keeps NoB w w2) (fun _ _ => id) _ _ hb) hh) (fun w2 hk2 => flat_in _ _ _ _ _ _)
theorem law_max_b (a b : Tm) (hga : goodT a) (hgb : goodT b) (w : World) (hL : LaidK w) (ga c : Nat) (kd : Int) (ng : Bool) (la : Option Addr) (ln lc : Nat) (tx : ByteArray) (nm : Int) (ia : Option Addr) (im ic : Nat) (ta : Option Addr) (tn tc : Nat) (kd' : Int) (ng' : Bool) (la' : Option Addr) (ln' lc' : Nat) (tx' : ByteArray) (nm' : Int) (ia' : Option Addr) (im' ic' : Nat) (ta' : Option Addr) (tn' tc' : Nat) (hA : Blk w ga 26 #[.int .u8 kd, .bool ng, .slice la ln lc, .string tx, .int .i64 nm, .slice ia im ic, .slice ta tn tc, .int .u8 kd', .bool ng', .slice la' ln' lc', .string tx', .int .i64 nm', .slice ia' im' ic', .slice ta' tn' tc']) (ha : TermIn w (fun _ => True) false [.int .u8 kd, .bool ng, .slice la ln lc, .string tx, .int .i64 nm, .slice ia im ic, .slice ta tn tc] a) (hb : TermIn w (fun _ => True) false [.int .u8 kd', .bool ng', .slice la' ln' lc', .string tx', .int .i64 nm', .slice ia' im' ic', .slice ta' tn' tc'] b) (hc : compT a b < 0) :
    Calls Tryz.prog 9 #[.string ⟨#[109, 97, 120]⟩, .slice (some ⟨ga, 0, none⟩) 2 c] w (LawCallP w b) :=
  law_call ⟨#[109, 97, 120]⟩ (some ⟨ga, 0, none⟩) 2 c b w fun w1 hk => call_two ⟨#[109, 97, 120]⟩ (by decide) 1 (Or.inl rfl) (by kernel_rfl) a b b hga.1 hgb.1 hgb.1 w1 (hL.keep hk) ga c _ _ _ _ _ _ _ _ _ _ _ _ _ _ _ _ _ _ _ _ _ _ _ _ _ _ kd' ng' la' ln' lc' tx' nm' ia' im' ic' ta' tn' tc' (hA.keep hk id) (TermIn.keep hk (fun _ _ => id) _ _ ha) (TermIn.keep hk (fun _ _ => id) _ _ hb)
      (fun w2 hk2 => two_max_b a b hga.2 hgb.2 w2 (fun _ => True) (fun _ => True) false false _ _ _ _ _ _ _ _ _ _ _ _ _ _ _ _ _ _ _ _ _ _ _ _ _ _ (TermIn.keep (hk.trans' hk2 (fun _ _ => id) (fun _ _ => id) : Keeps NoB w w2) (fun _ _ => id) _ _ ha) (TermIn.keep (hk.trans' hk2 (fun _ _ => id) (fun _ _ => id) : Keeps NoB w w2) (fun _ _ => id) _ _ hb) hc)
      (fun w2 hk2 => TermIn.keep hk2 (fun _ _ => id) _ _ (TermIn.more (fun _ h _ => h) _ _ (TermIn.keep hk (fun _ _ => id) _ _ hb)))
theorem law_max_a (a b : Tm) (hga : goodT a) (hgb : goodT b) (w : World) (hL : LaidK w) (ga c : Nat) (kd : Int) (ng : Bool) (la : Option Addr) (ln lc : Nat) (tx : ByteArray) (nm : Int) (ia : Option Addr) (im ic : Nat) (ta : Option Addr) (tn tc : Nat) (kd' : Int) (ng' : Bool) (la' : Option Addr) (ln' lc' : Nat) (tx' : ByteArray) (nm' : Int) (ia' : Option Addr) (im' ic' : Nat) (ta' : Option Addr) (tn' tc' : Nat) (hA : Blk w ga 26 #[.int .u8 kd, .bool ng, .slice la ln lc, .string tx, .int .i64 nm, .slice ia im ic, .slice ta tn tc, .int .u8 kd', .bool ng', .slice la' ln' lc', .string tx', .int .i64 nm', .slice ia' im' ic', .slice ta' tn' tc']) (ha : TermIn w (fun _ => True) false [.int .u8 kd, .bool ng, .slice la ln lc, .string tx, .int .i64 nm, .slice ia im ic, .slice ta tn tc] a) (hb : TermIn w (fun _ => True) false [.int .u8 kd', .bool ng', .slice la' ln' lc', .string tx', .int .i64 nm', .slice ia' im' ic', .slice ta' tn' tc'] b) (hc : ¬ compT a b < 0) :
    Calls Tryz.prog 9 #[.string ⟨#[109, 97, 120]⟩, .slice (some ⟨ga, 0, none⟩) 2 c] w (LawCallP w a) :=
  law_call ⟨#[109, 97, 120]⟩ (some ⟨ga, 0, none⟩) 2 c a w fun w1 hk => call_two ⟨#[109, 97, 120]⟩ (by decide) 1 (Or.inl rfl) (by kernel_rfl) a b a hga.1 hgb.1 hga.1 w1 (hL.keep hk) ga c _ _ _ _ _ _ _ _ _ _ _ _ _ _ _ _ _ _ _ _ _ _ _ _ _ _ kd ng la ln lc tx nm ia im ic ta tn tc (hA.keep hk id) (TermIn.keep hk (fun _ _ => id) _ _ ha) (TermIn.keep hk (fun _ _ => id) _ _ hb)
      (fun w2 hk2 => two_max_a a b hga.2 hgb.2 w2 (fun _ => True) (fun _ => True) false false _ _ _ _ _ _ _ _ _ _ _ _ _ _ _ _ _ _ _ _ _ _ _ _ _ _ (TermIn.keep (hk.trans' hk2 (fun _ _ => id) (fun _ _ => id) : Keeps NoB w w2) (fun _ _ => id) _ _ ha) (TermIn.keep (hk.trans' hk2 (fun _ _ => id) (fun _ _ => id) : Keeps NoB w w2) (fun _ _ => id) _ _ hb) hc)
      (fun w2 hk2 => TermIn.keep hk2 (fun _ _ => id) _ _ (TermIn.more (fun _ h _ => h) _ _ (TermIn.keep hk (fun _ _ => id) _ _ ha)))
theorem law_min_b (a b : Tm) (hga : goodT a) (hgb : goodT b) (w : World) (hL : LaidK w) (ga c : Nat) (kd : Int) (ng : Bool) (la : Option Addr) (ln lc : Nat) (tx : ByteArray) (nm : Int) (ia : Option Addr) (im ic : Nat) (ta : Option Addr) (tn tc : Nat) (kd' : Int) (ng' : Bool) (la' : Option Addr) (ln' lc' : Nat) (tx' : ByteArray) (nm' : Int) (ia' : Option Addr) (im' ic' : Nat) (ta' : Option Addr) (tn' tc' : Nat) (hA : Blk w ga 26 #[.int .u8 kd, .bool ng, .slice la ln lc, .string tx, .int .i64 nm, .slice ia im ic, .slice ta tn tc, .int .u8 kd', .bool ng', .slice la' ln' lc', .string tx', .int .i64 nm', .slice ia' im' ic', .slice ta' tn' tc']) (ha : TermIn w (fun _ => True) false [.int .u8 kd, .bool ng, .slice la ln lc, .string tx, .int .i64 nm, .slice ia im ic, .slice ta tn tc] a) (hb : TermIn w (fun _ => True) false [.int .u8 kd', .bool ng', .slice la' ln' lc', .string tx', .int .i64 nm', .slice ia' im' ic', .slice ta' tn' tc'] b) (hc : 0 < compT a b) :
    Calls Tryz.prog 9 #[.string ⟨#[109, 105, 110]⟩, .slice (some ⟨ga, 0, none⟩) 2 c] w (LawCallP w b) :=
  law_call ⟨#[109, 105, 110]⟩ (some ⟨ga, 0, none⟩) 2 c b w fun w1 hk => call_two ⟨#[109, 105, 110]⟩ (by decide) 1 (Or.inl rfl) (by kernel_rfl) a b b hga.1 hgb.1 hgb.1 w1 (hL.keep hk) ga c _ _ _ _ _ _ _ _ _ _ _ _ _ _ _ _ _ _ _ _ _ _ _ _ _ _ kd' ng' la' ln' lc' tx' nm' ia' im' ic' ta' tn' tc' (hA.keep hk id) (TermIn.keep hk (fun _ _ => id) _ _ ha) (TermIn.keep hk (fun _ _ => id) _ _ hb)
      (fun w2 hk2 => two_min_b a b hga.2 hgb.2 w2 (fun _ => True) (fun _ => True) false false _ _ _ _ _ _ _ _ _ _ _ _ _ _ _ _ _ _ _ _ _ _ _ _ _ _ (TermIn.keep (hk.trans' hk2 (fun _ _ => id) (fun _ _ => id) : Keeps NoB w w2) (fun _ _ => id) _ _ ha) (TermIn.keep (hk.trans' hk2 (fun _ _ => id) (fun _ _ => id) : Keeps NoB w w2) (fun _ _ => id) _ _ hb) hc)
      (fun w2 hk2 => TermIn.keep hk2 (fun _ _ => id) _ _ (TermIn.more (fun _ h _ => h) _ _ (TermIn.keep hk (fun _ _ => id) _ _ hb)))
theorem law_min_a (a b : Tm) (hga : goodT a) (hgb : goodT b) (w : World) (hL : LaidK w) (ga c : Nat) (kd : Int) (ng : Bool) (la : Option Addr) (ln lc : Nat) (tx : ByteArray) (nm : Int) (ia : Option Addr) (im ic : Nat) (ta : Option Addr) (tn tc : Nat) (kd' : Int) (ng' : Bool) (la' : Option Addr) (ln' lc' : Nat) (tx' : ByteArray) (nm' : Int) (ia' : Option Addr) (im' ic' : Nat) (ta' : Option Addr) (tn' tc' : Nat) (hA : Blk w ga 26 #[.int .u8 kd, .bool ng, .slice la ln lc, .string tx, .int .i64 nm, .slice ia im ic, .slice ta tn tc, .int .u8 kd', .bool ng', .slice la' ln' lc', .string tx', .int .i64 nm', .slice ia' im' ic', .slice ta' tn' tc']) (ha : TermIn w (fun _ => True) false [.int .u8 kd, .bool ng, .slice la ln lc, .string tx, .int .i64 nm, .slice ia im ic, .slice ta tn tc] a) (hb : TermIn w (fun _ => True) false [.int .u8 kd', .bool ng', .slice la' ln' lc', .string tx', .int .i64 nm', .slice ia' im' ic', .slice ta' tn' tc'] b) (hc : ¬ 0 < compT a b) :
    Calls Tryz.prog 9 #[.string ⟨#[109, 105, 110]⟩, .slice (some ⟨ga, 0, none⟩) 2 c] w (LawCallP w a) :=
  law_call ⟨#[109, 105, 110]⟩ (some ⟨ga, 0, none⟩) 2 c a w fun w1 hk => call_two ⟨#[109, 105, 110]⟩ (by decide) 1 (Or.inl rfl) (by kernel_rfl) a b a hga.1 hgb.1 hga.1 w1 (hL.keep hk) ga c _ _ _ _ _ _ _ _ _ _ _ _ _ _ _ _ _ _ _ _ _ _ _ _ _ _ kd ng la ln lc tx nm ia im ic ta tn tc (hA.keep hk id) (TermIn.keep hk (fun _ _ => id) _ _ ha) (TermIn.keep hk (fun _ _ => id) _ _ hb)
      (fun w2 hk2 => two_min_a a b hga.2 hgb.2 w2 (fun _ => True) (fun _ => True) false false _ _ _ _ _ _ _ _ _ _ _ _ _ _ _ _ _ _ _ _ _ _ _ _ _ _ (TermIn.keep (hk.trans' hk2 (fun _ _ => id) (fun _ _ => id) : Keeps NoB w w2) (fun _ _ => id) _ _ ha) (TermIn.keep (hk.trans' hk2 (fun _ _ => id) (fun _ _ => id) : Keeps NoB w w2) (fun _ _ => id) _ _ hb) hc)
      (fun w2 hk2 => TermIn.keep hk2 (fun _ _ => id) _ _ (TermIn.more (fun _ h _ => h) _ _ (TermIn.keep hk (fun _ _ => id) _ _ ha)))
end Go.Proofs.YthbbalkhmofndaaGreatDoor
namespace Go.Proofs.YthbbalkhmofndaaGreatDoor
open Go.RowKit

mutual
/-- All lists in it are short. -/
def smallT : Tm → Prop
  | .mk _ _ limbs _ _ items tail => limbs.length ≤ 3000 ∧ items.length ≤ 3000 ∧ tail.length ≤ 3000 ∧ smallTs items ∧ smallTs tail
def smallTs : List Tm → Prop
  | [] => True
  | t :: ts => smallT t ∧ smallTs ts
end
theorem okTs_at : ∀ {ts : List Tm} {k : Nat} {t : Tm}, okTs ts → ts[k]? = some t → okT t
  | [], _, _, _, h => by simp at h
  | t :: ts, 0, u, hf, h => by
    obtain rfl : t = u := by simpa using h
    unfold okTs at hf; exact hf.1
  | t :: ts, k + 1, u, hf, h => by
    unfold okTs at hf
    exact okTs_at hf.2 (by simpa using h)
theorem smallTs_of : ∀ {ts : List Tm}, (∀ (j : Nat) (u : Tm), ts[j]? = some u → smallT u) → smallTs ts
  | [], _ => by unfold smallTs; trivial
  | t :: ts, h => by unfold smallTs; exact ⟨h 0 t rfl, smallTs_of (fun j u hu => h (j + 1) u (by simpa using hu))⟩
theorem smallTs_at : ∀ {ts : List Tm} {k : Nat} {t : Tm}, smallTs ts → ts[k]? = some t → smallT t
  | [], _, _, _, h => by simp at h
  | t :: ts, 0, u, hf, h => by
    obtain rfl : t = u := by simpa using h
    unfold smallTs at hf; exact hf.1
  | t :: ts, k + 1, u, hf, h => by
    unfold smallTs at hf
    exact smallTs_at hf.2 (by simpa using h)

/-- The first i of some are small. -/
def SmallTo (most : Int) (ts : List Tm) (A : Prop) (i : Nat) (r : Int) : Prop := r ≤ most → A ∧ (i : Int) ≤ r ∧ ∀ (j : Nat) (u : Tm), j < i → ts[j]? = some u → smallT u
theorem SmallTo.start {most : Int} {ts : List Tm} {A : Prop} {r : Int} (h : r ≤ most → A) (h0 : 0 ≤ r) : SmallTo most ts A 0 r := fun hr => ⟨h hr, by omega, fun j u hj => by omega⟩
theorem SmallTo.step {most : Int} {ts : List Tm} {A : Prop} {i : Nat} {r s : Int} {u : Tm} (h : SmallTo most ts A i r) (hu : ts[i]? = some u) (hs : 1 ≤ s) (hsm : s ≤ most - r → smallT u) : SmallTo most ts A (i + 1) (r + s) := by
  intro hr
  obtain ⟨h1, h2, h3⟩ := h (by omega)
  refine ⟨h1, by omega, fun j v hj hv => ?_⟩
  by_cases e : j = i
  · subst e
    rw [hu] at hv; injection hv with hv; subst hv
    exact hsm (by omega)
  · exact h3 j v (by omega) hv
theorem SmallTo.all {most : Int} {ts : List Tm} {A : Prop} {n : Nat} {r : Int} (h : SmallTo most ts A n r) (hn : ts.length = n) (h3 : most ≤ 3000) (hr : r ≤ most) : A ∧ n ≤ 3000 ∧ smallTs ts := by
  obtain ⟨h1, h2, h4⟩ := h hr
  exact ⟨h1, by omega, smallTs_of (fun j u hu => h4 j u (by have := (List.getElem?_eq_some_iff.1 hu).1; omega) hu)⟩

def OfPost2 (w : World) (t : Tm) (most : Int) (e : Ending) (w' : World) : Prop := ∃ r : Int, e = .returned (.int .i64 r) ∧ 1 ≤ r ∧ r ≤ most + 281474976710656 ∧ (r ≤ most → smallT t) ∧ Keeps NoB w w'

def OfSaid2 (M : Nat) : Prop := ∀ (t : Tm), t.size ≤ M → okT t → ∀ (w : World) (B : Nat → Prop) (F : Bool) (kd : Int) (ng : Bool) (la : Option Addr) (ln lc : Nat) (tx : ByteArray) (nm : Int) (ia : Option Addr) (im ic : Nat) (ta : Option Addr) (tn tc : Nat) (most : Int),
  TermIn w B F [.int .u8 kd, .bool ng, .slice la ln lc, .string tx, .int .i64 nm, .slice ia im ic, .slice ta tn tc] t → 0 ≤ most → most ≤ 3000 →
  Calls Tryz.prog 18 #[.agg #[.int .u8 kd, .bool ng, .slice la ln lc, .string tx, .int .i64 nm, .slice ia im ic, .slice ta tn tc], .int .i64 most] w (OfPost2 w t most)

set_option maxRecDepth 100000 in
set_option maxHeartbeats 1000000 in
theorem terms_of_all2 (M : Nat) : OfSaid2 M := by
  induction M using Nat.strongRecOn with
  | ind M IH =>
  intro t hM hfit w B F kd ng la ln lc tx nm ia im ic ta tn tc most ht h0 h3
  obtain ⟨limbs, items, tail, css, dss, rfl, hroom, hrl, hri, hti, hrt, htt⟩ : ∃ limbs items tail css dss, t = .mk kd ng limbs tx nm items tail ∧ (Roomy ln 4 ∧ Roomy im 104 ∧ Roomy tn 104) ∧ Reads w B F 1 la ln (limbs.map (Value.int .u32)) ∧ Reads w B F 7 ia im (List.flatten css) ∧ TermsIn w B F css items ∧ Reads w B F 7 ta tn (List.flatten dss) ∧ TermsIn w B F dss tail := by
    cases t
    unfold TermIn at ht
    obtain ⟨_, _, _, _, _, _, _, _, _, css, dss, e, hb, h1, h2, h3, h4, h5⟩ := ht
    simp only [List.cons.injEq, Value.int.injEq, Value.bool.injEq, Value.slice.injEq, Value.string.injEq, true_and, and_true] at e
    obtain ⟨rfl, rfl, ⟨rfl, rfl, rfl⟩, rfl, rfl, ⟨rfl, rfl, rfl⟩, rfl, rfl, rfl⟩ := e
    exact ⟨_, _, _, css, dss, rfl, ⟨hb.1.1, hb.2.1.1, hb.2.2.1⟩, h1, h2, h3, h4, h5⟩
  have hll : limbs.length = ln := by have := hrl.1; simpa using this
  have hil : items.length = im := by have h1 := hri.1; rw [flat_len hti.lens.2, hti.lens.1] at h1; omega
  have htl : tail.length = tn := by have h1 := hrt.1; rw [flat_len htt.lens.2, htt.lens.1] at h1; omega
  have HLL := hide hll; have HIL := hide hil; have HTL := hide htl
  clear hll hil htl
  have hsz : Tm.size.sizes items < M ∧ Tm.size.sizes tail < M := by
    have := hM; simp only [Tm.size] at this; omega
  have hln : (ln : Int) ≤ 35184372088832 := by have := hroom.1; unfold Roomy at this; omega
  have him : (im : Int) ≤ 35184372088832 := by have := hroom.2.1; unfold Roomy at this; omega
  have htn : (tn : Int) ≤ 35184372088832 := by have := hroom.2.2; unfold Roomy at this; omega
  unfold okT at hfit
  obtain ⟨_, _, hf1, _, hf2, hf3⟩ := hfit
  have htx : (tx.size : Int) ≤ 140737488355328 := by omega
  have HRI := hide hri; have HTI := hide hti; have HRT := hide hrt; have HTT := hide htt; have HSZ := hide hsz; have HF2 := hide hf2; have HF3 := hide hf3; have HIH := hide IH
  have hdiv0 : 0 ≤ (tx.size : Int).tdiv 8 := Int.tdiv_nonneg (by omega) (by omega)
  have hdiv : (tx.size : Int).tdiv 8 ≤ 140737488355328 := by have := Int.tdiv_le_self (a := (tx.size : Int)) 8 (by omega); omega
  clear hrl hri hti hrt htt hroom hsz hf1 hf2 hf3 hM IH ht
  go_enter Tryz.func18, Tryz.ntmps18
  have hn1 : 1 ≤ 1 + (ln : Int) + (tx.size : Int) / 8 := by omega
  have HN0 := hide (show 1 + (ln : Int) + (tx.size : Int) / 8 ≤ most → ln ≤ 3000 from fun h => by omega)
  have hn2 : 1 + (ln : Int) + (tx.size : Int) / 8 ≤ 281474976710656 := by omega
  clear hdiv hdiv0
  go_upto_block 0 with fail
  generalize 1 + (ln : Int) + (tx.size : Int) / 8 = n0 at *
  have HBX := hide (Blk.new w 26 #[.int .u8 kd, .bool ng, .slice la ln lc, .string tx, .int .i64 nm, .slice ia im ic, .slice ta tn tc])
  have HK0 := hide ((Keeps.refl NoB w).alloc (.cells #[.int .u8 kd, .bool ng, .slice la ln lc, .string tx, .int .i64 nm, .slice ia im ic, .slice ta tn tc] 26))
  generalize w.alloc (.cells #[.int .u8 kd, .bool ng, .slice la ln lc, .string tx, .int .i64 nm, .slice ia im ic, .slice ta tn tc] 26) = W0 at *
  go_cut [5] (fun s5 wx => ∃ r : Int, s5 = .int .i64 r ∧ 1 ≤ r ∧ r ≤ most + 281474976710656 ∧ Hid (r ≤ most → ln ≤ 3000 ∧ im ≤ 3000 ∧ smallTs items) ∧ Keeps NoB W0 wx)
  case first =>
    go_wp2_with fail
    go_loopg [5, 6] im (fun g s5 s6 wx => ∃ (i : Nat) (r : Int), i ≤ im ∧ g = im - i ∧ s5 = .int .i64 r ∧ s6 = .int .i64 i ∧ 1 ≤ r ∧ r ≤ most + 281474976710656 ∧ Hid (SmallTo most items (ln ≤ 3000) i r) ∧ Keeps NoB W0 wx)
    case atStart => exact ⟨0, n0, Nat.zero_le _, rfl, rfl, rfl, by omega, by omega, hide (SmallTo.start HN0.out (by omega)), Keeps.refl _ _⟩
    case round =>
      obtain ⟨i, r, hi, rfl, rfl, rfl, hr1, hr2, HSM, hkw⟩ := hrel
      have HKW := hide hkw; clear hkw
      have p5 : wr.cell? ⟨w.heap.size, 5, none⟩ = some (.slice ia im ic) := (HBX.out.keep HKW.out id).cell 5
      have p6 : wr.cell? ⟨w.heap.size, 6, none⟩ = some (.slice ta tn tc) := (HBX.out.keep HKW.out id).cell 6
      have hi0 : (0 : Int) ≤ i := by omega
      by_cases hin : i < im
      · have hiz : (i : Int) < im := by omega
        by_cases hrm : r ≤ most
        · obtain ⟨b, o, kd', ng', la', ln', lc', tx', nm', ia', im', ic', ta', tn', tc', u, hA, h1, h2, hu, f0, f1, f2, f3, f4, f5, f6⟩ := cells_at (HRI.out.keep (HK0.out.trans' HKW.out (fun _ _ => id) (fun _ _ => id)) (fun _ _ => id)) (TermsIn.keep (HK0.out.trans' HKW.out (fun _ _ => id) (fun _ _ => id)) (fun _ _ => id) _ _ HTI.out) i hin
          subst hA
          have HAT := hide h1; have HT2 := hide h2; have HU := hide hu; have HFU := hide (okTs_at HF2.out h1)
          clear h1 h2 hu
          go_wp2_with
            first
            | (go_at_call 18
               refine (HIH.out _ HSZ.out.1 u HU.out HFU.out _ B F kd' ng' la' ln' lc' tx' nm' ia' im' ic' ta' tn' tc' (most - r) HT2.out (by omega) (by omega)).mono ?_
               rintro e w2 ⟨s, rfl, hs1, hs2, hs3, hk2⟩
               have HS3 := hide hs3
               have HKS := hide (HKW.out.trans' hk2 (fun _ _ => id) (fun _ _ => id) : Keeps NoB W0 w2)
               clear hk2 hs3)
            | fail
          go_roundg (im - (i + 1))
          case measure => omega
          case rel => exact ⟨i + 1, r + s, by omega, rfl, by go_num, by go_num, by omega, by omega, hide (HSM.out.step HAT.out hs1 HS3.out), HKS.out⟩
        · have hrm' : most < r := by omega
          clear hrm
          have HBIG := hide (show r ≤ most → ln ≤ 3000 ∧ im ≤ 3000 ∧ smallTs items from fun h => by omega)
          go_wp2
          go_meet
          exact ⟨r, rfl, hr1, hr2, HBIG, HKW.out⟩
      · have hiz : (im : Int) ≤ i := by omega
        obtain rfl : i = im := by omega
        have HBIG := hide (fun h => HSM.out.all HIL.out h3 h)
        go_wp2
        go_meet
        exact ⟨r, rfl, hr1, hr2, HBIG, HKW.out⟩
  case rest =>
    obtain ⟨r0, rfl, hr1, hr2, HC1, hkw⟩ := hcut
    have HKC := hide hkw; clear hkw
    go_upto_block 2 with fail
    go_cut [5] (fun s5 wx => ∃ r : Int, s5 = .int .i64 r ∧ 1 ≤ r ∧ r ≤ most + 281474976710656 ∧ Hid (r ≤ most → (ln ≤ 3000 ∧ im ≤ 3000 ∧ smallTs items) ∧ tn ≤ 3000 ∧ smallTs tail) ∧ Keeps NoB W0 wx)
    case first =>
      go_wp2_with fail
      go_loopg [5, 7] tn (fun g s5 s6 wx => ∃ (i : Nat) (r : Int), i ≤ tn ∧ g = tn - i ∧ s5 = .int .i64 r ∧ s6 = .int .i64 i ∧ 1 ≤ r ∧ r ≤ most + 281474976710656 ∧ Hid (SmallTo most tail (ln ≤ 3000 ∧ im ≤ 3000 ∧ smallTs items) i r) ∧ Keeps NoB W0 wx)
      case atStart => exact ⟨0, r0, Nat.zero_le _, rfl, rfl, rfl, by omega, by omega, hide (SmallTo.start HC1.out (by omega)), HKC.out⟩
      case round =>
        obtain ⟨i, r, hi, rfl, rfl, rfl, hr1, hr2, HSM, hkw⟩ := hrel
        have HKW := hide hkw; clear hkw
        have p5 : wr.cell? ⟨w.heap.size, 5, none⟩ = some (.slice ia im ic) := (HBX.out.keep HKW.out id).cell 5
        have p6 : wr.cell? ⟨w.heap.size, 6, none⟩ = some (.slice ta tn tc) := (HBX.out.keep HKW.out id).cell 6
        have hi0 : (0 : Int) ≤ i := by omega
        by_cases hin : i < tn
        · have hiz : (i : Int) < tn := by omega
          by_cases hrm : r ≤ most
          · obtain ⟨b, o, kd', ng', la', ln', lc', tx', nm', ia', im', ic', ta', tn', tc', u, hA, h1, h2, hu, f0, f1, f2, f3, f4, f5, f6⟩ := cells_at (HRT.out.keep (HK0.out.trans' HKW.out (fun _ _ => id) (fun _ _ => id)) (fun _ _ => id)) (TermsIn.keep (HK0.out.trans' HKW.out (fun _ _ => id) (fun _ _ => id)) (fun _ _ => id) _ _ HTT.out) i hin
            subst hA
            have HAT := hide h1; have HT2 := hide h2; have HU := hide hu; have HFU := hide (okTs_at HF3.out h1)
            clear h1 h2 hu
            go_wp2_with
              first
              | (go_at_call 18
                 refine (HIH.out _ HSZ.out.2 u HU.out HFU.out _ B F kd' ng' la' ln' lc' tx' nm' ia' im' ic' ta' tn' tc' (most - r) HT2.out (by omega) (by omega)).mono ?_
                 rintro e w2 ⟨s, rfl, hs1, hs2, hs3, hk2⟩
                 have HS3 := hide hs3
                 have HKS := hide (HKW.out.trans' hk2 (fun _ _ => id) (fun _ _ => id) : Keeps NoB W0 w2)
                 clear hk2 hs3)
              | fail
            go_roundg (tn - (i + 1))
            case measure => omega
            case rel => exact ⟨i + 1, r + s, by omega, rfl, by go_num, by go_num, by omega, by omega, hide (HSM.out.step HAT.out hs1 HS3.out), HKS.out⟩
          · have hrm' : most < r := by omega
            clear hrm
            have HBIG := hide (show r ≤ most → (ln ≤ 3000 ∧ im ≤ 3000 ∧ smallTs items) ∧ tn ≤ 3000 ∧ smallTs tail from fun h => by omega)
            go_wp2
            go_meet
            exact ⟨r, rfl, hr1, hr2, HBIG, HKW.out⟩
        · have hiz : (tn : Int) ≤ i := by omega
          obtain rfl : i = tn := by omega
          have HBIG := hide (fun h => HSM.out.all HTL.out h3 h)
          go_wp2
          go_meet
          exact ⟨r, rfl, hr1, hr2, HBIG, HKW.out⟩
    case rest =>
      obtain ⟨r, rfl, hr1, hr2, HC2, hkw⟩ := hcut
      have HKD := hide hkw; clear hkw
      go_wp2
      go_ret
      refine ⟨r, rfl, hr1, hr2, fun h => ?_, HK0.out.trans' HKD.out (fun _ _ => id) (fun _ _ => id)⟩
      obtain ⟨⟨s1, s2, s3⟩, s4, s5⟩ := HC2.out h
      unfold smallT
      exact ⟨by rw [HLL.out]; exact s1, by rw [HIL.out]; exact s2, by rw [HTL.out]; exact s4, s3, s5⟩

theorem terms_of_any2 (t : Tm) (hf : okT t) (w : World) (B : Nat → Prop) (F : Bool) (kd : Int) (ng : Bool) (la : Option Addr) (ln lc : Nat) (tx : ByteArray) (nm : Int) (ia : Option Addr) (im ic : Nat) (ta : Option Addr) (tn tc : Nat)
    (ht : TermIn w B F [.int .u8 kd, .bool ng, .slice la ln lc, .string tx, .int .i64 nm, .slice ia im ic, .slice ta tn tc] t) :
    Calls Tryz.prog 18 #[.agg #[.int .u8 kd, .bool ng, .slice la ln lc, .string tx, .int .i64 nm, .slice ia im ic, .slice ta tn tc], .int .i64 3000] w (OfPost2 w t 3000) :=
  terms_of_all2 t.size t (Nat.le_refl _) hf w B F kd ng la ln lc tx nm ia im ic ta tn tc 3000 ht (by omega) (by omega)
end Go.Proofs.YthbbalkhmofndaaGreatDoor
namespace Go.Proofs.YthbbalkhmofndaaGreatDoor
open Go.RowKit

def BoolP (w : World) (e : Ending) (w' : World) : Prop := (∃ b, e = .returned (.bool b)) ∧ Keeps NoB w w'
set_option maxRecDepth 100000 in
set_option maxHeartbeats 1000000 in
theorem small_any (ts : List Tm) (css : List (List Value)) (A : Option Addr) (n c : Nat) (w : World) (B : Nat → Prop) (F : Bool) (hr : Reads w B F 7 A n css.flatten) (ht : TermsIn w B F css ts) (hok : ∀ t ∈ ts, okT t) (hn : n ≤ 1000000) :
    Calls Tryz.prog 6 #[.slice A n c] w (BoolP w) := by
  have HR := hide hr; have HT := hide ht; have HOK := hide hok
  clear hr ht hok
  go_enter Tryz.func6, Tryz.ntmps6
  go_wp2
  go_loopg [3, 4] n (fun g s3 s4 wx => ∃ (k : Nat) (m : Int), k ≤ n ∧ g = n - k ∧ s3 = .int .i64 m ∧ s4 = .int .i64 k ∧ 0 ≤ m ∧ m ≤ 281474976711456 ∧ Keeps NoB w wx)
  case atStart => exact ⟨0, 0, Nat.zero_le _, rfl, rfl, rfl, by omega, by omega, Keeps.refl _ _⟩
  case round =>
    obtain ⟨k, m, hk, rfl, rfl, rfl, hm0, hm1, hkw⟩ := hrel
    have HKW := hide hkw
    clear hkw
    by_cases hlt : k < n
    · have hk1 : (k : Int) < (n : Int) := by omega
      have hk0 : (0 : Int) ≤ (k : Int) := by omega
      by_cases hm : m ≤ 400
      · obtain ⟨b, o, kd, ng, la, ln, lc, tx, nm, ia, im, ic, ta, tn, tc, t, hA, h1, h2, h3, f0, f1, f2, f3, f4, f5, f6⟩ := cells_at (HR.out.keep HKW.out (fun _ _ => id)) (TermsIn.keep HKW.out (fun _ _ => id) _ _ HT.out) k hlt
        subst hA
        have H1 := hide (HOK.out t (List.mem_of_getElem? h1)); have H2 := hide h2
        clear h1 h2 h3
        go_wp2_with
          first
          | (go_at_call 18
             refine (terms_of_all2 t.size t (Nat.le_refl _) H1.out wr B F kd ng la ln lc tx nm ia im ic ta tn tc 400 H2.out (by omega) (by omega)).mono ?_
             rintro e w2 ⟨r, rfl, hr1, hr2, _, hk2⟩
             have hw : IntKind.i64.wrap (m + r) = m + r := IntWalk.i64_in _ (by omega)
             have HK2 := hide (HKW.out.trans' hk2 (fun _ _ => id) (fun _ _ => id) : Keeps NoB w w2)
             clear hk2)
          | fail
        go_roundg (n - (k + 1))
        case measure => omega
        case rel => exact ⟨k + 1, m + r, by omega, rfl, by first | rfl | (rw [hw]), by go_num, by omega, by omega, HK2.out⟩
      · go_wp2_with fail
        go_ret
        exact ⟨⟨_, rfl⟩, HKW.out⟩
    · obtain rfl : n = k := by omega
      have hkz : ¬ (n : Int) < (n : Int) := by omega
      go_wp2_with fail
      go_ret
      exact ⟨⟨_, rfl⟩, HKW.out⟩
end Go.Proofs.YthbbalkhmofndaaGreatDoor
namespace Go.Proofs.YthbbalkhmofndaaGreatDoor
section
variable {P : Program} {ops : Array Oper} {Q : Exit → Act → World → Prop} {S : World → Prop} {need : Nat → Bool}
theorem order_perm {fuel : Nat} {done done' : List Nat} {a : Act} {w : World} (h : ∀ j, done.contains j = done'.contains j) (H : Order P ops Q S need fuel done a w) : Order P ops Q S need fuel done' a w :=
  fun l hag => H l ⟨hag.1, fun j => by rw [hag.2, h]⟩
/-- One operation, run or skipped. -/
def Step (P : Program) (ops : Array Oper) (Q : Exit → Act → World → Prop) (o : Oper) (a : Act) (w : World) (K : Act → World → Prop) : Prop := if Region.wanted o (yielded ops a.tmps) then o.wp P a w K Q else K (a.put o.dst undef) w
theorem order_group {b1 c1 b2 c2 : Nat} {o1 p1 o2 p2 : Oper} {r1 r2 r3 r4 : List Oper} {fuel : Nat} {done : List Nat} {a : Act} {w : World}
    (hb1 : ops.toList.drop b1 = o1 :: r1) (hc1 : ops.toList.drop c1 = p1 :: r2) (hb2 : ops.toList.drop b2 = o2 :: r3) (hc2 : ops.toList.drop c2 = p2 :: r4)
    (hc : (wellOrdered ops && (upNext ops done == [b1, b2]) && (upNext ops (b1 :: done) == [c1, b2]) && (upNext ops (b2 :: done) == [b1]) && (upNext ops (b2 :: b1 :: done) == [c1]) && (upNext ops (b1 :: b2 :: done) == [c1]) && (upNext ops (c1 :: b1 :: done) == [b2]) && (upNext ops (c1 :: b2 :: b1 :: done) == [c2]) && (upNext ops (b2 :: c1 :: b1 :: done) == [c2]) && (upNext ops (c1 :: b1 :: b2 :: done) == [c2])) = true)
    (V1 V2 : Value → World → Prop) (v1 v2 : Value) (hS : S w)
    (B1 : ∀ w K, S w → (∀ x a' w', a' = a.put o1.dst x → S w' → V1 x w' → K a' w') → Step P ops Q o1 a w K)
    (B1y : ∀ y w K, S w → V2 y w → (∀ x a' w', a' = (a.put o1.dst x).put o2.dst y → S w' → V1 x w' → V2 y w' → K a' w') → Step P ops Q o1 (a.put o2.dst y) w K)
    (B2 : ∀ w K, S w → (∀ y a' w', a' = a.put o2.dst y → S w' → V2 y w' → K a' w') → Step P ops Q o2 a w K)
    (B2x : ∀ x w K, S w → V1 x w → (∀ y a' w', a' = (a.put o1.dst x).put o2.dst y → S w' → V1 x w' → V2 y w' → K a' w') → Step P ops Q o2 (a.put o1.dst x) w K)
    (B2c : ∀ x w K, S w → (∀ y a' w', a' = ((a.put o1.dst x).put p1.dst v1).put o2.dst y → S w' → V2 y w' → K a' w') → Step P ops Q o2 ((a.put o1.dst x).put p1.dst v1) w K)
    (C1 : ∀ x w K, S w → V1 x w → (∀ a' w', a' = (a.put o1.dst x).put p1.dst v1 → S w' → K a' w') → Step P ops Q p1 (a.put o1.dst x) w K)
    (C1y : ∀ x y w K, S w → V1 x w → V2 y w → (∀ a' w', a' = ((a.put o1.dst x).put p1.dst v1).put o2.dst y → S w' → V2 y w' → K a' w') → Step P ops Q p1 ((a.put o1.dst x).put o2.dst y) w K)
    (C2 : ∀ x y w K, S w → V2 y w → (∀ a' w', a' = (((a.put o1.dst x).put p1.dst v1).put o2.dst y).put p2.dst v2 → S w' → K a' w') → Step P ops Q p2 (((a.put o1.dst x).put p1.dst v1).put o2.dst y) w K)
    (rest : ∀ x y w, S w → Order P ops Q S need fuel (c2 :: b2 :: c1 :: b1 :: done) ((((a.put o1.dst x).put p1.dst v1).put o2.dst y).put p2.dst v2) w) : Order P ops Q S need (fuel + 4) done a w := by
  simp only [Bool.and_eq_true] at hc
  obtain ⟨⟨⟨⟨⟨⟨⟨⟨⟨hw, u0⟩, u1⟩, u2⟩, u21⟩, u12⟩, uc1⟩, uc21⟩, u2c1⟩, uc12⟩ := hc
  have hmem : ∀ l l' : List Nat, (∀ j, j ∈ l ↔ j ∈ l') → ∀ j, l.contains j = l'.contains j := fun l l' h j => by
    rw [Bool.eq_iff_iff, List.contains_iff_mem, List.contains_iff_mem]; exact h j
  have k : ∀ {d : List Nat} {l : List Nat}, (upNext ops d == l) = true → (wellOrdered ops && (upNext ops d == l)) = true := fun h => by rw [hw, h]; rfl
  refine order_two hb1 hb2 (k u0) (fun K hK => ?_) (fun K hK => ?_)
  · refine B1 w K hS fun x a' w' e hs hv => hK a' w' (fun _ _ => hs) ?_
    subst e
    refine order_two hc1 hb2 (k u1) (fun K hK => ?_) (fun K hK => ?_)
    · refine C1 x w' K hs hv fun a' w' e hs => hK a' w' (fun _ _ => hs) ?_
      subst e
      refine order_one hb2 (k uc1) fun K hK => B2c x w' K hs fun y a' w' e hs hv => hK a' w' (fun _ _ => hs) ?_
      subst e
      refine order_one hc2 (k u2c1) fun K hK => C2 x y w' K hs hv fun a' w' e hs => hK a' w' (fun _ _ => hs) ?_
      subst e
      exact rest x y w' hs
    · refine B2x x w' K hs hv fun y a' w' e hs hv hv2 => hK a' w' (fun _ _ => hs) ?_
      subst e
      refine order_one hc1 (k u21) fun K hK => C1y x y w' K hs hv hv2 fun a' w' e hs hv2 => hK a' w' (fun _ _ => hs) ?_
      subst e
      refine order_one hc2 (k uc21) fun K hK => C2 x y w' K hs hv2 fun a' w' e hs => hK a' w' (fun _ _ => hs) ?_
      subst e
      exact order_perm (hmem _ _ fun j => by simp only [List.mem_cons]; constructor <;> rintro (h | h | h | h | h) <;> simp [h]) (rest x y w' hs)
  · refine B2 w K hS fun y a' w' e hs hv2 => hK a' w' (fun _ _ => hs) ?_
    subst e
    refine order_one hb1 (k u2) fun K hK => B1y y w' K hs hv2 fun x a' w' e hs hv hv2 => hK a' w' (fun _ _ => hs) ?_
    subst e
    refine order_one hc1 (k u12) fun K hK => C1y x y w' K hs hv hv2 fun a' w' e hs hv2 => hK a' w' (fun _ _ => hs) ?_
    subst e
    refine order_one hc2 (k uc12) fun K hK => C2 x y w' K hs hv2 fun a' w' e hs => hK a' w' (fun _ _ => hs) ?_
    subst e
    exact order_perm (hmem _ _ fun j => by simp only [List.mem_cons]; constructor <;> rintro (h | h | h | h | h) <;> simp [h]) (rest x y w' hs)
end
end Go.Proofs.YthbbalkhmofndaaGreatDoor
