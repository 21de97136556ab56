/- mail.own: it hands back terms in memory of their own. -/
import Derived.Test.YtmkidkfofbnjgaaOwnWalk
import Derived.Laws.EntriesVeiled
namespace Go.Proofs.Ytmkidkfofbnjgaa
open Go.RowKit

theorem own_any (ts : List Tm) (css : List (List Value)) (A : Option Addr) (n c : Nat) (w : World) (B : Nat → Prop) (F : Bool)
    (hr : Reads w B F 7 A n css.flatten) (ht : TermsIn w B F css ts) (hb : Roomy n 104) :
    Calls Try.prog 33 #[.slice A n c] w (OwnPost w n ts) := by
  have HR := hide hr; have HT := hide ht
  clear hr ht
  go_enter Try.func33, Try.ntmps33
  have hK : Keeps NoB w (w.alloc (.cells #[.func (.func 42) #[] #[.pointer (some ⟨w.heap.size, 0, none⟩)]] 64)) := (Keeps.refl NoB w).alloc _
  have hE : EachAt (w.alloc (.cells #[.func (.func 42) #[] #[.pointer (some ⟨w.heap.size, 0, none⟩)]] 64)) w.heap.size := Blk.cell (Blk.new w 64 _) 0
  have HK := hide hK; have HE := hide hE
  clear hK hE
  go_wp2_with (go_at_call 42; go_must (refine (own1_any _ ts (Nat.le_refl _) css A n c w.heap.size _ B F (HR.out.keep HK.out (fun _ _ => id)) (TermsIn.keep HK.out (fun _ _ => id) _ _ HT.out) hb HE.out).mono ?_); rintro e w1 ⟨A1, c1, css1, m1, rfl, h1, h2, h3, h4, h5, h6⟩)
  have H4 := hide h4; have H5 := hide h5; have H6 := hide h6
  clear h4 h5 h6
  go_wp2
  go_ret
  exact ⟨A1, c1, css1, m1, rfl, h1, h2, by have := HK.out.size; omega, H4.out.more (fun x _ hx => ⟨by have := HK.out.size; omega, hx.2⟩), H5.out, (HK.out.trans' (Keeps.of_below H6.out NoB) (fun _ _ => id) (fun _ _ => id)).below⟩

end Go.Proofs.Ytmkidkfofbnjgaa
