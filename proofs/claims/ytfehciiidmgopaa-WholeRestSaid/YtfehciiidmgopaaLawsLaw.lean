/- WholeLaws: what the walk leans on. -/
import Derived.Test.YtfehciiidmgopaaBad
namespace Go.Proofs.Ytfehciiidmgopaa
open Go.RowKit

theorem cmp_self {x y : Int} (h : x = y) : cmpZ x y = 0 := by subst h; unfold cmpZ; rw [if_neg (by omega), if_neg (by omega)]
theorem times_no (ng ng' : Bool) (A A' ia ta ia' ta' : Option Addr) (n c n' c' ic tc ic' tc' : Nat) (x y : Int) (w : World) (B B' : Nat → Prop) (h : IA w B ng A n c x) (h' : IA w B' ng' A' n' c' y) (hz : Big ≤ (x * y).natAbs) :
    Calls Try.prog 11 #[.agg #[.int .u8 1, .bool ng, .slice A n c, .string { data := #[] }, .int .i64 0, .slice ia 0 ic, .slice ta 0 tc], .agg #[.int .u8 1, .bool ng', .slice A' n' c', .string { data := #[] }, .int .i64 0, .slice ia' 0 ic', .slice ta' 0 tc']] w (NoP w) :=
  (times_any ng ng' A A' ia ta ia' ta' n c n' c' ic tc ic' tc' x y w B B' h h').mono fun e w' h => AnyP.no hz h
theorem add_no (ng ng' : Bool) (A A' ia ta ia' ta' : Option Addr) (n c n' c' ic tc ic' tc' : Nat) (x y : Int) (w : World) (B B' : Nat → Prop) (h : IA w B ng A n c x) (h' : IA w B' ng' A' n' c' y) (hz : Big ≤ (x + y).natAbs) :
    Calls Try.prog 25 #[.agg #[.int .u8 1, .bool ng, .slice A n c, .string { data := #[] }, .int .i64 0, .slice ia 0 ic, .slice ta 0 tc], .agg #[.int .u8 1, .bool ng', .slice A' n' c', .string { data := #[] }, .int .i64 0, .slice ia' 0 ic', .slice ta' 0 tc']] w (NoP w) :=
  (add_any ng ng' A A' ia ta ia' ta' n c n' c' ic tc ic' tc' x y w B B' h h').mono fun e w' h => AnyP.no hz h
theorem add_yes (ng ng' : Bool) (A A' ia ta ia' ta' : Option Addr) (n c n' c' ic tc ic' tc' : Nat) (x y : Int) (w : World) (B B' : Nat → Prop) (h : IA w B ng A n c x) (h' : IA w B' ng' A' n' c' y) (hz : (x + y).natAbs < Big) :
    Calls Try.prog 25 #[.agg #[.int .u8 1, .bool ng, .slice A n c, .string { data := #[] }, .int .i64 0, .slice ia 0 ic, .slice ta 0 tc], .agg #[.int .u8 1, .bool ng', .slice A' n' c', .string { data := #[] }, .int .i64 0, .slice ia' 0 ic', .slice ta' 0 tc']] w (YesP w (x + y)) :=
  (add_any ng ng' A A' ia ta ia' ta' n c n' c' ic tc ic' tc' x y w B B' h h').mono fun e w' h => AnyP.yes hz h
theorem sub_yes (ng ng' : Bool) (A A' ia ta ia' ta' : Option Addr) (n c n' c' ic tc ic' tc' : Nat) (x y : Int) (w : World) (B B' : Nat → Prop) (h : IA w B ng A n c x) (h' : IA w B' ng' A' n' c' y) (hz : (x - y).natAbs < Big) :
    Calls Try.prog 27 #[.agg #[.int .u8 1, .bool ng, .slice A n c, .string { data := #[] }, .int .i64 0, .slice ia 0 ic, .slice ta 0 tc], .agg #[.int .u8 1, .bool ng', .slice A' n' c', .string { data := #[] }, .int .i64 0, .slice ia' 0 ic', .slice ta' 0 tc']] w (YesP w (x - y)) :=
  (sub_any ng ng' A A' ia ta ia' ta' n c n' c' ic tc ic' tc' x y w B B' h h').mono fun e w' h => AnyP.yes hz h
end Go.Proofs.Ytfehciiidmgopaa
