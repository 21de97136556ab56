/- Steps in a row; great says something. -/
import Derived.Test.YthoaaihghgabcaaGreatAwake
namespace Go.Proofs.YthoaaihghgabcaaGreat
open Go.RowKit Go.Maps

/-- Steps: number, process, name. -/
structure Dx where
  op : Int
  pid : Int
  nm : ByteArray
def DosAt (w : World) (A : Option Addr) (n : Nat) (D : List Dx) : Prop := D.length = n ∧ ∀ (i : Nat) (x : Dx), D[i]? = some x → x.nm.size ≤ maxLen ∧ IntOk x.pid ∧ ∃ b o, A = some ⟨b, o, none⟩ ∧ w.cell? ⟨b, o + i * 3, none⟩ = some (.int .i64 x.op) ∧ w.cell? ⟨b, o + i * 3 + 1, none⟩ = some (.int .i64 x.pid) ∧ w.cell? ⟨b, o + i * 3 + 2, none⟩ = some (.string x.nm)
theorem DosAt.keep {w w' : World} {A : Option Addr} {n : Nat} {D : List Dx} (h : DosAt w A n D) (hk : Keeps NoB w w') : DosAt w' A n D := ⟨h.1, fun i x hx => by
  obtain ⟨h0, h1, b, o, h2, h3, h4, h5⟩ := h.2 i x hx
  exact ⟨h0, h1, b, o, h2, hk.cell id h3, hk.cell id h4, hk.cell id h5⟩⟩
theorem DosAt.pre {w : World} {A : Option Addr} {n m : Nat} {D : List Dx} (h : DosAt w A n D) (hm : m ≤ n) : DosAt w A m (D.take m) :=
  ⟨by rw [List.length_take, h.1]; omega, fun i x hx => h.2 i x (by rw [List.getElem?_take] at hx; split at hx; exact hx; cases hx)⟩

def GreatPost (w : World) (e : Ending) (w' : World) : Prop := ∃ r : Bool, e = .returned (.bool r) ∧ w = w'
set_option maxRecDepth 100000 in
theorem great_any (A : Option Addr) (n c : Nat) (D : List Dx) (w : World) (h : DosAt w A n D) (hn : n ≤ 1000000) : Calls Tryz.prog 5 #[.slice A n c] w (GreatPost w) := by
  have H := hide h
  clear h
  go_enter Tryz.func5, Tryz.ntmps5
  go_wp2_with fail
  go_loopg [3, 4] n (fun g s3 s4 wr => ∃ (i : Nat) (r : Int), i ≤ n ∧ g = n - i ∧ s3 = .int .i64 r ∧ s4 = .int .i64 i ∧ 0 ≤ r ∧ r ≤ 1000000000000000010000 ∧ wr = w)
  case atStart => exact ⟨0, 0, Nat.zero_le _, rfl, rfl, rfl, by omega, by omega, rfl⟩
  case round =>
    obtain ⟨i, r, hi, rfl, rfl, rfl, hr1, hr2, rfl⟩ := hrel
    have hi0 : (0 : Int) ≤ i := by omega
    by_cases hin : i < n
    · have hiz : (i : Int) < n := by omega
      by_cases hrm : r ≤ 10000
      · obtain ⟨x, hx⟩ : ∃ x, D[i]? = some x := ⟨_, List.getElem?_eq_getElem (by have := H.out.1; omega)⟩
        obtain ⟨hsz, _, b, o, rfl, _, _, c2⟩ := H.out.2 i x hx
        have hd1 : (x.nm.size : Int) ≤ 9223372036854775807 := by unfold maxLen at hsz; omega
        have hd0 : (0 : Int) ≤ x.nm.size := by omega
        obtain ⟨q, hq⟩ : ∃ q, (x.nm.size : Int).tdiv 10 = q := ⟨_, rfl⟩
        have hq2 : (x.nm.size : Int) / 10 = q := by rw [← hq, Int.tdiv_eq_ediv_of_nonneg hd0]
        have hq0 : 0 ≤ q ∧ q ≤ 922337203685477580 := by omega
        clear hx hsz
        go_wp2_with fail
        go_roundg (n - (i + 1))
        case measure => omega
        case rel => exact ⟨i + 1, r + 1 + q, by omega, rfl, rfl, by go_num, by omega, by omega, rfl⟩
      · have hrm' : 10000 < r := by omega
        clear hrm
        go_wp2_with fail
        go_ret
        exact ⟨true, rfl, rfl⟩
    · obtain rfl : i = n := by omega
      have hiz : ¬ (i : Int) < i := by omega
      by_cases hrm : r ≤ 10000
      · have hrm2 : ¬ 10000 < r := by omega
        go_wp2_with fail
        go_ret
        exact ⟨false, rfl, rfl⟩
      · have hrm' : 10000 < r := by omega
        clear hrm
        go_wp2_with fail
        go_ret
        exact ⟨true, rfl, rfl⟩
end Go.Proofs.YthoaaihghgabcaaGreat
