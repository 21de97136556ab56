/- pigeonholelaw14: made: links that many steps have turned. -/
import Derived.Test.YtjmljjmnamfljaaGreatStep
namespace Go.Proofs.YtjmljjmnamfljaaGreat
open Go.RowKit Go.Maps

def LivesAt (w wx : World) (b m1 m2 r i : Nat) : Prop := ∃ N A c B d P L M, Two w wx b m1 m2 N r A c B d P L M ∧ N ≤ 4 * i ∧ P.length ≤ i ∧ M.length ≤ i
theorem lives_start {w w3 : World} {b m1 m2 : Nat} (h1 : LinksAt w3 w.heap.size b m1 m2 0 (fun _ => []) []) (hk : Keeps NoB w w3) : LivesAt w (w3.alloc (.cells #[.slice none 0 0, .slice none 0 0] 41)) b m1 m2 w3.heap.size 0 :=
  ⟨0, none, 0, none, 0, [], _, [], ⟨(show Run w w3 b m1 m2 0 _ [] from ⟨h1, hk⟩).fresh ((Keeps.refl NoB w3).alloc _), ⟨Blk.new w3 41 _, Slab.nil _ _ _, Slab.nil _ _ _⟩, Rel.none, hk.size, (fun k ⟨o, e⟩ => by cases e), (fun k ⟨o, e⟩ => by cases e)⟩, Nat.le_refl _, Nat.le_refl _, Nat.le_refl _⟩
theorem Two.len {w wx : World} {b m1 m2 N r c d : Nat} {A B : Option Addr} {P : List Pr} {L : LK} {M : List Mon} (h : Two w wx b m1 m2 N r A c B d P L M) (a : Int) : (L a).length ≤ P.length := by rw [← ofR_eq h.rel h.run.at'.good a]; exact ofR_len _ _
def MadePost (w : World) (e : Ending) (w' : World) : Prop := ∃ b m1 m2 N L M, e = .returned (.pointer (some ⟨b, 0, none⟩)) ∧ Run w w' b m1 m2 N L M ∧ N ≤ 400 ∧ M.length ≤ 80 ∧ ∀ a, (L a).length ≤ 80
set_option maxRecDepth 100000 in
set_option maxHeartbeats 8000000 in
theorem made_steps (A : Option Addr) (m c : Nat) (hm80 : m ≤ 80) (D : List Dx) (w : World) (h : DosAt w A m D) : Calls Tryz.prog 4 #[.slice A m c] w (MadePost w) := by
  have HD := hide h; clear h
  go_enter Tryz.func4, Tryz.ntmps4
  go_wp2_with
    first
    | (go_at_call 10
       refine (new_any _).mono ?_
       rintro e w3 ⟨rfl, h1, hk⟩)
    | fail
  have HP := hide (lives_start h1 hk)
  clear h1 hk
  generalize w.heap.size + 2 = b at *
  generalize w.heap.size + 1 = m2 at *
  obtain ⟨m1, hm1⟩ : ∃ m1, w.heap.size = m1 := ⟨_, rfl⟩
  rw [hm1] at HP
  clear hm1
  generalize w3.alloc (.cells #[.slice none 0 0, .slice none 0 0] 41) = w4 at *
  generalize w3.heap.size = r at *
  go_loopg [5] m (fun gg s wx => ∃ i : Nat, i ≤ m ∧ gg = m - i ∧ s = .int .i64 i ∧ LivesAt w wx b m1 m2 r i)
  case atStart => exact ⟨0, Nat.zero_le _, rfl, rfl, HP.out⟩
  case round =>
    clear HP
    obtain ⟨i, hi, rfl, rfl, N, A1, c1, B1, d1, P, L, M, htwo, hNi, hPi, hMi⟩ := hrel
    have HI := hide htwo
    clear htwo
    have hi0 : (0 : Int) ≤ i := by omega
    by_cases him : i < m
    · have hiz : (i : Int) < m := by omega
      obtain ⟨x, hx⟩ : ∃ x, D[i]? = some x := ⟨_, List.getElem?_eq_getElem (by rw [HD.out.1]; exact him)⟩
      obtain ⟨hok, ab, ao, rfl, e0, e1, e2, e3⟩ := (HD.out.keep HI.out.run.keep).2 i x hx
      obtain ⟨op, xa, xb, xr⟩ := x
      simp only at e0 e1 e2 e3 hok
      have HOK := hide hok
      clear hx hok
      go_wp2_with
        first
        | (go_at_call 11
           refine (step_any w wr b m1 m2 N r c1 d1 A1 B1 P L M op xa xb xr HI.out (by omega) (by omega) (by omega) HOK.out.1 HOK.out.2.1 HOK.out.2.2).mono ?_
           rintro e w7 ⟨N2, A2, c2, B2, d2, P2, L2, M2, rfl, ht2, hn2, hp2, hm2, _⟩
           have HT := hide ht2
           have HN2 := hide (And.intro hn2 (And.intro hp2 hm2))
           clear ht2 hn2 hp2 hm2 HI e0 e1 e2 e3)
        | fail
      go_roundg (m - (i + 1))
      case measure => omega
      case rel => exact ⟨i + 1, by omega, rfl, by go_num, N2, A2, c2, B2, d2, P2, L2, M2, HT.out, by have := HN2.out; omega, by have := HN2.out; omega, by have := HN2.out; omega⟩
    · obtain rfl : i = m := by omega
      have hiz : ¬ (i : Int) < i := by omega
      go_wp2_with fail
      go_ret
      exact ⟨b, m1, m2, N, L, M, rfl, HI.out.run, by omega, by omega, fun a => by have := HI.out.len a; omega⟩
end Go.Proofs.YtjmljjmnamfljaaGreat
