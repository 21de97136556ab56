/- ClockNumbers' plain law: the states that it goes through. -/
import Derived.Test.YtaiphjgklfioeaaLives
namespace Go.Proofs.Ytaiphjgklfioeaa
open Go.RowKit

def endsL : List Int := [-9223372036854775808, -1, 0, 1, 1099511627775, 1099511627776, 1099511627777, 4611686018427387904, 9223372036854775807]
def eight (x y : Int) : List Do := [(6, 1, x), (0, 0, y), (6, y, y), (0, 0, x), (6, 2, 0), (0, 0, 0), (0, 0, 1), (2, y, 0)]
theorem dos_eight {w : World} {g : Nat} {x y : Int} (h : Blk w g 28 #[.int .i64 6, .int .i64 1, .int .i64 x, .int .i64 0, .int .i64 0, .int .i64 y, .int .i64 6, .int .i64 y, .int .i64 y, .int .i64 0, .int .i64 0, .int .i64 x, .int .i64 6, .int .i64 2, .int .i64 0, .int .i64 0, .int .i64 0, .int .i64 0, .int .i64 0, .int .i64 0, .int .i64 1, .int .i64 2, .int .i64 y, .int .i64 0]) : DosAt w (some ⟨g, 0, none⟩) 8 (eight x y) := by
  refine ⟨rfl, fun i d hd => ⟨g, 0, rfl, ?_⟩⟩
  match i, hd with
  | 0, hd => obtain rfl := Option.some.inj hd; exact ⟨h.cell 0, h.cell 1, h.cell 2⟩
  | 1, hd => obtain rfl := Option.some.inj hd; exact ⟨h.cell 3, h.cell 4, h.cell 5⟩
  | 2, hd => obtain rfl := Option.some.inj hd; exact ⟨h.cell 6, h.cell 7, h.cell 8⟩
  | 3, hd => obtain rfl := Option.some.inj hd; exact ⟨h.cell 9, h.cell 10, h.cell 11⟩
  | 4, hd => obtain rfl := Option.some.inj hd; exact ⟨h.cell 12, h.cell 13, h.cell 14⟩
  | 5, hd => obtain rfl := Option.some.inj hd; exact ⟨h.cell 15, h.cell 16, h.cell 17⟩
  | 6, hd => obtain rfl := Option.some.inj hd; exact ⟨h.cell 18, h.cell 19, h.cell 20⟩
  | 7, hd => obtain rfl := Option.some.inj hd; exact ⟨h.cell 21, h.cell 22, h.cell 23⟩
  | n + 8, hd => cases hd

def numS : Nat → St
  | 0 => ⟨0, []⟩
  | j + 1 => (numS j).set (40 - (j : Int)) (10 + (40 - (j : Int)) % 3)
theorem num_ok : ∀ j, j < 40 → (numS j).setOk (40 - (j : Int)) (10 + (40 - (j : Int)) % 3) = true ∧ (numS (j + 1)).setOk (40 - (j : Int)) 1 = false ∧ (numS j).L.length ≤ 100 := by decide +kernel
theorem num_len1 : ∀ j, j ≤ 40 → (numS j).L.length ≤ 100 := by decide +kernel
theorem set_no {s : St} {p a : Int} (h : s.setOk p a = false) : s.set p a = s := by unfold St.set; rw [h]; rfl
def n41 : St := (numS 40).drop 30
def n42 : St := n41.set 30 0
def n43 : St := n42.tick 9
def n44 : St := n43.tick 3
def n45 : St := n44.tick 1099511627764
def n46 : St := n45.set 1 1099511627776
def b39 : List Int := n43.told 3
theorem num_40 : (numS 40).dropOk 30 = true ∧ n41.dropOk 30 = false ∧ n41.drop 30 = n41 ∧ n41.setOk 30 0 = true ∧ n42.tickOk 9 = true ∧ n42.told 9 = [30] ∧ n43.tickOk 3 = true ∧ b39.length = 39 := by
  refine ⟨?_, ?_, ?_, ?_, ?_, ?_, ?_, ?_⟩ <;> kernel_rfl
theorem num_b : b39[0]? = some 3 ∧ b39[12]? = some 1 ∧ b39[38]? = some 38 := by
  refine ⟨?_, ?_, ?_⟩ <;> kernel_rfl
theorem num_45 : n44.tickOk 1099511627764 = true ∧ n44.told 1099511627764 = [] ∧ n45.tickOk 1 = false ∧ n45.tick 1 = n45 ∧ n45.told 1 = [] ∧ n45.setOk 1 1099511627776 = true ∧ n46.now = 1099511627776 := by
  refine ⟨?_, ?_, ?_, ?_, ?_, ?_, ?_⟩ <;> kernel_rfl
theorem num_len : (numS 40).L.length ≤ 100 ∧ n41.L.length ≤ 100 ∧ n42.L.length ≤ 100 ∧ n43.L.length ≤ 100 ∧ n44.L.length ≤ 100 ∧ n45.L.length ≤ 100 := by
  refine ⟨?_, ?_, ?_, ?_, ?_, ?_⟩ <;> decide +kernel
end Go.Proofs.Ytaiphjgklfioeaa
