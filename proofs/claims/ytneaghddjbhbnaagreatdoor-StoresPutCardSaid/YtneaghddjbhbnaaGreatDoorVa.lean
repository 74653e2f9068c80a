/-
  V1: arguments of type []byte, opened; the row of a law with two.
-/
import Derived.Test.YtneaghddjbhbnaaGreatDoorOb
namespace Go.Proofs.YtneaghddjbhbnaaGreatDoor
open Go Go.Proofs Go.Proofs.L11 Go.RowKit Go.ChangeShapes Go.WideShapes Go.ChangeAt Go.Joins Go.ChangeShapes
set_option maxRecDepth 1000000
theorem laidOutT : laidOutB Tryz.prog = true := by kernel_rfl
theorem cells5 : Tryz.prog.cellsOf 5 = 1 := by kernel_rfl

/-- A slice of bytes that came in. -/
theorem view8 {H : Type} {enc : TypeId × Value → H} {W : World} {fuel : Nat} {a0 : Option Addr} {len cap : Nat} {d : DataW H} {p : List MemPlace}
    (hf : DataW.trod enc Tryz.prog W 0 (fun _ => true) true fuel 27 (Value.slice a0 len cap).cells.toList = some (d, p)) :
    len ≤ cap ∧ cap ≤ maxLen ∧ (a0 = none → len = 0 ∧ cap = 0) ∧ ∃ Z : List Int, Z.length = len ∧ (∀ n ∈ Z, (Lit.int .u8 n).wf = true) ∧
      (0 < len → ∃ b off, a0 = some ⟨b, off, none⟩ ∧ b < W.heap.size ∧ ∀ t, t < len → W.cell? ⟨b, off + t, none⟩ = some (.int .u8 (Z.getD t 0))) := by
  rcases open_ints Tryz.underlying27 Tryz.underlying5 cells5 hf with ⟨hcs, _⟩ | ⟨a, len', cap', zs, hcs, _, hl, hm, hz, _, hcell, hwz⟩
  · simp [Value.cells] at hcs
    obtain ⟨rfl, rfl, rfl⟩ := hcs
    exact ⟨Nat.le_refl _, Nat.zero_le _, fun _ => ⟨rfl, rfl⟩, [], rfl, (fun n hn => by cases hn), fun h => absurd h (Nat.lt_irrefl 0)⟩
  · simp [Value.cells] at hcs
    obtain ⟨rfl, rfl, rfl⟩ := hcs
    simp only [if_true] at hz
    refine ⟨hl, hm, (fun h => by cases h), zs.take len, by simp; omega, fun n hn => hwz n (List.mem_of_mem_take hn), fun h0 => ?_⟩
    obtain ⟨b, off, spot⟩ := a
    have hspot : spot = none := by simpa [Addr.add] using World.cell?_spot (hcell 0 (by omega))
    subst hspot
    have hb : b < W.heap.size := by simpa [Addr.add] using World.block_lt_of_cell? W _ (hcell 0 (by omega))
    refine ⟨b, off, rfl, hb, fun t ht => ?_⟩
    have := hcell t (by omega)
    rw [add_plain] at this
    rw [this]
    simp [List.getD, ht]
end Go.Proofs.YtneaghddjbhbnaaGreatDoor
