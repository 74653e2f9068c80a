/-
  L11z: the chapter's example returns true, in whatever world.
-/
import Derived.Test.YtneaghddjbhbnaaGreatDoorLs
import Derived.Test.YtneaghddjbhbnaaGreatDoorLb
import Derived.Test.YtneaghddjbhbnaaGreatDoorLg1
import Derived.Test.YtneaghddjbhbnaaGreatDoorLg2
import Derived.Test.YtneaghddjbhbnaaGreatDoorLg3
import Derived.Test.YtneaghddjbhbnaaGreatDoorLg4
import Derived.Test.YtneaghddjbhbnaaGreatDoorLg5
import Derived.Test.YtneaghddjbhbnaaGreatDoorLh
namespace Go.Proofs.L11
open Go Go.Proofs Go.Ax Go.RowKit
set_option maxRecDepth 1000000
theorem known1_ok : ∀ p ∈ known1, KFOK Tryz.prog glob p.1 p.2 := by
  intro p hp
  rcases List.mem_cons.1 hp with rfl | hp
  · exact mapOK_of_run sok0 pok table_run
  · exact exts_ok p hp
theorem sok1 : E1.SOK := kS_sound known1 known1_ok (by kernel_rfl)
theorem known2_ok : ∀ p ∈ known2, KFOK Tryz.prog glob p.1 p.2 := by
  intro p hp
  rcases List.mem_cons.1 hp with rfl | hp
  · intro q hq
    simp only [List.mem_cons, List.not_mem_nil, or_false] at hq
    rcases hq with rfl | rfl | rfl | rfl | rfl
    · exact pureOK_of_run sok1 pok gives1
    · exact pureOK_of_run sok1 pok gives2
    · exact pureOK_of_run sok1 pok gives3
    · exact pureOK_of_run sok1 pok gives4
    · exact pureOK_of_run sok1 pok gives5
  · exact known1_ok p hp
theorem sok2 : E2.SOK := kS_sound known2 known2_ok (by kernel_rfl)
/-- The example. -/
theorem lives {B : Nat} {w : World} (hB : B ≤ w.heap.size) (hG : GR glob B w) :
    Calls Tryz.prog 7 #[] w fun e w' => e = .returned (.bool true) ∧ Below w.heap.size w w' := by
  refine ((calls_of_run sok2 pok lives_run hB hG (vs := #[]) (by simp [VRs])).calls room_wide).mono ?_
  rintro e w' ⟨y, he, h1, h2⟩
  simp only [VR] at h1
  subst h1
  exact ⟨he, h2⟩
end Go.Proofs.L11
