/-
  L11s: the chapter's example returns true.
-/
import Derived.Test.YtneaghddjbhbnaaGreatDoorLa
import Derived.Laws.Externs
import Derived.Lib.Builder
namespace Go.Proofs.L11
open Go Go.Proofs Go.Ax Go.RowKit
set_option maxRecDepth 1000000

theorem pok : POK Tryz.prog where
  mixed := by kernel_rfl
  noNum := by
    have h : (Tryz.prog.funcs.toList.all fun fn => !(fn.name == "runtime.NumGoroutine")) = true := by kernel_rfl
    intro g fn c hf _
    have := List.all_eq_true.1 h fn (by rw [← Array.getElem?_toList] at hf; exact List.mem_of_getElem? hf)
    simpa using this

theorem ext62 : ExtOK Tryz.prog 62 .noEscape := fun v w => by
  rw [run_callFunc_extern Tryz.func62 (by kernel_rfl) (by kernel_rfl) (by kernel_rfl) (e := Extern.AbiNoEscape.same) (by kernel_rfl)]
  rfl
theorem ext295 : ExtOK Tryz.prog 295 .indexByteString := fun s c w => by
  rw [run_callFunc_extern Tryz.func295 (by kernel_rfl) (by kernel_rfl) (by kernel_rfl) (e := Extern.BytealgIndexByte.indexByte) (by kernel_rfl), Lib.run_indexByteString]
  rfl
theorem ext171 : ExtOK Tryz.prog 171 .countString := fun s c w => by
  rw [run_callFunc_extern Tryz.func171 (by kernel_rfl) (by kernel_rfl) (by kernel_rfl) (e := Extern.BytealgCount.count) (by kernel_rfl), Lib.run_countString]
  rfl
theorem ext297 : ExtOK Tryz.prog 297 (.makeNoZero 5) := fun n w hn => by
  obtain ⟨cs, h1, h2, _⟩ := Lib.run_makeNoZero (P := Tryz.prog) w Tryz.f297.params 27 5 (by kernel_rfl) n hn
  refine ⟨cs, ?_, h2⟩
  rw [run_callFunc_extern Tryz.func297 (by kernel_rfl) (by kernel_rfl) (by kernel_rfl) (e := Extern.BytealgMakeNoZero.makeNoZero Tryz.f297.params Tryz.f297.resultTypes) (by kernel_rfl)]
  rw [show Tryz.f297.resultTypes = #[27] by kernel_rfl, h1]
  rfl

theorem exts_ok : ∀ p ∈ exts, KFOK Tryz.prog glob p.1 p.2 := by
  intro p hp
  simp only [exts, List.mem_cons, List.not_mem_nil, or_false] at hp
  rcases hp with rfl | rfl | rfl | rfl
  · exact ext62
  · exact ext295
  · exact ext171
  · exact ext297
theorem sok0 : E0.SOK := kS_sound exts exts_ok (by kernel_rfl)
end Go.Proofs.L11
