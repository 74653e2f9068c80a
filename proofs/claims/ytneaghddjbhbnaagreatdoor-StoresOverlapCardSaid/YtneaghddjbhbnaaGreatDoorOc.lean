/-
  O4: the law's row, but for its frame.
-/
import Derived.Test.YtneaghddjbhbnaaGreatDoorOb
namespace Go.Proofs.YtneaghddjbhbnaaGreatDoor
open Go Go.Proofs Go.Proofs.L11 Go.RowKit Go.ChangeShapes Go.WideShapes Go.ChangeAt Go.Joins
set_option maxRecDepth 1000000 in
set_option maxHeartbeats 4000000 in
theorem overlap_lifted (os : Os) (started : os.Started) (H : Type) (enc : TypeId × Value → H) :
    ReturnsInHanded {} Tryz.checked os 3 .any (fun w args => (Rows.storesOverlapSpec.pre enc Tryz.prog Tryz.f3 Rows.storesOverlapRow.domain false w args ∧ laidMetH Tryz.prog Rows.storesOverlapRow.laid w) ∧ sizedMet enc Tryz.prog Tryz.f3 (OpenSpec.ofChange Rows.storesOverlapSpec) false w args)
      (Rows.storesOverlapSpec.post enc Tryz.prog Tryz.f3 false true false false) := by
  refine returnsInHanded_of_change_and (C := Tryz.checked) (X := fun w _ => laidMetH Tryz.prog Rows.storesOverlapRow.laid w) (fun _ _ _ hh h => h.of_heap hh) ownKn started (by as_aux_lemma => kernel_rfl) Tryz.func3
    (ChangeSpec.witness_shaped (enc := enc) (C := Tryz.checked) (os := os) (X := fun w _ => laidMetH Tryz.prog Rows.storesOverlapRow.laid w) false (World.laidAll Tryz.prog os Rows.storesOverlapRow.laid) #[.agg #[.int .i64 0, .int .i64 0], .agg #[.int .i64 0, .int .i64 0]] 8 (World.laidAll_os _ _ _)
      (World.shaped_of_ZipB (by as_aux_lemma => kernel_rfl) (by as_aux_lemma => kernel_rfl)) (by as_aux_lemma => kernel_rfl) (by as_aux_lemma => kernel_rfl) (by as_aux_lemma => kernel_rfl)
      (by rw [MakeChecks.laidMetH_plain _ _ _ (by as_aux_lemma => kernel_rfl)]; exact laidMet_laidAll _ (by as_aux_lemma => kernel_rfl) (by as_aux_lemma => kernel_rfl))) ?_
  intro W base args ds gs before hval0 hW _ _ hL _
  have hval : ∀ (j : Nat) t v, Tryz.f3.params[j]? = some t → args[j]? = some v → Value.okWide Tryz.prog W .any base t v := hval0
  have hW' := hW
  obtain ⟨p, q, hA0, hV, rfl, _, _⟩ := hW
  have hA : DataW.TrodAll enc Tryz.prog W 0 (fun _ => true) true Tryz.f3.params.toList args.toList ds p := hA0
  rw [Tryz.params3] at hA hval
  obtain ⟨v0, v1, d0, d1, p0, p1, rfl, rfl, rfl, h0, h1⟩ := trodAll_two hA
  obtain ⟨rfl, rfl⟩ := trodVars_none hV
  have c23 : Tryz.prog.cellsOf 23 = 2 := by kernel_rfl
  obtain ⟨x0, x1, y0, y1, m0, rfl, rfl, rfl, hy0, hy1⟩ := open_agg2 Tryz.underlying23 (by kernel_rfl) c23 (hval 0 23 v0 rfl rfl) h0
  obtain ⟨z0, z1, u0, u1, m1, rfl, rfl, rfl, hu0, hu1⟩ := open_agg2 Tryz.underlying23 (by kernel_rfl) c23 (hval 1 23 v1 rfl rfl) h1
  obtain ⟨a, e0, rfl, wa⟩ := DataW.trod_int Tryz.underlying3 hy0
  obtain ⟨n, e1, rfl, wn⟩ := DataW.trod_int Tryz.underlying3 hy1
  obtain ⟨b, e2, rfl, wb⟩ := DataW.trod_int Tryz.underlying3 hu0
  obtain ⟨m, e3, rfl, wm⟩ := DataW.trod_int Tryz.underlying3 hu1
  simp only [List.cons.injEq, and_true] at e0 e1 e2 e3
  subst e0 e1 e2 e3
  clear hA0 hval0
  simp only [List.append_nil] at hW'
  have reads : ∀ (W' : World) (sp : Nat → Bool) (a n : Int), (Lit.int .i64 a).wf = true → (Lit.int .i64 n).wf = true → DataW.Trod enc Tryz.prog W' 0 sp true 23 (.agg #[.int .i64 a, .int .i64 n]) (.agg [.lit (.int .i64 a), .lit (.int .i64 n)]) [] := fun W' sp a n wa wn =>
    shut_agg2 (y0 := (.lit (.int .i64 a), [])) (y1 := (.lit (.int .i64 n), [])) Tryz.underlying23 (by kernel_rfl) c23 ⟨1, by simp [DataW.trod, Tryz.underlying3, wa]⟩ ⟨1, by simp [DataW.trod, Tryz.underlying3, wn]⟩
  have hgr := gr_of_laid hL
  have HL : Hid (∀ w', Below W.heap.size W w' → Calls Tryz.prog 7 #[] w' fun e w2 => e = .returned (.bool true) ∧ Below w'.heap.size w' w2) :=
    fun w' hb => lives (B := W.heap.size) hb.size (Go.Ax.GR.below hgr hb)
  refine (law a n b m W (ir_of_wf wa) (ir_of_wf wn) (ir_of_wf wb) (ir_of_wf wm) HL).mono fun e W' ⟨he, hb⟩ => ?_
  subst he
  exact ⟨_, rfl, left_below (pa := []) (pv := []) hW' (fun _ _ _ => trodAll_mk1 (shut_bool Tryz.underlying4 _)) (fun sp _ => trodAll_mk2 (reads _ sp a n wa wn) (reads _ sp b m wb wm)) (fun _ _ => rfl) rfl hb (ok_one (by kernel_rfl) rfl (okWide_bool_mk Tryz.underlying4 _))⟩

end Go.Proofs.YtneaghddjbhbnaaGreatDoor
