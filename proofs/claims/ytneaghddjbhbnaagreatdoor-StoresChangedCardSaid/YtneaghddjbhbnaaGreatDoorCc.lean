/-
  C5: the law's row StoresChanged, but for its frame.
-/
import Derived.Test.YtneaghddjbhbnaaGreatDoorCb
import Derived.Test.YtneaghddjbhbnaaGreatDoorVa
namespace Go.Proofs.YtneaghddjbhbnaaGreatDoor
open Go Go.Proofs Go.Proofs.L11 Go.RowKit Go.ChangeShapes Go.WideShapes Go.ChangeAt Go.Joins
theorem changed_law (a b : Option Addr) (N ca M cb : Nat) (A B : List Int) (W : World) (hN : N ≤ 9223372036854775807) (hM : M ≤ 9223372036854775807)
    (hA : 0 < N → ∃ b off, a = some ⟨b, off, none⟩ ∧ b < W.heap.size ∧ ∀ t, t < N → W.cell? ⟨b, off + t, none⟩ = some (.int .u8 (A.getD t 0)))
    (hB : 0 < M → ∃ b' off, b = some ⟨b', off, none⟩ ∧ b' < W.heap.size ∧ ∀ t, t < M → W.cell? ⟨b', off + t, none⟩ = some (.int .u8 (B.getD t 0)))
    (HL : Hid (∀ w', Below W.heap.size W w' → Calls Tryz.prog 7 #[] w' fun e w2 => e = .returned (.bool true) ∧ Below w'.heap.size w' w2)) :
    Calls Tryz.prog 4 #[.slice a N ca, .slice b M cb] W fun e w' => e = .returned (.bool true) ∧ Below W.heap.size W w' := by
  by_cases h1 : 300 < N ∨ 300 < M
  · exact chl_big a b N ca M cb W h1 hN hM HL
  · by_cases h2 : N = M
    · subst h2
      by_cases h3 : N = 0
      · subst h3; exact chl_zero a b ca cb W HL
      · have q1 : 0 < N := by omega
        have q2 : N ≤ 300 := by omega
        obtain ⟨ba, oa, rfl, hba, hca⟩ := hA q1
        obtain ⟨bb, ob, rfl, hbb, hcb⟩ := hB q1
        exact chl_eq ba oa ca bb ob cb N (fun t => A.getD t 0) (fun t => B.getD t 0) W q1 q2 hba hbb hca hcb HL
    · exact chl_neq a b N ca M cb W h2 (by omega) (by omega) HL

set_option maxRecDepth 1000000 in
set_option maxHeartbeats 4000000 in
theorem changed_lifted (os : Os) (started : os.Started) (H : Type) (enc : TypeId × Value → H) :
    ReturnsInHanded {} Tryz.checked os 4 .any (fun w args => (Rows.storesChangedSpec.pre enc Tryz.prog Tryz.f4 Rows.storesChangedRow.domain false w args ∧ laidMetH Tryz.prog Rows.storesChangedRow.laid w) ∧ sizedMet enc Tryz.prog Tryz.f4 (OpenSpec.ofChange Rows.storesChangedSpec) false w args)
      (Rows.storesChangedSpec.post enc Tryz.prog Tryz.f4 false true false false) := by
  refine returnsInHanded_of_change_and (C := Tryz.checked) (X := fun w _ => laidMetH Tryz.prog Rows.storesChangedRow.laid w) (fun _ _ _ hh h => h.of_heap hh) ownKn started (by as_aux_lemma => kernel_rfl) Tryz.func4
    (ChangeSpec.witness_shaped (enc := enc) (C := Tryz.checked) (os := os) (X := fun w _ => laidMetH Tryz.prog Rows.storesChangedRow.laid w) false (World.laidAll Tryz.prog os Rows.storesChangedRow.laid) #[.slice none 0 0, .slice none 0 0] 8 (World.laidAll_os _ _ _)
      (World.shaped_of_ZipB (by as_aux_lemma => kernel_rfl) (by as_aux_lemma => kernel_rfl)) (by as_aux_lemma => kernel_rfl) (by as_aux_lemma => kernel_rfl) (by as_aux_lemma => kernel_rfl)
      (by rw [MakeChecks.laidMetH_plain _ _ _ (by as_aux_lemma => kernel_rfl)]; exact laidMet_laidAll _ (by as_aux_lemma => kernel_rfl) (by as_aux_lemma => kernel_rfl))) ?_
  intro W base args ds gs before hval0 hW _ _ hL _
  have hval : ∀ (j : Nat) t v, Tryz.f4.params[j]? = some t → args[j]? = some v → Value.okWide Tryz.prog W .any base t v := hval0
  have hW' := hW
  obtain ⟨p, q, hA0, hV, rfl, _, _⟩ := hW
  have hA : DataW.TrodAll enc Tryz.prog W 0 (fun _ => true) true Tryz.f4.params.toList args.toList ds p := hA0
  rw [Tryz.params4] at hA hval
  obtain ⟨v0, v1, d0, d1, p0, p1, rfl, rfl, rfl, h0, h1⟩ := trodAll_two hA
  obtain ⟨rfl, rfl⟩ := trodVars_none hV
  obtain ⟨a0, la, ca, rfl⟩ := okWide_slice Tryz.underlying27 (hval 0 27 v0 rfl rfl)
  obtain ⟨b0, lb, cb, rfl⟩ := okWide_slice Tryz.underlying27 (hval 1 27 v1 rfl rfl)
  have h0k := h0
  have h1k := h1
  obtain ⟨fa, hfa⟩ := h0
  obtain ⟨fb, hfb⟩ := h1
  clear hA0 hval0
  simp only [List.append_nil] at hW'
  have hlt : ∀ x ∈ p0 ++ p1, x.block < W.heap.size := fun x hx => by simpa using hW'.lt x hx
  obtain ⟨ha1, ha2, _, A, _, _, hA⟩ := view8 hfa
  obtain ⟨hb1, hb2, _, B, _, _, hB⟩ := view8 hfb
  unfold maxLen at ha2 hb2
  have hgr := gr_of_laid hL
  have HL : Hid (∀ w', Below W.heap.size W w' → Calls Tryz.prog 7 #[] w' fun e w2 => e = .returned (.bool true) ∧ Below w'.heap.size w' w2) :=
    fun w' hb => lives (B := W.heap.size) hb.size (Go.Ax.GR.below hgr hb)
  refine (changed_law a0 b0 la ca lb cb A B W (by omega) (by omega) hA hB HL).mono fun e W' ⟨he, hb⟩ => ?_
  subst he
  exact ⟨_, rfl, _, _, _, [], _, [], hW', trodAll_mk1 (shut_bool Tryz.underlying4 _),
    trodAll_mk2 (Below.trod laidOutT (by kernel_rfl) (of_decide_eq_true (by kernel_rfl)) h0k hb (fun x hx => hlt x (by simp [hx]))) (Below.trod laidOutT (by kernel_rfl) (of_decide_eq_true (by kernel_rfl)) h1k hb (fun x hx => hlt x (by simp [hx]))),
    rfl, hb.frame _, fun h => by cases h⟩
end Go.Proofs.YtneaghddjbhbnaaGreatDoor
