/-
  S7: the law's row StoresPut, but for its frame.
-/
import Derived.Test.YtneaghddjbhbnaaGreatDoorSd
import Derived.Test.YtneaghddjbhbnaaGreatDoorVa
namespace Go.Proofs.YtneaghddjbhbnaaGreatDoor
open Go Go.Proofs Go.Proofs.L11 Go.RowKit Go.ChangeShapes Go.WideShapes Go.ChangeAt Go.Joins
theorem put_law (a b : Option Addr) (c d : Nat) (p l : Int) (A L : List Int) (W : World) (hc : A.length ≤ c) (hc2 : c ≤ 9223372036854775807) (hd : L.length ≤ d) (hd2 : d ≤ 9223372036854775807) (hp : IR p) (hl : IR l)
    (ha : a = none → A.length = 0 ∧ c = 0) (hb : b = none → L.length = 0 ∧ d = 0) (hSA : Bs W a A) (hSL : Bs W b L) (HL : Liv W) :
    Calls Tryz.prog 5 #[.slice a A.length c, .agg #[.int .i64 p, .int .i64 l], .slice b L.length d] W fun e w' => e = .returned (.bool true) ∧ Below W.heap.size W w' := by
  by_cases h1 : 300 < A.length
  · exact put_big1 a b A.length c L.length d p l W h1 (by omega) HL
  by_cases h2 : 300 < L.length
  · exact put_big2 a b A.length c L.length d p l W (by omega) h2 (by omega) HL
  by_cases h3 : p < 0
  · exact put_err1 a b c d A L p l W (by omega) (by omega) hp hl h3 hSA hSL HL
  by_cases h4 : l < 0
  · exact put_err2 a b c d A L p l W (by omega) (by omega) hp hl h3 h4 hSA hSL HL
  by_cases h5 : (A.length : Int) < p
  · exact put_err3 a b c d A L p l W (by omega) (by omega) hp hl h3 h4 h5 hSA hSL HL
  by_cases h6 : (A.length : Int) - p < l
  · exact put_err4 a b c d A L p l W (by omega) (by omega) hp hl h3 h4 h5 h6 hSA hSL HL
  obtain ⟨p, rfl⟩ := Int.eq_ofNat_of_zero_le (by omega : 0 ≤ p)
  obtain ⟨l, rfl⟩ := Int.eq_ofNat_of_zero_le (by omega : 0 ≤ l)
  by_cases h7 : L.length = l
  · subst h7
    have hbd : b ≠ none ∨ d = 0 := by
      cases b with
      | none => exact .inr (hb rfl).2
      | some _ => exact .inl (fun h => by cases h)
    exact put_good a b c d p A L W (by omega) (by omega) hc hc2 ha hbd hSA hSL HL
  · exact put_err5 a b c d p l A L W (by omega) (by omega) (by omega) h7 hc hc2 ha hSA hSL HL

set_option maxRecDepth 1000000 in
set_option maxHeartbeats 4000000 in
theorem put_lifted (os : Os) (started : os.Started) (H : Type) (enc : TypeId × Value → H) :
    ReturnsInHanded {} Tryz.checked os 5 .any (fun w args => (Rows.storesPutSpec.pre enc Tryz.prog Tryz.f5 Rows.storesPutRow.domain false w args ∧ laidMetH Tryz.prog Rows.storesPutRow.laid w) ∧ sizedMet enc Tryz.prog Tryz.f5 (OpenSpec.ofChange Rows.storesPutSpec) false w args)
      (Rows.storesPutSpec.post enc Tryz.prog Tryz.f5 false true false false) := by
  refine returnsInHanded_of_change_and (C := Tryz.checked) (X := fun w _ => laidMetH Tryz.prog Rows.storesPutRow.laid w) (fun _ _ _ hh h => h.of_heap hh) ownKn started (by as_aux_lemma => kernel_rfl) Tryz.func5
    (ChangeSpec.witness_shaped (enc := enc) (C := Tryz.checked) (os := os) (X := fun w _ => laidMetH Tryz.prog Rows.storesPutRow.laid w) false (World.laidAll Tryz.prog os Rows.storesPutRow.laid) #[.slice none 0 0, .agg #[.int .i64 0, .int .i64 0], .slice none 0 0] 8 (World.laidAll_os _ _ _)
      (World.shaped_of_ZipB (by as_aux_lemma => kernel_rfl) (by as_aux_lemma => kernel_rfl)) (by as_aux_lemma => kernel_rfl) (by as_aux_lemma => kernel_rfl) (by as_aux_lemma => kernel_rfl)
      (by rw [MakeChecks.laidMetH_plain _ _ _ (by as_aux_lemma => kernel_rfl)]; exact laidMet_laidAll _ (by as_aux_lemma => kernel_rfl) (by as_aux_lemma => kernel_rfl))) ?_
  intro W base args ds gs before hval0 hW _ _ hL _
  have hval : ∀ (j : Nat) t v, Tryz.f5.params[j]? = some t → args[j]? = some v → Value.okWide Tryz.prog W .any base t v := hval0
  have hW' := hW
  obtain ⟨p, q, hA0, hV, rfl, _, _⟩ := hW
  have hA : DataW.TrodAll enc Tryz.prog W 0 (fun _ => true) true Tryz.f5.params.toList args.toList ds p := hA0
  rw [Tryz.params5] at hA hval
  obtain ⟨v0, v1, v2, d0, d1, d2, p0, p1, p2, rfl, rfl, rfl, h0, h1, h2⟩ := trodAll_three hA
  obtain ⟨rfl, rfl⟩ := trodVars_none hV
  have c23 : Tryz.prog.cellsOf 23 = 2 := by kernel_rfl
  obtain ⟨a0, la, ca, rfl⟩ := okWide_slice Tryz.underlying27 (hval 0 27 v0 rfl rfl)
  obtain ⟨x0, x1, y0, y1, m0, rfl, rfl, rfl, hy0, hy1⟩ := open_agg2 Tryz.underlying23 (by kernel_rfl) c23 (hval 1 23 v1 rfl rfl) h1
  obtain ⟨b0, lb, cb, rfl⟩ := okWide_slice Tryz.underlying27 (hval 2 27 v2 rfl rfl)
  obtain ⟨a, e0, rfl, wa⟩ := DataW.trod_int Tryz.underlying3 hy0
  obtain ⟨n, e1, rfl, wn⟩ := DataW.trod_int Tryz.underlying3 hy1
  have h0k := h0
  have h2k := h2
  obtain ⟨fa, hfa⟩ := h0
  obtain ⟨fb, hfb⟩ := h2
  simp only [List.cons.injEq, and_true] at e0 e1
  subst e0 e1
  clear hA0 hval0
  simp only [List.append_nil] at hW'
  have hlt : ∀ x ∈ p0 ++ p2, x.block < W.heap.size := fun x hx => by have := hW'.lt x; simp at this hx; first | exact this hx | (rcases hx with hx | hx <;> simp [hx] at this <;> exact this)
  obtain ⟨ha1, ha2, ha3, A, hAl, _, hSA⟩ := view8 hfa
  obtain ⟨hb1, hb2, hb3, B, hBl, _, hSB⟩ := view8 hfb
  unfold maxLen at ha2 hb2
  subst hAl hBl
  have reads : ∀ (W' : World) (sp : Nat → Bool) (a n : Int), (Lit.int .i64 a).wf = true → (Lit.int .i64 n).wf = true → DataW.Trod enc Tryz.prog W' 0 sp true 23 (.agg #[.int .i64 a, .int .i64 n]) (.agg [.lit (.int .i64 a), .lit (.int .i64 n)]) [] := fun W' sp a n wa wn =>
    shut_agg2 (y0 := (.lit (.int .i64 a), [])) (y1 := (.lit (.int .i64 n), [])) Tryz.underlying23 (by kernel_rfl) c23 ⟨1, by simp [DataW.trod, Tryz.underlying3, wa]⟩ ⟨1, by simp [DataW.trod, Tryz.underlying3, wn]⟩
  have hgr := gr_of_laid hL
  have HL : Liv W := fun w' hb => lives (B := W.heap.size) hb.size (Go.Ax.GR.below hgr hb)
  refine (put_law a0 b0 ca cb a n A B W ha1 (by omega) hb1 (by omega) (ir_of_wf wa) (ir_of_wf wn) ha3 hb3 hSA hSB HL).mono fun e W' ⟨he, hb⟩ => ?_
  subst he
  exact ⟨_, rfl, _, _, _, [], _, [], hW', trodAll_mk1 (shut_bool Tryz.underlying4 _),
    trodAll_mk3 (Below.trod laidOutT (by kernel_rfl) (of_decide_eq_true (by kernel_rfl)) h0k hb (fun x hx => hlt x (by simp [hx])))
      (reads W' _ a n wa wn)
      (Below.trod laidOutT (by kernel_rfl) (of_decide_eq_true (by kernel_rfl)) h2k hb (fun x hx => hlt x (by simp [hx]))),
    rfl, hb.frame _, fun h => by cases h⟩
end Go.Proofs.YtneaghddjbhbnaaGreatDoor
