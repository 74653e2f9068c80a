/-
  O1: stores.Overlap.
-/
import Derived.Test.YtneaghddjbhbnaaGreatDoorChecked
import Derived.WalkKit
import Derived.RegionTactic
import Derived.Laws.Pointers
import Derived.ChangeAlike
import Derived.Outline
import Derived.Deep.QuietTactic
import Derived.BigQuiet
import Derived.RowKit3
import Derived.Below
import Derived.Handy
import Derived.Lib.Hide
import Derived.Test.YtneaghddjbhbnaaGreatDoorLz
namespace Go.Proofs.L11
open Go Go.Proofs Go.RowKit
set_option maxRecDepth 100000

def IR (a : Int) : Prop := -9223372036854775808 ≤ a ∧ a ≤ 9223372036854775807
/-- Two places overlap. -/
def OV (a n b m : Int) : Bool := decide (0 < n ∧ 0 < m ∧ (if b < a then a - b < m else b - a < n))
theorem u64_wrap (a : Int) : IntKind.u64.wrap a = a % 18446744073709551616 := by
  simp [IntKind.wrap, IntKind.bits, IntKind.signed]
theorem OV_gt {a n b m : Int} (ha : IR a) (hb : IR b) (hm' : IR m) (h : b < a) (hn : 0 < n) (hm : 0 < m) :
    decide (IntKind.u64.wrap (IntKind.u64.wrap a - IntKind.u64.wrap b) < IntKind.u64.wrap m) = OV a n b m := by
  unfold OV IR at *
  rw [u64_wrap, u64_wrap, u64_wrap, u64_wrap]
  rw [decide_eq_decide]
  rw [if_pos h]
  omega
theorem OV_le {a n b m : Int} (ha : IR a) (hb : IR b) (hn' : IR n) (h : ¬ b < a) (hn : 0 < n) (hm : 0 < m) :
    decide (IntKind.u64.wrap (IntKind.u64.wrap b - IntKind.u64.wrap a) < IntKind.u64.wrap n) = OV a n b m := by
  unfold OV IR at *
  rw [u64_wrap, u64_wrap, u64_wrap, u64_wrap]
  rw [decide_eq_decide]
  rw [if_neg h]
  omega
theorem OV_no {a n b m : Int} (h : ¬ (0 < n ∧ 0 < m)) : OV a n b m = false := by
  unfold OV
  rw [decide_eq_false_iff_not]
  intro ⟨h1, h2, _⟩
  exact h ⟨h1, h2⟩
theorem OV_symm (a n b m : Int) : OV b m a n = OV a n b m := by
  unfold OV
  rw [decide_eq_decide]
  by_cases h : b < a
  · rw [if_pos h, if_neg (by omega)]; omega
  · rw [if_neg h]
    by_cases h2 : a < b
    · rw [if_pos h2]; omega
    · rw [if_neg h2]; omega

theorem ov_any (a n b m : Int) (w : World) (ha : IR a) (hn' : IR n) (hb : IR b) (hm' : IR m) :
    Calls Tryz.prog 6 #[.agg #[.int .i64 a, .int .i64 n], .agg #[.int .i64 b, .int .i64 m]] w fun e w' => e = .returned (.bool (OV a n b m)) ∧ Below w.heap.size w w' := by
  have fin : ∀ o1 o2, Below w.heap.size w ((w.alloc o1).alloc o2) := fun o1 o2 => ((Below.refl _ _).alloc (Nat.le_refl _) _).alloc (by simp) _
  by_cases hn : 0 < n
  · by_cases hm : 0 < m
    · by_cases h : b < a
      · rw [← OV_gt ha hb hm' h hn hm]
        clear ha hn' hb hm'
        have H := Lib.hid fin; clear fin
        go_enter Tryz.func6, Tryz.ntmps6
        go_wp2
        go_ret
        exact ⟨rfl, H.out _ _⟩
      · rw [← OV_le ha hb hn' h hn hm]
        clear ha hn' hb hm'
        have H := Lib.hid fin; clear fin
        go_enter Tryz.func6, Tryz.ntmps6
        go_wp2
        go_ret
        exact ⟨rfl, H.out _ _⟩
    · rw [OV_no (by omega)]
      clear ha hn' hb hm'
      have H := Lib.hid fin; clear fin
      by_cases h : b < a
      · go_enter Tryz.func6, Tryz.ntmps6
        go_wp2
        go_ret
        exact ⟨rfl, H.out _ _⟩
      · go_enter Tryz.func6, Tryz.ntmps6
        go_wp2
        go_ret
        exact ⟨rfl, H.out _ _⟩
  · rw [OV_no (by omega)]
    clear ha hn' hb hm'
    have H := Lib.hid fin; clear fin
    by_cases hm : 0 < m
    · by_cases h : b < a
      · go_enter Tryz.func6, Tryz.ntmps6
        go_wp2
        go_ret
        exact ⟨rfl, H.out _ _⟩
      · go_enter Tryz.func6, Tryz.ntmps6
        go_wp2
        go_ret
        exact ⟨rfl, H.out _ _⟩
    · by_cases h : b < a
      · go_enter Tryz.func6, Tryz.ntmps6
        go_wp2
        go_ret
        exact ⟨rfl, H.out _ _⟩
      · go_enter Tryz.func6, Tryz.ntmps6
        go_wp2
        go_ret
        exact ⟨rfl, H.out _ _⟩
end Go.Proofs.L11

/-
  O2: the law StoresOverlap: one walk a case.
-/
namespace Go.Proofs.L11
open Go Go.Proofs Go.RowKit Go.Ax
/-- Two blocks of two cells. -/
structure Two (B : Nat) (x0 x1 y0 y1 : Value) (w : World) : Prop where
  a : w.cell? ⟨B, 0, none⟩ = some x0
  b : w.cell? ⟨B, 1, none⟩ = some x1
  c : w.cell? ⟨B + 1, 0, none⟩ = some y0
  d : w.cell? ⟨B + 1, 1, none⟩ = some y1
  z : B + 1 < w.heap.size
theorem Two.start (w : World) (x0 x1 y0 y1 : Value) (t u : TypeId) : Two w.heap.size x0 x1 y0 y1 ((w.alloc (.cells #[x0, x1] t)).alloc (.cells #[y0, y1] u)) := by
  have e1 : ((w.alloc (.cells #[x0, x1] t)).alloc (.cells #[y0, y1] u)).heap[w.heap.size]? = some (.cells #[x0, x1] t) := by
    show ((w.heap.push _).push _)[w.heap.size]? = _
    rw [Array.getElem?_push, if_neg (by simp), Array.getElem?_push, if_pos rfl]
  have e2 : ((w.alloc (.cells #[x0, x1] t)).alloc (.cells #[y0, y1] u)).heap[w.heap.size + 1]? = some (.cells #[y0, y1] u) := by
    show ((w.heap.push _).push _)[w.heap.size + 1]? = _
    rw [Array.getElem?_push, if_pos (by simp)]
  refine ⟨?_, ?_, ?_, ?_, by simp⟩
  · unfold World.cell?; rw [e1]; rfl
  · unfold World.cell?; rw [e1]; rfl
  · unfold World.cell?; rw [e2]; rfl
  · unfold World.cell?; rw [e2]; rfl
theorem Two.keep {B : Nat} {x0 x1 y0 y1 : Value} {w w' : World} (h : Two B x0 x1 y0 y1 w) (hb : Below w.heap.size w w') : Two B x0 x1 y0 y1 w' := by
  have hz := h.z
  have hs := hb.size
  exact ⟨by rw [hb.cell (by show B < _; omega)]; exact h.a, by rw [hb.cell (by show B < _; omega)]; exact h.b,
    by rw [hb.cell (by show B + 1 < _; omega)]; exact h.c, by rw [hb.cell (by show B + 1 < _; omega)]; exact h.d, by omega⟩

/-! ### The common bytes of two small places -/
def CM (x y m : Int) : Nat → Bool
  | 0 => false
  | k + 1 => CM x y m k || (decide (y ≤ x + k) && decide (x + k < y + m))
theorem CM_iff (x y m : Int) : ∀ k, CM x y m k = true ↔ ∃ j : Nat, j < k ∧ y ≤ x + j ∧ x + j < y + m
  | 0 => by simp [CM]
  | k + 1 => by
    simp only [CM, Bool.or_eq_true, Bool.and_eq_true, decide_eq_true_iff, CM_iff x y m k]
    constructor
    · rintro (⟨j, h1, h2⟩ | h)
      · exact ⟨j, by omega, h2⟩
      · exact ⟨k, by omega, h⟩
    · rintro ⟨j, h1, h2⟩
      by_cases hj : j = k
      · subst hj; exact .inr h2
      · exact .inl ⟨j, by omega, h2⟩
theorem CM_OV (x n y m : Int) : CM x y m n.toNat = OV x n y m := by
  rw [Bool.eq_iff_iff, CM_iff]
  unfold OV
  rw [decide_eq_true_iff]
  constructor
  · rintro ⟨j, h1, h2, h3⟩
    refine ⟨by omega, by omega, ?_⟩
    split <;> omega
  · rintro ⟨h1, h2, h3⟩
    split at h3
    · exact ⟨0, by omega, by omega, by omega⟩
    · exact ⟨(y - x).toNat, by omega, by omega, by omega⟩
theorem smallK (a : Int) (k : Int) (hk : 0 < k) : -k < a.tmod k ∧ a.tmod k < k := by
  by_cases h : 0 ≤ a
  · rw [Int.tmod_eq_emod_of_nonneg h]
    have := Int.emod_nonneg a (b := k) (by omega)
    have := Int.emod_lt_of_pos a hk
    omega
  · have e : a.tmod k = -((-a).tmod k) := by rw [Int.neg_tmod, Int.neg_neg]
    rw [e, Int.tmod_eq_emod_of_nonneg (by omega)]
    have := Int.emod_nonneg (-a) (b := k) (by omega)
    have := Int.emod_lt_of_pos (-a) hk
    omega
theorem small20 (a : Int) : -20 < a.tmod 20 ∧ a.tmod 20 < 20 := smallK a 20 (by omega)
theorem small10 (a : Int) : -10 < a.tmod 10 ∧ a.tmod 10 < 10 := smallK a 10 (by omega)
theorem small10' (a : Int) : -10 < a % 10 ∧ a % 10 < 10 := by omega

set_option maxRecDepth 100000 in
set_option maxHeartbeats 1000000 in
theorem law_tle (a n b m : Int) (w : World) (ha : IR a) (hn' : IR n) (hb : IR b) (hm' : IR m)
    (HL : Hid (∀ w', Below w.heap.size w w' → Calls Tryz.prog 7 #[] w' fun e w2 => e = .returned (.bool true) ∧ Below w'.heap.size w' w2))
    (hr : OV a n b m = true) (hab : a ≤ b) (hn : 0 < n) (hm : 0 < m) : Calls Tryz.prog 3 #[.agg #[.int .i64 a, .int .i64 n], .agg #[.int .i64 b, .int .i64 m]] w fun e w' => e = .returned (.bool true) ∧ Below w.heap.size w w' := by
  have c1 : ∀ w, Calls Tryz.prog 6 #[.agg #[.int .i64 a, .int .i64 n], .agg #[.int .i64 b, .int .i64 m]] w fun e w' => e = .returned (.bool true) ∧ Below w.heap.size w w' := fun w => by
    have := ov_any a n b m w ha hn' hb hm'; rw [hr] at this; exact this
  have c2 : ∀ w, Calls Tryz.prog 6 #[.agg #[.int .i64 b, .int .i64 m], .agg #[.int .i64 a, .int .i64 n]] w fun e w' => e = .returned (.bool true) ∧ Below w.heap.size w w' := fun w => by
    have := ov_any b m a n w hb hm' ha hn'; rw [OV_symm, hr] at this; exact this
  have hd : decide (IntKind.u64.wrap (IntKind.u64.wrap b - IntKind.u64.wrap a) < IntKind.u64.wrap n) = true := by rw [OV_le ha hb hn' (by omega) hn hm]; exact hr
  have bx := small20 a; have by' := small20 b; have bn := small10' n; have bm := small10' m
  have C1 := Lib.hid c1; have C2 := Lib.hid c2; have BX := Lib.hid bx; have BY := Lib.hid by'; have BN := Lib.hid bn; have BM := Lib.hid bm
  clear c1 c2 ha hn' hb hm' hr bx by' bn bm
  go_enter Tryz.func3, Tryz.ntmps3
  go_wp2_with fail
  refine (C1.out _).mono ?_
  rintro e w1 ⟨rfl, hb1⟩
  have T1 := Lib.hid ((Two.start w _ _ _ _ _ _).keep hb1)
  have B1 := Lib.hid ((((Below.refl w.heap.size w).alloc (Nat.le_refl _) (.cells #[.int .i64 a, .int .i64 n] 23)).alloc (by simp) (.cells #[.int .i64 b, .int .i64 m] 23)).trans (hb1.mono (by simp; omega)))
  clear hb1
  obtain ⟨ta, tb, tc, td, tz⟩ := T1.out
  go_wp2_with fail
  refine (C2.out _).mono ?_
  rintro e w2 ⟨rfl, hb2⟩
  clear ta tb tc td
  have T2 := Lib.hid (T1.out.keep hb2)
  have B2 := Lib.hid (B1.out.trans (hb2.mono (by omega)))
  clear hb2 tz
  obtain ⟨ta, tb, tc, td, tz⟩ := T2.out
  go_wp2_with fail
  clear ta tb tc td
  have bx := BX.out; have by' := BY.out; have bn := BN.out; have bm := BM.out
  clear BX BY BN BM
  have hz2 := Lib.hid tz
  clear tz
  generalize a.tmod 20 = x at bx ⊢
  generalize b.tmod 20 = y at by' ⊢
  generalize n % 10 = nn at bn ⊢
  generalize m % 10 = mm at bm ⊢
  clear hn hm hab hd
  go_loop [9, 10] (fun c i => ∃ k : Nat, k ≤ nn.toNat ∧ i = .int .i64 (x + k) ∧ c = .bool (CM x y mm k))
      (fun _ i => (x + nn + 1 - intOf i).toNat)
  case atStart => exact ⟨0, Nat.zero_le _, by simp, rfl⟩
  case round =>
    obtain ⟨k, hk, rfl, rfl⟩ := hrel
    by_cases hlt : x + k < x + nn
    · by_cases h0 : CM x y mm k = true
      · rw [h0]
        have H0 := Lib.hid h0; clear h0
        go_wp2
        go_round
        case rel => exact ⟨k + 1, by omega, by rw [show x + ((k + 1 : Nat) : Int) = x + k + 1 by omega], by rw [CM, H0.out]; rfl⟩
        case measure => simp [intOf]; omega
      · have h0 : CM x y mm k = false := by simpa using h0
        rw [h0]
        have H0 := Lib.hid h0; clear h0
        by_cases h1 : y ≤ x + k
        · by_cases h2 : x + k < y + mm
          · go_wp2
            go_round
            case rel => exact ⟨k + 1, by omega, by rw [show x + ((k + 1 : Nat) : Int) = x + k + 1 by omega], by rw [CM, H0.out, decide_eq_true h1, decide_eq_true h2]; rfl⟩
            case measure => simp [intOf]; omega
          · go_wp2
            go_round
            case rel => exact ⟨k + 1, by omega, by rw [show x + ((k + 1 : Nat) : Int) = x + k + 1 by omega], by rw [CM, H0.out, decide_eq_true h1, decide_eq_false h2]; rfl⟩
            case measure => simp [intOf]; omega
        · go_wp2
          go_round
          case rel => exact ⟨k + 1, by omega, by rw [show x + ((k + 1 : Nat) : Int) = x + k + 1 by omega], by rw [CM, H0.out, decide_eq_false h1]; rfl⟩
          case measure => simp [intOf]; omega
    · obtain rfl : k = nn.toNat := by omega
      rw [CM_OV]
      have c3 := fun w => ov_any x nn y mm w (by unfold IR; omega) (by unfold IR; omega) (by unfold IR; omega) (by unfold IR; omega)
      generalize OV x nn y mm = r at c3 ⊢
      have C3 := Lib.hid c3
      clear c3
      have hz3 := Lib.hid ((((Below.refl w2.heap.size w2).alloc (Nat.le_refl _) (.cells #[.int .i64 x, .int .i64 nn] 23)).alloc (by simp) (.cells #[.int .i64 y, .int .i64 mm] 23)))
      cases r <;>
      (go_wp2_with fail
       refine (C3.out _).mono ?_
       rintro e w3 ⟨rfl, hb3⟩
       have B3 := Lib.hid ((B2.out.trans (hz3.out.mono (by have := B2.out.size; omega))).trans (hb3.mono (by have := B2.out.size; simp; omega)))
       clear hb3
       go_wp2_with fail
       refine (HL.out _ B3.out).mono ?_
       rintro e w4 ⟨rfl, hb4⟩
       have B4 := Lib.hid (B3.out.trans (hb4.mono B3.out.size))
       clear hb4
       go_wp2_with fail
       go_ret
       exact ⟨rfl, B4.out⟩)

set_option maxRecDepth 100000 in
set_option maxHeartbeats 1000000 in
theorem law_tgt (a n b m : Int) (w : World) (ha : IR a) (hn' : IR n) (hb : IR b) (hm' : IR m)
    (HL : Hid (∀ w', Below w.heap.size w w' → Calls Tryz.prog 7 #[] w' fun e w2 => e = .returned (.bool true) ∧ Below w'.heap.size w' w2))
    (hr : OV a n b m = true) (hab : b < a) (hn : 0 < n) (hm : 0 < m) : Calls Tryz.prog 3 #[.agg #[.int .i64 a, .int .i64 n], .agg #[.int .i64 b, .int .i64 m]] w fun e w' => e = .returned (.bool true) ∧ Below w.heap.size w w' := by
  have c1 : ∀ w, Calls Tryz.prog 6 #[.agg #[.int .i64 a, .int .i64 n], .agg #[.int .i64 b, .int .i64 m]] w fun e w' => e = .returned (.bool true) ∧ Below w.heap.size w w' := fun w => by
    have := ov_any a n b m w ha hn' hb hm'; rw [hr] at this; exact this
  have c2 : ∀ w, Calls Tryz.prog 6 #[.agg #[.int .i64 b, .int .i64 m], .agg #[.int .i64 a, .int .i64 n]] w fun e w' => e = .returned (.bool true) ∧ Below w.heap.size w w' := fun w => by
    have := ov_any b m a n w hb hm' ha hn'; rw [OV_symm, hr] at this; exact this
  have hd : decide (IntKind.u64.wrap (IntKind.u64.wrap a - IntKind.u64.wrap b) < IntKind.u64.wrap m) = true := by rw [OV_gt ha hb hm' hab hn hm]; exact hr
  have bx := small20 a; have by' := small20 b; have bn := small10' n; have bm := small10' m
  have C1 := Lib.hid c1; have C2 := Lib.hid c2; have BX := Lib.hid bx; have BY := Lib.hid by'; have BN := Lib.hid bn; have BM := Lib.hid bm
  clear c1 c2 ha hn' hb hm' hr bx by' bn bm
  go_enter Tryz.func3, Tryz.ntmps3
  go_wp2_with fail
  refine (C1.out _).mono ?_
  rintro e w1 ⟨rfl, hb1⟩
  have T1 := Lib.hid ((Two.start w _ _ _ _ _ _).keep hb1)
  have B1 := Lib.hid ((((Below.refl w.heap.size w).alloc (Nat.le_refl _) (.cells #[.int .i64 a, .int .i64 n] 23)).alloc (by simp) (.cells #[.int .i64 b, .int .i64 m] 23)).trans (hb1.mono (by simp; omega)))
  clear hb1
  obtain ⟨ta, tb, tc, td, tz⟩ := T1.out
  go_wp2_with fail
  refine (C2.out _).mono ?_
  rintro e w2 ⟨rfl, hb2⟩
  clear ta tb tc td
  have T2 := Lib.hid (T1.out.keep hb2)
  have B2 := Lib.hid (B1.out.trans (hb2.mono (by omega)))
  clear hb2 tz
  obtain ⟨ta, tb, tc, td, tz⟩ := T2.out
  go_wp2_with fail
  clear ta tb tc td
  have bx := BX.out; have by' := BY.out; have bn := BN.out; have bm := BM.out
  clear BX BY BN BM
  have hz2 := Lib.hid tz
  clear tz
  generalize a.tmod 20 = x at bx ⊢
  generalize b.tmod 20 = y at by' ⊢
  generalize n % 10 = nn at bn ⊢
  generalize m % 10 = mm at bm ⊢
  clear hn hm hab hd
  go_loop [9, 10] (fun c i => ∃ k : Nat, k ≤ nn.toNat ∧ i = .int .i64 (x + k) ∧ c = .bool (CM x y mm k))
      (fun _ i => (x + nn + 1 - intOf i).toNat)
  case atStart => exact ⟨0, Nat.zero_le _, by simp, rfl⟩
  case round =>
    obtain ⟨k, hk, rfl, rfl⟩ := hrel
    by_cases hlt : x + k < x + nn
    · by_cases h0 : CM x y mm k = true
      · rw [h0]
        have H0 := Lib.hid h0; clear h0
        go_wp2
        go_round
        case rel => exact ⟨k + 1, by omega, by rw [show x + ((k + 1 : Nat) : Int) = x + k + 1 by omega], by rw [CM, H0.out]; rfl⟩
        case measure => simp [intOf]; omega
      · have h0 : CM x y mm k = false := by simpa using h0
        rw [h0]
        have H0 := Lib.hid h0; clear h0
        by_cases h1 : y ≤ x + k
        · by_cases h2 : x + k < y + mm
          · go_wp2
            go_round
            case rel => exact ⟨k + 1, by omega, by rw [show x + ((k + 1 : Nat) : Int) = x + k + 1 by omega], by rw [CM, H0.out, decide_eq_true h1, decide_eq_true h2]; rfl⟩
            case measure => simp [intOf]; omega
          · go_wp2
            go_round
            case rel => exact ⟨k + 1, by omega, by rw [show x + ((k + 1 : Nat) : Int) = x + k + 1 by omega], by rw [CM, H0.out, decide_eq_true h1, decide_eq_false h2]; rfl⟩
            case measure => simp [intOf]; omega
        · go_wp2
          go_round
          case rel => exact ⟨k + 1, by omega, by rw [show x + ((k + 1 : Nat) : Int) = x + k + 1 by omega], by rw [CM, H0.out, decide_eq_false h1]; rfl⟩
          case measure => simp [intOf]; omega
    · obtain rfl : k = nn.toNat := by omega
      rw [CM_OV]
      have c3 := fun w => ov_any x nn y mm w (by unfold IR; omega) (by unfold IR; omega) (by unfold IR; omega) (by unfold IR; omega)
      generalize OV x nn y mm = r at c3 ⊢
      have C3 := Lib.hid c3
      clear c3
      have hz3 := Lib.hid ((((Below.refl w2.heap.size w2).alloc (Nat.le_refl _) (.cells #[.int .i64 x, .int .i64 nn] 23)).alloc (by simp) (.cells #[.int .i64 y, .int .i64 mm] 23)))
      cases r <;>
      (go_wp2_with fail
       refine (C3.out _).mono ?_
       rintro e w3 ⟨rfl, hb3⟩
       have B3 := Lib.hid ((B2.out.trans (hz3.out.mono (by have := B2.out.size; omega))).trans (hb3.mono (by have := B2.out.size; simp; omega)))
       clear hb3
       go_wp2_with fail
       refine (HL.out _ B3.out).mono ?_
       rintro e w4 ⟨rfl, hb4⟩
       have B4 := Lib.hid (B3.out.trans (hb4.mono B3.out.size))
       clear hb4
       go_wp2_with fail
       go_ret
       exact ⟨rfl, B4.out⟩)

set_option maxRecDepth 100000 in
set_option maxHeartbeats 1000000 in
theorem law_fle (a n b m : Int) (w : World) (ha : IR a) (hn' : IR n) (hb : IR b) (hm' : IR m)
    (HL : Hid (∀ w', Below w.heap.size w w' → Calls Tryz.prog 7 #[] w' fun e w2 => e = .returned (.bool true) ∧ Below w'.heap.size w' w2))
    (hr : OV a n b m = false) (hab : a ≤ b) (hn : 0 < n) (hm : 0 < m) : Calls Tryz.prog 3 #[.agg #[.int .i64 a, .int .i64 n], .agg #[.int .i64 b, .int .i64 m]] w fun e w' => e = .returned (.bool true) ∧ Below w.heap.size w w' := by
  have c1 : ∀ w, Calls Tryz.prog 6 #[.agg #[.int .i64 a, .int .i64 n], .agg #[.int .i64 b, .int .i64 m]] w fun e w' => e = .returned (.bool false) ∧ Below w.heap.size w w' := fun w => by
    have := ov_any a n b m w ha hn' hb hm'; rw [hr] at this; exact this
  have c2 : ∀ w, Calls Tryz.prog 6 #[.agg #[.int .i64 b, .int .i64 m], .agg #[.int .i64 a, .int .i64 n]] w fun e w' => e = .returned (.bool false) ∧ Below w.heap.size w w' := fun w => by
    have := ov_any b m a n w hb hm' ha hn'; rw [OV_symm, hr] at this; exact this
  have hd : decide (IntKind.u64.wrap (IntKind.u64.wrap b - IntKind.u64.wrap a) < IntKind.u64.wrap n) = false := by rw [OV_le ha hb hn' (by omega) hn hm]; exact hr
  have bx := small20 a; have by' := small20 b; have bn := small10' n; have bm := small10' m
  have C1 := Lib.hid c1; have C2 := Lib.hid c2; have BX := Lib.hid bx; have BY := Lib.hid by'; have BN := Lib.hid bn; have BM := Lib.hid bm
  clear c1 c2 ha hn' hb hm' hr bx by' bn bm
  go_enter Tryz.func3, Tryz.ntmps3
  go_wp2_with fail
  refine (C1.out _).mono ?_
  rintro e w1 ⟨rfl, hb1⟩
  have T1 := Lib.hid ((Two.start w _ _ _ _ _ _).keep hb1)
  have B1 := Lib.hid ((((Below.refl w.heap.size w).alloc (Nat.le_refl _) (.cells #[.int .i64 a, .int .i64 n] 23)).alloc (by simp) (.cells #[.int .i64 b, .int .i64 m] 23)).trans (hb1.mono (by simp; omega)))
  clear hb1
  obtain ⟨ta, tb, tc, td, tz⟩ := T1.out
  go_wp2_with fail
  refine (C2.out _).mono ?_
  rintro e w2 ⟨rfl, hb2⟩
  clear ta tb tc td
  have T2 := Lib.hid (T1.out.keep hb2)
  have B2 := Lib.hid (B1.out.trans (hb2.mono (by omega)))
  clear hb2 tz
  obtain ⟨ta, tb, tc, td, tz⟩ := T2.out
  go_wp2_with fail
  clear ta tb tc td
  have bx := BX.out; have by' := BY.out; have bn := BN.out; have bm := BM.out
  clear BX BY BN BM
  have hz2 := Lib.hid tz
  clear tz
  generalize a.tmod 20 = x at bx ⊢
  generalize b.tmod 20 = y at by' ⊢
  generalize n % 10 = nn at bn ⊢
  generalize m % 10 = mm at bm ⊢
  clear hn hm hab hd
  go_loop [9, 10] (fun c i => ∃ k : Nat, k ≤ nn.toNat ∧ i = .int .i64 (x + k) ∧ c = .bool (CM x y mm k))
      (fun _ i => (x + nn + 1 - intOf i).toNat)
  case atStart => exact ⟨0, Nat.zero_le _, by simp, rfl⟩
  case round =>
    obtain ⟨k, hk, rfl, rfl⟩ := hrel
    by_cases hlt : x + k < x + nn
    · by_cases h0 : CM x y mm k = true
      · rw [h0]
        have H0 := Lib.hid h0; clear h0
        go_wp2
        go_round
        case rel => exact ⟨k + 1, by omega, by rw [show x + ((k + 1 : Nat) : Int) = x + k + 1 by omega], by rw [CM, H0.out]; rfl⟩
        case measure => simp [intOf]; omega
      · have h0 : CM x y mm k = false := by simpa using h0
        rw [h0]
        have H0 := Lib.hid h0; clear h0
        by_cases h1 : y ≤ x + k
        · by_cases h2 : x + k < y + mm
          · go_wp2
            go_round
            case rel => exact ⟨k + 1, by omega, by rw [show x + ((k + 1 : Nat) : Int) = x + k + 1 by omega], by rw [CM, H0.out, decide_eq_true h1, decide_eq_true h2]; rfl⟩
            case measure => simp [intOf]; omega
          · go_wp2
            go_round
            case rel => exact ⟨k + 1, by omega, by rw [show x + ((k + 1 : Nat) : Int) = x + k + 1 by omega], by rw [CM, H0.out, decide_eq_true h1, decide_eq_false h2]; rfl⟩
            case measure => simp [intOf]; omega
        · go_wp2
          go_round
          case rel => exact ⟨k + 1, by omega, by rw [show x + ((k + 1 : Nat) : Int) = x + k + 1 by omega], by rw [CM, H0.out, decide_eq_false h1]; rfl⟩
          case measure => simp [intOf]; omega
    · obtain rfl : k = nn.toNat := by omega
      rw [CM_OV]
      have c3 := fun w => ov_any x nn y mm w (by unfold IR; omega) (by unfold IR; omega) (by unfold IR; omega) (by unfold IR; omega)
      generalize OV x nn y mm = r at c3 ⊢
      have C3 := Lib.hid c3
      clear c3
      have hz3 := Lib.hid ((((Below.refl w2.heap.size w2).alloc (Nat.le_refl _) (.cells #[.int .i64 x, .int .i64 nn] 23)).alloc (by simp) (.cells #[.int .i64 y, .int .i64 mm] 23)))
      cases r <;>
      (go_wp2_with fail
       refine (C3.out _).mono ?_
       rintro e w3 ⟨rfl, hb3⟩
       have B3 := Lib.hid ((B2.out.trans (hz3.out.mono (by have := B2.out.size; omega))).trans (hb3.mono (by have := B2.out.size; simp; omega)))
       clear hb3
       go_wp2_with fail
       refine (HL.out _ B3.out).mono ?_
       rintro e w4 ⟨rfl, hb4⟩
       have B4 := Lib.hid (B3.out.trans (hb4.mono B3.out.size))
       clear hb4
       go_wp2_with fail
       go_ret
       exact ⟨rfl, B4.out⟩)

set_option maxRecDepth 100000 in
set_option maxHeartbeats 1000000 in
theorem law_fgt (a n b m : Int) (w : World) (ha : IR a) (hn' : IR n) (hb : IR b) (hm' : IR m)
    (HL : Hid (∀ w', Below w.heap.size w w' → Calls Tryz.prog 7 #[] w' fun e w2 => e = .returned (.bool true) ∧ Below w'.heap.size w' w2))
    (hr : OV a n b m = false) (hab : b < a) (hn : 0 < n) (hm : 0 < m) : Calls Tryz.prog 3 #[.agg #[.int .i64 a, .int .i64 n], .agg #[.int .i64 b, .int .i64 m]] w fun e w' => e = .returned (.bool true) ∧ Below w.heap.size w w' := by
  have c1 : ∀ w, Calls Tryz.prog 6 #[.agg #[.int .i64 a, .int .i64 n], .agg #[.int .i64 b, .int .i64 m]] w fun e w' => e = .returned (.bool false) ∧ Below w.heap.size w w' := fun w => by
    have := ov_any a n b m w ha hn' hb hm'; rw [hr] at this; exact this
  have c2 : ∀ w, Calls Tryz.prog 6 #[.agg #[.int .i64 b, .int .i64 m], .agg #[.int .i64 a, .int .i64 n]] w fun e w' => e = .returned (.bool false) ∧ Below w.heap.size w w' := fun w => by
    have := ov_any b m a n w hb hm' ha hn'; rw [OV_symm, hr] at this; exact this
  have hd : decide (IntKind.u64.wrap (IntKind.u64.wrap a - IntKind.u64.wrap b) < IntKind.u64.wrap m) = false := by rw [OV_gt ha hb hm' hab hn hm]; exact hr
  have bx := small20 a; have by' := small20 b; have bn := small10' n; have bm := small10' m
  have C1 := Lib.hid c1; have C2 := Lib.hid c2; have BX := Lib.hid bx; have BY := Lib.hid by'; have BN := Lib.hid bn; have BM := Lib.hid bm
  clear c1 c2 ha hn' hb hm' hr bx by' bn bm
  go_enter Tryz.func3, Tryz.ntmps3
  go_wp2_with fail
  refine (C1.out _).mono ?_
  rintro e w1 ⟨rfl, hb1⟩
  have T1 := Lib.hid ((Two.start w _ _ _ _ _ _).keep hb1)
  have B1 := Lib.hid ((((Below.refl w.heap.size w).alloc (Nat.le_refl _) (.cells #[.int .i64 a, .int .i64 n] 23)).alloc (by simp) (.cells #[.int .i64 b, .int .i64 m] 23)).trans (hb1.mono (by simp; omega)))
  clear hb1
  obtain ⟨ta, tb, tc, td, tz⟩ := T1.out
  go_wp2_with fail
  refine (C2.out _).mono ?_
  rintro e w2 ⟨rfl, hb2⟩
  clear ta tb tc td
  have T2 := Lib.hid (T1.out.keep hb2)
  have B2 := Lib.hid (B1.out.trans (hb2.mono (by omega)))
  clear hb2 tz
  obtain ⟨ta, tb, tc, td, tz⟩ := T2.out
  go_wp2_with fail
  clear ta tb tc td
  have bx := BX.out; have by' := BY.out; have bn := BN.out; have bm := BM.out
  clear BX BY BN BM
  have hz2 := Lib.hid tz
  clear tz
  generalize a.tmod 20 = x at bx ⊢
  generalize b.tmod 20 = y at by' ⊢
  generalize n % 10 = nn at bn ⊢
  generalize m % 10 = mm at bm ⊢
  clear hn hm hab hd
  go_loop [9, 10] (fun c i => ∃ k : Nat, k ≤ nn.toNat ∧ i = .int .i64 (x + k) ∧ c = .bool (CM x y mm k))
      (fun _ i => (x + nn + 1 - intOf i).toNat)
  case atStart => exact ⟨0, Nat.zero_le _, by simp, rfl⟩
  case round =>
    obtain ⟨k, hk, rfl, rfl⟩ := hrel
    by_cases hlt : x + k < x + nn
    · by_cases h0 : CM x y mm k = true
      · rw [h0]
        have H0 := Lib.hid h0; clear h0
        go_wp2
        go_round
        case rel => exact ⟨k + 1, by omega, by rw [show x + ((k + 1 : Nat) : Int) = x + k + 1 by omega], by rw [CM, H0.out]; rfl⟩
        case measure => simp [intOf]; omega
      · have h0 : CM x y mm k = false := by simpa using h0
        rw [h0]
        have H0 := Lib.hid h0; clear h0
        by_cases h1 : y ≤ x + k
        · by_cases h2 : x + k < y + mm
          · go_wp2
            go_round
            case rel => exact ⟨k + 1, by omega, by rw [show x + ((k + 1 : Nat) : Int) = x + k + 1 by omega], by rw [CM, H0.out, decide_eq_true h1, decide_eq_true h2]; rfl⟩
            case measure => simp [intOf]; omega
          · go_wp2
            go_round
            case rel => exact ⟨k + 1, by omega, by rw [show x + ((k + 1 : Nat) : Int) = x + k + 1 by omega], by rw [CM, H0.out, decide_eq_true h1, decide_eq_false h2]; rfl⟩
            case measure => simp [intOf]; omega
        · go_wp2
          go_round
          case rel => exact ⟨k + 1, by omega, by rw [show x + ((k + 1 : Nat) : Int) = x + k + 1 by omega], by rw [CM, H0.out, decide_eq_false h1]; rfl⟩
          case measure => simp [intOf]; omega
    · obtain rfl : k = nn.toNat := by omega
      rw [CM_OV]
      have c3 := fun w => ov_any x nn y mm w (by unfold IR; omega) (by unfold IR; omega) (by unfold IR; omega) (by unfold IR; omega)
      generalize OV x nn y mm = r at c3 ⊢
      have C3 := Lib.hid c3
      clear c3
      have hz3 := Lib.hid ((((Below.refl w2.heap.size w2).alloc (Nat.le_refl _) (.cells #[.int .i64 x, .int .i64 nn] 23)).alloc (by simp) (.cells #[.int .i64 y, .int .i64 mm] 23)))
      cases r <;>
      (go_wp2_with fail
       refine (C3.out _).mono ?_
       rintro e w3 ⟨rfl, hb3⟩
       have B3 := Lib.hid ((B2.out.trans (hz3.out.mono (by have := B2.out.size; omega))).trans (hb3.mono (by have := B2.out.size; simp; omega)))
       clear hb3
       go_wp2_with fail
       refine (HL.out _ B3.out).mono ?_
       rintro e w4 ⟨rfl, hb4⟩
       have B4 := Lib.hid (B3.out.trans (hb4.mono B3.out.size))
       clear hb4
       go_wp2_with fail
       go_ret
       exact ⟨rfl, B4.out⟩)

set_option maxRecDepth 100000 in
set_option maxHeartbeats 1000000 in
theorem law_mle (a n b m : Int) (w : World) (ha : IR a) (hn' : IR n) (hb : IR b) (hm' : IR m)
    (HL : Hid (∀ w', Below w.heap.size w w' → Calls Tryz.prog 7 #[] w' fun e w2 => e = .returned (.bool true) ∧ Below w'.heap.size w' w2))
    (hr : OV a n b m = false) (hab : a ≤ b) (hn : 0 < n) (hm : m ≤ 0) : Calls Tryz.prog 3 #[.agg #[.int .i64 a, .int .i64 n], .agg #[.int .i64 b, .int .i64 m]] w fun e w' => e = .returned (.bool true) ∧ Below w.heap.size w w' := by
  have c1 : ∀ w, Calls Tryz.prog 6 #[.agg #[.int .i64 a, .int .i64 n], .agg #[.int .i64 b, .int .i64 m]] w fun e w' => e = .returned (.bool false) ∧ Below w.heap.size w w' := fun w => by
    have := ov_any a n b m w ha hn' hb hm'; rw [hr] at this; exact this
  have c2 : ∀ w, Calls Tryz.prog 6 #[.agg #[.int .i64 b, .int .i64 m], .agg #[.int .i64 a, .int .i64 n]] w fun e w' => e = .returned (.bool false) ∧ Below w.heap.size w w' := fun w => by
    have := ov_any b m a n w hb hm' ha hn'; rw [OV_symm, hr] at this; exact this
  skip
  have bx := small20 a; have by' := small20 b; have bn := small10' n; have bm := small10 m
  have C1 := Lib.hid c1; have C2 := Lib.hid c2; have BX := Lib.hid bx; have BY := Lib.hid by'; have BN := Lib.hid bn; have BM := Lib.hid bm
  clear c1 c2 ha hn' hb hm' hr bx by' bn bm
  go_enter Tryz.func3, Tryz.ntmps3
  go_wp2_with fail
  refine (C1.out _).mono ?_
  rintro e w1 ⟨rfl, hb1⟩
  have T1 := Lib.hid ((Two.start w _ _ _ _ _ _).keep hb1)
  have B1 := Lib.hid ((((Below.refl w.heap.size w).alloc (Nat.le_refl _) (.cells #[.int .i64 a, .int .i64 n] 23)).alloc (by simp) (.cells #[.int .i64 b, .int .i64 m] 23)).trans (hb1.mono (by simp; omega)))
  clear hb1
  obtain ⟨ta, tb, tc, td, tz⟩ := T1.out
  go_wp2_with fail
  refine (C2.out _).mono ?_
  rintro e w2 ⟨rfl, hb2⟩
  clear ta tb tc td
  have T2 := Lib.hid (T1.out.keep hb2)
  have B2 := Lib.hid (B1.out.trans (hb2.mono (by omega)))
  clear hb2 tz
  obtain ⟨ta, tb, tc, td, tz⟩ := T2.out
  go_wp2_with fail
  clear ta tb tc td
  have bx := BX.out; have by' := BY.out; have bn := BN.out; have bm := BM.out
  clear BX BY BN BM
  have hz2 := Lib.hid tz
  clear tz
  generalize a.tmod 20 = x at bx ⊢
  generalize b.tmod 20 = y at by' ⊢
  generalize n % 10 = nn at bn ⊢
  generalize m.tmod 10 = mm at bm ⊢
  clear hn hm hab
  go_loop [9, 10] (fun c i => ∃ k : Nat, k ≤ nn.toNat ∧ i = .int .i64 (x + k) ∧ c = .bool (CM x y mm k))
      (fun _ i => (x + nn + 1 - intOf i).toNat)
  case atStart => exact ⟨0, Nat.zero_le _, by simp, rfl⟩
  case round =>
    obtain ⟨k, hk, rfl, rfl⟩ := hrel
    by_cases hlt : x + k < x + nn
    · by_cases h0 : CM x y mm k = true
      · rw [h0]
        have H0 := Lib.hid h0; clear h0
        go_wp2
        go_round
        case rel => exact ⟨k + 1, by omega, by rw [show x + ((k + 1 : Nat) : Int) = x + k + 1 by omega], by rw [CM, H0.out]; rfl⟩
        case measure => simp [intOf]; omega
      · have h0 : CM x y mm k = false := by simpa using h0
        rw [h0]
        have H0 := Lib.hid h0; clear h0
        by_cases h1 : y ≤ x + k
        · by_cases h2 : x + k < y + mm
          · go_wp2
            go_round
            case rel => exact ⟨k + 1, by omega, by rw [show x + ((k + 1 : Nat) : Int) = x + k + 1 by omega], by rw [CM, H0.out, decide_eq_true h1, decide_eq_true h2]; rfl⟩
            case measure => simp [intOf]; omega
          · go_wp2
            go_round
            case rel => exact ⟨k + 1, by omega, by rw [show x + ((k + 1 : Nat) : Int) = x + k + 1 by omega], by rw [CM, H0.out, decide_eq_true h1, decide_eq_false h2]; rfl⟩
            case measure => simp [intOf]; omega
        · go_wp2
          go_round
          case rel => exact ⟨k + 1, by omega, by rw [show x + ((k + 1 : Nat) : Int) = x + k + 1 by omega], by rw [CM, H0.out, decide_eq_false h1]; rfl⟩
          case measure => simp [intOf]; omega
    · obtain rfl : k = nn.toNat := by omega
      rw [CM_OV]
      have c3 := fun w => ov_any x nn y mm w (by unfold IR; omega) (by unfold IR; omega) (by unfold IR; omega) (by unfold IR; omega)
      generalize OV x nn y mm = r at c3 ⊢
      have C3 := Lib.hid c3
      clear c3
      have hz3 := Lib.hid ((((Below.refl w2.heap.size w2).alloc (Nat.le_refl _) (.cells #[.int .i64 x, .int .i64 nn] 23)).alloc (by simp) (.cells #[.int .i64 y, .int .i64 mm] 23)))
      cases r <;>
      (go_wp2_with fail
       refine (C3.out _).mono ?_
       rintro e w3 ⟨rfl, hb3⟩
       have B3 := Lib.hid ((B2.out.trans (hz3.out.mono (by have := B2.out.size; omega))).trans (hb3.mono (by have := B2.out.size; simp; omega)))
       clear hb3
       go_wp2_with fail
       refine (HL.out _ B3.out).mono ?_
       rintro e w4 ⟨rfl, hb4⟩
       have B4 := Lib.hid (B3.out.trans (hb4.mono B3.out.size))
       clear hb4
       go_wp2_with fail
       go_ret
       exact ⟨rfl, B4.out⟩)

set_option maxRecDepth 100000 in
set_option maxHeartbeats 1000000 in
theorem law_mgt (a n b m : Int) (w : World) (ha : IR a) (hn' : IR n) (hb : IR b) (hm' : IR m)
    (HL : Hid (∀ w', Below w.heap.size w w' → Calls Tryz.prog 7 #[] w' fun e w2 => e = .returned (.bool true) ∧ Below w'.heap.size w' w2))
    (hr : OV a n b m = false) (hab : b < a) (hn : 0 < n) (hm : m ≤ 0) : Calls Tryz.prog 3 #[.agg #[.int .i64 a, .int .i64 n], .agg #[.int .i64 b, .int .i64 m]] w fun e w' => e = .returned (.bool true) ∧ Below w.heap.size w w' := by
  have c1 : ∀ w, Calls Tryz.prog 6 #[.agg #[.int .i64 a, .int .i64 n], .agg #[.int .i64 b, .int .i64 m]] w fun e w' => e = .returned (.bool false) ∧ Below w.heap.size w w' := fun w => by
    have := ov_any a n b m w ha hn' hb hm'; rw [hr] at this; exact this
  have c2 : ∀ w, Calls Tryz.prog 6 #[.agg #[.int .i64 b, .int .i64 m], .agg #[.int .i64 a, .int .i64 n]] w fun e w' => e = .returned (.bool false) ∧ Below w.heap.size w w' := fun w => by
    have := ov_any b m a n w hb hm' ha hn'; rw [OV_symm, hr] at this; exact this
  skip
  have bx := small20 a; have by' := small20 b; have bn := small10' n; have bm := small10 m
  have C1 := Lib.hid c1; have C2 := Lib.hid c2; have BX := Lib.hid bx; have BY := Lib.hid by'; have BN := Lib.hid bn; have BM := Lib.hid bm
  clear c1 c2 ha hn' hb hm' hr bx by' bn bm
  go_enter Tryz.func3, Tryz.ntmps3
  go_wp2_with fail
  refine (C1.out _).mono ?_
  rintro e w1 ⟨rfl, hb1⟩
  have T1 := Lib.hid ((Two.start w _ _ _ _ _ _).keep hb1)
  have B1 := Lib.hid ((((Below.refl w.heap.size w).alloc (Nat.le_refl _) (.cells #[.int .i64 a, .int .i64 n] 23)).alloc (by simp) (.cells #[.int .i64 b, .int .i64 m] 23)).trans (hb1.mono (by simp; omega)))
  clear hb1
  obtain ⟨ta, tb, tc, td, tz⟩ := T1.out
  go_wp2_with fail
  refine (C2.out _).mono ?_
  rintro e w2 ⟨rfl, hb2⟩
  clear ta tb tc td
  have T2 := Lib.hid (T1.out.keep hb2)
  have B2 := Lib.hid (B1.out.trans (hb2.mono (by omega)))
  clear hb2 tz
  obtain ⟨ta, tb, tc, td, tz⟩ := T2.out
  go_wp2_with fail
  clear ta tb tc td
  have bx := BX.out; have by' := BY.out; have bn := BN.out; have bm := BM.out
  clear BX BY BN BM
  have hz2 := Lib.hid tz
  clear tz
  generalize a.tmod 20 = x at bx ⊢
  generalize b.tmod 20 = y at by' ⊢
  generalize n % 10 = nn at bn ⊢
  generalize m.tmod 10 = mm at bm ⊢
  clear hn hm hab
  go_loop [9, 10] (fun c i => ∃ k : Nat, k ≤ nn.toNat ∧ i = .int .i64 (x + k) ∧ c = .bool (CM x y mm k))
      (fun _ i => (x + nn + 1 - intOf i).toNat)
  case atStart => exact ⟨0, Nat.zero_le _, by simp, rfl⟩
  case round =>
    obtain ⟨k, hk, rfl, rfl⟩ := hrel
    by_cases hlt : x + k < x + nn
    · by_cases h0 : CM x y mm k = true
      · rw [h0]
        have H0 := Lib.hid h0; clear h0
        go_wp2
        go_round
        case rel => exact ⟨k + 1, by omega, by rw [show x + ((k + 1 : Nat) : Int) = x + k + 1 by omega], by rw [CM, H0.out]; rfl⟩
        case measure => simp [intOf]; omega
      · have h0 : CM x y mm k = false := by simpa using h0
        rw [h0]
        have H0 := Lib.hid h0; clear h0
        by_cases h1 : y ≤ x + k
        · by_cases h2 : x + k < y + mm
          · go_wp2
            go_round
            case rel => exact ⟨k + 1, by omega, by rw [show x + ((k + 1 : Nat) : Int) = x + k + 1 by omega], by rw [CM, H0.out, decide_eq_true h1, decide_eq_true h2]; rfl⟩
            case measure => simp [intOf]; omega
          · go_wp2
            go_round
            case rel => exact ⟨k + 1, by omega, by rw [show x + ((k + 1 : Nat) : Int) = x + k + 1 by omega], by rw [CM, H0.out, decide_eq_true h1, decide_eq_false h2]; rfl⟩
            case measure => simp [intOf]; omega
        · go_wp2
          go_round
          case rel => exact ⟨k + 1, by omega, by rw [show x + ((k + 1 : Nat) : Int) = x + k + 1 by omega], by rw [CM, H0.out, decide_eq_false h1]; rfl⟩
          case measure => simp [intOf]; omega
    · obtain rfl : k = nn.toNat := by omega
      rw [CM_OV]
      have c3 := fun w => ov_any x nn y mm w (by unfold IR; omega) (by unfold IR; omega) (by unfold IR; omega) (by unfold IR; omega)
      generalize OV x nn y mm = r at c3 ⊢
      have C3 := Lib.hid c3
      clear c3
      have hz3 := Lib.hid ((((Below.refl w2.heap.size w2).alloc (Nat.le_refl _) (.cells #[.int .i64 x, .int .i64 nn] 23)).alloc (by simp) (.cells #[.int .i64 y, .int .i64 mm] 23)))
      cases r <;>
      (go_wp2_with fail
       refine (C3.out _).mono ?_
       rintro e w3 ⟨rfl, hb3⟩
       have B3 := Lib.hid ((B2.out.trans (hz3.out.mono (by have := B2.out.size; omega))).trans (hb3.mono (by have := B2.out.size; simp; omega)))
       clear hb3
       go_wp2_with fail
       refine (HL.out _ B3.out).mono ?_
       rintro e w4 ⟨rfl, hb4⟩
       have B4 := Lib.hid (B3.out.trans (hb4.mono B3.out.size))
       clear hb4
       go_wp2_with fail
       go_ret
       exact ⟨rfl, B4.out⟩)

set_option maxRecDepth 100000 in
set_option maxHeartbeats 1000000 in
theorem law_nle (a n b m : Int) (w : World) (ha : IR a) (hn' : IR n) (hb : IR b) (hm' : IR m)
    (HL : Hid (∀ w', Below w.heap.size w w' → Calls Tryz.prog 7 #[] w' fun e w2 => e = .returned (.bool true) ∧ Below w'.heap.size w' w2))
    (hr : OV a n b m = false) (hab : a ≤ b) (hn : n ≤ 0) : Calls Tryz.prog 3 #[.agg #[.int .i64 a, .int .i64 n], .agg #[.int .i64 b, .int .i64 m]] w fun e w' => e = .returned (.bool true) ∧ Below w.heap.size w w' := by
  have c1 : ∀ w, Calls Tryz.prog 6 #[.agg #[.int .i64 a, .int .i64 n], .agg #[.int .i64 b, .int .i64 m]] w fun e w' => e = .returned (.bool false) ∧ Below w.heap.size w w' := fun w => by
    have := ov_any a n b m w ha hn' hb hm'; rw [hr] at this; exact this
  have c2 : ∀ w, Calls Tryz.prog 6 #[.agg #[.int .i64 b, .int .i64 m], .agg #[.int .i64 a, .int .i64 n]] w fun e w' => e = .returned (.bool false) ∧ Below w.heap.size w w' := fun w => by
    have := ov_any b m a n w hb hm' ha hn'; rw [OV_symm, hr] at this; exact this
  skip
  have bx := small20 a; have by' := small20 b; have bn := small10 n; have bm := small10 m
  have C1 := Lib.hid c1; have C2 := Lib.hid c2; have BX := Lib.hid bx; have BY := Lib.hid by'; have BN := Lib.hid bn; have BM := Lib.hid bm
  clear c1 c2 ha hn' hb hm' hr bx by' bn bm
  go_enter Tryz.func3, Tryz.ntmps3
  go_wp2_with fail
  refine (C1.out _).mono ?_
  rintro e w1 ⟨rfl, hb1⟩
  have T1 := Lib.hid ((Two.start w _ _ _ _ _ _).keep hb1)
  have B1 := Lib.hid ((((Below.refl w.heap.size w).alloc (Nat.le_refl _) (.cells #[.int .i64 a, .int .i64 n] 23)).alloc (by simp) (.cells #[.int .i64 b, .int .i64 m] 23)).trans (hb1.mono (by simp; omega)))
  clear hb1
  obtain ⟨ta, tb, tc, td, tz⟩ := T1.out
  go_wp2_with fail
  refine (C2.out _).mono ?_
  rintro e w2 ⟨rfl, hb2⟩
  clear ta tb tc td
  have T2 := Lib.hid (T1.out.keep hb2)
  have B2 := Lib.hid (B1.out.trans (hb2.mono (by omega)))
  clear hb2 tz
  obtain ⟨ta, tb, tc, td, tz⟩ := T2.out
  go_wp2_with fail
  clear ta tb tc td
  have bx := BX.out; have by' := BY.out; have bn := BN.out; have bm := BM.out
  clear BX BY BN BM
  have hz2 := Lib.hid tz
  clear tz
  generalize a.tmod 20 = x at bx ⊢
  generalize b.tmod 20 = y at by' ⊢
  generalize n.tmod 10 = nn at bn ⊢
  generalize m.tmod 10 = mm at bm ⊢
  clear hn hab
  go_loop [9, 10] (fun c i => ∃ k : Nat, k ≤ nn.toNat ∧ i = .int .i64 (x + k) ∧ c = .bool (CM x y mm k))
      (fun _ i => (x + nn + 1 - intOf i).toNat)
  case atStart => exact ⟨0, Nat.zero_le _, by simp, rfl⟩
  case round =>
    obtain ⟨k, hk, rfl, rfl⟩ := hrel
    by_cases hlt : x + k < x + nn
    · by_cases h0 : CM x y mm k = true
      · rw [h0]
        have H0 := Lib.hid h0; clear h0
        go_wp2
        go_round
        case rel => exact ⟨k + 1, by omega, by rw [show x + ((k + 1 : Nat) : Int) = x + k + 1 by omega], by rw [CM, H0.out]; rfl⟩
        case measure => simp [intOf]; omega
      · have h0 : CM x y mm k = false := by simpa using h0
        rw [h0]
        have H0 := Lib.hid h0; clear h0
        by_cases h1 : y ≤ x + k
        · by_cases h2 : x + k < y + mm
          · go_wp2
            go_round
            case rel => exact ⟨k + 1, by omega, by rw [show x + ((k + 1 : Nat) : Int) = x + k + 1 by omega], by rw [CM, H0.out, decide_eq_true h1, decide_eq_true h2]; rfl⟩
            case measure => simp [intOf]; omega
          · go_wp2
            go_round
            case rel => exact ⟨k + 1, by omega, by rw [show x + ((k + 1 : Nat) : Int) = x + k + 1 by omega], by rw [CM, H0.out, decide_eq_true h1, decide_eq_false h2]; rfl⟩
            case measure => simp [intOf]; omega
        · go_wp2
          go_round
          case rel => exact ⟨k + 1, by omega, by rw [show x + ((k + 1 : Nat) : Int) = x + k + 1 by omega], by rw [CM, H0.out, decide_eq_false h1]; rfl⟩
          case measure => simp [intOf]; omega
    · obtain rfl : k = nn.toNat := by omega
      rw [CM_OV]
      have c3 := fun w => ov_any x nn y mm w (by unfold IR; omega) (by unfold IR; omega) (by unfold IR; omega) (by unfold IR; omega)
      generalize OV x nn y mm = r at c3 ⊢
      have C3 := Lib.hid c3
      clear c3
      have hz3 := Lib.hid ((((Below.refl w2.heap.size w2).alloc (Nat.le_refl _) (.cells #[.int .i64 x, .int .i64 nn] 23)).alloc (by simp) (.cells #[.int .i64 y, .int .i64 mm] 23)))
      cases r <;>
      (go_wp2_with fail
       refine (C3.out _).mono ?_
       rintro e w3 ⟨rfl, hb3⟩
       have B3 := Lib.hid ((B2.out.trans (hz3.out.mono (by have := B2.out.size; omega))).trans (hb3.mono (by have := B2.out.size; simp; omega)))
       clear hb3
       go_wp2_with fail
       refine (HL.out _ B3.out).mono ?_
       rintro e w4 ⟨rfl, hb4⟩
       have B4 := Lib.hid (B3.out.trans (hb4.mono B3.out.size))
       clear hb4
       go_wp2_with fail
       go_ret
       exact ⟨rfl, B4.out⟩)

set_option maxRecDepth 100000 in
set_option maxHeartbeats 1000000 in
theorem law_ngt (a n b m : Int) (w : World) (ha : IR a) (hn' : IR n) (hb : IR b) (hm' : IR m)
    (HL : Hid (∀ w', Below w.heap.size w w' → Calls Tryz.prog 7 #[] w' fun e w2 => e = .returned (.bool true) ∧ Below w'.heap.size w' w2))
    (hr : OV a n b m = false) (hab : b < a) (hn : n ≤ 0) : Calls Tryz.prog 3 #[.agg #[.int .i64 a, .int .i64 n], .agg #[.int .i64 b, .int .i64 m]] w fun e w' => e = .returned (.bool true) ∧ Below w.heap.size w w' := by
  have c1 : ∀ w, Calls Tryz.prog 6 #[.agg #[.int .i64 a, .int .i64 n], .agg #[.int .i64 b, .int .i64 m]] w fun e w' => e = .returned (.bool false) ∧ Below w.heap.size w w' := fun w => by
    have := ov_any a n b m w ha hn' hb hm'; rw [hr] at this; exact this
  have c2 : ∀ w, Calls Tryz.prog 6 #[.agg #[.int .i64 b, .int .i64 m], .agg #[.int .i64 a, .int .i64 n]] w fun e w' => e = .returned (.bool false) ∧ Below w.heap.size w w' := fun w => by
    have := ov_any b m a n w hb hm' ha hn'; rw [OV_symm, hr] at this; exact this
  skip
  have bx := small20 a; have by' := small20 b; have bn := small10 n; have bm := small10 m
  have C1 := Lib.hid c1; have C2 := Lib.hid c2; have BX := Lib.hid bx; have BY := Lib.hid by'; have BN := Lib.hid bn; have BM := Lib.hid bm
  clear c1 c2 ha hn' hb hm' hr bx by' bn bm
  go_enter Tryz.func3, Tryz.ntmps3
  go_wp2_with fail
  refine (C1.out _).mono ?_
  rintro e w1 ⟨rfl, hb1⟩
  have T1 := Lib.hid ((Two.start w _ _ _ _ _ _).keep hb1)
  have B1 := Lib.hid ((((Below.refl w.heap.size w).alloc (Nat.le_refl _) (.cells #[.int .i64 a, .int .i64 n] 23)).alloc (by simp) (.cells #[.int .i64 b, .int .i64 m] 23)).trans (hb1.mono (by simp; omega)))
  clear hb1
  obtain ⟨ta, tb, tc, td, tz⟩ := T1.out
  go_wp2_with fail
  refine (C2.out _).mono ?_
  rintro e w2 ⟨rfl, hb2⟩
  clear ta tb tc td
  have T2 := Lib.hid (T1.out.keep hb2)
  have B2 := Lib.hid (B1.out.trans (hb2.mono (by omega)))
  clear hb2 tz
  obtain ⟨ta, tb, tc, td, tz⟩ := T2.out
  go_wp2_with fail
  clear ta tb tc td
  have bx := BX.out; have by' := BY.out; have bn := BN.out; have bm := BM.out
  clear BX BY BN BM
  have hz2 := Lib.hid tz
  clear tz
  generalize a.tmod 20 = x at bx ⊢
  generalize b.tmod 20 = y at by' ⊢
  generalize n.tmod 10 = nn at bn ⊢
  generalize m.tmod 10 = mm at bm ⊢
  clear hn hab
  go_loop [9, 10] (fun c i => ∃ k : Nat, k ≤ nn.toNat ∧ i = .int .i64 (x + k) ∧ c = .bool (CM x y mm k))
      (fun _ i => (x + nn + 1 - intOf i).toNat)
  case atStart => exact ⟨0, Nat.zero_le _, by simp, rfl⟩
  case round =>
    obtain ⟨k, hk, rfl, rfl⟩ := hrel
    by_cases hlt : x + k < x + nn
    · by_cases h0 : CM x y mm k = true
      · rw [h0]
        have H0 := Lib.hid h0; clear h0
        go_wp2
        go_round
        case rel => exact ⟨k + 1, by omega, by rw [show x + ((k + 1 : Nat) : Int) = x + k + 1 by omega], by rw [CM, H0.out]; rfl⟩
        case measure => simp [intOf]; omega
      · have h0 : CM x y mm k = false := by simpa using h0
        rw [h0]
        have H0 := Lib.hid h0; clear h0
        by_cases h1 : y ≤ x + k
        · by_cases h2 : x + k < y + mm
          · go_wp2
            go_round
            case rel => exact ⟨k + 1, by omega, by rw [show x + ((k + 1 : Nat) : Int) = x + k + 1 by omega], by rw [CM, H0.out, decide_eq_true h1, decide_eq_true h2]; rfl⟩
            case measure => simp [intOf]; omega
          · go_wp2
            go_round
            case rel => exact ⟨k + 1, by omega, by rw [show x + ((k + 1 : Nat) : Int) = x + k + 1 by omega], by rw [CM, H0.out, decide_eq_true h1, decide_eq_false h2]; rfl⟩
            case measure => simp [intOf]; omega
        · go_wp2
          go_round
          case rel => exact ⟨k + 1, by omega, by rw [show x + ((k + 1 : Nat) : Int) = x + k + 1 by omega], by rw [CM, H0.out, decide_eq_false h1]; rfl⟩
          case measure => simp [intOf]; omega
    · obtain rfl : k = nn.toNat := by omega
      rw [CM_OV]
      have c3 := fun w => ov_any x nn y mm w (by unfold IR; omega) (by unfold IR; omega) (by unfold IR; omega) (by unfold IR; omega)
      generalize OV x nn y mm = r at c3 ⊢
      have C3 := Lib.hid c3
      clear c3
      have hz3 := Lib.hid ((((Below.refl w2.heap.size w2).alloc (Nat.le_refl _) (.cells #[.int .i64 x, .int .i64 nn] 23)).alloc (by simp) (.cells #[.int .i64 y, .int .i64 mm] 23)))
      cases r <;>
      (go_wp2_with fail
       refine (C3.out _).mono ?_
       rintro e w3 ⟨rfl, hb3⟩
       have B3 := Lib.hid ((B2.out.trans (hz3.out.mono (by have := B2.out.size; omega))).trans (hb3.mono (by have := B2.out.size; simp; omega)))
       clear hb3
       go_wp2_with fail
       refine (HL.out _ B3.out).mono ?_
       rintro e w4 ⟨rfl, hb4⟩
       have B4 := Lib.hid (B3.out.trans (hb4.mono B3.out.size))
       clear hb4
       go_wp2_with fail
       go_ret
       exact ⟨rfl, B4.out⟩)
end Go.Proofs.L11
