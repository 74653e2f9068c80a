/-
  S3: the law StoresPut: too long; places that are not possible.
-/
import Derived.Test.YtneaghddjbhbnaaGreatDoorSa
import Derived.Test.YtneaghddjbhbnaaGreatDoorCa
namespace Go.Proofs.L11
open Go Go.Proofs Go.RowKit Go.Proofs.Chg
set_option maxRecDepth 100000
theorem Bs.drewN {w : World} {a : Option Addr} {A : List Int} (h : Bs w a A) (n : Nat) : Bs (w.drewN n) a A := h
def Liv (w : World) : Prop := ∀ w', Below w.heap.size w w' → Calls Tryz.prog 7 #[] w' fun e w2 => e = .returned (.bool true) ∧ Below w'.heap.size w' w2
theorem put_big1 (a b : Option Addr) (N c M d : Nat) (p l : Int) (w : World) (hN : 300 < N) (hN2 : N ≤ 9223372036854775807) (hl : Liv w) :
    Calls Tryz.prog 5 #[.slice a N c, .agg #[.int .i64 p, .int .i64 l], .slice b M d] w fun e w' => e = .returned (.bool true) ∧ Below w.heap.size w w' := by
  have B0 := Lib.hid (fun o1 => (Below.refl w.heap.size w).alloc (Nat.le_refl _) o1)
  have HL := Lib.hid hl
  clear hl
  go_enter Tryz.func5, Tryz.ntmps5
  go_wp2_with fail
  refine (HL.out _ (B0.out _)).mono ?_
  rintro e w1 ⟨rfl, hb1⟩
  have B1 := Lib.hid ((B0.out _).trans (hb1.mono (by simp)))
  clear hb1
  go_wp2_with fail
  go_ret
  exact ⟨rfl, B1.out⟩
theorem put_big2 (a b : Option Addr) (N c M d : Nat) (p l : Int) (w : World) (hN : N ≤ 300) (hN2 : 300 < M) (hM : M ≤ 9223372036854775807) (hl : Liv w) :
    Calls Tryz.prog 5 #[.slice a N c, .agg #[.int .i64 p, .int .i64 l], .slice b M d] w fun e w' => e = .returned (.bool true) ∧ Below w.heap.size w w' := by
  have B0 := Lib.hid (fun o1 => (Below.refl w.heap.size w).alloc (Nat.le_refl _) o1)
  have HL := Lib.hid hl
  clear hl
  go_enter Tryz.func5, Tryz.ntmps5
  go_wp2_with fail
  refine (HL.out _ (B0.out _)).mono ?_
  rintro e w1 ⟨rfl, hb1⟩
  have B1 := Lib.hid ((B0.out _).trans (hb1.mono (by simp)))
  clear hb1
  go_wp2_with fail
  go_ret
  exact ⟨rfl, B1.out⟩
theorem get_bad' (a : Option Addr) (N c : Nat) (p l : Int) (w : World) (hN : N ≤ 300) (hp : IR p) (hl : IR l) (h : wi N p l ≠ 0) :
    Calls Tryz.prog 9 #[.slice a N c, .agg #[.int .i64 p, .int .i64 l]] w fun e w' => e = .returned (.tuple #[.slice none 0 0, .int .i64 (wi N p l)]) ∧ Below w.heap.size w w' := get_bad a N c p l w (by omega) hp hl _ h rfl
theorem cells2d {w w1 : World} {p l : Int} {q : Nat} (hb1 : Below ((w.alloc (.cells #[.int .i64 p, .int .i64 l] 23)).drewN q).heap.size ((w.alloc (.cells #[.int .i64 p, .int .i64 l] 23)).drewN q) w1) :
    w1.cell? ⟨w.heap.size, 0, none⟩ = some (.int .i64 p) ∧ w1.cell? ⟨w.heap.size, 1, none⟩ = some (.int .i64 l) := by
  have e := cells2 (w := w) (p := p) (l := l) (Below.refl _ _)
  exact ⟨(hb1.cell (by simp)).trans e.1, (hb1.cell (by simp)).trans e.2⟩
theorem put_err1 (a b : Option Addr) (c d : Nat) (A L : List Int) (p l : Int) (w : World) (hN : A.length ≤ 300) (hM : L.length ≤ 300) (hp : IR p) (hl : IR l) (h1 : p < 0) (hSA : Bs w a A) (hSL : Bs w b L) (hL : Liv w) :
    Calls Tryz.prog 5 #[.slice a A.length c, .agg #[.int .i64 p, .int .i64 l], .slice b L.length d] w fun e w' => e = .returned (.bool true) ∧ Below w.heap.size w w' := by
  have e1 : wi A.length p l = 1 := by unfold wi; rw [if_pos (.inl h1)]
  have B0 := Lib.hid (fun o1 => (Below.refl w.heap.size w).alloc (Nat.le_refl _) o1)
  have HL := Lib.hid hL
  have CA := Lib.hid (fun w' (h : Below w.heap.size w w') => conv_str w' a A c (hSA.keep h))
  have CB := Lib.hid (fun w' (h : Below w.heap.size w w') => conv_str w' b L d (hSL.keep h))
  obtain ⟨S0, hS0⟩ : ∃ S0, S0 = str A := ⟨_, rfl⟩
  obtain ⟨S1, hS1⟩ : ∃ S1, S1 = str L := ⟨_, rfl⟩
  rw [← hS0] at CA
  rw [← hS1] at CB
  have CG := Lib.hid (fun w => get_bad a A.length c p l w (by omega) hp hl 1 (by decide) e1)
  have CP := Lib.hid (fun w => put_bad1 a b A.length c L.length d p l w (by omega) hp hl 1 (by decide) e1)
  clear hS0 hS1 hSA hSL hL e1
  generalize A.length = N at *
  generalize L.length = M at *
  have c0 : ∀ q, (convert 27 9 (.slice a N c)).run Tryz.prog ((w.alloc (.cells #[.int .i64 p, .int .i64 l] 23)).drewN q) = .ok (.string S0) ((w.alloc (.cells #[.int .i64 p, .int .i64 l] 23)).drewN q) := fun q => CA.out _ (below_drewN (B0.out _) q)
  have c1 : ∀ q, (convert 27 9 (.slice b M d)).run Tryz.prog ((w.alloc (.cells #[.int .i64 p, .int .i64 l] 23)).drewN q) = .ok (.string S1) ((w.alloc (.cells #[.int .i64 p, .int .i64 l] 23)).drewN q) := fun q => CB.out _ (below_drewN (B0.out _) q)
  have c0' := c0 0
  have c1' := c1 0
  go_enter Tryz.func5, Tryz.ntmps5
  go_wp2_with fail
  go_quiet (fail)
  go_wp2_with fail
  refine (CG.out _).mono ?_
  rintro e w1 ⟨rfl, hb1⟩
  obtain ⟨k0, k1⟩ := cells2d hb1
  have B1 := Lib.hid ((below_drewN (B0.out _) _).trans (hb1.mono (by simp)))
  clear hb1 c0 c1 c0' c1'
  have hlt : w.heap.size < w1.heap.size := cell_lt k0
  go_wp2_with fail
  go_quiet (fail)
  go_wp2_with fail
  refine (CP.out _).mono ?_
  rintro e w2 ⟨rfl, hb2⟩
  have B2 := Lib.hid ((below_drewN B1.out _).trans (hb2.mono (Nat.le_of_lt hlt)))
  have c2 := CA.out _ B2.out
  have c3 := CB.out _ B2.out
  go_wp2_with fail
  refine (HL.out _ B2.out).mono ?_
  rintro e w3 ⟨rfl, hb3⟩
  have B3 := Lib.hid (B2.out.trans (hb3.mono B2.out.size))
  clear hb3
  go_wp2_with fail
  go_ret
  exact ⟨rfl, B3.out⟩
theorem put_err2 (a b : Option Addr) (c d : Nat) (A L : List Int) (p l : Int) (w : World) (hN : A.length ≤ 300) (hM : L.length ≤ 300) (hp : IR p) (hl : IR l) (h0 : ¬ p < 0) (h1 : l < 0) (hSA : Bs w a A) (hSL : Bs w b L) (hL : Liv w) :
    Calls Tryz.prog 5 #[.slice a A.length c, .agg #[.int .i64 p, .int .i64 l], .slice b L.length d] w fun e w' => e = .returned (.bool true) ∧ Below w.heap.size w w' := by
  have e1 : wi A.length p l = 1 := by unfold wi; rw [if_pos (.inr h1)]
  have B0 := Lib.hid (fun o1 => (Below.refl w.heap.size w).alloc (Nat.le_refl _) o1)
  have HL := Lib.hid hL
  have CA := Lib.hid (fun w' (h : Below w.heap.size w w') => conv_str w' a A c (hSA.keep h))
  have CB := Lib.hid (fun w' (h : Below w.heap.size w w') => conv_str w' b L d (hSL.keep h))
  obtain ⟨S0, hS0⟩ : ∃ S0, S0 = str A := ⟨_, rfl⟩
  obtain ⟨S1, hS1⟩ : ∃ S1, S1 = str L := ⟨_, rfl⟩
  rw [← hS0] at CA
  rw [← hS1] at CB
  have CG := Lib.hid (fun w => get_bad a A.length c p l w (by omega) hp hl 1 (by decide) e1)
  have CP := Lib.hid (fun w => put_bad1 a b A.length c L.length d p l w (by omega) hp hl 1 (by decide) e1)
  clear hS0 hS1 hSA hSL hL e1
  generalize A.length = N at *
  generalize L.length = M at *
  have c0 : ∀ q, (convert 27 9 (.slice a N c)).run Tryz.prog ((w.alloc (.cells #[.int .i64 p, .int .i64 l] 23)).drewN q) = .ok (.string S0) ((w.alloc (.cells #[.int .i64 p, .int .i64 l] 23)).drewN q) := fun q => CA.out _ (below_drewN (B0.out _) q)
  have c1 : ∀ q, (convert 27 9 (.slice b M d)).run Tryz.prog ((w.alloc (.cells #[.int .i64 p, .int .i64 l] 23)).drewN q) = .ok (.string S1) ((w.alloc (.cells #[.int .i64 p, .int .i64 l] 23)).drewN q) := fun q => CB.out _ (below_drewN (B0.out _) q)
  have c0' := c0 0
  have c1' := c1 0
  go_enter Tryz.func5, Tryz.ntmps5
  go_wp2_with fail
  go_quiet (fail)
  go_wp2_with fail
  refine (CG.out _).mono ?_
  rintro e w1 ⟨rfl, hb1⟩
  obtain ⟨k0, k1⟩ := cells2d hb1
  have B1 := Lib.hid ((below_drewN (B0.out _) _).trans (hb1.mono (by simp)))
  clear hb1 c0 c1 c0' c1'
  have hlt : w.heap.size < w1.heap.size := cell_lt k0
  go_wp2_with fail
  go_quiet (fail)
  go_wp2_with fail
  refine (CP.out _).mono ?_
  rintro e w2 ⟨rfl, hb2⟩
  have B2 := Lib.hid ((below_drewN B1.out _).trans (hb2.mono (Nat.le_of_lt hlt)))
  have c2 := CA.out _ B2.out
  have c3 := CB.out _ B2.out
  go_wp2_with fail
  refine (HL.out _ B2.out).mono ?_
  rintro e w3 ⟨rfl, hb3⟩
  have B3 := Lib.hid (B2.out.trans (hb3.mono B2.out.size))
  clear hb3
  go_wp2_with fail
  go_ret
  exact ⟨rfl, B3.out⟩
theorem put_err3 (a b : Option Addr) (c d : Nat) (A L : List Int) (p l : Int) (w : World) (hN : A.length ≤ 300) (hM : L.length ≤ 300) (hp : IR p) (hl : IR l) (h0 : ¬ p < 0) (h0' : ¬ l < 0) (h1 : (A.length : Int) < p) (hSA : Bs w a A) (hSL : Bs w b L) (hL : Liv w) :
    Calls Tryz.prog 5 #[.slice a A.length c, .agg #[.int .i64 p, .int .i64 l], .slice b L.length d] w fun e w' => e = .returned (.bool true) ∧ Below w.heap.size w w' := by
  have e1 : wi A.length p l = 5 := by unfold wi; rw [if_neg (by omega), if_pos (.inl h1)]
  have B0 := Lib.hid (fun o1 => (Below.refl w.heap.size w).alloc (Nat.le_refl _) o1)
  have HL := Lib.hid hL
  have CA := Lib.hid (fun w' (h : Below w.heap.size w w') => conv_str w' a A c (hSA.keep h))
  have CB := Lib.hid (fun w' (h : Below w.heap.size w w') => conv_str w' b L d (hSL.keep h))
  obtain ⟨S0, hS0⟩ : ∃ S0, S0 = str A := ⟨_, rfl⟩
  obtain ⟨S1, hS1⟩ : ∃ S1, S1 = str L := ⟨_, rfl⟩
  rw [← hS0] at CA
  rw [← hS1] at CB
  have CG := Lib.hid (fun w => get_bad a A.length c p l w (by omega) hp hl 5 (by decide) e1)
  have CP := Lib.hid (fun w => put_bad1 a b A.length c L.length d p l w (by omega) hp hl 5 (by decide) e1)
  clear hS0 hS1 hSA hSL hL e1
  generalize A.length = N at *
  generalize L.length = M at *
  have c0 : ∀ q, (convert 27 9 (.slice a N c)).run Tryz.prog ((w.alloc (.cells #[.int .i64 p, .int .i64 l] 23)).drewN q) = .ok (.string S0) ((w.alloc (.cells #[.int .i64 p, .int .i64 l] 23)).drewN q) := fun q => CA.out _ (below_drewN (B0.out _) q)
  have c1 : ∀ q, (convert 27 9 (.slice b M d)).run Tryz.prog ((w.alloc (.cells #[.int .i64 p, .int .i64 l] 23)).drewN q) = .ok (.string S1) ((w.alloc (.cells #[.int .i64 p, .int .i64 l] 23)).drewN q) := fun q => CB.out _ (below_drewN (B0.out _) q)
  have c0' := c0 0
  have c1' := c1 0
  go_enter Tryz.func5, Tryz.ntmps5
  go_wp2_with fail
  go_quiet (fail)
  go_wp2_with fail
  refine (CG.out _).mono ?_
  rintro e w1 ⟨rfl, hb1⟩
  obtain ⟨k0, k1⟩ := cells2d hb1
  have B1 := Lib.hid ((below_drewN (B0.out _) _).trans (hb1.mono (by simp)))
  clear hb1 c0 c1 c0' c1'
  have hlt : w.heap.size < w1.heap.size := cell_lt k0
  go_wp2_with fail
  go_quiet (fail)
  go_wp2_with fail
  refine (CP.out _).mono ?_
  rintro e w2 ⟨rfl, hb2⟩
  have B2 := Lib.hid ((below_drewN B1.out _).trans (hb2.mono (Nat.le_of_lt hlt)))
  have c2 := CA.out _ B2.out
  have c3 := CB.out _ B2.out
  go_wp2_with fail
  refine (HL.out _ B2.out).mono ?_
  rintro e w3 ⟨rfl, hb3⟩
  have B3 := Lib.hid (B2.out.trans (hb3.mono B2.out.size))
  clear hb3
  go_wp2_with fail
  go_ret
  exact ⟨rfl, B3.out⟩
theorem put_err4 (a b : Option Addr) (c d : Nat) (A L : List Int) (p l : Int) (w : World) (hN : A.length ≤ 300) (hM : L.length ≤ 300) (hp : IR p) (hl : IR l) (h0 : ¬ p < 0) (h0' : ¬ l < 0) (h0'' : ¬ (A.length : Int) < p) (h1 : (A.length : Int) - p < l) (hSA : Bs w a A) (hSL : Bs w b L) (hL : Liv w) :
    Calls Tryz.prog 5 #[.slice a A.length c, .agg #[.int .i64 p, .int .i64 l], .slice b L.length d] w fun e w' => e = .returned (.bool true) ∧ Below w.heap.size w w' := by
  have e1 : wi A.length p l = 5 := by unfold wi; rw [if_neg (by omega), if_pos (.inr h1)]
  have B0 := Lib.hid (fun o1 => (Below.refl w.heap.size w).alloc (Nat.le_refl _) o1)
  have HL := Lib.hid hL
  have CA := Lib.hid (fun w' (h : Below w.heap.size w w') => conv_str w' a A c (hSA.keep h))
  have CB := Lib.hid (fun w' (h : Below w.heap.size w w') => conv_str w' b L d (hSL.keep h))
  obtain ⟨S0, hS0⟩ : ∃ S0, S0 = str A := ⟨_, rfl⟩
  obtain ⟨S1, hS1⟩ : ∃ S1, S1 = str L := ⟨_, rfl⟩
  rw [← hS0] at CA
  rw [← hS1] at CB
  have CG := Lib.hid (fun w => get_bad a A.length c p l w (by omega) hp hl 5 (by decide) e1)
  have CP := Lib.hid (fun w => put_bad1 a b A.length c L.length d p l w (by omega) hp hl 5 (by decide) e1)
  clear hS0 hS1 hSA hSL hL e1
  generalize A.length = N at *
  generalize L.length = M at *
  have c0 : ∀ q, (convert 27 9 (.slice a N c)).run Tryz.prog ((w.alloc (.cells #[.int .i64 p, .int .i64 l] 23)).drewN q) = .ok (.string S0) ((w.alloc (.cells #[.int .i64 p, .int .i64 l] 23)).drewN q) := fun q => CA.out _ (below_drewN (B0.out _) q)
  have c1 : ∀ q, (convert 27 9 (.slice b M d)).run Tryz.prog ((w.alloc (.cells #[.int .i64 p, .int .i64 l] 23)).drewN q) = .ok (.string S1) ((w.alloc (.cells #[.int .i64 p, .int .i64 l] 23)).drewN q) := fun q => CB.out _ (below_drewN (B0.out _) q)
  have c0' := c0 0
  have c1' := c1 0
  go_enter Tryz.func5, Tryz.ntmps5
  go_wp2_with fail
  go_quiet (fail)
  go_wp2_with fail
  refine (CG.out _).mono ?_
  rintro e w1 ⟨rfl, hb1⟩
  obtain ⟨k0, k1⟩ := cells2d hb1
  have B1 := Lib.hid ((below_drewN (B0.out _) _).trans (hb1.mono (by simp)))
  clear hb1 c0 c1 c0' c1'
  have hlt : w.heap.size < w1.heap.size := cell_lt k0
  go_wp2_with fail
  go_quiet (fail)
  go_wp2_with fail
  refine (CP.out _).mono ?_
  rintro e w2 ⟨rfl, hb2⟩
  have B2 := Lib.hid ((below_drewN B1.out _).trans (hb2.mono (Nat.le_of_lt hlt)))
  have c2 := CA.out _ B2.out
  have c3 := CB.out _ B2.out
  go_wp2_with fail
  refine (HL.out _ B2.out).mono ?_
  rintro e w3 ⟨rfl, hb3⟩
  have B3 := Lib.hid (B2.out.trans (hb3.mono B2.out.size))
  clear hb3
  go_wp2_with fail
  go_ret
  exact ⟨rfl, B3.out⟩
end Go.Proofs.L11
