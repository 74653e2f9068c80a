/-
  C4: the law StoresChanged at two texts of one length: the walk.
-/
import Derived.Test.YtneaghddjbhbnaaGreatDoorCa
namespace Go.Proofs.L11
open Go Go.Proofs Go.RowKit Go.Proofs.Chg
set_option maxRecDepth 100000
theorem cl_get : ∀ (l : List (Nat × Nat)) (j s e : Nat), l[j]? = some (s, e) → (cl l)[j * 2]? = some (.int .i64 (s : Int)) ∧ (cl l)[j * 2 + 1]? = some (.int .i64 (e : Int))
  | [], j, s, e, h => by simp at h
  | p :: l, 0, s, e, h => by simp at h; subst h; simp [cl]
  | p :: l, j + 1, s, e, h => by
    have ih := cl_get l j s e (by simpa using h)
    have e1 : (j + 1) * 2 = j * 2 + 1 + 1 := by omega
    have e2 : cl (p :: l) = .int .i64 (p.1 : Int) :: .int .i64 (p.2 : Int) :: cl l := by simp [cl]
    rw [e2, e1]
    simpa using ih
theorem cell_lt {W : World} {g i : Nat} {v : Value} (h : W.cell? ⟨g, i, none⟩ = some v) : g < W.heap.size := by
  simp only [World.cell?] at h
  rcases Nat.lt_or_ge g W.heap.size with h' | h'
  · exact h'
  · rw [Array.getElem?_eq_none h'] at h; simp at h
set_option maxHeartbeats 4000000 in
theorem chl_eq (ba oa ca bb ob cb N : Nat) (A B : Nat → Int) (w : World) (hN : 0 < N) (hN3 : N ≤ 300) (hba : ba < w.heap.size) (hbb : bb < w.heap.size)
    (hA : ∀ k, k < N → w.cell? ⟨ba, oa + k, none⟩ = some (.int .u8 (A k))) (hB : ∀ k, k < N → w.cell? ⟨bb, ob + k, none⟩ = some (.int .u8 (B k)))
    (HL : Hid (∀ w', Below w.heap.size w w' → Calls Tryz.prog 7 #[] w' fun e w2 => e = .returned (.bool true) ∧ Below w'.heap.size w' w2)) :
    Calls Tryz.prog 4 #[.slice (some ⟨ba, oa, none⟩) N ca, .slice (some ⟨bb, ob, none⟩) N cb] w fun e w' => e = .returned (.bool true) ∧ Below w.heap.size w w' := by
  have C := Lib.hid (changed_any ba oa ca bb ob cb N A B w hN hN3 hba hbb hA hB)
  have HA := Lib.hid hA; have HB := Lib.hid hB
  clear hA hB
  go_enter Tryz.func4, Tryz.ntmps4
  go_wp2_with fail
  refine C.out.mono ?_
  rintro e w1 ⟨v, rfl, hb1, hv⟩
  have B1 := Lib.hid hb1
  have hsz1 := hb1.size
  clear hb1
  rcases hv with ⟨hr0, rfl⟩ | ⟨g, rfl, hg, hcl⟩
  · have HR0 := Lib.hid hr0
    clear hr0
    go_wp2
    go_loopw [7, 8] (fun kv iv wr => ∃ i : Nat, i ≤ N ∧ iv = .int .i64 i ∧ kv = .int .i64 ((R (Df A B) i).length : Nat) ∧ (i < N → Closed (Df A B) i) ∧ Below w1.heap.size w1 wr)
      (fun _ i _ => N - (intOf i).toNat)
    case atStart => exact ⟨0, Nat.zero_le _, rfl, rfl, fun _ => closed_zero, Below.refl _ _⟩
    case round =>
      obtain ⟨i, hi, rfl, rfl, hcls, hbl⟩ := hrel
      have BL := Lib.hid hbl
      clear hbl
      by_cases hlt : i < N
      · have CLS := Lib.hid (hcls hlt)
        clear hcls
        have hlti : (i : Int) < (N : Int) := by omega
        have hi300 : (R (Df A B) i).length ≤ 300 := by have := rv_len (D := Df A B) i; unfold R; simp; omega
        go_wp2
        obtain ⟨wo, rfl⟩ : ∃ wo : World, wo = wr := ⟨_, rfl⟩
        go_loopw [9] (fun nv wr2 => ∃ n : Nat, i + n ≤ N ∧ nv = .int .i64 n ∧ (∀ m, m < n → Df A B (i + m) = true) ∧ Below w1.heap.size w1 wr2)
          (fun nv _ => N - (intOf nv).toNat)
        case atStart => exact ⟨0, by omega, rfl, (fun m hm => absurd hm (Nat.not_lt_zero _)), BL.out⟩
        case round =>
          obtain ⟨n, hin, rfl, hrun, hbl2⟩ := hrel
          have RUN := Lib.hid hrun; have BL2 := Lib.hid hbl2
          by_cases hltn : i + n < N
          · have ha : wr.cell? ⟨ba, oa + (i + n), none⟩ = some (.int .u8 (A (i + n))) := (hbl2.cell (by show ba < _; omega)).trans ((B1.out.cell (by exact hba)).trans (HA.out (i + n) hltn))
            have hb : wr.cell? ⟨bb, ob + (i + n), none⟩ = some (.int .u8 (B (i + n))) := (hbl2.cell (by show bb < _; omega)).trans ((B1.out.cell (by exact hbb)).trans (HB.out (i + n) hltn))
            clear hrun hbl2
            have hl1 : decide ((i : Int) + (n : Int) < (N : Int)) = true := by simp; omega
            have hl2 : (i : Int) + (n : Int) < (N : Int) := by omega
            by_cases he : A (i + n) = B (i + n)
            · have heq : (A (i + n) == B (i + n)) = true := by simpa using he
              have heq2 : (A (i + n) != B (i + n)) = false := by simpa using he
              have hexit : i + n = N ∨ Df A B (i + n) = false := .inr (Df_eq he)
              have EX := Lib.hid hexit
              by_cases hn0 : 0 < n
              · exfalso
                obtain ⟨hget, _, _⟩ := R_run CLS.out hn0 hin RUN.out EX.out
                rw [HR0.out] at hget
                simp at hget
              · have hn0' : n = 0 := by omega
                have hDi : Df A B i = false := by
                  rcases EX.out with h | h
                  · omega
                  · rw [hn0'] at h; exact h
                have HD := Lib.hid hDi
                have HN0 := Lib.hid hn0'
                have hn1 : ¬ (0 : Int) < (n : Int) := by omega
                clear hn0' hDi hexit
                go_wp2_with fail
                go_quiet (fail)
                go_wp2
                go_roundw
                case rel => exact ⟨i + 1, by omega, by go_num, by rw [R_same HD.out], fun _ => closed_succ HD.out, below_drewN BL2.out _⟩
                case measure => simp [intOf]; omega
            · have heq : (A (i + n) == B (i + n)) = false := by simpa using he
              have heq2 : (A (i + n) != B (i + n)) = true := by simpa using he
              go_wp2_with fail
              go_quiet (fail)
              go_wp2
              go_roundw
              case rel => exact ⟨n + 1, by omega, by go_num, fun m hm => by
                rcases Nat.lt_or_ge m n with h | h
                · exact RUN.out m h
                · obtain rfl : m = n := by omega
                  exact Df_ne he, below_drewN BL2.out _⟩
              case measure => simp [intOf]; omega
          · clear hrun hbl2
            have hexit : i + n = N ∨ Df A B (i + n) = false := .inl (by omega)
            have hl1 : decide ((i : Int) + (n : Int) < (N : Int)) = false := by simp; omega
            have hl2 : ¬ (i : Int) + (n : Int) < (N : Int) := by omega
            have EX := Lib.hid hexit
            by_cases hn0 : 0 < n
            · exfalso
              obtain ⟨hget, _, _⟩ := R_run CLS.out hn0 hin RUN.out EX.out
              rw [HR0.out] at hget
              simp at hget
            · have hn0' : n = 0 := by omega
              have hDi : Df A B i = false := by
                rcases EX.out with h | h
                · omega
                · rw [hn0'] at h; exact h
              have HD := Lib.hid hDi
              have HN0 := Lib.hid hn0'
              have hn1 : ¬ (0 : Int) < (n : Int) := by omega
              clear hn0' hDi hexit
              go_wp2_with fail
              go_quiet (fail)
              go_wp2
              go_roundw
              case rel => exact ⟨i + 1, by omega, by go_num, by rw [R_same HD.out], fun _ => closed_succ HD.out, below_drewN BL2.out _⟩
              case measure => simp [intOf]; omega
      · obtain rfl : i = N := by omega
        clear hcls
        rw [HR0.out]
        go_wp2_with fail
        refine (HL.out _ (B1.out.trans (BL.out.mono hsz1))).mono ?_
        rintro e w4 ⟨rfl, hb4⟩
        have B4 := Lib.hid ((B1.out.trans (BL.out.mono hsz1)).trans (hb4.mono (by have := BL.out.size; omega)))
        clear hb4
        go_wp2_with fail
        go_ret
        exact ⟨rfl, B4.out⟩
  · have HCL := Lib.hid hcl
    clear hcl
    have hRl : (R (Df A B) N).length ≤ 300 := by have := rv_len (D := Df A B) N; unfold R; simp; omega
    obtain ⟨L, hL⟩ : ∃ L, L = (R (Df A B) N).length := ⟨_, rfl⟩
    rw [← hL] at hRl ⊢
    have HLn := Lib.hid hL
    clear hL
    go_wp2
    go_loopw [7, 8] (fun kv iv wr => ∃ i : Nat, i ≤ N ∧ iv = .int .i64 i ∧ kv = .int .i64 ((R (Df A B) i).length : Nat) ∧ (i < N → Closed (Df A B) i) ∧ Below w1.heap.size w1 wr)
      (fun _ i _ => N - (intOf i).toNat)
    case atStart => exact ⟨0, Nat.zero_le _, rfl, rfl, fun _ => closed_zero, Below.refl _ _⟩
    case round =>
      obtain ⟨i, hi, rfl, rfl, hcls, hbl⟩ := hrel
      have BL := Lib.hid hbl
      clear hbl
      by_cases hlt : i < N
      · have CLS := Lib.hid (hcls hlt)
        clear hcls
        have hlti : (i : Int) < (N : Int) := by omega
        have hi300 : (R (Df A B) i).length ≤ 300 := by have := rv_len (D := Df A B) i; unfold R; simp; omega
        go_wp2
        obtain ⟨wo, rfl⟩ : ∃ wo : World, wo = wr := ⟨_, rfl⟩
        go_loopw [9] (fun nv wr2 => ∃ n : Nat, i + n ≤ N ∧ nv = .int .i64 n ∧ (∀ m, m < n → Df A B (i + m) = true) ∧ Below w1.heap.size w1 wr2)
          (fun nv _ => N - (intOf nv).toNat)
        case atStart => exact ⟨0, by omega, rfl, (fun m hm => absurd hm (Nat.not_lt_zero _)), BL.out⟩
        case round =>
          obtain ⟨n, hin, rfl, hrun, hbl2⟩ := hrel
          have RUN := Lib.hid hrun; have BL2 := Lib.hid hbl2
          by_cases hltn : i + n < N
          · have ha : wr.cell? ⟨ba, oa + (i + n), none⟩ = some (.int .u8 (A (i + n))) := (hbl2.cell (by show ba < _; omega)).trans ((B1.out.cell (by exact hba)).trans (HA.out (i + n) hltn))
            have hb : wr.cell? ⟨bb, ob + (i + n), none⟩ = some (.int .u8 (B (i + n))) := (hbl2.cell (by show bb < _; omega)).trans ((B1.out.cell (by exact hbb)).trans (HB.out (i + n) hltn))
            clear hrun hbl2
            have hl1 : decide ((i : Int) + (n : Int) < (N : Int)) = true := by simp; omega
            have hl2 : (i : Int) + (n : Int) < (N : Int) := by omega
            by_cases he : A (i + n) = B (i + n)
            · have heq : (A (i + n) == B (i + n)) = true := by simpa using he
              have heq2 : (A (i + n) != B (i + n)) = false := by simpa using he
              have hexit : i + n = N ∨ Df A B (i + n) = false := .inr (Df_eq he)
              have EX := Lib.hid hexit
              by_cases hn0 : 0 < n
              · obtain ⟨hget, hlen, hclo⟩ := R_run CLS.out hn0 hin RUN.out EX.out
                have hkL : (R (Df A B) i).length < L := by rw [HLn.out]; exact (List.getElem?_eq_some_iff.1 hget).1
                obtain ⟨c0, c1⟩ := cl_get _ _ _ _ hget
                have d0 := HCL.out _ _ c0
                have d1 := HCL.out _ _ c1
                have hgz := cell_lt d0
                have hc0 : wr.cell? ⟨g, (R (Df A B) i).length * 2, none⟩ = some (.int .i64 (i : Int)) := (BL2.out.cell (by exact hgz)).trans d0
                have hc1 : wr.cell? ⟨g, (R (Df A B) i).length * 2 + 1, none⟩ = some (.int .i64 (n : Int)) := (BL2.out.cell (by exact hgz)).trans d1
                have HLEN := Lib.hid hlen; have HCLO := Lib.hid hclo
                clear hget hlen hclo c0 c1 d0 d1 hgz hexit
                have hkk : ∃ kk, kk = (R (Df A B) i).length := ⟨_, rfl⟩
                obtain ⟨kk, hkk⟩ := hkk
                rw [← hkk] at hkL hc0 hc1 hi300 HLEN ⊢
                have HKK := Lib.hid hkk
                clear hkk
                have hkL2 : (kk : Int) < (L : Int) := by omega
                have hn1 : (0 : Int) < (n : Int) := by omega
                go_wp2_with fail
                go_quiet (fail)
                go_wp2
                go_roundw
                case rel =>
                  refine ⟨i + n, by omega, by go_num, by rw [HLEN.out]; go_num, fun h => HCLO.out ?_, below_drewN BL2.out _⟩
                  rcases EX.out with h2 | h2
                  · omega
                  · exact h2
                case measure => simp [intOf]; omega
              · have hn0' : n = 0 := by omega
                have hDi : Df A B i = false := by
                  rcases EX.out with h | h
                  · omega
                  · rw [hn0'] at h; exact h
                have HD := Lib.hid hDi
                have HN0 := Lib.hid hn0'
                have hn1 : ¬ (0 : Int) < (n : Int) := by omega
                clear hn0' hDi hexit
                go_wp2_with fail
                go_quiet (fail)
                go_wp2
                go_roundw
                case rel => exact ⟨i + 1, by omega, by go_num, by rw [R_same HD.out], fun _ => closed_succ HD.out, below_drewN BL2.out _⟩
                case measure => simp [intOf]; omega
            · have heq : (A (i + n) == B (i + n)) = false := by simpa using he
              have heq2 : (A (i + n) != B (i + n)) = true := by simpa using he
              go_wp2_with fail
              go_quiet (fail)
              go_wp2
              go_roundw
              case rel => exact ⟨n + 1, by omega, by go_num, fun m hm => by
                rcases Nat.lt_or_ge m n with h | h
                · exact RUN.out m h
                · obtain rfl : m = n := by omega
                  exact Df_ne he, below_drewN BL2.out _⟩
              case measure => simp [intOf]; omega
          · clear hrun hbl2
            have hexit : i + n = N ∨ Df A B (i + n) = false := .inl (by omega)
            have hl1 : decide ((i : Int) + (n : Int) < (N : Int)) = false := by simp; omega
            have hl2 : ¬ (i : Int) + (n : Int) < (N : Int) := by omega
            have EX := Lib.hid hexit
            by_cases hn0 : 0 < n
            · obtain ⟨hget, hlen, hclo⟩ := R_run CLS.out hn0 hin RUN.out EX.out
              have hkL : (R (Df A B) i).length < L := by rw [HLn.out]; exact (List.getElem?_eq_some_iff.1 hget).1
              obtain ⟨c0, c1⟩ := cl_get _ _ _ _ hget
              have d0 := HCL.out _ _ c0
              have d1 := HCL.out _ _ c1
              have hgz := cell_lt d0
              have hc0 : wr.cell? ⟨g, (R (Df A B) i).length * 2, none⟩ = some (.int .i64 (i : Int)) := (BL2.out.cell (by exact hgz)).trans d0
              have hc1 : wr.cell? ⟨g, (R (Df A B) i).length * 2 + 1, none⟩ = some (.int .i64 (n : Int)) := (BL2.out.cell (by exact hgz)).trans d1
              have HLEN := Lib.hid hlen; have HCLO := Lib.hid hclo
              clear hget hlen hclo c0 c1 d0 d1 hgz hexit
              have hkk : ∃ kk, kk = (R (Df A B) i).length := ⟨_, rfl⟩
              obtain ⟨kk, hkk⟩ := hkk
              rw [← hkk] at hkL hc0 hc1 hi300 HLEN ⊢
              have HKK := Lib.hid hkk
              clear hkk
              have hkL2 : (kk : Int) < (L : Int) := by omega
              have hn1 : (0 : Int) < (n : Int) := by omega
              go_wp2_with fail
              go_quiet (fail)
              go_wp2
              go_roundw
              case rel =>
                refine ⟨i + n, by omega, by go_num, by rw [HLEN.out]; go_num, fun h => HCLO.out ?_, below_drewN BL2.out _⟩
                rcases EX.out with h2 | h2
                · omega
                · exact h2
              case measure => simp [intOf]; omega
            · have hn0' : n = 0 := by omega
              have hDi : Df A B i = false := by
                rcases EX.out with h | h
                · omega
                · rw [hn0'] at h; exact h
              have HD := Lib.hid hDi
              have HN0 := Lib.hid hn0'
              have hn1 : ¬ (0 : Int) < (n : Int) := by omega
              clear hn0' hDi hexit
              go_wp2_with fail
              go_quiet (fail)
              go_wp2
              go_roundw
              case rel => exact ⟨i + 1, by omega, by go_num, by rw [R_same HD.out], fun _ => closed_succ HD.out, below_drewN BL2.out _⟩
              case measure => simp [intOf]; omega
      · obtain rfl : i = N := by omega
        clear hcls
        rw [← HLn.out]
        go_wp2_with fail
        refine (HL.out _ (B1.out.trans (BL.out.mono hsz1))).mono ?_
        rintro e w4 ⟨rfl, hb4⟩
        have B4 := Lib.hid ((B1.out.trans (BL.out.mono hsz1)).trans (hb4.mono (by have := BL.out.size; omega)))
        clear hb4
        go_wp2_with fail
        go_ret
        exact ⟨rfl, B4.out⟩
end Go.Proofs.L11
