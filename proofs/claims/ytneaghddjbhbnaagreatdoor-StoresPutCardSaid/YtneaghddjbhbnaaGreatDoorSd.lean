/-
  S6: the law StoresPut: what is put.
-/
import Derived.Test.YtneaghddjbhbnaaGreatDoorSc
namespace Go.Proofs.L11
open Go Go.Proofs Go.RowKit Go.Proofs.Chg
set_option maxRecDepth 100000
set_option maxHeartbeats 8000000 in
theorem put_good (a b : Option Addr) (c d p : Nat) (A L : List Int) (w : World) (hN : A.length ≤ 300) (hpl : p + L.length ≤ A.length) (hAc : A.length ≤ c) (hc2 : c ≤ 9223372036854775807)
    (ha : a = none → A.length = 0 ∧ c = 0) (hb : b ≠ none ∨ d = 0) (hSA : Bs w a A) (hSL : Bs w b L) (hL : Liv w) :
    Calls Tryz.prog 5 #[.slice a A.length c, .agg #[.int .i64 (p : Int), .int .i64 (L.length : Int)], .slice b L.length d] w fun e w' => e = .returned (.bool true) ∧ Below w.heap.size w w' := by
  have B0 := Lib.hid (fun o1 => (Below.refl w.heap.size w).alloc (Nat.le_refl _) o1)
  have HL := Lib.hid hL
  have CA := Lib.hid (fun w' (h : Below w.heap.size w w') => conv_str w' a A c (hSA.keep h))
  have CB := Lib.hid (fun w' (h : Below w.heap.size w w') => conv_str w' b L d (hSL.keep h))
  have CG := Lib.hid (fun w' (h : Below w.heap.size w w') => get_ok a c p L.length A w' hN hpl hAc hc2 ha (hSA.keep h))
  have CP := Lib.hid (fun w' (h : Below w.heap.size w w') => put_ok a b c d p A L w' hN hpl hb (hSA.keep h) (hSL.keep h))
  obtain ⟨G, hG⟩ : ∃ G, G = putB A L p := ⟨_, rfl⟩
  have hGl : G.length = A.length := by rw [hG]; exact putB_len hpl
  have hGs : sub G p L.length = L := by rw [hG]; exact putB_sub hpl
  have hGx : (str A).extract 0 p ++ str L ++ (str A).extract (p + L.length) A.length = str G := by rw [hG]; exact putB_str hpl
  have CP2 : Hid (∀ (w' : World) (g : Nat), w'.heap[g]? = some (.cells ((A.take p ++ L ++ A.drop (p + L.length)).map (Value.int .u8)).toArray 5 (0, 0)) → w'.heap[g]? = some (.cells (G.map (Value.int .u8)).toArray 5 (0, 0))) := Lib.hid (fun w' g h => by rw [hG]; exact h)
  have CG2 := Lib.hid (fun (w' : World) (g : Nat) (h : Bs w' (some ⟨g, 0, none⟩) G) => by
    have := get_ok (some ⟨g, 0, none⟩) A.length p L.length G w' (by omega) (by omega) (by omega) (by omega) (fun h => by cases h) h
    rw [hGs, hGl] at this; exact this)
  have CC := Lib.hid (fun (w' : World) (g : Nat) (h : Below w.heap.size w w') (hb : Bs w' (some ⟨g, 0, none⟩) G) => changed_ok a g c p L.length A G w' hGl hN (hSA.keep h) hb (fun k hk => by rw [hG]; exact putB_get hpl hk))
  have CO := Lib.hid (fun (w' : World) x (h : Bs w' x (sub A p L.length)) => by have := conv_str w' x (sub A p L.length) L.length h; rw [sub_len hpl] at this; exact this)
  have CL := Lib.hid (fun (w' : World) x (h : Bs w' x L) => conv_str w' x L L.length h)
  have CR := Lib.hid (fun (w' : World) g (h : Bs w' (some ⟨g, 0, none⟩) G) => by have := conv_str w' (some ⟨g, 0, none⟩) G A.length h; rw [hGl] at this; exact this)
  have RO := Lib.hid (fun (w' : World) (g B : Nat) (hB : B ≤ g) (h : w'.heap[g]? = some (.cells (G.map (Value.int .u8)).toArray 5 (0, 0))) => by have := row_own hB (by omega) h; rw [hGl] at this; exact this)
  have GI : Hid (∀ j, j < A.length → ∃ z, (G.map (Value.int .u8))[j]? = some (.int .u8 z)) := Lib.hid (fun j hj => by rw [List.getElem?_map, List.getElem?_eq_getElem (by omega)]; exact ⟨_, rfl⟩)
  have hex := str_extract A p (p + L.length)
  rw [Nat.add_sub_cancel_left] at hex
  have hsz := str_size A
  have hsz1 := str_size L
  obtain ⟨S2, hS2⟩ : ∃ S2, S2 = str (sub A p L.length) := ⟨_, rfl⟩
  rw [← hS2] at CO hex
  obtain ⟨S0, hS0⟩ : ∃ S0, S0 = str A := ⟨_, rfl⟩
  obtain ⟨S1, hS1⟩ : ∃ S1, S1 = str L := ⟨_, rfl⟩
  obtain ⟨S3, hS3⟩ : ∃ S3, S3 = str G := ⟨_, rfl⟩
  rw [← hS0] at CA hex hsz hGx
  rw [← hS1] at CB CL hsz1 hGx
  rw [← hS3] at CR hGx
  obtain ⟨GV, hGV⟩ : ∃ GV, GV = G.map (Value.int .u8) := ⟨_, rfl⟩
  rw [← hGV] at RO GI CP2
  have hBG : ∀ (w' : World) (g : Nat), w'.heap[g]? = some (.cells GV.toArray 5 (0, 0)) → Bs w' (some ⟨g, 0, none⟩) G := fun w' g h => row_bs (by rw [← hGV]; exact h)
  have BG := Lib.hid hBG
  clear hS0 hS1 hSA hSL hL hS2 ha hb hG hGl hGs hS3 hGV hBG
  obtain ⟨T, hT⟩ : ∃ T, T = sub A p L.length := ⟨_, rfl⟩
  rw [← hT] at CO CG
  clear hT
  generalize A.length = N at *
  generalize L.length = M at *
  have c0 : ∀ q, (convert 27 9 (.slice a N c)).run Tryz.prog ((w.alloc (.cells #[.int .i64 (p : Int), .int .i64 (M : Int)] 23)).drewN q) = .ok (.string S0) ((w.alloc (.cells #[.int .i64 (p : Int), .int .i64 (M : Int)] 23)).drewN q) := fun q => CA.out _ (below_drewN (B0.out _) q)
  have c1 : ∀ q, (convert 27 9 (.slice b M d)).run Tryz.prog ((w.alloc (.cells #[.int .i64 (p : Int), .int .i64 (M : Int)] 23)).drewN q) = .ok (.string S1) ((w.alloc (.cells #[.int .i64 (p : Int), .int .i64 (M : Int)] 23)).drewN q) := fun q => CB.out _ (below_drewN (B0.out _) q)
  have c0' := c0 0
  have c1' := c1 0
  have HX := Lib.hid hGx
  clear hGx
  go_enter Tryz.func5, Tryz.ntmps5
  go_wp2_with fail
  go_quiet (fail)
  go_wp2_with fail
  refine (CG.out _ (below_drewN (B0.out _) _)).mono ?_
  rintro e w1 ⟨x, rfl, hb1, hx⟩
  obtain ⟨k0, k1⟩ := cells2d hb1
  have B1 := Lib.hid ((below_drewN (B0.out _) _).trans (hb1.mono (by simp)))
  clear hb1 c0 c1 c0' c1'
  have hlt : w.heap.size < w1.heap.size := cell_lt k0
  have c4 : ∀ q, (convert 27 9 (.slice x M M)).run Tryz.prog (w1.drewN q) = .ok (.string S2) (w1.drewN q) := fun q => CO.out (w1.drewN q) x hx
  have c4' := c4 0
  clear hx
  go_wp2_with fail
  go_quiet (fail)
  go_wp2_with fail
  refine (CP.out _ (below_drewN B1.out _)).mono ?_
  rintro e w2 ⟨g, rfl, hg, hb2, hrow⟩
  have hrow := CP2.out w2 g hrow
  have B2 := Lib.hid ((below_drewN B1.out _).trans (hb2.mono (Nat.le_of_lt hlt)))
  have hg1 : w1.heap.size ≤ g := hg
  have k0' := (hb2.cell (by exact hlt)).trans k0
  have k1' := (hb2.cell (by exact hlt)).trans k1
  have hlt2 : w.heap.size < w2.heap.size := cell_lt k0'
  have c2 := CA.out _ B2.out
  have c3 := CB.out _ B2.out
  have HROW := Lib.hid hrow
  have hgl : g < w2.heap.size := by
    rcases Nat.lt_or_ge g w2.heap.size with h' | h'
    · exact h'
    · rw [Array.getElem?_eq_none h'] at hrow; cases hrow
  have GB := Lib.hid (BG.out w2 g hrow)
  clear hb2 hrow hg k0 k1 c4 c4'
  go_wp2_with fail
  refine (CG2.out _ _ GB.out).mono ?_
  rintro e w3 ⟨x2, rfl, hb3, hx2⟩
  have B3 := Lib.hid (B2.out.trans (hb3.mono B2.out.size))
  have HB3 := Lib.hid hb3
  have X2 := Lib.hid hx2
  have k0'' : ∀ w', Below w2.heap.size w2 w' → w'.cell? ⟨w.heap.size, 0, none⟩ = some (.int .i64 (p : Int)) := fun w' h => (h.cell (by exact hlt2)).trans k0'
  have k1'' : ∀ w', Below w2.heap.size w2 w' → w'.cell? ⟨w.heap.size, 1, none⟩ = some (.int .i64 (M : Int)) := fun w' h => (h.cell (by exact hlt2)).trans k1'
  clear hb3 hx2 c2 c3 k0' k1'
  have r3 : w3.heap[g]? = some (.cells GV.toArray 5 (0, 0)) := (HB3.out.block g hgl).trans HROW.out
  have GB3 := Lib.hid (BG.out w3 g r3)
  clear r3
  go_wp2_with fail
  refine (CC.out _ _ B3.out GB3.out).mono ?_
  rintro e w4 ⟨v, n, S, E, rfl, hb4, hn, hv, hin⟩
  have hv' : ∃ av, v = .slice av n n ∧ (0 < n → ∃ g', av = some ⟨g', 0, none⟩ ∧ g' < w4.heap.size ∧ ∀ j, j < n → w4.cell? ⟨g', j * 2, none⟩ = some (.int .i64 (S j)) ∧ w4.cell? ⟨g', j * 2 + 1, none⟩ = some (.int .i64 (E j))) := by
    rcases hv with ⟨h1, h2⟩ | ⟨g', h1, h2⟩
    · exact ⟨none, by rw [h2, h1], fun h => by omega⟩
    · exact ⟨_, h1, fun h => ⟨g', rfl, cell_lt (h2 0 h).1, h2⟩⟩
  obtain ⟨av, rfl, hav⟩ := hv'
  clear hv
  have AV := Lib.hid hav; have IN := Lib.hid hin
  clear hav hin
  have B4 := Lib.hid (B3.out.trans (hb4.mono B3.out.size))
  have HB4 := Lib.hid (HB3.out.trans (hb4.mono HB3.out.size))
  have c5 : ∀ q, (convert 27 9 (.slice x2 M M)).run Tryz.prog (w4.drewN q) = .ok (.string S1) (w4.drewN q) := fun q => CL.out (w4.drewN q) x2 ((X2.out.keep hb4).drewN q)
  have c6 : ∀ q, (convert 27 9 (.slice (some ⟨g, 0, none⟩) N N)).run Tryz.prog (w4.drewN q) = .ok (.string S3) (w4.drewN q) := fun q => CR.out (w4.drewN q) g ((GB3.out.keep hb4).drewN q)
  have c5' := c5 0
  have c6' := c6 0
  have k0 := k0'' w4 HB4.out
  have k1 := k1'' w4 HB4.out
  clear hb4
  have hGx := HX.out
  go_wp2_with fail
  go_quiet (fail)
  clear c5 c6 c5' c6' hGx k0 k1
  go_wp2_with fail
  go_loopw [18] (fun iv wr => ∃ k : Nat, k ≤ n ∧ iv = .int .i64 k ∧ Below w4.heap.size w4 wr) (fun i _ => n - (intOf i).toNat)
  case atStart => exact ⟨0, Nat.zero_le _, rfl, below_drewN (Below.refl _ _) _⟩
  case round =>
    obtain ⟨k, hk, rfl, hbl⟩ := hrel
    have BL := Lib.hid hbl
    clear hbl
    have HBr := Lib.hid (HB4.out.trans (BL.out.mono HB4.out.size))
    have k0 := k0'' wr HBr.out
    have k1 := k1'' wr HBr.out
    by_cases hlt : k < n
    · obtain ⟨g', rfl, hg', hcl⟩ := AV.out (by omega)
      have hc0 := (BL.out.cell (by exact hg')).trans (hcl k hlt).1
      have hc1 := (BL.out.cell (by exact hg')).trans (hcl k hlt).2
      have hi := IN.out k hlt
      clear hcl
      generalize S k = sk at *
      generalize E k = ek at *
      have hlti : (k : Int) < (n : Int) := by omega
      have hw1 : IntKind.i64.wrap ((p : Int) + (M : Int)) = (p : Int) + (M : Int) := by rw [IntKind.wrap_i64]; omega
      have hw2 : IntKind.i64.wrap ((sk : Int) + (ek : Int)) = (sk : Int) + (ek : Int) := by rw [IntKind.wrap_i64]; omega
      go_wp2_with fail
      go_quiet (fail)
      go_wp2_with fail
      go_roundw
      case rel => exact ⟨k + 1, by omega, by go_num, below_drewN BL.out _⟩
      case measure => simp [intOf]; omega
    · obtain rfl : k = n := by omega
      clear k0 k1
      have B5 := Lib.hid (B4.out.trans (BL.out.mono B4.out.size))
      have hrow5 : wr.heap[g]? = some (.cells GV.toArray 5 (0, 0)) := (HBr.out.block g hgl).trans HROW.out
      have RW := Lib.hid (RO.out wr g w.heap.size (by omega) hrow5)
      clear hrow5
      obtain ⟨wo, rfl⟩ : ∃ wo : World, wo = wr := ⟨_, rfl⟩
      go_wp2_with fail
      go_loopw [19] (fun iv wr => ∃ (k : Nat) (xs : List Value), k ≤ N ∧ iv = .int .i64 k ∧ Below w.heap.size w wr ∧ wr.ownsRow w.heap.size 5 1 (.slice (some ⟨g, 0, none⟩) N N) N xs ∧ ∀ j, j < N → ∃ z, xs[j]? = some (.int .u8 z)) (fun i _ => N - (intOf i).toNat)
      case atStart => exact ⟨0, GV, Nat.zero_le _, rfl, B5.out, RW.out, GI.out⟩
      case round =>
        obtain ⟨m, xs, hm, rfl, hbl5, hrw5, hxs⟩ := hrel
        have BL5 := Lib.hid hbl5; have RW5 := Lib.hid hrw5; have XS := Lib.hid hxs
        clear hbl5 hrw5 hxs
        by_cases hmlt : m < N
        · obtain ⟨z, hz⟩ := XS.out m hmlt
          have hcz : wr.cell? ⟨g, m, none⟩ = some (.int .u8 z) := (RW5.out.cellAt m (by omega)).trans hz
          have hfz := RW5.out.frozenAt m
          have hmi : (m : Int) < (N : Int) := by omega
          clear hz
          go_wp2_with fail
          go_roundw
          case rel => exact ⟨m + 1, _, by omega, by go_num, BL5.out.setCell (by show _ ≤ g; omega) _, (RW5.out.stored m _).1, fun j hj => by
            rw [List.getElem?_set]
            split
            · rename_i he
              have := XS.out m hmlt
              obtain ⟨z', hz'⟩ := this
              have hl := (List.getElem?_eq_some_iff.1 hz').1
              rw [if_pos (by omega)]; exact ⟨_, rfl⟩
            · exact XS.out j hj⟩
          case measure => simp [intOf]; omega
        · obtain rfl : m = N := by omega
          have c7 := CA.out wr BL5.out
          have c8 := CB.out wr BL5.out
          go_wp2_with fail
          refine (HL.out _ BL5.out).mono ?_
          rintro e w6 ⟨rfl, hb6⟩
          have B6 := Lib.hid (BL5.out.trans (hb6.mono BL5.out.size))
          clear hb6
          go_wp2_with fail
          go_ret
          exact ⟨rfl, B6.out⟩
end Go.Proofs.L11
