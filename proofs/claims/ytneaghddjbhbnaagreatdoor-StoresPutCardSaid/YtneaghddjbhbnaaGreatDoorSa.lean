/-
  S1: bytes as a text; stores.within, slices.Clip, slices.Clone at bytes.
-/
import Derived.Test.YtneaghddjbhbnaaGreatDoorCb
import Derived.Laws.BytesString
import Derived.Laws.Cells
import Derived.Laws.CopyOwn
import Derived.WalkSpells
import Derived.Laws.AppendOwnNone
namespace Go.Proofs.L11
open Go Go.Proofs Go.RowKit
set_option maxRecDepth 100000
def str (A : List Int) : ByteArray := A.foldl (fun r n => r.push (UInt8.ofNat n.toNat)) ByteArray.empty
/-- A slice of bytes that holds these. -/
def Bs (w : World) (a : Option Addr) (A : List Int) : Prop := 0 < A.length → ∃ b off, a = some ⟨b, off, none⟩ ∧ b < w.heap.size ∧ ∀ t, t < A.length → w.cell? ⟨b, off + t, none⟩ = some (.int .u8 (A.getD t 0))
theorem Bs.keep {w w' : World} {a : Option Addr} {A : List Int} (h : Bs w a A) (hb : Below w.heap.size w w') : Bs w' a A := fun h0 => by
  obtain ⟨b, off, rfl, h1, h2⟩ := h h0
  exact ⟨b, off, rfl, by have := hb.size; omega, fun t ht => (hb.cell (by exact h1)).trans (h2 t ht)⟩
theorem conv_str (w : World) (a : Option Addr) (A : List Int) (c : Nat) (h : Bs w a A) : (convert 27 9 (.slice a A.length c)).run Tryz.prog w = .ok (.string (str A)) w := by
  rw [run_convert_bytes_string w 27 9 5 a A.length c Tryz.underlying27 Tryz.underlying5 Tryz.underlying9]
  cases hA : A with
  | nil =>
    subst hA
    cases a with
    | none => rfl
    | some a => exact run_bytesToString w a 0 c [] rfl
  | cons x l =>
    obtain ⟨b, off, rfl, h1, h2⟩ := h (by rw [hA]; simp)
    rw [← hA]
    refine run_bytesToString w ⟨b, off, none⟩ A.length c A ?_
    have hl := run_loadCells_list (P := Tryz.prog) (w := w) ⟨b, off, none⟩ (A.map (Value.int .u8)) (fun j v hj => by
      rw [List.getElem?_map] at hj
      cases hx : A[j]? with
      | none => rw [hx] at hj; cases hj
      | some x =>
        rw [hx] at hj
        simp only [Option.map_some, Option.some.injEq] at hj
        subst hj
        have hj' := (List.getElem?_eq_some_iff.1 hx).1
        rw [WideShapes.add_plain, h2 j hj', List.getD, hx]; rfl)
    rw [List.length_map] at hl
    exact hl
/-- What stores.within says. -/
def wi (N : Nat) (at_ len : Int) : Int := if at_ < 0 ∨ len < 0 then 1 else if (N : Int) < at_ ∨ (N : Int) - at_ < len then 5 else 0
theorem within_any (a : Option Addr) (N c : Nat) (p l : Int) (w : World) (hN : N ≤ 9223372036854775807) (hp : IR p) (hl : IR l) :
    Calls Tryz.prog 17 #[.slice a N c, .agg #[.int .i64 p, .int .i64 l]] w fun e w' => e = .returned (.int .i64 (wi N p l)) ∧ Below w.heap.size w w' := by
  have fin : ∀ o1, Below w.heap.size w (w.alloc o1) := fun o1 => (Below.refl _ _).alloc (Nat.le_refl _) _
  have H := Lib.hid fin; clear fin
  unfold IR at hp hl
  by_cases h1 : p < 0
  · have e : wi N p l = 1 := by unfold wi; rw [if_pos (.inl h1)]
    rw [e]; clear e
    go_enter Tryz.func17, Tryz.ntmps17
    go_wp2
    go_ret
    exact ⟨rfl, H.out _⟩
  · by_cases h2 : l < 0
    · have e : wi N p l = 1 := by unfold wi; rw [if_pos (.inr h2)]
      rw [e]; clear e
      go_enter Tryz.func17, Tryz.ntmps17
      go_wp2
      go_ret
      exact ⟨rfl, H.out _⟩
    · by_cases h3 : (N : Int) < p
      · have e : wi N p l = 5 := by unfold wi; rw [if_neg (by omega), if_pos (.inl h3)]
        rw [e]; clear e
        go_enter Tryz.func17, Tryz.ntmps17
        go_wp2
        go_ret
        exact ⟨rfl, H.out _⟩
      · by_cases h4 : (N : Int) - p < l
        · have e : wi N p l = 5 := by unfold wi; rw [if_neg (by omega), if_pos (.inr h4)]
          rw [e]; clear e
          go_enter Tryz.func17, Tryz.ntmps17
          go_wp2
          go_ret
          exact ⟨rfl, H.out _⟩
        · have e : wi N p l = 0 := by unfold wi; rw [if_neg (by omega), if_neg (by omega)]
          rw [e]; clear e
          go_enter Tryz.func17, Tryz.ntmps17
          go_wp2
          go_ret
          exact ⟨rfl, H.out _⟩
theorem clip8_nil (w : World) : Calls Tryz.prog 18 #[.slice none 0 0] w fun e w' => e = .returned (.slice none 0 0) ∧ w = w' := by
  go_enter Tryz.func18, Tryz.ntmps18
  go_wp2
  go_ret
  exact ⟨rfl, rfl⟩
theorem clip8_some (b L C : Nat) (w : World) (h : L ≤ C) : Calls Tryz.prog 18 #[.slice (some ⟨b, 0, none⟩) L C] w fun e w' => e = .returned (.slice (some ⟨b, 0, none⟩) L L) ∧ w = w' := by
  go_enter Tryz.func18, Tryz.ntmps18
  go_wp2
  go_ret
  exact ⟨rfl, rfl⟩
theorem Tryz.info5 : (Tryz.prog.info? 5).map (fun i => (i.zero, i.size, i.bytes)) = some (some (.int .u8 0), 1, 1) := by kernel_rfl
theorem clone8_nil (w : World) : Calls Tryz.prog 19 #[.slice none 0 0] w fun e w' => e = .returned (.slice none 0 0) ∧ w = w' := by
  have hs := fun (w : World) (a : Option Addr) (n c n' c' : Nat) => Lib.run_eql_slice_nil (P := Tryz.prog) w 27 5 a n c n' c' Tryz.underlying27
  go_enter Tryz.func19, Tryz.ntmps19
  go_wp2
  go_ret
  exact ⟨rfl, rfl⟩
set_option maxHeartbeats 4000000 in
theorem clone8_some (ad : Addr) (c : Nat) (A : List Int) (w : World) (hA : A.length ≤ 300) (hc : ∀ t, t < A.length → w.cell? (ad.add t) = some (.int .u8 (A.getD t 0))) :
    Calls Tryz.prog 19 #[.slice (some ad) A.length c] w fun e w' => ∃ g cap, e = .returned (.slice (some ⟨g, 0, none⟩) A.length cap) ∧ A.length ≤ cap ∧ w.heap.size ≤ g ∧ Below w.heap.size w w' ∧
      w'.ownsRow w.heap.size 5 1 (.slice (some ⟨g, 0, none⟩) A.length cap) A.length (A.map (Value.int .u8)) := by
  obtain ⟨i0, hi, hz0, hz1, hz2⟩ := info_parts Tryz.info5
  have HC := Lib.hid hc
  clear hc
  have hs := fun (w : World) (a : Option Addr) (n c n' c' : Nat) => Lib.run_eql_slice_nil (P := Tryz.prog) w 27 5 a n c n' c' Tryz.underlying27
  go_enter Tryz.func19, Tryz.ntmps19
  go_wp2_with (at_builtin; refine wpList_append_own _ rfl _ _ 27 rfl w.heap.size 5 i0 (.int .u8 0) 1 1 Tryz.underlying27 hi hz0 hz1 hz2 rfl (by decide) _ 0 [] rfl (World.ownsRow_made w #[] 0 (Nat.le_refl _) (Nat.zero_le _) rfl) ad A.length c (A.map (Value.int .u8)) rfl ?c0 ?c1 ?c2 ?c3 ?c4 ?c5 ?_)
  case c0 => simp
  case c1 =>
    intro j u hj
    have hj' := (List.getElem?_eq_some_iff.1 hj).1
    rw [List.length_map] at hj'
    have hc := HC.out j hj'
    have hlt := World.block_lt_of_cell? w _ hc
    rw [World.cell?_alloc_lt w _ _ hlt, hc]
    rw [List.getElem?_map, List.getElem?_eq_getElem hj'] at hj
    simp only [Option.map_some, Option.some.injEq] at hj
    rw [← hj, List.getD, List.getElem?_eq_getElem hj']; rfl
  case c2 => intro u hu; obtain ⟨n, _, rfl⟩ := List.mem_map.1 hu; rfl
  case c3 => unfold maxLen; omega
  case c4 => omega
  case c5 => simp
  intro v' w1 hown' hgrow hnil'
  have hb : Below w.heap.size w w1 := ((Below.refl _ _).alloc (Nat.le_refl _) _).grown hgrow (by simp) (fun k hk => by simp [Value.ownBlock] at hk; omega)
  have hne : v' ≠ .slice none 0 0 := fun h => hnil' h
  have h0 := hown'.2
  rcases h0 with ⟨h0, _⟩ | ⟨g, cap, cur, rfl, hbg, _, hncap, _⟩
  · exact absurd h0 hne
  have H1 := Lib.hid hown'; have H2 := Lib.hid hb
  clear hown' hgrow hnil' hb hne
  go_wp2
  go_ret
  exact ⟨g, cap, rfl, hncap, hbg, H2.out, H1.out⟩
theorem addr_add (ad : Addr) (p t : Nat) : (ad.add p).add t = ad.add (p + t) := by
  unfold Addr.add
  by_cases h0 : p = 0 <;> by_cases h1 : t = 0 <;> simp [h0, h1, Nat.add_assoc]
/-- The bytes of a place. -/
def sub (A : List Int) (p l : Nat) : List Int := (A.drop p).take l
theorem sub_len {A : List Int} {p l : Nat} (h : p + l ≤ A.length) : (sub A p l).length = l := by unfold sub; rw [List.length_take, List.length_drop]; omega
theorem sub_get {A : List Int} {p l t : Nat} (ht : t < l) : (sub A p l).getD t 0 = A.getD (p + t) 0 := by
  unfold sub
  simp only [List.getD, List.getElem?_take, if_pos ht, List.getElem?_drop]
set_option maxHeartbeats 4000000 in
theorem get_bad (a : Option Addr) (N c : Nat) (p l : Int) (w : World) (hN : N ≤ 9223372036854775807) (hp : IR p) (hl : IR l) (k : Int) (hk : k ≠ 0) (h : wi N p l = k) :
    Calls Tryz.prog 9 #[.slice a N c, .agg #[.int .i64 p, .int .i64 l]] w fun e w' => e = .returned (.tuple #[.slice none 0 0, .int .i64 k]) ∧ Below w.heap.size w w' := by
  have C := Lib.hid (fun w => within_any a N c p l w hN hp hl)
  have HK := Lib.hid h
  have hk1 : (k == 0) = false := by simpa using hk
  have hk2 : (k != 0) = true := by simpa using hk
  have B0 := Lib.hid (fun o1 => (Below.refl w.heap.size w).alloc (Nat.le_refl _) o1)
  clear hN hp hl h hk
  go_enter Tryz.func9, Tryz.ntmps9
  go_wp2_with fail
  refine (C.out _).mono ?_
  rintro e w1 ⟨rfl, hb1⟩
  rw [HK.out]
  have B1 := Lib.hid ((B0.out _).trans (hb1.mono (by simp)))
  clear hb1
  go_wp2_with fail
  go_ret2
  exact ⟨rfl, B1.out⟩
set_option maxHeartbeats 4000000 in
theorem get_some (ad : Addr) (c p l : Nat) (A : List Int) (w : World) (hA : A.length ≤ 300) (hpl : p + l ≤ A.length) (hAc : A.length ≤ c) (hc2 : c ≤ 9223372036854775807)
    (hc : ∀ t, t < A.length → w.cell? (ad.add t) = some (.int .u8 (A.getD t 0))) :
    Calls Tryz.prog 9 #[.slice (some ad) A.length c, .agg #[.int .i64 p, .int .i64 l]] w fun e w' => ∃ g, e = .returned (.tuple #[.slice (some ⟨g, 0, none⟩) l l, .int .i64 0]) ∧ w.heap.size ≤ g ∧ Below w.heap.size w w' ∧
      ∀ t, t < l → w'.cell? ⟨g, t, none⟩ = some (.int .u8 (A.getD (p + t) 0)) := by
  have C := Lib.hid (fun w => within_any (some ad) A.length c (p : Int) (l : Int) w (by omega) (by unfold IR; omega) (by unfold IR; omega))
  have hwi : wi A.length (p : Int) (l : Int) = 0 := by unfold wi; rw [if_neg (by omega), if_neg (by omega)]
  have HK := Lib.hid hwi
  have B0 := Lib.hid (fun o1 => (Below.refl w.heap.size w).alloc (Nat.le_refl _) o1)
  have HC := Lib.hid hc
  clear hwi hc
  generalize hN : A.length = N at hA hpl hAc C ⊢
  have HN := Lib.hid hN
  clear hN
  go_enter Tryz.func9, Tryz.ntmps9
  go_wp2_with fail
  refine (C.out _).mono ?_
  rintro e w1 ⟨rfl, hb1⟩
  rw [← HN.out, HK.out, HN.out]
  have B1 := Lib.hid ((B0.out _).trans (hb1.mono (by simp)))
  have k0 : w1.cell? ⟨w.heap.size, 0, none⟩ = some (.int .i64 (p : Int)) := by
    rw [hb1.cell (by simp)]; unfold World.cell?; rw [show (w.alloc (.cells #[.int .i64 (p : Int), .int .i64 (l : Int)] 23)).heap[w.heap.size]? = some (.cells #[.int .i64 (p : Int), .int .i64 (l : Int)] 23) by show (w.heap.push _)[w.heap.size]? = _; rw [Array.getElem?_push, if_pos rfl]]; rfl
  have k1 : w1.cell? ⟨w.heap.size, 1, none⟩ = some (.int .i64 (l : Int)) := by
    rw [hb1.cell (by simp)]; unfold World.cell?; rw [show (w.alloc (.cells #[.int .i64 (p : Int), .int .i64 (l : Int)] 23)).heap[w.heap.size]? = some (.cells #[.int .i64 (p : Int), .int .i64 (l : Int)] 23) by show (w.heap.push _)[w.heap.size]? = _; rw [Array.getElem?_push, if_pos rfl]]; rfl
  clear hb1
  have hcell : ∀ t, t < N → w1.cell? (ad.add t) = some (.int .u8 (A.getD t 0)) := fun t ht => by
    have := HC.out t (by rw [HN.out]; exact ht)
    rw [B1.out.cell (World.block_lt_of_cell? w _ this)]; exact this
  have HW := Lib.hid hcell
  clear hcell
  have fin : ∀ (ad' : Addr) (c' : Nat), (∀ t, t < l → w1.cell? (ad'.add t) = some (.int .u8 (A.getD (p + t) 0))) → Calls Tryz.prog 19 #[.slice (some ad') l c'] w1 fun e w' =>
      ∃ g cap, e = .returned (.slice (some ⟨g, 0, none⟩) l cap) ∧ l ≤ cap ∧ w1.heap.size ≤ g ∧ Below w1.heap.size w1 w' ∧ ∀ t, t < l → w'.cell? ⟨g, t, none⟩ = some (.int .u8 (A.getD (p + t) 0)) := by
    intro ad' c' h
    have hs : (sub A p l).length = l := sub_len (by rw [HN.out]; exact hpl)
    have := clone8_some ad' c' (sub A p l) w1 (by omega) (fun t ht => by rw [hs] at ht; rw [h t ht, sub_get ht])
    rw [hs] at this
    refine this.mono ?_
    rintro e w' ⟨g, cap, h1, h2, h3, h4, h5⟩
    refine ⟨g, cap, h1, h2, h3, h4, fun t ht => ?_⟩
    rw [h5.cellAt t (by omega), List.getElem?_map]
    have : (sub A p l)[t]? = some ((sub A p l).getD t 0) := by rw [List.getD, List.getElem?_eq_getElem (by omega)]; rfl
    rw [this, sub_get ht]; rfl
  have FIN := Lib.hid fin
  clear fin
  have hz1 : w.heap.size ≤ w1.heap.size := B1.out.size
  by_cases hpc : p < c
  · go_wp2_with fail
    refine (FIN.out (ad.add p) (c - p) (fun t ht => by
      rw [show (ad.add p).add t = ad.add (p + t) from addr_add ad p t]; exact HW.out (p + t) (by omega))).mono ?_
    rintro e w2 ⟨g, cap, rfl, hcap, hg, hb2, hcl⟩
    have HCL := Lib.hid hcl; have B2 := Lib.hid (B1.out.trans (hb2.mono hz1))
    clear hcl hb2
    go_wp2_with fail
    refine (clip8_some g l cap w2 hcap).mono ?_
    rintro e w3 ⟨rfl, rfl⟩
    go_wp2_with fail
    go_ret2
    exact ⟨g, rfl, by omega, B2.out, HCL.out⟩
  · have hl0 : l = 0 := by omega
    have HL0 := Lib.hid hl0
    clear hl0
    go_wp2_with fail
    refine (FIN.out ad 0 (fun t ht => by have := HL0.out; omega)).mono ?_
    rintro e w2 ⟨g, cap, rfl, hcap, hg, hb2, hcl⟩
    have HCL := Lib.hid hcl; have B2 := Lib.hid (B1.out.trans (hb2.mono hz1))
    clear hcl hb2
    go_wp2_with fail
    refine (clip8_some g l cap w2 hcap).mono ?_
    rintro e w3 ⟨rfl, rfl⟩
    go_wp2_with fail
    go_ret2
    exact ⟨g, rfl, by omega, B2.out, HCL.out⟩
theorem get_nil (w : World) : Calls Tryz.prog 9 #[.slice none 0 0, .agg #[.int .i64 0, .int .i64 0]] w fun e w' => e = .returned (.tuple #[.slice none 0 0, .int .i64 0]) ∧ Below w.heap.size w w' := by
  have C := Lib.hid (fun w => within_any none 0 0 0 0 w (by omega) (by unfold IR; omega) (by unfold IR; omega))
  have HK := Lib.hid (show wi 0 0 0 = 0 by unfold wi; simp)
  have B0 := Lib.hid (fun o1 => (Below.refl w.heap.size w).alloc (Nat.le_refl _) o1)
  go_enter Tryz.func9, Tryz.ntmps9
  go_wp2_with fail
  refine (C.out _).mono ?_
  rintro e w1 ⟨rfl, hb1⟩
  rw [HK.out]
  have B1 := Lib.hid ((B0.out _).trans (hb1.mono (by simp)))
  have k0 : w1.cell? ⟨w.heap.size, 0, none⟩ = some (.int .i64 0) := by
    rw [hb1.cell (by simp)]; unfold World.cell?; rw [show (w.alloc (.cells #[.int .i64 0, .int .i64 0] 23)).heap[w.heap.size]? = some (.cells #[.int .i64 0, .int .i64 0] 23) by show (w.heap.push _)[w.heap.size]? = _; rw [Array.getElem?_push, if_pos rfl]]; rfl
  have k1 : w1.cell? ⟨w.heap.size, 1, none⟩ = some (.int .i64 0) := by
    rw [hb1.cell (by simp)]; unfold World.cell?; rw [show (w.alloc (.cells #[.int .i64 0, .int .i64 0] 23)).heap[w.heap.size]? = some (.cells #[.int .i64 0, .int .i64 0] 23) by show (w.heap.push _)[w.heap.size]? = _; rw [Array.getElem?_push, if_pos rfl]]; rfl
  clear hb1
  go_wp2_with fail
  refine (clone8_nil _).mono ?_
  rintro e w2 ⟨rfl, rfl⟩
  go_wp2_with fail
  refine (clip8_nil _).mono ?_
  rintro e w2 ⟨rfl, rfl⟩
  go_wp2_with fail
  go_ret2
  exact ⟨rfl, B1.out⟩
end Go.Proofs.L11

/-
  S2: stores.Put.
-/
namespace Go.Proofs.L11
open Go Go.Proofs Go.RowKit
set_option maxRecDepth 100000
theorem Tryz.size5 : (Tryz.prog.info? 5).map (·.size) = some 1 := by kernel_rfl
theorem mk8 (N : Nat) (hN : N ≤ 300) : ∃ Z : List Value, Z.length = N ∧ ∀ w : World, (Instr.makeSlice 27 (.int .i64 (N : Int)) (.int .i64 (N : Int))).run Tryz.prog w = .ok (.slice (some ⟨w.heap.size, 0, none⟩) N N) (w.alloc (.cells Z.toArray 5)) := by
  obtain ⟨i0, hi, hz0, hz1, hz2⟩ := info_parts Tryz.info5
  refine ⟨(madeCells (Value.int .u8 0).cells N).toList, ?_, fun w => ?_⟩
  · rw [Array.length_toList, size_madeCells]
  · have := run_make (P := Tryz.prog) w 27 5 i0 (.int .u8 0) Tryz.underlying27 hi hz0 .i64 .i64 (N : Int) (N : Int) (by omega) (Int.le_refl _) (by rw [hz2]; omega) (by omega)
    rw [this, hz1]
    simp
theorem put_bad1 (a b : Option Addr) (N c M d : Nat) (p l : Int) (w : World) (hN : N ≤ 9223372036854775807) (hp : IR p) (hl : IR l) (k : Int) (hk : k ≠ 0) (h : wi N p l = k) :
    Calls Tryz.prog 10 #[.slice a N c, .agg #[.int .i64 p, .int .i64 l], .slice b M d] w fun e w' => e = .returned (.tuple #[.slice none 0 0, .int .i64 k]) ∧ Below w.heap.size w w' := by
  have C := Lib.hid (fun w => within_any a N c p l w hN hp hl)
  have HK := Lib.hid h
  have hk1 : (k == 0) = false := by simpa using hk
  have hk2 : (k != 0) = true := by simpa using hk
  have B0 := Lib.hid (fun o1 => (Below.refl w.heap.size w).alloc (Nat.le_refl _) o1)
  clear hN hp hl h hk
  go_enter Tryz.func10, Tryz.ntmps10
  go_wp2_with fail
  refine (C.out _).mono ?_
  rintro e w1 ⟨rfl, hb1⟩
  rw [HK.out]
  have B1 := Lib.hid ((B0.out _).trans (hb1.mono (by simp)))
  clear hb1
  go_wp2_with fail
  go_ret2
  exact ⟨rfl, B1.out⟩
theorem cells2 {w w1 : World} {p l : Int} (hb1 : Below (w.alloc (.cells #[.int .i64 p, .int .i64 l] 23)).heap.size (w.alloc (.cells #[.int .i64 p, .int .i64 l] 23)) w1) :
    w1.cell? ⟨w.heap.size, 0, none⟩ = some (.int .i64 p) ∧ w1.cell? ⟨w.heap.size, 1, none⟩ = some (.int .i64 l) := by
  constructor
  · rw [hb1.cell (by simp)]; unfold World.cell?; rw [show (w.alloc (.cells #[.int .i64 p, .int .i64 l] 23)).heap[w.heap.size]? = some (.cells #[.int .i64 p, .int .i64 l] 23) by show (w.heap.push _)[w.heap.size]? = _; rw [Array.getElem?_push, if_pos rfl]]; rfl
  · rw [hb1.cell (by simp)]; unfold World.cell?; rw [show (w.alloc (.cells #[.int .i64 p, .int .i64 l] 23)).heap[w.heap.size]? = some (.cells #[.int .i64 p, .int .i64 l] 23) by show (w.heap.push _)[w.heap.size]? = _; rw [Array.getElem?_push, if_pos rfl]]; rfl
theorem put_bad2 (a b : Option Addr) (N c M d : Nat) (p l : Int) (w : World) (hN : N ≤ 9223372036854775807) (_hM : M ≤ 9223372036854775807) (hp : IR p) (hl : IR l) (h : wi N p l = 0) (hm : (M : Int) ≠ l) :
    Calls Tryz.prog 10 #[.slice a N c, .agg #[.int .i64 p, .int .i64 l], .slice b M d] w fun e w' => e = .returned (.tuple #[.slice none 0 0, .int .i64 5]) ∧ Below w.heap.size w w' := by
  have C := Lib.hid (fun w => within_any a N c p l w hN hp hl)
  have HK := Lib.hid h
  have hk1 : ((M : Int) == l) = false := by simpa using hm
  have hk2 : ((M : Int) != l) = true := by simpa using hm
  have B0 := Lib.hid (fun o1 => (Below.refl w.heap.size w).alloc (Nat.le_refl _) o1)
  clear hN h hm
  go_enter Tryz.func10, Tryz.ntmps10
  go_wp2_with fail
  refine (C.out _).mono ?_
  rintro e w1 ⟨rfl, hb1⟩
  rw [HK.out]
  have B1 := Lib.hid ((B0.out _).trans (hb1.mono (by simp)))
  obtain ⟨k0, k1⟩ := cells2 hb1
  clear hb1
  go_wp2_with fail
  go_ret2
  exact ⟨rfl, B1.out⟩
theorem splice_put (Z : List Value) (A L : List Int) (p : Nat) (hZ : Z.length = A.length) (_hp : p + L.length ≤ A.length) :
    splice (splice Z 0 (A.map (Value.int .u8))) p (L.map (Value.int .u8)) = (A.take p ++ L ++ A.drop (p + L.length)).map (Value.int .u8) := by
  unfold splice
  have e : List.drop (0 + (A.map (Value.int .u8)).length) Z = [] := List.drop_eq_nil_of_le (by simp [hZ])
  rw [e]
  simp [List.map_append]
set_option maxHeartbeats 4000000 in
theorem put_ok (a b : Option Addr) (c d p : Nat) (A L : List Int) (w : World) (hA : A.length ≤ 300) (hpl : p + L.length ≤ A.length) (_hb0 : b ≠ none ∨ d = 0) (hSA : Bs w a A) (hSL : Bs w b L) :
    Calls Tryz.prog 10 #[.slice a A.length c, .agg #[.int .i64 (p : Int), .int .i64 (L.length : Int)], .slice b L.length d] w fun e w' => ∃ g, e = .returned (.tuple #[.slice (some ⟨g, 0, none⟩) A.length A.length, .int .i64 0]) ∧
      w.heap.size ≤ g ∧ Below w.heap.size w w' ∧ w'.heap[g]? = some (.cells ((A.take p ++ L ++ A.drop (p + L.length)).map (Value.int .u8)).toArray 5 (0, 0)) := by
  have C := Lib.hid (fun w => within_any a A.length c (p : Int) (L.length : Int) w (by omega) (by unfold IR; omega) (by unfold IR; omega))
  have hwi : wi A.length (p : Int) (L.length : Int) = 0 := by unfold wi; rw [if_neg (by omega), if_neg (by omega)]
  have HK := Lib.hid hwi
  have B0 := Lib.hid (fun o1 => (Below.refl w.heap.size w).alloc (Nat.le_refl _) o1)
  obtain ⟨Z, hZ, hmk⟩ := mk8 A.length hA
  obtain ⟨X0, hX0⟩ : ∃ X0, X0 = A.map (Value.int .u8) := ⟨_, rfl⟩
  obtain ⟨X1, hX1⟩ : ∃ X1, X1 = L.map (Value.int .u8) := ⟨_, rfl⟩
  have SP := Lib.hid (splice_put Z A L p hZ hpl)
  rw [← hX0, ← hX1] at SP
  have l0 : X0.length = A.length := by rw [hX0]; simp
  have l1 : X1.length = L.length := by rw [hX1]; simp
  have o0 : ∀ v ∈ X0, v.oneCell' = true := by intro v hv; rw [hX0] at hv; obtain ⟨n, _, rfl⟩ := List.mem_map.1 hv; rfl
  have o1 : ∀ v ∈ X1, v.oneCell' = true := by intro v hv; rw [hX1] at hv; obtain ⟨n, _, rfl⟩ := List.mem_map.1 hv; rfl
  have g0 : ∀ w', Below w.heap.size w w' → 0 < X0.length → ∃ ad, a = some ad ∧ ∀ j v, X0[j]? = some v → w'.cell? (ad.add j) = some v := by
    intro w' hb' h0
    obtain ⟨bk, off, e, h1, h2⟩ := hSA.keep hb' (by omega)
    refine ⟨_, e, fun j v hj => ?_⟩
    have hjl : j < A.length := by have := (List.getElem?_eq_some_iff.1 hj).1; omega
    rw [WideShapes.add_plain, h2 j hjl]
    rw [hX0, List.getElem?_map, List.getElem?_eq_getElem hjl] at hj
    simp only [Option.map_some, Option.some.injEq] at hj
    rw [← hj, List.getD, List.getElem?_eq_getElem hjl]; rfl
  have g1 : ∀ w', Below w.heap.size w w' → 0 < X1.length → ∃ ad, b = some ad ∧ ∀ j v, X1[j]? = some v → w'.cell? (ad.add j) = some v := by
    intro w' hb' h0
    obtain ⟨bk, off, e, h1, h2⟩ := hSL.keep hb' (by omega)
    refine ⟨_, e, fun j v hj => ?_⟩
    have hjl : j < L.length := by have := (List.getElem?_eq_some_iff.1 hj).1; omega
    rw [WideShapes.add_plain, h2 j hjl]
    rw [hX1, List.getElem?_map, List.getElem?_eq_getElem hjl] at hj
    simp only [Option.map_some, Option.some.injEq] at hj
    rw [← hj, List.getD, List.getElem?_eq_getElem hjl]; rfl
  have G0 := Lib.hid g0; have G1 := Lib.hid g1; have O0 := Lib.hid o0; have O1 := Lib.hid o1; have L0 := Lib.hid l0; have L1 := Lib.hid l1; have HZ := Lib.hid hZ
  clear hwi g0 g1 o0 o1 hX0 hX1 hSA hSL l0 l1 hZ
  generalize hN : A.length = N at hA hpl C L0 HK hmk HZ ⊢
  generalize hM : L.length = M at hpl C L1 HK ⊢
  rw [hM] at SP
  have hNM : N ≤ 300 ∧ M ≤ 300 := by omega
  clear hN hM
  go_enter Tryz.func10, Tryz.ntmps10
  go_wp2_with fail
  refine (C.out _).mono ?_
  rintro e w1 ⟨rfl, hb1⟩
  rw [HK.out]
  have B1 := Lib.hid ((B0.out _).trans (hb1.mono (by simp)))
  obtain ⟨k0, k1⟩ := cells2 hb1
  clear hb1
  have hbl := B1.out.size
  go_wp2_with (with_reducible refine wpList_copy_splice rfl (.tmp 24) (.tmp 25) 27 27 rfl 5 Tryz.underlying27 Tryz.size5 _ _ _ _ _ _ rfl rfl w1.heap.size 0 Z 5 ?a1 X0 ?a2 ?a3 ?a4 O0.out w1.heap.size w1 ?a5 ?a6 ?_)
  case a1 => show (w1.heap.push _)[w1.heap.size]? = _; rw [Array.getElem?_push, if_pos rfl]
  case a2 => rw [L0.out]; simp
  case a3 => first | exact fun h0 => ⟨rfl, G0.out _ (B1.out.alloc hbl _) h0⟩ | exact fun h0 => G0.out _ (B1.out.alloc hbl _) h0
  case a4 => rw [L0.out, HZ.out]; omega
  case a5 => exact (Below.refl _ _).alloc (Nat.le_refl _) _
  case a6 => exact Nat.le_refl _
  intro w2 H2 hb2
  have B2 := Lib.hid (B1.out.trans (hb2.mono hbl))
  have hlt : w.heap.size < w1.heap.size := cell_lt k0
  have k0' := (hb2.cell (by exact hlt)).trans k0
  have k1' := (hb2.cell (by exact hlt)).trans k1
  clear hb2 k0 k1
  by_cases hpN : p < N
  · go_wp2_with (with_reducible refine wpList_copy_splice rfl (.tmp 30) (.tmp 31) 27 27 rfl 5 Tryz.underlying27 Tryz.size5 _ _ _ _ _ _ rfl rfl w1.heap.size p (splice Z 0 X0) 5 ?a1 X1 ?a2 ?a3 ?a4 O1.out w.heap.size w ?a5 ?a6 ?_)
    case a1 => exact H2.out
    case a2 => rw [L1.out]; exact (Nat.min_eq_left (by omega)).symm
    case a3 => first | exact fun h0 => ⟨rfl, G1.out _ B2.out h0⟩ | exact fun h0 => G1.out _ B2.out h0
    case a4 => rw [length_splice _ _ _ (by rw [L0.out, HZ.out]; omega), L1.out, HZ.out]; omega
    case a5 => exact B2.out
    case a6 => exact hbl
    intro w3 H3 hb3
    rw [SP.out] at H3
    have B3 := Lib.hid hb3
    clear hb3
    go_wp2_with fail
    go_ret2
    exact ⟨_, rfl, hbl, B3.out, H3.out⟩
  · obtain rfl : N = p := by omega
    go_wp2_with (with_reducible refine wpList_copy_splice rfl (.tmp 30) (.tmp 31) 27 27 rfl 5 Tryz.underlying27 Tryz.size5 _ _ _ _ _ _ rfl rfl w1.heap.size N (splice Z 0 X0) 5 ?a1 X1 ?a2 ?a3 ?a4 O1.out w.heap.size w ?a5 ?a6 ?_)
    case a1 => exact H2.out
    case a2 => rw [L1.out]; first | exact (Nat.min_eq_left (by omega)).symm | (simp; omega)
    case a3 => exact fun h0 => absurd h0 (by rw [L1.out]; omega)
    case a4 => rw [length_splice _ _ _ (by rw [L0.out, HZ.out]; omega), L1.out, HZ.out]; omega
    case a5 => exact B2.out
    case a6 => exact hbl
    intro w3 H3 hb3
    rw [SP.out] at H3
    have B3 := Lib.hid hb3
    clear hb3
    go_wp2_with fail
    go_ret2
    exact ⟨_, rfl, hbl, B3.out, H3.out⟩
end Go.Proofs.L11
