/-
  S4: the law StoresPut: a text of another length.
-/
import Derived.Test.YtneaghddjbhbnaaGreatDoorSb
import Derived.Test.YtneaghddjbhbnaaGreatDoorCb
import Derived.Laws.Rows
namespace Go.Proofs.L11
open Go Go.Proofs Go.RowKit Go.Proofs.Chg
set_option maxRecDepth 100000
theorem bytes_ext {a b : ByteArray} (h : a.data.toList = b.data.toList) : a = b := by
  cases a; cases b
  simp only [ByteArray.mk.injEq]
  exact Array.toList_inj.1 h
theorem str_go (A : List Int) : ∀ r : ByteArray, (A.foldl (fun r n => r.push (UInt8.ofNat n.toNat)) r).data.toList = r.data.toList ++ A.map fun n => UInt8.ofNat n.toNat := by
  induction A with
  | nil => intro r; simp
  | cons x A ih => intro r; rw [List.foldl_cons, ih]; simp [ByteArray.push]
theorem str_data (A : List Int) : (str A).data.toList = A.map fun n => UInt8.ofNat n.toNat := by unfold str; rw [str_go]; simp
theorem str_size (A : List Int) : (str A).size = A.length := by
  have := congrArg List.length (str_data A)
  simpa using this
theorem str_append (A B : List Int) : str (A ++ B) = str A ++ str B := bytes_ext (by
  rw [str_data, ByteArray.data_append, Array.toList_append, str_data, str_data, List.map_append])
theorem str_extract (A : List Int) (p q : Nat) : (str A).extract p q = str (sub A p (q - p)) := bytes_ext (by
  rw [str_data, ByteArray.data_extract, Array.toList_extract, str_data, List.extract_eq_take_drop]
  unfold sub
  rw [List.map_take, List.map_drop])
theorem get_ok (a : Option Addr) (c p l : Nat) (A : List Int) (w : World) (hA : A.length ≤ 300) (hpl : p + l ≤ A.length) (hAc : A.length ≤ c) (hc2 : c ≤ 9223372036854775807) (ha : a = none → A.length = 0 ∧ c = 0) (hS : Bs w a A) :
    Calls Tryz.prog 9 #[.slice a A.length c, .agg #[.int .i64 p, .int .i64 l]] w fun e w' => ∃ x, e = .returned (.tuple #[.slice x l l, .int .i64 0]) ∧ Below w.heap.size w w' ∧ Bs w' x (sub A p l) := by
  cases a with
  | none =>
    obtain ⟨h1, rfl⟩ := ha rfl
    obtain ⟨rfl, rfl⟩ : p = 0 ∧ l = 0 := by omega
    rw [h1]
    refine (get_nil w).mono ?_
    rintro e w' ⟨rfl, hb⟩
    exact ⟨none, rfl, hb, fun h0 => absurd h0 (by rw [sub_len (by omega)]; omega)⟩
  | some ad =>
    have hc : ∀ t, t < A.length → w.cell? (ad.add t) = some (.int .u8 (A.getD t 0)) := by
      intro t ht
      obtain ⟨b, off, e, _, h2⟩ := hS (by omega)
      cases e
      rw [WideShapes.add_plain]; exact h2 t ht
    refine (get_some ad c p l A w hA hpl hAc hc2 hc).mono ?_
    rintro e w' ⟨g, rfl, hg, hb, hcl⟩
    refine ⟨_, rfl, hb, fun h0 => ⟨g, 0, rfl, ?_, fun t ht => ?_⟩⟩
    · rw [sub_len hpl] at h0
      exact cell_lt (hcl 0 h0)
    · rw [sub_len hpl] at ht
      rw [sub_get ht, Nat.zero_add]; exact hcl t ht
set_option maxHeartbeats 8000000 in
theorem put_err5 (a b : Option Addr) (c d p l : Nat) (A L : List Int) (w : World) (hN : A.length ≤ 300) (hM : L.length ≤ 300) (hpl : p + l ≤ A.length) (hne : L.length ≠ l) (hAc : A.length ≤ c) (hc2 : c ≤ 9223372036854775807)
    (ha : a = none → A.length = 0 ∧ c = 0) (hSA : Bs w a A) (hSL : Bs w b L) (hL : Liv w) :
    Calls Tryz.prog 5 #[.slice a A.length c, .agg #[.int .i64 (p : Int), .int .i64 (l : Int)], .slice b L.length d] w fun e w' => e = .returned (.bool true) ∧ Below w.heap.size w w' := by
  have hwi : wi A.length (p : Int) (l : Int) = 0 := by unfold wi; rw [if_neg (by omega), if_neg (by omega)]
  have B0 := Lib.hid (fun o1 => (Below.refl w.heap.size w).alloc (Nat.le_refl _) o1)
  have HL := Lib.hid hL
  have CA := Lib.hid (fun w' (h : Below w.heap.size w w') => conv_str w' a A c (hSA.keep h))
  have CB := Lib.hid (fun w' (h : Below w.heap.size w w') => conv_str w' b L d (hSL.keep h))
  have CG := Lib.hid (fun w' (h : Below w.heap.size w w') => get_ok a c p l A w' hN hpl hAc hc2 ha (hSA.keep h))
  have CP := Lib.hid (fun w => put_bad2 a b A.length c L.length d (p : Int) (l : Int) w (by omega) (by omega) (by unfold IR; omega) (by unfold IR; omega) hwi (by omega))
  have CO := Lib.hid (fun (w' : World) x (h : Bs w' x (sub A p l)) => by have := conv_str w' x (sub A p l) l h; rw [sub_len hpl] at this; exact this)
  have hex := str_extract A p (p + l)
  rw [Nat.add_sub_cancel_left] at hex
  have hsz := str_size A
  obtain ⟨S2, hS2⟩ : ∃ S2, S2 = str (sub A p l) := ⟨_, rfl⟩
  rw [← hS2] at CO hex
  obtain ⟨S0, hS0⟩ : ∃ S0, S0 = str A := ⟨_, rfl⟩
  obtain ⟨S1, hS1⟩ : ∃ S1, S1 = str L := ⟨_, rfl⟩
  rw [← hS0] at CA hex hsz
  rw [← hS1] at CB
  have BS := Lib.hid hS2
  clear hS0 hS1 hSA hSL hL hwi hS2 ha
  obtain ⟨T, hT⟩ : ∃ T, T = sub A p l := ⟨_, rfl⟩
  rw [← hT] at CO CG BS
  clear hT
  generalize A.length = N at *
  generalize L.length = M at *
  have c0 : ∀ q, (convert 27 9 (.slice a N c)).run Tryz.prog ((w.alloc (.cells #[.int .i64 (p : Int), .int .i64 (l : Int)] 23)).drewN q) = .ok (.string S0) ((w.alloc (.cells #[.int .i64 (p : Int), .int .i64 (l : Int)] 23)).drewN q) := fun q => CA.out _ (below_drewN (B0.out _) q)
  have c1 : ∀ q, (convert 27 9 (.slice b M d)).run Tryz.prog ((w.alloc (.cells #[.int .i64 (p : Int), .int .i64 (l : Int)] 23)).drewN q) = .ok (.string S1) ((w.alloc (.cells #[.int .i64 (p : Int), .int .i64 (l : Int)] 23)).drewN q) := fun q => CB.out _ (below_drewN (B0.out _) q)
  have c0' := c0 0
  have c1' := c1 0
  have hM1 : ((M : Int) == (l : Int)) = false := by simp; omega
  have hM2 : ((M : Int) != (l : Int)) = true := by simp; omega
  go_enter Tryz.func5, Tryz.ntmps5
  go_wp2_with fail
  go_quiet (fail)
  go_wp2_with fail
  refine (CG.out _ (below_drewN (B0.out _) _)).mono ?_
  rintro e w1 ⟨x, rfl, hb1, hx⟩
  obtain ⟨k0, k1⟩ := cells2d hb1
  have B1 := Lib.hid ((below_drewN (B0.out _) _).trans (hb1.mono (by simp)))
  clear hb1 c0 c1 c0' c1'
  have hlt : w.heap.size < w1.heap.size := cell_lt k0
  have BX := Lib.hid hx
  have c4 : ∀ q, (convert 27 9 (.slice x l l)).run Tryz.prog (w1.drewN q) = .ok (.string S2) (w1.drewN q) := fun q => CO.out (w1.drewN q) x hx
  have c4' := c4 0
  clear hx
  go_wp2_with fail
  go_quiet (fail)
  go_wp2_with fail
  refine (CP.out _).mono ?_
  rintro e w2 ⟨rfl, hb2⟩
  have B2 := Lib.hid ((below_drewN B1.out _).trans (hb2.mono (Nat.le_of_lt hlt)))
  have c2 := CA.out _ B2.out
  have c3 := CB.out _ B2.out
  go_wp2_with fail
  refine (HL.out _ B2.out).mono ?_
  rintro e w3 ⟨rfl, hb3⟩
  have B3 := Lib.hid (B2.out.trans (hb3.mono B2.out.size))
  clear hb3
  go_wp2_with fail
  go_ret
  exact ⟨rfl, B3.out⟩
end Go.Proofs.L11

/-
  S5: the places that Changed returns lie in the place that was put.
-/
namespace Go.Proofs.Chg
theorem rv_all {D : Nat → Bool} : ∀ (i : Nat) (s e : Nat), (s, e) ∈ rv D i → 1 ≤ e ∧ ∀ m, m < e → D (s + m) = true
  | 0, s, e, h => by simp [rv] at h
  | i + 1, s, e, h => by
    have ih := rv_all (D := D) i
    have h1 : ∀ e', e' = 1 → D i = true → 1 ≤ e' ∧ ∀ m, m < e' → D (i + m) = true := by
      intro e' he hd
      subst he
      exact ⟨Nat.le_refl _, fun m hm => by have : m = 0 := by omega
                                           rw [this]; exact hd⟩
    simp only [rv] at h
    split at h
    · rename_i hd
      split at h
      · rename_i s' l' t' h'
        split at h
        · rename_i he
          rcases List.mem_cons.1 h with h | h
          · simp only [Prod.mk.injEq] at h
            obtain ⟨rfl, rfl⟩ := h
            have := ih s l' (by rw [h']; exact List.mem_cons_self)
            refine ⟨by omega, fun m hm => ?_⟩
            rcases Nat.lt_or_ge m l' with hm' | hm'
            · exact this.2 m hm'
            · have : s + m = i := by omega
              rw [this]; exact hd
          · exact ih s e (by rw [h']; exact List.mem_cons_of_mem _ h)
        · rcases List.mem_cons.1 h with h | h
          · simp only [Prod.mk.injEq] at h
            obtain ⟨rfl, rfl⟩ := h
            exact h1 _ rfl hd
          · exact ih s e (by rw [h']; exact h)
      · simp only [List.mem_singleton, Prod.mk.injEq] at h
        obtain ⟨rfl, rfl⟩ := h
        exact h1 _ rfl hd
    · exact ih s e h
end Go.Proofs.Chg
namespace Go.Proofs.L11
open Go Go.Proofs Go.RowKit Go.Proofs.Chg
set_option maxRecDepth 100000
theorem R_in {A G : Nat → Int} {N p l : Nat} (h : ∀ k, k < N → ¬ (p ≤ k ∧ k < p + l) → A k = G k) : ∀ (j s e : Nat), (R (Df A G) N)[j]? = some (s, e) → p ≤ s ∧ s + e ≤ p + l ∧ s + e ≤ N := by
  intro j s e hj
  have hm : (s, e) ∈ rv (Df A G) N := by have := List.mem_of_getElem? hj; unfold R at this; exact List.mem_reverse.1 this
  have h1 := rv_all N s e hm
  have h2 := rv_mem N _ hm
  simp only at h2
  have key : ∀ m, m < e → p ≤ s + m ∧ s + m < p + l := by
    intro m hm'
    by_cases hc : p ≤ s + m ∧ s + m < p + l
    · exact hc
    · have := h (s + m) (by omega) hc
      have hd := h1.2 m hm'
      rw [Df_eq this] at hd; cases hd
  have k0 := key 0 (by omega)
  have k1 := key (e - 1) (by omega)
  omega
/-- The bytes that Put makes. -/
def putB (A L : List Int) (p : Nat) : List Int := A.take p ++ L ++ A.drop (p + L.length)
theorem putB_len {A L : List Int} {p : Nat} (h : p + L.length ≤ A.length) : (putB A L p).length = A.length := by
  unfold putB; simp; omega
theorem putB_sub {A L : List Int} {p : Nat} (h : p + L.length ≤ A.length) : sub (putB A L p) p L.length = L := by
  unfold putB sub
  have hp : (A.take p).length = p := by simp; omega
  rw [List.append_assoc, List.drop_append, List.drop_of_length_le (by omega), hp, Nat.sub_self]
  simp
theorem putB_str {A L : List Int} {p : Nat} (_h : p + L.length ≤ A.length) : (str A).extract 0 p ++ str L ++ (str A).extract (p + L.length) A.length = str (putB A L p) := by
  rw [str_extract, str_extract, ← str_append, ← str_append]
  unfold putB sub
  congr 1
  rw [List.drop_zero, Nat.sub_zero, List.take_of_length_le (l := List.drop (p + L.length) A) (by simp)]
theorem putB_get {A L : List Int} {p k : Nat} (h : p + L.length ≤ A.length) (hk : ¬ (p ≤ k ∧ k < p + L.length)) : A.getD k 0 = (putB A L p).getD k 0 := by
  unfold putB
  have hp : (A.take p).length = p := by simp; omega
  simp only [List.getD]
  congr 1
  rcases Nat.lt_or_ge k p with h1 | h1
  · rw [List.append_assoc, List.getElem?_append_left (by omega), List.getElem?_take, if_pos h1]
  · have h2 : p + L.length ≤ k := by omega
    rw [List.getElem?_append_right (by rw [List.length_append]; omega), List.length_append, hp, List.getElem?_drop]
    congr 1; omega
theorem row_bs {w : World} {g : Nat} {G : List Int} (h : w.heap[g]? = some (.cells (G.map (Value.int .u8)).toArray 5 (0, 0))) : Bs w (some ⟨g, 0, none⟩) G := by
  intro h0
  refine ⟨g, 0, rfl, ?_, fun t ht => ?_⟩
  · rcases Nat.lt_or_ge g w.heap.size with h' | h'
    · exact h'
    · rw [Array.getElem?_eq_none h'] at h; cases h
  · rw [cell_of_row w g (0 + t) _ 5 (0, 0) h, Nat.zero_add, List.getElem?_toArray, List.getElem?_map, List.getElem?_eq_getElem ht, List.getD, List.getElem?_eq_getElem ht]; rfl
theorem row_own {w : World} {g B : Nat} {G : List Int} (hB : B ≤ g) (hG : G.length ≤ 300) (h : w.heap[g]? = some (.cells (G.map (Value.int .u8)).toArray 5 (0, 0))) : w.ownsRow B 5 1 (.slice (some ⟨g, 0, none⟩) G.length G.length) G.length (G.map (Value.int .u8)) :=
  ⟨by simp, .inr ⟨g, G.length, _, rfl, hB, h, Nat.le_refl _, by unfold maxLen; omega, by simp, by rw [List.toList_toArray]; exact List.take_of_length_le (by simp)⟩⟩
theorem changed_ok (a : Option Addr) (g c p l : Nat) (A G : List Int) (w : World) (hG : G.length = A.length) (hN : A.length ≤ 300) (hSA : Bs w a A) (hSG : Bs w (some ⟨g, 0, none⟩) G)
    (h : ∀ k, ¬ (p ≤ k ∧ k < p + l) → A.getD k 0 = G.getD k 0) :
    Calls Tryz.prog 8 #[.slice a A.length c, .slice (some ⟨g, 0, none⟩) A.length A.length] w fun e w' => ∃ (v : Value) (n : Nat) (S E : Nat → Nat), e = .returned (.tuple #[v, .int .i64 0]) ∧ Below w.heap.size w w' ∧ n ≤ 300 ∧
      (n = 0 ∧ v = .slice none 0 0 ∨ ∃ g', v = .slice (some ⟨g', 0, none⟩) n n ∧ ∀ j, j < n → w'.cell? ⟨g', j * 2, none⟩ = some (.int .i64 (S j)) ∧ w'.cell? ⟨g', j * 2 + 1, none⟩ = some (.int .i64 (E j))) ∧
      ∀ j, j < n → p ≤ S j ∧ S j + E j ≤ p + l ∧ S j + E j ≤ 300 := by
  by_cases h0 : A.length = 0
  · rw [h0]
    refine (changed_zero a _ c 0 w).mono ?_
    rintro e w' ⟨rfl, rfl⟩
    exact ⟨_, 0, fun _ => 0, fun _ => 0, rfl, Below.refl _ _, by omega, .inl ⟨rfl, rfl⟩, fun j hj => absurd hj (Nat.not_lt_zero _)⟩
  · obtain ⟨ba, oa, rfl, hba, hA⟩ := hSA (by omega)
    obtain ⟨bg, og, eg, hbg, hGc⟩ := hSG (by omega)
    cases eg
    refine (changed_any ba oa c g 0 A.length A.length (fun k => A.getD k 0) (fun k => G.getD k 0) w (by omega) hN hba hbg hA (fun k hk => hGc k (by omega))).mono ?_
    rintro e w' ⟨v, rfl, hb, hv⟩
    have hin := R_in (N := A.length) (A := fun k => A.getD k 0) (G := fun k => G.getD k 0) (p := p) (l := l) (fun k _ hk => h k hk)
    have hlen : (R (Df (fun k => A.getD k 0) (fun k => G.getD k 0)) A.length).length ≤ 300 := by
      have := rv_len (D := Df (fun k => A.getD k 0) (fun k => G.getD k 0)) A.length
      unfold R; simp only [List.length_reverse]; omega
    generalize R (Df (fun k => A.getD k 0) (fun k => G.getD k 0)) A.length = rs at *
    have hget : ∀ j, j < rs.length → rs[j]? = some ((rs.getD j (0, 0)).1, (rs.getD j (0, 0)).2) := by
      intro j hj; rw [List.getD, List.getElem?_eq_getElem hj]; rfl
    refine ⟨v, rs.length, fun j => (rs.getD j (0, 0)).1, fun j => (rs.getD j (0, 0)).2, rfl, hb, hlen, ?_, fun j hj => ?_⟩
    · rcases hv with ⟨h1, h2⟩ | ⟨g', h1, h2, h3⟩
      · exact .inl ⟨by rw [h1]; rfl, h2⟩
      · refine .inr ⟨g', h1, fun j hj => ?_⟩
        have := cl_get rs j _ _ (hget j hj)
        exact ⟨h3 _ _ this.1, h3 _ _ this.2⟩
    · have := hin j _ _ (hget j hj)
      exact ⟨this.1, this.2.1, Nat.le_trans this.2.2 hN⟩
end Go.Proofs.L11
