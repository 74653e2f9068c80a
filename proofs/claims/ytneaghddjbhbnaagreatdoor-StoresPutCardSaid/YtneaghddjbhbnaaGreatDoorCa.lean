/-
  C0: the places at which two texts differ: what the loop collects, and the longest runs. Plain.
-/
import Derived.Test.YtneaghddjbhbnaaGreatDoorOa
import Derived.Laws.OwnMore
import Derived.LoopTactic
import Derived.OwnWalk
import Derived.WalkSmall
namespace Go.Proofs.Chg
/-- What has been collected ahead of place i, the last one first. -/
def rv (D : Nat → Bool) : Nat → List (Nat × Nat)
  | 0 => []
  | i + 1 => if D i then (match rv D i with
      | (s, l) :: t => if s + l = i then (s, l + 1) :: t else (i, 1) :: (s, l) :: t
      | [] => [(i, 1)]) else rv D i
def R (D : Nat → Bool) (i : Nat) : List (Nat × Nat) := (rv D i).reverse
variable {D : Nat → Bool}
theorem rv_succ (D : Nat → Bool) (i : Nat) : rv D (i + 1) = if D i then (match rv D i with
      | (s, l) :: t => if s + l = i then (s, l + 1) :: t else (i, 1) :: (s, l) :: t
      | [] => [(i, 1)]) else rv D i := rfl
theorem rv_same {i : Nat} (h : D i = false) : rv D (i + 1) = rv D i := by simp [rv, h]
theorem R_same {i : Nat} (h : D i = false) : R D (i + 1) = R D i := by unfold R; rw [rv_same h]
theorem rv_end : ∀ (i : Nat) (s l : Nat) (t : List (Nat × Nat)), rv D i = (s, l) :: t → s + l ≤ i ∧ 1 ≤ l
  | 0, _, _, _, h => by simp [rv] at h
  | i + 1, s, l, t, h => by
    simp only [rv] at h
    split at h
    · split at h
      · rename_i s' l' t' h'
        have := rv_end i s' l' t' h'
        split at h
        · simp only [List.cons.injEq, Prod.mk.injEq] at h; obtain ⟨⟨rfl, rfl⟩, _⟩ := h; omega
        · simp only [List.cons.injEq, Prod.mk.injEq] at h; obtain ⟨⟨rfl, rfl⟩, _⟩ := h; omega
      · simp only [List.cons.injEq, Prod.mk.injEq] at h; obtain ⟨⟨rfl, rfl⟩, _⟩ := h; omega
    · have := rv_end i s l t h; omega
theorem rv_len : ∀ (i : Nat), (rv D i).length ≤ i
  | 0 => by simp [rv]
  | i + 1 => by
    have ih := rv_len i
    simp only [rv]
    split
    · split
      · rename_i h; rw [h] at ih; split <;> simp at ih ⊢ <;> omega
      · simp
    · omega
theorem rv_mem : ∀ (i : Nat) (p : Nat × Nat), p ∈ rv D i → p.1 + p.2 ≤ i
  | 0, p, h => by simp [rv] at h
  | i + 1, p, h => by
    simp only [rv] at h
    split at h
    · split at h
      · rename_i s' l' t' h'
        have h2 : ∀ q, q ∈ (s', l') :: t' → q.1 + q.2 ≤ i := fun q hq => rv_mem i q (by rw [h']; exact hq)
        split at h
        · rcases List.mem_cons.1 h with rfl | h
          · have := h2 (s', l') List.mem_cons_self; simp only at this ⊢; omega
          · have := h2 p (List.mem_cons_of_mem _ h); omega
        · rcases List.mem_cons.1 h with rfl | h
          · simp
          · have := h2 p h; omega
      · simp at h; subst h; simp
    · have := rv_mem i p h; omega
/-- At place i no collected run can go on. -/
def Closed (D : Nat → Bool) (i : Nat) : Prop := ∀ s l t, rv D i = (s, l) :: t → s + l = i → D i = false
theorem rv_run {i : Nat} (hc : Closed D i) : ∀ (j : Nat), (∀ m, m ≤ j → D (i + m) = true) → rv D (i + (j + 1)) = (i, j + 1) :: rv D i
  | 0, h => by
    have h0 : D i = true := h 0 (Nat.le_refl _)
    show rv D (i + 1) = _
    simp only [rv, h0, if_true]
    split
    · rename_i s l t he
      rw [if_neg (fun e => by have := hc s l t he e; rw [h0] at this; cases this), he]
    · rename_i he; rw [he]
  | j + 1, h => by
    have ih := rv_run hc j fun m hm => h m (by omega)
    have h0 : D (i + (j + 1)) = true := h (j + 1) (Nat.le_refl _)
    rw [show i + (j + 1 + 1) = i + (j + 1) + 1 by omega, rv_succ, ih, h0]
    simp
/-- What is collected up to a place where nothing goes on stays. -/
theorem rv_stays {i : Nat} (hi : D i = false) : ∀ (j : Nat), ∃ t, rv D (i + 1 + j) = t ++ rv D i
  | 0 => ⟨[], by rw [Nat.add_zero, rv_same hi]; rfl⟩
  | j + 1 => by
    obtain ⟨t, ht⟩ := rv_stays hi j
    show ∃ t, rv D (i + 1 + j + 1) = t ++ rv D i
    simp only [rv]
    split
    · rw [ht]
      cases t with
      | nil =>
        simp only [List.nil_append]
        split
        · rename_i s l u hu
          have := (rv_end _ _ _ _ hu).1
          rw [if_neg (by omega)]
          exact ⟨[(i + 1 + j, 1)], by rw [← hu]; rfl⟩
        · rename_i hu; exact ⟨[(i + 1 + j, 1)], by rw [hu]; rfl⟩
      | cons p t =>
        obtain ⟨s, l⟩ := p
        simp only [List.cons_append]
        split
        · exact ⟨(s, l + 1) :: t, rfl⟩
        · exact ⟨(i + 1 + j, 1) :: (s, l) :: t, rfl⟩
    · exact ⟨t, ht⟩
theorem R_prefix {i N : Nat} (h : i ≤ N) (hi : i = N ∨ D i = false) : ∃ t, R D N = R D i ++ t := by
  by_cases he : i = N
  · subst he; exact ⟨[], by simp⟩
  · have hi : D i = false := hi.resolve_left he
    obtain ⟨t, ht⟩ := rv_stays hi (N - (i + 1))
    rw [show i + 1 + (N - (i + 1)) = N by omega] at ht
    exact ⟨t.reverse, by unfold R; rw [ht, List.reverse_append]⟩
/-- The run that begins at a place. -/
theorem R_run {i n N : Nat} (hc : Closed D i) (hn : 0 < n) (hN : i + n ≤ N) (hd : ∀ m, m < n → D (i + m) = true) (he : i + n = N ∨ D (i + n) = false) :
    (R D N)[(R D i).length]? = some (i, n) ∧ (R D (i + n)).length = (R D i).length + 1 ∧ (D (i + n) = false → Closed D (i + n)) := by
  obtain ⟨j, rfl⟩ : ∃ j, n = j + 1 := ⟨n - 1, by omega⟩
  have h1 := rv_run hc j fun m hm => hd m (by omega)
  obtain ⟨t, ht⟩ := R_prefix hN he
  have h2 : R D (i + (j + 1)) = R D i ++ [(i, j + 1)] := by unfold R; rw [h1, List.reverse_cons]
  refine ⟨by rw [ht, h2]; simp, by rw [h2]; simp, fun hf s l u _ _ => hf⟩
theorem closed_zero : Closed D 0 := fun s l t h => by simp [rv] at h
theorem closed_succ {i : Nat} (h : D i = false) : Closed D (i + 1) := fun s l t he hs => by
  rw [rv_same h] at he
  have := (rv_end _ _ _ _ he).1
  omega
end Go.Proofs.Chg

namespace Go.Proofs.L11
open Go Go.Proofs Go.RowKit Go.Proofs.Chg
set_option maxRecDepth 100000
def cl (l : List (Nat × Nat)) : List Value := l.flatMap fun p => [.int .i64 (p.1 : Int), .int .i64 (p.2 : Int)]
theorem clip_nil (w : World) : Calls Tryz.prog 16 #[.slice none 0 0] w fun e w' => e = .returned (.slice none 0 0) ∧ w = w' := by
  go_enter Tryz.func16, Tryz.ntmps16
  go_wp2
  go_ret
  exact ⟨rfl, rfl⟩
theorem clip_some (b L C : Nat) (w : World) (h : L ≤ C) : Calls Tryz.prog 16 #[.slice (some ⟨b, 0, none⟩) L C] w fun e w' => e = .returned (.slice (some ⟨b, 0, none⟩) L L) ∧ w = w' := by
  go_enter Tryz.func16, Tryz.ntmps16
  go_wp2
  go_ret
  exact ⟨rfl, rfl⟩
theorem Tryz.info23 : (Tryz.prog.info? 23).map (fun i => (i.zero, i.size, i.bytes)) = some (some (.agg #[.int .i64 0, .int .i64 0]), 2, 16) := by kernel_rfl

def Df (A B : Nat → Int) (k : Nat) : Bool := !(A k == B k)
theorem Df_eq {A B : Nat → Int} {k : Nat} (h : A k = B k) : Df A B k = false := by simp [Df, h]
theorem Df_ne {A B : Nat → Int} {k : Nat} (h : ¬ A k = B k) : Df A B k = true := by simpa [Df] using h
theorem own_drewN {w : World} {base e size n : Nat} {v : Value} {xs : List Value} (h : w.ownsRow base e size v n xs) (m : Nat) : (w.drewN m).ownsRow base e size v n xs := h
theorem R_push {D : Nat → Bool} {k : Nat} (h : D k = true) (hn : ∀ s l t, rv D k = (s, l) :: t → s + l ≠ k) : R D (k + 1) = R D k ++ [(k, 1)] := by
  unfold R
  rw [rv_succ, h]
  simp only [if_true]
  cases he : rv D k with
  | nil => rfl
  | cons p t => obtain ⟨s, l⟩ := p; simp only; rw [if_neg (hn s l t he)]; simp
theorem R_more {D : Nat → Bool} {k s l : Nat} {R' : List (Nat × Nat)} (h : D k = true) (hr : R D k = R' ++ [(s, l)]) (he : s + l = k) : R D (k + 1) = R' ++ [(s, l + 1)] := by
  have e : rv D k = (s, l) :: R'.reverse := by have := congrArg List.reverse hr; simpa [R] using this
  unfold R
  rw [rv_succ, h, e]
  simp only [if_true]
  rw [if_pos he]
  simp
theorem R_last {D : Nat → Bool} {k s l : Nat} {R' : List (Nat × Nat)} (hr : R D k = R' ++ [(s, l)]) : ∀ s' l' t, rv D k = (s', l') :: t → s' = s ∧ l' = l := by
  intro s' l' t h
  have e : rv D k = (s, l) :: R'.reverse := by have := congrArg List.reverse hr; simpa [R] using this
  rw [e] at h
  simp only [List.cons.injEq, Prod.mk.injEq] at h
  exact ⟨h.1.1.symm, h.1.2.symm⟩
theorem cl_append (a b : List (Nat × Nat)) : cl (a ++ b) = cl a ++ cl b := by simp [cl]
theorem cl_len : ∀ (a : List (Nat × Nat)), (cl a).length = a.length * 2
  | [] => rfl
  | p :: a => by
    have := cl_len a
    simp only [cl, List.flatMap_cons, List.length_append, List.length_cons, List.length_nil] at this ⊢
    omega
theorem split_last {α : Type} (l : List α) (h : l ≠ []) : ∃ l' x, l = l' ++ [x] := ⟨l.dropLast, l.getLast h, (List.dropLast_concat_getLast h).symm⟩
theorem cell_new2 (w : World) (x0 x1 : Value) (t : TypeId) : ∀ j u, [x0, x1][j]? = some u → (w.alloc (.cells #[x0, x1] t)).cell? ((⟨w.heap.size, 0, none⟩ : Addr).add j) = some u := by
  intro j u hj
  have e : (w.alloc (.cells #[x0, x1] t)).heap[w.heap.size]? = some (.cells #[x0, x1] t) := by
    show (w.heap.push _)[w.heap.size]? = _
    rw [Array.getElem?_push, if_pos rfl]
  match j, hj with
  | 0, hj => simp at hj; subst hj; unfold World.cell?; rw [show ((⟨w.heap.size, 0, none⟩ : Addr).add 0) = ⟨w.heap.size, 0, none⟩ by simp [Addr.add]]; simp only; rw [e]; rfl
  | 1, hj => simp at hj; subst hj; unfold World.cell?; rw [show ((⟨w.heap.size, 0, none⟩ : Addr).add 1) = ⟨w.heap.size, 1, none⟩ by simp [Addr.add]]; simp only; rw [e]; rfl
theorem cl_set (R' : List (Nat × Nat)) (s l : Nat) : (cl (R' ++ [(s, l)])).set (R'.length * 2 + 1) (.int .i64 ((l : Int) + 1)) = cl (R' ++ [(s, l + 1)]) := by
  rw [cl_append, cl_append, List.set_append_right _ _ (by rw [cl_len]; omega), cl_len]
  simp [cl]
theorem below_append {w wr w1 : World} {v : Value} {e n : Nat} {xs : List Value} {o : Obj} {q : Nat} (hb : Below w.heap.size w wr) (hown : wr.ownsRow w.heap.size e 2 v n xs)
    (hg : ((wr.drewN q).alloc o).grownBy w1 v.ownBlock) : Below w.heap.size w w1 := by
  have h1 := (below_drewN hb q).alloc (by simpa using hb.size) o
  refine h1.grown hg (by have := hb.size; simp; omega) ?_
  intro k hk
  exact (hown.lt k hk).1
/-- The slice that was collected. -/
def ChgV (B : Nat) (w : World) (v : Value) (r : List (Nat × Nat)) : Prop :=
  (r = [] ∧ v = .slice none 0 0) ∨ ∃ g, v = .slice (some ⟨g, 0, none⟩) r.length r.length ∧ B ≤ g ∧ ∀ j u, (cl r)[j]? = some u → w.cell? ⟨g, j, none⟩ = some u
set_option maxHeartbeats 4000000 in
theorem changed_any (ba oa ca bb ob cb N : Nat) (A B : Nat → Int) (w : World) (hN : 0 < N) (hN3 : N ≤ 300) (hba : ba < w.heap.size) (hbb : bb < w.heap.size)
    (hA : ∀ k, k < N → w.cell? ⟨ba, oa + k, none⟩ = some (.int .u8 (A k))) (hB : ∀ k, k < N → w.cell? ⟨bb, ob + k, none⟩ = some (.int .u8 (B k))) :
    Calls Tryz.prog 8 #[.slice (some ⟨ba, oa, none⟩) N ca, .slice (some ⟨bb, ob, none⟩) N cb] w fun e w' =>
      ∃ v, e = .returned (.tuple #[v, .int .i64 0]) ∧ Below w.heap.size w w' ∧ ChgV w.heap.size w' v (R (Df A B) N) := by
  obtain ⟨i0, hi, hz0, hz1, hz2⟩ := info_parts Tryz.info23
  have HA := Lib.hid hA; have HB := Lib.hid hB
  clear hA hB
  go_enter Tryz.func8, Tryz.ntmps8
  go_wp2
  go_loopw [6, 16] (fun v i wr => ∃ k : Nat, k ≤ N ∧ i = .int .i64 k ∧ wr.ownsRow w.heap.size 23 2 v (R (Df A B) k).length (cl (R (Df A B) k)) ∧ Below w.heap.size w wr ∧ (R (Df A B) k = [] → v = .slice none 0 0))
    (fun _ i _ => N - (intOf i).toNat)
  case atStart => exact ⟨0, Nat.zero_le _, rfl, World.ownsRow_nil _ _ _ _, Below.refl _ _, fun _ => rfl⟩
  case round =>
    obtain ⟨k, hk, rfl, hown, hbl, hnil⟩ := hrel
    by_cases hlt : k < N
    · have ha : wr.cell? ⟨ba, oa + k, none⟩ = some (.int .u8 (A k)) := (hbl.cell (by exact hba)).trans (HA.out k hlt)
      have hb : wr.cell? ⟨bb, ob + k, none⟩ = some (.int .u8 (B k)) := (hbl.cell (by exact hbb)).trans (HB.out k hlt)
      have OWN := Lib.hid hown; have NIL := Lib.hid hnil; have BL := Lib.hid hbl
      have hshape := hown.2
      clear hown hnil hbl
      have hlti : (k : Int) < (N : Int) := by omega
      rcases hshape with ⟨rfl, hz⟩ | ⟨g, cap, cur, rfl, hbg, hcur, hncap, hcapm, hcsz, htk⟩
      · -- nothing has been collected
        clear hz
        by_cases he : A k = B k
        · have heq : (A k == B k) = true := by simpa using he
          go_wp2
          go_quiet (fail)
          go_wp2
          go_roundw
          case rel => exact ⟨k + 1, by omega, by go_num, by rw [R_same (Df_eq he)]; exact own_drewN OWN.out _, below_drewN BL.out _, fun _ => rfl⟩
          case measure => simp [intOf]; omega
        · have heq : (A k == B k) = false := by simpa using he
          go_wp2
          go_quiet (fail)
          go_wp2
          go_quiet (fail)
          go_wp2_with (at_builtin; refine wpList_append_own _ rfl _ _ 28 rfl w.heap.size 23 i0 (.agg #[.int .i64 0, .int .i64 0]) 2 16 Tryz.underlying28 hi hz0 hz1 hz2 rfl (by decide) _ _ _ rfl ((own_drewN OWN.out _).alloc _) ⟨wr.heap.size, 0, none⟩ 1 1 [.int .i64 (k : Int), .int .i64 1] rfl rfl ?c1 ?c2 ?c3 ?c4 ?c5 ?_)
          case c1 => exact cell_new2 (wr.drewN _) _ _ 23
          case c2 => intro u hu; simp at hu; rcases hu with rfl | rfl <;> rfl
          case c3 => have := rv_len (D := Df A B) k; unfold maxLen R; simp; omega
          case c4 => have := rv_len (D := Df A B) k; unfold R; simp; omega
          case c5 => have := BL.out.size; simp; omega
          intro v' w1 hown' hgrow hnil'
          have hR0 : R (Df A B) k = [] := by
            have h1 := OWN.out.2
            rcases h1 with ⟨_, h1⟩ | ⟨_, _, _, h1, _⟩
            · exact List.length_eq_zero_iff.1 h1
            · cases h1
          have hpush := R_push (Df_ne he) (fun s l t h => by have : rv (Df A B) k = [] := by simpa [R] using hR0
                                                             rw [this] at h; cases h)
          have hown2 : w1.ownsRow w.heap.size 23 2 v' (R (Df A B) (k + 1)).length (cl (R (Df A B) (k + 1))) := by
            rw [hpush, cl_append, List.length_append]; exact hown'
          have hbl2 := below_append BL.out OWN.out hgrow
          have H2 := Lib.hid hown2; have H3 := Lib.hid hbl2; have H4 := Lib.hid hpush
          clear hown' hgrow hnil' hown2 hbl2 hpush hR0
          go_wp2
          go_roundw
          case rel => exact ⟨k + 1, by omega, by go_num, H2.out, H3.out, fun h => by rw [H4.out] at h; simp at h⟩
          case measure => simp [intOf]; omega
      · -- something has been collected
        have hne : R (Df A B) k ≠ [] := fun h => by have := NIL.out h; cases this
        obtain ⟨R', ⟨s, l⟩, hR⟩ := split_last _ hne
        have hL : (R (Df A B) k).length = R'.length + 1 := by rw [hR]; simp
        have hend := rv_end (D := Df A B) k s l R'.reverse (by have := congrArg List.reverse hR; simpa [R] using this)
        have hown := OWN.out
        have hlen := rv_len (D := Df A B) k
        have hs : wr.cell? ⟨g, R'.length * 2, none⟩ = some (.int .i64 (s : Int)) := by
          rw [hown.cellAt _ (by rw [hL]; omega), hR, cl_append, List.getElem?_append_right (by rw [cl_len]; exact Nat.le_refl _), cl_len]; simp [cl]
        have hl : wr.cell? ⟨g, R'.length * 2 + 1, none⟩ = some (.int .i64 (l : Int)) := by
          rw [hown.cellAt _ (by rw [hL]; omega), hR, cl_append, List.getElem?_append_right (by rw [cl_len]; omega), cl_len]; simp [cl]
        have hf : wr.frozen? ⟨g, R'.length * 2 + 1, none⟩ = false := hown.frozenAt _
        have hm : R'.length ≤ 300 := by have : (rv (Df A B) k).length = R'.length + 1 := by rw [← hL]; simp [R]
                                        omega
        have ownm : wr.ownsRow w.heap.size 23 2 (.slice (some ⟨g, 0, none⟩) (R'.length + 1) cap) (R (Df A B) k).length (cl (R (Df A B) k)) := by rw [← hL]; exact hown
        have HR := Lib.hid hR; have HL := Lib.hid hL; have HE := Lib.hid hend; have OWNM := Lib.hid ownm; have HNE := Lib.hid hne; have HBG := Lib.hid hbg
        clear ownm
        have CS := Lib.hid hs; have CL := Lib.hid hl; have CF := Lib.hid hf
        rw [hL]
        obtain ⟨m, hmR⟩ : ∃ m, m = R'.length := ⟨_, rfl⟩
        rw [← hmR] at hs hl hf hm HL OWNM ⊢
        have HMR := Lib.hid hmR
        clear hmR
        clear hown hne hL hR hlen htk hcsz hcapm hncap hcur hbg
        have hse : s ≤ 300 ∧ l ≤ 300 := by have := HE.out; omega
        clear hend
        by_cases he : A k = B k
        · have heq : (A k == B k) = true := by simpa using he
          clear hs hl hf
          go_wp2
          go_quiet (fail)
          go_wp2
          go_roundw
          case rel => exact ⟨k + 1, by omega, by go_num, by rw [R_same (Df_eq he)]; exact own_drewN OWNM.out _, below_drewN BL.out _, by rw [R_same (Df_eq he)]; exact fun h => absurd h HNE.out⟩
          case measure => simp [intOf]; omega
        · have heq : (A k == B k) = false := by simpa using he
          by_cases hsl : s + l = k
          · have hsl1 : (((s : Int) + (l : Int)) == (k : Int)) = true := by simp; omega
            go_wp2
            go_quiet (fail)
            go_wp2
            go_quiet (fail)
            go_wp2
            go_roundw
            case rel =>
              have hmore := R_more (Df_ne he) HR.out hsl
              have h0 : wr.ownsRow w.heap.size 23 2 (.slice (some ⟨g, 0, none⟩) (m + 1) cap) (m + 1) (cl (R (Df A B) k)) := by have := OWNM.out; rw [HL.out] at this; exact this
              have h1 := fun q : Nat => (own_drewN h0 q).stored (m * 2 + 1) (.int .i64 ((l : Int) + 1))
              refine ⟨k + 1, by omega, by go_num, ?_, (below_drewN BL.out _).setCell (by exact HBG.out) _, fun h => by rw [hmore] at h; simp at h⟩
              have e1 : (R (Df A B) (k + 1)).length = (R (Df A B) k).length := by rw [hmore, HR.out]; simp
              have e2 : cl (R (Df A B) (k + 1)) = (cl (R (Df A B) k)).set (m * 2 + 1) (.int .i64 ((l : Int) + 1)) := by rw [hmore, HR.out, HMR.out]; exact (cl_set R' s l).symm
              rw [e1, e2, HL.out]
              exact (h1 _).1
            case measure => simp [intOf]; omega
          · have hsl1 : (((s : Int) + (l : Int)) == (k : Int)) = false := by simp; omega
            go_wp2
            go_quiet (fail)
            go_wp2
            go_quiet (fail)
            go_wp2_with (at_builtin; refine wpList_append_own _ rfl _ _ 28 rfl w.heap.size 23 i0 (.agg #[.int .i64 0, .int .i64 0]) 2 16 Tryz.underlying28 hi hz0 hz1 hz2 rfl (by decide) _ _ _ rfl ((own_drewN OWNM.out _).alloc _) ⟨wr.heap.size, 0, none⟩ 1 1 [.int .i64 (k : Int), .int .i64 1] rfl rfl ?c1 ?c2 ?c3 ?c4 ?c5 ?_)
            case c1 => exact cell_new2 (wr.drewN _) _ _ 23
            case c2 => intro u hu; simp at hu; rcases hu with rfl | rfl <;> rfl
            case c3 => rw [HL.out]; unfold maxLen; omega
            case c4 => rw [HL.out]; omega
            case c5 => have := BL.out.size; simp; omega
            intro v' w1 hown' hgrow hnil'
            have hpush := R_push (Df_ne he) (fun s' l' t h => by obtain ⟨rfl, rfl⟩ := R_last HR.out s' l' t h; exact hsl)
            have hown2 : w1.ownsRow w.heap.size 23 2 v' (R (Df A B) (k + 1)).length (cl (R (Df A B) (k + 1))) := by
              rw [hpush, cl_append, List.length_append]; exact hown'
            have hbl2 := below_append BL.out OWNM.out hgrow
            have H2 := Lib.hid hown2; have H3 := Lib.hid hbl2; have H4 := Lib.hid hpush
            clear hown' hgrow hnil' hown2 hbl2 hpush hs hl hf
            go_wp2
            go_roundw
            case rel => exact ⟨k + 1, by omega, by go_num, H2.out, H3.out, fun h => by rw [H4.out] at h; simp at h⟩
            case measure => simp [intOf]; omega
    · obtain rfl : k = N := by omega
      have OWN := Lib.hid hown; have BL := Lib.hid hbl
      have hshape := hown.2
      clear hown hnil hbl
      rcases hshape with ⟨rfl, hz⟩ | ⟨g, cap, cur, rfl, hbg, hcur, hncap, hcapm, hcsz, htk⟩
      · go_wp2_with fail
        refine (clip_nil _).mono ?_
        rintro e w2 ⟨rfl, rfl⟩
        go_wp2_with fail
        go_ret2
        exact ⟨_, rfl, BL.out, .inl ⟨List.length_eq_zero_iff.1 hz, rfl⟩⟩
      · have HC := Lib.hid (fun j (u : Value) (hj : (cl (R (Df A B) k))[j]? = some u) => (OWN.out.cellAt j (by
          have : j < (cl (R (Df A B) k)).length := (List.getElem?_eq_some_iff.1 hj).1
          rw [cl_len] at this; exact this)).trans hj)
        clear hcur hcapm hcsz htk
        go_wp2_with fail
        refine (clip_some g _ cap _ hncap).mono ?_
        rintro e w2 ⟨rfl, rfl⟩
        go_wp2_with fail
        go_ret2
        exact ⟨_, rfl, BL.out, .inr ⟨g, rfl, hbg, HC.out⟩⟩
end Go.Proofs.L11

/-
  C3: the law StoresChanged: the walk.
-/
namespace Go.Proofs.L11
open Go Go.Proofs Go.RowKit Go.Proofs.Chg
set_option maxRecDepth 100000
theorem changed_neq (a b : Option Addr) (N ca M cb : Nat) (w : World) (h : N ≠ M) :
    Calls Tryz.prog 8 #[.slice a N ca, .slice b M cb] w fun e w' => e = .returned (.tuple #[.slice none 0 0, .int .i64 5]) ∧ w = w' := by
  have h1 : ((N : Int) == (M : Int)) = false := by simp; omega
  have h2 : ((N : Int) != (M : Int)) = true := by simp; omega
  go_enter Tryz.func8, Tryz.ntmps8
  go_wp2
  go_ret2
  exact ⟨rfl, rfl⟩
theorem changed_zero (a b : Option Addr) (ca cb : Nat) (w : World) :
    Calls Tryz.prog 8 #[.slice a 0 ca, .slice b 0 cb] w fun e w' => e = .returned (.tuple #[.slice none 0 0, .int .i64 0]) ∧ w = w' := by
  go_enter Tryz.func8, Tryz.ntmps8
  go_wp2
  refine wp_loop_rounds 1 ?_
  rw [rounds_succ]
  go_wp2_with (refine (clip_nil _).mono ?_; rintro e w2 ⟨rfl, rfl⟩)
  go_ret2
  exact ⟨rfl, rfl⟩
set_option maxHeartbeats 4000000 in
theorem chl_big (a b : Option Addr) (N ca M cb : Nat) (w : World) (h : 300 < N ∨ 300 < M) (hN : N ≤ 9223372036854775807) (hM : M ≤ 9223372036854775807)
    (HL : Hid (∀ w', Below w.heap.size w w' → Calls Tryz.prog 7 #[] w' fun e w2 => e = .returned (.bool true) ∧ Below w'.heap.size w' w2)) :
    Calls Tryz.prog 4 #[.slice a N ca, .slice b M cb] w fun e w' => e = .returned (.bool true) ∧ Below w.heap.size w w' := by
  by_cases h1 : 300 < N
  · clear h
    go_enter Tryz.func4, Tryz.ntmps4
    go_wp2_with fail
    refine (HL.out _ (Below.refl _ _)).mono ?_
    rintro e w4 ⟨rfl, hb4⟩
    have B4 := Lib.hid hb4
    clear hb4
    go_wp2_with fail
    go_ret
    exact ⟨rfl, B4.out⟩
  · have h2 : 300 < M := by omega
    clear h
    go_enter Tryz.func4, Tryz.ntmps4
    go_wp2_with fail
    refine (HL.out _ (Below.refl _ _)).mono ?_
    rintro e w4 ⟨rfl, hb4⟩
    have B4 := Lib.hid hb4
    clear hb4
    go_wp2_with fail
    go_ret
    exact ⟨rfl, B4.out⟩
set_option maxHeartbeats 4000000 in
theorem chl_neq (a b : Option Addr) (N ca M cb : Nat) (w : World) (h : N ≠ M) (hN : N ≤ 300) (hM : M ≤ 300)
    (HL : Hid (∀ w', Below w.heap.size w w' → Calls Tryz.prog 7 #[] w' fun e w2 => e = .returned (.bool true) ∧ Below w'.heap.size w' w2)) :
    Calls Tryz.prog 4 #[.slice a N ca, .slice b M cb] w fun e w' => e = .returned (.bool true) ∧ Below w.heap.size w w' := by
  have h1 : ((N : Int) == (M : Int)) = false := by simp; omega
  have h2 : ((N : Int) != (M : Int)) = true := by simp; omega
  have C := Lib.hid (changed_neq a b N ca M cb w h)
  go_enter Tryz.func4, Tryz.ntmps4
  go_wp2_with fail
  refine C.out.mono ?_
  rintro e w4 ⟨rfl, rfl⟩
  go_wp2_with fail
  refine (HL.out _ (Below.refl _ _)).mono ?_
  rintro e w4 ⟨rfl, hb4⟩
  have B4 := Lib.hid hb4
  clear hb4
  go_wp2_with fail
  go_ret
  exact ⟨rfl, B4.out⟩
set_option maxHeartbeats 4000000 in
theorem chl_zero (a b : Option Addr) (ca cb : Nat) (w : World)
    (HL : Hid (∀ w', Below w.heap.size w w' → Calls Tryz.prog 7 #[] w' fun e w2 => e = .returned (.bool true) ∧ Below w'.heap.size w' w2)) :
    Calls Tryz.prog 4 #[.slice a 0 ca, .slice b 0 cb] w fun e w' => e = .returned (.bool true) ∧ Below w.heap.size w w' := by
  have C := Lib.hid (changed_zero a b ca cb w)
  go_enter Tryz.func4, Tryz.ntmps4
  go_wp2_with fail
  refine C.out.mono ?_
  rintro e w4 ⟨rfl, rfl⟩
  go_wp2_with fail
  refine wp_loop_rounds 1 ?_
  rw [rounds_succ]
  go_wp2_with fail
  refine (HL.out _ (Below.refl _ _)).mono ?_
  rintro e w4 ⟨rfl, hb4⟩
  have B4 := Lib.hid hb4
  clear hb4
  go_wp2_with fail
  go_ret
  exact ⟨rfl, B4.out⟩
end Go.Proofs.L11
