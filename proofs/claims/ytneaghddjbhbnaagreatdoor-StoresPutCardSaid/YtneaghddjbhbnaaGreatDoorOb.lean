/-
  O3: what the law's row says, out of the walk.
-/
import Derived.Test.YtneaghddjbhbnaaGreatDoorOa
import Derived.Test.YtneaghddjbhbnaaGreatDoorTie
import Derived.Test.YtneaghddjbhbnaaGreatDoorCards
import Derived.ProofKit
import Derived.OpenShut
import Derived.LaidMore
import Derived.Lay
import Derived.SevenTiedAt
import Derived.Stop.Joined
import Derived.Lib.SmallJoins
import Derived.ChangeSame
namespace Go.Proofs.L11
open Go Go.Proofs Go.RowKit Go.ChangeShapes Go.WideShapes Go.ChangeAt Go.Joins

/-! ### The listed variables -/
theorem laid_mem {P : Program} {w : World} : ∀ {l : List (String × DataW Unit)} {ps : List MemPlace}, DataW.LaidVars P w l ps → ∀ x ∈ l,
    ∃ g t cs fuel p, P.globalNamed x.1 = some g ∧ (P.globals[g]?).map (·.type) = some t ∧ w.var? P x.1 = some cs ∧ DataW.trod (fun _ => ()) P w 0 (fun _ => true) false fuel t cs.toList = some (x.2, p)
  | [], _, _, x, hx => by cases hx
  | (n, d) :: r, ps, ⟨g, t, cs, fuel, p, q, h1, h2, h3, h4, h5, _⟩, x, hx => by
    rcases List.mem_cons.1 hx with rfl | hx
    · exact ⟨g, t, cs, fuel, p, h1, h2, h3, h4⟩
    · exact laid_mem h5 x hx
/-- A listed table of bytes. -/
theorem bytes_cell {W : World} {l : List (String × DataW Unit)} (h : laidMetH Tryz.prog l W) (hp : (l.all fun x => x.2.handleName?.isNone) = true) {name : String} {zs : List Int} (hm : (name, DataW.agg (zs.map fun n => .lit (.int .u8 n))) ∈ l)
    {g T N : Nat} (hg' : Tryz.prog.globalNamed name = some g) (hT : (Tryz.prog.globals[g]?).map (·.type) = some T) (hu : Tryz.prog.underlying T = some (.array N 5)) (r : Nat) (hr : r < zs.length) :
    W.cell? ⟨g, r, none⟩ = some (.int .u8 (zs.getD r 0)) := by
  rw [MakeChecks.laidMetH_plain _ _ _ hp] at h
  obtain ⟨ps, hl, _⟩ := h
  obtain ⟨g2, t, cs, fuel, p, hg, ht, hv, hd⟩ := laid_mem hl _ hm
  obtain rfl := Option.some.inj (hg'.symm.trans hg)
  obtain rfl := Option.some.inj (hT.symm.trans ht)
  obtain ⟨xs, m, _, ex, _, hl, hel⟩ := DataW.trod_array hu hd
  have c5 : Tryz.prog.cellsOf 5 = 1 := by kernel_rfl
  have e3 : xs.map (·.1) = zs.map fun n => .lit (.int .u8 n) := (DataW.agg.inj (Prod.mk.inj ex).1).symm
  have hlen : xs.length = zs.length := by simpa using congrArg List.length e3
  have hE := hel r (by omega)
  rw [c5, Nat.mul_one, List.getElem?_eq_getElem (by omega)] at hE
  obtain ⟨z, e1, e2, _⟩ := DataW.trod_int Tryz.underlying5 hE
  have e4 : (xs.map (·.1))[r]? = (zs.map fun n => (DataW.lit (.int .u8 n) : DataW Unit))[r]? := by rw [e3]
  rw [List.getElem?_map, List.getElem?_map, List.getElem?_eq_getElem (by omega : r < xs.length), List.getElem?_eq_getElem hr, e2] at e4
  have hz : z = zs.getD r 0 := by
    simp only [Option.map_some, Option.some.injEq, DataW.lit.injEq, Lit.int.injEq, true_and] at e4
    rw [e4, List.getD, List.getElem?_eq_getElem hr]; rfl
  rw [World.var?_cell hg hv r, ← hz]
  have h0 : ((cs.toList.drop r).take 1)[0]? = some (.int .u8 z) := by rw [e1]; rfl
  simpa using h0

open Go.Ax in
theorem nth_nums (k : IntKind) : ∀ (zs : List Nat) (i : Nat) (v : AV), nth (nums k zs) i = some v → i < zs.length ∧ v = .v (.int k ((zs.getD i 0 : Nat) : Int))
  | [], i, v, h => by simp [nums, nth] at h
  | z :: zs, 0, v, h => by
    simp only [nums, nth, Option.some.injEq] at h
    subst h
    exact ⟨by simp, rfl⟩
  | z :: zs, i + 1, v, h => by
    simp only [nums, nth] at h
    obtain ⟨h1, h2⟩ := nth_nums k zs i v h
    exact ⟨by simp; omega, by rw [h2]; simp⟩

def floatZ : List Nat := [36, 43, 45]
def spaceZ : List Nat := (List.range 256).map fun i => if i = 32 ∨ (9 ≤ i ∧ i ≤ 13) then 1 else 0
theorem lt_of_cell {W : World} {g i : Nat} {v : Value} (h : W.cell? ⟨g, i, none⟩ = some v) : g < W.heap.size := by
  simp only [World.cell?] at h
  rcases Nat.lt_or_ge g W.heap.size with h' | h'
  · exact h'
  · rw [Array.getElem?_eq_none h'] at h; simp at h
open Go.Ax in
theorem gr_of_laid {W : World} (h : laidMetH Tryz.prog Go.Proofs.YtneaghddjbhbnaaGreatDoor.Rows.storesOverlapRow.laid W) : GR glob W.heap.size W := by
  have hp : (Go.Proofs.YtneaghddjbhbnaaGreatDoor.Rows.storesOverlapRow.laid.all fun x => x.2.handleName?.isNone) = true := by kernel_rfl
  have f := bytes_cell h hp (name := "columnseven/pictures.floats") (zs := floatZ.map fun (n : Nat) => (n : Int)) (g := 2) (T := 286) (N := 3)
    (by
      have e : (DataW.agg ((floatZ.map fun (n : Nat) => (n : Int)).map fun n => .lit (.int .u8 n)) : DataW Unit) = Go.Proofs.YtneaghddjbhbnaaGreatDoor.Rows.laid_columnseven_pictures_floats := by kernel_rfl
      rw [e]; simp [Go.Proofs.YtneaghddjbhbnaaGreatDoor.Rows.storesOverlapRow]) (by kernel_rfl) (by kernel_rfl) (by kernel_rfl)
  have s := bytes_cell h hp (name := "strings.asciiSpace") (zs := spaceZ.map fun (n : Nat) => (n : Int)) (g := 3) (T := 294) (N := 256)
    (by
      have e : (DataW.agg ((spaceZ.map fun (n : Nat) => (n : Int)).map fun n => .lit (.int .u8 n)) : DataW Unit) = Go.Proofs.YtneaghddjbhbnaaGreatDoor.Rows.laid_strings_asciiSpace := by kernel_rfl
      rw [e]; simp [Go.Proofs.YtneaghddjbhbnaaGreatDoor.Rows.storesOverlapRow]) (by kernel_rfl) (by kernel_rfl) (by kernel_rfl)
  have get : ∀ (zs : List Nat) (i : Nat), i < zs.length → (zs.map fun (n : Nat) => (n : Int)).getD i 0 = ((zs.getD i 0 : Nat) : Int) := by
    intro zs i hi
    simp [List.getD, List.getElem?_eq_getElem hi]
  intro g l hl
  have key : ∀ (zs : List Nat), (∀ r, r < (zs.map fun (n : Nat) => (n : Int)).length → W.cell? ⟨g, r, none⟩ = some (.int .u8 ((zs.map fun (n : Nat) => (n : Int)).getD r 0))) → 0 < zs.length → l = nums .u8 zs →
      g < W.heap.size ∧ ∀ i v, nth l i = some v → ∃ y, W.cell? ⟨g, i, none⟩ = some y ∧ VR (fun _ => none) v y := by
    intro zs hc h0 e
    subst e
    refine ⟨lt_of_cell (hc 0 (by simpa using h0)), fun i v hv => ?_⟩
    obtain ⟨h1, h2⟩ := nth_nums .u8 zs i v hv
    refine ⟨_, hc i (by simpa using h1), ?_⟩
    rw [h2, get zs i h1]
    simp [VR]
  unfold glob at hl
  split at hl
  · cases hl
    exact key floatZ f (by decide) rfl
  · cases hl
    exact key spaceZ s (by rw [show spaceZ.length = 256 by kernel_rfl]; decide) (by kernel_rfl)
  · cases hl

/-! ### The row -/
theorem law (a n b m : Int) (w : World) (ha : IR a) (hn' : IR n) (hb : IR b) (hm' : IR m)
    (HL : Hid (∀ w', Below w.heap.size w w' → Calls Tryz.prog 7 #[] w' fun e w2 => e = .returned (.bool true) ∧ Below w'.heap.size w' w2)) :
    Calls Tryz.prog 3 #[.agg #[.int .i64 a, .int .i64 n], .agg #[.int .i64 b, .int .i64 m]] w fun e w' => e = .returned (.bool true) ∧ Below w.heap.size w w' := by
  by_cases hn : 0 < n
  · by_cases hm : 0 < m
    · cases hr : OV a n b m with
      | true =>
        by_cases hab : a ≤ b
        · exact law_tle a n b m w ha hn' hb hm' HL hr hab hn hm
        · exact law_tgt a n b m w ha hn' hb hm' HL hr (by omega) hn hm
      | false =>
        by_cases hab : a ≤ b
        · exact law_fle a n b m w ha hn' hb hm' HL hr hab hn hm
        · exact law_fgt a n b m w ha hn' hb hm' HL hr (by omega) hn hm
    · have hr : OV a n b m = false := OV_no (by omega)
      by_cases hab : a ≤ b
      · exact law_mle a n b m w ha hn' hb hm' HL hr hab hn (by omega)
      · exact law_mgt a n b m w ha hn' hb hm' HL hr (by omega) hn (by omega)
  · have hr : OV a n b m = false := OV_no (by omega)
    by_cases hab : a ≤ b
    · exact law_nle a n b m w ha hn' hb hm' HL hr hab (by omega)
    · exact law_ngt a n b m w ha hn' hb hm' HL hr (by omega) (by omega)
end Go.Proofs.L11

namespace Go.Proofs.YtneaghddjbhbnaaGreatDoor
open Go Go.Proofs Go.Proofs.L11 Go.RowKit Go.ChangeShapes Go.WideShapes Go.ChangeAt Go.Joins

/-- What is left where nothing that was there has turned. -/
theorem left_below {H : Type} {enc : TypeId × Value → H} {P : Program} {f : Func} {s : ChangeSpec} {apart fresh handsOn again : Bool} {W W' : World} {args : Array Value} {v : Value} {ds gs : List (DataW H)} {before pa pv : List MemPlace}
    (hW : DataW.Whole enc P f.params.toList s.vars apart W args.toList ds gs before)
    (hr : ∀ (b : Nat) (sp : Nat → Bool) (hd : Bool), DataW.TrodAll enc P W' b sp hd f.resultTypes.toList (v.resultList f.resultTypes.size) (s.fn H (ds ++ gs)).results [])
    (ha : ∀ sp : Nat → Bool, (∀ p ∈ before, sp p.block = true) → DataW.TrodAll enc P W' 0 sp true f.params.toList args.toList (s.fn H (ds ++ gs)).args pa)
    (hv : ∀ sp : Nat → Bool, (∀ p ∈ before, sp p.block = true) → DataW.TrodVars enc P W' sp s.vars (s.fn H (ds ++ gs)).vars pv)
    (hp : before = pa ++ pv) (hb : Below W.heap.size W W')
    (hok : ∀ (j : Nat) (t : TypeId) (r : Value), f.resultTypes[j]? = some t → (v.resultList f.resultTypes.size)[j]? = some r → Value.okWide P W' .any 0 t r) :
    s.post enc P f apart fresh handsOn again W args v W' := by
  have lt : ∀ p ∈ before, p.block < W.heap.size := fun p hp => hW.lt p hp
  have old : ∀ p ∈ before, (fun b => decide (b < W.heap.size)) p.block = true := fun p hp => by simpa using lt p hp
  refine ⟨ds, gs, before, [], pa, pv, hW, hr _ _ _, ha _ old, hv _ old, World.keptBut_mono (fun p hp' => ⟨hp', ?_⟩) (hb.frame (· ∈ before)), fun _ => ?_⟩
  · rw [hp, List.mem_append] at hp'
    exact .inr hp'
  · obtain ⟨_, _, _, _, _, hz, hn⟩ := hW
    refine ⟨hok, _, _, ([] ++ pa) ++ pv, ⟨[] ++ pa, pv, trodAll_append (ha _ fun _ _ => rfl) (hr _ _ _), hv _ fun _ _ => rfl, rfl, fun b off hx => ?_, fun hap => ?_⟩, fun p hx _ => by rw [hp]; simpa using hx⟩
    · have hin : MemPlace.cell b off ∈ before := by rw [hp]; simpa using hx
      rw [hb.frozen (lt _ hin)]
      exact hz b off hin
    · have := hn hap
      rw [hp] at this
      simpa using this

theorem ownKn : ownKnob Tryz.prog.godebug = none := by kernel_rfl
theorem ir_of_wf {n : Int} (h : (Lit.int .i64 n).wf = true) : IR n := by
  simp only [Lit.wf, Bool.and_eq_true, decide_eq_true_eq] at h
  exact h

end Go.Proofs.YtneaghddjbhbnaaGreatDoor
