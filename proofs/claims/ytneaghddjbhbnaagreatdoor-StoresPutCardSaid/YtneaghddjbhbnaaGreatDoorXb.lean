/-
  AxS9: operations that make an object of their own.
-/
import Derived.Test.YtneaghddjbhbnaaGreatDoorXa
import Derived.Laws.NewBlocks
import Derived.Laws.Append
import Derived.Laws.AppendOwn
import Derived.Laws.RangeString
import Derived.Lib.UnsafeStr
namespace Go.Ax
open Go Go.RowKit

theorem alloc_new (w : World) (o : Obj) : (w.alloc o).heap[w.heap.size]? = some o := by
  show (w.heap.push o)[w.heap.size]? = some o
  simp

theorem wr_cons {d : Tr AV} {off : Nat} {a : AV} {l : List AV} : wr d off (a :: l) = wr (d.set off a) (off + 1) l := by
  obtain ⟨x, y, z, e⟩ := Tr.set_ne d off a
  simp only [wr, e]
theorem wr_get : ∀ (l : List AV) (d : Tr AV) (off i : Nat), (wr d off l).get i = if off ≤ i ∧ i < off + l.length then l[i - off]? else d.get i
  | [], d, off, i => by simp only [wr, List.length_nil]; rw [if_neg (by omega)]
  | a :: l, d, off, i => by
    rw [wr_cons, wr_get l _ (off + 1) i, Tr.get_set]
    simp only [List.length_cons]
    by_cases h : i = off
    · subst h; rw [if_neg (by omega), if_pos rfl, if_pos (by omega)]; simp
    · by_cases h2 : off + 1 ≤ i ∧ i < off + 1 + l.length
      · rw [if_pos h2, if_pos (by omega), show i - off = (i - (off + 1)) + 1 by omega]; simp
      · rw [if_neg h2, if_neg h, if_neg (by omega)]
theorem mkTr_get (l : List AV) (i : Nat) : (mkTr l).get i = l[i]? := by
  unfold mkTr
  rw [wr_get]
  by_cases h : i < l.length
  · rw [if_pos (by omega)]; simp
  · rw [if_neg (by omega), List.getElem?_eq_none (by omega)]; rfl
theorem rowOf_eq (el : TypeId) (l : List AV) (ex : Bool) (fz : Nat) : rowOf el l ex fz = .row (mkTr l) l.length el ex fz 0 := by
  unfold rowOf
  cases h : mkTr l <;> simp [len_eq]

section
variable {P : Program} {G : Glob} {B : Nat} {φ : PM} {st : St} {w : World} {ev : Operand → Option AV} {η : Operand → Value}

theorem VRs.of_get : ∀ {l : List AV} {ys : List Value}, ys.length = l.length → (∀ (i : Nat) (a : AV), l[i]? = some a → ∃ y, ys[i]? = some y ∧ VR φ a y) → VRs φ l ys
  | [], ys, hl, _ => by
    have : ys = [] := List.eq_nil_of_length_eq_zero (by simpa using hl)
    subst this; exact VRs.nil
  | a :: l, [], hl, _ => by simp at hl
  | a :: l, y :: ys, hl, h => by
    refine VRs.cons ?_ (VRs.of_get (by simpa using hl) fun i b hb => ?_)
    · obtain ⟨y', h1, h2⟩ := h 0 a rfl; simp at h1; subst h1; exact h2
    · obtain ⟨y', h1, h2⟩ := h (i + 1) b (by simpa using hb); exact ⟨y', by simpa using h1, h2⟩

theorem repl_length (l : List AV) : ∀ n, (repl n l).length = n * l.length
  | 0 => by simp [repl]
  | n + 1 => by simp [repl, repl_length l n, Nat.add_mul]; omega
theorem repl_get (l : List AV) : ∀ (n i : Nat), i < n * l.length → (repl n l)[i]? = l[i % l.length]?
  | 0, i, h => by simp at h
  | n + 1, i, h => by
    simp only [repl]
    rw [Nat.add_mul] at h
    by_cases hi : i < l.length
    · rw [List.getElem?_append_left hi, Nat.mod_eq_of_lt hi]
    · rw [List.getElem?_append_right (by omega), repl_get l n (i - l.length) (by omega)]
      congr 1
      conv => rhs; rw [← Nat.sub_add_cancel (show l.length ≤ i by omega), Nat.add_mod_right]

/-- The zeros of n elements. -/
theorem VRs.repl {z : List AV} {y : Value} {n : Nat} (h : VRs φ z y.cells.toList) :
    VRs φ (repl n z) (((Array.range (n * z.length)).map (y.cells[· % y.cells.size]!)).toList) := by
  have hl := h.length
  simp only [Array.length_toList] at hl
  refine VRs.of_get (by simp [repl_length]) fun i a hi => ?_
  have hlt : i < n * z.length := by
    rcases Nat.lt_or_ge i (n * z.length) with h' | h'
    · exact h'
    · rw [List.getElem?_eq_none (by rw [repl_length]; exact h')] at hi; cases hi
  rw [repl_get z n i hlt] at hi
  obtain ⟨u, h1, h2⟩ := h.get hi
  refine ⟨u, ?_, h2⟩
  simp only [Array.toList_map, Array.toList_range, List.getElem?_map, List.getElem?_range hlt, Option.map_some]
  rw [hl, getElem!_def]
  have : y.cells[i % z.length]? = some u := by simpa using h1
  rw [this]

theorem setAt_length {l cs : List AV} {off : Nat} (h : off + cs.length ≤ l.length) : (setAt l off cs).length = l.length := by
  simp [setAt, len_eq]; omega
theorem fillX_length {pl : Nat → Option (Nat × Nat)} : ∀ (parts : List (Nat × Operand)) (cells l : List AV), fillX pl ev cells parts = some l → l.length = cells.length
  | [], cells, l, h => by simp only [fillX, Option.some.injEq] at h; rw [h]
  | (i, x) :: rest, cells, l, h => by
    simp only [fillX] at h
    split at h
    · split at h
      · rw [cond_eq_ite] at h
        split at h
        · rename_i hc
          simp only [Bool.and_eq_true, Nat.beq_eq, Nat.ble_eq, len_eq] at hc
          rw [fillX_length rest _ l h, setAt_length (by omega)]
        · cases h
      · cases h
    · cases h

/-- What an operation of kind 1 does. -/
def Makes (P : Program) (φ : PM) (w : World) (s : Sem Next) (ob : AO) (k : FK) : Prop :=
  ∃ y w' sz, s.run P w = .ok (.value y) w' ∧ Below w.heap.size w w' ∧ w'.heap.size = w.heap.size + 1 ∧
    ∀ φ' b, PM.le φ φ' → φ' b = some ⟨w.heap.size, 0, sz⟩ → ObR φ' ob ⟨w.heap.size, 0, sz⟩ w' ∧ VR φ' (k.at b) y

theorem FK.at_ptr (b : Nat) : FK.at .ptr b = .ptr b 0 := mkPtr_eq b
theorem FK.at_sl (l c : Nat) (ex : Bool) (es b : Nat) : FK.at (.sl l c ex es) b = .sl b 0 l c ex es := by
  cases b <;> simp [FK.at, mkSl_eq]
theorem FK.at_map (b : Nat) : FK.at .map b = .map b := by cases b <;> rfl

theorem row_new {cells : Array Value} {el : TypeId} {l : List AV} {ex : Bool} {fz lo hi blk : Nat} {w' : World} {φ' : PM}
    (hw : w'.heap[blk]? = some (.cells cells el (lo, hi))) (hv : VRs φ' l (cells.toList.take l.length)) (hex : ex = true → l.length = cells.size) (hfz : FZ fz 0 lo hi cells.size) :
    ObR φ' (rowOf el l ex fz) ⟨blk, 0, cells.size⟩ w' := by
  rw [rowOf_eq]
  have hlen := hv.length
  simp only [List.length_take, Array.length_toList] at hlen
  refine ⟨cells, lo, hi, hw, rfl, by simp; omega, fun e => ⟨rfl, hex e⟩, hfz, fun i v e => ?_⟩
  rw [mkTr_get] at e
  obtain ⟨y, h1, h2⟩ := hv.get e
  have hi : i < l.length := by
    rcases Nat.lt_or_ge i l.length with h' | h'
    · exact h'
    · rw [List.getElem?_eq_none h'] at e; cases e
  refine ⟨hi, y, ?_, h2⟩
  rw [List.getElem?_take_of_lt hi] at h1
  simpa using h1

theorem makes_row {s : Sem Next} {el : TypeId} {l : List AV} {ex : Bool} {cells : Array Value} {k : FK} {y : Value}
    (hrun : s.run P w = .ok (.value y) (w.alloc (.cells cells el))) (hv : VRs φ l (cells.toList.take l.length)) (hex : ex = true → l.length = cells.size)
    (hy : ∀ φ' b, φ' b = some ⟨w.heap.size, 0, cells.size⟩ → VR φ' (k.at b) y) : Makes P φ w s (rowOf el l ex 0) k := by
  refine ⟨y, _, cells.size, hrun, (Below.refl _ _).alloc (Nat.le_refl _) _, by simp, fun φ' b hle hb => ⟨?_, hy φ' b hb⟩⟩
  exact row_new (lo := 0) (hi := 0) (alloc_new _ _) (VRs.mono hle _ _ hv) hex rfl

theorem run_buildSlice {t el : TypeId} {n s : Nat} {parts : Array (Nat × Value)} {y : Value} {zs : Array Value} (ht : P.underlying t = some (.slice el)) (hs : szX P el = some s)
    (hle : n * s ≤ 2 ^ 24) (hy : (zeroValue el).run P w = .ok y w) (hf : Instr.fill (fun i => some (i * s, s)) ((Array.range (n * s)).map (y.cells[· % y.cells.size]!)) parts.toList = some zs) :
    (Instr.buildSlice t n parts).run P w = .ok (.slice (some ⟨w.heap.size, 0, none⟩) n n) (w.alloc (.cells zs el)) := by
  unfold Instr.buildSlice
  simp only [Sem.run_bind, run_und ht, run_sz hs, Result.andThen_ok, Sem.run_ite]
  rw [if_neg (by omega)]
  by_cases h0 : n * s = 0
  · rw [if_pos h0]
    have e0 : (Array.range (n * s)).map ((#[] : Array Value)[· % (#[] : Array Value).size]!) = (Array.range (n * s)).map (y.cells[· % y.cells.size]!) := by rw [h0]; simp
    simp only [Sem.run_bind, Sem.run_pure, Result.andThen_ok, e0, hf]
    simp only [newRow, Sem.run_bind, run_newObj, Result.andThen_ok, Sem.run_pure, World.alloc_eq]
  · rw [if_neg h0]
    simp only [Sem.run_bind, Sem.run_pure, Result.andThen_ok, hy, hf]
    simp only [newRow, Sem.run_bind, run_newObj, Result.andThen_ok, Sem.run_pure, World.alloc_eq]

theorem run_makeSlice {t el : TypeId} {l c s : Nat} {inf : TypeInfo} {k1 k2 : IntKind} {y : Value} (ht : P.underlying t = some (.slice el)) (hs : szX P el = some s) (hi : P.info? el = some inf)
    (h1 : l ≤ c) (h2 : c ≤ 1048576) (h3 : inf.bytes * c ≤ 281474976710656) (hy : (zeroValue el).run P w = .ok y w) :
    (Instr.makeSlice t (.int k1 l) (.int k2 c)).run P w = .ok (.slice (some ⟨w.heap.size, 0, none⟩) l c) (w.alloc (.cells ((Array.range (c * s)).map (y.cells[· % y.cells.size]!)) el)) := by
  have hw1 : IntKind.i64.wrap (l : Int) = l := by rw [← wrapK_eq]; simp only [wrapK, isSigned, bitsHalf]; rw [nat_blt, decide_eq_true (by omega)]; rfl
  have hw2 : IntKind.i64.wrap (c : Int) = c := by rw [← wrapK_eq]; simp only [wrapK, isSigned, bitsHalf]; rw [nat_blt, decide_eq_true (by omega)]; rfl
  have hbig : ¬ ((inf.bytes : Int) * (c : Int) > 2 ^ 48) := by
    have e : (inf.bytes : Int) * (c : Int) = ((inf.bytes * c : Nat) : Int) := by simp
    rw [e]; omega
  unfold Instr.makeSlice
  simp only [Sem.run_bind, run_und ht, Result.andThen_ok, asInt, asIntOf, Sem.run_pure, run_info hi, hw1, hw2, Sem.run_ite]
  rw [if_neg (by simp only [Bool.or_eq_true, decide_eq_true_eq]; omega)]
  simp only [run_askRoom, Result.andThen_ok, run_sz hs, Int.toNat_natCast]
  by_cases h0 : c * s = 0
  · rw [if_pos h0]
    have e0 : (Array.range (c * s)).map ((#[] : Array Value)[· % (#[] : Array Value).size]!) = (Array.range (c * s)).map (y.cells[· % y.cells.size]!) := by rw [h0]; simp
    simp only [Result.andThen_ok, e0, newRow, Sem.run_bind, run_newObj, Sem.run_pure, World.alloc_eq]
  · rw [if_neg h0]
    simp only [hy, newRow, Sem.run_bind, run_newObj, Result.andThen_ok, Sem.run_pure, World.alloc_eq]

theorem VRs.cellsOfStr : ∀ (n c : Nat), VRs φ (cellsOfStr n c) ((bl n c).map fun b => Value.int .u8 b.toNat)
  | 0, _ => VRs.nil
  | n + 1, c => by
    simp only [Ax.cellsOfStr, bl, List.map_cons]
    refine VRs.cons ?_ (VRs.cellsOfStr n (c / 256))
    rw [mkI_eq]
    simp only [VR, Value.int.injEq, true_and, UInt8.toNat_ofNat']
    rfl

theorem run_markStringish {W : World} {a : Addr} {el : TypeId} {m : Nat} (h : W.shape? a.block = some (el, m)) :
    (markStringish a).run P W = .ok () (W.freeze ⟨a.block, m, none⟩ 1) := by
  simp [markStringish, h]

theorem run_stringToBytes (el : TypeId) (n c : Nat) : ∃ (cap : Nat) (cells : Array Value) (w' : World),
    (Conv.stringToBytes el (mkB n c)).run P w = .ok (.slice (some ⟨w.heap.size, 0, none⟩) n cap) w' ∧ n ≤ cap ∧ cells.size = cap ∧
      cells.toList.take n = ((bl n c).map fun b => Value.int .u8 b.toNat) ∧ Below w.heap.size w w' ∧ w'.heap.size = w.heap.size + 1 ∧ w'.heap[w.heap.size]? = some (.cells cells el (cells.size, cells.size + 1)) := by
  let q : Question := .appendCap (mkB n c).size 0 el
  let cap := q.cut (w.tape w.drawn q)
  let elems : Array Value := (mkB n c).data.map fun b => .int .u8 b.toNat
  let cells : Array Value := elems ++ Array.replicate (cap - (mkB n c).size) (.int .u8 0)
  have hel : elems.size = n := by
    show ((mkB n c).data.map _).size = n
    rw [Array.size_map]; exact mkB_size n c
  have hcap : n ≤ cap := by
    show n ≤ (mkB n c).size + _ % _
    rw [mkB_size]; omega
  have hcells : cells.size = cap := by
    show (elems ++ Array.replicate _ _).size = cap
    rw [Array.size_append, Array.size_replicate, hel, mkB_size]; omega
  have hw1 : (w.drew.alloc (.cells cells el)).shape? w.heap.size = some (el, cells.size) := by
    have := alloc_new w.drew (.cells cells el)
    simp only [World.shape?]
    rw [show w.heap.size = w.drew.heap.size from rfl, this]
  refine ⟨cap, cells, (w.drew.alloc (.cells cells el)).freeze ⟨w.heap.size, cells.size, none⟩ 1, ?_, hcap, hcells, ?_, ?_, ?_, ?_⟩
  · unfold Conv.stringToBytes
    simp only [Sem.run_bind, run_choose, Question.forced, Bool.false_eq_true, if_false, Result.andThen_ok, newRow, run_newObj, Sem.run_pure]
    have hm := run_markStringish (P := P) (a := ⟨w.heap.size, 0, none⟩) hw1
    refine (congrArg (fun r => Result.andThen r _) hm).trans ?_
    simp only [Result.andThen_ok]
    show Result.ok (Value.slice (some ⟨w.heap.size, 0, none⟩) (mkB n c).size cap) _ = _
    have e : ∀ m, m = n → Result.ok (Value.slice (some ⟨w.heap.size, 0, none⟩) m cap) ((w.drew.alloc (Obj.cells cells el)).freeze ⟨w.heap.size, cells.size, none⟩ 1) =
        Result.ok (Value.slice (some ⟨w.heap.size, 0, none⟩) n cap) ((w.drew.alloc (Obj.cells cells el)).freeze ⟨w.heap.size, cells.size, none⟩ 1) := fun m h => by rw [h]
    exact e _ (mkB_size n c)
  · show (elems ++ Array.replicate _ _).toList.take n = _
    rw [Array.toList_append, List.take_append_of_le_length (by simp [hel]), List.take_of_length_le (by simp [hel])]
    show ((mkB n c).data.map _).toList = _
    rw [Array.toList_map, mkB_data]
  · refine ⟨rfl, rfl, rfl, ?_, fun k hk => ?_⟩
    · simp [World.freeze]
    · simp only [World.freeze, Nat.one_ne_zero, if_false, Array.getElem?_modify]
      rw [if_neg (by omega)]
      exact Below.heap_alloc _ _ _ (by simpa using hk)
  · simp [World.freeze]
  · simp only [World.freeze, Nat.one_ne_zero, if_false, Array.getElem?_modify, if_true]
    have := alloc_new w.drew (.cells cells el)
    rw [show w.drew.heap.size = w.heap.size from rfl] at this
    rw [this]
    rfl

theorem flt_sound (o : Oper) {ob : AO} {k : FK} (h : flt P ev o.op = some (ob, k)) (he : ∀ x ∈ o.op.operands.toList, ∀ u, ev x = some u → VR φ u (η x)) :
    Makes P φ w (execOp η o) ob k := by
  obtain ⟨dst, op, type, pos, after, guard⟩ := o
  simp only at h he
  cases op with
  | alloc t =>
    simp only [flt] at h
    split at h
    · rename_i z hz
      cases h
      obtain ⟨y, hy, hv⟩ := run_zeroX (w := w) (φ := φ) hz
      have hl := hv.length
      simp only [Array.length_toList] at hl
      refine makes_row (cells := y.cells) (y := .pointer (some ⟨w.heap.size, 0, none⟩)) ?_ ?_ (fun _ => hl.symm) fun φ' b hb => ?_
      · simp [execOp, Instr.alloc, hy, newVar, newRow]
      · rw [List.take_of_length_le (by simp; omega)]; exact hv
      · rw [FK.at_ptr]; simp only [VR]; exact ⟨_, hb, rfl⟩
    · cases h
  | box t x =>
    simp only [flt] at h
    split at h
    · rename_i a ha
      split at h
      · rename_i l hl
        cases h
        obtain ⟨g1, _⟩ := cellsX_sound hl (he x (by simp [Op.operands]) _ ha)
        have hl := g1.length
        simp only [Array.length_toList] at hl
        refine makes_row (cells := (η x).cells) (y := .pointer (some ⟨w.heap.size, 0, none⟩)) ?_ ?_ (fun _ => hl.symm) fun φ' b hb => ?_
        · simp [execOp, Instr.box, newVar, newRow]
        · rw [List.take_of_length_le (by simp; omega)]; exact g1
        · rw [FK.at_ptr]; simp only [VR]; exact ⟨_, hb, rfl⟩
      · cases h
    · cases h
  | buildSlice t n parts =>
    simp only [flt] at h
    split at h
    · rename_i el ht
      split at h
      · rename_i s z hs hz
        rw [cond_eq_ite] at h
        split at h
        · rename_i hc
          simp only [Bool.and_eq_true, Nat.ble_eq, Nat.beq_eq, len_eq] at hc
          obtain ⟨hc1, hc2⟩ := hc
          split at h
          · rename_i l hl
            cases h
            obtain ⟨y, hy, hv⟩ := run_zeroX (w := w) (φ := φ) hz
            have hzl := hv.length
            simp only [Array.length_toList] at hzl
            have hrep := VRs.repl (n := n) hv
            rw [hc2] at hrep
            have hparts : ∀ x ∈ parts.toList, ∀ v, ev x.2 = some v → VR φ v (η x.2) := fun x hx => he x.2 (by simp [Op.operands]; exact ⟨x.1, by simpa using hx⟩)
            obtain ⟨zs, h1, h2⟩ := fillX_sound (φ := φ) (η := η) _ _ _ _ hl hrep hparts
            have hl2 := h2.length
            simp only [Array.length_toList] at hl2
            have hl3 : l.length = n * s := by
              have := fillX_length _ _ _ hl
              rw [this, repl_length, hc2]
            refine makes_row (cells := zs) (y := .slice (some ⟨w.heap.size, 0, none⟩) n n) ?_ ?_ (fun _ => hl2.symm) fun φ' b hb => ?_
            · have hrun := run_buildSlice (P := P) (w := w) (t := t) (n := n) (parts := parts.map fun (i, x) => (i, η x)) ht hs (by omega) hy (by simpa using h1)
              simp only [execOp, Sem.run_bind, hrun, Result.andThen_ok, Sem.run_pure]
            · rw [List.take_of_length_le (by simp; omega)]; exact h2
            · rw [FK.at_sl]; simp only [VR]; refine ⟨_, n, hb, rfl, Nat.le_refl _, fun _ => rfl, Nat.le_refl _, ?_⟩
              simp only; omega
          · cases h
        · cases h
      · cases h
    · cases h
  | makeSlice t l c =>
    simp only [flt] at h
    split at h
    · rename_i el a b ht ha hb
      split at h
      · rename_i l' c' s z inf hl hc hs hz hi
        rw [cond_eq_ite] at h
        split at h
        · rename_i hcond
          simp only [Bool.and_eq_true, Nat.ble_eq, Nat.beq_eq, len_eq] at hcond
          obtain ⟨⟨⟨hc1, hc2⟩, hc3⟩, hc4⟩ := hcond
          cases h
          obtain ⟨k1, rfl⟩ := idxOf_some hl
          obtain ⟨k2, rfl⟩ := idxOf_some hc
          have v1 := he l (by simp [Op.operands]) _ ha
          have v2 := he c (by simp [Op.operands]) _ hb
          simp only [VR] at v1 v2
          obtain ⟨y, hy, hv⟩ := run_zeroX (w := w) (φ := φ) hz
          have hzl := hv.length
          simp only [Array.length_toList] at hzl
          have hrep := VRs.repl (n := c') hv
          rw [hc4] at hrep
          refine makes_row (cells := (Array.range (c' * s)).map (y.cells[· % y.cells.size]!)) (y := .slice (some ⟨w.heap.size, 0, none⟩) l' c') ?_ ?_ (fun _ => by simp [repl_length, hc4]) fun φ' b hb => ?_
          · have hrun := run_makeSlice (P := P) (w := w) (t := t) (k1 := k1) (k2 := k2) ht hs hi hc1 hc2 hc3 hy
            simp only [execOp, v1, v2, Sem.run_bind, hrun, Result.andThen_ok, Sem.run_pure]
          · rw [List.take_of_length_le (by simp [repl_length, hc4])]; exact hrep
          · rw [FK.at_sl]; simp only [VR]; refine ⟨_, c', hb, rfl, Nat.le_refl _, fun _ => rfl, hc1, ?_⟩
            simp
        · cases h
      · cases h
    · cases h
  | makeMap t r =>
    have fin : (execOp η { dst, op := .makeMap t r, type, pos, after, guard }).run P w = .ok (.value (.map (some w.heap.size))) (w.alloc (.map #[] 0)) → ob = .map [] → k = .map → Makes P φ w (execOp η { dst, op := .makeMap t r, type, pos, after, guard }) ob k := by
      rintro hrun rfl rfl
      refine ⟨_, _, 0, hrun, (Below.refl _ _).alloc (Nat.le_refl _) _, by simp, fun φ' b hle hb => ⟨⟨#[], 0, alloc_new _ _, by simp [ERs]⟩, ?_⟩⟩
      rw [FK.at_map]; simp only [VR]; exact ⟨_, hb, rfl⟩
    cases r with
    | none =>
      simp only [flt, Option.some.injEq, Prod.mk.injEq] at h
      exact fin (by simp [execOp, Instr.makeMap]) h.1.symm h.2.symm
    | some x =>
      simp only [flt] at h
      split at h
      · rename_i kt et kk nn ht hx
        simp only [Option.some.injEq, Prod.mk.injEq] at h
        have hv := he x (by simp [Op.operands]) _ hx
        simp only [VR] at hv
        exact fin (by simp [execOp, Instr.makeMap, run_und ht, hv, asInt, asIntOf]) h.1.symm h.2.symm
      · cases h
  | range t x =>
    simp only [flt] at h
    split at h
    · rename_i n c ht hx
      cases h
      have hv := he x (by simp [Op.operands]) _ hx
      simp only [VR] at hv
      refine ⟨.pointer (some ⟨w.heap.size, 0, none⟩), w.alloc (.stringIter (mkB n c) 0), 0, ?_, (Below.refl _ _).alloc (Nat.le_refl _) _, by simp, fun φ' b hle hb => ⟨⟨rfl, alloc_new _ _⟩, ?_⟩⟩
      · simp [execOp, Instr.range, run_und ht, hv]
      · rw [FK.at_ptr]; simp only [VR]; exact ⟨_, hb, rfl⟩
    · cases h
  | convert s d x =>
    simp only [flt] at h
    split at h
    · rename_i el n c h1 h2 hx
      split at h
      · rename_i h3
        rw [cond_eq_ite] at h
        split at h
        · rename_i hn
          rw [Nat.ble_eq] at hn
          cases h
          have hv := he x (by simp [Op.operands]) _ hx
          simp only [VR] at hv
          obtain ⟨cap, cells, w', hrun, hcap, hcells, hc2, hb, hsz, hnew⟩ := run_stringToBytes (P := P) (w := w) el n c
          refine ⟨.slice (some ⟨w.heap.size, 0, none⟩) n cap, w', cap, ?_, hb, hsz, fun φ' b hle hb' => ⟨?_, ?_⟩⟩
          · simp only [execOp, Sem.run_bind, hv, convert, run_und h1, run_und h2, run_und h3, Result.andThen_ok, hrun, Sem.run_pure]
          · rw [← hcells]
            refine row_new (lo := cells.size) (hi := cells.size + 1) hnew ?_ (fun e => by cases e) (.inr (Nat.le_refl _))
            have hl : (cellsOfStr n c).length = n := (VRs.cellsOfStr (φ := φ') n c).length ▸ by simp [bl_length]
            rw [hl, hc2]
            exact VRs.cellsOfStr n c
          · rw [FK.at_sl]; simp only [VR]; refine ⟨_, cap, hb', rfl, hcap, (fun e => by cases e), Nat.le_refl _, ?_⟩
            simp
        · cases h
      · cases h
    · cases h
  | _ => simp [flt] at h
end
end Go.Ax

/-
  AxS10: stores.
-/
namespace Go.Ax
open Go Go.RowKit

section
variable {P : Program} {G : Glob} {B : Nat} {φ : PM} {st : St} {w : World} {ev : Operand → Option AV} {η : Operand → Value}

theorem allOne_sound : ∀ (l : List AV) (ys : List Value), allOne l = true → VRs φ l ys → ∀ y ∈ ys, y.oneCell' = true
  | [], ys, _, h => by simp only [VRs] at h; subst h; simp
  | a :: l, ys, ho, h => by
    simp only [VRs] at h; obtain ⟨y, m, rfl, h1, h2⟩ := h
    simp only [allOne, Bool.and_eq_true] at ho
    intro z hz
    rcases List.mem_cons.1 hz with rfl | hz
    · exact (h1.one ho.1).1
    · exact allOne_sound l m ho.2 h2 z hz

theorem setCell_heap (w : World) (blk off : Nat) (v : Value) {cells : Array Value} {el : TypeId} {fr : Nat × Nat} (h : w.heap[blk]? = some (.cells cells el fr)) :
    (w.setCell ⟨blk, off, none⟩ v).heap[blk]? = some (.cells (cells.setIfInBounds off v) el fr) ∧ (∀ k, k ≠ blk → (w.setCell ⟨blk, off, none⟩ v).heap[k]? = w.heap[k]?) := by
  constructor
  · simp only [World.setCell, Array.getElem?_modify, if_true, h, Option.map_some]
    simp
  · intro k hk
    simp only [World.setCell, Array.getElem?_modify]
    rw [if_neg (Ne.symm hk)]

/-- Values into the cells of a block. -/
theorem run_storeCells {blk o el lo hi : Nat} : ∀ (ys : List Value) (i : Nat) (w : World) (cells : Array Value),
    w.heap[blk]? = some (.cells cells el (lo, hi)) → o + i + ys.length ≤ cells.size → (∀ j, o + i ≤ j → j < o + i + ys.length → ¬ (lo ≤ j ∧ j < hi)) → (∀ y ∈ ys, y.oneCell' = true) →
    ∃ (w' : World) (cells' : Array Value), (storeCells ⟨blk, o, none⟩ ys i).run P w = .ok () w' ∧ w'.heap[blk]? = some (.cells cells' el (lo, hi)) ∧ cells'.size = cells.size ∧
      (∀ j, cells'[j]? = if o + i ≤ j ∧ j < o + i + ys.length then ys[j - (o + i)]? else cells[j]?) ∧ (∀ k, k ≠ blk → w'.heap[k]? = w.heap[k]?) ∧ w'.heap.size = w.heap.size ∧
      w'.os = w.os ∧ w'.tape = w.tape ∧ w'.output = w.output
  | [], i, w, cells, h, _, _, _ => ⟨w, cells, rfl, h, rfl, fun j => by rw [if_neg (by simp)], fun _ _ => rfl, rfl, rfl, rfl, rfl⟩
  | y :: ys, i, w, cells, h, hb, hf, ho => by
    simp only [List.length_cons] at hb hf
    have hcell : w.cell? ⟨blk, o + i, none⟩ = some (cells[o + i]'(by omega)) := by
      simp only [World.cell?, h, Option.isSome_none, Bool.false_eq_true, if_false]
      exact Array.getElem?_eq_getElem (by omega)
    have hfroz : w.frozen? ⟨blk, o + i, none⟩ = false := by
      have := hf (o + i) (by omega) (by omega)
      simp only [World.frozen?, h]
      rw [Bool.and_eq_false_iff, decide_eq_false_iff_not, decide_eq_false_iff_not]
      omega
    have hstep : (store ⟨blk, o + i, none⟩ y).run P w = .ok () (w.setCell ⟨blk, o + i, none⟩ y) := by
      rw [run_store P w _ y .plain (ho y (by simp)), hcell]
      simp [hfroz]
    obtain ⟨e1, e2⟩ := setCell_heap w blk (o + i) y h
    obtain ⟨w', cells', g1, g2, g3, g4, g5, g6, g7, g8, g9⟩ := run_storeCells (o := o) ys (i + 1) (w.setCell ⟨blk, o + i, none⟩ y) (cells.setIfInBounds (o + i) y) e1 (by simp; omega) (fun j h1 h2 => hf j (by omega) (by omega)) (fun z hz => ho z (by simp [hz]))
    refine ⟨w', cells', ?_, g2, by rw [g3]; simp, fun j => ?_, fun k hk => by rw [g5 k hk, e2 k hk], by rw [g6]; simp, g7, g8, g9⟩
    · simp only [storeCells, Sem.run_bind, addr_add, hstep, Result.andThen_ok, g1]
    · rw [g4]
      simp only [List.length_cons]
      by_cases h1 : o + (i + 1) ≤ j ∧ j < o + (i + 1) + ys.length
      · rw [if_pos h1, if_pos (by omega), show j - (o + i) = (j - (o + (i + 1))) + 1 by omega]; simp
      · rw [if_neg h1]
        by_cases h2 : j = o + i
        · subst h2
          rw [if_pos (by omega), Array.getElem?_setIfInBounds_self_of_lt (by omega)]; simp
        · rw [if_neg (by omega), Array.getElem?_setIfInBounds_ne (by omega)]

/-- Values into an abstract row. -/
theorem HR.write (h : HR G B φ st w) {b : Nat} {d : Tr AV} {n el : Nat} {ex : Bool} {fz mate : Nat} {p : PB} {l : List AV} {ys : List Value} {off n' : Nat}
    (hg : st.hp.get b = some (.row d n el ex fz mate)) (hp : φ b = some p) (hl : VRs φ l ys) (ho : allOne l = true) (hfz : fz - 2 ≤ off)
    (hb : p.base + off + l.length ≤ p.size) (hn1 : n ≤ n') (hn2 : off + l.length ≤ n') (hn3 : p.base + n' ≤ p.size) (hn4 : ex = true → n' = n) :
    ∃ w', (storeCells ⟨p.blk, p.base + off, none⟩ ys).run P w = .ok () w' ∧ HR G B φ ⟨st.nxt, (kill st.hp mate).set b (.row (wr d off l) n' el ex fz 0)⟩ w' ∧ Below B w w' := by
  obtain ⟨cells, lo, hi, g1, g2, g3, g4, g5, g6⟩ := h.objs _ _ _ hg hp
  have hlen := hl.length
  obtain ⟨w', cells', e1, e2, e3, e4, e5, e6, e7, e8, e9⟩ := run_storeCells (P := P) (o := p.base + off) ys 0 w cells g1 (by omega) (fun j h1 h2 => by
    have := g5.free (off := j - p.base) (by omega) (by omega)
    rwa [show p.base + (j - p.base) = j by omega] at this) (allOne_sound l ys ho hl)
  refine ⟨w', e1, ?_, ?_⟩
  · refine h.upd (o := .row d n el ex fz mate) (o' := .row (wr d off l) n' el ex fz 0) hg trivial hp e6 e5 ?_
    refine ⟨cells', lo, hi, e2, by rw [e3]; exact g2, by omega, fun e => ?_, by rw [e3]; exact g5, fun i v hi => ?_⟩
    · obtain ⟨a, c⟩ := g4 e; exact ⟨a, by rw [hn4 e, e3]; exact c⟩
    · rw [wr_get] at hi
      split at hi
      · rename_i hr
        refine ⟨by omega, ?_⟩
        obtain ⟨y, h1, h2⟩ := hl.get hi
        refine ⟨y, ?_, h2⟩
        rw [e4, if_pos (by omega), show p.base + i - (p.base + off + 0) = i - off by omega]
        exact h1
      · rename_i hr
        obtain ⟨h1, y, h2, h3⟩ := g6 i v hi
        refine ⟨by omega, y, ?_, h3⟩
        rw [e4, if_neg (by omega)]
        exact h2
  · refine ⟨e7, e8, e9, by omega, fun k hk => e5 k ?_⟩
    have := (h.dom b p hp).2.1; omega

theorem storeC_sound (h : HR G B φ st w) {b off : Nat} {l : List AV} {ys : List Value} {st' : St} {p : PB} (hs : storeC st b off l = some st') (hp : φ b = some p) (hl : VRs φ l ys) :
    ∃ w', (storeCells ⟨p.blk, p.base + off, none⟩ ys).run P w = .ok () w' ∧ HR G B φ st' w' ∧ Below B w w' := by
  unfold storeC at hs
  split at hs
  · rename_i d n el ex fz mate hg
    rw [cond_eq_ite] at hs
    split at hs
    · rename_i hc
      simp only [Bool.and_eq_true, Nat.ble_eq] at hc
      split at hs
      · cases hs
      · rename_i x y z hw
        rw [cond_eq_ite] at hs
        split at hs
        · rename_i hle
          rw [Nat.ble_eq, len_eq] at hle
          cases hs
          obtain ⟨cells, lo, hi, g1, g2, g3, _⟩ := h.objs _ _ _ hg hp
          have := h.write (P := P) (n' := n) hg hp hl hc.1 hc.2 (by omega) (Nat.le_refl _) hle (by omega) (fun _ => rfl)
          rw [hw] at this
          exact this
        · cases hs
    · cases hs
  · cases hs

/-- What comes of an operation of kind 2 that is no call. -/
def Does (P : Program) (G : Glob) (B : Nat) (φ : PM) (n : Nat) (w : World) (s : Sem Next) (v : AV) (st' : St) : Prop :=
  ∃ y w' φ', (s.run P w = .ok (.value y) w' ∨ (s.run P w = .ok .skip w' ∧ y = undef)) ∧ PM.ext n φ φ' ∧ VR φ' v y ∧ HR G B φ' st' w' ∧ Below B w w'

theorem strict_val {st st' : St} {k : St → OR} {v : AV} (h : strict st k = .val v st') : k st = .val v st' := by
  obtain ⟨nxt, hp⟩ := st
  unfold strict at h
  split at h
  · cases h
  · rename_i a b c hh
    split at h
    · cases h
    · rename_i j hj
      simp only at hh hj
      subst hh; subst hj
      exact h

theorem storeVar_run {t : TypeId} {n : Nat} {y : Value} {a : Addr} {w' : World} (hn : szX P t = some n) (hsz : y.cells.size = n) (h : (storeCells a y.cells.toList).run P w = .ok () w') :
    (storeVar t a y).run P w = .ok () w' := by
  simp [storeVar, run_sz hn, hsz, h]

end
end Go.Ax

/-
  AxS11: append.
-/
namespace Go.Ax
open Go Go.RowKit

section
variable {P : Program} {G : Glob} {B : Nat} {φ : PM} {st : St} {w : World} {ev : Operand → Option AV} {η : Operand → Value}

/-- What append takes: how many elements, and their cells. -/
inductive Src (P : Program) (argTypes : Array TypeId) (el size n : Nat) (x' : Value) (new : Array Value) (w : World) : Prop where
  | plain (hz : argTypes[1]? = none ∨ ∃ u d, argTypes[1]? = some u ∧ P.underlying u = some d ∧ ∀ k, d ≠ .int k)
      (hn : Builtin.lenOf x' = pure n) (hf : ∀ w' : World, w'.heap = w.heap → (Builtin.firstCells size n x').run P w' = .ok new w')
  | zeros (u : TypeId) (k kk : IntKind) (y : Value) (hu : argTypes[1]? = some u) (hk : P.underlying u = some (.int k)) (hx : x' = .int kk (n : Int))
      (hy : ∀ w' : World, (zeroValue el).run P w' = .ok y w') (hnew : new = if n * size = 0 then #[] else Builtin.zeroCells y.cells n)

theorem wrap_small {n : Nat} (h : n < 9223372036854775808) : IntKind.i64.wrap (n : Int) = n := by
  rw [← wrapK_eq]; simp only [wrapK, isSigned, bitsHalf]; rw [nat_blt, decide_eq_true (by omega)]; rfl

theorem run_append_fit {argTypes : Array TypeId} {t el size n sLen sCap rt : Nat} {inf : TypeInfo} {x' : Value} {new : Array Value} {a : Addr} {w' : World}
    (hsrc : Src P argTypes el size n x' new w) (h0 : argTypes[0]? = some t) (ht : P.underlying t = some (.slice el)) (hs : szX P el = some size) (hi : P.info? el = some inf)
    (hn : n < 1073741824) (hb : n * inf.bytes ≤ 281474976710656) (hfit : sLen + n ≤ sCap) (hst : (storeCells (a.add (sLen * size)) new.toList).run P w = .ok () w') :
    (Builtin.append_ argTypes rt #[.slice (some a) sLen sCap, x']).run P w = .ok (.slice (some a) (sLen + n) sCap) w' := by
  cases hsrc with
  | plain hz hl hf =>
    rcases hz with hz | ⟨u, d, hu, hd, hne⟩
    · simp [Builtin.append_, h0, hz, run_und ht, run_sz hs, hl, hfit, hf w rfl, hst]
    · simp [Builtin.append_, h0, hu, run_und hd, run_und ht, run_sz hs, hl, hfit, hf w rfl, hst]
  | zeros u k kk y hu hk hx hy hnew =>
    subst hx
    have hw : IntKind.i64.wrap (n : Int) = n := wrap_small (by omega)
    have h1 : ¬ ((n : Int) < 0) := by omega
    have h2 : ¬ (281474976710656 < (n : Int) * (inf.bytes : Int)) := by
      have e : (n : Int) * (inf.bytes : Int) = ((n * inf.bytes : Nat) : Int) := by simp
      rw [e]; omega
    by_cases h3 : n * size = 0
    · rw [if_pos h3] at hnew; subst hnew
      simp [Builtin.append_, h0, hu, run_und hk, run_und ht, run_sz hs, asInt, asIntOf, hw, h1, h2, run_info hi, hfit, h3]
      have hst2 : (storeCells (a.add (sLen * size)) []).run P w = .ok () w' := by simpa using hst
      rw [hst2]; rfl
    · rw [if_neg h3] at hnew; subst hnew
      simp [Builtin.append_, h0, hu, run_und hk, run_und ht, run_sz hs, asInt, asIntOf, hw, h1, h2, run_info hi, hfit, h3, hy, hst]

theorem run_append_zero {argTypes : Array TypeId} {t el size sLen sCap rt : Nat} {inf : TypeInfo} {x' : Value} {new : Array Value} {base : Option Addr}
    (hsrc : Src P argTypes el size 0 x' new w) (h0 : argTypes[0]? = some t) (ht : P.underlying t = some (.slice el)) (hs : szX P el = some size) (hi : P.info? el = some inf)
    (hfit : sLen ≤ sCap) (hnew0 : new = #[]) :
    (Builtin.append_ argTypes rt #[.slice base sLen sCap, x']).run P w = .ok (.slice base sLen sCap) w := by
  cases hsrc with
  | plain hz hl hf =>
    rw [hnew0] at hf
    rcases hz with hz | ⟨u, d, hu, hd, hne⟩
    · cases base <;> simp [Builtin.append_, h0, hz, run_und ht, run_sz hs, hl, hfit, hf w rfl, storeCells]
    · have hd' : (match d with | .int _ => true | _ => false) = false := by cases d <;> first | rfl | exact absurd rfl (hne _)
      cases base <;> simp [Builtin.append_, h0, hu, run_und hd, run_und ht, run_sz hs, hl, hfit, hf w rfl, storeCells]
  | zeros u k kk y hu hk hx hy hnew =>
    subst hx
    have hw : IntKind.i64.wrap (0 : Int) = 0 := wrap_small (n := 0) (by omega)
    cases base <;> simp [Builtin.append_, h0, hu, run_und hk, run_und ht, run_sz hs, asInt, asIntOf, hw, run_info hi, hfit, storeCells]

theorem run_append_more {argTypes : Array TypeId} {t el size n sLen sCap rt : Nat} {inf : TypeInfo} {x' y : Value} {new old : Array Value} {base : Option Addr}
    (hsrc : Src P argTypes el size n x' new w) (h0 : argTypes[0]? = some t) (ht : P.underlying t = some (.slice el)) (hs : szX P el = some size) (hi : P.info? el = some inf)
    (hn : n < 1073741824) (hsl : sLen < 1073741824) (hb0 : n * inf.bytes ≤ 281474976710656) (hb : 2 * (sLen + n) * inf.bytes ≤ 281474976710656) (hfit : sCap < sLen + n) (hz : ∀ w' : World, (zeroValue el).run P w' = .ok y w')
    (hold : ∀ w' : World, w'.heap = w.heap → (Builtin.firstCells size sLen (.slice base sLen sCap)).run P w' = .ok old w') :
    (Builtin.append_ argTypes rt #[.slice base sLen sCap, x']).run P w = .ok (.slice (some ⟨w.heap.size, 0, none⟩) (sLen + n) (grownCap w (sLen + n) sCap el))
      (w.drew.alloc (.cells (old ++ new ++ Builtin.zeroCells y.cells (grownCap w (sLen + n) sCap el - (sLen + n))) el)) := by
  have hno : ¬ (sLen + n ≤ sCap) := by omega
  have h63 : ¬ (9223372036854775807 < ((sLen : Int) + (n : Int))) := by omega
  have h48 : ¬ (281474976710656 < Builtin.nextslicecap (sLen + n) sCap * inf.bytes) := by
    have h1 : Builtin.nextslicecap (sLen + n) sCap * inf.bytes ≤ 2 * (sLen + n) * inf.bytes := Nat.mul_le_mul_right _ (nextslicecap_le hfit)
    omega
  have ho := hold w.drew rfl
  cases hsrc with
  | plain hz' hl hf =>
    have hf' := hf w.drew rfl
    rcases hz' with hz' | ⟨u, d, hu, hd, hne⟩
    · simp [Builtin.append_, h0, hz', run_und ht, run_sz hs, run_info hi, hl, hno, h63, h48, Question.forced, hf', ho, hz, newRow, grownCap]
    · have hd' : (match d with | .int _ => true | _ => false) = false := by cases d <;> first | rfl | exact absurd rfl (hne _)
      simp [Builtin.append_, h0, hu, run_und hd, run_und ht, run_sz hs, run_info hi, hl, hno, h63, h48, Question.forced, hf', ho, hz, newRow, grownCap]
  | zeros u k kk y' hu hk hx hy hnew =>
    subst hx
    have hw : IntKind.i64.wrap (n : Int) = n := wrap_small (by omega)
    have h1 : ¬ ((n : Int) < 0) := by omega
    have h2 : ¬ (281474976710656 < (n : Int) * (inf.bytes : Int)) := by
      have e : (n : Int) * (inf.bytes : Int) = ((n * inf.bytes : Nat) : Int) := by simp
      rw [e]; omega
    have hyy : y' = y := by have := (hy w).symm.trans (hz w); simpa using this
    subst hyy
    by_cases h3 : n * size = 0
    · rw [if_pos h3] at hnew; subst hnew
      simp [Builtin.append_, h0, hu, run_und hk, run_und ht, run_sz hs, asInt, asIntOf, hw, h1, h2, run_info hi, hno, h63, h48, h3, Question.forced, ho, hz, newRow, grownCap]
    · rw [if_neg h3] at hnew; subst hnew
      simp [Builtin.append_, h0, hu, run_und hk, run_und ht, run_sz hs, asInt, asIntOf, hw, h1, h2, run_info hi, hno, h63, h48, h3, hy, Question.forced, ho, newRow, grownCap]

theorem zeroX_all {t : TypeId} {z : List AV} (hz : zeroX P t = some z) : ∃ y : Value, (∀ w : World, (zeroValue t).run P w = .ok y w) ∧ VRs φ z y.cells.toList := by
  unfold zeroX at hz
  split at hz
  · rename_i i hi
    split at hz
    · rename_i cs hc
      cases hz
      exact ⟨.agg cs, fun w => by simp [zeroValue, run_info hi, hc], VRs.of1 _⟩
    · rename_i x hne hc
      cases hz
      refine ⟨x, fun w => by simp [zeroValue, run_info hi, hc], ?_⟩
      cases x <;> first | exact VRs.cons (VR.of1 _) VRs.nil | exact absurd rfl (hne _)
    · cases hz
  · cases hz
theorem zeroV_all {t : TypeId} {z : AV} (hz : zeroV P t = some z) : ∃ y : Value, (∀ w : World, (zeroValue t).run P w = .ok y w) := by
  unfold zeroV at hz
  split at hz
  · rename_i i hi
    split at hz
    · rename_i x hc
      exact ⟨x, fun w => by simp [zeroValue, run_info hi, hc]⟩
    · cases hz
  · cases hz

theorem elemsX_sound (hr : HR G B φ st w) {size n : Nat} {x : AV} {x' : Value} {l : List AV} (h : elemsX size x n st = some l) (hc : countX x = some n ∨ ∃ m, countX x = some m ∧ n ≤ m) (hx : VR φ x x') :
    ∃ ys : Array Value, VRs φ l ys.toList ∧ ∀ w' : World, w'.heap = w.heap → (Builtin.firstCells size n x').run P w' = .ok ys w' := by
  have hcnt : ∃ m, countX x = some m ∧ n ≤ m := hc.elim (fun h => ⟨n, h, Nat.le_refl _⟩) id
  obtain ⟨m, hm, hle⟩ := hcnt
  unfold elemsX at h
  split at h
  · rename_i b off len lo ex es
    simp only [VR] at hx; obtain ⟨p, c, hp, rfl, _⟩ := hx
    rw [cond_eq_ite] at h
    split at h
    · split at h
      · rename_i d rn el rex fz mt hg
        obtain ⟨ys, h1, h2, h3⟩ := (hr.objs _ _ _ hg hp).rd _ _ _ h
        refine ⟨ys.toArray, by simpa using h1, fun w' hw => ?_⟩
        simp only [Builtin.firstCells]
        refine run_loadCells h2 fun j hj => ?_
        rw [← h3 j hj]
        simp only [World.cell?, hw]
      · cases h
    · cases h
  · simp only [VR] at hx; subst hx
    cases h
    exact ⟨#[], VRs.nil, fun w' _ => by simp [Builtin.firstCells]⟩
  · rename_i k c
    simp only [VR] at hx; subst hx
    cases h
    simp only [countX, Option.some.injEq] at hm
    subst hm
    refine ⟨((bl n c).map fun b => Value.int .u8 b.toNat).toArray, by simpa using VRs.cellsOfStr n c, fun w' _ => ?_⟩
    simp only [Builtin.firstCells, Sem.run_pure]
    congr 1
    apply Array.toList_inj.1
    rw [Array.toList_map, ByteArray.data_extract, Array.toList_extract, mkB_data, List.extract_eq_take_drop]
    simp only [List.drop_zero, Nat.sub_zero]
    rw [bl_take k c n hle]
  · cases h

theorem countX_len {x : AV} {x' : Value} {n : Nat} (h : countX x = some n) (hx : VR φ x x') : Builtin.lenOf x' = pure n := by
  unfold countX at h
  split at h
  · simp only [VR] at hx; obtain ⟨p, c, _, rfl, _⟩ := hx
    cases h; rfl
  · simp only [VR] at hx; subst hx; cases h; rfl
  · simp only [VR] at hx; subst hx; cases h; simp [Builtin.lenOf, mkB_size]
  · cases h

theorem newX_sound (hr : HR G B φ st w) {argTypes : Array TypeId} {xt : Option TypeId} {size el n : Nat} {x : AV} {x' : Value} {l : List AV} (h : newX P xt size el x st = some (n, l))
    (hxt : argTypes[1]? = xt) (hx : VR φ x x') (hl : l.length = n * size) : ∃ ys : Array Value, Src P argTypes el size n x' ys w ∧ VRs φ l ys.toList := by
  unfold newX at h
  split at h
  · rename_i hz
    unfold zerosX at hz
    split at hz
    · rename_i u
      split at hz
      · rename_i k hk
        split at h
        · rename_i m z hm hzz
          cases h
          obtain ⟨kk, rfl⟩ := idxOf_some hm
          simp only [VR] at hx
          obtain ⟨y, hy, hv⟩ := zeroX_all (φ := φ) hzz
          refine ⟨_, .zeros u k kk y hxt hk hx hy rfl, ?_⟩
          have hzl := hv.length
          simp only [Array.length_toList] at hzl
          split
          · rename_i h0
            rw [h0] at hl
            rw [List.eq_nil_of_length_eq_zero hl]
            exact VRs.nil
          · have := VRs.repl (n := n) hv
            rw [← hzl] at this
            exact this
        · cases h
      · cases hz
      · cases hz
    · cases hz
  · rename_i hz
    have hz' : argTypes[1]? = none ∨ ∃ u d, argTypes[1]? = some u ∧ P.underlying u = some d ∧ ∀ k, d ≠ .int k := by
      unfold zerosX at hz
      split at hz
      · rename_i u
        split at hz
        · cases hz
        · rename_i d hne hd
          exact .inr ⟨u, d, hxt, hd, fun k e => hne k e⟩
        · cases hz
      · exact .inl hxt
    split at h
    · rename_i m hm
      split at h
      · rename_i l' hl'
        cases h
        obtain ⟨ys, h1, h2⟩ := elemsX_sound (P := P) hr hl' (.inl hm) hx
        exact ⟨ys, .plain hz' (countX_len hm hx) h2, h1⟩
      · cases h
    · cases h
  · cases h

theorem strict_eq (st : St) (k : St → OR) {v : AV} {st' : St} (h : strict st k = .val v st') : k st = .val v st' := strict_val h

/-- A new array that append makes. -/
theorem appNew_sound (hr : HR G B φ st w) {el need size cap : Nat} {l : List AV} {v : AV} {st' : St} {ys rest : Array Value} (h : appNew st el need size l = .val v st') (hl : VRs φ l ys.toList)
    (hcap : need ≤ cap) (hsz : rest.size = (cap - need) * size) (hlen : l.length = need * size) :
    ∃ φ', PM.ext st.nxt φ φ' ∧ VR φ' v (.slice (some ⟨w.heap.size, 0, none⟩) need cap) ∧ HR G B φ' st' (w.drew.alloc (.cells (ys ++ rest) el)) ∧ Below B w (w.drew.alloc (.cells (ys ++ rest) el)) := by
  unfold appNew at h
  have h' := strict_eq _ _ h
  simp only [OR.val.injEq] at h'
  obtain ⟨rfl, rfl⟩ := h'
  have hyl := hl.length
  simp only [Array.length_toList] at hyl
  let p : PB := ⟨w.heap.size, 0, (ys ++ rest).size⟩
  have hle := PM.put_le p (hr.fresh_none (Nat.le_refl st.nxt))
  refine ⟨φ.put st.nxt p, PM.put_ext p (hr.fresh_none (Nat.le_refl st.nxt)), ?_, ?_, ?_⟩
  · rw [mkSl_eq]
    simp only [VR]
    refine ⟨p, cap, PM.put_same _ _ _, rfl, hcap, (fun e => by cases e), Nat.le_refl _, ?_⟩
    simp only [p, Array.size_append, hsz, hyl, hlen]
    rw [← Nat.add_mul]
    have : need + (cap - need) = cap := by omega
    rw [this]; omega
  · refine hr.new (rowOf el l false 0) p rfl (by simp) (fun k hk => Below.heap_alloc _ _ _ (by simpa using hk)) ?_
    refine row_new (lo := 0) (hi := 0) ?_ ?_ (fun e => by cases e) rfl
    · have := alloc_new w.drew (.cells (ys ++ rest) el)
      exact this
    · rw [Array.toList_append, List.take_append_of_le_length (by simp; omega), List.take_of_length_le (by simp; omega)]
      exact VRs.mono hle _ _ hl
  · exact (Below.refl _ _).drew.alloc hr.base _
end
end Go.Ax

/-
  AxS12: append, as a whole.
-/
namespace Go.Ax
open Go Go.RowKit

section
variable {P : Program} {G : Glob} {B : Nat} {φ : PM} {st : St} {w : World} {ev : Operand → Option AV} {η : Operand → Value}

theorem wr_ne {d : Tr AV} {off : Nat} {l : List AV} {x : Option AV} {y z : Tr AV} (h : wr d off l = .n x y z) : wr d off l = Tr.n x y z := h

theorem appFit_sound (hr : HR G B φ st w) {b off sLen n lo size : Nat} {ex : Bool} {l : List AV} {v : AV} {st' : St} {ys : List Value} {p : PB} {c : Nat}
    (h : appFit st b off sLen n lo ex size l = .val v st') (hp : φ b = some p) (hl : VRs φ l ys) (hlen : l.length = n * size) (hc : lo ≤ c) (hex : ex = true → c = lo) (hfit : sLen + n ≤ lo)
    (hbd : p.base + off + c * size ≤ p.size) :
    ∃ w', (storeCells ((⟨p.blk, p.base + off, none⟩ : Addr).add (sLen * size)) ys).run P w = .ok () w' ∧ VR φ v (.slice (some ⟨p.blk, p.base + off, none⟩) (sLen + n) c) ∧ HR G B φ st' w' ∧ Below B w w' := by
  unfold appFit at h
  split at h
  · rename_i d rn rel rex fz mate hg
    rw [cond_eq_ite] at h
    split at h
    · rename_i hcnd
      simp only [Bool.and_eq_true, Nat.ble_eq] at hcnd
      split at h
      · cases h
      · rename_i x y z hw
        have h' := strict_eq _ _ h
        simp only [OR.val.injEq] at h'
        obtain ⟨rfl, rfl⟩ := h'
        obtain ⟨cells, lo', hi', g1, g2, g3, g4, _⟩ := hr.objs _ _ _ hg hp
        have hmul : (sLen + n) * size ≤ c * size := Nat.mul_le_mul_right _ (by omega)
        have hmul2 : (sLen + n) * size = sLen * size + n * size := Nat.add_mul _ _ _
        have hmax : ∀ a b : Nat, (bif Nat.ble a b then b else a) = max a b := by
          intro a b; rw [cond_eq_ite]
          split
          · rename_i h; rw [Nat.ble_eq] at h; omega
          · rename_i h; rw [Nat.ble_eq] at h; omega
        have := hr.write (P := P) (off := off + sLen * size) (n' := max (off + (sLen + n) * size) rn) hg hp hl hcnd.1 hcnd.2 (by omega) (by omega) (by omega) (by omega) (fun e => by
          obtain ⟨a, b'⟩ := g4 e; omega)
        rw [hw] at this
        obtain ⟨w', e1, e2, e3⟩ := this
        refine ⟨w', ?_, ?_, ?_, e3⟩
        · rw [addr_add, ← Nat.add_assoc] at *
          exact e1
        · rw [mkSl_eq]; simp only [VR]; exact ⟨p, c, hp, rfl, hc, hex, hfit, hbd⟩
        · rw [hmax]; exact e2
    · cases h
  · cases h

theorem appGrow_sound (hr : HR G B φ st w) {el b off sLen n size cap : Nat} {l : List AV} {v : AV} {st' : St} {ys rest : Array Value} {p : PB}
    (h : appGrow st el b off sLen n size l = .val v st') (hp : φ b = some p) (hl : VRs φ l ys.toList) (hlen : l.length = n * size) (hcap : sLen + n ≤ cap) (hsz : rest.size = (cap - (sLen + n)) * size) :
    ∃ (old : Array Value) (φ' : PM), (∀ w' : World, w'.heap = w.heap → ∀ len c, (Builtin.firstCells size sLen (.slice (some ⟨p.blk, p.base + off, none⟩) len c)).run P w' = .ok old w') ∧
      PM.ext st.nxt φ φ' ∧ VR φ' v (.slice (some ⟨w.heap.size, 0, none⟩) (sLen + n) cap) ∧ HR G B φ' st' (w.drew.alloc (.cells (old ++ ys ++ rest) el)) ∧ Below B w (w.drew.alloc (.cells (old ++ ys ++ rest) el)) := by
  unfold appGrow at h
  split at h
  · rename_i d rn rel rex fz mate hg
    split at h
    · rename_i old hold
      obtain ⟨os, h1, h2, h3⟩ := (hr.objs _ _ _ hg hp).rd _ _ _ hold
      have hol := h1.length
      obtain ⟨φ', e1, e2, e3, e4⟩ := appNew_sound (ys := os.toArray ++ ys) (rest := rest) hr h (by simpa using h1.append hl) hcap hsz (by
        rw [List.length_append, hlen, Nat.add_mul]; omega)
      refine ⟨os.toArray, φ', fun w' hw len c => ?_, e1, e2, e3, e4⟩
      simp only [Builtin.firstCells]
      refine run_loadCells h2 fun j hj => ?_
      rw [← h3 j hj]
      simp only [World.cell?, hw]
    · cases h
  · cases h

theorem appMaybe_sound (hr : HR G B φ st w) {el b off sLen n size c : Nat} {l : List AV} {v : AV} {st' : St} {ys : List Value} {p : PB}
    (h : appMaybe st el b off sLen n size l = .val v st') (hp : φ b = some p) (hl : VRs φ l ys) (hlen : l.length = n * size) (hbd : p.base + off + c * size ≤ p.size) :
    (sLen + n ≤ c → ∃ w' φ', (storeCells ((⟨p.blk, p.base + off, none⟩ : Addr).add (sLen * size)) ys).run P w = .ok () w' ∧ PM.ext st.nxt φ φ' ∧
      VR φ' v (.slice (some ⟨p.blk, p.base + off, none⟩) (sLen + n) c) ∧ HR G B φ' st' w' ∧ Below B w w') ∧
    (∀ (cap : Nat) (old rest : Array Value), sLen + n ≤ cap → rest.size = (cap - (sLen + n)) * size → old.size = sLen * size → (∀ j (hj : j < old.size), w.cell? ⟨p.blk, p.base + off + j, none⟩ = some old[j]) →
      ∃ φ', PM.ext st.nxt φ φ' ∧ VR φ' v (.slice (some ⟨w.heap.size, 0, none⟩) (sLen + n) cap) ∧
        HR G B φ' st' (w.drew.alloc (.cells (old ++ ys.toArray ++ rest) el)) ∧ Below B w (w.drew.alloc (.cells (old ++ ys.toArray ++ rest) el))) := by
  unfold appMaybe at h
  split at h
  · rename_i d rn rel fz mate hg
    rw [cond_eq_ite] at h
    split at h
    · rename_i hcnd
      simp only [Bool.and_eq_true, Bool.or_eq_true, Nat.beq_eq, Nat.ble_eq] at hcnd
      obtain ⟨⟨⟨hrel, hone⟩, hfz⟩, hoff⟩ := hcnd
      subst hrel
      split at h
      · cases h
      · rename_i d' hd'
        split at h
        · cases h
        · rename_i x y z hw
          have h' := strict_eq _ _ h
          simp only [OR.val.injEq] at h'
          obtain ⟨rfl, rfl⟩ := h'
          have hobj := hr.objs _ _ _ hg hp
          obtain ⟨cells, lo, hi, g1, g2, g3, g4, g5, g6⟩ := hobj
          have hyl := hl.length
          have hmul2 : (sLen + n) * size = sLen * size + n * size := Nat.add_mul _ _ _
          -- what d' holds
          have hdold : ∀ i u, d'.get i = some u → i < sLen * size ∧ ∃ r, cells[p.base + off + i]? = some r ∧ VR φ u r := by
            intro i u hu
            rw [cond_eq_ite] at hd'
            split at hd'
            · rename_i hz
              simp only [Bool.and_eq_true, Nat.beq_eq] at hz
              cases hd'
              obtain ⟨a1, r, a2, a3⟩ := g6 i u hu
              exact ⟨by omega, r, by rw [hz.1]; exact a2, a3⟩
            · split at hd'
              · rename_i old hold
                cases hd'
                obtain ⟨os, a1, a2, a3⟩ := ObR.rd (show ObR φ (.row d rn rel false fz mate) p w from ⟨cells, lo, hi, g1, g2, g3, g4, g5, g6⟩) _ _ _ hold
                rw [mkTr_get] at hu
                obtain ⟨r, b1, b2⟩ := a1.get hu
                have hi' : i < os.length := by
                  rcases Nat.lt_or_ge i os.length with h' | h'
                  · exact h'
                  · rw [List.getElem?_eq_none h'] at b1; cases b1
                have := a3 i hi'
                rw [List.getElem?_eq_getElem hi'] at b1; cases b1
                simp only [World.cell?, g1, Option.isSome_none, Bool.false_eq_true, if_false] at this
                exact ⟨by omega, _, this, b2⟩
              · cases hd'
          -- the old row, with its new mate, or dead
          have hold : ∀ (cells' : Array Value) (w' : World), w'.heap[p.blk]? = some (.cells cells' rel (lo, hi)) → cells'.size = cells.size → (∀ j, j < p.base + off + sLen * size → cells'[j]? = cells[j]?) →
              ObR φ (bif Nat.beq (off + sLen * size) rn then .row d rn rel false fz (st.nxt + 1) else .dead) p w' := by
            intro cells' w' e1 e2 e3
            rw [cond_eq_ite]
            split
            · rename_i htop
              rw [Nat.beq_eq] at htop
              refine ⟨cells', lo, hi, e1, by rw [e2]; exact g2, by rw [e2]; exact g3, (fun e => by cases e), by rw [e2]; exact g5, fun i u hu => ?_⟩
              obtain ⟨a1, r, a2, a3⟩ := g6 i u hu
              exact ⟨a1, r, by rw [e3 _ (by omega)]; exact a2, a3⟩
            · trivial
          constructor
          · intro hfit
            have hmul : (sLen + n) * size ≤ c * size := Nat.mul_le_mul_right _ hfit
            obtain ⟨w', cells', e1, e2, e3, e4, e5, e6, e7, e8, e9⟩ := run_storeCells (P := P) (o := p.base + (off + sLen * size)) ys 0 w cells g1 (by omega) (fun j h1 h2 => by
              have := g5.free (off := j - p.base) (by omega) (by omega)
              rwa [show p.base + (j - p.base) = j by omega] at this) (allOne_sound l ys hone hl)
            have hst1 := hr.upd (w' := w') (o := .row d rn rel false fz mate) (o' := bif Nat.beq (off + sLen * size) rn then .row d rn rel false fz (st.nxt + 1) else .dead) hg trivial hp e6 e5
              (hold cells' w' e2 e3 fun j hj => by rw [e4, if_neg (by omega)])
            have hdom := hr.dom b p hp
            have hne : b ≠ st.nxt := by omega
            let q : PB := ⟨p.blk, p.base + off, p.size⟩
            have hle : PM.le φ (φ.put st.nxt q) := PM.put_le q (hr.fresh_none (Nat.le_refl st.nxt))
            refine ⟨w', φ.put st.nxt q, by rw [addr_add, Nat.add_assoc]; exact e1, PM.put_ext q (hr.fresh_none (Nat.le_refl st.nxt)), ?_, ?_, ⟨e7, e8, e9, by omega, fun k hk => e5 k (by omega)⟩⟩
            · rw [mkSl_eq]; simp only [VR]
              exact ⟨q, c, PM.put_same _ _ _, by simp [q], hfit, (fun e => by cases e), Nat.le_refl _, by simp only [q]; omega⟩
            · refine hst1.share (.row (.n x y z) ((sLen + n) * size) rel false fz (bif Nat.beq (off + sLen * size) rn then b + 1 else 0)) q hdom.2.1 (by rw [e6]; exact hdom.2.2) ?_ ?_
              · refine ⟨cells', lo, hi, e2, by rw [e3]; exact g2, by simp only [q]; omega, (fun e => by cases e), ?_, fun i u hu => ?_⟩
                · rw [e3]
                  simp only [q]
                  rcases hoff with h0 | h0
                  · rw [h0, Nat.add_zero]; exact g5
                  · match fz, g5, h0 with
                    | 0, g5, _ => exact g5
                    | 1, g5, _ => exact g5
                    | k + 2, _, h0 => omega
                · rw [← hw, wr_get] at hu
                  simp only [q]
                  split at hu
                  · rename_i hrng
                    obtain ⟨r, a1, a2⟩ := hl.get hu
                    refine ⟨by omega, r, ?_, VR.mono hle _ _ a2⟩
                    rw [e4, if_pos (by omega), show p.base + off + i - (p.base + (off + sLen * size) + 0) = i - sLen * size by omega]
                    exact a1
                  · obtain ⟨a1, r, a2, a3⟩ := hdold i u hu
                    refine ⟨by omega, r, ?_, VR.mono hle _ _ a3⟩
                    rw [e4, if_neg (by omega)]
                    exact a2
              · intro k ob r hk hk2 hlive hblk
                by_cases hkb : k = b
                · subst hkb
                  rw [hp] at hk2; cases hk2
                  simp only [Tr.get_set, if_true, Option.some.injEq] at hk
                  subst hk
                  rw [cond_eq_ite] at hlive ⊢
                  split at hlive
                  · rename_i htop
                    rw [if_pos htop]
                    exact ⟨rfl, by simp only [AO.mate]; rw [htop]; rfl⟩
                  · exact hlive.elim
                · exact absurd hblk (hr.other (o := .row d rn rel false fz mate) hg trivial hp hkb hk hlive hk2)
          · intro cap old rest hcap hrest hold1 hold2
            have hst1 := hr.upd (w' := w) (o := .row d rn rel false fz mate) (o' := bif Nat.beq (off + sLen * size) rn then .row d rn rel false fz (st.nxt + 1) else .dead) hg trivial hp rfl (fun _ _ => rfl)
              (hold cells w g1 rfl fun _ _ => rfl)
            let q : PB := ⟨w.heap.size, 0, (old ++ ys.toArray ++ rest).size⟩
            have hle : PM.le φ (φ.put st.nxt q) := PM.put_le q (hr.fresh_none (Nat.le_refl st.nxt))
            refine ⟨φ.put st.nxt q, PM.put_ext q (hr.fresh_none (Nat.le_refl st.nxt)), ?_, ?_, (Below.refl _ _).drew.alloc hr.base _⟩
            · rw [mkSl_eq]; simp only [VR]
              refine ⟨q, cap, PM.put_same _ _ _, by simp [q], hcap, (fun e => by cases e), Nat.le_refl _, ?_⟩
              simp only [q, Array.size_append, hold1, hrest, List.size_toArray, hyl, hlen]
              rw [← Nat.add_mul, ← Nat.add_mul]
              have : sLen + n + (cap - (sLen + n)) = cap := by omega
              rw [this]; omega
            · refine hst1.new (.row (.n x y z) ((sLen + n) * size) rel false fz (bif Nat.beq (off + sLen * size) rn then b + 1 else 0)) q rfl (by simp) (fun k hk => Below.heap_alloc _ _ _ (by simpa using hk)) ?_
              refine ⟨old ++ ys.toArray ++ rest, 0, 0, alloc_new w.drew _, rfl, by simp only [q, Array.size_append, hold1, hrest, List.size_toArray, hyl, hlen]; omega, (fun e => by cases e), ?_, fun i u hu => ?_⟩
              · match fz with
                | 0 => rfl
                | 1 => exact .inl rfl
                | k + 2 => simp [FZ]
              · rw [← hw, wr_get] at hu
                simp only [q, Nat.zero_add]
                split at hu
                · rename_i hrng
                  obtain ⟨r, a1, a2⟩ := hl.get hu
                  refine ⟨by omega, r, ?_, VR.mono hle _ _ a2⟩
                  rw [Array.getElem?_append_left (by simp [hold1, hyl]; omega), Array.getElem?_append_right (by rw [hold1]; omega), hold1]
                  simpa using a1
                · obtain ⟨a1, r, a2, a3⟩ := hdold i u hu
                  refine ⟨by omega, r, ?_, VR.mono hle _ _ a3⟩
                  rw [Array.getElem?_append_left (by simp [hold1, hyl]; omega), Array.getElem?_append_left (by rw [hold1]; omega)]
                  have := hold2 i (by rw [hold1]; omega)
                  simp only [World.cell?, g1, Option.isSome_none, Bool.false_eq_true, if_false] at this
                  rw [a2] at this
                  rw [Array.getElem?_eq_getElem (by rw [hold1]; omega), this]
    · cases h
  · cases h

theorem zeroCells_size (z : Array Value) (n : Nat) : (Builtin.zeroCells z n).size = n * z.size := by simp [Builtin.zeroCells]

theorem appendX_sound (hr : HR G B φ st w) {argTypes : Array TypeId} {t rt : TypeId} {xt : Option TypeId} {s x v : AV} {st' : St} {s' x' : Value} (h : appendX P t xt s x st = .val v st')
    (h0 : argTypes[0]? = some t) (h1 : argTypes[1]? = xt) (hs : VR φ s s') (hx : VR φ x x') :
    ∃ y w' φ', (Builtin.append_ argTypes rt #[s', x']).run P w = .ok y w' ∧ PM.ext st.nxt φ φ' ∧ VR φ' v y ∧ HR G B φ' st' w' ∧ Below B w w' := by
  unfold appendX at h
  split at h
  · rename_i el ht
    split at h
    · rename_i size inf zv hsz hi hzv
      split at h
      · rename_i n new hnew
        rw [cond_eq_ite] at h
        split at h
        · cases h
        · rename_i hc
          simp only [Bool.or_eq_true, Bool.not_eq_true', not_or, Bool.not_eq_false, Nat.beq_eq, nat_blt, decide_eq_true_eq, Nat.ble_eq, len_eq] at hc
          obtain ⟨⟨⟨⟨hc0, hc1⟩, hc2⟩, hc3⟩, hc4⟩ := hc
          obtain ⟨ys, hsrc, hv⟩ := newX_sound (P := P) hr hnew h1 hx hc1
          obtain ⟨z, hz, hzl⟩ := zeroX_all (P := P) (φ := φ) hzv
          have hyl := hv.length
          simp only [Array.length_toList] at hyl
          have hzsz : z.cells.size = size := by
            have := hzl.length
            simp only [Array.length_toList] at this
            omega
          split at h
          · simp only [VR] at hs; subst hs
            rw [cond_eq_ite] at h
            split at h
            · rename_i hn0
              rw [Nat.beq_eq] at hn0; subst hn0
              cases h
              have : ys = #[] := Array.eq_empty_of_size_eq_zero (by rw [hyl, hc1]; simp)
              exact ⟨_, w, φ, run_append_zero hsrc h0 ht hsz hi (Nat.le_refl _) this, PM.ext_refl _ _, by simp [VR], hr, Below.refl _ _⟩
            · rename_i hn0
              rw [Nat.beq_eq] at hn0
              rw [cond_eq_ite] at h
              split at h
              · rename_i hb
                rw [Nat.ble_eq] at hb
                have hcap := grownCap_ge w (0 + n) 0 el
                have hrun := run_append_more (rt := rt) (base := none) (sLen := 0) (sCap := 0) (old := #[]) hsrc h0 ht hsz hi hc3 (by omega) hc4 (by simpa using hb) (by omega) hz (fun w' _ => run_firstCells_none _ _ _ _ _)
                obtain ⟨φ', e1, e2, e3, e4⟩ := appNew_sound (ys := ys) (rest := Builtin.zeroCells z.cells (grownCap w (0 + n) 0 el - (0 + n))) (cap := grownCap w (0 + n) 0 el) hr h hv (by omega)
                  (by rw [zeroCells_size, hzsz]; simp) hc1
                simp only [Array.empty_append] at hrun
                simp only [Nat.zero_add] at hrun e2 e3 e4
                exact ⟨_, _, φ', hrun, e1, e2, e3, e4⟩
              · cases h
          · rename_i b off sLen lo ex es
            simp only [VR] at hs; obtain ⟨p, c, hp, rfl, g1, g2, g3, g4⟩ := hs
            rw [cond_eq_ite] at h
            split at h
            · cases h
            · rename_i hes
              simp only [Bool.or_eq_true, Bool.not_eq_true', not_or, Bool.not_eq_false, Nat.beq_eq, nat_blt, decide_eq_true_eq] at hes
              obtain ⟨rfl, hsl⟩ := hes
              rw [cond_eq_ite] at h
              split at h
              · rename_i hn0
                rw [Nat.beq_eq] at hn0; subst hn0
                cases h
                have : ys = #[] := Array.eq_empty_of_size_eq_zero (by rw [hyl, hc1]; simp)
                refine ⟨_, w, φ, run_append_zero hsrc h0 ht hsz hi (by omega) this, PM.ext_refl _ _, ?_, hr, Below.refl _ _⟩
                simp only [VR]; exact ⟨p, c, hp, rfl, g1, g2, g3, g4⟩
              · rename_i hn0
                rw [Nat.beq_eq] at hn0
                rw [cond_eq_ite] at h
                split at h
                · rename_i hfit
                  rw [Nat.ble_eq] at hfit
                  obtain ⟨w', e1, e2, e3, e4⟩ := appFit_sound (P := P) hr h hp hv hc1 g1 g2 hfit g4
                  exact ⟨_, w', φ, run_append_fit hsrc h0 ht hsz hi hc3 hc4 (by omega) e1, PM.ext_refl _ _, e2, e3, e4⟩
                · rename_i hfit
                  rw [Nat.ble_eq] at hfit
                  rw [cond_eq_ite] at h
                  split at h
                  · cases h
                  · rename_i hb
                    simp only [Bool.not_eq_true', Bool.not_eq_false, Nat.ble_eq] at hb
                    have hcap := grownCap_ge w (sLen + n) c el
                    rw [cond_eq_ite] at h
                    split at h
                    · rename_i hex
                      have hcc := g2 hex
                      subst hcc
                      obtain ⟨old, φ', e0, e1, e2, e3, e4⟩ := appGrow_sound (P := P) (rest := Builtin.zeroCells z.cells (grownCap w (sLen + n) c el - (sLen + n))) (cap := grownCap w (sLen + n) c el) hr h hp hv hc1 hcap (by rw [zeroCells_size, hzsz])
                      have hrun := run_append_more (rt := rt) (base := some ⟨p.blk, p.base + off, none⟩) (sLen := sLen) (sCap := c) (old := old) hsrc h0 ht hsz hi hc3 hsl hc4 hb (by omega) hz (fun w' hw => e0 w' hw _ _)
                      exact ⟨_, _, φ', hrun, e1, e2, e3, e4⟩
                    · obtain ⟨hA, hB⟩ := appMaybe_sound (P := P) hr h hp hv hc1 g4
                      by_cases hin : sLen + n ≤ c
                      · obtain ⟨w', φ', e1, e2, e3, e4, e5⟩ := hA hin
                        exact ⟨_, w', φ', run_append_fit hsrc h0 ht hsz hi hc3 hc4 hin e1, e2, e3, e4, e5⟩
                      · have hrow : ∃ cells lo hi', w.heap[p.blk]? = some (.cells cells el (lo, hi')) ∧ p.size = cells.size := by
                          unfold appMaybe at h
                          split at h
                          · rename_i d rn rel fz mate hg
                            obtain ⟨cells, lo', hi', q1, q2, _⟩ := hr.objs _ _ _ hg hp
                            rw [cond_eq_ite] at h
                            split at h
                            · rename_i hcnd
                              simp only [Bool.and_eq_true, Nat.beq_eq] at hcnd
                              obtain ⟨⟨⟨hrel, _⟩, _⟩, _⟩ := hcnd
                              subst hrel
                              exact ⟨cells, lo', hi', q1, q2⟩
                            · cases h
                          · cases h
                        obtain ⟨cells, lo', hi', q1, q2⟩ := hrow
                        have hmul : sLen * es ≤ c * es := Nat.mul_le_mul_right _ (by omega)
                        obtain ⟨old, hol, hcell⟩ : ∃ old : Array Value, old.size = sLen * es ∧ ∀ j (hj : j < old.size), w.cell? ⟨p.blk, p.base + off + j, none⟩ = some old[j] := by
                          refine ⟨cells.extract (p.base + off) (p.base + off + sLen * es), by simp; omega, fun j hj => ?_⟩
                          have hj' : j < sLen * es := by simp at hj; omega
                          simp only [World.cell?, q1, Option.isSome_none, Bool.false_eq_true, if_false, Array.getElem_extract]
                          exact Array.getElem?_eq_getElem (by omega)
                        obtain ⟨φ', e1, e2, e3, e4⟩ := hB (grownCap w (sLen + n) c el) old (Builtin.zeroCells z.cells (grownCap w (sLen + n) c el - (sLen + n))) hcap (by rw [zeroCells_size, hzsz]) hol hcell
                        have hrun := run_append_more (rt := rt) (base := some ⟨p.blk, p.base + off, none⟩) (sLen := sLen) (sCap := c) (old := old) hsrc h0 ht hsz hi hc3 hsl hc4 hb (by omega) hz (fun w' hw => by
                          simp only [Builtin.firstCells]
                          have := run_loadCells (P := P) (w := w') (b := p.blk) (o := p.base + off) (n := sLen * es) (l := old.toList) (by simpa using hol) (fun j hj => by
                            have := hcell j (by simpa using hj)
                            simp only [World.cell?, hw] at this ⊢
                            rw [this]; simp)
                          simpa using this)
                        exact ⟨_, _, φ', hrun, e1, e2, by simpa using e3, by simpa using e4⟩
          · cases h
      · cases h
    · cases h
  · cases h
end
end Go.Ax

/-
  AxS13: the other operations that change the memory.
-/
namespace Go.Ax
open Go Go.RowKit

section
variable {P : Program} {G : Glob} {B : Nat} {φ : PM} {st : St} {w : World} {ev : Operand → Option AV} {η : Operand → Value}

theorem copyX_sound (hr : HR G B φ st w) {argTypes : Array TypeId} {t rt : TypeId} {d s v : AV} {st' : St} {d' s' : Value} (h : copyX P t d s st = .val v st')
    (h0 : argTypes[0]? = some t) (hd : VR φ d d') (hs : VR φ s s') :
    ∃ y w', (Builtin.copy_ argTypes rt #[d', s']).run P w = .ok y w' ∧ VR φ v y ∧ HR G B φ st' w' ∧ Below B w w' := by
  unfold copyX at h
  split at h
  · rename_i el ht
    split at h
    · rename_i size a b hsz ha hb
      have hmin : (bif Nat.ble a b then a else b) = Nat.min a b := by
        rw [cond_eq_ite]; split
        · rename_i h; rw [Nat.ble_eq] at h; exact (Nat.min_eq_left h).symm
        · rename_i h; rw [Nat.ble_eq] at h; exact (Nat.min_eq_right (by omega)).symm
      simp only [hmin] at h
      have hmn : Nat.min a b = min a b := rfl
      split at h
      · cases h
      · rename_i l hl
        obtain ⟨ys, hv, hf⟩ := elemsX_sound (P := P) hr hl (.inr ⟨a, ha, Nat.min_le_left _ _⟩) hs
        have hla := countX_len ha hs
        split at h
        · simp only [VR] at hd; subst hd
          have hb0 : b = 0 := by
            simp only [countX] at hb; split at hb <;> simp_all
          split at h
          · simp only [OR.val.injEq] at h
            obtain ⟨rfl, rfl⟩ := h
            have hys : ys = #[] := Array.eq_empty_of_size_eq_zero (by have := hv.length; simpa using this)
            refine ⟨goInt (Nat.min a b : Nat), w, ?_, by rw [mkN_eq]; simp [VR, goInt], hr, Below.refl _ _⟩
            rename_i len _ _
            have hlen : len = b := by
              unfold countX at hb
              split at hb <;> simp_all
            subst hlen
            simp [Builtin.copy_, h0, run_und ht, hla, run_sz hsz, hf w rfl]
          · cases h
        · rename_i blk off len lo ex es
          have hlen : len = b := by simpa [countX] using hb
          subst hlen
          simp only [VR] at hd; obtain ⟨p, c, hp, rfl, g1, g2, g3, g4⟩ := hd
          rw [cond_eq_ite] at h
          split at h
          · rename_i hc
            simp only [Bool.and_eq_true, Nat.beq_eq, len_eq] at hc
            obtain ⟨rfl, hc2⟩ := hc
            split at h
            · simp only [OR.val.injEq] at h
              obtain ⟨rfl, rfl⟩ := h
              have hys : ys = #[] := Array.eq_empty_of_size_eq_zero (by have := hv.length; simpa using this)
              subst hys
              refine ⟨goInt (Nat.min a len : Nat), w, ?_, by rw [mkN_eq]; simp [VR, goInt], hr, Below.refl _ _⟩
              have hf' := hf w rfl
              simp only [hmn] at hf'
              simp [Builtin.copy_, h0, run_und ht, hla, run_sz hsz, hf', storeCells]
            · split at h
              · rename_i st1 hst1
                have h' := strict_eq _ _ h
                simp only [OR.val.injEq] at h'
                obtain ⟨rfl, rfl⟩ := h'
                obtain ⟨w', e1, e2, e3⟩ := storeC_sound (P := P) hr hst1 hp hv
                refine ⟨goInt (Nat.min a len : Nat), w', ?_, by rw [mkN_eq]; simp [VR, goInt], e2, e3⟩
                simp [Builtin.copy_, h0, run_und ht, hla, run_sz hsz, hf w rfl, e1]
              · cases h
          · cases h
        · cases h
    · cases h
  · cases h

theorem clearX_sound (hr : HR G B φ st w) {argTypes : Array TypeId} {t rt : TypeId} {x v : AV} {st' : St} {x' : Value} (h : clearX P t x st = .val v st')
    (h0 : argTypes[0]? = some t) (hx : VR φ x x') :
    ∃ y w', (Builtin.clear_ argTypes rt #[x']).run P w = .ok y w' ∧ VR φ v y ∧ HR G B φ st' w' ∧ Below B w w' := by
  unfold clearX at h
  split at h
  · rename_i el n c ht
    simp only [VR] at hx; subst hx
    simp only [OR.val.injEq] at h
    obtain ⟨rfl, rfl⟩ := h
    exact ⟨.tuple #[], w, by simp [Builtin.clear_, h0, run_und ht], by simp [unitV, VR], hr, Below.refl _ _⟩
  · rename_i el b off n lo ex es ht
    simp only [VR] at hx; obtain ⟨p, c, hp, rfl, _⟩ := hx
    split at h
    · rename_i size z hsz hz
      rw [cond_eq_ite] at h
      split at h
      · obtain ⟨y, hy, hv⟩ := zeroX_all (P := P) (φ := φ) hz
        split at h
        · simp only [OR.val.injEq] at h
          obtain ⟨rfl, rfl⟩ := h
          exact ⟨.tuple #[], w, by simp [Builtin.clear_, h0, run_und ht], by simp [unitV, VR], hr, Below.refl _ _⟩
        · rename_i m _
          split at h
          · rename_i st1 hst1
            have h' := strict_eq _ _ h
            simp only [OR.val.injEq] at h'
            obtain ⟨rfl, rfl⟩ := h'
            have hzl := hv.length
            simp only [Array.length_toList] at hzl
            have hrep := VRs.repl (n := m + 1) hv
            rw [← hzl] at hrep
            obtain ⟨w', e1, e2, e3⟩ := storeC_sound (P := P) hr hst1 hp hrep
            refine ⟨.tuple #[], w', ?_, by simp [unitV, VR], e2, e3⟩
            have e1' : (storeCells ⟨p.blk, p.base + off, none⟩ (Builtin.zeroCells y.cells (m + 1)).toList).run P w = .ok () w' := e1
            simp [Builtin.clear_, h0, run_und ht, hy w, e1']
          · cases h
      · cases h
    · cases h
  · cases h

end
end Go.Ax

/-
  AxS14: the operations that change the memory, all but calls of functions.
-/
namespace Go.Ax
open Go Go.RowKit

section
variable {P : Program} {G : Glob} {B : Nat} {φ : PM} {st : St} {w : World} {ev : Operand → Option AV} {η : Operand → Value}

theorem Does.of_value {n : Nat} {s : Sem Value} {v : AV} {st' : St} {y : Value} {w' : World} {φ' : PM} (h : s.run P w = .ok y w') (hle : PM.ext n φ φ') (hv : VR φ' v y) (hr : HR G B φ' st' w') (hb : Below B w w') :
    Does P G B φ n w (do pure (Next.value (← s)) : Sem Next) v st' :=
  ⟨y, w', φ', .inl (by simp only [Sem.run_bind, h, Result.andThen_ok, Sem.run_pure]), hle, hv, hr, hb⟩
theorem Does.of_unit {n : Nat} {s : Sem Unit} {st' : St} {w' : World} {φ' : PM} (h : s.run P w = .ok () w') (hle : PM.ext n φ φ') (hr : HR G B φ' st' w') (hb : Below B w w') :
    Does P G B φ n w (do s; pure Next.skip : Sem Next) U st' :=
  ⟨undef, w', φ', .inr ⟨by simp only [Sem.run_bind, h, Result.andThen_ok, Sem.run_pure], rfl⟩, hle, by simp [U, VR], hr, hb⟩

/-- An object without cells is replaced in its block. -/
theorem putObj_heap (w : World) (r : Nat) (o : Obj) (h : r < w.heap.size) : ({ w with heap := w.heap.setIfInBounds r o } : World).heap[r]? = some o ∧
    (∀ k, k ≠ r → ({ w with heap := w.heap.setIfInBounds r o } : World).heap[k]? = w.heap[k]?) := by
  constructor
  · exact Array.getElem?_setIfInBounds_self_of_lt h
  · intro k hk
    exact Array.getElem?_setIfInBounds_ne (Ne.symm hk)
theorem putObj_below (B : Nat) (w : World) (r : Nat) (o : Obj) (h : B ≤ r) : Below B w { w with heap := w.heap.setIfInBounds r o } :=
  ⟨rfl, rfl, rfl, by simp, fun k hk => Array.getElem?_setIfInBounds_ne (by omega)⟩

theorem strEq_mkB {n c n' c' : Nat} (h : strEq n c n' c' = true) : mkB n c = mkB n' c' :=
  strEq_iff.1 h

theorem setE_sound {kt : TypeId} {d : TypeDesc} {k : AV} {k' : Value} {v : AV} {v' : Value} {born : Nat} (hd : P.underlying kt = some d) (hk : keyOk P kt k = true) (hv : VR φ k k') (hvv : VR φ v v') :
    ∀ (l : List (AV × AV)) (ys : List MapEntry) (i : Nat) (r : Option AV), ERs φ l ys → findE k l = some r →
      ∃ q, Instr.findNow d k' ys i = some q ∧ ((q = none ∧ ERs φ (setE k v l) (ys ++ [{ key := k', val := v', born := born }])) ∨
        (∃ j y e, q = some (i + j, y) ∧ ys[j]? = some e ∧ e.key = k' ∧ ERs φ (setE k v l) (ys.modify j fun e => { e with key := k', val := v' })))
  | [], ys, i, r, he, hf => by
    simp only [ERs] at he; subst he
    exact ⟨none, rfl, .inl ⟨rfl, ⟨_, [], rfl, hv, hvv, rfl⟩⟩⟩
  | (k1, v1) :: l, _, i, r, he, hf => by
    obtain ⟨y, m, rfl, h1, h2, h3⟩ := he
    have hk0 := hk
    unfold keyOk at hk
    rw [hd] at hk
    simp only [findE] at hf
    split at hf
    · rename_i n c n' c'
      cases d <;> simp at hk
      simp only [VR] at hv h1
      subst hv
      rw [cond_eq_ite] at hf
      split at hf
      · rename_i he
        refine ⟨some (i, y.val), ?_, .inr ⟨0, y.val, y, rfl, rfl, ?_, ?_⟩⟩
        · simp only [Instr.findNow, Instr.sameNow, h1, strEq_beq, he]
        · rw [h1, strEq_mkB he]
        · simp only [setE, he, cond_true, List.modify_zero_cons, ERs]
          refine ⟨_, m, rfl, ?_, hvv, h3⟩
          simp only [VR]
          rw [strEq_mkB he]
      · rename_i he
        have he : strEq n c n' c' = false := by simpa using he
        obtain ⟨q, hq, hc⟩ := setE_sound (born := born) hd hk0 (k' := .string (mkB n c)) (by simp [VR]) hvv l m (i + 1) r h3 hf
        refine ⟨q, ?_, ?_⟩
        · simp only [Instr.findNow, Instr.sameNow, h1, strEq_beq, he]
          exact hq
        · simp only [setE, he, cond_false]
          rcases hc with ⟨rfl, hc⟩ | ⟨j, y', e, rfl, g1, g2, g3⟩
          · exact .inl ⟨rfl, ⟨y, _, rfl, by simp only [VR]; exact h1, h2, hc⟩⟩
          · refine .inr ⟨j + 1, y', e, by simp; omega, by simpa using g1, g2, ?_⟩
            simp only [List.modify_succ_cons]
            exact ⟨y, _, rfl, by simp only [VR]; exact h1, h2, g3⟩
    · rename_i j a j' b
      cases d <;> simp at hk
      simp only [VR] at hv h1
      subst hv
      rw [cond_eq_ite] at hf
      split at hf
      · rename_i hj
        rw [kindEq_iff] at hj; subst hj
        rw [cond_eq_ite] at hf
        split at hf
        · rename_i he
          have he' := he
          rw [ieq_iff] at he; subst he
          refine ⟨some (i, y.val), ?_, .inr ⟨0, y.val, y, rfl, rfl, h1, ?_⟩⟩
          · simp [Instr.findNow, Instr.sameNow, h1]
          · simp only [setE, he', cond_true, List.modify_zero_cons, ERs]
            exact ⟨_, m, rfl, by simp [VR], hvv, h3⟩
        · rename_i he
          have he2 : ieq a b = false := by simpa using he
          rw [ieq_iff] at he
          obtain ⟨q, hq, hc⟩ := setE_sound (born := born) hd hk0 (k' := .int j a) (by simp [VR]) hvv l m (i + 1) r h3 hf
          refine ⟨q, ?_, ?_⟩
          · simp only [Instr.findNow, Instr.sameNow, h1, if_true]
            have : (a == b) = false := by simpa using he
            rw [this]
            exact hq
          · simp only [setE, he2, cond_false]
            rcases hc with ⟨rfl, hc⟩ | ⟨j', y', e, rfl, g1, g2, g3⟩
            · exact .inl ⟨rfl, ⟨y, _, rfl, by simp only [VR]; exact h1, h2, hc⟩⟩
            · refine .inr ⟨j' + 1, y', e, by simp; omega, by simpa using g1, g2, ?_⟩
              simp only [List.modify_succ_cons]
              exact ⟨y, _, rfl, by simp only [VR]; exact h1, h2, g3⟩
      · cases hf
    · cases hf

theorem run_stays {kt : TypeId} {k : AV} {k' : Value} (hk : keyOk P kt k = true) (hv : VR φ k k') : (Instr.keyThatStays k' k').run P w = .ok k' w := by
  unfold keyOk at hk
  split at hk
  · rename_i n c _
    have hb : (mkB n c == mkB n c) = true := by rw [strEq_beq, strEq_iff]
    simp only [VR] at hv; subst hv; simp [Instr.keyThatStays, Instr.sameBits, hb]
  · simp only [VR] at hv; subst hv; simp [Instr.keyThatStays, Instr.sameBits]
  · cases hk

theorem updateX_sound (hr : HR G B φ st w) {t kt et : TypeId} {b : Nat} {k v : AV} {m' k' v' : Value} {es : List (AV × AV)} {r : Option AV}
    (ht : P.underlying t = some (.map kt et)) (hkey : keyOk P kt k = true) (hg : st.hp.get b = some (.map es)) (hf : findE k es = some r)
    (hm : VR φ (.map b) m') (hk : VR φ k k') (hv : VR φ v v') :
    ∃ w', (Instr.mapUpdate t m' k' v').run P w = .ok () w' ∧ HR G B φ ⟨st.nxt, st.hp.set b (.map (setE k v es))⟩ w' ∧ Below B w w' := by
  simp only [VR] at hm; obtain ⟨p, hp, rfl⟩ := hm
  obtain ⟨ces, clk, h1, h2⟩ := hr.objs _ _ _ hg hp
  obtain ⟨d, hd⟩ := keyOk_und hkey
  obtain ⟨hd1, hd2, hd3⟩ := hr.dom _ _ hp
  obtain ⟨q, hq, hc⟩ := setE_sound (born := clk) hd hkey hk hv es ces.toList 0 r h2 hf
  have hfk := run_findKey (P := P) (w := w) hd hq
  have hck : (Instr.checkKey false 10000 kt k').run P w = .ok () w := run_checkKey hkey hk
  have fin : ∀ (ces' : Array MapEntry) (clk' : Nat), ERs φ (setE k v es) ces'.toList → HR G B φ ⟨st.nxt, st.hp.set b (.map (setE k v es))⟩ { w with heap := w.heap.setIfInBounds p.blk (.map ces' clk') } := by
    intro ces' clk' he
    obtain ⟨e1, e2⟩ := putObj_heap w p.blk (.map ces' clk') hd3
    have := hr.upd (o' := .map (setE k v es)) (w' := { w with heap := w.heap.setIfInBounds p.blk (.map ces' clk') }) hg trivial hp (by simp) e2 ⟨ces', clk', e1, he⟩
    exact this
  rcases hc with ⟨rfl, hc⟩ | ⟨j, y, e, rfl, g1, g2, g3⟩
  · refine ⟨{ w with heap := w.heap.setIfInBounds p.blk (.map (ces.push { key := k', val := v', born := clk }) (clk + 1)) }, ?_, fin _ _ (by simpa using hc), putObj_below _ _ _ _ hd2⟩
    simp [Instr.mapUpdate, run_und ht, getObj, Sem.run, h1, hck, hfk, setObj]
  · have hst : (Instr.keyThatStays k' k').run P w = .ok k' w := run_stays hkey hk
    have g1' : ces[j]? = some e := by simpa using g1
    refine ⟨{ w with heap := w.heap.setIfInBounds p.blk (.map (ces.modify j fun e => { e with key := k', val := v' }) clk) }, ?_, fin _ _ (by simpa using g3), putObj_below _ _ _ _ hd2⟩
    simp [Instr.mapUpdate, run_und ht, getObj, Sem.run, h1, hck, hfk, setObj, g1', g2, hst]

end
end Go.Ax

/-
  AxS15: texts ranged over, texts of bytes; all operations that change the memory and call no function.
-/
namespace Go.Ax
open Go Go.RowKit

section
variable {P : Program} {G : Glob} {B : Nat} {φ : PM} {st : St} {w : World} {ev : Operand → Option AV} {η : Operand → Value}

theorem freeze_heap (w : World) (blk off n : Nat) {cells : Array Value} {el : TypeId} {lo hi : Nat} (h : w.heap[blk]? = some (.cells cells el (lo, hi))) (hn : n ≠ 0) :
    (w.freeze ⟨blk, off, none⟩ n).heap[blk]? = some (.cells cells el (if lo == hi then (off, off + n) else (min lo off, max hi (off + n)))) ∧
      (∀ k, k ≠ blk → (w.freeze ⟨blk, off, none⟩ n).heap[k]? = w.heap[k]?) ∧ (w.freeze ⟨blk, off, none⟩ n).heap.size = w.heap.size := by
  refine ⟨?_, fun k hk => ?_, ?_⟩
  · simp only [World.freeze, if_neg hn, Array.getElem?_modify, if_true, h, Option.map_some]
  · simp only [World.freeze, if_neg hn, Array.getElem?_modify]
    rw [if_neg (Ne.symm hk)]
  · simp [World.freeze, if_neg hn]

/-- A row's bytes are frozen further. -/
theorem HR.freezes (h : HR G B φ st w) {b : Nat} {d : Tr AV} {n el : Nat} {ex : Bool} {fz fz' mate : Nat} {p : PB} {off m : Nat}
    (hg : st.hp.get b = some (.row d n el ex fz mate)) (hp : φ b = some p) (hm : m ≠ 0)
    (hf : ∀ lo hi, FZ fz p.base lo hi p.size → FZ fz' p.base (if lo == hi then (off, off + m) else (min lo off, max hi (off + m))).1 (if lo == hi then (off, off + m) else (min lo off, max hi (off + m))).2 p.size) :
    HR G B φ ⟨st.nxt, (kill st.hp mate).set b (.row d n el ex fz' 0)⟩ (w.freeze ⟨p.blk, off, none⟩ m) ∧ Below B w (w.freeze ⟨p.blk, off, none⟩ m) := by
  obtain ⟨cells, lo, hi, g1, g2, g3, g4, g5, g6⟩ := h.objs _ _ _ hg hp
  obtain ⟨e1, e2, e3⟩ := freeze_heap w p.blk off m g1 hm
  refine ⟨?_, Lib.below_freeze (Below.refl B w) (h.dom b p hp).2.1 m⟩
  refine h.upd (o := .row d n el ex fz mate) (o' := .row d n el ex fz' 0) hg trivial hp e3 e2 ?_
  refine ⟨cells, _, _, e1, g2, g3, g4, ?_, g6⟩
  rw [← g2]; rw [← g2] at g5
  exact hf lo hi g5

theorem nextX_sound (hr : HR G B φ st w) {b n c pos : Nat} {x' : Value} {t : TypeId} {v : AV} {st' : St} (hg : st.hp.get b = some (.iter n c pos)) (hx : VR φ (.ptr b 0) x')
    (h : (bif Nat.blt pos n then
          (bif Nat.blt (strAt c pos) 128 then
             strict ⟨st.nxt, st.hp.set b (match pos + 1 with | 0 => .dead | j + 1 => .iter n c (Nat.succ j))⟩ fun st => .val (.tup [mkBool true, mkN pos, mkI .i32 (Int.ofNat (strAt c pos))]) st
           else .bad)
        else OR.val (.tup [mkBool false]) st) = .val v st') :
    ∃ y w', (Instr.next x' true t).run P w = .ok y w' ∧ VR φ v y ∧ HR G B φ st' w' ∧ Below B w w' := by
  simp only [VR] at hx; obtain ⟨p, hp, rfl⟩ := hx
  obtain ⟨h0, hh⟩ := hr.objs _ _ _ hg hp
  obtain ⟨hd1, hd2, hd3⟩ := hr.dom _ _ hp
  have ha : (⟨p.blk, p.base + 0, none⟩ : Addr) = ⟨p.blk, 0, none⟩ := by rw [h0]
  rw [ha]
  rw [cond_eq_ite] at h
  split at h
  · rename_i hpos
    rw [Nat.blt_eq] at hpos
    rw [cond_eq_ite] at h
    split at h
    · rename_i hch
      rw [Nat.blt_eq] at hch
      have h' := strict_eq _ _ h
      simp only [OR.val.injEq] at h'
      obtain ⟨rfl, rfl⟩ := h'
      have hs : pos < (mkB n c).size := by rw [mkB_size]; exact hpos
      have hget : ((mkB n c)[pos]'hs).toNat = strAt c pos := by
        have h1 := mkB_get? n c pos hpos
        rw [getElem?_pos (mkB n c) pos hs, Option.some.injEq] at h1
        rw [h1]
        simp only [strAt, UInt8.toNat_ofNat', pw]; rfl
      have hdec := decode_ascii (mkB n c) pos hs (by rw [hget]; exact hch)
      rw [hget] at hdec
      obtain ⟨e1, e2⟩ := putObj_heap w p.blk (.stringIter (mkB n c) (pos + 1)) hd3
      refine ⟨.tuple #[.bool true, goInt pos, .int .i32 (strAt c pos)], { w with heap := w.heap.setIfInBounds p.blk (.stringIter (mkB n c) (pos + 1)) }, ?_, ?_, ?_, putObj_below _ _ _ _ hd2⟩
      · simp [Instr.next, getObj, setObj, Sem.run, hh, hs, hdec]
      · simp only [VR]
        refine ⟨_, rfl, VRs.cons ?_ (VRs.cons ?_ (VRs.cons ?_ VRs.nil))⟩
        · rw [mkBool_eq]; simp [VR]
        · rw [mkN_eq]; simp [VR, goInt]
        · rw [mkI_eq]; simp [VR]
      · exact hr.upd (o := .iter n c pos) (o' := .iter n c (pos + 1)) hg trivial hp (by simp) e2 ⟨h0, e1⟩
    · cases h
  · rename_i hpos
    rw [Nat.blt_eq] at hpos
    simp only [OR.val.injEq] at h
    obtain ⟨rfl, rfl⟩ := h
    refine ⟨.tuple #[.bool false], w, ?_, ?_, hr, Below.refl _ _⟩
    · have hs : ¬ pos < (mkB n c).size := by rw [mkB_size]; exact hpos
      simp [Instr.next, getObj, Sem.run, hh, hs]
    · simp only [VR]
      exact ⟨_, rfl, VRs.cons (by rw [mkBool_eq]; simp [VR]) VRs.nil⟩

theorem run_loadBytes' : ∀ (ns : List Int) (a : Addr) (acc : ByteArray), (∀ j x, ns[j]? = some x → w.cell? (a.add j) = some (.int .u8 x)) →
    (loadBytes a acc ns.length).run P w = .ok ⟨acc.data ++ (ns.map fun n => UInt8.ofNat n.toNat).toArray⟩ w
  | [], a, acc, _ => by simp [loadBytes]
  | x :: l, a, acc, h => by
    have h0 : w.cell? a = some (.int .u8 x) := by
      have := h 0 x rfl
      simpa [Addr.add] using this
    have ih := run_loadBytes' l (a.add 1) (acc.push x.toNat.toUInt8) (fun j y hy => by
      have := h (j + 1) y (by simpa using hy)
      have e : (a.add 1).add j = a.add (j + 1) := by
        unfold Addr.add
        by_cases hj : j = 0
        · subst hj; simp
        · simp [hj]; omega
      rw [e]; exact this)
    simp only [List.length_cons, loadBytes, Sem.run_bind, run_load, h0, Result.andThen]
    rw [ih]
    congr 1
    apply ByteArray.ext
    simp [ByteArray.push]

theorem liesAt_byte {e : TypeId} (hc : P.cellsOf e = 1) (count off n : Nat) (hn : off + n ≤ count) : liesAt P P.depth e count off e n = true := by
  have hd : P.depth = (2 * (P.types.size + Made.depth) + 1) + 1 := rfl
  rw [hd]
  simp only [liesAt, Bool.or_eq_true]
  left
  rw [hd]
  simp [rowAt, hc, hn, sameLayout, Nat.mod_one]

theorem run_unsafeString_zero {A : Array TypeId} {t rt : TypeId} {p : Option Addr} {k : IntKind} (h0 : A[0]? = some t) :
    (Builtin.unsafeString_ A rt #[.pointer p, .int k 0]).run P w = .ok (.string .empty) w := by
  have hmax : IntKind.i64.max = 9223372036854775807 := rfl
  cases p with
  | none =>
    have hdef : Builtin.unsafeString_ A rt #[.pointer none, .int k 0] =
        (do
          let n ← asInt (.int k 0)
          let some _ := A[0]? | stuck "unsafe.String: no argument types"
          if n < 0 then runtimePanic (.error "unsafe.String: len out of range")
          if n > IntKind.i64.max then unsupported (.unsafePointer "String: a length above the largest int")
          if n = 0 then pure (.string .empty)
          else runtimePanic (.error "unsafe.String: ptr is nil and len is not zero")) := rfl
    rw [hdef]
    simp [asInt, asIntOf, hmax, h0]
  | some a =>
    have hdef : Builtin.unsafeString_ A rt #[.pointer (some a), .int k 0] =
        (do
          let n ← asInt (.int k 0)
          let some pt := A[0]? | stuck "unsafe.String: no argument types"
          if n < 0 then runtimePanic (.error "unsafe.String: len out of range")
          if n > IntKind.i64.max then unsupported (.unsafePointer "String: a length above the largest int")
          if n = 0 then pure (.string .empty)
          else if ← variablesAt a (← elemOf pt) n.toNat then do
            let s ← loadBytes a .empty n.toNat
            freeze a n.toNat
            pure (.string s)
          else unsupported (.unsafePointer "String: not so many bytes at ptr")) := rfl
    rw [hdef]
    simp [asInt, asIntOf, hmax, h0]

theorem run_unsafeString_row {A : Array TypeId} {t u rt : TypeId} {k : IntKind} (h0 : A[0]? = some t) (hp : P.underlying t = some (.pointer u)) (hc : P.cellsOf u = 1) {blk off cells : Nat} (hsh : w.shape? blk = some (u, cells))
    {ns : List Int} (hne : ns.length ≠ 0) (hn : off + ns.length ≤ cells) (h63 : ns.length ≤ 1048576) (hcell : ∀ j x, ns[j]? = some x → w.cell? ⟨blk, off + j, none⟩ = some (.int .u8 x)) :
    (Builtin.unsafeString_ A rt #[.pointer (some ⟨blk, off, none⟩), .int k ns.length]).run P w = .ok (.string ⟨(ns.map fun n => UInt8.ofNat n.toNat).toArray⟩) (w.freeze ⟨blk, off, none⟩ ns.length) := by
  have hlb := run_loadBytes' (P := P) (w := w) ns ⟨blk, off, none⟩ .empty (fun j x hj => by rw [addr_add]; exact hcell j x hj)
  have hlies := liesAt_byte (P := P) hc (cells / P.cellsOf u) off ns.length (by rw [hc]; simpa using hn)
  have h63' : ¬ (9223372036854775807 : Int) < (ns.length : Int) := by omega
  have hdef : Builtin.unsafeString_ A rt #[.pointer (some ⟨blk, off, none⟩), .int k ns.length] =
        (do
          let n ← asInt (.int k ns.length)
          let some pt := A[0]? | stuck "unsafe.String: no argument types"
          if n < 0 then runtimePanic (.error "unsafe.String: len out of range")
          if n > IntKind.i64.max then unsupported (.unsafePointer "String: a length above the largest int")
          if n = 0 then pure (.string .empty)
          else if ← variablesAt ⟨blk, off, none⟩ (← elemOf pt) n.toNat then do
            let s ← loadBytes ⟨blk, off, none⟩ .empty n.toNat
            freeze ⟨blk, off, none⟩ n.toNat
            pure (.string s)
          else unsupported (.unsafePointer "String: not so many bytes at ptr")) := rfl
  rw [hdef]
  have hmax : IntKind.i64.max = 9223372036854775807 := rfl
  have hneg : ¬ (ns.length : Int) < 0 := by omega
  have hne' : ns ≠ [] := fun e => hne (by rw [e]; rfl)
  have hund : P.underlying t = some (.pointer u) := hp
  simp [asInt, asIntOf, hmax, h63', hneg, hne', variablesAt, hsh, elemOf, run_und hund, hlies, hlb, h0]

end
end Go.Ax

/-
  AxS16: all operations that change the memory and call no function.
-/
namespace Go.Ax
open Go Go.RowKit

section
variable {P : Program} {G : Glob} {B : Nat} {φ : PM} {st : St} {w : World} {ev : Operand → Option AV} {η : Operand → Value}

theorem Does.run_eq {s s' : Sem Next} {v : AV} {st' : St} (h : s'.run P w = s.run P w) (hd : Does P G B φ st.nxt w s v st') : Does P G B φ st.nxt w s' v st' := by
  unfold Does at hd ⊢; rw [h]; exact hd

theorem loud_sound (o : Oper) {v : AV} {st' : St} (h : loud P ev st o.op = .val v st') (hr : HR G B φ st w) (he : ∀ x ∈ o.op.operands.toList, ∀ u, ev x = some u → VR φ u (η x)) :
    Does P G B φ st.nxt w (execOp η o) v st' := by
  obtain ⟨dst, op, type, pos, after, guard⟩ := o
  simp only at h he
  have upd : ∀ (t : TypeId) (m k x : Operand), (∀ y ∈ [m, k, x], ∀ u, ev y = some u → VR φ u (η y)) →
      (match P.underlying t, ev m, ev k, ev x with
        | some (.map kt _), some (.map b), some k, some v => bif keyOk P kt k then
            (match st.hp.get b with
             | some (.map es) => (match findE k es with
               | some _ => strict ⟨st.nxt, st.hp.set b (.map (setE k v es))⟩ fun st => OR.val U st
               | none => .bad)
             | _ => .bad)
            else .bad
        | _, _, _, _ => .bad) = .val v st' →
      Does P G B φ st.nxt w (do Instr.mapUpdate t (η m) (η k) (η x); pure Next.skip : Sem Next) v st' := by
    intro t m k x he h
    split at h
    · rename_i kt et b a c ht hm hk hx
      rw [cond_eq_ite] at h
      split at h
      · rename_i hkey
        split at h
        · rename_i es hg
          split at h
          · rename_i r hf
            have h' := strict_eq _ _ h
            simp only [OR.val.injEq] at h'
            obtain ⟨rfl, rfl⟩ := h'
            obtain ⟨w', h1, h2, h3⟩ := updateX_sound hr ht hkey hg hf (he m (by simp) _ hm) (he k (by simp) _ hk) (he x (by simp) _ hx)
            exact .of_unit h1 (PM.ext_refl _ _) h2 h3
          · cases h
        · cases h
      · cases h
    · cases h
  cases op with
  | store t a x =>
    simp only [loud] at h
    split at h
    · rename_i b off a' ha hx
      split at h
      · rename_i l n hl hn
        rw [cond_eq_ite] at h
        split at h
        · rename_i hln
          rw [Nat.beq_eq, len_eq] at hln
          split at h
          · rename_i st1 hs
            have h' := strict_eq _ _ h
            simp only [OR.val.injEq] at h'
            obtain ⟨rfl, rfl⟩ := h'
            have hv := he a (by simp [Op.operands]) _ ha
            simp only [VR] at hv; obtain ⟨p, hp, hv⟩ := hv
            obtain ⟨g1, _⟩ := cellsX_sound hl (he x (by simp [Op.operands]) _ hx)
            obtain ⟨w', h1, h2, h3⟩ := storeC_sound (P := P) hr hs hp g1
            have hg1 := g1.length
            simp only [Array.length_toList] at hg1
            have hsv := storeVar_run hn (by omega) h1
            refine .of_unit (s := Instr.storeAt t (η a) (η x)) ?_ (PM.ext_refl _ _) h2 h3
            simp only [Instr.storeAt, hv, Instr.sureAddr, Sem.run_bind, Sem.run_pure, Result.andThen_ok, hsv]
          · cases h
        · cases h
      · cases h
    · cases h
  | mapUpdate t m k x =>
    simp only [loud] at h
    exact upd t m k x (fun y hy => he y (by simpa [Op.operands] using hy)) h
  | insert t m k x =>
    simp only [loud] at h
    exact upd t m k x (fun y hy => he y (by simpa [Op.operands] using hy)) h
  | convert s d x =>
    simp only [loud] at h
    split at h
    · rename_i e1 el b off n lo ex es hs hd hx
      split at h
      · rename_i dd rn rel rex fz mate h8 hsd hg
        rw [cond_eq_ite] at h
        split at h
        · rename_i hfz
          rw [Nat.ble_eq] at hfz
          rw [Nat.beq_eq] at hsd; subst hsd
          have h' := strict_eq _ _ h
          simp only [OR.val.injEq] at h'
          obtain ⟨rfl, rfl⟩ := h'
          have hv := he x (by simp [Op.operands]) _ hx
          have hv0 := hv
          simp only [VR] at hv; obtain ⟨p, c, hp, hv, _⟩ := hv
          obtain ⟨cells, lo', hi', g1, g2, g3, g4, g5, g6⟩ := hr.objs _ _ _ hg hp
          obtain ⟨f1, f2⟩ := hr.freezes (fz' := 1) (off := p.size) (m := 1) hg hp (by decide) (by
            intro lo hi hf
            have hf : lo = hi ∨ p.size ≤ lo := by
              match fz, hfz, hf with
              | 0, _, hf => exact .inl hf
              | 1, _, hf => exact hf
            simp only [FZ]
            by_cases hlh : lo = hi
            · subst hlh; simp
            · have : (lo == hi) = false := by simpa using hlh
              rw [this]
              simp only [Bool.false_eq_true, if_false]
              right
              omega)
          have hm := run_markStringish (P := P) (W := w) (a := ⟨p.blk, p.base + off, none⟩) (el := rel) (m := cells.size) (by simp only [World.shape?, g1])
          rw [← g2] at hm
          refine .of_value (s := Go.convert s s (η x)) ?_ (PM.ext_refl _ _) hv0 f1 f2
          rw [hv]
          have hel : e1 = el := by rw [hs] at hd; cases hd; rfl
          subst hel
          simp only [Go.convert, Sem.run_bind, run_und hs, run_und h8, Result.andThen_ok, beq_self_eq_true, hm, Sem.run_pure]
        · cases h
      · cases h
    · cases h
  | next it b =>
    cases b with
    | false => simp [loud] at h
    | true =>
      simp only [loud] at h
      split at h
      · rename_i b hx
        split at h
        · rename_i n c pos hg
          obtain ⟨y, w', h1, h2, h3, h4⟩ := nextX_sound (P := P) (t := type) hr hg (he it (by simp [Op.operands]) _ hx) h
          exact .of_value h1 (PM.ext_refl _ _) h2 h3 h4
        · cases h
      · cases h
  | call c =>
    obtain ⟨callee, args, argTypes⟩ := c
    cases callee with
    | builtin b =>
      have hargs : ∀ x ∈ args.toList, ∀ u, ev x = some u → VR φ u (η x) := fun x hx => he x (by simp [Op.operands, Call.operands] at hx ⊢; exact hx)
      simp only [loud] at h
      split at h
      · rename_i s x t ts ha ht
        have e1 : args = #[s, x] := by apply Array.toList_inj.1; simpa using ha
        subst e1
        have h0 : argTypes[0]? = some t := by rw [← Array.getElem?_toList, ht]; rfl
        split at h
        · rename_i a c hs hx
          have h1' : argTypes[1]? = ts.head? := by rw [← Array.getElem?_toList, ht]; cases ts <;> rfl
          obtain ⟨y, w', φ', h1, h2, h3, h4, h5⟩ := appendX_sound (rt := type) hr h h0 h1' (hargs s (by simp) _ hs) (hargs x (by simp) _ hx)
          exact .run_eq (by simp [execOp, resolve, invoke, builtin]) <| .of_value (s := Builtin.append_ argTypes type #[η s, η x]) h1 h2 h3 h4 h5
        · cases h
      · rename_i d s t ts ha ht
        have e1 : args = #[d, s] := by apply Array.toList_inj.1; simpa using ha
        subst e1
        have h0 : argTypes[0]? = some t := by rw [← Array.getElem?_toList, ht]; rfl
        split at h
        · rename_i a c hd hs
          obtain ⟨y, w', h1, h2, h3, h4⟩ := copyX_sound (rt := type) hr h h0 (hargs d (by simp) _ hd) (hargs s (by simp) _ hs)
          exact .run_eq (by simp [execOp, resolve, invoke, builtin]) <| .of_value (s := Builtin.copy_ argTypes type #[η d, η s]) h1 (PM.ext_refl _ _) h2 h3 h4
        · cases h
      · rename_i x t ts ha ht
        have e1 : args = #[x] := by apply Array.toList_inj.1; simpa using ha
        subst e1
        have h0 : argTypes[0]? = some t := by rw [← Array.getElem?_toList, ht]; rfl
        split at h
        · rename_i a hx
          obtain ⟨y, w', h1, h2, h3, h4⟩ := clearX_sound (rt := type) hr h h0 (hargs x (by simp) _ hx)
          exact .run_eq (by simp [execOp, resolve, invoke, builtin]) <| .of_value (s := Builtin.clear_ argTypes type #[η x]) h1 (PM.ext_refl _ _) h2 h3 h4
        · cases h
      · rename_i p n t ts ha ht
        have e1 : args = #[p, n] := by apply Array.toList_inj.1; simpa using ha
        subst e1
        have h0 : argTypes[0]? = some t := by rw [← Array.getElem?_toList, ht]; rfl
        split at h
        · rename_i k hp hn
          simp only [OR.val.injEq] at h
          obtain ⟨rfl, rfl⟩ := h
          have v1 := hargs p (by simp) _ hp
          have v2 := hargs n (by simp) _ hn
          simp only [VR] at v1 v2
          refine .run_eq (by simp [execOp, resolve, invoke, builtin]) <| .of_value (s := Builtin.unsafeString_ argTypes type #[η p, η n]) ?_ (PM.ext_refl _ _) (by simp [VR, mkB, bl]; rfl) hr (Below.refl _ _)
          rw [v1, v2]
          exact run_unsafeString_zero h0
        · rename_i b off k hp hn
          simp only [OR.val.injEq] at h
          obtain ⟨rfl, rfl⟩ := h
          have v1 := hargs p (by simp) _ hp
          have v2 := hargs n (by simp) _ hn
          simp only [VR] at v1 v2
          obtain ⟨q, hq, v1⟩ := v1
          refine .run_eq (by simp [execOp, resolve, invoke, builtin]) <| .of_value (s := Builtin.unsafeString_ argTypes type #[η p, η n]) ?_ (PM.ext_refl _ _) (by simp [VR, mkB, bl]; rfl) hr (Below.refl _ _)
          rw [v1, v2]
          exact run_unsafeString_zero h0
        · rename_i b off k m hne hp hn
          split at h
          · rename_i u dd rn el ex fz mate hu hg
            rw [cond_eq_ite] at h
            split at h
            · rename_i hc
              simp only [Bool.and_eq_true, Nat.beq_eq, Nat.ble_eq, Bool.not_eq_true'] at hc
              obtain ⟨⟨⟨hc1, hc2⟩, hc3⟩, hc4⟩ := hc
              subst hc1
              split at h
              · rename_i l h8 hsz hrd
                split at h
                · rename_i c hb
                  have h' := strict_eq _ _ h
                  simp only [OR.val.injEq] at h'
                  obtain ⟨rfl, rfl⟩ := h'
                  have v1 := hargs p (by simp) _ hp
                  have v2 := hargs n (by simp) _ hn
                  simp only [VR] at v1 v2
                  obtain ⟨q, hq, v1⟩ := v1
                  have hob := hr.objs _ _ _ hg hq
                  obtain ⟨ys, a1, a2, a3⟩ := ObR.rd hob _ _ _ hrd
                  obtain ⟨ns, b1, b2, b3⟩ := bytesOf_sound l c ys hb a1
                  have hl := a1.length
                  have hns : ns.length = m := by omega
                  have hm0 : m ≠ 0 := by
                    intro e; subst e
                    exact hne rfl
                  obtain ⟨cells, lo', hi', g1, g2, g3, _⟩ := hob
                  have hcell : P.cellsOf u = 1 := by
                    obtain ⟨i, hi1, hi2⟩ := szX_some hsz
                    simp [Program.cellsOf, hi1, hi2]
                  subst b1
                  have hrun := run_unsafeString_row (P := P) (w := w) (A := argTypes) (rt := type) (k := k) h0 hu hcell (blk := q.blk) (off := q.base + off) (cells := cells.size) (by simp only [World.shape?, g1])
                    (ns := ns) (by omega) (by omega) (by omega) (fun j x hj => by
                      have hj' : j < ns.length := (List.getElem?_eq_some_iff.1 hj).1
                      have := a3 j (by simpa using hj')
                      rw [this]
                      rw [List.getElem?_eq_getElem hj'] at hj
                      cases hj
                      simp)
                  rw [hns] at hrun
                  obtain ⟨f1, f2⟩ := hr.freezes (fz' := bif Nat.ble fz (off + m + 2) then off + m + 2 else fz) (off := q.base + off) (m := m) hg hq hm0 (by
                    intro lo hi hf
                    have hfin : ∀ fz', (∃ k, fz' = k + 2 ∧ off + m ≤ k ∧ (lo ≠ hi → hi ≤ q.base + k)) → FZ fz' q.base (if lo == hi then (q.base + off, q.base + off + m) else (min lo (q.base + off), max hi (q.base + off + m))).1 (if lo == hi then (q.base + off, q.base + off + m) else (min lo (q.base + off), max hi (q.base + off + m))).2 q.size := by
                      rintro _ ⟨k, rfl, hk, hh⟩
                      simp only [FZ]
                      split
                      · simp only; omega
                      · rename_i hne
                        have := hh (by simpa using hne)
                        simp only; omega
                    apply hfin
                    rw [cond_eq_ite]
                    match fz, hc4, hf with
                    | 0, _, hf =>
                      simp only [FZ] at hf
                      exact ⟨off + m, by simp, Nat.le_refl _, fun e => absurd hf e⟩
                    | 1, hc4, _ => exact absurd hc4 (by decide)
                    | k + 2, _, hf =>
                      simp only [FZ] at hf
                      simp only [Nat.ble_eq]
                      split
                      · exact ⟨off + m, rfl, Nat.le_refl _, fun _ => by omega⟩
                      · exact ⟨k, rfl, by omega, fun _ => hf⟩)
                  refine .run_eq (by simp [execOp, resolve, invoke, builtin]) <| .of_value (s := Builtin.unsafeString_ argTypes type #[η p, η n]) (y := .string ⟨(ns.map fun n => UInt8.ofNat n.toNat).toArray⟩) ?_ (PM.ext_refl _ _) ?_ f1 f2
                  · rw [v1, v2]; exact hrun
                  · rw [mkStr_eq]
                    simp only [VR, Value.string.injEq, mkB]
                    rw [← b3, show l.length = m by omega, if_neg hm0]
                · cases h
              · cases h
            · cases h
          · cases h
        · cases h
      · cases h
    | value f =>
      simp only [loud] at h
      split at h <;> cases h
    | invoke r n => simp [loud] at h
  | defer c =>
    obtain ⟨callee, args, argTypes⟩ := c
    cases callee with
    | value f =>
      simp only [loud] at h
      split at h <;> cases h
    | builtin b => simp [loud] at h
    | invoke r n => simp [loud] at h
  | _ => simp [loud] at h

/-- Neither a call nor a deferred one. -/
def OR.plain : OR → Bool
  | .bad | .val .. => true
  | _ => false

theorem strict_plain (st : St) (k : St → OR) (h : ∀ st, (k st).plain = true) : (strict st k).plain = true := by
  unfold strict
  split
  · rfl
  · split
    · rfl
    · exact h _
theorem appFit_plain (st : St) (b off sLen n lo : Nat) (ex : Bool) (size : Nat) (new : List AV) : (appFit st b off sLen n lo ex size new).plain = true := by
  unfold appFit; repeat' split
  all_goals first | rfl | exact strict_plain _ _ fun _ => rfl | skip
  all_goals (simp only [cond_eq_ite]; repeat' split)
  all_goals first | rfl | exact strict_plain _ _ fun _ => rfl
theorem appNew_plain (st : St) (el need size : Nat) (l : List AV) : (appNew st el need size l).plain = true := by
  unfold appNew; first | exact strict_plain _ _ fun _ => rfl | (repeat' split) <;> first | rfl | exact strict_plain _ _ fun _ => rfl
theorem appGrow_plain (st : St) (el b off sLen n size : Nat) (new : List AV) : (appGrow st el b off sLen n size new).plain = true := by
  unfold appGrow; repeat' split
  all_goals first | rfl | exact appNew_plain .. | exact strict_plain _ _ fun _ => rfl
theorem appMaybe_plain (st : St) (el b off sLen n size : Nat) (new : List AV) : (appMaybe st el b off sLen n size new).plain = true := by
  unfold appMaybe; repeat' split
  all_goals first | rfl | exact strict_plain _ _ fun _ => rfl | skip
  all_goals (simp only [cond_eq_ite]; repeat' split)
  all_goals first | rfl | exact strict_plain _ _ fun _ => rfl
theorem bif_plain {c : Bool} {a b : OR} (h : a.plain = true) (h' : b.plain = true) : (bif c then a else b).plain = true := by cases c <;> assumption

theorem appendX_plain (t : TypeId) (xt : Option TypeId) (s x : AV) (st : St) : (appendX P t xt s x st).plain = true := by
  unfold appendX; repeat' split
  all_goals first | rfl | exact appNew_plain .. | exact strict_plain _ _ fun _ => rfl | skip
  all_goals (simp only [cond_eq_ite]; repeat' split)
  all_goals first | rfl | exact appNew_plain .. | exact appFit_plain .. | exact appGrow_plain .. | exact appMaybe_plain .. | exact strict_plain _ _ fun _ => rfl
theorem copyX_plain (t : TypeId) (d s : AV) (st : St) : (copyX P t d s st).plain = true := by
  unfold copyX; repeat' split
  all_goals first | rfl | exact strict_plain _ _ fun _ => rfl | skip
  all_goals (simp only [cond_eq_ite]; repeat' split)
  all_goals first | rfl | exact strict_plain _ _ fun _ => rfl
theorem clearX_plain (t : TypeId) (x : AV) (st : St) : (clearX P t x st).plain = true := by
  unfold clearX; repeat' split
  all_goals first | rfl | exact strict_plain _ _ fun _ => rfl | skip
  all_goals (simp only [cond_eq_ite]; repeat' split)
  all_goals first | rfl | exact strict_plain _ _ fun _ => rfl

theorem loud_form (op : Op) : (loud P ev st op).plain = true ∨ (∃ f args ts, op = .call { callee := .value f, args := args, argTypes := ts }) ∨ (∃ f args ts, op = .defer { callee := .value f, args := args, argTypes := ts }) := by
  have upd : ∀ (t : TypeId) (m k x : Operand),
      (match P.underlying t, ev m, ev k, ev x with
        | some (.map kt _), some (.map b), some k, some v => bif keyOk P kt k then
            (match st.hp.get b with
             | some (.map es) => (match findE k es with
               | some _ => strict ⟨st.nxt, st.hp.set b (.map (setE k v es))⟩ fun st => OR.val U st
               | none => .bad)
             | _ => .bad)
            else .bad
        | _, _, _, _ => .bad : OR).plain = true := by
    intro t m k x
    repeat' split
    all_goals first | rfl | skip
    all_goals (simp only [cond_eq_ite]; repeat' split)
    all_goals first | rfl | exact strict_plain _ _ fun _ => rfl
  cases op with
  | call c =>
    obtain ⟨callee, args, argTypes⟩ := c
    cases callee with
    | value f => exact .inr (.inl ⟨f, args, argTypes, rfl⟩)
    | builtin b =>
      left
      simp only [loud]
      repeat' split
      all_goals first | rfl | exact appendX_plain .. | exact copyX_plain .. | exact clearX_plain .. | skip
      all_goals (simp only [cond_eq_ite]; repeat' split)
      all_goals first | rfl | exact strict_plain _ _ fun _ => rfl
    | invoke r n => exact .inl rfl
  | defer c =>
    obtain ⟨callee, args, argTypes⟩ := c
    cases callee with
    | value f => exact .inr (.inr ⟨f, args, argTypes, rfl⟩)
    | builtin b => exact .inl rfl
    | invoke r n => exact .inl rfl
  | mapUpdate t m k x => exact .inl (upd t m k x)
  | insert t m k x => exact .inl (upd t m k x)
  | store t a x =>
    left
    simp only [loud]
    repeat' split
    all_goals first | rfl | skip
    all_goals (simp only [cond_eq_ite]; repeat' split)
    all_goals first | rfl | exact strict_plain _ _ fun _ => rfl
  | convert s d x =>
    left
    simp only [loud]
    repeat' split
    all_goals first | rfl | skip
    all_goals (simp only [cond_eq_ite]; repeat' split)
    all_goals first | rfl | exact strict_plain _ _ fun _ => rfl
  | next it b =>
    left
    cases b with
    | false => rfl
    | true =>
      simp only [loud]
      repeat' split
      all_goals first | rfl | skip
      all_goals (simp only [cond_eq_ite]; repeat' split)
      all_goals first | rfl | exact strict_plain _ _ fun _ => rfl
  | _ => exact .inl rfl

/-- A call of a function. -/
theorem loud_call (o : Oper) {g : Nat} {l : List AV} (h : loud P ev st o.op = .call g l) (he : ∀ x ∈ o.op.operands.toList, ∀ u, ev x = some u → VR φ u (η x)) :
    ∃ vs : Array Value, VRs φ l vs.toList ∧ (execOp η o).run P w = (callFunc g vs).run P w := by
  obtain ⟨dst, op, type, pos, after, guard⟩ := o
  simp only at h he
  rcases loud_form (P := P) (ev := ev) (st := st) op with hp | ⟨f, args, ts, rfl⟩ | ⟨f, args, ts, rfl⟩
  · rw [h] at hp; cases hp
  · simp only [loud] at h
    split at h
    · rename_i g' first cap m hf hm
      simp only [OR.call.injEq] at h
      obtain ⟨rfl, rfl⟩ := h
      have hv := he f (by simp [Op.operands, Call.operands]) _ hf
      simp only [VR] at hv
      obtain ⟨is, cs, hv, h1, h2⟩ := hv
      have h3 := evs_sound (φ := φ) (η := η) _ _ hm fun x hx => he x (by simp [Op.operands, Call.operands] at hx ⊢; exact .inr hx)
      refine ⟨is ++ args.map η ++ cs, ?_, ?_⟩
      · simp only [Array.toList_append, List.append_assoc, Array.toList_map]
        exact h1.append (h3.append h2)
      · simp [execOp, resolve, hv, Deferred.ofValue, invoke]
    · cases h
    · cases h
  · simp only [loud] at h
    split at h <;> cases h

/-- A call of yield. -/
theorem loud_yield (o : Oper) {b : Nat} {l : List AV} (h : loud P ev st o.op = .yield b l) (he : ∀ x ∈ o.op.operands.toList, ∀ u, ev x = some u → VR φ u (η x)) :
    ∃ (p : PB) (vs : Array Value), φ b = some p ∧ VRs φ l vs.toList ∧ (execOp η o).run P w = (Instr.yield p.blk vs).run P w := by
  obtain ⟨dst, op, type, pos, after, guard⟩ := o
  simp only at h he
  rcases loud_form (P := P) (ev := ev) (st := st) op with hp | ⟨f, args, ts, rfl⟩ | ⟨f, args, ts, rfl⟩
  · rw [h] at hp; cases hp
  · simp only [loud] at h
    split at h
    · cases h
    · rename_i b' m hf hm
      simp only [OR.yield.injEq] at h
      obtain ⟨rfl, rfl⟩ := h
      have hv := he f (by simp [Op.operands, Call.operands]) _ hf
      simp only [VR] at hv
      obtain ⟨p, hp, hv⟩ := hv
      have h3 := evs_sound (φ := φ) (η := η) _ _ hm fun x hx => he x (by simp [Op.operands, Call.operands] at hx ⊢; exact .inr hx)
      refine ⟨p, args.map η, hp, by simpa using h3, ?_⟩
      simp [execOp, resolve, hv, Deferred.ofValue, invoke]
    · cases h
  · simp only [loud] at h
    split at h <;> cases h

/-- What a deferred call's abstract form says. -/
def ADR (φ : PM) : AD → Deferred → Prop
  | .mark b, d => ∃ p, φ b = some p ∧ d = { target := .collected p.blk, args := #[] }
  | .call g l, d => ∃ (as cs : Array Value), d = { target := .fn (.func g) cs, args := as } ∧ VRs φ l (as ++ cs).toList
def ADRs (φ : PM) : List AD → List Deferred → Prop
  | [], ds => ds = []
  | a :: l, ds => ∃ d m, ds = d :: m ∧ ADR φ a d ∧ ADRs φ l m
theorem ADR.mono {φ φ' : PM} (h : PM.le φ φ') : ∀ {a : AD} {d : Deferred}, ADR φ a d → ADR φ' a d
  | .mark _, _, ⟨p, h1, h2⟩ => ⟨p, h _ _ h1, h2⟩
  | .call _ _, _, ⟨as, cs, h1, h2⟩ => ⟨as, cs, h1, VRs.mono h _ _ h2⟩
theorem ADRs.mono {φ φ' : PM} (h : PM.le φ φ') : ∀ {l : List AD} {ds : List Deferred}, ADRs φ l ds → ADRs φ' l ds
  | [], _, e => e
  | _ :: _, _, ⟨d, m, h1, h2, h3⟩ => ⟨d, m, h1, h2.mono h, ADRs.mono h h3⟩

/-- A deferred call. -/
theorem loud_defer (o : Oper) {d : AD} (h : loud P ev st o.op = .defer d) (he : ∀ x ∈ o.op.operands.toList, ∀ u, ev x = some u → VR φ u (η x)) :
    ∃ d', ADR φ d d' ∧ (execOp η o).run P w = .ok (.defer d') w := by
  obtain ⟨dst, op, type, pos, after, guard⟩ := o
  simp only at h he
  rcases loud_form (P := P) (ev := ev) (st := st) op with hp | ⟨f, args, ts, rfl⟩ | ⟨f, args, ts, rfl⟩
  · rw [h] at hp; cases hp
  · simp only [loud] at h
    split at h <;> cases h
  · simp only [loud] at h
    split at h
    · rename_i g' first cap m hf hm
      simp only [OR.defer.injEq] at h
      subst h
      have hv := he f (by simp [Op.operands, Call.operands]) _ hf
      simp only [VR] at hv
      obtain ⟨is, cs, hv, h1, h2⟩ := hv
      have h3 := evs_sound (φ := φ) (η := η) _ _ hm fun x hx => he x (by simp [Op.operands, Call.operands] at hx ⊢; exact .inr hx)
      refine ⟨{ target := .fn (.func g') cs, args := is ++ args.map η }, ⟨_, _, rfl, ?_⟩, ?_⟩
      · simp only [Array.toList_append, List.append_assoc, Array.toList_map]
        exact h1.append (h3.append h2)
      · simp [execOp, resolve, hv, Deferred.ofValue]
    · cases h

end
end Go.Ax
