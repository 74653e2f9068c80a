/-
  AxF1: the executor again, quick in the kernel: the alternatives of each case are closed constants. Tries, operands, frames.
-/
import Derived.Test.YtneaghddjbhbnaaGreatDoorXa
namespace Go.Ax
open Go

/-! ### Tries: the way to a place as a list of turns; of a number it is a closed term, which the kernel keeps -/
inductive BP where
  | e
  | o (b : BP)
  | i (b : BP)
def toBF : Nat → Nat → BP
  | 0, _ => .e
  | f + 1, n => bif Nat.beq n 0 then .e else bif Nat.beq (Nat.mod n 2) 0 then .i (toBF f (Nat.sub (Nat.div n 2) 1)) else .o (toBF f (Nat.div n 2))
def toB (n : Nat) : BP := toBF (n + 1) n

section
variable {α : Type}
noncomputable def fGetB (t : Tr α) : BP → Option α :=
  Tr.rec (motive := fun _ => BP → Option α) (fun _ => none) (fun x _ _ gl gr b => BP.casesOn (motive := fun _ => Option α) b x gl gr) t
noncomputable def fGet (t : Tr α) (i : Nat) : Option α := fGetB t (toB i)

theorem fGetB_eq : ∀ (t : Tr α) (f i : Nat), i < f → fGetB t (toBF f i) = t.get i
  | .e, _, _, _ => rfl
  | .n x l r, 0, i, h => by omega
  | .n x l r, f + 1, i, h => by
    simp only [Tr.get, toBF]
    cases h0 : Nat.beq i 0 with
    | true => rfl
    | false =>
      have hi : i ≠ 0 := fun e => by subst e; cases h0
      cases Nat.beq (Nat.mod i 2) 0 with
      | true =>
        have : Nat.sub (Nat.div i 2) 1 < f := by
          have : Nat.div i 2 ≤ i := Nat.div_le_self i 2
          have : Nat.sub (Nat.div i 2) 1 = i / 2 - 1 := rfl
          omega
        exact fGetB_eq r f _ this
      | false =>
        have : Nat.div i 2 < f := by
          have : Nat.div i 2 = i / 2 := rfl
          omega
        exact fGetB_eq l f _ this
theorem fGet_eq (t : Tr α) (i : Nat) : fGet t i = t.get i := fGetB_eq t _ i (Nat.lt_succ_self i)

def fPutR (t : Tr α) : Option α → Tr α → Tr α := Tr.casesOn (motive := fun _ => Option α → Tr α → Tr α) t (fun _ _ => .e) (fun a b c x l => .n x l (.n a b c))
def fPutL (t : Tr α) : Option α → Tr α → Tr α := Tr.casesOn (motive := fun _ => Option α → Tr α → Tr α) t (fun _ _ => .e) (fun a b c x r => .n x (.n a b c) r)
def fSetH (t : Tr α) : α → Tr α := Tr.casesOn (motive := fun _ => α → Tr α) t (fun y => .n (some y) .e .e) (fun _ l r y => .n (some y) l r)
def fSetL (t : Tr α) : (Tr α → α → Tr α) → α → Tr α := Tr.casesOn (motive := fun _ => (Tr α → α → Tr α) → α → Tr α) t (fun ih y => fPutL (ih .e y) none .e) (fun x l r ih y => fPutL (ih l y) x r)
def fSetR (t : Tr α) : (Tr α → α → Tr α) → α → Tr α := Tr.casesOn (motive := fun _ => (Tr α → α → Tr α) → α → Tr α) t (fun ih y => fPutR (ih .e y) none .e) (fun x l r ih y => fPutR (ih r y) x l)
noncomputable def fSetB (b : BP) : Tr α → α → Tr α :=
  BP.rec (motive := fun _ => Tr α → α → Tr α) (fun t y => fSetH t y) (fun _ ih t y => fSetL t ih y) (fun _ ih t y => fSetR t ih y) b
noncomputable def fSet (t : Tr α) (i : Nat) (y : α) : Tr α := fSetB (toB i) t y

theorem fSetB_eq : ∀ (f i : Nat) (t : Tr α) (y : α), i < f → fSetB (toBF f i) t y = Tr.put f t i y
  | 0, i, t, y, h => by omega
  | f + 1, i, t, y, h => by
    have hr : i ≠ 0 → Nat.sub (Nat.div i 2) 1 < f := by
      intro hi
      have : Nat.sub (Nat.div i 2) 1 = i / 2 - 1 := rfl
      omega
    have hl : i ≠ 0 → Nat.div i 2 < f := by
      intro hi
      have : Nat.div i 2 = i / 2 := rfl
      omega
    simp only [toBF]
    cases t with
    | e =>
      simp only [Tr.put]
      cases h0 : Nat.beq i 0 with
      | true => rfl
      | false =>
        have hi : i ≠ 0 := fun e => by subst e; cases h0
        cases Nat.beq (Nat.mod i 2) 0 with
        | true =>
          show fPutR (fSetB (toBF f _) .e y) none .e = _
          rw [fSetB_eq f _ _ _ (hr hi)]
          cases Tr.put f .e (Nat.sub (Nat.div i 2) 1) y <;> rfl
        | false =>
          show fPutL (fSetB (toBF f _) .e y) none .e = _
          rw [fSetB_eq f _ _ _ (hl hi)]
          cases Tr.put f .e (Nat.div i 2) y <;> rfl
    | n x l r =>
      simp only [Tr.put]
      cases h0 : Nat.beq i 0 with
      | true => rfl
      | false =>
        have hi : i ≠ 0 := fun e => by subst e; cases h0
        cases Nat.beq (Nat.mod i 2) 0 with
        | true =>
          show fPutR (fSetB (toBF f _) r y) x l = _
          rw [fSetB_eq f _ _ _ (hr hi)]
          cases Tr.put f r (Nat.sub (Nat.div i 2) 1) y <;> rfl
        | false =>
          show fPutL (fSetB (toBF f _) l y) x r = _
          rw [fSetB_eq f _ _ _ (hl hi)]
          cases Tr.put f l (Nat.div i 2) y <;> rfl
theorem fSet_eq (t : Tr α) (i : Nat) (y : α) : fSet t i y = t.set i y := fSetB_eq _ _ _ _ (Nat.lt_succ_self i)
end

/-! ### Operands and frames -/
noncomputable def fEv (x : Operand) : Fr → Option AV :=
  Operand.casesOn (motive := fun _ => Fr → Option AV) x (fun t fr => fGet fr.t t) (fun v _ => some (.of v)) (fun g _ => some (.v (.pointer (some ⟨g, 0, none⟩)))) (fun f _ => some (.fn f [] []))
theorem fEv_eq (fr : Fr) (x : Operand) : fEv x fr = ev fr x := by
  cases x with
  | tmp t => exact fGet_eq fr.t t
  | _ => rfl
def fPutF3 (t : Tr AV) : Nat → Bool → List AD → Option Fr :=
  Tr.casesOn (motive := fun _ => Nat → Bool → List AD → Option Fr) t (fun _ _ _ => none) (fun a b c n rd ds => some ⟨n, .n a b c, rd, ds⟩)
noncomputable def fPutF2 (b : Bool) : Nat → Tr AV → Bool → List AD → Nat → AV → Option Fr :=
  Bool.casesOn (motive := fun _ => Nat → Tr AV → Bool → List AD → Nat → AV → Option Fr) b (fun _ _ _ _ _ _ => none) (fun n t rd ds d v => fPutF3 (fSet t d v) n rd ds)
noncomputable def fPutF1 (fr : Fr) : Nat → AV → Option Fr :=
  Fr.casesOn (motive := fun _ => Nat → AV → Option Fr) fr (fun n t rd ds d v => fPutF2 (Nat.blt d n) n t rd ds d v)
noncomputable def fPutF (dst : Option Tmp) : Fr → AV → Option Fr :=
  Option.casesOn (motive := fun _ => Fr → AV → Option Fr) dst (fun fr _ => some fr) (fun d fr v => fPutF1 fr d v)
theorem fPutF_eq (dst : Option Tmp) (fr : Fr) (v : AV) : fPutF dst fr v = fr.put dst v := by
  cases dst with
  | none => rfl
  | some d =>
    obtain ⟨n, t, rd, ds⟩ := fr
    show fPutF2 (Nat.blt d n) n t rd ds d v = bif Nat.blt d n then (match t.set d v with | .e => none | .n a b c => some ⟨n, .n a b c, rd, ds⟩) else none
    cases Nat.blt d n with
    | false => rfl
    | true =>
      show fPutF3 (fSet t d v) n rd ds = _
      rw [fSet_eq]
      cases t.set d v <;> rfl
end Go.Ax

/-
  AxF2: the executor, quick in the kernel.
-/
namespace Go.Ax
open Go

abbrev RecT := Cmd → Fr → St → Res

/-! ### Code -/
def fSeqE (e : AX) : Fr → St → Code → RecT → Res :=
  AX.casesOn (motive := fun _ => Fr → St → Code → RecT → Res) e (fun fr st b rec => rec (.code b) fr st) (fun i fr st _ _ => .ok (.exit i) fr st) (fun fr st _ _ => .ok .ret fr st)
def fSeqR (r : Res) : Code → RecT → Res :=
  Res.casesOn (motive := fun _ => Code → RecT → Res) r (fun e fr st b rec => fSeqE e fr st b rec) (fun v st _ _ => .ret v st) (fun _ _ => .bad)
def fBool (b : Bool) : Code → Code → RecT → Fr → St → Res :=
  Bool.casesOn (motive := fun _ => Code → Code → RecT → Fr → St → Res) b (fun _ y rec fr st => rec (.code y) fr st) (fun x _ rec fr st => rec (.code x) fr st)
def toBo : Option AV → Option Bool
  | some (.v (.bool b)) => some b
  | _ => none
def fCond (o : Option Bool) : Code → Code → RecT → Fr → St → Res :=
  Option.casesOn (motive := fun _ => Code → Code → RecT → Fr → St → Res) o (fun _ _ _ _ _ => .bad) (fun b x y rec fr st => fBool b x y rec fr st)
def fBlockX (b : Bool) : Nat → Fr → St → Res :=
  Bool.casesOn (motive := fun _ => Nat → Fr → St → Res) b (fun i fr st => .ok (.exit i) fr st) (fun _ fr st => .ok .normal fr st)
def fBlockE (e : AX) : Fr → St → Nat → Res :=
  AX.casesOn (motive := fun _ => Fr → St → Nat → Res) e (fun fr st _ => .ok .normal fr st) (fun i fr st id => fBlockX (Nat.beq i id) i fr st) (fun fr st _ => .ok .ret fr st)
def fBlockR (r : Res) : Nat → Res :=
  Res.casesOn (motive := fun _ => Nat → Res) r (fun e fr st id => fBlockE e fr st id) (fun v st _ => .ret v st) (fun _ => .bad)
def fDrawB (b : Bool) : List Oper → List It → RecT → Fr → St → Res :=
  Bool.casesOn (motive := fun _ => List Oper → List It → RecT → Fr → St → Res) b (fun _ _ _ _ _ => .bad) (fun all its rec fr st => rec (.draw all (orderOf its (loudsOf its) 0 (loudsOf its)) [] 0 0) fr st)
def fDrawI (o : Option (List It)) : List Oper → RecT → Fr → St → Res :=
  Option.casesOn (motive := fun _ => List Oper → RecT → Fr → St → Res) o (fun _ _ _ _ => .bad) (fun its all rec fr st => fDrawB (textOk all its) all its rec fr st)
def fRegion (d : Bool) : List Oper → Env → RecT → Fr → St → Res :=
  Bool.casesOn (motive := fun _ => List Oper → Env → RecT → Fr → St → Res) d (fun all _ rec fr st => rec (.ops all all) fr st) (fun all E rec fr st => fDrawI (mkIts E 0 [] all) all rec fr st)
/-- A range over a function: as it stands. -/
def fRange (g : Operand) (ps : Array Tmp) (assign body : Code) (rec : RecT) (fr : Fr) (st : St) : Res :=
  bif fr.rd then .bad else (match ev fr g with
      | some (.fn g first cap) => (match st.nxt with
        | 0 => .bad
        | j + 1 => (match strict (fresh (fresh st .defd) (.loop fr ps.toList assign body false .normal)) (fun st => .val U st) with
          | .val _ st => (match rec (.enter false g (first ++ (.yld (Nat.succ (Nat.succ j)) :: cap))) fr st with
            | .ret _ st => (match st.hp.get (Nat.succ (Nat.succ j)) with
              | some (.loop _ _ _ _ false e) => (match strict ⟨st.nxt, st.hp.set (Nat.succ (Nat.succ j)) .dead⟩ (fun st => .val U st) with
                | .val _ st => .ok e ⟨fr.n, fr.t, fr.rd, .mark (Nat.succ j) :: fr.ds⟩ st
                | _ => .bad)
              | _ => .bad)
            | _ => .bad)
          | _ => .bad))
      | _ => .bad)
noncomputable def fCode (c : Code) : Env → RecT → Fr → St → Res :=
  Code.casesOn (motive := fun _ => Env → RecT → Fr → St → Res) c
    (fun _ _ fr st => .ok .normal fr st)
    (fun _ ops d E rec fr st => fRegion d ops.toList E rec fr st)
    (fun a b _ rec fr st => fSeqR (rec (.code a) fr st) b rec)
    (fun c x y _ rec fr st => fCond (toBo (fEv c fr)) x y rec fr st)
    (fun id b _ rec fr st => fBlockR (rec (.code b) fr st) id)
    (fun b _ rec fr st => fSeqR (rec (.code b) fr st) (.loop b) rec)
    (fun g ps assign body _ rec fr st => fRange g ps assign body rec fr st)
    (fun id _ _ fr st => .ok (.exit id) fr st)
    (fun b _ rec fr st => rec (.code b) fr st)
    (fun _ _ _ fr st => .ok .normal fr st)
    (fun _ _ _ _ _ => .bad)
    (fun _ _ fr st => .ok .ret fr st)
    (fun _ _ _ _ _ => .bad)
end Go.Ax

/-
  AxF3a: numbers and texts, quick in the kernel.
-/
namespace Go.Ax
open Go

def kNo (k : IntKind) : Nat := IntKind.casesOn (motive := fun _ => Nat) k 0 1 2 3 4 5 6 7
def kEq (k k' : IntKind) : Bool := Nat.beq (kNo k) (kNo k')
theorem kEq_eq (k k' : IntKind) : kEq k k' = kindEq k k' := by cases k <;> cases k' <;> rfl
def kHalf (k : IntKind) : Nat := IntKind.casesOn (motive := fun _ => Nat) k 128 32768 2147483648 9223372036854775808 128 32768 2147483648 9223372036854775808
def kFull (k : IntKind) : Nat := IntKind.casesOn (motive := fun _ => Nat) k 256 65536 4294967296 18446744073709551616 256 65536 4294967296 18446744073709551616
def kSig (k : IntKind) : Bool := IntKind.casesOn (motive := fun _ => Bool) k true true true true false false false false
def fWrN (b : Bool) : Nat → IntKind → Int := Bool.casesOn (motive := fun _ => Nat → IntKind → Int) b (fun r k => Int.negOfNat (Nat.sub (kFull k) r)) (fun r _ => .ofNat r)
def fWrP (b : Bool) : Nat → IntKind → Int := Bool.casesOn (motive := fun _ => Nat → IntKind → Int) b (fun m k => fWrN (Nat.blt (Nat.mod m (kFull k)) (kHalf k)) (Nat.mod m (kFull k)) k) (fun m _ => .ofNat m)
def fWrM2 (b : Bool) : Nat → IntKind → Int := Bool.casesOn (motive := fun _ => Nat → IntKind → Int) b (fun r k => .ofNat (Nat.sub (Nat.sub (kFull k) 1) r)) (fun r _ => .negSucc r)
def fWrM (b : Bool) : Nat → IntKind → Int := Bool.casesOn (motive := fun _ => Nat → IntKind → Int) b (fun m k => fWrM2 (Nat.blt (Nat.mod m (kFull k)) (kHalf k)) (Nat.mod m (kFull k)) k) (fun m _ => .negSucc m)
def fWrS (n : Int) : IntKind → Int := Int.casesOn (motive := fun _ => IntKind → Int) n (fun m k => fWrP (Nat.blt m (kHalf k)) m k) (fun m k => fWrM (Nat.blt m (kHalf k)) m k)
def fWrU (n : Int) : IntKind → Int := Int.casesOn (motive := fun _ => IntKind → Int) n (fun m k => .ofNat (Nat.mod m (kFull k))) (fun m k => .ofNat (Nat.sub (Nat.sub (kFull k) 1) (Nat.mod m (kFull k))))
def fWr (b : Bool) : Int → IntKind → Int := Bool.casesOn (motive := fun _ => Int → IntKind → Int) b (fun n k => fWrU n k) (fun n k => fWrS n k)
def fWrap (k : IntKind) (n : Int) : Int := fWr (kSig k) n k
theorem kFull_eq (k : IntKind) : kFull k = 2 * bitsHalf k := by cases k <;> rfl
theorem kHalf_eq (k : IntKind) : kHalf k = bitsHalf k := by cases k <;> rfl
theorem fWrap_eq (k : IntKind) (n : Int) : fWrap k n = wrapK k n := by
  have hs : kSig k = isSigned k := by cases k <;> rfl
  unfold fWrap wrapK
  rw [hs]
  cases isSigned k with
  | true =>
    cases n with
    | ofNat m =>
      show fWrP (Nat.blt m (kHalf k)) m k = (bif Nat.blt m (bitsHalf k) then .ofNat m else
        (bif Nat.blt (Nat.mod m (2 * bitsHalf k)) (bitsHalf k) then .ofNat (Nat.mod m (2 * bitsHalf k)) else Int.negOfNat (2 * bitsHalf k - Nat.mod m (2 * bitsHalf k))))
      rw [kHalf_eq]
      cases Nat.blt m (bitsHalf k) with
      | true => rfl
      | false =>
        show fWrN (Nat.blt (Nat.mod m (kFull k)) (kHalf k)) (Nat.mod m (kFull k)) k = _
        rw [kHalf_eq, kFull_eq]
        simp only [cond_false]
        cases Nat.blt (Nat.mod m (2 * bitsHalf k)) (bitsHalf k) with
        | true => rfl
        | false => simp only [fWrN, kFull_eq, cond_false]; rfl
    | negSucc m =>
      show fWrM (Nat.blt m (kHalf k)) m k = (bif Nat.blt m (bitsHalf k) then .negSucc m else
        (bif Nat.blt (Nat.mod m (2 * bitsHalf k)) (bitsHalf k) then .negSucc (Nat.mod m (2 * bitsHalf k)) else .ofNat (2 * bitsHalf k - 1 - Nat.mod m (2 * bitsHalf k))))
      rw [kHalf_eq]
      cases Nat.blt m (bitsHalf k) with
      | true => rfl
      | false =>
        show fWrM2 (Nat.blt (Nat.mod m (kFull k)) (kHalf k)) (Nat.mod m (kFull k)) k = _
        rw [kHalf_eq, kFull_eq]
        simp only [cond_false]
        cases Nat.blt (Nat.mod m (2 * bitsHalf k)) (bitsHalf k) with
        | true => rfl
        | false => simp only [fWrM2, kFull_eq, cond_false]; rfl
  | false =>
    cases n with
    | ofNat m => simp only [fWr, fWrU, kFull_eq]
    | negSucc m => simp only [fWr, fWrU, kFull_eq]; rfl

/-! ### Sums -/
def fSubB (b : Bool) : Nat → Nat → Int := Bool.casesOn (motive := fun _ => Nat → Nat → Int) b (fun m n => .negSucc (Nat.sub (Nat.sub n m) 1)) (fun m n => .ofNat (Nat.sub m n))
/-- m - n -/
def fSubN (m n : Nat) : Int := fSubB (Nat.ble n m) m n
theorem fSubN_eq (m n : Nat) : fSubN m n = (m : Int) - n := by
  unfold fSubN
  cases h : Nat.ble n m with
  | true =>
    have h := Nat.le_of_ble_eq_true h
    show Int.ofNat (m - n) = _
    rw [Int.ofNat_eq_natCast]; omega
  | false =>
    have h : ¬ n ≤ m := fun e => by rw [Nat.ble_eq_true_of_le e] at h; cases h
    show Int.negSucc (n - m - 1) = _
    rw [Int.negSucc_eq]; omega
def fAddP (b : Int) : Nat → Int := Int.casesOn (motive := fun _ => Nat → Int) b (fun n m => .ofNat (Nat.add m n)) (fun n m => fSubN m (Nat.succ n))
def fAddM (b : Int) : Nat → Int := Int.casesOn (motive := fun _ => Nat → Int) b (fun n m => fSubN n (Nat.succ m)) (fun n m => .negSucc (Nat.succ (Nat.add m n)))
def fAdd (a : Int) : Int → Int := Int.casesOn (motive := fun _ => Int → Int) a (fun m b => fAddP b m) (fun m b => fAddM b m)
theorem fAdd_eq (a b : Int) : fAdd a b = a + b := by
  cases a with
  | ofNat m =>
    cases b with
    | ofNat n => rfl
    | negSucc n =>
      show fSubN m (n + 1) = _
      rw [fSubN_eq, Int.negSucc_eq, Int.ofNat_eq_natCast]; omega
  | negSucc m =>
    cases b with
    | ofNat n =>
      show fSubN n (m + 1) = _
      rw [fSubN_eq, Int.negSucc_eq, Int.ofNat_eq_natCast]; omega
    | negSucc n =>
      show Int.negSucc (m + n + 1) = _
      rw [Int.negSucc_eq, Int.negSucc_eq, Int.negSucc_eq]; omega
def fNegN (n : Nat) : Int := Nat.casesOn (motive := fun _ => Int) n (.ofNat 0) (fun j => .negSucc j)
def fNeg (b : Int) : Int := Int.casesOn (motive := fun _ => Int) b (fun n => fNegN n) (fun n => .ofNat (Nat.succ n))
theorem fNeg_eq (b : Int) : fNeg b = -b := by
  cases b with
  | ofNat n => cases n <;> rfl
  | negSucc n => rfl
def fSubP (b : Int) : Nat → Int := Int.casesOn (motive := fun _ => Nat → Int) b (fun n m => fSubN m n) (fun n m => .ofNat (Nat.succ (Nat.add m n)))
def fSub (a : Int) : Int → Int := Int.casesOn (motive := fun _ => Int → Int) a (fun m b => fSubP b m) (fun m b => fAdd (.negSucc m) (fNeg b))
theorem fSub_eq (a b : Int) : fSub a b = a - b := by
  cases a with
  | ofNat m =>
    cases b with
    | ofNat n => exact fSubN_eq m n
    | negSucc n =>
      show Int.ofNat (m + n + 1) = _
      rw [Int.negSucc_eq, Int.ofNat_eq_natCast, Int.ofNat_eq_natCast]; omega
  | negSucc m =>
    show fAdd (.negSucc m) (fNeg b) = _
    rw [fAdd_eq, fNeg_eq]; omega

/-! ### Operations on numbers -/
def fI (ok : Bool) : IntKind → Int → Option AV := Bool.casesOn (motive := fun _ => IntKind → Int → Option AV) ok (fun _ _ => none) (fun k n => some (mkI k n))
def fT (ok : Bool) : Bool → Option AV := Bool.casesOn (motive := fun _ => Bool → Option AV) ok (fun _ => none) (fun b => some (mkBool b))
def fLeP (b : Int) : Nat → Bool := Int.casesOn (motive := fun _ => Nat → Bool) b (fun n m => Nat.ble m n) (fun _ _ => false)
def fLeM (b : Int) : Nat → Bool := Int.casesOn (motive := fun _ => Nat → Bool) b (fun _ _ => true) (fun n m => Nat.ble n m)
/-- a ≤ b -/
def fLe (a : Int) : Int → Bool := Int.casesOn (motive := fun _ => Int → Bool) a (fun m b => fLeP b m) (fun m b => fLeM b m)
def fEqP (b : Int) : Nat → Bool := Int.casesOn (motive := fun _ => Nat → Bool) b (fun n m => Nat.beq m n) (fun _ _ => false)
def fEqM (b : Int) : Nat → Bool := Int.casesOn (motive := fun _ => Nat → Bool) b (fun _ _ => false) (fun n m => Nat.beq m n)
def fEq (a : Int) : Int → Bool := Int.casesOn (motive := fun _ => Int → Bool) a (fun m b => fEqP b m) (fun m b => fEqM b m)
def fNot (b : Bool) : Bool := Bool.casesOn (motive := fun _ => Bool) b true false
def fBinI (op : BinOp) : IntKind → Int → IntKind → Int → Option AV :=
  BinOp.casesOn (motive := fun _ => IntKind → Int → IntKind → Int → Option AV) op
    (fun k a k' b => fI (kEq k k') k (fWrap k (fAdd a b)))
    (fun k a k' b => fI (kEq k k') k (fWrap k (fSub a b)))
    (fun k a k' b => binI .mul k a k' b)
    (fun k a k' b => binI .quo k a k' b)
    (fun k a k' b => binI .rem k a k' b)
    (fun k a k' b => binI .and k a k' b)
    (fun k a k' b => binI .or k a k' b)
    (fun k a k' b => binI .xor k a k' b)
    (fun k a k' b => binI .shl k a k' b)
    (fun k a k' b => binI .shr k a k' b)
    (fun k a k' b => binI .andNot k a k' b)
    (fun k a k' b => fT (kEq k k') (fEq a b))
    (fun k a k' b => fT (kEq k k') (fNot (fEq a b)))
    (fun k a k' b => fT (kEq k k') (fNot (fLe b a)))
    (fun k a k' b => fT (kEq k k') (fLe a b))
    (fun k a k' b => fT (kEq k k') (fNot (fLe a b)))
    (fun k a k' b => fT (kEq k k') (fLe b a))
theorem fEq_eq (a b : Int) : fEq a b = ieq a b := by cases a <;> cases b <;> rfl
theorem fLe_eq (a b : Int) : fLe a b = decide (a ≤ b) := by
  rw [Bool.eq_iff_iff, decide_eq_true_iff]
  cases a with
  | ofNat m => cases b with
    | ofNat n =>
      show Nat.ble m n = true ↔ _
      rw [Nat.ble_eq, Int.ofNat_eq_natCast, Int.ofNat_eq_natCast]; omega
    | negSucc n =>
      show false = true ↔ _
      rw [Int.negSucc_eq, Int.ofNat_eq_natCast]; constructor
      · intro h; cases h
      · intro h; omega
  | negSucc m => cases b with
    | ofNat n =>
      show true = true ↔ _
      rw [Int.negSucc_eq, Int.ofNat_eq_natCast]; constructor
      · intro _; omega
      · intro _; rfl
    | negSucc n =>
      show Nat.ble n m = true ↔ _
      rw [Nat.ble_eq, Int.negSucc_eq, Int.negSucc_eq]; omega
theorem fNot_eq (b : Bool) : fNot b = !b := by cases b <;> rfl
theorem fI_eq (ok : Bool) (k : IntKind) (n : Int) : fI ok k n = bif ok then some (mkI k n) else none := by cases ok <;> rfl
theorem fT_eq (ok : Bool) (b : Bool) : fT ok b = bif ok then some (mkBool b) else none := by cases ok <;> rfl
theorem fBinI_eq (op : BinOp) (k : IntKind) (a : Int) (k' : IntKind) (b : Int) : fBinI op k a k' b = binI op k a k' b := by
  have hlt : ∀ a b : Int, ilt a b = fNot (fLe b a) := by
    intro a b
    rw [ilt_eq, fNot_eq, fLe_eq, Bool.eq_iff_iff]
    simp only [decide_eq_true_iff, Bool.not_eq_true', decide_eq_false_iff_not]
    omega
  cases op <;> first | rfl | skip
  all_goals simp only [fBinI, fI_eq, fT_eq, kEq_eq, fWrap_eq, fAdd_eq, fSub_eq, fEq_eq, binI, hlt, fNot_eq, Bool.not_not]
end Go.Ax

/-
  AxF3c: the memory read, quick in the kernel.
-/
namespace Go.Ax
open Go

def fCons2 (o : Option (List AV)) : AV → Option (List AV) := Option.casesOn (motive := fun _ => AV → Option (List AV)) o (fun _ => none) (fun l a => some (a :: l))
def fCons (o : Option AV) : Option (List AV) → Option (List AV) := Option.casesOn (motive := fun _ => Option (List AV) → Option (List AV)) o (fun _ => none) (fun a l => fCons2 l a)
noncomputable def fRd (n : Nat) : Tr AV → Nat → Option (List AV) :=
  Nat.rec (motive := fun _ => Tr AV → Nat → Option (List AV)) (fun _ _ => some []) (fun _ ih d off => fCons (fGet d off) (ih d (Nat.succ off))) n
theorem fRd_eq (d : Tr AV) : ∀ (n off : Nat), fRd n d off = rd d off n
  | 0, _ => by simp only [rd]; rfl
  | n + 1, off => by
    show fCons (fGet d off) (fRd n d (off + 1)) = _
    rw [fRd_eq d n, fGet_eq]
    simp only [rd]
    cases d.get off with
    | none => rfl
    | some a => cases rd d (off + 1) n <;> rfl
def fAggO (o : Option (List AV)) : Option AV := Option.casesOn (motive := fun _ => Option AV) o none (fun l => some (.agg l))
noncomputable def fLoadG (n : Option Nat) : Tr AV → Nat → Option AV := Option.casesOn (motive := fun _ => Tr AV → Nat → Option AV) n (fun _ _ => none) (fun n d off => fAggO (fRd n d off))
noncomputable def fLoadB (b : Bool) : Tr AV → Nat → TypeId → Program → Option AV :=
  Bool.casesOn (motive := fun _ => Tr AV → Nat → TypeId → Program → Option AV) b (fun d off _ _ => fGet d off) (fun d off t P => fLoadG (szX P t) d off)
noncomputable def fLoadA (o : Option Bool) : Tr AV → Nat → TypeId → Program → Option AV :=
  Option.casesOn (motive := fun _ => Tr AV → Nat → TypeId → Program → Option AV) o (fun _ _ _ _ => none) (fun b d off t P => fLoadB b d off t P)
noncomputable def fLoadO (o : AO) : Nat → TypeId → Program → Option AV :=
  AO.casesOn (motive := fun _ => Nat → TypeId → Program → Option AV) o (fun d _ _ _ _ _ off t P => fLoadA (isAggX P t) d off t P) (fun _ _ _ _ => none) (fun _ _ _ _ _ _ => none) (fun _ _ _ _ _ _ _ _ _ => none) (fun _ _ _ => none) (fun _ _ _ => none)
noncomputable def fLoadR (o : Option AO) : Nat → TypeId → Program → Option AV :=
  Option.casesOn (motive := fun _ => Nat → TypeId → Program → Option AV) o (fun _ _ _ => none) (fun o off t P => fLoadO o off t P)
noncomputable def fLoadX (a : AV) : TypeId → Program → Glob → St → Option AV :=
  AV.casesOn (motive_1 := fun _ => TypeId → Program → Glob → St → Option AV) a
    (fun v t P G st => loadX P G t (.v v) st)
    (fun _ _ _ _ _ _ => none)
    (fun b off t P _ st => fLoadR (fGet st.hp b) off t P)
    (fun _ _ _ _ _ _ _ _ _ _ => none) (fun _ _ _ _ _ => none) (fun _ _ _ _ _ _ _ => none) (fun _ _ _ _ _ _ => none) (fun _ _ _ _ _ => none) (fun _ _ _ _ _ => none) (fun _ _ _ _ _ => none)
theorem fLoadX_eq (a : AV) (t : TypeId) (P : Program) (G : Glob) (st : St) : fLoadX a t P G st = loadX P G t a st := by
  cases a with
  | ptr b off =>
    show fLoadR (fGet st.hp b) off t P = _
    rw [fGet_eq]
    simp only [loadX]
    cases st.hp.get b with
    | none => rfl
    | some o =>
      cases o with
      | row d n el ex fz m =>
        show fLoadA (isAggX P t) d off t P = _
        simp only
        cases isAggX P t with
        | none => rfl
        | some b =>
          cases b with
          | true =>
            show fLoadG (szX P t) d off = _
            simp only
            cases szX P t with
            | none => rfl
            | some n =>
              show fAggO (fRd n d off) = (match rd d off n with | some l => some (.agg l) | none => none)
              rw [fRd_eq]
              cases rd d off n <;> rfl
          | false => exact fGet_eq d off
      | _ => rfl
  | v x => rfl
  | _ => rfl
end Go.Ax

/-
  AxF3d: addresses and indexes, quick in the kernel.
-/
namespace Go.Ax
open Go

theorem bif_eq {α : Type} (b : Bool) (x y : α) : (bif b then x else y) = Bool.casesOn (motive := fun _ => α) b y x := by cases b <;> rfl

def fPtrN (n : Nat) : Nat → Option AV := Nat.casesOn (motive := fun _ => Nat → Option AV) n (fun b => some (.ptr b 0)) (fun j b => some (.ptr b (Nat.succ j)))

/-! ### Fields' addresses -/
def fFA3 (n : Nat) : AV → TypeId → Nat → Field → Program → Option AV :=
  Nat.casesOn (motive := fun _ => AV → TypeId → Nat → Field → Program → Option AV) n (fun _ _ _ _ _ => none)
    (fun _ a s f fd P => AV.casesOn (motive_1 := fun _ => TypeId → Nat → Field → Program → Option AV) a (fun v s f _ P => fieldAddrX P s (.v v) f) (fun _ _ _ _ _ _ => none)
      (fun b off _ _ fd _ => fPtrN (Nat.add off fd.offset) b)
      (fun _ _ _ _ _ _ _ _ _ _ => none) (fun _ _ _ _ _ => none) (fun _ _ _ _ _ _ _ => none) (fun _ _ _ _ _ _ => none) (fun _ _ _ _ _ => none) (fun _ _ _ _ _ => none) (fun _ _ _ _ _ => none) s f fd P)
def fFA2 (o : Option Nat) : AV → TypeId → Nat → Field → Program → Option AV :=
  Option.casesOn (motive := fun _ => AV → TypeId → Nat → Field → Program → Option AV) o (fun _ _ _ _ _ => none) (fun n a s f fd P => fFA3 n a s f fd P)
def fldOf (P : Program) (s : TypeId) (f : Nat) : Option Field := match P.underlying s with
  | some (.struct fs) => fs[f]?
  | _ => none
def fFA1 (o : Option Field) : AV → TypeId → Nat → Program → Option AV :=
  Option.casesOn (motive := fun _ => AV → TypeId → Nat → Program → Option AV) o (fun _ _ _ _ => none) (fun fd a s f P => fFA2 (szX P fd.type) a s f fd P)
def fFieldAddr (a : AV) (s : TypeId) (f : Nat) (P : Program) : Option AV := fFA1 (fldOf P s f) a s f P
theorem fFieldAddr_eq (a : AV) (s : TypeId) (f : Nat) (P : Program) : fFieldAddr a s f P = fieldAddrX P s a f := by
  unfold fFieldAddr fldOf
  cases hu : P.underlying s with
  | none => simp only [fieldAddrX, hu]; rfl
  | some u =>
    cases u with
    | struct fs =>
      simp only
      cases hfd : fs[f]? with
      | none => simp only [fieldAddrX, hu, hfd]; rfl
      | some fd =>
        show fFA2 (szX P fd.type) a s f fd P = _
        cases hsz : szX P fd.type with
        | none => simp only [fieldAddrX, hu, hfd, hsz]; rfl
        | some n =>
          cases n with
          | zero => simp only [fieldAddrX, hu, hfd, hsz]; rfl
          | succ n =>
            cases a with
            | ptr b off =>
              show fPtrN (off + fd.offset) b = _
              simp only [fieldAddrX, hu, hfd, hsz]
              cases off + fd.offset <;> rfl
            | v x => rfl
            | _ => simp only [fieldAddrX, hu, hfd, hsz]; rfl
    | _ => simp only [fieldAddrX, hu]; rfl
end Go.Ax

/-
  AxJ1: frames as two levels of sixteen places; what they say as a trie.
-/
namespace Go.Ax
open Go
noncomputable section

inductive L16 where
  | e
  | n (a0 a1 a2 a3 a4 a5 a6 a7 a8 a9 a10 a11 a12 a13 a14 a15 : Option AV)
inductive JF where
  | mk (rd : Bool) (ds : List AD) (c0 c1 c2 c3 c4 c5 c6 c7 c8 c9 c10 c11 c12 c13 c14 c15 : L16)
def L16.es : L16 → List (Option AV)
  | .e => List.replicate 16 none
  | .n a0 a1 a2 a3 a4 a5 a6 a7 a8 a9 a10 a11 a12 a13 a14 a15 => [a0, a1, a2, a3, a4, a5, a6, a7, a8, a9, a10, a11, a12, a13, a14, a15]
def JF.cs : JF → List L16
  | .mk _ _ c0 c1 c2 c3 c4 c5 c6 c7 c8 c9 c10 c11 c12 c13 c14 c15 => [c0, c1, c2, c3, c4, c5, c6, c7, c8, c9, c10, c11, c12, c13, c14, c15]
def JF.rd : JF → Bool
  | .mk rd _ _ _ _ _ _ _ _ _ _ _ _ _ _ _ _ _ => rd
def JF.ds : JF → List AD
  | .mk _ ds _ _ _ _ _ _ _ _ _ _ _ _ _ _ _ _ => ds
def jRd (jf : JF) : Bool := JF.rec (motive := fun _ => Bool) (fun rd _ _ _ _ _ _ _ _ _ _ _ _ _ _ _ _ _ => rd) jf
def jDs (jf : JF) : List AD := JF.rec (motive := fun _ => List AD) (fun _ ds _ _ _ _ _ _ _ _ _ _ _ _ _ _ _ _ => ds) jf
def jPush (jf : JF) : AD → JF := JF.rec (motive := fun _ => AD → JF) (fun rd ds c0 c1 c2 c3 c4 c5 c6 c7 c8 c9 c10 c11 c12 c13 c14 c15 d => .mk rd (d :: ds) c0 c1 c2 c3 c4 c5 c6 c7 c8 c9 c10 c11 c12 c13 c14 c15) jf
theorem jRd_eq (jf : JF) : jRd jf = jf.rd := by cases jf; rfl
theorem jDs_eq (jf : JF) : jDs jf = jf.ds := by cases jf; rfl
theorem jPush_rd (jf : JF) (d : AD) : (jPush jf d).rd = jf.rd := by cases jf; rfl
theorem jPush_ds (jf : JF) (d : AD) : (jPush jf d).ds = d :: jf.ds := by cases jf; rfl
theorem jPush_cs (jf : JF) (d : AD) : (jPush jf d).cs = jf.cs := by cases jf; rfl
def jEmpty (rd : Bool) : JF := .mk rd [] .e .e .e .e .e .e .e .e .e .e .e .e .e .e .e .e
/-! ### Ways to a place, as closed functions -/
inductive GL where
  | mk (f : L16 → Option AV)
inductive GR1 where
  | mk (f : JF → L16)
inductive SL where
  | mk (f : L16 → AV → L16)
inductive PR where
  | mk (f : JF → SL → AV → JF)
inductive GF where
  | mk (f : JF → Option AV)
inductive PF where
  | mk (f : JF → AV → JF)
def GL.run (g : GL) : L16 → Option AV := GL.rec (motive := fun _ => L16 → Option AV) (fun f => f) g
def GR1.run (g : GR1) : JF → L16 := GR1.rec (motive := fun _ => JF → L16) (fun f => f) g
def SL.run (g : SL) : L16 → AV → L16 := SL.rec (motive := fun _ => L16 → AV → L16) (fun f => f) g
def PR.run (g : PR) : JF → SL → AV → JF := PR.rec (motive := fun _ => JF → SL → AV → JF) (fun f => f) g
def GF.run (g : GF) : JF → Option AV := GF.rec (motive := fun _ => JF → Option AV) (fun f => f) g
def PF.run (g : PF) : JF → AV → JF := PF.rec (motive := fun _ => JF → AV → JF) (fun f => f) g
def gl0 : GL := .mk (fun c => L16.rec (motive := fun _ => Option AV) none (fun x _ _ _ _ _ _ _ _ _ _ _ _ _ _ _ => x) c)
def gl1 : GL := .mk (fun c => L16.rec (motive := fun _ => Option AV) none (fun _ x _ _ _ _ _ _ _ _ _ _ _ _ _ _ => x) c)
def gl2 : GL := .mk (fun c => L16.rec (motive := fun _ => Option AV) none (fun _ _ x _ _ _ _ _ _ _ _ _ _ _ _ _ => x) c)
def gl3 : GL := .mk (fun c => L16.rec (motive := fun _ => Option AV) none (fun _ _ _ x _ _ _ _ _ _ _ _ _ _ _ _ => x) c)
def gl4 : GL := .mk (fun c => L16.rec (motive := fun _ => Option AV) none (fun _ _ _ _ x _ _ _ _ _ _ _ _ _ _ _ => x) c)
def gl5 : GL := .mk (fun c => L16.rec (motive := fun _ => Option AV) none (fun _ _ _ _ _ x _ _ _ _ _ _ _ _ _ _ => x) c)
def gl6 : GL := .mk (fun c => L16.rec (motive := fun _ => Option AV) none (fun _ _ _ _ _ _ x _ _ _ _ _ _ _ _ _ => x) c)
def gl7 : GL := .mk (fun c => L16.rec (motive := fun _ => Option AV) none (fun _ _ _ _ _ _ _ x _ _ _ _ _ _ _ _ => x) c)
def gl8 : GL := .mk (fun c => L16.rec (motive := fun _ => Option AV) none (fun _ _ _ _ _ _ _ _ x _ _ _ _ _ _ _ => x) c)
def gl9 : GL := .mk (fun c => L16.rec (motive := fun _ => Option AV) none (fun _ _ _ _ _ _ _ _ _ x _ _ _ _ _ _ => x) c)
def gl10 : GL := .mk (fun c => L16.rec (motive := fun _ => Option AV) none (fun _ _ _ _ _ _ _ _ _ _ x _ _ _ _ _ => x) c)
def gl11 : GL := .mk (fun c => L16.rec (motive := fun _ => Option AV) none (fun _ _ _ _ _ _ _ _ _ _ _ x _ _ _ _ => x) c)
def gl12 : GL := .mk (fun c => L16.rec (motive := fun _ => Option AV) none (fun _ _ _ _ _ _ _ _ _ _ _ _ x _ _ _ => x) c)
def gl13 : GL := .mk (fun c => L16.rec (motive := fun _ => Option AV) none (fun _ _ _ _ _ _ _ _ _ _ _ _ _ x _ _ => x) c)
def gl14 : GL := .mk (fun c => L16.rec (motive := fun _ => Option AV) none (fun _ _ _ _ _ _ _ _ _ _ _ _ _ _ x _ => x) c)
def gl15 : GL := .mk (fun c => L16.rec (motive := fun _ => Option AV) none (fun _ _ _ _ _ _ _ _ _ _ _ _ _ _ _ x => x) c)
def gr0 : GR1 := .mk (fun j => JF.rec (motive := fun _ => L16) (fun _ _ x _ _ _ _ _ _ _ _ _ _ _ _ _ _ _ => x) j)
def gr1 : GR1 := .mk (fun j => JF.rec (motive := fun _ => L16) (fun _ _ _ x _ _ _ _ _ _ _ _ _ _ _ _ _ _ => x) j)
def gr2 : GR1 := .mk (fun j => JF.rec (motive := fun _ => L16) (fun _ _ _ _ x _ _ _ _ _ _ _ _ _ _ _ _ _ => x) j)
def gr3 : GR1 := .mk (fun j => JF.rec (motive := fun _ => L16) (fun _ _ _ _ _ x _ _ _ _ _ _ _ _ _ _ _ _ => x) j)
def gr4 : GR1 := .mk (fun j => JF.rec (motive := fun _ => L16) (fun _ _ _ _ _ _ x _ _ _ _ _ _ _ _ _ _ _ => x) j)
def gr5 : GR1 := .mk (fun j => JF.rec (motive := fun _ => L16) (fun _ _ _ _ _ _ _ x _ _ _ _ _ _ _ _ _ _ => x) j)
def gr6 : GR1 := .mk (fun j => JF.rec (motive := fun _ => L16) (fun _ _ _ _ _ _ _ _ x _ _ _ _ _ _ _ _ _ => x) j)
def gr7 : GR1 := .mk (fun j => JF.rec (motive := fun _ => L16) (fun _ _ _ _ _ _ _ _ _ x _ _ _ _ _ _ _ _ => x) j)
def gr8 : GR1 := .mk (fun j => JF.rec (motive := fun _ => L16) (fun _ _ _ _ _ _ _ _ _ _ x _ _ _ _ _ _ _ => x) j)
def gr9 : GR1 := .mk (fun j => JF.rec (motive := fun _ => L16) (fun _ _ _ _ _ _ _ _ _ _ _ x _ _ _ _ _ _ => x) j)
def gr10 : GR1 := .mk (fun j => JF.rec (motive := fun _ => L16) (fun _ _ _ _ _ _ _ _ _ _ _ _ x _ _ _ _ _ => x) j)
def gr11 : GR1 := .mk (fun j => JF.rec (motive := fun _ => L16) (fun _ _ _ _ _ _ _ _ _ _ _ _ _ x _ _ _ _ => x) j)
def gr12 : GR1 := .mk (fun j => JF.rec (motive := fun _ => L16) (fun _ _ _ _ _ _ _ _ _ _ _ _ _ _ x _ _ _ => x) j)
def gr13 : GR1 := .mk (fun j => JF.rec (motive := fun _ => L16) (fun _ _ _ _ _ _ _ _ _ _ _ _ _ _ _ x _ _ => x) j)
def gr14 : GR1 := .mk (fun j => JF.rec (motive := fun _ => L16) (fun _ _ _ _ _ _ _ _ _ _ _ _ _ _ _ _ x _ => x) j)
def gr15 : GR1 := .mk (fun j => JF.rec (motive := fun _ => L16) (fun _ _ _ _ _ _ _ _ _ _ _ _ _ _ _ _ _ x => x) j)
def sl0 : SL := .mk (fun c => L16.rec (motive := fun _ => AV → L16) (fun v => .n (some v) none none none none none none none none none none none none none none none) (fun _ a1 a2 a3 a4 a5 a6 a7 a8 a9 a10 a11 a12 a13 a14 a15 v => .n (some v) a1 a2 a3 a4 a5 a6 a7 a8 a9 a10 a11 a12 a13 a14 a15) c)
def sl1 : SL := .mk (fun c => L16.rec (motive := fun _ => AV → L16) (fun v => .n none (some v) none none none none none none none none none none none none none none) (fun a0 _ a2 a3 a4 a5 a6 a7 a8 a9 a10 a11 a12 a13 a14 a15 v => .n a0 (some v) a2 a3 a4 a5 a6 a7 a8 a9 a10 a11 a12 a13 a14 a15) c)
def sl2 : SL := .mk (fun c => L16.rec (motive := fun _ => AV → L16) (fun v => .n none none (some v) none none none none none none none none none none none none none) (fun a0 a1 _ a3 a4 a5 a6 a7 a8 a9 a10 a11 a12 a13 a14 a15 v => .n a0 a1 (some v) a3 a4 a5 a6 a7 a8 a9 a10 a11 a12 a13 a14 a15) c)
def sl3 : SL := .mk (fun c => L16.rec (motive := fun _ => AV → L16) (fun v => .n none none none (some v) none none none none none none none none none none none none) (fun a0 a1 a2 _ a4 a5 a6 a7 a8 a9 a10 a11 a12 a13 a14 a15 v => .n a0 a1 a2 (some v) a4 a5 a6 a7 a8 a9 a10 a11 a12 a13 a14 a15) c)
def sl4 : SL := .mk (fun c => L16.rec (motive := fun _ => AV → L16) (fun v => .n none none none none (some v) none none none none none none none none none none none) (fun a0 a1 a2 a3 _ a5 a6 a7 a8 a9 a10 a11 a12 a13 a14 a15 v => .n a0 a1 a2 a3 (some v) a5 a6 a7 a8 a9 a10 a11 a12 a13 a14 a15) c)
def sl5 : SL := .mk (fun c => L16.rec (motive := fun _ => AV → L16) (fun v => .n none none none none none (some v) none none none none none none none none none none) (fun a0 a1 a2 a3 a4 _ a6 a7 a8 a9 a10 a11 a12 a13 a14 a15 v => .n a0 a1 a2 a3 a4 (some v) a6 a7 a8 a9 a10 a11 a12 a13 a14 a15) c)
def sl6 : SL := .mk (fun c => L16.rec (motive := fun _ => AV → L16) (fun v => .n none none none none none none (some v) none none none none none none none none none) (fun a0 a1 a2 a3 a4 a5 _ a7 a8 a9 a10 a11 a12 a13 a14 a15 v => .n a0 a1 a2 a3 a4 a5 (some v) a7 a8 a9 a10 a11 a12 a13 a14 a15) c)
def sl7 : SL := .mk (fun c => L16.rec (motive := fun _ => AV → L16) (fun v => .n none none none none none none none (some v) none none none none none none none none) (fun a0 a1 a2 a3 a4 a5 a6 _ a8 a9 a10 a11 a12 a13 a14 a15 v => .n a0 a1 a2 a3 a4 a5 a6 (some v) a8 a9 a10 a11 a12 a13 a14 a15) c)
def sl8 : SL := .mk (fun c => L16.rec (motive := fun _ => AV → L16) (fun v => .n none none none none none none none none (some v) none none none none none none none) (fun a0 a1 a2 a3 a4 a5 a6 a7 _ a9 a10 a11 a12 a13 a14 a15 v => .n a0 a1 a2 a3 a4 a5 a6 a7 (some v) a9 a10 a11 a12 a13 a14 a15) c)
def sl9 : SL := .mk (fun c => L16.rec (motive := fun _ => AV → L16) (fun v => .n none none none none none none none none none (some v) none none none none none none) (fun a0 a1 a2 a3 a4 a5 a6 a7 a8 _ a10 a11 a12 a13 a14 a15 v => .n a0 a1 a2 a3 a4 a5 a6 a7 a8 (some v) a10 a11 a12 a13 a14 a15) c)
def sl10 : SL := .mk (fun c => L16.rec (motive := fun _ => AV → L16) (fun v => .n none none none none none none none none none none (some v) none none none none none) (fun a0 a1 a2 a3 a4 a5 a6 a7 a8 a9 _ a11 a12 a13 a14 a15 v => .n a0 a1 a2 a3 a4 a5 a6 a7 a8 a9 (some v) a11 a12 a13 a14 a15) c)
def sl11 : SL := .mk (fun c => L16.rec (motive := fun _ => AV → L16) (fun v => .n none none none none none none none none none none none (some v) none none none none) (fun a0 a1 a2 a3 a4 a5 a6 a7 a8 a9 a10 _ a12 a13 a14 a15 v => .n a0 a1 a2 a3 a4 a5 a6 a7 a8 a9 a10 (some v) a12 a13 a14 a15) c)
def sl12 : SL := .mk (fun c => L16.rec (motive := fun _ => AV → L16) (fun v => .n none none none none none none none none none none none none (some v) none none none) (fun a0 a1 a2 a3 a4 a5 a6 a7 a8 a9 a10 a11 _ a13 a14 a15 v => .n a0 a1 a2 a3 a4 a5 a6 a7 a8 a9 a10 a11 (some v) a13 a14 a15) c)
def sl13 : SL := .mk (fun c => L16.rec (motive := fun _ => AV → L16) (fun v => .n none none none none none none none none none none none none none (some v) none none) (fun a0 a1 a2 a3 a4 a5 a6 a7 a8 a9 a10 a11 a12 _ a14 a15 v => .n a0 a1 a2 a3 a4 a5 a6 a7 a8 a9 a10 a11 a12 (some v) a14 a15) c)
def sl14 : SL := .mk (fun c => L16.rec (motive := fun _ => AV → L16) (fun v => .n none none none none none none none none none none none none none none (some v) none) (fun a0 a1 a2 a3 a4 a5 a6 a7 a8 a9 a10 a11 a12 a13 _ a15 v => .n a0 a1 a2 a3 a4 a5 a6 a7 a8 a9 a10 a11 a12 a13 (some v) a15) c)
def sl15 : SL := .mk (fun c => L16.rec (motive := fun _ => AV → L16) (fun v => .n none none none none none none none none none none none none none none none (some v)) (fun a0 a1 a2 a3 a4 a5 a6 a7 a8 a9 a10 a11 a12 a13 a14 _ v => .n a0 a1 a2 a3 a4 a5 a6 a7 a8 a9 a10 a11 a12 a13 a14 (some v)) c)
def pr0 : PR := .mk (fun j => JF.rec (motive := fun _ => SL → AV → JF) (fun rd ds c0 c1 c2 c3 c4 c5 c6 c7 c8 c9 c10 c11 c12 c13 c14 c15 s v => .mk rd ds (SL.run s c0 v) c1 c2 c3 c4 c5 c6 c7 c8 c9 c10 c11 c12 c13 c14 c15) j)
def pr1 : PR := .mk (fun j => JF.rec (motive := fun _ => SL → AV → JF) (fun rd ds c0 c1 c2 c3 c4 c5 c6 c7 c8 c9 c10 c11 c12 c13 c14 c15 s v => .mk rd ds c0 (SL.run s c1 v) c2 c3 c4 c5 c6 c7 c8 c9 c10 c11 c12 c13 c14 c15) j)
def pr2 : PR := .mk (fun j => JF.rec (motive := fun _ => SL → AV → JF) (fun rd ds c0 c1 c2 c3 c4 c5 c6 c7 c8 c9 c10 c11 c12 c13 c14 c15 s v => .mk rd ds c0 c1 (SL.run s c2 v) c3 c4 c5 c6 c7 c8 c9 c10 c11 c12 c13 c14 c15) j)
def pr3 : PR := .mk (fun j => JF.rec (motive := fun _ => SL → AV → JF) (fun rd ds c0 c1 c2 c3 c4 c5 c6 c7 c8 c9 c10 c11 c12 c13 c14 c15 s v => .mk rd ds c0 c1 c2 (SL.run s c3 v) c4 c5 c6 c7 c8 c9 c10 c11 c12 c13 c14 c15) j)
def pr4 : PR := .mk (fun j => JF.rec (motive := fun _ => SL → AV → JF) (fun rd ds c0 c1 c2 c3 c4 c5 c6 c7 c8 c9 c10 c11 c12 c13 c14 c15 s v => .mk rd ds c0 c1 c2 c3 (SL.run s c4 v) c5 c6 c7 c8 c9 c10 c11 c12 c13 c14 c15) j)
def pr5 : PR := .mk (fun j => JF.rec (motive := fun _ => SL → AV → JF) (fun rd ds c0 c1 c2 c3 c4 c5 c6 c7 c8 c9 c10 c11 c12 c13 c14 c15 s v => .mk rd ds c0 c1 c2 c3 c4 (SL.run s c5 v) c6 c7 c8 c9 c10 c11 c12 c13 c14 c15) j)
def pr6 : PR := .mk (fun j => JF.rec (motive := fun _ => SL → AV → JF) (fun rd ds c0 c1 c2 c3 c4 c5 c6 c7 c8 c9 c10 c11 c12 c13 c14 c15 s v => .mk rd ds c0 c1 c2 c3 c4 c5 (SL.run s c6 v) c7 c8 c9 c10 c11 c12 c13 c14 c15) j)
def pr7 : PR := .mk (fun j => JF.rec (motive := fun _ => SL → AV → JF) (fun rd ds c0 c1 c2 c3 c4 c5 c6 c7 c8 c9 c10 c11 c12 c13 c14 c15 s v => .mk rd ds c0 c1 c2 c3 c4 c5 c6 (SL.run s c7 v) c8 c9 c10 c11 c12 c13 c14 c15) j)
def pr8 : PR := .mk (fun j => JF.rec (motive := fun _ => SL → AV → JF) (fun rd ds c0 c1 c2 c3 c4 c5 c6 c7 c8 c9 c10 c11 c12 c13 c14 c15 s v => .mk rd ds c0 c1 c2 c3 c4 c5 c6 c7 (SL.run s c8 v) c9 c10 c11 c12 c13 c14 c15) j)
def pr9 : PR := .mk (fun j => JF.rec (motive := fun _ => SL → AV → JF) (fun rd ds c0 c1 c2 c3 c4 c5 c6 c7 c8 c9 c10 c11 c12 c13 c14 c15 s v => .mk rd ds c0 c1 c2 c3 c4 c5 c6 c7 c8 (SL.run s c9 v) c10 c11 c12 c13 c14 c15) j)
def pr10 : PR := .mk (fun j => JF.rec (motive := fun _ => SL → AV → JF) (fun rd ds c0 c1 c2 c3 c4 c5 c6 c7 c8 c9 c10 c11 c12 c13 c14 c15 s v => .mk rd ds c0 c1 c2 c3 c4 c5 c6 c7 c8 c9 (SL.run s c10 v) c11 c12 c13 c14 c15) j)
def pr11 : PR := .mk (fun j => JF.rec (motive := fun _ => SL → AV → JF) (fun rd ds c0 c1 c2 c3 c4 c5 c6 c7 c8 c9 c10 c11 c12 c13 c14 c15 s v => .mk rd ds c0 c1 c2 c3 c4 c5 c6 c7 c8 c9 c10 (SL.run s c11 v) c12 c13 c14 c15) j)
def pr12 : PR := .mk (fun j => JF.rec (motive := fun _ => SL → AV → JF) (fun rd ds c0 c1 c2 c3 c4 c5 c6 c7 c8 c9 c10 c11 c12 c13 c14 c15 s v => .mk rd ds c0 c1 c2 c3 c4 c5 c6 c7 c8 c9 c10 c11 (SL.run s c12 v) c13 c14 c15) j)
def pr13 : PR := .mk (fun j => JF.rec (motive := fun _ => SL → AV → JF) (fun rd ds c0 c1 c2 c3 c4 c5 c6 c7 c8 c9 c10 c11 c12 c13 c14 c15 s v => .mk rd ds c0 c1 c2 c3 c4 c5 c6 c7 c8 c9 c10 c11 c12 (SL.run s c13 v) c14 c15) j)
def pr14 : PR := .mk (fun j => JF.rec (motive := fun _ => SL → AV → JF) (fun rd ds c0 c1 c2 c3 c4 c5 c6 c7 c8 c9 c10 c11 c12 c13 c14 c15 s v => .mk rd ds c0 c1 c2 c3 c4 c5 c6 c7 c8 c9 c10 c11 c12 c13 (SL.run s c14 v) c15) j)
def pr15 : PR := .mk (fun j => JF.rec (motive := fun _ => SL → AV → JF) (fun rd ds c0 c1 c2 c3 c4 c5 c6 c7 c8 c9 c10 c11 c12 c13 c14 c15 s v => .mk rd ds c0 c1 c2 c3 c4 c5 c6 c7 c8 c9 c10 c11 c12 c13 c14 (SL.run s c15 v)) j)
def selGL (k : Nat) : GL := Nat.casesOn (motive := fun _ => GL) k gl0 (fun k => Nat.casesOn (motive := fun _ => GL) k gl1 (fun k => Nat.casesOn (motive := fun _ => GL) k gl2 (fun k => Nat.casesOn (motive := fun _ => GL) k gl3 (fun k => Nat.casesOn (motive := fun _ => GL) k gl4 (fun k => Nat.casesOn (motive := fun _ => GL) k gl5 (fun k => Nat.casesOn (motive := fun _ => GL) k gl6 (fun k => Nat.casesOn (motive := fun _ => GL) k gl7 (fun k => Nat.casesOn (motive := fun _ => GL) k gl8 (fun k => Nat.casesOn (motive := fun _ => GL) k gl9 (fun k => Nat.casesOn (motive := fun _ => GL) k gl10 (fun k => Nat.casesOn (motive := fun _ => GL) k gl11 (fun k => Nat.casesOn (motive := fun _ => GL) k gl12 (fun k => Nat.casesOn (motive := fun _ => GL) k gl13 (fun k => Nat.casesOn (motive := fun _ => GL) k gl14 (fun _ => gl15)))))))))))))))
def selGR (k : Nat) : GR1 := Nat.casesOn (motive := fun _ => GR1) k gr0 (fun k => Nat.casesOn (motive := fun _ => GR1) k gr1 (fun k => Nat.casesOn (motive := fun _ => GR1) k gr2 (fun k => Nat.casesOn (motive := fun _ => GR1) k gr3 (fun k => Nat.casesOn (motive := fun _ => GR1) k gr4 (fun k => Nat.casesOn (motive := fun _ => GR1) k gr5 (fun k => Nat.casesOn (motive := fun _ => GR1) k gr6 (fun k => Nat.casesOn (motive := fun _ => GR1) k gr7 (fun k => Nat.casesOn (motive := fun _ => GR1) k gr8 (fun k => Nat.casesOn (motive := fun _ => GR1) k gr9 (fun k => Nat.casesOn (motive := fun _ => GR1) k gr10 (fun k => Nat.casesOn (motive := fun _ => GR1) k gr11 (fun k => Nat.casesOn (motive := fun _ => GR1) k gr12 (fun k => Nat.casesOn (motive := fun _ => GR1) k gr13 (fun k => Nat.casesOn (motive := fun _ => GR1) k gr14 (fun _ => gr15)))))))))))))))
def selSL (k : Nat) : SL := Nat.casesOn (motive := fun _ => SL) k sl0 (fun k => Nat.casesOn (motive := fun _ => SL) k sl1 (fun k => Nat.casesOn (motive := fun _ => SL) k sl2 (fun k => Nat.casesOn (motive := fun _ => SL) k sl3 (fun k => Nat.casesOn (motive := fun _ => SL) k sl4 (fun k => Nat.casesOn (motive := fun _ => SL) k sl5 (fun k => Nat.casesOn (motive := fun _ => SL) k sl6 (fun k => Nat.casesOn (motive := fun _ => SL) k sl7 (fun k => Nat.casesOn (motive := fun _ => SL) k sl8 (fun k => Nat.casesOn (motive := fun _ => SL) k sl9 (fun k => Nat.casesOn (motive := fun _ => SL) k sl10 (fun k => Nat.casesOn (motive := fun _ => SL) k sl11 (fun k => Nat.casesOn (motive := fun _ => SL) k sl12 (fun k => Nat.casesOn (motive := fun _ => SL) k sl13 (fun k => Nat.casesOn (motive := fun _ => SL) k sl14 (fun _ => sl15)))))))))))))))
def selPR (k : Nat) : PR := Nat.casesOn (motive := fun _ => PR) k pr0 (fun k => Nat.casesOn (motive := fun _ => PR) k pr1 (fun k => Nat.casesOn (motive := fun _ => PR) k pr2 (fun k => Nat.casesOn (motive := fun _ => PR) k pr3 (fun k => Nat.casesOn (motive := fun _ => PR) k pr4 (fun k => Nat.casesOn (motive := fun _ => PR) k pr5 (fun k => Nat.casesOn (motive := fun _ => PR) k pr6 (fun k => Nat.casesOn (motive := fun _ => PR) k pr7 (fun k => Nat.casesOn (motive := fun _ => PR) k pr8 (fun k => Nat.casesOn (motive := fun _ => PR) k pr9 (fun k => Nat.casesOn (motive := fun _ => PR) k pr10 (fun k => Nat.casesOn (motive := fun _ => PR) k pr11 (fun k => Nat.casesOn (motive := fun _ => PR) k pr12 (fun k => Nat.casesOn (motive := fun _ => PR) k pr13 (fun k => Nat.casesOn (motive := fun _ => PR) k pr14 (fun _ => pr15)))))))))))))))
/-- Reads slot i. -/
def selF (i : Nat) : GF := .mk (fun j => GL.run (selGL (Nat.mod i 16)) (GR1.run (selGR (Nat.div i 16)) j))
/-- Writes slot i. -/
def putF (i : Nat) : PF := .mk (fun j v => PR.run (selPR (Nat.div i 16)) j (selSL (Nat.mod i 16)) v)
def JF.get (j : JF) (i : Nat) : Option AV := (((j.cs)[i / 16]?.getD .e).es)[i % 16]?.getD none

theorem selGL_eq : ∀ (k : Nat), k < 16 → ∀ c, (selGL k).run c = c.es[k]?.getD none
  | 0, _ => by intro c; cases c <;> rfl
  | 1, _ => by intro c; cases c <;> rfl
  | 2, _ => by intro c; cases c <;> rfl
  | 3, _ => by intro c; cases c <;> rfl
  | 4, _ => by intro c; cases c <;> rfl
  | 5, _ => by intro c; cases c <;> rfl
  | 6, _ => by intro c; cases c <;> rfl
  | 7, _ => by intro c; cases c <;> rfl
  | 8, _ => by intro c; cases c <;> rfl
  | 9, _ => by intro c; cases c <;> rfl
  | 10, _ => by intro c; cases c <;> rfl
  | 11, _ => by intro c; cases c <;> rfl
  | 12, _ => by intro c; cases c <;> rfl
  | 13, _ => by intro c; cases c <;> rfl
  | 14, _ => by intro c; cases c <;> rfl
  | 15, _ => by intro c; cases c <;> rfl
  | n + 16, h => absurd h (by omega)
theorem selGR_eq : ∀ (k : Nat), k < 16 → ∀ j, (selGR k).run j = j.cs[k]?.getD .e
  | 0, _ => by intro j; cases j; rfl
  | 1, _ => by intro j; cases j; rfl
  | 2, _ => by intro j; cases j; rfl
  | 3, _ => by intro j; cases j; rfl
  | 4, _ => by intro j; cases j; rfl
  | 5, _ => by intro j; cases j; rfl
  | 6, _ => by intro j; cases j; rfl
  | 7, _ => by intro j; cases j; rfl
  | 8, _ => by intro j; cases j; rfl
  | 9, _ => by intro j; cases j; rfl
  | 10, _ => by intro j; cases j; rfl
  | 11, _ => by intro j; cases j; rfl
  | 12, _ => by intro j; cases j; rfl
  | 13, _ => by intro j; cases j; rfl
  | 14, _ => by intro j; cases j; rfl
  | 15, _ => by intro j; cases j; rfl
  | n + 16, h => absurd h (by omega)
theorem selSL_eq : ∀ (k : Nat), k < 16 → ∀ c v, ((selSL k).run c v).es = c.es.set k (some v)
  | 0, _ => by intro c v; cases c <;> rfl
  | 1, _ => by intro c v; cases c <;> rfl
  | 2, _ => by intro c v; cases c <;> rfl
  | 3, _ => by intro c v; cases c <;> rfl
  | 4, _ => by intro c v; cases c <;> rfl
  | 5, _ => by intro c v; cases c <;> rfl
  | 6, _ => by intro c v; cases c <;> rfl
  | 7, _ => by intro c v; cases c <;> rfl
  | 8, _ => by intro c v; cases c <;> rfl
  | 9, _ => by intro c v; cases c <;> rfl
  | 10, _ => by intro c v; cases c <;> rfl
  | 11, _ => by intro c v; cases c <;> rfl
  | 12, _ => by intro c v; cases c <;> rfl
  | 13, _ => by intro c v; cases c <;> rfl
  | 14, _ => by intro c v; cases c <;> rfl
  | 15, _ => by intro c v; cases c <;> rfl
  | n + 16, h => absurd h (by omega)
theorem selPR_eq : ∀ (k : Nat), k < 16 → ∀ j s v, ((selPR k).run j s v).cs = j.cs.set k (s.run (j.cs[k]?.getD .e) v) ∧ ((selPR k).run j s v).rd = j.rd ∧ ((selPR k).run j s v).ds = j.ds
  | 0, _ => by intro j s v; cases j; exact ⟨rfl, rfl, rfl⟩
  | 1, _ => by intro j s v; cases j; exact ⟨rfl, rfl, rfl⟩
  | 2, _ => by intro j s v; cases j; exact ⟨rfl, rfl, rfl⟩
  | 3, _ => by intro j s v; cases j; exact ⟨rfl, rfl, rfl⟩
  | 4, _ => by intro j s v; cases j; exact ⟨rfl, rfl, rfl⟩
  | 5, _ => by intro j s v; cases j; exact ⟨rfl, rfl, rfl⟩
  | 6, _ => by intro j s v; cases j; exact ⟨rfl, rfl, rfl⟩
  | 7, _ => by intro j s v; cases j; exact ⟨rfl, rfl, rfl⟩
  | 8, _ => by intro j s v; cases j; exact ⟨rfl, rfl, rfl⟩
  | 9, _ => by intro j s v; cases j; exact ⟨rfl, rfl, rfl⟩
  | 10, _ => by intro j s v; cases j; exact ⟨rfl, rfl, rfl⟩
  | 11, _ => by intro j s v; cases j; exact ⟨rfl, rfl, rfl⟩
  | 12, _ => by intro j s v; cases j; exact ⟨rfl, rfl, rfl⟩
  | 13, _ => by intro j s v; cases j; exact ⟨rfl, rfl, rfl⟩
  | 14, _ => by intro j s v; cases j; exact ⟨rfl, rfl, rfl⟩
  | 15, _ => by intro j s v; cases j; exact ⟨rfl, rfl, rfl⟩
  | n + 16, h => absurd h (by omega)
theorem L16.es_len (c : L16) : c.es.length = 16 := by cases c <;> rfl
theorem JF.cs_len (j : JF) : j.cs.length = 16 := by cases j; rfl
theorem selF_eq (i : Nat) (h : i < 256) (j : JF) : (selF i).run j = j.get i := by
  show (selGL (i % 16)).run ((selGR (i / 16)).run j) = _
  rw [selGR_eq _ (by omega), selGL_eq _ (by omega)]; rfl
theorem JF.get_big (j : JF) (i : Nat) (h : 256 ≤ i) : j.get i = none := by
  unfold JF.get
  have e : (j.cs)[i / 16]? = none := List.getElem?_eq_none (by rw [JF.cs_len]; omega)
  rw [e]
  show ((List.replicate 16 (none : Option AV))[i % 16]?).getD none = none
  rw [List.getElem?_replicate]; split <;> rfl
theorem putF_get (i : Nat) (h : i < 256) (j : JF) (v : AV) (k : Nat) : ((putF i).run j v).get k = if k = i then some v else j.get k := by
  show ((selPR (i / 16)).run j (selSL (i % 16)) v).get k = _
  unfold JF.get
  rw [(selPR_eq _ (by omega) j _ v).1, List.getElem?_set]
  by_cases hk : i / 16 = k / 16
  · rw [if_pos hk, if_pos (by rw [JF.cs_len]; omega)]
    simp only [Option.getD_some]
    rw [selSL_eq _ (by omega), List.getElem?_set]
    by_cases hl : i % 16 = k % 16
    · rw [if_pos hl, if_pos (by rw [L16.es_len]; omega), if_pos (by omega)]; rfl
    · rw [if_neg hl, if_neg (by omega), ← hk]
  · rw [if_neg hk, if_neg (by intro e; subst e; exact hk rfl)]
theorem putF_rd (i : Nat) (h : i < 256) (j : JF) (v : AV) : ((putF i).run j v).rd = j.rd := (selPR_eq (i / 16) (by omega) j _ v).2.1
theorem putF_ds (i : Nat) (h : i < 256) (j : JF) (v : AV) : ((putF i).run j v).ds = j.ds := (selPR_eq (i / 16) (by omega) j _ v).2.2
theorem jEmpty_get (rd : Bool) (i : Nat) : (jEmpty rd).get i = none := by
  by_cases h : i < 256
  · have h1 : ∀ k : Nat, ((jEmpty rd).cs[k]?).getD L16.e = L16.e := by
      intro k
      show ((List.replicate 16 L16.e)[k]?).getD .e = .e
      rw [List.getElem?_replicate]; split <;> rfl
    unfold JF.get
    rw [h1]
    show ((List.replicate 16 (none : Option AV))[i % 16]?).getD none = none
    rw [List.getElem?_replicate]; split <;> rfl
  · exact JF.get_big _ _ (by omega)
end
end Go.Ax

/-
  AxJ2: the frame of the executor that a frame of two levels stands for.
-/
namespace Go.Ax
open Go
noncomputable section

section
variable {α : Type}
theorem fSetB_n (b : BP) (t : Tr α) (y : α) : ∃ a c d, fSetB b t y = .n a c d := by
  induction b generalizing t y with
  | e => cases t <;> exact ⟨_, _, _, rfl⟩
  | o b ih => cases t with
    | e => obtain ⟨p, q, s, h⟩ := ih .e y; refine ⟨none, .n p q s, .e, ?_⟩; show fPutL (fSetB b .e y) none .e = _; rw [h]; rfl
    | n x l r => obtain ⟨p, q, s, h⟩ := ih l y; refine ⟨x, .n p q s, r, ?_⟩; show fPutL (fSetB b l y) x r = _; rw [h]; rfl
  | i b ih => cases t with
    | e => obtain ⟨p, q, s, h⟩ := ih .e y; refine ⟨none, .e, .n p q s, ?_⟩; show fPutR (fSetB b .e y) none .e = _; rw [h]; rfl
    | n x l r => obtain ⟨p, q, s, h⟩ := ih r y; refine ⟨x, l, .n p q s, ?_⟩; show fPutR (fSetB b r y) x l = _; rw [h]; rfl
theorem fSetB_oe (b : BP) (y : α) : fSetB (.o b) .e y = .n none (fSetB b .e y) .e := by
  obtain ⟨p, q, s, h⟩ := fSetB_n b .e y
  show fPutL (fSetB b .e y) none .e = _; rw [h]; rfl
theorem fSetB_on (b : BP) (x : Option α) (l r : Tr α) (y : α) : fSetB (.o b) (.n x l r) y = .n x (fSetB b l y) r := by
  obtain ⟨p, q, s, h⟩ := fSetB_n b l y
  show fPutL (fSetB b l y) x r = _; rw [h]; rfl
theorem fSetB_ie (b : BP) (y : α) : fSetB (.i b) .e y = .n none .e (fSetB b .e y) := by
  obtain ⟨p, q, s, h⟩ := fSetB_n b .e y
  show fPutR (fSetB b .e y) none .e = _; rw [h]; rfl
theorem fSetB_in (b : BP) (x : Option α) (l r : Tr α) (y : α) : fSetB (.i b) (.n x l r) y = .n x l (fSetB b r y) := by
  obtain ⟨p, q, s, h⟩ := fSetB_n b r y
  show fPutR (fSetB b r y) x l = _; rw [h]; rfl
theorem fSetB_ee (y : α) : fSetB .e .e y = .n (some y) .e .e := rfl
theorem fSetB_en (x : Option α) (l r : Tr α) (y : α) : fSetB .e (.n x l r) y = .n (some y) l r := rfl
theorem fSetB_same (b : BP) (t : Tr α) (y y' : α) : fSetB b (fSetB b t y) y' = fSetB b t y' := by
  induction b generalizing t with
  | e => cases t <;> rfl
  | o b ih => cases t <;> simp only [fSetB_oe, fSetB_on, ih]
  | i b ih => cases t <;> simp only [fSetB_ie, fSetB_in, ih]
theorem fSetB_comm (b b' : BP) (h : b ≠ b') (t : Tr α) (y y' : α) : fSetB b (fSetB b' t y') y = fSetB b' (fSetB b t y) y' := by
  induction b generalizing b' t with
  | e => cases b' with
    | e => exact absurd rfl h
    | o b' => cases t <;> simp only [fSetB_oe, fSetB_on, fSetB_ee, fSetB_en]
    | i b' => cases t <;> simp only [fSetB_ie, fSetB_in, fSetB_ee, fSetB_en]
  | o b ih => cases b' with
    | e => cases t <;> simp only [fSetB_oe, fSetB_on, fSetB_ee, fSetB_en]
    | o b' => 
      have h' : b ≠ b' := fun e => h (by rw [e])
      cases t <;> simp only [fSetB_oe, fSetB_on, ih b' h']
    | i b' => cases t <;> simp only [fSetB_oe, fSetB_on, fSetB_ie, fSetB_in]
  | i b ih => cases b' with
    | e => cases t <;> simp only [fSetB_ie, fSetB_in, fSetB_ee, fSetB_en]
    | o b' => cases t <;> simp only [fSetB_oe, fSetB_on, fSetB_ie, fSetB_in]
    | i b' => 
      have h' : b ≠ b' := fun e => h (by rw [e])
      cases t <;> simp only [fSetB_ie, fSetB_in, ih b' h']
end
theorem Tr.set_same {α : Type} (t : Tr α) (i : Nat) (y y' : α) : (t.set i y).set i y' = t.set i y' := by
  rw [← fSet_eq, ← fSet_eq, ← fSet_eq]; exact fSetB_same _ _ _ _
theorem toB_inj {i j : Nat} (h : toB i = toB j) : i = j := by
  have h1 : (fSet (Tr.e : Tr Nat) i 0) = fSet .e j 0 := by unfold fSet; rw [h]
  rw [fSet_eq, fSet_eq] at h1
  have h2 := congrArg (fun t => t.get i) h1
  simp only [Tr.get_set] at h2
  by_cases he : i = j
  · exact he
  · simp [he, Tr.get] at h2
theorem Tr.set_comm {α : Type} (t : Tr α) {i j : Nat} (h : i ≠ j) (y y' : α) : (t.set j y').set i y = (t.set i y).set j y' := by
  rw [← fSet_eq, ← fSet_eq, ← fSet_eq, ← fSet_eq]; exact fSetB_comm _ _ (fun e => h (toB_inj e)) _ _ _

/-- The trie of the first n places. -/
def trOf (f : Nat → Option AV) (n : Nat) : Tr AV :=
  Nat.rec (motive := fun _ => Tr AV) .e (fun n ih => Option.rec (motive := fun _ => Tr AV → Nat → Tr AV) (fun t _ => t) (fun v t n => fSet t n v) (f n) ih n) n
theorem trOf_succ (f : Nat → Option AV) (n : Nat) : trOf f (n + 1) = match f n with | none => trOf f n | some v => (trOf f n).set n v := by
  show Option.rec (motive := fun _ => Tr AV → Nat → Tr AV) (fun t _ => t) (fun v t n => fSet t n v) (f n) (trOf f n) n = _
  cases f n with
  | none => rfl
  | some v => exact fSet_eq _ _ _
theorem trOf_congr {f g : Nat → Option AV} : ∀ (n : Nat), (∀ k, k < n → f k = g k) → trOf f n = trOf g n
  | 0, _ => rfl
  | n + 1, h => by rw [trOf_succ, trOf_succ, h n (by omega), trOf_congr n (fun k hk => h k (by omega))]
theorem trOf_set (f : Nat → Option AV) (i : Nat) (v : AV) : ∀ (n : Nat), i < n → trOf (fun k => if k = i then some v else f k) n = (trOf f n).set i v
  | 0, h => absurd h (by omega)
  | n + 1, h => by
    rw [trOf_succ, trOf_succ]
    by_cases hn : n = i
    · subst hn
      have e : trOf (fun k => if k = n then some v else f k) n = trOf f n := trOf_congr n (fun k hk => if_neg (by omega))
      simp only [if_pos]
      rw [e]
      cases f n with
      | none => rfl
      | some u => simp only; rw [Tr.set_same]
    · rw [if_neg hn, trOf_set f i v n (by omega)]
      cases f n with
      | none => rfl
      | some u => simp only; rw [Tr.set_comm _ hn]
theorem trOf_get (f : Nat → Option AV) (i : Nat) : ∀ (n : Nat), (trOf f n).get i = if i < n then f i else none
  | 0 => by rw [if_neg (by omega)]; rfl
  | n + 1 => by
    rw [trOf_succ]
    cases hf : f n with
    | none =>
      simp only
      rw [trOf_get f i n]
      by_cases h : i < n
      · rw [if_pos h, if_pos (by omega)]
      · rw [if_neg h]
        by_cases h' : i = n
        · subst h'; rw [if_pos (by omega), hf]
        · rw [if_neg (by omega)]
    | some u =>
      simp only
      rw [Tr.get_set, trOf_get f i n]
      by_cases h' : i = n
      · subst h'; rw [if_pos rfl, if_pos (by omega), hf]
      · rw [if_neg h']
        by_cases h : i < n
        · rw [if_pos h, if_pos (by omega)]
        · rw [if_neg h, if_neg (by omega)]

/-- The frame. -/
def toFr (n : Nat) (j : JF) : Fr := ⟨n, trOf j.get 256, j.rd, j.ds⟩
theorem toFr_get (n : Nat) (j : JF) (i : Nat) : (toFr n j).t.get i = j.get i := by
  show (trOf j.get 256).get i = _
  rw [trOf_get]
  split
  · rfl
  · rw [JF.get_big j i (by omega)]
theorem toFr_selF (n : Nat) (j : JF) (i : Nat) (h : i < 256) : (toFr n j).t.get i = (selF i).run j := by rw [toFr_get, selF_eq i h]
theorem toFr_putF (n : Nat) (j : JF) (i : Nat) (h : i < 256) (hn : i < n) (v : AV) : (toFr n j).put (some i) v = some (toFr n ((putF i).run j v)) := by
  unfold Fr.put
  simp only
  rw [show (toFr n j).n = n from rfl, show Nat.blt i n = true by rw [Nat.blt_eq]; exact hn]
  simp only [cond_true]
  have e : (toFr n j).t.set i v = trOf ((putF i).run j v).get 256 := by
    show (trOf j.get 256).set i v = _
    rw [← trOf_set _ _ _ _ h]
    exact trOf_congr _ (fun k _ => (putF_get i h j v k).symm)
  obtain ⟨a, b, c, e'⟩ := Tr.set_ne (toFr n j).t i v
  rw [e', show (toFr n j).rd = j.rd from rfl, show (toFr n j).ds = j.ds from rfl]
  simp only
  rw [e'] at e
  unfold toFr
  rw [← e, putF_rd i h, putF_ds i h]
end
end Go.Ax

/-
  AxJ3: the executor with compiled commands: what a command is, is found once; the kernel keeps it. Operands, silent operations.
-/
namespace Go.Ax
open Go
noncomputable section

/-! ### Operands -/
def cOpd (x : Operand) : GF := Operand.rec (motive := fun _ => GF)
  (fun t => Bool.rec (motive := fun _ => GF) (.mk fun _ => none) (selF t) (Nat.blt t 256))
  (fun v => .mk fun _ => some (.of v)) (fun g => .mk fun _ => some (.v (.pointer (some ⟨g, 0, none⟩)))) (fun f => .mk fun _ => some (.fn f [] [])) x
def jEv (x : Operand) (j : JF) : Option AV := GF.run (cOpd x) j
def jEvF (j : JF) : Operand → Option AV := fun x => GF.run (cOpd x) j
theorem jEv_eq (n : Nat) (x : Operand) (j : JF) : jEv x j = ev (toFr n j) x := by
  cases x with
  | tmp t =>
    show GF.run (Bool.rec (motive := fun _ => GF) (.mk fun _ => none) (selF t) (Nat.blt t 256)) j = (toFr n j).t.get t
    rw [toFr_get]
    cases h : Nat.blt t 256 with
    | true => exact selF_eq t (by rw [Nat.blt_eq] at h; exact h) j
    | false =>
      have : ¬ t < 256 := fun e => by rw [← Nat.blt_eq, h] at e; cases e
      rw [j.get_big t (Nat.le_of_not_lt this)]; rfl
  | const v => rfl
  | global g => rfl
  | func f => rfl

theorem jEvF_eq (n : Nat) (j : JF) : jEvF j = ev (toFr n j) := funext fun x => jEv_eq n x j

/-! ### Numbers and texts -/
abbrev FI := IntKind → Int → IntKind → Int → Option AV
abbrev FS := Nat → Nat → Nat → Nat → Option AV
def jMkN (s : Nat) (k : IntKind) : Option AV := Bool.rec (motive := fun _ => Nat → IntKind → Option AV) (fun s k => some (mkI k (fWrap k (.ofNat s)))) (fun s k => some (.v (.int k (.ofNat s)))) (Nat.blt s (kHalf k)) s k
theorem jMkN_eq (s : Nat) (k : IntKind) : jMkN s k = some (mkI k (wrapK k (.ofNat s))) := by
  unfold jMkN
  cases h : Nat.blt s (kHalf k) with
  | false => show some (mkI k (fWrap k _)) = _; rw [fWrap_eq]
  | true =>
    show some (AV.v (.int k (.ofNat s))) = _
    rw [mkI_eq]
    rw [kHalf_eq] at h
    have : wrapK k (.ofNat s) = .ofNat s := by
      unfold wrapK
      cases hs : isSigned k with
      | true => simp only [h, cond_true]
      | false =>
        simp only
        have h2 : s < bitsHalf k := by rw [Nat.blt_eq] at h; exact h
        have : Nat.mod s (2 * bitsHalf k) = s := Nat.mod_eq_of_lt (by omega)
        rw [this]
    rw [this]
def jAddPP (b : Int) : Nat → IntKind → Option AV := Int.rec (motive := fun _ => Nat → IntKind → Option AV) (fun n m k => jMkN (Nat.add m n) k) (fun n m k => some (mkI k (fWrap k (fSubN m (Nat.succ n))))) b
def jAddP (a : Int) : Int → IntKind → Option AV := Int.rec (motive := fun _ => Int → IntKind → Option AV) (fun m b k => jAddPP b m k) (fun m b k => some (mkI k (fWrap k (fAddM b m)))) a
def jSubB (b : Bool) : Nat → Nat → IntKind → Option AV := Bool.rec (motive := fun _ => Nat → Nat → IntKind → Option AV) (fun m n k => some (mkI k (fWrap k (fSubN m n)))) (fun m n k => jMkN (Nat.sub m n) k) b
def jSubPP (b : Int) : Nat → IntKind → Option AV := Int.rec (motive := fun _ => Nat → IntKind → Option AV) (fun n m k => jSubB (Nat.ble n m) m n k) (fun n m k => jMkN (Nat.succ (Nat.add m n)) k) b
def jSubP (a : Int) : Int → IntKind → Option AV := Int.rec (motive := fun _ => Int → IntKind → Option AV) (fun m b k => jSubPP b m k) (fun m b k => some (mkI k (fWrap k (fAdd (.negSucc m) (fNeg b))))) a
theorem jAddP_eq (a b : Int) (k : IntKind) : jAddP a b k = some (mkI k (wrapK k (a + b))) := by
  rw [← fAdd_eq]
  cases a with
  | ofNat m => cases b with
    | ofNat n => exact jMkN_eq _ _
    | negSucc n => rw [← fWrap_eq]; rfl
  | negSucc m => rw [← fWrap_eq]; rfl
theorem jSubP_eq (a b : Int) (k : IntKind) : jSubP a b k = some (mkI k (wrapK k (a - b))) := by
  rw [← fSub_eq]
  cases a with
  | ofNat m => cases b with
    | ofNat n =>
      show jSubB (Nat.ble n m) m n k = some (mkI k (wrapK k (fSubN m n)))
      cases h : Nat.ble n m with
      | true =>
        have e : fSubN m n = .ofNat (Nat.sub m n) := by unfold fSubN; rw [h]; rfl
        rw [e]; exact jMkN_eq _ _
      | false => show some (mkI k (fWrap k (fSubN m n))) = _; rw [fWrap_eq]
    | negSucc n => exact jMkN_eq _ _
  | negSucc m => rw [← fWrap_eq]; rfl

def jK (b : Bool) (f : Int → Int → IntKind → Option AV) : Int → Int → IntKind → Option AV := Bool.rec (motive := fun _ => (Int → Int → IntKind → Option AV) → Int → Int → IntKind → Option AV) (fun _ _ _ _ => none) (fun f a b k => f a b k) b f
def jT (b : Bool) : Option AV := Bool.rec (motive := fun _ => Option AV) (some (.v (.bool false))) (some (.v (.bool true))) b
theorem jT_eq (b : Bool) : jT b = some (mkBool b) := by cases b <;> rfl
def jEqI : Int → Int → IntKind → Option AV := fun a b _ => jT (fEq a b)
def jNeI : Int → Int → IntKind → Option AV := fun a b _ => jT (fNot (fEq a b))
def jLtI : Int → Int → IntKind → Option AV := fun a b _ => jT (fNot (fLe b a))
def jLeI : Int → Int → IntKind → Option AV := fun a b _ => jT (fLe a b)
def jGtI : Int → Int → IntKind → Option AV := fun a b _ => jT (fNot (fLe a b))
def jGeI : Int → Int → IntKind → Option AV := fun a b _ => jT (fLe b a)
def fiAdd : FI := fun k a k' b => jK (kEq k k') jAddP a b k
def fiSub : FI := fun k a k' b => jK (kEq k k') jSubP a b k
def fiEql : FI := fun k a k' b => jK (kEq k k') jEqI a b k
def fiNeq : FI := fun k a k' b => jK (kEq k k') jNeI a b k
def fiLss : FI := fun k a k' b => jK (kEq k k') jLtI a b k
def fiLeq : FI := fun k a k' b => jK (kEq k k') jLeI a b k
def fiGtr : FI := fun k a k' b => jK (kEq k k') jGtI a b k
def fiGeq : FI := fun k a k' b => jK (kEq k k') jGeI a b k
theorem jK_eq (b : Bool) (f : Int → Int → IntKind → Option AV) (x y : Int) (k : IntKind) : jK b f x y k = bif b then f x y k else none := by cases b <;> rfl
def jSEq2 (b : Bool) : Nat → Nat → Nat → Bool := Bool.rec (motive := fun _ => Nat → Nat → Nat → Bool) (fun _ _ _ => false) (fun n c c' => Nat.beq (Nat.mod c (Nat.pow 256 n)) (Nat.mod c' (Nat.pow 256 n))) b
def jSEq (n c n' c' : Nat) : Bool := jSEq2 (Nat.beq n n') n c c'
theorem jSEq_eq (n c n' c' : Nat) : jSEq n c n' c' = strEq n c n' c' := by
  unfold jSEq strEq
  cases h : Nat.beq n n' with
  | false => rfl
  | true => have := Nat.eq_of_beq_eq_true h; subst this; rfl
def fsEql : FS := fun n c n' c' => jT (jSEq n c n' c')
def fsNeq : FS := fun n c n' c' => jT (fNot (jSEq n c n' c'))

def jBinI2 (y : Value) : IntKind → Int → FI → Option AV → Option AV := Value.rec (motive_1 := fun _ => IntKind → Int → FI → Option AV → Option AV) (motive_2 := fun _ => Unit) (motive_3 := fun _ => Unit) (fun _ _ _ _ r => r) (fun k' m k n fi _ => fi k n k' m) (fun _ _ _ _ _ r => r) (fun _ _ _ _ _ _ r => r) (fun _ _ _ _ r => r) (fun _ _ _ _ r => r) (fun _ _ _ _ _ _ r => r) (fun _ _ _ _ r => r) (fun _ _ _ _ r => r) (fun _ _ _ _ _ _ _ _ r => r) (fun  _ _ _ r => r) (fun _ _ _ _ _ _ r => r) (fun  _ _ _ r => r) (fun _ _ _ _ _ r => r) (fun _ _ _ _ _ r => r) (fun _ _ => ()) () (fun _ _ _ _ => ()) y
def jBinI (b : AV) : IntKind → Int → FI → Option AV → Option AV := AV.rec (motive_1 := fun _ => IntKind → Int → FI → Option AV → Option AV) (motive_2 := fun _ => Unit) (fun y k n fi r => jBinI2 y k n fi r) (fun _ _ _ _ _ r => r) (fun _ _ _ _ _ r => r) (fun _ _ _ _ _ _ _ _ _ r => r) (fun _ _ _ _ r => r) (fun _ _ _ _ _ _ _ _ r => r) (fun _ _ _ _ _ _ r => r) (fun _ _ _ _ r => r) (fun _ _ _ _ _ r => r) (fun _ _ _ _ _ r => r) () (fun _ _ _ _ => ()) b
def jBin3 (x : Value) : AV → FI → Option AV → Option AV := Value.rec (motive_1 := fun _ => AV → FI → Option AV → Option AV) (motive_2 := fun _ => Unit) (motive_3 := fun _ => Unit) (fun _ _ _ r => r) (fun k n b fi r => jBinI b k n fi r) (fun _ _ _ _ r => r) (fun _ _ _ _ _ r => r) (fun _ _ _ r => r) (fun _ _ _ r => r) (fun _ _ _ _ _ r => r) (fun _ _ _ r => r) (fun _ _ _ r => r) (fun _ _ _ _ _ _ _ r => r) (fun  _ _ r => r) (fun _ _ _ _ _ r => r) (fun  _ _ r => r) (fun _ _ _ _ r => r) (fun _ _ _ _ r => r) (fun _ _ => ()) () (fun _ _ _ _ => ()) x
def jBinS (b : AV) : Nat → Nat → FS → Option AV → Option AV := AV.rec (motive_1 := fun _ => Nat → Nat → FS → Option AV → Option AV) (motive_2 := fun _ => Unit) (fun _ _ _ _ r => r) (fun n' c' n c fs _ => fs n c n' c') (fun _ _ _ _ _ r => r) (fun _ _ _ _ _ _ _ _ _ r => r) (fun _ _ _ _ r => r) (fun _ _ _ _ _ _ _ _ r => r) (fun _ _ _ _ _ _ r => r) (fun _ _ _ _ r => r) (fun _ _ _ _ _ r => r) (fun _ _ _ _ _ r => r) () (fun _ _ _ _ => ()) b
def jBin2 (a : AV) : AV → FI → FS → Option AV → Option AV := AV.rec (motive_1 := fun _ => AV → FI → FS → Option AV → Option AV) (motive_2 := fun _ => Unit) (fun x b fi _ r => jBin3 x b fi r) (fun n c b _ fs r => jBinS b n c fs r) (fun _ _ _ _ _ r => r) (fun _ _ _ _ _ _ _ _ _ r => r) (fun _ _ _ _ r => r) (fun _ _ _ _ _ _ _ _ r => r) (fun _ _ _ _ _ _ r => r) (fun _ _ _ _ r => r) (fun _ _ _ _ _ r => r) (fun _ _ _ _ _ r => r) () (fun _ _ _ _ => ()) a
def jBin1 (o : Option AV) : AV → FI → FS → (AV → AV → Option AV) → Option AV := Option.rec (motive := fun _ => AV → FI → FS → (AV → AV → Option AV) → Option AV) (fun _ _ _ _ => none) (fun b a fi fs g => jBin2 a b fi fs (g a b)) o
def jBin (o : Option AV) : Option AV → FI → FS → (AV → AV → Option AV) → Option AV := Option.rec (motive := fun _ => Option AV → FI → FS → (AV → AV → Option AV) → Option AV) (fun _ _ _ _ => none) (fun a o fi fs g => jBin1 o a fi fs g) o
theorem jBin2_eq {P : Program} {op : BinOp} {t : TypeId} {x y : Operand} {fi : FI} {fs : FS} (h1 : ∀ k a k' b, fi k a k' b = binI op k a k' b) (h2 : ∀ n c n' c', fs n c n' c' = binS op n c n' c') (a b : AV) :
    jBin2 a b fi fs (binX P op t x y a b) = binX P op t x y a b := by
  cases a with
  | v u =>
    cases u with
    | int k n =>
      cases b with
      | v z =>
        cases z with
        | int k' m => exact (h1 _ _ _ _).trans rfl
        | _ => rfl
      | _ => rfl
    | _ => rfl
  | str n c =>
    cases b with
    | str n' c' => exact (h2 _ _ _ _).trans rfl
    | _ => rfl
  | _ => rfl
inductive JS where
  | mk (f : JF → St → Option AV)
def JS.run (s : JS) : JF → St → Option AV := JS.rec (motive := fun _ => JF → St → Option AV) (fun f => f) s
def mkBin (P : Program) (op : BinOp) (t : TypeId) (x y : Operand) (fi : FI) (fs : FS) : JS := .mk fun j _ => jBin (jEv x j) (jEv y j) fi fs (fun a b => binX P op t x y a b)
theorem mkBin_eq {P : Program} {G : Glob} {op : BinOp} {t u : TypeId} {x y : Operand} {fi : FI} {fs : FS} (h1 : ∀ k a k' b, fi k a k' b = binI op k a k' b) (h2 : ∀ n c n' c', fs n c n' c' = binS op n c n' c') (j : JF) (st : St) :
    (mkBin P op t x y fi fs).run j st = sil P G (jEvF j) st (.binOp op t x y u) := by
  show jBin (jEv x j) (jEv y j) fi fs (fun a b => binX P op t x y a b) = (match jEv x j, jEv y j with | some a, some b => binX P op t x y a b | _, _ => none)
  cases jEv x j with
  | none => rfl
  | some a => cases jEv y j with
    | none => rfl
    | some b => exact jBin2_eq h1 h2 a b

def cBin (op : BinOp) : Program → TypeId → Operand → Operand → JS := BinOp.rec (motive := fun _ => Program → TypeId → Operand → Operand → JS)
  (fun P t x y => mkBin P .add t x y fiAdd (fun n c n' c' => binS .add n c n' c'))
  (fun P t x y => mkBin P .sub t x y fiSub (fun n c n' c' => binS .sub n c n' c'))
  (fun P t x y => mkBin P .mul t x y (fun k a k' b => binI .mul k a k' b) (fun n c n' c' => binS .mul n c n' c'))
  (fun P t x y => mkBin P .quo t x y (fun k a k' b => binI .quo k a k' b) (fun n c n' c' => binS .quo n c n' c'))
  (fun P t x y => mkBin P .rem t x y (fun k a k' b => binI .rem k a k' b) (fun n c n' c' => binS .rem n c n' c'))
  (fun P t x y => mkBin P .and t x y (fun k a k' b => binI .and k a k' b) (fun n c n' c' => binS .and n c n' c'))
  (fun P t x y => mkBin P .or t x y (fun k a k' b => binI .or k a k' b) (fun n c n' c' => binS .or n c n' c'))
  (fun P t x y => mkBin P .xor t x y (fun k a k' b => binI .xor k a k' b) (fun n c n' c' => binS .xor n c n' c'))
  (fun P t x y => mkBin P .shl t x y (fun k a k' b => binI .shl k a k' b) (fun n c n' c' => binS .shl n c n' c'))
  (fun P t x y => mkBin P .shr t x y (fun k a k' b => binI .shr k a k' b) (fun n c n' c' => binS .shr n c n' c'))
  (fun P t x y => mkBin P .andNot t x y (fun k a k' b => binI .andNot k a k' b) (fun n c n' c' => binS .andNot n c n' c'))
  (fun P t x y => mkBin P .eql t x y fiEql fsEql)
  (fun P t x y => mkBin P .neq t x y fiNeq fsNeq)
  (fun P t x y => mkBin P .lss t x y fiLss (fun n c n' c' => binS .lss n c n' c'))
  (fun P t x y => mkBin P .leq t x y fiLeq (fun n c n' c' => binS .leq n c n' c'))
  (fun P t x y => mkBin P .gtr t x y fiGtr (fun n c n' c' => binS .gtr n c n' c'))
  (fun P t x y => mkBin P .geq t x y fiGeq (fun n c n' c' => binS .geq n c n' c'))
  op
theorem fi_eq : (∀ k a k' b, fiAdd k a k' b = binI .add k a k' b) ∧ (∀ k a k' b, fiSub k a k' b = binI .sub k a k' b) ∧ (∀ k a k' b, fiEql k a k' b = binI .eql k a k' b) ∧
    (∀ k a k' b, fiNeq k a k' b = binI .neq k a k' b) ∧ (∀ k a k' b, fiLss k a k' b = binI .lss k a k' b) ∧ (∀ k a k' b, fiLeq k a k' b = binI .leq k a k' b) ∧
    (∀ k a k' b, fiGtr k a k' b = binI .gtr k a k' b) ∧ (∀ k a k' b, fiGeq k a k' b = binI .geq k a k' b) := by
  refine ⟨?_, ?_, ?_, ?_, ?_, ?_, ?_, ?_⟩ <;> intro k a k' b <;> rw [← fBinI_eq]
  · show jK (kEq k k') jAddP a b k = fI (kEq k k') k (fWrap k (fAdd a b))
    rw [jK_eq, fI_eq, jAddP_eq, fWrap_eq, fAdd_eq]
  · show jK (kEq k k') jSubP a b k = fI (kEq k k') k (fWrap k (fSub a b))
    rw [jK_eq, fI_eq, jSubP_eq, fWrap_eq, fSub_eq]
  all_goals
    simp only [fiEql, fiNeq, fiLss, fiLeq, fiGtr, fiGeq, jK_eq, jEqI, jNeI, jLtI, jLeI, jGtI, jGeI, jT_eq, fBinI, fT_eq]
theorem fs_eq : (∀ n c n' c', fsEql n c n' c' = binS .eql n c n' c') ∧ (∀ n c n' c', fsNeq n c n' c' = binS .neq n c n' c') := by
  refine ⟨?_, ?_⟩ <;> intro n c n' c'
  · simp only [fsEql, jT_eq, jSEq_eq, binS]
  · simp only [fsNeq, jT_eq, jSEq_eq, binS, fNot_eq]
theorem cBin_eq (op : BinOp) (P : Program) (G : Glob) (t u : TypeId) (x y : Operand) (j : JF) (st : St) : (cBin op P t x y).run j st = sil P G (jEvF j) st (.binOp op t x y u) := by
  obtain ⟨h1, h2, h3, h4, h5, h6, h7, h8⟩ := fi_eq
  cases op
  · exact mkBin_eq h1 (fun _ _ _ _ => rfl) j st
  · exact mkBin_eq h2 (fun _ _ _ _ => rfl) j st
  · exact mkBin_eq (fun _ _ _ _ => rfl) (fun _ _ _ _ => rfl) j st
  · exact mkBin_eq (fun _ _ _ _ => rfl) (fun _ _ _ _ => rfl) j st
  · exact mkBin_eq (fun _ _ _ _ => rfl) (fun _ _ _ _ => rfl) j st
  · exact mkBin_eq (fun _ _ _ _ => rfl) (fun _ _ _ _ => rfl) j st
  · exact mkBin_eq (fun _ _ _ _ => rfl) (fun _ _ _ _ => rfl) j st
  · exact mkBin_eq (fun _ _ _ _ => rfl) (fun _ _ _ _ => rfl) j st
  · exact mkBin_eq (fun _ _ _ _ => rfl) (fun _ _ _ _ => rfl) j st
  · exact mkBin_eq (fun _ _ _ _ => rfl) (fun _ _ _ _ => rfl) j st
  · exact mkBin_eq (fun _ _ _ _ => rfl) (fun _ _ _ _ => rfl) j st
  · exact mkBin_eq h3 fs_eq.1 j st
  · exact mkBin_eq h4 fs_eq.2 j st
  · exact mkBin_eq h5 (fun _ _ _ _ => rfl) j st
  · exact mkBin_eq h6 (fun _ _ _ _ => rfl) j st
  · exact mkBin_eq h7 (fun _ _ _ _ => rfl) j st
  · exact mkBin_eq h8 (fun _ _ _ _ => rfl) j st

/-! ### Reading the memory -/
def jLdO (o : Option AO) : Nat → Option AV := Option.rec (motive := fun _ => Nat → Option AV) (fun _ => none) (fun o => AO.rec (motive := fun _ => Nat → Option AV)
  (fun d _ _ _ _ _ off => fGet d off) (fun _ _ => none) (fun _ _ _ _ => none) (fun _ _ _ _ _ _ _ => none) (fun _ => none) (fun _ => none) o) o
def jLdNO (o : Option AO) : Nat → Nat → Option AV := Option.rec (motive := fun _ => Nat → Nat → Option AV) (fun _ _ => none) (fun o => AO.rec (motive := fun _ => Nat → Nat → Option AV)
  (fun d _ _ _ _ _ off n => fAggO (fRd n d off)) (fun _ _ _ => none) (fun _ _ _ _ _ => none) (fun _ _ _ _ _ _ _ _ => none) (fun _ _ => none) (fun _ _ => none) o) o

def jLd1 (a : AV) : St → (AV → St → Option AV) → Option AV := AV.rec (motive_1 := fun _ => St → (AV → St → Option AV) → Option AV) (motive_2 := fun _ => Unit) (fun x st g => g (.v x) st) (fun _ _ _ _ => none) (fun b off st _ => jLdO (fGet st.hp b) off) (fun _ _ _ _ _ _ _ _ => none) (fun _ _ _ => none) (fun _ _ _ _ _ _ _ => none) (fun _ _ _ _ _ => none) (fun _ _ _ => none) (fun _ _ _ _ => none) (fun _ _ _ _ => none) () (fun _ _ _ _ => ()) a
def jLdN (a : AV) : Nat → St → (AV → St → Option AV) → Option AV := AV.rec (motive_1 := fun _ => Nat → St → (AV → St → Option AV) → Option AV) (motive_2 := fun _ => Unit) (fun x _ st g => g (.v x) st) (fun _ _ _ _ _ => none) (fun b off n st _ => jLdNO (fGet st.hp b) off n) (fun _ _ _ _ _ _ _ _ _ => none) (fun _ _ _ _ => none) (fun _ _ _ _ _ _ _ _ => none) (fun _ _ _ _ _ _ => none) (fun _ _ _ _ => none) (fun _ _ _ _ _ => none) (fun _ _ _ _ _ => none) () (fun _ _ _ _ => ()) a
def jLd1O (o : Option AV) : St → (AV → St → Option AV) → Option AV := Option.rec (motive := fun _ => St → (AV → St → Option AV) → Option AV) (fun _ _ => none) (fun a st g => jLd1 a st g) o
def jLdNO2 (o : Option AV) : Nat → St → (AV → St → Option AV) → Option AV := Option.rec (motive := fun _ => Nat → St → (AV → St → Option AV) → Option AV) (fun _ _ _ => none) (fun a n st g => jLdN a n st g) o
def cLoad (P : Program) (G : Glob) (t : TypeId) (x : Operand) : JS := Option.rec (motive := fun _ => JS) (.mk fun j st => sil P G (jEvF j) st (.load t x))
  (fun b => Bool.rec (motive := fun _ => JS) (.mk fun j st => jLd1O (jEv x j) st (fun a st => loadX P G t a st))
    (Option.rec (motive := fun _ => JS) (.mk fun j st => sil P G (jEvF j) st (.load t x)) (fun n => .mk fun j st => jLdNO2 (jEv x j) n st (fun a st => loadX P G t a st)) (szX P t)) b) (isAggX P t)
theorem cLoad_eq (P : Program) (G : Glob) (t : TypeId) (x : Operand) (j : JF) (st : St) : (cLoad P G t x).run j st = sil P G (jEvF j) st (.load t x) := by
  unfold cLoad
  cases ha : isAggX P t with
  | none => rfl
  | some b =>
    cases b with
    | false =>
      show jLd1O (jEv x j) st (fun a st => loadX P G t a st) = (match jEv x j with | some a => loadX P G t a st | none => none)
      cases jEv x j with
      | none => rfl
      | some a =>
        cases a with
        | v u => rfl
        | ptr b off =>
          show jLdO (fGet st.hp b) off = loadX P G t (.ptr b off) st
          rw [fGet_eq]
          simp only [loadX, ha]
          cases st.hp.get b with
          | none => rfl
          | some o => cases o <;> first | rfl | exact fGet_eq _ _
        | _ => rfl
    | true =>
      cases hs : szX P t with
      | none => rfl
      | some n =>
        show jLdNO2 (jEv x j) n st (fun a st => loadX P G t a st) = (match jEv x j with | some a => loadX P G t a st | none => none)
        cases jEv x j with
        | none => rfl
        | some a =>
          cases a with
          | v u => rfl
          | ptr b off =>
            show jLdNO (fGet st.hp b) off n = loadX P G t (.ptr b off) st
            rw [fGet_eq]
            simp only [loadX, ha, hs]
            cases st.hp.get b with
            | none => rfl
            | some o =>
              cases o with
              | row d _ _ _ _ _ =>
                show fAggO (fRd n d off) = (match rd d off n with | some l => some (.agg l) | none => none)
                rw [fRd_eq]
                cases rd d off n <;> rfl
              | _ => rfl
          | _ => rfl

/-! ### Addresses -/

def jFA (a : AV) : Nat → (AV → Option AV) → Option AV := AV.rec (motive_1 := fun _ => Nat → (AV → Option AV) → Option AV) (motive_2 := fun _ => Unit) (fun x _ g => g (.v x)) (fun _ _ _ _ => none) (fun b off fo _ => some (.ptr b (Nat.add off fo))) (fun _ _ _ _ _ _ _ _ => none) (fun _ _ _ => none) (fun _ _ _ _ _ _ _ => none) (fun _ _ _ _ _ => none) (fun _ _ _ => none) (fun _ _ _ _ => none) (fun _ _ _ _ => none) () (fun _ _ _ _ => ()) a
def jFAO (o : Option AV) : Nat → (AV → Option AV) → Option AV := Option.rec (motive := fun _ => Nat → (AV → Option AV) → Option AV) (fun _ _ => none) (fun a fo g => jFA a fo g) o
def cFieldA (P : Program) (G : Glob) (s : TypeId) (x : Operand) (f : Nat) : JS := Option.rec (motive := fun _ => JS) (.mk fun j st => sil P G (jEvF j) st (.fieldAddr s x f))
  (fun fd => Option.rec (motive := fun _ => JS) (.mk fun j st => sil P G (jEvF j) st (.fieldAddr s x f))
    (fun n => Nat.rec (motive := fun _ => JS) (.mk fun j st => sil P G (jEvF j) st (.fieldAddr s x f)) (fun _ _ => .mk fun j _ => jFAO (jEv x j) fd.offset (fun a => fieldAddrX P s a f)) n) (szX P fd.type)) (fldOf P s f)
theorem cFieldA_eq (P : Program) (G : Glob) (s : TypeId) (x : Operand) (f : Nat) (j : JF) (st : St) : (cFieldA P G s x f).run j st = sil P G (jEvF j) st (.fieldAddr s x f) := by
  unfold cFieldA
  cases hf : fldOf P s f with
  | none => rfl
  | some fd =>
    cases hs : szX P fd.type with
    | none => simp only [hs]; rfl
    | some n =>
      cases n with
      | zero => simp only [hs]; rfl
      | succ n =>
        simp only [hs]
        show jFAO (jEv x j) fd.offset (fun a => fieldAddrX P s a f) = (match jEv x j with | some a => fieldAddrX P s a f | none => none)
        cases jEv x j with
        | none => rfl
        | some a =>
          have hu : ∃ fs, P.underlying s = some (.struct fs) ∧ fs[f]? = some fd := by
            unfold fldOf at hf
            split at hf
            · rename_i fs h; exact ⟨fs, h, hf⟩
            · cases hf
          obtain ⟨fs, h1, h2⟩ := hu
          cases a with
          | v u => rfl
          | ptr b off =>
            show some (AV.ptr b (Nat.add off fd.offset)) = fieldAddrX P s (.ptr b off) f
            simp only [fieldAddrX, h1, h2, hs]
            show some (AV.ptr b (off + fd.offset)) = _
            cases off + fd.offset <;> rfl
          | _ => simp only [fieldAddrX, h1, h2, hs]; rfl
/-- An index's number. -/

def jIxI (n : Int) : Option Nat := Int.rec (motive := fun _ => Option Nat) (fun m => some m) (fun _ => none) n
def jIxV (v : Value) : Option Nat := Value.rec (motive_1 := fun _ => Option Nat) (motive_2 := fun _ => Unit) (motive_3 := fun _ => Unit) (fun _ => none) (fun _ n => jIxI n) (fun _ _ => none) (fun _ _ _ => none) (fun _ => none) (fun _ => none) (fun _ _ _ => none) (fun _ => none) (fun _ => none) (fun _ _ _ _ _ => none) none (fun _ _ _ => none) none (fun _ _ => none) (fun _ _ => none) (fun _ _ => ()) () (fun _ _ _ _ => ()) v
def jIx (a : AV) : Option Nat := AV.rec (motive_1 := fun _ => Option Nat) (motive_2 := fun _ => Unit) (fun x => jIxV x) (fun _ _ => none) (fun _ _ => none) (fun _ _ _ _ _ _ => none) (fun _ => none) (fun _ _ _ _ _ => none) (fun _ _ _ => none) (fun _ => none) (fun _ _ => none) (fun _ _ => none) () (fun _ _ _ _ => ()) a
def jIxO (o : Option AV) : Option Nat := Option.rec (motive := fun _ => Option Nat) none (fun a => jIx a) o
theorem jIx_eq (a : AV) : jIx a = idxOf a := by
  cases a with
  | v x => cases x with
    | int k n => cases n <;> rfl
    | _ => rfl
  | _ => rfl
def jIA3 (b : Bool) : Nat → Nat → Nat → Nat → Option AV := Bool.rec (motive := fun _ => Nat → Nat → Nat → Nat → Option AV) (fun _ _ _ _ => none) (fun b off i s => some (.ptr b (Nat.add off (Nat.mul i s)))) b

def jIA2 (a : AV) : Nat → Nat → Option AV := AV.rec (motive_1 := fun _ => Nat → Nat → Option AV) (motive_2 := fun _ => Unit) (fun _ _ _ => none) (fun _ _ _ _ => none) (fun _ _ _ _ => none) (fun b off len _ _ _ i s => jIA3 (Nat.blt i len) b off i s) (fun _ _ _ => none) (fun _ _ _ _ _ _ _ => none) (fun _ _ _ _ _ => none) (fun _ _ _ => none) (fun _ _ _ _ => none) (fun _ _ _ _ => none) () (fun _ _ _ _ => ()) a
def jIA1 (o : Option Nat) : AV → Nat → Option AV := Option.rec (motive := fun _ => AV → Nat → Option AV) (fun _ _ => none) (fun i a s => jIA2 a i s) o
def jIA (o : Option AV) : Option Nat → Nat → Option AV := Option.rec (motive := fun _ => Option Nat → Nat → Option AV) (fun _ _ => none) (fun a i s => jIA1 i a s) o
/-- The size of a slice's elements. -/
def slSz (P : Program) (t : TypeId) : Option Nat := match P.underlying t with
  | some (.slice el) => szX P el
  | _ => none
def cIndexA (P : Program) (G : Glob) (t : TypeId) (x i : Operand) : JS := Option.rec (motive := fun _ => JS) (.mk fun j st => sil P G (jEvF j) st (.indexAddr t x i))
  (fun s => .mk fun j _ => jIA (jEv x j) (jIxO (jEv i j)) s) (slSz P t)
theorem cIndexA_eq (P : Program) (G : Glob) (t : TypeId) (x i : Operand) (j : JF) (st : St) : (cIndexA P G t x i).run j st = sil P G (jEvF j) st (.indexAddr t x i) := by
  unfold cIndexA
  cases hs : slSz P t with
  | none => rfl
  | some s =>
    have hu : ∃ el, P.underlying t = some (.slice el) ∧ szX P el = some s := by
      unfold slSz at hs
      split at hs
      · rename_i el h; exact ⟨el, h, hs⟩
      · cases hs
    obtain ⟨el, h1, h2⟩ := hu
    show jIA (jEv x j) (jIxO (jEv i j)) s = (match jEv x j, jEv i j with | some a, some b => indexAddrX P t a b | _, _ => none)
    cases jEv x j with
    | none => rfl
    | some a =>
      cases jEv i j with
      | none => rfl
      | some b =>
        show jIA1 (jIx b) a s = indexAddrX P t a b
        rw [jIx_eq]
        unfold indexAddrX
        cases idxOf b with
        | none => rfl
        | some i =>
          simp only [h1, h2]
          cases a with
          | sl b off len lo ex es =>
            show jIA3 (Nat.blt i len) b off i s = _
            simp only
            cases Nat.blt i len with
            | false => rfl
            | true =>
              show some (AV.ptr b (off + i * s)) = _
              simp only [cond_true]
              cases off + i * s <;> rfl
          | _ => rfl
def jXS2 (b : Bool) : Nat → Nat → Option AV := Bool.rec (motive := fun _ => Nat → Nat → Option AV) (fun _ _ => none) (fun c i => some (.v (.int .u8 (.ofNat (Nat.mod (Nat.div c (Nat.pow 256 i)) 256))))) b

def jXS1 (a : AV) : Nat → Option AV → Option AV := AV.rec (motive_1 := fun _ => Nat → Option AV → Option AV) (motive_2 := fun _ => Unit) (fun _ _ r => r) (fun n c i _ => jXS2 (Nat.blt i n) c i) (fun _ _ _ r => r) (fun _ _ _ _ _ _ _ r => r) (fun _ _ r => r) (fun _ _ _ _ _ _ r => r) (fun _ _ _ _ r => r) (fun _ _ r => r) (fun _ _ _ r => r) (fun _ _ _ r => r) () (fun _ _ _ _ => ()) a
def jXSO (o : Option Nat) : AV → Option AV → Option AV := Option.rec (motive := fun _ => AV → Option AV → Option AV) (fun _ r => r) (fun i a r => jXS1 a i r) o
def jXS (o : Option AV) : Option AV → (AV → AV → Option AV) → Option AV := Option.rec (motive := fun _ => Option AV → (AV → AV → Option AV) → Option AV) (fun _ _ => none)
  (fun a o g => Option.rec (motive := fun _ => AV → (AV → AV → Option AV) → Option AV) (fun _ _ => none) (fun b a g => jXSO (jIx b) a (g a b)) o a g) o
def isStr (P : Program) (t : TypeId) : Bool := match P.underlying t with
  | some .string => true
  | _ => false
def cIndex (P : Program) (G : Glob) (t : TypeId) (x i : Operand) : JS := Bool.rec (motive := fun _ => JS) (.mk fun j st => sil P G (jEvF j) st (.index t x i))
  (.mk fun j _ => jXS (jEv x j) (jEv i j) (fun a b => indexX P t a b)) (isStr P t)
theorem cIndex_eq (P : Program) (G : Glob) (t : TypeId) (x i : Operand) (j : JF) (st : St) : (cIndex P G t x i).run j st = sil P G (jEvF j) st (.index t x i) := by
  unfold cIndex
  cases hs : isStr P t with
  | false => rfl
  | true =>
    have hu : P.underlying t = some .string := by
      unfold isStr at hs
      split at hs
      · assumption
      · cases hs
    show jXS (jEv x j) (jEv i j) (fun a b => indexX P t a b) = (match jEv x j, jEv i j with | some a, some b => indexX P t a b | _, _ => none)
    cases jEv x j with
    | none => rfl
    | some a =>
      cases jEv i j with
      | none => rfl
      | some b =>
        show jXSO (jIx b) a (indexX P t a b) = indexX P t a b
        rw [jIx_eq]
        cases h : idxOf b with
        | none => rfl
        | some i =>
          show jXS1 a i (indexX P t a b) = _
          cases a with
          | str n c =>
            show jXS2 (Nat.blt i n) c i = _
            simp only [indexX, h, hu]
            cases Nat.blt i n with
            | false => rfl
            | true => simp only [cond_true, mkI_eq]; rfl
          | _ => rfl

/-! ### Others -/
def jPick (o : Option Bool) : JF → GF → GF → Option AV := Option.rec (motive := fun _ => JF → GF → GF → Option AV) (fun _ _ _ => none) (fun b j x y => Bool.rec (motive := fun _ => JF → GF → GF → Option AV) (fun j _ y => GF.run y j) (fun j x _ => GF.run x j) b j x y) o

def jBoV (v : Value) : Option Bool := Value.rec (motive_1 := fun _ => Option Bool) (motive_2 := fun _ => Unit) (motive_3 := fun _ => Unit) (fun b => some b) (fun _ _ => none) (fun _ _ => none) (fun _ _ _ => none) (fun _ => none) (fun _ => none) (fun _ _ _ => none) (fun _ => none) (fun _ => none) (fun _ _ _ _ _ => none) none (fun _ _ _ => none) none (fun _ _ => none) (fun _ _ => none) (fun _ _ => ()) () (fun _ _ _ _ => ()) v
def jBoA (a : AV) : Option Bool := AV.rec (motive_1 := fun _ => Option Bool) (motive_2 := fun _ => Unit) (fun x => jBoV x) (fun _ _ => none) (fun _ _ => none) (fun _ _ _ _ _ _ => none) (fun _ => none) (fun _ _ _ _ _ => none) (fun _ _ _ => none) (fun _ => none) (fun _ _ => none) (fun _ _ => none) () (fun _ _ _ _ => ()) a
def jBo (o : Option AV) : Option Bool := Option.rec (motive := fun _ => Option Bool) none (fun a => jBoA a) o
theorem jBo_eq (o : Option AV) : jBo o = toBo o := by
  cases o with
  | none => rfl
  | some a => cases a with
    | v x => cases x <;> rfl
    | _ => rfl

def jNcP (o : Option Addr) : Option AV := Option.rec (motive := fun _ => Option AV) none (fun a => some (.v (.pointer (some a)))) o
def jNcV (v : Value) : Option AV := Value.rec (motive_1 := fun _ => Option AV) (motive_2 := fun _ => Unit) (motive_3 := fun _ => Unit) (fun _ => none) (fun _ _ => none) (fun _ _ => none) (fun _ _ _ => none) (fun _ => none) (fun a => jNcP a) (fun _ _ _ => none) (fun _ => none) (fun _ => none) (fun _ _ _ _ _ => none) none (fun _ _ _ => none) none (fun _ _ => none) (fun _ _ => none) (fun _ _ => ()) () (fun _ _ _ _ => ()) v
def jNc (a : AV) : Option AV := AV.rec (motive_1 := fun _ => Option AV) (motive_2 := fun _ => Unit) (fun x => jNcV x) (fun _ _ => none) (fun b o => some (.ptr b o)) (fun _ _ _ _ _ _ => none) (fun _ => none) (fun f i c _ _ => some (.fn f i c)) (fun _ _ _ => none) (fun _ => none) (fun _ _ => none) (fun _ _ => none) () (fun _ _ _ _ => ()) a
def jNcO (o : Option AV) : Option AV := Option.rec (motive := fun _ => Option AV) none (fun a => jNc a) o
def fNil (o : Option AV) : Option AV := match o with
    | some (.ptr b o) => some (.ptr b o)
    | some (.fn f i c) => some (.fn f i c)
    | some (.v (.pointer (some a))) => some (.v (.pointer (some a)))
    | _ => none
def fExtr (o : Option AV) (i : Nat) : Option AV := match o with
  | some (.tup l) => nth l i
  | _ => none

theorem jNcO_eq (o : Option AV) : jNcO o = fNil o := by
  cases o with
  | none => rfl
  | some a => cases a with
    | v x => cases x with
      | pointer a => cases a <;> rfl
      | _ => rfl
    | _ => rfl

def jExA (a : AV) : Nat → Option AV := AV.rec (motive_1 := fun _ => Nat → Option AV) (motive_2 := fun _ => Unit) (fun _ _ => none) (fun _ _ _ => none) (fun _ _ _ => none) (fun _ _ _ _ _ _ _ => none) (fun _ _ => none) (fun _ _ _ _ _ _ => none) (fun _ _ _ _ => none) (fun _ _ => none) (fun _ _ _ => none) (fun l _ i => nth l i) () (fun _ _ _ _ => ()) a
def jEx (o : Option AV) : Nat → Option AV := Option.rec (motive := fun _ => Nat → Option AV) (fun _ => none) (fun a i => jExA a i) o
theorem jEx_eq (o : Option AV) (i : Nat) : jEx o i = fExtr o i := by
  cases o with
  | none => rfl
  | some a => cases a <;> rfl
def jNotV (v : Value) : Option AV → Option AV := Value.rec (motive_1 := fun _ => Option AV → Option AV) (motive_2 := fun _ => Unit) (motive_3 := fun _ => Unit) (fun b _ => jT (fNot b)) (fun _ _ r => r) (fun _ _ r => r) (fun _ _ _ r => r) (fun _ r => r) (fun _ r => r) (fun _ _ _ r => r) (fun _ r => r) (fun _ r => r) (fun _ _ _ _ _ r => r) (fun  r => r) (fun _ _ _ r => r) (fun  r => r) (fun _ _ r => r) (fun _ _ r => r) (fun _ _ => ()) () (fun _ _ _ _ => ()) v
def jNotA (a : AV) : Option AV → Option AV := AV.rec (motive_1 := fun _ => Option AV → Option AV) (motive_2 := fun _ => Unit) (fun x r => jNotV x r) (fun _ _ r => r) (fun _ _ r => r) (fun _ _ _ _ _ _ r => r) (fun _ r => r) (fun _ _ _ _ _ r => r) (fun _ _ _ r => r) (fun _ r => r) (fun _ _ r => r) (fun _ _ r => r) () (fun _ _ _ _ => ()) a
def jNotO (o : Option AV) : (AV → Option AV) → Option AV := Option.rec (motive := fun _ => (AV → Option AV) → Option AV) (fun _ => none) (fun a g => jNotA a (g a)) o
def cUn (P : Program) (G : Glob) (op : UnOp) (t : TypeId) (x : Operand) : JS := match op with
  | .not => .mk fun j _ => jNotO (jEv x j) (fun a => unX P .not a)
  | op => .mk fun j st => sil P G (jEvF j) st (.unOp op t x)
theorem cUn_eq (P : Program) (G : Glob) (op : UnOp) (t : TypeId) (x : Operand) (j : JF) (st : St) : (cUn P G op t x).run j st = sil P G (jEvF j) st (.unOp op t x) := by
  unfold cUn
  split
  · show jNotO (jEv x j) (fun a => unX P .not a) = (match jEv x j with | some a => unX P .not a | none => none)
    cases jEv x j with
    | none => rfl
    | some a =>
      show jNotA a (unX P .not a) = _
      cases a with
      | v u => cases u with
        | bool b => cases b <;> rfl
        | _ => rfl
      | _ => rfl
  · rfl

def jCvI (n : Int) : IntKind → Option AV := Int.rec (motive := fun _ => IntKind → Option AV) (fun m k => jMkN m k) (fun m k => some (mkI k (fWrap k (.negSucc m)))) n
def jCvV (v : Value) : IntKind → Option AV → Option AV := Value.rec (motive_1 := fun _ => IntKind → Option AV → Option AV) (motive_2 := fun _ => Unit) (motive_3 := fun _ => Unit) (fun _ _ r => r) (fun _ n k _ => jCvI n k) (fun _ _ _ r => r) (fun _ _ _ _ r => r) (fun _ _ r => r) (fun _ _ r => r) (fun _ _ _ _ r => r) (fun _ _ r => r) (fun _ _ r => r) (fun _ _ _ _ _ _ r => r) (fun  _ r => r) (fun _ _ _ _ r => r) (fun  _ r => r) (fun _ _ _ r => r) (fun _ _ _ r => r) (fun _ _ => ()) () (fun _ _ _ _ => ()) v
def jCvA (a : AV) : IntKind → Option AV → Option AV := AV.rec (motive_1 := fun _ => IntKind → Option AV → Option AV) (motive_2 := fun _ => Unit) (fun x k r => jCvV x k r) (fun _ _ _ r => r) (fun _ _ _ r => r) (fun _ _ _ _ _ _ _ r => r) (fun _ _ r => r) (fun _ _ _ _ _ _ r => r) (fun _ _ _ _ r => r) (fun _ _ r => r) (fun _ _ _ r => r) (fun _ _ _ r => r) () (fun _ _ _ _ => ()) a
def jCvO (o : Option AV) : IntKind → (AV → Option AV) → Option AV := Option.rec (motive := fun _ => IntKind → (AV → Option AV) → Option AV) (fun _ _ => none) (fun a k g => jCvA a k (g a)) o
def cvKind (P : Program) (s d : TypeId) : Option IntKind := match P.underlying s, P.underlying d with
  | some _, some (.int k) => some k
  | _, _ => none
def cConv (P : Program) (G : Glob) (s d : TypeId) (x : Operand) : JS := Option.rec (motive := fun _ => JS) (.mk fun j st => sil P G (jEvF j) st (.convert s d x))
  (fun k => .mk fun j st => jCvO (jEv x j) k (fun a => convX P s d a st)) (cvKind P s d)
theorem cConv_eq (P : Program) (G : Glob) (s d : TypeId) (x : Operand) (j : JF) (st : St) : (cConv P G s d x).run j st = sil P G (jEvF j) st (.convert s d x) := by
  unfold cConv
  cases hk : cvKind P s d with
  | none => rfl
  | some k =>
    have hu : ∃ u, P.underlying s = some u ∧ P.underlying d = some (.int k) := by
      unfold cvKind at hk
      split at hk
      · rename_i u k' h1 h2; cases hk; exact ⟨u, h1, h2⟩
      · cases hk
    obtain ⟨u, h1, h2⟩ := hu
    show jCvO (jEv x j) k (fun a => convX P s d a st) = (match jEv x j with | some a => convX P s d a st | none => none)
    cases jEv x j with
    | none => rfl
    | some a =>
      show jCvA a k (convX P s d a st) = _
      cases a with
      | v z => cases z with
        | int k' n =>
          show jCvI n k = _
          simp only [convX, h1, h2]
          cases n with
          | ofNat m => exact jMkN_eq m k
          | negSucc m => show some (mkI k (fWrap k _)) = _; rw [fWrap_eq]
        | _ => rfl
      | _ => rfl

/-! ### Lengths -/

def jLenA (a : AV) : Option AV → Option AV := AV.rec (motive_1 := fun _ => Option AV → Option AV) (motive_2 := fun _ => Unit) (fun _ r => r) (fun n _ _ => some (.v (.int .i64 (.ofNat n)))) (fun _ _ r => r) (fun _ _ _ _ _ _ r => r) (fun _ r => r) (fun _ _ _ _ _ r => r) (fun _ _ _ r => r) (fun _ r => r) (fun _ _ r => r) (fun _ _ r => r) () (fun _ _ _ _ => ()) a
def jLenB (a : AV) : Option AV → Option AV := AV.rec (motive_1 := fun _ => Option AV → Option AV) (motive_2 := fun _ => Unit) (fun _ r => r) (fun _ _ r => r) (fun _ _ r => r) (fun _ _ n _ _ _ _ => some (.v (.int .i64 (.ofNat n)))) (fun _ r => r) (fun _ _ _ _ _ r => r) (fun _ _ _ r => r) (fun _ r => r) (fun _ _ r => r) (fun _ _ r => r) () (fun _ _ _ _ => ()) a
def jLenS (o : Option AV) : (AV → Option AV) → Option AV := Option.rec (motive := fun _ => (AV → Option AV) → Option AV) (fun _ => none) (fun a g => jLenA a (g a)) o
def jLenL (o : Option AV) : (AV → Option AV) → Option AV := Option.rec (motive := fun _ => (AV → Option AV) → Option AV) (fun _ => none) (fun a g => jLenB a (g a)) o
def cLen (P : Program) (t : TypeId) (x : Operand) : JS := match P.underlying t with
  | some .string => .mk fun j st => jLenS (jEv x j) (fun a => lenX P t a st)
  | some (.slice _) => .mk fun j st => jLenL (jEv x j) (fun a => lenX P t a st)
  | _ => .mk fun j st => (match jEv x j with | some a => lenX P t a st | none => none)
theorem cLen_eq (P : Program) (t : TypeId) (x : Operand) (j : JF) (st : St) : (cLen P t x).run j st = (match jEv x j with | some a => lenX P t a st | none => none) := by
  unfold cLen
  split
  · rename_i hu
    show jLenS (jEv x j) (fun a => lenX P t a st) = _
    cases jEv x j with
    | none => rfl
    | some a =>
      show jLenA a (lenX P t a st) = lenX P t a st
      cases a with
      | str n c => simp only [lenX, hu, mkN_eq]; rfl
      | _ => rfl
  · rename_i hu
    show jLenL (jEv x j) (fun a => lenX P t a st) = _
    cases jEv x j with
    | none => rfl
    | some a =>
      show jLenB a (lenX P t a st) = lenX P t a st
      cases a with
      | sl b off n lo ex es => simp only [lenX, hu, mkN_eq]; rfl
      | _ => rfl
  · rfl
def cCallS (P : Program) (G : Glob) (c : Call) : JS := match c with
  | ⟨.builtin .len, ⟨[x]⟩, ⟨[t]⟩⟩ => cLen P t x
  | c => .mk fun j st => sil P G (jEvF j) st (.call c)
theorem cCallS_eq (P : Program) (G : Glob) (c : Call) (j : JF) (st : St) : (cCallS P G c).run j st = sil P G (jEvF j) st (.call c) := by
  unfold cCallS
  split
  · rename_i x t; exact cLen_eq P t x j st
  · rfl

/-! ### Silent operations -/

def cSil (op : Op) : Program → Glob → JS := Op.rec (motive := fun _ => Program → Glob → JS)
  (fun x _ _ => .mk fun j _ => jEv x j)
  (fun x _ _ => .mk fun j _ => jEv x j)
  (fun c a b _ _ => .mk fun j _ => jPick (jBo (jEv c j)) j (cOpd a) (cOpd b))
  (fun t P G => .mk fun j st => sil P G (jEvF j) st (.alloc t))
  (fun t x P G => .mk fun j st => sil P G (jEvF j) st (.box t x))
  (fun t ps P G => .mk fun j st => sil P G (jEvF j) st (.build t ps))
  (fun t n ps P G => .mk fun j st => sil P G (jEvF j) st (.buildSlice t n ps))
  (fun t m k v P G => .mk fun j st => sil P G (jEvF j) st (.insert t m k v))
  (fun t a P G => cLoad P G t a)
  (fun t a v P G => .mk fun j st => sil P G (jEvF j) st (.store t a v))
  (fun g P G => .mk fun j st => sil P G (jEvF j) st (.ready g))
  (fun g P G => .mk fun j st => sil P G (jEvF j) st (.waits g))
  (fun x _ _ => .mk fun j _ => jNcO (jEv x j))
  (fun op t x y _ P _ => cBin op P t x y)
  (fun op t x P G => cUn P G op t x)
  (fun s d x P G => cConv P G s d x)
  (fun d x P G => .mk fun j st => sil P G (jEvF j) st (.sliceToArrayPointer d x))
  (fun t x P G => .mk fun j st => sil P G (jEvF j) st (.makeInterface t x))
  (fun f i c P G => .mk fun j st => sil P G (jEvF j) st (.makeFunc f i c))
  (fun t r P G => .mk fun j st => sil P G (jEvF j) st (.makeMap t r))
  (fun t s P G => .mk fun j st => sil P G (jEvF j) st (.makeChan t s))
  (fun t l c P G => .mk fun j st => sil P G (jEvF j) st (.makeSlice t l c))
  (fun t x l h m P G => .mk fun j st => sil P G (jEvF j) st (.slice t x l h m))
  (fun t x f P G => cFieldA P G t x f)
  (fun t x f P G => .mk fun j st => sil P G (jEvF j) st (.field t x f))
  (fun t x i P G => cIndexA P G t x i)
  (fun t x i P G => cIndex P G t x i)
  (fun t x i ok P G => .mk fun j st => sil P G (jEvF j) st (.lookup t x i ok))
  (fun t m k v P G => .mk fun j st => sil P G (jEvF j) st (.mapUpdate t m k v))
  (fun t m k P G => .mk fun j st => sil P G (jEvF j) st (.mapEntry t m k))
  (fun t m s v P G => .mk fun j st => sil P G (jEvF j) st (.entryStore t m s v))
  (fun t x P G => .mk fun j st => sil P G (jEvF j) st (.range t x))
  (fun i s P G => .mk fun j st => sil P G (jEvF j) st (.next i s))
  (fun i P G => .mk fun j st => sil P G (jEvF j) st (.entry i))
  (fun x t a ok P G => .mk fun j st => sil P G (jEvF j) st (.typeAssert x t a ok))
  (fun t i _ _ => .mk fun j _ => jEx (jEv t j) i)
  (fun c P G => cCallS P G c)
  (fun c P G => .mk fun j st => sil P G (jEvF j) st (.go c))
  (fun c P G => .mk fun j st => sil P G (jEvF j) st (.defer c))
  (fun x P G => .mk fun j st => sil P G (jEvF j) st (.panic x))
  (fun c x P G => .mk fun j st => sil P G (jEvF j) st (.send c x))
  (fun t c ok P G => .mk fun j st => sil P G (jEvF j) st (.recv t c ok))
  (fun cs b P G => .mk fun j st => sil P G (jEvF j) st (.select cs b))
  op
theorem cSil_eq (op : Op) (P : Program) (G : Glob) (j : JF) (st : St) : (cSil op P G).run j st = sil P G (jEvF j) st op := by
  cases op with
  | pick c a b => 
    show jPick (jBo (jEv c j)) j (cOpd a) (cOpd b) = (match jEv c j with | some (.v (.bool true)) => jEv a j | some (.v (.bool false)) => jEv b j | _ => none)
    rw [jBo_eq]
    cases jEv c j with
    | none => rfl
    | some z => cases z with
      | v u => cases u with
        | bool d => cases d <;> rfl
        | _ => rfl
      | _ => rfl
  | load t a => exact cLoad_eq P G t a j st
  | nilCheck x => exact jNcO_eq _
  | binOp op t x y u => exact cBin_eq op P G t u x y j st
  | unOp op t x => exact cUn_eq P G op t x j st
  | convert s d x => exact cConv_eq P G s d x j st
  | fieldAddr t x f => exact cFieldA_eq P G t x f j st
  | indexAddr t x i => exact cIndexA_eq P G t x i j st
  | index t x i => exact cIndex_eq P G t x i j st
  | extract t i => exact jEx_eq _ _
  | call c => exact cCallS_eq P G c j st
  | _ => rfl
end
end Go.Ax

/-
  AxJ3b: operations that change the memory, compiled.
-/
namespace Go.Ax
open Go
noncomputable section

inductive JL where
  | mk (f : JF → St → OR)
def JL.run (g : JL) : JF → St → OR := JL.rec (motive := fun _ => JF → St → OR) (fun f => f) g
inductive JM where
  | mk (f : JF → Option (AO × FK))
def JM.run (g : JM) : JF → Option (AO × FK) := JM.rec (motive := fun _ => JF → Option (AO × FK)) (fun f => f) g

/-! ### Stores -/

def jOneV (v : Value) : Bool := Value.rec (motive_1 := fun _ => Bool) (motive_2 := fun _ => Unit) (motive_3 := fun _ => Unit) (fun _ => true) (fun _ _ => true) (fun _ _ => true) (fun _ _ _ => true) (fun _ => true) (fun _ => true) (fun _ _ _ => true) (fun _ => true) (fun _ => true) (fun _ _ _ _ _ => true) true (fun _ _ _ => true) true (fun _ _ => false) (fun _ _ => false) (fun _ _ => ()) () (fun _ _ _ _ => ()) v
def jOne (a : AV) : Bool := AV.rec (motive_1 := fun _ => Bool) (motive_2 := fun _ => Unit) (fun x => jOneV x) (fun _ _ => true) (fun _ _ => true) (fun _ _ _ _ _ _ => true) (fun _ => true) (fun _ _ _ _ _ => true) (fun _ _ _ => true) (fun _ => true) (fun _ _ => false) (fun _ _ => false) () (fun _ _ _ _ => ()) a
theorem jOne_eq (a : AV) : jOne a = a.one := by
  cases a with
  | v x => cases x <;> rfl
  | _ => rfl
def jKill (hp : Tr AO) (m : Nat) : Tr AO := Nat.rec (motive := fun _ => Tr AO) hp (fun k _ => fSet hp k .dead) m
theorem jKill_eq (hp : Tr AO) (m : Nat) : jKill hp m = kill hp m := by
  cases m with
  | zero => rfl
  | succ k => exact fSet_eq _ _ _
/-- A memory. -/
def jSt2 (hp : Tr AO) : Nat → OR := Tr.rec (motive := fun _ => Nat → OR) (fun _ => .bad) (fun x l r _ _ n => Nat.rec (motive := fun _ => OR) .bad (fun k _ => .val U ⟨Nat.succ k, .n x l r⟩) n) hp
theorem jSt2_eq (hp : Tr AO) (n : Nat) : jSt2 hp n = strict ⟨n, hp⟩ fun st => .val U st := by
  cases hp with
  | e => rfl
  | n a b c => cases n <;> rfl
def jStB (b : Bool) : Tr AV → Nat → TypeId → Bool → Nat → Nat → Nat → Nat → AV → St → OR := Bool.rec (motive := fun _ => Tr AV → Nat → TypeId → Bool → Nat → Nat → Nat → Nat → AV → St → OR) (fun _ _ _ _ _ _ _ _ _ _ => .bad)
  (fun d n el ex fz mate b off v st => jSt2 (fSet (jKill st.hp mate) b (.row (fSet d off v) n el ex fz 0)) st.nxt) b
def jStA (b : Bool) : Bool → Bool := Bool.rec (motive := fun _ => Bool → Bool) (fun _ => false) (fun c => c) b
def jStR (o : Option AO) : Nat → Nat → AV → St → OR := Option.rec (motive := fun _ => Nat → Nat → AV → St → OR) (fun _ _ _ _ => .bad)
  (fun o => AO.rec (motive := fun _ => Nat → Nat → AV → St → OR) (fun d n el ex fz mate b off v st => jStB (jStA (Nat.ble (Nat.sub fz 2) off) (Nat.ble (Nat.succ off) n)) d n el ex fz mate b off v st)
    (fun _ _ _ _ _ => .bad) (fun _ _ _ _ _ _ _ => .bad) (fun _ _ _ _ _ _ _ _ _ _ => .bad) (fun _ _ _ _ => .bad) (fun _ _ _ _ => .bad) o) o
def jStV (b : Bool) : Nat → Nat → AV → St → OR → OR := Bool.rec (motive := fun _ => Nat → Nat → AV → St → OR → OR) (fun _ _ _ _ r => r) (fun b off v st _ => jStR (fGet st.hp b) b off v st) b

def jStP (a : AV) : AV → St → OR → OR := AV.rec (motive_1 := fun _ => AV → St → OR → OR) (motive_2 := fun _ => Unit) (fun _ _ _ r => r) (fun _ _ _ _ r => r) (fun b off v st r => jStV (jOne v) b off v st r) (fun _ _ _ _ _ _ _ _ r => r) (fun _ _ _ r => r) (fun _ _ _ _ _ _ _ r => r) (fun _ _ _ _ _ r => r) (fun _ _ _ r => r) (fun _ _ _ _ r => r) (fun _ _ _ _ r => r) () (fun _ _ _ _ => ()) a
def jStO2 (o : Option AV) : AV → St → (AV → AV → OR) → OR := Option.rec (motive := fun _ => AV → St → (AV → AV → OR) → OR) (fun _ _ _ => .bad) (fun v a st g => jStP a v st (g a v)) o
def jStO (o : Option AV) : Option AV → St → (AV → AV → OR) → OR := Option.rec (motive := fun _ => Option AV → St → (AV → AV → OR) → OR) (fun _ _ _ => .bad) (fun a o st g => jStO2 o a st g) o
def storeX (P : Program) (t : TypeId) (st : St) (a v : AV) : OR := match a, v with
  | .ptr b off, v => (match cellsX v, szX P t with
      | some l, some n => bif Nat.beq (len l) n then (match storeC st b off l with | some st => strict st fun st => .val U st | none => .bad) else .bad
      | _, _ => .bad)
  | _, _ => .bad
theorem storeX_eq (P : Program) (t : TypeId) (st : St) (x y : Operand) (j : JF) : loud P (jEvF j) st (.store t x y) = (match jEv x j, jEv y j with | some a, some v => storeX P t st a v | _, _ => .bad) := by
  show (match jEv x j, jEv y j with
    | some (.ptr b off), some v => (match cellsX v, szX P t with
      | some l, some n => bif Nat.beq (len l) n then (match storeC st b off l with | some st => strict st fun st => .val U st | none => .bad) else .bad
      | _, _ => .bad)
    | _, _ => OR.bad) = _
  cases jEv x j with
  | none => rfl
  | some a => cases jEv y j with
    | none => cases a <;> rfl
    | some v => cases a <;> rfl
def cStore (P : Program) (t : TypeId) (x y : Operand) : JL := match szX P t with
  | some 1 => .mk fun j st => jStO (jEv x j) (jEv y j) st (fun a v => storeX P t st a v)
  | _ => .mk fun j st => loud P (jEvF j) st (.store t x y)
theorem cStore_eq (P : Program) (t : TypeId) (x y : Operand) (j : JF) (st : St) : (cStore P t x y).run j st = loud P (jEvF j) st (.store t x y) := by
  unfold cStore
  split
  · rename_i hs
    rw [storeX_eq]
    show jStO (jEv x j) (jEv y j) st (fun a v => storeX P t st a v) = _
    cases jEv x j with
    | none => rfl
    | some a => cases jEv y j with
      | none => rfl
      | some v =>
        show jStP a v st (storeX P t st a v) = storeX P t st a v
        cases a with
        | ptr b off =>
          show jStV (jOne v) b off v st (storeX P t st (.ptr b off) v) = _
          rw [jOne_eq]
          cases ho : v.one with
          | false => rfl
          | true =>
            have hc : cellsX v = some [v] := by
              cases v with
              | agg l => cases ho
              | _ => simp only [cellsX, ho, cond_true]
            show jStR (fGet st.hp b) b off v st = _
            simp only [storeX, hc, hs]
            show _ = (match storeC st b off [v] with | some st => strict st fun st => OR.val U st | none => .bad)
            unfold storeC
            rw [fGet_eq]
            cases st.hp.get b with
            | none => rfl
            | some ob =>
              cases ob with
              | row d n el ex fz mate =>
                show jStB (jStA (Nat.ble (Nat.sub fz 2) off) (Nat.ble (Nat.succ off) n)) d n el ex fz mate b off v st = _
                simp only [allOne, ho, Bool.true_and, wr]
                obtain ⟨p, q, s, hset⟩ := Tr.set_ne d off v
                rw [show fz - 2 = Nat.sub fz 2 from rfl]
                cases Nat.ble (Nat.sub fz 2) off with
                | false => rfl
                | true =>
                  simp only [hset, cond_true]
                  rw [show off + len [v] = Nat.succ off from rfl]
                  cases Nat.ble (Nat.succ off) n with
                  | false => rfl
                  | true =>
                    show jSt2 (fSet (jKill st.hp mate) b (.row (fSet d off v) n el ex fz 0)) st.nxt = _
                    rw [jSt2_eq, jKill_eq, fSet_eq, fSet_eq, hset]
                    rfl
              | _ => rfl
        | _ => rfl
  · rfl

/-! ### Maps with texts as keys -/

def jFE (k : AV) : AV → Option (Option AV) → Nat → Nat → Option (Option AV) := AV.rec (motive_1 := fun _ => AV → Option (Option AV) → Nat → Nat → Option (Option AV)) (motive_2 := fun _ => Unit) (fun _ _ _ _ _ => none) (fun n' c' v r n c => Bool.rec (motive := fun _ => AV → Option (Option AV) → Option (Option AV)) (fun _ r => r) (fun v _ => some (some v)) (jSEq n c n' c') v r) (fun _ _ _ _ _ _ => none) (fun _ _ _ _ _ _ _ _ _ _ => none) (fun _ _ _ _ _ => none) (fun _ _ _ _ _ _ _ _ _ => none) (fun _ _ _ _ _ _ _ => none) (fun _ _ _ _ _ => none) (fun _ _ _ _ _ _ => none) (fun _ _ _ _ _ _ => none) () (fun _ _ _ _ => ()) k
def jFind (es : List (AV × AV)) : Nat → Nat → Option (Option AV) := List.rec (motive := fun _ => Nat → Nat → Option (Option AV)) (fun _ _ => some none)
  (fun e _ ih n c => jFE e.1 e.2 (ih n c) n c) es
theorem jFind_eq (n c : Nat) : ∀ (es : List (AV × AV)), jFind es n c = findE (.str n c) es
  | [] => rfl
  | (k, v) :: l => by
    show jFE k v (jFind l n c) n c = _
    rw [jFind_eq n c l]
    cases k with
    | str n' c' =>
      simp only [findE]
      show Bool.rec (motive := fun _ => AV → Option (Option AV) → Option (Option AV)) (fun _ r => r) (fun v _ => some (some v)) (jSEq n c n' c') v (findE (.str n c) l) = _
      rw [jSEq_eq]
      cases strEq n c n' c' <;> rfl
    | v x => cases x <;> rfl
    | _ => rfl

def jSEk (k : AV) : AV → AV → List (AV × AV) → List (AV × AV) → Nat → Nat → List (AV × AV) := AV.rec (motive_1 := fun _ => AV → AV → List (AV × AV) → List (AV × AV) → Nat → Nat → List (AV × AV)) (motive_2 := fun _ => Unit) (fun p0 _ v' _ r _ _ => (.v p0, v') :: r) (fun n' c' v v' l r n c => Bool.rec (motive := fun _ => List (AV × AV)) ((.str n' c', v') :: r) ((.str n' c', v) :: l) (jSEq n c n' c')) (fun p0 p1 _ v' _ r _ _ => (.ptr p0 p1, v') :: r) (fun p0 p1 p2 p3 p4 p5 _ v' _ r _ _ => (.sl p0 p1 p2 p3 p4 p5, v') :: r) (fun p0 _ v' _ r _ _ => (.map p0, v') :: r) (fun p0 p1 p2 _ _ _ v' _ r _ _ => (.fn p0 p1 p2, v') :: r) (fun p0 p1 _ _ v' _ r _ _ => (.ifc p0 p1, v') :: r) (fun p0 _ v' _ r _ _ => (.yld p0, v') :: r) (fun p0 _ _ v' _ r _ _ => (.agg p0, v') :: r) (fun p0 _ _ v' _ r _ _ => (.tup p0, v') :: r) () (fun _ _ _ _ => ()) k
def jSetE (es : List (AV × AV)) : Nat → Nat → AV → List (AV × AV) := List.rec (motive := fun _ => Nat → Nat → AV → List (AV × AV)) (fun n c v => [(.str n c, v)])
  (fun e l ih n c v => jSEk e.1 v e.2 l (ih n c v) n c) es
theorem jSetE_eq (n c : Nat) (v : AV) : ∀ (es : List (AV × AV)), jSetE es n c v = setE (.str n c) v es
  | [] => rfl
  | (k, v') :: l => by
    show jSEk k v v' l (jSetE l n c v) n c = _
    rw [jSetE_eq n c v l]
    cases k with
    | str n' c' =>
      simp only [setE]
      show Bool.rec (motive := fun _ => List (AV × AV)) ((AV.str n' c', v') :: setE (.str n c) v l) ((.str n' c', v) :: l) (jSEq n c n' c') = _
      rw [jSEq_eq]
      cases strEq n c n' c' <;> rfl
    | v x => cases x <;> rfl
    | _ => rfl
def mpStr (P : Program) (t : TypeId) : Bool := match P.underlying t with
  | some (.map kt _) => (match P.underlying kt with | some .string => true | _ => false)
  | _ => false
def updX (P : Program) (t : TypeId) (st : St) (m k v : AV) : OR := match P.underlying t, m with
  | some (.map kt _), .map b => bif keyOk P kt k then
        (match st.hp.get b with
         | some (.map es) => (match findE k es with
           | some _ => strict ⟨st.nxt, st.hp.set b (.map (setE k v es))⟩ fun st => .val U st
           | none => .bad)
         | _ => .bad)
        else .bad
  | _, _ => .bad
def jUpF (o : Option (Option AV)) : List (AV × AV) → Nat → Nat → Nat → AV → St → OR := Option.rec (motive := fun _ => List (AV × AV) → Nat → Nat → Nat → AV → St → OR) (fun _ _ _ _ _ _ => .bad) (fun _ es b n c v st => jSt2 (fSet st.hp b (.map (jSetE es n c v))) st.nxt) o
def jUpR (o : Option AO) : Nat → Nat → Nat → AV → St → OR := Option.rec (motive := fun _ => Nat → Nat → Nat → AV → St → OR) (fun _ _ _ _ _ => .bad)
  (fun o => AO.rec (motive := fun _ => Nat → Nat → Nat → AV → St → OR) (fun _ _ _ _ _ _ _ _ _ _ _ => .bad) (fun es b n c v st => jUpF (jFind es n c) es b n c v st)
    (fun _ _ _ _ _ _ _ _ => .bad) (fun _ _ _ _ _ _ _ _ _ _ _ => .bad) (fun _ _ _ _ _ => .bad) (fun _ _ _ _ _ => .bad) o) o

def jUpK (k : AV) : Nat → AV → St → OR → OR := AV.rec (motive_1 := fun _ => Nat → AV → St → OR → OR) (motive_2 := fun _ => Unit) (fun _ _ _ _ r => r) (fun n c b v st _ => jUpR (fGet st.hp b) b n c v st) (fun _ _ _ _ _ r => r) (fun _ _ _ _ _ _ _ _ _ r => r) (fun _ _ _ _ r => r) (fun _ _ _ _ _ _ _ _ r => r) (fun _ _ _ _ _ _ r => r) (fun _ _ _ _ r => r) (fun _ _ _ _ _ r => r) (fun _ _ _ _ _ r => r) () (fun _ _ _ _ => ()) k
def jUpM (m : AV) : AV → AV → St → OR → OR := AV.rec (motive_1 := fun _ => AV → AV → St → OR → OR) (motive_2 := fun _ => Unit) (fun _ _ _ _ r => r) (fun _ _ _ _ _ r => r) (fun _ _ _ _ _ r => r) (fun _ _ _ _ _ _ _ _ _ r => r) (fun b k v st r => jUpK k b v st r) (fun _ _ _ _ _ _ _ _ r => r) (fun _ _ _ _ _ _ r => r) (fun _ _ _ _ r => r) (fun _ _ _ _ _ r => r) (fun _ _ _ _ _ r => r) () (fun _ _ _ _ => ()) m
def jUpO3 (o : Option AV) : AV → AV → St → (AV → AV → AV → OR) → OR := Option.rec (motive := fun _ => AV → AV → St → (AV → AV → AV → OR) → OR) (fun _ _ _ _ => .bad) (fun v m k st g => jUpM m k v st (g m k v)) o
def jUpO2 (o : Option AV) : AV → Option AV → St → (AV → AV → AV → OR) → OR := Option.rec (motive := fun _ => AV → Option AV → St → (AV → AV → AV → OR) → OR) (fun _ _ _ _ => .bad) (fun k m ov st g => jUpO3 ov m k st g) o
def jUpO (o : Option AV) : Option AV → Option AV → St → (AV → AV → AV → OR) → OR := Option.rec (motive := fun _ => Option AV → Option AV → St → (AV → AV → AV → OR) → OR) (fun _ _ _ _ => .bad) (fun m ok ov st g => jUpO2 ok m ov st g) o
theorem jUpM_eq (P : Program) (t : TypeId) (st : St) (ht : mpStr P t = true) (m k v : AV) : jUpM m k v st (updX P t st m k v) = updX P t st m k v := by
  unfold mpStr at ht
  split at ht
  · rename_i kt et hu
    split at ht
    · rename_i hk
      cases m with
      | map b =>
        cases k with
        | str n c =>
          show jUpR (fGet st.hp b) b n c v st = _
          simp only [updX, hu, keyOk, hk, cond_true]
          rw [fGet_eq]
          cases st.hp.get b with
          | none => rfl
          | some ob =>
            cases ob with
            | map es =>
              show jUpF (jFind es n c) es b n c v st = _
              rw [jFind_eq]
              simp only
              cases findE (.str n c) es with
              | none => rfl
              | some z =>
                show jSt2 (fSet st.hp b (.map (jSetE es n c v))) st.nxt = _
                rw [jSt2_eq, fSet_eq, jSetE_eq]
            | _ => rfl
        | _ => rfl
      | _ => rfl
    · cases ht
  · cases ht
theorem updX_eq (P : Program) (t : TypeId) (st : St) (x y z : Operand) (j : JF) : loud P (jEvF j) st (.mapUpdate t x y z) = (match jEv x j, jEv y j, jEv z j with | some m, some k, some v => updX P t st m k v | _, _, _ => .bad) := by
  show (match P.underlying t, jEv x j, jEv y j, jEv z j with
    | some (.map kt _), some (.map b), some k, some v => bif keyOk P kt k then
        (match st.hp.get b with
         | some (.map es) => (match findE k es with
           | some _ => strict ⟨st.nxt, st.hp.set b (.map (setE k v es))⟩ fun st => .val U st
           | none => .bad)
         | _ => .bad)
        else .bad
    | _, _, _, _ => OR.bad) = _
  unfold updX
  cases P.underlying t with
  | none => cases jEv x j <;> cases jEv y j <;> cases jEv z j <;> rfl
  | some u =>
    cases u <;> (cases jEv x j with
      | none => rfl
      | some m => cases jEv y j with
        | none => cases m <;> rfl
        | some k => cases jEv z j with
          | none => cases m <;> rfl
          | some v => cases m <;> rfl)
def cUpd (P : Program) (t : TypeId) (x y z : Operand) (r : JL) : JL := Bool.rec (motive := fun _ => JL) r (.mk fun j st => jUpO (jEv x j) (jEv y j) (jEv z j) st (fun m k v => updX P t st m k v)) (mpStr P t)
theorem cUpd_eq (P : Program) (t : TypeId) (x y z : Operand) (r : JL) (j : JF) (st : St) (hr : r.run j st = loud P (jEvF j) st (.mapUpdate t x y z)) : (cUpd P t x y z r).run j st = loud P (jEvF j) st (.mapUpdate t x y z) := by
  unfold cUpd
  cases ht : mpStr P t with
  | false => exact hr
  | true =>
    rw [updX_eq]
    show jUpO (jEv x j) (jEv y j) (jEv z j) st (fun m k v => updX P t st m k v) = _
    cases jEv x j with
    | none => rfl
    | some m => cases jEv y j with
      | none => rfl
      | some k => cases jEv z j with
        | none => rfl
        | some v => exact jUpM_eq P t st ht m k v

/-! ### Looking a key up -/
def lkZ (P : Program) (t : TypeId) : Option AV := match P.underlying t with
  | some (.map _ et) => zeroV P et
  | _ => none
def jLkV (ok : Bool) : AV → Bool → Option AV := Bool.rec (motive := fun _ => AV → Bool → Option AV) (fun v _ => some v) (fun v b => some (.tup [v, mkBool b])) ok
def jLkF (o : Option AV) : Option AV → Bool → Option AV := Option.rec (motive := fun _ => Option AV → Bool → Option AV) (fun z ok => Option.rec (motive := fun _ => Bool → Option AV) (fun _ => none) (fun v ok => jLkV ok v false) z ok) (fun v _ ok => jLkV ok v true) o
def jLkE (o : Option (Option AV)) : Option AV → Bool → Option AV := Option.rec (motive := fun _ => Option AV → Bool → Option AV) (fun _ _ => none) (fun o z ok => jLkF o z ok) o
def jLkR (o : Option AO) : Nat → Nat → Option AV → Bool → Option AV := Option.rec (motive := fun _ => Nat → Nat → Option AV → Bool → Option AV) (fun _ _ _ _ => none)
  (fun o => AO.rec (motive := fun _ => Nat → Nat → Option AV → Bool → Option AV) (fun _ _ _ _ _ _ _ _ _ _ => none) (fun es n c z ok => jLkE (jFind es n c) z ok)
    (fun _ _ _ _ _ _ _ => none) (fun _ _ _ _ _ _ _ _ _ _ => none) (fun _ _ _ _ => none) (fun _ _ _ _ => none) o) o

def jLkK (k : AV) : Nat → Option AV → Bool → St → Option AV → Option AV := AV.rec (motive_1 := fun _ => Nat → Option AV → Bool → St → Option AV → Option AV) (motive_2 := fun _ => Unit) (fun _ _ _ _ _ r => r) (fun n c b z ok st _ => jLkR (fGet st.hp b) n c z ok) (fun _ _ _ _ _ _ r => r) (fun _ _ _ _ _ _ _ _ _ _ r => r) (fun _ _ _ _ _ r => r) (fun _ _ _ _ _ _ _ _ _ r => r) (fun _ _ _ _ _ _ _ r => r) (fun _ _ _ _ _ r => r) (fun _ _ _ _ _ _ r => r) (fun _ _ _ _ _ _ r => r) () (fun _ _ _ _ => ()) k
def jLkM (m : AV) : AV → Option AV → Bool → St → Option AV → Option AV := AV.rec (motive_1 := fun _ => AV → Option AV → Bool → St → Option AV → Option AV) (motive_2 := fun _ => Unit) (fun _ _ _ _ _ r => r) (fun _ _ _ _ _ _ r => r) (fun _ _ _ _ _ _ r => r) (fun _ _ _ _ _ _ _ _ _ _ r => r) (fun b k z ok st r => jLkK k b z ok st r) (fun _ _ _ _ _ _ _ _ _ r => r) (fun _ _ _ _ _ _ _ r => r) (fun _ _ _ _ _ r => r) (fun _ _ _ _ _ _ r => r) (fun _ _ _ _ _ _ r => r) () (fun _ _ _ _ => ()) m
def jLkO2 (o : Option AV) : AV → Option AV → Bool → St → (AV → AV → Option AV) → Option AV := Option.rec (motive := fun _ => AV → Option AV → Bool → St → (AV → AV → Option AV) → Option AV) (fun _ _ _ _ _ => none) (fun k m z ok st g => jLkM m k z ok st (g m k)) o
def jLkO (o : Option AV) : Option AV → Option AV → Bool → St → (AV → AV → Option AV) → Option AV := Option.rec (motive := fun _ => Option AV → Option AV → Bool → St → (AV → AV → Option AV) → Option AV) (fun _ _ _ _ _ => none) (fun m o z ok st g => jLkO2 o m z ok st g) o
def cLookup (P : Program) (t : TypeId) (x y : Operand) (ok : Bool) (r : JS) : JS := Bool.rec (motive := fun _ => JS) r (.mk fun j st => jLkO (jEv x j) (jEv y j) (lkZ P t) ok st (fun m k => lookupX P t m k ok st)) (mpStr P t)
theorem jLkM_eq (P : Program) (t : TypeId) (ok : Bool) (st : St) (ht : mpStr P t = true) (m k : AV) : jLkM m k (lkZ P t) ok st (lookupX P t m k ok st) = lookupX P t m k ok st := by
  unfold mpStr at ht
  split at ht
  · rename_i kt et hu
    split at ht
    · rename_i hk
      cases m with
      | map b =>
        cases k with
        | str n c =>
          show jLkR (fGet st.hp b) n c (lkZ P t) ok = _
          simp only [lookupX, hu, keyOk, hk, cond_true, foundX, lkZ]
          rw [fGet_eq]
          cases st.hp.get b with
          | none => rfl
          | some ob =>
            cases ob with
            | map es =>
              show jLkE (jFind es n c) (zeroV P et) ok = _
              rw [jFind_eq]
              simp only
              cases findE (.str n c) es with
              | none => rfl
              | some z =>
                cases z with
                | none => cases zeroV P et with
                  | none => rfl
                  | some z => cases ok <;> rfl
                | some v => cases ok <;> rfl
            | _ => rfl
        | _ => rfl
      | _ => rfl
    · cases ht
  · cases ht
theorem cLookup_eq (P : Program) (G : Glob) (t : TypeId) (x y : Operand) (ok : Bool) (r : JS) (j : JF) (st : St) (hr : r.run j st = sil P G (jEvF j) st (.lookup t x y ok)) : (cLookup P t x y ok r).run j st = sil P G (jEvF j) st (.lookup t x y ok) := by
  unfold cLookup
  cases ht : mpStr P t with
  | false => exact hr
  | true =>
    show jLkO (jEv x j) (jEv y j) (lkZ P t) ok st (fun m k => lookupX P t m k ok st) = (match jEv x j, jEv y j with | some a, some b => lookupX P t a b ok st | _, _ => none)
    cases jEv x j with
    | none => rfl
    | some m => cases jEv y j with
      | none => rfl
      | some k => exact jLkM_eq P t ok st ht m k

/-! ### New objects -/
def cAlloc (P : Program) (t : TypeId) : Option (AO × FK) := match zeroX P t with | some z => some (rowOf t z true 0, .ptr) | none => none
def jBoxV (b : Bool) : AV → TypeId → Option (AO × FK) → Option (AO × FK) := Bool.rec (motive := fun _ => AV → TypeId → Option (AO × FK) → Option (AO × FK)) (fun _ _ r => r) (fun v t _ => some (.row (.n (some v) .e .e) 1 t true 0 0, .ptr)) b
def jBoxO (o : Option AV) : TypeId → (AV → Option (AO × FK)) → Option (AO × FK) := Option.rec (motive := fun _ => TypeId → (AV → Option (AO × FK)) → Option (AO × FK)) (fun _ _ => none) (fun v t g => jBoxV (jOne v) v t (g v)) o
def cBox (t : TypeId) (x : Operand) : JM := .mk fun j => jBoxO (jEv x j) t (fun a => match cellsX a with | some l => some (rowOf t l true 0, .ptr) | none => none)
theorem cBox_eq (P : Program) (t : TypeId) (x : Operand) (j : JF) : (cBox t x).run j = flt P (jEvF j) (.box t x) := by
  show jBoxO (jEv x j) t (fun a => match cellsX a with | some l => some (rowOf t l true 0, FK.ptr) | none => none) = (match jEv x j with
    | some a => (match cellsX a with | some l => some (rowOf t l true 0, FK.ptr) | none => none)
    | none => none)
  cases jEv x j with
  | none => rfl
  | some v =>
    show jBoxV (jOne v) v t (match cellsX v with | some l => some (rowOf t l true 0, FK.ptr) | none => none) = _
    rw [jOne_eq]
    cases ho : v.one with
    | false => rfl
    | true =>
      have hc : cellsX v = some [v] := by
        cases v with
        | agg l => cases ho
        | _ => simp only [cellsX, ho, cond_true]
      simp only [hc]
      rfl
end
end Go.Ax
