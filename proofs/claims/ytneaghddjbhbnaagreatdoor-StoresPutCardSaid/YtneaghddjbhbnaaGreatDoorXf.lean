/-
  AxJ4: the executor with compiled commands: commands.
-/
import Derived.Test.YtneaghddjbhbnaaGreatDoorXe
import Derived.Test.YtneaghddjbhbnaaGreatDoorXc
namespace Go.Ax
open Go
noncomputable section

inductive JRes where
  | ok (e : AX) (j : JF) (st : St)
  | ret (v : AV) (st : St)
  | bad
inductive JRec where
  | mk (it : It) (j : JF) (st : St) (val : AV) (obj : Nat)
inductive JCmd where
  | code (n : Nat) (c : Code)
  | ops (n : Nat) (all rest : List Oper)
  | quiet (n : Nat) (all : List Oper) (todo : List It)
  | draw (n : Nat) (all : List Oper) (todo : List It) (recs : List JRec) (dn ld : Nat)
  | call (g : Nat) (args : List AV)
  | enter (plain : Bool) (g : Nat) (args : List AV)
  | leave (n : Nat) (ds : List AD)
  | yield (b : Nat) (args : List AV)
abbrev RecJ := JCmd → JF → St → JRes
inductive JC where
  | mk (f : RecJ → JF → St → JRes)
def JC.run (c : JC) : RecJ → JF → St → JRes := JC.rec (motive := fun _ => RecJ → JF → St → JRes) (fun f => f) c
def jBad : JC := .mk fun _ _ _ => .bad

/-! ### Where a value goes -/
inductive CD where
  | bad
  | none
  | put (p : PF)
def cDst (n : Nat) (dst : Option Tmp) : CD := Option.rec (motive := fun _ => CD) .none (fun d => Bool.rec (motive := fun _ => CD) .bad (.put (putF d)) (and (Nat.blt d n) (Nat.blt d 256))) dst
def jNext (cd : CD) : AV → JF → RecJ → JCmd → St → JRes := CD.rec (motive := fun _ => AV → JF → RecJ → JCmd → St → JRes)
  (fun _ _ _ _ _ => .bad) (fun _ j rec c st => rec c j st) (fun p v j rec c st => rec c (PF.run p j v) st) cd
def jV (o : Option AV) : CD → JF → RecJ → JCmd → St → JRes := Option.rec (motive := fun _ => CD → JF → RecJ → JCmd → St → JRes)
  (fun _ _ _ _ _ => .bad) (fun v cd j rec c st => jNext cd v j rec c st) o

/-! ### Guards -/
inductive GB where
  | mk (f : JF → Option Bool)
def GB.run (g : GB) : JF → Option Bool := GB.rec (motive := fun _ => JF → Option Bool) (fun f => f) g
def jWantA (want : Bool) (o : Option AV) : Option Bool := match o with
  | some (.v (.bool b)) => some (match b, want with | true, true => true | false, false => true | _, _ => false)
  | some (.v (.tuple _)) => some false
  | _ => none
def cWant (all : List Oper) (j : Nat) (want : Bool) : GB := match nthO all j with
  | some g => (match g.dst with
    | some d => .mk fun jf => jWantA want (jEv (.tmp d) jf)
    | none => .mk fun _ => none)
  | none => .mk fun _ => none
def jW3 (b : Bool) : JC → JC → RecJ → JF → St → JRes := Bool.rec (motive := fun _ => JC → JC → RecJ → JF → St → JRes) (fun _ no rec j st => JC.run no rec j st) (fun yes _ rec j st => JC.run yes rec j st) b
def jW2 (o : Option Bool) : JC → JC → RecJ → JF → St → JRes := Option.rec (motive := fun _ => JC → JC → RecJ → JF → St → JRes) (fun _ _ _ _ _ => .bad) (fun b yes no rec j st => jW3 b yes no rec j st) o
/-- One or the other, by an operation's guard. -/
def cGuard (all : List Oper) (g : Option (Nat × Bool)) (yes no : JC) : JC := match g with
  | none => yes
  | some (j, want) => .mk fun rec jf st => jW2 (GB.run (cWant all j want) jf) yes no rec jf st

/-! ### Arguments -/
inductive AG where
  | mk (f : JF → Option (List AV))
def AG.run (g : AG) : JF → Option (List AV) := AG.rec (motive := fun _ => JF → Option (List AV)) (fun f => f) g
def jCons2 (o : Option (List AV)) : AV → Option (List AV) := Option.rec (motive := fun _ => AV → Option (List AV)) (fun _ => none) (fun l a => some (a :: l)) o
def jCons (o : Option AV) : Option (List AV) → Option (List AV) := Option.rec (motive := fun _ => Option (List AV) → Option (List AV)) (fun _ => none) (fun a l => jCons2 l a) o
def cArgs (l : List Operand) : AG := List.rec (motive := fun _ => AG) (.mk fun _ => some []) (fun x _ ih => .mk fun j => jCons (jEv x j) (AG.run ih j)) l

/-! ### Operations that change the memory -/
def cSilK (op : Op) (P : Program) (G : Glob) : JS := match op with
  | .lookup t x y ok => cLookup P t x y ok (cSil (.lookup t x y ok) P G)
  | op => cSil op P G
def jCallO (o : Option (List AV)) : Nat → OR := Option.rec (motive := fun _ => Nat → OR) (fun _ => .bad) (fun l g => .call g l) o
def jCallF (o : Option (List AV)) : Nat → List AV → List AV → OR := Option.rec (motive := fun _ => Nat → List AV → List AV → OR) (fun _ _ _ => .bad) (fun l g first cap => .call g (first ++ (l ++ cap))) o
def jCallY (o : Option (List AV)) : Nat → OR := Option.rec (motive := fun _ => Nat → OR) (fun _ => .bad) (fun l b => .yield b l) o
def jCallA (a : AV) : Option (List AV) → OR := AV.rec (motive_1 := fun _ => Option (List AV) → OR) (motive_2 := fun _ => Unit) (fun _ _ => .bad) (fun _ _ _ => .bad) (fun _ _ _ => .bad) (fun _ _ _ _ _ _ _ => .bad) (fun _ _ => .bad)
  (fun g first cap _ _ l => jCallF l g first cap) (fun _ _ _ _ => .bad) (fun b l => jCallY l b) (fun _ _ _ => .bad) (fun _ _ _ => .bad) () (fun _ _ _ _ => ()) a
def jCallV (o : Option AV) : Option (List AV) → OR := Option.rec (motive := fun _ => Option (List AV) → OR) (fun _ => .bad) (fun a l => jCallA a l) o
def cCallL (P : Program) (c : Call) : JL := match c with
  | ⟨.value (.func g), args, _⟩ => .mk fun j _ => jCallO (AG.run (cArgs args.toList) j) g
  | ⟨.value f, args, _⟩ => .mk fun j _ => jCallV (jEv f j) (AG.run (cArgs args.toList) j)
  | c => .mk fun j st => loud P (jEvF j) st (.call c)
def cLoud (P : Program) (op : Op) : JL := match op with
  | .call c => cCallL P c
  | .store t x y => cStore P t x y
  | .mapUpdate t x y z => cUpd P t x y z (.mk fun j st => loud P (jEvF j) st (.mapUpdate t x y z))
  | .insert t x y z => cUpd P t x y z (.mk fun j st => loud P (jEvF j) st (.mapUpdate t x y z))
  | op => .mk fun j st => loud P (jEvF j) st op
def cFlt (P : Program) (op : Op) : JM := match op with
  | .alloc t => .mk fun _ => cAlloc P t
  | .box t x => cBox t x
  | op => .mk fun j => flt P (jEvF j) op

def jRet (r : JRes) : CD → JF → RecJ → JCmd → JRes := JRes.rec (motive := fun _ => CD → JF → RecJ → JCmd → JRes) (fun _ _ _ _ _ _ _ => .bad) (fun v st cd j rec c => jNext cd v j rec c st) (fun _ _ _ _ => .bad) r
def jD2 (b : Bool) : CD → AD → JF → RecJ → JCmd → St → JRes := Bool.rec (motive := fun _ => CD → AD → JF → RecJ → JCmd → St → JRes) (fun cd d j rec c st => jNext cd U (jPush j d) rec c st) (fun _ _ _ _ _ _ => .bad) b
def jL (r : OR) : CD → JF → RecJ → JCmd → St → JRes := OR.rec (motive := fun _ => CD → JF → RecJ → JCmd → St → JRes) (fun _ _ _ _ _ => .bad)
  (fun v st cd j rec c _ => jNext cd v j rec c st)
  (fun g args cd j rec c st => jRet (rec (.call g args) j st) cd j rec c)
  (fun b args cd j rec c st => jRet (rec (.yield b args) j st) cd j rec c)
  (fun d cd j rec c st => jD2 (jRd j) cd d j rec c st) r
/-- The memory with a new object. -/
def jNew2 (hp : Tr AO) : Nat → Option St := Tr.rec (motive := fun _ => Nat → Option St) (fun _ => none) (fun x l r _ _ n => Nat.rec (motive := fun _ => Option St) none (fun k _ => some ⟨Nat.succ k, .n x l r⟩) n) hp
def jNew (st : St) (o : AO) : Option St := jNew2 (fSet st.hp st.nxt o) (Nat.succ st.nxt)
def jF2 (o : Option St) : AV → CD → JF → RecJ → JCmd → JRes := Option.rec (motive := fun _ => AV → CD → JF → RecJ → JCmd → JRes) (fun _ _ _ _ _ => .bad) (fun st v cd j rec c => jNext cd v j rec c st) o
def jFl (o : Option (AO × FK)) : CD → JF → RecJ → JCmd → St → JRes := Option.rec (motive := fun _ => CD → JF → RecJ → JCmd → St → JRes) (fun _ _ _ _ _ => .bad) (fun p cd j rec c st => jF2 (jNew st p.1) (p.2.at st.nxt) cd j rec c) o

def cOper (E : Env) (n : Nat) (all : List Oper) (o : Oper) (rest : List Oper) : JC :=
  cGuard all o.guard
    (Nat.rec (motive := fun _ => JC) (.mk fun rec j st => jV (JS.run (cSilK o.op E.P E.G) j st) (cDst n o.dst) j rec (.ops n all rest) st)
      (fun k _ => Nat.rec (motive := fun _ => JC) (.mk fun rec j st => jFl (JM.run (cFlt E.P o.op) j) (cDst n o.dst) j rec (.ops n all rest) st)
        (fun _ _ => .mk fun rec j st => jL (JL.run (cLoud E.P o.op) j st) (cDst n o.dst) j rec (.ops n all rest) st) k) (kindOf E.P o.op))
    (.mk fun rec j st => jNext (cDst n o.dst) U j rec (.ops n all rest) st)
def cOps (E : Env) (n : Nat) (all rest : List Oper) : JC := List.rec (motive := fun _ => JC) (.mk fun _ j st => .ok .normal j st) (fun o rest _ => cOper E n all o rest) rest

/-! ### Regions that draw their order -/
/-- In such an order, all may be carried out. -/
def mayAll : List It → Nat → Nat → Option Nat
  | [], dn, _ => some dn
  | t :: l, dn, ld => bif maySt t dn ld then mayAll l (orBit dn t.i) (ldOf t ld) else none
def quietIts : List It → Bool
  | [] => true
  | t :: l => Nat.beq t.kind 0 && quietIts l
def orderIts (its : List It) : List It := orderOf its (loudsOf its) 0 (loudsOf its)
/-- May the region be run as a quiet one? -/
def quietOk (all : List Oper) (its : List It) : Bool :=
  quietIts (orderIts its) && (match mayAll (orderIts its) 0 0 with | some dn => Nat.beq (Nat.add dn 1) (Nat.pow 2 all.length) | none => false)
def reflV (v : Value) : Bool := match v with
  | .int _ _ | .bool _ => true
  | x => avEq (.v x) (.v x)
def reflA (a : AV) : Bool := match a with
  | .v x => reflV x
  | .str _ _ | .ptr _ _ | .sl .. | .map _ => true
  | a => avEq a a
def jQ2 (b : Bool) : AV → CD → JF → RecJ → JCmd → St → JRes := Bool.rec (motive := fun _ => AV → CD → JF → RecJ → JCmd → St → JRes) (fun _ _ _ _ _ _ => .bad) (fun v cd j rec c st => jNext cd v j rec c st) b
def jQ (o : Option AV) : CD → JF → RecJ → JCmd → St → JRes := Option.rec (motive := fun _ => CD → JF → RecJ → JCmd → St → JRes)
  (fun _ _ _ _ _ => .bad) (fun v cd j rec c st => jQ2 (reflA v) v cd j rec c st) o
def cQuiet1 (E : Env) (n : Nat) (all : List Oper) (o : Oper) (rest : List It) : JC :=
  cGuard all o.guard
    (Bool.rec (motive := fun _ => JC) (.mk fun rec j st => jQ (JS.run (cSilK o.op E.P E.G) j st) (cDst n o.dst) j rec (.quiet n all rest) st)
      (.mk fun rec j st => jV (JS.run (cSilK o.op E.P E.G) j st) (cDst n o.dst) j rec (.quiet n all rest) st) (stateFree o.op))
    (.mk fun rec j st => jNext (cDst n o.dst) U j rec (.quiet n all rest) st)
def cQuiet (E : Env) (n : Nat) (all : List Oper) (todo : List It) : JC := List.rec (motive := fun _ => JC) (.mk fun _ j st => .ok .normal j st) (fun t rest _ => cQuiet1 E n all t.o rest) todo
def cRegD (E : Env) (n : Nat) (all : List Oper) : JC := match mkIts E 0 [] all with
  | none => jBad
  | some its => bif textOk all its then (bif quietOk all its then .mk fun rec j st => rec (.quiet n all (orderIts its)) j st else .mk fun rec j st => rec (.draw n all (orderIts its) [] 0 0) j st) else jBad

def wantJ (all : List Oper) (o : Oper) (j : JF) : Option Bool := match o.guard with
  | none => some true
  | some (i, want) => GB.run (cWant all i want) j
def sameJ (E : Env) (r : JRec) (st : St) : Bool := match r with
  | .mk it j _ val _ => (match JS.run (cSilK it.o.op E.P E.G) j st with | some v => avEq v val | none => false)
def keptJ (E : Env) (r : JRec) (st : St) : Bool := match r with
  | .mk it j _ _ obj => (match JM.run (cFlt E.P it.o.op) j, fGet st.hp obj with
    | some (o, _), some o' => Nat.blt obj st.nxt && aoEq o o'
    | _, _ => false)
def memsJ (recs : List JRec) (last : St) : List (Nat × Nat × St) := match recs with
  | [] => [(0, 0, last)]
  | .mk it _ st _ _ :: l => (match it.kind with | 0 | 1 => memsJ l last | _ => (it.i + 1, it.bef, st) :: memsJ l last)
def recsJ (E : Env) (all : List Oper) (mems : List (Nat × Nat × St)) : List JRec → Bool
  | [] => true
  | r :: l => (match r with
    | .mk it j _ _ _ => (match it.kind with
      | 0 => bif stateFree it.o.op then true else (match wantJ all it.o j with | some true => window (sameJ E r) it.i it.bef mems | _ => true)
      | 1 => (match wantJ all it.o j with | some true => window (keptJ E r) it.i it.bef mems | _ => true)
      | _ => true)) && recsJ E all mems l

def jX (cd : CD) (t : It) (v : AV) (obj : Nat) (j : JF) (st st' : St) (rec : RecJ) (n : Nat) (all : List Oper) (todo : List It) (recs : List JRec) (dn ld : Nat) : JRes :=
  jNext cd v j rec (.draw n all todo (.mk t j st v obj :: recs) (orBit dn t.i) (ldOf t ld)) st'
def jDraw1 (E : Env) (t : It) (n : Nat) (all : List Oper) (todo : List It) (recs : List JRec) (dn ld : Nat) (rec : RecJ) (j : JF) (st : St) : JRes :=
  match wantJ all t.o j with
  | some false => jX (cDst n t.o.dst) t U 0 j st st rec n all todo recs dn ld
  | some true => (match t.kind with
    | 0 => (match JS.run (cSilK t.o.op E.P E.G) j st with
      | some v => jX (cDst n t.o.dst) t v 0 j st st rec n all todo recs dn ld
      | none => .bad)
    | 1 => (match JM.run (cFlt E.P t.o.op) j with
      | some (ob, k) => (match jNew st ob with
        | some st' => jX (cDst n t.o.dst) t (k.at st.nxt) st.nxt j st st' rec n all todo recs dn ld
        | none => .bad)
      | none => .bad)
    | _ => (match JL.run (cLoud E.P t.o.op) j st with
      | .val v st' => jX (cDst n t.o.dst) t v 0 j st st' rec n all todo recs dn ld
      | .call g args => (match rec (.call g args) j st with
        | .ret v st' => jX (cDst n t.o.dst) t v 0 j st st' rec n all todo recs dn ld
        | _ => .bad)
      | _ => .bad))
  | none => .bad
def jDraw (E : Env) (n : Nat) (all : List Oper) (todo : List It) (recs : List JRec) (dn ld : Nat) (rec : RecJ) (j : JF) (st : St) : JRes :=
  match todo with
  | [] => bif Nat.beq (Nat.add dn 1) (Nat.pow 2 all.length) && recsJ E all (memsJ recs.reverse st) recs then .ok .normal j st else .bad
  | t :: todo => bif maySt t dn ld then jDraw1 E t n all todo recs dn ld rec j st else .bad

/-! ### Code -/
def jSeqE (e : AX) : JF → St → JCmd → RecJ → JRes := AX.rec (motive := fun _ => JF → St → JCmd → RecJ → JRes) (fun j st c rec => rec c j st) (fun i j st _ _ => .ok (.exit i) j st) (fun j st _ _ => .ok .ret j st) e
def jSeq (r : JRes) : JCmd → RecJ → JRes := JRes.rec (motive := fun _ => JCmd → RecJ → JRes) (fun e j st c rec => jSeqE e j st c rec) (fun v st _ _ => .ret v st) (fun _ _ => .bad) r
def jIf2 (b : Bool) : JCmd → JCmd → RecJ → JF → St → JRes := Bool.rec (motive := fun _ => JCmd → JCmd → RecJ → JF → St → JRes) (fun _ y rec j st => rec y j st) (fun x _ rec j st => rec x j st) b
def jIf (o : Option Bool) : JCmd → JCmd → RecJ → JF → St → JRes := Option.rec (motive := fun _ => JCmd → JCmd → RecJ → JF → St → JRes) (fun _ _ _ _ _ => .bad) (fun b x y rec j st => jIf2 b x y rec j st) o
def jBlX (b : Bool) : Nat → JF → St → JRes := Bool.rec (motive := fun _ => Nat → JF → St → JRes) (fun i j st => .ok (.exit i) j st) (fun _ j st => .ok .normal j st) b
def jBlE (e : AX) : JF → St → Nat → JRes := AX.rec (motive := fun _ => JF → St → Nat → JRes) (fun j st _ => .ok .normal j st) (fun i j st id => jBlX (Nat.beq i id) i j st) (fun j st _ => .ok .ret j st) e
def jBl (r : JRes) : Nat → JRes := JRes.rec (motive := fun _ => Nat → JRes) (fun e j st id => jBlE e j st id) (fun v st _ => .ret v st) (fun _ => .bad) r
/-- The frame, as the kernel computes it. -/
def toFrK (n : Nat) (j : JF) : Fr := ⟨n, trOf (fun i => GF.run (selF i) j) 256, jRd j, jDs j⟩
def fillJ (t : Tr AV) (n : Nat) (j : JF) : JF := Nat.rec (motive := fun _ => JF → JF) (fun j => j) (fun i ih j => Option.rec (motive := fun _ => JF) (ih j) (fun v => ih (PF.run (putF i) j v)) (fGet t i)) n j
/-- A frame with these temporaries, in a round. -/
def ofFr (fr : Fr) : JF := fillJ fr.t fr.n (jEmpty true)
def jRange (n : Nat) (g : Operand) (ps : Array Tmp) (assign body : Code) (rec : RecJ) (j : JF) (st : St) : JRes :=
  bif jRd j then .bad else (match jEv g j with
    | some (.fn g first cap) => (match st.nxt with
      | 0 => .bad
      | k + 1 => (match strict (fresh (fresh st .defd) (.loop (toFrK n j) ps.toList assign body false .normal)) (fun st => .val U st) with
        | .val _ st => (match rec (.enter false g (first ++ (.yld (Nat.succ (Nat.succ k)) :: cap))) j st with
          | .ret _ st => (match st.hp.get (Nat.succ (Nat.succ k)) with
            | some (.loop _ _ _ _ false e) => (match strict ⟨st.nxt, st.hp.set (Nat.succ (Nat.succ k)) .dead⟩ (fun st => .val U st) with
              | .val _ st => .ok e (jPush j (.mark (Nat.succ k))) st
              | _ => .bad)
            | _ => .bad)
          | _ => .bad)
        | _ => .bad))
    | _ => .bad)
def cCode (E : Env) (n : Nat) (c : Code) : JC := Code.rec (motive := fun _ => JC)
  (.mk fun _ j st => .ok .normal j st)
  (fun _ ops d => Bool.rec (motive := fun _ => JC) (.mk fun rec j st => rec (.ops n ops.toList ops.toList) j st) (cRegD E n ops.toList) d)
  (fun a b _ _ => .mk fun rec j st => jSeq (rec (.code n a) j st) (.code n b) rec)
  (fun c x y _ _ => .mk fun rec j st => jIf (jBo (jEv c j)) (.code n x) (.code n y) rec j st)
  (fun id b _ => .mk fun rec j st => jBl (rec (.code n b) j st) id)
  (fun b _ => .mk fun rec j st => jSeq (rec (.code n b) j st) (.code n (.loop b)) rec)
  (fun g ps assign body _ _ => .mk fun rec j st => jRange n g ps assign body rec j st)
  (fun id => .mk fun _ j st => .ok (.exit id) j st)
  (fun b _ => .mk fun rec j st => rec (.code n b) j st)
  (fun _ => .mk fun _ j st => .ok .normal j st)
  (fun _ => jBad)
  (.mk fun _ j st => .ok .ret j st)
  (fun _ => jBad) c

/-! ### Calls -/
inductive RG where
  | mk (f : JF → St → Option AV)
def RG.run (g : RG) : JF → St → Option AV := RG.rec (motive := fun _ => JF → St → Option AV) (fun f => f) g
def res1J (P : Program) (G : Glob) (j : JF) (st : St) : ResultVar → Option AV
  | .tmp t => jEv (.tmp t) j
  | .cell a t => match jEv (.tmp a) j with | some p => (match p with | .ptr _ _ => loadX P G t p st | _ => none) | none => none
def resLJ (P : Program) (G : Glob) (j : JF) (st : St) : List ResultVar → Option (List AV)
  | [] => some []
  | r :: l => match res1J P G j st r, resLJ P G j st l with
    | some a, some m => some (a :: m)
    | _, _ => none
def cRes (P : Program) (G : Glob) (l : List ResultVar) : RG := match l with
  | [.tmp t] => .mk fun j _ => jEv (.tmp t) j
  | l => .mk fun j st => (match resLJ P G j st l with
    | some [a] => some a
    | some l => some (.tup l)
    | none => none)
inductive JFn where
  | bad
  | mk (n : Nat) (c : Code) (res : RG)
def cFn (E : Env) (g : Nat) : JFn := match E.P.funcs[g]? with
  | some fn => (match fn.body with
    | some c => bif Nat.ble fn.ntmps 256 then .mk fn.ntmps c (cRes E.P E.G fn.results.toList) else .bad
    | none => .bad)
  | none => .bad
def initJ (l : List AV) : Nat → JF → JF := List.rec (motive := fun _ => Nat → JF → JF) (fun _ j => j) (fun a _ ih i j => ih (Nat.succ i) (PF.run (putF i) j a)) l
def lenJ (l : List AV) : Nat := List.rec (motive := fun _ => Nat) 0 (fun _ _ ih => Nat.succ ih) l
def jRv (o : Option AV) : St → JRes := Option.rec (motive := fun _ => St → JRes) (fun _ => .bad) (fun v st => .ret v st) o
def jLv (r : JRes) : JF → RG → JRes := JRes.rec (motive := fun _ => JF → RG → JRes) (fun _ _ st j res => jRv (RG.run res j st) st) (fun _ _ _ _ => .bad) (fun _ _ => .bad) r
def jDf2 (b : Bool) : List AD → Nat → RG → RecJ → JF → St → JRes := Bool.rec (motive := fun _ => List AD → Nat → RG → RecJ → JF → St → JRes) (fun ds n res rec j st => jLv (rec (.leave n ds) j st) j res) (fun _ _ _ _ _ _ => .bad) b
def jDf (ds : List AD) : Bool → Nat → RG → RecJ → JF → St → JRes := List.rec (motive := fun _ => Bool → Nat → RG → RecJ → JF → St → JRes) (fun _ _ res _ j st => jRv (RG.run res j st) st) (fun d ds _ plain n res rec j st => jDf2 plain (d :: ds) n res rec j st) ds
def jEndE (e : AX) : Bool → Nat → RG → RecJ → JF → St → JRes := AX.rec (motive := fun _ => Bool → Nat → RG → RecJ → JF → St → JRes)
  (fun plain n res rec j st => jDf (jDs j) plain n res rec j st) (fun _ _ _ _ _ _ _ => .bad) (fun plain n res rec j st => jDf (jDs j) plain n res rec j st) e
def jEnd (r : JRes) : Bool → Nat → RG → RecJ → JRes := JRes.rec (motive := fun _ => Bool → Nat → RG → RecJ → JRes) (fun e j st plain n res rec => jEndE e plain n res rec j st) (fun _ _ _ _ _ _ => .bad) (fun _ _ _ _ => .bad) r
def jEnt2 (b : Bool) : Nat → Code → RG → Bool → List AV → RecJ → St → JRes := Bool.rec (motive := fun _ => Nat → Code → RG → Bool → List AV → RecJ → St → JRes) (fun _ _ _ _ _ _ _ => .bad)
  (fun n c res plain args rec st => jEnd (rec (.code n c) (initJ args 0 (jEmpty false)) st) plain n res rec) b
def jEnt (f : JFn) : Bool → List AV → RecJ → St → JRes := JFn.rec (motive := fun _ => Bool → List AV → RecJ → St → JRes) (fun _ _ _ _ => .bad)
  (fun n c res plain args rec st => jEnt2 (Nat.ble (lenJ args) n) n c res plain args rec st) f
def jCall (o : Option (AV × St)) : Nat → List AV → RecJ → JF → St → JRes := Option.rec (motive := fun _ => Nat → List AV → RecJ → JF → St → JRes) (fun g args rec j st => rec (.enter false g args) j st) (fun p _ _ _ _ _ => .ret p.1 p.2) o
def putAllJ (n : Nat) (j : JF) : List Tmp → List AV → Option JF
  | [], [] => some j
  | t :: ts, a :: l => (match cDst n (some t) with | .put p => putAllJ n (PF.run p j a) ts l | _ => none)
  | _, _ => none
def jYield (b : Nat) (args : List AV) (rec : RecJ) (st : St) : JRes := match st.hp.get b with
  | some (.loop fr ps assign body false .normal) =>
    bif Nat.ble fr.n 256 && trEq (trOf (fun i => GF.run (selF i) (ofFr fr)) 256) fr.t then
    (match putAllJ fr.n (ofFr fr) ps args with
    | some j' => (match rec (.code fr.n assign) j' st with
      | .ok .normal j' st => (match st.hp.get b with
        | some (.loop fr2 ps assign body' false .normal) => (match strict ⟨st.nxt, st.hp.set b (.loop fr2 ps assign body' true .normal)⟩ (fun st => .val U st) with
          | .val _ st => (match rec (.code fr.n body) j' st with
            | .ok e _ st => (match st.hp.get b with
              | some (.loop fr ps assign body true .normal) => (match strict ⟨st.nxt, st.hp.set b (.loop fr ps assign body false e)⟩ (fun st => .val U st) with
                | .val _ st => .ret (mkBool (match e with | .normal => true | _ => false)) st
                | _ => .bad)
              | _ => .bad)
            | _ => .bad)
          | _ => .bad)
        | _ => .bad)
      | _ => .bad)
    | none => .bad) else .bad
  | _ => .bad
def jLeave (n : Nat) (ds : List AD) (rec : RecJ) (j : JF) (st : St) : JRes := match ds with
  | [] => .ok .normal j st
  | .mark b :: ds => (match st.hp.get b with
    | some .defd => (match strict ⟨st.nxt, st.hp.set b .dead⟩ (fun st => .val U st) with
      | .val _ st => rec (.leave n ds) j st
      | _ => .bad)
    | _ => .bad)
  | .call g args :: ds => (match rec (.enter true g args) j st with
    | .ret _ st => rec (.leave n ds) j st
    | _ => .bad)
def jStep (c : JCmd) : Env → RecJ → JF → St → JRes := JCmd.rec (motive := fun _ => Env → RecJ → JF → St → JRes)
  (fun n c E rec j st => JC.run (cCode E n c) rec j st)
  (fun n all rest E rec j st => JC.run (cOps E n all rest) rec j st)
  (fun n all todo E rec j st => JC.run (cQuiet E n all todo) rec j st)
  (fun n all todo recs dn ld E rec j st => jDraw E n all todo recs dn ld rec j st)
  (fun g args E rec j st => jCall (E.S g args st) g args rec j st)
  (fun plain g args E rec _ st => jEnt (cFn E g) plain args rec st)
  (fun n ds _ rec j st => jLeave n ds rec j st)
  (fun b args _ rec _ st => jYield b args rec st) c
/-- The executor with compiled commands. -/
def JX (E : Env) (f : Nat) : RecJ := Nat.rec (motive := fun _ => RecJ) (fun _ _ _ => .bad) (fun _ rec c j st => jStep c E rec j st) f
end
end Go.Ax

/-
  AxJ5: what the executor with compiled commands returns, the executor returns.
-/
namespace Go.Ax
open Go

theorem trOf_sel (j : JF) : trOf (fun i => GF.run (selF i) j) 256 = trOf j.get 256 := trOf_congr 256 fun i hi => selF_eq i hi j
theorem toFrK_eq (n : Nat) (j : JF) : toFrK n j = toFr n j := by unfold toFrK toFr; rw [trOf_sel, jRd_eq, jDs_eq]
theorem jPush_get (j : JF) (d : AD) (i : Nat) : (jPush j d).get i = j.get i := by unfold JF.get; rw [jPush_cs]
theorem toFr_push (n : Nat) (j : JF) (d : AD) : toFr n (jPush j d) = ⟨n, (toFr n j).t, (toFr n j).rd, d :: (toFr n j).ds⟩ := by
  unfold toFr
  rw [jPush_rd, jPush_ds, trOf_congr 256 (fun i _ => jPush_get j d i)]

theorem cDst_spec (n : Nat) (dst : Option Tmp) : cDst n dst = .bad ∨ (dst = none ∧ cDst n dst = .none) ∨ ∃ d, dst = some d ∧ d < n ∧ d < 256 ∧ cDst n dst = .put (putF d) := by
  cases dst with
  | none => exact .inr (.inl ⟨rfl, rfl⟩)
  | some d =>
    show (Bool.rec (motive := fun _ => CD) .bad (.put (putF d)) (and (Nat.blt d n) (Nat.blt d 256)) = CD.bad) ∨ _
    cases h1 : Nat.blt d n with
    | false => exact .inl rfl
    | true =>
      cases h2 : Nat.blt d 256 with
      | false => exact .inl rfl
      | true =>
        refine .inr (.inr ⟨d, rfl, by rw [Nat.blt_eq] at h1; exact h1, by rw [Nat.blt_eq] at h2; exact h2, ?_⟩)
        show Bool.rec (motive := fun _ => CD) .bad (.put (putF d)) (and (Nat.blt d n) (Nat.blt d 256)) = _
        rw [h1, h2]; rfl
theorem jNext_spec (n : Nat) (dst : Option Tmp) (v : AV) (j : JF) (rec : RecJ) (c : JCmd) (st : St) :
    jNext (cDst n dst) v j rec c st = .bad ∨ ∃ j1, (toFr n j).put dst v = some (toFr n j1) ∧ jNext (cDst n dst) v j rec c st = rec c j1 st := by
  rcases cDst_spec n dst with h | ⟨hd, h⟩ | ⟨d, hd, h1, h2, h⟩
  · rw [h]; exact .inl rfl
  · rw [h, hd]; exact .inr ⟨j, rfl, rfl⟩
  · rw [h, hd]; exact .inr ⟨_, toFr_putF n j d h2 h1 v, rfl⟩

theorem cWant_eq (n : Nat) (all : List Oper) (o : Oper) (j : JF) : wantJ all o j = wantedX all o (toFr n j) := by
  unfold wantJ wantedX
  cases o.guard with
  | none => rfl
  | some p =>
    obtain ⟨i, want⟩ := p
    simp only
    unfold cWant
    cases nthO all i with
    | none => rfl
    | some g =>
      simp only
      cases g.dst with
      | none => rfl
      | some d =>
        show jWantA want (jEv (.tmp d) j) = _
        rw [jEv_eq n]
        rfl
theorem cGuard_run (all : List Oper) (o : Oper) (yes no : JC) (rec : RecJ) (j : JF) (st : St) :
    (cGuard all o.guard yes no).run rec j st = match wantJ all o j with | some true => yes.run rec j st | some false => no.run rec j st | none => .bad := by
  unfold wantJ cGuard
  cases o.guard with
  | none => rfl
  | some p =>
    obtain ⟨i, want⟩ := p
    simp only
    show jW2 (GB.run (cWant all i want) j) yes no rec j st = _
    cases GB.run (cWant all i want) j with
    | none => rfl
    | some b => cases b <;> rfl

theorem cArgs_eq (l : List Operand) (j : JF) : (cArgs l).run j = evs (jEvF j) l := by
  induction l with
  | nil => rfl
  | cons x l ih =>
    show jCons (jEv x j) ((cArgs l).run j) = _
    rw [ih]
    simp only [evs]
    show jCons (jEv x j) (evs (jEvF j) l) = (match jEv x j, evs (jEvF j) l with | some a, some m => some (a :: m) | _, _ => none)
    cases jEv x j with
    | none => rfl
    | some a => cases evs (jEvF j) l <;> rfl
theorem cSilK_eq (op : Op) (P : Program) (G : Glob) (j : JF) (st : St) : (cSilK op P G).run j st = sil P G (jEvF j) st op := by
  unfold cSilK
  split
  · exact cLookup_eq P G _ _ _ _ _ j st (cSil_eq _ P G j st)
  · exact cSil_eq _ P G j st
theorem cLoud_eq (P : Program) (op : Op) (j : JF) (st : St) : (cLoud P op).run j st = loud P (jEvF j) st op := by
  unfold cLoud
  split
  · rename_i c
    unfold cCallL
    split
    · rename_i g args ts
      show jCallO ((cArgs args.toList).run j) g = _
      rw [cArgs_eq]
      show jCallO (evs (jEvF j) args.toList) g = (match jEvF j (.func g), evs (jEvF j) args.toList with
        | some (.fn g first cap), some l => OR.call g (first ++ (l ++ cap))
        | some (.yld b), some l => .yield b l
        | _, _ => .bad)
      have e : jEvF j (.func g) = some (.fn g [] []) := rfl
      rw [e]
      cases evs (jEvF j) args.toList with
      | none => rfl
      | some l => show OR.call g l = .call g ([] ++ (l ++ [])); rw [List.nil_append, List.append_nil]
    · rename_i f args ts _
      show jCallV (jEv f j) ((cArgs args.toList).run j) = _
      rw [cArgs_eq]
      show jCallV (jEv f j) (evs (jEvF j) args.toList) = (match jEv f j, evs (jEvF j) args.toList with
        | some (.fn g first cap), some l => OR.call g (first ++ (l ++ cap))
        | some (.yld b), some l => .yield b l
        | _, _ => .bad)
      cases jEv f j with
      | none => rfl
      | some a => cases evs (jEvF j) args.toList <;> cases a <;> rfl
    · rfl
  · exact cStore_eq P _ _ _ j st
  · exact cUpd_eq P _ _ _ _ _ j st rfl
  · exact cUpd_eq P _ _ _ _ _ j st rfl
  · rfl
theorem cFlt_eq (P : Program) (op : Op) (j : JF) : (cFlt P op).run j = flt P (jEvF j) op := by
  unfold cFlt
  split
  · rfl
  · exact cBox_eq P _ _ j
  · rfl
theorem jNew_spec (st : St) (o : AO) : ∃ st', jNew st o = some st' ∧ strict (fresh st o) (fun st => .val U st) = .val U st' := by
  unfold jNew strict fresh
  rw [fSet_eq]
  obtain ⟨a, b, c, h⟩ := Tr.set_ne st.hp st.nxt o
  rw [h]
  exact ⟨⟨Nat.succ st.nxt, .n a b c⟩, rfl, rfl⟩

/-! ### What is shown -/
noncomputable def toRec (n : Nat) : JRec → Rec
  | .mk it j st val obj => ⟨it, toFr n j, st, val, obj⟩
/-- Records of a quiet region. -/
def QInv (E : Env) (all : List Oper) (st : St) (recs : List Rec) : Prop :=
  ∀ r ∈ recs, r.it.kind = 0 ∧ (wantedX all r.it.o r.fr = some true → stateFree r.it.o.op = true ∨ sameAt E r st = true)
/-- The rest of a quiet region. -/
def QOk (all : List Oper) (todo : List It) (dn ld : Nat) : Prop :=
  quietIts todo = true ∧ ∃ d, mayAll todo dn ld = some d ∧ Nat.beq (Nat.add d 1) (Nat.pow 2 all.length) = true

def JOK (E : Env) (f : Nat) : JCmd → Prop
  | .code n c => n ≤ 256 → ∀ j st e j' st', JX E f (.code n c) j st = .ok e j' st' → X E f (.code c) (toFr n j) st = .ok e (toFr n j') st'
  | .ops n all rest => n ≤ 256 → ∀ j st e j' st', JX E f (.ops n all rest) j st = .ok e j' st' → X E f (.ops all rest) (toFr n j) st = .ok e (toFr n j') st'
  | .quiet n all todo => n ≤ 256 → ∀ j st e j' st', JX E f (.quiet n all todo) j st = .ok e j' st' → ∀ recs dn ld, QInv E all st recs → QOk all todo dn ld →
      X E f (.draw all todo recs dn ld) (toFr n j) st = .ok e (toFr n j') st'
  | .draw n all todo recs dn ld => n ≤ 256 → ∀ j st e j' st', JX E f (.draw n all todo recs dn ld) j st = .ok e j' st' → X E f (.draw all todo (recs.map (toRec n)) dn ld) (toFr n j) st = .ok e (toFr n j') st'
  | .call g args => ∀ j st v st' fr, JX E f (.call g args) j st = .ret v st' → X E f (.call g args) fr st = .ret v st'
  | .enter plain g args => ∀ j st v st' fr, JX E f (.enter plain g args) j st = .ret v st' → X E f (.enter plain g args) fr st = .ret v st'
  | .leave n ds => n ≤ 256 → ∀ j st e j' st', JX E f (.leave n ds) j st = .ok e j' st' → X E f (.leave ds) (toFr n j) st = .ok e (toFr n j') st'
  | .yield b args => ∀ j st v st' fr, JX E f (.yield b args) j st = .ret v st' → X E f (.yield b args) fr st = .ret v st'

section
variable {E : Env} {f : Nat}

theorem jok_seq (ih : ∀ c, JOK E f c) {n : Nat} (hn : n ≤ 256) {a b : Code} {j j' : JF} {st st' : St} {e : AX}
    (h : jSeq (JX E f (.code n a) j st) (.code n b) (JX E f) = .ok e j' st') :
    (match X E f (.code a) (toFr n j) st with
      | .ok .normal fr st => X E f (.code b) fr st
      | r => r) = .ok e (toFr n j') st' := by
  cases hr : JX E f (.code n a) j st with
  | ok e1 j1 st1 =>
    rw [hr] at h
    rw [ih (.code n a) hn _ _ _ _ _ hr]
    cases e1 with
    | normal => exact ih (.code n b) hn _ _ _ _ _ h
    | exit i => cases h; rfl
    | ret => cases h; rfl
  | ret v st1 => rw [hr] at h; cases h
  | bad => rw [hr] at h; cases h

theorem cOps_ok (ih : ∀ c, JOK E f c) {n : Nat} (hn : n ≤ 256) (all rest : List Oper) {j j' : JF} {st st' : St} {e : AX}
    (h : (cOps E n all rest).run (JX E f) j st = .ok e j' st') : X E (f + 1) (.ops all rest) (toFr n j) st = .ok e (toFr n j') st' := by
  cases rest with
  | nil =>
    have h : JRes.ok .normal j st = .ok e j' st' := h
    cases h
    simp only [X]
  | cons o rest =>
    have h : (cOper E n all o rest).run (JX E f) j st = .ok e j' st' := h
    have go : ∀ (v : AV) (st1 : St), jNext (cDst n o.dst) v j (JX E f) (.ops n all rest) st1 = .ok e j' st' →
        (match (toFr n j).put o.dst v with | some fr => X E f (.ops all rest) fr st1 | none => .bad) = .ok e (toFr n j') st' := by
      intro v st1 hv
      rcases jNext_spec n o.dst v j (JX E f) (.ops n all rest) st1 with hb | ⟨j1, hp, hj⟩
      · rw [hb] at hv; cases hv
      · rw [hp]
        rw [hj] at hv
        exact ih (.ops n all rest) hn _ _ _ _ _ hv
    unfold cOper at h
    rw [cGuard_run, cWant_eq n] at h
    simp only [X]
    cases hw : wantedX all o (toFr n j) with
    | none => rw [hw] at h; cases h
    | some b =>
      rw [hw] at h
      cases b with
      | false => exact go _ _ h
      | true =>
        simp only at h ⊢
        cases hk : kindOf E.P o.op with
        | zero =>
          rw [hk] at h
          have h : jV ((cSilK o.op E.P E.G).run j st) (cDst n o.dst) j (JX E f) (.ops n all rest) st = .ok e j' st' := h
          rw [cSilK_eq, jEvF_eq n] at h
          simp only
          cases hs : sil E.P E.G (ev (toFr n j)) st o.op with
          | none => rw [hs] at h; cases h
          | some v => rw [hs] at h; exact go _ _ h
        | succ k =>
          cases k with
          | zero =>
            rw [hk] at h
            have h : jFl ((cFlt E.P o.op).run j) (cDst n o.dst) j (JX E f) (.ops n all rest) st = .ok e j' st' := h
            rw [cFlt_eq, jEvF_eq n] at h
            simp only
            cases hs : flt E.P (ev (toFr n j)) o.op with
            | none => rw [hs] at h; cases h
            | some p =>
              obtain ⟨ob, k⟩ := p
              rw [hs] at h
              have h : jF2 (jNew st ob) (k.at st.nxt) (cDst n o.dst) j (JX E f) (.ops n all rest) = .ok e j' st' := h
              obtain ⟨st1, h1, h2⟩ := jNew_spec st ob
              rw [h1] at h
              simp only
              rw [h2]
              exact go _ _ h
          | succ k =>
            rw [hk] at h
            have h : jL ((cLoud E.P o.op).run j st) (cDst n o.dst) j (JX E f) (.ops n all rest) st = .ok e j' st' := h
            rw [cLoud_eq, jEvF_eq n] at h
            simp only
            cases hs : loud E.P (ev (toFr n j)) st o.op with
            | bad => rw [hs] at h; cases h
            | val v st1 => rw [hs] at h; exact go _ _ h
            | call g args =>
              rw [hs] at h
              have h : jRet (JX E f (.call g args) j st) (cDst n o.dst) j (JX E f) (.ops n all rest) = .ok e j' st' := h
              simp only
              cases hc : JX E f (.call g args) j st with
              | ret v st1 =>
                rw [hc] at h
                rw [ih (.call g args) _ _ _ _ (toFr n j) hc]
                exact go _ _ h
              | ok _ _ _ => rw [hc] at h; cases h
              | bad => rw [hc] at h; cases h
            | yield b args =>
              rw [hs] at h
              have h : jRet (JX E f (.yield b args) j st) (cDst n o.dst) j (JX E f) (.ops n all rest) = .ok e j' st' := h
              simp only
              cases hc : JX E f (.yield b args) j st with
              | ret v st1 =>
                rw [hc] at h
                rw [ih (.yield b args) _ _ _ _ (toFr n j) hc]
                exact go _ _ h
              | ok _ _ _ => rw [hc] at h; cases h
              | bad => rw [hc] at h; cases h
            | defer d =>
              rw [hs] at h
              have h : jD2 (jRd j) (cDst n o.dst) d j (JX E f) (.ops n all rest) st = .ok e j' st' := h
              rw [jRd_eq] at h
              simp only
              rw [show (toFr n j).rd = j.rd from rfl]
              cases hr : j.rd with
              | true => rw [hr] at h; cases h
              | false =>
                rw [hr] at h
                have h : jNext (cDst n o.dst) U (jPush j d) (JX E f) (.ops n all rest) st = .ok e j' st' := h
                simp only [cond_false]
                rcases jNext_spec n o.dst U (jPush j d) (JX E f) (.ops n all rest) st with hb | ⟨j1, hp, hj⟩
                · rw [hb] at h; cases h
                · rw [hj] at h
                  have hX := ih (.ops n all rest) hn _ _ _ _ _ h
                  rw [toFr_push] at hp
                  unfold Fr.put at hp ⊢
                  cases hd : o.dst with
                  | none =>
                    rw [hd] at hp
                    simp only [Option.some.injEq] at hp ⊢
                    have hp : (⟨(toFr n j).n, (toFr n j).t, (toFr n j).rd, d :: (toFr n j).ds⟩ : Fr) = toFr n j1 := hp
                    rw [hp]; exact hX
                  | some d' =>
                    rw [hd] at hp
                    simp only at hp ⊢
                    rw [show (toFr n j).n = n from rfl]
                    cases hbn : Nat.blt d' n with
                    | false => rw [hbn] at hp; simp at hp
                    | true =>
                      rw [hbn] at hp
                      simp only [cond_true] at hp ⊢
                      obtain ⟨x, y, z, hxyz⟩ := Tr.set_ne (toFr n j).t d' U
                      rw [hxyz] at hp ⊢
                      simp only [Option.some.injEq] at hp ⊢
                      have hp : (⟨n, .n x y z, (toFr n j).rd, d :: (toFr n j).ds⟩ : Fr) = toFr n j1 := hp
                      rw [hp]; exact hX
end
end Go.Ax

/-
  AxJ6: regions that draw their order, in the executor with compiled commands.
-/
namespace Go.Ax
open Go

section
variable {E : Env} {f : Nat}

theorem ieq_refl (a : Int) : ieq a a = true := by rw [ieq_eq]; simp
theorem kindEq_refl (k : IntKind) : kindEq k k = true := kindEq_iff.2 rfl
theorem natBeq_refl (n : Nat) : Nat.beq n n = true := by rw [Nat.beq_eq]
theorem reflA_eq (a : AV) (h : reflA a = true) : avEq a a = true := by
  cases a with
  | v x =>
    cases x with
    | int k n => simp only [avEq, kindEq_refl, ieq_refl, Bool.and_self]
    | bool b => cases b <;> simp [avEq]
    | _ => exact h
  | str n c => simp only [avEq, natBeq_refl, Bool.and_self]
  | ptr b o => simp only [avEq, natBeq_refl, Bool.and_self]
  | sl b o l c ex es => cases ex <;> simp only [avEq, natBeq_refl, Bool.and_self]
  | map b => simp only [avEq, natBeq_refl]
  | _ => exact h

theorem memsOf_quiet (st : St) : ∀ (recs : List Rec), (∀ r ∈ recs, r.it.kind = 0) → memsOf recs st = [(0, 0, st)]
  | [], _ => rfl
  | r :: l, h => by
    unfold memsOf
    rw [h r List.mem_cons_self]
    exact memsOf_quiet st l fun s hs => h s (List.mem_cons_of_mem _ hs)
theorem recsOk_quiet {all : List Oper} {st : St} : ∀ (recs : List Rec), QInv E all st recs → recsOk E all [(0, 0, st)] recs = true
  | [], _ => rfl
  | r :: l, h => by
    unfold recsOk
    rw [recsOk_quiet l fun s hs => h s (List.mem_cons_of_mem _ hs), Bool.and_true]
    obtain ⟨h1, h2⟩ := h r List.mem_cons_self
    cases hw : wantedX all r.it.o r.fr with
    | none => rfl
    | some b =>
      cases b with
      | false => rfl
      | true =>
        simp only [h1]
        rcases h2 hw with h3 | h3
        · rw [h3]; rfl
        · cases stateFree r.it.o.op with
          | true => rfl
          | false => exact h3

theorem quiet_ok (ih : ∀ c, JOK E f c) {n : Nat} (hn : n ≤ 256) (all : List Oper) (todo : List It) {j j' : JF} {st st' : St} {e : AX}
    (h : (cQuiet E n all todo).run (JX E f) j st = .ok e j' st') (recs : List Rec) (dn ld : Nat) (hq : QInv E all st recs) (hok : QOk all todo dn ld) :
    X E (f + 1) (.draw all todo recs dn ld) (toFr n j) st = .ok e (toFr n j') st' := by
  obtain ⟨q1, d, q2, q3⟩ := hok
  cases todo with
  | nil =>
    have h : JRes.ok .normal j st = .ok e j' st' := h
    cases h
    simp only [mayAll, Option.some.injEq] at q2
    subst q2
    simp only [X]
    rw [memsOf_quiet st recs.reverse (fun r hr => (hq r (List.mem_reverse.1 hr)).1), recsOk_quiet recs hq, q3]
    rfl
  | cons t todo =>
    simp only [quietIts, Bool.and_eq_true, Nat.beq_eq] at q1
    obtain ⟨hk, q1⟩ := q1
    simp only [mayAll] at q2
    cases hm : maySt t dn ld with
    | false => rw [hm] at q2; cases q2
    | true =>
    rw [hm] at q2
    simp only [cond_true] at q2
    have h : (cQuiet1 E n all t.o todo).run (JX E f) j st = .ok e j' st' := h
    have hqk : QOk all todo (orBit dn t.i) (ldOf t ld) := ⟨q1, d, q2, q3⟩
    have go : ∀ (v : AV), (wantedX all t.o (toFr n j) = some true → stateFree t.o.op = true ∨ sameAt E ⟨t, toFr n j, st, v, 0⟩ st = true) →
        jNext (cDst n t.o.dst) v j (JX E f) (.quiet n all todo) st = .ok e j' st' →
        (match (toFr n j).put t.o.dst v with | some fr' => X E f (.draw all todo (⟨t, toFr n j, st, v, 0⟩ :: recs) (orBit dn t.i) (ldOf t ld)) fr' st | none => .bad) = .ok e (toFr n j') st' := by
      intro v hv hx
      rcases jNext_spec n t.o.dst v j (JX E f) (.quiet n all todo) st with hb | ⟨j1, hp, hj⟩
      · rw [hb] at hx; cases hx
      · rw [hp]
        rw [hj] at hx
        refine ih (.quiet n all todo) hn _ _ _ _ _ hx _ _ _ ?_ hqk
        intro r hr
        rcases List.mem_cons.1 hr with rfl | hr
        · exact ⟨hk, hv⟩
        · exact hq r hr
    unfold cQuiet1 at h
    rw [cGuard_run, cWant_eq n] at h
    simp only [X, hm, cond_true]
    cases hw : wantedX all t.o (toFr n j) with
    | none => rw [hw] at h; cases h
    | some b =>
      rw [hw] at h
      cases b with
      | false => exact go _ (fun he => by rw [hw] at he; cases he) h
      | true =>
        simp only [hk] at h ⊢
        cases hf : stateFree t.o.op with
        | true =>
          rw [hf] at h
          have h : jV ((cSilK t.o.op E.P E.G).run j st) (cDst n t.o.dst) j (JX E f) (.quiet n all todo) st = .ok e j' st' := h
          rw [cSilK_eq, jEvF_eq n] at h
          cases hs : sil E.P E.G (ev (toFr n j)) st t.o.op with
          | none => rw [hs] at h; cases h
          | some v => rw [hs] at h; exact go _ (fun _ => .inl hf) h
        | false =>
          rw [hf] at h
          have h : jQ ((cSilK t.o.op E.P E.G).run j st) (cDst n t.o.dst) j (JX E f) (.quiet n all todo) st = .ok e j' st' := h
          rw [cSilK_eq, jEvF_eq n] at h
          cases hs : sil E.P E.G (ev (toFr n j)) st t.o.op with
          | none => rw [hs] at h; cases h
          | some v =>
            rw [hs] at h
            have h : jQ2 (reflA v) v (cDst n t.o.dst) j (JX E f) (.quiet n all todo) st = .ok e j' st' := h
            cases hr : reflA v with
            | false => rw [hr] at h; cases h
            | true =>
              rw [hr] at h
              refine go _ (fun _ => .inr ?_) h
              unfold sameAt
              simp only [hs]
              exact reflA_eq v hr

/-! ### Regions with operations that change the memory -/
theorem sameJ_eq (n : Nat) (r : JRec) (st : St) : sameJ E r st = sameAt E (toRec n r) st := by
  obtain ⟨it, j, s, v, o⟩ := r
  unfold sameJ sameAt toRec
  simp only
  rw [cSilK_eq, jEvF_eq n]
  rfl
theorem keptJ_eq (n : Nat) (r : JRec) (st : St) : keptJ E r st = keptAt E (toRec n r) st := by
  obtain ⟨it, j, s, v, o⟩ := r
  unfold keptJ keptAt toRec
  simp only
  rw [cFlt_eq, jEvF_eq n, fGet_eq]
  rfl
theorem memsJ_eq (n : Nat) (st : St) : ∀ (recs : List JRec), memsJ recs st = memsOf (recs.map (toRec n)) st
  | [] => rfl
  | .mk it j s v o :: l => by
    unfold memsJ
    rw [memsJ_eq n st l]
    rfl
theorem recsJ_ok (n : Nat) (all : List Oper) (mems : List (Nat × Nat × St)) : ∀ (recs : List JRec), recsJ E all mems recs = true → recsOk E all mems (recs.map (toRec n)) = true
  | [], _ => rfl
  | .mk it j s v o :: l, h => by
    simp only [recsJ, Bool.and_eq_true] at h
    show ((match wantedX all it.o (toFr n j) with
     | some true => (match it.kind with
       | 0 => bif stateFree it.o.op then true else window (sameAt E (toRec n (.mk it j s v o))) it.i it.bef mems
       | 1 => window (keptAt E (toRec n (.mk it j s v o))) it.i it.bef mems
       | _ => true)
     | _ => true) && recsOk E all mems (l.map (toRec n))) = true
    rw [recsJ_ok n all mems l h.2, Bool.and_true]
    have h := h.1
    rw [cWant_eq n] at h
    have e1 : sameJ E (.mk it j s v o) = sameAt E (toRec n (.mk it j s v o)) := funext fun st => sameJ_eq n _ st
    have e2 : keptJ E (.mk it j s v o) = keptAt E (toRec n (.mk it j s v o)) := funext fun st => keptJ_eq n _ st
    rw [e1, e2] at h
    cases hw : wantedX all it.o (toFr n j) with
    | none => rfl
    | some b =>
      cases b with
      | false => rfl
      | true =>
        rw [hw] at h
        simp only
        split
        · rename_i hk
          simp only [hk] at h
          exact h
        · rename_i hk
          simp only [hk] at h
          exact h
        · rfl

theorem draw_ok (ih : ∀ c, JOK E f c) {n : Nat} (hn : n ≤ 256) (all : List Oper) (todo : List It) (recs : List JRec) (dn ld : Nat) {j j' : JF} {st st' : St} {e : AX}
    (h : jDraw E n all todo recs dn ld (JX E f) j st = .ok e j' st') :
    X E (f + 1) (.draw all todo (recs.map (toRec n)) dn ld) (toFr n j) st = .ok e (toFr n j') st' := by
  unfold jDraw at h
  cases todo with
  | nil =>
    simp only at h
    simp only [X]
    cases hb : (Nat.beq (Nat.add dn 1) (Nat.pow 2 all.length) && recsJ E all (memsJ recs.reverse st) recs) with
    | false => rw [hb] at h; cases h
    | true =>
      rw [hb] at h
      simp only [cond_true] at h
      cases h
      rw [Bool.and_eq_true] at hb
      have h2 := recsJ_ok n all _ recs hb.2
      rw [memsJ_eq n, List.map_reverse] at h2
      rw [hb.1, h2]
      rfl
  | cons t todo =>
    simp only at h
    simp only [X]
    cases hm : maySt t dn ld with
    | false => rw [hm] at h; cases h
    | true =>
    rw [hm] at h
    simp only [cond_true] at h ⊢
    have go : ∀ (v : AV) (obj : Nat) (st1 : St), jX (cDst n t.o.dst) t v obj j st st1 (JX E f) n all todo recs dn ld = .ok e j' st' →
        (match (toFr n j).put t.o.dst v with | some fr' => X E f (.draw all todo (⟨t, toFr n j, st, v, obj⟩ :: recs.map (toRec n)) (orBit dn t.i) (ldOf t ld)) fr' st1 | none => .bad) = .ok e (toFr n j') st' := by
      intro v obj st1 hx
      unfold jX at hx
      rcases jNext_spec n t.o.dst v j (JX E f) (.draw n all todo (.mk t j st v obj :: recs) (orBit dn t.i) (ldOf t ld)) st1 with hb | ⟨j1, hp, hj⟩
      · rw [hb] at hx; cases hx
      · rw [hp]
        rw [hj] at hx
        exact ih (.draw n all todo (.mk t j st v obj :: recs) (orBit dn t.i) (ldOf t ld)) hn _ _ _ _ _ hx
    unfold jDraw1 at h
    rw [cWant_eq n] at h
    cases hw : wantedX all t.o (toFr n j) with
    | none => rw [hw] at h; cases h
    | some b =>
      rw [hw] at h
      cases b with
      | false => exact go _ _ _ h
      | true =>
        simp only at h ⊢
        split at h
        · rename_i hk
          simp only [hk]
          rw [cSilK_eq, jEvF_eq n] at h
          cases hs : sil E.P E.G (ev (toFr n j)) st t.o.op with
          | none => rw [hs] at h; cases h
          | some v => rw [hs] at h; exact go _ _ _ h
        · rename_i hk
          simp only [hk]
          rw [cFlt_eq, jEvF_eq n] at h
          cases hs : flt E.P (ev (toFr n j)) t.o.op with
          | none => rw [hs] at h; cases h
          | some p =>
            obtain ⟨ob, k⟩ := p
            rw [hs] at h
            obtain ⟨st1, h1, h2⟩ := jNew_spec st ob
            simp only [h1] at h
            simp only [h2]
            exact go _ _ _ h
        · rename_i hk0 hk1
          rw [cLoud_eq, jEvF_eq n] at h
          split
          · rename_i hk; exact absurd hk hk0
          · rename_i hk; exact absurd hk hk1
          · cases hs : loud E.P (ev (toFr n j)) st t.o.op with
            | bad => rw [hs] at h; cases h
            | val v st1 => rw [hs] at h; exact go _ _ _ h
            | call g args =>
              rw [hs] at h
              simp only at h ⊢
              cases hc : JX E f (.call g args) j st with
              | ret v st1 =>
                rw [hc] at h
                rw [ih (.call g args) _ _ _ _ (toFr n j) hc]
                exact go _ _ _ h
              | ok _ _ _ => rw [hc] at h; cases h
              | bad => rw [hc] at h; cases h
            | yield b args => rw [hs] at h; cases h
            | defer d => rw [hs] at h; cases h
end
end Go.Ax

/-
  AxJ7: code and calls in the executor with compiled commands; it is sound.
-/
namespace Go.Ax
open Go

section
variable {E : Env} {f : Nat}

/-! ### Frames that are made -/
theorem trOf_none (g : Nat → Option AV) : ∀ (n : Nat), (∀ k, k < n → g k = none) → trOf g n = .e
  | 0, _ => rfl
  | n + 1, h => by rw [trOf_succ, h n (by omega)]; exact trOf_none g n fun k hk => h k (by omega)
theorem toFr_empty (n : Nat) (rd : Bool) : toFr n (jEmpty rd) = ⟨n, .e, rd, []⟩ := by
  unfold toFr
  rw [trOf_none _ 256 fun k _ => jEmpty_get rd k]
  rfl
theorem fillJ_get (t : Tr AV) : ∀ (n : Nat) (j : JF) (i : Nat), n ≤ 256 → (fillJ t n j).get i = if i < n then (match t.get i with | some v => some v | none => j.get i) else j.get i
  | 0, j, i, _ => by rw [if_neg (by omega)]; rfl
  | n + 1, j, i, h => by
    show (Option.rec (motive := fun _ => JF) (fillJ t n j) (fun v => fillJ t n (PF.run (putF n) j v)) (fGet t n) : JF).get i = _
    rw [fGet_eq]
    cases hn : t.get n with
    | none =>
      show (fillJ t n j).get i = _
      rw [fillJ_get t n j i (by omega)]
      by_cases h1 : i < n
      · rw [if_pos h1, if_pos (by omega)]
      · rw [if_neg h1]
        by_cases h2 : i = n
        · subst h2; rw [if_pos (by omega), hn]
        · rw [if_neg (by omega)]
    | some v =>
      show (fillJ t n (PF.run (putF n) j v)).get i = _
      rw [fillJ_get t n _ i (by omega), putF_get n (by omega)]
      by_cases h1 : i < n
      · rw [if_pos h1, if_pos (show i < n + 1 by omega), if_neg (show ¬ i = n by omega)]
      · rw [if_neg h1]
        by_cases h2 : i = n
        · subst h2; rw [if_pos rfl, if_pos (by omega), hn]
        · rw [if_neg h2, if_neg (by omega)]
theorem fillJ_rd (t : Tr AV) : ∀ (n : Nat) (j : JF), n ≤ 256 → (fillJ t n j).rd = j.rd ∧ (fillJ t n j).ds = j.ds
  | 0, _, _ => ⟨rfl, rfl⟩
  | n + 1, j, h => by
    show (Option.rec (motive := fun _ => JF) (fillJ t n j) (fun v => fillJ t n (PF.run (putF n) j v)) (fGet t n) : JF).rd = _ ∧ (Option.rec (motive := fun _ => JF) (fillJ t n j) (fun v => fillJ t n (PF.run (putF n) j v)) (fGet t n) : JF).ds = _
    cases fGet t n with
    | none => exact fillJ_rd t n j (by omega)
    | some v =>
      obtain ⟨h1, h2⟩ := fillJ_rd t n (PF.run (putF n) j v) (by omega)
      exact ⟨h1.trans (putF_rd n (by omega) j v), h2.trans (putF_ds n (by omega) j v)⟩
theorem ofFr_eq (fr : Fr) (hn : fr.n ≤ 256) (h : trEq (trOf (fun i => GF.run (selF i) (ofFr fr)) 256) fr.t = true) : toFr fr.n (ofFr fr) = ⟨fr.n, fr.t, true, []⟩ := by
  have h1 := trEq_eq _ _ h
  rw [trOf_sel] at h1
  obtain ⟨h2, h3⟩ := fillJ_rd fr.t fr.n (jEmpty true) hn
  unfold toFr
  rw [h1]
  unfold ofFr
  rw [h2, h3]
  rfl
theorem putAllJ_ok {n : Nat} : ∀ (ts : List Tmp) (l : List AV) (j j' : JF), putAllJ n j ts l = some j' → putAll (toFr n j) ts l = some (toFr n j')
  | [], [], j, j', h => by simp only [putAllJ, Option.some.injEq] at h; subst h; rfl
  | [], a :: l, j, j', h => by simp [putAllJ] at h
  | t :: ts, [], j, j', h => by simp [putAllJ] at h
  | t :: ts, a :: l, j, j', h => by
    simp only [putAllJ] at h
    rcases cDst_spec n (some t) with hc | ⟨hd, hc⟩ | ⟨d, hd, h1, h2, hc⟩
    · rw [hc] at h; cases h
    · cases hd
    · cases hd
      rw [hc] at h
      simp only [putAll]
      rw [toFr_putF n j t h2 h1 a]
      exact putAllJ_ok ts l _ _ h
theorem initJ_rd : ∀ (l : List AV) (i : Nat) (j : JF), i + len l ≤ 256 → (initJ l i j).rd = j.rd ∧ (initJ l i j).ds = j.ds
  | [], _, _, _ => ⟨rfl, rfl⟩
  | a :: l, i, j, h => by
    simp only [len] at h
    obtain ⟨h1, h2⟩ := initJ_rd l (i + 1) (PF.run (putF i) j a) (by omega)
    exact ⟨h1.trans (putF_rd i (by omega) j a), h2.trans (putF_ds i (by omega) j a)⟩
theorem initT_eq : ∀ (l : List AV) (i : Nat) (j : JF), i + len l ≤ 256 → initT i l (trOf j.get 256) = some (trOf (initJ l i j).get 256)
  | [], _, _, _ => rfl
  | a :: l, i, j, h => by
    simp only [len] at h
    have e : (trOf j.get 256).set i a = trOf ((putF i).run j a).get 256 := by
      rw [← trOf_set _ _ _ _ (by omega)]
      exact trOf_congr _ (fun k _ => (putF_get i (by omega) j a k).symm)
    have ih := initT_eq l (i + 1) (PF.run (putF i) j a) (by omega)
    simp only [initT]
    obtain ⟨x, y, z, e'⟩ := Tr.set_ne (trOf j.get 256) i a
    rw [e']
    simp only
    rw [← e', e]
    exact ih
theorem lenJ_eq : ∀ (l : List AV), lenJ l = len l
  | [] => rfl
  | _ :: l => by show Nat.succ (lenJ l) = _; rw [lenJ_eq l]; rfl
theorem init_eq (n : Nat) (l : List AV) (h : Nat.ble (lenJ l) n = true) (hn : n ≤ 256) : Fr.init n l = some (toFr n (initJ l 0 (jEmpty false))) := by
  rw [lenJ_eq] at h
  unfold Fr.init
  rw [h]
  have hl : len l ≤ n := Nat.le_of_ble_eq_true h
  have h1 := initT_eq l 0 (jEmpty false) (by omega)
  rw [trOf_none _ 256 fun k _ => jEmpty_get false k] at h1
  rw [h1]
  obtain ⟨h2, h3⟩ := initJ_rd l 0 (jEmpty false) (by omega)
  simp only [cond_true]
  unfold toFr
  rw [h2, h3]
  rfl

/-! ### Results -/
theorem res1J_eq (n : Nat) (P : Program) (G : Glob) (j : JF) (st : St) (r : ResultVar) : res1J P G j st r = result1 P G (toFr n j) st r := by
  cases r with
  | tmp t => exact jEv_eq n (.tmp t) j
  | cell a t =>
    simp only [res1J, result1]
    rw [jEv_eq n (.tmp a) j]
    rfl
theorem resLJ_eq (n : Nat) (P : Program) (G : Glob) (j : JF) (st : St) : ∀ (l : List ResultVar), resLJ P G j st l = resultsL P G (toFr n j) st l
  | [] => rfl
  | r :: l => by
    unfold resLJ resultsL
    rw [res1J_eq n, resLJ_eq n P G j st l]
    rfl
theorem cRes_eq (n : Nat) (P : Program) (G : Glob) (fn : Func) (j : JF) (st : St) : (cRes P G fn.results.toList).run j st = resultsX P G fn (toFr n j) st := by
  unfold resultsX
  generalize fn.results.toList = l
  unfold cRes
  split
  · rename_i t
    show jEv (.tmp t) j = _
    rw [jEv_eq n (.tmp t) j]
    simp only [resultsL, result1]
    show (toFr n j).t.get t = _
    cases (toFr n j).t.get t <;> rfl
  · show (match resLJ P G j st l with
      | some [a] => some a
      | some l => some (.tup l)
      | none => none) = _
    rw [resLJ_eq n]
    rfl

/-! ### Code -/
theorem jBl_ok {n id : Nat} {r : JRes} {x : Res} {e : AX} {j' : JF} {st' : St} (hr : ∀ e1 j1 st1, r = .ok e1 j1 st1 → x = .ok e1 (toFr n j1) st1) (h : jBl r id = .ok e j' st') :
    (match x with
      | .ok (.exit i) fr st => bif Nat.beq i id then Res.ok .normal fr st else Res.ok (.exit i) fr st
      | r => r) = .ok e (toFr n j') st' := by
  cases r with
  | ok e1 j1 st1 =>
    rw [hr _ _ _ rfl]
    cases e1 with
    | normal => cases h; rfl
    | ret => cases h; rfl
    | exit i =>
      have h : jBlX (Nat.beq i id) i j1 st1 = .ok e j' st' := h
      simp only
      cases hb : Nat.beq i id with
      | true => rw [hb] at h; cases h; rfl
      | false => rw [hb] at h; cases h; rfl
  | ret v st1 => cases h
  | bad => cases h

theorem range_ok (ih : ∀ c, JOK E f c) {n : Nat} (g : Operand) (ps : Array Tmp) (assign body : Code) {j j' : JF} {st st' : St} {e : AX}
    (h : jRange n g ps assign body (JX E f) j st = .ok e j' st') : X E (f + 1) (.code (.rangeFunc g ps assign body)) (toFr n j) st = .ok e (toFr n j') st' := by
  unfold jRange at h
  rw [jRd_eq, jEv_eq n, toFrK_eq] at h
  simp only [X]
  rw [show (toFr n j).rd = j.rd from rfl]
  cases hrd : j.rd with
  | true => rw [hrd] at h; cases h
  | false =>
    rw [hrd] at h
    simp only [cond_false] at h ⊢
    split at h
    · rename_i g first cap hev
      rw [hev]
      simp only
      split at h
      · cases h
      · rename_i k hk
        rw [hk]
        simp only
        split at h
        · rename_i v st1 hst
          rw [hst]
          simp only
          split at h
          · rename_i v2 st2 hx
            rw [ih (.enter false g (first ++ (.yld (Nat.succ (Nat.succ k)) :: cap))) _ _ _ _ (toFr n j) hx]
            simp only
            split at h
            · rename_i e2 hget
              rw [hget]
              simp only
              split at h
              · rename_i v3 st3 hst3
                rw [hst3]
                cases h
                simp only
                rw [toFr_push, show (toFr n j).rd = j.rd from rfl, hrd]
                rfl
              · cases h
            · cases h
          · cases h
        · cases h
    · cases h

theorem code_ok (ih : ∀ c, JOK E f c) {n : Nat} (hn : n ≤ 256) (c : Code) {j j' : JF} {st st' : St} {e : AX}
    (h : (cCode E n c).run (JX E f) j st = .ok e j' st') : X E (f + 1) (.code c) (toFr n j) st = .ok e (toFr n j') st' := by
  cases c with
  | skip => have h : JRes.ok .normal j st = .ok e j' st' := h; cases h; simp only [X]
  | region id ops d =>
    cases d with
    | false =>
      have h : JX E f (.ops n ops.toList ops.toList) j st = .ok e j' st' := h
      simp only [X]
      exact ih (.ops n ops.toList ops.toList) hn _ _ _ _ _ h
    | true =>
      have h : (cRegD E n ops.toList).run (JX E f) j st = .ok e j' st' := h
      unfold cRegD at h
      simp only [X]
      cases hm : mkIts E 0 [] ops.toList with
      | none => rw [hm] at h; cases h
      | some its =>
        rw [hm] at h
        simp only at h ⊢
        cases ht : textOk ops.toList its with
        | false => rw [ht] at h; cases h
        | true =>
          rw [ht] at h
          simp only [cond_true] at h ⊢
          cases hq : quietOk ops.toList its with
          | true =>
            rw [hq] at h
            have h : JX E f (.quiet n ops.toList (orderIts its)) j st = .ok e j' st' := h
            refine ih (.quiet n ops.toList (orderIts its)) hn _ _ _ _ _ h [] 0 0 (fun r hr => by cases hr) ?_
            unfold quietOk at hq
            rw [Bool.and_eq_true] at hq
            refine ⟨hq.1, ?_⟩
            have h2 := hq.2
            cases hd : mayAll (orderIts its) 0 0 with
            | none => rw [hd] at h2; cases h2
            | some d => rw [hd] at h2; exact ⟨d, rfl, h2⟩
          | false =>
            rw [hq] at h
            have h : JX E f (.draw n ops.toList (orderIts its) [] 0 0) j st = .ok e j' st' := h
            exact ih (.draw n ops.toList (orderIts its) [] 0 0) hn _ _ _ _ _ h
  | seq a b =>
    have h : jSeq (JX E f (.code n a) j st) (.code n b) (JX E f) = .ok e j' st' := h
    simp only [X]
    exact jok_seq ih hn h
  | cond c x y =>
    have h : jIf (jBo (jEv c j)) (.code n x) (.code n y) (JX E f) j st = .ok e j' st' := h
    rw [jBo_eq, jEv_eq n] at h
    simp only [X]
    cases hc : ev (toFr n j) c with
    | none => rw [hc] at h; cases h
    | some v =>
      rw [hc] at h
      cases v with
      | v u =>
        cases u with
        | bool b =>
          cases b with
          | true => exact ih (.code n x) hn _ _ _ _ _ h
          | false => exact ih (.code n y) hn _ _ _ _ _ h
        | _ => cases h
      | _ => cases h
  | block id b =>
    have h : jBl (JX E f (.code n b) j st) id = .ok e j' st' := h
    simp only [X]
    exact jBl_ok (fun e1 j1 st1 he => ih (.code n b) hn _ _ _ _ _ he) h
  | loop b =>
    have h : jSeq (JX E f (.code n b) j st) (.code n (.loop b)) (JX E f) = .ok e j' st' := h
    simp only [X]
    exact jok_seq ih hn h
  | rangeFunc g ps assign body => exact range_ok ih g ps assign body h
  | exit id => have h : JRes.ok (.exit id) j st = .ok e j' st' := h; cases h; simp only [X]
  | scope b =>
    have h : JX E f (.code n b) j st = .ok e j' st' := h
    simp only [X]
    exact ih (.code n b) hn _ _ _ _ _ h
  | label l => have h : JRes.ok .normal j st = .ok e j' st' := h; cases h; simp only [X]
  | goto l => cases h
  | ret => have h : JRes.ok .ret j st = .ok e j' st' := h; cases h; simp only [X]
  | refuse w => cases h

/-! ### Calls -/
theorem leave_ok (ih : ∀ c, JOK E f c) {n : Nat} (hn : n ≤ 256) (ds : List AD) {j j' : JF} {st st' : St} {e : AX}
    (h : jLeave n ds (JX E f) j st = .ok e j' st') : X E (f + 1) (.leave ds) (toFr n j) st = .ok e (toFr n j') st' := by
  cases ds with
  | nil => have h : JRes.ok .normal j st = .ok e j' st' := h; cases h; simp only [X]
  | cons d ds =>
    cases d with
    | mark b =>
      simp only [jLeave] at h
      simp only [X]
      split at h
      · rename_i hg
        rw [hg]
        simp only
        split at h
        · rename_i v st1 hst
          rw [hst]
          exact ih (.leave n ds) hn _ _ _ _ _ h
        · cases h
      · cases h
    | call g args =>
      simp only [jLeave] at h
      simp only [X]
      split at h
      · rename_i v st1 hx
        rw [ih (.enter true g args) _ _ _ _ (toFr n j) hx]
        exact ih (.leave n ds) hn _ _ _ _ _ h
      · cases h

theorem enter_ok (ih : ∀ c, JOK E f c) (plain : Bool) (g : Nat) (args : List AV) {st st' : St} {v : AV} (fr : Fr)
    (h : jEnt (cFn E g) plain args (JX E f) st = .ret v st') : X E (f + 1) (.enter plain g args) fr st = .ret v st' := by
  unfold cFn at h
  simp only [X]
  cases hf : E.P.funcs[g]? with
  | none => rw [hf] at h; cases h
  | some fn =>
    rw [hf] at h
    simp only at h ⊢
    cases hb : fn.body with
    | none => rw [hb] at h; cases h
    | some c =>
      rw [hb] at h
      simp only at h ⊢
      cases hn : Nat.ble fn.ntmps 256 with
      | false => rw [hn] at h; cases h
      | true =>
        rw [hn] at h
        have hn := Nat.le_of_ble_eq_true hn
        have h : jEnt2 (Nat.ble (lenJ args) fn.ntmps) fn.ntmps c (cRes E.P E.G fn.results.toList) plain args (JX E f) st = .ret v st' := h
        cases hl : Nat.ble (lenJ args) fn.ntmps with
        | false => rw [hl] at h; cases h
        | true =>
          rw [hl] at h
          have h : jEnd (JX E f (.code fn.ntmps c) (initJ args 0 (jEmpty false)) st) plain fn.ntmps (cRes E.P E.G fn.results.toList) (JX E f) = .ret v st' := h
          rw [init_eq fn.ntmps args hl hn]
          simp only
          cases hx : JX E f (.code fn.ntmps c) (initJ args 0 (jEmpty false)) st with
          | ret _ _ => rw [hx] at h; cases h
          | bad => rw [hx] at h; cases h
          | ok e1 j1 st1 =>
            rw [hx] at h
            rw [ih (.code fn.ntmps c) hn _ _ _ _ _ hx]
            have key : jDf (jDs j1) plain fn.ntmps (cRes E.P E.G fn.results.toList) (JX E f) j1 st1 = .ret v st' →
                (match (toFr fn.ntmps j1).ds with
                  | [] => (match resultsX E.P E.G fn (toFr fn.ntmps j1) st1 with | some v => Res.ret v st1 | none => .bad)
                  | d :: ds => bif plain then .bad else (match X E f (.leave (d :: ds)) (toFr fn.ntmps j1) st1 with
                    | .ok _ _ st => (match resultsX E.P E.G fn (toFr fn.ntmps j1) st with | some v => .ret v st | none => .bad)
                    | _ => .bad)) = .ret v st' := by
              intro h
              rw [jDs_eq] at h
              rw [show (toFr fn.ntmps j1).ds = j1.ds from rfl]
              have rv : ∀ st2, jRv ((cRes E.P E.G fn.results.toList).run j1 st2) st2 = .ret v st' → (match resultsX E.P E.G fn (toFr fn.ntmps j1) st2 with | some v => Res.ret v st2 | none => .bad) = .ret v st' := by
                intro st2 h
                rw [cRes_eq fn.ntmps] at h
                cases hr : resultsX E.P E.G fn (toFr fn.ntmps j1) st2 with
                | none => rw [hr] at h; cases h
                | some v => rw [hr] at h; cases h; rfl
              cases hds : j1.ds with
              | nil => rw [hds] at h; exact rv _ h
              | cons d ds =>
                rw [hds] at h
                have h : jDf2 plain (d :: ds) fn.ntmps (cRes E.P E.G fn.results.toList) (JX E f) j1 st1 = .ret v st' := h
                cases plain with
                | true => cases h
                | false =>
                  have h : jLv (JX E f (.leave fn.ntmps (d :: ds)) j1 st1) j1 (cRes E.P E.G fn.results.toList) = .ret v st' := h
                  simp only [cond_false]
                  cases hx2 : JX E f (.leave fn.ntmps (d :: ds)) j1 st1 with
                  | ret _ _ => rw [hx2] at h; cases h
                  | bad => rw [hx2] at h; cases h
                  | ok e2 j2 st2 =>
                    rw [hx2] at h
                    rw [ih (.leave fn.ntmps (d :: ds)) hn _ _ _ _ _ hx2]
                    exact rv _ h
            cases e1 with
            | normal => exact key h
            | exit i => cases h
            | ret => exact key h

theorem yield_ok (ih : ∀ c, JOK E f c) (b : Nat) (args : List AV) {st st' : St} {v : AV} (fr : Fr)
    (h : jYield b args (JX E f) st = .ret v st') : X E (f + 1) (.yield b args) fr st = .ret v st' := by
  unfold jYield at h
  simp only [X]
  split at h
  · rename_i fr ps assign body hg
    rw [hg]
    simp only
    cases hc : (Nat.ble fr.n 256 && trEq (trOf (fun i => GF.run (selF i) (ofFr fr)) 256) fr.t) with
    | false => rw [hc] at h; cases h
    | true =>
      rw [hc] at h
      simp only [cond_true] at h
      rw [Bool.and_eq_true] at hc
      have hn := Nat.le_of_ble_eq_true hc.1
      have hfr := ofFr_eq fr hn hc.2
      split at h
      · rename_i j' hp
        have hp := putAllJ_ok _ _ _ _ hp
        rw [hfr] at hp
        rw [hp]
        simp only
        split at h
        · rename_i j2 st2 hx
          rw [ih (.code fr.n assign) hn _ _ _ _ _ hx]
          simp only
          split at h
          · rename_i fr3 ps3 as3 body3 hg3
            rw [hg3]
            simp only
            split at h
            · rename_i v4 st4 hst4
              rw [hst4]
              simp only
              split at h
              · rename_i e5 j5 st5 hx5
                rw [ih (.code fr.n body) hn _ _ _ _ _ hx5]
                simp only
                split at h
                · rename_i fr6 ps6 as6 body6 hg6
                  rw [hg6]
                  simp only
                  split at h
                  · rename_i v7 st7 hst7
                    rw [hst7]
                    cases h
                    rfl
                  · cases h
                · cases h
              · cases h
            · cases h
          · cases h
        · cases h
      · cases h
  · cases h

theorem jok : ∀ (f : Nat) (c : JCmd), JOK E f c
  | 0, c => by
    cases c with
    | code n c => intro _ j st e j' st' h; cases h
    | ops n all rest => intro _ j st e j' st' h; cases h
    | quiet n all todo => intro _ j st e j' st' h; cases h
    | draw n all todo recs dn ld => intro _ j st e j' st' h; cases h
    | call g args => intro j st v st' fr h; cases h
    | enter p g args => intro j st v st' fr h; cases h
    | leave n ds => intro _ j st e j' st' h; cases h
    | yield b args => intro j st v st' fr h; cases h
  | f + 1, c => by
    have ih := jok f
    cases c with
    | code n c => intro hn j st e j' st' h; exact code_ok ih hn c h
    | ops n all rest => intro hn j st e j' st' h; exact cOps_ok ih hn all rest h
    | quiet n all todo => intro hn j st e j' st' h recs dn ld hq hok; exact quiet_ok ih hn all todo h recs dn ld hq hok
    | draw n all todo recs dn ld => intro hn j st e j' st' h; exact draw_ok ih hn all todo recs dn ld h
    | call g args =>
      intro j st v st' fr h
      have h : jCall (E.S g args st) g args (JX E f) j st = .ret v st' := h
      simp only [X]
      cases hs : E.S g args st with
      | none => rw [hs] at h; exact ih (.enter false g args) _ _ _ _ fr h
      | some p => rw [hs] at h; cases h; rfl
    | enter p g args => intro j st v st' fr h; exact enter_ok ih p g args fr h
    | leave n ds => intro hn j st e j' st' h; exact leave_ok ih hn ds h
    | yield b args => intro j st v st' fr h; exact yield_ok ih b args fr h
/-- A run of a call by the executor with compiled commands is one of the executor. -/
theorem JX_enter {g : Nat} {args : List AV} {j : JF} {st st' : St} {v : AV} (h : JX E f (.enter false g args) j st = .ret v st') (fr : Fr) : X E f (.enter false g args) fr st = .ret v st' :=
  jok f (.enter false g args) _ _ _ _ fr h
end
end Go.Ax

/-
  AxK1: known calls: what a closed call returned once, it returns always.
-/
namespace Go.Ax
open Go Go.RowKit

/-! ### Values without addresses -/
mutual
def pfree : AV → Bool
  | .v _ => true
  | .str _ _ => true
  | .agg l => pfreeL l
  | .tup l => pfreeL l
  | .ifc _ x => pfree x
  | _ => false
def pfreeL : List AV → Bool
  | [] => true
  | a :: l => pfree a && pfreeL l
end
mutual
theorem pfree_VR {φ φ' : PM} : ∀ (a : AV) (y : Value), pfree a = true → VR φ a y → VR φ' a y
  | .v _, _, _, e => by simpa only [VR] using e
  | .str _ _, _, _, e => by simpa only [VR] using e
  | .ifc _ x, _, h, e => by
    simp only [VR] at e ⊢; obtain ⟨z, h1, h2⟩ := e
    exact ⟨z, h1, pfree_VR x z (by simpa only [pfree] using h) h2⟩
  | .agg l, _, h, e => by
    simp only [VR] at e ⊢; obtain ⟨ys, h1, h2⟩ := e
    exact ⟨ys, h1, pfreeL_VR l _ (by simpa only [pfree] using h) h2⟩
  | .tup l, _, h, e => by
    simp only [VR] at e ⊢; obtain ⟨ys, h1, h2⟩ := e
    exact ⟨ys, h1, pfreeL_VR l _ (by simpa only [pfree] using h) h2⟩
  | .ptr _ _, _, h, _ => by simp [pfree] at h
  | .sl _ _ _ _ _ _, _, h, _ => by simp [pfree] at h
  | .map _, _, h, _ => by simp [pfree] at h
  | .fn _ _ _, _, h, _ => by simp [pfree] at h
  | .yld _, _, h, _ => by simp [pfree] at h
theorem pfreeL_VR {φ φ' : PM} : ∀ (l : List AV) (ys : List Value), pfreeL l = true → VRs φ l ys → VRs φ' l ys
  | [], _, _, e => by simpa only [VRs] using e
  | a :: l, _, h, e => by
    simp only [pfreeL, Bool.and_eq_true] at h
    simp only [VRs] at e ⊢; obtain ⟨y, m, h1, h2, h3⟩ := e
    exact ⟨y, m, h1, pfree_VR a y h.1 h2, pfreeL_VR l m h.2 h3⟩
end
def pfreeE : List (AV × AV) → Bool
  | [] => true
  | (a, b) :: l => pfree a && pfree b && pfreeE l
theorem pfreeE_ERs {φ φ' : PM} : ∀ (l : List (AV × AV)) (ys : List MapEntry), pfreeE l = true → ERs φ l ys → ERs φ' l ys
  | [], _, _, e => e
  | (a, b) :: l, _, h, ⟨y, m, h1, h2, h3, h4⟩ => by
    simp only [pfreeE, Bool.and_eq_true] at h
    exact ⟨y, m, h1, pfree_VR a _ h.1.1 h2, pfree_VR b _ h.1.2 h3, pfreeE_ERs l m h.2 h4⟩
def esEq : List (AV × AV) → List (AV × AV) → Bool
  | [], [] => true
  | (a, b) :: l, (c, d) :: m => avEq a c && avEq b d && esEq l m
  | _, _ => false
theorem esEq_eq : ∀ (a b : List (AV × AV)), esEq a b = true → a = b
  | [], [], _ => rfl
  | [], _ :: _, h => by simp [esEq] at h
  | _ :: _, [], h => by simp [esEq] at h
  | (a, b) :: l, (c, d) :: m, h => by
    simp only [esEq, Bool.and_eq_true] at h
    rw [avEq_eq _ _ h.1.1, avEq_eq _ _ h.1.2, esEq_eq l m h.2]

/-! ### Calls that were run once -/
/-- A call with values without addresses, which returns one. -/
def PureOK (P : Program) (G : Glob) (g : FuncId) (args : List AV) (v : AV) : Prop :=
  ∀ B w (vs : Array Value), B ≤ w.heap.size → GR G B w → VRs (fun _ => none) args vs.toList → CallOK P g vs w fun y w' => VR (fun _ => none) v y ∧ Below w.heap.size w w'
/-- A call without arguments, which returns a new map. -/
def MapOK (P : Program) (G : Glob) (g : FuncId) (es : List (AV × AV)) : Prop :=
  ∀ B w (vs : Array Value), B ≤ w.heap.size → GR G B w → VRs (fun _ => none) [] vs.toList → CallOK P g vs w fun y w' =>
    ∃ p : PB, y = .map (some p.blk) ∧ w.heap.size ≤ p.blk ∧ p.blk < w'.heap.size ∧ ObR (fun _ => none) (.map es) p w' ∧ Below w.heap.size w w'

def st0 : St := ⟨1, .n none .e .e⟩
theorem HR.start {G : Glob} {B : Nat} {w : World} (hB : B ≤ w.heap.size) (hG : GR G B w) : HR G w.heap.size (fun _ => none) st0 w where
  base := Nat.le_refl _
  dom := fun _ _ e => by cases e
  objs := fun _ _ _ _ e => by cases e
  sep := fun _ _ _ _ _ _ _ e => by cases e
  glob := fun g l e => let ⟨h1, h2⟩ := hG g l e; ⟨by omega, h2⟩

theorem CallOK.mono {P : Program} {g : FuncId} {vs : Array Value} {w : World} {R R' : Value → World → Prop} (h : CallOK P g vs w R) (hr : ∀ y w', R y w' → R' y w') : CallOK P g vs w R' := by
  rcases h with ⟨y, w', h1, h2⟩ | ⟨h1, h2⟩
  · exact .inl ⟨y, w', h1, hr _ _ h2⟩
  · exact .inr ⟨h1, h2.mono fun e w' ⟨y, he, hy⟩ => ⟨y, he, hr _ _ hy⟩⟩

/-- The run returned that value. -/
noncomputable def pureRun (E : Env) (f : Nat) (g : Nat) (args : List AV) (v : AV) : Bool :=
  match JX E f (.enter false g args) (jEmpty false) st0 with
  | .ret v' _ => avEq v' v && pfree v
  | _ => false
/-- The run returned a new map with these entries. -/
noncomputable def mapRun (E : Env) (f : Nat) (g : Nat) (es : List (AV × AV)) : Bool :=
  match JX E f (.enter false g []) (jEmpty false) st0 with
  | .ret (.map b) st1 => (match fGet st1.hp b with | some (.map es') => esEq es' es && pfreeE es | _ => false)
  | _ => false

section
variable {E : Env}
theorem enter_ret (hE : E.SOK) (hP : POK E.P) {f : Nat} {g : Nat} {args : List AV} {v : AV} {st1 : St} (h : JX E f (.enter false g args) (jEmpty false) st0 = .ret v st1)
    {B : Nat} {w : World} {vs : Array Value} (hB : B ≤ w.heap.size) (hG : GR E.G B w) (hv : VRs (fun _ => none) args vs.toList) :
    CallOK E.P g vs w (RetP E.G w.heap.size (fun _ => none) 1 w v st1) := by
  have hx := JX_enter h ⟨0, .e, false, []⟩
  obtain ⟨h1, h2, _⟩ := (sound hE hP f).enter false g args _ _ _ _ hx w.heap.size (fun _ => none) w vs (HR.start hB hG) hv
  exact .inr ⟨h1, h2⟩
theorem pureOK_of_run (hE : E.SOK) (hP : POK E.P) {f : Nat} {g : Nat} {args : List AV} {v : AV} (h : pureRun E f g args v = true) : PureOK E.P E.G g args v := by
  unfold pureRun at h
  split at h
  · rename_i v' st1 hr
    rw [Bool.and_eq_true] at h
    have := avEq_eq _ _ h.1
    subst this
    intro B w vs hB hG hv
    refine (enter_ret hE hP hr hB hG hv).mono ?_
    rintro y w' ⟨φ', h1, h2, h3, h4⟩
    exact ⟨pfree_VR _ _ h.2 h2, h4⟩
  · cases h
/-- The same, of a function with a body. -/
theorem calls_of_run (hE : E.SOK) (hP : POK E.P) {f : Nat} {g : Nat} {args : List AV} {v : AV} (h : pureRun E f g args v = true) {B : Nat} {w : World} {vs : Array Value}
    (hB : B ≤ w.heap.size) (hG : GR E.G B w) (hv : VRs (fun _ => none) args vs.toList) :
    CallsIn Fence.wide 0 E.P g vs w (EndP fun y w' => VR (fun _ => none) v y ∧ Below w.heap.size w w') := by
  unfold pureRun at h
  split at h
  · rename_i v' st1 hr
    rw [Bool.and_eq_true] at h
    have := avEq_eq _ _ h.1
    subst this
    have hx := JX_enter hr ⟨0, .e, false, []⟩
    obtain ⟨_, h2, _⟩ := (sound hE hP f).enter false g args _ _ _ _ hx w.heap.size (fun _ => none) w vs (HR.start hB hG) hv
    refine h2.mono ?_
    rintro e w' ⟨y, he, φ', _, h1, _, h4⟩
    exact ⟨y, he, pfree_VR _ _ h.2 h1, h4⟩
  · cases h
theorem mapOK_of_run (hE : E.SOK) (hP : POK E.P) {f : Nat} {g : Nat} {es : List (AV × AV)} (h : mapRun E f g es = true) : MapOK E.P E.G g es := by
  unfold mapRun at h
  split at h
  · rename_i b st1 hr
    rw [fGet_eq] at h
    split at h
    · rename_i es' hg
      rw [Bool.and_eq_true] at h
      have := esEq_eq _ _ h.1
      subst this
      intro B w vs hB hG hv
      refine (enter_ret hE hP hr hB hG hv).mono ?_
      rintro y w' ⟨φ', h1, h2, h3, h4⟩
      simp only [VR] at h2
      obtain ⟨p, hp, rfl⟩ := h2
      obtain ⟨d1, d2, d3⟩ := h3.dom b p hp
      refine ⟨p, rfl, d2, d3, ?_, h4⟩
      obtain ⟨ces, clk, o1, o2⟩ := h3.objs b _ p hg hp
      exact ⟨ces, clk, o1, pfreeE_ERs _ _ h.2 o2⟩
    · cases h
  · cases h
end

/-! ### The table of known calls -/
inductive KF where
  | none
  | ext (x : Ext)
  | pure (l : List (List AV × AV))
  | map (es : List (AV × AV))
def findP (args : List AV) : List (List AV × AV) → Option AV
  | [] => none
  | (a, v) :: l => bif avEqL args a then some v else findP args l
noncomputable def kPure (o : Option AV) : St → Option (AV × St) := Option.rec (motive := fun _ => St → Option (AV × St)) (fun _ => none) (fun v st => some (v, st)) o
noncomputable def kMap2 (o : Option St) : Nat → Option (AV × St) := Option.rec (motive := fun _ => Nat → Option (AV × St)) (fun _ => none) (fun st n => some (.map n, st)) o
noncomputable def kMap (args : List AV) : List (AV × AV) → St → Option (AV × St) := List.rec (motive := fun _ => List (AV × AV) → St → Option (AV × St)) (fun es st => kMap2 (jNew st (.map es)) st.nxt) (fun _ _ _ _ _ => none) args
noncomputable def KF.run (k : KF) : List AV → St → Option (AV × St) := KF.rec (motive := fun _ => List AV → St → Option (AV × St)) (fun _ _ => Option.none) (fun x args st => extX x args st)
  (fun l args st => kPure (findP args l) st) (fun es args st => kMap args es st) k
def kFind : List (Nat × KF) → Nat → KF
  | [], _ => .none
  | (k, x) :: l, g => bif Nat.beq k g then x else kFind l g
noncomputable def kS (t : List (Nat × KF)) (g : Nat) (args : List AV) (st : St) : Option (AV × St) := KF.run (kFind t g) args st

def KFOK (P : Program) (G : Glob) (g : Nat) : KF → Prop
  | .none => True
  | .ext x => ExtOK P g x
  | .pure l => ∀ p ∈ l, PureOK P G g p.1 p.2
  | .map es => MapOK P G g es

section
variable {P : Program} {G : Glob}
theorem HR.grow {B : Nat} {φ : PM} {st : St} {w w' : World} (h : HR G B φ st w) (hb : Below w.heap.size w w') : HR G B φ st w' where
  base := by have := h.base; have := hb.size; omega
  dom := fun b p e => by have := h.dom b p e; have := hb.size; omega
  objs := fun b o p e e' => (h.objs b o p e e').heap (hb.block _ (h.dom b p e').2.2)
  sep := h.sep
  glob := h.glob.below (hb.mono h.base)
theorem HR.addK {B : Nat} {φ : PM} {st : St} {w w' : World} (h : HR G B φ st w) (hb : Below w.heap.size w w') (o : AO) (p : PB) (h1 : w.heap.size ≤ p.blk) (h2 : p.blk < w'.heap.size) (ho : ObR (φ.put st.nxt p) o p w') :
    HR G B (φ.put st.nxt p) ⟨st.nxt + 1, st.hp.set st.nxt o⟩ w' := by
  have hle := PM.put_le p (h.fresh_none (Nat.le_refl st.nxt))
  have hg := h.grow hb
  refine ⟨hg.base, ?_, ?_, ?_, hg.glob⟩
  · intro b q e
    unfold PM.put at e
    split at e
    · rename_i hb; cases e; exact ⟨by simp only; omega, by have := h.base; omega, h2⟩
    · have := hg.dom b q e; exact ⟨by simp only; omega, this.2.1, this.2.2⟩
  · intro b o' q e e'
    rw [Tr.get_set] at e
    unfold PM.put at e'
    split at e
    · rename_i hb; subst hb; cases e; rw [if_pos rfl] at e'; cases e'; exact ho
    · rename_i hb; rw [if_neg hb] at e'
      exact (hg.objs b o' q e e').mono hle
  · intro b b' q q' o1 o2 hne e1 e2 g1 g2 l1 l2 hblk
    rw [Tr.get_set] at g1 g2
    unfold PM.put at e1 e2
    split at g1
    · rename_i hb; subst hb; rw [if_pos rfl] at e1; cases e1
      rw [if_neg (fun e => hne e.symm)] at e2
      have := (h.dom b' q' e2).2.2; omega
    · rename_i hb
      rw [if_neg hb] at e1
      split at g2
      · rename_i hb'; subst hb'; rw [if_pos rfl] at e2; cases e2
        have := (h.dom b q e1).2.2; omega
      · rename_i hb'; rw [if_neg hb'] at e2
        exact h.sep b b' q q' o1 o2 hne e1 e2 g1 g2 l1 l2 hblk

theorem findP_mem {args : List AV} {v : AV} : ∀ (l : List (List AV × AV)), findP args l = some v → (args, v) ∈ l
  | [], h => by simp [findP] at h
  | (a, u) :: l, h => by
    simp only [findP] at h
    rw [cond_eq_ite] at h
    split at h
    · rename_i he
      cases h
      rw [avEqL_eq _ _ he]; exact List.mem_cons_self
    · exact List.mem_cons_of_mem _ (findP_mem l h)
theorem kFind_ok : ∀ (t : List (Nat × KF)) (g : Nat), (∀ p ∈ t, KFOK P G p.1 p.2) → KFOK P G g (kFind t g)
  | [], _, _ => trivial
  | (k, x) :: l, g, h => by
    simp only [kFind]
    cases hk : Nat.beq k g with
    | true =>
      rw [Nat.beq_eq] at hk
      subst hk
      exact h _ List.mem_cons_self
    | false => exact kFind_ok l g fun p hp => h p (List.mem_cons_of_mem _ hp)

/-- Arguments of a known call are values without addresses. -/
def pureArgs : List (List AV × AV) → Bool
  | [] => true
  | (a, v) :: l => pfreeL a && pfree v && pureArgs l
def pureAll : List (Nat × KF) → Bool
  | [] => true
  | (_, .pure l) :: t => pureArgs l && pureAll t
  | _ :: t => pureAll t
theorem pureArgs_mem : ∀ (l : List (List AV × AV)), pureArgs l = true → ∀ p ∈ l, pfreeL p.1 = true ∧ pfree p.2 = true
  | [], _, p, hp => by cases hp
  | (a, v) :: l, h, p, hp => by
    simp only [pureArgs, Bool.and_eq_true] at h
    rcases List.mem_cons.1 hp with rfl | hp
    · exact h.1
    · exact pureArgs_mem l h.2 p hp
def KF.args : KF → Bool
  | .pure l => pureArgs l
  | _ => true
theorem kFind_args : ∀ (t : List (Nat × KF)) (g : Nat), pureAll t = true → (kFind t g).args = true
  | [], _, _ => rfl
  | (k, x) :: l, g, h => by
    simp only [kFind]
    have hl : pureAll l = true := by
      cases x <;> simp only [pureAll, Bool.and_eq_true] at h <;> first | exact h.2 | exact h
    cases Nat.beq k g with
    | true =>
      cases x <;> simp only [pureAll, Bool.and_eq_true] at h <;> first | exact h.1 | rfl
    | false => exact kFind_args l g hl

theorem kS_sound (t : List (Nat × KF)) (ht : ∀ p ∈ t, KFOK P G p.1 p.2) (ha : pureAll t = true) : Env.SOK ⟨P, G, kS t⟩ := by
  intro g args st v st' h
  have hk := kFind_ok t g ht
  have hk2 := kFind_args t g ha
  have h : KF.run (kFind t g) args st = some (v, st') := h
  cases hf : kFind t g with
  | none => rw [hf] at h; cases h
  | ext x =>
    rw [hf] at h hk
    exact extX_sound hk h
  | pure l =>
    rw [hf] at h hk hk2
    have h : kPure (findP args l) st = some (v, st') := h
    cases hp : findP args l with
    | none => rw [hp] at h; cases h
    | some u =>
      rw [hp] at h
      cases h
      refine ⟨Nat.le_refl _, fun B φ w vs hr hv => ?_⟩
      have hm := findP_mem l hp
      obtain ⟨p1, p2⟩ := pureArgs_mem l hk2 _ hm
      refine (hk _ hm B w vs hr.base hr.glob (pfreeL_VR _ _ p1 hv)).mono ?_
      rintro y w' ⟨h1, h2⟩
      exact ⟨φ, PM.ext_refl _ _, pfree_VR _ _ p2 h1, hr.grow h2, h2.mono hr.base⟩
  | map es =>
    rw [hf] at h hk
    have h : kMap args es st = some (v, st') := h
    cases args with
    | cons a l => cases h
    | nil =>
      have h : kMap2 (jNew st (.map es)) st.nxt = some (v, st') := h
      obtain ⟨st1, h1, h2⟩ := jNew_spec st (.map es)
      rw [h1] at h
      cases h
      have e := strict_st h2
      subst e
      refine ⟨by simp [fresh], fun B φ w vs hr hv => ?_⟩
      refine (hk B w vs hr.base hr.glob (pfreeL_VR _ _ rfl hv)).mono ?_
      rintro y w' ⟨p, rfl, hp1, hp2, ho, hb⟩
      refine ⟨φ.put st.nxt p, PM.put_ext p (hr.fresh_none (Nat.le_refl _)), ?_, ?_, hb.mono hr.base⟩
      · simp only [VR]; exact ⟨p, PM.put_same _ _ _, rfl⟩
      · exact hr.addK hb _ p hp1 hp2 (ho.mono fun _ _ e => by cases e)
end
end Go.Ax
