/-
  AxCore: an executor of closed calls over an abstract memory (definitions).
-/
import Derived.Orders
import Derived.KernelRfl
import Derived.Below
import Derived.Laws.Sem
import Derived.Laws.World
import Derived.Laws.Strings
import Derived.Laws.BytesString
import Derived.Laws.RangeString
import Derived.Laws.StructEq
namespace Go.Ax
open Go

/-- A binary trie over numbers. -/
inductive Tr (α : Type) where
  | e
  | n (x : Option α) (l r : Tr α)

def Tr.get {α : Type} : Tr α → Nat → Option α
  | .e, _ => none
  | .n x l r, i => bif Nat.beq i 0 then x else bif Nat.beq (Nat.mod i 2) 0 then r.get (Nat.sub (Nat.div i 2) 1) else l.get (Nat.div i 2)

def Tr.put {α : Type} : Nat → Tr α → Nat → α → Tr α
  | 0, t, _, _ => t
  | f + 1, .e, i, y =>
    bif Nat.beq i 0 then .n (some y) .e .e
    else bif Nat.beq (Nat.mod i 2) 0 then
      (match Tr.put f .e (Nat.sub (Nat.div i 2) 1) y with | .e => .e | .n a b c => .n none .e (.n a b c))
    else
      (match Tr.put f .e (Nat.div i 2) y with | .e => .e | .n a b c => .n none (.n a b c) .e)
  | f + 1, .n x l r, i, y =>
    bif Nat.beq i 0 then .n (some y) l r
    else bif Nat.beq (Nat.mod i 2) 0 then
      (match Tr.put f r (Nat.sub (Nat.div i 2) 1) y with | .e => .e | .n a b c => .n x l (.n a b c))
    else
      (match Tr.put f l (Nat.div i 2) y with | .e => .e | .n a b c => .n x (.n a b c) r)

def Tr.set {α : Type} (t : Tr α) (i : Nat) (y : α) : Tr α := Tr.put (i + 1) t i y

/-- Abstract values: a value without addresses; a text as a number; addresses by abstract block numbers. -/
inductive AV where
  | v (x : Value)
  | str (n c : Nat)
  | ptr (b off : Nat)
  | sl (b off len lo : Nat) (ex : Bool) (es : Nat)
  | map (b : Nat)
  | fn (f : Nat) (first cap : List AV)
  | ifc (t : Nat) (x : AV)
  | yld (b : Nat)
  | agg (cs : List AV)
  | tup (cs : List AV)
  deriving Inhabited

/-- The bytes of a text that is kept as a number. -/
def bl : Nat → Nat → List UInt8
  | 0, _ => []
  | n + 1, c => UInt8.ofNat c :: bl n (c / 256)
def mkB (n c : Nat) : ByteArray := ⟨(bl n c).toArray⟩
def encL : List UInt8 → Nat
  | [] => 0
  | b :: l => b.toNat + 256 * encL l

mutual
def AV.of : Value → AV
  | .string s => .str s.size (encL s.data.toList)
  | .agg cs => .agg (cs.toList.map AV.of1)
  | .tuple cs => .tup (cs.toList.map AV.of1)
  | x => .v x
def AV.of1 : Value → AV
  | .string s => .str s.size (encL s.data.toList)
  | x => .v x
end

def U : AV := .v undef

/-- Deferred calls: the mark of a range over a function; a function's call. -/
inductive AD where
  | mark (b : Nat)
  | call (g : Nat) (args : List AV)

/-- A frame: its temporaries; is it a round's of a range over a function; its deferred calls. -/
structure Fr where
  n : Nat
  t : Tr AV
  rd : Bool
  ds : List AD

/-- How a piece of code ends. -/
inductive AX where
  | normal
  | exit (id : Nat)
  | ret

/-- Abstract objects. `fz`: 0: nothing is frozen; 1: nothing within the block is; k + 2: at most the first k cells are. `mate` = k + 1: block k may share the memory of this one. -/
inductive AO where
  | row (d : Tr AV) (n : Nat) (el : TypeId) (ex : Bool) (fz mate : Nat)
  | map (es : List (AV × AV))
  | iter (n c pos : Nat)
  | loop (fr : Fr) (ps : List Tmp) (assign body : Code) (busy : Bool) (pend : AX)
  | defd
  | dead

structure St where
  nxt : Nat
  hp : Tr AO

def ev (fr : Fr) : Operand → Option AV
  | .tmp t => fr.t.get t
  | .const v => some (.of v)
  | .global g => some (.v (.pointer (some ⟨g, 0, none⟩)))
  | .func f => some (.fn f [] [])

/-- The value into a temporary, if there is one. -/
def Fr.put (fr : Fr) (dst : Option Tmp) (v : AV) : Option Fr :=
  match dst with
  | none => some fr
  | some d => bif Nat.blt d fr.n then (match fr.t.set d v with | .e => none | .n a b c => some ⟨fr.n, .n a b c, fr.rd, fr.ds⟩) else none

/-! ### Numbers -/

def bitsHalf : IntKind → Nat
  | .i8 | .u8 => 128
  | .i16 | .u16 => 32768
  | .i32 | .u32 => 2147483648
  | .i64 | .u64 => 9223372036854775808
def isSigned : IntKind → Bool
  | .i8 | .i16 | .i32 | .i64 => true
  | _ => false
/-- `IntKind.wrap`, quick in the kernel. -/
def wrapK (k : IntKind) (n : Int) : Int :=
  match isSigned k, n with
  | true, .ofNat m => bif Nat.blt m (bitsHalf k) then .ofNat m else
      (let r := Nat.mod m (2 * bitsHalf k)
       bif Nat.blt r (bitsHalf k) then .ofNat r else Int.negOfNat (2 * bitsHalf k - r))
  | true, .negSucc m => bif Nat.blt m (bitsHalf k) then .negSucc m else
      (let r := Nat.mod m (2 * bitsHalf k)
       bif Nat.blt r (bitsHalf k) then .negSucc r else .ofNat (2 * bitsHalf k - 1 - r))
  | false, .ofNat m => .ofNat (Nat.mod m (2 * bitsHalf k))
  | false, .negSucc m => .ofNat (2 * bitsHalf k - 1 - Nat.mod m (2 * bitsHalf k))

/-- Numbers as literals. -/
def mkI (k : IntKind) (n : Int) : AV :=
  match n with
  | .ofNat m => (match m with | 0 => .v (.int k (.ofNat 0)) | j + 1 => .v (.int k (.ofNat (Nat.succ j))))
  | .negSucc m => (match m with | 0 => .v (.int k (.negSucc 0)) | j + 1 => .v (.int k (.negSucc (Nat.succ j))))
def mkN (n : Nat) : AV := match n with | 0 => .v (.int .i64 (.ofNat 0)) | j + 1 => .v (.int .i64 (.ofNat (Nat.succ j)))
def mkStr (n c : Nat) : AV :=
  match n with
  | 0 => .str 0 0
  | j + 1 => (match c with | 0 => .str (Nat.succ j) 0 | i + 1 => .str (Nat.succ j) (Nat.succ i))
def mkBool (b : Bool) : AV := match b with | true => .v (.bool true) | false => .v (.bool false)

def ieq (a b : Int) : Bool :=
  match a, b with
  | .ofNat x, .ofNat y => Nat.beq x y
  | .negSucc x, .negSucc y => Nat.beq x y
  | _, _ => false
def ilt (a b : Int) : Bool :=
  match a, b with
  | .ofNat x, .ofNat y => Nat.blt x y
  | .negSucc x, .negSucc y => Nat.blt y x
  | .negSucc _, .ofNat _ => true
  | .ofNat _, .negSucc _ => false

def kindEq : IntKind → IntKind → Bool
  | .i8, .i8 | .i16, .i16 | .i32, .i32 | .i64, .i64 | .u8, .u8 | .u16, .u16 | .u32, .u32 | .u64, .u64 => true
  | _, _ => false

def nonNeg : Int → Option Nat
  | .ofNat m => some m
  | .negSucc _ => none

/-- What needs no memory, by the model's own text. -/
def prun {α : Type} (P : Program) : Sem α → Option α
  | .pure a => some a
  | .program k => prun P (k P)
  | .mark _ k => prun P k
  | _ => none
def bitsI (op : BinOp) (k : IntKind) (a b : Int) : Option AV :=
  match Op.intBits op k a b with
  | .pure (.int k n) => some (mkI k n)
  | _ => none

def binI (op : BinOp) (k : IntKind) (a : Int) (k' : IntKind) (b : Int) : Option AV :=
  match op with
  | .shl => match nonNeg b with
    | some m => some (mkI k (wrapK k (a * Int.ofNat (Nat.pow 2 (Nat.min m (k.bits))))))
    | none => none
  | .shr => match nonNeg b with
    | some m => some (mkI k (a.fdiv (Int.ofNat (Nat.pow 2 (Nat.min m (k.bits))))))
    | none => none
  | _ => bif kindEq k k' then
    (match op with
     | .add => some (mkI k (wrapK k (a + b)))
     | .sub => some (mkI k (wrapK k (a - b)))
     | .mul => some (mkI k (wrapK k (a * b)))
     | .eql => some (mkBool (ieq a b))
     | .neq => some (mkBool (!(ieq a b)))
     | .lss => some (mkBool (ilt a b))
     | .leq => some (mkBool (!(ilt b a)))
     | .gtr => some (mkBool (ilt b a))
     | .geq => some (mkBool (!(ilt a b)))
     | .quo => bif ieq b 0 then none else some (mkI k (wrapK k (a.tdiv b)))
     | .rem => bif ieq b 0 then none else some (mkI k (a.tmod b))
     | .and | .or | .xor | .andNot => bitsI op k a b
     | _ => none)
    else none

/-! ### Texts -/
def pw (n : Nat) : Nat := Nat.pow 256 n
def strEq (n c n' c' : Nat) : Bool := (Nat.beq n n') && Nat.beq (Nat.mod c (pw n)) (Nat.mod c' (pw n))
def strAdd (n c n' c' : Nat) : AV := mkStr (n + n') (Nat.mod c (pw n) + pw n * c')
def strAt (c i : Nat) : Nat := Nat.mod (Nat.div c (pw i)) 256
def strSub (c l h : Nat) : AV := mkStr (h - l) (Nat.mod (Nat.div c (pw l)) (pw (h - l)))
def strLt : Nat → Nat → Nat → Nat → Nat → Bool
  | 0, _, _, _, _ => false
  | f + 1, n, c, n', c' =>
    match n, n' with
    | _, 0 => false
    | 0, _ + 1 => true
    | m + 1, m' + 1 =>
      bif Nat.blt (Nat.mod c 256) (Nat.mod c' 256) then true
      else bif Nat.beq (Nat.mod c 256) (Nat.mod c' 256) then strLt f m (Nat.div c 256) m' (Nat.div c' 256) else false

def binS (op : BinOp) (n c n' c' : Nat) : Option AV :=
  match op with
  | .add => bif Nat.blt (n + n') 4294967296 then some (strAdd n c n' c') else none
  | .eql => some (mkBool (strEq n c n' c'))
  | .neq => some (mkBool (!(strEq n c n' c')))
  | .lss => some (mkBool (strLt (n + 1) n c n' c'))
  | .geq => some (mkBool (!(strLt (n + 1) n c n' c')))
  | .gtr => some (mkBool (!(strLt (n + 1) n c n' c' || strEq n c n' c')))
  | .leq => some (mkBool (strLt (n + 1) n c n' c' || strEq n c n' c'))
  | _ => none

mutual
def toV : AV → Option Value
  | .v x => some x
  | .str n c => some (.string (mkB n c))
  | .agg cs => (toVs cs).map fun l => .agg l.toArray
  | .tup cs => (toVs cs).map fun l => .tuple l.toArray
  | .ifc t x => (toV x).map fun y => .iface t y
  | _ => none
def toVs : List AV → Option (List Value)
  | [] => some []
  | a :: l => match toV a, toVs l with
    | some x, some y => some (x :: y)
    | _, _ => none
end

section
variable (P : Program)

def szX (t : TypeId) : Option Nat := match P.info? t with | some i => some i.size | none => none
def isAggX (t : TypeId) : Option Bool :=
  match P.underlying t with
  | some (.struct _) | some (.array _ _) => some true
  | some _ => some false
  | none => none
def zeroX (t : TypeId) : Option (List AV) :=
  match P.info? t with
  | some i => (match i.zero with
    | some (.agg cs) => some (cs.toList.map AV.of1)
    | some x => some [AV.of1 x]
    | none => none)
  | none => none
def zeroV (t : TypeId) : Option AV :=
  match P.info? t with
  | some i => (match i.zero with
    | some x => some (.of x)
    | none => none)
  | none => none
/-- Is the value one that lies in one cell? -/
def AV.one : AV → Bool
  | .v (.agg _) | .v (.tuple _) | .agg _ | .tup _ => false
  | _ => true
def allOne : List AV → Bool
  | [] => true
  | a :: l => a.one && allOne l
/-- The cells of a value. -/
def cellsX : AV → Option (List AV)
  | .agg l => bif allOne l then some l else none
  | a => bif a.one then some [a] else none

def len (l : List AV) : Nat := match l with | [] => 0 | _ :: t => len t + 1

def rd (d : Tr AV) : Nat → Nat → Option (List AV)
  | _, 0 => some []
  | off, n + 1 => match d.get off, rd d (off + 1) n with
    | some a, some l => some (a :: l)
    | _, _ => none
def wr (d : Tr AV) (off : Nat) : List AV → Tr AV
  | [] => d
  | a :: l => match d.set off a with
    | .e => .e
    | .n x y z => wr (.n x y z) (off + 1) l
def mkTr (l : List AV) : Tr AV := wr .e 0 l

def cut (l : List AV) (off n : Nat) : List AV := (l.drop off).take n
def force (l : List AV) : Option (List AV) := match l with | [] => some [] | a :: l => match force l with | some l' => some (a :: l') | none => none
def setAt (l : List AV) (off : Nat) (cs : List AV) : List AV := l.take off ++ cs ++ l.drop (off + len cs)
def fillX (pl : Nat → Option (Nat × Nat)) (ev : Operand → Option AV) : List AV → List (Nat × Operand) → Option (List AV)
  | cells, [] => some cells
  | cells, (i, x) :: rest =>
    match pl i, ev x with
    | some (off, size), some v => (match cellsX v with
      | some cs => bif Nat.beq (len cs) size && Nat.ble (off + size) (len cells) then fillX pl ev (setAt cells off cs) rest else none
      | none => none)
    | _, _ => none

def nthA {α : Type} (l : List α) (i : Nat) : Option α := match l, i with
  | [], _ => none
  | a :: _, 0 => some a
  | _ :: l, i + 1 => nthA l i
def placesX : List Field → Option (List (Nat × Nat))
  | [] => some []
  | f :: l => match szX P f.type, placesX l with
    | some s, some r => some ((f.offset, s) :: r)
    | _, _ => none
/-- What the known package-level variables hold. -/
abbrev Glob := Nat → Option (List AV)

def nth (l : List AV) (i : Nat) : Option AV := match l, i with
  | [], _ => none
  | a :: _, 0 => some a
  | _ :: l, i + 1 => nth l i

def loadX (G : Glob) (t : TypeId) (a : AV) (st : St) : Option AV :=
  match a with
  | .ptr b off => (match st.hp.get b with
    | some (.row d _ _ _ _ _) => (match isAggX P t with
      | some true => (match szX P t with
        | some n => (match rd d off n with | some l => some (.agg l) | none => none)
        | none => none)
      | some false => d.get off
      | none => none)
    | _ => none)
  | .v (.pointer (some ⟨g, off, none⟩)) => (match G g with
    | some l => (match isAggX P t with
      | some true => (match szX P t with
        | some n => bif Nat.ble (off + n) (len l) then (match force (cut l off n) with | some l => some (.agg l) | none => none) else none
        | none => none)
      | some false => nth l off
      | none => none)
    | none => none)
  | _ => none

def fieldAddrX (s : TypeId) (a : AV) (f : Nat) : Option AV :=
  match P.underlying s with
  | some (.struct fs) => (match fs[f]? with
    | some fd => (match szX P fd.type with
      | some (_ + 1) => (match a with
        | .ptr b off => (match off + fd.offset with | 0 => some (.ptr b 0) | j + 1 => some (.ptr b (Nat.succ j)))
        | .v (.pointer (some ⟨g, off, none⟩)) => some (.v (.pointer (some ⟨g, off + fd.offset, none⟩)))
        | _ => none)
      | _ => none)
    | none => none)
  | _ => none

def idxOf : AV → Option Nat
  | .v (.int _ i) => nonNeg i
  | _ => none

def indexAddrX (t : TypeId) (x i : AV) : Option AV :=
  match idxOf i with
  | none => none
  | some i => match P.underlying t with
    | some (.slice el) => (match x, szX P el with
      | .sl b off len _ _ _, some s => bif Nat.blt i len then (match off + i * s with | 0 => some (.ptr b 0) | j + 1 => some (.ptr b (Nat.succ j))) else none
      | _, _ => none)
    | some (.array n el) => (match x, szX P el with
      | .ptr b off, some s => bif Nat.blt i n then (match off + i * s with | 0 => some (.ptr b 0) | j + 1 => some (.ptr b (Nat.succ j))) else none
      | .v (.pointer (some ⟨g, off, none⟩)), some s => bif Nat.blt i n then some (.v (.pointer (some ⟨g, off + i * s, none⟩))) else none
      | _, _ => none)
    | _ => none

def partX (t : TypeId) (cs : List AV) (off : Nat) : Option AV :=
  match isAggX P t with
  | some true => (match szX P t with
    | some n => bif Nat.ble (off + n) (len cs) then (match force (cut cs off n) with | some l => some (.agg l) | none => none) else none
    | none => none)
  | some false => nth cs off
  | none => none

def indexX (t : TypeId) (x i : AV) : Option AV :=
  match idxOf i with
  | none => none
  | some i => match x with
    | .str n c => (match P.underlying t with | some .string => bif Nat.blt i n then some (mkI .u8 (Int.ofNat (strAt c i))) else none | _ => none)
    | .agg cs => (match P.underlying t with
      | some (.array n el) => (match szX P el with
        | some s => bif Nat.blt i n then partX P el cs (i * s) else none
        | none => none)
      | _ => none)
    | _ => none

def fieldX (t : TypeId) (x : AV) (f : Nat) : Option AV :=
  match x, P.underlying t with
  | .agg cs, some (.struct fs) => (match fs[f]? with
    | some fd => partX P fd.type cs fd.offset
    | none => none)
  | _, _ => none

/-- A bound of a slice expression: absent, or a number. -/
def bound (ev : Operand → Option AV) (o : Option Operand) (dflt most : Nat) : Option Nat :=
  match o with
  | none => some dflt
  | some x => match ev x with
    | some a => (match idxOf a with
      | some i => bif Nat.ble i most then (match i with | 0 => some 0 | j + 1 => some (Nat.succ j)) else none
      | none => none)
    | none => none

def mkSl (b off len lo : Nat) (ex : Bool) (es : Nat) : AV :=
  match off with
  | 0 => (match len with
    | 0 => (match lo with | 0 => .sl b 0 0 0 ex es | k + 1 => .sl b 0 0 (Nat.succ k) ex es)
    | j + 1 => (match lo with | 0 => .sl b 0 (Nat.succ j) 0 ex es | k + 1 => .sl b 0 (Nat.succ j) (Nat.succ k) ex es))
  | i + 1 => (match len with
    | 0 => (match lo with | 0 => .sl b (Nat.succ i) 0 0 ex es | k + 1 => .sl b (Nat.succ i) 0 (Nat.succ k) ex es)
    | j + 1 => (match lo with | 0 => .sl b (Nat.succ i) (Nat.succ j) 0 ex es | k + 1 => .sl b (Nat.succ i) (Nat.succ j) (Nat.succ k) ex es))

def sliceX (ev : Operand → Option AV) (st : St) (t : TypeId) (x : AV) (lo hi mx : Option Operand) : Option AV :=
  match x with
  | .str n c => (match P.underlying t, mx with
    | some .string, none => (match bound ev hi n n with
      | some h => (match bound ev lo 0 h with
        | some l => some (strSub c l h)
        | none => none)
      | none => none)
    | _, _ => none)
  | .v (.slice none 0 0) => (match P.underlying t with
    | some (.slice el) => (match szX P el with
      | some _ => (match mx with
        | some _ => (match bound ev mx 0 0, bound ev hi 0 0, bound ev lo 0 0 with
          | some 0, some 0, some 0 => (match hi with | some _ => some x | none => none)
          | _, _, _ => none)
        | none => (match bound ev hi 0 0, bound ev lo 0 0 with
          | some 0, some 0 => some x
          | _, _ => none))
      | none => none)
    | _ => none)
  | .sl b off len c ex es => (match P.underlying t with
    | some (.slice el) => (match szX P el with
      | some s => bif Nat.beq s es then
        (match mx with
         | some _ => (match bound ev mx 0 c with      -- at most what is known of the capacity
           | some m => (match hi with
             | none => none
             | some _ => (match bound ev hi 0 m with
               | some h => (match bound ev lo 0 h with
                 | some l => some (bif Nat.beq m l then mkSl b off (h - l) (m - l) true es else mkSl b (off + l * es) (h - l) (m - l) true es)
                 | none => none)
               | none => none))
           | none => none)
         | none => (match bound ev hi len c with
           | some h => (match bound ev lo 0 h with
             | some l => (bif ex then some (bif Nat.beq c l then mkSl b off (h - l) (c - l) ex es else mkSl b (off + l * es) (h - l) (c - l) ex es)
                else bif Nat.beq l 0 then some (mkSl b off h c ex es)
                else bif Nat.blt l c then some (mkSl b (off + l * es) (h - l) (c - l) ex es) else none)
             | none => none)
           | none => none))
        else none
      | none => none)
    | _ => none)
  | .ptr b off => (match st.hp.get b with
    | some (.row _ rn _ _ _ _) => (match P.underlying t, mx with
      | some (.array n el), none => (match szX P el, bound ev hi n n with
        | some s, some h => (match bound ev lo 0 h with
          | some l => bif Nat.ble (off + n * s) rn then
              some (bif Nat.beq n l then mkSl b off (h - l) (n - l) true s else mkSl b (off + l * s) (h - l) (n - l) true s) else none
          | none => none)
        | _, _ => none)
      | _, _ => none)
    | _ => none)
  | _ => none

/-- The bytes of cells as a number. -/
def bytesOf : List AV → Option Nat
  | [] => some 0
  | .v (.int .u8 (.ofNat b)) :: l => (match bytesOf l with | some c => some (Nat.mod b 256 + 256 * c) | none => none)
  | _ => none
def cellsOfStr : Nat → Nat → List AV
  | 0, _ => []
  | n + 1, c => mkI .u8 (Int.ofNat (Nat.mod c 256)) :: cellsOfStr n (Nat.div c 256)

def eqX (t : TypeId) (x y : AV) : Option Bool :=
  match x, y with
  | .ptr b o, .ptr b' o' => (match P.underlying t with
    | some (.pointer el) => (match szX P el with
      | some (_ + 1) => bif Nat.beq b b' then some (Nat.beq o o') else none
      | _ => none)
    | _ => none)
  | .ptr _ _, .v (.pointer none) | .v (.pointer none), .ptr _ _ => (match P.underlying t with
    | some (.pointer _) => some false
    | _ => none)
  | .sl .., .v (.slice none _ _) | .v (.slice none _ _), .sl .. => (match P.underlying t with
    | some (.slice _) => some false
    | _ => none)
  | .map _, .v (.map none) | .v (.map none), .map _ => (match P.underlying t with
    | some (.map _ _) => some false
    | _ => none)
  | .fn .., .v .nilFunc | .v .nilFunc, .fn .. => (match P.underlying t with
    | some (.func _ _ _) => some false
    | _ => none)
  | .ifc .., .v .nilIface | .v .nilIface, .ifc .. => (match P.underlying t with
    | some (.interface _) => some false
    | _ => none)
  | _, _ => none

/-- Two lists of cells without addresses, of one struct type: equal, cell by cell. -/
def cellsEq : List AV → List AV → Option Bool
  | [], [] => some true
  | .v (.int _ a) :: l, .v (.int _ b) :: m => (match cellsEq l m with | some r => some (ieq a b && r) | none => none)
  | .v (.bool a) :: l, .v (.bool b) :: m => (match cellsEq l m with | some r => some ((a == b) && r) | none => none)
  | .str n c :: l, .str n' c' :: m => (match cellsEq l m with | some r => some (strEq n c n' c' && r) | none => none)
  | _, _ => none

def binX (op : BinOp) (t : TypeId) (ox oy : Operand) (x y : AV) : Option AV :=
  match x, y with
  | .v (.int k a), .v (.int k' b) => binI op k a k' b
  | .str n c, .str n' c' => binS op n c n' c'
  | _, _ =>
    match op with
    | .eql => (match eqX P t x y with
      | some b => some (mkBool b)
      | none => (match toV x, toV y with
        | some a, some b => (match prun P (do eqGuard .eql t ox oy a b; binOp .eql t a b) with | some z => some (.of z) | none => none)
        | _, _ => none))
    | .neq => (match eqX P t x y with
      | some b => some (mkBool (!b))
      | none => (match toV x, toV y with
        | some a, some b => (match prun P (do eqGuard .neq t ox oy a b; binOp .neq t a b) with | some z => some (.of z) | none => none)
        | _, _ => none))
    | _ => none

def unX (op : UnOp) (x : AV) : Option AV :=
  match op, x with
  | .not, .v (.bool b) => some (mkBool (!b))
  | .neg, .v (.int k n) => some (mkI k (wrapK k (0 - n)))
  | .xor, .v (.int k n) => (match prun P (Op.unary .xor (.int k n)) with
    | some (.int k n) => some (mkI k n)
    | _ => none)
  | _, _ => none

def utf8X (c : Nat) : AV :=
  bif Nat.blt c 128 then .str 1 c else .str 0 0

/-- Conversions that make no memory. -/
def convX (src dst : TypeId) (x : AV) (st : St) : Option AV :=
  match x with
  | .v (.int _ n) => (match P.underlying src, P.underlying dst with
    | some _, some (.int k) => some (mkI k (wrapK k n))
    | some _, some .string => (match nonNeg n with | some m => bif Nat.blt m 128 then some (mkStr 1 m) else none | none => none)
    | _, _ => none)
  | .str n c => (match P.underlying src, P.underlying dst with
    | some _, some .string => some (.str n c)
    | _, _ => none)
  | .v (.slice none _ _) => (match P.underlying src, P.underlying dst with
    | some (.slice e), some .string => (match P.underlying e with | some (.int .u8) => some (.str 0 0) | _ => none)
    | _, _ => none)
  | .sl b off len _ _ _ => (match P.underlying src, P.underlying dst with
    | some (.slice e), some .string => (match P.underlying e with
      | some (.int .u8) => (match st.hp.get b with
        | some (.row d _ _ _ _ _) => (match rd d off len with
          | some l => (match bytesOf l with | some c => some (mkStr len c) | none => none)
          | none => none)
        | _ => none)
      | _ => none)
    | _, _ => none)
  | .ptr b off => (match P.underlying src, P.underlying dst with
    | some (.pointer t), some .unsafePointer => (match szX P t, st.hp.get b with
      | some (_ + 1), some (.row _ n _ true _ _) => bif Nat.blt off n then some x else none
      | _, _ => none)
    | some .unsafePointer, some (.pointer u) => (match szX P u, st.hp.get b with
      | some (_ + 1), some (.row _ n e true _ _) => bif liesAt P P.depth e (n / P.cellsOf e) off u 1 then some x else none
      | _, _ => none)
    | _, _ => none)
  | _ => none

def findE (k : AV) : List (AV × AV) → Option (Option AV)      -- the entry of a key; `none`: not known
  | [] => some none
  | (k', v) :: l =>
    match k, k' with
    | .str n c, .str n' c' => bif strEq n c n' c' then some (some v) else findE k l
    | .v (.int j a), .v (.int j' b) => bif kindEq j j' then (bif ieq a b then some (some v) else findE k l) else none
    | _, _ => none
def setE (k v : AV) : List (AV × AV) → List (AV × AV)
  | [] => [(k, v)]
  | (k', v') :: l =>
    match k, k' with
    | .str n c, .str n' c' => bif strEq n c n' c' then (k', v) :: l else (k', v') :: setE k v l
    | .v (.int _ a), .v (.int _ b) => bif ieq a b then (k', v) :: l else (k', v') :: setE k v l
    | _, _ => (k', v') :: setE k v l
def lenE (l : List (AV × AV)) : Nat := match l with | [] => 0 | _ :: t => lenE t + 1
def keyOk (t : TypeId) (k : AV) : Bool :=
  match P.underlying t, k with
  | some .string, .str _ _ => true
  | some (.int _), .v (.int _ _) => true
  | _, _ => false

def foundX (m k : AV) (st : St) : Option (Option AV) :=
  match m with
  | .v (.map none) => some none
  | .map b => (match st.hp.get b with | some (.map es) => findE k es | _ => none)
  | _ => none
def lookupX (t : TypeId) (m k : AV) (ok : Bool) (st : St) : Option AV :=
  match P.underlying t with
  | some (.map kt et) => bif keyOk P kt k then
    (match foundX m k st with
     | some (some v) => some (bif ok then .tup [v, mkBool true] else v)
     | some none => (match zeroV P et with
       | some z => some (bif ok then .tup [z, mkBool false] else z)
       | none => none)
     | none => none)
    else none
  | _ => none

def lenX (t : TypeId) (x : AV) (st : St) : Option AV :=
  match x with
  | .str n _ => (match P.underlying t with | some .string => some (mkN n) | _ => none)
  | .sl _ _ n _ _ _ => (match P.underlying t with | some (.slice _) => some (mkN n) | _ => none)
  | .v (.slice none 0 0) => (match P.underlying t with | some (.slice _) => some (mkN 0) | _ => none)
  | .v (.map none) => (match P.underlying t with | some (.map _ _) => some (mkN 0) | _ => none)
  | .map b => (match P.underlying t, st.hp.get b with | some (.map _ _), some (.map es) => some (mkN (lenE es)) | _, _ => none)
  | _ => none
def capX (t : TypeId) (x : AV) : Option AV :=
  match x with
  | .sl _ _ _ c true _ => (match P.underlying t with | some (.slice _) => some (mkN c) | _ => none)
  | .v (.slice none 0 0) => (match P.underlying t with | some (.slice _) => some (mkN 0) | _ => none)
  | _ => none

def maxI (mx : Bool) : AV → List AV → Option AV
  | .v (.int k a), [] => some (.v (.int k a))
  | .v (.int k a), .v (.int k' b) :: l => bif kindEq k k' then
      (bif (bif mx then ilt a b else ilt b a) then maxI mx (.v (.int k b)) l else maxI mx (.v (.int k a)) l) else none
  | _, _ => none

def evs (ev : Operand → Option AV) : List Operand → Option (List AV)
  | [] => some []
  | x :: l => match ev x, evs ev l with
    | some a, some m => some (a :: m)
    | _, _ => none

/-- Operations that leave the memory alone. -/
def sil (G : Glob) (ev : Operand → Option AV) (st : St) : Op → Option AV
  | .move x | .assign x => ev x
  | .pick c a b => (match ev c with
    | some (.v (.bool true)) => ev a
    | some (.v (.bool false)) => ev b
    | _ => none)
  | .load t a => (match ev a with | some a => loadX P G t a st | none => none)
  | .nilCheck x => (match ev x with
    | some (.ptr b o) => some (.ptr b o)
    | some (.fn f i c) => some (.fn f i c)
    | some (.v (.pointer (some a))) => some (.v (.pointer (some a)))
    | _ => none)
  | .binOp op t x y _ => (match ev x, ev y with | some a, some b => binX P op t x y a b | _, _ => none)
  | .unOp op _ x => (match ev x with | some a => unX P op a | none => none)
  | .convert s d x => (match ev x with | some a => convX P s d a st | none => none)
  | .makeInterface t x => (match ev x, P.underlying t with
    | _, some (.interface _) => none
    | some a, some _ => some (.ifc t a)
    | _, _ => none)
  | .makeFunc (.func f) first captured => (match evs ev first.toList, evs ev captured.toList with | some i, some l => some (.fn f i l) | _, _ => none)
  | .build t parts => (match P.underlying t with
    | some (.struct fs) => (match zeroX P t, placesX P fs.toList with
      | some z, some pl => (match fillX (nthA pl) ev z parts.toList with
        | some l => (match force l with | some l => some (.agg l) | none => none)
        | none => none)
      | _, _ => none)
    | some (.array _ el) => (match zeroX P t, szX P el with
      | some z, some s => (match fillX (fun i => some (i * s, s)) ev z parts.toList with
        | some l => (match force l with | some l => some (.agg l) | none => none)
        | none => none)
      | _, _ => none)
    | _ => none)
  | .slice t x lo hi mx => (match ev x with | some a => sliceX P ev st t a lo hi mx | none => none)
  | .fieldAddr s x f => (match ev x with | some a => fieldAddrX P s a f | none => none)
  | .field s x f => (match ev x with | some a => fieldX P s a f | none => none)
  | .indexAddr t x i => (match ev x, ev i with | some a, some b => indexAddrX P t a b | _, _ => none)
  | .index t x i => (match ev x, ev i with | some a, some b => indexX P t a b | _, _ => none)
  | .lookup t m k ok => (match ev m, ev k with | some a, some b => lookupX P t a b ok st | _, _ => none)
  | .extract t i => (match ev t with | some (.tup l) => nth l i | _ => none)
  | .call { callee := .builtin b, args, argTypes } => (match b, args.toList, argTypes.toList with
    | .len, [x], [t] => (match ev x with | some a => lenX P t a st | none => none)
    | .cap, [x], [t] => (match ev x with | some a => capX P t a | none => none)
    | .max, x :: l, _ => (match ev x, evs ev l with | some a, some m => maxI true a m | _, _ => none)
    | .min, x :: l, _ => (match ev x, evs ev l with | some a, some m => maxI false a m | _, _ => none)
    | .unsafeSliceData, [x], _ => (match ev x with
      | some (.v (.slice none _ _)) => some (.v (.pointer none))
      | some (.sl b off _ (_ + 1) _ _) => some (.ptr b off)
      | _ => none)
    | _, _, _ => none)
  | _ => none

/-- 0: an operation that leaves the memory alone; 1: one that makes an object of its own; 2: any other. -/
def kindOf : Op → Nat
  | .move _ | .assign _ | .pick .. | .load .. | .nilCheck _ | .binOp .. | .unOp .. | .makeInterface .. | .makeFunc .. | .build .. | .slice .. | .fieldAddr ..
  | .field .. | .indexAddr .. | .index .. | .lookup .. | .extract .. => 0
  | .call { callee := .builtin b, .. } => (match b with | .len | .cap | .max | .min | .unsafeSliceData => 0 | _ => 2)
  | .convert s d _ => (match P.underlying s, P.underlying d with | some .string, some (.slice _) => 1 | some (.slice _), some (.slice _) => 2 | _, _ => 0)
  | .alloc _ | .box .. | .buildSlice .. | .makeSlice .. | .makeMap .. | .range .. => 1
  | _ => 2

/-! ### Operations that change the memory -/
inductive OR where
  | bad
  | val (v : AV) (st : St)
  | call (g : FuncId) (args : List AV)
  | yield (b : Nat) (args : List AV)
  | defer (d : AD)

def fresh (st : St) (o : AO) : St := ⟨st.nxt + 1, st.hp.set st.nxt o⟩
def strict (st : St) (k : St → OR) : OR :=
  match st.hp with
  | .e => .bad
  | .n a b c => (match st.nxt with | 0 => .bad | j + 1 => k ⟨Nat.succ j, .n a b c⟩)
def kill (hp : Tr AO) (mate : Nat) : Tr AO := match mate with | 0 => hp | k + 1 => hp.set k .dead
/-- Cells into a block. -/
def storeC (st : St) (b off : Nat) (l : List AV) : Option St :=
  match st.hp.get b with
  | some (.row d n el ex fz mate) =>
    bif allOne l && Nat.ble (fz - 2) off then
      (match wr d off l with
       | .e => none
       | .n x y z => bif Nat.ble (off + len l) n then some ⟨st.nxt, (kill st.hp mate).set b (.row (.n x y z) n el ex fz 0)⟩ else none)
    else none
  | _ => none

def rowOf (el : TypeId) (l : List AV) (ex : Bool) (fz : Nat) : AO :=
  match mkTr l with
  | .e => .row .e (len l) el ex fz 0
  | .n x y z => .row (.n x y z) (len l) el ex fz 0

def repl : Nat → List AV → List AV
  | 0, _ => []
  | n + 1, l => l ++ repl n l

def unitV : AV := .v (.tuple #[])

/-- The elements that append and copy take: their cells and their number. -/
def elemsX (size : Nat) (x : AV) (n : Nat) (st : St) : Option (List AV) :=
  match x with
  | .sl b off _ _ _ es => bif Nat.beq es size then (match st.hp.get b with | some (.row d _ _ _ _ _) => rd d off (n * size) | _ => none) else none
  | .v (.slice none _ _) => some []
  | .str _ c => some (cellsOfStr n c)
  | _ => none
def countX (x : AV) : Option Nat :=
  match x with
  | .sl _ _ n _ _ _ => some n
  | .v (.slice none 0 0) => some 0
  | .str n _ => some n
  | _ => none

/-- Does append take a number of zeros (`append(s, make(..)..)`)? -/
def zerosX (xt : Option TypeId) : Option Bool :=
  match xt with
  | some u => (match P.underlying u with | some (.int _) => some true | some _ => some false | none => none)
  | none => some false
/-- How many elements, and their cells. -/
def newX (xt : Option TypeId) (size el : Nat) (x : AV) (st : St) : Option (Nat × List AV) :=
  match zerosX P xt with
  | some true => (match idxOf x, zeroX P el with
    | some n, some z => some (n, repl n z)
    | _, _ => none)
  | some false => (match countX x with
    | some n => (match elemsX size x n st with | some l => some (n, l) | none => none)
    | none => none)
  | none => none

/-- The row that a new array lies in. -/
def appNew (st : St) (el need size : Nat) (l : List AV) : OR :=
  strict (fresh st (rowOf el l false 0)) fun st' => .val (mkSl st.nxt 0 need need false size) st'
/-- There is room in any case. -/
def appFit (st : St) (b off sLen n lo : Nat) (ex : Bool) (size : Nat) (new : List AV) : OR :=
  match st.hp.get b with
  | some (.row d rn rel rex fz mate) => bif allOne new && Nat.ble (fz - 2) (off + sLen * size) then
     (match wr d (off + sLen * size) new with
      | .e => .bad
      | .n x y z => strict ⟨st.nxt, (kill st.hp mate).set b (.row (.n x y z) (bif Nat.ble (off + (sLen + n) * size) rn then rn else off + (sLen + n) * size) rel rex fz 0)⟩ fun st =>
         .val (mkSl b off (sLen + n) lo ex size) st)
     else .bad
  | _ => .bad
/-- There is no room in any case. -/
def appGrow (st : St) (el b off sLen n size : Nat) (new : List AV) : OR :=
  match st.hp.get b with
  | some (.row d _ _ _ _ _) => (match rd d off (sLen * size) with
    | some old => appNew st el (sLen + n) size (old ++ new)
    | none => .bad)
  | _ => .bad
/-- There is room or not. -/
def appMaybe (st : St) (el b off sLen n size : Nat) (new : List AV) : OR :=
  match st.hp.get b with
  | some (.row d rn rel false fz mate) => bif Nat.beq rel el && allOne new && Nat.ble (fz - 2) (off + sLen * size) && (Nat.beq off 0 || Nat.ble fz 1) then
     (match (bif Nat.beq off 0 && Nat.beq rn (sLen * size) then some d else (match rd d off (sLen * size) with | some old => some (mkTr old) | none => none)) with
      | none => .bad
      | some d' => (match wr d' (sLen * size) new with
        | .e => .bad
        | .n x y z =>
          strict ⟨st.nxt + 1, ((kill st.hp mate).set b (bif Nat.beq (off + sLen * size) rn then .row d rn rel false fz (st.nxt + 1) else .dead)).set st.nxt
              (.row (.n x y z) ((sLen + n) * size) el false fz (bif Nat.beq (off + sLen * size) rn then b + 1 else 0))⟩ fun st' =>
            .val (mkSl st.nxt 0 (sLen + n) (sLen + n) false size) st'))
     else .bad
  | _ => .bad
def appendX (t : TypeId) (xt : Option TypeId) (s x : AV) (st : St) : OR :=
  match P.underlying t with
  | some (.slice el) => (match szX P el, P.info? el, zeroX P el with
    | some size, some inf, some z => (match newX P xt size el x st with
      | some (n, new) =>
        bif !(Nat.beq (len z) size) || !(Nat.beq (len new) (n * size)) || !(Nat.blt 0 size) || !(Nat.blt n 1073741824) || !(Nat.ble (n * inf.bytes) 281474976710656) then .bad else
        (match s with
         | .v (.slice none 0 0) =>
           bif Nat.beq n 0 then .val s st
           else bif Nat.ble (2 * n * inf.bytes) 281474976710656 then appNew st el n size new
           else .bad
         | .sl b off sLen lo ex es =>
           bif !(Nat.beq es size) || !(Nat.blt sLen 1073741824) then .bad else
           bif Nat.beq n 0 then .val s st else
           bif Nat.ble (sLen + n) lo then appFit st b off sLen n lo ex size new
           else bif !(Nat.ble (2 * (sLen + n) * inf.bytes) 281474976710656) then .bad
           else bif ex then appGrow st el b off sLen n size new
           else appMaybe st el b off sLen n size new
         | _ => .bad)
      | none => .bad)
    | _, _, _ => .bad)
  | _ => .bad

def copyX (t : TypeId) (dst src : AV) (st : St) : OR :=
  match P.underlying t with
  | some (.slice el) => (match szX P el, countX src, countX dst with
    | some size, some a, some b =>
      let n := bif Nat.ble a b then a else b
      (match elemsX size src n st with
       | none => .bad
       | some l => (match dst with
         | .v (.slice none _ _) => (match l with | [] => .val (mkN n) st | _ => .bad)
         | .sl blk off _ _ _ es => bif Nat.beq es size && Nat.beq (len l) (n * size) then
             (match l with
              | [] => .val (mkN n) st
              | _ => (match storeC st blk off l with
                | some st => strict st fun st => .val (mkN n) st
                | none => .bad))
             else .bad
         | _ => .bad))
    | _, _, _ => .bad)
  | _ => .bad

def clearX (t : TypeId) (x : AV) (st : St) : OR :=
  match P.underlying t, x with
  | some (.slice _), .v (.slice none _ _) => .val unitV st
  | some (.slice el), .sl b off n _ _ es => (match szX P el, zeroX P el with
    | some size, some z => bif Nat.beq size es then
        (match n with
         | 0 => .val unitV st
         | _ + 1 => (match storeC st b off (repl n z) with
           | some st => strict st fun st => .val unitV st
           | none => .bad))
        else .bad
    | _, _ => .bad)
  | _, _ => .bad

/-- What an address of a new object looks like. -/
inductive FK where
  | ptr
  | sl (len lo : Nat) (ex : Bool) (es : Nat)
  | map
def mkPtr (b : Nat) : AV := match b with | 0 => .ptr 0 0 | j + 1 => .ptr (Nat.succ j) 0
def FK.at (k : FK) (b : Nat) : AV :=
  match k with
  | .ptr => mkPtr b
  | .sl l c ex es => (match b with | 0 => mkSl 0 0 l c ex es | j + 1 => mkSl (Nat.succ j) 0 l c ex es)
  | .map => (match b with | 0 => .map 0 | j + 1 => .map (Nat.succ j))
/-- Operations that make an object of their own and do nothing else. -/
def flt (ev : Operand → Option AV) : Op → Option (AO × FK)
  | .alloc t => (match zeroX P t with | some z => some (rowOf t z true 0, .ptr) | none => none)
  | .box t x => (match ev x with
    | some a => (match cellsX a with | some l => some (rowOf t l true 0, .ptr) | none => none)
    | none => none)
  | .buildSlice t n parts => (match P.underlying t with
    | some (.slice el) => (match szX P el, zeroX P el with
      | some s, some z => bif Nat.ble (n * s) 16777216 && Nat.beq (len z) s then
          (match fillX (fun i => some (i * s, s)) ev (repl n z) parts.toList with
           | some l => some (rowOf el l true 0, .sl n n true s)
           | none => none)
          else none
      | _, _ => none)
    | _ => none)
  | .makeSlice t l c => (match P.underlying t, ev l, ev c with
    | some (.slice el), some a, some b => (match idxOf a, idxOf b, szX P el, zeroX P el, P.info? el with
      | some l, some c, some s, some z, some inf => bif Nat.ble l c && Nat.ble c 1048576 && Nat.ble (inf.bytes * c) 281474976710656 && Nat.beq (len z) s then
          some (rowOf el (repl c z) true 0, .sl l c true s)
          else none
      | _, _, _, _, _ => none)
    | _, _, _ => none)
  | .makeMap _ none => some (.map [], .map)
  | .makeMap t (some h) => (match P.underlying t, ev h with
    | some (.map _ _), some (.v (.int _ _)) => some (.map [], .map)
    | _, _ => none)
  | .range t x => (match P.underlying t, ev x with
    | some .string, some (.str n c) => some (.iter n c 0, .ptr)
    | _, _ => none)
  | .convert s d x => (match P.underlying s, P.underlying d, ev x with
    | some .string, some (.slice el), some (.str n c) => (match P.underlying el with
      | some (.int .u8) => bif Nat.ble n 1048576 then some (rowOf el (cellsOfStr n c) false 1, .sl n n false 1) else none
      | _ => none)
    | _, _, _ => none)
  | _ => none

def loud (ev : Operand → Option AV) (st : St) : Op → OR
  | .store t a x => (match ev a, ev x with
    | some (.ptr b off), some v => (match cellsX v, szX P t with
      | some l, some n => bif Nat.beq (len l) n then (match storeC st b off l with | some st => strict st fun st => .val U st | none => .bad) else .bad
      | _, _ => .bad)
    | _, _ => .bad)
  | .mapUpdate t m k x | .insert t m k x => (match P.underlying t, ev m, ev k, ev x with
    | some (.map kt _), some (.map b), some k, some v => bif keyOk P kt k then
        (match st.hp.get b with
         | some (.map es) => (match findE k es with
           | some _ => strict ⟨st.nxt, st.hp.set b (.map (setE k v es))⟩ fun st => .val U st
           | none => .bad)
         | _ => .bad)
        else .bad
    | _, _, _, _ => .bad)
  | .convert s d x => (match P.underlying s, P.underlying d, ev x with
    | some (.slice _), some (.slice el), some (.sl b off n lo ex es) => (match P.underlying el, Nat.beq s d, st.hp.get b with
      | some (.int .u8), true, some (.row d rn rel rex fz mate) => bif Nat.ble fz 1 then
          strict ⟨st.nxt, (kill st.hp mate).set b (.row d rn rel rex 1 0)⟩ fun st => .val (.sl b off n lo ex es) st
          else .bad
      | _, _, _ => .bad)
    | _, _, _ => .bad)
  | .next it true => (match ev it with
    | some (.ptr b 0) => (match st.hp.get b with
      | some (.iter n c pos) =>
        bif Nat.blt pos n then
          (let ch := strAt c pos
           bif Nat.blt ch 128 then
             strict ⟨st.nxt, st.hp.set b (match pos + 1 with | 0 => .dead | j + 1 => .iter n c (Nat.succ j))⟩ fun st => .val (.tup [mkBool true, mkN pos, mkI .i32 (Int.ofNat ch)]) st
           else .bad)
        else .val (.tup [mkBool false]) st
      | _ => .bad)
    | _ => .bad)
  | .call { callee := .builtin b, args, argTypes } => (match b, args.toList, argTypes.toList with
    | .append, [s, x], t :: ts => (match ev s, ev x with | some a, some b => appendX P t ts.head? a b st | _, _ => .bad)
    | .copy, [d, s], t :: _ => (match ev d, ev s with | some a, some b => copyX P t a b st | _, _ => .bad)
    | .clear, [x], t :: _ => (match ev x with | some a => clearX P t a st | none => .bad)
    | .unsafeString, [p, n], t :: _ => (match ev p, ev n with
      | some (.v (.pointer none)), some (.v (.int _ (.ofNat 0))) => .val (.str 0 0) st
      | some (.ptr _ _), some (.v (.int _ (.ofNat 0))) => .val (.str 0 0) st
      | some (.ptr b off), some (.v (.int _ (.ofNat n))) => (match P.underlying t, st.hp.get b with
        | some (.pointer u), some (.row d rn el ex fz mate) => bif Nat.beq u el && Nat.ble (off + n) rn && Nat.ble n 1048576 && !(Nat.beq fz 1) then
            (match P.underlying u, szX P u, rd d off n with
             | some (.int .u8), some 1, some l => (match bytesOf l with
               | some c => strict ⟨st.nxt, (kill st.hp mate).set b (.row d rn el ex (bif Nat.ble fz (off + n + 2) then off + n + 2 else fz) 0)⟩ fun st => .val (mkStr n c) st
               | none => .bad)
             | _, _, _ => .bad)
            else .bad
        | _, _ => .bad)
      | _, _ => .bad)
    | _, _, _ => .bad)
  | .call { callee := .value f, args, .. } => (match ev f, evs ev args.toList with
    | some (.fn g first cap), some l => .call g (first ++ (l ++ cap))
    | some (.yld b), some l => .yield b l
    | _, _ => .bad)
  | .defer { callee := .value f, args, .. } => (match ev f, evs ev args.toList with
    | some (.fn g first cap), some l => .defer (.call g (first ++ (l ++ cap)))
    | _, _ => .bad)
  | _ => .bad

/-! ### Code -/
inductive Res where
  | ok (e : AX) (fr : Fr) (st : St)
  | ret (v : AV) (st : St)
  | bad

def initT : Nat → List AV → Tr AV → Option (Tr AV)
  | _, [], t => some t
  | i, a :: l, t => match t.set i a with
    | .e => none
    | .n x y z => initT (i + 1) l (.n x y z)
def Fr.init (n : Nat) (args : List AV) : Option Fr :=
  bif Nat.ble (len args) n then (match initT 0 args .e with | some t => some ⟨n, t, false, []⟩ | none => none) else none

def putAll (fr : Fr) : List Tmp → List AV → Option Fr
  | [], [] => some fr
  | t :: ts, a :: l => (match fr.put (some t) a with | some fr => putAll fr ts l | none => none)
  | _, _ => none

def result1 (G : Glob) (fr : Fr) (st : St) : ResultVar → Option AV
  | .tmp t => fr.t.get t
  | .cell a t => match fr.t.get a with | some p => (match p with | .ptr _ _ => loadX P G t p st | _ => none) | none => none
def resultsL (G : Glob) (fr : Fr) (st : St) : List ResultVar → Option (List AV)
  | [] => some []
  | r :: l => match result1 P G fr st r, resultsL G fr st l with
    | some a, some m => some (a :: m)
    | _, _ => none
def resultsX (G : Glob) (fn : Func) (fr : Fr) (st : St) : Option AV :=
  match resultsL P G fr st fn.results.toList with
  | some [a] => some a
  | some l => some (.tup l)
  | none => none

def nthO (l : List Oper) (i : Nat) : Option Oper := match l, i with
  | [], _ => none
  | a :: _, 0 => some a
  | _ :: l, i + 1 => nthO l i

/-- Is an operation to be carried out? `none`: not known. -/
def wantedX (all : List Oper) (o : Oper) (fr : Fr) : Option Bool :=
  match o.guard with
  | none => some true
  | some (j, want) => match nthO all j with
    | some g => (match g.dst with
      | some d => (match fr.t.get d with
        | some (.v (.bool b)) => some (match b, want with | true, true => true | false, false => true | _, _ => false)
        | some (.v (.tuple _)) => some false
        | _ => none)
      | none => none)
    | none => none

/-- The mask of the operations that come ahead of one, by its edges; `none`: an edge to a later one. -/
def maskOf (befs : List Nat) (i : Nat) (es : List Edge) : Option Nat :=
  match es with
  | [] => some 0
  | e :: es => bif Region.binds .any e then
      (bif Nat.blt e.on i then
        (match maskOf befs i es with
         | some m => some (Nat.lor m (Nat.lor (Nat.pow 2 e.on) (befs.getD (i - 1 - e.on) 0)))
         | none => none)
       else none)
      else maskOf befs i es

/-- An operation of a region that draws its order: its number, what it waits for, its kind. -/
structure It where
  i : Nat
  o : Oper
  bef : Nat
  kind : Nat

def looksL (all : List Oper) (o : Oper) : List Tmp :=
  (o.op.operands.toList.filterMap fun | .tmp t => some t | _ => none) ++
  (match o.guard with
   | some (g, _) => (match nthO all g with | some x => x.dst.toList | none => [])
   | none => [])

end

structure Env where
  P : Program
  G : Glob
  /-- Known calls. -/
  S : FuncId → List AV → St → Option (AV × St)

/-- What it has done: its value, the frame and the memory ahead of it, its new object. -/
structure Rec where
  it : It
  fr : Fr
  st : St
  val : AV
  obj : Nat

inductive Cmd where
  | code (c : Code)
  | ops (all rest : List Oper)
  | draw (all : List Oper) (todo : List It) (recs : List Rec) (dn ld : Nat)
  | call (g : FuncId) (args : List AV)
  | enter (plain : Bool) (g : FuncId) (args : List AV)
  | leave (ds : List AD)
  | yield (b : Nat) (args : List AV)

/-- Is bit i of a mask set? -/
def bit (m i : Nat) : Bool := Nat.beq (Nat.mod (Nat.div m (Nat.pow 2 i)) 2) 1

mutual
/-- Equal values (true: they are equal). -/
def avEq : AV → AV → Bool
  | .v (.int k a), .v (.int k' b) => kindEq k k' && ieq a b
  | .v (.bool a), .v (.bool b) => (match a, b with | true, true => true | false, false => true | _, _ => false)
  | .v (.pointer none), .v (.pointer none) => true
  | .v (.slice none 0 0), .v (.slice none 0 0) => true
  | .v (.map none), .v (.map none) => true
  | .v .nilFunc, .v .nilFunc => true
  | .v .nilIface, .v .nilIface => true
  | .str n c, .str n' c' => Nat.beq n n' && Nat.beq c c'
  | .ptr b o, .ptr b' o' => Nat.beq b b' && Nat.beq o o'
  | .sl b o l c ex es, .sl b' o' l' c' ex' es' => Nat.beq b b' && Nat.beq o o' && Nat.beq l l' && Nat.beq c c' && (match ex, ex' with | true, true => true | false, false => true | _, _ => false) && Nat.beq es es'
  | .map b, .map b' => Nat.beq b b'
  | .fn f i c, .fn f' i' c' => Nat.beq f f' && avEqL i i' && avEqL c c'
  | .agg l, .agg l' => avEqL l l'
  | .tup l, .tup l' => avEqL l l'
  | _, _ => false
def avEqL : List AV → List AV → Bool
  | [], [] => true
  | a :: l, b :: m => avEq a b && avEqL l m
  | _, _ => false
end

/-- Operations whose value does not hang on the memory. -/
def stateFree : Op → Bool
  | .move _ | .assign _ | .pick .. | .nilCheck _ | .binOp .. | .unOp .. | .makeInterface .. | .makeFunc .. | .build .. | .fieldAddr ..
  | .field .. | .indexAddr .. | .index .. | .extract .. => true
  | .call { callee := .builtin b, .. } => (match b with | .cap | .max | .min | .unsafeSliceData => true | _ => false)
  | _ => false

mutual
def aoEq : AO → AO → Bool
  | .row d n el ex fz m, .row d' n' el' ex' fz' m' => trEq d d' && Nat.beq n n' && Nat.beq el el' && (match ex, ex' with | true, true => true | false, false => true | _, _ => false)
      && Nat.beq fz fz' && Nat.beq m m'
  | .map [], .map [] => true
  | .iter n c p, .iter n' c' p' => Nat.beq n n' && Nat.beq c c' && Nat.beq p p'
  | _, _ => false
def trEq : Tr AV → Tr AV → Bool
  | .e, .e => true
  | .n none l r, .n none l' r' => trEq l l' && trEq r r'
  | .n (some x) l r, .n (some x') l' r' => avEq x x' && trEq l l' && trEq r r'
  | _, _ => false
end

section
variable (E : Env)

def mkIts : Nat → List Nat → List Oper → Option (List It)
  | _, _, [] => some []
  | i, befs, o :: l => (match maskOf befs i o.after.toList with
    | some m => (match mkIts (i + 1) (m :: befs) l with
      | some r => some (⟨i, o, m, kindOf E.P o.op⟩ :: r)
      | none => none)
    | none => none)
def loudsOf : List It → List It
  | [] => []
  | t :: l => (match t.kind with | 0 | 1 => loudsOf l | _ => t :: loudsOf l)
def stageOf (bef : Nat) : List It → Nat
  | [] => 0
  | l :: ls => bif bit bef l.i then stageOf bef ls + 1 else 0
def ofStage (louds : List It) (k : Nat) : List It → List It → List It
  | [], tail => tail
  | t :: l, tail => (match t.kind with
    | 0 | 1 => bif Nat.beq (stageOf t.bef louds) k then t :: ofStage louds k l tail else ofStage louds k l tail
    | _ => ofStage louds k l tail)
def orderOf (its louds : List It) : Nat → List It → List It
  | k, [] => ofStage louds k its []
  | k, l :: ls => ofStage louds k its (l :: orderOf its louds (k + 1) ls)

/-- A silent operation gives the same value at a memory. -/
def sameAt (r : Rec) (st : St) : Bool :=
  match sil E.P E.G (ev r.fr) st r.it.o.op with
  | some v => avEq v r.val
  | none => false
/-- The new object is as it was made. -/
def keptAt (r : Rec) (st : St) : Bool :=
  match flt E.P (ev r.fr) r.it.o.op, st.hp.get r.obj with
  | some (o, _), some o' => Nat.blt r.obj st.nxt && aoEq o o'
  | _, _ => false
/-- The memories ahead of the loud operations that have been carried out, and the last one. -/
def memsOf (recs : List Rec) (last : St) : List (Nat × Nat × St) :=
  match recs with
  | [] => [(0, 0, last)]
  | r :: l => (match r.it.kind with | 0 | 1 => memsOf l last | _ => (r.it.i + 1, r.it.bef, r.st) :: memsOf l last)
/-- Over the memories at which operation i may be carried out: those ahead of a loud operation (number j) that i does not wait for, up to the first that waits for i. -/
def window (f : St → Bool) (i bef : Nat) : List (Nat × Nat × St) → Bool
  | [] => true
  | (0, _, st) :: _ => f st
  | (j + 1, b, st) :: l =>
    bif bit bef j then window f i bef l
    else f st && (bif bit b i then true else window f i bef l)
def writerOk (t : Tmp) (i bef : Nat) : List It → Bool
  | [] => true
  | r :: l => (match r.o.dst with
    | some d => bif Nat.beq d t then (bit bef r.i || bit r.bef i) else true
    | none => true) && writerOk t i bef l
def allLooks (i bef : Nat) (its : List It) : List Tmp → Bool
  | [] => true
  | t :: l => writerOk t i bef its && allLooks i bef its l
def freshDst (d : Tmp) : List It → Bool
  | [] => true
  | r :: l => (match r.o.dst with | some e => !(Nat.beq d e) | none => true) && freshDst d l
def dstsOk : List It → Bool
  | [] => true
  | r :: l => (match r.o.dst with | some d => freshDst d l | none => true) && dstsOk l
/-- Nothing of the region's text alone is wrong: what may be looked at without running it. -/
def looksOk (all : List Oper) (its : List It) : List It → Bool
  | [] => true
  | t :: l => allLooks t.i t.bef its (looksL all t.o) && looksOk all its l
def textOk (all : List Oper) (its : List It) : Bool := dstsOk its && looksOk all its its
/-- What each record must meet. -/
def recsOk (all : List Oper) (mems : List (Nat × Nat × St)) : List Rec → Bool
  | [] => true
  | r :: l =>
    (match wantedX all r.it.o r.fr with
     | some true => (match r.it.kind with
       | 0 => bif stateFree r.it.o.op then true else window (sameAt E r) r.it.i r.it.bef mems
       | 1 => window (keptAt E r) r.it.i r.it.bef mems
       | _ => true)
     | _ => true) && recsOk all mems l

/-- All bits of a are bits of b. -/
def subMask (a b : Nat) : Bool := Nat.beq (Nat.land a b) a
/-- May an operation be carried out: what it waits for is done, it is not; if it is loud: all louds that are done are among what it waits for. -/
def maySt (t : It) (dn ld : Nat) : Bool :=
  subMask t.bef dn && (!(bit dn t.i)) && (match t.kind with | 0 | 1 => true | _ => subMask ld t.bef)
def orBit (m i : Nat) : Nat := Nat.lor m (Nat.pow 2 i)
def ldOf (t : It) (ld : Nat) : Nat := match t.kind with | 0 | 1 => ld | _ => orBit ld t.i

/-- The executor. -/
def X : Nat → Cmd → Fr → St → Res
  | 0, _, _, _ => .bad
  | f + 1, .code c, fr, st => (match c with
    | .skip => .ok .normal fr st
    | .label _ => .ok .normal fr st
    | .seq a b => (match X f (.code a) fr st with
      | .ok .normal fr st => X f (.code b) fr st
      | r => r)
    | .cond c a b => (match ev fr c with
      | some (.v (.bool true)) => X f (.code a) fr st
      | some (.v (.bool false)) => X f (.code b) fr st
      | _ => .bad)
    | .block id b => (match X f (.code b) fr st with
      | .ok (.exit i) fr st => bif Nat.beq i id then .ok .normal fr st else .ok (.exit i) fr st
      | r => r)
    | .loop b => (match X f (.code b) fr st with
      | .ok .normal fr st => X f (.code (.loop b)) fr st
      | r => r)
    | .exit id => .ok (.exit id) fr st
    | .ret => .ok .ret fr st
    | .region _ ops false => X f (.ops ops.toList ops.toList) fr st
    | .region _ ops true => (match mkIts E 0 [] ops.toList with
      | some its => bif textOk ops.toList its then X f (.draw ops.toList (orderOf its (loudsOf its) 0 (loudsOf its)) [] 0 0) fr st else .bad
      | none => .bad)
    | .scope b => X f (.code b) fr st
    | .rangeFunc g ps assign body => bif fr.rd then .bad else (match ev fr g with
      | some (.fn g first cap) => (match st.nxt with
        | 0 => .bad
        | j + 1 => (match strict (fresh (fresh st .defd) (.loop fr ps.toList assign body false .normal)) (fun st => .val U st) with
          | .val _ st => (match X f (.enter false g (first ++ (.yld (Nat.succ (Nat.succ j)) :: cap))) fr st with
            | .ret _ st => (match st.hp.get (Nat.succ (Nat.succ j)) with
              | some (.loop _ _ _ _ false e) => (match strict ⟨st.nxt, st.hp.set (Nat.succ (Nat.succ j)) .dead⟩ (fun st => .val U st) with
                | .val _ st => .ok e ⟨fr.n, fr.t, fr.rd, .mark (Nat.succ j) :: fr.ds⟩ st
                | _ => .bad)
              | _ => .bad)
            | _ => .bad)
          | _ => .bad))
      | _ => .bad)
    | _ => .bad)
  | f + 1, .ops all rest, fr, st => (match rest with
    | [] => .ok .normal fr st
    | o :: rest => (match wantedX all o fr with
      | some false => (match fr.put o.dst U with | some fr => X f (.ops all rest) fr st | none => .bad)
      | some true => (match kindOf E.P o.op with
        | 0 =>
          (match sil E.P E.G (ev fr) st o.op with
           | some v => (match fr.put o.dst v with | some fr => X f (.ops all rest) fr st | none => .bad)
           | none => .bad)
        | 1 =>
          (match flt E.P (ev fr) o.op with
           | some (ob, k) => (match strict (fresh st ob) (fun st => .val U st) with
             | .val _ st' => (match fr.put o.dst (k.at st.nxt) with | some fr => X f (.ops all rest) fr st' | none => .bad)
             | _ => .bad)
           | none => .bad)
        | _ =>
          (match loud E.P (ev fr) st o.op with
           | .val v st => (match fr.put o.dst v with | some fr => X f (.ops all rest) fr st | none => .bad)
           | .call g args => (match X f (.call g args) fr st with
             | .ret v st => (match fr.put o.dst v with | some fr => X f (.ops all rest) fr st | none => .bad)
             | _ => .bad)
           | .yield b args => (match X f (.yield b args) fr st with
             | .ret v st => (match fr.put o.dst v with | some fr => X f (.ops all rest) fr st | none => .bad)
             | _ => .bad)
           | .defer d => bif fr.rd then .bad else (match fr.put o.dst U with | some fr => X f (.ops all rest) ⟨fr.n, fr.t, fr.rd, d :: fr.ds⟩ st | none => .bad)
           | .bad => .bad))
      | none => .bad))
  | f + 1, .draw all todo recs dn ld, fr, st => (match todo with
    | [] => bif Nat.beq (Nat.add dn 1) (Nat.pow 2 all.length) && recsOk E all (memsOf recs.reverse st) recs then .ok .normal fr st else .bad
    | t :: todo => bif maySt t dn ld then (match wantedX all t.o fr with
        | some false => (match fr.put t.o.dst U with | some fr' => X f (.draw all todo (⟨t, fr, st, U, 0⟩ :: recs) (orBit dn t.i) (ldOf t ld)) fr' st | none => .bad)
        | some true => (match t.kind with
          | 0 =>
            (match sil E.P E.G (ev fr) st t.o.op with
             | some v => (match fr.put t.o.dst v with | some fr' => X f (.draw all todo (⟨t, fr, st, v, 0⟩ :: recs) (orBit dn t.i) (ldOf t ld)) fr' st | none => .bad)
             | none => .bad)
          | 1 =>
            (match flt E.P (ev fr) t.o.op with
             | some (ob, k) => (match strict (fresh st ob) (fun st => .val U st) with
               | .val _ st' => (match fr.put t.o.dst (k.at st.nxt) with | some fr' => X f (.draw all todo (⟨t, fr, st, k.at st.nxt, st.nxt⟩ :: recs) (orBit dn t.i) (ldOf t ld)) fr' st' | none => .bad)
               | _ => .bad)
             | none => .bad)
          | _ =>
            (match loud E.P (ev fr) st t.o.op with
             | .val v st' => (match fr.put t.o.dst v with | some fr' => X f (.draw all todo (⟨t, fr, st, v, 0⟩ :: recs) (orBit dn t.i) (ldOf t ld)) fr' st' | none => .bad)
             | .call g args => (match X f (.call g args) fr st with
               | .ret v st' => (match fr.put t.o.dst v with | some fr' => X f (.draw all todo (⟨t, fr, st, v, 0⟩ :: recs) (orBit dn t.i) (ldOf t ld)) fr' st' | none => .bad)
               | _ => .bad)
             | _ => .bad))
        | none => .bad) else .bad)
  | f + 1, .yield b args, _, st => (match st.hp.get b with
    | some (.loop fr ps assign body false .normal) => (match putAll ⟨fr.n, fr.t, true, []⟩ ps args with
      | some fr' => (match X f (.code assign) fr' st with
        | .ok .normal fr' st => (match st.hp.get b with
          | some (.loop fr ps assign body' false .normal) => (match strict ⟨st.nxt, st.hp.set b (.loop fr ps assign body' true .normal)⟩ (fun st => .val U st) with
            | .val _ st => (match X f (.code body) fr' st with
              | .ok e _ st => (match st.hp.get b with
                | some (.loop fr ps assign body true .normal) => (match strict ⟨st.nxt, st.hp.set b (.loop fr ps assign body false e)⟩ (fun st => .val U st) with
                  | .val _ st => .ret (mkBool (match e with | .normal => true | _ => false)) st
                  | _ => .bad)
                | _ => .bad)
              | _ => .bad)
            | _ => .bad)
          | _ => .bad)
        | _ => .bad)
      | none => .bad)
    | _ => .bad)
  | f + 1, .call g args, fr, st => (match E.S g args st with
    | some (v, st) => .ret v st
    | none => X f (.enter false g args) fr st)
  | f + 1, .enter plain g args, _, st => (match E.P.funcs[g]? with
    | some fn => (match fn.body with
      | some c => (match Fr.init fn.ntmps args with
        | some fr => (match X f (.code c) fr st with
          | .ok (.exit _) _ _ => .bad
          | .ok _ fr st => (match fr.ds with
            | [] => (match resultsX E.P E.G fn fr st with | some v => .ret v st | none => .bad)
            | d :: ds => bif plain then .bad else (match X f (.leave (d :: ds)) fr st with
              | .ok _ _ st => (match resultsX E.P E.G fn fr st with | some v => .ret v st | none => .bad)
              | _ => .bad))
          | _ => .bad)
        | none => .bad)
      | none => .bad)
    | none => .bad)
  | f + 1, .leave ds, fr, st => (match ds with
    | [] => .ok .normal fr st
    | .mark b :: ds => (match st.hp.get b with
      | some .defd => (match strict ⟨st.nxt, st.hp.set b .dead⟩ (fun st => .val U st) with
        | .val _ st => X f (.leave ds) fr st
        | _ => .bad)
      | _ => .bad)
    | .call g args :: ds => (match X f (.enter true g args) fr st with
      | .ret _ st => X f (.leave ds) fr st
      | _ => .bad))
end

end Go.Ax

/-
  AxExt: functions without a body.
-/
namespace Go.Ax
open Go

def findByte (c b : Nat) : Nat → Nat → Option Nat
  | 0, _ => none
  | n + 1, i => bif Nat.beq (strAt c i) b then some i else findByte c b n (i + 1)
def countB (b : Nat) : Nat → Nat → Nat
  | 0, _ => 0
  | n + 1, c => bif Nat.beq (Nat.mod c 256) b then countB b n (Nat.div c 256) + 1 else countB b n (Nat.div c 256)
def optI (o : Option Nat) : AV := match o with | some i => mkN i | none => .v (.int .i64 (-1))

inductive Ext where
  | noEscape | indexByteString | countString | makeNoZero (el : TypeId)

def extX (x : Ext) (args : List AV) (st : St) : Option (AV × St) :=
  match x, args with
  | .noEscape, [a] => some (a, st)
  | .indexByteString, [.str n c, .v (.int .u8 (.ofNat b))] => bif Nat.blt b 256 then some (optI (findByte c b n 0), st) else none
  | .countString, [.str n c, .v (.int .u8 (.ofNat b))] => bif Nat.blt b 256 then some (mkN (countB b n c), st) else none
  | .makeNoZero el, [.v (.int .i64 (.ofNat n))] => bif Nat.ble n 1048576 then
      (match st.nxt with
       | 0 => none
       | j + 1 => (match strict (fresh st (.row .e n el false 0 0)) (fun st => .val U st) with
         | .val _ st' => some (.sl (Nat.succ j) 0 n n false 1, st')
         | _ => none)) else none
  | _, _ => none

/-- The known calls of a seat. -/
def extS (t : List (Nat × Ext)) (g : Nat) (args : List AV) (st : St) : Option (AV × St) :=
  match t with
  | [] => none
  | (k, x) :: t => bif Nat.beq k g then extX x args st else extS t g args st
end Go.Ax

/-
  AxS1: plain facts on tries, numbers and texts.
-/
namespace Go.Ax
open Go

theorem Tr.get_e {α : Type} (i : Nat) : (Tr.e : Tr α).get i = none := rfl
theorem Tr.get_n {α : Type} (x : Option α) (l r : Tr α) (i : Nat) :
    (Tr.n x l r).get i = if i = 0 then x else if i % 2 = 0 then r.get (i / 2 - 1) else l.get (i / 2) := by
  show (bif Nat.beq i 0 then x else bif Nat.beq (Nat.mod i 2) 0 then r.get (Nat.sub (Nat.div i 2) 1) else l.get (Nat.div i 2)) = _
  by_cases h : i = 0
  · subst h; rfl
  · have h1 : Nat.beq i 0 = false := by simpa [← Nat.beq_eq] using h
    rw [h1, if_neg h]
    by_cases h2 : i % 2 = 0
    · have h3 : Nat.beq (Nat.mod i 2) 0 = true := by rw [Nat.beq_eq]; exact h2
      rw [h3, if_pos h2]; rfl
    · have h3 : Nat.beq (Nat.mod i 2) 0 = false := by
        cases h4 : Nat.beq (Nat.mod i 2) 0 with
        | false => rfl
        | true => exact absurd (Nat.eq_of_beq_eq_true h4) h2
      rw [h3, if_neg h2]; rfl

theorem Tr.put_e {α : Type} (f i : Nat) (y : α) : Tr.put (f + 1) .e i y =
    if i = 0 then .n (some y) .e .e else if i % 2 = 0 then
      (match Tr.put f .e (i / 2 - 1) y with | .e => .e | .n a b c => .n none .e (.n a b c))
    else (match Tr.put f .e (i / 2) y with | .e => .e | .n a b c => .n none (.n a b c) .e) := by
  rw [Tr.put]
  by_cases h : i = 0
  · subst h; rfl
  · have h1 : Nat.beq i 0 = false := by simpa [← Nat.beq_eq] using h
    rw [h1, if_neg h]
    by_cases h2 : i % 2 = 0
    · have h3 : Nat.beq (Nat.mod i 2) 0 = true := by rw [Nat.beq_eq]; exact h2
      rw [h3, if_pos h2]; rfl
    · have h3 : Nat.beq (Nat.mod i 2) 0 = false := by
        cases h4 : Nat.beq (Nat.mod i 2) 0 with
        | false => rfl
        | true => exact absurd (Nat.eq_of_beq_eq_true h4) h2
      rw [h3, if_neg h2]; rfl
theorem Tr.put_n {α : Type} (f i : Nat) (y : α) (x : Option α) (l r : Tr α) : Tr.put (f + 1) (.n x l r) i y =
    if i = 0 then .n (some y) l r else if i % 2 = 0 then
      (match Tr.put f r (i / 2 - 1) y with | .e => .e | .n a b c => .n x l (.n a b c))
    else (match Tr.put f l (i / 2) y with | .e => .e | .n a b c => .n x (.n a b c) r) := by
  rw [Tr.put]
  by_cases h : i = 0
  · subst h; rfl
  · have h1 : Nat.beq i 0 = false := by simpa [← Nat.beq_eq] using h
    rw [h1, if_neg h]
    by_cases h2 : i % 2 = 0
    · have h3 : Nat.beq (Nat.mod i 2) 0 = true := by rw [Nat.beq_eq]; exact h2
      rw [h3, if_pos h2]; rfl
    · have h3 : Nat.beq (Nat.mod i 2) 0 = false := by
        cases h4 : Nat.beq (Nat.mod i 2) 0 with
        | false => rfl
        | true => exact absurd (Nat.eq_of_beq_eq_true h4) h2
      rw [h3, if_neg h2]; rfl

theorem Tr.put_ne {α : Type} : ∀ (f : Nat) (t : Tr α) (i : Nat) (y : α), i < f → ∃ a b c, Tr.put f t i y = .n a b c
  | 0, _, _, _, h => absurd h (Nat.not_lt_zero _)
  | f + 1, .e, i, y, h => by
    rw [Tr.put_e]
    split
    · exact ⟨_, _, _, rfl⟩
    · split
      · obtain ⟨a, b, c, e⟩ := Tr.put_ne f .e (i / 2 - 1) y (by omega); rw [e]; exact ⟨_, _, _, rfl⟩
      · obtain ⟨a, b, c, e⟩ := Tr.put_ne f .e (i / 2) y (by omega); rw [e]; exact ⟨_, _, _, rfl⟩
  | f + 1, .n x l r, i, y, h => by
    rw [Tr.put_n]
    split
    · exact ⟨_, _, _, rfl⟩
    · split
      · obtain ⟨a, b, c, e⟩ := Tr.put_ne f r (i / 2 - 1) y (by omega); rw [e]; exact ⟨_, _, _, rfl⟩
      · obtain ⟨a, b, c, e⟩ := Tr.put_ne f l (i / 2) y (by omega); rw [e]; exact ⟨_, _, _, rfl⟩

theorem Tr.get_put {α : Type} : ∀ (f : Nat) (t : Tr α) (i : Nat) (y : α), i < f → ∀ j, (Tr.put f t i y).get j = if j = i then some y else t.get j
  | 0, _, _, _, h => absurd h (Nat.not_lt_zero _)
  | f + 1, .e, i, y, h => by
    intro j
    rw [Tr.put_e]
    split
    · rename_i h0; subst h0; rw [Tr.get_n]; simp only [Tr.get_e]; repeat' split
      all_goals rfl
    · rename_i h0
      split
      · rename_i h2
        obtain ⟨a, b, c, e⟩ := Tr.put_ne f (.e : Tr α) (i / 2 - 1) y (by omega)
        have ih := Tr.get_put f (.e : Tr α) (i / 2 - 1) y (by omega)
        rw [e] at ih; rw [e]; simp only []; rw [Tr.get_n _ _ _ j]
        split
        · rename_i hj; subst hj; rw [if_neg (by omega)]; rfl
        · split
          · rw [ih]; simp only [Tr.get_e]
            by_cases hji : j = i
            · subst hji; simp
            · rw [if_neg (by omega), if_neg hji]
          · rw [if_neg (by omega)]; rfl
      · rename_i h2
        obtain ⟨a, b, c, e⟩ := Tr.put_ne f (.e : Tr α) (i / 2) y (by omega)
        have ih := Tr.get_put f (.e : Tr α) (i / 2) y (by omega)
        rw [e] at ih; rw [e]; simp only []; rw [Tr.get_n _ _ _ j]
        split
        · rename_i hj; subst hj; rw [if_neg (by omega)]; rfl
        · split
          · rw [if_neg (by omega)]; rfl
          · rw [ih]; simp only [Tr.get_e]
            by_cases hji : j = i
            · subst hji; simp
            · rw [if_neg (by omega), if_neg hji]
  | f + 1, .n x l r, i, y, h => by
    intro j
    rw [Tr.put_n]
    split
    · rename_i h0; subst h0; rw [Tr.get_n, Tr.get_n]; repeat' split
      all_goals first | rfl | omega
    · rename_i h0
      split
      · rename_i h2
        obtain ⟨a, b, c, e⟩ := Tr.put_ne f r (i / 2 - 1) y (by omega)
        have ih := Tr.get_put f r (i / 2 - 1) y (by omega)
        rw [e] at ih; rw [e]; simp only []; rw [Tr.get_n x l r j, Tr.get_n _ _ _ j]
        split
        · rename_i hj; subst hj; rw [if_neg (by omega)]
        · split
          · rw [ih]
            by_cases hji : j = i
            · subst hji; simp
            · rw [if_neg (by omega), if_neg hji]
          · rw [if_neg (by omega)]
      · rename_i h2
        obtain ⟨a, b, c, e⟩ := Tr.put_ne f l (i / 2) y (by omega)
        have ih := Tr.get_put f l (i / 2) y (by omega)
        rw [e] at ih; rw [e]; simp only []; rw [Tr.get_n x l r j, Tr.get_n _ _ _ j]
        split
        · rename_i hj; subst hj; rw [if_neg (by omega)]
        · split
          · rw [if_neg (by omega)]
          · rw [ih]
            by_cases hji : j = i
            · subst hji; simp
            · rw [if_neg (by omega), if_neg hji]

theorem Tr.get_set {α : Type} (t : Tr α) (i : Nat) (y : α) (j : Nat) : (t.set i y).get j = if j = i then some y else t.get j :=
  Tr.get_put (i + 1) t i y (Nat.lt_succ_self i) j
theorem Tr.set_ne {α : Type} (t : Tr α) (i : Nat) (y : α) : ∃ a b c, t.set i y = .n a b c := Tr.put_ne (i + 1) t i y (Nat.lt_succ_self i)

/-! ### Numbers -/
theorem mkI_eq (k : IntKind) (n : Int) : mkI k n = .v (.int k n) := by
  cases n with
  | ofNat m => cases m <;> rfl
  | negSucc m => cases m <;> rfl
theorem mkN_eq (n : Nat) : mkN n = .v (.int .i64 n) := by cases n <;> rfl
theorem mkBool_eq (b : Bool) : mkBool b = .v (.bool b) := by cases b <;> rfl
theorem mkStr_eq (n c : Nat) : mkStr n c = .str n (if n = 0 then 0 else c) := by
  cases n with
  | zero => rfl
  | succ j => cases c <;> rfl
theorem mkPtr_eq (b : Nat) : mkPtr b = .ptr b 0 := by cases b <;> rfl
theorem mkSl_eq (b off len lo : Nat) (ex : Bool) (es : Nat) : mkSl b off len lo ex es = .sl b off len lo ex es := by
  cases off <;> cases len <;> cases lo <;> rfl

theorem ieq_eq (a b : Int) : ieq a b = (a == b) := by
  rw [Bool.eq_iff_iff, beq_iff_eq]
  cases a <;> cases b <;> simp [ieq, Nat.beq_eq] <;> omega
theorem nat_blt (a b : Nat) : Nat.blt a b = decide (a < b) := by
  rw [Bool.eq_iff_iff, decide_eq_true_iff]
  show (Nat.ble (a + 1) b = true) ↔ a + 1 ≤ b
  rw [Nat.ble_eq]
theorem ilt_eq (a b : Int) : ilt a b = decide (a < b) := by
  rw [Bool.eq_iff_iff, decide_eq_true_iff]
  cases a <;> cases b <;> simp [ilt, nat_blt] <;> omega
theorem kindEq_iff {a b : IntKind} : kindEq a b = true ↔ a = b := by cases a <;> cases b <;> simp [kindEq]
theorem nonNeg_some {a : Int} {m : Nat} : nonNeg a = some m ↔ a = (m : Int) := by
  cases a <;> simp [nonNeg] <;> omega

theorem wrapK_eq (k : IntKind) (n : Int) : wrapK k n = k.wrap n := by
  have e8 : ((2 : Int) ^ 8) = 256 := rfl
  have e7 : ((2 : Int) ^ 7) = 128 := rfl
  have e16 : ((2 : Int) ^ 16) = 65536 := rfl
  have e15 : ((2 : Int) ^ 15) = 32768 := rfl
  have e32 : ((2 : Int) ^ 32) = 4294967296 := rfl
  have e31 : ((2 : Int) ^ 31) = 2147483648 := rfl
  have e64 : ((2 : Int) ^ 64) = 18446744073709551616 := rfl
  have e63 : ((2 : Int) ^ 63) = 9223372036854775808 := rfl
  cases k <;> cases n <;>
    simp only [wrapK, isSigned, bitsHalf, IntKind.wrap, IntKind.bits, IntKind.signed, nat_blt, cond_eq_ite, decide_eq_true_eq, Nat.add_one_sub_one, Bool.true_and, Bool.false_and,
      e8, e7, e16, e15, e32, e31, e64, e63, Int.ofNat_eq_natCast, ge_iff_le, Int.negOfNat_eq, Bool.false_eq_true, if_false] <;>
    simp only [show ∀ a b : Nat, Nat.mod a b = a % b from fun _ _ => rfl] <;>
    (repeat' split) <;> omega

/-! ### Texts -/
theorem bl_length : ∀ (n c : Nat), (bl n c).length = n
  | 0, _ => rfl
  | n + 1, c => by simp [bl, bl_length n]
theorem mkB_size (n c : Nat) : (mkB n c).size = n := by simp [mkB, ByteArray.size, bl_length]
theorem mkB_data (n c : Nat) : (mkB n c).data.toList = bl n c := by simp [mkB]
theorem bl_encL : ∀ (l : List UInt8), bl l.length (encL l) = l
  | [] => rfl
  | b :: l => by
    rw [show (b :: l).length = l.length + 1 from rfl, encL, bl]
    have h1 : UInt8.ofNat (b.toNat + 256 * encL l) = b := by
      apply UInt8.toNat_inj.1
      simp only [UInt8.toNat_ofNat']
      have := b.toNat_lt
      omega
    have h2 : (b.toNat + 256 * encL l) / 256 = encL l := by
      have := b.toNat_lt
      omega
    rw [h1, h2, bl_encL l]
theorem mkB_enc (s : ByteArray) : mkB s.size (encL s.data.toList) = s := by
  have h : s.size = s.data.toList.length := rfl
  rw [mkB, h, bl_encL]
theorem bl_mod : ∀ (n c d : Nat), c % 256 ^ n = d % 256 ^ n → bl n c = bl n d
  | 0, _, _, _ => rfl
  | n + 1, c, d, h => by
    simp only [bl]
    have h0 : c % 256 = d % 256 := by
      have hc : c % 256 ^ (n + 1) % 256 = c % 256 := Nat.mod_mod_of_dvd _ ⟨256 ^ n, by rw [Nat.pow_succ, Nat.mul_comm]⟩
      have hd : d % 256 ^ (n + 1) % 256 = d % 256 := Nat.mod_mod_of_dvd _ ⟨256 ^ n, by rw [Nat.pow_succ, Nat.mul_comm]⟩
      rw [← hc, ← hd, h]
    have h1 : c / 256 % 256 ^ n = d / 256 % 256 ^ n := by
      have hc : c % (256 * 256 ^ n) / 256 = c / 256 % 256 ^ n := Nat.mod_mul_right_div_self _ _ _
      have hd : d % (256 * 256 ^ n) / 256 = d / 256 % 256 ^ n := Nat.mod_mul_right_div_self _ _ _
      rw [← hc, ← hd]
      rw [Nat.pow_succ, Nat.mul_comm] at h
      rw [h]
    congr 1
    · apply UInt8.toNat_inj.1; simpa using h0
    · exact bl_mod n _ _ h1
theorem bl_inj : ∀ (n c d : Nat), bl n c = bl n d → c % 256 ^ n = d % 256 ^ n
  | 0, _, _, _ => by simp [Nat.mod_one]
  | n + 1, c, d, h => by
    simp only [bl, List.cons.injEq] at h
    obtain ⟨h0, h1⟩ := h
    have h0' : c % 256 = d % 256 := by simpa using congrArg UInt8.toNat h0
    have ih := bl_inj n _ _ h1
    have e : 256 ^ (n + 1) = 256 * 256 ^ n := by rw [Nat.pow_succ, Nat.mul_comm]
    rw [e, Nat.mod_mul, Nat.mod_mul, h0', ih]
theorem mkB_if (n c : Nat) : mkB n (if n = 0 then 0 else c) = mkB n c := by
  split
  · rename_i h; subst h; rfl
  · rfl
theorem bl_add : ∀ (n m c d : Nat), bl (n + m) (c % 256 ^ n + 256 ^ n * d) = bl n c ++ bl m d
  | 0, m, c, d => by simp [bl, Nat.mod_one]
  | n + 1, m, c, d => by
    have e : n + 1 + m = (n + m) + 1 := by omega
    rw [e]
    simp only [bl, List.cons_append]
    have e2 : 256 ^ (n + 1) = 256 * 256 ^ n := by rw [Nat.pow_succ, Nat.mul_comm]
    have e3 : c % 256 ^ (n + 1) = c % 256 + 256 * (c / 256 % 256 ^ n) := by rw [e2, Nat.mod_mul]
    congr 1
    · apply UInt8.toNat_inj.1
      simp only [UInt8.toNat_ofNat']
      rw [e3, e2, Nat.mul_assoc]
      omega
    · rw [← bl_add n m (c / 256) d]
      congr 1
      rw [e3, e2, Nat.mul_assoc]
      omega
theorem strEq_iff {n c n' c' : Nat} : strEq n c n' c' = true ↔ mkB n c = mkB n' c' := by
  simp only [strEq, Bool.and_eq_true, Nat.beq_eq, pw]
  constructor
  · rintro ⟨rfl, h⟩
    unfold mkB; rw [bl_mod _ _ _ h]
  · intro h
    have hs : (mkB n c).size = (mkB n' c').size := by rw [h]
    rw [mkB_size, mkB_size] at hs
    subst hs
    refine ⟨rfl, bl_inj _ _ _ ?_⟩
    rw [← mkB_data n c, ← mkB_data n c', h]
theorem bl_get : ∀ (n c i : Nat), i < n → (bl n c)[i]? = some (UInt8.ofNat (c / 256 ^ i))
  | 0, _, _, h => absurd h (Nat.not_lt_zero _)
  | n + 1, c, 0, _ => by simp [bl]
  | n + 1, c, i + 1, h => by
    simp only [bl, List.getElem?_cons_succ]
    rw [bl_get n (c / 256) i (by omega), Nat.div_div_eq_div_mul, Nat.pow_succ, Nat.mul_comm]
theorem strAt_lt (c i : Nat) : strAt c i < 256 := Nat.mod_lt _ (by decide)
theorem ofNat_strAt (c i : Nat) : UInt8.ofNat (strAt c i) = UInt8.ofNat (c / 256 ^ i) := by
  apply UInt8.toNat_inj.1
  simp only [UInt8.toNat_ofNat']
  show (c / 256 ^ i) % 256 % 2 ^ 8 = _
  omega
theorem bl_drop : ∀ (n c l : Nat), (bl n c).drop l = bl (n - l) (c / 256 ^ l)
  | n, c, 0 => by simp
  | 0, c, l + 1 => by simp [bl]
  | n + 1, c, l + 1 => by
    simp only [bl, List.drop_succ_cons]
    rw [bl_drop n (c / 256) l, Nat.div_div_eq_div_mul, Nat.pow_succ, Nat.mul_comm (256 ^ l) 256]
    congr 1
    omega
theorem bl_take : ∀ (n c k : Nat), k ≤ n → (bl n c).take k = bl k c
  | _, _, 0, _ => by simp [bl]
  | 0, _, k + 1, h => by omega
  | n + 1, c, k + 1, h => by
    simp only [bl, List.take_succ_cons]
    rw [bl_take n (c / 256) k (by omega)]
theorem mkB_extract (n c l h : Nat) (hl : l ≤ h) (hh : h ≤ n) : (mkB n c).extract l h = mkB (h - l) (c / 256 ^ l % 256 ^ (h - l)) := by
  have e : ((mkB n c).extract l h).data.toList = (mkB (h - l) (c / 256 ^ l % 256 ^ (h - l))).data.toList := by
    rw [mkB_data, ByteArray.data_extract, Array.toList_extract, mkB_data, List.extract_eq_take_drop, bl_drop, bl_take _ _ _ (by omega)]
    exact bl_mod _ _ _ (by simp)
  cases h1 : (mkB n c).extract l h with
  | mk d1 => cases h2 : mkB (h - l) (c / 256 ^ l % 256 ^ (h - l)) with
    | mk d2 => rw [h1, h2] at e; exact congrArg ByteArray.mk (Array.toList_inj.1 e)
theorem mkB_append (n c m d : Nat) : mkB n c ++ mkB m d = mkB (n + m) (c % 256 ^ n + 256 ^ n * d) := by
  have e : (mkB n c ++ mkB m d).data.toList = (mkB (n + m) (c % 256 ^ n + 256 ^ n * d)).data.toList := by
    rw [mkB_data, ByteArray.data_append, Array.toList_append, mkB_data, mkB_data, bl_add]
  cases h1 : mkB n c ++ mkB m d with
  | mk d1 => cases h2 : mkB (n + m) (c % 256 ^ n + 256 ^ n * d) with
    | mk d2 => rw [h1, h2] at e; exact congrArg ByteArray.mk (Array.toList_inj.1 e)
end Go.Ax

/-
  AxS2: what an abstract memory says of a world.
-/
namespace Go.Ax
open Go Go.RowKit

/-- Where an abstract block lies. -/
structure PB where
  blk : Nat
  base : Nat
  size : Nat
abbrev PM := Nat → Option PB

mutual
def VR (φ : PM) : AV → Value → Prop
  | .v x, y => y = x
  | .str n c, y => y = .string (mkB n c)
  | .ptr b off, y => ∃ p, φ b = some p ∧ y = .pointer (some ⟨p.blk, p.base + off, none⟩)
  | .sl b off len lo ex es, y => ∃ p c, φ b = some p ∧ y = .slice (some ⟨p.blk, p.base + off, none⟩) len c ∧ lo ≤ c ∧ (ex = true → c = lo) ∧ len ≤ lo ∧ p.base + off + c * es ≤ p.size
  | .map b, y => ∃ p, φ b = some p ∧ y = .map (some p.blk)
  | .fn f i c, y => ∃ is cs : Array Value, y = .func (.func f) is cs ∧ VRs φ i is.toList ∧ VRs φ c cs.toList
  | .ifc t x, y => ∃ z, y = .iface t z ∧ VR φ x z
  | .yld b, y => ∃ p, φ b = some p ∧ y = .func (.yield p.blk) #[] #[]
  | .agg cs, y => ∃ ys : Array Value, y = .agg ys ∧ VRs φ cs ys.toList
  | .tup cs, y => ∃ ys : Array Value, y = .tuple ys ∧ VRs φ cs ys.toList
def VRs (φ : PM) : List AV → List Value → Prop
  | [], ys => ys = []
  | a :: l, ys => ∃ y m, ys = y :: m ∧ VR φ a y ∧ VRs φ l m
end

def PM.le (φ φ' : PM) : Prop := ∀ b p, φ b = some p → φ' b = some p
theorem PM.le_refl (φ : PM) : PM.le φ φ := fun _ _ h => h
theorem PM.le_trans {φ φ' φ'' : PM} (h : PM.le φ φ') (h' : PM.le φ' φ'') : PM.le φ φ'' := fun b p e => h' b p (h b p e)

/-- More blocks are mapped, none below n. -/
def PM.ext (n : Nat) (φ φ' : PM) : Prop := PM.le φ φ' ∧ ∀ b, b < n → φ' b = φ b
theorem PM.ext_refl (n : Nat) (φ : PM) : PM.ext n φ φ := ⟨PM.le_refl φ, fun _ _ => rfl⟩
theorem PM.ext_trans {n m : Nat} {φ φ' φ'' : PM} (h : PM.ext n φ φ') (h' : PM.ext m φ' φ'') (hnm : n ≤ m) : PM.ext n φ φ'' :=
  ⟨PM.le_trans h.1 h'.1, fun b hb => by rw [h'.2 b (by omega), h.2 b hb]⟩

mutual
theorem VR.mono {φ φ' : PM} (h : PM.le φ φ') : ∀ (a : AV) (y : Value), VR φ a y → VR φ' a y
  | .v _, _, e => by simpa only [VR] using e
  | .str _ _, _, e => by simpa only [VR] using e
  | .ptr _ _, _, e => by
    simp only [VR] at e ⊢; obtain ⟨p, h1, h2⟩ := e; exact ⟨p, h _ _ h1, h2⟩
  | .sl _ _ _ _ _ _, _, e => by
    simp only [VR] at e ⊢; obtain ⟨p, c, h1, h2⟩ := e; exact ⟨p, c, h _ _ h1, h2⟩
  | .map _, _, e => by
    simp only [VR] at e ⊢; obtain ⟨p, h1, h2⟩ := e; exact ⟨p, h _ _ h1, h2⟩
  | .fn _ i c, _, e => by
    simp only [VR] at e ⊢; obtain ⟨is, cs, h1, h2, h3⟩ := e; exact ⟨is, cs, h1, VRs.mono h i _ h2, VRs.mono h c _ h3⟩
  | .ifc _ x, _, e => by
    simp only [VR] at e ⊢; obtain ⟨z, h1, h2⟩ := e; exact ⟨z, h1, VR.mono h x _ h2⟩
  | .yld _, _, e => by
    simp only [VR] at e ⊢; obtain ⟨p, h1, h2⟩ := e; exact ⟨p, h _ _ h1, h2⟩
  | .agg l, _, e => by
    simp only [VR] at e ⊢; obtain ⟨ys, h1, h2⟩ := e; exact ⟨ys, h1, VRs.mono h l _ h2⟩
  | .tup l, _, e => by
    simp only [VR] at e ⊢; obtain ⟨ys, h1, h2⟩ := e; exact ⟨ys, h1, VRs.mono h l _ h2⟩
theorem VRs.mono {φ φ' : PM} (h : PM.le φ φ') : ∀ (l : List AV) (ys : List Value), VRs φ l ys → VRs φ' l ys
  | [], _, e => by simpa only [VRs] using e
  | a :: l, _, e => by
    simp only [VRs] at e ⊢; obtain ⟨y, m, h1, h2, h3⟩ := e; exact ⟨y, m, h1, VR.mono h a _ h2, VRs.mono h l _ h3⟩
end

theorem VRs.nil {φ : PM} : VRs φ [] [] := by simp [VRs]
theorem VRs.cons {φ : PM} {a : AV} {l : List AV} {y : Value} {m : List Value} (h : VR φ a y) (h' : VRs φ l m) : VRs φ (a :: l) (y :: m) := by
  simp only [VRs]; exact ⟨y, m, rfl, h, h'⟩
theorem VRs.cons_iff {φ : PM} {a : AV} {l : List AV} {y : Value} {m : List Value} : VRs φ (a :: l) (y :: m) ↔ VR φ a y ∧ VRs φ l m := by
  simp only [VRs]
  exact ⟨fun ⟨y', m', h1, h2, h3⟩ => by cases h1; exact ⟨h2, h3⟩, fun ⟨h, h'⟩ => ⟨y, m, rfl, h, h'⟩⟩
theorem VRs.length {φ : PM} : ∀ {l : List AV} {ys : List Value}, VRs φ l ys → ys.length = l.length
  | [], _, h => by simp only [VRs] at h; subst h; rfl
  | a :: l, _, h => by simp only [VRs] at h; obtain ⟨y, m, rfl, _, h3⟩ := h; simp [VRs.length h3]
theorem VRs.append {φ : PM} : ∀ {l : List AV} {ys : List Value} {l' : List AV} {ys' : List Value}, VRs φ l ys → VRs φ l' ys' → VRs φ (l ++ l') (ys ++ ys')
  | [], _, _, _, h, h' => by simp only [VRs] at h; subst h; exact h'
  | a :: l, _, _, _, h, h' => by simp only [VRs] at h; obtain ⟨y, m, rfl, h2, h3⟩ := h; exact VRs.cons h2 (VRs.append h3 h')
theorem VRs.get {φ : PM} : ∀ {l : List AV} {ys : List Value}, VRs φ l ys → ∀ {i : Nat} {a : AV}, l[i]? = some a → ∃ y, ys[i]? = some y ∧ VR φ a y
  | [], _, _, _, _, h => by simp at h
  | a :: l, _, h, 0, _, hi => by
    simp only [VRs] at h; obtain ⟨y, m, rfl, h2, _⟩ := h
    simp at hi; subst hi; exact ⟨y, rfl, h2⟩
  | a :: l, _, h, i + 1, _, hi => by
    simp only [VRs] at h; obtain ⟨y, m, rfl, _, h3⟩ := h
    exact VRs.get h3 (by simpa using hi)
theorem VRs.drop {φ : PM} : ∀ {l : List AV} {ys : List Value}, VRs φ l ys → ∀ n, VRs φ (l.drop n) (ys.drop n)
  | [], _, h, n => by simp only [VRs] at h; subst h; simp [VRs]
  | a :: l, _, h, 0 => by simpa using h
  | a :: l, _, h, n + 1 => by simp only [VRs] at h; obtain ⟨y, m, rfl, _, h3⟩ := h; simpa using VRs.drop h3 n
theorem VRs.take {φ : PM} : ∀ {l : List AV} {ys : List Value}, VRs φ l ys → ∀ n, VRs φ (l.take n) (ys.take n)
  | [], _, h, n => by simp only [VRs] at h; subst h; simp [VRs]
  | a :: l, _, h, 0 => by simp [VRs]
  | a :: l, _, h, n + 1 => by simp only [VRs] at h; obtain ⟨y, m, rfl, h2, h3⟩ := h; simpa using VRs.cons h2 (VRs.take h3 n)

theorem VR.of1 {φ : PM} (x : Value) : VR φ (AV.of1 x) x := by
  cases x <;> simp [AV.of1, VR, mkB_enc]
theorem VRs.of1 {φ : PM} : ∀ (l : List Value), VRs φ (l.map AV.of1) l
  | [] => VRs.nil
  | x :: l => VRs.cons (VR.of1 x) (VRs.of1 l)
theorem VR.of {φ : PM} (x : Value) : VR φ (AV.of x) x := by
  cases x with
  | agg cs => simp only [AV.of, VR]; exact ⟨cs, rfl, VRs.of1 _⟩
  | tuple cs => simp only [AV.of, VR]; exact ⟨cs, rfl, VRs.of1 _⟩
  | string s => simp [AV.of, VR, mkB_enc]
  | _ => simp [AV.of, VR]

/-! ### Frames -/
def TR (φ : PM) (fr : Fr) (tmps : Array Value) : Prop :=
  fr.n = tmps.size ∧ ∀ t v, fr.t.get t = some v → ∃ y, tmps[t]? = some y ∧ VR φ v y
theorem TR.mono {φ φ' : PM} (h : PM.le φ φ') {fr : Fr} {tmps : Array Value} (ht : TR φ fr tmps) : TR φ' fr tmps :=
  ⟨ht.1, fun t v e => let ⟨y, h1, h2⟩ := ht.2 t v e; ⟨y, h1, VR.mono h _ _ h2⟩⟩

/-! ### Objects -/
def FZ (fz base lo hi size : Nat) : Prop :=
  match fz with
  | 0 => lo = hi
  | 1 => lo = hi ∨ size ≤ lo
  | k + 2 => hi ≤ base + k
theorem FZ.free {fz base lo hi size off : Nat} (h : FZ fz base lo hi size) (ho : fz - 2 ≤ off) (hs : base + off < size) : ¬ (lo ≤ base + off ∧ base + off < hi) := by
  match fz, h with
  | 0, h => simp only [FZ] at h; omega
  | 1, h => simp only [FZ] at h; omega
  | k + 2, h => simp only [FZ] at h; omega

def ERs (φ : PM) : List (AV × AV) → List MapEntry → Prop
  | [], ys => ys = []
  | (k, v) :: l, ys => ∃ y m, ys = y :: m ∧ VR φ k y.key ∧ VR φ v y.val ∧ ERs φ l m
theorem ERs.mono {φ φ' : PM} (h : PM.le φ φ') : ∀ (l : List (AV × AV)) (ys : List MapEntry), ERs φ l ys → ERs φ' l ys
  | [], _, e => e
  | (_, _) :: l, _, ⟨y, m, h1, h2, h3, h4⟩ => ⟨y, m, h1, VR.mono h _ _ h2, VR.mono h _ _ h3, ERs.mono h l m h4⟩

def jumpOf : AX → Option Code
  | .normal => none
  | .exit id => some (.exit id)
  | .ret => some .ret

def ObR (φ : PM) (o : AO) (p : PB) (w : World) : Prop :=
  match o with
  | .row d n el ex fz _ => ∃ cells lo hi, w.heap[p.blk]? = some (.cells cells el (lo, hi)) ∧ p.size = cells.size ∧ p.base + n ≤ cells.size ∧
      (ex = true → p.base = 0 ∧ n = cells.size) ∧ FZ fz p.base lo hi cells.size ∧ ∀ i v, d.get i = some v → i < n ∧ ∃ x, cells[p.base + i]? = some x ∧ VR φ v x
  | .map es => ∃ ces clk, w.heap[p.blk]? = some (.map ces clk) ∧ ERs φ es ces.toList
  | .iter n c pos => p.base = 0 ∧ w.heap[p.blk]? = some (.stringIter (mkB n c) pos)
  | .defd => p.base = 0 ∧ w.heap[p.blk]? = some (.deferred (some []))
  | .loop fr ps assign body busy pend => p.base = 0 ∧ ∃ fn tmps defers, w.heap[p.blk]? = some (.loop { state := if busy then .busy else (if (jumpOf pend).isNone then .ready else .done), pending := jumpOf pend, fn, tmps, params := ps.toArray, assign, body, defers }) ∧ TR φ fr tmps
  | .dead => True

theorem ObR.mono {φ φ' : PM} (h : PM.le φ φ') {o : AO} {p : PB} {w : World} (ho : ObR φ o p w) : ObR φ' o p w := by
  cases o with
  | row d n el ex fz m =>
    obtain ⟨cells, lo, hi, h1, h2, h3, h4, h5, h6⟩ := ho
    exact ⟨cells, lo, hi, h1, h2, h3, h4, h5, fun i v e => let ⟨a, x, b, c⟩ := h6 i v e; ⟨a, x, b, VR.mono h _ _ c⟩⟩
  | map es => obtain ⟨ces, clk, h1, h2⟩ := ho; exact ⟨ces, clk, h1, ERs.mono h _ _ h2⟩
  | iter n c pos => exact ho
  | defd => exact ho
  | loop fr ps assign body busy pend =>
    obtain ⟨h0, fn, tmps, defers, h1, h2⟩ := ho; exact ⟨h0, fn, tmps, defers, h1, h2.mono h⟩
  | dead => trivial
theorem ObR.heap {φ : PM} {o : AO} {p : PB} {w w' : World} (ho : ObR φ o p w) (h : w'.heap[p.blk]? = w.heap[p.blk]?) : ObR φ o p w' := by
  cases o with
  | row d n el ex fz m => obtain ⟨cells, lo, hi, h1, r⟩ := ho; exact ⟨cells, lo, hi, by rw [h]; exact h1, r⟩
  | map es => obtain ⟨ces, clk, h1, h2⟩ := ho; exact ⟨ces, clk, by rw [h]; exact h1, h2⟩
  | iter n c pos => exact ⟨ho.1, by rw [h]; exact ho.2⟩
  | defd => exact ⟨ho.1, by rw [h]; exact ho.2⟩
  | loop fr ps assign body busy pend =>
    obtain ⟨h0, fn, tmps, defers, h1, h2⟩ := ho; exact ⟨h0, fn, tmps, defers, by rw [h]; exact h1, h2⟩
  | dead => trivial

def AO.mate : AO → Nat
  | .row _ _ _ _ _ m => m
  | _ => 0
def AO.live : AO → Prop
  | .dead => False
  | _ => True

/-- What the package-level variables hold. -/
def GR (G : Glob) (B : Nat) (w : World) : Prop :=
  ∀ g l, G g = some l → g < B ∧ ∀ i v, nth l i = some v → ∃ y, w.cell? ⟨g, i, none⟩ = some y ∧ VR (fun _ => none) v y

structure HR (G : Glob) (B : Nat) (φ : PM) (st : St) (w : World) : Prop where
  base : B ≤ w.heap.size
  dom : ∀ b p, φ b = some p → b < st.nxt ∧ B ≤ p.blk ∧ p.blk < w.heap.size
  objs : ∀ b o p, st.hp.get b = some o → φ b = some p → ObR φ o p w
  sep : ∀ b b' p p' o o', b ≠ b' → φ b = some p → φ b' = some p' → st.hp.get b = some o → st.hp.get b' = some o' → o.live → o'.live → p.blk = p'.blk → o.mate = b' + 1
  glob : GR G B w

theorem GR.below {G : Glob} {B : Nat} {w w' : World} (h : GR G B w) (hb : Below B w w') : GR G B w' := fun g l e =>
  let ⟨h1, h2⟩ := h g l e
  ⟨h1, fun i v hv => let ⟨y, h3, h4⟩ := h2 i v hv; ⟨y, by rw [hb.cell (p := ⟨g, i, none⟩) h1]; exact h3, h4⟩⟩

/-- A world in which draws have been made. -/
theorem HR.drew {G : Glob} {B : Nat} {φ : PM} {st : St} {w w' : World} (h : HR G B φ st w) (hh : w'.heap = w.heap) : HR G B φ st w' where
  base := by rw [hh]; exact h.base
  dom := fun b p e => by rw [hh]; exact h.dom b p e
  objs := fun b o p e e' => (h.objs b o p e e').heap (by rw [hh])
  sep := h.sep
  glob := fun g l e => let ⟨h1, h2⟩ := h.glob g l e; ⟨h1, fun i v hv => let ⟨y, h3, h4⟩ := h2 i v hv; ⟨y, by simpa only [World.cell?, hh] using h3, h4⟩⟩

/-- The map with one block more. -/
def PM.put (φ : PM) (b : Nat) (p : PB) : PM := fun k => if k = b then some p else φ k
theorem PM.put_le {φ : PM} {b : Nat} (p : PB) (h : φ b = none) : PM.le φ (φ.put b p) := fun k q e => by
  unfold PM.put; split
  · rename_i hk; subst hk; rw [h] at e; cases e
  · exact e
@[simp] theorem PM.put_same (φ : PM) (b : Nat) (p : PB) : (φ.put b p) b = some p := by simp [PM.put]

theorem HR.fresh_none {G : Glob} {B : Nat} {φ : PM} {st : St} {w : World} (h : HR G B φ st w) {b : Nat} (hb : st.nxt ≤ b) : φ b = none := by
  cases e : φ b with
  | none => rfl
  | some p => have := (h.dom b p e).1; omega

theorem PM.put_ext {φ : PM} {n : Nat} (p : PB) (h : φ n = none) : PM.ext n φ (φ.put n p) :=
  ⟨PM.put_le p h, fun b hb => by unfold PM.put; rw [if_neg (by omega)]⟩

/-- A new object, of a new block of the world. -/
theorem HR.new {G : Glob} {B : Nat} {φ : PM} {st : St} {w w' : World} (h : HR G B φ st w) (o : AO) (p : PB) (hp : p.blk = w.heap.size)
    (hs : w'.heap.size = w.heap.size + 1) (hh : ∀ k, k < w.heap.size → w'.heap[k]? = w.heap[k]?) (ho : ObR (φ.put st.nxt p) o p w') :
    HR G B (φ.put st.nxt p) ⟨st.nxt + 1, st.hp.set st.nxt o⟩ w' := by
  have hle := PM.put_le p (h.fresh_none (Nat.le_refl st.nxt))
  refine ⟨by have := h.base; omega, ?_, ?_, ?_, ?_⟩
  · intro b q e
    unfold PM.put at e
    split at e
    · rename_i hb; cases e; exact ⟨by simp only; omega, by have := h.base; omega, by omega⟩
    · have := h.dom b q e; exact ⟨by simp only; omega, this.2.1, by omega⟩
  · intro b o' q e e'
    rw [Tr.get_set] at e
    unfold PM.put at e'
    split at e
    · rename_i hb; subst hb; cases e; rw [if_pos rfl] at e'; cases e'; exact ho
    · rename_i hb; rw [if_neg hb] at e'
      exact ((h.objs b o' q e e').mono hle).heap (hh _ (h.dom b q e').2.2)
  · intro b b' q q' o1 o2 hne e1 e2 g1 g2 l1 l2 hblk
    rw [Tr.get_set] at g1 g2
    unfold PM.put at e1 e2
    split at g1
    · rename_i hb; subst hb; rw [if_pos rfl] at e1; cases e1
      rw [if_neg (fun e => hne e.symm)] at e2
      have := (h.dom b' q' e2).2.2; omega
    · rename_i hb
      rw [if_neg hb] at e1
      split at g2
      · rename_i hb'; subst hb'; rw [if_pos rfl] at e2; cases e2
        have := (h.dom b q e1).2.2; omega
      · rename_i hb'; rw [if_neg hb'] at e2
        exact h.sep b b' q q' o1 o2 hne e1 e2 g1 g2 l1 l2 hblk
  · intro g l e
    obtain ⟨h1, h2⟩ := h.glob g l e
    refine ⟨h1, fun i v hv => ?_⟩
    obtain ⟨y, h3, h4⟩ := h2 i v hv
    refine ⟨y, ?_, h4⟩
    rw [← h3]
    exact World.cell?_of_block (hh g (by have := h.base; omega))

theorem kill_get (hp : Tr AO) (m k : Nat) : (kill hp m).get k = if m = k + 1 then some .dead else hp.get k := by
  cases m with
  | zero => simp [kill]
  | succ j =>
    simp only [kill]; rw [Tr.get_set]
    by_cases h : k = j
    · subst h; simp
    · rw [if_neg h, if_neg (by omega)]

/-- An object is replaced; the world differs in its block alone. -/
theorem HR.upd {G : Glob} {B : Nat} {φ : PM} {st : St} {w w' : World} (h : HR G B φ st w) {b : Nat} {o o' : AO} {p : PB}
    (hg : st.hp.get b = some o) (hl : o.live) (hφ : φ b = some p) (hs : w'.heap.size = w.heap.size) (hh : ∀ k, k ≠ p.blk → w'.heap[k]? = w.heap[k]?)
    (ho : ObR φ o' p w') : HR G B φ ⟨st.nxt, (kill st.hp o.mate).set b o'⟩ w' := by
  have hget : ∀ k x, ((kill st.hp o.mate).set b o').get k = some x → (k = b ∧ x = o') ∨ (k ≠ b ∧ (x = .dead ∨ (st.hp.get k = some x ∧ o.mate ≠ k + 1))) := by
    intro k x e
    rw [Tr.get_set] at e
    split at e
    · rename_i hk; cases e; exact .inl ⟨hk, rfl⟩
    · rename_i hk
      rw [kill_get] at e
      split at e
      · cases e; exact .inr ⟨hk, .inl rfl⟩
      · rename_i hmk; exact .inr ⟨hk, .inr ⟨e, hmk⟩⟩
  -- another live object that is not the mate lies elsewhere
  have hother : ∀ k q x, k ≠ b → φ k = some q → st.hp.get k = some x → x.live → o.mate ≠ k + 1 → q.blk ≠ p.blk := by
    intro k q x hk e g l hmk heq
    exact hmk (h.sep b k p q o x (Ne.symm hk) hφ e hg g hl l heq.symm)
  refine ⟨by rw [hs]; exact h.base, fun k q e => by rw [hs]; exact h.dom k q e, ?_, ?_, ?_⟩
  · intro k x q e e'
    rcases hget k x e with ⟨rfl, rfl⟩ | ⟨hk, rfl | ⟨g, hmk⟩⟩
    · rw [hφ] at e'; cases e'; exact ho
    · trivial
    · by_cases hx : x.live
      · exact (h.objs k x q g e').heap (hh _ (hother k q x hk e' g hx hmk))
      · cases x <;> simp [AO.live] at hx; trivial
  · intro k k' q q' x x' hne e e' g g' l l' hblk
    rcases hget k x g with ⟨rfl, rfl⟩ | ⟨hk, rfl | ⟨g1, hmk⟩⟩
    · rw [hφ] at e; cases e
      rcases hget k' x' g' with ⟨rfl, rfl⟩ | ⟨hk', rfl | ⟨g2, hmk'⟩⟩
      · exact absurd rfl hne
      · exact l'.elim
      · exact absurd hblk.symm (hother k' q' x' hk' e' g2 l' hmk')
    · exact l.elim
    · rcases hget k' x' g' with ⟨rfl, rfl⟩ | ⟨hk', rfl | ⟨g2, hmk'⟩⟩
      · rw [hφ] at e'; cases e'
        exact absurd hblk (hother k q x hk e g1 l hmk)
      · exact l'.elim
      · exact h.sep k k' q q' x x' hne e e' g1 g2 l l' hblk
  · intro g l e
    obtain ⟨h1, h2⟩ := h.glob g l e
    refine ⟨h1, fun i v hv => ?_⟩
    obtain ⟨y, h3, h4⟩ := h2 i v hv
    refine ⟨y, ?_, h4⟩
    rw [← h3]
    exact World.cell?_of_block (hh g (by have := (h.dom b p hφ).2.1; omega))

/-- No other object that is still there lies in the block of one that has been replaced. -/
theorem HR.other {G : Glob} {B : Nat} {φ : PM} {st : St} {w : World} (h : HR G B φ st w) {b : Nat} {o o' : AO} {p : PB}
    (hg : st.hp.get b = some o) (hl : o.live) (hφ : φ b = some p) {k : Nat} {q : PB} {x : AO} (hk : k ≠ b) (hx : ((kill st.hp o.mate).set b o').get k = some x) (hxl : x.live) (hq : φ k = some q) : q.blk ≠ p.blk := by
  rw [Tr.get_set, if_neg hk, kill_get] at hx
  split at hx
  · cases hx; exact hxl.elim
  · rename_i hmk
    exact fun heq => hmk (h.sep b k p q o x (Ne.symm hk) hφ hq hg hx hl hxl heq.symm)

/-- A new object that lies in the block of another one. -/
theorem HR.share {G : Glob} {B : Nat} {φ : PM} {st : St} {w : World} (h : HR G B φ st w) (o : AO) (q : PB) (hq1 : B ≤ q.blk) (hq2 : q.blk < w.heap.size)
    (ho : ObR (φ.put st.nxt q) o q w) (hs : ∀ k x p, st.hp.get k = some x → φ k = some p → x.live → p.blk = q.blk → x.mate = st.nxt + 1 ∧ o.mate = k + 1) :
    HR G B (φ.put st.nxt q) ⟨st.nxt + 1, st.hp.set st.nxt o⟩ w := by
  have hle := PM.put_le q (h.fresh_none (Nat.le_refl st.nxt))
  refine ⟨h.base, ?_, ?_, ?_, h.glob⟩
  · intro b r e
    unfold PM.put at e
    split at e
    · rename_i hb; cases e; exact ⟨by simp only; omega, hq1, hq2⟩
    · have := h.dom b r e; exact ⟨by simp only; omega, this.2⟩
  · intro b o' r e e'
    rw [Tr.get_set] at e
    unfold PM.put at e'
    split at e
    · rename_i hb; subst hb; cases e; rw [if_pos rfl] at e'; cases e'; exact ho
    · rename_i hb; rw [if_neg hb] at e'
      exact (h.objs b o' r e e').mono hle
  · intro b b' r r' o1 o2 hne e1 e2 g1 g2 l1 l2 hblk
    rw [Tr.get_set] at g1 g2
    unfold PM.put at e1 e2
    split at g1
    · rename_i hb; subst hb; rw [if_pos rfl] at e1; cases e1; cases g1
      rw [if_neg (fun e => hne e.symm)] at e2 g2
      exact (hs b' o2 r' g2 e2 l2 hblk.symm).2
    · rename_i hb
      rw [if_neg hb] at e1
      split at g2
      · rename_i hb'; subst hb'; rw [if_pos rfl] at e2; cases e2
        exact (hs b o1 r g1 e1 l1 hblk).1
      · rename_i hb'; rw [if_neg hb'] at e2
        exact h.sep b b' r r' o1 o2 hne e1 e2 g1 g2 l1 l2 hblk
end Go.Ax

/-
  AxS3: the operations that leave the memory alone.
-/
namespace Go.Ax
open Go Go.RowKit

section
variable {P : Program} {w : World}

theorem run_und {t : TypeId} {d : TypeDesc} (h : P.underlying t = some d) : (underlying t).run P w = .ok d w := by
  simp [underlying, h]
theorem run_info {t : TypeId} {i : TypeInfo} (h : P.info? t = some i) : (typeInfo t).run P w = .ok i w := by
  simp [typeInfo, h]
theorem szX_some {t : TypeId} {n : Nat} (h : szX P t = some n) : ∃ i, P.info? t = some i ∧ i.size = n := by
  unfold szX at h; split at h
  · rename_i i hi; cases h; exact ⟨i, hi, rfl⟩
  · cases h
theorem run_sz {t : TypeId} {n : Nat} (h : szX P t = some n) : (sizeOf t).run P w = .ok n w := by
  obtain ⟨i, hi, rfl⟩ := szX_some h
  simp [sizeOf, run_info hi]
theorem run_isAgg {t : TypeId} {b : Bool} (h : isAggX P t = some b) : (isAgg t).run P w = .ok b w := by
  unfold isAggX at h
  cases hd : P.underlying t with
  | none => rw [hd] at h; cases h
  | some d =>
    rw [hd] at h
    unfold isAgg
    simp only [Sem.run_bind, run_und hd, Result.andThen_ok]
    cases d <;> simp at h <;> subst h <;> rfl

theorem addr_add (b o n : Nat) : (⟨b, o, none⟩ : Addr).add n = ⟨b, o + n, none⟩ := by
  unfold Addr.add
  split
  · rename_i h; subst h; rfl
  · rfl

theorem len_eq : ∀ (l : List AV), len l = l.length
  | [] => rfl
  | _ :: l => by simp [len, len_eq l]
theorem nth_eq : ∀ (l : List AV) (i : Nat), nth l i = l[i]?
  | [], i => by cases i <;> rfl
  | _ :: _, 0 => rfl
  | _ :: l, i + 1 => by simp [nth, nth_eq l i]
theorem force_eq : ∀ (l : List AV), force l = some l
  | [] => rfl
  | a :: l => by simp [force, force_eq l]

theorem run_loadCellsFrom (b o : Nat) : ∀ (l : List Value) (i : Nat) (acc : Array Value),
    (∀ j (h : j < l.length), w.cell? ⟨b, o + i + j, none⟩ = some l[j]) → (loadCellsFrom ⟨b, o, none⟩ i l.length acc).run P w = .ok (acc ++ l.toArray) w
  | [], i, acc, _ => by simp [loadCellsFrom]
  | v :: l, i, acc, h => by
    simp only [List.length_cons, loadCellsFrom, Sem.run_bind, run_load, addr_add]
    have h0 : w.cell? ⟨b, o + i, none⟩ = some v := h 0 (by simp)
    rw [h0]
    simp only [Result.andThen_ok]
    rw [run_loadCellsFrom b o l (i + 1) (acc.push v) (fun j hj => by
      have := h (j + 1) (by simp; omega)
      simpa [Nat.add_assoc, Nat.add_comm 1 j] using this)]
    simp
theorem run_loadCells {b o n : Nat} {l : List Value} (hn : l.length = n) (h : ∀ j (hj : j < l.length), w.cell? ⟨b, o + j, none⟩ = some l[j]) :
    (loadCells ⟨b, o, none⟩ n).run P w = .ok l.toArray w := by
  subst hn
  have := run_loadCellsFrom (P := P) (w := w) b o l 0 #[] (by simpa using h)
  simpa [loadCells] using this
end

section
variable {P : Program} {G : Glob} {B : Nat} {φ : PM} {st : St} {w : World}

/-- A cell of an abstract row. -/
theorem ObR.cell {d : Tr AV} {n el : Nat} {ex : Bool} {fz m : Nat} {p : PB} (h : ObR φ (.row d n el ex fz m) p w) {i : Nat} {v : AV} (hi : d.get i = some v) :
    i < n ∧ ∃ y, w.cell? ⟨p.blk, p.base + i, none⟩ = some y ∧ VR φ v y := by
  obtain ⟨cells, lo, hi', h1, _, _, _, _, h6⟩ := h
  obtain ⟨h7, y, h8, h9⟩ := h6 i v hi
  exact ⟨h7, y, by simp [World.cell?, h1, h8], h9⟩
theorem ObR.rd {d : Tr AV} {n el : Nat} {ex : Bool} {fz m : Nat} {p : PB} (h : ObR φ (.row d n el ex fz m) p w) :
    ∀ (k off : Nat) (l : List AV), rd d off k = some l → ∃ ys : List Value, VRs φ l ys ∧ ys.length = k ∧ ∀ j (hj : j < ys.length), w.cell? ⟨p.blk, p.base + off + j, none⟩ = some ys[j]
  | 0, off, l, e => by simp only [Ax.rd, Option.some.injEq] at e; subst e; exact ⟨[], VRs.nil, rfl, fun j hj => by simp at hj⟩
  | k + 1, off, l, e => by
    simp only [Ax.rd] at e
    split at e
    · rename_i a l' ha hl
      cases e
      obtain ⟨_, y, hy, hv⟩ := h.cell ha
      obtain ⟨ys, h1, h2, h3⟩ := ObR.rd h k (off + 1) l' hl
      refine ⟨y :: ys, VRs.cons hv h1, by simp [h2], fun j hj => ?_⟩
      cases j with
      | zero => simpa using hy
      | succ j =>
        have := h3 j (by simpa using hj)
        simpa [Nat.add_assoc, Nat.add_comm 1 j] using this
    · cases e

theorem loadX_sound {t : TypeId} {a v : AV} {y : Value} (h : loadX P G t a st = some v) (hr : HR G B φ st w) (ha : VR φ a y) :
    ∃ z, (Instr.loadAt t y).run P w = .ok z w ∧ VR φ v z := by
  unfold loadX at h
  split at h
  · rename_i b off
    simp only [VR] at ha; obtain ⟨p, hp, rfl⟩ := ha
    split at h
    · rename_i d n el ex fz m hg
      have ho := hr.objs _ _ _ hg hp
      split at h
      · rename_i hag
        split at h
        · rename_i k hk
          split at h
          · rename_i l hl
            cases h
            obtain ⟨ys, h1, h2, h3⟩ := ho.rd _ _ _ hl
            refine ⟨.agg ys.toArray, ?_, by simp only [VR]; exact ⟨_, rfl, by simpa using h1⟩⟩
            simp [Instr.loadAt, Instr.sureAddr, loadVar, run_isAgg hag, run_sz hk, run_loadCells h2 h3]
          · cases h
        · cases h
      · rename_i hag
        obtain ⟨_, z, hz, hv⟩ := ho.cell h
        exact ⟨z, by simp [Instr.loadAt, Instr.sureAddr, loadVar, run_isAgg hag, hz], hv⟩
      · cases h
    · cases h
  · rename_i g off
    simp only [VR] at ha; subst ha
    split at h
    · rename_i l hg
      obtain ⟨_, hl⟩ := hr.glob g l hg
      split at h
      · rename_i hag
        split at h
        · rename_i k hk
          rw [force_eq, cond_eq_ite] at h
          split at h
          · rename_i hle
            cases h
            rw [Nat.ble_eq, len_eq] at hle
            have hc : ∀ (m o : Nat), o + m ≤ l.length → ∃ ys : List Value, VRs φ (cut l o m) ys ∧ ys.length = m ∧ ∀ j (hj : j < ys.length), w.cell? ⟨g, o + j, none⟩ = some ys[j] := by
              intro m
              induction m with
              | zero => intro o _; exact ⟨[], by simp [cut, VRs], rfl, fun j hj => by simp at hj⟩
              | succ m ih =>
                intro o ho
                obtain ⟨ys, h1, h2, h3⟩ := ih (o + 1) (by omega)
                obtain ⟨y, hy, hv⟩ := hl o (l[o]'(by omega)) (by rw [nth_eq]; exact List.getElem?_eq_getElem _)
                refine ⟨y :: ys, ?_, by simp [h2], fun j hj => ?_⟩
                · have : cut l o (m + 1) = l[o]'(by omega) :: cut l (o + 1) m := by
                    unfold cut; rw [List.drop_eq_getElem_cons (by omega), List.take_succ_cons]
                  rw [this]; exact VRs.cons (VR.mono (fun _ _ e => by cases e) _ _ hv) h1
                · cases j with
                  | zero => simpa using hy
                  | succ j => have := h3 j (by simpa using hj); simpa [Nat.add_assoc, Nat.add_comm 1 j] using this
            obtain ⟨ys, h1, h2, h3⟩ := hc k off hle
            refine ⟨.agg ys.toArray, ?_, by simp only [VR]; exact ⟨_, rfl, by simpa using h1⟩⟩
            simp [Instr.loadAt, Instr.sureAddr, loadVar, run_isAgg hag, run_sz hk, run_loadCells h2 h3]
          · cases h
        · cases h
      · rename_i hag
        obtain ⟨y, hy, hv⟩ := hl _ _ h
        exact ⟨y, by simp [Instr.loadAt, Instr.sureAddr, loadVar, run_isAgg hag, hy], VR.mono (fun _ _ e => by cases e) _ _ hv⟩
      · cases h
    · cases h
  · cases h

theorem fieldAddrX_sound {s : TypeId} {a v : AV} {f : Nat} {y : Value} (h : fieldAddrX P s a f = some v) (ha : VR φ a y) :
    ∃ z, (Instr.fieldAt s y f).run P w = .ok z w ∧ VR φ v z := by
  unfold fieldAddrX at h
  split at h
  · rename_i fs hfs
    split at h
    · rename_i fd hfd
      split at h
      · rename_i k hk
        have hrun : ∀ b o, (Instr.fieldAt s (.pointer (some ⟨b, o, none⟩)) f).run P w = .ok (.pointer (some ⟨b, o + fd.offset, none⟩)) w := by
          intro b o
          simp [Instr.fieldAt, run_und hfs, hfd, Instr.sureAddr, fieldPlace, run_sz hk, addr_add]
        split at h
        · rename_i b off
          simp only [VR] at ha; obtain ⟨p, hp, rfl⟩ := ha
          refine ⟨_, hrun _ _, ?_⟩
          have h' : v = .ptr b (off + fd.offset) := by
            cases e : off + fd.offset with
            | zero => rw [e] at h; cases h; rfl
            | succ j => rw [e] at h; cases h; rfl
          subst h'
          simp only [VR]; exact ⟨p, hp, by rw [Nat.add_assoc]⟩
        · rename_i g off
          simp only [VR] at ha; subst ha
          cases h
          exact ⟨_, hrun _ _, by simp only [VR]⟩
        · cases h
      · cases h
    · cases h
  · cases h

theorem idxOf_some {a : AV} {i : Nat} (h : idxOf a = some i) : ∃ k, a = .v (.int k (i : Int)) := by
  unfold idxOf at h
  split at h
  · rename_i k n; rw [nonNeg_some] at h; subst h; exact ⟨k, rfl⟩
  · cases h

theorem ptr_match {b m : Nat} {v : AV} (h : (match m with | 0 => some (AV.ptr b 0) | j + 1 => some (AV.ptr b (Nat.succ j))) = some v) : v = .ptr b m := by
  cases m with
  | zero => cases h; rfl
  | succ j => cases h; rfl

theorem indexAddrX_sound {t : TypeId} {x i v : AV} {y z : Value} (h : indexAddrX P t x i = some v) (hx : VR φ x y) (hi : VR φ i z) :
    ∃ u, (Instr.indexAt t y z).run P w = .ok u w ∧ VR φ v u := by
  unfold indexAddrX at h
  split at h
  · cases h
  · rename_i n hn
    obtain ⟨k, rfl⟩ := idxOf_some hn
    simp only [VR] at hi; subst hi
    split at h
    · rename_i el hel
      split at h
      · rename_i b off len lo ex es s hs
        simp only [VR] at hx; obtain ⟨p, c, hp, rfl, _⟩ := hx
        rw [cond_eq_ite] at h
        split at h
        · rename_i hlt
          rw [nat_blt, decide_eq_true_eq] at hlt
          have := ptr_match h; subst this
          refine ⟨.pointer (some ⟨p.blk, p.base + off + n * s, none⟩), ?_, by simp only [VR]; exact ⟨p, hp, by rw [Nat.add_assoc]⟩⟩
          have h1 : (0 : Int) ≤ n ∧ (n : Int) < len := by omega
          simp [Instr.indexAt, asIntOf, run_und hel, run_sz hs, addr_add, hlt]
        · cases h
      · cases h
    · rename_i m el hel
      split at h
      · rename_i b off s hs
        simp only [VR] at hx; obtain ⟨p, hp, rfl⟩ := hx
        rw [cond_eq_ite] at h
        split at h
        · rename_i hlt
          rw [nat_blt, decide_eq_true_eq] at hlt
          have := ptr_match h; subst this
          refine ⟨.pointer (some ⟨p.blk, p.base + off + n * s, none⟩), ?_, by simp only [VR]; exact ⟨p, hp, by rw [Nat.add_assoc]⟩⟩
          simp [Instr.indexAt, asIntOf, run_und hel, run_sz hs, addr_add, hlt, Instr.sureAddr]
        · cases h
      · rename_i g off s hs
        simp only [VR] at hx; subst hx
        rw [cond_eq_ite] at h
        split at h
        · rename_i hlt
          rw [nat_blt, decide_eq_true_eq] at hlt
          cases h
          refine ⟨.pointer (some ⟨g, off + n * s, none⟩), ?_, by simp only [VR]⟩
          simp [Instr.indexAt, asIntOf, run_und hel, run_sz hs, addr_add, hlt, Instr.sureAddr]
        · cases h
      · cases h
    · cases h

theorem partX_sound {t : TypeId} {cs : List AV} {off : Nat} {v : AV} {ys : Array Value} (h : partX P t cs off = some v) (hc : VRs φ cs ys.toList) :
    ∃ z, (part t ys off).run P w = .ok z w ∧ VR φ v z := by
  unfold partX at h
  split at h
  · rename_i hag
    split at h
    · rename_i n hn
      rw [force_eq, cond_eq_ite] at h
      split at h
      · cases h
        refine ⟨.agg (ys.extract off (off + n)), by simp [part, run_isAgg hag, run_sz hn], ?_⟩
        simp only [VR]
        refine ⟨_, rfl, ?_⟩
        have e : (ys.extract off (off + n)).toList = (ys.toList.drop off).take n := by
          rw [Array.toList_extract, List.extract_eq_take_drop]; congr 1; omega
        rw [e]; exact (hc.drop off).take n
      · cases h
    · cases h
  · rename_i hag
    rw [nth_eq] at h
    obtain ⟨y, hy, hv⟩ := hc.get h
    refine ⟨y, ?_, hv⟩
    have : ys[off]? = some y := by simpa using hy
    simp [part, run_isAgg hag, this]
  · cases h

theorem mkB_get? (n c i : Nat) (h : i < n) : (mkB n c)[i]? = some (UInt8.ofNat (c / 256 ^ i)) := by
  have hs : (mkB n c).size = n := mkB_size n c
  rw [getElem?_pos (mkB n c) i (by omega)]
  congr 1
  have := bl_get n c i h
  rw [← mkB_data n c, List.getElem?_eq_getElem (by rw [mkB_data, bl_length]; exact h)] at this
  have e : (mkB n c).data.toList[i]'(by rw [mkB_data, bl_length]; exact h) = (mkB n c)[i] := by rw [Array.getElem_toList]; rfl
  rw [← e]
  exact Option.some.inj this

theorem indexX_sound {t : TypeId} {x i v : AV} {y z : Value} (h : indexX P t x i = some v) (hx : VR φ x y) (hi : VR φ i z) :
    ∃ u, (Instr.index t y z).run P w = .ok u w ∧ VR φ v u := by
  unfold indexX at h
  split at h
  · cases h
  · rename_i k hk
    obtain ⟨kd, rfl⟩ := idxOf_some hk
    simp only [VR] at hi; subst hi
    split at h
    · rename_i n c
      simp only [VR] at hx; subst hx
      split at h
      · rename_i ht
        rw [cond_eq_ite] at h
        split at h
        · rename_i hlt
          rw [nat_blt, decide_eq_true_eq] at hlt
          cases h
          refine ⟨.int .u8 (strAt c k), ?_, by rw [mkI_eq]; simp [VR]⟩
          have hg := mkB_get? n c k hlt
          have hn : (UInt8.ofNat (c / 256 ^ k)).toNat = strAt c k := by
            rw [← ofNat_strAt, UInt8.toNat_ofNat']
            have := strAt_lt c k; omega
          simp only [Instr.index, asIntOf, Sem.run_bind, Sem.run_pure, Result.andThen_ok, run_und ht]
          have : (if (0 : Int) ≤ (k : Int) then (mkB n c)[(k : Int).toNat]? else none) = some (UInt8.ofNat (c / 256 ^ k)) := by
            rw [if_pos (by omega)]; simpa using hg
          rw [this]
          simp only [Sem.run_pure, hn]
        · cases h
      · cases h
    · rename_i cs
      simp only [VR] at hx; obtain ⟨ys, rfl, hc⟩ := hx
      split at h
      · rename_i n el ht
        split at h
        · rename_i s hs
          rw [cond_eq_ite] at h
          split at h
          · rename_i hlt
            rw [nat_blt, decide_eq_true_eq] at hlt
            obtain ⟨u, hu, hv⟩ := partX_sound (P := P) (w := w) h hc
            refine ⟨u, ?_, hv⟩
            simp [Instr.index, asIntOf, run_und ht, run_sz hs, hlt, hu]
          · cases h
        · cases h
      · cases h
    · cases h

theorem fieldX_sound {t : TypeId} {x v : AV} {f : Nat} {y : Value} (h : fieldX P t x f = some v) (hx : VR φ x y) :
    ∃ u, (Instr.field t y f).run P w = .ok u w ∧ VR φ v u := by
  unfold fieldX at h
  split at h
  · rename_i cs fs hfs
    simp only [VR] at hx; obtain ⟨ys, rfl, hc⟩ := hx
    split at h
    · rename_i fd hfd
      obtain ⟨u, hu, hv⟩ := partX_sound (P := P) (w := w) h hc
      exact ⟨u, by simp [Instr.field, run_und hfs, hfd, asAgg, hu], hv⟩
    · cases h
  · cases h
end
end Go.Ax

/-
  AxS4: slices, operators, conversions, maps read.
-/
namespace Go.Ax
open Go Go.RowKit

section
variable {P : Program} {G : Glob} {B : Nat} {φ : PM} {st : St} {w : World} {ev : Operand → Option AV} {η : Operand → Value}

theorem bound_some {o : Option Operand} {dflt most i : Nat} (h : bound ev o dflt most = some i) :
    (o = none ∧ i = dflt) ∨ (∃ x a k, o = some x ∧ ev x = some a ∧ a = .v (.int k (i : Int)) ∧ i ≤ most) := by
  unfold bound at h
  split at h
  · cases h; exact .inl ⟨rfl, rfl⟩
  · rename_i x
    split at h
    · rename_i a ha
      split at h
      · rename_i j hj
        rw [cond_eq_ite] at h
        split at h
        · rename_i hle
          obtain ⟨k, rfl⟩ := idxOf_some hj
          have : i = j := by cases j <;> cases h <;> rfl
          subst this
          exact .inr ⟨x, _, k, rfl, ha, rfl, by simpa using hle⟩
        · cases h
      · cases h
    · cases h

/-- A bound, as the model takes it. -/
theorem run_sliceBound {k : IntKind} {i y : Nat} {code : BoundsCode} (h : i ≤ y) : (Instr.sliceBound (.int k (i : Int)) y code).run P w = .ok i w := by
  simp [Instr.sliceBound, asIntOf, h]

/-- The three bounds of a slice expression without a third index. -/
theorem run_sliceBounds2 {isS : Bool} {n c l h : Nat} {lo hi : Option Operand} (hhi : bound ev hi n c = some h) (hlo : bound ev lo 0 h = some l)
    (hev : ∀ x v, (lo = some x ∨ hi = some x) → ev x = some v → VR φ v (η x)) :
    (Instr.sliceBounds isS n c (lo.map η) (hi.map η) none).run P w = .ok (l, h, c) w ∧ l ≤ h ∧ (hi = none ∧ h = n ∨ h ≤ c) := by
  rcases bound_some hhi with ⟨rfl, rfl⟩ | ⟨x, a, k, rfl, ha, rfl, hle⟩
  · rcases bound_some hlo with ⟨rfl, rfl⟩ | ⟨x', a', k', rfl, ha', rfl, hle'⟩
    · refine ⟨?_, Nat.zero_le _, .inl ⟨rfl, rfl⟩⟩
      simp [Instr.sliceBounds]
    · have v2 := hev x' _ (.inl rfl) ha'
      simp only [VR] at v2
      refine ⟨?_, hle', .inl ⟨rfl, rfl⟩⟩
      simp [Instr.sliceBounds, v2, run_sliceBound hle']
  · have v1 := hev x _ (.inr rfl) ha
    simp only [VR] at v1
    rcases bound_some hlo with ⟨rfl, rfl⟩ | ⟨x', a', k', rfl, ha', rfl, hle'⟩
    · refine ⟨?_, Nat.zero_le _, .inr hle⟩
      simp [Instr.sliceBounds, v1, run_sliceBound hle]
    · have v2 := hev x' _ (.inl rfl) ha'
      simp only [VR] at v2
      refine ⟨?_, hle', .inr hle⟩
      simp [Instr.sliceBounds, v1, v2, run_sliceBound hle, run_sliceBound hle']

theorem run_sliceBounds3 {isS : Bool} {n c l h m : Nat} {lo : Option Operand} {hx mx : Operand} (hmx : bound ev (some mx) 0 c = some m) (hhi : bound ev (some hx) 0 m = some h) (hlo : bound ev lo 0 h = some l) {c' : Nat} (hc : c ≤ c')
    (hev : ∀ x v, (lo = some x ∨ hx = x ∨ mx = x) → ev x = some v → VR φ v (η x)) :
    (Instr.sliceBounds isS n c' (lo.map η) (some (η hx)) (some (η mx))).run P w = .ok (l, h, m) w ∧ l ≤ h ∧ h ≤ m ∧ m ≤ c := by
  rcases bound_some hmx with ⟨hh, _⟩ | ⟨x, a, k, hh, ha, rfl, hle⟩
  · cases hh
  cases hh
  have v1 := hev mx _ (.inr (.inr rfl)) ha
  simp only [VR] at v1
  rcases bound_some hhi with ⟨hh, _⟩ | ⟨x, a, k', hh, ha', rfl, hle'⟩
  · cases hh
  cases hh
  have v2 := hev hx _ (.inr (.inl rfl)) ha'
  simp only [VR] at v2
  rcases bound_some hlo with ⟨rfl, rfl⟩ | ⟨x', a', k2, rfl, ha2, rfl, hle2⟩
  · refine ⟨?_, Nat.zero_le _, hle', hle⟩
    simp [Instr.sliceBounds, v1, v2, run_sliceBound (show m ≤ c' by omega), run_sliceBound hle']
  · have v3 := hev x' _ (.inl rfl) ha2
    simp only [VR] at v3
    refine ⟨?_, hle2, hle', hle⟩
    simp [Instr.sliceBounds, v1, v2, v3, run_sliceBound (show m ≤ c' by omega), run_sliceBound hle', run_sliceBound hle2]

theorem sliceX_sound {t : TypeId} {x v : AV} {lo hi mx : Option Operand} {y : Value} (h : sliceX P ev st t x lo hi mx = some v) (hr : HR G B φ st w) (hx : VR φ x y)
    (hev : ∀ o u, (lo = some o ∨ hi = some o ∨ mx = some o) → ev o = some u → VR φ u (η o)) :
    ∃ z, (Instr.sliceAt t y (lo.map η) (hi.map η) (mx.map η)).run P w = .ok z w ∧ VR φ v z := by
  have hev2 : ∀ x v, (lo = some x ∨ hi = some x) → ev x = some v → VR φ v (η x) := fun x v hh => hev x v (hh.elim .inl fun h => .inr (.inl h))
  unfold sliceX at h
  split at h
  · rename_i n c
    simp only [VR] at hx; subst hx
    split at h
    · rename_i ht
      split at h
      · rename_i hh hhi
        split at h
        · rename_i l hlo
          cases h
          obtain ⟨e1, e2, e3⟩ := run_sliceBounds2 (P := P) (w := w) (isS := false) hhi hlo hev2
          refine ⟨.string ((mkB n c).extract l hh), ?_, ?_⟩
          · simp only [Option.map_none]
            simp only [Instr.sliceAt, Sem.run_bind, run_und ht, Result.andThen_ok, Instr.slice, Option.isSome_none, Bool.false_eq_true, if_false, Sem.run_pure, mkB_size, e1]
          · simp only [strSub, mkStr_eq, VR, mkB_if]
            have : hh ≤ n := by rcases e3 with ⟨_, e⟩ | e <;> omega
            rw [mkB_extract n c l hh e2 this]
            rfl
        · cases h
      · cases h
    · cases h
  · simp only [VR] at hx; subst hx
    split at h
    · rename_i el ht
      split at h
      · rename_i s hs
        split at h
        · rename_i mo
          split at h
          · rename_i h1 h2 h3
            split at h
            · rename_i ho
              cases h
              obtain ⟨e1, -, -, -⟩ := run_sliceBounds3 (P := P) (w := w) (isS := true) (n := 0) h1 h2 h3 (Nat.le_refl 0) (fun x v hh => hev x v (by rcases hh with h | h | h; exact .inl h; exact .inr (.inl (by rw [h])); exact .inr (.inr (by rw [h]))))
              refine ⟨.slice none 0 0, ?_, by simp [VR]⟩
              simp only [Instr.sliceAt, Sem.run_bind, run_und ht, Result.andThen_ok, Instr.slice, Option.map_some, e1, run_sz hs]
              rfl
            · cases h
          · cases h
        · split at h
          · rename_i h2 h3
            cases h
            obtain ⟨e1, -, -⟩ := run_sliceBounds2 (P := P) (w := w) (isS := true) h2 h3 hev2
            refine ⟨.slice none 0 0, ?_, by simp [VR]⟩
            simp only [Instr.sliceAt, Sem.run_bind, run_und ht, Result.andThen_ok, Instr.slice, Option.map_none, e1, run_sz hs]
            rfl
          · cases h
      · cases h
    · cases h
  · rename_i b off len c ex es
    simp only [VR] at hx; obtain ⟨p, c', hp, rfl, hc1, hc2, hc3, hc4⟩ := hx
    split at h
    · rename_i el ht
      split at h
      · rename_i s hs
        rw [cond_eq_ite] at h
        split at h
        · rename_i hses
          rw [Nat.beq_eq] at hses
          subst hses
          split at h
          · rename_i mo
            split at h
            · rename_i m hm
              split at h
              · cases h
              · rename_i ho
                split at h
                · rename_i hh hhi
                  split at h
                  · rename_i l hlo
                    cases h
                    obtain ⟨e1, e2, e3, e4⟩ := run_sliceBounds3 (P := P) (w := w) (isS := true) (n := len) hm hhi hlo hc1 (fun x v hh => hev x v (by rcases hh with h | h | h; exact .inl h; exact .inr (.inl (by rw [h])); exact .inr (.inr (by rw [h]))))
                    refine ⟨.slice (some (if m = l then ⟨p.blk, p.base + off, none⟩ else ⟨p.blk, p.base + off + l * s, none⟩)) (hh - l) (m - l), ?_, ?_⟩
                    · simp only [Instr.sliceAt, Sem.run_bind, run_und ht, Result.andThen_ok, Instr.slice, Option.map_some, e1, run_sz hs, Sem.run_pure, addr_add]
                      by_cases hml : m = l <;> simp [hml]
                    · rw [cond_eq_ite]
                      have hmul : m * s ≤ c' * s := Nat.mul_le_mul_right _ (by omega)
                      by_cases hml : m = l
                      · rw [if_pos (by rw [Nat.beq_eq]; exact hml), if_pos hml, mkSl_eq]
                        simp only [VR]
                        refine ⟨p, m - l, hp, rfl, Nat.le_refl _, fun _ => rfl, by omega, ?_⟩
                        have : (m - l) * s = 0 := by rw [hml]; simp
                        omega
                      · rw [if_neg (by rw [Nat.beq_eq]; exact hml), if_neg hml, mkSl_eq]
                        simp only [VR]
                        refine ⟨p, m - l, hp, by rw [Nat.add_assoc], Nat.le_refl _, fun _ => rfl, by omega, ?_⟩
                        have : l * s + (m - l) * s = m * s := by rw [← Nat.add_mul]; congr 1; omega
                        omega
                  · cases h
                · cases h
            · cases h
          · split at h
            · rename_i hh hhi
              split at h
              · rename_i l hlo
                have hhc : hh ≤ c := by
                  rcases bound_some hhi with ⟨_, e⟩ | ⟨_, _, _, _, _, _, e⟩ <;> omega
                have hhi' : bound ev hi len c' = some hh := by
                  rcases bound_some hhi with ⟨e1, e2⟩ | ⟨x, a, k, e1, e2, e3, e4⟩
                  · subst e1; subst e2; rfl
                  · subst e1; subst e3
                    simp only [bound, e2, idxOf, nonNeg_some.2 rfl, cond_eq_ite]
                    rw [if_pos (by simp; omega)]
                    cases hh <;> rfl
                obtain ⟨e1, e2, e3⟩ := run_sliceBounds2 (P := P) (w := w) (isS := true) hhi' hlo hev2
                have hrun : (Instr.sliceAt t (.slice (some ⟨p.blk, p.base + off, none⟩) len c') (lo.map η) (hi.map η) none).run P w =
                    .ok (.slice (some (if c' = l then ⟨p.blk, p.base + off, none⟩ else ⟨p.blk, p.base + off + l * s, none⟩)) (hh - l) (c' - l)) w := by
                  simp only [Instr.sliceAt, Sem.run_bind, run_und ht, Result.andThen_ok, Instr.slice, e1, run_sz hs, Sem.run_pure]
                  by_cases hml : c' = l <;> simp [hml, addr_add]
                refine ⟨_, hrun, ?_⟩
                rw [cond_eq_ite] at h
                split at h
                · rename_i hex
                  have hcc := hc2 hex
                  subst hcc
                  cases h
                  rw [cond_eq_ite]
                  by_cases hml : c' = l
                  · rw [if_pos (by rw [Nat.beq_eq]; exact hml), if_pos hml, mkSl_eq]
                    simp only [VR]
                    refine ⟨p, c' - l, hp, rfl, Nat.le_refl _, fun _ => rfl, by omega, ?_⟩
                    have : (c' - l) * s = 0 := by rw [hml]; simp
                    omega
                  · rw [if_neg (by rw [Nat.beq_eq]; exact hml), if_neg hml, mkSl_eq]
                    simp only [VR]
                    refine ⟨p, c' - l, hp, by rw [Nat.add_assoc], Nat.le_refl _, fun _ => rfl, by omega, ?_⟩
                    have : l * s + (c' - l) * s = c' * s := by rw [← Nat.add_mul]; congr 1; omega
                    omega
                · rename_i hex
                  rw [cond_eq_ite] at h
                  split at h
                  · rename_i hl0
                    rw [Nat.beq_eq] at hl0; subst hl0
                    cases h
                    rw [mkSl_eq]
                    simp only [VR]
                    refine ⟨p, c', hp, ?_, hc1, fun e => absurd e hex, hhc, hc4⟩
                    simp
                  · rename_i hl0
                    rw [cond_eq_ite] at h
                    split at h
                    · rename_i hlc
                      rw [nat_blt, decide_eq_true_eq] at hlc
                      cases h
                      rw [mkSl_eq, if_neg (by omega)]
                      simp only [VR]
                      refine ⟨p, c' - l, hp, by rw [Nat.add_assoc], by omega, fun e => absurd e hex, by omega, ?_⟩
                      have : l * s + (c' - l) * s = c' * s := by rw [← Nat.add_mul]; congr 1; omega
                      omega
                    · cases h
              · cases h
            · cases h
        · cases h
      · cases h
    · cases h
  · rename_i b off
    simp only [VR] at hx; obtain ⟨p, hp, rfl⟩ := hx
    split at h
    · rename_i d rn rel ex fz m hg
      obtain ⟨cells, lo', hi', _, g2, g3, _⟩ := hr.objs _ _ _ hg hp
      split at h
      · rename_i n el ht
        split at h
        · rename_i s hh hs hhi
          split at h
          · rename_i l hlo
            rw [cond_eq_ite] at h
            split at h
            · rename_i hle
              rw [Nat.ble_eq] at hle
              cases h
              obtain ⟨e1, e2, e3⟩ := run_sliceBounds2 (P := P) (w := w) (isS := false) hhi hlo hev2
              refine ⟨.slice (some (if n = l then ⟨p.blk, p.base + off, none⟩ else ⟨p.blk, p.base + off + l * s, none⟩)) (hh - l) (n - l), ?_, ?_⟩
              · simp only [Instr.sliceAt, Sem.run_bind, run_und ht, Result.andThen_ok, Instr.sureAddr, Option.map_none, e1, run_sz hs, Sem.run_pure]
                by_cases hml : n = l <;> simp [hml, addr_add]
              · rw [cond_eq_ite]
                by_cases hml : n = l
                · rw [if_pos (by rw [Nat.beq_eq]; exact hml), if_pos hml, mkSl_eq]
                  simp only [VR]
                  refine ⟨p, n - l, hp, rfl, Nat.le_refl _, fun _ => rfl, by omega, ?_⟩
                  have : (n - l) * s = 0 := by rw [hml]; simp
                  omega
                · rw [if_neg (by rw [Nat.beq_eq]; exact hml), if_neg hml, mkSl_eq]
                  simp only [VR]
                  refine ⟨p, n - l, hp, by rw [Nat.add_assoc], Nat.le_refl _, fun _ => rfl, by omega, ?_⟩
                  have : l * s + (n - l) * s = n * s := by rw [← Nat.add_mul]; congr 1; omega
                  omega
            · cases h
          · cases h
        · cases h
      · cases h
    · cases h
  · cases h
end
end Go.Ax

/-
  AxS5: operators, comparisons, conversions.
-/
namespace Go.Ax
open Go Go.RowKit

theorem prun_sound {α : Type} {P : Program} : ∀ (s : Sem α) (a : α) (w : World), prun P s = some a → s.run P w = .ok a w
  | .pure b, a, w, h => by simp only [prun, Option.some.injEq] at h; subst h; rfl
  | .program k, a, w, h => by
    simp only [prun] at h
    exact prun_sound (k P) a w h
  | .mark m k, a, w, h => by
    simp only [prun] at h
    exact prun_sound k a w h
  | .load .., _, _, h => by simp [prun] at h
  | .store .., _, _, h => by simp [prun] at h
  | .new .., _, _, h => by simp [prun] at h
  | .shape .., _, _, h => by simp [prun] at h
  | .freeze .., _, _, h => by simp [prun] at h
  | .frozen .., _, _, h => by simp [prun] at h
  | .getObj .., _, _, h => by simp [prun] at h
  | .setObj .., _, _, h => by simp [prun] at h
  | .choose .., _, _, h => by simp [prun] at h
  | .sys .., _, _, h => by simp [prun] at h
  | .halt .., _, _, h => by simp [prun] at h

section
variable {P : Program} {G : Glob} {B : Nat} {φ : PM} {st : St} {w : World}

mutual
theorem toV_sound : ∀ (a : AV) (x y : Value), toV a = some x → VR φ a y → y = x
  | .v _, x, y, h, e => by simp only [toV, Option.some.injEq] at h; simp only [VR] at e; rw [e, h]
  | .str n c, x, y, h, e => by simp only [toV, Option.some.injEq] at h; simp only [VR] at e; rw [e, h]
  | .agg cs, x, y, h, e => by
    simp only [toV, Option.map_eq_some_iff] at h
    obtain ⟨l, h1, rfl⟩ := h
    simp only [VR] at e; obtain ⟨ys, rfl, e⟩ := e
    have := toVs_sound cs l _ h1 e
    rw [← this]
  | .tup cs, x, y, h, e => by
    simp only [toV, Option.map_eq_some_iff] at h
    obtain ⟨l, h1, rfl⟩ := h
    simp only [VR] at e; obtain ⟨ys, rfl, e⟩ := e
    have := toVs_sound cs l _ h1 e
    rw [← this]
  | .ifc t a, x, y, h, e => by
    simp only [toV, Option.map_eq_some_iff] at h
    obtain ⟨l, h1, rfl⟩ := h
    simp only [VR] at e; obtain ⟨z, rfl, e⟩ := e
    rw [toV_sound a l z h1 e]
  | .ptr .., _, _, h, _ => by simp [toV] at h
  | .sl .., _, _, h, _ => by simp [toV] at h
  | .map .., _, _, h, _ => by simp [toV] at h
  | .fn .., _, _, h, _ => by simp [toV] at h
  | .yld .., _, _, h, _ => by simp [toV] at h
theorem toVs_sound : ∀ (l : List AV) (m ys : List Value), toVs l = some m → VRs φ l ys → ys = m
  | [], m, ys, h, e => by simp only [toVs, Option.some.injEq] at h; simp only [VRs] at e; rw [e, h]
  | a :: l, m, ys, h, e => by
    simp only [toVs] at h
    split at h
    · rename_i x y h1 h2
      cases h
      simp only [VRs] at e; obtain ⟨z, zs, rfl, e1, e2⟩ := e
      rw [toV_sound a x z h1 e1, toVs_sound l y zs h2 e2]
    · cases h
end

theorem ofNat_pow (m : Nat) : (Int.ofNat (Nat.pow 2 m) : Int) = 2 ^ m := by
  show ((2 ^ m : Nat) : Int) = 2 ^ m
  simp

theorem bitsI_sound {op : BinOp} {k : IntKind} {a b : Int} {v : AV} (h : bitsI op k a b = some v) :
    ∃ z, (Op.intBits op k a b).run P w = .ok z w ∧ VR φ v z := by
  unfold bitsI at h
  split at h
  · rename_i k' n e
    cases h
    exact ⟨_, by rw [e]; rfl, by rw [mkI_eq]; simp [VR]⟩
  · cases h

theorem binI_sound {op : BinOp} {k k' : IntKind} {a b : Int} {v : AV} {t : TypeId} (h : binI op k a k' b = some v) :
    ∃ z, (binOp op t (.int k a) (.int k' b)).run P w = .ok z w ∧ VR φ v z := by
  unfold binI at h
  have shr : ∀ m : Nat, b = (m : Int) → (binOp .shr t (.int k a) (.int k' b)).run P w = .ok (.int k (a.fdiv (Int.ofNat (Nat.pow 2 (Nat.min m k.bits))))) w := by
    intro m hm; subst hm
    rw [ofNat_pow]
    have h0 : ¬ ((m : Int) < 0) := by omega
    simp [binOp, Op.shift, h0]
  split at h
  · split at h
    · rename_i m hm
      cases h
      rw [nonNeg_some] at hm; subst hm
      refine ⟨.int k (k.wrap (a * 2 ^ (Nat.min m k.bits))), ?_, by rw [mkI_eq, wrapK_eq, ofNat_pow]; simp [VR]⟩
      have h0 : ¬ ((m : Int) < 0) := by omega
      simp [binOp, Op.shift, h0]
    · cases h
  · split at h
    · rename_i m hm
      cases h
      rw [nonNeg_some] at hm
      exact ⟨_, shr m hm, by rw [mkI_eq]; simp [VR]⟩
    · cases h
  · rename_i hne1 hne2
    rw [cond_eq_ite] at h
    split at h
    · rename_i hk
      rw [kindEq_iff] at hk; subst hk
      have other : ∀ z : Sem Value, binOp op t (.int k a) (.int k b) = z → ∀ u, z.run P w = .ok u w → (binOp op t (.int k a) (.int k b)).run P w = .ok u w := fun z e u hu => by rw [e]; exact hu
      cases op with
      | shl => exact absurd rfl hne1
      | shr => exact absurd rfl hne2
      | add => cases h; exact ⟨_, by simp [binOp, Op.intArith]; rfl, by rw [mkI_eq, wrapK_eq]; simp [VR]⟩
      | sub => cases h; exact ⟨_, by simp [binOp, Op.intArith]; rfl, by rw [mkI_eq, wrapK_eq]; simp [VR]⟩
      | mul => cases h; exact ⟨_, by simp [binOp, Op.intArith]; rfl, by rw [mkI_eq, wrapK_eq]; simp [VR]⟩
      | eql => cases h; exact ⟨_, by simp [binOp, Op.intCmp]; rfl, by rw [mkBool_eq, ieq_eq]; simp [VR]⟩
      | neq => cases h; exact ⟨_, by simp [binOp, Op.intCmp]; rfl, by rw [mkBool_eq, ieq_eq]; simp [VR, bne]⟩
      | lss => cases h; exact ⟨_, by simp [binOp, Op.intCmp]; rfl, by rw [mkBool_eq, ilt_eq]; simp [VR]⟩
      | leq => cases h; exact ⟨_, by simp [binOp, Op.intCmp]; rfl, by rw [mkBool_eq, ilt_eq]; simp [VR, ← decide_not, Int.not_lt]⟩
      | gtr => cases h; exact ⟨_, by simp [binOp, Op.intCmp]; rfl, by rw [mkBool_eq, ilt_eq]; simp [VR]⟩
      | geq => cases h; exact ⟨_, by simp [binOp, Op.intCmp]; rfl, by rw [mkBool_eq, ilt_eq]; simp [VR, ← decide_not, Int.not_lt]⟩
      | quo =>
        simp only [cond_eq_ite] at h
        split at h
        · cases h
        · rename_i hb
          rw [ieq_eq, beq_iff_eq] at hb
          cases h; exact ⟨_, by simp [binOp, Op.intDiv, hb]; rfl, by rw [mkI_eq, wrapK_eq]; simp [VR]⟩
      | rem =>
        simp only [cond_eq_ite] at h
        split at h
        · cases h
        · rename_i hb
          rw [ieq_eq, beq_iff_eq] at hb
          cases h; exact ⟨_, by simp [binOp, Op.intDiv, hb]; rfl, by rw [mkI_eq]; simp [VR]⟩
      | and => obtain ⟨z, hz, hv⟩ := bitsI_sound (P := P) (w := w) (φ := φ) h; exact ⟨z, by simp [binOp, hz], hv⟩
      | or => obtain ⟨z, hz, hv⟩ := bitsI_sound (P := P) (w := w) (φ := φ) h; exact ⟨z, by simp [binOp, hz], hv⟩
      | xor => obtain ⟨z, hz, hv⟩ := bitsI_sound (P := P) (w := w) (φ := φ) h; exact ⟨z, by simp [binOp, hz], hv⟩
      | andNot => obtain ⟨z, hz, hv⟩ := bitsI_sound (P := P) (w := w) (φ := φ) h; exact ⟨z, by simp [binOp, hz], hv⟩
    · cases h

theorem strLt_eq : ∀ (f n c n' c' : Nat), n < f → strLt f n c n' c' = Op.bytesLess (bl n c) (bl n' c')
  | 0, _, _, _, _, h => absurd h (Nat.not_lt_zero _)
  | f + 1, n, c, n', c', h => by
    cases n' with
    | zero => cases n <;> simp [strLt, bl, Op.bytesLess]
    | succ m' =>
      cases n with
      | zero => simp [strLt, bl, Op.bytesLess]
      | succ m =>
        have ih := strLt_eq f m (c / 256) m' (c' / 256) (by omega)
        simp only [strLt, bl, Op.bytesLess, cond_eq_ite, nat_blt]
        have h1 : (UInt8.ofNat c < UInt8.ofNat c') ↔ c % 256 < c' % 256 := by
          rw [UInt8.lt_iff_toNat_lt]; simp
        have h2 : (UInt8.ofNat c = UInt8.ofNat c') ↔ c % 256 = c' % 256 := by
          rw [← UInt8.toNat_inj]; simp
        by_cases h3 : c % 256 < c' % 256
        · have h4 : decide (Nat.mod c 256 < Nat.mod c' 256) = true := decide_eq_true h3
          rw [h4]; simp [h1.2 h3]
        · have h4 : decide (Nat.mod c 256 < Nat.mod c' 256) = false := decide_eq_false h3
          rw [h4]
          by_cases h5 : c % 256 = c' % 256
          · have h6 : Nat.beq (Nat.mod c 256) (Nat.mod c' 256) = true := by rw [Nat.beq_eq]; exact h5
            rw [h6]; simp [h2.2 h5]; exact ih
          · have h6 : Nat.beq (Nat.mod c 256) (Nat.mod c' 256) = false := by
              cases e : Nat.beq (Nat.mod c 256) (Nat.mod c' 256) with
              | false => rfl
              | true => exact absurd (Nat.eq_of_beq_eq_true e) h5
            rw [h6]; simp [mt h1.1 h3, mt h2.1 h5]

theorem binS_sound {op : BinOp} {n c n' c' : Nat} {v : AV} {t : TypeId} (h : binS op n c n' c' = some v) :
    ∃ z, (binOp op t (.string (mkB n c)) (.string (mkB n' c'))).run P w = .ok z w ∧ VR φ v z := by
  have ed : ∀ n c, (mkB n c).toList = bl n c := fun n c => by rw [ByteArray.toList_eq, mkB_data]
  have eqb : (bl n c == bl n' c') = strEq n c n' c' := by
    rw [Bool.eq_iff_iff, beq_iff_eq, strEq_iff]
    exact ⟨fun e => by rw [← mkB_enc (mkB n c), ← mkB_enc (mkB n' c'), mkB_size, mkB_size, mkB_data, mkB_data, e, show n = n' by rw [← bl_length n c, e, bl_length]], fun e => by rw [← mkB_data n c, e, mkB_data]⟩
  unfold binS at h
  cases op with
  | add =>
    simp only [cond_eq_ite] at h
    split at h
    · rename_i hlt
      rw [nat_blt, decide_eq_true_eq] at hlt
      cases h
      refine ⟨.string (mkB n c ++ mkB n' c'), ?_, ?_⟩
      · have hm : ¬ ((((mkB n c).size + (mkB n' c').size : Nat) : Int) > IntKind.i64.max) := by
          rw [mkB_size, mkB_size]
          show ¬ (((n + n' : Nat) : Int) > 2 ^ 63 - 1)
          omega
        simp only [binOp, Op.stringOp, hm, if_false, Sem.run_pure]
      · simp only [strAdd, mkStr_eq, VR, mkB_if]
        rw [mkB_append]; rfl
    · cases h
  | eql => cases h; exact ⟨_, by simp [binOp, Op.stringOp, ed]; rfl, by rw [mkBool_eq, ← eqb]; simp [VR]⟩
  | neq => cases h; exact ⟨_, by simp [binOp, Op.stringOp, ed]; rfl, by rw [mkBool_eq, ← eqb]; simp [VR]⟩
  | lss => cases h; exact ⟨_, by simp [binOp, Op.stringOp, ed]; rfl, by rw [mkBool_eq, strLt_eq _ _ _ _ _ (Nat.lt_succ_self n)]; simp [VR]⟩
  | geq => cases h; exact ⟨_, by simp [binOp, Op.stringOp, ed]; rfl, by rw [mkBool_eq, strLt_eq _ _ _ _ _ (Nat.lt_succ_self n)]; simp [VR]⟩
  | gtr => cases h; exact ⟨_, by simp [binOp, Op.stringOp, ed]; rfl, by rw [mkBool_eq, strLt_eq _ _ _ _ _ (Nat.lt_succ_self n), ← eqb]; simp [VR]⟩
  | leq => cases h; exact ⟨_, by simp [binOp, Op.stringOp, ed]; rfl, by rw [mkBool_eq, strLt_eq _ _ _ _ _ (Nat.lt_succ_self n), ← eqb]; simp [VR]⟩
  | _ => cases h
end
end Go.Ax

/-
  AxS6: comparisons, conversions, maps read, lengths.
-/
namespace Go.Ax
open Go Go.RowKit

section
variable {P : Program} {G : Glob} {B : Nat} {φ : PM} {st : St} {w : World}

theorem eqI_ptr {d : Nat} {t el : TypeId} {k : Nat} {a b : Addr} (ht : P.underlying t = some (.pointer el)) (hk : szX P el = some (k + 1)) (hb : a.block = b.block) :
    (Op.equalIn (d + 1) t (.pointer (some a)) (.pointer (some b))).run P w = .ok (a == b) w := by
  simp [Op.equalIn, run_und ht, run_sz hk, sameAddr, hb]
theorem eqI_ptr1 {d : Nat} {t el : TypeId} {a : Addr} (ht : P.underlying t = some (.pointer el)) :
    (Op.equalIn (d + 1) t (.pointer (some a)) (.pointer none)).run P w = .ok false w := by simp [Op.equalIn, run_und ht]
theorem eqI_ptr2 {d : Nat} {t el : TypeId} {a : Addr} (ht : P.underlying t = some (.pointer el)) :
    (Op.equalIn (d + 1) t (.pointer none) (.pointer (some a))).run P w = .ok false w := by simp [Op.equalIn, run_und ht]
theorem eqI_sl1 {d : Nat} {t el : TypeId} {a : Addr} {n c n' c' : Nat} (ht : P.underlying t = some (.slice el)) :
    (Op.equalIn (d + 1) t (.slice (some a) n c) (.slice none n' c')).run P w = .ok false w := by simp [Op.equalIn, run_und ht]
theorem eqI_sl2 {d : Nat} {t el : TypeId} {a : Addr} {n c n' c' : Nat} (ht : P.underlying t = some (.slice el)) :
    (Op.equalIn (d + 1) t (.slice none n' c') (.slice (some a) n c)).run P w = .ok false w := by simp [Op.equalIn, run_und ht]
theorem eqI_map1 {d : Nat} {t k el : TypeId} {a : Nat} (ht : P.underlying t = some (.map k el)) :
    (Op.equalIn (d + 1) t (.map (some a)) (.map none)).run P w = .ok false w := by simp [Op.equalIn, run_und ht]
theorem eqI_map2 {d : Nat} {t k el : TypeId} {a : Nat} (ht : P.underlying t = some (.map k el)) :
    (Op.equalIn (d + 1) t (.map none) (.map (some a))).run P w = .ok false w := by simp [Op.equalIn, run_und ht]
theorem eqI_fn1 {d : Nat} {t : TypeId} {ps rs : Array TypeId} {vr : Bool} {f : Fn} {i c : Array Value} (ht : P.underlying t = some (.func ps rs vr)) :
    (Op.equalIn (d + 1) t (.func f i c) .nilFunc).run P w = .ok false w := by simp [Op.equalIn, run_und ht]
theorem eqI_fn2 {d : Nat} {t : TypeId} {ps rs : Array TypeId} {vr : Bool} {f : Fn} {i c : Array Value} (ht : P.underlying t = some (.func ps rs vr)) :
    (Op.equalIn (d + 1) t .nilFunc (.func f i c)).run P w = .ok false w := by simp [Op.equalIn, run_und ht]
theorem eqI_if1 {d : Nat} {t u : TypeId} {ms : Array (String × TypeId)} {z : Value} (ht : P.underlying t = some (.interface ms)) :
    (Op.equalIn (d + 1) t (.iface u z) .nilIface).run P w = .ok false w := by simp [Op.equalIn, run_und ht]
theorem eqI_if2 {d : Nat} {t u : TypeId} {ms : Array (String × TypeId)} {z : Value} (ht : P.underlying t = some (.interface ms)) :
    (Op.equalIn (d + 1) t .nilIface (.iface u z)).run P w = .ok false w := by simp [Op.equalIn, run_und ht]

theorem eqX_sound {t : TypeId} {x y : AV} {b : Bool} {x' y' : Value} (h : eqX P t x y = some b) (hx : VR φ x x') (hy : VR φ y y') :
    (Op.equal t x' y').run P w = .ok b w ∧ (∀ k a k' b, ¬ (x' = .int k a ∧ y' = .int k' b)) ∧ (∀ op ox oy, (eqGuard op t ox oy x' y').run P w = .ok () w) ∧
      (binOp .eql t x' y').run P w = .ok (.bool b) w ∧ (binOp .neq t x' y').run P w = .ok (.bool (!b)) w := by
  have fin : ∀ (x' y' : Value), (Op.equal t x' y').run P w = .ok b w → (∀ op ox oy, (eqGuard op t ox oy x' y').run P w = .ok () w) →
      (binOp .eql t x' y' = do pure (.bool (← Op.equal t x' y'))) → (binOp .neq t x' y' = do pure (.bool (!(← Op.equal t x' y')))) → (∀ k a k' b, ¬ (x' = .int k a ∧ y' = .int k' b)) →
      (Op.equal t x' y').run P w = .ok b w ∧ (∀ k a k' b, ¬ (x' = .int k a ∧ y' = .int k' b)) ∧ (∀ op ox oy, (eqGuard op t ox oy x' y').run P w = .ok () w) ∧
      (binOp .eql t x' y').run P w = .ok (.bool b) w ∧ (binOp .neq t x' y').run P w = .ok (.bool (!b)) w := fun x' y' h1 h2 h3 h4 h5 =>
    ⟨h1, h5, h2, by rw [h3]; simp [h1], by rw [h4]; simp [h1]⟩
  unfold eqX at h
  split at h
  · rename_i b1 o1 b2 o2
    simp only [VR] at hx hy
    obtain ⟨p, hp, rfl⟩ := hx; obtain ⟨q, hq, rfl⟩ := hy
    split at h
    · rename_i el ht
      split at h
      · rename_i k hk
        rw [cond_eq_ite] at h
        split at h
        · rename_i hb
          rw [Nat.beq_eq] at hb; subst hb
          rw [hp] at hq; cases hq
          cases h
          refine fin _ _ ?_ (fun op ox oy => by cases op <;> simp [eqGuard]) rfl rfl (fun _ _ _ _ e => by cases e.1)
          refine (eqI_ptr (d := 9999) (a := ⟨p.blk, p.base + o1, none⟩) (b := ⟨p.blk, p.base + o2, none⟩) ht hk rfl).trans ?_
          congr 1
          rw [Bool.eq_iff_iff, Nat.beq_eq, beq_iff_eq]
          simp
        · cases h
      · cases h
    · cases h
  · rename_i b1 o1
    simp only [VR] at hx hy
    obtain ⟨p, hp, rfl⟩ := hx; subst hy
    split at h
    · rename_i el ht
      cases h
      refine fin _ _ ?_ (fun op ox oy => by cases op <;> simp [eqGuard]) rfl rfl (fun _ _ _ _ e => by cases e.1)
      exact eqI_ptr1 (d := 9999) ht
    · cases h
  · rename_i b1 o1
    simp only [VR] at hx hy
    obtain ⟨p, hp, rfl⟩ := hy; subst hx
    split at h
    · rename_i el ht
      cases h
      refine fin _ _ ?_ (fun op ox oy => by cases op <;> simp [eqGuard]) rfl rfl (fun _ _ _ _ e => by cases e.1)
      exact eqI_ptr2 (d := 9999) ht
    · cases h
  · simp only [VR] at hx hy
    obtain ⟨p, c, hp, rfl, _⟩ := hx; subst hy
    split at h
    · rename_i el ht
      cases h
      refine fin _ _ ?_ (fun op ox oy => by cases op <;> simp [eqGuard]) rfl rfl (fun _ _ _ _ e => by cases e.1)
      exact eqI_sl1 (d := 9999) ht
    · cases h
  · simp only [VR] at hx hy
    obtain ⟨p, c, hp, rfl, _⟩ := hy; subst hx
    split at h
    · rename_i el ht
      cases h
      refine fin _ _ ?_ (fun op ox oy => by cases op <;> simp [eqGuard]) rfl rfl (fun _ _ _ _ e => by cases e.1)
      exact eqI_sl2 (d := 9999) ht
    · cases h
  · simp only [VR] at hx hy
    obtain ⟨p, hp, rfl⟩ := hx; subst hy
    split at h
    · rename_i k e ht
      cases h
      refine fin _ _ ?_ (fun op ox oy => by cases op <;> simp [eqGuard]) rfl rfl (fun _ _ _ _ e => by cases e.1)
      exact eqI_map1 (d := 9999) ht
    · cases h
  · simp only [VR] at hx hy
    obtain ⟨p, hp, rfl⟩ := hy; subst hx
    split at h
    · rename_i k e ht
      cases h
      refine fin _ _ ?_ (fun op ox oy => by cases op <;> simp [eqGuard]) rfl rfl (fun _ _ _ _ e => by cases e.1)
      exact eqI_map2 (d := 9999) ht
    · cases h
  · simp only [VR] at hx hy
    obtain ⟨is, cs, rfl, _⟩ := hx; subst hy
    split at h
    · rename_i ht
      cases h
      refine fin _ _ ?_ (fun op ox oy => by cases op <;> simp [eqGuard]) rfl rfl (fun _ _ _ _ e => by cases e.1)
      exact eqI_fn1 (d := 9999) ht
    · cases h
  · simp only [VR] at hx hy
    obtain ⟨is, cs, rfl, _⟩ := hy; subst hx
    split at h
    · rename_i ht
      cases h
      refine fin _ _ ?_ (fun op ox oy => by cases op <;> simp [eqGuard]) rfl rfl (fun _ _ _ _ e => by cases e.1)
      exact eqI_fn2 (d := 9999) ht
    · cases h
  · simp only [VR] at hx hy
    obtain ⟨z, rfl, _⟩ := hx; subst hy
    split at h
    · rename_i ht
      cases h
      refine fin _ _ ?_ (fun op ox oy => by cases op <;> simp [eqGuard]) rfl rfl (fun _ _ _ _ e => by cases e.1)
      exact eqI_if1 (d := 9999) ht
    · cases h
  · simp only [VR] at hx hy
    obtain ⟨z, rfl, _⟩ := hy; subst hx
    split at h
    · rename_i ht
      cases h
      refine fin _ _ ?_ (fun op ox oy => by cases op <;> simp [eqGuard]) rfl rfl (fun _ _ _ _ e => by cases e.1)
      exact eqI_if2 (d := 9999) ht
    · cases h
  · cases h

theorem run_eqGuard_int {op : BinOp} {t : TypeId} {ox oy : Operand} {k k' : IntKind} {a b : Int} : (eqGuard op t ox oy (.int k a) (.int k' b)).run P w = .ok () w := by
  cases op <;> simp [eqGuard]
theorem run_eqGuard_str {op : BinOp} {t : TypeId} {ox oy : Operand} {a b : ByteArray} : (eqGuard op t ox oy (.string a) (.string b)).run P w = .ok () w := by
  cases op <;> simp [eqGuard]

theorem binX_sound {op : BinOp} {t : TypeId} {ox oy : Operand} {x y v : AV} {x' y' : Value} (h : binX P op t ox oy x y = some v) (hx : VR φ x x') (hy : VR φ y y') :
    ∃ z, (do eqGuard op t ox oy x' y'; binOp op t x' y').run P w = .ok z w ∧ VR φ v z := by
  unfold binX at h
  split at h
  · rename_i k a k' b
    simp only [VR] at hx hy; subst hx; subst hy
    obtain ⟨z, hz, hv⟩ := binI_sound (P := P) (w := w) (φ := φ) (t := t) h
    exact ⟨z, by simp only [Sem.run_bind, run_eqGuard_int, Result.andThen_ok, hz], hv⟩
  · rename_i n c n' c'
    simp only [VR] at hx hy; subst hx; subst hy
    obtain ⟨z, hz, hv⟩ := binS_sound (P := P) (w := w) (φ := φ) (t := t) h
    exact ⟨z, by simp only [Sem.run_bind, run_eqGuard_str, Result.andThen_ok, hz], hv⟩
  · split at h
    · split at h
      · rename_i b hb
        cases h
        obtain ⟨_, _, h3, h4, _⟩ := eqX_sound (P := P) (w := w) hb hx hy
        exact ⟨.bool b, by simp only [Sem.run_bind, h3, Result.andThen_ok, h4], by rw [mkBool_eq]; simp [VR]⟩
      · split at h
        · rename_i a b ha hb
          split at h
          · rename_i z hz
            cases h
            have := prun_sound _ _ w hz
            rw [toV_sound _ _ _ ha hx, toV_sound _ _ _ hb hy]
            exact ⟨z, this, VR.of z⟩
          · cases h
        · cases h
    · split at h
      · rename_i b hb
        cases h
        obtain ⟨_, _, h3, _, h5⟩ := eqX_sound (P := P) (w := w) hb hx hy
        exact ⟨.bool (!b), by simp only [Sem.run_bind, h3, Result.andThen_ok, h5], by rw [mkBool_eq]; simp [VR]⟩
      · split at h
        · rename_i a b ha hb
          split at h
          · rename_i z hz
            cases h
            have := prun_sound _ _ w hz
            rw [toV_sound _ _ _ ha hx, toV_sound _ _ _ hb hy]
            exact ⟨z, this, VR.of z⟩
          · cases h
        · cases h
    · cases h

theorem unX_sound {op : UnOp} {x v : AV} {x' : Value} (h : unX P op x = some v) (hx : VR φ x x') :
    ∃ z, (Op.unary op x').run P w = .ok z w ∧ VR φ v z := by
  unfold unX at h
  split at h
  · simp only [VR] at hx; subst hx; cases h
    exact ⟨_, rfl, by rw [mkBool_eq]; simp [VR]⟩
  · simp only [VR] at hx; subst hx; cases h
    exact ⟨_, rfl, by rw [mkI_eq, wrapK_eq]; simp [VR]⟩
  · simp only [VR] at hx; subst hx
    split at h
    · rename_i k n hz
      cases h
      exact ⟨_, prun_sound _ _ w hz, by rw [mkI_eq]; simp [VR]⟩
    · cases h
  · cases h

theorem bytesOf_sound : ∀ (l : List AV) (c : Nat) (ys : List Value), bytesOf l = some c → VRs φ l ys → ∃ ns : List Int, ys = ns.map (Value.int .u8) ∧ ns.length = l.length ∧ bl l.length c = ns.map fun n => UInt8.ofNat n.toNat
  | [], c, ys, h, e => by
    simp only [VRs] at e; subst e; exact ⟨[], rfl, rfl, rfl⟩
  | .v (.int .u8 (.ofNat b)) :: l, c, ys, h, e => by
    simp only [bytesOf] at h
    split at h
    · rename_i c' hc
      cases h
      simp only [VRs, VR] at e; obtain ⟨y, m, rfl, rfl, e2⟩ := e
      obtain ⟨ns, h1, h2, h3⟩ := bytesOf_sound l c' m hc e2
      refine ⟨(b : Int) :: ns, by simp [h1], by simp [h2], ?_⟩
      simp only [List.length_cons, bl, List.map_cons]
      have hm : Nat.mod b 256 = b % 256 := rfl
      rw [hm]
      have e1 : (b % 256 + 256 * c') / 256 = c' := by omega
      rw [e1, h3]
      congr 1
      apply UInt8.toNat_inj.1
      simp
    · cases h
  | .v (.int .u8 (.negSucc b)) :: l, c, ys, h, e => by simp [bytesOf] at h
  | .v (.int .i8 _) :: l, c, ys, h, e => by simp [bytesOf] at h
  | .v (.int .i16 _) :: l, c, ys, h, e => by simp [bytesOf] at h
  | .v (.int .i32 _) :: l, c, ys, h, e => by simp [bytesOf] at h
  | .v (.int .i64 _) :: l, c, ys, h, e => by simp [bytesOf] at h
  | .v (.int .u16 _) :: l, c, ys, h, e => by simp [bytesOf] at h
  | .v (.int .u32 _) :: l, c, ys, h, e => by simp [bytesOf] at h
  | .v (.int .u64 _) :: l, c, ys, h, e => by simp [bytesOf] at h
  | .v (.bool _) :: l, c, ys, h, e => by simp [bytesOf] at h
  | .v (.float _ _) :: l, c, ys, h, e => by simp [bytesOf] at h
  | .v (.complex _ _ _) :: l, c, ys, h, e => by simp [bytesOf] at h
  | .v (.string _) :: l, c, ys, h, e => by simp [bytesOf] at h
  | .v (.pointer _) :: l, c, ys, h, e => by simp [bytesOf] at h
  | .v (.slice _ _ _) :: l, c, ys, h, e => by simp [bytesOf] at h
  | .v (.map _) :: l, c, ys, h, e => by simp [bytesOf] at h
  | .v (.chan _) :: l, c, ys, h, e => by simp [bytesOf] at h
  | .v (.func _ _ _) :: l, c, ys, h, e => by simp [bytesOf] at h
  | .v .nilFunc :: l, c, ys, h, e => by simp [bytesOf] at h
  | .v (.iface _ _) :: l, c, ys, h, e => by simp [bytesOf] at h
  | .v .nilIface :: l, c, ys, h, e => by simp [bytesOf] at h
  | .v (.agg _) :: l, c, ys, h, e => by simp [bytesOf] at h
  | .v (.tuple _) :: l, c, ys, h, e => by simp [bytesOf] at h
  | .str _ _ :: l, c, ys, h, e => by simp [bytesOf] at h
  | .ptr _ _ :: l, c, ys, h, e => by simp [bytesOf] at h
  | .sl _ _ _ _ _ _ :: l, c, ys, h, e => by simp [bytesOf] at h
  | .map _ :: l, c, ys, h, e => by simp [bytesOf] at h
  | .fn _ _ _ :: l, c, ys, h, e => by simp [bytesOf] at h
  | .ifc _ _ :: l, c, ys, h, e => by simp [bytesOf] at h
  | .yld _ :: l, c, ys, h, e => by simp [bytesOf] at h
  | .agg _ :: l, c, ys, h, e => by simp [bytesOf] at h
  | .tup _ :: l, c, ys, h, e => by simp [bytesOf] at h

theorem foldl_push : ∀ (l : List Int) (s : ByteArray), l.foldl (fun r n => r.push (UInt8.ofNat n.toNat)) s = ⟨(s.data.toList ++ l.map fun n => UInt8.ofNat n.toNat).toArray⟩
  | [], s => by simp
  | n :: l, s => by
    rw [List.foldl_cons, foldl_push l]
    congr 1
    simp [ByteArray.push]

theorem convX_sound {s d : TypeId} {x v : AV} {x' : Value} (h : convX P s d x st = some v) (hr : HR G B φ st w) (hx : VR φ x x') :
    ∃ z, (convert s d x').run P w = .ok z w ∧ VR φ v z := by
  unfold convX at h
  split at h
  · rename_i k n
    simp only [VR] at hx; subst hx
    split at h
    · rename_i a k' h1 h2
      cases h
      exact ⟨_, by simp only [convert, Sem.run_bind, run_und h1, run_und h2, Result.andThen_ok, Conv.intToInt, Sem.run_pure]; rfl, by rw [mkI_eq, wrapK_eq]; simp [VR]⟩
    · rename_i a h1 h2
      split at h
      · rename_i m hm
        rw [nonNeg_some] at hm; subst hm
        rw [cond_eq_ite] at h
        split at h
        · rename_i hlt
          rw [nat_blt, decide_eq_true_eq] at hlt
          cases h
          refine ⟨.string (Utf8.encode m), by simp only [convert, Sem.run_bind, run_und h1, run_und h2, Result.andThen_ok, Conv.intToString, Sem.run_pure], ?_⟩
          rw [mkStr_eq]
          simp only [VR, Value.string.injEq]
          have hv : Utf8.valid (m : Int) = true := by
            simp only [Utf8.valid, Bool.or_eq_true, Bool.and_eq_true, decide_eq_true_eq]; left; omega
          simp only [Utf8.encode, hv, if_true, Int.toNat_natCast]
          rw [if_pos (by omega)]
          rfl
        · cases h
      · cases h
    · cases h
  · rename_i n c
    simp only [VR] at hx; subst hx
    split at h
    · rename_i a h1 h2
      cases h
      exact ⟨.string (mkB n c), by simp only [convert, Sem.run_bind, run_und h1, run_und h2, Result.andThen_ok, Sem.run_pure], by simp [VR]⟩
    · cases h
  · simp only [VR] at hx; subst hx
    split at h
    · rename_i e h1 h2
      split at h
      · rename_i h3
        cases h
        refine ⟨.string .empty, ?_, ?_⟩
        · simp only [convert, Sem.run_bind, run_und h1, run_und h2, run_und h3, Result.andThen_ok, Conv.bytesToString, Sem.run_pure]
        · simp only [VR]; rfl
      · cases h
    · cases h
  · rename_i b off len lo ex es
    simp only [VR] at hx; obtain ⟨p, c, hp, rfl, _⟩ := hx
    split at h
    · rename_i e h1 h2
      split at h
      · rename_i h3
        split at h
        · rename_i dd n el ex' fz m hg
          split at h
          · rename_i l hl
            split at h
            · rename_i cc hcc
              cases h
              obtain ⟨ys, g1, g2, g3⟩ := (hr.objs _ _ _ hg hp).rd _ _ _ hl
              obtain ⟨ns, f1, f2, f3⟩ := bytesOf_sound (φ := φ) l cc ys hcc g1
              refine ⟨_, by rw [run_convert_bytes_string w s d e _ _ _ h1 h3 h2, run_bytesToString w _ _ _ ns (by rw [run_loadCells g2 g3, f1])], ?_⟩
              rw [mkStr_eq]
              simp only [VR, mkB_if]
              rw [foldl_push]
              have hlen : l.length = len := by rw [← g1.length, g2]
              rw [hlen] at f3
              rw [mkB, f3]
              rfl
            · cases h
          · cases h
        · cases h
      · cases h
    · cases h
  · rename_i b off
    simp only [VR] at hx; obtain ⟨p, hp, rfl⟩ := hx
    split at h
    · rename_i t h1 h2
      split at h
      · rename_i k d' n el fz m hk hg
        rw [cond_eq_ite] at h
        split at h
        · rename_i hlt
          rw [nat_blt, decide_eq_true_eq] at hlt
          cases h
          obtain ⟨cells, lo, hi, g1, g2, g3, g4, _⟩ := hr.objs _ _ _ hg hp
          obtain ⟨g5, g6⟩ := g4 rfl
          refine ⟨.pointer (some ⟨p.blk, p.base + off, none⟩), ?_, by simp only [VR]; exact ⟨p, hp, rfl⟩⟩
          have hsh : w.shape? p.blk = some (el, cells.size) := by simp [World.shape?, g1]
          simp only [convert, Sem.run_bind, run_und h1, run_und h2, Result.andThen_ok, Conv.unsafePointer, Conv.seenAt, viewAt, run_shape, hsh, Option.isSome_some, if_true, Sem.run_pure, cellsIn, run_sz hk]
          have : ¬ (decide (p.base + off ≥ cells.size) && (none : Option Nat).isNone) = true := by simp; omega
          simp
          omega
        · cases h
      · cases h
    · rename_i u h1 h2
      split at h
      · rename_i k d' n el fz m hk hg
        rw [cond_eq_ite] at h
        split at h
        · rename_i hlies
          cases h
          obtain ⟨cells, lo, hi, g1, g2, g3, g4, _⟩ := hr.objs _ _ _ hg hp
          obtain ⟨g5, g6⟩ := g4 rfl
          refine ⟨.pointer (some ⟨p.blk, p.base + off, none⟩), ?_, by simp only [VR]; exact ⟨p, hp, rfl⟩⟩
          have hsh : w.shape? p.blk = some (el, cells.size) := by simp [World.shape?, g1]
          have hl : liesAt P P.depth el (cells.size / P.cellsOf el) (p.base + off) u 1 = true := by rw [g5, ← g6, Nat.zero_add]; exact hlies
          simp [convert, run_und h1, run_und h2, Conv.unsafePointer, Conv.seenAt, viewAt, hsh, run_sz hk, variablesAt, hl]
        · cases h
      · cases h
    · cases h
  · cases h
end
end Go.Ax

/-
  AxS7: maps read, lengths, aggregates built; all operations that leave the memory alone.
-/
namespace Go.Ax
open Go Go.RowKit

section
variable {P : Program} {G : Glob} {B : Nat} {φ : PM} {st : St} {w : World} {ev : Operand → Option AV} {η : Operand → Value}

theorem lenE_eq : ∀ (l : List (AV × AV)), lenE l = l.length
  | [] => rfl
  | _ :: l => by simp [lenE, lenE_eq l]
theorem ERs.length : ∀ {l : List (AV × AV)} {ys : List MapEntry}, ERs φ l ys → ys.length = l.length
  | [], _, h => by simp only [ERs] at h; subst h; rfl
  | (_, _) :: l, _, h => by obtain ⟨y, m, rfl, _, _, h3⟩ := h; simp [ERs.length h3]

theorem strEq_beq (n c n' c' : Nat) : (mkB n c == mkB n' c') = strEq n c n' c' := by
  rw [beq_toListBytes, ByteArray.toList_eq, ByteArray.toList_eq, mkB_data, mkB_data, Bool.eq_iff_iff, beq_iff_eq, strEq_iff]
  exact ⟨fun e => by rw [← mkB_enc (mkB n c), ← mkB_enc (mkB n' c'), mkB_size, mkB_size, mkB_data, mkB_data, e, show n = n' by rw [← bl_length n c, e, bl_length]], fun e => by rw [← mkB_data n c, e, mkB_data]⟩

theorem ieq_iff {a b : Int} : ieq a b = true ↔ a = b := by rw [ieq_eq, beq_iff_eq]

/-- What a key's type makes of a key: the model compares it at once. -/
theorem findNow_sound {kt : TypeId} {d : TypeDesc} {k : AV} {k' : Value} (hd : P.underlying kt = some d) (hk : keyOk P kt k = true) (hv : VR φ k k') :
    ∀ (l : List (AV × AV)) (ys : List MapEntry) (i : Nat) (r : Option AV), ERs φ l ys → findE k l = some r →
      ∃ q, Instr.findNow d k' ys i = some q ∧ ((r = none ∧ q = none) ∨ (∃ v j y, r = some v ∧ q = some (i + j, y) ∧ VR φ v y ∧ j < ys.length))
  | [], ys, i, r, he, hf => by
    simp only [ERs] at he; subst he
    simp only [findE, Option.some.injEq] at hf; subst hf
    exact ⟨none, rfl, .inl ⟨rfl, rfl⟩⟩
  | (k1, v1) :: l, _, i, r, he, hf => by
    obtain ⟨y, m, rfl, h1, h2, h3⟩ := he
    unfold keyOk at hk
    rw [hd] at hk
    simp only [findE] at hf
    split at hf
    · rename_i n c n' c'
      cases d <;> simp at hk
      simp only [VR] at hv h1
      subst hv
      rw [cond_eq_ite] at hf
      split at hf
      · rename_i he
        cases hf
        refine ⟨some (i, y.val), ?_, .inr ⟨_, 0, _, rfl, rfl, h2, by simp⟩⟩
        simp only [Instr.findNow, Instr.sameNow, h1, strEq_beq, he]
      · rename_i he
        have he : strEq n c n' c' = false := by simpa using he
        obtain ⟨q, hq, hc⟩ := findNow_sound hd (k := .str n c) (k' := .string (mkB n c)) (by unfold keyOk; rw [hd]) (by simp [VR]) l m (i + 1) r h3 hf
        refine ⟨q, ?_, hc.imp id fun ⟨v, j, y', a, b, c, e⟩ => ⟨v, j + 1, y', a, by rw [b]; simp; omega, c, by simp; omega⟩⟩
        simp only [Instr.findNow, Instr.sameNow, h1, strEq_beq, he]
        exact hq
    · rename_i j a j' b
      cases d <;> simp at hk
      simp only [VR] at hv h1
      subst hv
      rw [cond_eq_ite] at hf
      split at hf
      · rename_i hj
        rw [kindEq_iff] at hj; subst hj
        rw [cond_eq_ite] at hf
        split at hf
        · rename_i he
          cases hf
          rw [ieq_iff] at he; subst he
          refine ⟨some (i, y.val), ?_, .inr ⟨_, 0, _, rfl, rfl, h2, by simp⟩⟩
          simp [Instr.findNow, Instr.sameNow, h1]
        · rename_i he
          rw [ieq_iff] at he
          obtain ⟨q, hq, hc⟩ := findNow_sound hd (k := .v (.int j a)) (k' := .int j a) (by unfold keyOk; rw [hd]) (by simp [VR]) l m (i + 1) r h3 hf
          refine ⟨q, ?_, hc.imp id fun ⟨v, j, y', a, b, c, e⟩ => ⟨v, j + 1, y', a, by rw [b]; simp; omega, c, by simp; omega⟩⟩
          simp only [Instr.findNow, Instr.sameNow, h1, if_true]
          have : (a == b) = false := by simpa using he
          rw [this]
          exact hq
      · cases hf
    · cases hf

theorem run_findKey {kt : TypeId} {d : TypeDesc} {k' : Value} {ys : List MapEntry} {q : Option (Nat × Value)} (hd : P.underlying kt = some d) (h : Instr.findNow d k' ys 0 = some q) :
    (Instr.findKey kt k' ys).run P w = .ok q w := by
  simp [Instr.findKey, run_und hd, h]

theorem run_checkKey {kt : TypeId} {k : AV} {k' : Value} {e : Bool} (hk : keyOk P kt k = true) (hv : VR φ k k') : (Instr.checkKey e 10000 kt k').run P w = .ok () w := by
  have gen : ∀ n, (Instr.checkKey e (n + 1) kt k').run P w = .ok () w := by
    intro n
    unfold keyOk at hk
    split at hk
    · rename_i ht; simp only [VR] at hv; subst hv; simp [Instr.checkKey, run_und ht]
    · rename_i ht; simp only [VR] at hv; subst hv; simp [Instr.checkKey, run_und ht]
    · cases hk
  exact gen 9999
theorem keyOk_und {kt : TypeId} {k : AV} (hk : keyOk P kt k = true) : ∃ d, P.underlying kt = some d := by
  unfold keyOk at hk
  cases h : P.underlying kt with
  | none => rw [h] at hk; cases hk
  | some d => exact ⟨d, rfl⟩

theorem run_zeroX {t : TypeId} {z : List AV} (hz : zeroX P t = some z) :
    ∃ y : Value, (zeroValue t).run P w = .ok y w ∧ VRs φ z y.cells.toList := by
  unfold zeroX at hz
  split at hz
  · rename_i i hi
    split at hz
    · rename_i cs hc
      cases hz
      exact ⟨.agg cs, by simp [zeroValue, run_info hi, hc], VRs.of1 _⟩
    · rename_i x hne hc
      cases hz
      refine ⟨x, by simp [zeroValue, run_info hi, hc], ?_⟩
      cases x <;> first | exact VRs.cons (VR.of1 _) VRs.nil | exact absurd rfl (hne _)
    · cases hz
  · cases hz
theorem run_zeroV {t : TypeId} {z : AV} (hz : zeroV P t = some z) :
    ∃ y : Value, (zeroValue t).run P w = .ok y w ∧ VR φ z y := by
  unfold zeroV at hz
  split at hz
  · rename_i i hi
    split at hz
    · rename_i x hc
      cases hz
      exact ⟨x, by simp [zeroValue, run_info hi, hc], VR.of x⟩
    · cases hz
  · cases hz

theorem run_look {t kt et : TypeId} {k k' : _} {ok : Bool} {r clk : Nat} {es : Array MapEntry} {q : Option (Nat × Value)} {y : Value} (ht : P.underlying t = some (.map kt et)) (hkey : keyOk P kt k = true) (hk : VR φ k k')
    (hh : w.heap[r]? = some (.map es clk)) (hq : (Instr.findKey kt k' es.toList).run P w = .ok q w) (hy : (∃ i, q = some (i, y)) ∨ (q = none ∧ (zeroValue et).run P w = .ok y w)) :
    (Instr.lookup t (.map (some r)) k' ok).run P w = .ok (if ok then .tuple #[y, .bool q.isSome] else y) w := by
  rcases hy with ⟨i, rfl⟩ | ⟨rfl, hz⟩
  · simp [Instr.lookup, run_und ht, getObj, Sem.run, hh, run_checkKey hkey hk, hq]
  · simp [Instr.lookup, run_und ht, getObj, Sem.run, hh, run_checkKey hkey hk, hq, hz]
theorem run_look_nil {t kt et : TypeId} {k k' : _} {ok : Bool} {d : TypeDesc} {y : Value} (ht : P.underlying t = some (.map kt et)) (hkey : keyOk P kt k = true) (hk : VR φ k k')
    (hd : P.underlying kt = some d) (hz : (zeroValue et).run P w = .ok y w) :
    (Instr.lookup t (.map none) k' ok).run P w = .ok (if ok then .tuple #[y, .bool false] else y) w := by
  have hq : (Instr.findKey kt k' []).run P w = .ok none w := run_findKey hd rfl
  have hc : (Instr.checkKey true 10000 kt k').run P w = .ok () w := run_checkKey hkey hk
  simp [Instr.lookup, run_und ht, hc, hq, hz]

theorem lookupX_sound {t : TypeId} {m k v : AV} {ok : Bool} {m' k' : Value} (h : lookupX P t m k ok st = some v) (hr : HR G B φ st w) (hm : VR φ m m') (hk : VR φ k k') :
    ∃ z, (Instr.lookup t m' k' ok).run P w = .ok z w ∧ VR φ v z := by
  unfold lookupX at h
  split at h
  · rename_i kt et ht
    rw [cond_eq_ite] at h
    split at h
    · rename_i hkey
      obtain ⟨d, hd⟩ := keyOk_und hkey
      have wrap : ∀ (a : AV) (y : Value) (b : Bool), VR φ a y → VR φ (bif ok then .tup [a, mkBool b] else a) (if ok then .tuple #[y, .bool b] else y) := by
        intro a y b hv
        cases ok
        · exact hv
        · simp only [cond_true, if_true, VR]
          exact ⟨_, rfl, VRs.cons hv (VRs.cons (by rw [mkBool_eq]; simp [VR]) VRs.nil)⟩
      split at h
      · rename_i x hf
        cases h
        unfold foundX at hf
        split at hf
        · cases hf
        · rename_i b
          simp only [VR] at hm; obtain ⟨p, hp, rfl⟩ := hm
          split at hf
          · rename_i es hg
            obtain ⟨ces, clk, g1, g2⟩ := hr.objs _ _ _ hg hp
            obtain ⟨q, hq, hc⟩ := findNow_sound hd hkey hk es _ 0 _ g2 hf
            rcases hc with ⟨e, _⟩ | ⟨u, j, y, e1, e2, e3, _⟩
            · cases e
            · cases e1; subst e2
              exact ⟨_, run_look ht hkey hk g1 (run_findKey hd hq) (.inl ⟨_, rfl⟩), wrap _ _ _ e3⟩
          · cases hf
        · cases hf
      · rename_i hf
        split at h
        · rename_i z hz
          cases h
          obtain ⟨y, hy, hv⟩ := run_zeroV (w := w) (φ := φ) hz
          unfold foundX at hf
          split at hf
          · simp only [VR] at hm; subst hm
            exact ⟨_, run_look_nil ht hkey hk hd hy, wrap _ _ _ hv⟩
          · rename_i b
            simp only [VR] at hm; obtain ⟨p, hp, rfl⟩ := hm
            split at hf
            · rename_i es hg
              obtain ⟨ces, clk, g1, g2⟩ := hr.objs _ _ _ hg hp
              obtain ⟨q, hq, hc⟩ := findNow_sound hd hkey hk es _ 0 _ g2 hf
              rcases hc with ⟨_, e⟩ | ⟨u, j, y, e1, _⟩
              · subst e
                exact ⟨_, run_look ht hkey hk g1 (run_findKey hd hq) (.inr ⟨rfl, hy⟩), wrap _ _ _ hv⟩
              · cases e1
            · cases hf
          · cases hf
        · cases h
      · cases h
    · cases h
  · cases h

theorem lenX_sound {t : TypeId} {x v : AV} {x' : Value} {rt : TypeId} (h : lenX P t x st = some v) (hr : HR G B φ st w) (hx : VR φ x x') :
    ∃ z, (Builtin.len_ #[t] rt #[x']).run P w = .ok z w ∧ VR φ v z := by
  unfold lenX at h
  split at h
  · rename_i n c
    simp only [VR] at hx; subst hx
    split at h
    · rename_i ht; cases h
      exact ⟨.int .i64 n, by simp [Builtin.len_, run_und ht, mkB_size, goInt], by rw [mkN_eq]; simp [VR]⟩
    · cases h
  · simp only [VR] at hx; obtain ⟨p, c, _, rfl, _⟩ := hx
    split at h
    · rename_i n _ _ _ _ _ _ ht; cases h
      exact ⟨.int .i64 _, by simp [Builtin.len_, run_und ht, goInt]; rfl, by rw [mkN_eq]; simp [VR]⟩
    · cases h
  · simp only [VR] at hx; subst hx
    split at h
    · rename_i ht; cases h
      exact ⟨.int .i64 0, by simp [Builtin.len_, run_und ht, goInt], by rw [mkN_eq]; simp [VR]⟩
    · cases h
  · simp only [VR] at hx; subst hx
    split at h
    · rename_i ht; cases h
      exact ⟨.int .i64 0, by simp [Builtin.len_, run_und ht, goInt], by rw [mkN_eq]; simp [VR]⟩
    · cases h
  · simp only [VR] at hx; obtain ⟨p, hp, rfl⟩ := hx
    split at h
    · rename_i es ht hg; cases h
      obtain ⟨ces, clk, g1, g2⟩ := hr.objs _ _ _ hg hp
      have hl := g2.length
      refine ⟨.int .i64 (lenE es), ?_, by rw [mkN_eq]; simp [VR]⟩
      rw [lenE_eq, ← hl]
      simp [Builtin.len_, run_und ht, getObj, Sem.run, g1, goInt]
    · cases h
  · cases h

theorem capX_sound {t : TypeId} {x v : AV} {x' : Value} {rt : TypeId} (h : capX P t x = some v) (hx : VR φ x x') :
    ∃ z, (Builtin.cap_ #[t] rt #[x']).run P w = .ok z w ∧ VR φ v z := by
  unfold capX at h
  split at h
  · simp only [VR] at hx; obtain ⟨p, c, _, rfl, _, hc, _⟩ := hx
    have := hc trivial; subst this
    split at h
    · rename_i ht; cases h
      exact ⟨.int .i64 _, by simp [Builtin.cap_, run_und ht, goInt]; rfl, by rw [mkN_eq]; simp [VR]⟩
    · cases h
  · simp only [VR] at hx; subst hx
    split at h
    · rename_i ht; cases h
      exact ⟨.int .i64 0, by simp [Builtin.cap_, run_und ht, goInt], by rw [mkN_eq]; simp [VR]⟩
    · cases h
  · cases h

theorem maxI_sound {mx : Bool} : ∀ (l : List AV) (a v : AV) (a' : Value) (l' : List Value), maxI mx a l = some v → VR φ a a' → VRs φ l l' →
    ∃ z, (l'.foldlM (if mx then Builtin.max2 else Builtin.min2) a').run P w = .ok z w ∧ VR φ v z
  | [], a, v, a', l', h, ha, hl => by
    simp only [VRs] at hl; subst hl
    unfold maxI at h
    split at h
    · cases h; exact ⟨a', rfl, ha⟩
    · rename_i e; cases e
    · cases h
  | b :: l, a, v, a', l', h, ha, hl => by
    simp only [VRs] at hl; obtain ⟨y, m, rfl, h1, h2⟩ := hl
    unfold maxI at h
    split at h
    · rename_i e; cases e
    · rename_i k p k' q l0 e
      cases e
      simp only [VR] at ha h1; subst ha; subst h1
      rw [cond_eq_ite] at h
      split at h
      · rename_i hk; rw [kindEq_iff] at hk; subst hk
        rw [cond_eq_ite] at h
        cases mx
        · simp only [cond_false, ilt_eq, decide_eq_true_eq] at h
          have e : (Builtin.min2 (.int k p) (.int k q)).run P w = .ok (.int k (if q < p then q else p)) w := rfl
          split at h
          · rename_i hlt
            rw [if_pos hlt] at e
            obtain ⟨z, hz, hv⟩ := maxI_sound l _ v (.int k q) m h (by simp [VR]) h2
            refine ⟨z, ?_, hv⟩
            simp only [Bool.false_eq_true, if_false, List.foldlM_cons, Sem.run_bind, e, Result.andThen_ok] at hz ⊢
            exact hz
          · rename_i hlt
            rw [if_neg hlt] at e
            obtain ⟨z, hz, hv⟩ := maxI_sound l _ v (.int k p) m h (by simp [VR]) h2
            refine ⟨z, ?_, hv⟩
            simp only [Bool.false_eq_true, if_false, List.foldlM_cons, Sem.run_bind, e, Result.andThen_ok] at hz ⊢
            exact hz
        · simp only [cond_true, ilt_eq, decide_eq_true_eq] at h
          have e : (Builtin.max2 (.int k p) (.int k q)).run P w = .ok (.int k (if q > p then q else p)) w := rfl
          split at h
          · rename_i hlt
            rw [if_pos hlt] at e
            obtain ⟨z, hz, hv⟩ := maxI_sound l _ v (.int k q) m h (by simp [VR]) h2
            refine ⟨z, ?_, hv⟩
            simp only [if_true, List.foldlM_cons, Sem.run_bind, e, Result.andThen_ok] at hz ⊢
            exact hz
          · rename_i hlt
            rw [if_neg hlt] at e
            obtain ⟨z, hz, hv⟩ := maxI_sound l _ v (.int k p) m h (by simp [VR]) h2
            refine ⟨z, ?_, hv⟩
            simp only [if_true, List.foldlM_cons, Sem.run_bind, e, Result.andThen_ok] at hz ⊢
            exact hz
      · cases h
    · cases h

theorem evs_sound : ∀ (l : List Operand) (m : List AV), evs ev l = some m → (∀ x ∈ l, ∀ v, ev x = some v → VR φ v (η x)) → VRs φ m (l.map η)
  | [], m, h, _ => by simp only [evs, Option.some.injEq] at h; subst h; exact VRs.nil
  | x :: l, m, h, he => by
    simp only [evs] at h
    split at h
    · rename_i a m' h1 h2
      cases h
      exact VRs.cons (he x (by simp) _ h1) (evs_sound l m' h2 fun y hy => he y (by simp [hy]))
    · cases h
end
end Go.Ax

/-
  AxS8: aggregates built; all operations that leave the memory alone.
-/
namespace Go.Ax
open Go Go.RowKit

section
variable {P : Program} {G : Glob} {B : Nat} {φ : PM} {st : St} {w : World} {ev : Operand → Option AV} {η : Operand → Value}

theorem VR.one {a : AV} {y : Value} (h : VR φ a y) (ho : a.one = true) : y.oneCell' = true ∧ y.cells = #[y] := by
  cases a with
  | v x => simp only [VR] at h; subst h; cases y <;> simp_all [AV.one, Value.oneCell', Value.cells]
  | str n c => simp only [VR] at h; subst h; exact ⟨rfl, rfl⟩
  | ptr b off => simp only [VR] at h; obtain ⟨p, _, rfl⟩ := h; exact ⟨rfl, rfl⟩
  | sl b off len lo ex es => simp only [VR] at h; obtain ⟨p, c, _, rfl, _⟩ := h; exact ⟨rfl, rfl⟩
  | map b => simp only [VR] at h; obtain ⟨p, _, rfl⟩ := h; exact ⟨rfl, rfl⟩
  | fn f i c => simp only [VR] at h; obtain ⟨is, cs, rfl, _⟩ := h; exact ⟨rfl, rfl⟩
  | ifc t x => simp only [VR] at h; obtain ⟨z, rfl, _⟩ := h; exact ⟨rfl, rfl⟩
  | yld b => simp only [VR] at h; obtain ⟨p, _, rfl⟩ := h; exact ⟨rfl, rfl⟩
  | agg l => cases ho
  | tup l => cases ho

theorem cellsX_sound {a : AV} {l : List AV} {y : Value} (h : cellsX a = some l) (hv : VR φ a y) : VRs φ l y.cells.toList ∧ allOne l = true := by
  unfold cellsX at h
  split at h
  · rename_i cs
    rw [cond_eq_ite] at h
    split at h
    · rename_i ho
      cases h
      simp only [VR] at hv; obtain ⟨ys, rfl, h⟩ := hv
      exact ⟨h, ho⟩
    · cases h
  · rw [cond_eq_ite] at h
    split at h
    · rename_i ho
      cases h
      have := (hv.one ho).2
      rw [this]
      exact ⟨VRs.cons hv VRs.nil, by simp [allOne, ho]⟩
    · cases h

theorem set_range (off : Nat) : ∀ (vs : List Value) (k : Nat) (cells : Array Value), off + k + vs.length ≤ cells.size →
    ((vs.zipIdx k).foldl (fun cs (x : Value × Nat) => cs.setIfInBounds (off + x.2) x.1) cells).toList = cells.toList.take (off + k) ++ vs ++ cells.toList.drop (off + k + vs.length)
  | [], k, cells, _ => by simp
  | v :: vs, k, cells, h => by
    simp only [List.length_cons] at h
    rw [List.zipIdx_cons, List.foldl_cons, set_range off vs (k + 1) _ (by simp; omega)]
    simp only [Array.toList_setIfInBounds, List.length_cons]
    have hk : off + k < cells.toList.length := by simp; omega
    rw [show off + (k + 1) = off + k + 1 by omega, List.take_succ_eq_append_getElem (by simp; omega), List.getElem_set_self, List.take_set_of_le (by omega), List.drop_set_of_lt (by omega)]
    simp only [List.append_assoc, List.cons_append, List.nil_append]
    rw [show off + k + 1 + vs.length = off + k + (vs.length + 1) by omega]

theorem VRs.setAt {l cs : List AV} {ys zs : List Value} {off : Nat} (h : VRs φ l ys) (h' : VRs φ cs zs) : VRs φ (setAt l off cs) (ys.take off ++ zs ++ ys.drop (off + zs.length)) := by
  unfold Ax.setAt
  rw [len_eq, ← h'.length]
  exact ((h.take off).append h').append (h.drop _)

theorem fillX_sound {pl : Nat → Option (Nat × Nat)} : ∀ (parts : List (Nat × Operand)) (cells l : List AV) (ys : Array Value),
    fillX pl ev cells parts = some l → VRs φ cells ys.toList → (∀ x ∈ parts, ∀ v, ev x.2 = some v → VR φ v (η x.2)) →
    ∃ zs : Array Value, Instr.fill pl ys (parts.map fun (i, x) => (i, η x)) = some zs ∧ VRs φ l zs.toList
  | [], cells, l, ys, h, hv, _ => by
    simp only [fillX, Option.some.injEq] at h; subst h
    exact ⟨ys, rfl, hv⟩
  | (i, x) :: rest, cells, l, ys, h, hv, he => by
    simp only [fillX] at h
    split at h
    · rename_i off size v hpl hx
      split at h
      · rename_i cs hcs
        rw [cond_eq_ite] at h
        split at h
        · rename_i hc
          simp only [Bool.and_eq_true, Nat.beq_eq, Nat.ble_eq, len_eq] at hc
          obtain ⟨hc1, hc2⟩ := hc
          have hvx := he (i, x) (by simp) _ hx
          obtain ⟨g1, _⟩ := cellsX_sound hcs hvx
          have hl1 := g1.length
          have hl2 := hv.length
          simp only [Array.length_toList] at hl1 hl2
          have hset := set_range off (η x).cells.toList 0 ys (by simp; omega)
          simp only [Nat.add_zero] at hset
          obtain ⟨zs, e1, e2⟩ := fillX_sound rest (setAt cells off cs) l ((η x).cells.zipIdx.foldl (fun cs (y : Value × Nat) => cs.setIfInBounds (off + y.2) y.1) ys) h (by
            rw [← Array.foldl_toList, Array.toList_zipIdx, hset]
            exact hv.setAt g1) (fun y hy => he y (by simp [hy]))
          refine ⟨zs, ?_, e2⟩
          simp only [List.map_cons, Instr.fill, hpl]
          rw [if_neg (by simp; omega)]
          exact e1
        · cases h
      · cases h
    · cases h

theorem nthA_eq {α : Type} : ∀ (l : List α) (i : Nat), nthA l i = l[i]?
  | [], i => by cases i <;> rfl
  | _ :: _, 0 => rfl
  | _ :: l, i + 1 => by simp [nthA, nthA_eq l i]
theorem run_placesL : ∀ (fs : List Field) (pl : List (Nat × Nat)), placesX P fs = some pl → (fs.mapM fun f => do pure (f.offset, ← sizeOf f.type) : Sem (List (Nat × Nat))).run P w = .ok pl w
  | [], pl, h => by simp only [placesX, Option.some.injEq] at h; subst h; simp
  | f :: l, pl, h => by
    simp only [placesX] at h
    split at h
    · rename_i s r hs hr
      cases h
      simp only [List.mapM_cons, Sem.run_bind, run_sz hs, Result.andThen_ok, Sem.run_pure, run_placesL l r hr]
    · cases h
theorem run_places {fs : Array Field} {pl : List (Nat × Nat)} (h : placesX P fs.toList = some pl) :
    (fs.mapM fun f => do pure (f.offset, ← sizeOf f.type) : Sem (Array (Nat × Nat))).run P w = .ok pl.toArray w := by
  rw [Array.mapM_eq_mapM_toList]
  simp only [Sem.run_map, run_placesL _ _ h, Result.andThen_ok]

theorem run_value {s : Sem Value} {y : Value} (h : s.run P w = .ok y w) : (do pure (Next.value (← s)) : Sem Next).run P w = .ok (.value y) w := by
  simp [h]

theorem nilCheck_ptr {o : Oper} {x : Operand} (ho : o.op = .nilCheck x) {a : Addr} (hx : η x = .pointer (some a)) : (execOp η o).run P w = .ok (.value (η x)) w := by
  simp [execOp, ho, hx]
theorem nilCheck_fn {o : Oper} {x : Operand} (ho : o.op = .nilCheck x) {f : Nat} {i c : Array Value} (hx : η x = .func (.func f) i c) : (execOp η o).run P w = .ok (.value (η x)) w := by
  simp [execOp, ho, hx]

theorem run_usd_nil {A : Array TypeId} {t : TypeId} {n c : Nat} : (Builtin.unsafeSliceData_ A t #[.slice none n c]).run P w = .ok (.pointer none) w := rfl
theorem run_usd {A : Array TypeId} {t : TypeId} {a : Addr} {n c : Nat} (h : c ≠ 0) : (Builtin.unsafeSliceData_ A t #[.slice (some a) n c]).run P w = .ok (.pointer (some a)) w := by
  cases c with
  | zero => exact absurd rfl h
  | succ k => rfl

theorem sil_sound (o : Oper) {v : AV} (h : sil P G ev st o.op = some v) (hr : HR G B φ st w) (he : ∀ x ∈ o.op.operands.toList, ∀ u, ev x = some u → VR φ u (η x)) :
    ∃ y, (execOp η o).run P w = .ok (.value y) w ∧ VR φ v y := by
  obtain ⟨dst, op, type, pos, after, guard⟩ := o
  simp only at h he
  cases op with
  | move x => exact ⟨η x, rfl, he x (by simp [Op.operands]) _ h⟩
  | assign x => exact ⟨η x, rfl, he x (by simp [Op.operands]) _ h⟩
  | pick c a b =>
    simp only [sil] at h
    split at h
    · rename_i hc
      have := he c (by simp [Op.operands]) _ hc
      simp only [VR] at this
      exact ⟨η a, by simp [execOp, this, asBool], he a (by simp [Op.operands]) _ h⟩
    · rename_i hc
      have := he c (by simp [Op.operands]) _ hc
      simp only [VR] at this
      exact ⟨η b, by simp [execOp, this, asBool], he b (by simp [Op.operands]) _ h⟩
    · cases h
  | load t a =>
    simp only [sil] at h
    split at h
    · rename_i a' ha
      obtain ⟨z, hz, hv⟩ := loadX_sound h hr (he a (by simp [Op.operands]) _ ha)
      exact ⟨z, run_value hz, hv⟩
    · cases h
  | nilCheck x =>
    simp only [sil] at h
    split at h
    · rename_i b off hx
      cases h
      have hv := he x (by simp [Op.operands]) _ hx
      have hv' := hv
      simp only [VR] at hv'; obtain ⟨p, _, hv'⟩ := hv'
      exact ⟨η x, nilCheck_ptr rfl hv', hv⟩
    · rename_i f i c hx
      cases h
      have hv := he x (by simp [Op.operands]) _ hx
      have hv' := hv
      simp only [VR] at hv'; obtain ⟨is, cs, hv', _⟩ := hv'
      exact ⟨η x, nilCheck_fn rfl hv', hv⟩
    · rename_i a hx
      cases h
      have hv := he x (by simp [Op.operands]) _ hx
      have hv' := hv
      simp only [VR] at hv'
      exact ⟨η x, nilCheck_ptr rfl hv', hv⟩
    · cases h
  | binOp op t x y ty =>
    simp only [sil] at h
    split at h
    · rename_i a b ha hb
      obtain ⟨z, hz, hv⟩ := binX_sound h (he x (by simp [Op.operands]) _ ha) (he y (by simp [Op.operands]) _ hb)
      exact ⟨z, run_value hz, hv⟩
    · cases h
  | unOp op t x =>
    simp only [sil] at h
    split at h
    · rename_i a ha
      obtain ⟨z, hz, hv⟩ := unX_sound (P := P) (w := w) h (he x (by simp [Op.operands]) _ ha)
      exact ⟨z, run_value hz, hv⟩
    · cases h
  | convert s d x =>
    simp only [sil] at h
    split at h
    · rename_i a ha
      obtain ⟨z, hz, hv⟩ := convX_sound h hr (he x (by simp [Op.operands]) _ ha)
      exact ⟨z, run_value hz, hv⟩
    · cases h
  | makeInterface t x =>
    simp only [sil] at h
    split at h
    · cases h
    · rename_i a d hne ha hd
      cases h
      have hv := he x (by simp [Op.operands]) _ ha
      refine ⟨.iface t (η x), run_value ?_, by simp only [VR]; exact ⟨_, rfl, hv⟩⟩
      simp only [Instr.makeInterface, Sem.run_bind, run_und hd, Result.andThen_ok]
      cases d <;> first | rfl | exact absurd hd (hne _)
    · cases h
  | makeFunc fn first captured =>
    cases fn with
    | func f =>
      simp only [sil] at h
      split at h
      · rename_i i l hi hl
        cases h
        have h1 := evs_sound (φ := φ) (η := η) _ _ hi fun x hx => he x (by simp [Op.operands] at hx ⊢; exact .inl hx)
        have h2 := evs_sound (φ := φ) (η := η) _ _ hl fun x hx => he x (by simp [Op.operands] at hx ⊢; exact .inr hx)
        exact ⟨.func (.func f) (first.map η) (captured.map η), rfl, by simp only [VR]; exact ⟨_, _, rfl, by simpa using h1, by simpa using h2⟩⟩
      · cases h
    | _ => simp [sil] at h
  | build t parts =>
    simp only [sil] at h
    have hparts : ∀ x ∈ parts.toList, ∀ v, ev x.2 = some v → VR φ v (η x.2) := fun x hx => he x.2 (by simp [Op.operands]; exact ⟨x.1, by simpa using hx⟩)
    split at h
    · rename_i fs hfs
      split at h
      · rename_i z pl hz hpl
        split at h
        · rename_i l hl
          rw [force_eq] at h
          cases h
          obtain ⟨y, hy, hv⟩ := run_zeroX (w := w) (φ := φ) hz
          obtain ⟨zs, h1, h2⟩ := fillX_sound (φ := φ) (η := η) _ _ _ _ hl hv hparts
          refine ⟨.agg zs, run_value ?_, by simp only [VR]; exact ⟨_, rfl, h2⟩⟩
          have hnth : nthA pl = fun i => pl.toArray[i]? := by funext i; rw [nthA_eq]; simp
          rw [hnth] at h1
          simp only [Instr.build, Sem.run_bind, hy, run_und hfs, Result.andThen_ok, run_places hpl]
          simp only [Array.toList_map, h1, Sem.run_pure]
        · cases h
      · cases h
    · rename_i n el ht
      split at h
      · rename_i z s hz hs
        split at h
        · rename_i l hl
          rw [force_eq] at h
          cases h
          obtain ⟨y, hy, hv⟩ := run_zeroX (w := w) (φ := φ) hz
          obtain ⟨zs, h1, h2⟩ := fillX_sound (φ := φ) (η := η) _ _ _ _ hl hv hparts
          refine ⟨.agg zs, run_value ?_, by simp only [VR]; exact ⟨_, rfl, h2⟩⟩
          simp only [Instr.build, Sem.run_bind, hy, run_und ht, Result.andThen_ok, run_sz hs]
          simp only [Array.toList_map, h1, Sem.run_pure]
        · cases h
      · cases h
    · cases h
  | slice t x lo hi mx =>
    simp only [sil] at h
    split at h
    · rename_i a ha
      obtain ⟨z, hz, hv⟩ := sliceX_sound (w := w) (η := η) h hr (he x (by simp [Op.operands]) _ ha) (fun o u ho => he o (by
        rcases ho with rfl | rfl | rfl <;> simp [Op.operands]) u)
      exact ⟨z, run_value hz, hv⟩
    · cases h
  | fieldAddr s x f =>
    simp only [sil] at h
    split at h
    · rename_i a ha
      obtain ⟨z, hz, hv⟩ := fieldAddrX_sound (w := w) h (he x (by simp [Op.operands]) _ ha)
      exact ⟨z, run_value hz, hv⟩
    · cases h
  | field s x f =>
    simp only [sil] at h
    split at h
    · rename_i a ha
      obtain ⟨z, hz, hv⟩ := fieldX_sound (w := w) h (he x (by simp [Op.operands]) _ ha)
      exact ⟨z, run_value hz, hv⟩
    · cases h
  | indexAddr t x i =>
    simp only [sil] at h
    split at h
    · rename_i a b ha hb
      obtain ⟨z, hz, hv⟩ := indexAddrX_sound (w := w) h (he x (by simp [Op.operands]) _ ha) (he i (by simp [Op.operands]) _ hb)
      exact ⟨z, run_value hz, hv⟩
    · cases h
  | index t x i =>
    simp only [sil] at h
    split at h
    · rename_i a b ha hb
      obtain ⟨z, hz, hv⟩ := indexX_sound (w := w) h (he x (by simp [Op.operands]) _ ha) (he i (by simp [Op.operands]) _ hb)
      exact ⟨z, run_value hz, hv⟩
    · cases h
  | lookup t m k ok =>
    simp only [sil] at h
    split at h
    · rename_i a b ha hb
      obtain ⟨z, hz, hv⟩ := lookupX_sound h hr (he m (by simp [Op.operands]) _ ha) (he k (by simp [Op.operands]) _ hb)
      exact ⟨z, run_value hz, hv⟩
    · cases h
  | extract t i =>
    simp only [sil] at h
    split at h
    · rename_i l hl
      have hv := he t (by simp [Op.operands]) _ hl
      simp only [VR] at hv; obtain ⟨ys, hy, hv⟩ := hv
      rw [nth_eq] at h
      obtain ⟨y, h1, h2⟩ := hv.get h
      have h1' : ys[i]? = some y := by simpa using h1
      exact ⟨y, run_value (by simp [hy, Instr.extract, h1']), h2⟩
    · cases h
  | call c =>
    obtain ⟨callee, args, argTypes⟩ := c
    cases callee with
    | builtin b =>
      simp only [sil] at h
      have hargs : ∀ x ∈ args.toList, ∀ u, ev x = some u → VR φ u (η x) := fun x hx => he x (by simp [Op.operands, Call.operands] at hx ⊢; exact hx)
      split at h
      · rename_i x t ha ht
        split at h
        · rename_i a hx
          obtain ⟨z, hz, hv⟩ := lenX_sound (rt := type) h hr (hargs x (by rw [ha]; simp) _ hx)
          refine ⟨z, ?_, hv⟩
          have e1 : args = #[x] := by apply Array.toList_inj.1; simpa using ha
          have e2 : argTypes = #[t] := by apply Array.toList_inj.1; simpa using ht
          subst e1; subst e2
          simp [execOp, resolve, invoke, builtin, hz]
        · cases h
      · rename_i x t ha ht
        split at h
        · rename_i a hx
          obtain ⟨z, hz, hv⟩ := capX_sound (P := P) (w := w) (rt := type) h (hargs x (by rw [ha]; simp) _ hx)
          refine ⟨z, ?_, hv⟩
          have e1 : args = #[x] := by apply Array.toList_inj.1; simpa using ha
          have e2 : argTypes = #[t] := by apply Array.toList_inj.1; simpa using ht
          subst e1; subst e2
          simp [execOp, resolve, invoke, builtin, hz]
        · cases h
      · rename_i ts x l ha
        split at h
        · rename_i a m hx hm
          have h1 := evs_sound (φ := φ) (η := η) l m hm fun y hy => hargs y (by rw [ha]; simp [hy])
          obtain ⟨z, hz, hv⟩ := maxI_sound (P := P) (w := w) (mx := true) m a v (η x) (l.map η) h (hargs x (by rw [ha]; simp) _ hx) h1
          refine ⟨z, ?_, hv⟩
          have e1 : args = (x :: l).toArray := by apply Array.toList_inj.1; simpa using ha
          subst e1
          simp only [if_true] at hz
          simp [execOp, resolve, invoke, builtin, Builtin.max_, hz]
        · cases h
      · rename_i ts x l ha
        split at h
        · rename_i a m hx hm
          have h1 := evs_sound (φ := φ) (η := η) l m hm fun y hy => hargs y (by rw [ha]; simp [hy])
          obtain ⟨z, hz, hv⟩ := maxI_sound (P := P) (w := w) (mx := false) m a v (η x) (l.map η) h (hargs x (by rw [ha]; simp) _ hx) h1
          refine ⟨z, ?_, hv⟩
          have e1 : args = (x :: l).toArray := by apply Array.toList_inj.1; simpa using ha
          subst e1
          simp only [Bool.false_eq_true, if_false] at hz
          simp [execOp, resolve, invoke, builtin, Builtin.min_, hz]
        · cases h
      · rename_i ts x ha
        have e1 : args = #[x] := by apply Array.toList_inj.1; simpa using ha
        subst e1
        split at h
        · rename_i n c hx
          cases h
          have hv := hargs x (by simp) _ hx
          simp only [VR] at hv
          exact ⟨.pointer none, by simp [execOp, resolve, invoke, builtin, hv, run_usd_nil], by simp [VR]⟩
        · rename_i b off n k ex es hx
          cases h
          have hv := hargs x (by simp) _ hx
          simp only [VR] at hv; obtain ⟨p, c, hp, hv, hc, _⟩ := hv
          refine ⟨.pointer (some ⟨p.blk, p.base + off, none⟩), ?_, by simp only [VR]; exact ⟨p, hp, rfl⟩⟩
          have : c ≠ 0 := by omega
          simp [execOp, resolve, invoke, builtin, hv, run_usd this]
        · cases h
      · cases h
    | value f => simp [sil] at h
    | invoke r n => simp [sil] at h
  | _ => simp [sil] at h
end
end Go.Ax
