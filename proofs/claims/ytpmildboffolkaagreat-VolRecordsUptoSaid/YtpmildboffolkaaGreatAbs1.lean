/-
  An interpreter of Go code over heaps whose blocks bear names: definitions alone; no condition.
-/
import GoSem.Step
import Derived.Orders
set_option linter.unusedVariables false
set_option linter.unusedSimpArgs false
namespace Go.Proofs.YtpmildboffolkaaGreat.Abs

/-- a closure, boxed: the kernel keeps what it comes to -/
structure Cl (α : Type) where
  run : α

/-! Tries keyed by numbers -/
inductive Tr (α : Type) where
  | nil
  | node (v : Option α) (l r : Tr α)

namespace Tr
variable {α : Type}
def val : Tr α → Option α
  | nil => none
  | node v _ _ => v
def left : Tr α → Tr α
  | nil => nil
  | node _ l _ => l
def right : Tr α → Tr α
  | nil => nil
  | node _ _ r => r
/-- reading at a key; the first number is fuel -/
def getC : Nat → Nat → Cl (Tr α → Option α)
  | 0, _ => ⟨fun _ => none⟩
  | f + 1, k => match k with
    | 0 => ⟨val⟩
    | k' + 1 => match Nat.mod k' 2 with
      | 0 => ⟨fun t => (getC f (Nat.div k' 2)).run t.left⟩
      | _ + 1 => ⟨fun t => (getC f (Nat.div k' 2)).run t.right⟩
def setC : Nat → Nat → Cl (Option α → Tr α → Tr α)
  | 0, _ => ⟨fun _ t => t⟩
  | f + 1, k => match k with
    | 0 => ⟨fun x t => .node x t.left t.right⟩
    | k' + 1 => match Nat.mod k' 2 with
      | 0 => ⟨fun x t => .node t.val ((setC f (Nat.div k' 2)).run x t.left) t.right⟩
      | _ + 1 => ⟨fun x t => .node t.val t.left ((setC f (Nat.div k' 2)).run x t.right)⟩
def fuel (k : Nat) : Nat := Nat.succ (Nat.log2 (Nat.succ k))
def get (t : Tr α) (k : Nat) : Option α := (getC (fuel k) k).run t
def set (t : Tr α) (k : Nat) (x : Option α) : Tr α := (setC (fuel k) k).run x t
end Tr

inductive ACap where
  | exact (n : Nat)
  | rest (k : Nat)

inductive AV where
  | bool (b : Bool)
  | int (k : IntKind) (n : Int)
  | str (len n : Nat)
  | nilp
  | ptr (b off : Nat)
  | nils
  | slice (b off len : Nat) (cap : ACap)
  /-- what is left of a slice at its very end, its capacity (the rest of b from element k on) not being known: b, off, how many elements were cut, an element's size, k -/
  | send (b off l size k : Nat)
  | nilm
  | map (b : Nat)
  | yield (l : Nat)
  | func (f : Nat) (first captured : List AV)
  | nilf
  | iface (t : Nat) (v : AV)
  | nili
  | agg (l : List AV)
  | tuple (l : List AV)

def AV.undef : AV := .tuple []

/-- cells that stand one behind the other: written out, or bytes in one number -/
inductive Chunk where
  | cells (l : List AV)
  | bytes (len n : Nat)

/-- what stays in the record of a range over a function: the slots that are kept, their number, the slots, .. -/
structure ALoop where
  kept : Nat
  nt : Nat
  tmps : Tr AV
  params : List Nat
  assign : Code
  body : Code
  defers : Nat

inductive AObj where
  | row (c : Chunk) (elem : Nat) (opn : Bool)
  | map (es : List (AV × AV × Nat)) (clock : Nat)
  | mapIter (m : Option Nat) (since : Nat) (seen : List Nat) (stepped : Nat)
  | loop (st : LoopState) (pending : Option Code) (l : ALoop)
  | deferred

structure AEnt where
  obj : AObj
  lk : Option Nat

structure AHeap where
  next : Nat
  tr : Tr AEnt

namespace AHeap
def get (H : AHeap) (b : Nat) : Option AEnt := H.tr.get b
/-- a new block -/
def new (H : AHeap) (o : AObj) : AHeap := ⟨Nat.succ H.next, H.tr.set H.next (some ⟨o, none⟩)⟩
/-- a block is written; who may be the same block is forgotten -/
def put (H : AHeap) (b : Nat) (lk : Option Nat) (o : AObj) : AHeap :=
  match lk with
  | none => ⟨H.next, H.tr.set b (some ⟨o, none⟩)⟩
  | some p => ⟨H.next, (H.tr.set p none).set b (some ⟨o, none⟩)⟩
end AHeap

/-- an answer, and the heap behind it -/
inductive Res where
  | bad
  | ok (v : AV) (H : AHeap)

/-! what a value is -/
namespace AV
def asBool : AV → Option Bool
  | .bool b => some b
  | _ => none
def asInt : AV → Option (IntKind × Int)
  | .int k n => some (k, n)
  | _ => none
/-- an integer that is not negative -/
def asNat : AV → Option Nat
  | .int _ (.ofNat n) => some n
  | _ => none
def asStr : AV → Option (Nat × Nat)
  | .str l n => some (l, n)
  | _ => none
def asPtr : AV → Option (Nat × Nat)
  | .ptr b o => some (b, o)
  | _ => none
def asSlice : AV → Option (Nat × Nat × Nat × ACap)
  | .slice b o l c => some (b, o, l, c)
  | _ => none
def isEnd : AV → Bool
  | .send _ _ _ _ _ => true
  | _ => false
def isNils : AV → Bool
  | .nils => true
  | _ => false
def asMap : AV → Option Nat
  | .map r => some r
  | _ => none
def isNilm : AV → Bool
  | .nilm => true
  | _ => false
def asAgg : AV → Option (List AV)
  | .agg l => some l
  | _ => none
def asTuple : AV → Option (List AV)
  | .tuple l => some l
  | _ => none
def asIface : AV → Option (Nat × AV)
  | .iface t v => some (t, v)
  | _ => none
/-- the cells of a value that a variable may hold -/
def cells : AV → Option (List AV)
  | .agg l => some l
  | .tuple _ => none
  | v => some [v]
def lenOf : AV → Option Nat
  | .slice _ _ n _ => some n
  | .nils => some 0
  | .send _ _ _ _ _ => some 0
  | .str n _ => some n
  | _ => none
end AV

/-! bytes in one number, the first byte the highest -/
def pw (k : Nat) : Nat := Nat.pow 2 (Nat.mul 8 k)
def byteAt (len n i : Nat) : Nat := Nat.mod (Nat.div n (pw (Nat.sub (Nat.sub len 1) i))) 256
def sub (len n i j : Nat) : Nat := Nat.mod (Nat.div n (pw (Nat.sub len j))) (pw (Nat.sub j i))
def cat (n m lm : Nat) : Nat := Nat.add (Nat.mul n (pw lm)) m
/-- bytes i .. i + lm become m -/
def setSub (len n i lm m : Nat) : Nat :=
  Nat.add (Nat.mul (Nat.div n (pw (Nat.sub len i))) (pw (Nat.sub len i))) (Nat.add (Nat.mul m (pw (Nat.sub (Nat.sub len i) lm))) (Nat.mod n (pw (Nat.sub (Nat.sub len i) lm))))

def packL : List UInt8 → Nat → Nat
  | [], acc => acc
  | b :: r, acc => packL r (Nat.add (Nat.mul acc 256) b.toNat)

def litCell : Value → Option AV
  | .bool b => some (.bool b)
  | .int k n => some (.int k n)
  | .string s => some (.str s.data.toList.length (packL s.data.toList 0))
  | .pointer none => some .nilp
  | .slice none 0 0 => some .nils
  | .map none => some .nilm
  | .nilFunc => some .nilf
  | .nilIface => some .nili
  | _ => none
def litCells : List Value → Option (List AV)
  | [] => some []
  | v :: vs => match litCell v with
    | some x => (match litCells vs with | some xs => some (x :: xs) | none => none)
    | none => none
def ofLit : Value → Option AV
  | .agg vs => match litCells vs.toList with | some l => some (.agg l) | none => none
  | .tuple vs => match litCells vs.toList with | some l => some (.tuple l) | none => none
  | v => litCell v

/-! numbers -/
def pow2 : IntKind → Nat
  | .i8 | .u8 => 256
  | .i16 | .u16 => 65536
  | .i32 | .u32 => 4294967296
  | .i64 | .u64 => 18446744073709551616

def wrapU (m : Nat) : Int → Int
  | .ofNat n => .ofNat (Nat.mod n m)
  | .negSucc n => .ofNat (Nat.sub (Nat.sub m 1) (Nat.mod n m))

def wrapS (k : IntKind) : Int → Int
  | .ofNat m => match Nat.blt m 9223372036854775808 with
    | true => .ofNat m
    | false => k.wrap (.ofNat m)
  | .negSucc m => match Nat.blt m 9223372036854775808 with
    | true => .negSucc m
    | false => k.wrap (.negSucc m)

def wrap (k : IntKind) (n : Int) : Int :=
  match k with
  | .i64 => wrapS .i64 n
  | .u8 => wrapU 256 n
  | .u16 => wrapU 65536 n
  | .u32 => wrapU 4294967296 n
  | .u64 => wrapU 18446744073709551616 n
  | k => k.wrap n

def ble : Int → Int → Bool
  | .ofNat a, .ofNat b => Nat.ble a b
  | .negSucc _, .ofNat _ => true
  | .ofNat _, .negSucc _ => false
  | .negSucc a, .negSucc b => Nat.ble b a

def beqI : Int → Int → Bool
  | .ofNat a, .ofNat b => Nat.beq a b
  | .negSucc a, .negSucc b => Nat.beq a b
  | .ofNat _, .negSucc _ => false
  | .negSucc _, .ofNat _ => false

def kcode : IntKind → Nat
  | .i8 => 0 | .i16 => 1 | .i32 => 2 | .i64 => 3 | .u8 => 4 | .u16 => 5 | .u32 => 6 | .u64 => 7
def beqK (a b : IntKind) : Bool := Nat.beq (kcode a) (kcode b)

def nat2 (f : Nat → Nat → Nat) (k : IntKind) (x y : Int) : Option AV :=
  match x with
  | .ofNat a => (match y with
    | .ofNat b => some (.int k (wrap k (.ofNat (f a b))))
    | .negSucc _ => none)
  | .negSucc _ => none

/-- two integers of one kind -/
def intOpC (op : BinOp) : Cl (IntKind → Int → Int → Option AV) :=
  match op with
  | .add => ⟨fun k x y => some (.int k (wrap k (Int.add x y)))⟩
  | .sub => ⟨fun k x y => some (.int k (wrap k (Int.sub x y)))⟩
  | .mul => ⟨fun k x y => some (.int k (wrap k (Int.mul x y)))⟩
  | .quo => ⟨fun k x y => match beqI y 0 with | true => none | false => some (.int k (wrap k (Int.tdiv x y)))⟩
  | .rem => ⟨fun k x y => match beqI y 0 with | true => none | false => some (.int k (Int.tmod x y))⟩
  | .and => ⟨nat2 Nat.land⟩
  | .or => ⟨nat2 Nat.lor⟩
  | .xor => ⟨nat2 Nat.xor⟩
  | .eql => ⟨fun _ x y => some (.bool (beqI x y))⟩
  | .neq => ⟨fun _ x y => some (.bool (!beqI x y))⟩
  | .lss => ⟨fun _ x y => some (.bool (!ble y x))⟩
  | .leq => ⟨fun _ x y => some (.bool (ble x y))⟩
  | .gtr => ⟨fun _ x y => some (.bool (!ble x y))⟩
  | .geq => ⟨fun _ x y => some (.bool (ble y x))⟩
  | _ => ⟨fun _ _ _ => none⟩

def minN (a b : Nat) : Nat := match Nat.ble a b with | true => a | false => b

def shiftC (left : Bool) : Cl (IntKind → Int → Int → Option AV) :=
  match left with
  | true => ⟨fun k x y => match y with
    | .ofNat n => some (.int k (wrap k (Int.mul x (.ofNat (Nat.pow 2 (minN n k.bits))))))
    | .negSucc _ => none⟩
  | false => ⟨fun k x y => match y with
    | .ofNat n => (match x with
      | .ofNat a => some (.int k (.ofNat (Nat.div a (Nat.pow 2 (minN n k.bits)))))
      | .negSucc _ => none)
    | .negSucc _ => none⟩

def strCmp (la a lb b : Nat) : Ordering :=
  let m := minN la lb
  match Nat.blt (Nat.div a (pw (Nat.sub la m))) (Nat.div b (pw (Nat.sub lb m))) with
  | true => .lt
  | false => match Nat.blt (Nat.div b (pw (Nat.sub lb m))) (Nat.div a (pw (Nat.sub la m))) with
    | true => .gt
    | false => match Nat.blt la lb with
      | true => .lt
      | false => match Nat.blt lb la with
        | true => .gt
        | false => .eq
def isLt : Ordering → Bool
  | .lt => true
  | _ => false
def isGt : Ordering → Bool
  | .gt => true
  | _ => false
def strEq (la a lb b : Nat) : Bool := and (Nat.beq la lb) (Nat.beq a b)

def strOpC (op : BinOp) : Cl (Nat → Nat → Nat → Nat → Option AV) :=
  match op with
  | .add => ⟨fun la a lb b => match Nat.blt (Nat.add la lb) 1000000000 with | true => some (.str (Nat.add la lb) (cat a b lb)) | false => none⟩
  | .eql => ⟨fun la a lb b => some (.bool (strEq la a lb b))⟩
  | .neq => ⟨fun la a lb b => some (.bool (!strEq la a lb b))⟩
  | .lss => ⟨fun la a lb b => some (.bool (isLt (strCmp la a lb b)))⟩
  | .leq => ⟨fun la a lb b => some (.bool (!isGt (strCmp la a lb b)))⟩
  | .gtr => ⟨fun la a lb b => some (.bool (isGt (strCmp la a lb b)))⟩
  | .geq => ⟨fun la a lb b => some (.bool (!isLt (strCmp la a lb b)))⟩
  | _ => ⟨fun _ _ _ _ => none⟩

/-! rows -/
namespace Chunk
def unpackF : Nat → Nat → List AV → List AV
  | 0, _, acc => acc
  | k + 1, n, acc => unpackF k (Nat.div n 256) (.int .u8 (.ofNat (Nat.mod n 256)) :: acc)
def list : Chunk → List AV
  | .cells l => l
  | .bytes len n => unpackF len n []
def asByte : AV → Option Nat
  | .int .u8 (.ofNat m) => (match Nat.blt m 256 with | true => some m | false => none)
  | _ => none
def packF : List AV → Nat → Option Nat
  | [], acc => some acc
  | v :: r, acc => match asByte v with
    | some m => packF r (Nat.add (Nat.mul acc 256) m)
    | none => none
def len : Chunk → Nat
  | .cells l => l.length
  | .bytes n _ => n
def nth : List AV → Nat → Option AV
  | [], _ => none
  | x :: l, i => match i with
    | 0 => some x
    | j + 1 => nth l j
def get : Chunk → Nat → Option AV
  | .cells l, i => nth l i
  | .bytes len n, i => match Nat.blt i len with
    | true => some (.int .u8 (.ofNat (byteAt len n i)))
    | false => none
/-- so many cells behind so many -/
def takeL : List AV → Nat → Nat → Option (List AV)
  | [], 0, 0 => some []
  | [], _, _ => none
  | x :: l, i, n => match i with
    | j + 1 => takeL l j n
    | 0 => match n with
      | 0 => some []
      | m + 1 => match takeL l 0 m with
        | some l' => some (x :: l')
        | none => none
/-- n cells from i on -/
def part : Chunk → Nat → Nat → Option Chunk
  | .cells l, i, n => match takeL l i n with
    | some l' => some (.cells l')
    | none => none
  | .bytes len m, i, n => match Nat.ble (Nat.add i n) len with
    | true => some (.bytes n (sub len m i (Nat.add i n)))
    | false => none
def setL : List AV → Nat → List AV → Option (List AV)
  | l, i, ys => match ys with
    | [] => some l
    | y :: ys' => match l with
      | [] => none
      | x :: l' => match i with
        | 0 => (match setL l' 0 ys' with | some r => some (y :: r) | none => none)
        | j + 1 => (match setL l' j ys with | some r => some (x :: r) | none => none)
def putBytes (len n i lm m : Nat) : Option Chunk :=
  match Nat.ble (Nat.add i lm) len with
  | true => some (.bytes len (setSub len n i lm m))
  | false => none
/-- the cells from i on become another chunk's -/
def put : Chunk → Nat → Chunk → Option Chunk
  | .cells l, i, c => match setL l i c.list with
    | some l' => some (.cells l')
    | none => none
  | .bytes len n, i, .bytes lm m => putBytes len n i lm m
  | .bytes len n, i, .cells l => match packF l 0 with
    | some m => putBytes len n i l.length m
    | none => none
def cat : Chunk → Chunk → Chunk
  | .bytes la a, .bytes lb b => .bytes (Nat.add la lb) (Abs.cat a b lb)
  | .bytes la a, .cells l => .cells ((Chunk.bytes la a).list ++ l)
  | .cells l, c => .cells (l ++ c.list)
/-- as a row of bytes, if it is asked -/
def asRow (byte : Bool) (c : Chunk) : Option Chunk :=
  match byte with
  | false => some (.cells c.list)
  | true => match c with
    | .bytes l n => some (.bytes l n)
    | .cells l => match packF l 0 with
      | some n => some (.bytes l.length n)
      | none => none
end Chunk

def optBeq : Option Nat → Option Nat → Bool
  | none, none => true
  | some a, some b => Nat.beq a b
  | _, _ => false
def ACap.beq : ACap → ACap → Bool
  | .exact a, .exact b => Nat.beq a b
  | .rest a, .rest b => Nat.beq a b
  | _, _ => false

mutual
def AV.beq : AV → AV → Bool
  | .bool a, .bool b => match a with | true => b | false => !b
  | .int k n, .int k' n' => and (beqK k k') (beqI n n')
  | .str l n, .str l' n' => and (Nat.beq l l') (Nat.beq n n')
  | .nilp, .nilp => true
  | .nils, .nils => true
  | .nilm, .nilm => true
  | .nilf, .nilf => true
  | .nili, .nili => true
  | .ptr b o, .ptr b' o' => and (Nat.beq b b') (Nat.beq o o')
  | .slice b o l c, .slice b' o' l' c' => and (and (Nat.beq b b') (Nat.beq o o')) (and (Nat.beq l l') (c.beq c'))
  | .send b o l z k, .send b' o' l' z' k' => and (and (Nat.beq b b') (Nat.beq o o')) (and (Nat.beq l l') (and (Nat.beq z z') (Nat.beq k k')))
  | .map b, .map b' => Nat.beq b b'
  | .yield b, .yield b' => Nat.beq b b'
  | .iface t v, .iface t' v' => and (Nat.beq t t') (v.beq v')
  | .func f a b, .func f' a' b' => and (Nat.beq f f') (and (AV.beqL a a') (AV.beqL b b'))
  | .agg l, .agg l' => AV.beqL l l'
  | .tuple l, .tuple l' => AV.beqL l l'
  | _, _ => false
def AV.beqL : List AV → List AV → Bool
  | [], [] => true
  | a :: l, b :: l' => and (a.beq b) (AV.beqL l l')
  | _, _ => false
end

end Go.Proofs.YtpmildboffolkaaGreat.Abs

namespace Go.Proofs.YtpmildboffolkaaGreat.Abs

section
variable (P : Program)

def sizeT (t : Nat) : Option Nat := match P.info? t with | some i => some i.size | none => none
def bytesT (t : Nat) : Option Nat := match P.info? t with | some i => some i.bytes | none => none
def aggD : TypeDesc → Bool
  | .struct _ => true
  | .array _ _ => true
  | _ => false
def isAggT (t : Nat) : Option Bool := match P.underlying t with | some d => some (aggD d) | none => none
def zeroT (t : Nat) : Option AV := match P.info? t with | some i => (match i.zero with | some v => ofLit v | none => none) | none => none
def u8D : TypeDesc → Bool
  | .int .u8 => true
  | _ => false
def u8T (t : Nat) : Bool := match P.underlying t with | some d => u8D d | none => false
def arrD : TypeDesc → Option (Nat × Nat)
  | .array n e => some (n, e)
  | _ => none
def sliD : TypeDesc → Option Nat
  | .slice e => some e
  | _ => none
def strD : TypeDesc → Bool
  | .string => true
  | _ => false
def intD : TypeDesc → Option IntKind
  | .int k => some k
  | _ => none
def fieldsD : TypeDesc → Option (Array Field)
  | .struct fs => some fs
  | _ => none
def mapD : TypeDesc → Option (Nat × Nat)
  | .map k e => some (k, e)
  | _ => none
def sliT (t : Nat) : Option Nat := match P.underlying t with | some d => sliD d | none => none
/-- does a row of this element type hold bytes alone? -/
def byteT (t : Nat) : Bool :=
  match u8T P t with
  | true => true
  | false => match P.underlying t with
    | some d => (match arrD d with | some (_, e) => u8T P e | none => false)
    | none => false

def isZ : AV → Bool
  | .int .u8 (.ofNat 0) => true
  | _ => false
def allZero : List AV → Bool
  | [] => true
  | x :: l => and (isZ x) (allZero l)
/-- n zero elements -/
def zeroChunk (elem n : Nat) : Option Chunk :=
  match zeroT P elem with
  | none => none
  | some z => match z.cells with
    | some l => (match sizeT P elem with
      | some z => (match Nat.beq l.length z with
        | true => (match byteT P elem with
          | true => (match allZero l with | true => some (.bytes (Nat.mul n l.length) 0) | false => none)
          | false => some (.cells (List.replicate n l).flatten))
        | false => none)
      | none => none)
    | none => none

/-! memory -/
def asRow : Option AEnt → Option (Chunk × Nat × Bool × Option Nat)
  | some ⟨.row c e o, lk⟩ => some (c, e, o, lk)
  | _ => none
def readPart (H : AHeap) (b off n : Nat) : Option Chunk :=
  match asRow (H.get b) with
  | some (c, _, _, _) => c.part off n
  | none => none
def readCell (H : AHeap) (b off : Nat) : Option AV :=
  match asRow (H.get b) with
  | some (c, _, _, _) => c.get off
  | none => none
def writePart (H : AHeap) (b off : Nat) (x : Chunk) : Option AHeap :=
  match asRow (H.get b) with
  | some (c, e, o, lk) => (match c.put off x with | some c' => some (H.put b lk (.row c' e o)) | none => none)
  | none => none

/-- what a variable of a type holds, by its address -/
def loadC (t : Nat) : Cl (AHeap → AV → Option AV) :=
  match isAggT P t with
  | some false => ⟨fun H x => match x.asPtr with
    | some (b, off) => readCell H b off
    | none => none⟩
  | some true => match sizeT P t with
    | some n => ⟨fun H x => match x.asPtr with
      | some (b, off) => (match readPart H b off n with
        | some c => some (.agg c.list)
        | none => none)
      | none => none⟩
    | none => ⟨fun _ _ => none⟩
  | none => ⟨fun _ _ => none⟩

def storeC (t : Nat) : Cl (AHeap → AV → AV → Option AHeap) :=
  match sizeT P t with
  | some n => ⟨fun H x v => match x.asPtr with
    | some (b, off) => (match v.cells with
      | some l => (match Nat.beq l.length n with
        | true => writePart H b off (.cells l)
        | false => none)
      | none => none)
    | none => none⟩
  | none => ⟨fun _ _ _ => none⟩

/-! equality -/
/-- the first is a row of cells that can be held against another: its link -/
def plainRow : Option AEnt → Option (Option Nat)
  | some ⟨.row (.cells (_ :: _)) _ _, lk⟩ => some lk
  | _ => none
def eqPtr (H : AHeap) (b off b' off' : Nat) : Option Bool :=
  match plainRow (H.get b) with
  | some lk => (match plainRow (H.get b') with
    | some _ => (match Nat.beq b b' with
      | true => some (Nat.beq off off')
      | false => (match lk with | none => some false | some _ => none))
    | none => none)
  | none => none

def eqFields (rec : Nat → AV → AV → Option Bool) : List Field → List AV → List AV → Option Bool
  | [], _, _ => some true
  | f :: fs, xs, ys =>
    match f.name == "_" with
    | true => eqFields rec fs xs ys
    | false => match isAggT P f.type with
      | some true => (match sizeT P f.type with
        | some n => (match Chunk.takeL xs f.offset n, Chunk.takeL ys f.offset n with
          | some x, some y => (match rec f.type (.agg x) (.agg y) with
            | some true => eqFields rec fs xs ys
            | r => r)
          | _, _ => none)
        | none => none)
      | some false => (match Chunk.nth xs f.offset, Chunk.nth ys f.offset with
        | some x, some y => (match rec f.type x y with
          | some true => eqFields rec fs xs ys
          | r => r)
        | _, _ => none)
      | none => none

def eqCells (rec : AV → AV → Option Bool) : Nat → List AV → List AV → Option Bool
  | 0, _, _ => some true
  | n + 1, x :: xs, y :: ys => (match rec x y with
    | some true => eqCells rec n xs ys
    | r => r)
  | _ + 1, _, _ => none

/-- is it a nil of its kind? -/
def AV.nilPtr : AV → Option Bool
  | .nilp => some true
  | .ptr _ _ => some false
  | _ => none
def AV.nilSlice : AV → Option Bool
  | .nils => some true
  | .slice _ _ _ _ => some false
  | .send _ _ _ _ _ => some false
  | _ => none
def AV.nilMap : AV → Option Bool
  | .nilm => some true
  | .map _ => some false
  | _ => none
def AV.nilFun : AV → Option Bool
  | .nilf => some true
  | .func _ _ _ => some false
  | .yield _ => some false
  | _ => none
def AV.nilIfc : AV → Option Bool
  | .nili => some true
  | .iface _ _ => some false
  | _ => none

/-- two values of which one is nil -/
def nilEq : Option Bool → Option Bool → Option Bool
  | some true, y => y
  | some false, some true => some false
  | _, _ => none

def eqV (H : AHeap) : Nat → Nat → AV → AV → Option Bool
  | 0, _, _, _ => none
  | d + 1, t, x, y =>
    match P.underlying t with
    | some .bool => (match x.asBool, y.asBool with | some a, some b => some (a == b) | _, _ => none)
    | some (.int _) => (match x.asInt, y.asInt with
      | some (k, a), some (k', b) => (match beqK k k' with | true => some (beqI a b) | false => none)
      | _, _ => none)
    | some .string => (match x.asStr, y.asStr with | some (l, n), some (l', n') => some (strEq l n l' n') | _, _ => none)
    | some (.pointer e) => (match x.asPtr, y.asPtr with
      | some (b, o), some (b', o') => (match sizeT P e with | some (_ + 1) => eqPtr H b o b' o' | _ => none)
      | _, _ => nilEq x.nilPtr y.nilPtr)
    | some (.interface _) => nilEq x.nilIfc y.nilIfc
    | some (.slice _) => nilEq x.nilSlice y.nilSlice
    | some (.map _ _) => nilEq x.nilMap y.nilMap
    | some (.func _ _ _) => nilEq x.nilFun y.nilFun
    | some (.struct fs) => (match x.asAgg, y.asAgg with
      | some xs, some ys => (match P.stoodInHeld t with | true => none | false => eqFields P (eqV H d) fs.toList xs ys)
      | _, _ => none)
    | some (.array n e) => (match x.asAgg, y.asAgg with
      | some xs, some ys => (match isAggT P e with
        | some false => (match sizeT P e with | some 1 => eqCells (eqV H d e) n xs ys | _ => none)
        | _ => none)
      | _, _ => none)
    | _ => none

def negB : Option Bool → Option AV
  | some b => some (.bool (!b))
  | none => none
def posB : Option Bool → Option AV
  | some b => some (.bool b)
  | none => none

/-- the kinds of operands: 0 integers, 1 strings, 2 others -/
def opKind (t : Nat) : Nat :=
  match P.underlying t with
  | some d => (match intD d with
    | some _ => 0
    | none => match strD d with | true => 1 | false => 2)
  | none => 2

/-- may values of a type be held against each other without the model's guard on nil interfaces? cst: one operand is a constant -/
def guardT (t : Nat) (cst : Bool) : Bool :=
  match P.underlying t with
  | some (.interface _) => cst
  | some (.struct _) => !P.eqGuardType P.depth t
  | some (.array _ _) => !P.eqGuardType P.depth t
  | some _ => true
  | none => false
def otherC (op : BinOp) (t : Nat) (cst : Bool) : Cl (AHeap → AV → AV → Option AV) :=
  match guardT P t cst with
  | false => ⟨fun _ _ _ => none⟩
  | true => match op with
    | .eql => ⟨fun H x y => posB (eqV P H 8 t x y)⟩
    | .neq => ⟨fun H x y => negB (eqV P H 8 t x y)⟩
    | _ => ⟨fun _ _ _ => none⟩

def binOpC (op : BinOp) (t : Nat) (cst : Bool) : Cl (AHeap → AV → AV → Option AV) :=
  match opKind P t with
  | 0 => (match op with
    | .shl => ⟨fun _ x y => match x.asInt with
      | some (k, a) => (match y.asInt with | some (_, b) => (shiftC true).run k a b | none => none)
      | none => none⟩
    | .shr => ⟨fun _ x y => match x.asInt with
      | some (k, a) => (match y.asInt with | some (_, b) => (shiftC false).run k a b | none => none)
      | none => none⟩
    | op => ⟨fun _ x y => match x.asInt with
      | some (k, a) => (match y.asInt with
        | some (k', b) => (match beqK k k' with
          | true => (intOpC op).run k a b
          | false => none)
        | none => none)
      | none => none⟩)
  | 1 => ⟨fun _ x y => match x.asStr with
      | some (la, a) => (match y.asStr with
        | some (lb, b) => (strOpC op).run la a lb b
        | none => none)
      | none => none⟩
  | _ => otherC P op t cst

def unOpC (op : UnOp) : Cl (AV → Option AV) :=
  match op with
  | .neg => ⟨fun x => match x.asInt with | some (k, n) => some (.int k (wrap k (Int.sub 0 n))) | none => none⟩
  | .xor => ⟨fun x => match x.asInt with
    | some (k, n) => (match k.signed with
      | false => nat2 Nat.xor k (.ofNat (Nat.sub (pow2 k) 1)) n
      | true => none)
    | none => none⟩
  | .not => ⟨fun x => match x.asBool with | some b => some (.bool (!b)) | none => none⟩
  | _ => ⟨fun _ => none⟩

/-! parts -/
def fieldOf (t i : Nat) : Option Field :=
  match P.underlying t with
  | some d => (match fieldsD d with | some fs => fs[i]? | none => none)
  | none => none

def partC (t off : Nat) : Cl (List AV → Option AV) :=
  match isAggT P t with
  | some true => (match sizeT P t with
    | some n => ⟨fun cs => match Chunk.takeL cs off n with | some l => some (.agg l) | none => none⟩
    | none => ⟨fun _ => none⟩)
  | some false => ⟨fun cs => Chunk.nth cs off⟩
  | none => ⟨fun _ => none⟩

def fieldC (t i : Nat) : Cl (AV → Option AV) :=
  match fieldOf P t i with
  | some f => ⟨fun x => match x.asAgg with | some cs => (partC P f.type f.offset).run cs | none => none⟩
  | none => ⟨fun _ => none⟩

def addOff (off : Nat) (x : AV) : Option AV :=
  match x.asPtr with
  | some (b, o) => some (.ptr b (Nat.add o off))
  | none => none

def fieldAddrC (t i : Nat) : Cl (AV → Option AV) :=
  match fieldOf P t i with
  | some f => (match sizeT P f.type with
    | some (_ + 1) => ⟨addOff f.offset⟩
    | _ => ⟨fun _ => none⟩)
  | none => ⟨fun _ => none⟩

def indexAddrC (t : Nat) : Cl (AV → AV → Option AV) :=
  match P.underlying t with
  | some d => (match arrD d with
    | some (len, e) => (match sizeT P e with
      | some n => ⟨fun x ix => match ix.asNat with
        | some i => (match Nat.blt i len with
          | true => addOff (Nat.mul i n) x
          | false => none)
        | none => none⟩
      | none => ⟨fun _ _ => none⟩)
    | none => match sliD d with
      | some e => (match sizeT P e with
        | some n => ⟨fun x ix => match ix.asNat with
          | some i => (match x.asSlice with
            | some (b, off, len, _) => (match Nat.blt i len with
              | true => some (.ptr b (Nat.add off (Nat.mul i n)))
              | false => none)
            | none => none)
          | none => none⟩
        | none => ⟨fun _ _ => none⟩)
      | none => ⟨fun _ _ => none⟩)
  | none => ⟨fun _ _ => none⟩

def indexC (t : Nat) : Cl (AV → AV → Option AV) :=
  match P.underlying t with
  | some d => (match strD d with
    | true => ⟨fun x ix => match ix.asNat with
      | some i => (match x.asStr with
        | some (len, n) => (match Nat.blt i len with
          | true => some (.int .u8 (.ofNat (byteAt len n i)))
          | false => none)
        | none => none)
      | none => none⟩
    | false => match arrD d with
      | some (len, e) => (match isAggT P e with
        | some false => (match sizeT P e with
          | some 1 => ⟨fun x ix => match ix.asNat with
            | some i => (match x.asAgg with
              | some cs => (match Nat.blt i len with
                | true => Chunk.nth cs i
                | false => none)
              | none => none)
            | none => none⟩
          | _ => ⟨fun _ _ => none⟩)
        | _ => ⟨fun _ _ => none⟩)
      | none => ⟨fun _ _ => none⟩)
  | none => ⟨fun _ _ => none⟩

/-- a bound of a slice expression -/
def boundV (d : Nat) : Option AV → Option Nat
  | none => some d
  | some v => v.asNat

def capLen (len : Nat) : ACap → Nat
  | .exact c => c
  | .rest _ => len
/-- the capacity behind a cut at l, m being the upper bound of the capacity, if one is given -/
def capCut (l : Nat) : Option Nat → ACap → ACap
  | some m, _ => .exact (Nat.sub m l)
  | none, .exact c => .exact (Nat.sub c l)
  | none, .rest k => .rest (Nat.add k l)
/-- where a slice begins behind a cut: at the very capacity the old address stays -/
def offCut (l off size : Nat) : ACap → Option Nat
  | .exact 0 => some off
  | .exact (_ + 1) => some (Nat.add off (Nat.mul l size))
  | .rest _ => some (Nat.add off (Nat.mul l size))

/-- x[l:h], x[l:h:m] of a slice. Where the capacity is not known, the end of what is left must lie behind its beginning (or the beginning must be the old one). -/
def cutSlice (b off len size : Nat) (cap : ACap) (l h : Nat) (m : Option Nat) : Option AV :=
  match and (Nat.ble l h) (match m with | none => Nat.ble h (capLen len cap) | some m => and (Nat.ble h m) (Nat.ble m (capLen len cap))) with
  | false => none
  | true => match (match cap, m with | .rest _, none => or (Nat.blt l h) (Nat.beq l 0) | _, _ => true) with
    | false => (match cap with | .rest k => some (.send b off l size k) | .exact _ => none)
    | true => match offCut l off size (capCut l m cap) with
      | some o => some (.slice b o (Nat.sub h l) (capCut l m cap))
      | none => none

/-- the upper bound: where a third one is given it must be, too -/
def hiV (d : Nat) (hi mx : Option AV) : Option Nat :=
  match hi with
  | some v => v.asNat
  | none => match mx with | none => some d | some _ => none
def optNat : Option AV → Option (Option Nat)
  | none => some none
  | some v => (match v.asNat with | some n => some (some n) | none => none)

def sliceC (t : Nat) : Cl (AV → Option AV → Option AV → Option AV → Option AV) :=
  match P.underlying t with
  | some d => (match strD d with
    | true => ⟨fun x lo hi mx => match x.asStr, mx with
      | some (len, n), none => (match boundV 0 lo, boundV len hi with
        | some l, some h => (match and (Nat.ble l h) (Nat.ble h len) with
          | true => some (.str (Nat.sub h l) (sub len n l h))
          | false => none)
        | _, _ => none)
      | _, _ => none⟩
    | false => match sliD d with
      | some e => (match sizeT P e with
        | some size => ⟨fun x lo hi mx => match x.asSlice with
          | some (b, off, len, cap) => (match boundV 0 lo, hiV len hi mx, optNat mx with
            | some l, some h, some m => cutSlice b off len size cap l h m
            | _, _, _ => none)
          | none => (match x.isNils with
            | true => (match boundV 0 lo, hiV 0 hi mx, boundV 0 mx with
              | some 0, some 0, some 0 => some .nils
              | _, _, _ => none)
            | false => (match x.isEnd with
              | true => (match boundV 0 lo, boundV 0 hi, mx with
                | some 0, some 0, none => some x
                | _, _, _ => none)
              | false => none))⟩
        | none => ⟨fun _ _ _ _ => none⟩)
      | none => match arrD d with
        | some (n, e) => (match sizeT P e with
          | some size => ⟨fun x lo hi mx => match x.asPtr with
            | some (b, off) => (match boundV 0 lo, hiV n hi mx, boundV n mx with
              | some l, some h, some m => cutSlice b off n size (.exact n) l h (some m)
              | _, _, _ => none)
            | none => none⟩
          | none => ⟨fun _ _ _ _ => none⟩)
        | none => ⟨fun _ _ _ _ => none⟩)
  | none => ⟨fun _ _ _ _ => none⟩

/-- the cells of the first n elements -/
def firstOf (H : AHeap) (size n : Nat) (x : AV) : Option Chunk :=
  match x.asSlice with
  | some (b, off, _, _) => readPart H b off (Nat.mul n size)
  | none => match x.asStr with
    | some (len, m) => (match and (Nat.ble n len) (Nat.beq size 1) with | true => some (.bytes n (sub len m 0 n)) | false => none)
    | none => match or x.isNils x.isEnd with
      | true => (match n with | 0 => some (.bytes 0 0) | _ + 1 => none)
      | false => none

def capBound : Nat := 17592186044416

/-- a new row, of which the first cells are known -/
def grown (H : AHeap) (elem : Nat) (byte : Bool) (n : Nat) (c : Chunk) : Res :=
  match c.asRow byte with
  | some r => .ok (.slice H.next 0 n (.rest 0)) (H.new (.row r elem true))
  | none => .bad

/-- append where it is not known whether there is room: block b, its first cells old, becomes what it was and c, in place or elsewhere -/
def unsure (H : AHeap) (b elem : Nat) (byte : Bool) (lk : Option Nat) (n : Nat) (old all : Chunk) : Res :=
  match all.asRow byte with
  | some r => .ok (.slice H.next 0 n (.rest 0)) ⟨Nat.succ H.next,
      (((match lk with | none => H.tr | some p => H.tr.set p none).set b (some ⟨.row old elem true, some H.next⟩)).set H.next (some ⟨.row r elem true, some b⟩))⟩
  | none => .bad

/-- append of cells (m elements of a size) to a slice -/
def appendV (H : AHeap) (elem size bytes : Nat) (byte : Bool) (s : AV) (m : Nat) (x : Chunk) : Res :=
  match s.asSlice with
  | none => (match s.isNils with
    | true => (match m with
      | 0 => .ok .nils H
      | _ + 1 => (match Nat.ble (Nat.mul m bytes) capBound with
        | true => grown H elem byte m x
        | false => .bad))
    | false => (match x.len, m, s.isEnd with | 0, 0, true => .ok s H | _, _, _ => .bad))
  | some (b, off, len, cap) => match m with
    | 0 => .ok s H
    | _ + 1 => match Nat.ble (Nat.mul (Nat.add len m) bytes) capBound with
      | false => .bad
      | true => match cap with
        | .exact c => (match Nat.ble (Nat.add len m) c with
          | true => (match writePart H b (Nat.add off (Nat.mul len size)) x with
            | some H' => .ok (.slice b off (Nat.add len m) (.exact c)) H'
            | none => .bad)
          | false => (match readPart H b off (Nat.mul len size) with
            | some old => grown H elem byte (Nat.add len m) (old.cat x)
            | none => .bad))
        | .rest k => (match and (Nat.beq off 0) (Nat.beq k 0) with
          | false => .bad
          | true => match asRow (H.get b) with
            | some (c, e, true, lk) => (match Nat.beq e elem with
              | true => (match c.part 0 (Nat.mul len size) with
                | some old => unsure H b elem byte lk (Nat.add len m) old (old.cat x)
                | none => .bad)
              | false => .bad)
            | _ => .bad)

/-! maps -/
def asMapO : Option AEnt → Option (List (AV × AV × Nat) × Nat)
  | some ⟨.map es clock, none⟩ => some (es, clock)
  | _ => none
def findK (eq : AV → AV → Option Bool) (k : AV) : List (AV × AV × Nat) → Nat → Option (Option (Nat × AV))
  | [], _ => some none
  | (k', v, _) :: es, i => match eq k k' with
    | some true => some (some (i, v))
    | some false => findK eq k es (i + 1)
    | none => none
/-- keys that can always be laid -/
def keyD : TypeDesc → Bool
  | .string => true
  | .int _ => true
  | .pointer _ => true
  | _ => false
def keyT (t : Nat) : Bool := match P.underlying t with | some d => keyD d | none => false
def mapT (t : Nat) : Option (Nat × Nat) :=
  match P.underlying t with
  | some d => (match mapD d with
    | some (k, e) => (match keyT P k with | true => some (k, e) | false => none)
    | none => none)
  | none => none
/-- the entries of a map -/
def entriesOf (H : AHeap) (m : AV) : Option (List (AV × AV × Nat)) :=
  match m.asMap with
  | some r => (match asMapO (H.get r) with | some (es, _) => some es | none => none)
  | none => match m.isNilm with | true => some [] | false => none
def withOk (ok : Bool) (v : AV) (b : Bool) : AV := match ok with | true => .tuple [v, .bool b] | false => v
def lookupC (t : Nat) (ok : Bool) : Cl (AHeap → AV → AV → Option AV) :=
  match mapT P t with
  | some (kt, et) => ⟨fun H m k => match entriesOf H m with
    | some es => (match findK (eqV P H 8 kt) k es 0 with
      | some (some (_, v)) => some (withOk ok v true)
      | some none => (match zeroT P et with | some z => some (withOk ok z false) | none => none)
      | none => none)
    | none => none⟩
  | none => ⟨fun _ _ _ => none⟩
def setAt : List (AV × AV × Nat) → Nat → AV → AV → List (AV × AV × Nat)
  | [], _, _, _ => []
  | e :: l, i, k, v => match i with
    | 0 => (k, v, e.2.2) :: l
    | j + 1 => e :: setAt l j k v
def mapUpdateC (t : Nat) : Cl (AHeap → AV → AV → AV → Option AHeap) :=
  match mapT P t with
  | some (kt, _) => ⟨fun H m k v => match m.asMap with
    | some r => (match asMapO (H.get r) with
      | some (es, clock) => (match findK (eqV P H 8 kt) k es 0 with
        | some (some (i, _)) => some (H.put r none (.map (setAt es i k v) clock))
        | some none => some (H.put r none (.map (es ++ [(k, v, clock)]) (Nat.succ clock)))
        | none => none)
      | none => none)
    | none => none⟩
  | none => ⟨fun _ _ _ _ => none⟩
def dropAt : List (AV × AV × Nat) → Nat → List (AV × AV × Nat)
  | [], _ => []
  | e :: l, i => match i with
    | 0 => l
    | j + 1 => e :: dropAt l j
def deleteC (t : Nat) : Cl (AHeap → AV → AV → Option AHeap) :=
  match mapT P t with
  | some (kt, _) => ⟨fun H m k => match m.asMap with
    | some r => (match asMapO (H.get r) with
      | some (es, clock) => (match findK (eqV P H 8 kt) k es 0 with
        | some (some (i, _)) => some (H.put r none (.map (dropAt es i) clock))
        | some none => some H
        | none => none)
      | none => none)
    | none => (match m.isNilm with | true => some H | false => none)⟩
  | none => ⟨fun _ _ _ => none⟩
def memN (n : Nat) : List Nat → Bool
  | [] => false
  | m :: l => or (Nat.beq n m) (memN n l)
def asIter : Option AEnt → Option (Option Nat × Nat × List Nat × Nat)
  | some ⟨.mapIter m s l c, none⟩ => some (m, s, l, c)
  | _ => none
def allFrom (n : Nat) : List (AV × AV × Nat) → Bool
  | [] => true
  | e :: l => and (Nat.ble n e.2.2) (allFrom n l)
def leftOf (seen : List Nat) : List (AV × AV × Nat) → List (AV × AV × Nat)
  | [] => []
  | e :: l => match memN e.2.2 seen with | true => leftOf seen l | false => e :: leftOf seen l
def noL {α : Type} : List α → Bool
  | [] => true
  | _ => false
/-- the next entry of a map, if there is but one that may come -/
def nextV (H : AHeap) (it : AV) : Res :=
  match it.asPtr with
  | some (r, 0) => (match asIter (H.get r) with
    | some (none, _, _, _) => .ok (.tuple [.bool false]) H
    | some (some m, since, seen, last) => (match asMapO (H.get m) with
      | some (es, clock) => (match and (!noL seen) (and (!noL es) (allFrom last es)) with
        | true => .bad
        | false => match leftOf seen es with
          | [] => .ok (.tuple [.bool false]) H
          | [e] => (match Nat.blt e.2.2 since with
            | true => .ok (.tuple [.bool true, e.1, e.2.1]) (H.put r none (.mapIter (some m) since (seen ++ [e.2.2]) clock))
            | false => .bad)
          | _ => .bad)
      | none => .bad)
    | none => .bad)
  | _ => .bad
def rangeV (H : AHeap) (t : Nat) (x : AV) : Res :=
  match P.underlying t with
  | some (.map _ _) => (match x.asMap with
    | some m => (match asMapO (H.get m) with
      | some (_, clock) => .ok (.ptr H.next 0) (H.new (.mapIter (some m) clock [] clock))
      | none => .bad)
    | none => (match x.isNilm with
      | true => .ok (.ptr H.next 0) (H.new (.mapIter none 0 [] 0))
      | false => .bad))
  | _ => .bad
def lastOf : List Nat → Option Nat
  | [] => none
  | x :: l => match l with | [] => some x | _ :: _ => lastOf l
def findBorn (n : Nat) : List (AV × AV × Nat) → Option (AV × AV)
  | [] => none
  | e :: l => match Nat.beq e.2.2 n with | true => some (e.1, e.2.1) | false => findBorn n l
def entryV (H : AHeap) (it : AV) : Option AV :=
  match it.asPtr with
  | some (r, 0) => (match asIter (H.get r) with
    | some (some m, _, seen, stepped) => (match lastOf seen, asMapO (H.get m) with
      | some stamp, some (es, clock) => (match Nat.beq clock stepped with
        | true => (match findBorn stamp es with
          | some (k, v) => some (.tuple [k, v])
          | none => none)
        | false => none)
      | _, _ => none)
    | _ => none)
  | _ => none

/-! making -/
def fillL (place : Nat → Option (Nat × Nat)) (c : List AV) : List (Nat × AV) → Option (List AV)
  | [] => some c
  | (i, v) :: rest => match place i with
    | none => none
    | some (off, size) => match v.cells with
      | some l => (match and (Nat.beq l.length size) (Nat.blt 0 size) with
        | true => (match Chunk.setL c off l with
          | some c' => fillL place c' rest
          | none => none)
        | false => none)
      | none => none
def placeF (fs : Array Field) (i : Nat) : Option (Nat × Nat) :=
  match fs[i]? with
  | some f => (match sizeT P f.type with | some n => some (f.offset, n) | none => none)
  | none => none
def placeE (n i : Nat) : Option (Nat × Nat) := some (Nat.mul i n, n)
def sized : List Field → Bool
  | [] => true
  | f :: fs => and (match sizeT P f.type with | some _ => true | none => false) (sized fs)
def buildC (t : Nat) : Cl (List (Nat × AV) → Option AV) :=
  match zeroT P t with
  | none => ⟨fun _ => none⟩
  | some z => match P.underlying t with
    | some d => (match fieldsD d with
      | some fs => (match sized P fs.toList with
        | true => ⟨fun ps => match z.cells with | some zs => (match fillL (placeF P fs) zs ps with | some l => some (.agg l) | none => none) | none => none⟩
        | false => ⟨fun _ => none⟩)
      | none => match arrD d with
        | some (_, e) => (match sizeT P e with
          | some n => ⟨fun ps => match z.cells with | some zs => (match fillL (placeE n) zs ps with | some l => some (.agg l) | none => none) | none => none⟩
          | none => ⟨fun _ => none⟩)
        | none => ⟨fun _ => none⟩)
    | none => ⟨fun _ => none⟩
/-- the row of a slice literal -/
def buildSliceC (t len : Nat) : Cl (List (Nat × AV) → Option AObj) :=
  match sliT P t with
  | some e => (match sizeT P e with
    | some n => (match Nat.ble (Nat.mul len n) 1000000 with
      | true => (match (match Nat.mul len n with | 0 => some (Chunk.cells []) | _ + 1 => zeroChunk P e len) with
        | some c => ⟨fun ps => match fillL (placeE n) c.list ps with
          | some l => (match (Chunk.cells l).asRow (byteT P e) with | some r => some (.row r e false) | none => none)
          | none => none⟩
        | none => ⟨fun _ => none⟩)
      | false => ⟨fun _ => none⟩)
    | none => ⟨fun _ => none⟩)
  | none => ⟨fun _ => none⟩
/-- a row with so many cells -/
def rowC (t : Nat) : Cl (AV → Option AObj) :=
  match byteT P t with
  | true => ⟨fun v => match v.cells with | some l => (match (Chunk.cells l).asRow true with | some r => some (.row r t false) | none => none) | none => none⟩
  | false => ⟨fun v => match v.cells with | some l => some (.row (.cells l) t false) | none => none⟩
def makeSliceC (t : Nat) : Cl (Nat → AV → AV → Option (AV × AObj)) :=
  match sliT P t with
  | some e => (match bytesT P e with
    | some by_ => ⟨fun name len cap => match len.asNat, cap.asNat with
      | some l, some c => (match and (Nat.ble l c) (and (Nat.ble (Nat.mul by_ c) capBound) (Nat.ble c capBound)) with
        | true => (match zeroChunk P e c with | some z => some (.slice name 0 l (.exact c), .row z e false) | none => none)
        | false => none)
      | _, _ => none⟩
    | none => ⟨fun _ _ _ => none⟩)
  | none => ⟨fun _ _ _ => none⟩

/-- conversions that look at no memory -/
def convC (src dst : Nat) : Cl (AV → Option AV) :=
  match (match P.underlying src with | some _ => P.underlying dst | none => none) with
  | some d => (match intD d with
    | some k => ⟨fun x => match x.asInt with | some (_, n) => some (.int k (wrap k n)) | none => none⟩
    | none => match strD d with
      | true => ⟨fun x => match x.asStr with | some (l, n) => some (.str l n) | none => none⟩
      | false => ⟨fun _ => none⟩)
  | none => ⟨fun _ => none⟩
def bytesStr : Chunk → Option AV
  | .bytes l n => some (.str l n)
  | .cells l => match Chunk.packF l 0 with | some n => some (.str l.length n) | none => none
/-- bytes as a string -/
def toStr (H : AHeap) (x : AV) : Option AV :=
  match x.asSlice with
  | some (b, off, len, _) => (match readPart H b off len with | some c => bytesStr c | none => none)
  | none => match or x.isNils x.isEnd with | true => some (.str 0 0) | false => none
/-- is it a conversion of bytes to a string? -/
def isToStr (src dst : Nat) : Bool :=
  match sliT P src with
  | some e => (match u8T P e with
    | true => (match P.underlying dst with | some d => strD d | none => false)
    | false => false)
  | none => false
/-- bytes as bytes: the row is marked; of what element type? -/
def isSame (src dst : Nat) : Option Nat :=
  match Nat.beq src dst with
  | true => (match sliT P src with
    | some e => (match u8T P e with | true => some e | false => none)
    | none => none)
  | false => none
/-- is it a conversion of a string to bytes? of what element type? -/
def toBytes (src dst : Nat) : Option Nat :=
  match P.underlying src with
  | some d => (match strD d with
    | true => (match sliT P dst with
      | some e => (match u8T P e with | true => (match sizeT P e with | some 1 => some e | _ => none) | false => none)
      | none => none)
    | false => none)
  | none => none
def sameV (H : AHeap) (e : Nat) (v : AV) : Res :=
  match v.asSlice with
  | some (b, _, _, _) => (match asRow (H.get b) with
    | some (c, el, op, none) => (match Nat.beq el e with | true => .ok v (H.put b none (.row c el op)) | false => .bad)
    | _ => .bad)
  | none => .bad
end
end Go.Proofs.YtpmildboffolkaaGreat.Abs

namespace Go.Proofs.YtpmildboffolkaaGreat.Abs

inductive AExit where
  | exit (id : Nat)
  | goto (l : Nat)
  | ret

/-- how code is left -/
inductive Out where
  | bad
  | norm (T : Tr AV) (ds : List Nat) (H : AHeap)
  | ex (e : AExit) (T : Tr AV) (ds : List Nat) (H : AHeap)

/-- functions that are taken by what they come to -/
structure Hooks where
  ext : Nat → Option (List AV → AHeap → Res)
  inv : String → Nat → Option Nat

structure Rec where
  call : Nat → List AV → AHeap → Res
  /-- code within a round: the slots that are kept, their number, the code, the loop -/
  code : Nat → Nat → Code → Nat → Tr AV → AHeap → Out

/-- the frame's slots ahead of a region, the values of the region's operations, the last first -/
abbrev Ev (α : Type) := Cl (Tr AV → List AV → α)

section
variable (P : Program) (K : Hooks)

/-! operands -/
def hd? : List AV → Option AV
  | [] => none
  | x :: _ => some x
def tl : List AV → List AV
  | [] => []
  | _ :: l => l
def nthC : Nat → Cl (List AV → Option AV)
  | 0 => ⟨hd?⟩
  | k + 1 => ⟨fun l => (nthC k).run (tl l)⟩

/-- the last of the first i operations that gives to a slot: how far back -/
def backTo (ops : List Oper) (t : Nat) : Nat → Option Nat
  | 0 => none
  | i + 1 => match (match ops[i]? with | some o => optBeq o.dst (some t) | none => false) with
    | true => some 0
    | false => match backTo ops t i with | some k => some (k + 1) | none => none

def opdC (ops : List Oper) (i : Nat) (x : Operand) : Ev (Option AV) :=
  match x with
  | .tmp t => (match backTo ops t i with
    | some k => ⟨fun _ vs => (nthC k).run vs⟩
    | none => ⟨fun T _ => (Tr.getC (Tr.fuel t) t).run T⟩)
  | .const v => ⟨fun _ _ => ofLit v⟩
  | .func f => ⟨fun _ _ => some (.func f [] [])⟩
  | .global _ => ⟨fun _ _ => none⟩

def opdsC (ops : List Oper) (i : Nat) : List Operand → Ev (Option (List AV))
  | [] => ⟨fun _ _ => some []⟩
  | x :: xs => ⟨fun T vs => match (opdC ops i x).run T vs with
    | some v => (match (opdsC ops i xs).run T vs with | some l => some (v :: l) | none => none)
    | none => none⟩
def opd?C (ops : List Oper) (i : Nat) (x : Option Operand) : Ev (Option (Option AV)) :=
  match x with
  | none => ⟨fun _ _ => some none⟩
  | some x => ⟨fun T vs => match (opdC ops i x).run T vs with | some v => some (some v) | none => none⟩
def partsC (ops : List Oper) (i : Nat) : List (Nat × Operand) → Ev (Option (List (Nat × AV)))
  | [] => ⟨fun _ _ => some []⟩
  | (j, x) :: xs => ⟨fun T vs => match (opdC ops i x).run T vs with
    | some v => (match (partsC ops i xs).run T vs with | some l => some ((j, v) :: l) | none => none)
    | none => none⟩

def un (a : Ev (Option AV)) (f : AV → Option AV) : Ev (AHeap → Option AV) :=
  ⟨fun T vs _ => match a.run T vs with | some x => f x | none => none⟩
def unH (a : Ev (Option AV)) (f : AHeap → AV → Option AV) : Ev (AHeap → Option AV) :=
  ⟨fun T vs H => match a.run T vs with | some x => f H x | none => none⟩
def bi (a b : Ev (Option AV)) (f : AV → AV → Option AV) : Ev (AHeap → Option AV) :=
  ⟨fun T vs _ => match a.run T vs with | some x => (match b.run T vs with | some y => f x y | none => none) | none => none⟩
def biH (a b : Ev (Option AV)) (f : AHeap → AV → AV → Option AV) : Ev (AHeap → Option AV) :=
  ⟨fun T vs H => match a.run T vs with | some x => (match b.run T vs with | some y => f H x y | none => none) | none => none⟩
def noEv : Ev (AHeap → Option AV) := ⟨fun _ _ _ => none⟩

def notNil (x : AV) : Option AV :=
  match x with
  | .ptr b o => some (.ptr b o)
  | .func f a b => some (.func f a b)
  | .yield l => some (.yield l)
  | .iface t v => some (.iface t v)
  | _ => none
def extractC (i : Nat) (x : AV) : Option AV := match x.asTuple with | some l => Chunk.nth l i | none => none
def sliceLen : AV → Option Nat
  | .slice _ _ n _ => some n
  | .nils => some 0
  | .send _ _ _ _ _ => some 0
  | _ => none
def lenC (t : Nat) : Cl (AHeap → AV → Option AV) :=
  match P.underlying t with
  | some .string => ⟨fun _ x => match x.asStr with | some (l, _) => some (.int .i64 (.ofNat l)) | none => none⟩
  | some (.slice _) => ⟨fun _ x => match sliceLen x with | some l => some (.int .i64 (.ofNat l)) | none => none⟩
  | some (.map _ _) => ⟨fun H x => match entriesOf H x with | some es => some (.int .i64 (.ofNat es.length)) | none => none⟩
  | some (.array n _) => ⟨fun _ _ => some (.int .i64 (.ofNat n))⟩
  | _ => ⟨fun _ _ => none⟩
def capC (t : Nat) : Cl (AV → Option AV) :=
  match P.underlying t with
  | some (.slice _) => ⟨fun x => match x.asSlice with
    | some (_, _, _, .exact n) => some (.int .i64 (.ofNat n))
    | some _ => none
    | none => match x.isNils with | true => some (.int .i64 (.ofNat 0)) | false => none⟩
  | _ => ⟨fun _ => none⟩
def isConst : Operand → Bool
  | .const _ => true
  | _ => false
def minV (x y : AV) : Option AV :=
  match x.asInt, y.asInt with
  | some (k, a), some (k', b) => (match beqK k k' with | true => some (.int k (match ble a b with | true => a | false => b)) | false => none)
  | _, _ => none
def maxV (x y : AV) : Option AV :=
  match x.asInt, y.asInt with
  | some (k, a), some (k', b) => (match beqK k k' with | true => some (.int k (match ble b a with | true => a | false => b)) | false => none)
  | _, _ => none
def assertC (t : Nat) (ok : Bool) : Cl (AV → Option AV) :=
  match P.underlying t with
  | some (.interface _) => ⟨fun _ => none⟩
  | some _ => ⟨fun x => match x.asIface with
    | some (u, v) => (match Nat.beq u t with | true => some (withOk ok v true) | false => none)
    | none => none⟩
  | none => ⟨fun _ => none⟩

/-- what an operation gives that looks at the heap at most -/
def readC (ops : List Oper) (i : Nat) (o : Oper) : Ev (AHeap → Option AV) :=
  let e := opdC ops i
  match o.op with
  | .move x => un (e x) some
  | .assign x => un (e x) some
  | .pick c a b => ⟨fun T vs _ => match (e c).run T vs with
    | some x => (match x.asBool with
      | some true => (e a).run T vs
      | some false => (e b).run T vs
      | none => none)
    | none => none⟩
  | .build t ps => ⟨fun T vs _ => match (partsC ops i ps.toList).run T vs with | some l => (buildC P t).run l | none => none⟩
  | .load t a => unH (e a) (loadC P t).run
  | .nilCheck x => un (e x) notNil
  | .binOp op t x y _ => biH (e x) (e y) (binOpC P op t (or (isConst x) (isConst y))).run
  | .unOp op _ x => un (e x) (unOpC op).run
  | .convert src dst x => (match isToStr P src dst with
    | true => unH (e x) toStr
    | false => un (e x) (convC P src dst).run)
  | .makeInterface t x => (match P.underlying t with
    | some (.interface _) => noEv
    | some _ => un (e x) (fun v => some (.iface t v))
    | none => noEv)
  | .makeFunc (.func g) f c => ⟨fun T vs _ => match (opdsC ops i f.toList).run T vs with
    | some a => (match (opdsC ops i c.toList).run T vs with | some b => some (.func g a b) | none => none)
    | none => none⟩
  | .slice t x l h m => ⟨fun T vs _ => match (e x).run T vs with
    | some a => (match (opd?C ops i l).run T vs, (opd?C ops i h).run T vs, (opd?C ops i m).run T vs with
      | some l, some h, some m => (sliceC P t).run a l h m
      | _, _, _ => none)
    | none => none⟩
  | .fieldAddr t x j => un (e x) (fieldAddrC P t j).run
  | .field t x j => un (e x) (fieldC P t j).run
  | .indexAddr t x j => bi (e x) (e j) (indexAddrC P t).run
  | .index t x j => bi (e x) (e j) (indexC P t).run
  | .lookup t x j ok => biH (e x) (e j) (lookupC P t ok).run
  | .extract x j => un (e x) (extractC j)
  | .entry x => unH (e x) entryV
  | .typeAssert x _ t ok => un (e x) (assertC P t ok).run
  | .call c => (match c.callee with
    | .builtin .len => (match c.args.toList, c.argTypes.toList with | [x], [t] => unH (e x) (lenC P t).run | _, _ => noEv)
    | .builtin .cap => (match c.args.toList, c.argTypes.toList with | [x], [t] => un (e x) (capC P t).run | _, _ => noEv)
    | .builtin .min => (match c.args.toList with | [x, y] => bi (e x) (e y) minV | _ => noEv)
    | .builtin .max => (match c.args.toList with | [x, y] => bi (e x) (e y) maxV | _ => noEv)
    | _ => noEv)
  | _ => noEv

def rowAt (name : Nat) : Option AObj → Option (AV × AObj)
  | some o => some (.ptr name 0, o)
  | none => none
def noNew : Ev (Nat → Option (AV × AObj)) := ⟨fun _ _ _ => none⟩

/-- the making of one block: what the operation gives if the block is so called, and the block -/
def newC (ops : List Oper) (i : Nat) (o : Oper) : Ev (Nat → Option (AV × AObj)) :=
  match o.op with
  | .alloc t => (match zeroT P t with
    | some z => ⟨fun _ _ name => rowAt name ((rowC P t).run z)⟩
    | none => noNew)
  | .box t x => ⟨fun T vs name => match (opdC ops i x).run T vs with
    | some v => rowAt name ((rowC P t).run v)
    | none => none⟩
  | .buildSlice t len ps => ⟨fun T vs name => match (partsC ops i ps.toList).run T vs with
    | some l => (match (buildSliceC P t len).run l with | some r => some (.slice name 0 len (.exact len), r) | none => none)
    | none => none⟩
  | .makeMap _ none => ⟨fun _ _ name => some (.map name, .map [] 0)⟩
  | .makeSlice t l c => ⟨fun T vs name => match (opdC ops i l).run T vs with
    | some a => (match (opdC ops i c).run T vs with | some b => (makeSliceC P t).run name a b | none => none)
    | none => none⟩
  | .convert src dst x => (match toBytes P src dst with
    | some e => ⟨fun T vs name => match (opdC ops i x).run T vs with
      | some v => (match v.asStr with
        | some (l, n) => (match Nat.ble l capBound with
          | true => some (.slice name 0 l (.rest 0), .row (.bytes l n) e true)
          | false => none)
        | none => none)
      | none => none⟩
    | none => noNew)
  | _ => noNew

def setParams (kept nt : Nat) : List Nat → List AV → Tr AV → Option (Tr AV)
  | [], [], T => some T
  | p :: ps, a :: as, T => (match Nat.blt p nt with
    | true => setParams kept nt ps as (match Nat.testBit kept p with | true => T.set p (some a) | false => T)
    | false => none)
  | _, _, _ => none

/-- what a summary gives, or else the call -/
def orCall (x y : Res) : Res :=
  match x with
  | .ok v H => .ok v H
  | .bad => y
def callAt (R : Rec) (f : Nat) (args : List AV) (H : AHeap) : Res :=
  match K.ext f with
  | some h => orCall (h args H) (R.call f args H)
  | none => R.call f args H

def asLoop : Option AEnt → Option (LoopState × Option Code × ALoop)
  | some ⟨.loop st pd l, none⟩ => some (st, pd, l)
  | _ => none

structure CodeC where
  /-- the calls, the round, the slots, the marks, the heap -/
  run : Rec → Option Nat → Tr AV → List Nat → AHeap → Out

def leaveRound (l : Nat) (jump : Option Code) (H : AHeap) : Res :=
  match asLoop (H.get l) with
  | some (_, _, q) =>
    (match jump with
    | none => .ok (.bool true) (H.put l none (.loop .ready none q))
    | some c => .ok (.bool false) (H.put l none (.loop .done (some c) q)))
  | none => .bad
def endRoundV (l : Nat) : Out → Res
  | .norm _ _ H2 => leaveRound l none H2
  | .ex .ret _ _ H2 => leaveRound l (some .ret) H2
  | .ex (.exit i) _ _ H2 => leaveRound l (some (.exit i)) H2
  | .ex (.goto i) _ _ H2 => leaveRound l (some (.goto i)) H2
  | .bad => .bad
def isReady : LoopState → Bool
  | .ready => true
  | _ => false
def roundBody (R : Rec) (l : Nat) (q : ALoop) : Out → Res
  | .norm T1 [] H1 => (match asLoop (H1.get l) with
    | some (st, pd, q1) => (match isReady st with
      | true => endRoundV l (R.code q.kept q.nt q.body l T1 (H1.put l none (.loop .busy pd q1)))
      | false => .bad)
    | none => .bad)
  | _ => .bad
def roundV (R : Rec) (l : Nat) (args : List AV) (H : AHeap) : Res :=
  match asLoop (H.get l) with
  | some (_, _, q) => (match setParams q.kept q.nt q.params args q.tmps with
    | some T => roundBody R l q (R.code q.kept q.nt q.assign l T H)
    | none => .bad)
  | none => .bad

/-- whom a value calls: 0: a function; 1: a round -/
inductive Who where
  | fn (f : Nat) (first captured : List AV)
  | round (l : Nat)
  | no
def AV.who : AV → Who
  | .func f a b => .fn f a b
  | .yield l => .round l
  | _ => .no

def callV (R : Rec) (fv : AV) (args : List AV) (H : AHeap) : Res :=
  match fv.who with
  | .fn f first captured => callAt K R f (first ++ (args ++ captured)) H
  | .round l => roundV R l args H
  | .no => .bad

def okH : Option AHeap → Res
  | some H => .ok AV.undef H
  | none => .bad

abbrev EffC := Ev (Rec → AHeap → Res)
def noEff : EffC := ⟨fun _ _ _ _ => .bad⟩
def eff2 (a b : Ev (Option AV)) (f : AHeap → AV → AV → Res) : EffC :=
  ⟨fun T vs _ H => match a.run T vs with | some x => (match b.run T vs with | some y => f H x y | none => .bad) | none => .bad⟩
def eff1 (a : Ev (Option AV)) (f : AHeap → AV → Res) : EffC :=
  ⟨fun T vs _ H => match a.run T vs with | some x => f H x | none => .bad⟩

def appendC (st xt : Nat) : Cl (AHeap → AV → AV → Res) :=
  match sliT P st with
  | some e => (match sizeT P e, bytesT P e with
    | some (z + 1), some (y + 1) => (match zeroChunk P e 1 with | none => ⟨fun _ _ _ => .bad⟩ | some _ => match P.underlying xt with | none => ⟨fun _ _ _ => .bad⟩ | some d => match intD d with
      | some _ => ⟨fun H s x => match x.asNat with
        | some n => (match Nat.ble n 1000000 with
          | true => (match zeroChunk P e n with
            | some zs => appendV H e (Nat.succ z) (Nat.succ y) (byteT P e) s n zs
            | none => .bad)
          | false => .bad)
        | none => .bad⟩
      | none => ⟨fun H s x => match x.lenOf with
        | some n => (match firstOf H (Nat.succ z) n x with
          | some c => appendV H e (Nat.succ z) (Nat.succ y) (byteT P e) s n c
          | none => .bad)
        | none => .bad⟩)
    | _, _ => ⟨fun _ _ _ => .bad⟩)
  | none => ⟨fun _ _ _ => .bad⟩

def copyC (dt : Nat) : Cl (AHeap → AV → AV → Res) :=
  match sliT P dt with
  | some e => (match sizeT P e with
    | some size => ⟨fun H d x => match d.lenOf, x.lenOf with
      | some dl, some xl => (match minN xl dl with
        | 0 => (match or (or d.isNils d.isEnd) (match d.asSlice with | some _ => true | none => false) with | true => .ok (.int .i64 (.ofNat 0)) H | false => .bad)
        | n + 1 => (match firstOf H size (Nat.succ n) x, d.asSlice with
          | some c, some (b, off, _, _) => (match writePart H b off c with
            | some H' => .ok (.int .i64 (.ofNat (Nat.succ n))) H'
            | none => .bad)
          | _, _ => .bad))
      | _, _ => .bad⟩
    | none => ⟨fun _ _ _ => .bad⟩)
  | none => ⟨fun _ _ _ => .bad⟩

def clearC (st : Nat) : Cl (AHeap → AV → Res) :=
  match P.underlying st with
  | none => ⟨fun _ _ => .bad⟩
  | some _ => ⟨fun H x => match x.asMap with
    | some r => (match asMapO (H.get r) with
      | some (_, clock) => .ok AV.undef (H.put r none (.map [] clock))
      | none => .bad)
    | none => match or x.isNilm x.isNils with
      | true => .ok AV.undef H
      | false => match x.asSlice with
        | some (b, off, n, _) => (match n with
          | 0 => .ok AV.undef H
          | _ + 1 => (match sliT P st with
            | some e => (match zeroChunk P e n with
              | some z => okH (writePart H b off z)
              | none => .bad)
            | none => .bad))
        | none => .bad⟩

/-- an operation that writes, or calls -/
def effC (ops : List Oper) (i : Nat) (o : Oper) : EffC :=
  let e := opdC ops i
  match o.op with
  | .store t a x => eff2 (e a) (e x) (fun H p v => okH ((storeC P t).run H p v))
  | .mapUpdate t m k x => ⟨fun T vs _ H => match (e m).run T vs with
    | some m => (match (e k).run T vs with
      | some k => (match (e x).run T vs with | some x => okH ((mapUpdateC P t).run H m k x) | none => .bad)
      | none => .bad)
    | none => .bad⟩
  | .insert t m k x => ⟨fun T vs _ H => match (e m).run T vs with
    | some m => (match (e k).run T vs with
      | some k => (match (e x).run T vs with | some x => okH ((mapUpdateC P t).run H m k x) | none => .bad)
      | none => .bad)
    | none => .bad⟩
  | .convert src dst x => (match isSame P src dst with
    | some el => eff1 (e x) (fun H v => sameV H el v)
    | none => noEff)
  | .next it false => eff1 (e it) nextV
  | .range t x => eff1 (e x) (fun H x => rangeV P H t x)
  | .call c => (match c.callee with
    | .value f => ⟨fun T vs R H => match (opdsC ops i c.args.toList).run T vs with
      | some as => (match (e f).run T vs with
        | some fv => callV K R fv as H
        | none => .bad)
      | none => .bad⟩
    | .invoke r name => ⟨fun T vs R H => match (opdsC ops i c.args.toList).run T vs with
      | some as => (match (e r).run T vs with
        | some rv => (match rv.asIface with
          | some (t, v) => (match K.inv name t with
            | some f => callAt K R f (v :: as) H
            | none => .bad)
          | none => .bad)
        | none => .bad)
      | none => .bad⟩
    | .builtin .append => (match c.args.toList, c.argTypes.toList with
      | [s, x], [st, xt] => eff2 (e s) (e x) (appendC P st xt).run
      | _, _ => noEff)
    | .builtin .copy => (match c.args.toList, c.argTypes.toList with
      | [s, x], [st, _] => eff2 (e s) (e x) (copyC P st).run
      | _, _ => noEff)
    | .builtin .delete => (match c.args.toList, c.argTypes.toList with
      | [s, x], [st, _] => eff2 (e s) (e x) (fun H m k => okH ((deleteC P st).run H m k))
      | _, _ => noEff)
    | .builtin .clear => (match c.args.toList, c.argTypes.toList with
      | [s], [st] => eff1 (e s) (clearC P st).run
      | _, _ => noEff)
    | _ => noEff)
  | _ => noEff

/-! kinds of operations: 0: pure; 1: it reads; 2: it makes a block; 3: it writes, or calls -/
def kindOf (o : Oper) : Nat :=
  match o.op with
  | .store _ _ _ => 3
  | .mapUpdate _ _ _ _ => 3
  | .insert _ _ _ _ => 3
  | .next _ _ => 3
  | .range _ _ => 3
  | .alloc _ => 2
  | .box _ _ => 2
  | .buildSlice _ _ _ => 2
  | .makeMap _ _ => 2
  | .makeSlice _ _ _ => 2
  | .load _ _ => 1
  | .lookup _ _ _ _ => 1
  | .entry _ => 1
  | .convert src dst _ => (match toBytes P src dst with | some _ => 2 | none => match isToStr P src dst with | true => 1 | false => match isSame P src dst with | some _ => 3 | none => 0)
  | .binOp _ t _ _ _ => (match opKind P t with | 0 => 0 | 1 => 0 | _ => 1)
  | .call c => (match c.callee with
    | .builtin .len => 1
    | .builtin .cap => 0
    | .builtin .min => 0
    | .builtin .max => 0
    | _ => 3)
  | _ => 0

/-- is an operation wanted? -/
def wantedV (want : Bool) : Option AV → Option Bool
  | some (.bool b) => some (match want with | true => b | false => !b)
  | some (.tuple _) => some false
  | _ => none
def guardC (ops : List Oper) (i : Nat) (o : Oper) : Cl (List AV → Option Bool) :=
  match o.guard with
  | none => ⟨fun _ => some true⟩
  | some (j, want) => match Nat.blt j i with
    | true => (match ops[j]? with
      | some o' => (match o'.dst with
        | some _ => ⟨fun vs => wantedV want ((nthC (Nat.sub (Nat.sub i 1) j)).run vs)⟩
        | none => ⟨fun _ => some false⟩)
      | none => ⟨fun _ => none⟩)
    | false => ⟨fun _ => none⟩

/-! the slots that are kept behind a region -/
def opSlots (o : Oper) : List Nat :=
  o.op.operands.toList.filterMap fun | .tmp t => some t | _ => none
def outerL : List Operand → Nat → Nat → Nat
  | [], _, acc => acc
  | x :: xs, seen, acc => outerL xs seen (match x with
    | .tmp t => (match Nat.testBit seen t with | true => acc | false => Nat.lor acc (Nat.pow 2 t))
    | _ => acc)
def outer : List Oper → Nat → Nat → Nat
  | [], _, acc => acc
  | o :: os, seen, acc => outer os (match o.dst with | some d => Nat.lor seen (Nat.pow 2 d) | none => seen) (outerL o.op.operands.toList seen acc)
def opdMask : Operand → Nat
  | .tmp t => Nat.pow 2 t
  | _ => 0
def keptF : Code → Nat
  | .region _ ops _ => outer ops.toList 0 0
  | .seq a b => Nat.lor (keptF a) (keptF b)
  | .cond c a b => Nat.lor (opdMask c) (Nat.lor (keptF a) (keptF b))
  | .block _ b => keptF b
  | .loop b => keptF b
  | .scope b => keptF b
  | .rangeFunc f _ a b => Nat.lor (opdMask f) (Nat.lor (keptF a) (keptF b))
  | _ => 0
def keptFn (fn : Func) : Nat :=
  fn.results.toList.foldl (fun a r => match r with | .tmp t => Nat.lor a (Nat.pow 2 t) | .cell t _ => Nat.lor a (Nat.pow 2 t)) (match fn.body with | some c => keptF c | none => 0)

/-- the slots behind a region: the operations' values, the last first, i of them -/
def keepC (kept nt : Nat) (ops : List Oper) : Nat → Cl (List AV → Tr AV → Option (Tr AV))
  | 0 => ⟨fun _ T => some T⟩
  | i + 1 => match ops[i]? with
    | some o => (match o.dst with
      | some d => (match Nat.blt d nt with
        | true => (match Nat.testBit kept d with
          | true => ⟨fun vs T => match vs with
            | v :: vs' => (match (keepC kept nt ops i).run vs' T with
              | some T' => some ((Tr.setC (Tr.fuel d) d).run (some v) T')
              | none => none)
            | [] => none⟩
          | false => ⟨fun vs T => (keepC kept nt ops i).run (tl vs) T⟩)
        | false => ⟨fun _ _ => none⟩)
      | none => ⟨fun vs T => (keepC kept nt ops i).run (tl vs) T⟩)
    | none => ⟨fun _ _ => none⟩

/-! regions in the order of the text -/
def distinct : List Nat → Bool
  | [] => true
  | x :: l => and (!memN x l) (distinct l)

structure SeqC where
  run : Rec → Tr AV → List AV → AHeap → Option (List AV × AHeap)

def seqStep (k : SeqC) (R : Rec) (T : Tr AV) (vs : List AV) : Res → Option (List AV × AHeap)
  | .ok v H => k.run R T (v :: vs) H
  | .bad => none
def seqVal (k : SeqC) (R : Rec) (T : Tr AV) (vs : List AV) (H : AHeap) : Option AV → Option (List AV × AHeap)
  | some v => k.run R T (v :: vs) H
  | none => none
def seqNew (k : SeqC) (R : Rec) (T : Tr AV) (vs : List AV) (H : AHeap) : Option (AV × AObj) → Option (List AV × AHeap)
  | some (v, b) => k.run R T (v :: vs) (H.new b)
  | none => none

/-- one operation, and on -/
def seqOpC (ops : List Oper) (i : Nat) (o : Oper) (k : SeqC) : SeqC :=
  match kindOf P o with
  | 0 => ⟨fun R T vs H => seqVal k R T vs H ((readC P ops i o).run T vs H)⟩
  | 1 => ⟨fun R T vs H => seqVal k R T vs H ((readC P ops i o).run T vs H)⟩
  | 2 => ⟨fun R T vs H => seqNew k R T vs H ((newC P ops i o).run T vs H.next)⟩
  | _ => ⟨fun R T vs H => seqStep k R T vs ((effC P K ops i o).run T vs R H)⟩

def seqGuardC (ops : List Oper) (i : Nat) (o : Oper) (go k : SeqC) : SeqC :=
  match o.guard with
  | none => go
  | some _ => ⟨fun R T vs H => match (guardC ops i o).run vs with
    | some true => go.run R T vs H
    | some false => k.run R T (AV.undef :: vs) H
    | none => none⟩

def seqC (ops : List Oper) : List Oper → Nat → SeqC
  | [], _ => ⟨fun _ _ vs H => some (vs, H)⟩
  | o :: rest, i => seqGuardC ops i o (seqOpC P K ops i o (seqC ops rest (i + 1))) (seqC ops rest (i + 1))

/-! regions that draw their order -/
def plainE (e : Edge) : Bool :=
  match e.ground with
  | .textOnly _ => false
  | .gcOnly _ => false
  | _ => true
def edgesOf (o : Oper) : List Nat := (o.after.toList.filter plainE).map (·.on)
/-- who must have been, of each operation: one bit each -/
def maskOf (ms : List Nat) : List Nat → Nat → Nat
  | [], acc => acc
  | e :: es, acc => maskOf ms es (Nat.lor acc (Nat.lor (Nat.pow 2 e) (ms.getD e 0)))
def masksF : List Oper → List Nat → List Nat
  | [], ms => ms
  | o :: os, ms => masksF os (ms ++ [maskOf ms (edgesOf o) 0])
def masks (ops : List Oper) : List Nat := masksF ops []

structure Past where
  i : Nat
  H : AHeap
  laid : Nat
structure Pend where
  i : Nat
  obj : AObj
structure Seen where
  i : Nat
  mask : Nat
  vs : List AV
  v : AV

structure DSt where
  vs : List AV
  /-- the heap behind the effects that were -/
  H : AHeap
  /-- which of the new blocks lie in it -/
  laid : Nat
  /-- the effects that were, the last first: the heap ahead of each, and what lay in it -/
  past : List Past
  /-- the new blocks -/
  news : List Pend
  /-- what was read and may be read later -/
  seen : List Seen

def layAt (H : AHeap) (b : Nat) (o : AObj) : AHeap := ⟨H.next, H.tr.set b (some ⟨o, none⟩)⟩
/-- the new blocks of a mask are laid, as far as they do not lie there -/
def layM (base mask laid : Nat) : List Pend → AHeap → AHeap
  | [], H => H
  | p :: r, H => match and (Nat.testBit mask p.i) (!Nat.testBit laid p.i) with
    | true => layAt (layM base mask laid r H) (Nat.add base p.i) p.obj
    | false => layM base mask laid r H

/-- the reads that may come behind an effect give the same behind it -/
def seenStay (rd : Nat → Ev (AHeap → Option AV)) (T : Tr AV) (base mask laid : Nat) (news : List Pend) (H : AHeap) : List Seen → Option (List Seen)
  | [] => some []
  | s :: r => match seenStay rd T base mask laid news H r with
    | none => none
    | some r' => match Nat.testBit mask s.i with
      | true => some r'
      | false => match (rd s.i).run T s.vs (layM base s.mask laid news H) with
        | some v' => (match s.v.beq v' with | true => some (s :: r') | false => none)
        | none => none

/-- a read that may come ahead of effects gives the same ahead of them -/
def pastSame (rd : Ev (AHeap → Option AV)) (T : Tr AV) (base mask : Nat) (news : List Pend) (vs : List AV) (v : AV) : List Past → Bool
  | [] => true
  | p :: r => match Nat.testBit mask p.i with
    | true => true
    | false => match rd.run T vs (layM base mask p.laid news p.H) with
      | some v' => and (v.beq v') (pastSame rd T base mask news vs v r)
      | none => false

structure DrawC where
  run : Rec → Nat → Tr AV → DSt → Option DSt

def chainOk (mask : Nat) : List Past → Bool
  | [] => true
  | p :: _ => Nat.testBit mask p.i

def drawVal (k : DrawC) (R : Rec) (base : Nat) (T : Tr AV) (s : DSt) : Option AV → Option DSt
  | some v => k.run R base T ⟨v :: s.vs, s.H, s.laid, s.past, s.news, s.seen⟩
  | none => none
def drawRead (k : DrawC) (rd : Ev (AHeap → Option AV)) (i mask : Nat) (R : Rec) (base : Nat) (T : Tr AV) (s : DSt) : Option AV → Option DSt
  | some v => (match pastSame rd T base mask s.news s.vs v s.past with
    | true => k.run R base T ⟨v :: s.vs, s.H, s.laid, s.past, s.news, ⟨i, mask, s.vs, v⟩ :: s.seen⟩
    | false => none)
  | none => none
def drawNew (k : DrawC) (i : Nat) (R : Rec) (base : Nat) (T : Tr AV) (s : DSt) : Option (AV × AObj) → Option DSt
  | some (v, b) => k.run R base T ⟨v :: s.vs, s.H, s.laid, s.past, ⟨i, b⟩ :: s.news, s.seen⟩
  | none => none
def drawEff (k : DrawC) (rd : Nat → Ev (AHeap → Option AV)) (i mask : Nat) (R : Rec) (base : Nat) (T : Tr AV) (s : DSt) : Res → Option DSt
  | .ok v H1 => (match seenStay rd T base mask (Nat.lor s.laid mask) s.news H1 s.seen with
    | some seen => k.run R base T ⟨v :: s.vs, H1, Nat.lor s.laid mask, ⟨i, s.H, s.laid⟩ :: s.past, s.news, seen⟩
    | none => none)
  | .bad => none

def readAt (ops : List Oper) (i : Nat) : Ev (AHeap → Option AV) :=
  match ops[i]? with
  | some o => readC P ops i o
  | none => noEv

def drawOpC (ops : List Oper) (i mask : Nat) (o : Oper) (k : DrawC) : DrawC :=
  match kindOf P o with
  | 0 => ⟨fun R base T s => drawVal k R base T s ((readC P ops i o).run T s.vs s.H)⟩
  | 1 => ⟨fun R base T s => drawRead k (readC P ops i o) i mask R base T s ((readC P ops i o).run T s.vs (layM base mask s.laid s.news s.H))⟩
  | 2 => ⟨fun R base T s => drawNew k i R base T s ((newC P ops i o).run T s.vs (Nat.add base i))⟩
  | _ => ⟨fun R base T s => match chainOk mask s.past with
    | true => drawEff k (readAt P ops) i mask R base T s ((effC P K ops i o).run T s.vs R (layM base mask s.laid s.news s.H))
    | false => none⟩

def drawGuardC (ops : List Oper) (i : Nat) (o : Oper) (go k : DrawC) : DrawC :=
  match o.guard with
  | none => go
  | some _ => ⟨fun R base T s => match (guardC ops i o).run s.vs with
    | some true => go.run R base T s
    | some false => k.run R base T ⟨AV.undef :: s.vs, s.H, s.laid, s.past, s.news, s.seen⟩
    | none => none⟩

def drawC (ops : List Oper) : List Oper → List Nat → Nat → DrawC
  | [], _, _ => ⟨fun _ _ _ s => some s⟩
  | o :: rest, m :: ms, i => drawGuardC ops i o (drawOpC P K ops i m o (drawC ops rest ms (i + 1))) (drawC ops rest ms (i + 1))
  | _ :: _, [], _ => ⟨fun _ _ _ _ => none⟩

/-- is a slot that an operation looks at settled, whatever the order? -/
def slotOk (ms : List Nat) (i t : Nat) : List Oper → Nat → Bool
  | [], _ => true
  | o :: os, k => and (match and (optBeq o.dst (some t)) (!Nat.beq k i) with
      | true => or (Nat.testBit (ms.getD i 0) k) (Nat.testBit (ms.getD k 0) i)
      | false => true) (slotOk ms i t os (k + 1))
def allB {α : Type} (f : α → Bool) : List α → Bool
  | [] => true
  | x :: l => and (f x) (allB f l)
def guardOk (ms : List Nat) (i : Nat) (o : Oper) : Bool :=
  match o.guard with
  | some (j, _) => Nat.testBit (ms.getD i 0) j
  | none => true
def opsOk (ms : List Nat) (ops : List Oper) : List Oper → Nat → Bool
  | [], _ => true
  | o :: os, i => and (and (allB (fun e => Nat.blt e i) (edgesOf o)) (and (allB (fun t => slotOk ms i t ops 0) (opSlots o)) (guardOk ms i o))) (opsOk ms ops os (i + 1))
def dsts : List Oper → List Nat
  | [] => []
  | o :: os => match o.dst with | some d => d :: dsts os | none => dsts os
def drawOk (ops : List Oper) : Bool := and (opsOk (masks ops) ops ops 0) (distinct (dsts ops))

/-! code -/
def keepOut (keep : Cl (List AV → Tr AV → Option (Tr AV))) (T : Tr AV) (ds : List Nat) (vs : List AV) (H : AHeap) : Out :=
  match keep.run vs T with
  | some T' => .norm T' ds H
  | none => .bad
def seqOut (keep : Cl (List AV → Tr AV → Option (Tr AV))) (T : Tr AV) (ds : List Nat) : Option (List AV × AHeap) → Out
  | some (vs, H) => keepOut keep T ds vs H
  | none => .bad
def drawOut (keep : Cl (List AV → Tr AV → Option (Tr AV))) (base n : Nat) (T : Tr AV) (ds : List Nat) : Option DSt → Out
  | some s => keepOut keep T ds s.vs (layM base (Nat.sub (Nat.pow 2 n) 1) s.laid s.news s.H)
  | none => .bad

def regionC (kept nt : Nat) (ops : List Oper) (draw : Bool) : CodeC :=
  match draw with
  | false => (match distinct (dsts ops) with
    | true => ⟨fun R _ T ds H => seqOut (keepC kept nt ops ops.length) T ds ((seqC P K ops ops 0).run R T [] H)⟩
    | false => ⟨fun _ _ _ _ _ => .bad⟩)
  | true => (match drawOk ops with
    | true => ⟨fun R _ T ds H => drawOut (keepC kept nt ops ops.length) H.next ops.length T ds
        ((drawC P K ops ops (masks ops) 0).run R H.next T ⟨[], ⟨Nat.add H.next ops.length, H.tr⟩, 0, [], [], []⟩)⟩
    | false => ⟨fun _ _ _ _ _ => .bad⟩)

def seqK (b : CodeC) (R : Rec) (r : Option Nat) : Out → Out
  | .norm T ds H => b.run R r T ds H
  | .ex e T ds H => .ex e T ds H
  | .bad => .bad
def blockK (id : Nat) : Out → Out
  | .norm T ds H => .norm T ds H
  | .ex (.exit j) T ds H => (match Nat.beq j id with | true => .norm T ds H | false => .ex (.exit j) T ds H)
  | .ex e T ds H => .ex e T ds H
  | .bad => .bad
def condK (a b : CodeC) (R : Rec) (r : Option Nat) (T : Tr AV) (ds : List Nat) (H : AHeap) : Option AV → Out
  | some (.bool true) => a.run R r T ds H
  | some (.bool false) => b.run R r T ds H
  | _ => .bad

def loopK (go : Tr AV → List Nat → AHeap → Out) : Out → Out
  | .norm T ds H => go T ds H
  | .ex e T ds H => .ex e T ds H
  | .bad => .bad
def loopF (b : CodeC) (R : Rec) (r : Option Nat) : Nat → Tr AV → List Nat → AHeap → Out
  | 0, _, _, _ => .bad
  | n + 1, T, ds, H => loopK (loopF b R r n) (b.run R r T ds H)

def endRange (l : Nat) (T : Tr AV) (ds : List Nat) : Res → Out
  | .ok _ H3 => (match asLoop (H3.get l) with
    | some (st, pd, q) =>
      (match st with
      | .busy => .bad
      | _ => match pd with
        | none => .norm T ds (H3.put l none (.loop .exhausted pd q))
        | some .ret => .ex .ret T ds (H3.put l none (.loop .exhausted pd q))
        | some (.exit i) => .ex (.exit i) T ds (H3.put l none (.loop .exhausted pd q))
        | some (.goto i) => .ex (.goto i) T ds (H3.put l none (.loop .exhausted pd q))
        | some _ => .bad)
    | none => .bad)
  | .bad => .bad

/-- the loop's record is laid; the function is called -/
def enterRange (R : Rec) (fv : Option AV) (q : ALoop) (T : Tr AV) (ds : List Nat) (H : AHeap) : Out :=
  match fv with
  | some v => (match v.who with
    | .fn g first captured => endRange H.next T ds (R.call g (first ++ ([.yield H.next] ++ captured)) (H.new (.loop .ready none q)))
    | _ => .bad)
  | none => .bad

def rangeC (kept nt : Nat) (f : Operand) (ps : List Nat) (a b : Code) : CodeC :=
  ⟨fun R r T ds H => match r with
    | some l => (match asLoop (H.get l) with
      | some (_, _, q) => enterRange R ((opdC [] 0 f).run T []) ⟨kept, nt, T, ps, a, b, q.defers⟩ T ds H
      | none => .bad)
    | none => enterRange R ((opdC [] 0 f).run T []) ⟨kept, nt, T, ps, a, b, H.next⟩ T (H.next :: ds) (H.new .deferred)⟩

/-- a scope that is not jumped in -/
def scopeK : Out → Out
  | .norm T ds H => .norm T ds H
  | .ex (.goto _) _ _ _ => .bad
  | .ex e T ds H => .ex e T ds H
  | .bad => .bad

def loopFuel : Nat := 100000

/-- code in rounds is compiled with all that it may meet: the slots that are kept are the function's -/
def codeC (kept nt : Nat) : Code → CodeC
  | .skip => ⟨fun _ _ T ds H => .norm T ds H⟩
  | .label _ => ⟨fun _ _ T ds H => .norm T ds H⟩
  | .region _ ops d => regionC P K kept nt ops.toList d
  | .seq a b => ⟨fun R r T ds H => seqK (codeC kept nt b) R r ((codeC kept nt a).run R r T ds H)⟩
  | .cond c a b => ⟨fun R r T ds H => condK (codeC kept nt a) (codeC kept nt b) R r T ds H ((opdC [] 0 c).run T [])⟩
  | .block id b => ⟨fun R r T ds H => blockK id ((codeC kept nt b).run R r T ds H)⟩
  | .loop b => ⟨fun R r T ds H => loopF (codeC kept nt b) R r loopFuel T ds H⟩
  | .rangeFunc f ps a b => rangeC kept nt f ps.toList a b
  | .exit id => ⟨fun _ _ T ds H => .ex (.exit id) T ds H⟩
  | .ret => ⟨fun _ _ T ds H => .ex .ret T ds H⟩
  | .scope b => ⟨fun R r T ds H => scopeK ((codeC kept nt b).run R r T ds H)⟩
  | .goto _ => ⟨fun _ _ _ _ _ => .bad⟩
  | .refuse _ => ⟨fun _ _ _ _ _ => .bad⟩

/-- the marks of ranges over functions are taken when a frame is left -/
def isDeferred : Option AEnt → Bool
  | some ⟨.deferred, none⟩ => true
  | _ => false
def dropDs : List Nat → AHeap → Option AHeap
  | [], H => some H
  | d :: ds, H => match isDeferred (H.get d) with
    | true => dropDs ds ⟨H.next, H.tr.set d none⟩
    | false => none

def resultC (x : ResultVar) : Cl (Tr AV → AHeap → Option AV) :=
  match x with
  | .tmp t => ⟨fun T _ => (Tr.getC (Tr.fuel t) t).run T⟩
  | .cell a t => ⟨fun T H => match (Tr.getC (Tr.fuel a) a).run T with | some x => (loadC P t).run H x | none => none⟩
def resultsC : List ResultVar → Cl (Tr AV → AHeap → Option (List AV))
  | [] => ⟨fun _ _ => some []⟩
  | r :: rs => ⟨fun T H => match (resultC P r).run T H with
    | some v => (match (resultsC rs).run T H with | some vs => some (v :: vs) | none => none)
    | none => none⟩
def oneOf : List AV → AV
  | [v] => v
  | vs => .tuple vs
def leaveC (rs : Cl (Tr AV → AHeap → Option (List AV))) (T : Tr AV) (ds : List Nat) (H : AHeap) : Res :=
  match dropDs ds H with
  | some H' => (match rs.run T H' with | some vs => .ok (oneOf vs) H' | none => .bad)
  | none => .bad
def leaveOut (rs : Cl (Tr AV → AHeap → Option (List AV))) : Out → Res
  | .norm T ds H => leaveC rs T ds H
  | .ex .ret T ds H => leaveC rs T ds H
  | .ex _ _ _ _ => .bad
  | .bad => .bad

def argsT (kept : Nat) : List AV → Nat → Tr AV → Tr AV
  | [], _, T => T
  | a :: as, i, T => argsT kept as (Nat.succ i) (match Nat.testBit kept i with | true => T.set i (some a) | false => T)

structure FnC where
  run : Rec → List AV → AHeap → Res

def funcC (f : Nat) : FnC :=
  match P.funcs[f]? with
  | some fn => (match fn.body with
    | some c => ⟨fun R args H => match Nat.ble args.length fn.ntmps with
      | true => leaveOut (resultsC P fn.results.toList) ((codeC P K (keptFn fn) fn.ntmps c).run R none (argsT (keptFn fn) args 0 .nil) [] H)
      | false => .bad⟩
    | none => ⟨fun _ _ _ => .bad⟩)
  | none => ⟨fun _ _ _ => .bad⟩

def run : Nat → Rec
  | 0 => ⟨fun _ _ _ => .bad, fun _ _ _ _ _ _ => .bad⟩
  | n + 1 => ⟨fun f args H => (funcC P K f).run (run n) args H, fun kept nt c l T H => (codeC P K kept nt c).run (run n) (some l) T [] H⟩
end
end Go.Proofs.YtpmildboffolkaaGreat.Abs

namespace Go.Proofs.YtpmildboffolkaaGreat.Abs
/-- a row of cells that is no other's: 1; a row of cells that is not empty: 2 -/
def loneRow : Option AEnt → Bool
  | some ⟨.row (.cells _) _ _, none⟩ => true
  | _ => false
def fullRow : Option AEnt → Bool
  | some ⟨.row (.cells (_ :: _)) _ _, _⟩ => true
  | _ => false
/-- two slices of rows that are not the same -/
def overlapsHook : List AV → AHeap → Res
  | [.slice b _ _ _, .slice b' _ _ _], H => (match and (!Nat.beq b b') (and (loneRow (H.get b)) (fullRow (H.get b'))) with
    | true => .ok (.bool false) H
    | false => .bad)
  | _, _ => .bad

/-- slices.Insert of strings (cells of one size, no bytes) in the midst of a slice of which it is not known whether there is room -/
def insertHook (P : Program) (st : Nat) (args : List AV) (H : AHeap) : Res :=
  match args with
  | [s, .int .i64 (.ofNat i), v] => (match sliT P st, s.asSlice, v.asSlice with
    | some e, some (b, 0, n, .rest 0), some (b', o', m, _) => (match and (Nat.blt i n) (and (Nat.blt 0 m) (and (Nat.ble (Nat.add n m) 1000000) (and (!Nat.beq b b') (loneRow (H.get b'))))) with
      | true => (match readPart H b' o' m, readPart H b 0 i, readPart H b i (Nat.sub n i), asRow (H.get b) with
        | some c, some a1, some a2, some (_, e', true, lk) => (match Nat.beq e e' with
          | true => unsure H b e false lk (Nat.add n m) a1 ((a1.cat c).cat a2)
          | false => .bad)
        | _, _, _, _ => .bad)
      | false => .bad)
    | _, _, _ => .bad)
  | _ => .bad

/-- slices.Equal of bytes -/
def equalHook : List AV → AHeap → Res
  | [.slice b o n _, .slice b' o' m _], H => (match and (Nat.ble n capBound) (Nat.ble m capBound) with
    | true => (match readPart H b o n, readPart H b' o' m with
      | some x, some y => (match x, y with
        | .bytes la a, .bytes lb c => .ok (.bool (and (Nat.beq la lb) (Nat.beq a c))) H
        | _, _ => .bad)
      | _, _ => .bad)
    | false => .bad)
  | _, _ => .bad

/-- a packed string's bytes -/
def unpackL : Nat → Nat → List Nat
  | 0, _ => []
  | k + 1, n => Nat.mod (Nat.div n (pw k)) 256 :: unpackL k n
def idxN : List Nat → Nat → Nat → Int
  | [], _, _ => .negSucc 0
  | x :: l, b, i => match Nat.beq x b with | true => .ofNat i | false => idxN l b (Nat.succ i)
def cntN : List Nat → Nat → Nat → Nat
  | [], _, c => c
  | x :: l, b, c => match Nat.beq x b with | true => cntN l b (Nat.succ c) | false => cntN l b c
def anyIn : List Nat → List Nat → Bool
  | [], _ => false
  | x :: l, m => or (memN x m) (anyIn l m)
def asciiN : List Nat → Bool
  | [] => true
  | x :: l => and (Nat.blt x 128) (asciiN l)
/-- where a byte stands first in a string -/
def idxHook : List AV → AHeap → Res
  | [.str l n, .int .u8 (.ofNat b)], H => (match Nat.blt b 256 with | true => .ok (.int .i64 (idxN (unpackL l n) b 0)) H | false => .bad)
  | _, _ => .bad
/-- how often a byte stands in a string -/
def cntHook : List AV → AHeap → Res
  | [.str l n, .int .u8 (.ofNat b)], H => (match Nat.blt b 256 with | true => .ok (.int .i64 (.ofNat (cntN (unpackL l n) b 0))) H | false => .bad)
  | _, _ => .bad
/-- strings.ContainsAny of ASCII bytes -/
def anyHook : List AV → AHeap → Res
  | [.str l n, .str lc nc], H => (match and (and (Nat.ble l 1000000) (Nat.ble lc 1000000)) (and (asciiN (unpackL l n)) (asciiN (unpackL lc nc))) with
    | true => .ok (.bool (anyIn (unpackL l n) (unpackL lc nc))) H
    | false => .bad)
  | _, _ => .bad

def cloneHook : List AV → AHeap → Res
  | [.iface t (.map r)], H => (match asMapO (H.get r) with
    | some (es, c) => .ok (.iface t (.map H.next)) (H.new (.map es c))
    | none => .bad)
  | _, _ => .bad

def cmpHook : List AV → AHeap → Res
  | [.str la a, .str lb b], H => .ok (.int .i64 (match strCmp la a lb b with | .lt => -1 | .eq => 0 | .gt => 1)) H
  | _, _ => .bad

def hookInsert (P : Program) (f : Nat) : List AV → AHeap → Res :=
  match P.funcs[f]? with
  | some fn => match fn.params[0]? with
    | some t => insertHook P t
    | none => fun _ _ => .bad
  | none => fun _ _ => .bad
def isStructT (P : Program) (t : Nat) : Bool :=
  match P.underlying t with
  | some d => (match fieldsD d with | some _ => true | none => false)
  | none => false
def isPtrT (P : Program) (t : Nat) : Bool :=
  match P.underlying t with
  | some (.pointer _) => true
  | _ => false
def findM (name : String) : List Method → Option Method
  | [] => none
  | m :: l => match decide (m.name = name) with
    | true => some m
    | false => findM name l
def hookInv (P : Program) (name : String) (t : Nat) : Option Nat :=
  match P.info? t with
  | some i => (match findM name i.methods.toList with
    | some m => (match m.path.toList, m.func with
      | [], some (f, false) => (match isStructT P t with | true => some f | false => none)
      | [], some (f, true) => (match isPtrT P t with | true => some f | false => none)
      | _, _ => none)
    | none => none)
  | none => none
end Go.Proofs.YtpmildboffolkaaGreat.Abs
namespace Go.Proofs.YtpmildboffolkaaGreat.Abs
def crcBit (c : Nat) : Nat := match Nat.mod c 2 with | 0 => Nat.div c 2 | _ + 1 => Nat.xor (Nat.div c 2) 2197175160
def crcByte (c b : Nat) : Nat := crcBit (crcBit (crcBit (crcBit (crcBit (crcBit (crcBit (crcBit (Nat.xor c b))))))))
def crcF : Nat → Nat → Nat → Nat → Nat
  | 0, _, _, c => c
  | k + 1, len, n, c => crcF k len n (crcByte c (byteAt len n (Nat.sub len (Nat.succ k))))
def crcOut (q : Nat) : Nat := Nat.xor 4294967295 q
def crcHook : List AV → AHeap → Res
  | [.str l n], H => (match Nat.ble l capBound with
    | true => .ok (.int .u32 (.ofNat (crcOut (crcF l l n 4294967295)))) H
    | false => .bad)
  | _, _ => .bad
end Go.Proofs.YtpmildboffolkaaGreat.Abs

namespace Go.Proofs.YtpmildboffolkaaGreat.Abs
/-! The same without the checks that are paid once for the program -/
section
variable (P : Program) (K : Hooks)
def regOk (ops : List Oper) (draw : Bool) : Bool :=
  match draw with
  | false => distinct (dsts ops)
  | true => drawOk ops
def regionU (kept nt : Nat) (ops : List Oper) (draw : Bool) : CodeC :=
  match draw with
  | false => ⟨fun R _ T ds H => seqOut (keepC kept nt ops ops.length) T ds ((seqC P K ops ops 0).run R T [] H)⟩
  | true => ⟨fun R _ T ds H => drawOut (keepC kept nt ops ops.length) H.next ops.length T ds
        ((drawC P K ops ops (masks ops) 0).run R H.next T ⟨[], ⟨Nat.add H.next ops.length, H.tr⟩, 0, [], [], []⟩)⟩
def codeU (kept nt : Nat) : Code → CodeC
  | .skip => ⟨fun _ _ T ds H => .norm T ds H⟩
  | .label _ => ⟨fun _ _ T ds H => .norm T ds H⟩
  | .region _ ops d => regionU P K kept nt ops.toList d
  | .seq a b => ⟨fun R r T ds H => seqK (codeU kept nt b) R r ((codeU kept nt a).run R r T ds H)⟩
  | .cond c a b => ⟨fun R r T ds H => condK (codeU kept nt a) (codeU kept nt b) R r T ds H ((opdC [] 0 c).run T [])⟩
  | .block id b => ⟨fun R r T ds H => blockK id ((codeU kept nt b).run R r T ds H)⟩
  | .loop b => ⟨fun R r T ds H => loopF (codeU kept nt b) R r loopFuel T ds H⟩
  | .rangeFunc f ps a b => rangeC kept nt f ps.toList a b
  | .exit id => ⟨fun _ _ T ds H => .ex (.exit id) T ds H⟩
  | .ret => ⟨fun _ _ T ds H => .ex .ret T ds H⟩
  | .scope b => ⟨fun R r T ds H => scopeK ((codeU kept nt b).run R r T ds H)⟩
  | .goto _ => ⟨fun _ _ _ _ _ => .bad⟩
  | .refuse _ => ⟨fun _ _ _ _ _ => .bad⟩
def codeOkU : Code → Bool
  | .region _ ops d => regOk ops.toList d
  | .seq a b => and (codeOkU a) (codeOkU b)
  | .cond _ a b => and (codeOkU a) (codeOkU b)
  | .block _ b => codeOkU b
  | .loop b => codeOkU b
  | .scope b => codeOkU b
  | _ => true
variable (F : Nat → Option Func)
def funcU (f : Nat) : FnC :=
  match F f with
  | some fn => (match fn.body with
    | some c => ⟨fun R args H => match Nat.ble args.length fn.ntmps with
      | true => leaveOut (resultsC P fn.results.toList) ((codeU P K (keptFn fn) fn.ntmps c).run R none (argsT (keptFn fn) args 0 .nil) [] H)
      | false => .bad⟩
    | none => ⟨fun _ _ _ => .bad⟩)
  | none => ⟨fun _ _ _ => .bad⟩
def runU : Nat → Rec
  | 0 => ⟨fun _ _ _ => .bad, fun _ _ _ _ _ _ => .bad⟩
  | n + 1 => ⟨fun f args H => (funcU P K F f).run (runU n) args H, fun kept nt c l T H => (codeC P K kept nt c).run (runU n) (some l) T [] H⟩
end
/-- what is paid once -/
def fnOkU (fn : Func) : Bool := match fn.body with | some c => codeOkU c | none => true
end Go.Proofs.YtpmildboffolkaaGreat.Abs

namespace Go.Proofs.YtpmildboffolkaaGreat.Abs
/-! Checkpoints: what a call comes to on a heap that is written out -/
def beqO (a b : Option Nat) : Bool :=
  match a, b with
  | none, none => true
  | some x, some y => Nat.beq x y
  | _, _ => false
def beqB (a b : Bool) : Bool :=
  match a, b with
  | true, true => true
  | false, false => true
  | _, _ => false
def Chunk.same : Chunk → Chunk → Bool
  | .cells a, .cells b => AV.beqL a b
  | .bytes l n, .bytes l' n' => and (Nat.beq l l') (Nat.beq n n')
  | _, _ => false
def sameEs : List (AV × AV × Nat) → List (AV × AV × Nat) → Bool
  | [], [] => true
  | (k, v, n) :: l, (k', v', n') :: l' => and (k.beq k') (and (v.beq v') (and (Nat.beq n n') (sameEs l l')))
  | _, _ => false
def AObj.same : AObj → AObj → Bool
  | .row c e o, .row c' e' o' => and (c.same c') (and (Nat.beq e e') (beqB o o'))
  | .map es c, .map es' c' => and (sameEs es es') (Nat.beq c c')
  | _, _ => false
def AEnt.same : AEnt → AEnt → Bool
  | ⟨o, lk⟩, ⟨o', lk'⟩ => and (o.same o') (beqO lk lk')
def agrees : List (Nat × AEnt) → AHeap → Bool
  | [], _ => true
  | (b, e) :: l, H => match H.get b with
    | some e' => and (e.same e') (agrees l H)
    | none => false
def layL : List (Nat × AEnt) → Tr AEnt → Tr AEnt
  | [], t => t
  | (b, e) :: l, t => layL l (t.set b (some e))
def heapL (n : Nat) (l : List (Nat × AEnt)) : AHeap := ⟨n, layL l .nil⟩
def memoHook (args0 : List AV) (n0 : Nat) (l0 : List (Nat × AEnt)) (v1 : AV) (n1 : Nat) (l1 : List (Nat × AEnt)) (args : List AV) (H : AHeap) : Res :=
  match and (AV.beqL args args0) (and (Nat.beq H.next n0) (agrees l0 H)) with
  | true => .ok v1 (heapL n1 l1)
  | false => .bad
def memoGood (v1 : AV) (n1 : Nat) (l1 : List (Nat × AEnt)) : Res → Bool
  | .ok v H => and (v.beq v1) (and (Nat.beq H.next n1) (agrees l1 H))
  | .bad => false
end Go.Proofs.YtpmildboffolkaaGreat.Abs

namespace Go.Proofs.YtpmildboffolkaaGreat.Abs
/-! A function whose maps may be gone through in any order: all that it may come to -/
def oldAll (since : Nat) : List (AV × AV × Nat) → Bool
  | [] => true
  | e :: l => and (Nat.blt e.2.2 since) (oldAll since l)
def altsOf (H : AHeap) (r m since : Nat) (seen : List Nat) (clock : Nat) : List (AV × AV × Nat) → List (AV × AHeap)
  | [] => []
  | e :: l => (.tuple [.bool true, e.1, e.2.1], H.put r none (.mapIter (some m) since (seen ++ [e.2.2]) clock)) :: altsOf H r m since seen clock l
/-- all that the next entry of a map may be -/
def nextAll (H : AHeap) (it : AV) : Option (List (AV × AHeap)) :=
  match it.asPtr with
  | some (r, 0) => (match asIter (H.get r) with
    | some (none, _, _, _) => some [(.tuple [.bool false], H)]
    | some (some m, since, seen, last) => (match asMapO (H.get m) with
      | some (es, clock) => (match and (!noL seen) (and (!noL es) (allFrom last es)) with
        | true => none
        | false => match leftOf seen es with
          | [] => some [(.tuple [.bool false], H)]
          | e :: l => (match oldAll since (e :: l) with
            | true => some (altsOf H r m since seen clock (e :: l))
            | false => none))
      | none => none)
    | none => none)
  | _ => none

structure AllC where
  run : Rec → Option Nat → Tr AV → List Nat → AHeap → (Out → Bool) → Bool

section
variable (P : Program) (K : Hooks)
/-- a region that begins with the next entry of a map -/
def isNext : List Oper → Option (Operand × Oper × List Oper)
  | o :: rest => (match o.op, o.guard with
    | .next it false, none => some (it, o, rest)
    | _, _ => none)
  | [] => none
def altsAll (keep : Cl (List AV → Tr AV → Option (Tr AV))) (k : SeqC) (R : Rec) (T : Tr AV) (ds : List Nat) (g : Out → Bool) : List (AV × AHeap) → Bool
  | [] => true
  | (v, H1) :: l => and (g (seqOut keep T ds (k.run R T [v] H1))) (altsAll keep k R T ds g l)
def seqAllK (b : AllC) (R : Rec) (r : Option Nat) (g : Out → Bool) : Out → Bool
  | .norm T ds H => b.run R r T ds H g
  | .ex e T ds H => g (.ex e T ds H)
  | .bad => false
def condAllK (a b : AllC) (R : Rec) (r : Option Nat) (T : Tr AV) (ds : List Nat) (H : AHeap) (g : Out → Bool) : Option AV → Bool
  | some (.bool true) => a.run R r T ds H g
  | some (.bool false) => b.run R r T ds H g
  | _ => false
def loopAllK (go : Tr AV → List Nat → AHeap → Bool) (g : Out → Bool) : Out → Bool
  | .norm T ds H => go T ds H
  | .ex e T ds H => g (.ex e T ds H)
  | .bad => false
def loopAllF (b : AllC) (R : Rec) (r : Option Nat) (g : Out → Bool) : Nat → Tr AV → List Nat → AHeap → Bool
  | 0, _, _, _ => false
  | n + 1, T, ds, H => b.run R r T ds H (loopAllK (loopAllF b R r g n) g)
def regionAll (kept nt : Nat) (ops : List Oper) (draw : Bool) : AllC :=
  match draw, isNext ops with
  | false, some (it, _, rest) => (match distinct (dsts ops) with
    | true => ⟨fun R _ T ds H g => match (opdC [] 0 it).run T [] with
      | some x => (match nextAll H x with
        | some alts => altsAll (keepC kept nt ops ops.length) (seqC P K ops rest 1) R T ds g alts
        | none => false)
      | none => false⟩
    | false => ⟨fun _ _ _ _ _ _ => false⟩)
  | _, _ => ⟨fun R r T ds H g => g ((regionC P K kept nt ops draw).run R r T ds H)⟩
def codeAll (kept nt : Nat) : Code → AllC
  | .region _ ops d => regionAll P K kept nt ops.toList d
  | .seq a b => ⟨fun R r T ds H g => (codeAll kept nt a).run R r T ds H (seqAllK (codeAll kept nt b) R r g)⟩
  | .cond c a b => ⟨fun R r T ds H g => condAllK (codeAll kept nt a) (codeAll kept nt b) R r T ds H g ((opdC [] 0 c).run T [])⟩
  | .block id b => ⟨fun R r T ds H g => (codeAll kept nt b).run R r T ds H (fun o => g (blockK id o))⟩
  | .loop b => ⟨fun R r T ds H g => loopAllF (codeAll kept nt b) R r g loopFuel T ds H⟩
  | c => ⟨fun R r T ds H g => g ((codeC P K kept nt c).run R r T ds H)⟩
variable (F : Nat → Option Func)
def funcAll (f : Nat) (R : Rec) (args : List AV) (H : AHeap) (good : Res → Bool) : Bool :=
  match F f with
  | some fn => (match fn.body with
    | some c => (match Nat.ble args.length fn.ntmps with
      | true => (codeAll P K (keptFn fn) fn.ntmps c).run R none (argsT (keptFn fn) args 0 .nil) [] H (fun o => good (leaveOut (resultsC P fn.results.toList) o))
      | false => false)
    | none => false)
  | none => false
end
end Go.Proofs.YtpmildboffolkaaGreat.Abs
