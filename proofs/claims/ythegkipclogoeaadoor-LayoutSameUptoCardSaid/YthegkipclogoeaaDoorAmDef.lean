/- The abstract machine: values, a heap of numbered blocks, what each operation does to them: a predicate transformer that the kernel can reckon. -/
import Derived.Test.YthegkipclogoeaaDoorAmTab
import Derived.Test.YthegkipclogoeaaDoorTxt
import Derived.Test.YthegkipclogoeaaDoorMem
import Derived.Test.YthegkipclogoeaaDoorStep
set_option linter.unusedVariables false
namespace Go
namespace AM
open LMem LTxt

/-! ### Data -/
inductive Dat where
  | int (n : Int) | bool (b : Bool) | str (s : ByteArray) | list (l : List Dat) | pair (a b : Dat)
instance : Inhabited Dat := ⟨.int 0⟩
namespace Dat
def toInt : Dat → Int | .int n => n | _ => 0
def toBool : Dat → Bool | .bool b => b | _ => false
def toStr : Dat → ByteArray | .str s => s | _ => .empty
def toList : Dat → List Dat | .list l => l | _ => []
def fst : Dat → Dat | .pair a _ => a | _ => .int 0
def snd : Dat → Dat | .pair _ b => b | _ => .int 0
end Dat
/-- the shape of an element -/
inductive Sh where
  | int (k : IntKind) | bool | str | slice (s : Sh) | pair (a b : Sh) | unit
  deriving DecidableEq
def Sh.size : Sh → Nat
  | .pair a b => a.size + b.size
  | .unit => 0
  | _ => 1

/-! ### Values and blocks -/
inductive AV where
  | any
  | c (v : Value)
  | p (id off : Nat)
  | sl (id off len : Nat)
  | ro (s : Sh) (xs : List Dat)
  | ep (id i off : Nat)
  | rp (s : Sh) (xs : List Dat) (i off : Nat)
  | agg (l : List AV)
  | tup (l : List AV)
  | fn (f : FuncId) (caps : List AV)
inductive AB where
  | dead
  | cells (T : TypeId) (l : List AV)
  | lock (T : TypeId) (l : List AV)
  | seq (E : TypeId) (s : Sh) (xs : List Dat)
  | iter (s : ByteArray) (pos : Nat)
  | mix (E : TypeId) (s : Sh) (xs : List Dat) (a : AV)
/-- the blocks, and which were written -/
structure AH where
  bl : List AB
  log : List Nat
def AV.cells : AV → List AV
  | .agg l => l
  | .c (.agg cs) => cs.toList.map .c
  | v => [v]
/-- the value of one cell -/
def AV.one : AV → Bool
  | .agg _ | .tup _ | .any => false
  | .c v => v.oneCell'
  | _ => true
def ones : List AV → Bool
  | [] => true
  | v :: l => match v.one with | true => ones l | false => false
def au : AV := .c undef
def AH.get (h : AH) (id : Nat) : AB := h.bl.getD id .dead
def AH.put (h : AH) (id : Nat) (b : AB) : AH := ⟨h.bl.set id b, id :: h.log⟩
def AH.new (h : AH) (b : AB) : AH := ⟨h.bl ++ [b], h.log⟩
def AH.next (h : AH) : Nat := h.bl.length
/-- what must hold, a Bool -/
def req (b : Bool) (K : Prop) : Prop := @Bool.rec (fun _ => Prop) False K b
/-- both ways -/
def br (b : Bool) (A B : Prop) : Prop := @Bool.rec (fun _ => Prop) B A b

/-! ### Elements -/
def enc : Sh → Dat → List AV
  | .int k, d => [.c (.int k d.toInt)]
  | .bool, d => [.c (.bool d.toBool)]
  | .str, d => [.c (.string d.toStr)]
  | .slice s, d => [.ro s d.toList]
  | .pair a b, d => enc a d.fst ++ enc b d.snd
  | .unit, _ => []
/-- the datum of the first cells; slices that stand in them are read from now on -/
def decK : Sh → List AV → AH → (Dat → List AV → AH → Prop) → Prop
  | .int k, l, h, K => match l with
    | .c (.int k' n) :: r => if k = k' then K (.int n) r h else False
    | _ => False
  | .bool, l, h, K => match l with
    | .c (.bool b) :: r => K (.bool b) r h
    | _ => False
  | .str, l, h, K => match l with
    | .c (.string s) :: r => K (.str s) r h
    | _ => False
  | .slice s, l, h, K => match l with
    | .c (.slice none 0 0) :: r => K (.list []) r h
    | .ro s' xs :: r => if s = s' then K (.list xs) r h else False
    | .sl id off len :: r => match h.get id with
      | .seq _ s' xs => if s = s' then req (decide (off + len ≤ xs.length)) (K (.list ((xs.drop off).take len)) r (h.put id .dead)) else False
      | .mix _ s' xs a => if s = .slice s' then decK s [a] h fun d _ h' => match h'.get id with
        | .mix .. => req (decide (off + len ≤ xs.length + 1)) (K (.list (((xs ++ [d]).drop off).take len)) r (h'.put id .dead))
        | _ => False
        else False
      | _ => False
    | _ => False
  | .pair a b, l, h, K => decK a l h fun x l h => decK b l h fun y l h => K (.pair x y) l h
  | .unit, l, h, K => K (.int 0) l h
/-- the data of cells, element by element -/
def decsK (s : Sh) : Nat → List AV → AH → List Dat → (List Dat → AH → Prop) → Prop
  | 0, _, h, acc, K => K acc h
  | n + 1, l, h, acc, K => decK s l h fun d r h => decsK s n r h (acc ++ [d]) K

/-- a row's last element is read from now on, too -/
def freezeK (h : AH) (id : Nat) (K : AH → Prop) : Prop := match h.get id with
  | .mix E s xs a => decK (.slice s) [a] h fun d _ h' => match h'.get id with
    | .mix .. => K (h'.put id (.seq E (.slice s) (xs ++ [d])))
    | _ => False
  | _ => False
/-- is it a row whose last element is written? -/
def mixOf (h : AH) (a : AV) : Option Nat := match a with
  | .sl id _ _ => match h.get id with
    | .mix .. => some id
    | _ => none
  | _ => none

/-! ### Types -/
def shOf (P : Program) : Nat → TypeId → Option Sh
  | 0, _ => none
  | n + 1, t =>
    match P.info? t, P.underlying t with
    | some i, some d =>
      let r : Option Sh := match d with
        | .int k => some (.int k)
        | .bool => some .bool
        | .string => some .str
        | .slice e => (shOf P n e).map .slice
        | .struct fs => fs.toList.foldr (fun f acc => match shOf P n f.type, acc with | some a, some b => some (.pair a b) | _, _ => none) (some .unit)
        | _ => none
      match r with
      | some s => if s.size = i.size then some s else none
      | none => none
    | _, _ => none
def shT (P : Program) (t : TypeId) : Option Sh := shOf P 12 t
def zeroA (P : Program) (t : TypeId) : Option (List AV) := match P.info? t with
  | some i => match i.zero with
    | some z => if z.cells.size = i.size ∧ ones (z.cells.toList.map .c) = true then some (z.cells.toList.map .c) else none
    | none => none
  | none => none
def zeroD : Sh → Dat
  | .int _ => .int 0
  | .bool => .bool false
  | .str => .str .empty
  | .slice _ => .list []
  | .pair a b => .pair (zeroD a) (zeroD b)
  | .unit => .int 0
def isAgA (P : Program) (t : TypeId) : Option Bool := match P.underlying t with
  | some (.struct _) => some true
  | some (.array _ _) => some true
  | some _ => some false
  | none => none
def sizeA (P : Program) (t : TypeId) : Nat := P.cellsOf t
/-- a part of cells, by its type -/
def partK (P : Program) (t : TypeId) (l : List AV) (off : Nat) (K : AV → Prop) : Prop := match isAgA P t with
  | some true => match P.info? t with
    | some i => if off + i.size ≤ l.length then K (.agg ((l.drop off).take i.size)) else False
    | none => False
  | some false => match l[off]? with
    | some v => K v
    | none => False
  | none => False
def splice (l : List AV) (off : Nat) (vs : List AV) : List AV := l.take off ++ (vs ++ l.drop (off + vs.length))

/-! ### Plain operations -/
def inR (k : IntKind) (n : Int) : Bool := decide (k.min ≤ n) && decide (n ≤ k.max)
/-- a sum: of signed kinds it must fit, others wrap -/
def fitK (k : IntKind) (n : Int) (K : Value → Prop) : Prop := match k.signed with
  | true => req (inR k n) (K (.int k n))
  | false => K (.int k (k.wrap n))
def bitsV (op : BinOp) (k : IntKind) (x y : Int) : Int :=
  let a := BitVec.ofInt k.bits x
  let b := BitVec.ofInt k.bits y
  k.wrap (match op with | .and => a &&& b | .or => a ||| b | .xor => a ^^^ b | _ => a &&& ~~~b).toNat
def intK (op : BinOp) (k : IntKind) (x y : Int) (K : Value → Prop) : Prop := match op with
  | .add => fitK k (x + y) K
  | .sub => fitK k (x - y) K
  | .mul => fitK k (x * y) K
  | .quo => req (!decide (y = 0)) (fitK k (x.tdiv y) K)
  | .rem => req (!decide (y = 0)) (K (.int k (x.tmod y)))
  | .and | .or | .xor | .andNot => K (.int k (bitsV op k x y))
  | .eql => K (.bool (decide (x = y)))
  | .neq => K (.bool (!decide (x = y)))
  | .lss => K (.bool (decide (x < y)))
  | .leq => K (.bool (decide (x ≤ y)))
  | .gtr => K (.bool (decide (y < x)))
  | .geq => K (.bool (decide (y ≤ x)))
  | _ => False
def shiftK (op : BinOp) (k : IntKind) (x y : Int) (K : Value → Prop) : Prop := req (decide (0 ≤ y)) (match op with
  | .shl => fitK k (x * 2 ^ (min y.toNat k.bits)) K
  | .shr => K (.int k (x.fdiv (2 ^ (min y.toNat k.bits))))
  | _ => False)
def strEq (x y : ByteArray) : Bool := x.data.toList == y.data.toList
def strLt (x y : ByteArray) : Bool := Op.bytesLess x.data.toList y.data.toList
def strK (op : BinOp) (x y : ByteArray) (K : Value → Prop) : Prop := match op with
  | .add => req (decide (x.size + y.size ≤ 9223372036854775807)) (K (.string (x ++ y)))
  | .eql => K (.bool (strEq x y))
  | .neq => K (.bool (!strEq x y))
  | .lss => K (.bool (strLt x y))
  | .leq => K (.bool (strLt x y || strEq x y))
  | .gtr => K (.bool (!(strLt x y || strEq x y)))
  | .geq => K (.bool (!strLt x y))
  | _ => False
/-- equality of two scalars -/
def scalEq (a b : Value) : Option Bool := match a, b with
  | .int k x, .int k' y => if k = k' then some (decide (x = y)) else none
  | .bool x, .bool y => some (x == y)
  | .string x, .string y => some (strEq x y)
  | _, _ => none
def eqOp (op : BinOp) (b : Bool) (K : Value → Prop) : Prop := match op with
  | .eql => K (.bool b)
  | .neq => K (.bool (!b))
  | _ => False
def binV (op : BinOp) (a b : Value) (K : Value → Prop) : Prop := match a, b with
  | .int k x, .int k' y => match op with
    | .shl | .shr => shiftK op k x y K
    | _ => if k = k' then intK op k x y K else False
  | .string x, .string y => strK op x y K
  | .bool x, .bool y => eqOp op (x == y) K
  | _, _ => False
/-- is a value the nil of its kind (some true), none (some false), or not known? -/
def nilA : AV → Option Bool
  | .c (.pointer none) => some true
  | .c (.slice none _ _) => some true
  | .c .nilFunc => some true
  | .c (.map none) => some true
  | .p .. => some false
  | .ep .. => some false
  | .rp .. => some false
  | .fn .. => some false
  | _ => none
/-- the types at which a comparison with nil is taken -/
def nilT (P : Program) (t : TypeId) (a : AV) : Bool := match P.underlying t, a with
  | some (.pointer _), .c (.pointer none) => true
  | some (.pointer _), .p .. => true
  | some (.pointer _), .ep .. => true
  | some (.pointer _), .rp .. => true
  | some (.slice _), .c (.slice none _ _) => true
  | some (.func ..), .c .nilFunc => true
  | some (.func ..), .fn .. => true
  | some (.map ..), .c (.map none) => true
  | _, _ => false
/-- equality of the cells of two structs, field by field, all scalars -/
def fieldsEq (P : Program) : List Field → List AV → List AV → Option Bool
  | [], _, _ => some true
  | f :: r, xs, ys => match P.underlying f.type, xs[f.offset]?, ys[f.offset]? with
    | some (.int _), some (.c (.int k a)), some (.c (.int k' b)) => if k = k' then match fieldsEq P r xs ys with
      | some e => some (decide (a = b) && e)
      | none => none
      else none
    | some .bool, some (.c (.bool a)), some (.c (.bool b)) => match fieldsEq P r xs ys with
      | some e => some ((a == b) && e)
      | none => none
    | some .string, some (.c (.string a)), some (.c (.string b)) => match fieldsEq P r xs ys with
      | some e => some (strEq a b && e)
      | none => none
    | _, _, _ => none
/-- a struct's type that is compared field by field -/
def eqOK (P : Program) (t : TypeId) : Bool := !P.stoodInHeld t && !P.eqGuardType P.depth t && match P.underlying t with
  | some (.struct fs) => fs.toList.all (·.name != "_")
  | _ => false
def binK (P : Program) (E : List TypeId) (op : BinOp) (t : TypeId) (a b : AV) (K : Value → Prop) : Prop := match a, b with
  | .c (.int k x), .c v => binV op (.int k x) v K
  | .c (.string x), .c v => binV op (.string x) v K
  | .c (.bool x), .c v => match P.underlying t with
    | some .bool => binV op (.bool x) v K
    | _ => False
  | .agg xs, .agg ys => match P.underlying t with
    | some (.struct fs) => if E.contains t = true then match fieldsEq P fs.toList xs ys with
      | some e => eqOp op e K
      | none => False
      else False
    | _ => False
  | .sl _ _ n, .c (.slice none _ _) | .c (.slice none _ _), .sl _ _ n => match P.underlying t with
    | some (.slice _) => br (decide (n = 0)) (eqOp op true K ∧ eqOp op false K) (eqOp op false K)
    | _ => False
  | .ro _ xs, .c (.slice none _ _) | .c (.slice none _ _), .ro _ xs => match P.underlying t with
    | some (.slice _) => br (decide (xs.length = 0)) (eqOp op true K ∧ eqOp op false K) (eqOp op false K)
    | _ => False
  | .p i o, .p j q => match P.underlying t with
    | some (.pointer e) => match P.info? e with
      | some z => if z.size ≠ 0 ∧ i = j ∧ o = q then eqOp op true K else False
      | none => False
    | _ => False
  | a, b => if nilT P t a && nilT P t b then
      match nilA a, nilA b with
      | some true, some x => eqOp op x K
      | some x, some true => eqOp op x K
      | _, _ => False
    else False
def unK (op : UnOp) (a : AV) (K : Value → Prop) : Prop := match op, a with
  | .not, .c (.bool b) => K (.bool (!b))
  | .neg, .c (.int k n) => fitK k (0 - n) K
  | .xor, .c (.int k n) => K (.int k (bitsV .xor k (if k.signed then -1 else k.max) n))
  | _, _ => False
/-- does the second kind hold all of the first? -/
def holdsK (k k' : IntKind) : Bool := decide (k'.min ≤ k.min) && decide (k.max ≤ k'.max)
def bytesD (s : ByteArray) : List Dat := s.data.toList.map fun b => .int b.toNat
def strD (xs : List Dat) : ByteArray := ⟨(xs.map fun d => UInt8.ofNat d.toInt.toNat).toArray⟩
def runesD (s : ByteArray) : List Dat := (Conv.runesFrom s s.size 0 #[]).toList.map fun | .int _ n => .int n | _ => .int 0
def runeStrD (xs : List Dat) : ByteArray := xs.foldl (fun s d => s ++ Utf8.encode d.toInt) ByteArray.empty
def subS (s : ByteArray) (l h : Nat) : ByteArray := ⟨((s.data.toList.drop l).take (h - l)).toArray⟩
/-- a block of structs and variables: its type, how many cells -/
def ownT : AB → Option (TypeId × Nat)
  | .cells T l => some (T, l.length)
  | .lock T l => some (T, l.length)
  | _ => none
/-- the elements that a slice has, for reading -/
def readK (h : AH) (a : AV) (K : Sh → List Dat → Prop) : Prop := match a with
  | .ro s xs => K s xs
  | .sl id off len => match h.get id with
    | .seq _ s xs => req (decide (off + len ≤ xs.length)) (K s ((xs.drop off).take len))
    | _ => False
  | _ => False
def convK (P : Program) (src dst : TypeId) (a : AV) (h : AH) (K : AV → AH → Prop) : Prop := match P.underlying src, P.underlying dst, a with
  | some (.int k), some (.int k'), .c (.int _ n) => match holdsK k k' with
    | true => req (inR k' n) (K (.c (.int k' n)) h)
    | false => K (.c (.int k' (k'.wrap n))) h
  | some (.int _), some .string, .c (.int _ n) => K (.c (.string (Utf8.encode n))) h
  | some .string, some .string, .c (.string s) => K (.c (.string s)) h
  | some .string, some (.slice e), .c (.string s) => match P.underlying e, shT P e with
    | some (.int .u8), some (.int .u8) => K (.sl h.next 0 s.size) (h.new (.seq e (.int .u8) (bytesD s)))
    | some (.int .i32), some (.int .i32) => K (.sl h.next 0 (runesD s).length) (h.new (.seq e (.int .i32) (runesD s)))
    | _, _ => False
  | some (.slice _), some (.slice e), .sl id off len => match P.underlying e with
    | some (.int .u8) => if src = dst then match h.get id with
      | .seq .. => req (decide (0 < len)) (K (.sl id off len) h)
      | _ => False
      else False
    | _ => False
  | some (.slice e), some .string, .c (.slice none _ _) => match P.underlying e with
    | some (.int .u8) | some (.int .i32) => K (.c (.string .empty)) h
    | _ => False
  | some (.slice e), some .string, a => match P.underlying e with
    | some (.int .u8) => readK h a fun s xs => match s with | .int .u8 => K (.c (.string (strD xs))) h | _ => False
    | some (.int .i32) => readK h a fun s xs => match s with | .int .i32 => K (.c (.string (runeStrD xs))) h | _ => False
    | _ => False
  | some (.pointer t), some .unsafePointer, .p id off => match ownT (h.get id), P.info? t with
    | some (_, n), some j => if j.size ≠ 0 ∧ off < n then K (.p id off) h else False
    | _, _ => False
  | some .unsafePointer, some (.pointer u), .p id off => match ownT (h.get id), P.info? u with
    | some (T, n), some _ => match liesAt P P.depth T (n / P.cellsOf T) off u 1 with
      | true => K (.p id off) h
      | false => False
    | _, _ => False
  | _, _, _ => False
/-- unsafe.SliceData -/
def sliceDataK (a : AV) (h : AH) (K : AV → Prop) : Prop := match a with
  | .c (.slice none _ _) => K (.c (.pointer none))
  | .sl id off len => match h.get id with
    | .seq .. => req (decide (0 < len)) (K (.ep id off 0))
    | _ => False
  | _ => False
/-- unsafe.String: its bytes are no longer written -/
def unsafeStringK (P : Program) (pt : TypeId) (a n : AV) (h : AH) (K : AV → AH → Prop) : Prop := match P.underlying pt, a, n with
  | some (.pointer _), .c (.pointer none), .c (.int .i64 m) => req (decide (m = 0)) (K (.c (.string .empty)) h)
  | some (.pointer e), .ep id i 0, .c (.int .i64 m) => match h.get id with
    | .seq E (.int .u8) xs => if E = e ∧ P.cellsOf e = 1 then req (decide (0 < m) && decide (i + m.toNat ≤ xs.length) && inR .i64 m) (K (.c (.string (strD ((xs.drop i).take m.toNat)))) (h.put id .dead)) else False
    | _ => False
  | _, _, _ => False

/-! ### Operations on memory -/
def loadK (P : Program) (t : TypeId) (a : AV) (h : AH) (K : AV → Prop) : Prop := match a with
  | .p id off => match h.get id with
    | .cells _ l => partK P t l off K
    | .lock _ l => partK P t l off K
    | _ => False
  | .ep id i off => match h.get id with
    | .seq _ s xs => req (decide (i < xs.length)) (partK P t (enc s (xs.getD i default)) off K)
    | .mix _ _ xs b => req (decide (i = xs.length)) (partK P t [b] off K)
    | _ => False
  | .rp s xs i off => req (decide (i < xs.length)) (partK P t (enc s (xs.getD i default)) off K)
  | _ => False
def storeK (P : Program) (t : TypeId) (a v : AV) (h : AH) (K : AH → Prop) : Prop :=
  let vs := v.cells
  if vs.length = sizeA P t ∧ 0 < vs.length ∧ ones vs = true then match a with
  | .p id off => match h.get id with
    | .cells T l => if off + vs.length ≤ l.length then K (h.put id (.cells T (splice l off vs))) else False
    | _ => False
  | .ep id i off => match h.get id with
    | .seq E s xs => req (decide (i < xs.length)) (
        let l := enc s (xs.getD i default)
        if off + vs.length ≤ l.length then decK s (splice l off vs) h fun d r h' => match h'.get id with
          | .seq _ _ _ => K (h'.put id (.seq E s (xs.set i d)))
          | _ => False
        else False)
    | .mix E s xs _ => match vs, off with
      | [b], 0 => req (decide (i = xs.length)) (K (h.put id (.mix E s xs b)))
      | _, _ => False
    | _ => False
  | _ => False
  else False
def fillA (place : Nat → Option (Nat × Nat)) (cells : List AV) : List (Nat × AV) → Option (List AV)
  | [] => some cells
  | (i, v) :: rest => match place i with
    | none => none
    | some (off, size) => if v.cells.length = size ∧ ones v.cells = true ∧ off + v.cells.length ≤ cells.length then fillA place (splice cells off v.cells) rest else none
def fieldP (P : Program) (fs : Array Field) (i : Nat) : Option (Nat × Nat) := match fs[i]? with
  | some f => match P.info? f.type with
    | some j => some (f.offset, j.size)
    | none => none
  | none => none
def infosB (P : Program) (fs : Array Field) : Bool := fs.toList.all fun f => (P.info? f.type).isSome
def buildK (P : Program) (t : TypeId) (parts : List (Nat × AV)) (K : AV → Prop) : Prop := match zeroA P t, P.underlying t with
  | some z, some (.struct fs) => if infosB P fs = true then match fillA (fieldP P fs) z parts with
    | some l => K (.agg l)
    | none => False
    else False
  | some z, some (.array _ e) => match P.info? e with
    | some j => match fillA (fun i => some (i * j.size, j.size)) z parts with
      | some l => K (.agg l)
      | none => False
    | none => False
  | _, _ => False
def repA (z : List AV) : Nat → List AV
  | 0 => []
  | n + 1 => z ++ repA z n
def buildSliceK (P : Program) (t : TypeId) (len : Nat) (parts : List (Nat × AV)) (h : AH) (K : AV → AH → Prop) : Prop := match P.underlying t with
  | some (.slice e) => match P.info? e, zeroA P e, shT P e with
    | some j, some z, some s => if len * j.size ≤ 16777216 ∧ 0 < j.size then match fillA (fun i => some (i * j.size, j.size)) (repA z len) parts with
      | some l => match hotT e with
        | true => match s, l with
          | .slice s', [b] => K (.sl h.next 0 1) (h.new (.mix e s' [] b))
          | _, _ => False
        | false => decsK s len l h [] fun xs h' => K (.sl h'.next 0 len) (h'.new (.seq e s xs))
      | none => False
      else False
    | some j, some z, none => if len ≤ 16777216 ∧ 0 < len ∧ j.size = 1 then match fillA (fun i => some (i * 1, 1)) (repA z len) parts with
      | some l => K (.sl h.next 0 len) (h.new (.cells e l))
      | none => False
      else False
    | _, _, _ => False
  | _ => False
/-- are these cells the zero of a shape? -/
def zeroFits : Sh → List AV → Option (List AV)
  | .int k, l => match l with
    | .c (.int k' n) :: r => if k = k' ∧ n = 0 then some r else none
    | _ => none
  | .bool, l => match l with
    | .c (.bool b) :: r => match b with | false => some r | true => none
    | _ => none
  | .str, l => match l with
    | .c (.string s) :: r => match s.data.toList with | [] => some r | _ => none
    | _ => none
  | .slice _, l => match l with
    | .c (.slice none 0 0) :: r => some r
    | _ => none
  | .pair a b, l => match zeroFits a l with
    | some l => zeroFits b l
    | none => none
  | .unit, l => some l
def makeSliceK (P : Program) (t : TypeId) (n c : AV) (h : AH) (K : AV → AH → Prop) : Prop := match P.underlying t, n, c with
  | some (.slice e), .c (.int _ n), .c (.int _ c) => match P.info? e, zeroA P e, shT P e with
    | some j, some z, some s => if 0 < j.size ∧ 0 < j.bytes then match zeroFits s z with
        | some [] => req (decide (0 ≤ n) && decide (n ≤ c) && decide (c * j.bytes ≤ 140737488351232)) (K (.sl h.next 0 n.toNat) (h.new (.seq e s (List.replicate n.toNat (zeroD s)))))
        | _ => False
      else False
    | _, _, _ => False
  | _, _, _ => False
def fieldAddrK (P : Program) (s : TypeId) (a : AV) (f : Nat) (K : AV → Prop) : Prop := match P.underlying s with
  | some (.struct fs) => match fs[f]? with
    | some x => match P.info? x.type with
      | some j => if j.size = 0 then False else match a with
        | .p id off => K (.p id (off + x.offset))
        | .ep id i off => K (.ep id i (off + x.offset))
        | .rp s xs i off => K (.rp s xs i (off + x.offset))
        | _ => False
      | none => False
    | none => False
  | _ => False
def fieldK (P : Program) (t : TypeId) (a : AV) (f : Nat) (K : AV → Prop) : Prop := match P.underlying t with
  | some (.struct fs) => match fs[f]? with
    | some x => match a with
      | .agg l => partK P x.type l x.offset K
      | _ => False
    | none => False
  | _ => False
def indexAddrK (P : Program) (t : TypeId) (a i : AV) (h : AH) (K : AV → Prop) : Prop := match P.underlying t, a, i with
  | some (.slice e), .sl id off len, .c (.int _ n) => match h.get id, P.info? e with
    | .seq _ s _, some j => if s.size = j.size then req (decide (0 ≤ n) && decide (n < len)) (K (.ep id (off + n.toNat) 0)) else False
    | .cells _ _, some j => if j.size = 1 then req (decide (0 ≤ n) && decide (n < len)) (K (.p id (off + n.toNat))) else False
    | .mix .., some j => if j.size = 1 then req (decide (0 ≤ n) && decide (n < len)) (K (.ep id (off + n.toNat) 0)) else False
    | _, _ => False
  | some (.slice e), .ro s xs, .c (.int _ n) => match P.info? e with
    | some j => if s.size = j.size then req (decide (0 ≤ n) && decide (n < xs.length)) (K (.rp s xs n.toNat 0)) else False
    | none => False
  | some (.array len e), .p id off, .c (.int _ n) => match P.info? e with
    | some j => if 2 ≤ len then req (decide (0 ≤ n) && decide (n < len)) (K (.p id (off + n.toNat * j.size))) else False
    | none => False
  | _, _, _ => False
def indexK (P : Program) (t : TypeId) (a i : AV) (K : AV → Prop) : Prop := match P.underlying t, a, i with
  | some .string, .c (.string s), .c (.int _ n) => req (decide (0 ≤ n) && decide (n < s.size)) (K (.c (.int .u8 (s.data.toList.getD n.toNat 0).toNat)))
  | some (.array len e), .agg l, .c (.int _ n) => match P.info? e with
    | some j => req (decide (0 ≤ n) && decide (n < len)) (partK P e l (n.toNat * j.size) K)
    | none => False
  | _, _, _ => False
def optInt : Option AV → Option (Option Int)
  | none => some none
  | some (.c (.int _ n)) => some (some n)
  | _ => none
/-- the bounds of a slice expression, at most the length -/
def boundsK (len : Nat) (lo hi mx : Option AV) (K : Nat → Nat → Prop) : Prop := match optInt lo, optInt hi, optInt mx with
  | some l, some h, some none =>
    let hh : Int := h.getD len
    let ll : Int := l.getD 0
    req (decide (0 ≤ ll) && decide (ll ≤ hh) && decide (hh ≤ len)) (K ll.toNat hh.toNat)
  | some l, some (some hh), some (some m) =>
    let ll : Int := l.getD 0
    req (decide (0 ≤ ll) && decide (ll ≤ hh) && decide (hh ≤ m) && decide (m ≤ len)) (K ll.toNat hh.toNat)
  | _, _, _ => False
/-- rows of numbers as data -/
def kSh : List IntKind → Sh
  | [] => .unit
  | k :: l => .pair (.int k) (kSh l)
def kDat : List Int → Dat
  | [] => .int 0
  | n :: l => .pair (.int n) (kDat l)
/-- the global variable that an address is of -/
def gOf : AV → Option Nat
  | .c (.pointer (some a)) => if a = ⟨a.block, 0, none⟩ then some a.block else none
  | _ => none
def tabOK (ks : List IntKind) (rows : List (List Int)) (n size : Nat) : Bool := decide (ks.length = size) && decide (rows.length = n) && rows.all fun r => decide (r.length = ks.length)
/-- all of a global array -/
def tabK (P : Program) (n : Nat) (e : TypeId) (a : AV) (K : AV → Prop) : Prop := match gOf a with
  | some g => match tabI g with
    | some (ks, rows) => match P.info? e with
      | some j => if tabOK ks rows n j.size = true then K (.ro (kSh ks) (rows.map kDat)) else False
      | none => False
    | none => False
  | none => False
def sliceK (P : Program) (t : TypeId) (a : AV) (lo hi mx : Option AV) (h : AH) (K : AV → Prop) : Prop := match P.underlying t, a with
  | some .string, .c (.string s) => match mx with
    | none => boundsK s.size lo hi none fun l h => K (.c (.string (subS s l h)))
    | some _ => False
  | some (.slice e), .sl id off len => match h.get id, P.info? e with
    | .seq _ s _, some j => if s.size = j.size then boundsK len lo hi mx fun l h => K (.sl id (off + l) (h - l)) else False
    | _, _ => False
  | some (.slice e), .ro s xs => match P.info? e with
    | some j => if s.size = j.size then boundsK xs.length lo hi mx fun l h => K (.ro s ((xs.drop l).take (h - l))) else False
    | none => False
  | some (.slice e), .c (.slice none 0 0) => match P.info? e with
    | some j => boundsK 0 lo hi mx fun _ _ => K (.c (.slice none 0 0))
    | none => False
  | some (.array n e), a => match lo, hi, mx with
    | none, none, none => tabK P n e a K
    | _, _, _ => False
  | _, _ => False
/-- a part of a row and what is put behind it; may it be? -/
def dapp (xs : List Dat) (off len : Nat) (ys : List Dat) : List Dat := (xs.drop off).take len ++ ys
def appOK (xs : List Dat) (off len k bytes : Nat) : Bool := decide (off + len ≤ xs.length) && decide ((len + k) * bytes ≤ 140737488351232)
/-- the data that an append takes -/
def newsK (h : AH) (s : Sh) (a : AV) (K : List Dat → Prop) : Prop := match a with
  | .c (.slice none 0 0) => K []
  | .c (.string x) => match s with | .int .u8 => K (bytesD x) | _ => False
  | a => readK h a fun s' xs => if s = s' then K xs else False
def appendK (P : Program) (ts : TypeId) (a b : AV) (h : AH) (K : AV → AH → Prop) : Prop := match P.underlying ts with
  | some (.slice e) => match P.info? e, shT P e, (zeroA P e).isSome with
    | some j, some s, true => if 0 < j.size ∧ 0 < j.bytes then newsK h s b fun ys =>
        match a with
        | .c (.slice none 0 0) => req (decide (ys.length * j.bytes ≤ 140737488351232)) (K (.sl h.next 0 ys.length) (h.new (.seq e s ys)))
        | .sl id off len => match h.get id with
          | .seq E s' xs => if s = s' ∧ E = e then req (appOK xs off len ys.length j.bytes)
              (K (.sl h.next 0 (dapp xs off len ys).length) ((h.put id .dead).new (.seq e s (dapp xs off len ys)))) else False
          | _ => False
        | _ => False
      else False
    | _, _, _ => False
  | _ => False
/-- a row whose last element is written is put behind another -/
def appMixK (P : Program) (ts : TypeId) (a b : AV) (h : AH) (K : AV → AH → Prop) : Prop := match mixOf h a, mixOf h b with
  | some i, some k => match a, h.get i, b, h.get k, P.underlying ts with
    | .sl _ 0 n, .mix E s xs _, .sl _ 0 1, .mix E' s' [] c, some (.slice e) => match P.info? e, zeroA P e with
      | some j, some [_] => if E = e ∧ E' = e ∧ s = s' ∧ j.size = 1 ∧ 0 < j.bytes then
          req (decide (n = xs.length + 1) && decide ((n + 1) * j.bytes ≤ 140737488351232)) (freezeK h i fun h1 => match h1.get i, h1.get k with
            | .seq _ _ ys, .mix _ _ [] c' => K (.sl h1.next 0 (ys.length + 1)) (((h1.put k .dead).put i .dead).new (.mix e s ys c'))
            | _, _ => False)
          else False
      | _, _ => False
    | _, _, _, _, _ => False
  | none, some k => freezeK h k fun h1 => appendK P ts a b h1 K
  | some i, none => freezeK h i fun h1 => appendK P ts a b h1 K
  | none, none => appendK P ts a b h K
def copyK (P : Program) (t : TypeId) (a b : AV) (h : AH) (K : AV → AH → Prop) : Prop := match P.underlying t with
  | some (.slice e) => match P.info? e with
    | some j => match a with
      | .c (.slice none 0 0) => match b with
        | .c (.slice none 0 0) => K (.c (.int .i64 0)) h
        | .c (.string _) => K (.c (.int .i64 0)) h
        | b => readK h b fun _ _ => K (.c (.int .i64 0)) h
      | .sl id off len => match h.get id with
        | .seq E s xs => if s.size = j.size then newsK h s b fun ys => req (decide (off + len ≤ xs.length))
            (K (.c (.int .i64 (min ys.length len : Nat))) (h.put id (.seq E s (xs.take off ++ (ys.take (min ys.length len) ++ xs.drop (off + min ys.length len))))))
          else False
        | _ => False
      | _ => False
    | none => False
  | _ => False
def lenK (P : Program) (t : TypeId) (a : AV) (K : AV → Prop) : Prop := match P.underlying t, a with
  | some .string, .c (.string s) => K (.c (.int .i64 s.size))
  | some (.slice _), .c (.slice _ n _) => K (.c (.int .i64 n))
  | some (.slice _), .sl _ _ n => K (.c (.int .i64 n))
  | some (.slice _), .ro _ xs => K (.c (.int .i64 xs.length))
  | some (.array n _), _ => K (.c (.int .i64 n))
  | some (.map ..), .c (.map none) => K (.c (.int .i64 0))
  | _, _ => False
def minsK (mx : Bool) (k : IntKind) (x : Int) : List AV → (AV → Prop) → Prop
  | [], K => K (.c (.int k x))
  | .c (.int _ y) :: r, K => minsK mx k (if mx = true then max x y else min x y) r K
  | _, _ => False
def rangeK (P : Program) (t : TypeId) (a : AV) (h : AH) (K : AV → AH → Prop) : Prop := match P.underlying t, a with
  | some .string, .c (.string s) => K (.p h.next 0) (h.new (.iter s 0))
  | _, _ => False
def nextK (a : AV) (isString : Bool) (h : AH) (K : AV → AH → Prop) : Prop := match a, isString with
  | .p id 0, true => match h.get id with
    | .iter s pos => br (decide (pos < s.size))
        (K (.tup [.c (.bool true), .c (.int .i64 pos), .c (.int .i32 (Utf8.decode s pos).1)]) (h.put id (.iter s (pos + (Utf8.decode s pos).2))))
        (K (.tup [.c (.bool false)]) h)
    | _ => False
  | _, _ => False
def nilCheckK (a : AV) (K : AV → Prop) : Prop := match a with
  | .p .. => K a
  | .ep .. => K a
  | .rp .. => K a
  | .fn .. => K a
  | _ => False

/-! ### Operations, code -/
def evA (f : List AV) : Operand → AV
  | .tmp t => f.getD t au
  | .const v => match v with
    | .func (.func g) _ _ => .any
    | v => .c v
  | .global g => .c (.pointer (some ⟨g, 0, none⟩))
  | .func g => .fn g []
def setA (f : List AV) (d : Option Tmp) (v : AV) : List AV := match d with
  | some d => f.set d v
  | none => f
inductive AExit where
  | normal | exit (id : Nat) | ret
abbrev CallT := List AV → AH → (AV → AH → Prop) → Prop
abbrev LoopT := List AV → AH → (AExit → List AV → AH → Prop) → Prop
/-- what is known of functions and loops -/
structure Rules where
  eqs : List TypeId
  call : FuncId → Option CallT
  loop : FuncId → Nat → Option LoopT
  reg : FuncId → Nat → Option LoopT := fun _ _ => none
/-- an operation that is no call of a Go function -/
def opK (P : Program) (E : List TypeId) (o : Op) (ρ : Operand → AV) (h : AH) (K : AV → AH → Prop) : Prop := match o with
  | .move x => K (ρ x) h
  | .assign x => K (ρ x) h
  | .pick c a b => match ρ c with
    | .c (.bool e) => br e (K (ρ a) h) (K (ρ b) h)
    | _ => False
  | .alloc e => match zeroA P e with
    | some z => K (.p h.next 0) (h.new (.cells e z))
    | none => False
  | .box e x => if ones (ρ x).cells = true then K (.p h.next 0) (h.new (.cells e (ρ x).cells)) else False
  | .build t ps => buildK P t (ps.toList.map fun x => (x.1, ρ x.2)) fun v => K v h
  | .buildSlice t n ps => buildSliceK P t n (ps.toList.map fun x => (x.1, ρ x.2)) h K
  | .load t a => loadK P t (ρ a) h fun v => K v h
  | .store t a v => storeK P t (ρ a) (ρ v) h fun h' => K au h'
  | .nilCheck x => nilCheckK (ρ x) fun v => K v h
  | .binOp op t x y _ => binK P E op t (ρ x) (ρ y) fun v => K (.c v) h
  | .unOp op _ x => unK op (ρ x) fun v => K (.c v) h
  | .convert s d x => convK P s d (ρ x) h K
  | .makeFunc fn first caps => match fn, first.toList with
    | .func g, [] => K (.fn g (caps.toList.map ρ)) h
    | _, _ => False
  | .makeSlice t n c => makeSliceK P t (ρ n) (ρ c) h K
  | .slice t x lo hi mx => sliceK P t (ρ x) (lo.map ρ) (hi.map ρ) (mx.map ρ) h fun v => K v h
  | .fieldAddr s x i => fieldAddrK P s (ρ x) i fun v => K v h
  | .field t x i => fieldK P t (ρ x) i fun v => K v h
  | .indexAddr t x i => indexAddrK P t (ρ x) (ρ i) h fun v => K v h
  | .index t x i => indexK P t (ρ x) (ρ i) fun v => K v h
  | .extract x i => match ρ x with
    | .tup l => match l[i]? with
      | some v => K v h
      | none => False
    | _ => False
  | .range t x => rangeK P t (ρ x) h K
  | .next x b => nextK (ρ x) b h K
  | .call c => match c.callee with
    | .builtin .append => match c.args.toList, c.argTypes.toList with
      | [a, b], [ta, tb] => match P.underlying tb with
        | some (.slice _) | some .string => appMixK P ta (ρ a) (ρ b) h K
        | _ => False
      | _, _ => False
    | .builtin .copy => match c.args.toList, c.argTypes.toList with
      | [a, b], ta :: _ => copyK P ta (ρ a) (ρ b) h K
      | _, _ => False
    | .builtin .len => match c.args.toList, c.argTypes.toList with
      | a :: _, ta :: _ => lenK P ta (ρ a) fun v => K v h
      | _, _ => False
    | .builtin .min => match c.args.toList.map ρ with
      | .c (.int k x) :: r => minsK false k x r fun v => K v h
      | _ => False
    | .builtin .max => match c.args.toList.map ρ with
      | .c (.int k x) :: r => minsK true k x r fun v => K v h
      | _ => False
    | .builtin .unsafeSliceData => match c.args.toList with
      | [a] => sliceDataK (ρ a) h fun v => K v h
      | _ => False
    | .builtin .unsafeString => match c.args.toList, c.argTypes.toList with
      | [a, n], [ta, _] => unsafeStringK P ta (ρ a) (ρ n) h K
      | _, _ => False
    | _ => False
  | _ => False
/-- is it a call of a Go function: which, with what is captured behind the arguments -/
def goCall (o : Op) (ρ : Operand → AV) : Option (AV × List AV) := match o with
  | .call c => match c.callee with
    | .value f => some (ρ f, c.args.toList.map ρ)
    | _ => none
  | _ => none
def callK (P : Program) (G : Rules) (enter : FuncId → List AV → AH → (AV → AH → Prop) → Prop) (f : AV) (args : List AV) (h : AH) (K : AV → AH → Prop) : Prop := match f with
  | .fn g caps => match P.funcs[g]? with
    | some fn => match fn.body with
      | some _ => match G.call g with
        | some R => R (args ++ caps) h K
        | none => enter g (args ++ caps) h K
      | none => match sameF g, args ++ caps with
        | true, [a] => K a h
        | _, _ => False
    | none => False
  | _ => False
def oneK (P : Program) (G : Rules) (enter : FuncId → List AV → AH → (AV → AH → Prop) → Prop) (o : Op) (f : List AV) (h : AH) (K : AV → AH → Prop) : Prop := match goCall o (evA f) with
  | some (g, args) => callK P G enter g args h K
  | none => opK P G.eqs o (evA f) h K
/-- what a guard's operation has given -/
def yieldA (ops : Array Oper) (f : List AV) (j : Nat) : Option (Option Bool) := match (ops[j]?).bind (·.dst) with
  | some d => match f[d]? with
    | some (.c (.bool b)) => some (some b)
    | some (.c _) => some none
    | some _ => none
    | none => some none
  | none => some none
/-- by the guard: carried out, or passed by -/
def refA (ops : Array Oper) (f : List AV) (j : Nat) (b : Bool) : List AV := match (ops[j]?).bind (·.dst) with
  | some d => f.set d (.c (.bool b))
  | none => f
def guardK (ops : Array Oper) (o : Oper) (f : List AV) (run skip : List AV → Prop) : Prop := match o.guard with
  | none => run f
  | some (j, want) => match yieldA ops f j with
    | some (some b) => match want with
      | true => br b (run (refA ops f j true)) (skip (refA ops f j false))
      | false => br b (skip (refA ops f j true)) (run (refA ops f j false))
    | some none => skip f
    | none => False
/-- the plain arguments that an operation of a drawn region must have -/
def scalA : AV → Bool
  | .c v => scalarV v
  | _ => false
def nilVA : AV → Bool
  | .c v => nilV v
  | _ => false
def plainA (ρ : Operand → AV) (o : Oper) : Bool := match o.op with
  | .binOp op _ x y _ => (scalA (ρ x) && scalA (ρ y)) || ((match op with | .eql | .neq => true | _ => false) && (nilVA (ρ x) || nilVA (ρ y)))
  | .convert _ _ x => scalA (ρ x)
  | .call { callee := .builtin .min, args, .. } => args.toList.all fun x => scalA (ρ x)
  | .call { callee := .builtin .max, args, .. } => args.toList.all fun x => scalA (ρ x)
  | _ => true
/-- how a region's operations are carried out: in their order; drawn, by the text; drawn, loads held -/
inductive How where
  | plain | text | held
  | tree (t : Tree)
def AH.clear (h : AH) : AH := ⟨h.bl, []⟩
def runK (P : Program) (T : Tys) (how : How) (o : Oper) (f : List AV) (h : AH) (one : AH → (AV → AH → Prop) → Prop) (K : AV → AH → Prop) : Prop := match how with
  | .plain => one h.clear K
  | .text => match yB T o with
    | true => if plainA (evA f) o = true then one h.clear K else False
    | false => one h.clear K
  | .held => False
  | .tree _ => False
/-- lists are laid out, so that nothing is reckoned twice -/
def forceL {α : Type} : List α → (List α → Prop) → Prop
  | [], K => K []
  | a :: l, K => forceL l fun l' => K (a :: l')
def forceB : List AB → (List AB → Prop) → Prop
  | [], K => K []
  | b :: l, K => match b with
    | .cells T c => forceL c fun c' => forceB l fun l' => K (.cells T c' :: l')
    | b => forceB l fun l' => K (b :: l')
/-- (not laid out now: it made the kernel's stack too deep) -/
def forceS (f : List AV) (h : AH) (K : List AV → AH → Prop) : Prop := (fun _ : Prop => K f h) (br true True True)
theorem forceL_eq {α : Type} : ∀ (l : List α) (K : List α → Prop), forceL l K = K l
  | [], _ => rfl
  | a :: l, K => by unfold forceL; rw [forceL_eq l]
theorem forceB_eq : ∀ (l : List AB) (K : List AB → Prop), forceB l K = K l
  | [], _ => rfl
  | b :: l, K => by
    unfold forceB
    cases b <;> simp only [forceL_eq, forceB_eq l]
theorem forceS_eq (f : List AV) (h : AH) (K : List AV → AH → Prop) : forceS f h K = K f h := rfl
def opsK (P : Program) (T : Tys) (G : Rules) (enter : FuncId → List AV → AH → (AV → AH → Prop) → Prop) (how : How) (ops : Array Oper) : List Oper → (List AV → AH → Prop) → List AV → AH → Prop
  | [], K, f, h => K f h.clear
  | o :: rest, K, f, h => guardK ops o f
      (fun f => runK P T how o f h (fun h K => oneK P G enter o.op f h K) fun v h' => forceS (setA f o.dst v) h' fun f h => opsK P T G enter how ops rest K f h)
      (fun f => forceS (setA f o.dst au) h fun f h => opsK P T G enter how ops rest K f h)
/-- structs and variables are locked: as long as a load may come nobody writes them -/
def lockB : AB → AB
  | .cells T l => .lock T l
  | b => b
def lockAll (h : AH) : AH := ⟨h.bl.map lockB, h.log⟩
def unlockL : List AB → List AB → List AB
  | .cells _ _ :: r0, .lock T l :: r => .cells T l :: unlockL r0 r
  | _ :: r0, b :: r => b :: unlockL r0 r
  | [], r => r
  | _, [] => []
def unlock (h0 h : AH) : AH := ⟨unlockL h0.bl h.bl, h.log⟩
/-- a region that draws: behind the last load -/
def opsC (P : Program) (T : Tys) (G : Rules) (enter : FuncId → List AV → AH → (AV → AH → Prop) → Prop) (ops : Array Oper) : List Oper → Nat → (List AV → AH → Prop) → List AV → AH → Prop
  | [], _, K, f, h => K f h.clear
  | o :: rest, i, K, f, h => guardK ops o f
      (fun f => match calmB o with
        | true => False
        | false => match yB T o with
          | true => if plainA (evA f) o = true then oneK P G enter o.op f h fun v h' => forceS (setA f o.dst v) h' fun f h => opsC P T G enter ops rest (i + 1) K f h else False
          | false => match ndB ops i with
            | true => False
            | false => oneK P G enter o.op f h fun v h' => forceS (setA f o.dst v) h' fun f h => opsC P T G enter ops rest (i + 1) K f h)
      (fun f => forceS (setA f o.dst au) h fun f h => opsC P T G enter ops rest (i + 1) K f h)
/-- a region that draws, its loads held -/
def opsH (P : Program) (T : Tys) (G : Rules) (enter : FuncId → List AV → AH → (AV → AH → Prop) → Prop) (h0 : AH) (ops : Array Oper) : List Oper → Nat → (List AV → AH → Prop) → List AV → AH → Prop
  | [], _, K, f, h => K f (unlock h0 h).clear
  | o :: rest, i, K, f, h => guardK ops o f
      (fun f => match calmB o with
        | true => match o.op with
          | .load t a => match evA f a with
            | .p id off => match h0.get id, h.get id with
              | .cells _ _, .lock _ l => partK P t l off fun v => forceS (setA f o.dst v) h fun f h => opsH P T G enter h0 ops rest (i + 1) K f h
              | .lock _ _, .lock _ l => partK P t l off fun v => forceS (setA f o.dst v) h fun f h => opsH P T G enter h0 ops rest (i + 1) K f h
              | _, _ => False
            | _ => False
          | _ => False
        | false => match yB T o with
          | true => if plainA (evA f) o = true then oneK P G enter o.op f h fun v h' => forceS (setA f o.dst v) h' fun f h => opsH P T G enter h0 ops rest (i + 1) K f h else False
          | false => match ndB ops i with
            | true => oneK P G enter o.op f h fun v h' => forceS (setA f o.dst v) h' fun f h => opsH P T G enter h0 ops rest (i + 1) K f h
            | false => oneK P G enter o.op f (unlock h0 h) fun v h' => forceS (setA f o.dst v) h' fun f h => opsC P T G enter ops rest (i + 1) K f h)
      (fun f => forceS (setA f o.dst au) h fun f h => opsH P T G enter h0 ops rest (i + 1) K f h)
def chain : Nat → Nat → Tree
  | 0, _ => .done
  | n + 1, k => .take k (chain n (k + 1))
/-- a tree of all orders that are told apart -/
def mkT (T : Tys) (ops : Array Oper) : Nat → Array Bool → Tree
  | 0, _ => .done
  | n + 1, listed => match Region.ready .any ops listed with
    | [] => .done
    | r => match r.find? fun k => freesB T false .any ops k listed with
      | some k => .take k (mkT T ops n (listed.setIfInBounds k true))
      | none => r.foldr (fun k rest => .branch k (mkT T ops n (listed.setIfInBounds k true)) rest) .done
/-- is the address of a load an element's? -/
def elemB (ops : Array Oper) (o : Oper) : Bool := match o.op with
  | .load _ (.tmp t) => ops.toList.any fun p => (match p.dst with | some d => Nat.beq d t | none => false) && (match p.op with
    | .indexAddr .. => true
    | .nilCheck (.tmp u) => ops.toList.any fun q => (match q.dst with | some d => Nat.beq d u | none => false) && (match q.op with
      | .call c => match c.callee with
        | .value _ => true
        | _ => false
      | _ => false)
    | _ => false)
  | _ => false
def howOf (T : Tys) (ops : Array Oper) : Option How :=
  match textB T ops with
  | true => some .text
  | false => match (chain ops.size 0).check T ops (Array.replicate ops.size false) && !(ops.toList.any (elemB ops)) with
    | true => some .held
    | false => match (mkT T ops ops.size (Array.replicate ops.size false)).checkN T ops (Array.replicate ops.size false) && Nat.ble (mkT T ops ops.size (Array.replicate ops.size false)).depth ops.size with
      | true => some (.tree (mkT T ops ops.size (Array.replicate ops.size false)))
      | false => none
/-- a region that draws, by a tree of orders -/
def opsN (P : Program) (T : Tys) (G : Rules) (enter : FuncId → List AV → AH → (AV → AH → Prop) → Prop) (ops : Array Oper) : Tree → Bool → (List AV → AH → Prop) → List AV → AH → Prop
  | .done, rest, K, f, h => match rest with
    | true => True
    | false => K f h.clear
  | .take k t, rest, K, f, h => match rest with
    | true => True
    | false => match ops[k]? with
      | some o => guardK ops o f
        (fun f => runK P T .text o f h (fun h K => oneK P G enter o.op f h K) fun v h' => forceS (setA f o.dst v) h' fun f h => opsN P T G enter ops t false K f h)
        (fun f => forceS (setA f o.dst au) h fun f h => opsN P T G enter ops t false K f h)
      | none => False
  | .branch k t r, _, K, f, h => match ops[k]? with
      | some o => guardK ops o f
        (fun f => runK P T .text o f h (fun h K => oneK P G enter o.op f h K) fun v h' => forceS (setA f o.dst v) h' fun f h => opsN P T G enter ops t false K f h)
        (fun f => forceS (setA f o.dst au) h fun f h => opsN P T G enter ops t false K f h) ∧ opsN P T G enter ops r true K f h
      | none => False
def resK (P : Program) (f : List AV) (h : AH) : List ResultVar → List AV → (List AV → Prop) → Prop
  | [], acc, K => K acc
  | .tmp t :: r, acc, K => resK P f h r (acc ++ [f.getD t au]) K
  | .cell a t :: r, acc, K => loadK P t (f.getD a au) h fun v => resK P f h r (acc ++ [v]) K
def tupA : List AV → AV
  | [v] => v
  | l => .tup l
/-- the first region inside a loop: its name -/
def firstId : Code → Option Nat
  | .region id _ _ => some id
  | .seq a b => match firstId a with | some i => some i | none => firstId b
  | .cond _ a b => match firstId a with | some i => some i | none => firstId b
  | .block _ b => firstId b
  | .loop b => firstId b
  | .scope b => firstId b
  | _ => none
def wpA (P : Program) (T : Tys) (G : Rules) : Nat → FuncId → Code → (AExit → List AV → AH → Prop) → List AV → AH → Prop
  | 0, _, _, _, _, _ => False
  | n + 1, F, c, Q, f, h => match c with
    | .skip => Q .normal f h
    | .label _ => Q .normal f h
    | .seq x y => wpA P T G n F x (fun e f' h' => match e with | .normal => wpA P T G n F y Q f' h' | e => Q e f' h') f h
    | .cond c x y => match evA f c with
      | .c (.bool b) => br b (wpA P T G n F x Q f h) (wpA P T G n F y Q f h)
      | _ => False
    | .block id b => wpA P T G n F b (fun e f' h' => match e with | .exit i => if i = id then Q .normal f' h' else Q (.exit i) f' h' | e => Q e f' h') f h
    | .exit id => Q (.exit id) f h
    | .ret => Q .ret f h
    | .scope b => wpA P T G n F b Q f h
    | .loop b => match (firstId b).bind (G.loop F) with
      | some R => R f h Q
      | none => wpA P T G n F b (fun e f' h' => match e with | .normal => wpA P T G n F (.loop b) Q f' h' | e => Q e f' h') f h
    | .region id ops draw =>
      let enter : FuncId → List AV → AH → (AV → AH → Prop) → Prop := fun g args h K => match P.funcs[g]? with
        | some fn => match fn.body with
          | some c => wpA P T G n g c (fun e f' h' => match e with
              | .exit _ => False
              | _ => resK P f' h' fn.results.toList [] fun l => K (tupA l) h') (args ++ List.replicate (fn.ntmps - args.length) au) h
          | none => False
        | none => False
      match G.reg F id with
      | some R => R f h Q
      | none => match draw with
      | false => opsK P T G enter .plain ops ops.toList (Q .normal) f h
      | true => match howOf T ops with
        | some .text => opsK P T G enter .text ops ops.toList (Q .normal) f h
        | some .held => opsH P T G enter h ops ops.toList 0 (Q .normal) f (lockAll h)
        | some (.tree t) => opsN P T G enter ops t false (Q .normal) f h
        | _ => False
    | _ => False
/-- a call -/
def callA (P : Program) (T : Tys) (G : Rules) (n : Nat) (g : FuncId) (args : List AV) (h : AH) (K : AV → AH → Prop) : Prop := match P.funcs[g]? with
  | some fn => match fn.body with
    | some c => wpA P T G n g c (fun e f' h' => match e with
        | .exit _ => False
        | _ => resK P f' h' fn.results.toList [] fun l => K (tupA l) h') (args ++ List.replicate (fn.ntmps - args.length) au) h
    | none => False
  | none => False
end AM
end Go
