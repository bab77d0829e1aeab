/- A part of the proof of FilesFitCardSaid: M1, M2, M3, M4, M5, M6, M7. -/
import Derived.RangeFuncLeaves
import Derived.RangeFuncRecord
import Derived.OrdersIn
import Derived.KernelRfl
import Derived.Laws.StructEq
import Derived.Laws.Tables
import Derived.Laws.AppendOwn
import Derived.Great.BuildSlice
import Derived.WideLaws
set_option linter.all false
section
namespace Go.Mm
section
inductive D where
  | bool (b : Bool)
  | int (k : IntKind) (n : Int)
  | str (s : ByteArray)
  | nilp
  | ptr (id ver off : Nat)
  | fptr (cells : List D) (off : Nat)
  | nils
  | zsl
  | osl (id ver esz off len : Nat)
  | fsl (len : Nat) (cells : List D)
  | fn (f : FuncId) (cap : List D)
  | nilf
  | yld (id : Nat)
  | iface (t : TypeId) (d : D)
  | nili
  | agg (cs : List D)
  | tup (ds : List D)
abbrev D.undef : D := .tup []
def litD : D → Bool
  | .bool _ | .int _ _ | .str _ => true
  | _ => false
class Globs where
  glob : Nat → Option (List D)
  lit : ∀ g cs, glob g = some cs → cs.all litD = true
variable [Globs]
abbrev Fr := Nat → D
def upd (fr : Fr) (d : Nat) (v : D) : Fr := fun i => if i = d then v else fr i
def put (fr : Fr) (dst : Option Tmp) (v : D) : Fr := match dst with | some d => upd fr d v | none => fr
inductive Blk where
  | dead
  | cells (ver : Nat) (rw : Bool) (ty : TypeId) (cs : List D)
  | iter (s : ByteArray) (pos : Nat)
  | loop (st : LoopState) (pend : Option Code) (fid : FuncId) (fr : Fr) (n : Nat) (ps : Array Tmp) (asg body : Code)
abbrev Store := List Blk
def ofVal : Value → Option D
  | .bool b => some (.bool b)
  | .int k n => some (.int k n)
  | .string s => some (.str s)
  | .pointer none => some .nilp
  | .slice none 0 0 => some .nils
  | .nilFunc => some .nilf
  | .nilIface => some .nili
  | _ => none
def ofVals : List Value → Option (List D)
  | [] => some []
  | v :: vs => match ofVal v, ofVals vs with
    | some d, some ds => some (d :: ds)
    | _, _ => none
def rd (fr : Fr) : Operand → Option D
  | .tmp t => some (fr t)
  | .const v => ofVal v
  | .func f => some (.fn f [])
  | .global g => match Globs.glob g with
    | some cs => some (.fptr cs 0)
    | none => none
def rds (fr : Fr) : List Operand → Option (List D)
  | [] => some []
  | x :: xs => match rd fr x, rds fr xs with
    | some d, some ds => some (d :: ds)
    | _, _ => none
def lay (P : Program) (t : TypeId) : Option (Bool × Nat) :=
  match P.underlying t, P.info? t with
  | some (.struct _), some i => some (true, i.size)
  | some (.array _ _), some i => some (true, i.size)
  | some _, some i => some (false, i.size)
  | _, _ => none
def zero (P : Program) (t : TypeId) : Option (List D) :=
  match P.info? t with
  | some i => match i.zero with
    | some v => ofVals v.cells.toList
    | none => none
  | none => none
def fo (P : Program) (s : TypeId) (f : Nat) : Option Nat :=
  match P.underlying s with
  | some (.struct fs) => match fs[f]? with
    | some g => match P.info? g.type with
      | some i => if i.size = 0 then none else some g.offset
      | none => none
    | none => none
  | _ => none
def el (P : Program) (t : TypeId) : Option (TypeId × Nat × Nat) :=
  match P.underlying t with
  | some (.slice e) => match P.info? e with
    | some i => some (e, i.size, i.bytes)
    | none => none
  | _ => none
def ar (P : Program) (t : TypeId) : Option (Nat × TypeId × Nat) :=
  match P.underlying t with
  | some (.array n e) => match P.info? e with
    | some i => some (n, e, i.size)
    | none => none
  | _ => none
def isStr (P : Program) (t : TypeId) : Bool := match P.underlying t with | some .string => true | _ => false
def isSlice (P : Program) (t : TypeId) : Bool := match P.underlying t with | some (.slice _) => true | _ => false
def isMapT (P : Program) (t : TypeId) : Bool := match P.underlying t with | some (.map _ _) => true | _ => false
def D.cells? : D → Option (List D)
  | .agg cs => some cs
  | .tup _ => none
  | d => some [d]
def wr (cs : List D) (off : Nat) : List D → List D
  | [] => cs
  | d :: ds => wr (cs.set off d) (off + 1) ds
def ld (P : Program) (t : TypeId) (cs : List D) (off : Nat) : Option D :=
  match lay P t with
  | some (true, n) => if off + n ≤ cs.length then some (.agg ((cs.drop off).take n)) else none
  | some (false, _) => cs[off]?
  | none => none
def ints (op : BinOp) (k : IntKind) (a b : Int) : Option D :=
  match op with
  | .add => some (.int k (k.wrap (a + b)))
  | .sub => some (.int k (k.wrap (a - b)))
  | .mul => some (.int k (k.wrap (a * b)))
  | .quo => if b = 0 then none else some (.int k (k.wrap (a.tdiv b)))
  | .rem => if b = 0 then none else some (.int k (a.tmod b))
  | .and => some (.int k (k.wrap (BitVec.ofInt k.bits a &&& BitVec.ofInt k.bits b).toNat))
  | .or => some (.int k (k.wrap (BitVec.ofInt k.bits a ||| BitVec.ofInt k.bits b).toNat))
  | .xor => some (.int k (k.wrap (BitVec.ofInt k.bits a ^^^ BitVec.ofInt k.bits b).toNat))
  | .andNot => some (.int k (k.wrap (BitVec.ofInt k.bits a &&& ~~~(BitVec.ofInt k.bits b)).toNat))
  | .eql => some (.bool (a == b))
  | .neq => some (.bool (a != b))
  | .lss => some (.bool (decide (a < b)))
  | .leq => some (.bool (decide (a ≤ b)))
  | .gtr => some (.bool (decide (a > b)))
  | .geq => some (.bool (decide (a ≥ b)))
  | _ => none
def shifts (op : BinOp) (k : IntKind) (x : Int) (y : Int) : Option D :=
  if y < 0 then none else
  match op with
  | .shl => some (.int k (k.wrap (x * 2 ^ (min y.toNat k.bits))))
  | .shr => some (.int k (x.fdiv (2 ^ (min y.toNat k.bits))))
  | _ => none
def strs (op : BinOp) (x y : ByteArray) : Option D :=
  match op with
  | .add => if x.size + y.size ≤ 4611686018427387904 then some (.str (x ++ y)) else none
  | .eql => some (.bool (x.toList == y.toList))
  | .neq => some (.bool (!(x.toList == y.toList)))
  | .lss => some (.bool (Op.bytesLess x.toList y.toList))
  | .leq => some (.bool (Op.bytesLess x.toList y.toList || x.toList == y.toList))
  | .gtr => some (.bool (!(Op.bytesLess x.toList y.toList || x.toList == y.toList)))
  | .geq => some (.bool (!Op.bytesLess x.toList y.toList))
  | _ => none
def ptrTy (P : Program) (t : TypeId) : Bool := match P.underlying t with | some (.pointer _) => true | _ => false
def fnTy (P : Program) (t : TypeId) : Bool := match P.underlying t with | some (.func _ _ _) => true | _ => false
def boolTy (P : Program) (t : TypeId) : Bool := match P.underlying t with | some .bool => true | _ => false
def ptrNil : D → Option Bool
  | .nilp => some true
  | .ptr .. | .fptr .. => some false
  | _ => none
def slNil : D → Option Bool
  | .nils => some true
  | .zsl | .osl .. | .fsl .. => some false
  | _ => none
def fnNil : D → Option Bool
  | .nilf => some true
  | .fn .. => some false
  | _ => none
def eql (P : Program) (t : TypeId) (x y : D) : Option Bool :=
  match x, y with
  | .bool a, .bool b => if boolTy P t then some (a == b) else none
  | .nilp, d => if ptrTy P t then ptrNil d else none
  | d, .nilp => if ptrTy P t then ptrNil d else none
  | .nils, d => if isSlice P t then slNil d else none
  | d, .nils => if isSlice P t then slNil d else none
  | .nilf, d => if fnTy P t then fnNil d else none
  | d, .nilf => if fnTy P t then fnNil d else none
  | _, _ => none
def digF (P : Program) : List Field → Nat → Option Nat
  | [], _ => some 0
  | f :: fs, off =>
    if f.name ≠ "_" ∧ f.offset = off then
      match lay P f.type, P.underlying f.type, digF P fs (off + 1) with
      | some (false, _), some .bool, some n => some (1 + 4 * n)
      | some (false, _), some (.int _), some n => some (2 + 4 * n)
      | some (false, _), some .string, some n => some (3 + 4 * n)
      | _, _, _ => none
    else none
def digS (P : Program) (t : TypeId) : Nat :=
  match P.underlying t with
  | some (.struct fs) => if P.stoodInHeld t = false ∧ P.eqGuardType P.depth t = false then (match digF P fs.toList 0 with | some n => n | none => 0) else 0
  | _ => 0
def eqDig : Nat → List D → List D → Option Bool
  | n, .bool a :: xs, .bool b :: ys => if n % 4 = 1 then (if a = b then eqDig (n / 4) xs ys else some false) else none
  | n, .int k a :: xs, .int k' b :: ys => if n % 4 = 2 ∧ k = k' then (if a = b then eqDig (n / 4) xs ys else some false) else none
  | n, .str a :: xs, .str b :: ys => if n % 4 = 3 then (if a = b then eqDig (n / 4) xs ys else some false) else none
  | n, [], [] => if n = 0 then some true else none
  | _, _, _ => none
def eqAgg (n : Nat) (xs ys : List D) : Option Bool := if n = 0 then none else eqDig n xs ys
def bin (P : Program) (op : BinOp) (t : TypeId) (x y : D) : Option D :=
  match x, y with
  | .int k a, .int k' b => match op with
    | .shl | .shr => shifts op k a b
    | _ => if k = k' then ints op k a b else none
  | .str a, .str b => strs op a b
  | .agg xs, .agg ys => match op with
    | .eql => (eqAgg (digS P t) xs ys).map .bool
    | .neq => (eqAgg (digS P t) xs ys).map fun b => .bool (!b)
    | _ => none
  | x, y => match op with
    | .eql => (eql P t x y).map .bool
    | .neq => (eql P t x y).map fun b => .bool (!b)
    | _ => none
def un (op : UnOp) : D → Option D
  | .int k n => match op with
    | .neg => some (.int k (k.wrap (0 - n)))
    | .xor => some (.int k (k.wrap (BitVec.ofInt k.bits (if k.signed then -1 else k.max) ^^^ BitVec.ofInt k.bits n).toNat))
    | _ => none
  | .bool b => match op with
    | .not => some (.bool !b)
    | _ => none
  | _ => none
def pickD (c a b : Option D) : Option D :=
  match c with
  | some (.bool true) => a
  | some (.bool false) => b
  | _ => none
def fillD (place : Nat → Option (Nat × Nat)) (cells : List D) : List (Nat × D) → Option (List D)
  | [] => some cells
  | (i, v) :: rest => match place i with
    | none => none
    | some (off, size) => match v.cells? with
      | some vc => if vc.length ≠ size || off + vc.length > cells.length then none else fillD place (wr cells off vc) rest
      | none => none
def rdp (fr : Fr) : List (Nat × Operand) → Option (List (Nat × D))
  | [] => some []
  | (i, x) :: xs => match rd fr x, rdp fr xs with
    | some d, some ds => some ((i, d) :: ds)
    | _, _ => none
def places (P : Program) (t : TypeId) (i : Nat) : Option (Nat × Nat) :=
  match P.underlying t with
  | some (.struct fs) => match fs.toList.mapM (fun f => (P.info? f.type).map fun i => (f.offset, i.size)) with
    | some l => l[i]?
    | none => none
  | some (.array _ e) => match P.info? e with
    | some g => some (i * g.size, g.size)
    | none => none
  | _ => none
def plOk (P : Program) (t : TypeId) : Bool :=
  match P.underlying t with
  | some (.struct fs) => (fs.toList.mapM (fun f => (P.info? f.type).map fun i => (f.offset, i.size))).isSome
  | some (.array _ e) => (P.info? e).isSome
  | _ => false
def rep (z : List D) : Nat → List D
  | 0 => []
  | n + 1 => z ++ rep z n
def bound (d : Option D) (dflt top : Nat) : Option Nat :=
  match d with
  | none => some dflt
  | some (.int _ i) => if 0 ≤ i ∧ i ≤ (top : Int) then some i.toNat else none
  | _ => none
def sliceD (P : Program) (t : TypeId) (x : D) (lo hi : Option D) : Option D :=
  match x with
  | .str s =>
    if isStr P t then
      match bound hi s.size s.size with
      | some h => match bound lo 0 h with
        | some l => some (.str (s.extract l h))
        | none => none
      | none => none
    else none
  | .nils => match el P t with
    | some _ =>
      match bound hi 0 0 with
      | some h => match bound lo 0 h with
        | some _ => some .nils
        | none => none
      | none => none
    | none => none
  | .osl id ver esz off len => match el P t with
    | some (_, sz, _) =>
      if sz = esz then
        match bound hi len len with
        | some h => match bound lo 0 h with
          | some l => some (.osl id ver esz (off + l * esz) (h - l))
          | none => none
        | none => none
      else none
    | none => none
  | .fsl len cells => match el P t with
    | some (_, sz, _) =>
      match bound hi len len with
      | some h => match bound lo 0 h with
        | some l => some (.fsl (h - l) ((cells.drop (l * sz)).take ((h - l) * sz)))
        | none => none
      | none => none
    | none => none
  | _ => none
def slice00 (P : Program) (t : TypeId) (x : D) (lo hi mx : Option D) : Option D :=
  match x, lo, hi, mx with
  | .nils, none, some (.int _ 0), some (.int _ 0) => if (el P t).isSome then some .nils else none
  | .osl .., none, some (.int _ 0), some (.int _ 0) => if (el P t).isSome then some .zsl else none
  | .fsl .., none, some (.int _ 0), some (.int _ 0) => if (el P t).isSome then some .zsl else none
  | .zsl, none, some (.int _ 0), some (.int _ 0) => if (el P t).isSome then some .zsl else none
  | _, _, _, _ => none
def idx (i : Int) (n : Nat) : Option Nat := if 0 ≤ i ∧ i < (n : Int) then some i.toNat else none
def indexAddrD (P : Program) (t : TypeId) (x i : D) : Option D :=
  match i with
  | .int _ i => match x with
    | .osl id ver esz off len => match el P t, idx i len with
      | some (_, sz, _), some j => if sz = esz then some (.ptr id ver (off + j * esz)) else none
      | _, _ => none
    | .fsl len cells => match el P t, idx i len with
      | some (_, sz, _), some j => some (.fptr cells (j * sz))
      | _, _ => none
    | .ptr id ver off => match ar P t with
      | some (n, _, sz) => match idx i n with
        | some j => some (.ptr id ver (off + j * sz))
        | none => none
      | none => none
    | .fptr cells off => match ar P t with
      | some (n, _, sz) => match idx i n with
        | some j => some (.fptr cells (off + j * sz))
        | none => none
      | none => none
    | _ => none
  | _ => none
def partD (P : Program) (t : TypeId) (cs : List D) (off : Nat) : Option D := ld P t cs off
def indexD (P : Program) (t : TypeId) (x i : D) : Option D :=
  match i with
  | .int _ i => match x with
    | .agg cs => match ar P t with
      | some (n, e, sz) => match idx i n with
        | some j => partD P e cs (j * sz)
        | none => none
      | none => none
    | .str s => if isStr P t then match idx i s.size with
        | some j => some (.int .u8 (s.data.toList[j]?.getD 0).toNat)
        | none => none
      else none
    | _ => none
  | _ => none
def fieldD (P : Program) (t : TypeId) (x : D) (f : Nat) : Option D :=
  match x, P.underlying t with
  | .agg cs, some (.struct fs) => match fs[f]? with
    | some g => partD P g.type cs g.offset
    | none => none
  | _, _ => none
def convD (P : Program) (src dst : TypeId) (x : D) : Option D :=
  match P.underlying src, P.underlying dst, x with
  | some (.int _), some (.int k), .int _ n => some (.int k (k.wrap n))
  | some .string, some .string, .str s => some (.str s)
  | _, _, _ => none
def bytesOf : List D → Option (List UInt8)
  | [] => some []
  | .int .u8 n :: ds => match bytesOf ds with
    | some l => some (UInt8.ofNat n.toNat :: l)
    | none => none
  | _ => none
def ofBytes (l : List UInt8) : List D := l.map fun b => .int .u8 b.toNat
def cellsOf (st : Store) (esz : Nat) : D → Option (List D)
  | .nils => some []
  | .zsl => some []
  | .fsl len cells => if cells.length = len * esz then some cells else none
  | .osl id ver e off len => match st[id]? with
    | some (.cells v _ _ cs) => if v = ver ∧ e = esz ∧ off + len * esz ≤ cs.length then some ((cs.drop off).take (len * esz)) else none
    | _ => none
  | _ => none
def lenOf : D → Option Nat
  | .nils => some 0
  | .zsl => some 0
  | .fsl len _ => some len
  | .osl _ _ _ _ len => some len
  | .str s => some s.size
  | _ => none
def stepOp (P : Program) (fr : Fr) (st : Store) (o : Op) : Option (D × Store) :=
  match o with
  | .move x | .assign x => (rd fr x).map (·, st)
  | .pick c a b => (pickD (rd fr c) (rd fr a) (rd fr b)).map (·, st)
  | .alloc t => match zero P t with
    | some z => some (.ptr st.length 0 0, st ++ [.cells 0 true t z])
    | none => none
  | .box t x => match rd fr x with
    | some d => match d.cells? with
      | some cs => some (.ptr st.length 0 0, st ++ [.cells 0 true t cs])
      | none => none
    | none => none
  | .build t parts => match zero P t, rdp fr parts.toList with
    | some z, some ps => if plOk P t then
        match fillD (places P t) z ps with
        | some cs => some (.agg cs, st)
        | none => none
      else none
    | _, _ => none
  | .buildSlice t len parts => match el P t, rdp fr parts.toList with
    | some (e, sz, _), some ps =>
      if len * sz > 16777216 then none else
      match zero P e with
      | some z => if z.length = sz then
          match fillD (fun i => some (i * sz, sz)) (rep z len) ps with
          | some cs => some (.osl st.length 0 sz 0 len, st ++ [.cells 0 true e cs])
          | none => none
        else none
      | none => none
    | _, _ => none
  | .load t x => match rd fr x with
    | some (.ptr id ver off) => match st[id]? with
      | some (.cells v _ _ cs) => if v = ver then (ld P t cs off).map (·, st) else none
      | _ => none
    | some (.fptr cs off) => (ld P t cs off).map (·, st)
    | _ => none
  | .store t x v => match rd fr x, rd fr v with
    | some (.ptr id ver off), some d => match st[id]?, lay P t, d.cells? with
      | some (.cells w true ty cs), some (_, n), some vc =>
        if w = ver ∧ vc.length = n ∧ off + n ≤ cs.length then some (.undef, st.set id (.cells w true ty (wr cs off vc))) else none
      | _, _, _ => none
    | _, _ => none
  | .nilCheck x => match rd fr x with
    | some (.ptr id ver off) => some (.ptr id ver off, st)
    | some (.fptr cs off) => some (.fptr cs off, st)
    | some (.fn f c) => some (.fn f c, st)
    | some (.yld id) => some (.yld id, st)
    | _ => none
  | .binOp op t x y _ => match rd fr x, rd fr y with
    | some a, some b => (bin P op t a b).map (·, st)
    | _, _ => none
  | .unOp op _ x => match rd fr x with
    | some a => (un op a).map (·, st)
    | none => none
  | .convert src dst x => match rd fr x with
    | some a => match convD P src dst a with
      | some d => some (d, st)
      | none => match P.underlying src, P.underlying dst, a with
        | some (.slice e), some .string, d => match P.underlying e, cellsOf st 1 d with
          | some (.int .u8), some cs => match bytesOf cs with
            | some l => some (.str ⟨l.toArray⟩, st)
            | none => none
          | _, _ => none
        | _, _, _ => none
    | none => none
  | .makeFunc (.func f) first caps => match first.toList, rds fr caps.toList with
    | [], some ds => some (.fn f ds, st)
    | _, _ => none
  | .makeSlice t l c => match el P t, rd fr l, rd fr c with
    | some (e, sz, bytes), some (.int _ n), some (.int _ m) =>
      if n = m ∧ 0 ≤ n ∧ (bytes : Int) * n ≤ 281474976710656 ∧ n ≤ 281474976710656 then
        match zero P e with
        | some z => if z.length = sz then some (.osl st.length 0 sz 0 n.toNat, st ++ [.cells 0 true e (rep z n.toNat)]) else none
        | none => none
      else none
    | _, _, _ => none
  | .slice t x lo hi mx => match rd fr x, rds fr lo.toList, rds fr hi.toList, rds fr mx.toList with
    | some d, some l, some h, some [] => (sliceD P t d l.head? h.head?).map (·, st)
    | some d, some l, some h, some m => (slice00 P t d l.head? h.head? m.head?).map (·, st)
    | _, _, _, _ => none
  | .fieldAddr s x f => match rd fr x, fo P s f with
    | some (.ptr id ver off), some g => some (.ptr id ver (off + g), st)
    | some (.fptr cs off), some g => some (.fptr cs (off + g), st)
    | _, _ => none
  | .field t x f => match rd fr x with
    | some d => (fieldD P t d f).map (·, st)
    | none => none
  | .indexAddr t x i => match rd fr x, rd fr i with
    | some d, some j => (indexAddrD P t d j).map (·, st)
    | _, _ => none
  | .index t x i => match rd fr x, rd fr i with
    | some d, some j => (indexD P t d j).map (·, st)
    | _, _ => none
  | .range t x => match rd fr x with
    | some (.str s) => if isStr P t then some (.ptr st.length 0 0, st ++ [.iter s 0]) else none
    | _ => none
  | .next x true => match rd fr x with
    | some (.ptr id 0 0) => match st[id]? with
      | some (.iter s pos) =>
        if pos < s.size then
          some (.tup [.bool true, .int .i64 pos, .int .i32 (Utf8.decode s pos).1], st.set id (.iter s (pos + (Utf8.decode s pos).2)))
        else some (.tup [.bool false], st)
      | _ => none
    | _ => none
  | .extract x i => match rd fr x with
    | some (.tup ds) => (ds[i]?).map (·, st)
    | _ => none
  | _ => none
def lenD (P : Program) (t : TypeId) : D → Option D
  | .str s => if isStr P t then some (.int .i64 s.size) else none
  | .agg _ => none
  | d => if isSlice P t then (match lenOf d with | some n => some (.int .i64 n) | none => none) else none
def minD : D → D → Option D
  | .int k x, .int _ y => some (.int k (if y < x then y else x))
  | _, _ => none
def maxD : D → D → Option D
  | .int k x, .int _ y => some (.int k (if y > x then y else x))
  | _, _ => none
def foldD (f : D → D → Option D) : D → List D → Option D
  | a, [] => some a
  | a, b :: r => match f a b with
    | some c => foldD f c r
    | none => none
def zeroOk (P : Program) (e : TypeId) (sz : Nat) : Bool := match zero P e with | some z => z.length == sz | none => false
def srcCells (st : Store) (esz : Nat) : D → Option (List D)
  | .str s => if esz = 1 then some (ofBytes s.data.toList) else none
  | d => cellsOf st esz d
def appendD (P : Program) (st : Store) (t t2 : TypeId) (s x : D) : Option (D × Store) :=
  match el P t with
  | some (e, sz, bytes) =>
    if isSlice P t2 || isStr P t2 then
      match srcCells st sz x, lenOf x with
      | some new, some n =>
        if n = 0 then (if (slNil s).isSome then some (s, st) else none) else
        if 1 ≤ sz ∧ zeroOk P e sz = true then
          match s with
          | .nils | .zsl => if n * bytes ≤ 70368744177664 ∧ n ≤ 70368744177664 then some (.osl st.length 0 sz 0 n, st ++ [.cells 0 true e new]) else none
          | .osl id ver es off len => match st[id]? with
            | some (.cells v true ty cs) =>
              if v = ver ∧ es = sz ∧ off + len * sz ≤ cs.length ∧ ty = e ∧ (len + n) * bytes ≤ 70368744177664 ∧ len + n ≤ 70368744177664 then
                some (.osl id (ver + 1) sz 0 (len + n), st.set id (.cells (ver + 1) true e ((cs.drop off).take (len * sz) ++ new)))
              else none
            | _ => none
          | _ => none
        else none
      | _, _ => none
    else none
  | none => none
def copyD (P : Program) (st : Store) (t : TypeId) (d x : D) : Option (D × Store) :=
  match el P t with
  | some (_, sz, _) =>
    match srcCells st sz x, lenOf x, lenOf d with
    | some new, some n, some m =>
      if min n m = 0 then (if (slNil d).isSome then some (.int .i64 0, st) else none) else
      match d with
      | .osl id ver es off len => match st[id]? with
        | some (.cells v true ty cs) =>
          if v = ver ∧ es = sz ∧ off + len * sz ≤ cs.length then
            some (.int .i64 (min n m : Nat), st.set id (.cells v true ty (wr cs off (new.take (min n m * sz)))))
          else none
        | _ => none
      | _ => none
    | _, _, _ => none
  | none => none
def clearD (P : Program) (st : Store) (t : TypeId) (x : D) : Option (D × Store) :=
  match el P t with
  | some (e, sz, _) => match zero P e with
    | some z => if z.length = sz then
        match x with
        | .nils => some (.tup [], st)
        | .zsl => some (.tup [], st)
        | .osl id ver es off len => match st[id]? with
          | some (.cells v true ty cs) =>
            if v = ver ∧ es = sz ∧ off + len * sz ≤ cs.length then some (.tup [], st.set id (.cells v true ty (wr cs off (rep z len)))) else none
          | _ => none
        | _ => none
      else none
    | none => none
  | none => none
def builtinD (P : Program) (st : Store) (b : Builtin) (ts : List TypeId) (args : List D) : Option (D × Store) :=
  match b, ts, args with
  | .len, t :: _, [x] => (lenD P t x).map (·, st)
  | .min, _, x :: r => (foldD minD x r).map (·, st)
  | .max, _, x :: r => (foldD maxD x r).map (·, st)
  | .append, [t, t2], [s, x] => appendD P st t t2 s x
  | .copy, t :: _, [d, x] => copyD P st t d x
  | .clear, t :: _, [x] => clearD P st t x
  | _, _, _ => none
def opndOk (n : Nat) : Operand → Bool
  | .tmp t => decide (t < n)
  | _ => true
def opOk (n : Nat) (o : Op) : Bool := o.operands.toList.all (opndOk n)
def guardOk (n : Nat) (ops : Array Oper) (o : Oper) : Bool :=
  match o.guard with
  | none => true
  | some (j, _) => match (ops[j]?).bind (·.dst) with
    | some d => decide (d < n)
    | none => true
def noDefer : Op → Bool
  | .defer _ => false
  | _ => true
def operOk (n : Nat) (ops : Array Oper) (o : Oper) : Bool := opOk n o.op && guardOk n ops o && noDefer o.op
def addNew (m : List Nat) : List Nat → List Nat
  | [] => m
  | i :: l => if m.contains i then addNew m l else addNew (m ++ [i]) l
inductive Kind where
  | pure
  | read
  | eff
  deriving DecidableEq
def kind : Op → Kind
  | .move _ | .assign _ | .pick .. | .build .. | .nilCheck _ | .binOp .. | .unOp .. | .makeFunc .. | .slice .. | .fieldAddr .. | .field .. | .indexAddr .. | .index .. | .extract .. => .pure
  | .load .. | .convert .. => .read
  | .call c => match c.callee with
    | .builtin .len | .builtin .min | .builtin .max => .pure
    | _ => .eff
  | _ => .eff
def ancsOf (ms : List (List Nat)) : List Edge → List Nat → List Nat
  | [], acc => acc
  | e :: es, acc => ancsOf ms es (if Region.binds .any e then addNew acc (e.on :: (ms[e.on]?).getD []) else acc)
def ancs : List Oper → List (List Nat) → List (List Nat)
  | [], ms => ms
  | o :: l, ms => ancs l (ms ++ [ancsOf ms o.after.toList []])
def clash : Kind → Kind → Bool
  | .read, .eff => true
  | .eff, .read => true
  | .eff, .eff => true
  | _, _ => false
def conflOf (a : List Nat) (x : Oper) : List Oper → Nat → List Nat
  | [], _ => []
  | y :: l, j => if !a.contains j && clash (kind y.op) (kind x.op) then j :: conflOf a x l (j + 1) else conflOf a x l (j + 1)
def confl (ops : List Oper) (ms : List (List Nat)) : List Oper → Nat → List (Nat × Nat)
  | [], _ => []
  | x :: l, i => ((conflOf ((ms[i]?).getD []) x (ops.take i) 0).map fun j => (j, i)) ++ confl ops ms l (i + 1)
def pairsOf (all : Array Oper) (a : List Nat) (x : Oper) : List Oper → Nat → Bool
  | [], _ => true
  | y :: l, j => (a.contains j || y.apart all x) && pairsOf all a x l (j + 1)
def pairsOk (all : Array Oper) (ops : List Oper) (ms : List (List Nat)) : List Oper → Nat → Bool
  | [], _ => true
  | x :: l, i => (x.after.toList.all fun e => !Region.binds .any e || decide (e.on < i)) && pairsOf all ((ms[i]?).getD []) x (ops.take i) 0 && pairsOk all ops ms l (i + 1)
def drawnOk (ops : Array Oper) : Bool := pairsOk ops ops.toList (ancs ops.toList []) ops.toList 0
def conflicts (ops : Array Oper) : List (Nat × Nat) := confl ops.toList (ancs ops.toList []) ops.toList 0
def codeOk (inr : Bool) (n : Nat) : Code → Bool
  | .region _ ops false => ops.toList.all (operOk n ops)
  | .region _ ops true => ops.toList.all (operOk n ops) && drawnOk ops
  | .seq a b => codeOk inr n a && codeOk inr n b
  | .cond c a b => opndOk n c && codeOk inr n a && codeOk inr n b
  | .block _ c => codeOk inr n c
  | .loop c => codeOk inr n c
  | .scope c => codeOk inr n c
  | .rangeFunc f _ a b => !inr && opndOk n f && codeOk true n a && codeOk true n b
  | _ => true
def resVarOk (n : Nat) : ResultVar → Bool
  | .tmp t => decide (t < n)
  | .cell a _ => decide (a < n)
def funcOk (fn : Func) : Bool :=
  (fn.name != "runtime.NumGoroutine") && fn.results.toList.all (resVarOk fn.ntmps) &&
    match fn.body with
    | some c => codeOk false fn.ntmps c
    | none => true
end
end Go.Mm
end
section
namespace Go.Mm
variable [Globs]
section
def one : Value → Bool
  | .agg _ | .tuple _ => false
  | _ => true
structure Loc where
  ver : Nat
  b : Nat
  sz : Nat
  rw : Bool
  base : Nat := 0
  z : ver = 0 → base = 0 := by first | exact fun _ => rfl | (intro h; omega)
structure Real where
  w : World
  bl : Nat → Option Loc
  n : Nat
  hot : Nat → Prop
def Row (S : Real) (b o : Nat) (vs : List Value) : Prop :=
  vs = [] ∨ (¬ S.hot b ∧ ∀ i (h : i < vs.length), S.w.cell? ⟨b, o + i, none⟩ = some vs[i])
def One (vs : List Value) : Prop := ∀ v ∈ vs, one v = true
mutual
def R (S : Real) : D → Value → Prop
  | .bool b, v => v = .bool b
  | .int k n, v => v = .int k n
  | .str s, v => v = .string s
  | .nilp, v => v = .pointer none
  | .ptr id ver off, v => ∃ a, v = .pointer (some a) ∧ id < S.n ∧ ∀ l, S.bl id = some l → ver ≤ l.ver ∧ (ver = l.ver → a = ⟨l.b, l.base + off, none⟩)
  | .fptr cs off, v => ∃ b o vs, v = .pointer (some ⟨b, o + off, none⟩) ∧ RL S cs vs ∧ Row S b o vs ∧ One vs
  | .nils, v => v = .slice none 0 0
  | .zsl, v => ∃ a, v = .slice (some a) 0 0
  | .osl id ver esz off len, v => ∃ a cap, v = .slice (some a) len cap ∧ len ≤ cap ∧ id < S.n ∧ ∀ l, S.bl id = some l → ver ≤ l.ver ∧ (ver = l.ver → (len = 0 ∧ off ≠ 0 ∧ cap = 0) ∨ (a = ⟨l.b, l.base + off, none⟩ ∧ l.base + off + cap * esz ≤ l.sz))
  | .fsl len cs, v => ∃ b o vs cap, v = .slice (some ⟨b, o, none⟩) len cap ∧ len ≤ cap ∧ RL S cs vs ∧ Row S b o vs ∧ One vs
  | .fn f caps, v => ∃ vs, v = .func (.func f) #[] vs.toArray ∧ RL S caps vs
  | .nilf, v => v = .nilFunc
  | .yld id, v => ∃ l, v = .func (.yield l) #[] #[] ∧ id < S.n ∧ ∀ m, S.bl id = some m → 0 ≤ m.ver ∧ (0 = m.ver → l = m.b)
  | .iface t d, v => ∃ x, v = .iface t x ∧ R S d x
  | .nili, v => v = .nilIface
  | .agg cs, v => ∃ vs, v = .agg vs.toArray ∧ RL S cs vs ∧ One vs
  | .tup ds, v => ∃ vs, v = .tuple vs.toArray ∧ RL S ds vs
def RL (S : Real) : List D → List Value → Prop
  | [], vs => vs = []
  | d :: ds, vs => ∃ v vs', vs = v :: vs' ∧ R S d v ∧ RL S ds vs'
end
def GR (S : Real) : Prop := ∀ g cs, Globs.glob g = some cs → R S (.fptr cs 0) (.pointer (some ⟨g, 0, none⟩))
def FrR (S : Real) (fr : Fr) (n : Nat) (tm : Array Value) : Prop := tm.size = n ∧ (∀ i, i < n → R S (fr i) (tm.getD i Go.undef)) ∧ GR S
def unfrozen (fr : Nat × Nat) (sz : Nat) : Prop := ∀ off, off ≤ sz → (decide (fr.1 ≤ off) && decide (off < fr.2)) = false
def RB (S : Real) (id : Nat) : Blk → Prop
  | .dead => S.bl id = none
  | .cells ver rw ty cs => ∃ (l : Loc) (vs0 vs1 vs2 : List Value) (fr : Nat × Nat), S.bl id = some l ∧ l.ver = ver ∧ S.w.heap[l.b]? = some (.cells (vs0 ++ (vs1 ++ vs2)).toArray ty fr) ∧
      (vs0 ++ (vs1 ++ vs2)).length = l.sz ∧ RL S cs vs1 ∧ One (vs0 ++ (vs1 ++ vs2)) ∧ vs0.length = l.base ∧ l.rw = rw ∧ (rw = true → S.hot l.b ∧ unfrozen fr l.sz)
  | .iter s pos => ∃ l : Loc, S.bl id = some l ∧ (l.ver = 0 ∧ l.base = 0) ∧ l.rw = true ∧ S.hot l.b ∧ S.w.heap[l.b]? = some (.stringIter s pos)
  | .loop st pend fid fr n ps asg body => ∃ (l : Loc) (tm : Array Value) (df fn : Nat), S.bl id = some l ∧ l.ver = 0 ∧ l.rw = true ∧ S.hot l.b ∧
      S.w.heap[l.b]? = some (.loop { state := st, pending := pend, fn := fn, tmps := tm, params := ps, assign := asg, body := body, defers := df }) ∧ codeOk true n asg = true ∧ codeOk true n body = true ∧ FrR S fr n tm
structure SR (S : Real) (st : Store) : Prop where
  len : S.n = st.length
  blk : ∀ id b, st[id]? = some b → RB S id b
  out : ∀ id, S.n ≤ id → S.bl id = none
  inj : ∀ i j l m, S.bl i = some l → S.bl j = some m → l.b = m.b → i = j
  lt : ∀ i l, S.bl i = some l → l.b < S.w.heap.size
  hlt : ∀ b, S.hot b → b < S.w.heap.size
  glob : GR S
def Mine (S : Real) (b : Nat) : Prop := ∃ i l, S.bl i = some l ∧ l.b = b ∧ l.rw = true
structure Ext (S S' : Real) : Prop where
  size : S.w.heap.size ≤ S'.w.heap.size
  n : S.n ≤ S'.n
  keep : ∀ b, b < S.w.heap.size → ¬ (S.hot b ∧ Mine S b) → S'.w.heap[b]? = S.w.heap[b]?
  hot1 : ∀ b, b < S.w.heap.size → S'.hot b → S.hot b
  hot2 : ∀ b, S.hot b → ¬ Mine S b → S'.hot b
  live : ∀ i l', i < S.n → S'.bl i = some l' → ∃ l, S.bl i = some l ∧ (l' = l ∨ (l.ver < l'.ver ∧ l.rw = true ∧ (l'.b = l.b ∨ S.w.heap.size ≤ l'.b)))
  new : ∀ i l', S.n ≤ i → S'.bl i = some l' → S.w.heap.size ≤ l'.b
  os : S'.w.os = S.w.os
  tape : S'.w.tape = S.w.tape
  output : S'.w.output = S.w.output
  hlt : ∀ b, S.hot b → b < S.w.heap.size
theorem Ext.refl {S : Real} (ho : ∀ id, S.n ≤ id → S.bl id = none) (hl : ∀ b, S.hot b → b < S.w.heap.size) : Ext S S where
  size := Nat.le_refl _
  n := Nat.le_refl _
  keep _ _ _ := rfl
  hot1 _ _ h := h
  hot2 _ h _ := h
  live i l' _ h := ⟨l', h, .inl rfl⟩
  new i l' h h' := by rw [ho i h] at h'; cases h'
  os := rfl
  tape := rfl
  output := rfl
  hlt := hl
theorem SR.refl {S : Real} {st : Store} (h : SR S st) : Ext S S := Ext.refl h.out h.hlt
theorem Ext.mine {S S' : Real} (h : Ext S S') {b : Nat} (hb : b < S.w.heap.size) (hm : Mine S' b) : Mine S b := by
  obtain ⟨i, l', hl, rfl, hrw⟩ := hm
  by_cases hi : i < S.n
  · obtain ⟨l, h1, h2⟩ := h.live i l' hi hl
    rcases h2 with rfl | ⟨_, hw, h3 | h3⟩
    · exact ⟨i, _, h1, rfl, hrw⟩
    · exact ⟨i, l, h1, h3.symm, hw⟩
    · omega
  · have := h.new i l' (by omega) hl
    omega
theorem Ext.trans {S S1 S2 : Real} (h : Ext S S1) (k : Ext S1 S2) : Ext S S2 where
  size := Nat.le_trans h.size k.size
  n := Nat.le_trans h.n k.n
  keep b hb hn := by
    rw [k.keep b (Nat.lt_of_lt_of_le hb h.size) (fun ⟨h1, h2⟩ => hn ⟨h.hot1 b hb h1, h.mine hb h2⟩)]
    exact h.keep b hb hn
  hot1 b hb h2 := h.hot1 b hb (k.hot1 b (Nat.lt_of_lt_of_le hb h.size) h2)
  hot2 b hh hm := by
    refine k.hot2 b (h.hot2 b hh hm) (fun hm1 => ?_)
    exact hm (h.mine (h.hlt b hh) hm1)
  live i l2 hi hl := by
    obtain ⟨l1, h1, h2⟩ := k.live i l2 (Nat.lt_of_lt_of_le hi h.n) hl
    obtain ⟨l0, h3, h4⟩ := h.live i l1 hi h1
    refine ⟨l0, h3, ?_⟩
    have hs := h.size
    rcases h2 with rfl | ⟨hv, hw, hb⟩
    · exact h4
    · rcases h4 with rfl | ⟨hv', hw', hb'⟩
      · exact .inr ⟨hv, hw, by omega⟩
      · exact .inr ⟨by omega, hw', by omega⟩
  new i l2 hi hl := by
    have hs := h.size
    by_cases h1 : i < S1.n
    · obtain ⟨l1, h2, h3⟩ := k.live i l2 h1 hl
      have := h.new i l1 hi h2
      rcases h3 with rfl | ⟨_, _, h3⟩
      · exact this
      · omega
    · have := k.new i l2 (by omega) hl
      omega
  os := k.os.trans h.os
  tape := k.tape.trans h.tape
  output := k.output.trans h.output
  hlt := h.hlt
theorem cell_lt {w : World} {a : Addr} {v : Value} (h : w.cell? a = some v) : a.block < w.heap.size := by
  unfold World.cell? at h
  by_cases hb : a.block < w.heap.size
  · exact hb
  · rw [Array.getElem?_eq_none (by omega)] at h
    cases h
theorem cell_of_block {w w' : World} {a : Addr} (h : w'.heap[a.block]? = w.heap[a.block]?) : w'.cell? a = w.cell? a := by
  unfold World.cell?; rw [h]
structure ExtW (S S' : Real) : Prop where
  n : S.n ≤ S'.n
  keep : ∀ b cs t fr, ¬ S.hot b → S.w.heap[b]? = some (.cells cs t fr) → S'.w.heap[b]? = S.w.heap[b]?
  hot1 : ∀ b, b < S.w.heap.size → S'.hot b → S.hot b
  live : ∀ i l', i < S.n → S'.bl i = some l' → ∃ l, S.bl i = some l ∧ (l' = l ∨ l.ver < l'.ver)
theorem block_lt' {w : World} {b : Nat} {o : Obj} (h : w.heap[b]? = some o) : b < w.heap.size := by
  by_cases hb : b < w.heap.size
  · exact hb
  · rw [Array.getElem?_eq_none (by omega)] at h; cases h
theorem Ext.w {S S' : Real} (h : Ext S S') : ExtW S S' where
  n := h.n
  keep b cs t fr hh hb := h.keep b (block_lt' hb) (fun x => hh x.1)
  hot1 := h.hot1
  live i l' hi hl := by
    obtain ⟨l, h1, h2⟩ := h.live i l' hi hl
    exact ⟨l, h1, h2.imp id (·.1)⟩
theorem Row_monoW {S S' : Real} (h : ExtW S S') {b o : Nat} {vs : List Value} (hr : Row S b o vs) : Row S' b o vs := by
  rcases hr with rfl | ⟨hb, hc⟩
  · exact .inl rfl
  · cases vs with
    | nil => exact .inl rfl
    | cons v vs =>
      have hlt : b < S.w.heap.size := cell_lt (hc 0 (by simp))
      refine .inr ⟨fun hh => hb (h.hot1 b hlt hh), fun i hi => ?_⟩
      rw [← hc i hi]
      have h0 := hc 0 (by simp)
      unfold World.cell? at h0
      split at h0
      · rename_i cs t fr hbk
        exact cell_of_block (h.keep b cs t fr hb hbk)
      · cases h0
theorem loc_mono {S S' : Real} (h : ExtW S S') {id ver : Nat} {Q : Loc → Prop} (hid : id < S.n) (hl : ∀ l, S.bl id = some l → ver ≤ l.ver ∧ (ver = l.ver → Q l)) :
    ∀ l, S'.bl id = some l → ver ≤ l.ver ∧ (ver = l.ver → Q l) := by
  intro l' h'
  obtain ⟨l, h1, h2⟩ := h.live id l' hid h'
  have := hl l h1
  rcases h2 with rfl | hv
  · exact this
  · exact ⟨by omega, fun e => by omega⟩
mutual
theorem R_monoW {S S' : Real} (h : ExtW S S') : (d : D) → (v : Value) → R S d v → R S' d v
  | .bool _, _, hr => by simpa only [R] using hr
  | .int _ _, _, hr => by simpa only [R] using hr
  | .str _, _, hr => by simpa only [R] using hr
  | .nilp, _, hr => by simpa only [R] using hr
  | .nils, _, hr => by simpa only [R] using hr
  | .zsl, _, hr => by simpa only [R] using hr
  | .nilf, _, hr => by simpa only [R] using hr
  | .nili, _, hr => by simpa only [R] using hr
  | .ptr id ver off, _, hr => by
    simp only [R] at hr ⊢
    obtain ⟨a, h1, h2, h3⟩ := hr
    exact ⟨a, h1, Nat.lt_of_lt_of_le h2 h.n, loc_mono h h2 h3⟩
  | .osl id ver esz off len, _, hr => by
    simp only [R] at hr ⊢
    obtain ⟨a, cap, h1, hc, h2, h3⟩ := hr
    exact ⟨a, cap, h1, hc, Nat.lt_of_lt_of_le h2 h.n, loc_mono h h2 h3⟩
  | .fptr cs off, _, hr => by
    simp only [R] at hr ⊢
    obtain ⟨b, o, vs, h1, h2, h3, h4⟩ := hr
    exact ⟨b, o, vs, h1, RL_monoW h cs vs h2, Row_monoW h h3, h4⟩
  | .fsl len cs, _, hr => by
    simp only [R] at hr ⊢
    obtain ⟨b, o, vs, cap, h1, hc, h2, h3, h4⟩ := hr
    exact ⟨b, o, vs, cap, h1, hc, RL_monoW h cs vs h2, Row_monoW h h3, h4⟩
  | .fn f caps, _, hr => by
    simp only [R] at hr ⊢
    obtain ⟨vs, h1, h2⟩ := hr
    exact ⟨vs, h1, RL_monoW h caps vs h2⟩
  | .yld id, _, hr => by
    simp only [R] at hr ⊢
    obtain ⟨l, h1, h2, h3⟩ := hr
    exact ⟨l, h1, Nat.lt_of_lt_of_le h2 h.n, loc_mono h h2 h3⟩
  | .iface t d, _, hr => by
    simp only [R] at hr ⊢
    obtain ⟨x, h1, h2⟩ := hr
    exact ⟨x, h1, R_monoW h d x h2⟩
  | .agg cs, _, hr => by
    simp only [R] at hr ⊢
    obtain ⟨vs, h1, h2, h3⟩ := hr
    exact ⟨vs, h1, RL_monoW h cs vs h2, h3⟩
  | .tup cs, _, hr => by
    simp only [R] at hr ⊢
    obtain ⟨vs, h1, h2⟩ := hr
    exact ⟨vs, h1, RL_monoW h cs vs h2⟩
theorem RL_monoW {S S' : Real} (h : ExtW S S') : (ds : List D) → (vs : List Value) → RL S ds vs → RL S' ds vs
  | [], _, hr => by simpa only [RL] using hr
  | d :: ds, _, hr => by
    simp only [RL] at hr ⊢
    obtain ⟨v, vs', h1, h2, h3⟩ := hr
    exact ⟨v, vs', h1, R_monoW h d v h2, RL_monoW h ds vs' h3⟩
end
theorem GR_mono {S S' : Real} (h : ExtW S S') (hg : GR S) : GR S' := fun g cs hc => R_monoW h _ _ (hg g cs hc)
theorem RL_mono {S S' : Real} (h : Ext S S') (ds : List D) (vs : List Value) (hr : RL S ds vs) : RL S' ds vs := RL_monoW h.w ds vs hr
end
section
variable {P : Program}
theorem run_program (w : World) : (program).run P w = .ok P w := rfl
theorem run_und {t : TypeId} {d : TypeDesc} (h : P.underlying t = some d) (w : World) : (underlying t).run P w = .ok d w := by
  simp [underlying, Sem.run_bind, run_program, Result.andThen, h, Sem.run, pure]
theorem run_info {t : TypeId} {i : TypeInfo} (h : P.info? t = some i) (w : World) : (typeInfo t).run P w = .ok i w := by
  simp [typeInfo, Sem.run_bind, run_program, Result.andThen, h, Sem.run, pure]
theorem run_size {t : TypeId} {i : TypeInfo} (h : P.info? t = some i) (w : World) : (sizeOf t).run P w = .ok i.size w := by
  simp [sizeOf, Sem.run_bind, run_info h, Result.andThen, Sem.run, pure]
theorem run_load {w : World} {a : Addr} {v : Value} (h : w.cell? a = some v) : (load a).run P w = .ok v w := by
  simp [load, Sem.run, h]
theorem run_loadCellsFrom {w : World} {a : Addr} (vs : List Value) : ∀ (i : Nat) (acc : Array Value),
    (∀ j (h : j < vs.length), w.cell? (a.add (i + j)) = some vs[j]) → (loadCellsFrom a i vs.length acc).run P w = .ok (acc ++ vs.toArray) w := by
  induction vs with
  | nil => intro i acc _; simp [loadCellsFrom, Sem.run, pure]
  | cons v vs ih =>
    intro i acc h
    have h0 := h 0 (by simp)
    simp only [List.getElem_cons_zero, Nat.add_zero] at h0
    simp only [List.length_cons, loadCellsFrom, Sem.run_bind, run_load h0, Result.andThen]
    rw [ih (i + 1) (acc.push v) (fun j hj => by have := h (j + 1) (by simpa using hj); simpa [Nat.add_assoc, Nat.add_comm 1 j] using this)]
    simp
theorem run_loadCells {w : World} {a : Addr} (vs : List Value) (h : ∀ j (h : j < vs.length), w.cell? (a.add j) = some vs[j]) :
    (loadCells a vs.length).run P w = .ok vs.toArray w := by
  unfold loadCells
  rw [run_loadCellsFrom vs 0 #[] (by simpa using h)]
  simp
theorem add_plain (b o n : Nat) : (⟨b, o, none⟩ : Addr).add n = ⟨b, o + n, none⟩ := by
  unfold Addr.add; split <;> simp_all
theorem cell_at {w : World} {b o : Nat} {cs : Array Value} {t : TypeId} {fr : Nat × Nat} (h : w.heap[b]? = some (.cells cs t fr)) : w.cell? ⟨b, o, none⟩ = cs[o]? := by
  simp [World.cell?, h]
def wrV (cs : List Value) (off : Nat) : List Value → List Value
  | [] => cs
  | d :: ds => wrV (cs.set off d) (off + 1) ds
theorem wrV_length (ds : List Value) : ∀ (cs : List Value) (off : Nat), (wrV cs off ds).length = cs.length := by
  induction ds with
  | nil => intros; rfl
  | cons d ds ih => intro cs off; simp [wrV, ih]
theorem setCell_block {w : World} {b o : Nat} {cs : List Value} {t : TypeId} {fr : Nat × Nat} (v : Value) (h : w.heap[b]? = some (.cells cs.toArray t fr)) :
    w.setCell ⟨b, o, none⟩ v = w.putObj b (.cells (cs.set o v).toArray t fr) := by
  have hb : b < w.heap.size := by
    by_cases hb : b < w.heap.size
    · exact hb
    · rw [Array.getElem?_eq_none (by omega)] at h; cases h
  have hg : w.heap[b] = .cells cs.toArray t fr := by
    rw [Array.getElem?_eq_getElem hb] at h; exact Option.some.inj h
  unfold World.setCell World.putObj
  congr 1
  apply Array.ext
  · simp
  · intro i h1 h2
    simp only [Array.getElem_modify, Array.getElem_setIfInBounds (by simpa using h1)]
    split
    · rename_i e; subst e
      simp [hg]
    · rfl
theorem putObj_get {w : World} {b : Nat} {o : Obj} (h : b < w.heap.size) : (w.putObj b o).heap[b]? = some o := by simp [World.putObj, h]
theorem putObj_putObj (w : World) (b : Nat) (o o' : Obj) : (w.putObj b o).putObj b o' = w.putObj b o' := by simp [World.putObj]
theorem block_lt {w : World} {b : Nat} {o : Obj} (h : w.heap[b]? = some o) : b < w.heap.size := by
  by_cases hb : b < w.heap.size
  · exact hb
  · rw [Array.getElem?_eq_none (by omega)] at h; cases h
theorem run_storeCells {b : Nat} {t : TypeId} {fr : Nat × Nat} (ds : List Value) : ∀ (w : World) (cs : List Value) (o i : Nat),
    w.heap[b]? = some (.cells cs.toArray t fr) → o + i + ds.length ≤ cs.length → One ds → unfrozen fr cs.length →
    (storeCells ⟨b, o, none⟩ ds i).run P w = .ok () (if ds = [] then w else w.putObj b (.cells (wrV cs (o + i) ds).toArray t fr)) := by
  induction ds with
  | nil => intros; simp [storeCells, Sem.run, pure]
  | cons d ds ih =>
    intro w cs o i hb hl h1 hf
    simp only [List.length_cons] at hl
    have hoi : o + i < cs.length := by omega
    have hc : w.cell? ⟨b, o + i, none⟩ = some cs[o + i] := by rw [cell_at hb]; simp [hoi]
    have hfz : w.frozen? ⟨b, o + i, none⟩ = false := by
      have := hf (o + i) (Nat.le_of_lt hoi)
      simp only [World.frozen?, hb]
      simpa using this
    have hd : one d = true := h1 d (by simp)
    have hst : (store ((⟨b, o, none⟩ : Addr).add i) d).run P w = .ok () (w.putObj b (.cells (cs.set (o + i) d).toArray t fr)) := by
      rw [add_plain]
      simp only [store]
      rw [← setCell_block d hb]
      cases d <;> simp_all [Sem.run, one, pure]
    have hb' : (w.putObj b (.cells (cs.set (o + i) d).toArray t fr)).heap[b]? = some (.cells (cs.set (o + i) d).toArray t fr) := putObj_get (block_lt hb)
    simp only [storeCells, Sem.run_bind, hst, Result.andThen]
    rw [ih _ _ o (i + 1) hb' (by simp; omega) (fun v hv => h1 v (by simp [hv])) (by simpa using hf)]
    simp only [List.cons_ne_nil, if_false, reduceCtorEq]
    split
    · rename_i e; subst e; simp [wrV]
    · rw [putObj_putObj]; simp [wrV, Nat.add_assoc]
end
section
variable {P : Program}
theorem FrR_monoW {S S' : Real} (h : ExtW S S') {fr : Fr} {n : Nat} {tm : Array Value} (hf : FrR S fr n tm) : FrR S' fr n tm :=
  ⟨hf.1, fun i hi => R_monoW h _ _ (hf.2.1 i hi), GR_mono h hf.2.2⟩
theorem FrR_mono {S S' : Real} (h : Ext S S') {fr : Fr} {n : Nat} {tm : Array Value} (hf : FrR S fr n tm) : FrR S' fr n tm := FrR_monoW h.w hf
theorem RB_monoW {S S' : Real} (h : ExtW S S') {id : Nat} {b : Blk} (hbl : S'.bl id = S.bl id)
    (hh : ∀ l, S.bl id = some l → S'.w.heap[l.b]? = S.w.heap[l.b]? ∧ (S'.hot l.b ↔ S.hot l.b)) (hr : RB S id b) : RB S' id b := by
  cases b with
  | dead => simp only [RB] at hr ⊢; rw [hbl]; exact hr
  | cells ver rw ty cs =>
    simp only [RB] at hr ⊢
    obtain ⟨l, vs0, vs1, vs2, fr, h1, h2, h3, h4, h5, h6, h0, h7, h8⟩ := hr
    have := hh l h1
    refine ⟨l, vs0, vs1, vs2, fr, by rw [hbl]; exact h1, h2, by rw [this.1]; exact h3, h4, RL_monoW h _ _ h5, h6, h0, h7, fun e => ?_⟩
    rw [this.2]; exact h8 e
  | iter s pos =>
    simp only [RB] at hr ⊢
    obtain ⟨l, h1, h2, hw, h3, h4⟩ := hr
    have := hh l h1
    exact ⟨l, by rw [hbl]; exact h1, h2, hw, this.2.2 h3, by rw [this.1]; exact h4⟩
  | loop st pend fn fr n ps asg body =>
    simp only [RB] at hr ⊢
    obtain ⟨l, tm, df, fn, h1, h2, hw, h3, h4, hc1, hc2, h5⟩ := hr
    have := hh l h1
    exact ⟨l, tm, df, fn, by rw [hbl]; exact h1, h2, hw, this.2.2 h3, by rw [this.1]; exact h4, hc1, hc2, FrR_monoW h h5⟩
theorem RB_mono {S S' : Real} (h : Ext S S') {id : Nat} {b : Blk} (hbl : S'.bl id = S.bl id)
    (hh : ∀ l, S.bl id = some l → S'.w.heap[l.b]? = S.w.heap[l.b]? ∧ (S'.hot l.b ↔ S.hot l.b)) (hr : RB S id b) : RB S' id b := RB_monoW h.w hbl hh hr
def setf (f : Nat → Option Loc) (i : Nat) (x : Option Loc) : Nat → Option Loc := fun j => if j = i then x else f j
def wpush (w : World) (o : Obj) : World := { w with heap := w.heap.push o }
def Real.push (S : Real) (o : Obj) (sz : Nat) : Real :=
  { w := wpush S.w o, bl := setf S.bl S.n (some ⟨0, S.w.heap.size, sz, true, 0, fun _ => rfl⟩), n := S.n + 1, hot := fun b => S.hot b ∨ b = S.w.heap.size }
theorem alloc_get {w : World} {o : Obj} {b : Nat} (h : b < w.heap.size) : (wpush w o).heap[b]? = w.heap[b]? := by
  show (w.heap.push o)[b]? = _
  simp [Array.getElem?_push, Nat.ne_of_lt h]
theorem alloc_new (w : World) (o : Obj) : (wpush w o).heap[w.heap.size]? = some o := by
  show (w.heap.push o)[w.heap.size]? = _
  simp
theorem alloc_size (w : World) (o : Obj) : (wpush w o).heap.size = w.heap.size + 1 := by
  show (w.heap.push o).size = _
  simp
theorem push_ext {S : Real} {st : Store} (h : SR S st) (o : Obj) (sz : Nat) : Ext S (S.push o sz) where
  size := by simp only [Real.push, alloc_size]; omega
  n := by simp [Real.push]
  keep b hb _ := alloc_get hb
  hot1 b hb hh := by
    rcases hh with hh | hh
    · exact hh
    · omega
  hot2 b hh _ := .inl hh
  live i l' hi hl := by
    simp only [Real.push, setf] at hl
    rw [if_neg (by omega)] at hl
    exact ⟨l', hl, .inl rfl⟩
  new i l' hi hl := by
    simp only [Real.push, setf] at hl
    split at hl
    · injection hl with hl; subst hl; exact Nat.le_refl _
    · rw [h.out i hi] at hl; cases hl
  os := rfl
  tape := rfl
  output := rfl
  hlt := h.hlt
theorem push_SR {S : Real} {st : Store} (h : SR S st) (o : Obj) (sz : Nat) (blk : Blk) (hb : RB (S.push o sz) S.n blk) : SR (S.push o sz) (st ++ [blk]) where
  glob := GR_mono (push_ext h o sz).w h.glob
  len := by simp [Real.push, h.len]
  blk id b hid := by
    by_cases hlt : id < st.length
    · rw [List.getElem?_append_left hlt] at hid
      refine RB_mono (push_ext h o sz) ?_ (fun l hl => ?_) (h.blk id b hid)
      · simp only [Real.push, setf]; rw [if_neg (by rw [h.len]; omega)]
      · have := h.lt id l hl
        refine ⟨alloc_get this, ⟨fun hh => ?_, fun hh => .inl hh⟩⟩
        rcases hh with hh | hh
        · exact hh
        · omega
    · rw [List.getElem?_append_right (by omega)] at hid
      have h0 : id - st.length = 0 := by
        cases hx : id - st.length with
        | zero => rfl
        | succ k => rw [hx] at hid; simp at hid
      rw [h0] at hid
      simp at hid
      have : id = S.n := by rw [h.len]; omega
      subst this; subst hid
      exact hb
  out id hid := by
    simp only [Real.push] at hid
    simp only [Real.push, setf]
    rw [if_neg (by omega)]
    exact h.out id (by omega)
  inj i j l m hi hj hb := by
    simp only [Real.push, setf] at hi hj
    split at hi <;> split at hj
    · omega
    · injection hi with hi; subst hi
      have := h.lt j m hj
      simp at hb; omega
    · injection hj with hj; subst hj
      have := h.lt i l hi
      simp at hb; omega
    · exact h.inj i j l m hi hj hb
  lt i l hi := by
    simp only [Real.push, alloc_size]
    simp only [Real.push, setf] at hi
    split at hi
    · injection hi with hi; subst hi; simp
    · have := h.lt i l hi; omega
  hlt b hb := by
    simp only [Real.push, alloc_size]
    rcases hb with hb | hb
    · have := h.hlt b hb; omega
    · omega
theorem push_cells {S : Real} {st : Store} (h : SR S st) (ty : TypeId) (cs : List D) (vs1 vs2 : List Value) (hr : RL S cs vs1) (h1 : One (vs1 ++ vs2)) :
    SR (S.push (.cells (vs1 ++ vs2).toArray ty) (vs1 ++ vs2).length) (st ++ [.cells 0 true ty cs]) := by
  refine push_SR h _ _ _ ?_
  simp only [RB]
  refine ⟨⟨0, S.w.heap.size, (vs1 ++ vs2).length, true, 0, fun _ => rfl⟩, [], vs1, vs2, (0, 0), by simp [Real.push, setf], rfl, ?_, rfl, RL_mono (push_ext h _ _) _ _ hr, h1, rfl, rfl, fun _ => ⟨.inr rfl, ?_⟩⟩
  · exact alloc_new _ _
  · intro off ho; simp
theorem push_ptr {S : Real} {st : Store} (h : SR S st) (o : Obj) (sz : Nat) : R (S.push o sz) (.ptr st.length 0 0) (.pointer (some ⟨S.w.heap.size, 0, none⟩)) := by
  simp only [R]
  refine ⟨_, rfl, by simp [Real.push, h.len], fun l hl => ?_⟩
  simp only [Real.push, setf, h.len, if_true] at hl
  injection hl with hl; subst hl
  exact ⟨Nat.le_refl _, fun _ => rfl⟩
theorem push_osl {S : Real} {st : Store} (h : SR S st) (o : Obj) (sz esz len cap : Nat) (hc : len ≤ cap) (hs : cap * esz ≤ sz) :
    R (S.push o sz) (.osl st.length 0 esz 0 len) (.slice (some ⟨S.w.heap.size, 0, none⟩) len cap) := by
  simp only [R]
  refine ⟨_, cap, rfl, hc, by simp [Real.push, h.len], fun l hl => ?_⟩
  simp only [Real.push, setf, h.len, if_true] at hl
  injection hl with hl; subst hl
  exact ⟨Nat.le_refl _, fun _ => .inr ⟨rfl, by simpa using hs⟩⟩
def Real.write (S : Real) (b : Nat) (o : Obj) : Real := { S with w := S.w.putObj b o }
theorem write_ext {S : Real} {st : Store} (h : SR S st) {id : Nat} {l : Loc} (hl : S.bl id = some l) (hw : l.rw = true) (hh : S.hot l.b) (o : Obj) : Ext S (S.write l.b o) where
  size := by simp [Real.write]
  n := Nat.le_refl _
  keep b hb hn := by
    refine World.putObj_heap_other ?_
    intro e
    subst e
    exact hn ⟨hh, id, l, hl, rfl, hw⟩
  hot1 b hb h := h
  hot2 b h _ := h
  live i l' hi hl := ⟨l', hl, .inl rfl⟩
  new i l' hi hl := by rw [show (S.write l.b o).bl = S.bl from rfl, h.out i hi] at hl; cases hl
  os := rfl
  tape := rfl
  output := rfl
  hlt := h.hlt
theorem write_SR {S : Real} {st : Store} (h : SR S st) {id : Nat} {l : Loc} (hl : S.bl id = some l) (hw : l.rw = true) (hh : S.hot l.b) (o : Obj) (blk : Blk)
    (hid : id < st.length) (hb : RB (S.write l.b o) id blk) : SR (S.write l.b o) (st.set id blk) where
  glob := GR_mono (write_ext h hl hw hh o).w h.glob
  len := by simp [Real.write, h.len]
  blk i b hi := by
    rw [List.getElem?_set] at hi
    by_cases e : id = i
    · subst e
      simp [hid] at hi
      subst hi
      exact hb
    · simp only [e, if_false] at hi
      refine RB_mono (write_ext h hl hw hh o) rfl (fun m hm => ⟨?_, Iff.rfl⟩) (h.blk i b hi)
      refine World.putObj_heap_other (fun he => e ?_)
      exact (h.inj i id m l hm hl he).symm
  out := h.out
  inj := h.inj
  lt i m hm := by simpa [Real.write] using h.lt i m hm
  hlt b hb := by simpa [Real.write] using h.hlt b hb
theorem RL_length {S : Real} : ∀ {ds : List D} {vs : List Value}, RL S ds vs → ds.length = vs.length := by
  intro ds
  induction ds with
  | nil => intro vs h; simp only [RL] at h; subst h; rfl
  | cons d ds ih => intro vs h; simp only [RL] at h; obtain ⟨v, vs', rfl, _, h3⟩ := h; simp [ih h3]
theorem RL_get {S : Real} : ∀ {ds : List D} {vs : List Value}, RL S ds vs → ∀ {i : Nat} {d : D}, ds[i]? = some d → ∃ v, vs[i]? = some v ∧ R S d v := by
  intro ds
  induction ds with
  | nil => intro vs h i d hd; simp at hd
  | cons d ds ih =>
    intro vs h i x hx
    simp only [RL] at h
    obtain ⟨v, vs', rfl, h2, h3⟩ := h
    cases i with
    | zero => simp at hx; subst hx; exact ⟨v, by simp, h2⟩
    | succ i => simp at hx; simpa using ih h3 hx
theorem RL_drop {S : Real} : ∀ (n : Nat) {ds : List D} {vs : List Value}, RL S ds vs → RL S (ds.drop n) (vs.drop n) := by
  intro n
  induction n with
  | zero => intro ds vs h; simpa using h
  | succ n ih =>
    intro ds vs h
    cases ds with
    | nil => simp only [RL] at h; subst h; simp [RL]
    | cons d ds => simp only [RL] at h; obtain ⟨v, vs', rfl, _, h3⟩ := h; simpa using ih h3
theorem RL_take {S : Real} : ∀ (n : Nat) {ds : List D} {vs : List Value}, RL S ds vs → RL S (ds.take n) (vs.take n) := by
  intro n
  induction n with
  | zero => intro ds vs h; simp [RL]
  | succ n ih =>
    intro ds vs h
    cases ds with
    | nil => simp only [RL] at h; subst h; simp [RL]
    | cons d ds => simp only [RL] at h; obtain ⟨v, vs', rfl, h2, h3⟩ := h; simp only [List.take_succ_cons, RL]; exact ⟨v, _, rfl, h2, ih h3⟩
theorem RL_append {S : Real} : ∀ {ds es : List D} {vs us : List Value}, RL S ds vs → RL S es us → RL S (ds ++ es) (vs ++ us) := by
  intro ds
  induction ds with
  | nil => intro es vs us h k; simp only [RL] at h; subst h; simpa using k
  | cons d ds ih => intro es vs us h k; simp only [RL] at h; obtain ⟨v, vs', rfl, h2, h3⟩ := h; simp only [List.cons_append, RL]; exact ⟨v, _, rfl, h2, ih h3 k⟩
theorem RL_set {S : Real} : ∀ {ds : List D} {vs : List Value} (i : Nat) {d : D} {v : Value}, RL S ds vs → R S d v → RL S (ds.set i d) (vs.set i v) := by
  intro ds
  induction ds with
  | nil => intro vs i d v h _; simp only [RL] at h; subst h; simp [RL]
  | cons x ds ih =>
    intro vs i d v h hr
    simp only [RL] at h
    obtain ⟨y, vs', rfl, h2, h3⟩ := h
    cases i with
    | zero => simp only [List.set_cons_zero, RL]; exact ⟨v, vs', rfl, hr, h3⟩
    | succ i => simp only [List.set_cons_succ, RL]; exact ⟨y, _, rfl, h2, ih i h3 hr⟩
theorem RL_wr {S : Real} : ∀ {es : List D} {us : List Value} {ds : List D} {vs : List Value} (off : Nat), RL S ds vs → RL S es us → RL S (wr ds off es) (wrV vs off us) := by
  intro es
  induction es with
  | nil => intro us ds vs off h k; simp only [RL] at k; subst k; simpa [wr, wrV] using h
  | cons e es ih => intro us ds vs off h k; simp only [RL] at k; obtain ⟨u, us', rfl, h2, h3⟩ := k; simp only [wr, wrV]; exact ih (off + 1) (RL_set off h h2) h3
theorem One_append {a b : List Value} : One (a ++ b) ↔ One a ∧ One b := by
  simp only [One, List.mem_append]
  exact ⟨fun h => ⟨fun v hv => h v (.inl hv), fun v hv => h v (.inr hv)⟩, fun h v hv => hv.elim (h.1 v) (h.2 v)⟩
theorem One_set {a : List Value} {v : Value} (h : One a) (hv : one v = true) (i : Nat) : One (a.set i v) := by
  intro x hx
  rcases List.mem_or_eq_of_mem_set hx with h1 | h1
  · exact h x h1
  · subst h1; exact hv
theorem One_wrV : ∀ {us : List Value} {vs : List Value} (off : Nat), One vs → One us → One (wrV vs off us) := by
  intro us
  induction us with
  | nil => intro vs off h _; exact h
  | cons u us ih => intro vs off h k; exact ih (off + 1) (One_set h (k u (by simp)) off) (fun v hv => k v (by simp [hv]))
theorem One_take {vs : List Value} (n : Nat) (h : One vs) : One (vs.take n) := fun v hv => h v (List.mem_of_mem_take hv)
theorem One_drop {vs : List Value} (n : Nat) (h : One vs) : One (vs.drop n) := fun v hv => h v (List.mem_of_mem_drop hv)
theorem wrV_append : ∀ (us : List Value) (a b : List Value) (off : Nat), off + us.length ≤ a.length → wrV (a ++ b) off us = wrV a off us ++ b := by
  intro us
  induction us with
  | nil => intros; rfl
  | cons u us ih =>
    intro a b off h
    simp only [List.length_cons] at h
    simp only [wrV]
    rw [List.set_append_left _ _ (by omega), ih _ _ _ (by simp; omega)]
theorem wrV_pre : ∀ (us : List Value) (a b : List Value) (off : Nat), wrV (a ++ b) (a.length + off) us = a ++ wrV b off us := by
  intro us
  induction us with
  | nil => intros; rfl
  | cons u us ih =>
    intro a b off
    simp only [wrV]
    rw [List.set_append_right _ _ (by omega), Nat.add_sub_cancel_left, Nat.add_assoc, ih]
theorem wrV_mid (us a b c : List Value) (off : Nat) (h : off + us.length ≤ b.length) : wrV (a ++ (b ++ c)) (a.length + off) us = a ++ (wrV b off us ++ c) := by
  rw [wrV_pre, wrV_append us b c off h]
end
section
variable {P : Program}
theorem ofVal_R {S : Real} {v : Value} {d : D} (h : ofVal v = some d) : R S d v ∧ one v = true ∧ d.cells? = some [d] ∧ v.cells = #[v] := by
  unfold ofVal at h
  split at h <;> first | (injection h with h; subst h; simp [R, one, D.cells?, Value.cells]) | cases h
theorem ofVals_R {S : Real} : ∀ {vs : List Value} {ds : List D}, ofVals vs = some ds → RL S ds vs ∧ One vs := by
  intro vs
  induction vs with
  | nil => intro ds h; simp only [ofVals] at h; injection h with h; subst h; exact ⟨by simp [RL], fun v hv => by cases hv⟩
  | cons v vs ih =>
    intro ds h
    simp only [ofVals] at h
    split at h
    · rename_i d es h1 h2
      injection h with h; subst h
      obtain ⟨a1, a2, _⟩ := ofVal_R (S := S) h1
      obtain ⟨b1, b2⟩ := ih h2
      refine ⟨by simp only [RL]; exact ⟨v, vs, rfl, a1, b1⟩, fun x hx => ?_⟩
      rcases List.mem_cons.1 hx with rfl | hx
      · exact a2
      · exact b2 x hx
    · cases h
theorem rd_R {S : Real} {fr : Fr} {n : Nat} {a : Act} (hf : FrR S fr n a.tmps) {x : Operand} (hx : opndOk n x = true) {d : D} (h : rd fr x = some d) : R S d (a.eval x) := by
  cases x with
  | tmp t =>
    simp only [rd] at h; injection h with h; subst h
    simp only [opndOk, decide_eq_true_eq] at hx
    exact hf.2.1 t hx
  | const v => simp only [rd] at h; exact (ofVal_R h).1
  | global g =>
    simp only [rd] at h
    split at h
    · rename_i cs hcs
      injection h with h; subst h
      exact hf.2.2 g cs hcs
    · cases h
  | func f => simp only [rd] at h; injection h with h; subst h; simp [R, RL, Act.eval]
theorem rds_R {S : Real} {fr : Fr} {n : Nat} {a : Act} (hf : FrR S fr n a.tmps) : ∀ {xs : List Operand}, (∀ x ∈ xs, opndOk n x = true) → ∀ {ds : List D}, rds fr xs = some ds → RL S ds (xs.map a.eval) := by
  intro xs
  induction xs with
  | nil => intro _ ds h; simp only [rds] at h; injection h with h; subst h; simp [RL]
  | cons x xs ih =>
    intro hx ds h
    simp only [rds] at h
    split at h
    · rename_i d es h1 h2
      injection h with h; subst h
      simp only [List.map_cons, RL]
      exact ⟨_, _, rfl, rd_R hf (hx x (by simp)) h1, ih (fun y hy => hx y (by simp [hy])) h2⟩
    · cases h
theorem cells_R {S : Real} {d : D} {v : Value} (h : R S d v) {cs : List D} (hc : d.cells? = some cs) : RL S cs v.cells.toList ∧ One v.cells.toList := by
  have fin : one v = true → v.cells = #[v] → RL S [d] v.cells.toList ∧ One v.cells.toList := by
    intro h1 h2
    rw [h2]
    exact ⟨by simp only [RL]; exact ⟨_, _, rfl, h, rfl⟩, fun x hx => by simp at hx; subst hx; exact h1⟩
  cases d <;> simp only [D.cells?] at hc <;> cases hc
  case agg =>
    simp only [R] at h
    obtain ⟨vs, rfl, h2, h3⟩ := h
    exact ⟨by simpa [Value.cells] using h2, by simpa [Value.cells] using h3⟩
  all_goals
    refine fin ?_ ?_ <;> simp only [R] at h <;>
    first
      | (subst h; rfl)
      | (obtain ⟨_, rfl, _⟩ := h; rfl)
      | (obtain ⟨_, rfl⟩ := h; rfl)
      | (obtain ⟨_, _, rfl, _⟩ := h; rfl)
      | (obtain ⟨_, _, _, rfl, _⟩ := h; rfl)
      | (obtain ⟨_, _, _, _, rfl, _⟩ := h; rfl)
def Does (P : Program) (S : Real) (s : Sem Next) (st' : Store) (d : D) : Prop :=
  ∃ nx v S', s.run P S.w = .ok nx S'.w ∧ (nx = .value v ∨ (nx = .skip ∧ v = Go.undef)) ∧ SR S' st' ∧ Ext S S' ∧ R S' d v
theorem Does.same {S : Real} {st : Store} (hS : SR S st) {s : Sem Next} {v : Value} {d : D} (h : s.run P S.w = .ok (.value v) S.w) (hr : R S d v) : Does P S s st d :=
  ⟨.value v, v, S, h, .inl rfl, hS, hS.refl, hr⟩
def DoesV (P : Program) (S : Real) (s : Sem Value) (st' : Store) (d : D) : Prop :=
  ∃ v S', s.run P S.w = .ok v S'.w ∧ SR S' st' ∧ Ext S S' ∧ R S' d v
theorem DoesV.does {S : Real} {st' : Store} {s : Sem Value} {d : D} (h : DoesV P S s st' d) : Does P S (do pure (.value (← s))) st' d := by
  obtain ⟨v, S', h1, h2, h3, h4⟩ := h
  exact ⟨.value v, v, S', by simp [Sem.run_bind, h1, Result.andThen, Sem.run, pure], .inl rfl, h2, h3, h4⟩
theorem DoesV.same {S : Real} {st : Store} (hS : SR S st) {s : Sem Value} {v : Value} {d : D} (h : s.run P S.w = .ok v S.w) (hr : R S d v) : DoesV P S s st d :=
  ⟨v, S, h, hS, hS.refl, hr⟩
theorem zero_some {t : TypeId} {z : List D} (h : zero P t = some z) : ∃ i v, P.info? t = some i ∧ i.zero = some v ∧ ofVals v.cells.toList = some z := by
  unfold zero at h
  split at h
  · split at h
    · exact ⟨_, _, by assumption, by assumption, h⟩
    · cases h
  · cases h
theorem run_zero {t : TypeId} {i : TypeInfo} {v : Value} (h : P.info? t = some i) (hz : i.zero = some v) (w : World) : (zeroValue t).run P w = .ok v w := by
  simp [zeroValue, Sem.run_bind, run_info h, Result.andThen, hz, Sem.run, pure]
theorem run_newRow (t : TypeId) (cs : Array Value) (w : World) : (newRow t cs).run P w = .ok ⟨w.heap.size, 0, none⟩ (wpush w (.cells cs t)) := by
  simp only [newRow, newObj, Sem.run_bind, Sem.run, Result.andThen, pure, wpush]
theorem new_cells {S : Real} {st : Store} (hS : SR S st) (t : TypeId) (cs : List D) (vs : List Value) (hr : RL S cs vs) (h1 : One vs) :
    SR (S.push (.cells vs.toArray t) vs.length) (st ++ [.cells 0 true t cs]) := by
  have := push_cells hS t cs vs [] hr (by simpa using h1)
  simpa using this
theorem alloc_sound {S : Real} {st : Store} (hS : SR S st) {t : TypeId} {z : List D} (h : zero P t = some z) :
    DoesV P S (Instr.alloc t true (.tuple #[])) (st ++ [.cells 0 true t z]) (.ptr st.length 0 0) := by
  obtain ⟨i, v, hi, hv, hz⟩ := zero_some h
  obtain ⟨h1, h2⟩ := ofVals_R (S := S) hz
  refine ⟨_, S.push (.cells v.cells.toList.toArray t) v.cells.toList.length, ?_, new_cells hS t z _ h1 h2, push_ext hS _ _, push_ptr hS _ _⟩
  simp [Instr.alloc, newVar, Sem.run_bind, run_zero hi hv, run_newRow, Result.andThen, Sem.run, pure, Real.push]
theorem box_sound {S : Real} {st : Store} (hS : SR S st) {t : TypeId} {d : D} {v : Value} (hr : R S d v) {cs : List D} (hc : d.cells? = some cs) :
    DoesV P S (Instr.box t v) (st ++ [.cells 0 true t cs]) (.ptr st.length 0 0) := by
  obtain ⟨h1, h2⟩ := cells_R hr hc
  refine ⟨_, S.push (.cells v.cells.toList.toArray t) v.cells.toList.length, ?_, new_cells hS t cs _ h1 h2, push_ext hS _ _, push_ptr hS _ _⟩
  simp [Instr.box, newVar, Sem.run_bind, run_newRow, Result.andThen, Sem.run, pure, Real.push]
theorem lay_some {t : TypeId} {b : Bool} {n : Nat} (h : lay P t = some (b, n)) : ∃ d i, P.underlying t = some d ∧ P.info? t = some i ∧ i.size = n ∧ (isAgg t).run P = (fun w => .ok b w) := by
  unfold lay at h
  split at h
  all_goals first
    | (cases h; done)
    | (rename_i d i hu hi
       simp only [Option.some.injEq, Prod.mk.injEq] at h
       obtain ⟨rfl, rfl⟩ := h
       refine ⟨_, _, hu, hi, rfl, funext fun w => ?_⟩
       simp [isAgg, Sem.run_bind, run_und hu, Result.andThen, Sem.run, pure])
    | (rename_i i hu hi
       simp only [Option.some.injEq, Prod.mk.injEq] at h
       obtain ⟨rfl, rfl⟩ := h
       refine ⟨_, _, hu, hi, rfl, funext fun w => ?_⟩
       simp [isAgg, Sem.run_bind, run_und hu, Result.andThen, Sem.run, pure])
    | (rename_i d i hu hi hn1 hn2
       simp only [Option.some.injEq, Prod.mk.injEq] at h
       obtain ⟨rfl, rfl⟩ := h
       refine ⟨_, _, hu, hi, rfl, funext fun w => ?_⟩
       simp only [isAgg, Sem.run_bind, run_und hu, Result.andThen]
       split <;> simp_all [Sem.run, pure])
end
section
variable {P : Program}
theorem set_same {α : Type} {l : List α} {i : Nat} {a : α} (h : l[i]? = some a) : l.set i a = l := by
  apply List.ext_getElem?
  intro j
  rw [List.getElem?_set]
  split
  · rename_i e
    subst e
    split
    · exact h.symm
    · rename_i hn
      rw [List.getElem?_eq_none (by omega)]
  · rfl
def At (w : World) (b o : Nat) (vs : List Value) : Prop := ∀ i (h : i < vs.length), w.cell? ⟨b, o + i, none⟩ = some vs[i]
theorem ld_sound {S : Real} {t : TypeId} {cs : List D} {vs : List Value} {b o off : Nat} (hr : RL S cs vs) (h1 : One vs)
    (hc : At S.w b o vs) {d : D} (h : ld P t cs off = some d) : ∃ v, (loadVar t ⟨b, o + off, none⟩).run P S.w = .ok v S.w ∧ R S d v := by
  unfold ld at h
  split at h
  · rename_i n hl
    split at h
    · rename_i hle
      injection h with h; subst h
      obtain ⟨dd, i, hu, hi, rfl, ha⟩ := lay_some hl
      have hlen := RL_length hr
      have hvl : ((vs.drop off).take i.size).length = i.size := by simp; omega
      refine ⟨.agg ((vs.drop off).take i.size).toArray, ?_, ?_⟩
      · have hcells := run_loadCells (P := P) (w := S.w) (a := ⟨b, o + off, none⟩) ((vs.drop off).take i.size) (fun j hj => by
          rw [add_plain]
          have hj' : off + j < vs.length := by simp at hj; omega
          have := hc (off + j) hj'
          rw [show o + off + j = o + (off + j) by omega, this]
          simp)
        rw [hvl] at hcells
        simp only [loadVar, Sem.run_bind, ha, Result.andThen, if_true, run_size hi, hcells, Sem.run, pure]
      · simp only [R]
        exact ⟨_, rfl, RL_take _ (RL_drop _ hr), One_take _ (One_drop _ h1)⟩
    · cases h
  · rename_i n hl
    obtain ⟨dd, i, hu, hi, rfl, ha⟩ := lay_some hl
    obtain ⟨v, hv, hR⟩ := RL_get hr h
    have hlt : off < vs.length := by
      by_cases hx : off < vs.length
      · exact hx
      · rw [List.getElem?_eq_none (by omega)] at hv; cases hv
    have h2 := hc off hlt
    rw [List.getElem?_eq_getElem hlt] at hv
    injection hv with hv
    refine ⟨v, ?_, hR⟩
    simp only [loadVar, Sem.run_bind, ha, Result.andThen, Bool.false_eq_true, if_false]
    rw [run_load h2, hv]
  · cases h
theorem at_base {S : Real} {b : Nat} {vs0 vs1 vs2 : List Value} {ty : TypeId} {fr : Nat × Nat} (h : S.w.heap[b]? = some (.cells (vs0 ++ (vs1 ++ vs2)).toArray ty fr)) : At S.w b vs0.length vs1 := by
  intro i hi
  rw [cell_at h]
  simp only [List.getElem?_toArray]
  rw [List.getElem?_append_right (by omega), Nat.add_sub_cancel_left, List.getElem?_append_left hi]
  exact List.getElem?_eq_getElem hi
theorem at_row {S : Real} {b o : Nat} {vs : List Value} (h : Row S b o vs) : At S.w b o vs := by
  intro i hi
  rcases h with rfl | h
  · simp at hi
  · exact h.2 i hi
theorem block_of {S : Real} {st : Store} (hS : SR S st) {id ver : Nat} {rw : Bool} {ty : TypeId} {cs : List D} (h : st[id]? = some (.cells ver rw ty cs)) :
    ∃ (l : Loc) (vs0 vs1 vs2 : List Value) (fr : Nat × Nat), S.bl id = some l ∧ l.ver = ver ∧ S.w.heap[l.b]? = some (.cells (vs0 ++ (vs1 ++ vs2)).toArray ty fr) ∧
      (vs0 ++ (vs1 ++ vs2)).length = l.sz ∧ RL S cs vs1 ∧ One (vs0 ++ (vs1 ++ vs2)) ∧ vs0.length = l.base ∧ l.rw = rw ∧ (rw = true → S.hot l.b ∧ unfrozen fr l.sz) := by
  have := hS.blk id _ h
  simpa only [RB] using this
theorem load_ptr {S : Real} {st : Store} (hS : SR S st) {id ver off : Nat} {t ty : TypeId} {rw : Bool} {cs : List D} (hb : st[id]? = some (.cells ver rw ty cs))
    {x : Value} (hx : R S (.ptr id ver off) x) {d : D} (h : ld P t cs off = some d) : DoesV P S (Instr.loadAt t x) st d := by
  obtain ⟨l, vs0, vs1, vs2, fr, h1, h2, h3, h4, h5, h6, h0, h7, h8⟩ := block_of hS hb
  simp only [R] at hx
  obtain ⟨a, rfl, _, ha⟩ := hx
  obtain ⟨_, ha⟩ := ha l h1
  have ha := ha h2.symm
  subst ha
  obtain ⟨v, hv, hR⟩ := ld_sound (b := l.b) (o := l.base) h5 (One_append.1 (One_append.1 h6).2).1 (by rw [← h0]; exact at_base h3) h
  refine DoesV.same hS (v := v) ?_ hR
  simpa [Instr.loadAt, Instr.sureAddr, Sem.run_bind, Result.andThen, Sem.run, pure] using hv
theorem load_fptr {S : Real} {st : Store} (hS : SR S st) {off : Nat} {t : TypeId} {cs : List D}
    {x : Value} (hx : R S (.fptr cs off) x) {d : D} (h : ld P t cs off = some d) : DoesV P S (Instr.loadAt t x) st d := by
  simp only [R] at hx
  obtain ⟨b, o, vs, rfl, h2, h3, h4⟩ := hx
  obtain ⟨v, hv, hR⟩ := ld_sound (b := b) (o := o) h2 h4 (at_row h3) h
  refine DoesV.same hS (v := v) ?_ hR
  simpa [Instr.loadAt, Instr.sureAddr, Sem.run_bind, Result.andThen, Sem.run, pure] using hv
theorem rewrite_block {S : Real} {st : Store} (hS : SR S st) {id ver : Nat} {ty : TypeId} {cs cs' : List D} {l : Loc} {vs0 vs1 vs2 vs1' : List Value} {fr : Nat × Nat}
    (hb : st[id]? = some (.cells ver true ty cs)) (h1 : S.bl id = some l) (h2 : l.ver = ver) (h3 : S.w.heap[l.b]? = some (.cells (vs0 ++ (vs1 ++ vs2)).toArray ty fr))
    (h4 : (vs0 ++ (vs1 ++ vs2)).length = l.sz) (h6 : One (vs0 ++ (vs1 ++ vs2))) (h0 : vs0.length = l.base) (hw : l.rw = true) (hh : S.hot l.b) (hu : unfrozen fr l.sz)
    (hl : vs1'.length = vs1.length) (hr : RL S cs' vs1') (ho : One vs1') :
    SR (S.write l.b (.cells (vs0 ++ (vs1' ++ vs2)).toArray ty fr)) (st.set id (.cells ver true ty cs')) ∧ Ext S (S.write l.b (.cells (vs0 ++ (vs1' ++ vs2)).toArray ty fr)) := by
  have hE := write_ext hS h1 hw hh (.cells (vs0 ++ (vs1' ++ vs2)).toArray ty fr)
  have hid : id < st.length := by
    by_cases hx : id < st.length
    · exact hx
    · rw [List.getElem?_eq_none (by omega)] at hb; cases hb
  refine ⟨write_SR hS h1 hw hh _ _ hid ?_, hE⟩
  simp only [RB]
  refine ⟨l, vs0, vs1', vs2, fr, h1, h2, ?_, ?_, RL_mono hE _ _ hr, One_append.2 ⟨(One_append.1 h6).1, One_append.2 ⟨ho, (One_append.1 (One_append.1 h6).2).2⟩⟩, h0, hw, fun _ => ⟨hh, hu⟩⟩
  · exact putObj_get (block_lt h3)
  · simp only [List.length_append] at h4 ⊢; omega
theorem store_sound {S : Real} {st : Store} (hS : SR S st) {id ver off n : Nat} {t ty : TypeId} {cs vc : List D} {b : Bool} (hb : st[id]? = some (.cells ver true ty cs))
    (hlay : lay P t = some (b, n)) {x v : Value} {d : D} (hx : R S (.ptr id ver off) x) (hv : R S d v) (hc : d.cells? = some vc) (hn : vc.length = n) (hle : off + n ≤ cs.length) :
    ∃ S', (Instr.storeAt t x v).run P S.w = .ok () S'.w ∧ SR S' (st.set id (.cells ver true ty (wr cs off vc))) ∧ Ext S S' := by
  obtain ⟨l, vs0, vs1, vs2, fr, h1, h2, h3, h4, h5, h6, h0, h7, h8⟩ := block_of hS hb
  obtain ⟨hh, hu⟩ := h8 rfl
  simp only [R] at hx
  obtain ⟨a, rfl, _, ha⟩ := hx
  obtain ⟨_, ha⟩ := ha l h1
  have ha := ha h2.symm
  subst ha
  obtain ⟨c1, c2⟩ := cells_R hv hc
  obtain ⟨dd, i, hu', hi, hsz, _⟩ := lay_some hlay
  have hlen := RL_length h5
  have hcl := RL_length c1
  have hsize : v.cells.size = i.size := by rw [← Array.length_toList, ← hcl, hn, hsz]
  obtain ⟨g1, g2⟩ := rewrite_block (vs1' := wrV vs1 off v.cells.toList) (cs' := wr cs off vc) hS hb h1 h2 h3 h4 h6 h0 h7 hh hu (wrV_length _ _ _) (RL_wr off h5 c1) (One_wrV off (One_append.1 (One_append.1 h6).2).1 c2)
  have hrun := run_storeCells (P := P) (b := l.b) (t := ty) (fr := fr) v.cells.toList S.w (vs0 ++ (vs1 ++ vs2)) (l.base + off) 0 h3
    (by simp only [List.length_append, Array.length_toList]; omega) c2 (by rw [h4]; exact hu)
  simp only [Nat.add_zero] at hrun
  by_cases he : v.cells.toList = []
  · have hvc : vc = [] := by
      have : vc.length = 0 := by rw [hcl, he]; rfl
      exact List.eq_nil_of_length_eq_zero this
    rw [if_pos he] at hrun
    refine ⟨S, ?_, ?_, hS.refl⟩
    · simp only [Instr.storeAt, Instr.sureAddr, storeVar, Sem.run_bind, Result.andThen, Sem.run, pure, run_size hi, hsize, ne_eq, not_true_eq_false, if_false, hrun]
    · subst hvc
      simp only [wr]
      rw [set_same hb]
      exact hS
  · rw [if_neg he, ← h0, wrV_mid _ _ _ _ _ (by simp only [Array.length_toList]; omega), h0] at hrun
    refine ⟨_, ?_, g1, g2⟩
    simp only [Instr.storeAt, Instr.sureAddr, storeVar, Sem.run_bind, Result.andThen, Sem.run, pure, run_size hi, hsize, ne_eq, not_true_eq_false, if_false, hrun]
    rfl
theorem rdp_R {S : Real} {fr : Fr} {n : Nat} {a : Act} (hf : FrR S fr n a.tmps) : ∀ {xs : List (Nat × Operand)}, (∀ x ∈ xs, opndOk n x.2 = true) → ∀ {ds : List (Nat × D)}, rdp fr xs = some ds →
    ∃ vs : List (Nat × Value), xs.map (fun x => (x.1, a.eval x.2)) = vs ∧ ds.length = vs.length ∧ (∀ (j : Nat) (x : Nat × D), ds[j]? = some x → ∃ y : Nat × Value, vs[j]? = some y ∧ x.1 = y.1 ∧ R S x.2 y.2) := by
  intro xs
  induction xs with
  | nil => intro _ ds h; simp only [rdp] at h; injection h with h; subst h; exact ⟨[], rfl, rfl, by simp⟩
  | cons x xs ih =>
    intro hx ds h
    obtain ⟨i, x⟩ := x
    simp only [rdp] at h
    split at h
    · rename_i d es h1 h2
      injection h with h; subst h
      obtain ⟨vs, e1, e2, e3⟩ := ih (fun y hy => hx y (by simp [hy])) h2
      refine ⟨(i, a.eval x) :: vs, by simp [e1], by simp [e2], fun j y hy => ?_⟩
      cases j with
      | zero => simp at hy; subst hy; exact ⟨(i, a.eval x), by simp, rfl, rd_R hf (hx (i, x) (by simp)) h1⟩
      | succ j => simp at hy; simpa using e3 j y hy
    · cases h
theorem foldl_set (us : List Value) : ∀ (cs : Array Value) (off k : Nat), off + k + us.length ≤ cs.size →
    ((us.zipIdx k).foldl (fun cs (c, j) => cs.setIfInBounds (off + j) c) cs).toList = wrV cs.toList (off + k) us := by
  induction us with
  | nil => intros; rfl
  | cons u us ih =>
    intro cs off k h
    simp only [List.length_cons] at h
    simp only [List.zipIdx_cons, List.foldl_cons, wrV]
    rw [ih _ _ _ (by simp; omega)]
    simp [Nat.add_assoc]
theorem fill_sound {S : Real} {place : Nat → Option (Nat × Nat)} {place' : Nat → Option (Nat × Nat)} (hp : ∀ i x, place i = some x → place' i = some x) :
    ∀ {ps : List (Nat × D)} {vs : List (Nat × Value)}, ps.length = vs.length → (∀ (j : Nat) (x : Nat × D), ps[j]? = some x → ∃ y : Nat × Value, vs[j]? = some y ∧ x.1 = y.1 ∧ R S x.2 y.2) →
    ∀ {cs : List D} {us : List Value} {cs' : List D}, RL S cs us → One us → fillD place cs ps = some cs' →
      ∃ us', Instr.fill place' us.toArray vs = some us'.toArray ∧ RL S cs' us' ∧ One us' ∧ us'.length = us.length := by
  intro ps
  induction ps with
  | nil =>
    intro vs hl _ cs us cs' hr h1 h
    have : vs = [] := List.eq_nil_of_length_eq_zero (by simpa using hl.symm)
    subst this
    simp only [fillD] at h
    injection h with h; subst h
    exact ⟨us, rfl, hr, h1, rfl⟩
  | cons p ps ih =>
    intro vs hl hj cs us cs' hr h1 h
    cases vs with
    | nil => simp at hl
    | cons v vs =>
      obtain ⟨i, d⟩ := p
      obtain ⟨i', x⟩ := v
      obtain ⟨y, hy, e1, e2⟩ := hj 0 (i, d) (by simp)
      simp at hy
      subst hy
      simp only at e1 e2
      subst e1
      simp only [fillD] at h
      split at h
      · cases h
      · rename_i off size hpl
        split at h
        · rename_i vc hvc
          split at h
          · cases h
          · rename_i hc
            simp only [ne_eq, gt_iff_lt, Bool.or_eq_true, decide_eq_true_eq, not_or, Decidable.not_not, Nat.not_lt] at hc
            obtain ⟨c1, c2⟩ := cells_R e2 hvc
            have hcl := RL_length c1
            have hul := RL_length hr
            simp only [Array.length_toList] at hcl
            have hw : (x.cells.zipIdx.foldl (fun cs (c, j) => cs.setIfInBounds (off + j) c) us.toArray) = (wrV us off x.cells.toList).toArray := by
              apply Array.ext'
              have := foldl_set x.cells.toList us.toArray off 0 (by simp; omega)
              simp only [Nat.add_zero] at this
              rw [← Array.foldl_toList, Array.toList_zipIdx]
              simpa using this
            obtain ⟨us', f1, f2, f3, f4⟩ := ih (by simpa using hl) (fun j y hy => by simpa using hj (j + 1) y (by simpa using hy)) (RL_wr off hr c1) (One_wrV off h1 c2) h
            refine ⟨us', ?_, f2, f3, by rw [f4, wrV_length]⟩
            simp only [Instr.fill, hp i _ hpl]
            rw [if_neg (by simp; omega), hw]
            exact f1
        · cases h
theorem build_sound {S : Real} {st : Store} (hS : SR S st) {fr : Fr} {n : Nat} {a : Act} (hf : FrR S fr n a.tmps) {t : TypeId} {parts : Array (Nat × Operand)}
    (hx : ∀ x ∈ parts.toList, opndOk n x.2 = true) {z : List D} {ps : List (Nat × D)} {cs : List D} (hz : zero P t = some z) (hp : rdp fr parts.toList = some ps) (h : fillD (places P t) z ps = some cs)
    (hok : plOk P t = true) :
    DoesV P S (Instr.build t (parts.map fun (i, x) => (i, a.eval x))) st (.agg cs) := by
  obtain ⟨i, v, hi, hv, hzz⟩ := zero_some hz
  obtain ⟨z1, z2⟩ := ofVals_R (S := S) hzz
  obtain ⟨vs, hvs, hl, hj⟩ := rdp_R hf hx hp
  have hpl : (parts.map fun (i, x) => (i, a.eval x)).toList = vs := by rw [Array.toList_map]; exact hvs
  have hne : (∃ fs, P.underlying t = some (.struct fs) ∧ (fs.toList.mapM (fun f => (P.info? f.type).map fun i => (f.offset, i.size))).isSome = true) ∨ (∃ k e ie, P.underlying t = some (.array k e) ∧ P.info? e = some ie) := by
    unfold plOk at hok
    split at hok
    · exact .inl ⟨_, by assumption, hok⟩
    · obtain ⟨ie, hie⟩ := Option.isSome_iff_exists.1 hok
      exact .inr ⟨_, _, ie, by assumption, hie⟩
    · cases hok
  rcases hne with ⟨fs, hu, hfs⟩ | ⟨k, e, ie, hu, hie⟩
  · obtain ⟨pl, hpl2⟩ := Option.isSome_iff_exists.1 hfs
    obtain ⟨us', f1, f2, f3, _⟩ := fill_sound (place := places P t) (place' := fun x => (pl.toArray)[x]?) (fun j x hjx => by
      unfold places at hjx
      rw [hu] at hjx
      simp only [hpl2] at hjx
      simpa using hjx) hl hj z1 z2 h
    refine DoesV.same hS (v := .agg us'.toArray) ?_ (by simp only [R]; exact ⟨_, rfl, f2, f3⟩)
    refine run_build S.w t _ us'.toArray ?_
    unfold Program.built
    simp only [hi, hu, hv, hpl2, hpl]
    simpa using f1
  · obtain ⟨us', f1, f2, f3, _⟩ := fill_sound (place := places P t) (place' := fun i => some (i * ie.size, ie.size)) (fun j x hjx => by
      unfold places at hjx
      rw [hu] at hjx
      simpa [hie] using hjx) hl hj z1 z2 h
    refine DoesV.same hS (v := .agg us'.toArray) ?_ (by simp only [R]; exact ⟨_, rfl, f2, f3⟩)
    refine run_build S.w t _ us'.toArray ?_
    unfold Program.built
    simp only [hi, hu, hv, hie, hpl]
    simpa using f1
end
section
variable {P : Program}
def repV (z : List Value) : Nat → List Value
  | 0 => []
  | n + 1 => z ++ repV z n
theorem repV_length (z : List Value) : ∀ n, (repV z n).length = n * z.length
  | 0 => by simp [repV]
  | n + 1 => by simp [repV, repV_length z n, Nat.add_mul, Nat.add_comm]
theorem repV_get (z : List Value) : ∀ (n i : Nat), i < n * z.length → (repV z n)[i]? = z[i % z.length]?
  | 0, i, h => by simp at h
  | n + 1, i, h => by
    simp only [repV]
    by_cases hi : i < z.length
    · rw [List.getElem?_append_left hi, Nat.mod_eq_of_lt hi]
    · rw [List.getElem?_append_right (by omega), repV_get z n (i - z.length) (by rw [Nat.add_mul] at h; omega)]
      congr 1
      exact (Nat.mod_eq_sub_mod (by omega)).symm
theorem range_rep (z : Array Value) (n : Nat) : ((Array.range (n * z.size)).map (z[· % z.size]!)) = (repV z.toList n).toArray := by
  apply Array.ext'
  apply List.ext_getElem?
  intro i
  simp only [Array.toList_map, Array.toList_range, List.getElem?_map]
  by_cases hi : i < n * z.size
  · rw [repV_get _ _ _ (by simpa using hi)]
    have hz : 0 < z.size := by
      rcases Nat.eq_zero_or_pos z.size with h | h
      · rw [h] at hi; simp at hi
      · exact h
    have hm : i % z.size < z.size := Nat.mod_lt _ hz
    simp [List.getElem?_range hi, hm]
  · rw [List.getElem?_eq_none (by simp; omega), List.getElem?_eq_none (by simp [repV_length]; omega)]
    rfl
theorem RL_rep {S : Real} {z : List D} {zv : List Value} (h : RL S z zv) : ∀ n, RL S (rep z n) (repV zv n)
  | 0 => by simp [rep, repV, RL]
  | n + 1 => by simp only [rep, repV]; exact RL_append h (RL_rep h n)
theorem One_rep {zv : List Value} (h : One zv) : ∀ n, One (repV zv n)
  | 0 => by intro v hv; simp [repV] at hv
  | n + 1 => One_append.2 ⟨h, One_rep h n⟩
theorem el_some {t e : TypeId} {sz by_ : Nat} (h : el P t = some (e, sz, by_)) : P.underlying t = some (.slice e) ∧ ∃ i, P.info? e = some i ∧ i.size = sz ∧ i.bytes = by_ := by
  unfold el at h
  split at h
  · split at h
    · simp only [Option.some.injEq, Prod.mk.injEq] at h
      obtain ⟨rfl, rfl, rfl⟩ := h
      exact ⟨by assumption, _, by assumption, rfl, rfl⟩
    · cases h
  · cases h
theorem ar_some {t e : TypeId} {n sz : Nat} (h : ar P t = some (n, e, sz)) : P.underlying t = some (.array n e) ∧ ∃ i, P.info? e = some i ∧ i.size = sz := by
  unfold ar at h
  split at h
  · split at h
    · simp only [Option.some.injEq, Prod.mk.injEq] at h
      obtain ⟨rfl, rfl, rfl⟩ := h
      exact ⟨by assumption, _, by assumption, rfl⟩
    · cases h
  · cases h
theorem buildSlice_sound {S : Real} {st : Store} (hS : SR S st) {fr : Fr} {n : Nat} {a : Act} (hf : FrR S fr n a.tmps) {t e : TypeId} {len sz by_ : Nat} {parts : Array (Nat × Operand)}
    (hx : ∀ x ∈ parts.toList, opndOk n x.2 = true) {z : List D} {ps : List (Nat × D)} {cs : List D} (he : el P t = some (e, sz, by_)) (hz : zero P e = some z) (hzl : z.length = sz)
    (hsm : ¬ len * sz > 16777216) (hp : rdp fr parts.toList = some ps) (h : fillD (fun i => some (i * sz, sz)) (rep z len) ps = some cs) :
    DoesV P S (Instr.buildSlice t len (parts.map fun (i, x) => (i, a.eval x))) (st ++ [.cells 0 true e cs]) (.osl st.length 0 sz 0 len) := by
  obtain ⟨hu, i, hi, hsz, _⟩ := el_some he
  obtain ⟨i', v, hi', hv, hzz⟩ := zero_some hz
  rw [hi] at hi'
  injection hi' with hi'; subst hi'
  obtain ⟨z1, z2⟩ := ofVals_R (S := S) hzz
  obtain ⟨vs, hvs, hl, hj⟩ := rdp_R hf hx hp
  have hpl : (parts.map fun (i, x) => (i, a.eval x)).toList = vs := by rw [Array.toList_map]; exact hvs
  have hvl : v.cells.size = sz := by rw [← hzl, RL_length z1]; simp
  obtain ⟨us', f1, f2, f3, f4⟩ := fill_sound (place := fun i => some (i * sz, sz)) (place' := fun i => some (i * sz, sz)) (fun j x hjx => hjx) hl hj (RL_rep z1 len) (One_rep z2 len) h
  have hlen : us'.length = len * sz := by rw [f4, repV_length]; simp [hvl]
  refine ⟨.slice (some ⟨S.w.heap.size, 0, none⟩) len len, S.push (.cells us'.toArray e) us'.length, ?_, new_cells hS e cs _ f2 f3, push_ext hS _ _, push_osl hS _ _ _ _ _ (Nat.le_refl _) (by rw [hlen]; exact Nat.le_refl _)⟩
  have hsm' : ¬ len * i.size > 2 ^ 24 := by rw [hsz]; omega
  by_cases h0 : len * i.size = 0
  · have hus : us' = [] := by
      refine List.eq_nil_of_length_eq_zero ?_
      rw [hlen, ← hsz]; exact h0
    have hrep : repV v.cells.toList len = [] := by
      refine List.eq_nil_of_length_eq_zero ?_
      rw [repV_length]; simp [hvl, ← hsz, h0]
    rw [hrep, hus] at f1
    have f1' : Instr.fill (fun i => some (i * sz, sz)) ((Array.range 0).map (fun x => (#[] : Array Value)[x % (#[] : Array Value).size]!)) vs = some #[] := by rw [show (Array.map (fun x => (#[] : Array Value)[x % (#[] : Array Value).size]!) (Array.range 0)) = #[] from by simp [Array.range]]; exact f1
    simp only [Instr.buildSlice, Sem.run_bind, run_und hu, Result.andThen, run_size hi]
    rw [if_neg hsm']
    simp only [Sem.run_bind, Result.andThen, Sem.run, pure, h0, if_true, hpl]
    rw [hsz, f1']
    simp only [Sem.run_bind, run_newRow, Result.andThen, Sem.run, pure, hus, Real.push]
  · have hr := range_rep v.cells len
    rw [hvl, ← hsz] at hr
    simp only [Instr.buildSlice, Sem.run_bind, run_und hu, Result.andThen, run_size hi]
    rw [if_neg hsm']
    simp only [Sem.run_bind, Result.andThen, Sem.run, pure, h0, if_false, run_zero hi hv, hpl]
    have hr' : ((Array.range (len * i.size)).map fun x => v.cells[x % v.cells.size]!) = (repV v.cells.toList len).toArray := by rw [hvl, ← hsz]; exact hr
    rw [hr', hsz, f1]
    simp only [Sem.run_bind, run_newRow, Result.andThen, Sem.run, pure, Real.push]
theorem makeSlice_sound {S : Real} {st : Store} (hS : SR S st) {t e : TypeId} {sz by_ : Nat} {k k' : IntKind} {m : Int} {z : List D} (he : el P t = some (e, sz, by_)) (hz : zero P e = some z) (hzl : z.length = sz)
    (h0 : 0 ≤ m) (hb : (by_ : Int) * m ≤ 281474976710656) (hm : m ≤ 281474976710656) :
    DoesV P S (Instr.makeSlice t (.int k m) (.int k' m)) (st ++ [.cells 0 true e (rep z m.toNat)]) (.osl st.length 0 sz 0 m.toNat) := by
  obtain ⟨hu, i, hi, hsz, hby⟩ := el_some he
  obtain ⟨i', v, hi', hv, hzz⟩ := zero_some hz
  rw [hi] at hi'
  injection hi' with hi'; subst hi'
  obtain ⟨z1, z2⟩ := ofVals_R (S := S) hzz
  have hvl : v.cells.size = sz := by rw [← hzl, RL_length z1]; simp
  obtain ⟨n, rfl⟩ := Int.eq_ofNat_of_zero_le h0
  rw [Int.toNat_natCast]
  have hw : IntKind.i64.wrap (n : Int) = n := by
    simp only [IntKind.wrap, IntKind.bits, IntKind.signed]
    simp
    omega
  have hR := RL_rep z1 n
  have hO := One_rep z2 n
  have hlen : (repV v.cells.toList n).length = n * sz := by rw [repV_length]; simp [hvl]
  refine ⟨.slice (some ⟨S.w.heap.size, 0, none⟩) n n, S.push (.cells (repV v.cells.toList n).toArray e) (repV v.cells.toList n).length, ?_, new_cells hS e _ _ hR hO, push_ext hS _ _, push_osl hS _ _ _ _ _ (Nat.le_refl _) (by rw [hlen]; exact Nat.le_refl _)⟩
  have hbig : ¬ ((i.bytes : Int) * (n : Int) > 2 ^ 48) := by rw [hby]; omega
  have hnn : ¬ ((n : Int) < 0) := by omega
  have hask : ∀ b, (askRoom b).run P S.w = .ok () S.w := by
    intro b; unfold askRoom; split <;> simp [mark, Sem.run, pure]
  have hcells : (if n * sz = 0 then pure #[] else do pure (← zeroValue e).cells : Sem (Array Value)).run P S.w = .ok (if n * sz = 0 then #[] else v.cells) S.w := by
    split
    · simp [Sem.run, pure]
    · simp only [Sem.run_bind, run_zero hi hv, Result.andThen, Sem.run, pure]
  have hrow : ((Array.range (n * sz)).map ((if n * sz = 0 then #[] else v.cells)[· % (if n * sz = 0 then #[] else v.cells).size]!)) = (repV v.cells.toList n).toArray := by
    split
    · rename_i h
      have : repV v.cells.toList n = [] := List.eq_nil_of_length_eq_zero (by rw [hlen, h])
      rw [this, h]
      simp [Array.range]
    · rw [← hvl]; exact range_rep v.cells n
  simp only [Instr.makeSlice, Sem.run_bind, run_und hu, Result.andThen, asInt, asIntOf, Sem.run, pure, run_info hi, hw, hsz]
  rw [if_neg (by simp [hnn]; omega)]
  simp only [Sem.run_bind, Result.andThen, hask, run_size hi, Int.toNat_natCast, hsz]
  split at hrow <;> rename_i h
  · simp only [h, if_true, Sem.run_bind, Result.andThen, Sem.run, pure, run_newRow, Real.push] at hrow ⊢
    rw [hrow]
  · simp only [h, if_false, Sem.run_bind, Result.andThen, Sem.run, pure, run_newRow, Real.push, run_zero hi hv] at hrow ⊢
    rw [hrow]
theorem fo_some {s : TypeId} {f g : Nat} (h : fo P s f = some g) : ∃ (fs : Array Field) (fd : Field) (i : TypeInfo), P.underlying s = some (.struct fs) ∧ fs[f]? = some fd ∧ P.info? fd.type = some i ∧ i.size ≠ 0 ∧ fd.offset = g := by
  unfold fo at h
  split at h
  · split at h
    · split at h
      · split at h
        · cases h
        · injection h with h
          exact ⟨_, _, _, by assumption, by assumption, by assumption, by assumption, h⟩
      · cases h
    · cases h
  · cases h
theorem fieldAt_run {s : TypeId} {f g : Nat} (h : fo P s f = some g) (a : Addr) (w : World) : (Instr.fieldAt s (.pointer (some a)) f).run P w = .ok (.pointer (some (a.add g))) w := by
  obtain ⟨fs, fd, i, h1, h2, h3, h4, h5⟩ := fo_some h
  simp only [Instr.fieldAt, Sem.run_bind, run_und h1, Result.andThen, h2, Instr.sureAddr, Sem.run, pure, fieldPlace, run_size h3, h4, if_false, h5]
theorem R_ptr_add {S : Real} {id ver off : Nat} {a : Addr} (g : Nat) (h : R S (.ptr id ver off) (.pointer (some a))) : R S (.ptr id ver (off + g)) (.pointer (some (a.add g))) := by
  simp only [R] at h ⊢
  obtain ⟨a', e, h2, h3⟩ := h
  injection e with e; injection e with e; subst e
  refine ⟨_, rfl, h2, fun l hl => ?_⟩
  obtain ⟨h4, h5⟩ := h3 l hl
  exact ⟨h4, fun e => by rw [h5 e, add_plain, Nat.add_assoc]⟩
theorem R_ptr_some {S : Real} {id ver off : Nat} {x : Value} (h : R S (.ptr id ver off) x) : ∃ a, x = .pointer (some a) := by
  simp only [R] at h
  obtain ⟨a, e, _⟩ := h
  exact ⟨a, e⟩
theorem R_fptr_some {S : Real} {cs : List D} {off : Nat} {x : Value} (h : R S (.fptr cs off) x) : ∃ a, x = .pointer (some a) := by
  simp only [R] at h
  obtain ⟨b, o, vs, e, _⟩ := h
  exact ⟨_, e⟩
theorem R_fptr_add {S : Real} {cs : List D} {off : Nat} {a : Addr} (g : Nat) (h : R S (.fptr cs off) (.pointer (some a))) : R S (.fptr cs (off + g)) (.pointer (some (a.add g))) := by
  simp only [R] at h ⊢
  obtain ⟨b, o, vs, e, h2, h3⟩ := h
  injection e with e; injection e with e; subst e
  exact ⟨b, o, vs, by rw [add_plain, Nat.add_assoc], h2, h3⟩
theorem idx_some {i : Int} {n j : Nat} (h : idx i n = some j) : 0 ≤ i ∧ i < (n : Int) ∧ i.toNat = j := by
  unfold idx at h
  split at h
  · rename_i hc; injection h with h; exact ⟨hc.1, hc.2, h⟩
  · cases h
theorem indexAddr_sound {S : Real} {st : Store} (hS : SR S st) {t : TypeId} {x i d : D} {xv iv : Value} (hx : R S x xv) (hi : R S i iv) (h : indexAddrD P t x i = some d) :
    DoesV P S (Instr.indexAt t xv iv) st d := by
  unfold indexAddrD at h
  split at h
  · rename_i k ii
    simp only [R] at hi
    subst hi
    split at h
    ·
      rename_i id ver esz off len
      split at h
      · rename_i e sz by_ j he hj
        split at h
        · rename_i hse
          injection h with h; subst h; subst hse
          obtain ⟨hu, info, hin, hsz, _⟩ := el_some he
          obtain ⟨h0, h1, h2⟩ := idx_some hj
          simp only [R] at hx
          obtain ⟨a, cap, rfl, hc, hid, hl⟩ := hx
          refine DoesV.same hS (v := .pointer (some (a.add (ii.toNat * info.size)))) ?_ ?_
          · simp only [Instr.indexAt, Sem.run_bind, asIntOf, Sem.run, pure, Result.andThen, run_und hu]
            rw [if_pos ⟨h0, h1⟩]
            simp only [Sem.run_bind, run_size hin, Result.andThen, Sem.run, pure]
          · simp only [R]
            refine ⟨_, rfl, hid, fun l hl' => ?_⟩
            obtain ⟨g1, g2⟩ := hl l hl'
            refine ⟨g1, fun e => ?_⟩
            rcases g2 e with ⟨g3, _⟩ | ⟨g3, _⟩
            · omega
            · rw [g3, add_plain, h2, hsz, Nat.add_assoc]
        · cases h
      · cases h
    ·
      rename_i len cells
      split at h
      · rename_i e sz by_ j he hj
        injection h with h; subst h
        obtain ⟨hu, info, hin, hsz, _⟩ := el_some he
        obtain ⟨h0, h1, h2⟩ := idx_some hj
        simp only [R] at hx
        obtain ⟨b, o, vs, cap, rfl, hc, hr, hrow, ho⟩ := hx
        refine DoesV.same hS (v := .pointer (some ((⟨b, o, none⟩ : Addr).add (ii.toNat * info.size)))) ?_ ?_
        · simp only [Instr.indexAt, Sem.run_bind, asIntOf, Sem.run, pure, Result.andThen, run_und hu]
          rw [if_pos ⟨h0, h1⟩]
          simp only [Sem.run_bind, run_size hin, Result.andThen, Sem.run, pure]
        · simp only [R]
          exact ⟨b, o, vs, by rw [add_plain, h2, hsz], hr, hrow, ho⟩
      · cases h
    ·
      rename_i id ver off
      split at h
      · rename_i n e sz he
        split at h
        · rename_i j hj
          injection h with h; subst h
          obtain ⟨hu, info, hin, hsz⟩ := ar_some he
          obtain ⟨h0, h1, h2⟩ := idx_some hj
          obtain ⟨a, rfl⟩ := R_ptr_some hx
          refine DoesV.same hS (v := .pointer (some (a.add (ii.toNat * info.size)))) ?_ ?_
          · simp only [Instr.indexAt, Sem.run_bind, asIntOf, Sem.run, pure, Result.andThen, run_und hu, Instr.sureAddr]
            rw [if_pos ⟨h0, h1⟩]
            simp only [Sem.run_bind, run_size hin, Result.andThen, Sem.run, pure]
          · have := R_ptr_add (ii.toNat * info.size) hx
            rw [h2, hsz] at this
            rw [h2, hsz]; exact this
        · cases h
      · cases h
    · rename_i cells off
      split at h
      · rename_i n e sz he
        split at h
        · rename_i j hj
          injection h with h; subst h
          obtain ⟨hu, info, hin, hsz⟩ := ar_some he
          obtain ⟨h0, h1, h2⟩ := idx_some hj
          obtain ⟨a, rfl⟩ := R_fptr_some hx
          refine DoesV.same hS (v := .pointer (some (a.add (ii.toNat * info.size)))) ?_ ?_
          · simp only [Instr.indexAt, Sem.run_bind, asIntOf, Sem.run, pure, Result.andThen, run_und hu, Instr.sureAddr]
            rw [if_pos ⟨h0, h1⟩]
            simp only [Sem.run_bind, run_size hin, Result.andThen, Sem.run, pure]
          · have := R_fptr_add (ii.toNat * info.size) hx
            rw [h2, hsz] at this
            rw [h2, hsz]; exact this
        · cases h
      · cases h
    · cases h
  · cases h
theorem part_sound {S : Real} {t : TypeId} {cs : List D} {vs : List Value} {off : Nat} (hr : RL S cs vs) (h1 : One vs) {d : D} (h : partD P t cs off = some d) :
    ∃ v, (part t vs.toArray off).run P S.w = .ok v S.w ∧ R S d v := by
  unfold partD ld at h
  split at h
  · rename_i n hl
    split at h
    · rename_i hle
      injection h with h; subst h
      obtain ⟨dd, i, hu, hi, rfl, ha⟩ := lay_some hl
      refine ⟨.agg ((vs.drop off).take i.size).toArray, ?_, ?_⟩
      · simp only [part, Sem.run_bind, ha, Result.andThen, if_true, run_size hi, Sem.run, pure]
        congr 2
        apply Array.ext'
        simp [List.extract_eq_take_drop]
      · simp only [R]
        exact ⟨_, rfl, RL_take _ (RL_drop _ hr), One_take _ (One_drop _ h1)⟩
    · cases h
  · rename_i n hl
    obtain ⟨dd, i, hu, hi, rfl, ha⟩ := lay_some hl
    obtain ⟨v, hv, hR⟩ := RL_get hr h
    refine ⟨v, ?_, hR⟩
    have : vs.toArray[off]? = some v := by simpa using hv
    simp only [part, Sem.run_bind, ha, Result.andThen, Bool.false_eq_true, if_false, this, Sem.run, pure]
  · cases h
theorem isStr_some {t : TypeId} (h : isStr P t = true) : P.underlying t = some .string := by
  unfold isStr at h; split at h
  · assumption
  · cases h
theorem isSlice_some {t : TypeId} (h : isSlice P t = true) : ∃ e, P.underlying t = some (.slice e) := by
  unfold isSlice at h; split at h
  · exact ⟨_, by assumption⟩
  · cases h
theorem index_sound {S : Real} {st : Store} (hS : SR S st) {t : TypeId} {x i d : D} {xv iv : Value} (hx : R S x xv) (hi : R S i iv) (h : indexD P t x i = some d) :
    DoesV P S (Instr.index t xv iv) st d := by
  unfold indexD at h
  split at h
  · rename_i k ii
    simp only [R] at hi
    subst hi
    split at h
    · rename_i cs
      split at h
      · rename_i n e sz he
        split at h
        · rename_i j hj
          obtain ⟨hu, info, hin, hsz⟩ := ar_some he
          obtain ⟨h0, h1, h2⟩ := idx_some hj
          simp only [R] at hx
          obtain ⟨vs, rfl, hr, ho⟩ := hx
          obtain ⟨v, hv, hR⟩ := part_sound hr ho h
          refine DoesV.same hS (v := v) ?_ hR
          simp only [Instr.index, Sem.run_bind, asIntOf, Sem.run, pure, Result.andThen, run_und hu]
          rw [if_pos ⟨h0, h1⟩]
          simp only [Sem.run_bind, run_size hin, Result.andThen, h2, hsz, hv]
        · cases h
      · cases h
    · rename_i s
      split at h
      · rename_i hs
        split at h
        · rename_i j hj
          injection h with h; subst h
          obtain ⟨h0, h1, h2⟩ := idx_some hj
          simp only [R] at hx
          subst hx
          have hlt : ii.toNat < s.size := by omega
          refine DoesV.same hS (v := .int .u8 (s[ii.toNat]'hlt).toNat) ?_ ?_
          · simp only [Instr.index, Sem.run_bind, asIntOf, Sem.run, pure, Result.andThen, run_und (isStr_some hs)]
            rw [if_pos h0, getElem?_pos s ii.toNat hlt]
            simp only [Sem.run, pure]
          · simp only [R]
            rw [← h2]
            have : s.data.toList[ii.toNat]? = some s[ii.toNat] := by
              rw [List.getElem?_eq_getElem (by simpa using hlt)]
              rfl
            rw [this]; rfl
        · cases h
      · cases h
    · cases h
  · cases h
theorem field_sound {S : Real} {st : Store} (hS : SR S st) {t : TypeId} {f : Nat} {x d : D} {xv : Value} (hx : R S x xv) (h : fieldD P t x f = some d) :
    DoesV P S (Instr.field t xv f) st d := by
  unfold fieldD at h
  split at h
  · rename_i cs fs hu
    split at h
    · rename_i g hg
      simp only [R] at hx
      obtain ⟨vs, rfl, hr, ho⟩ := hx
      obtain ⟨v, hv, hR⟩ := part_sound hr ho h
      refine DoesV.same hS (v := v) ?_ hR
      simp only [Instr.field, Sem.run_bind, run_und hu, Result.andThen, hg, asAgg, Sem.run, pure, hv]
    · cases h
  · cases h
end
end Go.Mm
end
