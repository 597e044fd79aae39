/-
  PwComp: the model's code, read as the evaluator's.
-/
import Derived.Test.YtjmmlddioeehbaaGreatDoorPwMem
namespace Go.PW
def compCell : Value → Option PV
  | .int k n => some (.int k n)
  | .bool b => some (.bool b)
  | .string s => if s.size ≤ big then some (.str s.data.toList) else none
  | .slice none 0 0 => some .nils
  | .pointer none => some .pnil
  | .nilFunc => some .fnil
  | .nilIface => some (.ifc false)
  | _ => none
def compCells : List Value → Option (List PV)
  | [] => some []
  | v :: r => match compCell v, compCells r with
    | some p, some ps => some (p :: ps)
    | _, _ => none
def compVal : Value → Option PV
  | .agg vs => (compCells vs.toList).map .agg
  | v => compCell v
def gst : Nat := 65536
def compX : Operand → Option LX
  | .tmp t => if t < gst then some (.t t) else none
  | .const v => (compVal v).map .c
  | .func f => some (.c (.fn f [] []))
  | .global g => (look globs g).map fun cs => .c (.pim cs)
def compXs : List Operand → Option (List LX)
  | [] => some []
  | x :: r => match compX x, compXs r with
    | some p, some ps => some (p :: ps)
    | _, _ => none
def isAggT (P : Program) (t : TypeId) : Option Bool :=
  match P.underlying t with
  | some (.struct _) | some (.array _ _) => some true
  | some _ => some false
  | none => none
def sizeT (P : Program) (t : TypeId) : Option Nat := (P.info? t).map (·.size)
def zeroT (P : Program) (t : TypeId) : Option (List PV) :=
  match P.info? t with
  | some i => match i.zero with
    | some z => compCells z.cells.toList
    | none => none
  | none => none
def eqFieldsOk (P : Program) : Nat → List Field → Option (List Nat)
  | _, [] => some []
  | n, f :: r => if f.name != "_" && f.offset == n then
      match P.underlying f.type, eqFieldsOk P (n + 1) r with
      | some (.int _), some ks => some (0 :: ks)
      | some .bool, some ks => some (1 :: ks)
      | some .string, some ks => some (2 :: ks)
      | _, _ => none
    else none
def eqStructOk (P : Program) (t : TypeId) : Option (List Nat) :=
  match P.underlying t with
  | some (.struct fs) => if !P.stoodInHeld t && !P.eqGuardType P.depth t then eqFieldsOk P 0 fs.toList else none
  | _ => none
def compParts (P : Program) (fs : List Field) : List (Nat × Operand) → Option (List (Nat × Nat × LX))
  | [] => some []
  | (i, x) :: r => match fs[i]?, compX x, compParts P fs r with
    | some f, some l, some ps => match sizeT P f.type with
      | some n => some ((f.offset, n, l) :: ps)
      | none => none
    | _, _, _ => none
def compElems : List (Nat × Operand) → Option (List (Nat × LX))
  | [] => some []
  | (i, x) :: r => match compX x, compElems r with
    | some l, some ps => some ((i, l) :: ps)
    | _, _ => none
def isSimple (P : Program) (t : TypeId) : Bool :=
  match P.underlying t with
  | some (.int _) | some .string => true
  | _ => false
def sameX : Operand → Operand → Bool
  | .tmp a, .tmp b => a == b
  | .const (.int .i64 a), .const (.int .i64 b) => a == b
  | _, _ => false
def isBoolT (P : Program) (t : TypeId) : Bool :=
  match P.underlying t with
  | some .bool => true
  | _ => false
def isStrT (P : Program) (t : TypeId) : Bool :=
  match P.underlying t with
  | some .string => true
  | _ => false
def comp2 (x y : Operand) (k : LX → LX → LOp) : Option LOp :=
  match compX x, compX y with
  | some a, some b => some (k a b)
  | _, _ => none
def compBin (P : Program) (op : BinOp) (t : TypeId) (x y : Operand) : Option LOp :=
  if isSimple P t then comp2 x y (.bin op)
  else match op with
    | .eql => if isBoolT P t then comp2 x y (.eqb false) else match eqStructOk P t with | some n => comp2 x y (.eqs false n) | none => none
    | .neq => if isBoolT P t then comp2 x y (.eqb true) else match eqStructOk P t with | some n => comp2 x y (.eqs true n) | none => none
    | _ => none
def compField (P : Program) (t : TypeId) (i : Nat) : Option (Nat × Nat × Bool) :=
  match P.underlying t with
  | some (.struct fs) => match fs[i]? with
    | some f => match sizeT P f.type, isAggT P f.type with
      | some n, some ag => some (f.offset, n, ag)
      | _, _ => none
    | none => none
  | _ => none
def compIdx (P : Program) (t : TypeId) : Option (Option Nat × Nat) :=
  match P.underlying t with
  | some (.slice e) => (sizeT P e).map fun n => (none, n)
  | some (.array n e) => if n ≤ 1 then none else (sizeT P e).map fun s => (some n, s)
  | _ => none
def compIdxV (P : Program) (t : TypeId) : Option (Nat × Nat × Bool) :=
  match P.underlying t with
  | some (.array n e) => match sizeT P e, isAggT P e with
    | some s, some ag => some (n, s, ag)
    | _, _ => none
  | _ => none
def compPartsA (s : Nat) : List (Nat × Operand) → Option (List (Nat × Nat × LX))
  | [] => some []
  | (i, x) :: r => match compX x, compPartsA s r with
    | some l, some ps => some ((i * s, s, l) :: ps)
    | _, _ => none
def isSliceT (P : Program) (t : TypeId) : Bool :=
  match P.underlying t with
  | some (.slice _) => true
  | _ => false
def isIfaceT (P : Program) (t : TypeId) : Bool :=
  match P.underlying t with
  | some (.interface _) => true
  | _ => false
def isNilI : Operand → Bool
  | .const .nilIface => true
  | _ => false
def isNilC : Operand → Bool
  | .const (.slice none 0 0) => true
  | _ => false
def compBytes (P : Program) (src dst : TypeId) : Option TypeId :=
  match P.underlying src, P.underlying dst with
  | some .string, some (.slice e) => match P.underlying e, P.info? e with
    | some (.int .u8), some i => if i.size = 1 then some e else none
    | _, _ => none
  | _, _ => none
def compOpt : Option Operand → Option (Option LX)
  | none => some none
  | some x => (compX x).map some
def compRow (P : Program) (t : TypeId) : Option (TypeId × Nat × Nat × List PV) :=
  match P.underlying t with
  | some (.slice e) => match P.info? e with
    | some i => match i.zero with
      | some z => if z.cells.size = i.size ∧ 0 < i.size ∧ 0 < i.bytes then (compCells z.cells.toList).map fun zc => (e, i.size, i.bytes, zc) else none
      | none => none
    | none => none
  | _ => none
def compBuiltin (P : Program) (b : Builtin) (argTypes : List TypeId) (args : List Operand) : Option LOp :=
  match b, argTypes, args with
  | .len, [t], [x] => match P.underlying t with
    | some .string => (compX x).map .slen
    | some (.slice _) => (compX x).map .len
    | _ => none
  | .append, [t, u], [s, x] => if t = u then match compRow P t with
      | some (e, sz, by_, _) => comp2 s x (.append e sz by_)
      | none => none
    else none
  | .copy, [t, u], [s, x] => if t = u then match compRow P t with
      | some (_, sz, _, _) => comp2 s x (.copy sz)
      | none => none
    else none
  | .clear, [t], [x] => match compRow P t with
    | some (_, sz, _, z) => (compX x).map (.clear sz z)
    | none => none
  | .max, _, [x, y] => comp2 x y .mx
  | .min, _, [x, y] => comp2 x y .mn
  | _, _, _ => none
def compK (P : Program) : Op → Option LOp
  | .move x | .assign x => (compX x).map .mv
  | .pick c a b => match compX c, compX a, compX b with
    | some c, some a, some b => some (.pick c a b)
    | _, _, _ => none
  | .binOp op t x y _ => if isSliceT P t && isNilC y then (match op with | .eql => (compX x).map (.isnil false) | .neq => (compX x).map (.isnil true) | _ => none) else if isIfaceT P t && isNilI y then (match op with | .eql => (compX x).map (.isnilI false) | .neq => (compX x).map (.isnilI true) | _ => none) else compBin P op t x y
  | .unOp op _ x => match op with
    | .not | .neg => (compX x).map (.un op)
    | _ => none
  | .convert src dst x => match compBytes P src dst with
    | some e => (compX x).map (.toBytes e)
    | none => match P.underlying src, P.underlying dst with
      | some (.int _), some (.int k) => (compX x).map (.conv k)
      | _, _ => none
  | .field t x i => match compField P t i, compX x with
    | some (off, n, ag), some x => some (.field off n ag x)
    | _, _ => none
  | .extract x i => (compX x).map (.extract i)
  | .fieldAddr t x i => match compField P t i, compX x with
    | some (off, n, _), some x => if 0 < n then some (.fieldAddr off x) else none
    | _, _ => none
  | .indexAddr t x i => match compIdx P t with
    | some (none, n) => comp2 x i (.idx n)
    | some (some l, n) => comp2 x i (.idxA l n)
    | none => none
  | .index t x i => if isStrT P t then comp2 x i .sidx else match compIdxV P t with
    | some (n, s, ag) => comp2 x i (.vidx n s ag)
    | none => none
  | .load t x => match sizeT P t, isAggT P t, compX x with
    | some n, some ag, some x => some (.load n ag x)
    | _, _, _ => none
  | .store t x v => match sizeT P t, compX x, compX v with
    | some n, some x, some v => some (.store n x v)
    | _, _, _ => none
  | .alloc t => match sizeT P t, zeroT P t with
    | some n, some z => if z.length = n then some (.alloc t n z) else none
    | _, _ => none
  | .box t x => match sizeT P t, compX x with
    | some n, some x => some (.box t n x)
    | _, _ => none
  | .build t parts => match P.underlying t, zeroT P t with
    | some (.struct fs), some z => if fs.toList.all (fun f => (sizeT P f.type).isSome) then (compParts P fs.toList parts.toList).map (.build z) else none
    | some (.array _ e), some z => match sizeT P e with
      | some s => (compPartsA s parts.toList).map (.build z)
      | none => none
    | _, _ => none
  | .buildSlice t len parts => match compRow P t, compElems parts.toList with
    | some (e, sz, _, z), some ps => if len * sz ≤ 2 ^ 24 then some (.mkSlice e sz len z ps) else none
    | _, _ => none
  | .makeSlice t l c => if sameX l c then match compRow P t, compX l with
      | some (e, sz, by_, z), some l => some (.make e sz by_ z l)
      | _, _ => none
    else none
  | .slice t x lo hi none => match compX x, compOpt lo, compOpt hi with
    | some x, some lo, some hi => match P.underlying t with
      | some .string => some (.sslice x lo hi)
      | some (.slice e) => (sizeT P e).map fun n => .slice n x lo hi
      | _ => none
    | _, _, _ => none
  | .nilCheck x => (compX x).map .nilCheck
  | .makeFunc (.func f) first caps => match compXs first.toList, compXs caps.toList with
    | some a, some b => some (.mkfn f a b)
    | _, _ => none
  | .call c => match c.callee with
    | .value (.func f) => if bodied P f then (compXs c.args.toList).map (.call f) else none
    | .value x => match compX x, compXs c.args.toList with
      | some x, some as => some (.callv x as)
      | _, _ => none
    | .builtin b => compBuiltin P b c.argTypes.toList c.args.toList
    | _ => none
  | _ => none
def compGuard (ops : List Oper) : Option (Nat × Bool) → Option (Option (Nat × Bool))
  | none => some none
  | some (j, b) => match ops[j]? with
    | some o => match o.dst with
      | some d => if d < gst then some (some (d, b)) else none
      | none => none
    | none => none
def compOper (P : Program) (N : Nat) (ops : List Oper) (o : Oper) : Option LOper :=
  match compGuard ops o.guard with
  | some g => match o.dst with
    | some d => if d < N then some ⟨some d, g, (compK P o.op).getD .bad⟩ else none
    | none => some ⟨none, g, (compK P o.op).getD .bad⟩
  | _ => none
def compOpers (P : Program) (N : Nat) (ops : List Oper) : List Oper → Option (List LOper)
  | [] => some []
  | o :: r => match compOper P N ops o, compOpers P N ops r with
    | some p, some ps => some (p :: ps)
    | _, _ => none
end Go.PW
