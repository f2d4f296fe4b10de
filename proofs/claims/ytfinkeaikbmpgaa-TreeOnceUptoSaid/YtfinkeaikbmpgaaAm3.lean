/- THE ABSTRACT MACHINE, part 3: how operations are read as instructions; those that leave the rows alone. -/
import Derived.Test.YtfinkeaikbmpgaaAm2
set_option linter.defProp false
set_option linter.unnecessarySimpa false
set_option linter.unusedVariables false
set_option linter.unusedSimpArgs false
namespace Go.Am
open Go Go.RowKit

def tsz (P : Program) (t : TypeId) : Option Nat := (P.info? t).map (·.size)

/-- none: no such type; some none: one cell; some (some m): a struct or an array of m cells. -/
def mOf (P : Program) (t : TypeId) : Option (Option Nat) :=
  match P.underlying t with
  | some (.struct _) | some (.array _ _) => (tsz P t).map some
  | some _ => some none
  | none => none

def cos (G : Nat → Option (List IV)) : List Operand → Option (List O)
  | [] => some []
  | x :: r => (co G x).bind fun y => (cos G r).map fun s => y :: s

def coOpt (G : Nat → Option (List IV)) : Option Operand → Option (Option O)
  | none => some none
  | some x => (co G x).map some

def AV.iv : AV → Option IV
  | .bool b => some (.bool b)
  | .int k n => some (.int k n)
  | .str s => some (.str s)
  | .list xs => some (.list xs)
  | .nil0 => some (.list [])
  | _ => none

def ivs : List AV → Option (List IV)
  | [] => some []
  | x :: r => x.iv.bind fun y => (ivs r).map fun s => y :: s

def AV.cells : AV → List AV
  | .agg cs => cs
  | x => [x]

def cvs (l : List Value) : Option (List AV) :=
  match l with
  | [] => some []
  | v :: r => (cv v).bind fun x => (cvs r).map fun s => x :: s

/-- Is it a struct of plain cells (texts, numbers, bools), one behind the other? -/
def plainKinds (P : Program) : Nat → List Field → Option (List Kd)
  | _, [] => some []
  | n, f :: r => if f.name != "_" && f.offset == n then
      match P.underlying f.type with
      | some .string => (plainKinds P (n + 1) r).map fun s => .s :: s
      | some .bool => (plainKinds P (n + 1) r).map fun s => .b :: s
      | some (.int _) => (plainKinds P (n + 1) r).map fun s => .i :: s
      | _ => none
    else none

def plainStruct (P : Program) (t : TypeId) : Option (List Kd) :=
  match P.underlying t with
  | some (.struct fs) => if !P.stoodInHeld t && !P.eqGuardType P.depth t then plainKinds P 0 fs.toList else none
  | _ => none

def eqNeg : BinOp → Option Bool
  | .eql => some false
  | .neq => some true
  | _ => none

def isNilC : Operand → Bool
  | .const .nilIface => true
  | _ => false

def bldPs (pl : List (Nat × Nat)) : List Nat → List O → Option (List (Nat × Nat × O))
  | j :: js, x :: xs => (pl[j]?).bind fun p => (bldPs pl js xs).map fun r => (p.1, p.2, x) :: r
  | [], [] => some []
  | _, _ => none

/-- What may be appended: a text, a slice. -/
def srcT (P : Program) (xt : TypeId) : Bool := match P.underlying xt with | some .string | some (.slice _) => true | _ => false

/-- A function with a body, that is entered. -/
def goBody (P : Program) (f : Nat) : Bool := (P.funcs[f]?).any (fun fn => fn.body.isSome && fn.name != "runtime.NumGoroutine")

def comp (P : Program) (G : Nat → Option (List IV)) (o : Oper) : Option Ins :=
  match o.op with
  | .move x | .assign x => (co G x).map .mov
  | .pick c a b => (co G c).bind fun c => (co G a).bind fun a => (co G b).map fun b => .pick c a b
  | .fieldAddr t x f =>
    match P.underlying t with
    | some (.struct fs) => fs[f]?.bind fun fd => (tsz P fd.type).bind fun s => if s = 0 then none else (co G x).map fun x => .fld x fd.offset
    | _ => none
  | .indexAddr t x i =>
    match P.underlying t with
    | some (.slice e) => (tsz P e).bind fun s => (co G x).bind fun x => (co G i).map fun i => .ixa x i s
    | _ => none
  | .index t x i =>
    match P.underlying t with
    | some .string => (co G x).bind fun x => (co G i).map fun i => .ixs x i
    | _ => none
  | .slice t x lo hi mx =>
    match P.underlying t with
    | some (.slice e) => (tsz P e).bind fun s => (co G x).bind fun x => (coOpt G lo).bind fun lo => (coOpt G hi).bind fun hi => (coOpt G mx).map fun mx => .slc x lo hi mx s
    | some .string => if mx.isSome then none else (co G x).bind fun x => (coOpt G lo).bind fun lo => (coOpt G hi).map fun hi => .slcs x lo hi
    | _ => none
  | .binOp op t x y _ =>
    match P.underlying t with
    | some (.int _) | some .string => (co G x).bind fun x => (co G y).map fun y => .bin op x y
    | some .bool => (eqNeg op).bind fun n => (co G x).bind fun x => (co G y).map fun y => .eqb n x y
    | some (.pointer _) => (eqNeg op).bind fun n => (co G x).bind fun x => (co G y).map fun y => .eqp n x y
    | some (.interface _) => if isNilC y then (eqNeg op).bind fun n => (co G x).bind fun x => (co G y).map fun y => .eqi n x y else none
    | some (.struct _) => (plainStruct P t).bind fun ks => (eqNeg op).bind fun n => (co G x).bind fun x => (co G y).map fun y => .eqst n ks x y
    | _ => none
  | .unOp .not _ x => (co G x).map .not
  | .unOp .neg _ x => (co G x).map .neg
  | .extract x i => (co G x).map fun x => .ext x i
  | .nilCheck x => (co G x).map .nchk
  | .box _ x => (co G x).map .box
  | .makeFunc (.func f) first cap => if first.isEmpty then (cos G cap.toList).map fun c => .mkf f c else none
  | .load t x => (mOf P t).bind fun m => (co G x).map fun x => .load m x
  | .alloc t => match P.info? t with
    | some i => match i.zero with
      | some z => if z.cells.size = i.size then (cvs z.cells.toList).map .new else none
      | none => none
    | none => none
  | .store t x y => (tsz P t).bind fun s => (co G x).bind fun x => (co G y).map fun y => .store s x y
  | .convert s d x =>
    match P.underlying s, P.underlying d with
    | some (.int _), some (.int k) => (co G x).map fun x => .cvi k x
    | some .string, some .string => (co G x).map .cvs
    | _, _ => none
  | .makeInterface t x =>
    match P.underlying t with
    | some (.interface _) => none
    | some _ => (co G x).map fun x => .mkif t x
    | none => none
  | .field t x f =>
    match P.underlying t with
    | some (.struct fs) => fs[f]?.bind fun fd => (mOf P fd.type).bind fun m => (co G x).map fun x => .getf x fd.offset m
    | _ => none
  | .buildSlice t n ps =>
    match P.underlying t with
    | some (.slice e) => match P.info? e with
      | some i => match i.zero with
        | some z => if z.cells.size = i.size ∧ 0 < i.size ∧ n * i.size ≤ 2 ^ 24 then (cvs z.cells.toList).bind fun zs => (cos G (ps.toList.map (·.2))).map fun xs => .lits n i.size zs ((ps.toList.map (·.1)).zip xs) else none
        | none => none
      | none => none
    | _ => none
  | .build t ps =>
    match P.info? t, P.underlying t with
    | some it, some (.struct fields) => match it.zero, fields.toList.mapM (fun f => (P.info? f.type).map fun i => (f.offset, i.size)) with
      | some z, some places => (cvs z.cells.toList).bind fun zs => (cos G (ps.toList.map (·.2))).bind fun xs => (bldPs places (ps.toList.map (·.1)) xs).map fun qs => .bld zs qs
      | _, _ => none
    | _, _ => none
  | .call c =>
    match c.callee with
    | .builtin .len => match c.args.toList, c.argTypes[0]?.bind P.underlying with
      | [x], some .string => (co G x).map .lens
      | [x], some (.slice _) => (co G x).map .len
      | _, _ => none
    | .builtin .max => match c.args.toList with
      | [x, y] => (co G x).bind fun x => (co G y).map fun y => .max x y
      | _ => none
    | .builtin .min => match c.args.toList with
      | [x, y] => (co G x).bind fun x => (co G y).map fun y => .min x y
      | _ => none
    | .builtin .append => match c.args.toList, c.argTypes.toList with
      | [s, x], [st, xt] => match P.underlying st with
        | some (.slice e) => match P.info? e with
          | some i => if (i.zero.map (·.cells.size)) == some i.size && decide (0 < i.size) && srcT P xt then
              (co G s).bind fun s => (co G x).map fun x => .app s x i.size i.bytes else none
          | none => none
        | _ => none
      | _, _ => none
    | .builtin _ => none
    | .invoke _ _ => none
    | .value (.func f) => if goBody P f then (cos G c.args.toList).map fun xs => .call f xs else none
    | .value f => (co G f).bind fun y => (cos G c.args.toList).map fun xs => .callv y xs
  | _ => none

open Classical in
/-- What a bound of a cut comes to. -/
noncomputable def bnd (env : Env) (o : Option O) (dflt mx : Nat) : Option Nat :=
  match o with
  | none => some dflt
  | some x => match ev env x with
    | .int _ v => if 0 ≤ v ∧ v.toNat ≤ mx then some v.toNat else none
    | _ => none

def Elsz (sz : Nat) (xs : List IV) : Prop := ∀ x ∈ xs, x.cells.length = sz

def binV (op : BinOp) (x y : AV) : Option AV :=
  match x, y with
  | .int k a, .int k' b => if k = k' then match op with
      | .add => some (.int k (k.wrap (a + b)))
      | .sub => some (.int k (k.wrap (a - b)))
      | .mul => some (.int k (k.wrap (a * b)))
      | .quo => if b = 0 then none else some (.int k (k.wrap (a.tdiv b)))
      | .rem => if b = 0 then none else some (.int k (a.tmod b))
      | .eql => some (.bool (a == b))
      | .neq => some (.bool (a != b))
      | .lss => some (.bool (a < b))
      | .leq => some (.bool (a ≤ b))
      | .gtr => some (.bool (a > b))
      | .geq => some (.bool (a ≥ b))
      | _ => none
    else none
  | .str a, .str b => match op with
      | .add => if a.length + b.length ≤ 9223372036854775807 then some (.str (a ++ b)) else none
      | .eql => some (.bool (a == b))
      | .neq => some (.bool !(a == b))
      | .lss => some (.bool (Op.bytesLess a b))
      | .leq => some (.bool (Op.bytesLess a b || a == b))
      | .gtr => some (.bool !(Op.bytesLess a b || a == b))
      | .geq => some (.bool !(Op.bytesLess a b))
      | _ => none
  | _, _ => none

def eq1 : Kd → AV → AV → Option Bool
  | .b, .bool a, .bool b => some (a == b)
  | .i, .int k a, .int k' b => if k = k' then some (a == b) else none
  | .s, .str a, .str b => some (a == b)
  | _, _, _ => none

def eqs : List Kd → List AV → List AV → Option Bool
  | [], [], [] => some true
  | k :: ks, x :: r, y :: s => (eq1 k x y).bind fun a => (eqs ks r s).map fun b => a && b
  | _, _, _ => none

def eqP : AV → AV → Option Bool
  | .nilp, .nilp => some true
  | .nilp, .ptr .. => some false
  | .nilp, .lptr .. => some false
  | .ptr .., .nilp => some false
  | .lptr .., .nilp => some false
  | _, _ => none

/-- The bounds of a cut of something of n elements. -/
noncomputable def cutB (env : Env) (lo hi mx : Option O) (n : Nat) : Option (Nat × Nat × Option Nat) :=
  match mx with
  | none => (bnd env hi n n).bind fun h => (bnd env lo 0 h).map fun l => (l, h, none)
  | some m => if hi.isNone then none else (bnd env (some m) 0 n).bind fun m => (bnd env hi 0 m).bind fun h => (bnd env lo 0 h).map fun l => (l, h, some m)

open Classical in
noncomputable def slcV (env : Env) (x : AV) (lo hi mx : Option O) (sz : Nat) : Option AV :=
  match x with
  | .nil0 => (cutB env lo hi mx 0).map fun _ => .nil0
  | .list xs => if Elsz sz xs then (cutB env lo hi mx xs.length).map fun b => if b.2.2 = some b.1 then .nil0 else .list ((xs.take b.2.1).drop b.1) else none
  | .sl lb s i n => if s = sz then (cutB env lo hi mx n).bind fun b => if b.2.2.isSome then none else some (.sl lb s (i + b.1) (b.2.1 - b.1)) else none
  | _ => none

/-- Values that fit one cell. -/
def AV.one : AV → Bool
  | .any | .un | .agg _ | .tup _ => false
  | _ => true

/-- Values that may be stored. -/
def AV.stb : AV → Bool
  | .agg cs => cs.all AV.one
  | x => x.one

/-- Fill parts into cells. -/
def fillA : List AV → List (Nat × Nat × AV) → Option (List AV)
  | cs, [] => some cs
  | cs, (off, sz, x) :: r => if x.stb = true ∧ x.cells.length = sz ∧ off + sz ≤ cs.length then fillA (cs.take off ++ x.cells ++ cs.drop (off + sz)) r else none

def mkE : List IV → IV
  | [y] => y
  | ys => .agg ys

/-- Cells, element by element. -/
def chunks (sz : Nat) : Nat → List IV → List IV
  | 0, _ => []
  | n + 1, ys => mkE (ys.take sz) :: chunks sz n (ys.drop sz)

open Classical in
/-- The instructions that neither read nor write an owned row. -/
noncomputable def stillV (i : Ins) (env : Env) : Option AV :=
  match i with
  | .mov x => some (ev env x)
  | .pick c a b => match ev env c with
    | .bool t => some (if t then ev env a else ev env b)
    | _ => none
  | .fld a off => match ev env a with
    | .ptr l sz i j => some (.ptr l sz i (j + off))
    | .lptr cs => some (.lptr (cs.drop off))
    | _ => none
  | .ixa x i sz => match ev env x, ev env i with
    | .list xs, .int _ n => if 0 ≤ n then match xs[n.toNat]? with
        | some y => if Elsz sz xs then some (.lptr y.cells) else none
        | none => none
      else none
    | .sl l s i0 m, .int _ n => if 0 ≤ n ∧ n.toNat < m ∧ s = sz then some (.ptr l s (i0 + n.toNat) 0) else none
    | _, _ => none
  | .ixs x i => match ev env x, ev env i with
    | .str s, .int _ n => if 0 ≤ n then match s[n.toNat]? with
        | some c => some (.int .u8 c.toNat)
        | none => none
      else none
    | _, _ => none
  | .lens x => match ev env x with
    | .str s => some (.int .i64 s.length)
    | _ => none
  | .len x => match ev env x with
    | .list xs => some (.int .i64 xs.length)
    | .nil0 => some (.int .i64 0)
    | .sl _ _ _ n => some (.int .i64 n)
    | _ => none
  | .slc x lo hi mx sz => slcV env (ev env x) lo hi mx sz
  | .slcs x lo hi => match ev env x with
    | .str s => (bnd env hi s.length s.length).bind fun h => (bnd env lo 0 h).map fun l => .str ((s.take h).drop l)
    | _ => none
  | .bin op x y => binV op (ev env x) (ev env y)
  | .eqb neg x y => match ev env x, ev env y with
    | .bool a, .bool b => some (.bool (neg ^^ (a == b)))
    | _, _ => none
  | .eqp neg x y => (eqP (ev env x) (ev env y)).map fun b => .bool (neg ^^ b)
  | .eqi neg x _ => match ev env x with
    | .nilif => some (.bool (neg ^^ true))
    | .ifc _ _ => some (.bool (neg ^^ false))
    | _ => none
  | .eqst neg ks x y => match ev env x, ev env y with
    | .agg xs, .agg ys => (eqs ks xs ys).map fun b => .bool (neg ^^ b)
    | _, _ => none
  | .not x => match ev env x with
    | .bool b => some (.bool !b)
    | _ => none
  | .neg x => match ev env x with
    | .int k n => some (.int k (k.wrap (0 - n)))
    | _ => none
  | .max x y => match ev env x, ev env y with
    | .int k a, .int k' b => if k = k' then some (.int k (if b > a then b else a)) else none
    | _, _ => none
  | .min x y => match ev env x, ev env y with
    | .int k a, .int k' b => if k = k' then some (.int k (if b < a then b else a)) else none
    | _, _ => none
  | .ext x i => match ev env x with
    | .tup cs => cs[i]?
    | _ => none
  | .nchk x => match ev env x with
    | .ptr l sz i j => some (.ptr l sz i j)
    | .lptr cs => some (.lptr cs)
    | .fn f a b => some (.fn f a b)
    | _ => none
  | .mkf f cap => some (.fn f [] (cap.map (ev env)))
  | .cvi k x => match ev env x with
    | .int _ n => some (.int k (k.wrap n))
    | _ => none
  | .cvs x => match ev env x with
    | .str s => some (.str s)
    | _ => none
  | .mkif t x => some (.ifc t (ev env x))
  | .bld z ps => (fillA z (ps.map fun p => (p.1, p.2.1, ev env p.2.2))).map .agg
  | .getf x off m => match ev env x with
    | .agg cs => match m with
      | none => cs[off]?
      | some k => if off + k ≤ cs.length then some (.agg ((cs.drop off).take k)) else none
    | _ => none
  | .boxi x => (ivs (ev env x).cells).map .lptr
  | .lits n sz z ps => if sz * n = 0 then none else (fillA ((List.replicate n z).flatten) (ps.map fun p => (p.1 * sz, sz, ev env p.2))).bind fun cs => (ivs cs).map fun ys =>
      .list (chunks sz n ys)
  | .load m a => match ev env a with
    | .lptr cs => match m with
      | none => cs[0]?.map IV.av1
      | some k => if k ≤ cs.length then some (.agg ((cs.take k).map IV.av1)) else none
    | _ => none
  | .cvb x => match ev env x with
    | .str s => if s.length ≤ 140737488355328 then some (.list (s.map fun c => .int .u8 c.toNat)) else none
    | _ => none
  | _ => none

end Go.Am
