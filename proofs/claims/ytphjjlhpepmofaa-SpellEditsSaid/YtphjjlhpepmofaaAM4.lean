/- The operations of the walk: their texts, what they come to, and how the program's own operations are read as them. -/
import Derived.Test.YtphjjlhpepmofaaAM3
set_option linter.all false
namespace Go.AM
open Go

inductive MOp where
  | mv (x : Opd)
  | nilS (sz : Nat)
  | pick (c a b : Opd)
  | bin (op : BinOp) (x y : Opd)
  | un (op : UnOp) (x : Opd)
  | len (str : Bool) (x : Opd)
  | mm (mx : Bool) (x y : Opd)
  | eqb (ng : Bool) (x y : Opd)
  | six (x i : Opd)
  | sls (x : Opd) (lo hi : Option Opd)
  | slc (own : Bool) (sz : Nat) (x : Opd) (lo hi : Option Opd)
  | sl0 (sz : Nat) (x : Opd)
  | ia (sz : Nat) (x i : Opd)
  | iaA (n sz : Nat) (x i : Opd)
  | fa (off : Nat) (x : Opd)
  | fld (agg : Bool) (off sz : Nat) (x : Opd)
  | aix (agg : Bool) (n sz : Nat) (x i : Opd)
  | ld (agg : Bool) (sz : Nat) (x : Opd)
  | stt (agg : Bool) (sz : Nat) (x v : Opd)
  | box (ld : Bool) (x : Opd)
  | alloc (agg : Bool) (z : List PV)
  | build (ld : Bool) (z : List PV) (parts : List (Nat × Nat × Opd))
  | buildS (ld : Bool) (sz n : Nat) (agg : Bool) (z : List PV) (parts : List (Nat × Opd))
  | app (sz bytes : Nat) (x y : Opd)
  | cln (sz bytes : Nat) (y : Opd)
  | eqS (ng : Bool) (ks : List Bool) (x y : Opd)
  | mm3 (mx : Bool) (x y z : Opd)
  | mkS (sz bytes : Nat) (agg : Bool) (z : List PV) (n c : Opd)
  | ext (x : Opd) (i : Nat)
  | conv (k : IntKind) (x : Opd)
  | cvS (x : Opd)
  | chk (x : Opd)
  | mkf (f : Nat) (caps : List Opd)

/-- An operation, or a call, with its guard and its slot. -/
inductive MO where
  | op (g : Option (Nat × Bool)) (d : Nat) (m : MOp)
  | store (g : Option (Nat × Bool)) (agg : Bool) (sz : Nat) (x v : Opd)
  | call (g : Option (Nat × Bool)) (d : Nat) (f : Opd) (args : List Opd)

inductive MC where
  | skip
  | reg (q : Bool) (ops : List MO)
  | seq (a b : MC)
  | cond (c : Opd) (a b : MC)
  | block (id : Nat) (b : MC)
  | loop (b : MC)
  | exit (id : Nat)
  | ret

/-! ### What they come to -/
abbrev Env := List (Nat × AV)

@[simp] def PV.i (n : Int) : PV := .w (.int .i64 n)
@[simp] def PV.b (x : Bool) : PV := .w (.bool x)
@[simp] def PV.s (x : ByteArray) : PV := .w (.string x)

def shV (op : BinOp) (k : IntKind) (a b : Int) : Option Value :=
  if b < 0 then none else match op with
    | .shl => some (.int k (k.wrap (a * 2 ^ min b.toNat k.bits)))
    | .shr => some (.int k (a.fdiv (2 ^ min b.toNat k.bits)))
    | _ => none

def intBin (op : BinOp) (k : IntKind) (a b : Int) : Option Value :=
  match op with
  | .add => some (.int k (k.wrap (a + b)))
  | .sub => some (.int k (k.wrap (a - b)))
  | .mul => some (.int k (k.wrap (a * b)))
  | .quo => if b = 0 then none else some (.int k (k.wrap (a.tdiv b)))
  | .rem => if b = 0 then none else some (.int k (a.tmod b))
  | .eql => some (.bool (decide (a = b)))
  | .neq => some (.bool (!decide (a = b)))
  | .lss => some (.bool (decide (a < b)))
  | .leq => some (.bool (decide (a ≤ b)))
  | .gtr => some (.bool (decide (a > b)))
  | .geq => some (.bool (decide (a ≥ b)))
  | .shl => shV .shl k a b
  | .shr => shV .shr k a b
  | _ => none

def slt (x y : ByteArray) : Bool := Op.bytesLess x.toList y.toList

def strBin (op : BinOp) (a b : ByteArray) : Option Value :=
  match op with
  | .add => if a.size + b.size ≤ 1000000000000 then some (.string (a ++ b)) else none
  | .eql => some (.bool (decide (a = b)))
  | .neq => some (.bool (!decide (a = b)))
  | .lss => some (.bool (slt a b))
  | .leq => some (.bool (slt a b || decide (a = b)))
  | .gtr => some (.bool (!(slt a b || decide (a = b))))
  | .geq => some (.bool (!slt a b))
  | _ => none

def binV (op : BinOp) : Value → Value → Option Value
  | .int k a, .int k' b => if k = k' then intBin op k a b else shV op k a b
  | .string a, .string b => strBin op a b
  | _, _ => none

def binA (op : BinOp) : AV → AV → Option AV
  | .v (.w a), .v (.w b) => (binV op a b).map fun v => .v (.w v)
  | _, _ => none

def unA (op : UnOp) : AV → Option AV
  | .v (.w (.bool b)) => match op with | .not => some (.v (.w (.bool (!b)))) | _ => none
  | .v (.w (.int k a)) => match op with | .neg => some (.v (.w (.int k (k.wrap (0 - a))))) | _ => none
  | _ => none

/-- The row that a value is: its cells an element, its elements. -/
def rdRow (H : Heap) : AV → Option (Nat × List PV)
  | .v (.sl sz l) => some (sz, l)
  | .h id => match find H id with
    | some e => if e.sz = 0 then none else some (e.sz, e.l)
    | none => none
  | _ => none

/-- A value to be kept: a row that the call owned is written no more. -/
def tov (q : Bool) (H : Heap) : AV → Option (PV × Heap)
  | .v p => some (p, H)
  | .h id => match find H id with
    | some e => if e.sz = 0 then none else if e.fro = true then some (.sl e.sz e.l, H) else if q = true then none else some (.sl e.sz e.l, setIn H id { e with fro := true })
    | none => none
  | .fn f [] => some (.w (.func (.func f) #[] #[]), H)
  | _ => none

def cellRd (cs : List PV) (agg : Bool) (off sz : Nat) : Option PV :=
  if agg = true then (if off + sz ≤ cs.length then some (.st ((cs.drop off).take sz)) else none) else cs[off]?

def layP {α : Type} (c : List α) (o : Nat) (news : List α) : List α := c.take o ++ news ++ c.drop (o + news.length)

def mkEl (q : PV) (cs : List PV) : PV := if q.isSt = true then .st cs else cs.headD q

def asI : AV → Option Int
  | .v (.w (.int _ n)) => some n
  | _ => none

def zOf (agg : Bool) (z : List PV) : PV := if agg = true then .st z else z.headD (.st z)

def buildP (q : Bool) (E : Env) : List PV → Heap → List (Nat × Nat × Opd) → Option (List PV × Heap)
  | cs, H, [] => some (cs, H)
  | cs, H, (off, sz, x) :: ps =>
    match (ev E x).bind (tov q H) with
    | some (p, H') => if p.cells.length = sz ∧ off + sz ≤ cs.length then buildP q E (layP cs off p.cells) H' ps else none
    | none => none

def buildL (q : Bool) (E : Env) (sz : Nat) : List PV → Heap → List (Nat × Opd) → Option (List PV × Heap)
  | cs, H, [] => some (cs, H)
  | cs, H, (i, x) :: ps =>
    match (ev E x).bind (tov q H) with
    | some (p, H') => if p.cells.length = sz ∧ i < cs.length then buildL q E sz (cs.set i p) H' ps else none
    | none => none

def evs (E : Env) : List Opd → Option (List AV)
  | [] => some []
  | x :: l => match ev E x, evs E l with
    | some a, some as => some (a :: as)
    | _, _ => none

/-- The bounds of a cut. -/
def bnds (E : Env) (n : Nat) (lo hi : Option Opd) : Option (Nat × Nat) :=
  match (match hi with | none => some (n : Int) | some x => (ev E x).bind asI), (match lo with | none => some (0 : Int) | some x => (ev E x).bind asI) with
  | some h, some l => if 0 ≤ l ∧ l ≤ h ∧ h ≤ n then some (l.toNat, h.toNat) else none
  | _, _ => none

/-- The first entry of a row of rows: element i is row c. -/
@[reducible] def encR (i c : Nat) : PV := .st [.w (.int .i64 i), .w (.int .i64 c)]

/-- An element of a row of rows. -/
def ldX (q : Bool) (id : Nat) (l : List PV) (agg : Bool) (sz i o : Nat) : Option AV :=
  match l with
  | h :: rest => if agg = false ∧ sz = 1 ∧ i = 0 then (match decR h, rest[o]? with
    | some (some (j, c)), some p => if o = j then (if q = true ∧ ¬ c + 1024 ≤ id then none else some (.h c)) else if p.isSt = true then none else some (.v p)
    | some none, some p => if p.isSt = true then none else some (.v p)
    | _, _ => none) else none
  | [] => none

/-- A row becomes an element of a row of rows. -/
def sttN (q : Bool) (H : Heap) (k i o c : Nat) : Option (AV × Heap) :=
  match find H k, find H c with
  | some e, some ec => match e.l with
    | h :: rest => if q = false ∧ i = 0 ∧ e.fro = false ∧ e.sz = 0 ∧ ec.sz ≠ 0 ∧ o < rest.length then (match decR h with
      | some none => some (.u, setIn H k ⟨false, 0, encR o c :: rest⟩)
      | some (some (j, _)) => if j = o then some (.u, setIn H k ⟨false, 0, encR o c :: rest⟩) else none
      | none => none) else none
    | [] => none
  | _, _ => none

/-- Whether structs of scalars are equal. -/
def eqCells : List Bool → List PV → List PV → Option Bool
  | [], [], [] => some true
  | true :: ks, .w (.int k a) :: l, .w (.int k' b) :: m => if k = k' then (eqCells ks l m).map fun r => decide (a = b) && r else none
  | false :: ks, .w (.string a) :: l, .w (.string b) :: m => (eqCells ks l m).map fun r => decide (a = b) && r
  | _, _, _ => none

/-- What an operation comes to. q: alone what leaves the rows that there are as they were. -/
def mval (q : Bool) (E : Env) (H : Heap) (id : Nat) : MOp → Option (AV × Heap)
  | .mv x => (ev E x).map fun a => (a, H)
  | .nilS sz => some (.h id, (id, ⟨false, sz, []⟩) :: H)
  | .pick c a b => match ev E c with
    | some (.v (.w (.bool t))) => (ev E (if t = true then a else b)).map fun a => (a, H)
    | _ => none
  | .bin op x y => match ev E x, ev E y with
    | some a, some b => (binA op a b).map fun a => (a, H)
    | _, _ => none
  | .un op x => match ev E x with
    | some a => (unA op a).map fun a => (a, H)
    | _ => none
  | .len true x => match ev E x with
    | some (.v (.w (.string s))) => some (.v (.w (.int .i64 s.size)), H)
    | _ => none
  | .len false x => match ev E x with
    | some a => match rdRow H a with
      | some (_, l) => some (.v (.w (.int .i64 l.length)), H)
      | none => none
    | none => none
  | .mm mx x y => match ev E x, ev E y with
    | some (.v (.w (.int k a))), some (.v (.w (.int k' b))) => some (.v (.w (.int k (if mx = true then (if b > a then b else a) else (if b < a then b else a)))), H)
    | some (.v (.w (.string a))), some (.v (.w (.string b))) => some (.v (.w (.string (if mx = true then (if slt a b = true then b else a) else (if slt a b = true ∨ a = b then a else b)))), H)
    | _, _ => none
  | .eqb ng x y => match ev E x, ev E y with
    | some (.v (.w (.bool a))), some (.v (.w (.bool b))) => some (.v (.w (.bool (if ng = true then !(a == b) else a == b))), H)
    | _, _ => none
  | .six x i => match ev E x, (ev E i).bind asI with
    | some (.v (.w (.string s))), some n => if 0 ≤ n then (s.data.toList[n.toNat]?).map fun c => (.v (.w (.int .u8 c.toNat)), H) else none
    | _, _ => none
  | .sls x lo hi => match ev E x with
    | some (.v (.w (.string s))) => (bnds E s.size lo hi).map fun (l, h) => (.v (.w (.string (s.extract l h))), H)
    | _ => none
  | .slc own sz x lo hi => match ev E x with
    | some a => match rdRow H a with
      | some (sz', l) => if sz' = sz then
          match bnds E l.length lo hi with
          | some (i, j) =>
            if own = true then (match a with
              | .h k => match find H k with
                | some e => if e.fro = true ∨ q = true then none else some (.h id, (id, ⟨false, sz, (l.take j).drop i⟩) :: strike H k)
                | none => none
              | _ => none)
            else (tov q H a).map fun (_, H') => (.v (.sl sz ((l.take j).drop i)), H')
          | none => none
        else none
      | none => none
    | none => none
  | .sl0 sz x => match ev E x with
    | some a => match rdRow H a with
      | some _ => some (.h id, (id, ⟨false, sz, []⟩) :: H)
      | none => none
    | none => none
  | .ia sz x i => match ev E x, (ev E i).bind asI with
    | some (.v (.sl sz' l)), some n => if 0 ≤ n ∧ sz' = sz then (l[n.toNat]?).map fun p => (.rp p.cells, H) else none
    | some (.h k), some n => match find H k with
      | some e => if e.sz = 0 then (if sz = 1 ∧ 0 ≤ n ∧ e.fro = false ∧ n.toNat + 1 < e.l.length then some (.ptr k 0 n.toNat, H) else none) else if 0 ≤ n ∧ e.sz = sz then (e.l[n.toNat]?).map fun p => (if e.fro = true then .rp p.cells else .ptr k n.toNat 0, H) else none
      | none => none
    | _, _ => none
  | .iaA n sz x i => match ev E x, (ev E i).bind asI with
    | some (.ptr k a o), some j => if 0 ≤ j ∧ j < n ∧ (find H k).isSome = true then some (.ptr k a (o + j.toNat * sz), H) else none
    | some (.rp cs), some j => if 0 ≤ j ∧ j < n then some (.rp (cs.drop (j.toNat * sz)), H) else none
    | _, _ => none
  | .fa off x => match ev E x with
    | some (.ptr k a o) => if (find H k).isSome = true then some (.ptr k a (o + off), H) else none
    | some (.rp cs) => some (.rp (cs.drop off), H)
    | _ => none
  | .fld agg off sz x => match ev E x with
    | some (.v (.st cs)) => (cellRd cs agg off sz).map fun p => (.v p, H)
    | _ => none
  | .aix agg n sz x i => match ev E x, (ev E i).bind asI with
    | some (.v (.st cs)), some j => if 0 ≤ j ∧ j < n then (cellRd cs agg (j.toNat * sz) sz).map fun p => (.v p, H) else none
    | _, _ => none
  | .ld agg sz x => match ev E x with
    | some (.rp cs) => (cellRd cs agg 0 sz).map fun p => (.v p, H)
    | some (.ptr k i o) => match find H k with
      | some e => if e.sz = 0 then (if e.fro = false then (ldX q id e.l agg sz i o).map fun a => (a, H) else none) else match e.l[i]? with
        | some w => if o < e.sz then (cellRd w.cells agg o sz).map fun p => (.v p, H) else none
        | none => none
      | none => none
    | _ => none
  | .stt agg sz x v => if sz = 0 then (match ev E x, ev E v with
    | some (.ptr k i o), some (.h c) => sttN q H k i o c
    | _, _ => none) else match ev E x, (ev E v).bind (tov q H) with
    | some (.ptr k i o), some (p, H1) => match find H1 k with
      | some e => match e.l[i]? with
        | some w => if e.fro = false ∧ p.isSt = agg ∧ p.cells.length = sz ∧ o + sz ≤ w.cells.length ∧ w.cells.length = e.sz ∧ q = false ∧ e.sz ≠ 0 then
            some (.u, setIn H1 k { e with l := e.l.set i (mkEl w (layP w.cells o p.cells)) }) else none
        | none => none
      | none => none
    | _, _ => none
  | .box _ x => match (ev E x).bind (tov q H) with
    | some (p, H1) => if p.cells.length = 0 then none else some (.ptr id 0 0, (id, ⟨false, p.cells.length, [p]⟩) :: H1)
    | none => none
  | .alloc agg z => some (.ptr id 0 0, (id, ⟨false, z.length, [zOf agg z]⟩) :: H)
  | .build _ z ps => (buildP q E z H ps).map fun (cs, H') => (.v (.st cs), H')
  | .buildS _ sz n agg z ps => (buildL q E sz (List.replicate n (zOf agg z)) H ps).map fun (l, H') => (.h id, (id, ⟨false, sz, l⟩) :: H')
  | .app sz bytes x y => match ev E x, ev E y with
    | some (.h k), some b => match find H k, rdRow H b with
      | some e, some (sz', ys) => if e.fro = false ∧ e.sz = sz ∧ sz' = sz ∧ (e.l.length + ys.length + 1000) * bytes ≤ 70368744177664 ∧ q = false ∧ sz ≠ 0 then
          some (.h id, (id, ⟨false, sz, e.l ++ ys⟩) :: strike H k) else none
      | _, _ => none
    | _, _ => none
  | .cln sz bytes y => match ev E y with
    | some b => match rdRow H b with
      | some (sz', ys) => if sz' = sz ∧ (ys.length + 1000) * bytes ≤ 70368744177664 then some (.h id, (id, ⟨false, sz, ys⟩) :: H) else none
      | none => none
    | none => none
  | .eqS ng ks x y => match ev E x, ev E y with
    | some (.v (.st a)), some (.v (.st b)) => (eqCells ks a b).map fun r => (.v (.w (.bool (if ng = true then !r else r))), H)
    | _, _ => none
  | .mm3 mx x y z => match ev E x, ev E y, ev E z with
    | some (.v (.w (.int k a))), some (.v (.w (.int _ b))), some (.v (.w (.int _ c))) =>
      some (.v (.w (.int k (if mx = true then (if c > (if b > a then b else a) then c else (if b > a then b else a)) else (if c < (if b < a then b else a) then c else (if b < a then b else a))))), H)
    | _, _, _ => none
  | .mkS sz bytes agg z n c => match (ev E n).bind asI, (ev E c).bind asI with
    | some n, some c => if 0 ≤ n ∧ n ≤ c ∧ c * bytes ≤ 70368744177664 ∧ c ≤ 1000000000000 then some (.h id, (id, ⟨false, sz, List.replicate n.toNat (zOf agg z)⟩) :: H) else none
    | _, _ => none
  | .ext x i => match ev E x with
    | some (.tup l) => (l[i]?).map fun a => (a, H)
    | _ => none
  | .conv k x => match ev E x with
    | some (.v (.w (.int _ n))) => some (.v (.w (.int k (k.wrap n))), H)
    | _ => none
  | .cvS x => match ev E x with
    | some (.v (.w (.string b))) => some (.v (.w (.string b)), H)
    | _ => none
  | .chk x => match ev E x with
    | some (.ptr k i o) => if (find H k).isSome = true then some (.ptr k i o, H) else none
    | some (.rp cs) => some (.rp cs, H)
    | some (.fn f cs) => some (.fn f cs, H)
    | _ => none
  | .mkf f caps => (evs E caps).map fun l => (.fn f l, H)

/-! ### Reading the program's operations -/
section
variable (P : Program) (ows : List Nat)

def szT (t : TypeId) : Nat := P.cellsOf t
def aggT (t : TypeId) : Bool := match P.underlying t with | some (.struct _) | some (.array _ _) => true | _ => false
def knownT (t : TypeId) : Bool := (P.info? t).isSome && (P.underlying t).isSome
def elemT (t : TypeId) : Option TypeId := match P.underlying t with | some (.slice e) => some e | _ => none
def elSz (t : TypeId) : Nat := match elemT P t with | some e => szT P e | none => 1

def constC : Value → Option PV
  | .slice none 0 0 => some (.sl 1 [])
  | v => if scal v = true then some (.w v) else none

def mapO {α β : Type} (f : α → Option β) : List α → Option (List β)
  | [] => some []
  | x :: l => match f x, mapO f l with
    | some y, some ys => some (y :: ys)
    | _, _ => none

def constP (t : TypeId) : Value → Option PV
  | .slice none 0 0 => some (.sl (elSz P t) [])
  | .agg cs => (mapO constC cs.toList).map .st
  | v => if scal v = true then some (.w v) else none

def opd (t : TypeId) : Operand → Option Opd
  | .tmp n => some (.t n)
  | .func f => some (.f f)
  | .const (.func (.func f) a b) => if a.size = 0 ∧ b.size = 0 then some (.f f) else none
  | .const v => (constP P t v).map .c
  | .global _ => none

def zeroP (t : TypeId) : Option (List PV) := match P.info? t with
  | some i => match i.zero with
    | some z => mapO constC z.cells.toList
    | none => none
  | none => none

/-- A slot that the caller marks. -/
def ldF (o : Oper) : Bool := match o.dst with | some d => ows.contains d | none => false

def isNilSlice : Value → Bool | .slice none 0 0 => true | _ => false

def isNilC : Operand → Bool | .const v => isNilSlice v | _ => false

/-- The kinds of the fields of a struct whose fields are numbers and texts. -/
def eqK1 (f : Field) : Option Bool := if f.name ≠ "_" ∧ knownT P f.type = true ∧ szT P f.type = 1 then (match P.underlying f.type with | some (.int _) => some true | some .string => some false | _ => none) else none
def eqF (fs : Array Field) : Option (List Bool) := if fs.toList.map (·.offset) = List.range' 0 fs.toList.length then mapO (eqK1 P) fs.toList else none

def cMv (x : Operand) (t : TypeId) : Option MOp :=
  match x with
  | .const v => if isNilSlice v = true then (elemT P t).map fun e => .nilS (szT P e) else (opd P t x).map .mv
  | _ => (opd P t x).map .mv

def optO (x : Option Operand) : Option (Option Opd) := match x with | none => some none | some x => (opd P 0 x).map some

def cOp (o : Oper) : Option MOp :=
  match o.op with
  | .move x | .assign x => cMv P x o.type
  | .pick c a b => match opd P 0 c, opd P o.type a, opd P o.type b with
    | some c, some a, some b => some (.pick c a b)
    | _, _, _ => none
  | .binOp op t x y _ => match opd P t x, opd P t y with
    | some a, some b => match P.underlying t with
      | some .bool => match op with
        | .eql => some (.eqb false a b)
        | .neq => some (.eqb true a b)
        | _ => none
      | some (.struct fs) => match eqF P fs with
        | some ks => if P.stoodInHeld t = false ∧ P.eqGuardType P.depth t = false then (match op with
          | .eql => some (.eqS false ks a b)
          | .neq => some (.eqS true ks a b)
          | _ => none) else none
        | none => none
      | _ => some (.bin op a b)
    | _, _ => none
  | .unOp op t x => (opd P t x).map (.un op)
  | .alloc t => match zeroP P t with
    | some z => if (aggT P t = true ∨ z.length = 1) ∧ z.length ≠ 0 then some (.alloc (aggT P t) z) else none
    | none => none
  | .box t x => (opd P t x).map (.box (ldF ows o))
  | .build t ps => match P.underlying t, zeroP P t with
    | some (.struct fs), some z => (mapO (fun (i, x) => match fs[i]? with
        | some f => if knownT P f.type = true then (opd P f.type x).map fun x => (f.offset, szT P f.type, x) else none
        | none => none) ps.toList).bind fun qs => if fs.all (fun f => knownT P f.type) = true then some (.build (ldF ows o) z qs) else none
    | some (.array _ e), some z => (mapO (fun (i, x) => (opd P e x).map fun x => (i * szT P e, szT P e, x)) ps.toList).bind fun qs => if knownT P e = true then some (.build (ldF ows o) z qs) else none
    | _, _ => none
  | .buildSlice t n ps => match elemT P t with
    | some e => match zeroP P e with
      | some z => if n * szT P e ≤ 16777216 ∧ z.length = szT P e ∧ szT P e ≠ 0 ∧ knownT P e = true ∧ (aggT P e = true ∨ z.length = 1) then (mapO (fun (i, x) => (opd P e x).map fun x => (i, x)) ps.toList).map (.buildS (ldF ows o) (szT P e) n (aggT P e) z) else none
      | none => none
    | none => none
  | .load t x => if knownT P t = true then (opd P 0 x).map (.ld (aggT P t) (szT P t)) else none
  | .store t x v => match opd P 0 x, opd P t v with
    | some x, some v => if knownT P t = true ∧ szT P t ≠ 0 then (match x with
      | .t d => if ows.contains (100000 + d) = true ∧ szT P t = 1 ∧ aggT P t = false then some (.stt false 0 x v) else some (.stt (aggT P t) (szT P t) x v)
      | _ => some (.stt (aggT P t) (szT P t) x v)) else none
    | _, _ => none
  | .nilCheck x => (opd P 0 x).map .chk
  | .convert s d x => match P.underlying s, P.underlying d with
    | some (.int _), some (.int k) => (opd P 0 x).map (.conv k)
    | some .string, some .string => (opd P 0 x).map .cvS
    | _, _ => none
  | .makeFunc (.func f) first caps => if first.size = 0 then (mapO (opd P 0) caps.toList).map (.mkf f) else none
  | .makeSlice t n c => match elemT P t with
    | some e => match zeroP P e, P.info? e, opd P 0 n, opd P 0 c with
      | some z, some i, some n, some c => if z.length = szT P e ∧ szT P e ≠ 0 ∧ (aggT P e = true ∨ z.length = 1) ∧ knownT P e = true then some (.mkS (szT P e) i.bytes (aggT P e) z n c) else none
      | _, _, _, _ => none
    | none => none
  | .slice t x lo hi mx => match P.underlying t with
    | some .string => match opd P 0 x, optO P lo, optO P hi, mx with
      | some x, some lo, some hi, none => some (.sls x lo hi)
      | _, _, _, _ => none
    | some (.slice e) => if knownT P e = true then (match mx with
      | none => match opd P 0 x, optO P lo, optO P hi, o.dst with
        | some x, some lo, some hi, some d => some (.slc (ows.contains d) (szT P e) x lo hi)
        | _, _, _, _ => none
      | some (.const (.int _ 0)) => match lo, hi with
        | none, some (.const (.int _ 0)) => (opd P 0 x).map (.sl0 (szT P e))
        | _, _ => none
      | some _ => none) else none
    | _ => none
  | .fieldAddr t x i => match P.underlying t with
    | some (.struct fs) => match fs[i]? with
      | some f => if knownT P f.type = true ∧ szT P f.type ≠ 0 then (opd P 0 x).map (.fa f.offset) else none
      | none => none
    | _ => none
  | .field t x i => match P.underlying t with
    | some (.struct fs) => match fs[i]? with
      | some f => if knownT P f.type = true then (opd P t x).map (.fld (aggT P f.type) f.offset (szT P f.type)) else none
      | none => none
    | _ => none
  | .indexAddr t x i => match P.underlying t, opd P 0 x, opd P 0 i with
    | some (.slice e), some x, some i => if knownT P e = true ∧ szT P e ≠ 0 then some (.ia (szT P e) x i) else none
    | some (.array n e), some x, some i => if knownT P e = true then some (.iaA n (szT P e) x i) else none
    | _, _, _ => none
  | .index t x i => match P.underlying t, opd P 0 x, opd P 0 i with
    | some .string, some x, some i => some (.six x i)
    | some (.array n e), some x, some i => if knownT P e = true then some (.aix (aggT P e) n (szT P e) x i) else none
    | _, _, _ => none
  | .extract x i => (opd P 0 x).map fun x => .ext x i
  | .call { callee := .builtin .len, args := as, argTypes := ts } => match as.toList, ts.toList with
    | [x], [t] => match P.underlying t with
      | some .string => (opd P t x).map (.len true)
      | some (.slice _) => (opd P t x).map (.len false)
      | _ => none
    | _, _ => none
  | .call { callee := .builtin .max, args := as, .. } => match as.toList with
    | [x, y] => match opd P 0 x, opd P 0 y with
      | some x, some y => some (.mm true x y)
      | _, _ => none
    | [x, y, z] => match opd P 0 x, opd P 0 y, opd P 0 z with
      | some x, some y, some z => some (.mm3 true x y z)
      | _, _, _ => none
    | _ => none
  | .call { callee := .builtin .min, args := as, .. } => match as.toList with
    | [x, y] => match opd P 0 x, opd P 0 y with
      | some x, some y => some (.mm false x y)
      | _, _ => none
    | [x, y, z] => match opd P 0 x, opd P 0 y, opd P 0 z with
      | some x, some y, some z => some (.mm3 false x y z)
      | _, _, _ => none
    | _ => none
  | .call { callee := .builtin .append, args := as, argTypes := ts } => match as.toList, ts.toList with
    | [x0, y], [t, t'] => match elemT P t, elemT P t' with
      | some e, some _ => match P.info? e, opd P t x0, opd P t' y with
        | some i, some x, some y => if (i.zero.map fun z => z.cells.size) = some i.size ∧ i.bytes ≠ 0 then (if isNilC x0 = true ∧ i.size ≠ 0 then some (.cln i.size i.bytes y) else some (.app i.size i.bytes x y)) else none
        | _, _, _ => none
      | _, _ => none
    | _, _ => none
  | _ => none

end
end Go.AM
