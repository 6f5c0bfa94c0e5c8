/- A symbolic evaluator of loaded Go code: it runs a function's code over abstract values (numbers and bools literal or symbolic) and gives a decision tree. Its soundness stands in the next text. -/
import Derived.Calls
import Derived.Deep.Quiet
import Derived.StillTail
import Derived.WalkKit
import Derived.Test.YtngcbpcfgolifaaEvAside
namespace Go.Proofs.Ytngcbpcfgolifaa.Ev
set_option linter.unusedVariables false

/-- What symbolic terms are made of. 'DC' below: Int, Bool, Nat themselves; another instance prints text (never in a claim). -/
structure Dom where
  I : Type
  B : Type
  N : Type
  F : Type
  num : Int → I
  bin : BinOp → IntKind → I → I → I
  una : UnOp → IntKind → I → I
  conv : IntKind → I → I
  cmp : BinOp → I → I → B
  iteI : B → I → I → I
  bool : Bool → B
  not : B → B
  eqB : B → B → B
  and : B → B → B
  iteB : B → B → B → B
  nlit : Nat → N
  toN : I → N
  ofN : N → I
  nadd : N → N → N
  get : F → N → I
  inb : I → N → B
  ltN : N → N → B
  nsub : N → N → N
  iteN : B → N → N → N
  leN : N → N → B
  eqN : N → N → B
  updF : F → N → I → F
  blitF : F → N → F → N → N → F
  constF : I → F
  iteF : B → F → F → F
  eqF : F → N → F → N → N → B
  byteF : F → F

inductive AI (D : Dom) where
  | lit (n : Int)
  | sym (x : D.I)
inductive AB (D : Dom) where
  | lit (b : Bool)
  | sym (x : D.B)
inductive AN (D : Dom) where
  | lit (n : Nat)
  | rc (x : D.N) (w c : Nat)

def AI.val {D : Dom} : AI D → D.I
  | .lit n => D.num n
  | .sym x => x
def AB.val {D : Dom} : AB D → D.B
  | .lit b => D.bool b
  | .sym x => x

/-- A slice's capacity: known, or any that its block bears, of elements of w cells. -/
inductive Cap (D : Dom) where
  | kn (n : AN D)
  | un (w : Nat)
  | any
  | zero
  | ge (w : Nat) (lo : D.N)

def Cap.isAny {D : Dom} : Cap D → Bool
  | .any | .zero => true
  | _ => false

/-- Abstract values. 'dead': nothing is known; 'undef': the temporary's own undef. A pointer: an abstract block and a place in it. -/
inductive AV (D : Dom) where
  | dead
  | undef
  | bool (b : AB D)
  | int (k : IntKind) (n : AI D)
  | str (s : ByteArray)
  | sstr (f : D.F) (off len : D.N)
  | map (b : Nat)
  | ptr (b : Nat) (off : AN D)
  | nilptr
  | slice (b : Nat) (off len : AN D) (cap : Cap D)
  | nilslice
  | func (fn : Fn) (first captured : List (AV D))
  | nilfunc
  | agg (cs : List (AV D))
  | tuple (vs : List (AV D))

/-- The kind of a row's field. -/
inductive CK where
  | int (k : IntKind)
  | bool

/-- Abstract blocks. 'cells': the first cells, one by one. 'rows': n rows of fields, told by functions (a bool: not 0), that are only read. 'arr': such rows of its own. 'map': keys and values. -/
inductive AO (D : Dom) where
  | gone
  | cells (t : TypeId) (cs : List (AV D))
  | rows (t : TypeId) (n : D.N) (fs : List (CK × D.F))
  | arr (t : TypeId) (n : D.N) (fs : List (CK × D.F))
  | map (ks vs : List (AV D))

inductive T (D : Dom) (α : Type) where
  | ret (a : α)
  | br (x : D.B) (t e : T D α)
  | fail

def T.bind {D : Dom} {α β : Type} : T D α → (α → T D β) → T D β
  | .ret a, f => f a
  | .br x t e, f => .br x (t.bind f) (e.bind f)
  | .fail, _ => .fail

/-- What is written. -/
inductive W (D : Dom) where
  | slot (d : Nat) (v : AV D)
  | cell (b i : Nat) (v : AV D)
  | new (o : AO D)
  | obj (b : Nat) (o : AO D)

structure St (D : Dom) where
  slots : List (AV D)
  heap : List (AO D)

def setObj {D : Dom} : List (AO D) → Nat → Nat → AV D → List (AO D)
  | [], _, _, _ => []
  | .cells t cs :: h, 0, i, v => .cells t (cs.set i v) :: h
  | o :: h, 0, _, _ => o :: h
  | o :: h, b + 1, i, v => o :: setObj h b i v

def St.app {D : Dom} (s : St D) : W D → St D
  | .slot d v => { s with slots := s.slots.set d v }
  | .cell b i v => { s with heap := setObj s.heap b i v }
  | .new o => { s with heap := s.heap ++ [o] }
  | .obj b o => { s with heap := s.heap.set b o }

def St.apps {D : Dom} (s : St D) : List (W D) → St D
  | [] => s
  | x :: l => (s.app x).apps l

inductive Ex (D : Dom) where
  | normal
  | exit (id : Nat)
  | ret
  | val (v : AV D)

/-! ### Values -/
section
variable {D : Dom}

def ofVal1 : Value → AV D
  | .bool b => .bool (.lit b)
  | .int k n => .int k (.lit n)
  | .string s => .str s
  | .pointer none => .nilptr
  | .slice none 0 0 => .nilslice
  | .nilFunc => .nilfunc
  | _ => .dead
def ofVal : Value → AV D
  | .agg cs => .agg (cs.toList.map ofVal1)
  | v => ofVal1 v

def evalA (s : List (AV D)) : Operand → AV D
  | .tmp t => s.getD t .dead
  | .const v => ofVal v
  | .func f => .func (.func f) [] []
  | .global _ => .dead

def AV.cellsA : AV D → List (AV D)
  | .agg cs => cs
  | v => [v]

/-- What may be stored as one cell. -/
def AV.one : AV D → Bool
  | .dead | .undef | .agg _ | .tuple _ => false
  | _ => true

/-- Nothing dead in it, and no block from n0 on: it stands for one value. -/
def AV.solid1 (n0 : Nat) : AV D → Bool
  | .dead | .agg _ | .tuple _ => false
  | .func _ [] [] => true
  | .func _ _ _ => false
  | .ptr b _ => Nat.blt b n0
  | .slice b _ _ (.kn _) => Nat.blt b n0
  | .slice _ _ _ _ => false
  | .map b => Nat.blt b n0
  | _ => true
def AV.solid (n0 : Nat) : AV D → Bool
  | .agg cs => cs.all (AV.solid1 n0)
  | .tuple cs => cs.all (AV.solid1 n0)
  | v => v.solid1 n0

def anSame : AN D → AN D → Bool
  | .lit a, .lit b => Nat.beq a b
  | _, _ => false

def capSame : Cap D → Cap D → Bool
  | .kn a, .kn b => anSame a b
  | .un v, .un w => Nat.beq v w
  | .any, .any => true
  | .zero, .zero => true
  | _, _ => false

def fnSame : Fn → Fn → Bool
  | .func f, .func g => Nat.beq f g
  | _, _ => false

def bytesSame (a b : ByteArray) : Bool := decide (a = b)

/-- One value for two: where the condition holds the first. Blocks from n0 on are forgotten. -/
def mergeI (x : D.B) : AI D → AI D → AI D
  | .lit a, .lit b => if decide (a = b) then .lit a else .sym (D.iteI x (D.num a) (D.num b))
  | a, b => .sym (D.iteI x a.val b.val)
def mergeB (x : D.B) : AB D → AB D → AB D
  | .lit true, .lit true => .lit true
  | .lit false, .lit false => .lit false
  | .lit true, .lit false => .sym x
  | .lit false, .lit true => .sym (D.not x)
  | a, b => .sym (D.iteB x a.val b.val)

def merge1 (n0 : Nat) (x : D.B) : AV D → AV D → Option (AV D)
  | .dead, _ => some .dead
  | _, .dead => some .dead
  | .undef, .undef => some .undef
  | .undef, _ => some .dead
  | _, .undef => some .dead
  | .bool a, .bool b => some (.bool (mergeB x a b))
  | .int k a, .int k' b => if decide (k = k') then some (.int k (mergeI x a b)) else none
  | .str a, .str b => if bytesSame a b then some (.str a) else none
  | .ptr b o, .ptr b' o' => if Nat.beq b b' && Nat.blt b n0 && anSame o o' then some (.ptr b o) else none
  | .nilptr, .nilptr => some .nilptr
  | .slice b o l c, .slice b' o' l' c' => if Nat.beq b b' && Nat.blt b n0 && anSame o o' && anSame l l' && capSame c c' then some (.slice b o l c) else none
  | .map b, .map b' => if Nat.beq b b' && Nat.blt b n0 then some (.map b) else none
  | .nilslice, .nilslice => some .nilslice
  | .nilfunc, .nilfunc => some .nilfunc
  | .func f [] [], .func g [] [] => if fnSame f g then some (.func f [] []) else none
  | _, _ => none

def mergeL (n0 : Nat) (x : D.B) : List (AV D) → List (AV D) → Option (List (AV D))
  | [], [] => some []
  | a :: l, b :: m =>
    match merge1 n0 x a b with
    | some v => match mergeL n0 x l m with
      | some r => some (v :: r)
      | none => none
    | none => none
  | _, _ => none

/-- Parts of a tuple. -/
def merge2 (n0 : Nat) (x : D.B) : AV D → AV D → Option (AV D)
  | .agg a, .agg b => match mergeL n0 x a b with
    | some l => some (.agg l)
    | none => none
  | a, b => merge1 n0 x a b
def mergeT (n0 : Nat) (x : D.B) : List (AV D) → List (AV D) → Option (List (AV D))
  | [], [] => some []
  | a :: l, b :: m =>
    match merge2 n0 x a b with
    | some v => match mergeT n0 x l m with
      | some r => some (v :: r)
      | none => none
    | none => none
  | _, _ => none

def mergeV (n0 : Nat) (x : D.B) : AV D → AV D → Option (AV D)
  | .agg a, .agg b => match mergeL n0 x a b with
    | some l => some (.agg l)
    | none => none
  | .tuple a, .tuple b => match mergeT n0 x a b with
    | some l => some (.tuple l)
    | none => none
  | a, b => merge1 n0 x a b

/-- The slots and cells that a list of writes names. -/
def slotsOf : List (W D) → List Nat
  | [] => []
  | .slot d _ :: l => d :: slotsOf l
  | _ :: l => slotsOf l
def cellsOf (n0 : Nat) : List (W D) → List (Nat × Nat)
  | [] => []
  | .cell b i _ :: l => if Nat.blt b n0 then (b, i) :: cellsOf n0 l else cellsOf n0 l
  | _ :: l => cellsOf n0 l
def memN (d : Nat) : List Nat → Bool
  | [] => false
  | x :: l => bif Nat.beq d x then true else memN d l
def memP (b i : Nat) : List (Nat × Nat) → Bool
  | [] => false
  | (c, j) :: l => bif Nat.beq b c && Nat.beq i j then true else memP b i l
def dedN : List Nat → List Nat
  | [] => []
  | d :: l => bif memN d l then dedN l else d :: dedN l
def dedP : List (Nat × Nat) → List (Nat × Nat)
  | [] => []
  | (b, i) :: l => bif memP b i l then dedP l else (b, i) :: dedP l

def cellAt (h : List (AO D)) (b i : Nat) : Option (AV D) :=
  match h[b]? with
  | some (.cells _ cs) => cs[i]?
  | _ => none

def joinSlots (n0 base : Nat) (x : D.B) (A B : List (AV D)) : List Nat → Option (List (W D))
  | [] => some []
  | d :: l =>
    match joinSlots n0 base x A B l with
    | none => none
    | some r =>
      match mergeV n0 x (A.getD d .dead) (B.getD d .dead) with
      | some v => some (.slot d v :: r)
      | none => if Nat.ble base d then some (.slot d .dead :: r) else none

def joinCells (n0 : Nat) (x : D.B) (A B : List (AO D)) : List (Nat × Nat) → Option (List (W D))
  | [] => some []
  | (b, i) :: l =>
    match joinCells n0 x A B l with
    | none => none
    | some r =>
      match cellAt A b i, cellAt B b i with
      | some u, some v => match merge1 n0 x u v with
        | some z => some (.cell b i z :: r)
        | none => none
      | _, _ => none

/-- No block is replaced. -/
def noObj : List (W D) → Bool
  | [] => true
  | .obj _ _ :: _ => false
  | _ :: l => noObj l

/-- The writes of both ways as writes of one. -/
def joinW (s0 : St D) (base : Nat) (x : D.B) (lA lB : List (W D)) : Option (List (W D)) :=
  if !(noObj lA && noObj lB) then none else
  let A := s0.apps lA
  let B := s0.apps lB
  let n0 := s0.heap.length
  match joinSlots n0 base x A.slots B.slots (dedN (slotsOf lA ++ slotsOf lB)) with
  | none => none
  | some r => match joinCells n0 x A.heap B.heap (dedP (cellsOf n0 lA ++ cellsOf n0 lB)) with
    | none => none
    | some q => some (r ++ q)

def joinE (n0 : Nat) (x : D.B) : Ex D → Ex D → Option (Ex D)
  | .normal, .normal => some .normal
  | .ret, .ret => some .ret
  | .exit a, .exit b => if Nat.beq a b then some (.exit a) else none
  | .val a, .val b => match mergeV n0 x a b with
    | some v => some (.val v)
    | none => none
  | _, _ => none

def andB : AB D → AB D → AB D
  | .lit true, b => b
  | .lit false, _ => .lit false
  | a, .lit true => a
  | _, .lit false => .lit false
  | .sym a, .sym b => .sym (D.and a b)

def notB : AB D → AB D
  | .lit b => .lit (!b)
  | .sym x => .sym (D.not x)

/-- No leaf, or one behind a test. -/
inductive GR (D : Dom) (α : Type) where
  | no
  | yes (g : AB D) (a : α)
def guardOf {α : Type} : T D α → Option (GR D α)
  | .ret a => some (.yes (.lit true) a)
  | .br g (.ret a) .fail => some (.yes (.sym g) a)
  | .fail => some .no
  | _ => none
def mkG {α : Type} : AB D → α → T D α
  | .lit true, a => .ret a
  | .lit false, _ => .fail
  | .sym g, a => .br g (.ret a) .fail

/-- Two leaves as one, if they can be. -/
def join2 (s0 : St D) (base : Nat) (x : D.B) (g1 g2 : AB D) (a b : Ex D × List (W D)) (els : T D (Ex D × List (W D))) : T D (Ex D × List (W D)) :=
  match joinE s0.heap.length x a.1 b.1 with
  | none => els
  | some e3 => match joinW s0 base x a.2 b.2 with
    | some l3 => mkG (mergeB x g1 g2) (e3, l3)
    | none => els
def joinB (s0 : St D) (base : Nat) (x : D.B) (t e : T D (Ex D × List (W D))) : T D (Ex D × List (W D)) :=
  match guardOf t, guardOf e with
  | some .no, some .no => .fail
  | some (.yes g a), some .no => mkG (andB (.sym x) g) a
  | some .no, some (.yes g a) => mkG (andB (notB (.sym x)) g) a
  | some (.yes g1 a), some (.yes g2 b) => join2 s0 base x g1 g2 a b (.br x t e)
  | _, _ => .br x t e
def joinT (s0 : St D) (base : Nat) : T D (Ex D × List (W D)) → T D (Ex D × List (W D))
  | .br x t e => joinB s0 base x (joinT s0 base t) (joinT s0 base e)
  | t => t

/-! ### Types -/
variable (P : Program)
def isAggT (t : TypeId) : Option Bool :=
  match P.underlying t with
  | some (.struct _) => some true
  | some (.array _ _) => some true
  | some _ => some false
  | none => none
def sizeT (t : TypeId) : Option Nat := match P.info? t with
  | some i => some i.size
  | none => none
def zeroT (t : TypeId) : Option (AV D) := match P.info? t with
  | some i => match i.zero with
    | some v => some (ofVal v)
    | none => none
  | none => none

/-! ### Memory -/
def nthF {α : Type} : List α → Nat → Option α
  | [], _ => none
  | a :: _, 0 => some a
  | _ :: l, n + 1 => nthF l n

def load1 (h : List (AO D)) (b : Nat) (off : AN D) : Option (AV D) :=
  match h[b]?, off with
  | some (.cells _ cs), .lit n => cs[n]?
  | _, _ => none

def loadA (h : List (AO D)) (t : TypeId) (b : Nat) (off : AN D) : Option (AV D) :=
  match isAggT P t with
  | some true => match sizeT P t, h[b]?, off with
    | some sz, some (.cells _ cs), .lit n => if Nat.ble (n + sz) cs.length then some (.agg ((cs.drop n).take sz)) else none
    | _, _, _ => none
  | some false => load1 h b off
  | none => none

def colA (k : CK) (f : D.F) (x : D.N) : AV D := match k with
  | .int k => .int k (.sym (D.get f x))
  | .bool => .bool (.sym (D.cmp .neq (D.get f x) (D.num 0)))

def rowVals (x : D.N) : List (CK × D.F) → List (AV D)
  | [] => []
  | (k, f) :: l => colA k f x :: rowVals x l

/-- Rows, whether they are only read or not. -/
def rowsOf (h : List (AO D)) (b : Nat) : Option (D.N × List (CK × D.F)) := match h[b]? with
  | some (.rows _ n fs) => some (n, fs)
  | some (.arr _ n fs) => some (n, fs)
  | _ => none

/-- A place in rows of w fields. -/
def rowAt (w : Nat) : AN D → Option (D.N × Nat)
  | .lit m => if Nat.beq w 0 then none else some (D.nlit (m / w), m % w)
  | .rc x v c => if Nat.beq v w then (if Nat.blt c w then some (x, c) else if Nat.beq w 0 then none else some (D.nadd x (D.nlit (c / w)), c % w)) else none

/-- Out of a block that is told by functions. -/
def loadRow (h : List (AO D)) (t : TypeId) (b : Nat) (off : AN D) : T D (AV D × List (W D)) :=
  match rowsOf h b with
  | none => .fail
  | some (n, fs) => match rowAt fs.length off with
    | none => .fail
    | some (x, c) => match isAggT P t with
      | some false => (match fs[c]? with
        | some (k, f) => .br (D.ltN x n) (.ret (colA k f x, [])) .fail
        | none => .fail)
      | some true => (match sizeT P t with
        | some sz => if Nat.ble (c + sz) fs.length then .br (D.ltN x n) (.ret (.agg (rowVals x ((fs.drop c).take sz)), [])) .fail else .fail
        | none => .fail)
      | none => .fail

def cellWrites (b : Nat) : Nat → List (AV D) → List (W D)
  | _, [] => []
  | i, v :: l => .cell b i v :: cellWrites b (i + 1) l

def storeA (h : List (AO D)) (t : TypeId) (b : Nat) (off : AN D) (v : AV D) : Option (List (W D)) :=
  match sizeT P t, h[b]?, off with
  | some sz, some (.cells _ cs), .lit n =>
    let l := v.cellsA
    if Nat.beq l.length sz && Nat.ble (n + sz) cs.length && l.all (·.one) then some (cellWrites b n l) else none
  | _, _, _ => none

/-- A number for a cell of rows. -/
def cellI : CK → AV D → Option D.I
  | .int k, .int k' n => if decide (k = k') then some n.val else none
  | .bool, .bool (.lit b) => some (D.num (bif b then 1 else 0))
  | .bool, .bool (.sym b) => some (D.iteI b (D.num 1) (D.num 0))
  | _, _ => none

/-- Fields from the c-th on written anew in row x. -/
def setRow (x : D.N) : List (CK × D.F) → Nat → List (AV D) → Option (List (CK × D.F))
  | fs, _, [] => some fs
  | [], _, _ :: _ => none
  | (k, f) :: fs, 0, v :: l => match cellI k v, setRow x fs 0 l with
    | some n, some r => some ((k, D.updF f x n) :: r)
    | _, _ => none
  | (k, f) :: fs, c + 1, v :: l => match setRow x fs c (v :: l) with
    | some r => some ((k, f) :: r)
    | none => none

/-- Into rows of its own. -/
def storeRow (h : List (AO D)) (t : TypeId) (b : Nat) (off : AN D) (v : AV D) : T D (AV D × List (W D)) :=
  match h[b]?, sizeT P t with
  | some (.arr e n fs), some sz => match rowAt fs.length off with
    | none => .fail
    | some (x, c) =>
      let l := v.cellsA
      if Nat.beq l.length sz && (Nat.ble (c + sz) fs.length && Nat.ble 1 sz) then (match setRow x fs c l with
        | some gs => .br (D.ltN x n) (.ret (.undef, [.obj b (.arr e n gs)])) .fail
        | none => .fail) else .fail
  | _, _ => .fail

/-- An address some cells further on. -/
def AN.plus : AN D → Nat → AN D
  | .lit n, m => .lit (n + m)
  | .rc x w c, m => .rc x w (c + m)

/-! ### Operations -/
def cmpOp : BinOp → Bool
  | .eql | .neq | .lss | .leq | .gtr | .geq => true
  | _ => false

def litCmp : BinOp → Int → Int → Bool
  | .eql, a, b => a == b
  | .neq, a, b => a != b
  | .lss, a, b => decide (a < b)
  | .leq, a, b => decide (a ≤ b)
  | .gtr, a, b => decide (a > b)
  | .geq, a, b => decide (a ≥ b)
  | _, _, _ => false

def litBin (op : BinOp) (k : IntKind) (a b : Int) : Int :=
  match op with
  | .add => k.wrap (a + b)
  | .sub => k.wrap (a - b)
  | .mul => k.wrap (a * b)
  | .quo => k.wrap (a.tdiv b)
  | .rem => a.tmod b
  | .and => k.wrap ((BitVec.ofInt k.bits a &&& BitVec.ofInt k.bits b).toNat : Int)
  | .or => k.wrap ((BitVec.ofInt k.bits a ||| BitVec.ofInt k.bits b).toNat : Int)
  | .xor => k.wrap ((BitVec.ofInt k.bits a ^^^ BitVec.ofInt k.bits b).toNat : Int)
  | .andNot => k.wrap ((BitVec.ofInt k.bits a &&& ~~~BitVec.ofInt k.bits b).toNat : Int)
  | .shl => k.wrap (a * 2 ^ (min b.toNat k.bits))
  | .shr => a.fdiv (2 ^ (min b.toNat k.bits))
  | _ => a

def litUna (op : UnOp) (k : IntKind) (a : Int) : Int :=
  match op with
  | .neg => k.wrap (0 - a)
  | .xor => litBin .xor k (bif k.signed then -1 else k.max) a
  | _ => a

def isUns : IntKind → Bool
  | .u8 | .u16 | .u32 | .u64 => true
  | _ => false

/-- A binary operation of two whole numbers of one kind (a shift: of any two). -/
def intOp (op : BinOp) (k : IntKind) (a b : AI D) : T D (AV D) :=
  match a, b with
  | .lit m, .lit n =>
    if cmpOp op then .ret (.bool (.lit (litCmp op m n)))
    else match op with
      | .quo | .rem => if decide (n = 0) then .fail else .ret (.int k (.lit (litBin op k m n)))
      | .shl | .shr => if decide (n < 0) then .fail else .ret (.int k (.lit (litBin op k m n)))
      | _ => .ret (.int k (.lit (litBin op k m n)))
  | a, b =>
    if cmpOp op then .ret (.bool (.sym (D.cmp op a.val b.val)))
    else
      let r : AV D := .int k (.sym (D.bin op k a.val b.val))
      match op with
      | .quo | .rem => match b with
        | .lit n => if decide (n = 0) then .fail else .ret r
        | .sym y => .br (D.cmp .eql y (D.num 0)) .fail (.ret r)
      | .shl | .shr => match b with
        | .lit n => if decide (n < 0) then .fail else .ret r
        | .sym y => .br (D.cmp .lss y (D.num 0)) .fail (.ret r)
      | _ => .ret r

def boolEq (neq : Bool) : AB D → AB D → AB D
  | .lit a, .lit b => .lit (bif neq then (a != b) else (a == b))
  | a, b => .sym (bif neq then D.not (D.eqB a.val b.val) else D.eqB a.val b.val)

/-- '==' of two cells that are numbers or bools. -/
def eq1 : AV D → AV D → Option (AB D)
  | .int k (.lit a), .int k' (.lit b) => if decide (k = k') then some (.lit (a == b)) else none
  | .int k a, .int k' b => if decide (k = k') then some (.sym (D.cmp .eql a.val b.val)) else none
  | .bool a, .bool b => some (boolEq false a b)
  | .str a, .str b => some (.lit (bytesSame a b))
  | _, _ => none

def cutA (xs : List (AV D)) (off n : Nat) : List (AV D) := (xs.drop off).take n

def eqFs (g : TypeId → List (AV D) → List (AV D) → Option (AB D)) (xs ys : List (AV D)) : List Field → Option (AB D)
  | [] => some (.lit true)
  | f :: fs =>
    if f.name == "_" then none else
    match sizeT P f.type with
    | some n => (match g f.type (cutA xs f.offset n) (cutA ys f.offset n), eqFs g xs ys fs with
      | some a, some b => some (andB a b)
      | _, _ => none)
    | none => none

def eqAr (g : TypeId → List (AV D) → List (AV D) → Option (AB D)) (e : TypeId) (n : Nat) (xs ys : List (AV D)) : Nat → Nat → Option (AB D)
  | 0, _ => some (.lit true)
  | m + 1, i => match g e (cutA xs (i * n) n) (cutA ys (i * n) n), eqAr g e n xs ys m (i + 1) with
    | some a, some b => some (andB a b)
    | _, _ => none

/-- '==' of values of a type that is made of numbers, bools, structs and arrays: told by their cells. -/
def eqA : Nat → TypeId → List (AV D) → List (AV D) → Option (AB D)
  | 0, _, _, _ => none
  | d + 1, t, xs, ys =>
    match P.underlying t with
    | some (.int _) => (match xs, ys with
      | [.int k a], [.int k' b] => eq1 (.int k a) (.int k' b)
      | _, _ => none)
    | some .bool => (match xs, ys with
      | [.bool a], [.bool b] => eq1 (.bool a) (.bool b)
      | _, _ => none)
    | some (.struct fs) => if P.stoodInHeld t then none else eqFs P (eqA d) xs ys fs.toList
    | some (.array len e) => (match sizeT P e with
      | some n => eqAr (eqA d) e n xs ys len 0
      | none => none)
    | _ => none

def binA (op : BinOp) (t : TypeId) (x y : AV D) : T D (AV D) :=
  match x, y with
  | .int k a, .int k' b =>
    (match op with
     | .shl | .shr => intOp op k a b
     | _ => if decide (k = k') then intOp op k a b else .fail)
  | .bool a, .bool b => match op, P.underlying t with
    | .eql, some .bool => .ret (.bool (boolEq false a b))
    | .neq, some .bool => .ret (.bool (boolEq true a b))
    | _, _ => .fail
  | .str a, .str b => match op with
    | .eql => .ret (.bool (.lit (bytesSame a b)))
    | .neq => .ret (.bool (.lit (!bytesSame a b)))
    | _ => .fail
  | .ptr _ _, .nilptr | .nilptr, .ptr _ _ => match op, P.underlying t with
    | .eql, some (.pointer _) => .ret (.bool (.lit false))
    | .neq, some (.pointer _) => .ret (.bool (.lit true))
    | _, _ => .fail
  | .nilptr, .nilptr => match op, P.underlying t with
    | .eql, some (.pointer _) => .ret (.bool (.lit true))
    | .neq, some (.pointer _) => .ret (.bool (.lit false))
    | _, _ => .fail
  | .slice _ _ _ c, .nilslice | .nilslice, .slice _ _ _ c => if c.isAny then .fail else match op, P.underlying t with
    | .eql, some (.slice _) => .ret (.bool (.lit false))
    | .neq, some (.slice _) => .ret (.bool (.lit true))
    | _, _ => .fail
  | .nilslice, .nilslice => match op, P.underlying t with
    | .eql, some (.slice _) => .ret (.bool (.lit true))
    | .neq, some (.slice _) => .ret (.bool (.lit false))
    | _, _ => .fail
  | .func _ _ _, .nilfunc | .nilfunc, .func _ _ _ => match op, P.underlying t with
    | .eql, some (.func _ _ _) => .ret (.bool (.lit false))
    | .neq, some (.func _ _ _) => .ret (.bool (.lit true))
    | _, _ => .fail
  | .nilfunc, .nilfunc => match op, P.underlying t with
    | .eql, some (.func _ _ _) => .ret (.bool (.lit true))
    | .neq, some (.func _ _ _) => .ret (.bool (.lit false))
    | _, _ => .fail
  | .agg xs, .agg ys => if P.eqGuardType P.depth t then .fail else match isAggT P t with
    | some true => match eqA P 20 t xs ys with
      | some b => (match op with
        | .eql => .ret (.bool b)
        | .neq => .ret (.bool (notB b))
        | _ => .fail)
      | none => .fail
    | _ => .fail
  | _, _ => .fail

def unA (op : UnOp) (x : AV D) : T D (AV D) :=
  match op, x with
  | .not, .bool b => .ret (.bool (notB b))
  | .neg, .int k (.lit n) => .ret (.int k (.lit (litUna .neg k n)))
  | .neg, .int k (.sym x) => .ret (.int k (.sym (D.una .neg k x)))
  | .xor, .int k (.lit n) => .ret (.int k (.lit (litUna .xor k n)))
  | .xor, .int k (.sym x) => .ret (.int k (.sym (D.una .xor k x)))
  | _, _ => .fail

def convA (src dst : TypeId) (x : AV D) : T D (AV D) :=
  match P.underlying src, P.underlying dst, x with
  | some (.int _), some (.int k), .int _ (.lit n) => .ret (.int k (.lit (k.wrap n)))
  | some (.int _), some (.int k), .int _ (.sym n) => .ret (.int k (.sym (D.conv k n)))
  | some .string, some .string, .str s => .ret (.str s)
  | _, _, _ => .fail

/-- One by one, of a symbolic index below 'n' more from i on. -/
def eachFrom (x : D.I) (f : Nat → T D (AV D × List (W D))) : Nat → Nat → T D (AV D × List (W D))
  | 0, _ => .fail
  | 1, i => f i
  | n + 2, i => .br (D.cmp .eql x (D.num i)) (f i) (eachFrom x f (n + 1) (i + 1))
/-- Addresses of a symbolic index below 'n', one by one. -/
def eachIdx (x : D.I) (f : Nat → T D (AV D × List (W D))) (n : Nat) : T D (AV D × List (W D)) := .br (D.inb x (D.nlit n)) (eachFrom x f n 0) .fail

/-- An address some elements further on. -/
def AN.adv (off : AN D) (i : AI D) (sz : Nat) : Option (AN D) := match off, i with
  | .lit m, .lit j => if decide (0 ≤ j) then some (.lit (m + j.toNat * sz)) else none
  | .lit 0, .sym y => some (.rc (D.toN y) sz 0)
  | .rc x w c, i => if Nat.beq w sz then some (.rc (D.nadd x (D.toN i.val)) w c) else none
  | _, _ => none
/-- A number of elements. -/
def AN.num : AN D → Option D.N
  | .lit n => some (D.nlit n)
  | .rc x 1 0 => some x
  | _ => none
def isCells (h : List (AO D)) (b : Nat) : Bool := match h[b]? with
  | some (.cells _ _) => true
  | _ => false

def indexAddrA (h : List (AO D)) (t : TypeId) (x ix : AV D) : T D (AV D × List (W D)) :=
  match P.underlying t, x, ix with
  | some (.array len e), .ptr b off, .int _ (.lit i) => match sizeT P e with
    | some sz => if decide (0 ≤ i) && decide (i < len) then .ret (.ptr b (off.plus (i.toNat * sz)), []) else .fail
    | none => .fail
  | some (.array len e), .ptr b off, .int _ (.sym i) => match sizeT P e with
    | some sz => eachIdx i (fun j => .ret (.ptr b (off.plus (j * sz)), [])) len
    | none => .fail
  | some (.slice e), .slice b off (.lit len) _, .int _ (.lit i) => match sizeT P e with
    | some sz => if decide (0 ≤ i) && decide (i < len) then .ret (.ptr b (off.plus (i.toNat * sz)), []) else .fail
    | none => .fail
  | some (.slice e), .slice b off len _, .int _ i => match sizeT P e with
    | some sz => match isCells h b, len, i with
      | true, .lit len, .sym i => eachIdx i (fun j => .ret (.ptr b (off.plus (j * sz)), [])) len
      | _, len, i => match len.num, off.adv i sz with
        | some n, some o => .br (D.inb i.val n) (.ret (.ptr b o, [])) .fail
        | _, _ => .fail
    | none => .fail
  | _, _, _ => .fail

/-- Element j of an array's cells. -/
def elemA (g : Bool) (sz : Nat) (cs : List (AV D)) (j : Nat) : T D (AV D × List (W D)) :=
  match g with
  | true => .ret (.agg ((cs.drop (j * sz)).take sz), [])
  | false => if Nat.beq sz 1 then (match cs[j]? with
    | some v => .ret (v, [])
    | none => .fail) else .fail

def indexA (t : TypeId) (x ix : AV D) : T D (AV D × List (W D)) :=
  match P.underlying t, x, ix with
  | some (.array len e), .agg cs, .int _ i => match isAggT P e, sizeT P e with
    | some g, some sz => match i with
      | .lit n => if decide (0 ≤ n) && decide (n < len) then elemA g sz cs n.toNat else .fail
      | .sym y => eachIdx y (elemA g sz cs) len
    | _, _ => .fail
  | _, _, _ => .fail

def fieldOff (t : TypeId) (i : Nat) : Option Nat :=
  match P.underlying t with
  | some (.struct fs) => match fs[i]? with
    | some f => match sizeT P f.type with
      | some 0 => none
      | some _ => some f.offset
      | none => none
    | none => none
  | _ => none

def fieldAddrA (t : TypeId) (x : AV D) (i : Nat) : T D (AV D) :=
  match x, fieldOff P t i with
  | .ptr b off, some o => .ret (.ptr b (off.plus o))
  | _, _ => .fail

def AV.live : AV D → Bool
  | .dead => false
  | _ => true

/-- Parts of a struct or an array laid over its zero value. -/
def layA : List (AV D) → Nat → List (AV D) → List (AV D)
  | cs, _, [] => cs
  | cs, i, v :: l => layA (cs.set i v) (i + 1) l

def fillA (place : Nat → Option (Nat × Nat)) : List (AV D) → List (Nat × AV D) → Option (List (AV D))
  | cs, [] => some cs
  | cs, (i, v) :: rest =>
    match place i with
    | none => none
    | some (off, size) =>
      let l := v.cellsA
      if v.live && (Nat.beq l.length size && Nat.ble (off + l.length) cs.length) then fillA place (layA cs off l) rest else none

def structPlace (fs : Array Field) (i : Nat) : Option (Nat × Nat) :=
  match fs[i]? with
  | some f => match sizeT P f.type with
    | some sz => some (f.offset, sz)
    | none => none
  | none => none

def buildA (t : TypeId) (parts : List (Nat × AV D)) : T D (AV D) :=
  match (zeroT P t : Option (AV D)), P.underlying t with
  | some z, some T => if z.live then (match T with
    | .struct fs => if fs.toList.all (fun f => match sizeT P f.type with
      | some _ => true
      | none => false) then (match fillA (structPlace P fs) z.cellsA parts with
      | some l => .ret (.agg l)
      | none => .fail) else .fail
    | .array _ e => (match sizeT P e with
      | some sz => (match fillA (fun i => some (i * sz, sz)) z.cellsA parts with
        | some l => .ret (.agg l)
        | none => .fail)
      | none => .fail)
    | _ => .fail) else .fail
  | _, _ => .fail

def fieldA (t : TypeId) (x : AV D) (i : Nat) : T D (AV D) :=
  match P.underlying t, x with
  | some (.struct fs), .agg cs => match fs[i]? with
    | some f => match isAggT P f.type, sizeT P f.type with
      | some true, some sz => .ret (.agg ((cs.drop f.offset).take sz))
      | some false, _ => match cs[f.offset]? with
        | some v => .ret v
        | none => .fail
      | _, _ => .fail
    | none => .fail
  | _, _ => .fail

def pureT (t : T D (AV D)) : T D (AV D × List (W D)) := t.bind fun v => .ret (v, [])

def lenA (argTypes : Array TypeId) (args : List (AV D)) : T D (AV D) :=
  match argTypes[0]?, args with
  | some t, [x] => match P.underlying t, x with
    | some .string, .str s => .ret (.int .i64 (.lit s.size))
    | some (.array n _), _ => .ret (.int .i64 (.lit n))
    | some (.slice _), .slice _ _ (.lit n) _ => .ret (.int .i64 (.lit n))
    | some (.slice _), .slice _ _ (.rc n 1 0) _ => .ret (.int .i64 (.sym (D.ofN n)))
    | some .string, .sstr _ _ n => .ret (.int .i64 (.sym (D.ofN n)))
    | some (.slice _), .nilslice => .ret (.int .i64 (.lit 0))
    | _, _ => .fail
  | _, _ => .fail

def min2A (mx : Bool) : AV D → AV D → Option (AV D)
  | .int k a, .int k' b => if decide (k = k') then (match a, b with
    | .lit m, .lit n => some (.int k (.lit (bif mx then (if n > m then n else m) else (if n < m then n else m))))
    | a, b => some (.int k (.sym (D.iteI (bif mx then D.cmp .gtr b.val a.val else D.cmp .lss b.val a.val) b.val a.val)))) else none
  | _, _ => none
def minA (mx : Bool) : AV D → List (AV D) → T D (AV D)
  | v, [] => .ret v
  | v, u :: l => match min2A mx v u with
    | some z => minA mx z l
    | none => .fail

/-- An operation that is no call of a Go function. -/
def opA (o : Oper) (s : St D) : T D (AV D × List (W D)) :=
  let ρ := evalA s.slots
  match o.op with
  | .move x => .ret (ρ x, [])
  | .assign x => .ret (ρ x, [])
  | .pick c a b => match ρ c with
    | .bool (.lit true) => .ret (ρ a, [])
    | .bool (.lit false) => .ret (ρ b, [])
    | .bool (.sym x) => match mergeV s.heap.length x (ρ a) (ρ b) with
      | some .dead => .br x (.ret (ρ a, [])) (.ret (ρ b, []))
      | some v => .ret (v, [])
      | none => .br x (.ret (ρ a, [])) (.ret (ρ b, []))
    | _ => .fail
  | .alloc e => match (zeroT P e : Option (AV D)) with
    | some z => if z.live then .ret (.ptr s.heap.length (.lit 0), [.new (.cells e z.cellsA)]) else .fail
    | none => .fail
  | .box e x => match ρ x with
    | .dead => .fail
    | v => .ret (.ptr s.heap.length (.lit 0), [.new (.cells e v.cellsA)])
  | .build t parts => pureT (buildA P t (parts.toList.map fun p => (p.1, ρ p.2)))
  | .load t x => match ρ x with
    | .ptr b off => match loadA P s.heap t b off with
      | some v => .ret (v, [])
      | none => loadRow P s.heap t b off
    | _ => .fail
  | .store t a x => match ρ a with
    | .ptr b off => match storeA P s.heap t b off (ρ x) with
      | some l => .ret (.undef, l)
      | none => storeRow P s.heap t b off (ρ x)
    | _ => .fail
  | .nilCheck x => match ρ x with
    | .ptr b off => .ret (.ptr b off, [])
    | _ => .fail
  | .binOp op t x y _ => pureT (binA P op t (ρ x) (ρ y))
  | .unOp op _ x => pureT (unA op (ρ x))
  | .convert a b x => pureT (convA P a b (ρ x))
  | .makeFunc fn first captured => .ret (.func fn (first.toList.map ρ) (captured.toList.map ρ), [])
  | .fieldAddr t x i => pureT (fieldAddrA P t (ρ x) i)
  | .field t x i => pureT (fieldA P t (ρ x) i)
  | .indexAddr t x i => indexAddrA P s.heap t (ρ x) (ρ i)
  | .index t x i => indexA P t (ρ x) (ρ i)
  | .extract x i => match ρ x with
    | .tuple vs => match vs[i]? with
      | some v => .ret (v, [])
      | none => .fail
    | _ => .fail
  | .call c => match c.callee with
    | .builtin .len => pureT (lenA P c.argTypes (c.args.toList.map ρ))
    | .builtin .min => match c.args.toList.map ρ with
      | v :: l => pureT (minA false v l)
      | [] => .fail
    | .builtin .max => match c.args.toList.map ρ with
      | v :: l => pureT (minA true v l)
      | [] => .fail
    | _ => .fail
  | _ => .fail

/-- A call of a Go function: which, and its arguments. -/
def callee? (o : Oper) (s : St D) : Option (FuncId × List (AV D)) :=
  match o.op with
  | .call c => match c.callee with
    | .value f => match evalA s.slots f with
      | .func (.func g) first captured => some (g, first ++ (c.args.toList.map (evalA s.slots)) ++ captured)
      | _ => none
    | _ => none
  | _ => none

def resultsA (rs : List ResultVar) (s : St D) : Option (List (AV D)) :=
  match rs with
  | [] => some []
  | .tmp t :: l => match resultsA l s with
    | some r => some (s.slots.getD t .dead :: r)
    | none => none
  | .cell a t :: l => match s.slots.getD a .dead with
    | .ptr b off => match loadA P s.heap t b off, resultsA l s with
      | some v, some r => some (v :: r)
      | _, _ => none
    | _ => none

def tupleA : List (AV D) → AV D
  | [v] => v
  | l => .tuple l

/-- The writes that a caller sees. -/
def heapW : List (W D) → List (W D)
  | [] => []
  | .slot _ _ :: l => heapW l
  | x :: l => x :: heapW l

/-- A function's end. -/
def finish (rs : List ResultVar) (s : St D) (l : List (W D)) : T D (Ex D × List (W D)) :=
  match resultsA P rs (s.apps l) with
  | some vs => .ret (.val (tupleA vs), heapW l)
  | none => .fail

/-- What is told to the evaluator: from which slot on a function's slots are temporaries; functions whose answers are told by a summary. -/
inductive ExtK where
  | load64
  | store64
  | add64

structure Cx (D : Dom) where
  base : FuncId → Nat
  ext : FuncId → Option ExtK
  sums : FuncId → List (AV D) → List (AO D) → Option (T D (AV D × List (W D)))
  blk : FuncId → Nat → Option (St D → T D (Ex D × List (W D)))
  tail : FuncId → Nat → Option Nat
  opx : Oper → St D → Option (T D (AV D × List (W D)))

inductive Cmd where
  | code (c : Code)
  | ops (all : Array Oper) (todo : List Oper)
  | quiet (all : Array Oper) (todo : List Oper)
  | chain (all : Array Oper) (k : Nat) (bs : List Nat) (todo : List Nat) (listed : Array Bool)

def undefs : Nat → List (AV D)
  | 0 => []
  | n + 1 => .undef :: undefs n

def slotOf (all : Array Oper) (j : Nat) : Option Nat := match all[j]? with
  | some o => o.dst
  | none => none

def putW (dst : Option Nat) (v : AV D) : List (W D) := match dst with
  | some d => [.slot d v]
  | none => []

/-- New blocks alone: nothing that was there is written. Else the writes as they are. -/
def isNew : W D → Bool
  | .new _ => true
  | _ => false
def onlyNew (l : List (W D)) : List (W D) := if l.all isNew then [] else l

def noHeap : List (W D) → Bool
  | [] => true
  | _ => false

/-- A sum of numbers of 64 bits. -/
def addA (x y : AI D) : AI D := match x, y with
  | .lit m, .lit n => .lit (litBin .add .u64 m n)
  | a, b => .sym (D.bin .add .u64 a.val b.val)
/-- Functions of sync/atomic that have no Go body. -/
def extA (k : ExtK) (h : List (AO D)) (args : List (AV D)) : T D (AV D × List (W D)) :=
  match k, args with
  | .load64, [.ptr b off] => match load1 h b off with
    | some (.int .u64 n) => .ret (.int .u64 n, [])
    | _ => .fail
  | .store64, [.ptr b (.lit n), .int .u64 x] => match h[b]? with
    | some (.cells _ cs) => if Nat.blt n cs.length then .ret (.undef, [.cell b n (.int .u64 x)]) else .fail
    | _ => .fail
  | .add64, [.ptr b (.lit n), .int .u64 y] => match h[b]? with
    | some (.cells _ cs) => match cs[n]? with
      | some (.int .u64 x) => .ret (.int .u64 (addA x y), [.cell b n (.int .u64 (addA x y))])
      | _ => .fail
    | _ => .fail
  | _, _ => .fail

/-- An operation that is carried out: a call, or another one. -/
def runOp (X : Cx D) (o : Oper) (s : St D) (fix : List (W D) → List (W D)) (cal : FuncId → List (AV D) → T D (Ex D × List (W D))) (next : AV D × List (W D) → T D (Ex D × List (W D))) : T D (Ex D × List (W D)) :=
  match callee? o s with
  | some fa => match X.ext fa.1 with
    | some e => (extA e s.heap fa.2).bind next
    | none => (cal fa.1 fa.2).bind fun r => match r.1 with
      | .val v => next (v, fix (heapW r.2))
      | _ => .fail
  | none => match X.opx o s with
    | some t => t.bind next
    | none => (opA P o s).bind next

/-- By an operation's guard: it runs, it is passed over, or both ways. -/
def guardT (all : Array Oper) (o : Oper) (s : St D) (run skip : Unit → T D (Ex D × List (W D))) (fork : Nat → Bool → T D (Ex D × List (W D))) : T D (Ex D × List (W D)) :=
  match o.guard with
  | none => run ()
  | some jw => match slotOf all jw.1 with
    | none => .fail
    | some d => match s.slots.getD d .dead with
      | .bool (.lit b) => if b == jw.2 then run () else skip ()
      | .bool (.sym x) => .br x (fork d true) (fork d false)
      | .undef => skip ()
      | _ => .fail

/-- What follows behind some writes. -/
def behind (l : List (W D)) (t : T D (Ex D × List (W D))) : T D (Ex D × List (W D)) := t.bind fun q => .ret (q.1, l ++ q.2)

/-- Operations that look at no memory; that read memory alone. -/
def heapFree (o : Oper) : Bool := match o.op with
  | .move _ | .assign _ | .fieldAddr _ _ _ | .field _ _ _ | .nilCheck _ | .unOp _ _ _ | .extract _ _ | .build _ _ | .binOp _ _ _ _ _ | .pick _ _ _ => true
  | _ => false
def readsO (o : Oper) : Bool := match o.op with
  | .load _ _ => true
  | .call c => match c.callee with
    | .builtin .len | .builtin .min | .builtin .max => true
    | _ => false
  | _ => false
def calmC (o : Oper) : Bool := heapFree o || readsO o
/-- It makes a block, and looks at none. -/
def freshO (o : Oper) : Bool := match o.op with
  | .buildSlice _ _ _ => true
  | _ => false
/-- What else there is may turn memory that is known, unless the region's number says that it only makes some. -/
def resetsC (all : Array Oper) (k j : Nat) : Bool := match all[j]? with
  | some o => !(calmC o) && !(Nat.testBit k j)
  | none => false
def readsOk (all : Array Oper) (k i : Nat) : Bool := (List.range all.size).all fun j => !(resetsC all k j) || Region.mustB .any all all.size j i
def storeO (all : Array Oper) (i : Nat) : Bool := match all[i]? with
  | some o => match o.op with
    | .store _ _ _ => true
    | _ => false
  | none => false
def notTmp (d : Nat) : Operand → Bool
  | .tmp y => !(Nat.beq y d)
  | _ => true
/-- A store and a new block that come up together, in either order. -/
def pairOk (all : Array Oper) (k : Nat) (listed : Array Bool) (i j : Nat) (o p : Oper) : Bool :=
  (match o.op, p.op, o.dst, p.dst, p.guard with
   | .store _ a x, .box _ _, none, some d, none => notTmp d a && notTmp d x
   | _, _, _, _, _ => false) &&
  (!(Nat.beq i j) && ((Region.ready .any all listed).all (fun q => Nat.beq q i || Nat.beq q j) &&
    ((Region.ready .any all (listed.setIfInBounds i true) == [j]) && (Region.ready .any all (listed.setIfInBounds j true) == [i]))))
/-- It makes blocks, or writes to these alone. -/
def keepsW (bs : List Nat) : W D → Bool
  | .new _ => true
  | .cell b _ _ | .obj b _ => bs.any (Nat.beq b)
  | .slot _ _ => false
def oldW (n : Nat) : W D → Bool
  | .cell b _ _ => Nat.blt b n
  | .obj b _ => Nat.blt b n
  | _ => false
/-- What is quiet first; the others as they come up alone. -/
def chainOrder (all : Array Oper) : Nat → Array Bool → List Nat
  | 0, _ => []
  | n + 1, listed =>
    let rs := Region.ready .any all listed
    match rs.find? (fun i => (match all[i]? with | some o => calmC o | none => false) && Region.free .any all listed i) with
    | some i => i :: chainOrder all n (listed.setIfInBounds i true)
    | none => match rs with
      | [i] => i :: chainOrder all n (listed.setIfInBounds i true)
      | [i, j] => if storeO all i then i :: j :: chainOrder all (n - 1) ((listed.setIfInBounds i true).setIfInBounds j true) else j :: i :: chainOrder all (n - 1) ((listed.setIfInBounds j true).setIfInBounds i true)
      | _ => []
/-- In a region that draws its order: values alone, and solid ones. -/
def movedO (o : Oper) : Bool := match o.op with
  | .move _ | .assign _ | .extract _ _ | .slice _ _ _ _ _ => true
  | _ => false
def quietOnly (mv : Bool) (s : St D) (r : AV D × List (W D)) (next : T D (Ex D × List (W D))) : T D (Ex D × List (W D)) :=
  if (r.1.solid s.heap.length || mv) && noHeap r.2 then next else .fail

/-- One behind the other. -/
def thenT (t : T D (Ex D × List (W D))) (k : List (W D) → T D (Ex D × List (W D))) : T D (Ex D × List (W D)) := t.bind fun r => match r.1 with
  | .normal => (k r.2).bind fun q => .ret (q.1, r.2 ++ q.2)
  | _ => .fail

/-- The blocks that a region's stores write to. -/
def placesOf (ops : Array Oper) (s : St D) : List Nat → Option (List Nat)
  | [] => some []
  | k :: ks => match ops[k]? with
    | some o => match o.op with
      | .store _ a _ => match evalA s.slots a, placesOf ops s ks with
        | .ptr b _, some bs => some (b :: bs)
        | _, _ => none
      | _ => none
    | none => none
def goneAll : List Nat → List (AO D) → List (AO D)
  | [], h => h
  | b :: bs, h => goneAll bs (h.set b .gone)
def isCellOf (bs : List Nat) : W D → Bool
  | .cell b' _ _ => bs.any (Nat.beq b')
  | _ => false
def noHeapW : List (W D) → Bool
  | [] => true
  | .slot _ _ :: l => noHeapW l
  | _ :: _ => false
def storesT (ops : Array Oper) (bs : List Nat) : List Nat → St D → T D (List (W D))
  | [], _ => .ret []
  | k :: ks, s => match ops[k]? with
    | some o => (opA P o s).bind fun z => if z.2.all (isCellOf bs) then (storesT ops bs ks (s.apps z.2)).bind fun l => .ret (z.2 ++ l) else .fail
    | none => .fail
/-- The stores behind the region's other operations, which were told without what stands in their blocks. -/
def asideT (ops : Array Oper) (bs : List Nat) (s : St D) (t : T D (Ex D × List (W D))) : T D (Ex D × List (W D)) := t.bind fun r => match r.1 with
  | .normal => if noHeapW r.2 then (storesT P ops bs (Region.storesOf ops) (s.apps r.2)).bind fun l => .ret (.normal, r.2 ++ l) else .fail
  | _ => .fail

/-- A load of one cell of which something is known. -/
def loadQ (s : St D) (o : Oper) : Bool := match o.op with
  | .load t y => match isAggT P t, evalA s.slots y with
    | some false, .ptr b off => (loadA P s.heap t b off).isSome
    | _, _ => false
  | _ => false

mutual
/-- Code of a function, or what is left of a region of it. -/
def ev (X : Cx D) (fn : FuncId) : Nat → Cmd → St D → T D (Ex D × List (W D))
  | 0, _, _ => .fail
  | n + 1, .code c, s =>
    match c with
    | .skip => .ret (.normal, [])
    | .label _ => .ret (.normal, [])
    | .ret => .ret (.ret, [])
    | .exit id => .ret (.exit id, [])
    | .region _ ops false => joinT s (X.base fn) (ev X fn n (.ops ops ops.toList) s)
    | .region id ops true => match X.tail fn id with
      | none => if Region.lexB .any ops then joinT s (X.base fn) (ev X fn n (.quiet ops ops.toList) s) else .fail
      | some k => if Region.lexTailB .any ops k then joinT s (X.base fn) (thenT (ev X fn n (.quiet ops (ops.toList.take k)) s) fun l => ev X fn n (.ops ops (ops.toList.drop k)) (s.apps l))
        else if Region.asideB .any ops then joinT s (X.base fn) (match placesOf ops s (Region.storesOf ops) with
          | some bs => asideT P ops bs s (ev X fn n (.quiet ops (Region.restOps ops)) { slots := s.slots, heap := goneAll bs s.heap })
          | none => .fail)
        else if Region.noSelect ops && Nat.beq (chainOrder ops ops.size (Array.replicate ops.size false)).length ops.size then joinT s (X.base fn) (ev X fn n (.chain ops k (if Nat.testBit k 60 then (placesOf ops s (Region.storesOf ops)).getD [] else []) (chainOrder ops ops.size (Array.replicate ops.size false)) (Array.replicate ops.size false)) s)
        else .fail
    | .seq a b => (ev X fn n (.code a) s).bind fun r => match r.1 with
      | .normal => (ev X fn n (.code b) (s.apps r.2)).bind fun q => .ret (q.1, r.2 ++ q.2)
      | _ => .ret r
    | .cond c a b => match evalA s.slots c with
      | .bool (.lit true) => ev X fn n (.code a) s
      | .bool (.lit false) => ev X fn n (.code b) s
      | .bool (.sym x) => joinT s (X.base fn) (.br x (ev X fn n (.code a) s) (ev X fn n (.code b) s))
      | _ => .fail
    | .block id a => match X.blk fn id with
      | some g => g s
      | none => joinT s (X.base fn) ((ev X fn n (.code a) s).bind fun r => match r.1 with
        | .exit i => if Nat.beq i id then .ret (.normal, r.2) else .ret r
        | _ => .ret r)
    | .scope a => ev X fn n (.code a) s
    | .loop a => (ev X fn n (.code a) s).bind fun r => match r.1 with
      | .normal => (ev X fn n (.code (.loop a)) (s.apps r.2)).bind fun q => .ret (q.1, r.2 ++ q.2)
      | _ => .ret r
    | _ => .fail
  | _ + 1, .ops _ [], _ => .ret (.normal, [])
  | n + 1, .ops all (o :: todo), s =>
    guardT all o s
      (fun _ => runOp P X o s (fun l => l) (fun f args => call X n f args s.heap) fun r => behind (r.2 ++ putW o.dst r.1) (ev X fn n (.ops all todo) (s.apps (r.2 ++ putW o.dst r.1))))
      (fun _ => behind (putW o.dst .undef) (ev X fn n (.ops all todo) (s.apps (putW o.dst .undef))))
      (fun d b => behind [.slot d (.bool (.lit b))] (ev X fn n (.ops all (o :: todo)) (s.app (.slot d (.bool (.lit b))))))
  | _ + 1, .quiet _ [], _ => .ret (.normal, [])
  | n + 1, .quiet all (o :: todo), s =>
    guardT all o s
      (fun _ => runOp P X o s onlyNew (fun f args => call X n f args s.heap) fun r => quietOnly (movedO o) s r (behind (putW o.dst r.1) (ev X fn n (.quiet all todo) (s.apps (putW o.dst r.1)))))
      (fun _ => behind (putW o.dst .undef) (ev X fn n (.quiet all todo) (s.apps (putW o.dst .undef))))
      (fun d b => behind [.slot d (.bool (.lit b))] (ev X fn n (.quiet all (o :: todo)) (s.app (.slot d (.bool (.lit b))))))
  | _ + 1, .chain all _ _ [] listed, _ => if (Region.ready .any all listed).isEmpty then .ret (.normal, []) else .fail
  | n + 1, .chain all k bs (i :: is) listed, s => match all[i]? with
    | none => .fail
    | some o => if calmC o then
        (if (Region.ready .any all listed).contains i && (Region.free .any all listed i && (heapFree o || readsOk all k i)) then
          guardT all o s
            (fun _ => (opA P o { slots := s.slots, heap := goneAll bs s.heap }).bind fun r => quietOnly (movedO o || (Nat.testBit k 61 && loadQ P { slots := s.slots, heap := goneAll bs s.heap } o)) s r (behind (putW o.dst r.1) (ev X fn n (.chain all k bs is (listed.setIfInBounds i true)) (s.apps (putW o.dst r.1)))))
            (fun _ => behind (putW o.dst .undef) (ev X fn n (.chain all k bs is (listed.setIfInBounds i true)) (s.apps (putW o.dst .undef))))
            (fun d b => behind [.slot d (.bool (.lit b))] (ev X fn n (.chain all k bs (i :: is) listed) (s.app (.slot d (.bool (.lit b))))))
        else .fail)
      else (match Region.ready .any all listed, o.guard with
        | [j], none => if Nat.beq i j then runOp P X o s (fun l => l) (fun f args => call X n f args s.heap) fun r =>
            if resetsC all k i || ((!(Nat.testBit k 61) || freshO o) && r.2.all (keepsW bs)) then behind (r.2 ++ putW o.dst r.1) (ev X fn n (.chain all k bs is (listed.setIfInBounds i true)) (s.apps (r.2 ++ putW o.dst r.1))) else .fail
          else .fail
        | [_, _], none => (match is with
          | j :: is' => (match all[j]? with
            | some p => if !(Nat.testBit k 61) && pairOk all k listed i j o p then
                (opA P o s).bind fun y => if y.2.all (oldW s.heap.length) && (resetsC all k i || y.2.all (keepsW bs)) then
                  (opA P p (s.apps y.2)).bind fun z => if z.2.all isNew then
                    behind (y.2 ++ (z.2 ++ putW p.dst z.1)) (ev X fn n (.chain all k bs is' ((listed.setIfInBounds i true).setIfInBounds j true)) (s.apps (y.2 ++ (z.2 ++ putW p.dst z.1))))
                  else .fail
                else .fail
              else .fail
            | none => .fail)
          | [] => .fail)
        | _, _ => .fail)
/-- A call: the value, and the writes to memory. -/
def call (X : Cx D) : Nat → FuncId → List (AV D) → List (AO D) → T D (Ex D × List (W D))
  | 0, _, _, _ => .fail
  | n + 1, f, args, h =>
    match X.sums f args h with
    | some t => t.bind fun r => .ret (.val r.1, r.2)
    | none =>
      match P.funcs[f]? with
      | none => .fail
      | some fn => match fn.body with
        | none => .fail
        | some c =>
          let s : St D := { slots := args ++ undefs (fn.ntmps - args.length), heap := h }
          joinT { slots := [], heap := h } 0 ((ev X f n (.code c) s).bind fun r => match r.1 with
            | .normal => finish P fn.results.toList s r.2
            | .ret => finish P fn.results.toList s r.2
            | _ => .fail)
end
end
end Go.Proofs.Ytngcbpcfgolifaa.Ev
