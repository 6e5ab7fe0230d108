/- Parts of the proof: AM.Def, AM.Run, AM.Strip, AM.Rel, AM.SimL, AM.Op1, AM.Op2. -/
import GoSem.Dispatch
import Derived.Calls
import Derived.WalkKit
/- AM, part 1: the abstract machine: values, heap, operations, the run. (No program in sight.) -/
namespace Go.AM

abbrev Id := Nat × Nat

/-- Abstract values. 'pslice', 'pptr', 'pmap': memory that nobody writes any more, told by what it holds. -/
inductive AV where
  | junk
  | bool (b : Bool)
  | int (k : IntKind) (n : Int)
  | str (s : ByteArray)
  | nilp
  | ptr (o : Id) (off : Nat)
  | pptr (cs : List AV) (off : Nat)
  | nils
  | slice (o : Id) (co len esz : Nat) (clip : Bool)
  | pslice (cs : List AV) (len esz : Nat) (clip : Bool)
  | nilm
  | map (o : Id)
  | pmap (ks vs : List AV)
  | nilf
  | func (fn : Fn) (first captured : List AV)
  | agg (cs : List AV)
  | tuple (vs : List AV)
  deriving Inhabited

/-- What a slot holds: a value, a variable of its own (with what it holds), or a pointer into such a variable. -/
inductive SV where
  | v (a : AV)
  | box (cs : List AV)
  | lptr (s off : Nat)
  deriving Inhabited

inductive AObj where
  | cells (cs : List AV)
  | map (ks vs : List AV) (born : List Nat) (clock : Nat)
  deriving Inhabited


/-- A tree by the keys' bits. -/
inductive Tr (α : Type) where
  | leaf
  | node (v : Option α) (l r : Tr α)
  deriving Inhabited
/- With recursors written out: the kernel runs them. -/
noncomputable def Tr.get {α : Type} (t : Tr α) : List Bool → Option α :=
  Tr.rec (motive := fun _ => List Bool → Option α) (fun _ => none) (fun v _ _ ihl ihr ks => List.rec (motive := fun _ => Option α) v (fun b bs _ => cond b (ihr bs) (ihl bs)) ks) t
theorem Tr.get_l {α : Type} (ks : List Bool) : Tr.get (Tr.leaf : Tr α) ks = none := rfl
theorem Tr.get_n {α : Type} (v : Option α) (l r : Tr α) : Tr.get (.node v l r) [] = v := rfl
theorem Tr.get_c {α : Type} (v : Option α) (l r : Tr α) (b : Bool) (bs : List Bool) : Tr.get (.node v l r) (b :: bs) = bif b then r.get bs else l.get bs := rfl
noncomputable def Tr.set {α : Type} (t : Tr α) (ks : List Bool) (v : Option α) : Tr α :=
  List.rec (motive := fun _ => Tr α → Tr α) (fun t => Tr.rec (motive := fun _ => Tr α) (.node v .leaf .leaf) (fun _ l r _ _ => .node v l r) t)
    (fun b _ ih t => Tr.rec (motive := fun _ => Tr α) (cond b (.node none .leaf (ih .leaf)) (.node none (ih .leaf) .leaf)) (fun u l r _ _ => cond b (.node u l (ih r)) (.node u (ih l) r)) t) ks t
theorem Tr.set_ln {α : Type} (v : Option α) : Tr.set (.leaf : Tr α) [] v = .node v .leaf .leaf := rfl
theorem Tr.set_nn {α : Type} (u v : Option α) (l r : Tr α) : Tr.set (.node u l r) [] v = .node v l r := rfl
theorem Tr.set_lc {α : Type} (b : Bool) (bs : List Bool) (v : Option α) : Tr.set (.leaf : Tr α) (b :: bs) v = bif b then .node none .leaf (Tr.set .leaf bs v) else .node none (Tr.set .leaf bs v) .leaf := rfl
theorem Tr.set_nc {α : Type} (u v : Option α) (l r : Tr α) (b : Bool) (bs : List Bool) : Tr.set (.node u l r) (b :: bs) v = bif b then .node u l (r.set bs v) else .node u (l.set bs v) r := rfl
noncomputable def bitsF (k : Nat) : Nat → List Bool :=
  Nat.rec (motive := fun _ => Nat → List Bool) (fun _ => []) (fun _ ih n => Nat.rec (motive := fun _ => List Bool) [] (fun m _ => Nat.beq (Nat.mod (Nat.succ m) 2) 1 :: ih (Nat.div (Nat.succ m) 2)) n) k
theorem bitsF_0 (n : Nat) : bitsF 0 n = [] := rfl
theorem bitsF_s0 (k : Nat) : bitsF (k + 1) 0 = [] := rfl
theorem bitsF_ss (k m : Nat) : bitsF (k + 1) (m + 1) = Nat.beq ((m + 1) % 2) 1 :: bitsF k ((m + 1) / 2) := rfl
noncomputable def bits (n : Nat) : List Bool := bitsF n n
def Tr.all {α : Type} (p : α → Bool) : Tr α → Bool
  | .leaf => true
  | .node v l r => (match v with
    | some x => p x
    | none => true) && Tr.all p l && Tr.all p r
noncomputable section
abbrev Env := Tr SV
abbrev Heap := Tr (Tr AObj)

def Env.empty : Env := .leaf
def Env.get (e : Env) (s : Nat) : Option SV := Tr.get e (bits s)
def Env.put (e : Env) (s : Nat) (v : SV) : Env := Tr.set e (bits s) (some v)
/-- What is kept at a loop's head: the slots that are still looked at. -/
def Env.kill (e : Env) : List Nat → Env
  | [] => Env.empty
  | k :: ks => match e.get k with
    | some v => (Env.kill e ks).put k v
    | none => Env.kill e ks
def leadsOff (d : Nat) : SV → Bool
  | .lptr t _ => !(Nat.beq t d)
  | _ => true
/-- No pointer into slot s's variable. -/
def Env.free (e : Env) (d : Nat) : Bool := Tr.all (leadsOff d) e

set_option linter.unusedVariables false
def idEq (a b : Id) : Bool := a.1 == b.1 && a.2 == b.2
def Heap.empty : Heap := .leaf
def Heap.get (h : Heap) (i : Id) : Option AObj :=
  match Tr.get h (bits i.1) with
  | some t => Tr.get t (bits i.2)
  | none => none
def Heap.row (h : Heap) (n : Nat) : Tr AObj :=
  match Tr.get h (bits n) with
  | some t => t
  | none => .leaf
def Heap.set (h : Heap) (i : Id) (o : Option AObj) : Heap := Tr.set h (bits i.1) (some (Tr.set (Heap.row h i.1) (bits i.2) o))
def Heap.put (h : Heap) (j : Id) (o : AObj) : Heap := h.set j (some o)
def Heap.del (h : Heap) (j : Id) : Heap := h.set j none

/-- A constant of the program, as a value. -/
def ofV : Value → Option AV
  | .bool b => some (.bool b)
  | .int k n => some (.int k n)
  | .string s => some (.str s)
  | .pointer none => some .nilp
  | .slice none 0 0 => some .nils
  | .map none => some .nilm
  | .nilFunc => some .nilf
  | _ => none
def ofVs : List Value → Option (List AV)
  | [] => some []
  | v :: r => match ofV v, ofVs r with
    | some a, some l => some (a :: l)
    | _, _ => none
def ofZero : Value → Option (List AV)
  | .agg cs => ofVs cs.toList
  | v => match ofV v with
    | some a => some [a]
    | none => none

/-- The kinds of what '==' and map keys compare. -/
inductive CK where
  | int (k : IntKind) | str | bool
  deriving DecidableEq, Inhabited
inductive EK where
  | one (c : CK)
  | flat (l : List CK)
  | nilSlice | nilMap | ptr | func
  deriving DecidableEq, Inhabited

inductive CV where
  | int (k : IntKind) | same | toBytes (ty : TypeId) | ofBytes
  deriving DecidableEq, Inhabited
inductive LK where
  | str | slice | map | arr (n : Nat)
  deriving DecidableEq, Inhabited

inductive VOp where
  | move (x : Operand)
  | pick (c a b : Operand)
  | alloc (heap : Bool) (zero : List AV)
  | box (heap : Bool) (x : Operand)
  | build (zero : List AV) (parts : List (Nat × Nat × Operand))
  | bslice (zero : List AV) (len esz : Nat) (parts : List (Nat × Operand))
  | load (n : Option Nat) (x : Operand)
  | store (n : Nat) (x y : Operand)
  | nilck (x : Operand)
  | bin (op : BinOp) (x y : Operand)
  | eqv (neq : Bool) (k : EK) (x y : Operand)
  | un (op : UnOp) (x : Operand)
  | cvt (c : CV) (x : Operand)
  | mkfn (fn : Fn) (first captured : List Operand)
  | mkmap
  | mkslice (zero : List AV) (bytes : Nat) (l c : Operand)
  | slc (esz : Option Nat) (x : Operand) (lo hi mx : Option Operand)
  | faddr (off : Nat) (x : Operand)
  | fld (off : Nat) (n : Option Nat) (x : Operand)
  | iaddr (esz : Nat) (arr : Option Nat) (x i : Operand)
  | idx (arr : Option (Nat × Nat × Option Nat)) (x i : Operand)
  | lookup (k : EK) (zero : AV) (x i : Operand) (ok : Bool)
  | mapup (k : EK) (m i x : Operand)
  | ext (x : Operand) (i : Nat)
  | len (k : LK) (x : Operand)
  | append (esz bytes : Nat) (s x : Operand)
  | mm (max : Bool) (x : Operand) (r : List Operand)
  | call (f : FuncId) (args : List Operand)
  | callv (g : Operand) (args : List Operand)
  deriving Inhabited

/-- How a call is made: on the heap as it stands; or with pure arguments, on a heap of its own: its result frozen, or (fresh) a new row. -/
inductive Mode where
  | eff | pure | view | fresh | vfresh
  deriving DecidableEq, Inhabited

structure VO where
  dst : Option Nat
  guard : Option (Nat × Bool)
  op : VOp
  mode : Mode
  deriving Inhabited

inductive VC where
  | skip
  | ops (draw : Option (List (Nat × Nat))) (l : List VO)
  | seq (a b : VC)
  | cond (c : Operand) (a b : VC)
  | block (id : Nat) (a : VC)
  | loop (ks : List Nat) (a : VC)
  | exit (id : Nat)
  | ret
  deriving Inhabited

inductive RK where
  | tmp (t : Nat)
  | cell (t : Nat) (n : Option Nat)
  deriving Inhabited

structure VFun where
  nargs : Nat
  ntmps : Nat
  results : List RK
  body : VC
  deriving Inhabited

inductive Key where
  | slot (s : Nat) | lead (s : Nat) | obj (i : Id) | heap
  deriving DecidableEq, Inhabited
def Key.meet : Key → Key → Bool
  | .slot s, .slot t => s == t
  | .slot _, _ => false
  | _, .slot _ => false
  | .lead s, .lead t => s == t
  | .lead _, _ => false
  | _, .lead _ => false
  | .obj i, .obj j => idEq i j
  | _, _ => true

/-- What one operation does. -/
structure Eff where
  val : SV
  box : Option (Nat × List AV) := none
  put : List (Id × AObj) := []
  del : Option Id := none
  rd : List Key := []
  wr : List Key := []

/-! ### operands -/
def evA (e : Env) : Operand → Option AV
  | .tmp t => match e.get t with
    | some (.v .junk) => none
    | some (.v a) => some a
    | _ => none
  | .const v => ofV v
  | .global _ => none
  | .func f => some (.func (.func f) [] [])
/-- A pointer's slot reads as a pointer to its variable. -/
def evS (e : Env) : Operand → Option SV
  | .tmp t => match e.get t with
    | some (.v .junk) => none
    | some (.v a) => some (.v a)
    | some (.box _) => some (.lptr t 0)
    | some (.lptr s o) => some (.lptr s o)
    | none => none
  | x => match evA e x with
    | some a => some (.v a)
    | none => none
def evAs (e : Env) : List Operand → Option (List AV)
  | [] => some []
  | x :: r => match evA e x, evAs e r with
    | some a, some l => some (a :: l)
    | _, _ => none

def cellsOf : AV → List AV
  | .agg cs => cs
  | a => [a]
/-- Is it the value of one cell? -/
def AV.one : AV → Bool
  | .agg _ | .tuple _ | .junk => false
  | _ => true
def sub (cs : List AV) (off n : Nat) : Option (List AV) := bif Nat.ble (off + n) cs.length then some ((cs.drop off).take n) else none
def upd (cs : List AV) (off : Nat) (xs : List AV) : Option (List AV) :=
  bif Nat.ble (off + xs.length) cs.length then some (cs.take off ++ xs ++ cs.drop (off + xs.length)) else none
def shut (n : Option Nat) (l : List AV) : Option AV :=
  match n, l with
  | some _, l => some (.agg l)
  | none, [a] => some a
  | none, _ => none
def width : Option Nat → Nat
  | some n => n
  | none => 1

/-- n cells from a pointer on. -/
def readAt (e : Env) (h : Heap) (p : SV) (n : Nat) : Option (List AV × List Key) :=
  match p with
  | .lptr s off => match e.get s with
    | some (.box cs) => match sub cs off n with
      | some l => some (l, [.slot s])
      | none => none
    | _ => none
  | .v (.ptr o off) => match h.get o with
    | some (.cells cs) => match sub cs off n with
      | some l => some (l, [.obj o])
      | none => none
    | _ => none
  | .v (.pptr cs off) => match sub cs off n with
    | some l => some (l, [])
    | none => none
  | _ => none

/-- The cells of a slice's elements. -/
def elems (es : Nat) (h : Heap) : AV → Option (List AV × Nat × List Key)
  | .nils => some ([], 0, [])
  | .pslice cs len _ _ => match sub cs 0 (len * es) with
    | some l => some (l, len, [])
    | none => none
  | .slice o co len esz _ => match h.get o with
    | some (.cells cs) => match sub cs co (len * esz) with
      | some l => some (l, len, [.obj o])
      | none => none
    | _ => none
  | _ => none

/-! ### equality -/
def keq1 : CK → AV → AV → Option Bool
  | .int k, .int j a, .int j' b => bif j == k && j' == k then some (a == b) else none
  | .str, .str a, .str b => some (a == b)
  | .bool, .bool a, .bool b => some (a == b)
  | _, _, _ => none
def keqs : List CK → List AV → List AV → Option Bool
  | [], [], [] => some true
  | c :: l, a :: x, b :: y => match keq1 c a b, keqs l x y with
    | some r, some t => some (r && t)
    | _, _ => none
  | _, _, _ => none
def keq : EK → AV → AV → Option Bool
  | .one c, a, b => keq1 c a b
  | .flat l, .agg x, .agg y => keqs l x y
  | _, _, _ => none
/-- Is it a key of that kind? -/
def fits1 : CK → AV → Bool
  | .int k, .int j _ => j == k
  | .str, .str _ => true
  | .bool, .bool _ => true
  | _, _ => false
def fitss : List CK → List AV → Bool
  | [], [] => true
  | c :: l, a :: x => fits1 c a && fitss l x
  | _, _ => false
def fits : EK → AV → Bool
  | .one c, a => fits1 c a
  | .flat l, .agg x => fitss l x
  | _, _ => false
/-- Where a key stands among keys. -/
def findK (k : EK) (a : AV) : List AV → Nat → Option (Option Nat)
  | [], _ => some none
  | b :: r, i => match keq k a b with
    | some true => some (some i)
    | some false => findK k a r (i + 1)
    | none => none

def eqv (k : EK) (a b : AV) : Option Bool :=
  match k, a, b with
  | .nilSlice, .nils, .nils => some true
  | .nilSlice, .nils, .slice .. => some false
  | .nilSlice, .slice .., .nils => some false
  | .nilMap, .nilm, .nilm => some true
  | .nilMap, .nilm, .map _ => some false
  | .nilMap, .map _, .nilm => some false
  | .ptr, .nilp, .nilp => some true
  | .ptr, .nilp, .ptr .. => some false
  | .ptr, .ptr .., .nilp => some false
  | .ptr, .nilp, .pptr .. => some false
  | .ptr, .pptr .., .nilp => some false
  | .func, .nilf, .nilf => some true
  | .func, .nilf, .func .. => some false
  | .func, .func .., .nilf => some false
  | k, a, b => keq k a b

/-! ### numbers -/
def binInt (op : BinOp) (k : IntKind) (a b : Int) : Option AV :=
  match op with
  | .add => some (.int k (k.wrap (a + b)))
  | .sub => some (.int k (k.wrap (a - b)))
  | .mul => some (.int k (k.wrap (a * b)))
  | .quo => bif b == 0 then none else some (.int k (k.wrap (a.tdiv b)))
  | .rem => bif b == 0 then none else some (.int k (a.tmod b))
  | .and => some (.int k (k.wrap (BitVec.ofInt k.bits a &&& BitVec.ofInt k.bits b).toNat))
  | .or => some (.int k (k.wrap (BitVec.ofInt k.bits a ||| BitVec.ofInt k.bits b).toNat))
  | .xor => some (.int k (k.wrap (BitVec.ofInt k.bits a ^^^ BitVec.ofInt k.bits b).toNat))
  | .andNot => some (.int k (k.wrap (BitVec.ofInt k.bits a &&& ~~~ BitVec.ofInt k.bits b).toNat))
  | .eql => some (.bool (a == b))
  | .neq => some (.bool (a != b))
  | .lss => some (.bool (decide (a < b)))
  | .leq => some (.bool (decide (a ≤ b)))
  | .gtr => some (.bool (decide (a > b)))
  | .geq => some (.bool (decide (a ≥ b)))
  | _ => none
def binStr (op : BinOp) (x y : ByteArray) : Option AV :=
  match op with
  | .add => bif decide (((x.size + y.size : Nat) : Int) > IntKind.i64.max) then none else some (.str (x ++ y))
  | .eql => some (.bool (x.toList == y.toList))
  | .neq => some (.bool (!(x.toList == y.toList)))
  | .lss => some (.bool (Op.bytesLess x.toList y.toList))
  | .leq => some (.bool (Op.bytesLess x.toList y.toList || x.toList == y.toList))
  | .gtr => some (.bool (!(Op.bytesLess x.toList y.toList || x.toList == y.toList)))
  | .geq => some (.bool (!Op.bytesLess x.toList y.toList))
  | _ => none
def binop (op : BinOp) (x y : AV) : Option AV :=
  match x, y with
  | .int k a, .int k' b => match op with
    | .shl => bif decide (b < 0) then none else some (.int k (k.wrap (a * 2 ^ (Nat.min b.toNat k.bits))))
    | .shr => bif decide (b < 0) then none else some (.int k (a.fdiv (2 ^ (Nat.min b.toNat k.bits))))
    | _ => bif k == k' then binInt op k a b else none
  | .str a, .str b => binStr op a b
  | _, _ => none
def unop (op : UnOp) (x : AV) : Option AV :=
  match op, x with
  | .neg, .int k n => some (.int k (k.wrap (0 - n)))
  | .xor, .int k n => binInt .xor k (if k.signed then -1 else k.max) n
  | .not, .bool b => some (.bool !b)
  | _, _ => none
def mm2 : Bool → AV → AV → Option AV
  | true, .int k x, .int k' y => bif k == k' then some (.int k (max x y)) else none
  | false, .int k x, .int k' y => bif k == k' then some (.int k (min x y)) else none
  | _, _, _ => none
def mms (mx : Bool) : AV → List AV → Option AV
  | a, [] => some a
  | a, b :: r => match mm2 mx a b with
    | some c => mms mx c r
    | none => none

/-! ### building -/
def fill (cs : List AV) : List (Nat × List AV) → Option (List AV)
  | [] => some cs
  | (off, xs) :: r => match upd cs off xs with
    | some cs' => fill cs' r
    | none => none
def evParts (e : Env) : List (Nat × Nat × Operand) → Option (List (Nat × List AV))
  | [] => some []
  | (off, n, x) :: r => match evA e x, evParts e r with
    | some a, some l => bif (cellsOf a).length == n then some ((off, cellsOf a) :: l) else none
    | _, _ => none
def evElems (e : Env) (esz : Nat) : List (Nat × Operand) → Option (List (Nat × List AV))
  | [] => some []
  | (i, x) :: r => match evA e x, evElems e esz r with
    | some a, some l => bif (cellsOf a).length == esz then some ((i * esz, cellsOf a) :: l) else none
    | _, _ => none
def rep (n : Nat) (z : List AV) : List AV :=
  match n with
  | 0 => []
  | n + 1 => z ++ rep n z

/-- A bound of a slice expression: from 0 to m. -/
def bnd (e : Env) (m : Nat) : Option Operand → Option (Option Nat)
  | none => some none
  | some x => match evA e x with
    | some (.int _ n) => bif decide (0 ≤ n) && decide (n ≤ m) then some (some n.toNat) else none
    | _ => none
/-- Is the piece's capacity its length? -/
def clipOf (m : Option Nat) (clip : Bool) (h len : Nat) : Bool :=
  match m with
  | some m => m == h
  | none => clip && h == len
/-- A piece of a slice: of no elements it is told without its place. -/
def piece (o : Option Id) (cs : List AV) (co len esz : Nat) (clip : Bool) (l h : Nat) (m : Option Nat) : AV :=
  bif h == l then .pslice [] 0 esz (clipOf m clip h len) else
  match o with
  | some o => .slice o (co + l * esz) (h - l) esz (clipOf m clip h len)
  | none => .pslice (cs.drop (l * esz)) (h - l) esz (clipOf m clip h len)
def slcBounds (e : Env) (len : Nat) (lo hi mx : Option Operand) : Option (Nat × Nat × Option Nat) :=
  match bnd e len mx with
  | some m => match bnd e (m.getD len) hi with
    | some h => match bnd e (h.getD len) lo with
      | some l => bif m.isSome && h.isNone then none else some (l.getD 0, h.getD len, m)
      | none => none
    | none => none
  | none => none
def slcOf (e : Env) (esz : Option Nat) (x : AV) (lo hi mx : Option Operand) : Option AV :=
  match esz, x with
  | none, .str s => match mx, slcBounds e s.size lo hi none with
    | none, some (l, h, _) => some (.str (s.extract l h))
    | _, _ => none
  | some _, .nils => match slcBounds e 0 lo hi mx with
    | some _ => some .nils
    | none => none
  | some esz, .slice o co len esz' clip => match slcBounds e len lo hi mx with
    | some (l, h, m) => bif esz == esz' then some (piece (some o) [] co len esz clip l h m) else none
    | none => none
  | some esz, .pslice cs len _ clip => match slcBounds e len lo hi mx with
    | some (l, h, m) => some (piece none cs 0 len esz clip l h m)
    | none => none
  | _, _ => none

/-! ### one operation -/
def isNil : SV → Bool
  | .v .nilp | .v .nilf => true
  | _ => false
/-- Not nil, by sight. -/
def notNil : SV → Bool
  | .lptr .. => true
  | .v (.ptr ..) | .v (.pptr ..) | .v (.func (.func _) ..) => true
  | _ => false
def shiftP (n : Nat) : SV → Option SV
  | .lptr s off => some (.lptr s (off + n))
  | .v (.ptr o off) => some (.v (.ptr o (off + n)))
  | .v (.pptr cs off) => some (.v (.pptr cs (off + n)))
  | _ => none
/-- Whose variable a pointer leads to. -/
def ptrKey : SV → List Key
  | .lptr s _ => [.lead s]
  | _ => []
def asInt : Option AV → Option Int
  | some (.int _ n) => some n
  | _ => none
def ones : List AV → Bool
  | [] => true
  | a :: r => a.one && ones r
def AV.isSl : AV → Bool
  | .nils | .slice .. | .pslice .. => true
  | _ => false
/-- Append: what the new slice is, and what becomes of the heap. -/
def appendTo (h : Heap) (nid : Id) (esz bytes : Nat) (s : AV) (new : List AV) (n : Nat) (rd : List Key) : Option Eff :=
  bif n == 0 then (bif s.isSl then some { val := .v s, rd } else none) else
  bif !(ones new) || !(new.length == n * esz) then none else
  match s with
  | .nils => bif Nat.ble (n * bytes) 140737488355328 then some { val := .v (.slice nid 0 n esz false), put := [(nid, .cells new)], rd, wr := [.obj nid] } else none
  | .pslice cs len _ true => bif Nat.ble ((len + n) * bytes) 140737488355328 then
      match sub cs 0 (len * esz) with
      | some l => some { val := .v (.slice nid 0 (len + n) esz false), put := [(nid, .cells (l ++ new))], rd, wr := [.obj nid] }
      | none => none
    else none
  | .slice o co len esz' clip => bif esz == esz' && Nat.ble ((len + n) * bytes) 140737488355328 then
      match h.get o with
      | some (.cells cs) =>
        bif clip then
          match sub cs co (len * esz) with
          | some l => some { val := .v (.slice nid 0 (len + n) esz false), put := [(nid, .cells (l ++ new))], rd := .obj o :: rd, wr := [.obj nid] }
          | none => none
        else bif co == 0 && cs.length == len * esz then some { val := .v (.slice nid 0 (len + n) esz false), put := [(nid, .cells (cs ++ new))], del := some o, rd := .obj o :: rd, wr := [.obj nid, .obj o] }
        else none
      | _ => none
    else none
  | _ => none

def mapIx (k : EK) (i : AV) (ks : List AV) : Option (Option Nat) := bif fits k i then findK k i ks 0 else none
def lookupIn (k : EK) (zero i : AV) (ks vs : List AV) (ok : Bool) (rd : List Key) : Option Eff :=
  match mapIx k i ks with
  | some (some j) => match vs[j]? with
    | some v => some { val := .v (bif ok then .tuple [v, .bool true] else v), rd }
    | none => none
  | some none => some { val := .v (bif ok then .tuple [zero, .bool false] else zero), rd }
  | none => none

/-- One operation, calls apart. -/
def aop (e : Env) (h : Heap) (nid : Id) (dst : Option Nat) : VOp → Option Eff
  | .move x => match evS e x with
    | some s => some { val := s, rd := ptrKey s }
    | none => none
  | .pick c a b => match evA e c, evA e a, evA e b with
    | some (.bool t), some x, some y => some { val := .v (if t then x else y) }
    | _, _, _ => none
  | .alloc hp zero => bif hp then some { val := .v (.ptr nid 0), put := [(nid, .cells zero)], wr := [.obj nid] }
    else match dst with
      | some d => bif e.free d then some { val := .box zero, wr := [.slot d, .lead d] } else none
      | none => none
  | .box hp x => match evA e x with
    | some a =>
      bif hp then some { val := .v (.ptr nid 0), put := [(nid, .cells (cellsOf a))], wr := [.obj nid] }
      else match dst with
        | some d => bif e.free d then some { val := .box (cellsOf a), wr := [.slot d, .lead d] } else none
        | none => none
    | none => none
  | .build zero parts => match evParts e parts with
    | some l => match fill zero l with
      | some cs => some { val := .v (.agg cs) }
      | none => none
    | none => none
  | .bslice zero len esz parts => match evElems e esz parts with
    | some l => match fill (rep len zero) l with
      | some cs => some { val := .v (.slice nid 0 len esz true), put := [(nid, .cells cs)], wr := [.obj nid] }
      | none => none
    | none => none
  | .load n x => match evS e x with
    | some p => match readAt e h p (width n) with
      | some (l, rd) => match shut n l with
        | some a => some { val := .v a, rd }
        | none => none
      | none => none
    | none => none
  | .store n x y => match evS e x, evA e y with
    | some p, some a => bif !((cellsOf a).length == n) || !(ones (cellsOf a)) then none else
      match p with
      | .lptr s off => match e.get s with
        | some (.box cs) => match upd cs off (cellsOf a) with
          | some cs' => some { val := .v (.tuple []), box := some (s, cs'), rd := [.slot s], wr := [.slot s] }
          | none => none
        | _ => none
      | .v (.ptr o off) => match h.get o with
        | some (.cells cs) => match upd cs off (cellsOf a) with
          | some cs' => some { val := .v (.tuple []), put := [(o, .cells cs')], rd := [.obj o], wr := [.obj o] }
          | none => none
        | _ => none
      | _ => none
    | _, _ => none
  | .nilck x => match evS e x with
    | some p => bif notNil p then some { val := p, rd := ptrKey p } else none
    | none => none
  | .bin op x y => match evA e x, evA e y with
    | some a, some b => match binop op a b with
      | some r => some { val := .v r }
      | none => none
    | _, _ => none
  | .eqv neq k x y => match evA e x, evA e y with
    | some a, some b => match eqv k a b with
      | some r => some { val := .v (.bool (bif neq then !r else r)) }
      | none => none
    | _, _ => none
  | .un op x => match evA e x with
    | some a => match unop op a with
      | some r => some { val := .v r }
      | none => none
    | none => none
  | .cvt c x => match c, evA e x with
    | .int k, some (.int _ n) => some { val := .v (.int k (k.wrap n)) }
    | .same, some (.str s) => some { val := .v (.str s) }
    | .toBytes _, some (.str s) => bif !(Nat.ble s.size 9223372036854775807) then none else some { val := .v (.slice nid 0 s.size 1 false), put := [(nid, .cells (s.data.toList.map fun b => .int .u8 b.toNat))], wr := [.obj nid] }
    | _, _ => none
  | .mkfn fn first captured => match evAs e first, evAs e captured with
    | some l, some l' => some { val := .v (.func fn l l') }
    | _, _ => none
  | .mkmap => some { val := .v (.map nid), put := [(nid, .map [] [] [] 0)], wr := [.obj nid] }
  | .mkslice zero bytes l c => match evA e l, evA e c with
    | some (.int .i64 n), some (.int .i64 m) => bif decide (0 ≤ n) && decide (n ≤ m) && decide (m * (bytes : Int) ≤ 140737488355328) then
        some { val := .v (.slice nid 0 n.toNat zero.length (n == m)), put := [(nid, .cells (rep n.toNat zero))], wr := [.obj nid] } else none
    | _, _ => none
  | .slc esz x lo hi mx => match evA e x with
    | some a => match slcOf e esz a lo hi mx with
      | some r => some { val := .v r }
      | none => none
    | none => none
  | .faddr off x => match evS e x with
    | some p => match shiftP off p with
      | some q => some { val := q, rd := ptrKey q }
      | none => none
    | none => none
  | .fld off n x => match evA e x with
    | some (.agg cs) => match sub cs off (width n) with
      | some l => match shut n l with
        | some a => some { val := .v a }
        | none => none
      | none => none
    | _ => none
  | .iaddr esz arr x i => match arr, evS e x, asInt (evA e i) with
    | none, some (.v (.slice o co len esz' _)), some n => bif esz == esz' && decide (0 ≤ n) && decide (n < (len : Int)) then some { val := .v (.ptr o (co + n.toNat * esz)) } else none
    | none, some (.v (.pslice cs len _ _)), some n => bif decide (0 ≤ n) && decide (n < (len : Int)) then some { val := .v (.pptr cs (n.toNat * esz)) } else none
    | some len, some p, some n => bif decide (0 ≤ n) && decide (n < (len : Int)) then match shiftP (n.toNat * esz) p with
        | some q => some { val := q, rd := ptrKey q }
        | none => none
      else none
    | _, _, _ => none
  | .idx arr x i => match arr, evA e x, asInt (evA e i) with
    | none, some (.str s), some n => bif decide (0 ≤ n) then match s[n.toNat]? with
        | some b => some { val := .v (.int .u8 b.toNat) }
        | none => none
      else none
    | some (len, esz, n'), some (.agg cs), some n => bif decide (0 ≤ n) && decide (n < (len : Int)) then match sub cs (n.toNat * esz) (width n') with
        | some l => match shut n' l with
          | some a => some { val := .v a }
          | none => none
        | none => none
      else none
    | _, _, _ => none
  | .lookup k zero x i ok => match evA e x, evA e i with
    | some .nilm, some i => bif fits k i then some { val := .v (bif ok then .tuple [zero, .bool false] else zero) } else none
    | some (.pmap ks vs), some i => lookupIn k zero i ks vs ok []
    | some (.map o), some i => match h.get o with
      | some (.map ks vs _ _) => lookupIn k zero i ks vs ok [.obj o]
      | _ => none
    | _, _ => none
  | .mapup k m i x => match evA e m, evA e i, evA e x with
    | some (.map o), some i, some v => match h.get o with
      | some (.map ks vs born clock) => match mapIx k i ks with
        | some (some j) => some { val := .v (.tuple []), put := [(o, .map ks (vs.set j v) born clock)], rd := [.obj o], wr := [.obj o] }
        | some none => some { val := .v (.tuple []), put := [(o, .map (ks ++ [i]) (vs ++ [v]) (born ++ [clock]) (clock + 1))], rd := [.obj o], wr := [.obj o] }
        | none => none
      | _ => none
    | _, _, _ => none
  | .ext x i => match evA e x with
    | some (.tuple l) => match l[i]? with
      | some a => some { val := .v a }
      | none => none
    | _ => none
  | .len k x => match k, evA e x with
    | .str, some (.str s) => some { val := .v (.int .i64 s.size) }
    | .slice, some .nils => some { val := .v (.int .i64 0) }
    | .slice, some (.slice _ _ n _ _) => some { val := .v (.int .i64 n) }
    | .slice, some (.pslice _ n _ _) => some { val := .v (.int .i64 n) }
    | .map, some .nilm => some { val := .v (.int .i64 0) }
    | .map, some (.map o) => match h.get o with
      | some (.map ks _ _ _) => some { val := .v (.int .i64 ks.length), rd := [.obj o] }
      | _ => none
    | .arr n, _ => some { val := .v (.int .i64 n) }
    | _, _ => none
  | .append esz bytes s x => match evA e s, evA e x with
    | some a, some b => match elems esz h b with
      | some (new, n, rd) => appendTo h nid esz bytes a new n rd
      | none => none
    | _, _ => none
  | .mm mx x r => match evA e x, evAs e r with
    | some a, some l => match mms mx a l with
      | some v => some { val := .v v }
      | none => none
    | _, _ => none
  | .call .. | .callv .. => none

/-! ### the same, for the kernel -/
def lim : IntKind → Nat
  | .i8 => 128 | .u8 => 256 | .i16 => 32768 | .u16 => 65536 | .i32 => 2147483648 | .u32 => 4294967296 | .i64 => 9223372036854775808 | .u64 => 18446744073709551616
def wrapF (k : IntKind) (n : Int) : Int :=
  match n with
  | .ofNat m => bif Nat.ble (lim k) m then k.wrap (.ofNat m) else .ofNat m
  | .negSucc m => k.wrap (.negSucc m)
theorem wrapF_eq (k : IntKind) (n : Int) : wrapF k n = k.wrap n := by
  cases n with
  | negSucc m => rfl
  | ofNat m =>
    simp only [wrapF]
    cases hb : Nat.ble (lim k) m
    · have hlt : m < lim k := by
        rcases Nat.lt_or_ge m (lim k) with h | h
        · exact h
        · rw [Nat.ble_eq_true_of_le h] at hb; cases hb
      simp only [cond_false]
      cases k <;> simp only [lim] at hlt <;> simp only [IntKind.wrap, IntKind.bits, IntKind.signed, Int.ofNat_eq_natCast, Bool.true_and, Bool.false_and, Bool.false_eq_true, if_false, decide_eq_true_eq, ge_iff_le] <;> (try split) <;> omega
    · rfl
def binIntF (op : BinOp) (k : IntKind) (a b : Int) : Option AV :=
  match op with
  | .add => some (.int k (wrapF k (a + b)))
  | .sub => some (.int k (wrapF k (a - b)))
  | .mul => some (.int k (wrapF k (a * b)))
  | op => binInt op k a b
theorem binIntF_eq (op : BinOp) (k : IntKind) (a b : Int) : binIntF op k a b = binInt op k a b := by
  cases op <;> simp only [binIntF, binInt, wrapF_eq]
def binopF (op : BinOp) (x y : AV) : Option AV :=
  match x, y with
  | .int k a, .int k' b => match op with
    | .shl => binop .shl (.int k a) (.int k' b)
    | .shr => binop .shr (.int k a) (.int k' b)
    | op => bif k == k' then binIntF op k a b else none
  | x, y => binop op x y
theorem binopF_eq (op : BinOp) (x y : AV) : binopF op x y = binop op x y := by
  unfold binopF
  split
  · cases op <;> simp only [binop, binIntF_eq]
  · rfl
def aop_move (e : Env) (x : Operand) : Option Eff :=
  match evS e x with
    | some s => some { val := s, rd := ptrKey s }
    | none => none
def aop_pick (e : Env) (c : Operand) (a : Operand) (b : Operand) : Option Eff :=
  match evA e c, evA e a, evA e b with
    | some (.bool t), some x, some y => some { val := .v (if t then x else y) }
    | _, _, _ => none
def aop_alloc (e : Env) (nid : Id) (dst : Option Nat) (hp : Bool) (zero : List AV) : Option Eff :=
  bif hp then some { val := .v (.ptr nid 0), put := [(nid, .cells zero)], wr := [.obj nid] }
    else match dst with
      | some d => bif e.free d then some { val := .box zero, wr := [.slot d, .lead d] } else none
      | none => none
def aop_box (e : Env) (nid : Id) (dst : Option Nat) (hp : Bool) (x : Operand) : Option Eff :=
  match evA e x with
    | some a =>
      bif hp then some { val := .v (.ptr nid 0), put := [(nid, .cells (cellsOf a))], wr := [.obj nid] }
      else match dst with
        | some d => bif e.free d then some { val := .box (cellsOf a), wr := [.slot d, .lead d] } else none
        | none => none
    | none => none
def aop_build (e : Env) (zero : List AV) (parts : List (Nat × Nat × Operand)) : Option Eff :=
  match evParts e parts with
    | some l => match fill zero l with
      | some cs => some { val := .v (.agg cs) }
      | none => none
    | none => none
def aop_bslice (e : Env) (nid : Id) (zero : List AV) (len : Nat) (esz : Nat) (parts : List (Nat × Operand)) : Option Eff :=
  match evElems e esz parts with
    | some l => match fill (rep len zero) l with
      | some cs => some { val := .v (.slice nid 0 len esz true), put := [(nid, .cells cs)], wr := [.obj nid] }
      | none => none
    | none => none
def aop_load (e : Env) (h : Heap) (n : Option Nat) (x : Operand) : Option Eff :=
  match evS e x with
    | some p => match readAt e h p (width n) with
      | some (l, rd) => match shut n l with
        | some a => some { val := .v a, rd }
        | none => none
      | none => none
    | none => none
def aop_store (e : Env) (h : Heap) (n : Nat) (x : Operand) (y : Operand) : Option Eff :=
  match evS e x, evA e y with
    | some p, some a => bif !((cellsOf a).length == n) || !(ones (cellsOf a)) then none else
      match p with
      | .lptr s off => match e.get s with
        | some (.box cs) => match upd cs off (cellsOf a) with
          | some cs' => some { val := .v (.tuple []), box := some (s, cs'), rd := [.slot s], wr := [.slot s] }
          | none => none
        | _ => none
      | .v (.ptr o off) => match h.get o with
        | some (.cells cs) => match upd cs off (cellsOf a) with
          | some cs' => some { val := .v (.tuple []), put := [(o, .cells cs')], rd := [.obj o], wr := [.obj o] }
          | none => none
        | _ => none
      | _ => none
    | _, _ => none
def aop_nilck (e : Env) (x : Operand) : Option Eff :=
  match evS e x with
    | some p => bif notNil p then some { val := p, rd := ptrKey p } else none
    | none => none
def aop_bin (e : Env) (op : BinOp) (x : Operand) (y : Operand) : Option Eff :=
  match evA e x, evA e y with
    | some a, some b => match binopF op a b with
      | some r => some { val := .v r }
      | none => none
    | _, _ => none
def aop_eqv (e : Env) (neq : Bool) (k : EK) (x : Operand) (y : Operand) : Option Eff :=
  match evA e x, evA e y with
    | some a, some b => match eqv k a b with
      | some r => some { val := .v (.bool (bif neq then !r else r)) }
      | none => none
    | _, _ => none
def aop_un (e : Env) (op : UnOp) (x : Operand) : Option Eff :=
  match evA e x with
    | some a => match unop op a with
      | some r => some { val := .v r }
      | none => none
    | none => none
def aop_cvt (e : Env) (nid : Id) (c : CV) (x : Operand) : Option Eff :=
  match c, evA e x with
    | .int k, some (.int _ n) => some { val := .v (.int k (wrapF k n)) }
    | .same, some (.str s) => some { val := .v (.str s) }
    | .toBytes _, some (.str s) => bif !(Nat.ble s.size 9223372036854775807) then none else some { val := .v (.slice nid 0 s.size 1 false), put := [(nid, .cells (s.data.toList.map fun b => .int .u8 b.toNat))], wr := [.obj nid] }
    | _, _ => none
def aop_mkfn (e : Env) (fn : Fn) (first : List Operand) (captured : List Operand) : Option Eff :=
  match evAs e first, evAs e captured with
    | some l, some l' => some { val := .v (.func fn l l') }
    | _, _ => none
def aop_mkmap (nid : Id) : Option Eff :=
  some { val := .v (.map nid), put := [(nid, .map [] [] [] 0)], wr := [.obj nid] }
def aop_mkslice (e : Env) (nid : Id) (zero : List AV) (bytes : Nat) (l : Operand) (c : Operand) : Option Eff :=
  match evA e l, evA e c with
    | some (.int .i64 n), some (.int .i64 m) => bif decide (0 ≤ n) && decide (n ≤ m) && decide (m * (bytes : Int) ≤ 140737488355328) then
        some { val := .v (.slice nid 0 n.toNat zero.length (n == m)), put := [(nid, .cells (rep n.toNat zero))], wr := [.obj nid] } else none
    | _, _ => none
def aop_slc (e : Env) (esz : Option Nat) (x : Operand) (lo : Option Operand) (hi : Option Operand) (mx : Option Operand) : Option Eff :=
  match evA e x with
    | some a => match slcOf e esz a lo hi mx with
      | some r => some { val := .v r }
      | none => none
    | none => none
def aop_faddr (e : Env) (off : Nat) (x : Operand) : Option Eff :=
  match evS e x with
    | some p => match shiftP off p with
      | some q => some { val := q, rd := ptrKey q }
      | none => none
    | none => none
def aop_fld (e : Env) (off : Nat) (n : Option Nat) (x : Operand) : Option Eff :=
  match evA e x with
    | some (.agg cs) => match sub cs off (width n) with
      | some l => match shut n l with
        | some a => some { val := .v a }
        | none => none
      | none => none
    | _ => none
def aop_iaddr (e : Env) (esz : Nat) (arr : Option Nat) (x : Operand) (i : Operand) : Option Eff :=
  match arr, evS e x, asInt (evA e i) with
    | none, some (.v (.slice o co len esz' _)), some n => bif esz == esz' && decide (0 ≤ n) && decide (n < (len : Int)) then some { val := .v (.ptr o (co + n.toNat * esz)) } else none
    | none, some (.v (.pslice cs len _ _)), some n => bif decide (0 ≤ n) && decide (n < (len : Int)) then some { val := .v (.pptr cs (n.toNat * esz)) } else none
    | some len, some p, some n => bif decide (0 ≤ n) && decide (n < (len : Int)) then match shiftP (n.toNat * esz) p with
        | some q => some { val := q, rd := ptrKey q }
        | none => none
      else none
    | _, _, _ => none
def aop_idx (e : Env) (arr : Option (Nat × Nat × Option Nat)) (x : Operand) (i : Operand) : Option Eff :=
  match arr, evA e x, asInt (evA e i) with
    | none, some (.str s), some n => bif decide (0 ≤ n) then match s[n.toNat]? with
        | some b => some { val := .v (.int .u8 b.toNat) }
        | none => none
      else none
    | some (len, esz, n'), some (.agg cs), some n => bif decide (0 ≤ n) && decide (n < (len : Int)) then match sub cs (n.toNat * esz) (width n') with
        | some l => match shut n' l with
          | some a => some { val := .v a }
          | none => none
        | none => none
      else none
    | _, _, _ => none
def aop_lookup (e : Env) (h : Heap) (k : EK) (zero : AV) (x : Operand) (i : Operand) (ok : Bool) : Option Eff :=
  match evA e x, evA e i with
    | some .nilm, some i => bif fits k i then some { val := .v (bif ok then .tuple [zero, .bool false] else zero) } else none
    | some (.pmap ks vs), some i => lookupIn k zero i ks vs ok []
    | some (.map o), some i => match h.get o with
      | some (.map ks vs _ _) => lookupIn k zero i ks vs ok [.obj o]
      | _ => none
    | _, _ => none
def aop_mapup (e : Env) (h : Heap) (k : EK) (m : Operand) (i : Operand) (x : Operand) : Option Eff :=
  match evA e m, evA e i, evA e x with
    | some (.map o), some i, some v => match h.get o with
      | some (.map ks vs born clock) => match mapIx k i ks with
        | some (some j) => some { val := .v (.tuple []), put := [(o, .map ks (vs.set j v) born clock)], rd := [.obj o], wr := [.obj o] }
        | some none => some { val := .v (.tuple []), put := [(o, .map (ks ++ [i]) (vs ++ [v]) (born ++ [clock]) (clock + 1))], rd := [.obj o], wr := [.obj o] }
        | none => none
      | _ => none
    | _, _, _ => none
def aop_ext (e : Env) (x : Operand) (i : Nat) : Option Eff :=
  match evA e x with
    | some (.tuple l) => match l[i]? with
      | some a => some { val := .v a }
      | none => none
    | _ => none
def aop_len (e : Env) (h : Heap) (k : LK) (x : Operand) : Option Eff :=
  match k, evA e x with
    | .str, some (.str s) => some { val := .v (.int .i64 s.size) }
    | .slice, some .nils => some { val := .v (.int .i64 0) }
    | .slice, some (.slice _ _ n _ _) => some { val := .v (.int .i64 n) }
    | .slice, some (.pslice _ n _ _) => some { val := .v (.int .i64 n) }
    | .map, some .nilm => some { val := .v (.int .i64 0) }
    | .map, some (.map o) => match h.get o with
      | some (.map ks _ _ _) => some { val := .v (.int .i64 ks.length), rd := [.obj o] }
      | _ => none
    | .arr n, _ => some { val := .v (.int .i64 n) }
    | _, _ => none
def aop_append (e : Env) (h : Heap) (nid : Id) (esz : Nat) (bytes : Nat) (s : Operand) (x : Operand) : Option Eff :=
  match evA e s, evA e x with
    | some a, some b => match elems esz h b with
      | some (new, n, rd) => appendTo h nid esz bytes a new n rd
      | none => none
    | _, _ => none
def aop_mm (e : Env) (mx : Bool) (x : Operand) (r : List Operand) : Option Eff :=
  match evA e x, evAs e r with
    | some a, some l => match mms mx a l with
      | some v => some { val := .v v }
      | none => none
    | _, _ => none
/-- The same, in parts (so that the kernel holds little at a time). -/
def aopF (e : Env) (h : Heap) (nid : Id) (dst : Option Nat) : VOp → Option Eff
  | .move x => aop_move e x
  | .pick c a b => aop_pick e c a b
  | .alloc hp zero => aop_alloc e nid dst hp zero
  | .box hp x => aop_box e nid dst hp x
  | .build zero parts => aop_build e zero parts
  | .bslice zero len esz parts => aop_bslice e nid zero len esz parts
  | .load n x => aop_load e h n x
  | .store n x y => aop_store e h n x y
  | .nilck x => aop_nilck e x
  | .bin op x y => aop_bin e op x y
  | .eqv neq k x y => aop_eqv e neq k x y
  | .un op x => aop_un e op x
  | .cvt c x => aop_cvt e nid c x
  | .mkfn fn first captured => aop_mkfn e fn first captured
  | .mkmap => aop_mkmap nid
  | .mkslice zero bytes l c => aop_mkslice e nid zero bytes l c
  | .slc esz x lo hi mx => aop_slc e esz x lo hi mx
  | .faddr off x => aop_faddr e off x
  | .fld off n x => aop_fld e off n x
  | .iaddr esz arr x i => aop_iaddr e esz arr x i
  | .idx arr x i => aop_idx e arr x i
  | .lookup k zero x i ok => aop_lookup e h k zero x i ok
  | .mapup k m i x => aop_mapup e h k m i x
  | .ext x i => aop_ext e x i
  | .len k x => aop_len e h k x
  | .append esz bytes s x => aop_append e h nid esz bytes s x
  | .mm mx x r => aop_mm e mx x r
  | .call .. | .callv .. => none
theorem aopF_eq (e : Env) (h : Heap) (nid : Id) (dst : Option Nat) (op : VOp) : aopF e h nid dst op = aop e h nid dst op := by
  cases op with
  | bin op x y => simp only [aopF, aop, aop_bin, binopF_eq]
  | cvt c x => simp only [aopF, aop, aop_cvt, wrapF_eq]
  | _ => rfl

end
end Go.AM

/- AM, part 2: calls, regions, code: the run. -/
namespace Go.AM
noncomputable section
set_option linter.unusedVariables false

def mapO (f : AV → Option AV) : List AV → Option (List AV)
  | [] => some []
  | a :: r => match f a, mapO f r with
    | some b, some l => some (b :: l)
    | _, _ => none

/-- A value with all that it leads to: nobody writes that any more. -/
def pur : Nat → Heap → AV → Option AV
  | 0, _, _ => none
  | k + 1, h, a => match a with
    | .ptr o off => match h.get o with
      | some (.cells cs) => match mapO (pur k h) cs with
        | some l => some (.pptr l off)
        | none => none
      | _ => none
    | .slice o co len esz clip => match h.get o with
      | some (.cells cs) => match sub cs co (len * esz) with
        | some l => match mapO (pur k h) l with
          | some l => some (.pslice l len esz clip)
          | none => none
        | none => none
      | _ => none
    | .map o => match h.get o with
      | some (.map ks vs _ _) => match mapO (pur k h) ks, mapO (pur k h) vs with
        | some l, some l' => some (.pmap l l')
        | _, _ => none
      | _ => none
    | .agg cs => match mapO (pur k h) cs with
      | some l => some (.agg l)
      | none => none
    | .tuple cs => match mapO (pur k h) cs with
      | some l => some (.tuple l)
      | none => none
    | .func fn x y => match mapO (pur k h) x, mapO (pur k h) y with
      | some l, some l' => some (.func fn l l')
      | _, _ => none
    | .nils => some (.pslice [] 0 0 true)
    | a => some a

def purLimit : Nat := 40

mutual
/-- Does it lead nowhere? -/
def AV.scal : AV → Bool
  | .bool _ | .int .. | .str _ | .nilp | .nils | .nilm | .nilf => true
  | .agg cs => scals cs
  | .tuple cs => scals cs
  | _ => false
def scals : List AV → Bool
  | [] => true
  | a :: r => a.scal && scals r
/-- Does it lead to no object of the heap? -/
def AV.still : AV → Bool
  | .ptr .. | .slice .. | .map _ | .junk => false
  | .agg cs => stills cs
  | .tuple cs => stills cs
  | .func _ x y => stills x && stills y
  | _ => true
def stills : List AV → Bool
  | [] => true
  | a :: r => a.still && stills r
end

structure St where
  env : Env
  heap : Heap
  next : Nat
  deriving Inhabited

def Heap.puts : Heap → List (Id × AObj) → Heap
  | h, [] => h
  | h, (i, o) :: r => Heap.puts (h.put i o) r

def Env.putO (e : Env) (dst : Option Nat) (v : SV) : Env :=
  match dst with
  | some d => e.put d v
  | none => e

def St.eff (s : St) (dst : Option Nat) (e : Eff) : St :=
  let env := match e.box with
    | some (t, cs) => s.env.put t (.box cs)
    | none => s.env
  { env := env.putO dst e.val
    heap := (match e.del with
      | some o => s.heap.del o
      | none => s.heap).puts e.put
    next := s.next }

abbrev CallF := FuncId → List AV → Heap → Nat → Option (AV × Heap × Nat)

/-- A call by its mode: the result, the heap, the next number. -/
def callM (call : CallF) (mode : Mode) (nid : Id) (f : FuncId) (args : List AV) (h : Heap) (next : Nat) : Option (AV × Heap × Nat) :=
  match mode with
  | .eff => call f args h next
  | .pure => bif stills args then match call f args Heap.empty 0 with
      | some (r, h', _) => match pur purLimit h' r with
        | some a => some (a, h, next)
        | none => none
      | none => none
    else none
  | .view => match mapO (pur purLimit h) args with
    | some l => match call f l Heap.empty 0 with
      | some (r, h', _) => match pur purLimit h' r with
        | some a => bif a.scal then some (a, h, next) else none
        | none => none
      | none => none
    | none => none
  | .fresh => bif stills args then match call f args Heap.empty 0 with
      | some (.nils, _, _) => some (.nils, h, next)
      | some (.slice o 0 len esz clip, h', _) => match h'.get o with
        | some (.cells cs) => match mapO (pur purLimit (h'.del o)) cs with
          | some l => some (.slice nid 0 len esz clip, h.put nid (.cells l), next)
          | none => none
        | _ => none
      | _ => none
    else none
  | .vfresh => match mapO (pur purLimit h) args with
    | some l => match call f l Heap.empty 0 with
      | some (.nils, _, _) => some (.nils, h, next)
      | some (.slice o 0 len esz clip, h', _) => match h'.get o with
        | some (.cells cs) => match mapO (pur purLimit (h'.del o)) cs with
          | some l => bif scals l then some (.slice nid 0 len esz clip, h.put nid (.cells l), next) else none
          | none => none
        | _ => none
      | _ => none
    | none => none

/-- The function that a value calls, and its arguments. -/
def target (e : Env) (g : Operand) (args : List AV) : Option (FuncId × List AV) :=
  match evA e g with
  | some (.func (.func f) first captured) => some (f, first ++ args ++ captured)
  | _ => none

def wantedA (e : Env) : Option (Nat × Bool) → Option Bool
  | none => some true
  | some (t, want) => match e.get t with
    | some (.v (.bool b)) => some (b == want)
    | some (.v (.tuple [])) => some false
    | _ => none

def putDst (s : St) (dst : Option Nat) (v : SV) : St := { s with env := s.env.putO dst v }

/-- A new variable of the function's own. -/
def VOp.own : VOp → Bool
  | .alloc hp _ => !hp
  | .box hp _ => !hp
  | _ => false
def skipWr (o : VO) : List Key :=
  match o.op.own, o.dst with
  | true, some d => [.slot d, .lead d]
  | _, _ => []

/-- What an operation touches: read, and written. -/
abbrev Foot := List Key × List Key

/-- The objects that a value leads to. -/
def flatK (f : AV → List Key) : List AV → List Key
  | [] => []
  | a :: r => f a ++ flatK f r
def purK : Nat → Heap → AV → List Key
  | 0, _, _ => []
  | k + 1, h, a => match a with
    | .ptr o _ => .obj o :: (match h.get o with
      | some (.cells cs) => flatK (purK k h) cs
      | _ => [])
    | .slice o co len esz _ => .obj o :: (match h.get o with
      | some (.cells cs) => match sub cs co (len * esz) with
        | some l => flatK (purK k h) l
        | none => []
      | _ => [])
    | .map o => .obj o :: (match h.get o with
      | some (.map ks vs _ _) => flatK (purK k h) ks ++ flatK (purK k h) vs
      | _ => [])
    | .agg cs => flatK (purK k h) cs
    | .tuple cs => flatK (purK k h) cs
    | .func _ x y => flatK (purK k h) x ++ flatK (purK k h) y
    | _ => []

/-- One operation: the state behind it, and what it touches. -/
def step1 (call : CallF) (nid : Id) (o : VO) (s : St) : Option (St × Foot) :=
  match wantedA s.env o.guard with
  | some false => some (putDst s o.dst (.v (.tuple [])), ([], skipWr o))
  | none => none
  | some true => match o.op with
    | .call f args => match evAs s.env args with
      | some l => match callM call o.mode nid f l s.heap s.next with
        | some (r, h, n) => some ({ env := (putDst s o.dst (.v r)).env, heap := h, next := n }, match o.mode with
          | .eff => ([.heap], [.heap])
          | .pure => ([], [])
          | .view => (flatK (purK purLimit s.heap) l, [])
          | .fresh => ([], [.obj nid])
          | .vfresh => (flatK (purK purLimit s.heap) l, [.obj nid]))
        | none => none
      | none => none
    | .callv g args => match evAs s.env args with
      | some l => match target s.env g l with
        | some (f, l) => match call f l s.heap s.next with
          | some (r, h, n) => some ({ env := (putDst s o.dst (.v r)).env, heap := h, next := n }, ([.heap], [.heap]))
          | none => none
        | none => none
      | none => none
    | op => match aop s.env s.heap nid o.dst op with
      | some e => some (s.eff o.dst e, (e.rd, e.wr))
      | none => none

def meets (xs ys : List Key) : Bool := xs.any fun x => ys.any fun y => x.meet y
def clash (a b : Foot) : Bool := meets a.2 b.1 || meets a.2 b.2 || meets a.1 b.2
/-- Does what an operation touches clash with that of an elder one with which it isn't ordered? -/
def clashes (un : List (Nat × Nat)) (j : Nat) (f : Foot) : List (Nat × Foot) → Bool
  | [] => false
  | (i, g) :: r => (un.any (fun p => p.1 == i && p.2 == j) && clash g f) || clashes un j f r

/-- A region, in the order of the text. -/
def runL (call : CallF) (nr : Nat) : Nat → List VO → St → Option St
  | _, [], s => some s
  | i, o :: r, s => match step1 call (nr, i) o s with
    | some (s', _) => runL call nr (i + 1) r s'
    | none => none
/-- Nothing leads to what will be a variable's slot; no variable lies where a value will be put. -/
def startOk (e : Env) (o : VO) : Bool :=
  match o.dst with
  | none => true
  | some d => bif o.op.own then e.free d else match e.get d with
    | some (.box _) => false
    | _ => true
def led (o : VO) (log : List (Nat × Foot)) : Bool :=
  match o.op.own, o.dst with
  | true, some d => log.any fun p => p.2.1.any fun k => k.meet (.lead d)
  | _, _ => false
def runD (call : CallF) (nr : Nat) (un : List (Nat × Nat)) (e0 : Env) : Nat → List (Nat × Foot) → List VO → St → Option St
  | _, _, [], s => some s
  | i, log, o :: r, s => match step1 call (nr, i) o s with
    | some (s', f) => bif clashes un i f log || !(startOk e0 o) || led o log then none else runD call nr un e0 (i + 1) ((i, f) :: log) r s'
    | none => none

inductive Item where
  | code (c : VC)
  | inBlock (id : Nat)
  | inLoop (ks : List Nat) (c : VC)

def exitTo (id : Nat) : List Item → Option (List Item)
  | .inBlock j :: k => bif j == id then some k else exitTo id k
  | _ :: k => exitTo id k
  | [] => none

def readRes (e : Env) (h : Heap) : RK → Option AV
  | .tmp t => evA e (.tmp t)
  | .cell t n => match evS e (.tmp t) with
    | some p => match readAt e h p (width n) with
      | some (l, _) => shut n l
      | none => none
    | none => none
def readRess (e : Env) (h : Heap) : List RK → Option (List AV)
  | [] => some []
  | x :: r => match readRes e h x, readRess e h r with
    | some a, some l => some (a :: l)
    | _, _ => none
def theRes : List AV → AV
  | [a] => a
  | l => .tuple l
def initEnv : Nat → List AV → Env
  | _, [] => Env.empty
  | i, a :: r => (initEnv (i + 1) r).put i (.v a)

/-- The run of what is left to do, within a number of steps. -/
def run (T : FuncId → Option VFun) : Nat → List Item → St → Option St
  | 0, _, _ => none
  | k + 1, items, s => match items with
    | [] => some s
    | .inBlock _ :: t => run T k t s
    | .inLoop ks c :: t => run T k (.code c :: .inLoop ks c :: t) { s with env := s.env.kill ks }
    | .code c :: t => match c with
      | .skip => run T k t s
      | .seq a b => run T k (.code a :: .code b :: t) s
      | .cond x a b => match evA s.env x with
        | some (.bool true) => run T k (.code a :: t) s
        | some (.bool false) => run T k (.code b :: t) s
        | _ => none
      | .block id c => run T k (.code c :: .inBlock id :: t) s
      | .loop ks c => run T k (.code c :: .inLoop ks c :: t) { s with env := s.env.kill ks }
      | .exit id => match exitTo id t with
        | some t' => run T k t' s
        | none => none
      | .ret => some s
      | .ops un l =>
        let call : CallF := fun f args h next => match T f with
          | some vf => bif vf.nargs == args.length then
              match run T k [.code vf.body] { env := initEnv 0 args, heap := h, next } with
              | some s' => match readRess s'.env s'.heap vf.results with
                | some l => some (theRes l, s'.heap, s'.next)
                | none => none
              | none => none
            else none
          | none => none
        let s1 : St := { s with next := s.next + 1 }
        match (match un with
          | none => runL call s.next 0 l s1
          | some un => runD call s.next un s.env 0 [] l s1) with
        | some s' => run T k t s'
        | none => none

/-- A call, within a number of steps. -/
def callT (T : FuncId → Option VFun) (k : Nat) : CallF := fun f args h next => match T f with
  | some vf => bif vf.nargs == args.length then
      match run T k [.code vf.body] { env := initEnv 0 args, heap := h, next } with
      | some s' => match readRess s'.env s'.heap vf.results with
        | some l => some (theRes l, s'.heap, s'.next)
        | none => none
      | none => none
    else none
  | none => none

end
end Go.AM

/- AM, part 3: the program's code as the abstract machine's. -/
namespace Go.AM
noncomputable section
set_option linter.unusedVariables false

/-- What is known of a type. -/
structure TI where
  desc : TypeDesc
  size : Nat
  bytes : Nat
  zero : Option Value
  flat : Option (List CK) := none
  deriving Inhabited

/-- What is chosen for a function: which new variables lie in the heap (by the slot), how calls are made (by the slot), what is forgotten at loops' heads (in the row of the text). -/
structure Ghost where
  hp : List Nat := []
  md : List (Nat × Mode) := []
  ks : List (List Nat) := []

variable (tt : TypeId → Option TI)

def aggOf (t : TypeId) : Option (Option Nat) :=
  match tt t with
  | some i => match i.desc with
    | .struct _ | .array _ _ => some (some i.size)
    | _ => bif i.size == 1 then some none else none
  | none => none
def ckOf (t : TypeId) : Option CK :=
  match tt t with
  | some i => match i.desc with
    | .int k => some (.int k)
    | .string => some .str
    | .bool => some .bool
    | _ => none
  | none => none
def ekOf (t : TypeId) : Option EK :=
  match ckOf tt t with
  | some c => some (.one c)
  | none => match tt t with
    | some i => match i.flat with
      | some l => some (.flat l)
      | none => match i.desc with
        | .slice _ => some .nilSlice
        | .map _ _ => some .nilMap
        | .pointer _ => some .ptr
        | .func .. => some .func
        | _ => none
    | none => none
def keyOf (t : TypeId) : Option EK :=
  match ekOf tt t with
  | some (.one c) => some (.one c)
  | some (.flat l) => some (.flat l)
  | _ => none
def sliceElem (t : TypeId) : Option (TypeId × TI) :=
  match tt t with
  | some i => match i.desc with
    | .slice e => match tt e with
      | some j => some (e, j)
      | none => none
    | _ => none
  | none => none
def partsOf (fs : Array Field) : List (Nat × Operand) → Option (List (Nat × Nat × Operand))
  | [] => some []
  | (i, x) :: r => match fs[i]?, partsOf fs r with
    | some f, some l => match tt f.type with
      | some j => some ((f.offset, j.size, x) :: l)
      | none => none
    | _, _ => none

def stripOp (hp : Bool) (o : Oper) : Option VOp :=
  match o.op with
  | .move x | .assign x => some (.move x)
  | .pick c a b => some (.pick c a b)
  | .alloc t => match tt t with
    | some i => match i.zero.bind ofZero with
      | some z => some (.alloc hp z)
      | none => none
    | none => none
  | .box _ x => some (.box hp x)
  | .build t parts => match tt t with
    | some i => match i.desc, i.zero.bind ofZero with
      | .struct fs, some z => match partsOf tt fs parts.toList with
        | some l => bif fs.toList.all (fun f => (tt f.type).isSome) then some (.build z l) else none
        | none => none
      | .array _ e, some z => match tt e with
        | some j => some (.build z (parts.toList.map fun p => (p.1 * j.size, j.size, p.2)))
        | none => none
      | _, _ => none
    | none => none
  | .buildSlice t len parts => match sliceElem tt t with
    | some (_, j) => match j.zero.bind ofZero with
      | some z => bif z.length == j.size && Nat.ble (len * j.size) 16777216 && Nat.ble 1 j.size then some (.bslice z len j.size parts.toList) else none
      | none => none
    | none => none
  | .load t x => match aggOf tt t with
    | some n => some (.load n x)
    | none => none
  | .store t x y => match tt t with
    | some i => some (.store i.size x y)
    | none => none
  | .nilCheck x => some (.nilck x)
  | .binOp op t x y _ => match op with
    | .eql => match ekOf tt t with
      | some k => some (.eqv false k x y)
      | none => none
    | .neq => match ekOf tt t with
      | some k => some (.eqv true k x y)
      | none => none
    | op => some (.bin op x y)
  | .unOp op _ x => some (.un op x)
  | .convert a b x => match tt a, tt b with
    | some i, some j => match i.desc, j.desc with
      | .int _, .int k => some (.cvt (.int k) x)
      | .string, .string => some (.cvt .same x)
      | .string, .slice e => match ckOf tt e with
        | some (.int .u8) => some (.cvt (.toBytes e) x)
        | _ => none
      | _, _ => none
    | _, _ => none
  | .makeFunc fn x y => some (.mkfn fn x.toList y.toList)
  | .makeMap t none => some .mkmap
  | .makeSlice t l c => match sliceElem tt t with
    | some (_, j) => match j.zero.bind ofZero with
      | some z => bif z.length == j.size && Nat.ble 1 j.bytes then some (.mkslice z j.bytes l c) else none
      | none => none
    | none => none
  | .slice t x lo hi mx => match tt t with
    | some i => match i.desc with
      | .string => some (.slc none x lo hi mx)
      | .slice e => match tt e with
        | some j => some (.slc (some j.size) x lo hi mx)
        | none => none
      | _ => none
    | none => none
  | .fieldAddr t x f => match tt t with
    | some i => match i.desc with
      | .struct fs => match fs[f]? with
        | some g => match tt g.type with
          | some j => bif j.size == 0 then none else some (.faddr g.offset x)
          | none => none
        | none => none
      | _ => none
    | none => none
  | .field t x f => match tt t with
    | some i => match i.desc with
      | .struct fs => match fs[f]? with
        | some g => match aggOf tt g.type with
          | some n => some (.fld g.offset n x)
          | none => none
        | none => none
      | _ => none
    | none => none
  | .indexAddr t x i => match tt t with
    | some ti => match ti.desc with
      | .slice e => match tt e with
        | some j => some (.iaddr j.size none x i)
        | none => none
      | .array n e => match tt e with
        | some j => some (.iaddr j.size (some n) x i)
        | none => none
      | _ => none
    | none => none
  | .index t x i => match tt t with
    | some ti => match ti.desc with
      | .string => some (.idx none x i)
      | .array n e => match tt e, aggOf tt e with
        | some j, some m => some (.idx (some (n, j.size, m)) x i)
        | _, _ => none
      | _ => none
    | none => none
  | .lookup t x i ok => match tt t with
    | some ti => match ti.desc with
      | .map k e => match keyOf tt k, tt e with
        | some kk, some j => match j.zero with
          | some (.agg cs) => match ofVs cs.toList with
            | some z => some (.lookup kk (.agg z) x i ok)
            | none => none
          | some v => match ofV v with
            | some z => some (.lookup kk z x i ok)
            | none => none
          | none => none
        | _, _ => none
      | _ => none
    | none => none
  | .mapUpdate t m i x | .insert t m i x => match tt t with
    | some ti => match ti.desc with
      | .map k _ => match keyOf tt k with
        | some kk => some (.mapup kk m i x)
        | none => none
      | _ => none
    | none => none
  | .extract x i => some (.ext x i)
  | .call c => match c.callee with
    | .builtin .len => match c.argTypes.toList, c.args.toList with
      | [t], [x] => match tt t with
        | some i => match i.desc with
          | .string => some (.len .str x)
          | .slice _ => some (.len .slice x)
          | .map _ _ => some (.len .map x)
          | .array n _ => some (.len (.arr n) x)
          | _ => none
        | none => none
      | _, _ => none
    | .builtin .append => match c.argTypes.toList, c.args.toList with
      | [t, u], [s, x] => match sliceElem tt t with
        | some (_, j) => match j.zero with
          | some z => bif t == u && z.cells.size == j.size && Nat.ble 1 j.size && Nat.ble 1 j.bytes then some (.append j.size j.bytes s x) else none
          | none => none
        | none => none
      | _, _ => none
    | .builtin .max => match c.args.toList with
      | x :: r => some (.mm true x r)
      | [] => none
    | .builtin .min => match c.args.toList with
      | x :: r => some (.mm false x r)
      | [] => none
    | .value (.func f) => some (.call f c.args.toList)
    | .value g => some (.callv g c.args.toList)
    | _ => none
  | _ => none

/-- How much an operation may touch memory: 0 not at all, 1 it reads, 2 it writes. -/
def touch (o : VO) : Nat :=
  match o.op with
  | .move _ | .faddr .. | .nilck _ => 0
  | .pick .. | .build .. | .bin .. | .eqv .. | .un .. | .mkfn .. | .slc .. | .fld .. | .iaddr .. | .idx .. | .ext .. | .mm .. => 0
  | .cvt (.toBytes _) _ => 2
  | .cvt .. => 0
  | .load .. | .lookup .. | .len .map _ => 1
  | .len .. => 0
  | .call .. => match o.mode with
    | .pure => 0
    | .view => 1
    | _ => 2
  | _ => 2

/-- May it hand on a pointer? -/
def hands (o : VO) : Bool :=
  match o.op with
  | .move _ | .faddr .. | .nilck _ => true
  | .iaddr _ arr _ _ => arr.isSome
  | _ => false
def operandTmps : Operand → List Nat
  | .tmp t => [t]
  | _ => []
def optTmps : Option Operand → List Nat
  | some x => operandTmps x
  | none => []
/-- The slots that an operation looks at. -/
def VOp.looks : VOp → List Nat
  | .move x => operandTmps x
  | .pick c a b => operandTmps c ++ operandTmps a ++ operandTmps b
  | .alloc .. => []
  | .box _ x => operandTmps x
  | .build _ ps => ps.flatMap fun p => operandTmps p.2.2
  | .bslice _ _ _ ps => ps.flatMap fun p => operandTmps p.2
  | .load _ x => operandTmps x
  | .store _ x y => operandTmps x ++ operandTmps y
  | .nilck x => operandTmps x
  | .bin _ x y => operandTmps x ++ operandTmps y
  | .eqv _ _ x y => operandTmps x ++ operandTmps y
  | .un _ x => operandTmps x
  | .cvt _ x => operandTmps x
  | .mkfn _ a b => a.flatMap operandTmps ++ b.flatMap operandTmps
  | .mkmap => []
  | .mkslice _ _ l c => operandTmps l ++ operandTmps c
  | .slc _ x lo hi mx => operandTmps x ++ optTmps lo ++ optTmps hi ++ optTmps mx
  | .faddr _ x => operandTmps x
  | .fld _ _ x => operandTmps x
  | .iaddr _ _ x i => operandTmps x ++ operandTmps i
  | .idx _ x i => operandTmps x ++ operandTmps i
  | .lookup _ _ x i _ => operandTmps x ++ operandTmps i
  | .mapup _ m i x => operandTmps m ++ operandTmps i ++ operandTmps x
  | .ext x _ => operandTmps x
  | .len _ x => operandTmps x
  | .append _ _ s x => operandTmps s ++ operandTmps x
  | .mm _ x r => operandTmps x ++ r.flatMap operandTmps
  | .call _ args => args.flatMap operandTmps
  | .callv g args => operandTmps g ++ args.flatMap operandTmps
def VO.looks (o : VO) : List Nat :=
  o.op.looks ++ match o.guard with
    | some (d, _) => [d]
    | none => []
/-- All that stands ahead of each operation, in every order. -/
def preds (ops : List Oper) : List (List Nat) :=
  ops.foldl (init := []) fun acc o =>
    acc ++ [o.after.toList.foldl (fun s e => if Region.binds .any e then e.on :: ((acc.getD e.on []) ++ s) else s) []]
def pairs (n : Nat) : List (Nat × Nat) := (List.range n).flatMap fun j => (List.range j).map fun i => (i, j)

def stripRow (g : Ghost) (ops : Array Oper) (o : Oper) : Option VO :=
  let hp := match o.dst with
    | some d => g.hp.contains d
    | none => false
  let gd : Option (Option (Nat × Bool)) := match o.guard with
    | none => some none
    | some (j, want) => match (ops[j]?).bind (·.dst) with
      | some d => some (some (d, want))
      | none => none
  match stripOp tt hp o, gd with
  | some op, some guard => some { dst := o.dst, guard, op, mode := match o.dst with
    | some d => ((g.md.find? (·.1 == d)).map (·.2)).getD .eff
    | none => .eff }
  | _, _ => none
def stripRows (g : Ghost) (ops : Array Oper) : List Oper → Option (List VO)
  | [] => some []
  | o :: r => match stripRow tt g ops o, stripRows g ops r with
    | some v, some l => some (v :: l)
    | _, _ => none

/-- The pairs of operations that no edge orders. -/
def loose (ops : Array Oper) : List (Nat × Nat) :=
  let ps := preds ops.toList
  (pairs ops.size).filter fun p => !((ps.getD p.2 []).contains p.1)
/-- Do they leave each other's slots alone? -/
def VO.apart (x y : VO) : Bool :=
  match x.dst with
  | some d => !(y.looks.contains d) && !(y.dst == some d)
  | none => true
/-- Must it be looked at, what the two touch? -/
def heed (x y : VO) : Bool :=
  (touch x == 2 && !(touch y == 0)) || (touch y == 2 && !(touch x == 0)) || (x.op.own && hands y) || (y.op.own && hands x)
def edgesOk (p : Oper × Nat) : Bool := p.1.after.toList.all fun e => Nat.blt e.on p.2 || !Region.binds .any e
def pairApart (l : List VO) (p : Nat × Nat) : Bool :=
  match l[p.1]?, l[p.2]? with
  | some x, some y => x.apart y && y.apart x
  | _, _ => false
def pairHeed (l : List VO) (p : Nat × Nat) : Bool :=
  match l[p.1]?, l[p.2]? with
  | some x, some y => heed x y
  | _, _ => true
def ownClash (x y : VO) : Bool := x.op.own && !y.op.own && x.dst.isSome && x.dst == y.dst
/-- In a region that draws: which pairs are to be looked at; none: it is not served. -/
def drawn (ops : Array Oper) (l : List VO) : Option (List (Nat × Nat)) :=
  let un := loose ops
  bif ops.toList.zipIdx.all edgesOk && un.all (pairApart l) && l.all (fun x => l.all fun y => !(ownClash x y)) then some (un.filter (pairHeed l)) else none

def dstIn (n : Nat) (o : Oper) : Bool :=
  match o.dst with
  | some d => Nat.blt d n
  | none => true
def stripC (g : Ghost) (ntmps : Nat) : Code → List (List Nat) → Option (VC × List (List Nat))
  | .skip, ks => some (.skip, ks)
  | .ret, ks => some (.ret, ks)
  | .exit id, ks => some (.exit id, ks)
  | .region _ ops draw, ks => match stripRows tt g ops ops.toList with
    | some l => bif ops.toList.all (dstIn ntmps) then match draw with
        | false => some (.ops none l, ks)
        | true => match drawn ops l with
          | some un => some (.ops (some un) l, ks)
          | none => none
      else none
    | none => none
  | .seq a b, ks => match stripC g ntmps a ks with
    | some (x, ks) => match stripC g ntmps b ks with
      | some (y, ks) => some (.seq x y, ks)
      | none => none
    | none => none
  | .cond c a b, ks => match stripC g ntmps a ks with
    | some (x, ks) => match stripC g ntmps b ks with
      | some (y, ks) => some (.cond c x y, ks)
      | none => none
    | none => none
  | .block id a, ks => match stripC g ntmps a ks with
    | some (x, ks) => some (.block id x, ks)
    | none => none
  | .loop a, k :: ks => match stripC g ntmps a ks with
    | some (x, ks) => some (.loop k x, ks)
    | none => none
  | _, _ => none

def resOf : List ResultVar → Option (List RK)
  | [] => some []
  | .tmp t :: r => match resOf r with
    | some l => some (.tmp t :: l)
    | none => none
  | .cell a t :: r => match aggOf tt t, resOf r with
    | some n, some l => some (.cell a n :: l)
    | _, _ => none

def stripF (g : Ghost) (fn : Func) : Option VFun :=
  match fn.body with
  | some c => match stripC tt g fn.ntmps c g.ks, resOf tt fn.results.toList with
    | some (b, []), some rs => bif Nat.ble (fn.params.size + fn.nfree) fn.ntmps then some { nargs := fn.params.size + fn.nfree, ntmps := fn.ntmps, results := rs, body := b } else none
    | _, _ => none
  | none => none

end
end Go.AM

/- AM, part 4: what an abstract value, object, state tells of the machine's. -/
namespace Go.AM
noncomputable section
set_option linter.unusedVariables false

def ι0 : Id → Option Nat := fun _ => none

/-- 'F': the blocks that nobody writes any more; 'ι': where the heap's objects lie. -/
inductive RV (F : Nat → Prop) (w : World) : (Id → Option Nat) → AV → Value → Prop
  | junk (ι c) : RV F w ι .junk c
  | bool (ι b) : RV F w ι (.bool b) (.bool b)
  | int (ι k n) : RV F w ι (.int k n) (.int k n)
  | str (ι s) : RV F w ι (.str s) (.string s)
  | nilp (ι) : RV F w ι .nilp (.pointer none)
  | ptr (ι o off b) : ι o = some b → RV F w ι (.ptr o off) (.pointer (some ⟨b, off, none⟩))
  | pptr (ι) (cs : List AV) (off b base : Nat) (cv : Nat → Value) : F b → (∀ (j : Nat) (u : AV), cs[j]? = some u → w.cell? ⟨b, base + j, none⟩ = some (cv j)) →
      (∀ (j : Nat) (u : AV), cs[j]? = some u → RV F w ι0 u (cv j)) → RV F w ι (.pptr cs off) (.pointer (some ⟨b, base + off, none⟩))
  | nils (ι) : RV F w ι .nils (.slice none 0 0)
  | slice (ι o co len esz clip b cap arr ety fz) : ι o = some b → w.heap[b]? = some (.cells arr ety fz) → co + cap * esz ≤ arr.size → len ≤ cap → cap ≤ maxLen → (clip = true → cap = len) →
      RV F w ι (.slice o co len esz clip) (.slice (some ⟨b, co, none⟩) len cap)
  | pslice (ι) (cs : List AV) (len esz : Nat) (clip : Bool) (a : Option Addr) (cap b base : Nat) (cv : Nat → Value) : len ≤ cap → cap ≤ maxLen → (clip = true → cap = len) →
      (0 < len → a = some ⟨b, base, none⟩ ∧ F b) → (cs ≠ [] → 0 < len) → (∀ (j : Nat) (u : AV), cs[j]? = some u → w.cell? ⟨b, base + j, none⟩ = some (cv j)) →
      (∀ (j : Nat) (u : AV), cs[j]? = some u → RV F w ι0 u (cv j)) → RV F w ι (.pslice cs len esz clip) (.slice a len cap)
  | nilm (ι) : RV F w ι .nilm (.map none)
  | map (ι o b) : ι o = some b → RV F w ι (.map o) (.map (some b))
  | pmap (ι) (ks vs : List AV) (b : Nat) (es : Array MapEntry) (clock : Nat) : F b → w.heap[b]? = some (.map es clock) → es.size = ks.length → vs.length = ks.length →
      (∀ (j : Nat) (e : MapEntry) (u : AV), es[j]? = some e → ks[j]? = some u → RV F w ι0 u e.key) → (∀ (j : Nat) (e : MapEntry) (u : AV), es[j]? = some e → vs[j]? = some u → RV F w ι0 u e.val) →
      RV F w ι (.pmap ks vs) (.map (some b))
  | nilf (ι) : RV F w ι .nilf .nilFunc
  | func (ι fn) (x y : List AV) (xs ys : Array Value) : xs.size = x.length → ys.size = y.length →
      (∀ (j : Nat) (u : AV) (c : Value), x[j]? = some u → xs[j]? = some c → RV F w ι u c) → (∀ (j : Nat) (u : AV) (c : Value), y[j]? = some u → ys[j]? = some c → RV F w ι u c) →
      RV F w ι (.func fn x y) (.func fn xs ys)
  | agg (ι) (cs : List AV) (vs : Array Value) : vs.size = cs.length → (∀ (j : Nat) (u : AV) (c : Value), cs[j]? = some u → vs[j]? = some c → RV F w ι u c) → RV F w ι (.agg cs) (.agg vs)
  | tuple (ι) (cs : List AV) (vs : Array Value) : vs.size = cs.length → (∀ (j : Nat) (u : AV) (c : Value), cs[j]? = some u → vs[j]? = some c → RV F w ι u c) → RV F w ι (.tuple cs) (.tuple vs)

section
variable {F : Nat → Prop} {w : World} {ι : Id → Option Nat} {c : Value}
theorem RV.slice_inv {o : Id} {co len esz : Nat} {clip : Bool} (h : RV F w ι (.slice o co len esz clip) c) :
    ∃ b cap arr ety fz, c = .slice (some ⟨b, co, none⟩) len cap ∧ ι o = some b ∧ w.heap[b]? = some (.cells arr ety fz) ∧ co + cap * esz ≤ arr.size ∧ len ≤ cap ∧ cap ≤ maxLen ∧ (clip = true → cap = len) := by
  cases h with
  | slice ι o co len esz clip b cap arr ety fz h1 h2 h3 h4 h5 h6 => exact ⟨b, cap, arr, ety, fz, rfl, h1, h2, h3, h4, h5, h6⟩
theorem RV.pslice_inv {cs : List AV} {len esz : Nat} {clip : Bool} (h : RV F w ι (.pslice cs len esz clip) c) :
    ∃ (a : Option Addr) (cap b base : Nat) (cv : Nat → Value), c = .slice a len cap ∧ len ≤ cap ∧ cap ≤ maxLen ∧ (clip = true → cap = len) ∧ (0 < len → a = some ⟨b, base, none⟩ ∧ F b) ∧ (cs ≠ [] → 0 < len) ∧
      (∀ (j : Nat) (u : AV), cs[j]? = some u → w.cell? ⟨b, base + j, none⟩ = some (cv j)) ∧ (∀ (j : Nat) (u : AV), cs[j]? = some u → RV F w ι0 u (cv j)) := by
  cases h with
  | pslice ι cs len esz clip a cap b base cv h1 h2 h3 h4 h5 h6 h7 => exact ⟨a, cap, b, base, cv, rfl, h1, h2, h3, h4, h5, h6, h7⟩
theorem RV.agg_inv {cs : List AV} (h : RV F w ι (.agg cs) c) : ∃ vs : Array Value, c = .agg vs ∧ vs.size = cs.length ∧ ∀ (j : Nat) (u : AV) (c : Value), cs[j]? = some u → vs[j]? = some c → RV F w ι u c := by
  cases h with
  | agg ι cs vs h1 h2 => exact ⟨vs, rfl, h1, h2⟩
theorem RV.tuple_inv {cs : List AV} (h : RV F w ι (.tuple cs) c) : ∃ vs : Array Value, c = .tuple vs ∧ vs.size = cs.length ∧ ∀ (j : Nat) (u : AV) (c : Value), cs[j]? = some u → vs[j]? = some c → RV F w ι u c := by
  cases h with
  | tuple ι cs vs h1 h2 => exact ⟨vs, rfl, h1, h2⟩
theorem RV.func_inv {fn : Fn} {x y : List AV} (h : RV F w ι (.func fn x y) c) : ∃ xs ys : Array Value, c = .func fn xs ys ∧ xs.size = x.length ∧ ys.size = y.length ∧
    (∀ (j : Nat) (u : AV) (c : Value), x[j]? = some u → xs[j]? = some c → RV F w ι u c) ∧ (∀ (j : Nat) (u : AV) (c : Value), y[j]? = some u → ys[j]? = some c → RV F w ι u c) := by
  cases h with
  | func ι fn x y xs ys h1 h2 h3 h4 => exact ⟨xs, ys, rfl, h1, h2, h3, h4⟩
theorem RV.ptr_inv {o : Id} {off : Nat} (h : RV F w ι (.ptr o off) c) : ∃ b, c = .pointer (some ⟨b, off, none⟩) ∧ ι o = some b := by
  cases h with
  | ptr ι o off b h => exact ⟨b, rfl, h⟩
theorem RV.map_inv {o : Id} (h : RV F w ι (.map o) c) : ∃ b, c = .map (some b) ∧ ι o = some b := by
  cases h with
  | map ι o b h => exact ⟨b, rfl, h⟩
theorem RV.pmap_inv {ks vs : List AV} (h : RV F w ι (.pmap ks vs) c) : ∃ (b : Nat) (es : Array MapEntry) (clock : Nat), c = .map (some b) ∧ F b ∧ w.heap[b]? = some (.map es clock) ∧ es.size = ks.length ∧ vs.length = ks.length ∧
      (∀ (j : Nat) (e : MapEntry) (u : AV), es[j]? = some e → ks[j]? = some u → RV F w ι0 u e.key) ∧ (∀ (j : Nat) (e : MapEntry) (u : AV), es[j]? = some e → vs[j]? = some u → RV F w ι0 u e.val) := by
  cases h with
  | pmap ι ks vs b es clock h1 h2 h3 h4 h5 h6 => exact ⟨b, es, clock, rfl, h1, h2, h3, h4, h5, h6⟩
theorem RV.int_inv {k : IntKind} {m : Int} (h : RV F w ι (.int k m) c) : c = .int k m := by cases h; rfl
theorem RV.bool_inv {b : Bool} (h : RV F w ι (.bool b) c) : c = .bool b := by cases h; rfl
theorem RV.str_inv {s : ByteArray} (h : RV F w ι (.str s) c) : c = .string s := by cases h; rfl
theorem RV.nilp_inv (h : RV F w ι .nilp c) : c = .pointer none := by cases h; rfl
theorem RV.nils_inv (h : RV F w ι .nils c) : c = .slice none 0 0 := by cases h; rfl
theorem RV.nilm_inv (h : RV F w ι .nilm c) : c = .map none := by cases h; rfl
theorem RV.nilf_inv (h : RV F w ι .nilf c) : c = .nilFunc := by cases h; rfl
end

/-- Values one by one. -/
def RVs (F : Nat → Prop) (w : World) (ι : Id → Option Nat) (cs : List AV) (vs : Array Value) : Prop :=
  vs.size = cs.length ∧ ∀ (j : Nat) (u : AV) (c : Value), cs[j]? = some u → vs[j]? = some c → RV F w ι u c

/-- A block's make stays: how many cells. -/
def SameShape (w w' : World) (b : Nat) : Prop :=
  ∀ arr ety fz, w.heap[b]? = some (.cells arr ety fz) → ∃ arr' ety' fz', w'.heap[b]? = some (.cells arr' ety' fz') ∧ arr'.size = arr.size

theorem SameShape.refl (w : World) (b : Nat) : SameShape w w b := fun arr ety fz h => ⟨arr, ety, fz, h, rfl⟩
theorem SameShape.of_eq {w w' : World} {b : Nat} (h : w'.heap[b]? = w.heap[b]?) : SameShape w w' b := fun arr ety fz hh => ⟨arr, ety, fz, h.trans hh, rfl⟩
theorem SameShape.trans {w w1 w2 : World} {b : Nat} (h : SameShape w w1 b) (k : SameShape w1 w2 b) : SameShape w w2 b := by
  intro arr ety fz hh
  obtain ⟨arr', ety', fz', h1, h2⟩ := h arr ety fz hh
  obtain ⟨arr'', ety'', fz'', h3, h4⟩ := k _ _ _ h1
  exact ⟨arr'', ety'', fz'', h3, h4.trans h2⟩

theorem cell_of_heap {w w' : World} {b : Nat} (h : w'.heap[b]? = w.heap[b]?) (o : Nat) : w'.cell? ⟨b, o, none⟩ = w.cell? ⟨b, o, none⟩ := by
  simp only [World.cell?, h]

theorem RV.mono {F F' : Nat → Prop} {w w' : World} (hF : ∀ b, F b → F' b) (hw : ∀ b, F b → w'.heap[b]? = w.heap[b]?) {ι : Id → Option Nat} {a : AV} {c : Value} (h : RV F w ι a c) :
    ∀ {ι' : Id → Option Nat}, (∀ o b, ι o = some b → ι' o = some b) → (∀ o b, ι o = some b → SameShape w w' b) → RV F' w' ι' a c := by
  induction h with
  | junk => intros; exact .junk _ _
  | bool => intros; exact .bool _ _
  | int => intros; exact .int _ _ _
  | str => intros; exact .str _ _
  | nilp => intros; exact .nilp _
  | ptr ι o off b h => intro ι' hι _; exact .ptr _ _ _ _ (hι _ _ h)
  | pptr ι cs off b base cv hb hc _ ih =>
    intro ι' hι _
    exact .pptr _ cs off b base cv (hF _ hb) (fun j u hj => (cell_of_heap (hw b hb) _).trans (hc j u hj)) (fun j u hj => ih j u hj (fun _ _ h => by cases h) (fun _ _ h => by cases h))
  | nils => intros; exact .nils _
  | slice ι o co len esz clip b cap arr ety fz hb hh hs hl hm hc =>
    intro ι' hι hsh
    obtain ⟨arr', ety', fz', h1, h2⟩ := hsh _ _ hb _ _ _ hh
    exact .slice _ _ _ _ _ _ _ _ arr' ety' fz' (hι _ _ hb) h1 (by omega) hl hm hc
  | pslice ι cs len esz clip a cap b base cv hl hm hc ha hne hcell _ ih =>
    intro ι' hι _
    refine .pslice _ cs len esz clip a cap b base cv hl hm hc (fun h => ⟨(ha h).1, hF _ (ha h).2⟩) hne (fun j u hu => ?_) (fun j u hu => ih j u hu (fun _ _ h => by cases h) (fun _ _ h => by cases h))
    have hp : 0 < len := hne (by rintro rfl; simp at hu)
    exact (cell_of_heap (hw b (ha hp).2) _).trans (hcell j u hu)
  | nilm => intros; exact .nilm _
  | map ι o b h => intro ι' hι _; exact .map _ _ _ (hι _ _ h)
  | pmap ι ks vs b es clock hb hh h1 h2 _ _ ih1 ih2 =>
    intro ι' hι _
    exact .pmap _ ks vs b es clock (hF _ hb) ((hw b hb).trans hh) h1 h2 (fun j e u he hu => ih1 j e u he hu (fun _ _ h => by cases h) (fun _ _ h => by cases h))
      (fun j e u he hu => ih2 j e u he hu (fun _ _ h => by cases h) (fun _ _ h => by cases h))
  | nilf => intros; exact .nilf _
  | func ι fn x y xs ys h1 h2 _ _ ih1 ih2 =>
    intro ι' hι hsh
    exact .func _ fn x y xs ys h1 h2 (fun j u c hu hc => ih1 j u c hu hc hι hsh) (fun j u c hu hc => ih2 j u c hu hc hι hsh)
  | agg ι cs vs h1 _ ih => intro ι' hι hsh; exact .agg _ cs vs h1 (fun j u c hu hc => ih j u c hu hc hι hsh)
  | tuple ι cs vs h1 _ ih => intro ι' hι hsh; exact .tuple _ cs vs h1 (fun j u c hu hc => ih j u c hu hc hι hsh)

theorem RV.up {F : Nat → Prop} {w : World} {ι : Id → Option Nat} {a : AV} {c : Value} (h : RV F w ι0 a c) : RV F w ι a c :=
  h.mono (fun _ h => h) (fun _ _ => rfl) (fun _ _ h => by cases h) (fun _ _ h => by cases h)

/-- What an object tells of a block. -/
def RO (F : Nat → Prop) (w : World) (ι : Id → Option Nat) (o : AObj) (b : Nat) : Prop :=
  match o with
  | .cells cs => ∃ arr ety lo hi, w.heap[b]? = some (.cells arr ety (lo, hi)) ∧ (∀ j, j < arr.size → ¬ (lo ≤ j ∧ j < hi)) ∧ cs.length ≤ arr.size ∧
      ∀ (j : Nat) (u : AV) (c : Value), cs[j]? = some u → arr[j]? = some c → RV F w ι u c
  | .map ks vs born clock => ∃ es : Array MapEntry, w.heap[b]? = some (.map es clock) ∧ es.size = ks.length ∧ vs.length = ks.length ∧ born.length = ks.length ∧
      (∀ (j : Nat) (e : MapEntry) (u : AV), es[j]? = some e → ks[j]? = some u → RV F w ι u e.key) ∧ (∀ (j : Nat) (e : MapEntry) (u : AV), es[j]? = some e → vs[j]? = some u → RV F w ι u e.val) ∧
      (∀ (j : Nat) (e : MapEntry) (n : Nat), es[j]? = some e → born[j]? = some n → e.born = n)

theorem RO.mono {F F' : Nat → Prop} {w w' : World} {ι ι' : Id → Option Nat} {o : AObj} {b : Nat} (h : RO F w ι o b) (hb : w'.heap[b]? = w.heap[b]?)
    (hF : ∀ b, F b → F' b) (hw : ∀ b, F b → w'.heap[b]? = w.heap[b]?) (hι : ∀ o b, ι o = some b → ι' o = some b) (hsh : ∀ o b, ι o = some b → SameShape w w' b) : RO F' w' ι' o b := by
  cases o with
  | cells cs =>
    obtain ⟨arr, ety, lo, hi, h1, h2, h3, h4⟩ := h
    exact ⟨arr, ety, lo, hi, hb.trans h1, h2, h3, fun j u c hu hc => (h4 j u c hu hc).mono hF hw hι hsh⟩
  | map ks vs born clock =>
    obtain ⟨es, h1, h2, h3, h4, h5, h6, h7⟩ := h
    exact ⟨es, hb.trans h1, h2, h3, h4, fun j e u he hu => (h5 j e u he hu).mono hF hw hι hsh, fun j e u he hu => (h6 j e u he hu).mono hF hw hι hsh, h7⟩

/-- What a slot holds. -/
def RS (F : Nat → Prop) (w : World) (ι : Id → Option Nat) (lam : Nat → Nat) (s : Nat) (sv : SV) (c : Value) : Prop :=
  match sv with
  | .v a => RV F w ι a c
  | .box _ => c = .pointer (some ⟨lam s, 0, none⟩)
  | .lptr t off => c = .pointer (some ⟨lam t, off, none⟩)

/-- The abstract state tells of the machine's. -/
structure Sim (F : Nat → Prop) (ι : Id → Option Nat) (lam : Nat → Nat) (n : Nat) (e : Env) (h : Heap) (a : Act) (w : World) : Prop where
  fin : ∀ b, F b → b < w.heap.size
  iot : ∀ i b, ι i = some b → b < w.heap.size
  val : ∀ s sv, e.get s = some sv → RS F w ι lam s sv (a.tmps.getD s undef)
  box : ∀ s cs, e.get s = some (.box cs) → ¬ F (lam s) ∧ lam s < w.heap.size ∧ RO F w ι (.cells cs) (lam s)
  obj : ∀ i o, h.get i = some o → ∃ b, ι i = some b ∧ ¬ F b ∧ RO F w ι o b
  ll : ∀ s t cs ds, e.get s = some (.box cs) → e.get t = some (.box ds) → lam s = lam t → s = t
  hh : ∀ i j o p b, h.get i = some o → h.get j = some p → ι i = some b → ι j = some b → i = j
  lh : ∀ s cs i o, e.get s = some (.box cs) → h.get i = some o → ι i ≠ some (lam s)
  defers : a.defers = []
  size : n ≤ a.tmps.size

theorem Sim.congr {F : Nat → Prop} {ι : Id → Option Nat} {lam : Nat → Nat} {n : Nat} {e e' : Env} {h h' : Heap} {a : Act} {w : World} (he : ∀ s, e'.get s = e.get s) (hh : ∀ i, h'.get i = h.get i)
    (H : Sim F ι lam n e h a w) : Sim F ι lam n e' h' a w where
  fin := H.fin
  iot := H.iot
  val := fun s sv hs => H.val s sv ((he s).symm.trans hs)
  box := fun s cs hs => H.box s cs ((he s).symm.trans hs)
  obj := fun i o ho => H.obj i o ((hh i).symm.trans ho)
  ll := fun s t cs ds h1 h2 => H.ll s t cs ds ((he s).symm.trans h1) ((he t).symm.trans h2)
  hh := fun i j o p b h1 h2 => H.hh i j o p b ((hh i).symm.trans h1) ((hh j).symm.trans h2)
  lh := fun s cs i o h1 h2 => H.lh s cs i o ((he s).symm.trans h1) ((hh i).symm.trans h2)
  defers := H.defers
  size := H.size

/-- What may have turned: the blocks that 'own' names, and new ones. -/
structure Kept (own : Nat → Prop) (w w' : World) : Prop where
  size : w.heap.size ≤ w'.heap.size
  same : ∀ b, b < w.heap.size → ¬ own b → w'.heap[b]? = w.heap[b]?
  shape : ∀ b, b < w.heap.size → SameShape w w' b
  os : w'.os = w.os
  tape : w'.tape = w.tape
  output : w'.output = w.output

theorem Kept.refl (own : Nat → Prop) (w : World) : Kept own w w := ⟨Nat.le_refl _, fun _ _ _ => rfl, fun _ _ => .refl _ _, rfl, rfl, rfl⟩
theorem Kept.weaken {own own' : Nat → Prop} {w w' : World} (h : Kept own w w') (hh : ∀ b, b < w.heap.size → own b → own' b) : Kept own' w w' :=
  ⟨h.size, fun b hb hn => h.same b hb (fun k => hn (hh b hb k)), h.shape, h.os, h.tape, h.output⟩
theorem Kept.trans {own own' : Nat → Prop} {w w1 w2 : World} (h : Kept own w w1) (k : Kept own' w1 w2) (hh : ∀ b, b < w.heap.size → own' b → own b) : Kept own w w2 :=
  ⟨Nat.le_trans h.size k.size, fun b hb hn => (k.same b (Nat.lt_of_lt_of_le hb h.size) (fun q => hn (hh b hb q))).trans (h.same b hb hn),
    fun b hb => (h.shape b hb).trans (k.shape b (Nat.lt_of_lt_of_le hb h.size)), k.os.trans h.os, k.tape.trans h.tape, k.output.trans h.output⟩

/-- The blocks that the function's own variables and the heap's objects are. -/
def Owns (ι : Id → Option Nat) (lam : Nat → Nat) (e : Env) (h : Heap) (b : Nat) : Prop :=
  (∃ s cs, e.get s = some (.box cs) ∧ lam s = b) ∨ (∃ i o, h.get i = some o ∧ ι i = some b)

theorem Sim.notF {F : Nat → Prop} {ι : Id → Option Nat} {lam : Nat → Nat} {n : Nat} {e : Env} {h : Heap} {a : Act} {w : World} (H : Sim F ι lam n e h a w) {b : Nat} (hb : F b) : ¬ Owns ι lam e h b := by
  rintro (⟨s, cs, hs, rfl⟩ | ⟨i, o, ho, hi⟩)
  · exact (H.box s cs hs).1 hb
  · obtain ⟨b', h1, h2, _⟩ := H.obj i o ho
    rw [hi] at h1
    cases h1
    exact h2 hb

end
end Go.AM

/- AM, part 5: how the relation goes on behind a put, a new block, a store. -/
namespace Go.AM
noncomputable section
set_option linter.unusedVariables false
set_option linter.unusedSimpArgs false

theorem Tr.get_leaf {α : Type} (js : List Bool) : Tr.get (Tr.leaf : Tr α) js = none := rfl
theorem Tr.get_set {α : Type} : ∀ (ks : List Bool) (t : Tr α) (js : List Bool) (v : Option α), (t.set ks v).get js = if js = ks then v else t.get js
  | [], t, js, v => by
    cases t <;> cases js <;> simp [Tr.set_ln, Tr.set_nn, Tr.set_lc, Tr.set_nc, Tr.get_l, Tr.get_n, Tr.get_c, Tr.get_leaf]
  | b :: ks, t, js, v => by
    cases t with
    | leaf =>
      cases b
      · cases js with
        | nil => simp [Tr.set_ln, Tr.set_nn, Tr.set_lc, Tr.set_nc, Tr.get_l, Tr.get_n, Tr.get_c]
        | cons c js => cases c <;> simp [Tr.set_ln, Tr.set_nn, Tr.set_lc, Tr.set_nc, Tr.get_l, Tr.get_n, Tr.get_c, Tr.get_leaf, Tr.get_set ks]
      · cases js with
        | nil => simp [Tr.set_ln, Tr.set_nn, Tr.set_lc, Tr.set_nc, Tr.get_l, Tr.get_n, Tr.get_c]
        | cons c js => cases c <;> simp [Tr.set_ln, Tr.set_nn, Tr.set_lc, Tr.set_nc, Tr.get_l, Tr.get_n, Tr.get_c, Tr.get_leaf, Tr.get_set ks]
    | node u l r =>
      cases b
      · cases js with
        | nil => simp [Tr.set_ln, Tr.set_nn, Tr.set_lc, Tr.set_nc, Tr.get_l, Tr.get_n, Tr.get_c]
        | cons c js => cases c <;> simp [Tr.set_ln, Tr.set_nn, Tr.set_lc, Tr.set_nc, Tr.get_l, Tr.get_n, Tr.get_c, Tr.get_set ks]
      · cases js with
        | nil => simp [Tr.set_ln, Tr.set_nn, Tr.set_lc, Tr.set_nc, Tr.get_l, Tr.get_n, Tr.get_c]
        | cons c js => cases c <;> simp [Tr.set_ln, Tr.set_nn, Tr.set_lc, Tr.set_nc, Tr.get_l, Tr.get_n, Tr.get_c, Tr.get_set ks]
def bitsVal : List Bool → Nat
  | [] => 0
  | b :: bs => (if b then 1 else 0) + 2 * bitsVal bs
theorem bitsF_val : ∀ k n, n ≤ k → bitsVal (bitsF k n) = n
  | 0, n, h => by rw [bitsF_0]; simp [bitsVal]; omega
  | k + 1, 0, h => by rw [bitsF_s0]; rfl
  | k + 1, m + 1, h => by
    rw [bitsF_ss]
    simp only [bitsVal]
    rw [bitsF_val k ((m + 1) / 2) (by omega)]
    cases hc : Nat.beq ((m + 1) % 2) 1
    · have : (m + 1) % 2 ≠ 1 := fun hh => by rw [hh] at hc; simp at hc
      simp; omega
    · have : (m + 1) % 2 = 1 := Nat.eq_of_beq_eq_true hc
      simp; omega
theorem bits_inj {n m : Nat} (h : bits n = bits m) : n = m := by
  have h1 := bitsF_val n n (Nat.le_refl _)
  have h2 := bitsF_val m m (Nat.le_refl _)
  unfold bits at h
  rw [h] at h1
  omega
theorem Env.get_empty (s : Nat) : Env.empty.get s = none := Tr.get_leaf _
theorem Env.get_put (e : Env) (s t : Nat) (v : SV) : (e.put s v).get t = if t = s then some v else e.get t := by
  simp only [Env.get, Env.put, Tr.get_set]
  by_cases h : t = s
  · subst h; simp
  · have hb : bits t ≠ bits s := fun hh => h (bits_inj hh)
    rw [if_neg hb, if_neg h]

theorem idEq_iff (a b : Id) : idEq a b = true ↔ a = b := by
  obtain ⟨a1, a2⟩ := a
  obtain ⟨b1, b2⟩ := b
  simp [idEq]
theorem idEq_ne {a b : Id} (h : a ≠ b) : idEq a b = false := by
  cases hh : idEq a b
  · rfl
  · exact absurd ((idEq_iff a b).1 hh) h
theorem idEq_self (a : Id) : idEq a a = true := (idEq_iff a a).2 rfl

theorem Heap.get_set (h : Heap) (i j : Id) (o : Option AObj) : (h.set i o).get j = if j = i then o else h.get j := by
  obtain ⟨i1, i2⟩ := i
  obtain ⟨j1, j2⟩ := j
  simp only [Heap.get, Heap.set, Tr.get_set]
  by_cases h1 : j1 = i1
  · subst h1
    simp only [if_true, Tr.get_set]
    by_cases h2 : j2 = i2
    · subst h2; simp
    · have hb : bits j2 ≠ bits i2 := fun hh => h2 (bits_inj hh)
      have hne : (j1, j2) ≠ (j1, i2) := fun hh => h2 (by injection hh)
      rw [if_neg hb, if_neg hne]
      unfold Heap.row
      cases Tr.get h (bits j1) with
      | none => exact Tr.get_leaf _
      | some t => rfl
  · have hb : bits j1 ≠ bits i1 := fun hh => h1 (bits_inj hh)
    have hne : (j1, j2) ≠ (i1, i2) := fun hh => h1 (by injection hh)
    rw [if_neg hb, if_neg hne]
theorem Heap.get_put (h : Heap) (i j : Id) (o : AObj) : (h.put i o).get j = if j = i then some o else h.get j := Heap.get_set h i j _
theorem Heap.get_del (h : Heap) (i j : Id) : (h.del i).get j = if j = i then none else h.get j := Heap.get_set h i j _

theorem Env.get_kill (e : Env) (ks : List Nat) (s : Nat) : (e.kill ks).get s = if ks.any (fun k => k == s) then e.get s else none := by
  induction ks with
  | nil => simp [Env.kill, Env.get_empty]
  | cons k r ih =>
    simp only [Env.kill]
    cases hk : e.get k with
    | none =>
      simp only [ih]
      by_cases h : k = s
      · subst h; simp [hk]
      · have : (k == s) = false := by simpa using h
        simp [this]
    | some v =>
      simp only [Env.get_put, ih]
      by_cases h : k = s
      · subst h; simp [hk]
      · have : (k == s) = false := by simpa using h
        simp [this, Ne.symm h]

theorem Tr.all_get {α : Type} {p : α → Bool} : ∀ {t : Tr α} {ks : List Bool} {v : α}, Tr.all p t = true → Tr.get t ks = some v → p v = true
  | .leaf, ks, v, _, hg => by rw [Tr.get_leaf] at hg; cases hg
  | .node u l r, [], v, h, hg => by
    simp only [Tr.get_l, Tr.get_n, Tr.get_c] at hg
    subst hg
    simp only [Tr.all, Bool.and_eq_true] at h
    exact h.1.1
  | .node u l r, b :: ks, v, h, hg => by
    simp only [Tr.all, Bool.and_eq_true] at h
    cases b
    · simp only [Tr.get_l, Tr.get_n, Tr.get_c, cond_false] at hg; exact Tr.all_get h.1.2 hg
    · simp only [Tr.get_l, Tr.get_n, Tr.get_c, cond_true] at hg; exact Tr.all_get h.2 hg
theorem Tr.all_set {α : Type} {p : α → Bool} {v : α} (hv : p v = true) : ∀ (ks : List Bool) {t : Tr α}, Tr.all p t = true → Tr.all p (t.set ks (some v)) = true
  | [], t, h => by
    cases t with
    | leaf => simp [Tr.set_ln, Tr.set_nn, Tr.set_lc, Tr.set_nc, Tr.all, hv]
    | node u l r =>
      simp only [Tr.all, Bool.and_eq_true] at h
      simp [Tr.set_ln, Tr.set_nn, Tr.set_lc, Tr.set_nc, Tr.all, hv, h.1.2, h.2]
  | b :: ks, t, h => by
    cases t with
    | leaf => cases b <;> simp [Tr.set_ln, Tr.set_nn, Tr.set_lc, Tr.set_nc, Tr.all, Tr.all_set hv ks (t := .leaf) rfl]
    | node u l r =>
      simp only [Tr.all, Bool.and_eq_true] at h
      cases b
      · simp only [Tr.set_ln, Tr.set_nn, Tr.set_lc, Tr.set_nc, cond_false, Tr.all, Bool.and_eq_true]; exact ⟨⟨h.1.1, Tr.all_set hv ks h.1.2⟩, h.2⟩
      · simp only [Tr.set_ln, Tr.set_nn, Tr.set_lc, Tr.set_nc, cond_true, Tr.all, Bool.and_eq_true]; exact ⟨h.1, Tr.all_set hv ks h.2⟩

theorem Env.get_free (e : Env) (d : Nat) (h : e.free d = true) (s off : Nat) : e.get s ≠ some (.lptr d off) := by
  intro hg
  have := Tr.all_get h hg
  simp [leadsOff] at this

/-! ### the machine's slots -/
theorem put_getD (a : Act) (d s : Nat) (v : Value) (hd : d < a.tmps.size) : (a.put (some d) v).tmps.getD s undef = if s = d then v else a.tmps.getD s undef := by
  simp only [Act.put, Array.getD_eq_getD_getElem?, Array.getElem?_setIfInBounds]
  by_cases h : d = s
  · subst h; simp [hd]
  · simp [h, Ne.symm h]
theorem put_defers (a : Act) (d : Option Nat) (v : Value) : (a.put d v).defers = a.defers := by cases d <;> rfl
theorem put_size (a : Act) (d : Option Nat) (v : Value) : (a.put d v).tmps.size = a.tmps.size := by cases d <;> simp [Act.put]

variable {F : Nat → Prop} {ι : Id → Option Nat} {lam : Nat → Nat} {n : Nat} {e : Env} {h : Heap} {a : Act} {w : World}

/-- A value into a slot. -/
theorem Sim.put (H : Sim F ι lam n e h a w) {d : Nat} (hd : d < n) {sv : SV} {v : Value} (hb : ∀ cs, sv ≠ .box cs) (hv : RS F w ι lam d sv v) :
    Sim F ι lam n (e.put d sv) h (a.put (some d) v) w := by
  have hds : d < a.tmps.size := Nat.lt_of_lt_of_le hd H.size
  have key : ∀ {s : Nat} {cs : List AV}, (e.put d sv).get s = some (.box cs) → e.get s = some (.box cs) := by
    intro s cs hs
    rw [Env.get_put] at hs
    split at hs
    · injection hs with hs
      exact absurd hs (hb cs)
    · exact hs
  refine ⟨H.fin, H.iot, fun s x hs => ?_, fun s cs hs => H.box s cs (key hs), H.obj, fun s t cs ds h1 h2 => H.ll s t cs ds (key h1) (key h2), H.hh, fun s cs i o h1 h2 => H.lh s cs i o (key h1) h2,
    (put_defers _ _ _).trans H.defers, by rw [put_size]; exact H.size⟩
  rw [Env.get_put] at hs
  rw [put_getD a d s v hds]
  split at hs
  · rename_i hsd
    subst hsd
    injection hs with hs
    subst hs
    simpa using hv
  · rename_i hsd
    simp only [hsd, if_false]
    exact H.val s x hs

/-- The world goes on, F and ι grow. -/
theorem Sim.move {F' : Nat → Prop} {ι' : Id → Option Nat} {w' : World} (H : Sim F ι lam n e h a w) (hF : ∀ b, F b → F' b) (hfin : ∀ b, F' b → b < w'.heap.size)
    (hown : ∀ b, Owns ι lam e h b → ¬ F' b) (hsameF : ∀ b, F b → w'.heap[b]? = w.heap[b]?) (hsame : ∀ b, Owns ι lam e h b → w'.heap[b]? = w.heap[b]?)
    (hι : ∀ i b, ι i = some b → ι' i = some b) (hiot : ∀ i b, ι' i = some b → b < w'.heap.size) (hsh : ∀ i b, ι i = some b → SameShape w w' b) (hsz : w.heap.size ≤ w'.heap.size) :
    Sim F' ι' lam n e h a w' := by
  have hR : ∀ {x : AV} {c : Value}, RV F w ι x c → RV F' w' ι' x c := fun hx => hx.mono hF hsameF hι hsh
  have hid : ∀ {i : Id} {o : AObj} {b : Nat}, h.get i = some o → ι' i = some b → ι i = some b := by
    intro i o b ho hb
    obtain ⟨b', h1, _⟩ := H.obj i o ho
    rw [hι i b' h1] at hb
    rw [h1]
    exact hb
  refine ⟨hfin, hiot, fun s sv hs => ?_, fun s cs hs => ?_, fun i o ho => ?_, H.ll, fun i j o p b h1 h2 h3 h4 => H.hh i j o p b h1 h2 (hid h1 h3) (hid h2 h4), fun s cs i o h1 h2 h3 => H.lh s cs i o h1 h2 (hid h2 h3), H.defers, H.size⟩
  · have := H.val s sv hs
    cases sv with
    | v x => exact hR this
    | box cs => exact this
    | lptr t off => exact this
  · obtain ⟨h1, h2, h3⟩ := H.box s cs hs
    have ho : Owns ι lam e h (lam s) := .inl ⟨s, cs, hs, rfl⟩
    exact ⟨hown _ ho, Nat.lt_of_lt_of_le h2 hsz, h3.mono (hsame _ ho) hF hsameF hι hsh⟩
  · obtain ⟨b, h1, h2, h3⟩ := H.obj i o ho
    have hob : Owns ι lam e h b := .inr ⟨i, o, ho, h1⟩
    exact ⟨b, hι _ _ h1, hown _ hob, h3.mono (hsame _ hob) hF hsameF hι hsh⟩

/-- The same, where nothing turned that anybody knows. -/
theorem Sim.world {w' : World} (H : Sim F ι lam n e h a w) (hw : ∀ b, b < w.heap.size → w'.heap[b]? = w.heap[b]?) (hsz : w.heap.size ≤ w'.heap.size) : Sim F ι lam n e h a w' := by
  have hlt : ∀ b, Owns ι lam e h b → b < w.heap.size := by
    rintro b (⟨s, cs, hs, rfl⟩ | ⟨i, o, ho, hi⟩)
    · exact (H.box s cs hs).2.1
    · exact H.iot i b hi
  exact H.move (fun _ h => h) (fun b hb => Nat.lt_of_lt_of_le (H.fin b hb) hsz) (fun b hb hf => H.notF hf hb) (fun b hb => hw b (H.fin b hb)) (fun b hb => hw b (hlt b hb)) (fun _ _ h => h)
    (fun i b hi => Nat.lt_of_lt_of_le (H.iot i b hi) hsz) (fun i b hi => SameShape.of_eq (hw b (H.iot i b hi))) hsz

/-- An object is forgotten. -/
theorem Sim.del (H : Sim F ι lam n e h a w) (i : Id) : Sim F ι lam n e (h.del i) a w := by
  have key : ∀ {j : Id} {o : AObj}, (h.del i).get j = some o → h.get j = some o := by
    intro j o hj
    rw [Heap.get_del] at hj
    split at hj
    · cases hj
    · exact hj
  exact ⟨H.fin, H.iot, H.val, H.box, fun j o hj => H.obj j o (key hj), H.ll, fun j k o p b h1 h2 => H.hh j k o p b (key h1) (key h2), fun s cs j o h1 h2 => H.lh s cs j o h1 (key h2), H.defers, H.size⟩

/-- An object is told of a block that nobody else has. -/
theorem Sim.obj_put (H : Sim F ι lam n e h a w) {i : Id} {b : Nat} {o : AObj} (hi : ι i = some b) (hb : ¬ F b) (ho : RO F w ι o b)
    (h1 : ∀ j p, h.get j = some p → ι j = some b → j = i) (h2 : ∀ s cs, e.get s = some (.box cs) → lam s ≠ b) : Sim F ι lam n e (h.put i o) a w := by
  refine ⟨H.fin, H.iot, H.val, H.box, fun j p hj => ?_, H.ll, fun j k p q c hj hk hc hd => ?_, fun s cs j p hs hj hc => ?_, H.defers, H.size⟩
  · rw [Heap.get_put] at hj
    split at hj
    · rename_i hji
      subst hji
      injection hj with hj
      subst hj
      exact ⟨b, hi, hb, ho⟩
    · exact H.obj j p hj
  · rw [Heap.get_put] at hj hk
    split at hj
    · rename_i hji
      subst hji
      split at hk
      · rename_i hki
        exact hki.symm
      · rw [hi] at hc
        injection hc with hc
        subst hc
        exact (h1 k q hk hd).symm
    · split at hk
      · rename_i hki
        subst hki
        rw [hi] at hd
        injection hd with hd
        subst hd
        exact h1 j p hj hc
      · exact H.hh j k p q c hj hk hc hd
  · rw [Heap.get_put] at hj
    split at hj
    · rename_i hji
      subst hji
      rw [hi] at hc
      injection hc with hc
      exact h2 s cs hs hc.symm
    · exact H.lh s cs j p hs hj hc

/-- A variable is seen as a pointer alone. -/
theorem Sim.unbox (H : Sim F ι lam n e h a w) {s : Nat} {cs : List AV} (hs : e.get s = some (.box cs)) : Sim F ι lam n (e.put s (.lptr s 0)) h a w := by
  have key : ∀ {t : Nat} {ds : List AV}, (e.put s (.lptr s 0)).get t = some (.box ds) → e.get t = some (.box ds) ∧ t ≠ s := by
    intro t ds ht
    rw [Env.get_put] at ht
    split at ht
    · simp at ht
    · rename_i hne
      exact ⟨ht, hne⟩
  refine ⟨H.fin, H.iot, fun t x ht => ?_, fun t ds ht => H.box t ds (key ht).1, H.obj, fun t u cs ds h1 h2 => H.ll t u cs ds (key h1).1 (key h2).1, H.hh, fun t ds i o h1 h2 => H.lh t ds i o (key h1).1 h2, H.defers, H.size⟩
  rw [Env.get_put] at ht
  split at ht
  · rename_i hts
    subst hts
    injection ht with ht
    subst ht
    have := H.val t _ hs
    exact this
  · exact H.val t x ht

/-- And told again. -/
theorem Sim.rebox (H : Sim F ι lam n e h a w) {s : Nat} {cs : List AV} (hs : e.get s = some (.lptr s 0)) (hb : ¬ F (lam s)) (hlt : lam s < w.heap.size) (ho : RO F w ι (.cells cs) (lam s))
    (h1 : ∀ j p, h.get j = some p → ι j ≠ some (lam s)) (h2 : ∀ t ds, e.get t = some (.box ds) → lam t ≠ lam s) : Sim F ι lam n (e.put s (.box cs)) h a w := by
  refine ⟨H.fin, H.iot, fun t x ht => ?_, fun t ds ht => ?_, H.obj, fun t u ds es ht hu hl => ?_, H.hh, fun t ds i o ht hi => ?_, H.defers, H.size⟩
  · rw [Env.get_put] at ht
    split at ht
    · rename_i hts
      subst hts
      injection ht with ht
      subst ht
      have := H.val t _ hs
      exact this
    · exact H.val t x ht
  · rw [Env.get_put] at ht
    split at ht
    · rename_i hts
      subst hts
      injection ht with ht
      injection ht with ht
      subst ht
      exact ⟨hb, hlt, ho⟩
    · exact H.box t ds ht
  · rw [Env.get_put] at ht hu
    split at ht
    · rename_i hts
      subst hts
      split at hu
      · rename_i hus
        exact hus.symm
      · exact absurd hl.symm (h2 u es hu)
    · split at hu
      · rename_i hus
        subst hus
        exact absurd hl (h2 t ds ht)
      · exact H.ll t u ds es ht hu hl
  · rw [Env.get_put] at ht
    split at ht
    · rename_i hts
      subst hts
      exact h1 i o hi
    · exact H.lh t ds i o ht hi

/-- A new variable of the function's own, in a new block. -/
theorem Sim.newbox (H : Sim F ι lam n e h a w) {d : Nat} (hd : d < n) (hfree : e.free d = true) {cs : List AV} {b : Nat} (hb : ¬ F b) (hlt : b < w.heap.size) (ho : RO F w ι (.cells cs) b)
    (h1 : ∀ j p, h.get j = some p → ι j ≠ some b) (h2 : ∀ t ds, e.get t = some (.box ds) → lam t ≠ b) :
    Sim F ι (fun s => if s = d then b else lam s) n (e.put d (.box cs)) h (a.put (some d) (.pointer (some ⟨b, 0, none⟩))) w := by
  have hds : d < a.tmps.size := Nat.lt_of_lt_of_le hd H.size
  refine ⟨H.fin, H.iot, fun t x ht => ?_, fun t ds ht => ?_, H.obj, fun t u ds es ht hu hl => ?_, H.hh, fun t ds i o ht hi => ?_, (put_defers _ _ _).trans H.defers, by rw [put_size]; exact H.size⟩
  · rw [Env.get_put] at ht
    rw [put_getD a d t _ hds]
    split at ht
    · rename_i hts
      subst hts
      injection ht with ht
      subst ht
      simp [RS]
    · rename_i hts
      simp only [hts, if_false]
      have := H.val t x ht
      cases x with
      | v y => exact this
      | box ds => simpa [RS, hts] using this
      | lptr u off =>
        have hne : u ≠ d := by
          rintro rfl
          exact Env.get_free e u hfree t off ht
        simpa [RS, hne] using this
  · rw [Env.get_put] at ht
    split at ht
    · rename_i hts
      subst hts
      injection ht with ht
      injection ht with ht
      subst ht
      simpa using ⟨hb, hlt, ho⟩
    · rename_i hts
      simpa [hts] using H.box t ds ht
  · rw [Env.get_put] at ht hu
    by_cases htd : t = d
    · subst htd
      by_cases hud : u = t
      · exact hud.symm
      · simp only [hud, if_false, if_true] at hl hu
        exact absurd hl.symm (h2 u es hu)
    · by_cases hud : u = d
      · subst hud
        simp only [htd, if_false, if_true] at hl ht
        exact absurd hl (h2 t ds ht)
      · simp only [htd, hud, if_false] at hl ht hu
        exact H.ll t u ds es ht hu hl
  · rw [Env.get_put] at ht
    by_cases htd : t = d
    · subst htd
      simpa using h1 i o hi
    · simp only [htd, if_false] at ht ⊢
      exact H.lh t ds i o ht hi

/-- Slots are forgotten. -/
theorem Sim.kill (H : Sim F ι lam n e h a w) (ks : List Nat) : Sim F ι lam n (e.kill ks) h a w := by
  have key : ∀ {s : Nat} {x : SV}, (e.kill ks).get s = some x → e.get s = some x := by
    intro s x hs
    rw [Env.get_kill] at hs
    split at hs
    · exact hs
    · cases hs
  exact ⟨H.fin, H.iot, fun s x hs => H.val s x (key hs), fun s cs hs => H.box s cs (key hs), H.obj, fun s t cs ds h1 h2 => H.ll s t cs ds (key h1) (key h2), H.hh, fun s cs i o h1 h2 => H.lh s cs i o (key h1) h2, H.defers, H.size⟩

end
end Go.AM

/- AM, part 6: operands, reads. -/
namespace Go.AM
noncomputable section
set_option linter.unusedVariables false
set_option linter.unusedSimpArgs false

/-- What the table tells of types is the program's. -/
structure TOk (P : Program) (tt : TypeId → Option TI) : Prop where
  und : ∀ t i, tt t = some i → P.underlying t = some i.desc
  info : ∀ t i, tt t = some i → ∃ f, P.info? t = some f ∧ f.size = i.size ∧ f.bytes = i.bytes ∧ f.zero = i.zero

def isAggD : TypeDesc → Bool
  | .struct _ => true
  | .array _ _ => true
  | _ => false

variable {P : Program} {tt : TypeId → Option TI}
variable {F : Nat → Prop} {ι : Id → Option Nat} {lam : Nat → Nat} {n : Nat} {e : Env} {h : Heap} {a : Act} {w : World}

theorem TOk.size (T : TOk P tt) {t : TypeId} {i : TI} (hi : tt t = some i) (w : World) : (sizeOf t).run P w = .ok i.size w := by
  obtain ⟨f, h1, h2, _⟩ := T.info t i hi
  simp [sizeOf, typeInfo, h1, h2]
theorem TOk.zero (T : TOk P tt) {t : TypeId} {i : TI} {z : Value} (hi : tt t = some i) (hz : i.zero = some z) (w : World) : (zeroValue t).run P w = .ok z w := by
  obtain ⟨f, h1, _, _, h2⟩ := T.info t i hi
  simp [zeroValue, typeInfo, h1, h2, hz]
theorem TOk.desc (T : TOk P tt) {t : TypeId} {i : TI} (hi : tt t = some i) (w : World) : (underlying t).run P w = .ok i.desc w := run_underlying (T.und t i hi) w
theorem TOk.agg (T : TOk P tt) {t : TypeId} {i : TI} (hi : tt t = some i) (w : World) : (isAgg t).run P w = .ok (isAggD i.desc) w := by
  simp only [isAgg, Sem.run_bind, T.desc hi, Result.andThen_ok]
  cases i.desc <;> rfl

theorem ofV_rv {v : Value} {x : AV} (hv : ofV v = some x) : RV F w ι x v := by
  unfold ofV at hv
  split at hv <;> first
    | (injection hv with hv; subst hv; constructor)
    | cases hv

theorem evA_ok (H : Sim F ι lam n e h a w) {x : Operand} {r : AV} (hx : evA e x = some r) : RV F w ι r (a.eval x) := by
  cases x with
  | tmp t =>
    simp only [evA] at hx
    split at hx
    · cases hx
    · rename_i b _ hb
      injection hx with hx
      subst hx
      exact H.val t _ hb
    · cases hx
  | const v => exact ofV_rv hx
  | global g => cases hx
  | func f =>
    simp only [evA, Option.some.injEq] at hx
    subst hx
    exact .func _ _ _ _ _ _ rfl rfl (fun j u c hu => by simp at hu) (fun j u c hu => by simp at hu)

/-- A pointer, as it is handed on. -/
theorem evS_ok (H : Sim F ι lam n e h a w) {x : Operand} {r : SV} (hx : evS e x = some r) : (∀ cs, r ≠ .box cs) ∧ ∀ d, RS F w ι lam d r (a.eval x) := by
  have other : ∀ {y : AV}, evA e x = some y → r = .v y → (∀ cs, r ≠ .box cs) ∧ ∀ d, RS F w ι lam d r (a.eval x) := by
    intro y hy hr
    subst hr
    exact ⟨fun cs => by simp, fun d => evA_ok H hy⟩
  cases x with
  | tmp t =>
    simp only [evS] at hx
    split at hx
    · cases hx
    · rename_i b _ hb
      injection hx with hx
      subst hx
      exact ⟨fun cs => by simp, fun d => H.val t _ hb⟩
    · rename_i cs hb
      injection hx with hx
      subst hx
      refine ⟨fun cs => by simp, fun d => ?_⟩
      have := H.val t _ hb
      exact this
    · rename_i s o hb
      injection hx with hx
      subst hx
      refine ⟨fun cs => by simp, fun d => ?_⟩
      have := H.val t _ hb
      exact this
    · cases hx
  | const v =>
    simp only [evS] at hx
    split at hx
    · rename_i y hy
      injection hx with hx
      exact other hy hx.symm
    · cases hx
  | global g => simp [evS, evA] at hx
  | func f =>
    simp only [evS] at hx
    split at hx
    · rename_i y hy
      injection hx with hx
      exact other hy hx.symm
    · cases hx

theorem evAs_ok (H : Sim F ι lam n e h a w) : ∀ {xs : List Operand} {r : List AV}, evAs e xs = some r → r.length = xs.length ∧ ∀ (j : Nat) (u : AV) (c : Value), r[j]? = some u → (xs.map a.eval)[j]? = some c → RV F w ι u c
  | [], r, hx => by
    simp only [evAs, Option.some.injEq] at hx
    subst hx
    exact ⟨rfl, fun j u c hu => by simp at hu⟩
  | x :: xs, r, hx => by
    simp only [evAs] at hx
    split at hx
    · rename_i y l h1 h2
      injection hx with hx
      subst hx
      obtain ⟨h3, h4⟩ := evAs_ok H h2
      refine ⟨by simp [h3], fun j u c hu hc => ?_⟩
      cases j with
      | zero =>
        simp only [List.getElem?_cons_zero, List.map_cons, Option.some.injEq] at hu hc
        subst hu
        subst hc
        exact evA_ok H h1
      | succ j => exact h4 j u c (by simpa using hu) (by simpa using hc)
    · cases hx

theorem sub_ok {cs l : List AV} {off m : Nat} (hs : sub cs off m = some l) : off + m ≤ cs.length ∧ l.length = m ∧ ∀ j, j < m → l[j]? = cs[off + j]? := by
  simp only [sub] at hs
  cases hb : Nat.ble (off + m) cs.length
  · simp [hb] at hs
  · rw [hb] at hs
    simp only [cond_true, Option.some.injEq] at hs
    subst hs
    have hle : off + m ≤ cs.length := Nat.le_of_ble_eq_true hb
    refine ⟨hle, by simp; omega, fun j hj => ?_⟩
    rw [List.getElem?_take_of_lt hj, List.getElem?_drop]

theorem cells_at {b : Nat} {arr : Array Value} {ety : TypeId} {fz : Nat × Nat} (hb : w.heap[b]? = some (.cells arr ety fz)) (j : Nat) : w.cell? ⟨b, j, none⟩ = arr[j]? := by
  simp [World.cell?, hb]

theorem RO.cell {cs : List AV} {b : Nat} (ho : RO F w ι (.cells cs) b) {j : Nat} {u : AV} (hj : cs[j]? = some u) : ∃ c, w.cell? ⟨b, j, none⟩ = some c ∧ RV F w ι u c := by
  obtain ⟨arr, ety, lo, hi, h1, h2, h3, h4⟩ := ho
  have hlt : j < arr.size := Nat.lt_of_lt_of_le (List.getElem?_eq_some_iff.1 hj).1 h3
  exact ⟨arr[j], by rw [cells_at h1]; exact Array.getElem?_eq_getElem hlt, h4 j u _ hj (Array.getElem?_eq_getElem hlt)⟩

/-- Cells in a row behind a pointer. -/
theorem readAt_ok (H : Sim F ι lam n e h a w) {p : SV} {c : Value} {m : Nat} {l : List AV} {rd : List Key} (hp : ∀ d, RS F w ι lam d p c) (hr : readAt e h p m = some (l, rd)) :
    l.length = m ∧ ∃ b o, c = .pointer (some ⟨b, o, none⟩) ∧ ∀ j u, l[j]? = some u → ∃ c', w.cell? ⟨b, o + j, none⟩ = some c' ∧ RV F w ι u c' := by
  have fin : ∀ {cs : List AV} {off b : Nat}, RO F w ι (.cells cs) b → sub cs off m = some l → c = .pointer (some ⟨b, off, none⟩) →
      l.length = m ∧ ∃ b o, c = .pointer (some ⟨b, o, none⟩) ∧ ∀ j u, l[j]? = some u → ∃ c', w.cell? ⟨b, o + j, none⟩ = some c' ∧ RV F w ι u c' := by
    intro cs off b ho hs hc
    obtain ⟨h1, h2, h3⟩ := sub_ok hs
    refine ⟨h2, b, off, hc, fun j u hu => ?_⟩
    have hj : j < m := by rw [← h2]; exact (List.getElem?_eq_some_iff.1 hu).1
    rw [h3 j hj] at hu
    exact ho.cell hu
  unfold readAt at hr
  split at hr
  · rename_i s off
    split at hr
    · rename_i cs hs
      split at hr
      · rename_i l' hl
        simp only [Option.some.injEq, Prod.mk.injEq] at hr
        obtain ⟨rfl, _⟩ := hr
        exact fin (H.box s cs hs).2.2 hl (hp 0)
      · cases hr
    · cases hr
  · rename_i o off
    split at hr
    · rename_i cs hs
      split at hr
      · rename_i l' hl
        simp only [Option.some.injEq, Prod.mk.injEq] at hr
        obtain ⟨rfl, _⟩ := hr
        obtain ⟨b, h1, _, h3⟩ := H.obj o _ hs
        have := hp 0
        cases this
        rename_i b' hb'
        rw [h1] at hb'
        injection hb' with hb'
        subst hb'
        exact fin h3 hl rfl
      · cases hr
    · cases hr
  · rename_i cs off
    split at hr
    · rename_i l' hl
      simp only [Option.some.injEq, Prod.mk.injEq] at hr
      obtain ⟨rfl, _⟩ := hr
      obtain ⟨h1, h2, h3⟩ := sub_ok hl
      have := hp 0
      cases this
      rename_i b base cv hF hcell hcr
      refine ⟨h2, b, base + off, rfl, fun j u hu => ?_⟩
      have hj : j < m := by rw [← h2]; exact (List.getElem?_eq_some_iff.1 hu).1
      rw [h3 j hj] at hu
      exact ⟨_, by rw [Nat.add_assoc]; exact hcell _ _ hu, (hcr _ _ hu).up⟩
    · cases hr
  · cases hr

theorem add_lit' (b o j : Nat) : (⟨b, o, none⟩ : Addr).add j = ⟨b, o + j, none⟩ := by unfold Addr.add; split <;> simp_all

/-- Cells that are told one by one, as one array. -/
theorem cells_list {b o m : Nat} {l : List AV} (hl : l.length = m) (hc : ∀ j u, l[j]? = some u → ∃ c', w.cell? ⟨b, o + j, none⟩ = some c' ∧ RV F w ι u c') :
    ∃ cv : List Value, cv.length = m ∧ (∀ (j : Nat) (v : Value), cv[j]? = some v → w.cell? ⟨b, o + j, none⟩ = some v) ∧ ∀ (j : Nat) (u : AV) (c : Value), l[j]? = some u → cv[j]? = some c → RV F w ι u c := by
  subst hl
  induction l generalizing o with
  | nil => exact ⟨[], rfl, fun j v h => by simp at h, fun j u c h => by simp at h⟩
  | cons x l ih =>
    obtain ⟨c0, h0, r0⟩ := hc 0 x rfl
    obtain ⟨cv, h1, h2, h3⟩ := ih (o := o + 1) (fun j u hu => by
      obtain ⟨c', k1, k2⟩ := hc (j + 1) u (by simpa using hu)
      exact ⟨c', by rwa [show o + 1 + j = o + (j + 1) by omega], k2⟩)
    refine ⟨c0 :: cv, by simp [h1], fun j v hv => ?_, fun j u c hu hc' => ?_⟩
    · cases j with
      | zero => simp only [List.getElem?_cons_zero, Option.some.injEq] at hv; subst hv; exact h0
      | succ j => have := h2 j v (by simpa using hv); rwa [show o + 1 + j = o + (j + 1) by omega] at this
    · cases j with
      | zero => simp only [List.getElem?_cons_zero, Option.some.injEq] at hu hc'; subst hu; subst hc'; exact r0
      | succ j => exact h3 j u c (by simpa using hu) (by simpa using hc')

/-- A variable is read. -/
theorem load_ok (T : TOk P tt) {t : TypeId} {k : Option Nat} (hk : aggOf tt t = some k) {b o : Nat} {l : List AV} {r : AV} (hl : l.length = width k)
    (hc : ∀ j u, l[j]? = some u → ∃ c', w.cell? ⟨b, o + j, none⟩ = some c' ∧ RV F w ι u c') (hs : shut k l = some r) :
    ∃ v, (loadVar t ⟨b, o, none⟩).run P w = .ok v w ∧ RV F w ι r v := by
  obtain ⟨cv, h1, h2, h3⟩ := cells_list hl hc
  unfold aggOf at hk
  split at hk
  case h_2 => cases hk
  rename_i i hi
  have hagg := T.agg hi w
  split at hk
  · rename_i fs hd
    injection hk with hk
    subst hk
    simp only [shut, Option.some.injEq] at hs
    subst hs
    refine ⟨.agg cv.toArray, ?_, .agg _ _ _ (by simp [h1, hl]) (fun j u c hu hc' => h3 j u c hu (by simpa using hc'))⟩
    have hh := run_loadCells_list (P := P) w ⟨b, o, none⟩ cv (fun j v hv => by rw [add_lit']; exact h2 j v hv)
    rw [h1] at hh
    simp only [loadVar, Sem.run_bind, hagg, Result.andThen_ok, hd, isAggD, if_true, T.size hi]
    simp only [width] at hh
    simp [hh]
  · rename_i m fs hd
    injection hk with hk
    subst hk
    simp only [shut, Option.some.injEq] at hs
    subst hs
    refine ⟨.agg cv.toArray, ?_, .agg _ _ _ (by simp [h1, hl]) (fun j u c hu hc' => h3 j u c hu (by simpa using hc'))⟩
    have hh := run_loadCells_list (P := P) w ⟨b, o, none⟩ cv (fun j v hv => by rw [add_lit']; exact h2 j v hv)
    rw [h1] at hh
    simp only [loadVar, Sem.run_bind, hagg, Result.andThen_ok, hd, isAggD, if_true, T.size hi]
    simp only [width] at hh
    simp [hh]
  · rename_i x1 x2
    cases hz : (i.size == 1)
    · simp [hz] at hk
    rw [hz] at hk
    simp only [cond_true, Option.some.injEq] at hk
    subst hk
    have hf : (isAggD i.desc) = false := by
      cases hd : i.desc <;> first | rfl | exact absurd hd (x1 _) | exact absurd hd (x2 _ _)
    rw [hf] at hagg
    cases l with
    | nil => simp [width] at hl
    | cons x l =>
      cases l with
      | nil =>
        simp only [shut, Option.some.injEq] at hs
        subst hs
        obtain ⟨c', k1, k2⟩ := hc 0 x rfl
        refine ⟨c', ?_, k2⟩
        simp only [loadVar, Sem.run_bind, hagg, Result.andThen_ok, Bool.false_eq_true, if_false, run_load]
        rw [Nat.add_zero] at k1
        rw [k1]
      | cons y l => simp [width] at hl

end
end Go.AM

/- AM, part 7: operations that leave memory alone. -/
namespace Go.AM
noncomputable section
set_option linter.unusedVariables false
set_option linter.unusedSimpArgs false

variable {P : Program} {tt : TypeId → Option TI}
variable {F : Nat → Prop} {ι : Id → Option Nat} {lam : Nat → Nat} {n : Nat} {e : Env} {h : Heap} {a : Act} {w : World}

/-- What an operation comes to. -/
def Out (P : Program) (F : Nat → Prop) (ι : Id → Option Nat) (lam : Nat → Nat) (n : Nat) (e : Env) (h : Heap) (a : Act) (w : World) (nid : Id) (dst : Option Nat) (o : Oper) (s' : St) : Prop :=
  ∃ nx v w' ι' lam', (execOp a.eval o).run P w = .ok nx w' ∧ (nx = .value v ∨ (nx = .skip ∧ v = undef)) ∧ Sim F ι' lam' n s'.env s'.heap (a.put dst v) w' ∧ Kept (Owns ι lam e h) w w' ∧
    (∀ i b, ι i = some b → ι' i = some b) ∧ (∀ i, i ≠ nid → ι' i = ι i) ∧ ∀ b, Owns ι' lam' s'.env s'.heap b → Owns ι lam e h b ∨ w.heap.size ≤ b

theorem Owns.put {d : Nat} {sv : SV} (hb : ∀ cs, sv ≠ .box cs) {b : Nat} (H : Owns ι lam (e.put d sv) h b) : Owns ι lam e h b := by
  rcases H with ⟨s, cs, hs, rfl⟩ | H
  · rw [Env.get_put] at hs
    split at hs
    · injection hs with hs
      exact absurd hs (hb cs)
    · exact .inl ⟨s, cs, hs, rfl⟩
  · exact .inr H

/-- Where the machine's step yields a value and nothing else turns. -/
theorem quiet_out (H : Sim F ι lam n e h a w) {nid : Id} {dst : Option Nat} {o : Oper} {N : Nat} {sv : SV} {rd wr : List Key} {v : Value} (hd : ∀ d, dst = some d → d < n)
    (hrun : (execOp a.eval o).run P w = .ok (.value v) w) (hb : ∀ cs, sv ≠ .box cs) (hv : ∀ d, RS F w ι lam d sv v) :
    Out P F ι lam n e h a w nid dst o (St.eff ⟨e, h, N⟩ dst { val := sv, rd, wr }) := by
  cases dst with
  | none => exact ⟨_, v, w, ι, lam, hrun, .inl rfl, H, .refl _ _, fun _ _ h => h, fun _ _ => rfl, fun b hb => .inl hb⟩
  | some d => exact ⟨_, v, w, ι, lam, hrun, .inl rfl, H.put (hd d rfl) hb (hv d), .refl _ _, fun _ _ h => h, fun _ _ => rfl, fun b h => .inl (Owns.put hb h)⟩

theorem quiet_val (H : Sim F ι lam n e h a w) {nid : Id} {dst : Option Nat} {o : Oper} {N : Nat} {x : AV} {rd wr : List Key} {v : Value} (hd : ∀ d, dst = some d → d < n)
    (hrun : (execOp a.eval o).run P w = .ok (.value v) w) (hv : RV F w ι x v) :
    Out P F ι lam n e h a w nid dst o (St.eff ⟨e, h, N⟩ dst { val := .v x, rd, wr }) :=
  quiet_out H hd hrun (by simp) (fun d => hv)

variable {nid : Id} {dst : Option Nat} {o : Oper} {N : Nat} {eff : Eff}

theorem ok_move (H : Sim F ι lam n e h a w) (hd : ∀ d, dst = some d → d < n) {x : Operand} (ho : o.op = .move x ∨ o.op = .assign x) (ha : aop e h nid dst (.move x) = some eff) :
    Out P F ι lam n e h a w nid dst o (St.eff ⟨e, h, N⟩ dst eff) := by
  simp only [aop] at ha
  split at ha
  · rename_i s hs
    injection ha with ha
    subst ha
    obtain ⟨h1, h2⟩ := evS_ok H hs
    refine quiet_out H hd (v := a.eval x) ?_ h1 h2
    rcases ho with ho | ho <;> simp [execOp, ho]
  · cases ha

theorem ok_pick (H : Sim F ι lam n e h a w) (hd : ∀ d, dst = some d → d < n) {c x y : Operand} (ho : o.op = .pick c x y) (ha : aop e h nid dst (.pick c x y) = some eff) :
    Out P F ι lam n e h a w nid dst o (St.eff ⟨e, h, N⟩ dst eff) := by
  simp only [aop] at ha
  split at ha
  · rename_i t u v h1 h2 h3
    injection ha with ha
    subst ha
    have hc := evA_ok H h1
    generalize hcv : a.eval c = cv at hc
    cases hc
    refine quiet_val H hd (v := if t then a.eval x else a.eval y) ?_ ?_
    · simp only [execOp, ho, hcv, asBool, Sem.run_bind, Sem.run_pure, Result.andThen_ok]
    · cases t
      · exact evA_ok H h3
      · exact evA_ok H h2
  · cases ha

theorem ok_load (T : TOk P tt) (H : Sim F ι lam n e h a w) (hd : ∀ d, dst = some d → d < n) {t : TypeId} {x : Operand} {k : Option Nat} (hk : aggOf tt t = some k) (ho : o.op = .load t x)
    (ha : aop e h nid dst (.load k x) = some eff) : Out P F ι lam n e h a w nid dst o (St.eff ⟨e, h, N⟩ dst eff) := by
  simp only [aop] at ha
  split at ha
  · rename_i p hp
    split at ha
    · rename_i l rd hl
      split at ha
      · rename_i r hr
        injection ha with ha
        subst ha
        obtain ⟨h1, h2⟩ := evS_ok H hp
        obtain ⟨h3, b, off, hc, h4⟩ := readAt_ok H h2 hl
        obtain ⟨v, h5, h6⟩ := load_ok T hk h3 h4 hr
        refine quiet_val H hd (v := v) ?_ h6
        simp only [execOp, ho, hc, Instr.loadAt, Instr.sureAddr, Sem.run_bind, Sem.run_pure, Result.andThen_ok, h5]
      · cases ha
    · cases ha
  · cases ha

theorem shiftP_ok {p q : SV} {m : Nat} {c : Value} (hs : shiftP m p = some q) (hp : ∀ d, RS F w ι lam d p c) :
    (∀ cs, q ≠ .box cs) ∧ ∃ b off, c = .pointer (some ⟨b, off, none⟩) ∧ ∀ d, RS F w ι lam d q (.pointer (some ⟨b, off + m, none⟩)) := by
  unfold shiftP at hs
  split at hs
  · injection hs with hs
    subst hs
    exact ⟨by simp, _, _, hp 0, fun d => rfl⟩
  · injection hs with hs
    subst hs
    refine ⟨by simp, ?_⟩
    have := hp 0
    cases this
    rename_i b hb
    exact ⟨_, _, rfl, fun d => .ptr _ _ _ _ hb⟩
  · injection hs with hs
    subst hs
    refine ⟨by simp, ?_⟩
    have := hp 0
    cases this
    rename_i b base cv hF hc hr
    refine ⟨_, _, rfl, fun d => ?_⟩
    rw [Nat.add_assoc]
    exact .pptr _ _ _ _ _ cv hF hc hr
  · cases hs

theorem ok_faddr (T : TOk P tt) (H : Sim F ι lam n e h a w) (hd : ∀ d, dst = some d → d < n) {t : TypeId} {x : Operand} {f : Nat} {i : TI} {fs : Array Field} {g : Field} {j : TI} (hi : tt t = some i)
    (hds : i.desc = .struct fs) (hg : fs[f]? = some g) (hj : tt g.type = some j) (hz : j.size ≠ 0) (ho : o.op = .fieldAddr t x f) (ha : aop e h nid dst (.faddr g.offset x) = some eff) :
    Out P F ι lam n e h a w nid dst o (St.eff ⟨e, h, N⟩ dst eff) := by
  simp only [aop] at ha
  split at ha
  · rename_i p hp
    split at ha
    · rename_i q hq
      injection ha with ha
      subst ha
      obtain ⟨h1, h2⟩ := evS_ok H hp
      obtain ⟨h3, b, off, hc, h4⟩ := shiftP_ok hq h2
      refine quiet_out H hd (v := .pointer (some ⟨b, off + g.offset, none⟩)) ?_ h3 h4
      simp only [execOp, ho, hc, Instr.fieldAt, Sem.run_bind, T.desc hi, Result.andThen_ok, hds, hg, Instr.sureAddr, Sem.run_pure, fieldPlace, T.size hj, hz, if_false, add_lit']
    · cases ha
  · cases ha

theorem ok_nilck (H : Sim F ι lam n e h a w) (hd : ∀ d, dst = some d → d < n) {x : Operand} (ho : o.op = .nilCheck x) (ha : aop e h nid dst (.nilck x) = some eff) :
    Out P F ι lam n e h a w nid dst o (St.eff ⟨e, h, N⟩ dst eff) := by
  simp only [aop] at ha
  split at ha
  · rename_i p hp
    cases hn : notNil p
    · simp [hn] at ha
    rw [hn] at ha
    simp only [cond_true, Option.some.injEq] at ha
    subst ha
    obtain ⟨h1, h2⟩ := evS_ok H hp
    refine quiet_out H hd (v := a.eval x) ?_ h1 h2
    have h3 := h2 0
    generalize hcv : a.eval x = cv at h3
    unfold notNil at hn
    split at hn
    · simp only [RS] at h3
      subst h3
      simp [execOp, ho, hcv]
    · cases h3
      simp [execOp, ho, hcv]
    · cases h3
      simp [execOp, ho, hcv]
    · cases h3
      simp [execOp, ho, hcv]
    · cases hn
  · cases ha

/-- A part of an aggregate. -/
theorem part_ok (T : TOk P tt) {t : TypeId} {k : Option Nat} (hk : aggOf tt t = some k) {cs : List AV} {vs : Array Value} {off : Nat} {l : List AV} {r : AV} (hvs : vs.size = cs.length)
    (hr : ∀ (j : Nat) (u : AV) (c : Value), cs[j]? = some u → vs[j]? = some c → RV F w ι u c) (hl : sub cs off (width k) = some l) (hs : shut k l = some r) :
    ∃ v, (part t vs off).run P w = .ok v w ∧ RV F w ι r v := by
  obtain ⟨h1, h2, h3⟩ := sub_ok hl
  have key : ∀ (m : Nat), off + m ≤ cs.length → (∀ j, j < m → l[j]? = cs[off + j]?) → l.length = m → RV F w ι (.agg l) (.agg (vs.extract off (off + m))) := by
    intro m hm hj hlm
    refine .agg _ _ _ (by simp [hlm, hvs]; omega) (fun j u c hu hc => ?_)
    have hjm : j < m := by rw [← hlm]; exact (List.getElem?_eq_some_iff.1 hu).1
    rw [hj j hjm] at hu
    refine hr _ _ _ hu ?_
    rw [Array.getElem?_extract] at hc
    split at hc
    · exact hc
    · cases hc
  unfold aggOf at hk
  split at hk
  case h_2 => cases hk
  rename_i i hi
  have hagg := T.agg hi w
  split at hk
  · rename_i fs hd
    injection hk with hk
    subst hk
    simp only [shut, Option.some.injEq] at hs
    subst hs
    refine ⟨_, ?_, key i.size h1 h3 h2⟩
    simp only [part, Sem.run_bind, hagg, hd, isAggD, Result.andThen_ok, if_true, T.size hi, Sem.run_pure]
  · rename_i m fs hd
    injection hk with hk
    subst hk
    simp only [shut, Option.some.injEq] at hs
    subst hs
    refine ⟨_, ?_, key i.size h1 h3 h2⟩
    simp only [part, Sem.run_bind, hagg, hd, isAggD, Result.andThen_ok, if_true, T.size hi, Sem.run_pure]
  · rename_i x1 x2
    cases hz : (i.size == 1)
    · simp [hz] at hk
    rw [hz] at hk
    simp only [cond_true, Option.some.injEq] at hk
    subst hk
    have hf : (isAggD i.desc) = false := by
      cases hd : i.desc <;> first | rfl | exact absurd hd (x1 _) | exact absurd hd (x2 _ _)
    rw [hf] at hagg
    simp only [width] at h1 h2 h3
    have h0 := h3 0 (by omega)
    cases l with
    | nil => simp at h2
    | cons x l =>
      cases l with
      | cons y l => simp at h2
      | nil =>
        simp only [shut, Option.some.injEq] at hs
        subst hs
        simp only [List.getElem?_cons_zero, Nat.add_zero] at h0
        have hlt : off < vs.size := by omega
        refine ⟨vs[off], ?_, hr off _ _ h0.symm (Array.getElem?_eq_getElem hlt)⟩
        simp only [part, Sem.run_bind, hagg, Result.andThen_ok, Bool.false_eq_true, if_false, Array.getElem?_eq_getElem hlt, Sem.run_pure]

theorem ok_fld (T : TOk P tt) (H : Sim F ι lam n e h a w) (hd : ∀ d, dst = some d → d < n) {t : TypeId} {x : Operand} {f : Nat} {i : TI} {fs : Array Field} {g : Field} {k : Option Nat} (hi : tt t = some i)
    (hds : i.desc = .struct fs) (hg : fs[f]? = some g) (hk : aggOf tt g.type = some k) (ho : o.op = .field t x f) (ha : aop e h nid dst (.fld g.offset k x) = some eff) :
    Out P F ι lam n e h a w nid dst o (St.eff ⟨e, h, N⟩ dst eff) := by
  simp only [aop] at ha
  split at ha
  · rename_i cs hx
    split at ha
    · rename_i l hl
      split at ha
      · rename_i r hr
        injection ha with ha
        subst ha
        have hv := evA_ok H hx
        generalize hcv : a.eval x = cv at hv
        cases hv
        rename_i vs h1 h2
        obtain ⟨v, h3, h4⟩ := part_ok T hk h1 h2 hl hr
        refine quiet_val H hd (v := v) ?_ h4
        simp only [execOp, ho, hcv, Instr.field, Sem.run_bind, T.desc hi, Result.andThen_ok, hds, hg, asAgg, Sem.run_pure, h3]
      · cases ha
    · cases ha
  · cases ha

theorem asInt_ok (H : Sim F ι lam n e h a w) {x : Operand} {m : Int} (hx : asInt (evA e x) = some m) : ∃ k, a.eval x = .int k m := by
  cases hy : evA e x with
  | none => rw [hy] at hx; simp [asInt] at hx
  | some y =>
    rw [hy] at hx
    unfold asInt at hx
    split at hx
    · rename_i k m' heq
      injection hx with hx
      injection heq with heq
      subst hx
      subst heq
      have := evA_ok H hy
      generalize a.eval x = cv at this
      cases this
      exact ⟨_, rfl⟩
    · cases hx

theorem ok_iaddr_slice (T : TOk P tt) (H : Sim F ι lam n e h a w) (hd : ∀ d, dst = some d → d < n) {t el : TypeId} {x ix : Operand} {i j : TI} (hi : tt t = some i) (hds : i.desc = .slice el)
    (hj : tt el = some j) (ho : o.op = .indexAddr t x ix) (ha : aop e h nid dst (.iaddr j.size none x ix) = some eff) : Out P F ι lam n e h a w nid dst o (St.eff ⟨e, h, N⟩ dst eff) := by
  simp only [aop] at ha
  split at ha
  · rename_i o' co len esz' cl m h1 h2 h3
    obtain ⟨k, hk⟩ := asInt_ok H h3
    cases hb : (j.size == esz' && decide (0 ≤ m) && decide (m < (len : Int)))
    · simp [hb] at ha
    rw [hb] at ha
    simp only [cond_true, Option.some.injEq] at ha
    subst ha
    simp only [Bool.and_eq_true, beq_iff_eq, decide_eq_true_eq] at hb
    obtain ⟨⟨h4, h5⟩, h6⟩ := hb
    subst h4
    have hv := (evS_ok H h2).2 0
    obtain ⟨b, cap, arr, ety, fz, hcv, hb, hh, hs, hl, hm, hc⟩ := hv.slice_inv
    refine quiet_val H hd (v := .pointer (some ⟨b, co + m.toNat * j.size, none⟩)) ?_ (.ptr _ _ _ _ hb)
    simp only [execOp, ho, hcv, hk, Instr.indexAt, Sem.run_bind, T.desc hi, Result.andThen_ok, hds, asIntOf, Sem.run_pure, T.size hj, h5, h6, and_self, if_true, add_lit']
  · rename_i cs len esz' cl m h1 h2 h3
    obtain ⟨k, hk⟩ := asInt_ok H h3
    cases hb : (decide (0 ≤ m) && decide (m < (len : Int)))
    · simp [hb] at ha
    rw [hb] at ha
    simp only [cond_true, Option.some.injEq] at ha
    subst ha
    simp only [Bool.and_eq_true, decide_eq_true_eq] at hb
    obtain ⟨h5, h6⟩ := hb
    have hv := (evS_ok H h2).2 0
    obtain ⟨ad, cap, b, base, cv, hcv, hl, hm, hc, hp, hne, hcell, hr⟩ := hv.pslice_inv
    have hpos : 0 < len := by omega
    obtain ⟨rfl, hF⟩ := hp hpos
    refine quiet_val H hd (v := .pointer (some ⟨b, base + m.toNat * j.size, none⟩)) ?_ (.pptr _ cs _ b base cv hF hcell hr)
    simp only [execOp, ho, hcv, hk, Instr.indexAt, Sem.run_bind, T.desc hi, Result.andThen_ok, hds, asIntOf, Sem.run_pure, T.size hj, h5, h6, and_self, if_true, add_lit']
  · rename_i h1 _ _
    cases h1
  · cases ha

theorem ok_iaddr_arr (T : TOk P tt) (H : Sim F ι lam n e h a w) (hd : ∀ d, dst = some d → d < n) {t el : TypeId} {x ix : Operand} {i j : TI} {len : Nat} (hi : tt t = some i) (hds : i.desc = .array len el)
    (hj : tt el = some j) (ho : o.op = .indexAddr t x ix) (ha : aop e h nid dst (.iaddr j.size (some len) x ix) = some eff) : Out P F ι lam n e h a w nid dst o (St.eff ⟨e, h, N⟩ dst eff) := by
  simp only [aop] at ha
  split at ha
  · rename_i h1 _ _
    cases h1
  · rename_i h1 _ _
    cases h1
  · rename_i len' p m h1 h2 h3
    injection h1 with h1
    subst h1
    obtain ⟨k, hk⟩ := asInt_ok H h3
    cases hb : (decide (0 ≤ m) && decide (m < (len : Int)))
    · simp [hb] at ha
    rw [hb] at ha
    simp only [cond_true] at ha
    simp only [Bool.and_eq_true, decide_eq_true_eq] at hb
    obtain ⟨h5, h6⟩ := hb
    split at ha
    · rename_i q hq
      injection ha with ha
      subst ha
      obtain ⟨h7, h8⟩ := evS_ok H h2
      obtain ⟨h9, b, off, hc, h10⟩ := shiftP_ok hq h8
      refine quiet_out H hd (v := .pointer (some ⟨b, off + m.toNat * j.size, none⟩)) ?_ h9 h10
      simp only [execOp, ho, hc, hk, Instr.indexAt, Sem.run_bind, T.desc hi, Result.andThen_ok, hds, asIntOf, Instr.sureAddr, Sem.run_pure, T.size hj, h5, h6, and_self, if_true, add_lit']
    · cases ha
  · cases ha

theorem ok_idx_str (T : TOk P tt) (H : Sim F ι lam n e h a w) (hd : ∀ d, dst = some d → d < n) {t : TypeId} {x ix : Operand} {i : TI} (hi : tt t = some i) (hds : i.desc = .string)
    (ho : o.op = .index t x ix) (ha : aop e h nid dst (.idx none x ix) = some eff) : Out P F ι lam n e h a w nid dst o (St.eff ⟨e, h, N⟩ dst eff) := by
  simp only [aop] at ha
  split at ha
  · rename_i s m h1 h2 h3
    obtain ⟨k, hk⟩ := asInt_ok H h3
    have hcv := (evA_ok H h2).str_inv
    cases hb : decide (0 ≤ m)
    · simp [hb] at ha
    rw [hb] at ha
    simp only [cond_true, decide_eq_true_eq] at ha hb
    split at ha
    · rename_i b hbb
      injection ha with ha
      subst ha
      refine quiet_val H hd (v := .int .u8 b.toNat) ?_ (.int _ _ _)
      simp only [execOp, ho, hcv, hk, Instr.index, Sem.run_bind, T.desc hi, Result.andThen_ok, hds, asIntOf, Sem.run_pure, hb, if_true, hbb]
    · cases ha
  · rename_i h1 _ _
    cases h1
  · cases ha

theorem ok_idx_arr (T : TOk P tt) (H : Sim F ι lam n e h a w) (hd : ∀ d, dst = some d → d < n) {t el : TypeId} {x ix : Operand} {i j : TI} {len : Nat} {k : Option Nat} (hi : tt t = some i) (hds : i.desc = .array len el)
    (hj : tt el = some j) (hk : aggOf tt el = some k) (ho : o.op = .index t x ix) (ha : aop e h nid dst (.idx (some (len, j.size, k)) x ix) = some eff) : Out P F ι lam n e h a w nid dst o (St.eff ⟨e, h, N⟩ dst eff) := by
  simp only [aop] at ha
  split at ha
  · rename_i h1 _ _
    cases h1
  · rename_i len' esz' k' cs m h1 h2 h3
    injection h1 with h1
    injection h1 with h1 h4
    injection h4 with h4 h5
    subst h1
    subst h4
    subst h5
    obtain ⟨kk, hkk⟩ := asInt_ok H h3
    cases hb : (decide (0 ≤ m) && decide (m < (len : Int)))
    · simp [hb] at ha
    rw [hb] at ha
    simp only [cond_true] at ha
    simp only [Bool.and_eq_true, decide_eq_true_eq] at hb
    split at ha
    · rename_i l hl
      split at ha
      · rename_i r hr
        injection ha with ha
        subst ha
        obtain ⟨vs, hcv, h1, h2⟩ := (evA_ok H h2).agg_inv
        obtain ⟨v, h3, h4⟩ := part_ok T hk h1 h2 hl hr
        refine quiet_val H hd (v := v) ?_ h4
        simp only [execOp, ho, hcv, hkk, Instr.index, Sem.run_bind, T.desc hi, Result.andThen_ok, hds, asIntOf, Sem.run_pure, hb, and_self, if_true, T.size hj, h3]
      · cases ha
    · cases ha
  · cases ha

theorem ok_ext (H : Sim F ι lam n e h a w) (hd : ∀ d, dst = some d → d < n) {x : Operand} {i : Nat} (ho : o.op = .extract x i) (ha : aop e h nid dst (.ext x i) = some eff) :
    Out P F ι lam n e h a w nid dst o (St.eff ⟨e, h, N⟩ dst eff) := by
  simp only [aop] at ha
  split at ha
  · rename_i l hx
    split at ha
    · rename_i r hr
      injection ha with ha
      subst ha
      obtain ⟨vs, hcv, h1, h2⟩ := (evA_ok H hx).tuple_inv
      have hlt : i < vs.size := by rw [h1]; exact (List.getElem?_eq_some_iff.1 hr).1
      refine quiet_val H hd (v := vs[i]) ?_ (h2 i _ _ hr (Array.getElem?_eq_getElem hlt))
      simp only [execOp, ho, hcv, Instr.extract, Array.getElem?_eq_getElem hlt, Sem.run_bind, Sem.run_pure, Result.andThen_ok]
    · cases ha
  · cases ha

theorem ok_mkfn (H : Sim F ι lam n e h a w) (hd : ∀ d, dst = some d → d < n) {fn : Fn} {x y : Array Operand} (ho : o.op = .makeFunc fn x y) (ha : aop e h nid dst (.mkfn fn x.toList y.toList) = some eff) :
    Out P F ι lam n e h a w nid dst o (St.eff ⟨e, h, N⟩ dst eff) := by
  simp only [aop] at ha
  split at ha
  · rename_i l l' h1 h2
    injection ha with ha
    subst ha
    obtain ⟨k1, k2⟩ := evAs_ok H h1
    obtain ⟨k3, k4⟩ := evAs_ok H h2
    refine quiet_val H hd (v := .func fn (x.map a.eval) (y.map a.eval)) ?_ (.func _ _ _ _ _ _ (by simp [k1]) (by simp [k3]) (fun j u c hu hc => k2 j u c hu ?_) (fun j u c hu hc => k4 j u c hu ?_))
    · simp only [execOp, ho, Instr.makeFunc, Sem.run_bind, Sem.run_pure, Result.andThen_ok]
    · simpa using hc
    · simpa using hc
  · cases ha

theorem ok_un (H : Sim F ι lam n e h a w) (hd : ∀ d, dst = some d → d < n) {op : UnOp} {t : TypeId} {x : Operand} (ho : o.op = .unOp op t x) (ha : aop e h nid dst (.un op x) = some eff) :
    Out P F ι lam n e h a w nid dst o (St.eff ⟨e, h, N⟩ dst eff) := by
  simp only [aop] at ha
  split at ha
  · rename_i y hx
    split at ha
    · rename_i r hr
      injection ha with ha
      subst ha
      have hy := evA_ok H hx
      unfold unop at hr
      split at hr
      · have hcv := hy.int_inv
        injection hr with hr
        subst hr
        refine quiet_val H hd ?_ (.int _ _ _)
        simp only [execOp, ho, hcv, Op.unary, Op.intArith, Sem.run_bind, Sem.run_pure, Result.andThen_ok]
      · have hcv := hy.int_inv
        simp only [binInt, Option.some.injEq] at hr
        subst hr
        refine quiet_val H hd ?_ (.int _ _ _)
        simp only [execOp, ho, hcv, Op.unary, Op.intBits, Sem.run_bind, Sem.run_pure, Result.andThen_ok]
      · have hcv := hy.bool_inv
        injection hr with hr
        subst hr
        refine quiet_val H hd ?_ (.bool _ _)
        simp only [execOp, ho, hcv, Op.unary, Sem.run_bind, Sem.run_pure, Result.andThen_ok]
      · cases hr
    · cases ha
  · cases ha

theorem ok_cvt_int (T : TOk P tt) (H : Sim F ι lam n e h a w) (hd : ∀ d, dst = some d → d < n) {s t : TypeId} {x : Operand} {i j : TI} {k k' : IntKind} (hi : tt s = some i) (hj : tt t = some j) (hds : i.desc = .int k') (hdt : j.desc = .int k)
    (ho : o.op = .convert s t x) (ha : aop e h nid dst (.cvt (.int k) x) = some eff) : Out P F ι lam n e h a w nid dst o (St.eff ⟨e, h, N⟩ dst eff) := by
  simp only [aop] at ha
  split at ha
  · rename_i k1 k2 m h1 h2
    injection h1 with h1
    subst h1
    injection ha with ha
    subst ha
    have hcv := (evA_ok H h2).int_inv
    refine quiet_val H hd ?_ (.int _ _ _)
    simp only [execOp, ho, hcv, convert, Sem.run_bind, T.desc hi, T.desc hj, Result.andThen_ok, hds, hdt, Conv.intToInt, Sem.run_pure]
  · rename_i h1 _; cases h1
  · rename_i h1 _; cases h1
  · cases ha

theorem ok_cvt_same (T : TOk P tt) (H : Sim F ι lam n e h a w) (hd : ∀ d, dst = some d → d < n) {s t : TypeId} {x : Operand} {i j : TI} (hi : tt s = some i) (hj : tt t = some j) (hds : i.desc = .string) (hdt : j.desc = .string)
    (ho : o.op = .convert s t x) (ha : aop e h nid dst (.cvt .same x) = some eff) : Out P F ι lam n e h a w nid dst o (St.eff ⟨e, h, N⟩ dst eff) := by
  simp only [aop] at ha
  split at ha
  · rename_i h1 _; cases h1
  · rename_i s h1 h2
    injection ha with ha
    subst ha
    have hcv := (evA_ok H h2).str_inv
    refine quiet_val H hd ?_ (.str _ _)
    simp only [execOp, ho, hcv, convert, Sem.run_bind, T.desc hi, T.desc hj, Result.andThen_ok, hds, hdt, Sem.run_pure]
  · rename_i h1 _; cases h1
  · cases ha

end
end Go.AM
