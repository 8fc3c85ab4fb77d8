/- An abstract weakest precondition over the model's code, first text: abstract values, abstract objects, what an operation, a region and code ask of an abstract state. -/
import Derived.WalkKit
import Derived.Laws.StructEq
import Derived.Orders
namespace Go.Ve

abbrev Bs := List UInt8

/-- An abstract value: what a slot holds. Constant memory is told by what it holds ('sl', 'cptr'), the call's own objects by their numbers. -/
inductive AV where
  | undef
  | und
  | int (k : IntKind) (n : Int)
  | bool (b : Bool)
  | str (s : Bs)
  | nils
  | sl (es : List (List AV))
  | own (id : Nat)
  | cptr (cs : List AV)
  | ptr (id off : Nat)
  | eptr (id i sz off : Nat)
  | nilp
  | agg (cs : List AV)
  | tup (vs : List AV)
  | fn (f : FuncId) (cap : List AV)
  | nilf
  | nili
  | ifc (t : TypeId) (v : AV)
  deriving Inhabited

/-- One of the call's own objects: a variable; the row behind a slice; a row that is written no more; one that is gone. -/
inductive Ob where
  | box (t : TypeId) (cs : List AV)
  | row (t sz : Nat) (es : List (List AV))
  | frz (es : List (List AV))
  | dead
  deriving Inhabited

abbrev Hp := List Ob
abbrev Env := Nat → AV
def upd (e : Env) (d : Nat) (v : AV) : Env := fun i => bif Nat.beq i d then v else e i
structure AS where
  env : Env
  H : Hp

/-! ### forcing: the same, with the value laid open (for the reduction alone) -/
def forceA : AV → (AV → Prop) → Prop
  | .undef, K => K .undef | .und, K => K .und | .int k n, K => K (.int k n) | .bool b, K => K (.bool b) | .str s, K => K (.str s) | .nils, K => K .nils | .sl es, K => K (.sl es)
  | .own i, K => K (.own i) | .cptr cs, K => K (.cptr cs) | .ptr i o, K => K (.ptr i o) | .eptr a b c d, K => K (.eptr a b c d) | .nilp, K => K .nilp
  | .agg cs, K => K (.agg cs) | .tup cs, K => K (.tup cs) | .fn f cs, K => K (.fn f cs) | .nilf, K => K .nilf | .nili, K => K .nili | .ifc t v, K => K (.ifc t v)
def forceL : List AV → (List AV → Prop) → Prop
  | [], K => K []
  | x :: xs, K => forceA x fun y => forceL xs fun ys => K (y :: ys)
def forceV : AV → (AV → Prop) → Prop
  | .agg cs, K => forceL cs fun ds => K (.agg ds)
  | .tup cs, K => forceL cs fun ds => K (.tup ds)
  | .fn f cs, K => forceL cs fun ds => K (.fn f ds)
  | v, K => forceA v K
def forceO : Ob → (Ob → Prop) → Prop
  | .box t cs, K => forceL cs fun ds => K (.box t ds)
  | .row t s es, K => K (.row t s es)
  | .frz es, K => K (.frz es)
  | .dead, K => K .dead
def forceH : Hp → (Hp → Prop) → Prop
  | [], K => K []
  | x :: xs, K => forceO x fun y => forceH xs fun ys => K (y :: ys)
def forceLL : List (List AV) → (List (List AV) → Prop) → Prop
  | [], K => K []
  | x :: xs, K => forceL x fun y => forceLL xs fun ys => K (y :: ys)
def forceN (n : Nat) (K : Nat → Prop) : Prop :=
  bif Nat.beq n 0 then K 0 else bif Nat.beq n 1 then K 1 else bif Nat.beq n 2 then K 2 else bif Nat.beq n 3 then K 3 else bif Nat.beq n 4 then K 4 else bif Nat.beq n 5 then K 5 else bif Nat.beq n 6 then K 6 else bif Nat.beq n 7 then K 7 else
  bif Nat.beq n 8 then K 8 else bif Nat.beq n 9 then K 9 else bif Nat.beq n 10 then K 10 else bif Nat.beq n 11 then K 11 else bif Nat.beq n 12 then K 12 else bif Nat.beq n 13 then K 13 else bif Nat.beq n 14 then K 14 else bif Nat.beq n 15 then K 15 else K n
theorem forceA_eq (v : AV) (K : AV → Prop) : forceA v K = K v := by cases v <;> rfl
theorem forceL_eq : ∀ (l : List AV) (K : List AV → Prop), forceL l K = K l
  | [], _ => rfl
  | x :: xs, K => by simp only [forceL, forceA_eq, forceL_eq xs]
theorem forceV_eq (v : AV) (K : AV → Prop) : forceV v K = K v := by cases v <;> simp only [forceV, forceA_eq, forceL_eq]
theorem forceO_eq (v : Ob) (K : Ob → Prop) : forceO v K = K v := by cases v <;> simp only [forceO, forceL_eq]
theorem forceH_eq : ∀ (l : Hp) (K : Hp → Prop), forceH l K = K l
  | [], _ => rfl
  | x :: xs, K => by simp only [forceH, forceO_eq, forceH_eq xs]
theorem forceLL_eq : ∀ (l : List (List AV)) (K : List (List AV) → Prop), forceLL l K = K l
  | [], _ => rfl
  | x :: xs, K => by simp only [forceLL, forceL_eq, forceLL_eq xs]
theorem forceN_eq (n : Nat) (K : Nat → Prop) : forceN n K = K n := by
  unfold forceN
  iterate 16 (cases n with | zero => rfl | succ n => ?_)
  rfl

/-! ### types -/
inductive TK where
  | int (k : IntKind) | bool | str | slice (e : TypeId) | struct (fs : List (Nat × TypeId)) | array (n : Nat) (e : TypeId) | ptr | func | other
/-- The kind of a cell of a struct that is compared. -/
inductive LK where
  | int (k : IntKind) | bool | str
structure TI where
  k : TK
  size : Nat
  bytes : Nat
  zero : List AV
  eqk : List LK
abbrev TT := TypeId → Option TI
def TI.isAgg (i : TI) : Bool := match i.k with | .struct _ => true | .array _ _ => true | _ => false

def cellsOf : AV → List AV
  | .agg cs => cs
  | v => [v]
/-- Values of one cell that name none of the call's own objects. -/
def closed1 : AV → Bool
  | .int _ _ | .bool _ | .str _ | .nils | .sl _ | .cptr _ | .nilp | .nilf | .nili => true
  | _ => false
def isCell : AV → Bool
  | .int _ _ | .bool _ | .str _ | .nils | .sl _ | .cptr _ | .nilp | .nilf | .nili | .own _ | .ptr _ _ | .eptr _ _ _ _ | .fn _ _ | .ifc _ _ => true
  | _ => false
def splice (cs : List AV) (off : Nat) (ds : List AV) : List AV := cs.take off ++ ds ++ cs.drop (off + ds.length)

def cst : Value → AV
  | .int k n => .int k n
  | .bool b => .bool b
  | .string s => .str s.data.toList
  | .slice none 0 0 => .nils
  | .pointer none => .nilp
  | .nilIface => .nili
  | .nilFunc => .nilf
  | _ => .undef
def evalO (e : Env) : Operand → AV
  | .tmp t => e t
  | .const v => cst v
  | .func f => .fn f []
  | .global _ => .undef

abbrev KV := AV → Hp → Prop

/-- A value of type i out of the cells that begin here. -/
def ldc (i : TI) (cs : List AV) (H : Hp) (K : KV) : Prop :=
  bif i.isAgg then (bif Nat.ble i.size cs.length then K (.agg (cs.take i.size)) H else False)
  else match cs with
    | x :: _ => K x H
    | [] => False

def rowOf : Option Ob → Option (List (List AV))
  | some (.row _ _ es) => some es
  | some (.frz es) => some es
  | _ => none

def aload (T : TT) (t : TypeId) (p : AV) (H : Hp) (K : KV) : Prop :=
  match T t with
  | none => False
  | some i =>
    match p with
    | .ptr id off => (match H[id]? with
      | some (.box _ cs) => ldc i (cs.drop off) H K
      | _ => False)
    | .cptr cs => ldc i cs H K
    | .eptr id ix sz off => (match H[id]? with
      | some (.row _ rs es) => bif Nat.beq sz rs then ∃ c, es[ix]? = some c ∧ ldc i (c.drop off) H K else False
      | _ => False)
    | _ => False

def astore (T : TT) (t : TypeId) (p v : AV) (H : Hp) (K : KV) : Prop :=
  match T t with
  | none => False
  | some i =>
    bif Nat.beq (cellsOf v).length i.size && (cellsOf v).all isCell then
      match p with
      | .ptr id off => (match H[id]? with
        | some (.box bt cs) => bif Nat.ble (off + (cellsOf v).length) cs.length then K .undef (H.set id (.box bt (splice cs off (cellsOf v)))) else False
        | _ => False)
      | .eptr id ix sz off => (match H[id]? with
        | some (.row rt rs es) => bif Nat.beq sz rs && Nat.ble (off + (cellsOf v).length) rs && (cellsOf v).all closed1 then
            ∃ c, es[ix]? = some c ∧ K .undef (H.set id (.row rt rs (es.set ix (splice c off (cellsOf v))))) else False
        | _ => False)
      | _ => False
    else False

/-- A test: both ways. -/
def test (p : Prop) (H : Hp) (K : KV) : Prop := (p → K (.bool true) H) ∧ (¬ p → K (.bool false) H)
def ntest (p : Prop) (H : Hp) (K : KV) : Prop := (p → K (.bool false) H) ∧ (¬ p → K (.bool true) H)

def sameKind (k k' : IntKind) : Bool := match k, k' with
  | .i8, .i8 | .i16, .i16 | .i32, .i32 | .i64, .i64 | .u8, .u8 | .u16, .u16 | .u32, .u32 | .u64, .u64 => true
  | _, _ => false

def eqLeaf : LK → AV → AV → Option Prop
  | .int k, .int a x, .int b y => bif sameKind k a && sameKind k b then some (x = y) else none
  | .bool, .bool x, .bool y => some (x = y)
  | .str, .str x, .str y => some (x = y)
  | _, _, _ => none
/-- Equal cells, for struct and array values of whole numbers, bools and strings. -/
def eqCells : List LK → List AV → List AV → Option Prop
  | [], [], [] => some True
  | k :: ks, x :: xs, y :: ys => (match eqLeaf k x y with
    | some p => (match ks with
      | [] => (match xs, ys with | [], [] => some p | _, _ => none)
      | _ :: _ => (match eqCells ks xs ys with | some q => some (p ∧ q) | none => none))
    | none => none)
  | _, _, _ => none

def aeql (T : TT) (t : TypeId) (x y : AV) : Option Prop :=
  match T t with
  | none => none
  | some i =>
    match i.k, x, y with
    | .bool, .bool a, .bool b => some (a = b)
    | .slice _, .nils, .nils => some True
    | .ptr, .nilp, .nilp => some True
    | .ptr, .ptr _ _, .nilp => some False
    | .ptr, .cptr _, .nilp => some False
    | .func, .nilf, .nilf => some True
    | .func, .fn _ _, .nilf => some False
    | .struct _, .agg cs, .agg ds => (match i.eqk with | [] => none | _ :: _ => eqCells i.eqk cs ds)
    | .array _ _, .agg cs, .agg ds => (match i.eqk with | [] => none | _ :: _ => eqCells i.eqk cs ds)
    | _, _, _ => none

def aint (op : BinOp) (k : IntKind) (a b : Int) (H : Hp) (K : KV) : Prop :=
  match op with
  | .add => K (.int k (k.wrap (a + b))) H
  | .sub => K (.int k (k.wrap (a - b))) H
  | .mul => K (.int k (k.wrap (a * b))) H
  | .quo => b ≠ 0 ∧ K (.int k (k.wrap (a.tdiv b))) H
  | .rem => b ≠ 0 ∧ K (.int k (a.tmod b)) H
  | .and => K (.int k (bits .and k a b)) H
  | .or => K (.int k (bits .or k a b)) H
  | .xor => K (.int k (bits .xor k a b)) H
  | .andNot => K (.int k (bits .andNot k a b)) H
  | .eql => test (a = b) H K
  | .neq => ntest (a = b) H K
  | .lss => test (a < b) H K
  | .leq => test (a ≤ b) H K
  | .gtr => test (b < a) H K
  | .geq => test (b ≤ a) H K
  | _ => False

/-- A slice against nil; 'yes': what comes where it is nil. -/
def anil (T : TT) (t : TypeId) (x y : AV) (H : Hp) (K : KV) (yes : Bool) : Prop :=
  match T t with
  | none => False
  | some i =>
    match i.k, x, y with
    | .slice _, .sl es, .nils => K (.bool (!yes)) H ∧ (es = [] → K (.bool yes) H)
    | .slice _, .own id, .nils => (match H[id]? with | some (.row _ _ _) => K (.bool (!yes)) H | _ => False)
    | _, _, _ => False

def aeqop (T : TT) (nilok : Bool) (op : BinOp) (t : TypeId) (x y : AV) (H : Hp) (K : KV) : Prop :=
  match op with
  | .eql => (match aeql T t x y with | some p => test p H K | none => bif nilok then anil T t x y H K true else False)
  | .neq => (match aeql T t x y with | some p => ntest p H K | none => bif nilok then anil T t x y H K false else False)
  | _ => False

def abin (T : TT) (nilok : Bool) (op : BinOp) (t : TypeId) (x y : AV) (H : Hp) (K : KV) : Prop :=
  match op with
  | .shl => (match x, y with | .int k a, .int _ b => 0 ≤ b ∧ K (.int k (k.wrap (a * 2 ^ (min b.toNat k.bits)))) H | _, _ => False)
  | .shr => (match x, y with | .int k a, .int _ b => 0 ≤ b ∧ K (.int k (a.fdiv (2 ^ (min b.toNat k.bits)))) H | _, _ => False)
  | _ =>
    match x, y with
    | .int k a, .int k' b => bif sameKind k k' then aint op k a b H K else False
    | .str a, .str b => (match op with
      | .add => a.length + b.length ≤ 9223372036854775807 ∧ K (.str (a ++ b)) H
      | .eql => test (a = b) H K
      | .neq => ntest (a = b) H K
      | .lss => test (Op.bytesLess a b = true) H K
      | .geq => ntest (Op.bytesLess a b = true) H K
      | _ => False)
    | _, _ => aeqop T nilok op t x y H K

def aun (op : UnOp) (x : AV) (H : Hp) (K : KV) : Prop :=
  match op, x with
  | .not, .bool b => K (.bool (!b)) H
  | .neg, .int k n => K (.int k (k.wrap (0 - n))) H
  | .xor, .int k n => K (.int k (bits .xor k (if k.signed then -1 else k.max) n)) H
  | _, _ => False

def byteCell (b : UInt8) : List AV := [.int .u8 b.toNat]

def isU8 (T : TT) (i : TI) : Bool := match i.k with
  | .slice e => (match T e with
    | some ei => (match ei.k with | .int .u8 => true | _ => false)
    | none => false)
  | _ => false

def aconv (T : TT) (s d : TypeId) (x : AV) (H : Hp) (K : KV) : Prop :=
  match T s, T d with
  | some si, some di =>
    (match di.k, x with
    | .int k, .int _ n => K (.int k (k.wrap n)) H
    | .str, .str b => K (.str b) H
    | .str, .nils => bif isU8 T si then K (.str []) H else False
    | .str, .sl es => bif isU8 T si then ∃ l : Bs, es = l.map byteCell ∧ K (.str l) H else False
    | .str, .own id => bif isU8 T si then (match rowOf H[id]? with | some es => ∃ l : Bs, es = l.map byteCell ∧ K (.str l) H | none => False) else False
    | .slice _, .str b => bif isU8 T di then b.length ≤ 9223372036854775807 ∧ K (.sl (b.map byteCell)) H else False
    | _, _ => False)
  | _, _ => False

def bound (len : Nat) : Option AV → Nat → (Nat → Prop) → Prop
  | none, d, K => K d
  | some (.int _ n), _, K => 0 ≤ n ∧ n ≤ len ∧ K n.toNat
  | some _, _, _ => False

/-- Each element has so many cells. -/
def allLen (sz : Nat) (es : List (List AV)) : Prop := ∀ c ∈ es, c.length = sz

def aslice (T : TT) (t : TypeId) (x : AV) (lo hi : Option AV) (H : Hp) (K : KV) : Prop :=
  match T t with
  | none => False
  | some i =>
    match i.k, x with
    | .str, .str s => bound s.length hi s.length fun h => bound h lo 0 fun l => K (.str ((s.take h).drop l)) H
    | .slice e, .sl es => (match T e with
      | some ei => bound es.length hi es.length fun h => bound h lo 0 fun l => allLen ei.size es ∧ K (.sl ((es.take h).drop l)) H
      | none => False)
    | .slice e, .nils => (match T e with
      | some _ => bound 0 hi 0 fun h => bound h lo 0 fun _ => K .nils H
      | none => False)
    | .slice e, .own id => (match T e, H[id]? with
      | some ei, some (.row _ rs es) => bif Nat.beq rs ei.size then bound es.length hi es.length fun h => bound h lo 0 fun l => K (.sl ((es.take h).drop l)) (H.set id (.frz es)) else False
      | some ei, some (.frz es) => bound es.length hi es.length fun h => bound h lo 0 fun l => allLen ei.size es ∧ K (.sl ((es.take h).drop l)) H
      | _, _ => False)
    | _, _ => False

def afield (T : TT) (s : TypeId) (p : AV) (f : Nat) (H : Hp) (K : KV) : Prop :=
  match T s with
  | some i => (match i.k with
    | .struct fs => (match fs[f]? with
      | some (off, ft) => (match T ft with
        | some fi => bif Nat.blt 0 fi.size then
            (match p with
            | .ptr id o => K (.ptr id (o + off)) H
            | .cptr cs => K (.cptr (cs.drop off)) H
            | .eptr id ix sz o => K (.eptr id ix sz (o + off)) H
            | _ => False) else False
        | none => False)
      | none => False)
    | _ => False)
  | none => False

def apart (i : TI) (cs : List AV) (off : Nat) (H : Hp) (K : KV) : Prop :=
  bif i.isAgg then (bif Nat.ble (off + i.size) cs.length then K (.agg ((cs.drop off).take i.size)) H else False)
  else match cs[off]? with
    | some x => K x H
    | none => False

def afieldv (T : TT) (s : TypeId) (x : AV) (f : Nat) (H : Hp) (K : KV) : Prop :=
  match T s with
  | some i => (match i.k, x with
    | .struct fs, .agg cs => (match fs[f]? with
      | some (off, ft) => (match T ft with
        | some fi => apart fi cs off H K
        | none => False)
      | none => False)
    | _, _ => False)
  | none => False

def aixaddr (T : TT) (t : TypeId) (x ix : AV) (H : Hp) (K : KV) : Prop :=
  match T t, ix with
  | some i, .int _ n =>
    (match i.k, x with
    | .slice e, .sl es => (match T e with
      | some ei => 0 ≤ n ∧ ∃ c, es[n.toNat]? = some c ∧ c.length = ei.size ∧ K (.cptr c) H
      | none => False)
    | .slice e, .own id => (match T e, H[id]? with
      | some ei, some (.row _ sz es) => bif Nat.beq ei.size sz then 0 ≤ n ∧ n.toNat < es.length ∧ K (.eptr id n.toNat sz 0) H else False
      | some ei, some (.frz es) => 0 ≤ n ∧ ∃ c, es[n.toNat]? = some c ∧ c.length = ei.size ∧ K (.cptr c) H
      | _, _ => False)
    | .array m e, .ptr id o => (match T e with
      | some ei => 0 ≤ n ∧ n < m ∧ K (.ptr id (o + n.toNat * ei.size)) H
      | none => False)
    | .array m e, .cptr cs => (match T e with
      | some ei => 0 ≤ n ∧ n < m ∧ K (.cptr (cs.drop (n.toNat * ei.size))) H
      | none => False)
    | .array m e, .eptr id j sz o => (match T e with
      | some ei => 0 ≤ n ∧ n < m ∧ K (.eptr id j sz (o + n.toNat * ei.size)) H
      | none => False)
    | _, _ => False)
  | _, _ => False

def aindex (T : TT) (t : TypeId) (x ix : AV) (H : Hp) (K : KV) : Prop :=
  match T t, ix with
  | some i, .int _ n =>
    (match i.k, x with
    | .str, .str s => 0 ≤ n ∧ ∃ c, s[n.toNat]? = some c ∧ K (.int .u8 c.toNat) H
    | .array m e, .agg cs => (match T e with
      | some ei => 0 ≤ n ∧ n < m ∧ apart ei cs (n.toNat * ei.size) H K
      | none => False)
    | _, _ => False)
  | _, _ => False

def afill (places : Nat → Option (Nat × Nat)) : List AV → List (Nat × AV) → Option (List AV)
  | cells, [] => some cells
  | cells, (i, v) :: rest => match places i with
    | none => none
    | some (off, size) => bif Nat.beq (cellsOf v).length size && Nat.ble (off + size) cells.length then afill places (splice cells off (cellsOf v)) rest else none

def placesOf (T : TT) (i : TI) : Nat → Option (Nat × Nat) := fun j => match i.k with
  | .struct fs => (match fs[j]? with
    | some (off, ft) => (T ft).map fun fi => (off, fi.size)
    | none => none)
  | .array _ e => (T e).map fun ei => (j * ei.size, ei.size)
  | _ => none

def abuild (T : TT) (t : TypeId) (parts : List (Nat × AV)) (H : Hp) (K : KV) : Prop :=
  match T t with
  | some i => bif i.isAgg && (parts.all fun p => (cellsOf p.2).all isCell) then (match afill (placesOf T i) i.zero parts with
    | some cs => K (.agg cs) H
    | none => False) else False
  | none => False

/-- The elements of a list literal: every place given, in order, once. -/
def aelems (size : Nat) : Nat → List (Nat × AV) → Option (List (List AV))
  | _, [] => some []
  | j, (i, v) :: rest => bif Nat.beq i j && Nat.beq (cellsOf v).length size && (cellsOf v).all closed1 then (aelems size (j + 1) rest).map (cellsOf v :: ·) else none

def abuildSlice (T : TT) (t : TypeId) (len : Nat) (parts : List (Nat × AV)) (H : Hp) (K : KV) : Prop :=
  match T t with
  | some i => (match i.k with
    | .slice e => (match T e with
      | some ei => bif Nat.blt 0 ei.size && Nat.ble (len * ei.size) 65536 && Nat.beq parts.length len then
          (match aelems ei.size 0 parts with
          | some es => forceLL es fun es' => forceN H.length fun i0 => K (.own i0) (H ++ [.row e ei.size es'])
          | none => False) else False
      | none => False)
    | _ => False)
  | none => False

def amake (T : TT) (t : TypeId) (l c : AV) (H : Hp) (K : KV) : Prop :=
  match T t, l, c with
  | some i, .int _ n, .int _ m => (match i.k with
    | .slice e => (match T e with
      | some ei => bif Nat.blt 0 ei.size && Nat.beq ei.zero.length ei.size && ei.zero.all closed1 then
          0 ≤ n ∧ n ≤ m ∧ m * ei.bytes ≤ 140737488355328 ∧ m ≤ 9223372036854775807 ∧ forceN H.length fun i0 => K (.own i0) (H ++ [.row e ei.size (List.replicate n.toNat ei.zero)]) else False
      | none => False)
    | _ => False)
  | _, _, _ => False

def alen (T : TT) (t : TypeId) (x : AV) (H : Hp) (K : KV) : Prop :=
  match T t with
  | none => False
  | some i =>
    match i.k, x with
    | .str, .str s => K (.int .i64 s.length) H
    | .slice _, .sl es => K (.int .i64 es.length) H
    | .slice _, .nils => K (.int .i64 0) H
    | .slice _, .own id => (match rowOf H[id]? with | some es => K (.int .i64 es.length) H | none => False)
    | .array n _, _ => K (.int .i64 n) H
    | _, _ => False

/-- The elements that an append takes over, all closed: a constant list, or one of the call's own. -/
def srcOf (H : Hp) : AV → Option (List (List AV))
  | .sl es => some es
  | .nils => some []
  | .own id => rowOf H[id]?
  | _ => none
/-- What is known of an element of a list that is taken over: its cells. -/
def allCells (sz : Nat) (es : List (List AV)) : Prop := ∀ c ∈ es, c.length = sz ∧ c.all closed1 = true

def aappend (T : TT) (t : TypeId) (x y : AV) (H : Hp) (K : KV) : Prop :=
  match T t with
  | some i => (match i.k with
    | .slice e => (match T e with
      | some ei => bif Nat.blt 0 ei.size && Nat.beq ei.zero.length ei.size then
          (match srcOf H y with
          | some ds => (match x with
            | .nils => allCells ei.size ds ∧ (ds = [] → K .nils H) ∧ (ds ≠ [] → ds.length * ei.bytes ≤ 140737488355328 ∧ ds.length ≤ 9223372036854775807 ∧ forceN H.length fun i0 => K (.own i0) (H ++ [.row e ei.size ds]))
            | .own id => (match H[id]? with
              | some (.row rt rs es) => bif Nat.beq rt e && Nat.beq rs ei.size then
                  allCells ei.size ds ∧ (es.length + ds.length) * ei.bytes ≤ 140737488355328 ∧ es.length + ds.length ≤ 9223372036854775807 ∧ forceN H.length fun i0 => K (.own i0) (H.set id .dead ++ [.row e ei.size (es ++ ds)]) else False
              | _ => False)
            | _ => False)
          | none => False) else False
      | none => False)
    | _ => False)
  | none => False

def aminmax (mx : Bool) : List AV → Hp → KV → Prop
  | [.int k a, .int k' b], H, K => bif sameKind k k' then (bif mx then K (.int k (max a b)) H else K (.int k (min a b)) H) else False
  | _, _, _ => False

/-- A plain operation: no call of a function. ('nilok': a slice may be held against nil.) -/
def aop (T : TT) (nilok : Bool) (o : Op) (ev : Operand → AV) (H : Hp) (K : KV) : Prop :=
  match o with
  | .move x | .assign x => K (ev x) H
  | .pick c a b => (match ev c with | .bool t => (match t with | true => K (ev a) H | false => K (ev b) H) | _ => False)
  | .alloc e => (match T e with | some i => forceN H.length fun i0 => K (.ptr i0 0) (H ++ [.box e i.zero]) | none => False)
  | .box e x => (match T e with | some i => bif Nat.beq (cellsOf (ev x)).length i.size && (cellsOf (ev x)).all isCell then forceN H.length fun i0 => K (.ptr i0 0) (H ++ [.box e (cellsOf (ev x))]) else False | none => False)
  | .build t parts => abuild T t (parts.toList.map fun p => (p.1, ev p.2)) H K
  | .buildSlice t len parts => abuildSlice T t len (parts.toList.map fun p => (p.1, ev p.2)) H K
  | .load t a => aload T t (ev a) H K
  | .store t a x => astore T t (ev a) (ev x) H K
  | .nilCheck x => (match ev x with | .ptr id o => K (.ptr id o) H | .cptr cs => K (.cptr cs) H | .eptr id i sz o => K (.eptr id i sz o) H | .fn f c => K (.fn f c) H | _ => False)
  | .binOp op t x y _ => abin T nilok op t (ev x) (ev y) H K
  | .unOp op _ x => aun op (ev x) H K
  | .convert s d x => aconv T s d (ev x) H K
  | .makeFunc f first cap => (match f, first.toList with | .func g, [] => K (.fn g (cap.toList.map ev)) H | _, _ => False)
  | .makeSlice t l c => amake T t (ev l) (ev c) H K
  | .slice t x lo hi mx => (match mx with | none => aslice T t (ev x) (lo.map ev) (hi.map ev) H K | some _ => False)
  | .fieldAddr s x f => afield T s (ev x) f H K
  | .field s x f => afieldv T s (ev x) f H K
  | .indexAddr t x ix => aixaddr T t (ev x) (ev ix) H K
  | .index t x ix => aindex T t (ev x) (ev ix) H K
  | .extract t i => (match ev t with | .tup vs => (match vs[i]? with | some v => K v H | none => False) | _ => False)
  | .call c => (match c.callee with
    | .builtin b => (match b, c.argTypes.toList with
      | .len, [t] => (match c.args.toList with | [x] => alen T t (ev x) H K | _ => False)
      | .append, [t, t'] => bif Nat.beq t t' then (match c.args.toList with | [x, y] => aappend T t (ev x) (ev y) H K | _ => False) else False
      | .min, _ => aminmax false (c.args.toList.map ev) H K
      | .max, _ => aminmax true (c.args.toList.map ev) H K
      | _, _ => False)
    | _ => False)
  | _ => False

end Go.Ve
