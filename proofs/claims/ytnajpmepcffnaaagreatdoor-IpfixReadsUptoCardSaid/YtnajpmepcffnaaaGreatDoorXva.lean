/- An abstract weakest precondition: texts joined into one: VeA VeB VeC VeD VeE VeF VeG VeH VeI VeJ VeY. -/
import Derived.WalkKit
import Derived.Laws.StructEq
import Derived.Orders
import Derived.OrdersIn
import Derived.RangeFuncRecord
import Derived.Great.BuildSlice
import Derived.Laws.OwnMore
import Derived.Laws.BytesString
import Derived.Lib.ConvBytes
import Derived.Deep.MidRow
import Derived.Laws.Cover1
import Derived.Laws.IdiomStrings
import Derived.Great.FillDense
import Derived.DeepKeys5

section
/- An abstract weakest precondition over the model's code, first text: abstract values, abstract objects, what an operation, a region and code ask of an abstract state. -/
namespace Go.Ve

abbrev Bs := List UInt8

inductive AV where
 | undef
 | und
 | int (k : IntKind) (n : Int)
 | bool (b : Bool)
 | str (s : Bs)
 | nils
 | sl (es : List (List AV))
 | own (id : Nat)
 | cptr (cs : List AV)
 | ptr (id off : Nat)
 | eptr (id i sz off : Nat)
 | asl (id off n : Nat)
 | vw (id : Nat)
 | nilp
 | agg (cs : List AV)
 | tup (vs : List AV)
 | fn (f : FuncId) (cap : List AV)
 | bfn (f : FuncId) (cs : List AV)
 | nilf
 | nili
 | ifc (t : TypeId) (v : AV)
 | nilm
 deriving Inhabited

inductive AX where
 | normal
 | exit (id : Nat)
 | ret
inductive LS where
 | ready
 | busy
 | done (x : AX)

inductive LK where
 | int (k : IntKind) | bool | str
inductive Ob where
 | box (t : TypeId) (cs : List AV)
 | row (t sz : Nat) (es : List (List AV))
 | frz (es : List (List AV))
 | loop (nt : Nat) (l : List (Nat × AV)) (ps : List Nat) (a b : Code) (st : LS)
 | dead
 | map (ks : List LK) (es : List (List AV × AV × Nat)) (clk : Nat)
 | iter (mid : Option Nat) (since : Nat) (seen : List Nat) (last : Nat)
 deriving Inhabited

abbrev Hp := List Ob
abbrev Env := Nat → AV
def upd (e : Env) (d : Nat) (v : AV) : Env := fun i => bif Nat.beq i d then v else e i
def envL : List (Nat × AV) → Env
 | [], _ => .undef
 | (k, v) :: r, i => bif Nat.beq i k then v else envL r i
structure AS where
 env : Env
 H : Hp

/-! ### forcing: the same, with the value laid open (for the reduction alone) -/
def forceA : AV → (AV → Prop) → Prop
 | .undef, K => K .undef | .und, K => K .und | .int k n, K => K (.int k n) | .bool b, K => K (.bool b) | .str s, K => K (.str s) | .nils, K => K .nils | .sl es, K => K (.sl es)
 | .own i, K => K (.own i) | .cptr cs, K => K (.cptr cs) | .ptr i o, K => K (.ptr i o) | .eptr a b c d, K => K (.eptr a b c d) | .asl a b c, K => K (.asl a b c) | .vw a, K => K (.vw a) | .nilp, K => K .nilp
 | .agg cs, K => K (.agg cs) | .tup cs, K => K (.tup cs) | .fn f cs, K => K (.fn f cs) | .bfn f cs, K => K (.bfn f cs) | .nilf, K => K .nilf | .nili, K => K .nili | .ifc t v, K => K (.ifc t v) | .nilm, K => K .nilm
def forceL : List AV → (List AV → Prop) → Prop
 | [], K => K []
 | x :: xs, K => forceA x fun y => forceL xs fun ys => K (y :: ys)
def forceV : AV → (AV → Prop) → Prop
 | .agg cs, K => forceL cs fun ds => K (.agg ds)
 | .tup cs, K => forceL cs fun ds => K (.tup ds)
 | .fn f cs, K => forceL cs fun ds => K (.fn f ds)
 | .bfn f cs, K => forceL cs fun ds => K (.bfn f ds)
 | v, K => forceA v K
def forceO : Ob → (Ob → Prop) → Prop
 | .box t cs, K => forceL cs fun ds => K (.box t ds)
 | .row t s es, K => K (.row t s es)
 | .frz es, K => K (.frz es)
 | .loop nt l ps a b st, K => K (.loop nt l ps a b st)
 | .dead, K => K .dead
 | .map ks es c, K => K (.map ks es c)
 | .iter a b c d, K => K (.iter a b c d)
def forceH : Hp → (Hp → Prop) → Prop
 | [], K => K []
 | x :: xs, K => forceO x fun y => forceH xs fun ys => K (y :: ys)
def forceLL : List (List AV) → (List (List AV) → Prop) → Prop
 | [], K => K []
 | x :: xs, K => forceL x fun y => forceLL xs fun ys => K (y :: ys)
def forceN (n : Nat) (K : Nat → Prop) : Prop :=
 bif Nat.beq n 0 then K 0 else bif Nat.beq n 1 then K 1 else bif Nat.beq n 2 then K 2 else bif Nat.beq n 3 then K 3 else bif Nat.beq n 4 then K 4 else bif Nat.beq n 5 then K 5 else bif Nat.beq n 6 then K 6 else bif Nat.beq n 7 then K 7 else
 bif Nat.beq n 8 then K 8 else bif Nat.beq n 9 then K 9 else bif Nat.beq n 10 then K 10 else bif Nat.beq n 11 then K 11 else bif Nat.beq n 12 then K 12 else bif Nat.beq n 13 then K 13 else bif Nat.beq n 14 then K 14 else bif Nat.beq n 15 then K 15 else K n
theorem forceA_eq (v : AV) (K : AV → Prop) : forceA v K = K v := by cases v <;> rfl
theorem forceL_eq : ∀ (l : List AV) (K : List AV → Prop), forceL l K = K l
 | [], _ => rfl
 | x :: xs, K => by simp only [forceL, forceA_eq, forceL_eq xs]
theorem forceV_eq (v : AV) (K : AV → Prop) : forceV v K = K v := by cases v <;> simp only [forceV, forceA_eq, forceL_eq]
theorem forceO_eq (v : Ob) (K : Ob → Prop) : forceO v K = K v := by cases v <;> simp only [forceO, forceL_eq]
theorem forceH_eq : ∀ (l : Hp) (K : Hp → Prop), forceH l K = K l
 | [], _ => rfl
 | x :: xs, K => by simp only [forceH, forceO_eq, forceH_eq xs]
theorem forceLL_eq : ∀ (l : List (List AV)) (K : List (List AV) → Prop), forceLL l K = K l
 | [], _ => rfl
 | x :: xs, K => by simp only [forceLL, forceL_eq, forceLL_eq xs]
theorem forceN_eq (n : Nat) (K : Nat → Prop) : forceN n K = K n := by
 unfold forceN
 iterate 16 (cases n with | zero => rfl | succ n => ?_)
 rfl

/-! ### types -/
inductive TK where
 | int (k : IntKind) | bool | str | slice (e : TypeId) | struct (fs : List (Nat × TypeId)) | array (n : Nat) (e : TypeId) | ptr | func | map (k e : TypeId) | other
structure TI where
 k : TK
 size : Nat
 bytes : Nat
 zero : List AV
 eqk : List LK
abbrev TT := TypeId → Option TI
def TI.isAgg (i : TI) : Bool := match i.k with | .struct _ => true | .array _ _ => true | _ => false

def cellsOf : AV → List AV
 | .agg cs => cs
 | v => [v]
def closed1 : AV → Bool
 | .int _ _ | .bool _ | .str _ | .nils | .sl _ | .cptr _ | .nilp | .nilf | .nili | .nilm => true
 | _ => false
def isCell : AV → Bool
 | .int _ _ | .bool _ | .str _ | .nils | .sl _ | .cptr _ | .nilp | .nilf | .nili | .own _ | .ptr _ _ | .eptr _ _ _ _ | .asl _ _ _ | .fn _ _ | .bfn _ _ | .ifc _ _ | .nilm => true
 | _ => false
def splice (cs : List AV) (off : Nat) (ds : List AV) : List AV := cs.take off ++ ds ++ cs.drop (off + ds.length)

def cst : Value → AV
 | .int k n => .int k n
 | .bool b => .bool b
 | .string s => .str s.data.toList
 | .slice none 0 0 => .nils
 | .pointer none => .nilp
 | .nilIface => .nili
 | .nilFunc => .nilf
 | .map none => .nilm
 | _ => .undef
def evalO (e : Env) : Operand → AV
 | .tmp t => e t
 | .const v => cst v
 | .func f => .fn f []
 | .global _ => .undef

abbrev KV := AV → Hp → Prop

def ldc (i : TI) (cs : List AV) (H : Hp) (K : KV) : Prop :=
 bif i.isAgg then (bif Nat.ble i.size cs.length then K (.agg (cs.take i.size)) H else False)
 else match cs with
  | x :: _ => K x H
  | [] => False

def rowOf : Option Ob → Option (List (List AV))
 | some (.row _ _ es) => some es
 | some (.frz es) => some es
 | _ => none

def aload (T : TT) (t : TypeId) (p : AV) (H : Hp) (K : KV) : Prop :=
 match T t with
 | none => False
 | some i =>
  match p with
  | .ptr id off => (match H[id]? with
   | some (.box _ cs) => ldc i (cs.drop off) H K
   | _ => False)
  | .cptr cs => ldc i cs H K
  | .eptr id ix sz off => (match H[id]? with
   | some (.row _ rs es) => bif Nat.beq sz rs then ∃ c, es[ix]? = some c ∧ ldc i (c.drop off) H K else False
   | _ => False)
  | _ => False

def astore (T : TT) (t : TypeId) (p v : AV) (H : Hp) (K : KV) : Prop :=
 match T t with
 | none => False
 | some i =>
  bif Nat.beq (cellsOf v).length i.size && (cellsOf v).all isCell then
   match p with
   | .ptr id off => (match H[id]? with
    | some (.box bt cs) => bif Nat.ble (off + (cellsOf v).length) cs.length then K .undef (H.set id (.box bt (splice cs off (cellsOf v)))) else False
    | _ => False)
   | .eptr id ix sz off => (match H[id]? with
    | some (.row rt rs es) => bif Nat.beq sz rs && Nat.ble (off + (cellsOf v).length) rs && (cellsOf v).all closed1 then
      ∃ c, es[ix]? = some c ∧ K .undef (H.set id (.row rt rs (es.set ix (splice c off (cellsOf v))))) else False
    | _ => False)
   | _ => False
  else False

def test (p : Prop) (H : Hp) (K : KV) : Prop := (p → K (.bool true) H) ∧ (¬ p → K (.bool false) H)
def ntest (p : Prop) (H : Hp) (K : KV) : Prop := (p → K (.bool false) H) ∧ (¬ p → K (.bool true) H)

def sameKind (k k' : IntKind) : Bool := match k, k' with
 | .i8, .i8 | .i16, .i16 | .i32, .i32 | .i64, .i64 | .u8, .u8 | .u16, .u16 | .u32, .u32 | .u64, .u64 => true
 | _, _ => false

def eqLeaf : LK → AV → AV → Option Prop
 | .int k, .int a x, .int b y => bif sameKind k a && sameKind k b then some (x = y) else none
 | .bool, .bool x, .bool y => some (x = y)
 | .str, .str x, .str y => some (x = y)
 | _, _, _ => none
def eqCells : List LK → List AV → List AV → Option Prop
 | [], [], [] => some True
 | k :: ks, x :: xs, y :: ys => (match eqLeaf k x y with
  | some p => (match ks with
   | [] => (match xs, ys with | [], [] => some p | _, _ => none)
   | _ :: _ => (match eqCells ks xs ys with | some q => some (p ∧ q) | none => none))
  | none => none)
 | _, _, _ => none

def aeql (T : TT) (t : TypeId) (x y : AV) : Option Prop :=
 match T t with
 | none => none
 | some i =>
  match i.k, x, y with
  | .bool, .bool a, .bool b => some (a = b)
  | .slice _, .nils, .nils => some True
  | .ptr, .nilp, .nilp => some True
  | .ptr, .ptr _ _, .nilp => some False
  | .ptr, .ptr a m, .ptr b n => bif Nat.beq a b && Nat.beq m n then some True else none
  | .ptr, .cptr _, .nilp => some False
  | .func, .nilf, .nilf => some True
  | .func, .fn _ _, .nilf => some False
  | .struct _, .agg cs, .agg ds => (match i.eqk with | [] => none | _ :: _ => eqCells i.eqk cs ds)
  | .array _ _, .agg cs, .agg ds => (match i.eqk with | [] => none | _ :: _ => eqCells i.eqk cs ds)
  | _, _, _ => none

def aint (op : BinOp) (k : IntKind) (a b : Int) (H : Hp) (K : KV) : Prop :=
 match op with
 | .add => K (.int k (k.wrap (a + b))) H
 | .sub => K (.int k (k.wrap (a - b))) H
 | .mul => K (.int k (k.wrap (a * b))) H
 | .quo => b ≠ 0 ∧ K (.int k (k.wrap (a.tdiv b))) H
 | .rem => b ≠ 0 ∧ K (.int k (a.tmod b)) H
 | .and => K (.int k (bits .and k a b)) H
 | .or => K (.int k (bits .or k a b)) H
 | .xor => K (.int k (bits .xor k a b)) H
 | .andNot => K (.int k (bits .andNot k a b)) H
 | .eql => test (a = b) H K
 | .neq => ntest (a = b) H K
 | .lss => test (a < b) H K
 | .leq => test (a ≤ b) H K
 | .gtr => test (b < a) H K
 | .geq => test (b ≤ a) H K
 | _ => False

def anil (T : TT) (t : TypeId) (x y : AV) (H : Hp) (K : KV) (yes : Bool) : Prop :=
 match T t with
 | none => False
 | some i =>
  match i.k, x, y with
  | .slice _, .sl es, .nils => K (.bool (!yes)) H ∧ (es = [] → K (.bool yes) H)
  | .slice _, .own id, .nils => (match H[id]? with | some (.row _ _ es) => K (.bool (!yes)) H ∧ (es = [] → K (.bool yes) H) | _ => False)
  | _, _, _ => False

def aeqop (T : TT) (nilok : Bool) (op : BinOp) (t : TypeId) (x y : AV) (H : Hp) (K : KV) : Prop :=
 match op with
 | .eql => (match aeql T t x y with | some p => test p H K | none => bif nilok then anil T t x y H K true else False)
 | .neq => (match aeql T t x y with | some p => ntest p H K | none => bif nilok then anil T t x y H K false else False)
 | _ => False

def abin (T : TT) (nilok : Bool) (op : BinOp) (t : TypeId) (x y : AV) (H : Hp) (K : KV) : Prop :=
 match op with
 | .shl => (match x, y with | .int k a, .int _ b => 0 ≤ b ∧ K (.int k (k.wrap (a * 2 ^ (min b.toNat k.bits)))) H | _, _ => False)
 | .shr => (match x, y with | .int k a, .int _ b => 0 ≤ b ∧ K (.int k (a.fdiv (2 ^ (min b.toNat k.bits)))) H | _, _ => False)
 | _ =>
  match x, y with
  | .int k a, .int k' b => bif sameKind k k' then aint op k a b H K else False
  | .str a, .str b => (match op with
   | .add => a.length + b.length ≤ 9223372036854775807 ∧ K (.str (a ++ b)) H
   | .eql => test (a = b) H K
   | .neq => ntest (a = b) H K
   | .lss => test (Op.bytesLess a b = true) H K
   | .geq => ntest (Op.bytesLess a b = true) H K
   | _ => False)
  | _, _ => aeqop T nilok op t x y H K

def aun (op : UnOp) (x : AV) (H : Hp) (K : KV) : Prop :=
 match op, x with
 | .not, .bool b => K (.bool (!b)) H
 | .neg, .int k n => K (.int k (k.wrap (0 - n))) H
 | .xor, .int k n => K (.int k (bits .xor k (if k.signed then -1 else k.max) n)) H
 | _, _ => False

def byteCell (b : UInt8) : List AV := [.int .u8 b.toNat]

def isU8 (T : TT) (i : TI) : Bool := match i.k with
 | .slice e => (match T e with
  | some ei => (match ei.k with | .int .u8 => true | _ => false)
  | none => false)
 | _ => false

def aconv (T : TT) (s d : TypeId) (x : AV) (H : Hp) (K : KV) : Prop :=
 match T s, T d with
 | some si, some di =>
  (match di.k, x with
  | .int k, .int _ n => K (.int k (k.wrap n)) H
  | .str, .str b => K (.str b) H
  | .str, .nils => bif isU8 T si then K (.str []) H else False
  | .str, .sl es => bif isU8 T si then ∃ l : Bs, es = l.map byteCell ∧ K (.str l) H else False
  | .str, .own id => bif isU8 T si then (match rowOf H[id]? with | some es => ∃ l : Bs, es = l.map byteCell ∧ K (.str l) H | none => False) else False
  | .slice _, .str b => bif isU8 T di then b.length ≤ 9223372036854775807 ∧ K (.sl (b.map byteCell)) H else False
  | _, _ => False)
 | _, _ => False

def aconvB (T : TT) (s d : TypeId) (x : AV) (H : Hp) (K : KV) : Prop :=
 match T s, x with
 | some i, .own id => (match H[id]? with
  | some (.row _ rs es) => bif Nat.beq s d && isU8 T i && Nat.beq rs 1 then (match es with
   | [] => False
   | _ :: _ => K (.sl es) (H.set id (.frz es))) else aconv T s d x H K
  | _ => aconv T s d x H K)
 | _, _ => aconv T s d x H K

def bound (len : Nat) : Option AV → Nat → (Nat → Prop) → Prop
 | none, d, K => K d
 | some (.int _ n), _, K => 0 ≤ n ∧ n ≤ len ∧ K n.toNat
 | some _, _, _ => False

def allLen (sz : Nat) (es : List (List AV)) : Prop := ∀ c ∈ es, c.length = sz

def aslice (T : TT) (t : TypeId) (x : AV) (lo hi : Option AV) (H : Hp) (K : KV) : Prop :=
 match T t with
 | none => False
 | some i =>
  match i.k, x with
  | .str, .str s => bound s.length hi s.length fun h => bound h lo 0 fun l => K (.str ((s.take h).drop l)) H
  | .slice e, .sl es => (match T e with
   | some ei => bound es.length hi es.length fun h => bound h lo 0 fun l => allLen ei.size es ∧ K (.sl ((es.take h).drop l)) H
   | none => False)
  | .slice e, .nils => (match T e with
   | some _ => bound 0 hi 0 fun h => bound h lo 0 fun _ => K .nils H
   | none => False)
  | .slice e, .own id => (match T e, H[id]? with
   | some ei, some (.row _ rs es) => bif Nat.beq rs ei.size then bound es.length hi es.length fun h => bound h lo 0 fun l => K (.sl ((es.take h).drop l)) (H.set id (.frz es)) else False
   | some ei, some (.frz es) => bound es.length hi es.length fun h => bound h lo 0 fun l => allLen ei.size es ∧ K (.sl ((es.take h).drop l)) H
   | _, _ => False)
  | .array m e, .ptr id o => (match T e with
   | some ei => bif Nat.beq ei.size 1 then bound m hi m fun h => bound h lo 0 fun l => bif Nat.blt l m then K (.asl id (o + l) (h - l)) H else False else False
   | none => False)
  | _, _ => False

def aslice3 (T : TT) (t : TypeId) (x : AV) (lo hi : Option AV) (mx : AV) (H : Hp) (K : KV) : Prop :=
 match T t, hi, mx with
 | some i, some (.int _ h), .int _ m =>
  (match i.k, x with
  | .slice e, .sl es => (match T e with
   | some ei => 0 ≤ m ∧ m ≤ es.length ∧ 0 ≤ h ∧ h ≤ m ∧ bound h.toNat lo 0 fun l => allLen ei.size es ∧ K (.sl ((es.take h.toNat).drop l)) H
   | none => False)
  | .slice e, .nils => (match T e with
   | some _ => m = 0 ∧ h = 0 ∧ bound 0 lo 0 fun _ => K .nils H
   | none => False)
  | .slice e, .own id => (match T e, H[id]?, lo with
   | some _, some (.row _ _ es), none => m = es.length ∧ h = es.length ∧ K (.vw id) H
   | _, _, _ => False)
  | _, _ => False)
 | _, _, _ => False

def afield (T : TT) (s : TypeId) (p : AV) (f : Nat) (H : Hp) (K : KV) : Prop :=
 match T s with
 | some i => (match i.k with
  | .struct fs => (match fs[f]? with
   | some (off, ft) => (match T ft with
    | some fi => bif Nat.blt 0 fi.size then
      (match p with
      | .ptr id o => K (.ptr id (o + off)) H
      | .cptr cs => K (.cptr (cs.drop off)) H
      | .eptr id ix sz o => K (.eptr id ix sz (o + off)) H
      | _ => False) else False
    | none => False)
   | none => False)
  | _ => False)
 | none => False

def apart (i : TI) (cs : List AV) (off : Nat) (H : Hp) (K : KV) : Prop :=
 bif i.isAgg then (bif Nat.ble (off + i.size) cs.length then K (.agg ((cs.drop off).take i.size)) H else False)
 else match cs[off]? with
  | some x => K x H
  | none => False

def afieldv (T : TT) (s : TypeId) (x : AV) (f : Nat) (H : Hp) (K : KV) : Prop :=
 match T s with
 | some i => (match i.k, x with
  | .struct fs, .agg cs => (match fs[f]? with
   | some (off, ft) => (match T ft with
    | some fi => apart fi cs off H K
    | none => False)
   | none => False)
  | _, _ => False)
 | none => False

def aixaddr (T : TT) (t : TypeId) (x ix : AV) (H : Hp) (K : KV) : Prop :=
 match T t, ix with
 | some i, .int _ n =>
  (match i.k, x with
  | .slice e, .sl es => (match T e with
   | some ei => 0 ≤ n ∧ ∃ c, es[n.toNat]? = some c ∧ c.length = ei.size ∧ K (.cptr c) H
   | none => False)
  | .slice e, .own id => (match T e, H[id]? with
   | some ei, some (.row _ sz es) => bif Nat.beq ei.size sz then 0 ≤ n ∧ n.toNat < es.length ∧ K (.eptr id n.toNat sz 0) H else False
   | some ei, some (.frz es) => 0 ≤ n ∧ ∃ c, es[n.toNat]? = some c ∧ c.length = ei.size ∧ K (.cptr c) H
   | _, _ => False)
  | .slice e, .asl id off m => (match T e with
   | some ei => bif Nat.beq ei.size 1 then 0 ≤ n ∧ n.toNat < m ∧ K (.ptr id (off + n.toNat)) H else False
   | none => False)
  | .array m e, .ptr id o => (match T e with
   | some ei => 0 ≤ n ∧ n < m ∧ K (.ptr id (o + n.toNat * ei.size)) H
   | none => False)
  | .array m e, .cptr cs => (match T e with
   | some ei => 0 ≤ n ∧ n < m ∧ K (.cptr (cs.drop (n.toNat * ei.size))) H
   | none => False)
  | .array m e, .eptr id j sz o => (match T e with
   | some ei => 0 ≤ n ∧ n < m ∧ K (.eptr id j sz (o + n.toNat * ei.size)) H
   | none => False)
  | _, _ => False)
 | _, _ => False

def aindex (T : TT) (t : TypeId) (x ix : AV) (H : Hp) (K : KV) : Prop :=
 match T t, ix with
 | some i, .int _ n =>
  (match i.k, x with
  | .str, .str s => 0 ≤ n ∧ ∃ c, s[n.toNat]? = some c ∧ K (.int .u8 c.toNat) H
  | .array m e, .agg cs => (match T e with
   | some ei => 0 ≤ n ∧ n < m ∧ apart ei cs (n.toNat * ei.size) H K
   | none => False)
  | _, _ => False)
 | _, _ => False

def afill (places : Nat → Option (Nat × Nat)) : List AV → List (Nat × AV) → Option (List AV)
 | cells, [] => some cells
 | cells, (i, v) :: rest => match places i with
  | none => none
  | some (off, size) => bif Nat.beq (cellsOf v).length size && Nat.ble (off + size) cells.length then afill places (splice cells off (cellsOf v)) rest else none

def placesOf (T : TT) (i : TI) : Nat → Option (Nat × Nat) := fun j => match i.k with
 | .struct fs => (match fs[j]? with
  | some (off, ft) => (T ft).map fun fi => (off, fi.size)
  | none => none)
 | .array _ e => (T e).map fun ei => (j * ei.size, ei.size)
 | _ => none

def abuild (T : TT) (t : TypeId) (parts : List (Nat × AV)) (H : Hp) (K : KV) : Prop :=
 match T t with
 | some i => bif i.isAgg && (parts.all fun p => (cellsOf p.2).all isCell) then (match afill (placesOf T i) i.zero parts with
  | some cs => K (.agg cs) H
  | none => False) else False
 | none => False

def aelems (size : Nat) : Nat → List (Nat × AV) → Option (List (List AV))
 | _, [] => some []
 | j, (i, v) :: rest => bif Nat.beq i j && Nat.beq (cellsOf v).length size && (cellsOf v).all closed1 then (aelems size (j + 1) rest).map (cellsOf v :: ·) else none

def abuildSlice (T : TT) (t : TypeId) (len : Nat) (parts : List (Nat × AV)) (H : Hp) (K : KV) : Prop :=
 match T t with
 | some i => (match i.k with
  | .slice e => (match T e with
   | some ei => bif Nat.blt 0 ei.size && Nat.ble (len * ei.size) 65536 && Nat.beq parts.length len then
     (match aelems ei.size 0 parts with
     | some es => forceLL es fun es' => forceN H.length fun i0 => K (.own i0) (H ++ [.row e ei.size es'])
     | none => False) else False
   | none => False)
  | _ => False)
 | none => False

def abuildC (T : TT) (t : TypeId) (len : Nat) (parts : List (Nat × AV)) (H : Hp) (K : KV) : Prop :=
 match T t with
 | some i => (match i.k with
  | .slice e => (match T e with
   | some ei => bif Nat.blt 0 ei.size && Nat.ble (len * ei.size) 65536 && Nat.beq parts.length len then
     (match aelems ei.size 0 parts with
     | some es => forceLL es fun es' => K (.sl es') H
     | none => False) else False
   | none => False)
  | _ => False)
 | none => False

def amake (T : TT) (t : TypeId) (l c : AV) (H : Hp) (K : KV) : Prop :=
 match T t, l, c with
 | some i, .int _ n, .int _ m => (match i.k with
  | .slice e => (match T e with
   | some ei => bif Nat.blt 0 ei.size && Nat.beq ei.zero.length ei.size && ei.zero.all closed1 then
     0 ≤ n ∧ n ≤ m ∧ m * ei.bytes ≤ 140737488355328 ∧ m ≤ 9223372036854775807 ∧ forceN H.length fun i0 => K (.own i0) (H ++ [.row e ei.size (List.replicate n.toNat ei.zero)]) else False
   | none => False)
  | _ => False)
 | _, _, _ => False

def amakeC (T : TT) (t : TypeId) (l c : AV) (H : Hp) (K : KV) : Prop :=
 match T t, l, c with
 | some i, .int _ n, .int _ m => (match i.k with
  | .slice e => (match T e with
   | some ei => bif Nat.blt 0 ei.size && Nat.beq ei.zero.length ei.size && ei.zero.all closed1 then
     0 ≤ n ∧ n ≤ m ∧ m * ei.bytes ≤ 140737488355328 ∧ m ≤ 9223372036854775807 ∧ K (.sl (List.replicate n.toNat ei.zero)) H else False
   | none => False)
  | _ => False)
 | _, _, _ => False

def alen (T : TT) (t : TypeId) (x : AV) (H : Hp) (K : KV) : Prop :=
 match T t with
 | none => False
 | some i =>
  match i.k, x with
  | .str, .str s => K (.int .i64 s.length) H
  | .slice _, .sl es => K (.int .i64 es.length) H
  | .slice _, .nils => K (.int .i64 0) H
  | .slice _, .asl _ _ n => K (.int .i64 n) H
  | .slice _, .own id => (match rowOf H[id]? with | some es => K (.int .i64 es.length) H | none => False)
  | .array n _, _ => K (.int .i64 n) H
  | _, _ => False

def srcOf (H : Hp) : AV → Option (List (List AV))
 | .sl es => some es
 | .nils => some []
 | .own id => rowOf H[id]?
 | _ => none
def allCells (sz : Nat) (es : List (List AV)) : Prop := ∀ c ∈ es, c.length = sz ∧ c.all closed1 = true

def aappend (T : TT) (t : TypeId) (x y : AV) (H : Hp) (K : KV) : Prop :=
 match T t with
 | some i => (match i.k with
  | .slice e => (match T e with
   | some ei => bif Nat.blt 0 ei.size && Nat.beq ei.zero.length ei.size then
     (match srcOf H y with
     | some ds => (match x with
      | .nils => allCells ei.size ds ∧ (ds = [] → K .nils H) ∧ (ds ≠ [] → ds.length * ei.bytes ≤ 140737488355328 ∧ ds.length ≤ 9223372036854775807 ∧ forceN H.length fun i0 => K (.own i0) (H ++ [.row e ei.size ds]))
      | .own id => (match H[id]? with
       | some (.row rt rs es) => bif Nat.beq rt e && Nat.beq rs ei.size then
         allCells ei.size ds ∧ (es.length + ds.length) * ei.bytes ≤ 140737488355328 ∧ es.length + ds.length ≤ 9223372036854775807 ∧ forceN H.length fun i0 => K (.own i0) (H.set id .dead ++ [.row e ei.size (es ++ ds)]) else False
       | _ => False)
      | _ => False)
     | none => False) else False
   | none => False)
  | _ => False)
 | none => False

def acopy (T : TT) (t : TypeId) (x y : AV) (H : Hp) (K : KV) : Prop :=
 match T t with
 | some i => (match i.k with
  | .slice e => (match T e with
   | some ei => bif Nat.blt 0 ei.size then
     (match srcOf H y with
     | some ds => (match x with
      | .own id => (match H[id]? with
       | some (.row rt rs es) => bif Nat.beq rs ei.size then
         allCells ei.size ds ∧ K (.int .i64 ((min ds.length es.length : Nat) : Int)) (H.set id (.row rt rs (ds.take es.length ++ es.drop ds.length))) else False
       | _ => False)
      | .asl id off n => (match H[id]? with
       | some (.box bt cs) => bif Nat.beq ei.size 1 && Nat.ble (off + n) cs.length then
         allCells 1 ds ∧ K (.int .i64 ((min ds.length n : Nat) : Int)) (H.set id (.box bt (splice cs off (ds.take n).flatten))) else False
       | _ => False)
      | _ => False)
     | none => False) else False
   | none => False)
  | _ => False)
 | none => False

def aminmax (mx : Bool) : List AV → Hp → KV → Prop
 | [.int k a, .int k' b], H, K => bif sameKind k k' then (bif mx then K (.int k (max a b)) H else K (.int k (min a b)) H) else False
 | _, _, _ => False

def aop (T : TT) (nilok : Bool) (o : Op) (ev : Operand → AV) (H : Hp) (K : KV) : Prop :=
 match o with
 | .move x | .assign x => K (ev x) H
 | .pick c a b => (match ev c with | .bool t => (match t with | true => K (ev a) H | false => K (ev b) H) | _ => False)
 | .alloc e => (match T e with | some i => forceN H.length fun i0 => K (.ptr i0 0) (H ++ [.box e i.zero]) | none => False)
 | .box e x => (match T e with | some i => bif Nat.beq (cellsOf (ev x)).length i.size && (cellsOf (ev x)).all isCell then forceN H.length fun i0 => K (.ptr i0 0) (H ++ [.box e (cellsOf (ev x))]) else False | none => False)
 | .build t parts => abuild T t (parts.toList.map fun p => (p.1, ev p.2)) H K
 | .buildSlice t len parts => abuildSlice T t len (parts.toList.map fun p => (p.1, ev p.2)) H K
 | .load t a => aload T t (ev a) H K
 | .store t a x => astore T t (ev a) (ev x) H K
 | .nilCheck x => (match ev x with | .ptr id o => K (.ptr id o) H | .cptr cs => K (.cptr cs) H | .eptr id i sz o => K (.eptr id i sz o) H | .fn f c => K (.fn f c) H | _ => False)
 | .binOp op t x y _ => abin T nilok op t (ev x) (ev y) H K
 | .unOp op _ x => aun op (ev x) H K
 | .convert s d x => (match nilok with | true => aconvB T s d (ev x) H K | false => aconv T s d (ev x) H K)
 | .makeFunc f first cap => (match f, first.toList with
  | .func g, [] => K (.fn g (cap.toList.map ev)) H
  | .func g, [x] => (match ev x, cap.toList with | .agg cs, [] => K (.bfn g cs) H | _, _ => False)
  | _, _ => False)
 | .makeSlice t l c => (match nilok with | true => amake T t (ev l) (ev c) H K | false => amakeC T t (ev l) (ev c) H K)
 | .slice t x lo hi mx => (match mx with | none => (match nilok with | true => aslice T t (ev x) (lo.map ev) (hi.map ev) H K | false => (match ev x with | .own _ => False | _ => aslice T t (ev x) (lo.map ev) (hi.map ev) H K)) | some m => aslice3 T t (ev x) (lo.map ev) (hi.map ev) (ev m) H K)
 | .fieldAddr s x f => afield T s (ev x) f H K
 | .field s x f => afieldv T s (ev x) f H K
 | .indexAddr t x ix => aixaddr T t (ev x) (ev ix) H K
 | .index t x ix => aindex T t (ev x) (ev ix) H K
 | .extract t i => (match ev t with | .tup vs => (match vs[i]? with | some v => K v H | none => False) | _ => False)
 | .call c => (match c.callee with
  | .builtin b => (match b, c.argTypes.toList with
   | .len, [t] => (match c.args.toList with | [x] => alen T t (ev x) H K | _ => False)
   | .append, [t, t'] => bif Nat.beq t t' then (match c.args.toList with | [x, y] => aappend T t (ev x) (ev y) H K | _ => False) else False
   | .copy, [t, _] => (match c.args.toList with | [x, y] => acopy T t (ev x) (ev y) H K | _ => False)
   | .min, _ => aminmax false (c.args.toList.map ev) H K
   | .max, _ => aminmax true (c.args.toList.map ev) H K
   | _, _ => False)
  | _ => False)
 | _ => False

/-! ### maps (in regions whose order is fixed) -/
def leafA : List LK → List AV → Bool
 | [], [] => true
 | .int k :: ks, .int k' _ :: xs => sameKind k k' && leafA ks xs
 | .bool :: ks, .bool _ :: xs => leafA ks xs
 | .str :: ks, .str _ :: xs => leafA ks xs
 | _, _ => false
def vclosed : AV → Bool
 | .agg cs => cs.all closed1
 | v => closed1 v
def zeroA (i : TI) : AV := match i.isAgg with
 | true => .agg i.zero
 | false => (match i.zero with | x :: _ => x | [] => .undef)
def isMap (T : TT) (t : TypeId) : Bool := match T t with
 | some i => (match i.k with | .map _ _ => true | _ => false)
 | none => false
def mapTI (T : TT) (t : TypeId) : Option (TI × TI) := match T t with
 | some i => (match i.k with
  | .map k e => (match T k, T e with
   | some ki, some ei => bif Nat.beq ki.size ki.eqk.length && Nat.blt 0 ki.size then some (ki, ei) else none
   | _, _ => none)
  | _ => none)
 | none => none
def lres (ok : Bool) (v : AV) (b : Bool) : AV := match ok with | true => .tup [v, .bool b] | false => v
def mapOpB (T : TT) (o : Op) : Bool := match o with
 | .makeMap _ _ | .mapUpdate _ _ _ _ | .insert _ _ _ _ | .mapEntry _ _ _ | .entryStore _ _ _ _ | .entry _ | .lookup _ _ _ _ => true
 | .range t _ => isMap T t
 | .next _ b => !b
 | .binOp _ t _ _ _ => isMap T t
 | .call c => (match c.callee, c.argTypes.toList with
  | .builtin .len, [t] => isMap T t
  | .builtin .delete, _ => true
  | _, _ => false)
 | _ => false
def atKey (H : Hp) (ki : TI) (m k : AV) (yes : Nat → List AV → Nat → List (List AV × AV × Nat) → Nat → (List AV × AV × Nat) → Nat → Prop) (no : Nat → List AV → List (List AV × AV × Nat) → Nat → Prop) : Prop :=
 match k with
 | .agg cs => bif leafA ki.eqk cs then (match m with
  | .own id => (match H[id]? with
   | some (.map ks es clk) => ks = ki.eqk ∧ (∀ (i : Nat) (e : List AV × AV × Nat), es[i]? = some e → e.1 = cs → yes id cs clk es i e clk) ∧ ((∀ e ∈ es, e.1 ≠ cs) → no id cs es clk)
   | _ => False)
  | _ => False) else False
 | _ => False
def amap (T : TT) (o : Op) (ev : Operand → AV) (H : Hp) (K : KV) : Prop :=
 match o with
 | .makeMap t none => (match mapTI T t with | some (ki, _) => forceN H.length fun i0 => K (.own i0) (H ++ [.map ki.eqk [] 0]) | none => False)
 | .lookup t x ix ok => (match mapTI T t with
  | none => False
  | some (ki, ei) => (match ev x with
   | .nilm => (match ev ix with | .agg cs => bif leafA ki.eqk cs then K (lres ok (zeroA ei) false) H else False | _ => False)
   | x => atKey H ki x (ev ix) (fun _ _ _ _ _ e _ => K (lres ok e.2.1 true) H) (fun _ _ _ _ => K (lres ok (zeroA ei) false) H)))
 | .mapUpdate t m k x | .insert t m k x => (match mapTI T t with
  | none => False
  | some (ki, _) => bif vclosed (ev x) then atKey H ki (ev m) (ev k) (fun id cs _ es i e clk => K .und (H.set id (.map ki.eqk (es.set i (cs, ev x, e.2.2)) clk))) (fun id cs es clk => K .und (H.set id (.map ki.eqk (es ++ [(cs, ev x, clk)]) (clk + 1)))) else False)
 | .mapEntry t m k => (match mapTI T t with
  | none => False
  | some (ki, ei) => bif vclosed (zeroA ei) then atKey H ki (ev m) (ev k) (fun _ _ _ _ _ e _ => K (.tup [e.2.1, .int .i64 e.2.2]) H) (fun id cs es clk => K (.tup [zeroA ei, .int .i64 clk]) (H.set id (.map ki.eqk (es ++ [(cs, zeroA ei, clk)]) (clk + 1)))) else False)
 | .entryStore _ m s x => (match ev m, ev s with
  | .own id, .int _ n => (match H[id]? with
   | some (.map ks es clk) => bif vclosed (ev x) then (∃ e ∈ es, ((e.2.2 : Nat) : Int) = n) ∧ ∀ (i : Nat) (e : List AV × AV × Nat), es[i]? = some e → ((e.2.2 : Nat) : Int) = n → K .und (H.set id (.map ks (es.set i (e.1, ev x, e.2.2)) clk)) else False
   | _ => False)
  | _, _ => False)
 | .range _ x => (match ev x with
  | .nilm => forceN H.length fun i0 => K (.own i0) (H ++ [.iter none 0 [] 0])
  | .own id => (match H[id]? with
   | some (.map _ _ clk) => forceN H.length fun i0 => K (.own i0) (H ++ [.iter (some id) clk [] clk])
   | _ => False)
  | _ => False)
 | .next it false => (match ev it with
  | .own id => (match H[id]? with
   | some (.iter none _ _ _) => K (.tup [.bool false]) H
   | some (.iter (some m) since seen _) => (match H[m]? with
    | some (.map _ es clk) => since ≤ clk ∧ (∀ e ∈ es, e.2.2 < since) ∧ (∀ e ∈ es, e.2.2 ∉ seen → K (.tup [.bool true, .agg e.1, e.2.1]) (H.set id (.iter (some m) since (seen ++ [e.2.2]) clk))) ∧ ((∀ e ∈ es, e.2.2 ∈ seen) → K (.tup [.bool false]) H)
    | _ => False)
   | _ => False)
  | _ => False)
 | .entry it => (match ev it with
  | .own id => (match H[id]? with
   | some (.iter (some m) _ seen last) => (match H[m]? with
    | some (.map _ es clk) => last = clk ∧ ∃ e ∈ es, seen.getLast? = some e.2.2 ∧ K (.tup [.agg e.1, e.2.1]) H
    | _ => False)
   | _ => False)
  | _ => False)
 | .binOp op _ x y _ => (match op, ev x, ev y with
  | .eql, .nilm, .nilm => K (.bool true) H
  | .neq, .nilm, .nilm => K (.bool false) H
  | .eql, .own id, .nilm => (match H[id]? with | some (.map _ _ _) => K (.bool false) H | _ => False)
  | .neq, .own id, .nilm => (match H[id]? with | some (.map _ _ _) => K (.bool true) H | _ => False)
  | _, _, _ => False)
 | .call c => (match c.callee, c.argTypes.toList, c.args.toList with
  | .builtin .len, _, [x] => (match ev x with
   | .nilm => K (.int .i64 0) H
   | .own id => (match H[id]? with | some (.map _ es _) => K (.int .i64 es.length) H | _ => False)
   | _ => False)
  | .builtin .delete, [t, _], [m, k] => (match mapTI T t with
   | none => False
   | some (ki, _) => atKey H ki (ev m) (ev k) (fun id _ _ es i _ clk => K (.tup []) (H.set id (.map ki.eqk (es.eraseIdx i) clk))) (fun _ _ _ _ => K (.tup []) H))
  | _, _, _ => False)
 | _ => False

def keysOkM (H : Hp) (m : AV) : Prop := match m with
 | .own id => (match H[id]? with
  | some (.map _ es _) => (es.map (·.1)).Nodup ∧ (es.map (·.2.2)).Nodup
  | _ => False)
 | .nilm => True
 | _ => False
def adop (T : TT) (o : Op) (ev : Operand → AV) (H : Hp) (K : KV) : Prop :=
 match o with
 | .lookup t x ix ok => keysOkM H (ev x) ∧ amap T (.lookup t x ix ok) ev H K
 | .mapEntry t m k => keysOkM H (ev m) ∧ amap T (.mapEntry t m k) ev H K
 | .entryStore t m s x => keysOkM H (ev m) ∧ amap T (.entryStore t m s x) ev H K
 | .mapUpdate t m k x => keysOkM H (ev m) ∧ amap T (.mapUpdate t m k x) ev H K
 | .call c => (match c.callee with
  | .builtin b => (match b, c.args.toList with
   | .delete, [m, _] => keysOkM H (ev m) ∧ amap T (.call c) ev H K
   | _, _ => aop T false (.call c) ev H K)
  | _ => aop T false (.call c) ev H K)
 | o => aop T false o ev H K
def adopW (T : TT) (w : Bool) (o : Op) (ev : Operand → AV) (H : Hp) (K : KV) : Prop :=
 match w with
 | false => adop T o ev H K
 | true => (match o with
  | .buildSlice t len parts => abuildC T t len (parts.toList.map fun p => (p.1, ev p.2)) H K
  | o => adop T o ev H K)

end Go.Ve
end

section
/- An abstract weakest precondition, second text: how abstract states stand to worlds; contracts; what code asks of an abstract state. -/
namespace Go.Ve

inductive Rv (K : Addr → Value → Prop) : List Value → AV → Value → Prop
 | undef (σ : List Value) (v : Value) : Rv K σ .undef v
 | und (σ : List Value) : Rv K σ .und undef
 | int (σ : List Value) (k : IntKind) (n : Int) : Rv K σ (.int k n) (.int k n)
 | bool (σ : List Value) (b : Bool) : Rv K σ (.bool b) (.bool b)
 | str (σ : List Value) (s : Bs) : Rv K σ (.str s) (.string ⟨s.toArray⟩)
 | nils (σ : List Value) : Rv K σ .nils (.slice none 0 0)
 | sl0 (σ : List Value) : Rv K σ (.sl []) (.slice none 0 0)
 | sl (σ : List Value) (es : List (List AV)) (a : Addr) (cap sz : Nat) (val : Nat → Nat → Value) (hcap : es.length ≤ cap) (hlen : es.length ≤ 9223372036854775807)
   (hsz : ∀ c ∈ es, c.length = sz ∧ c.all isCell = true) (hv : ∀ i j c x, es[i]? = some c → c[j]? = some x → Rv K [] x (val i j))
   (hK : ∀ i j, i < es.length → j < sz → K (a.add (i * sz + j)) (val i j)) : Rv K σ (.sl es) (.slice (some a) es.length cap)
 | own (σ : List Value) (id : Nat) (v : Value) (h : σ[id]? = some v) (h1 : v.oneCell' = true) : Rv K σ (.own id) v
 | cptr (σ : List Value) (cs : List AV) (a : Addr) (val : Nat → Value) (h1 : cs.all isCell = true) (hv : ∀ j x, cs[j]? = some x → Rv K [] x (val j))
   (hK : ∀ j, j < cs.length → K (a.add j) (val j)) : Rv K σ (.cptr cs) (.pointer (some a))
 | ptr (σ : List Value) (id off b : Nat) (h : σ[id]? = some (.pointer (some ⟨b, 0, none⟩))) : Rv K σ (.ptr id off) (.pointer (some ⟨b, off, none⟩))
 | eptr (σ : List Value) (id i sz off g n cap : Nat) (h : σ[id]? = some (.slice (some ⟨g, 0, none⟩) n cap)) : Rv K σ (.eptr id i sz off) (.pointer (some ⟨g, i * sz + off, none⟩))
 | asl (σ : List Value) (id off n b cap : Nat) (hc : n ≤ cap) (h : σ[id]? = some (.pointer (some ⟨b, 0, none⟩))) : Rv K σ (.asl id off n) (.slice (some ⟨b, off, none⟩) n cap)
 | vw (σ : List Value) (id n cap : Nat) (a : Option Addr) (h : σ[id]? = some (.slice a n cap)) : Rv K σ (.vw id) (.slice a n n)
 | nilp (σ : List Value) : Rv K σ .nilp (.pointer none)
 | agg (σ : List Value) (cs : List AV) (vs : Array Value) (hl : vs.size = cs.length) (h1 : cs.all isCell = true) (hv : ∀ j x, cs[j]? = some x → Rv K σ x (vs.getD j undef)) : Rv K σ (.agg cs) (.agg vs)
 | tup (σ : List Value) (cs : List AV) (vs : Array Value) (hl : vs.size = cs.length) (hv : ∀ j x, cs[j]? = some x → Rv K σ x (vs.getD j undef)) : Rv K σ (.tup cs) (.tuple vs)
 | fn (σ : List Value) (f : FuncId) (cs : List AV) (vs : Array Value) (hl : vs.size = cs.length) (hv : ∀ j x, cs[j]? = some x → Rv K σ x (vs.getD j undef)) : Rv K σ (.fn f cs) (.func (.func f) #[] vs)
 | bfn (σ : List Value) (f : FuncId) (cs : List AV) (vs : Array Value) (hl : vs.size = cs.length) (h1 : cs.all isCell = true) (hv : ∀ j x, cs[j]? = some x → Rv K σ x (vs.getD j undef)) : Rv K σ (.bfn f cs) (.func (.func f) #[.agg vs] #[])
 | nilf (σ : List Value) : Rv K σ .nilf .nilFunc
 | nili (σ : List Value) : Rv K σ .nili .nilIface
 | nilm (σ : List Value) : Rv K σ .nilm (.map none)
 | ifc (σ : List Value) (t : TypeId) (x : AV) (v : Value) (h : Rv K σ x v) : Rv K σ (.ifc t x) (.iface t v)

inductive LeafV : LK → Value → Prop
 | int (k : IntKind) (a : Int) : LeafV (.int k) (.int k a)
 | bool (a : Bool) : LeafV .bool (.bool a)
 | str (a : ByteArray) : LeafV .str (.string a)
inductive LeafVs : List LK → List Value → Prop
 | nil : LeafVs [] []
 | cons {k : LK} {a : Value} {ks : List LK} {xs : List Value} (h : LeafV k a) (t : LeafVs ks xs) : LeafVs (k :: ks) (a :: xs)
def blkOf : Value → Option Nat
 | .pointer (some a) => some a.block
 | .slice (some a) _ _ => some a.block
 | .func (.yield b) _ _ => some b
 | .map (some b) => some b
 | _ => none
def live : Ob → Bool
 | .box _ _ | .row _ _ _ | .loop _ _ _ _ _ _ | .map _ _ _ | .iter _ _ _ _ => true
 | _ => false
def Mb (H : Hp) (σ : List Value) (b : Nat) : Prop := ∃ (i : Nat) (o : Ob) (v : Value), H[i]? = some o ∧ live o = true ∧ σ[i]? = some v ∧ blkOf v = some b
def Cst (M0 : Nat → Prop) (w : World) : Addr → Value → Prop := fun a v => ¬ M0 a.block ∧ w.cell? a = some v
def Kof (M0 : Nat → Prop) (H : Hp) (σ : List Value) (w : World) : Addr → Value → Prop := Cst (fun b => M0 b ∨ Mb H σ b) w

def codeOf : AX → Code
 | .normal => .skip
 | .exit id => .exit id
 | .ret => .ret
def LSOk (r : Loop) : LS → Prop
 | .ready => r.state = .ready ∧ r.pending = none
 | .busy => r.state = .busy
 | .done x => r.state = .done ∧ r.pending = some (codeOf x)
def ObOk (K : Addr → Value → Prop) (σ : List Value) (w : World) : Ob → Value → Prop
 | .box t cs, v => cs.all isCell = true ∧ ∃ b vs, v = .pointer (some ⟨b, 0, none⟩) ∧ w.heap[b]? = some (.cells vs t (0, 0)) ∧ vs.size = cs.length ∧ ∀ j x, cs[j]? = some x → Rv K σ x (vs.getD j undef)
 | .row t sz es, v => 0 < sz ∧ ((es = [] ∧ v = .slice none 0 0) ∨ ∃ g cap cur, v = .slice (some ⟨g, 0, none⟩) es.length cap ∧ w.heap[g]? = some (.cells cur t (0, 0)) ∧ es.length ≤ cap ∧ cap ≤ 9223372036854775807 ∧ cur.size = cap * sz ∧
   ∀ i c, es[i]? = some c → c.length = sz ∧ c.all isCell = true ∧ ∀ j x, c[j]? = some x → Rv K [] x (cur.getD (i * sz + j) undef))
 | .frz es, v => Rv K [] (.sl es) v
 | .loop nt l ps c d st, v => ∃ b r, v = .func (.yield b) #[] #[] ∧ w.heap[b]? = some (.loop r) ∧ r.tmps.size = nt ∧ (∀ i, Rv K σ (envL l i) (r.tmps.getD i undef)) ∧ r.params.toList = ps ∧ r.assign = c ∧ r.body = d ∧ LSOk r st
 | .dead, _ => True
 | .map ks es clk, v => (∀ e ∈ es, e.2.2 < clk) ∧ (es.map (·.2.2)).Nodup ∧ ∃ (b : Nat) (xs : Array MapEntry), v = .map (some b) ∧ w.heap[b]? = some (.map xs clk) ∧ xs.size = es.length ∧
   ∀ (i : Nat) (e : List AV × AV × Nat), es[i]? = some e → ∃ (x : MapEntry) (us : Array Value), xs[i]? = some x ∧ x.born = e.2.2 ∧ x.key = .agg us ∧ LeafVs ks us.toList ∧ Rv K [] (.agg e.1) (.agg us) ∧ Rv K [] e.2.1 x.val
 | .iter mid since seen last, v => since ≤ last ∧ ∃ (b : Nat) (mb : Option Nat), v = .pointer (some ⟨b, 0, none⟩) ∧ w.heap[b]? = some (.mapIter mb since seen.toArray last) ∧ (match mid with | none => mb = none | some m => ∃ r, mb = some r ∧ σ[m]? = some (.map (some r)))

def gblk : Option Nat := (some 0)
structure St (M0 : Nat → Prop) (H : Hp) (σ : List Value) (w : World) : Prop where
 len : σ.length = H.length
 ok : ∀ (i : Nat) (o : Ob) (v : Value), H[i]? = some o → σ[i]? = some v → ObOk (Kof M0 H σ w) σ w o v
 dist : ∀ (i j : Nat) (o o' : Ob) (v v' : Value) (b : Nat), i ≠ j → H[i]? = some o → H[j]? = some o' → live o = true → live o' = true → σ[i]? = some v → σ[j]? = some v' → blkOf v = some b → blkOf v' ≠ some b
 sep : ∀ b, Mb H σ b → ¬ M0 b
 old : ∀ b, M0 b → b < w.heap.size
 glob : ∀ b, gblk = some b → ∃ m, Kof M0 H σ w ⟨b, 0, none⟩ (.int .i64 m)

structure DrT where
 strict : Prop
abbrev Dr := Inhabited DrT
abbrev Dr.strict [Dr] : Prop := (default : DrT).strict
structure Tp [Dr] (w w' : World) : Prop where
 e : w'.tape = w.tape
 d : Dr.strict → w.drawn ≤ w'.drawn
structure Below [Dr] (B : Nat) (w w' : World) : Prop where
 os : w'.os = w.os
 tape : Tp w w'
 output : w'.output = w.output
 size : w.heap.size ≤ w'.heap.size
 block : ∀ k, k < B → w'.heap[k]? = w.heap[k]?
structure Ext [Dr] (H : Hp) (σ : List Value) (w : World) (H' : Hp) (σ' : List Value) (w' : World) : Prop where
 os : w'.os = w.os
 tape : Tp w w'
 output : w'.output = w.output
 size : w.heap.size ≤ w'.heap.size
 pre : σ <+: σ'
 keep : ∀ b, b < w.heap.size → ¬ Mb H σ b → w'.heap[b]? = w.heap[b]?
 mutb : ∀ b, b < w.heap.size → Mb H' σ' b → Mb H σ b

def Rvs (K : Addr → Value → Prop) (σ : List Value) (as : List AV) (vs : List Value) : Prop := vs.length = as.length ∧ ∀ i x, as[i]? = some x → Rv K σ x (vs.getD i undef)

def Callable (P : Program) (f : FuncId) : Prop := ∀ (args : Array Value) (w : World), (callFunc f args).run P w = .ok (.enter f args) w

@[irreducible] def ACall [Dr] (P : Program) (f : FuncId) (args : List AV) (H : Hp) (K : KV) : Prop :=
 Callable P f ∧ ∀ (M0 : Nat → Prop) (σ : List Value) (w : World) (vs : List Value), St M0 H σ w → Rvs (Kof M0 H σ w) σ args vs →
  Calls P f vs.toArray w fun e w' => ∃ v r H' σ', e = .returned v ∧ St M0 H' σ' w' ∧ Ext H σ w H' σ' w' ∧ Rv (Kof M0 H' σ' w') σ' r v ∧ K r H'

@[irreducible] def PCall [Dr] (P : Program) (f : FuncId) (args : List AV) (r : AV) : Prop :=
 Callable P f ∧ ∀ (M0 : Nat → Prop) (w : World) (vs : List Value), (∀ b, M0 b → b < w.heap.size) → (∀ b, gblk = some b → ∃ m, Cst M0 w ⟨b, 0, none⟩ (.int .i64 m)) → Rvs (Cst M0 w) [] args vs →
  Calls P f vs.toArray w fun e w' => ∃ v, e = .returned v ∧ Below w.heap.size w w' ∧ Rv (Cst M0 w') [] r v

def Fr (r : Option Nat) : Fence := { fn := fun _ => True, depth := none, alive := false, round := r }
@[irreducible] def AYld [Dr] (P : Program) (id : Nat) (args : List AV) (H : Hp) (K : KV) : Prop :=
 (∃ nt l ps c d st, H[id]? = some (.loop nt l ps c d st)) ∧ ∀ (M0 : Nat → Prop) (σ : List Value) (w : World) (b : Nat) (vs : List Value), St M0 H σ w → σ[id]? = some (.func (.yield b) #[] #[]) → Rvs (Kof M0 H σ w) σ args vs →
  ∃ fn tmps c d, (Instr.yield b vs.toArray).run P w = .ok (.round b fn tmps c d) w ∧
   RoundIn Fence.wide 0 P b fn tmps c d w fun e w' => ∃ v r H' σ', e = .returned v ∧ St M0 H' σ' w' ∧ Ext H σ w H' σ' w' ∧ Rv (Kof M0 H' σ' w') σ' r v ∧ K r H'

/-! ### regions -/
def putD (n : Nat) (e : Env) (dst : Option Nat) (v : AV) (K : Env → Prop) : Prop :=
 match dst with
 | none => K e
 | some d => bif Nat.blt d n then forceV v fun u => K (upd e d u) else False

def aguard (ops : List Oper) (e : Env) (o : Oper) (yes no : Prop) : Prop :=
 match o.guard with
 | none => yes
 | some (g, want) =>
  match ops[g]? with
  | none => False
  | some og =>
   match og.dst with
   | none => False
   | some d =>
    match e d with
    | .bool b => (match b with
     | true => bif want then yes else no
     | false => bif want then no else yes)
    | .und => no
    | _ => False

def xfns : List (FuncId × Bool) := []
def xis (g : FuncId) : List (FuncId × Bool) → Option Bool
 | [] => none
 | (k, b) :: r => bif Nat.beq g k then some b else xis g r
def xargs (g : FuncId) (as : List AV) : Option (Bool × FuncId × Int × Int × Int) :=
 match as with
 | [.int .u64 x, .int .u64 y, .int .u64 z] => (match xis g xfns with | some b => some (b, g, x, y, z) | none => none)
 | _ => none
def xcallOf (e : Env) (o : Op) : Option (Bool × FuncId × Int × Int × Int) :=
 match o with
 | .call c => (match c.callee with
  | .value f => (match evalO e f with
   | .fn g [] => xargs g (c.args.toList.map (evalO e))
   | _ => none)
  | _ => none)
 | _ => none
def xres (b : Bool) (x y z : Int) : AV := match b with
 | true => .tup [.int .u64 (((x.toNat + y.toNat + z.toNat) % 18446744073709551616 : Nat) : Int), .int .u64 (((x.toNat + y.toNat + z.toNat) / 18446744073709551616 : Nat) : Int)]
 | false => .tup [.int .u64 (((x.toNat + 18446744073709551616 - y.toNat - z.toNat) % 18446744073709551616 : Nat) : Int), .int .u64 ((if x.toNat < y.toNat + z.toNat then 1 else 0 : Nat) : Int)]
def xval (b : Bool) (x y z : Int) : Value := match b with
 | true => .tuple #[.int .u64 (((x.toNat + y.toNat + z.toNat) % 18446744073709551616 : Nat) : Int), .int .u64 (((x.toNat + y.toNat + z.toNat) / 18446744073709551616 : Nat) : Int)]
 | false => .tuple #[.int .u64 (((x.toNat + 18446744073709551616 - y.toNat - z.toNat) % 18446744073709551616 : Nat) : Int), .int .u64 ((if x.toNat < y.toNat + z.toNat then 1 else 0 : Nat) : Int)]
def XOk (P : Program) (b : Bool) (g : FuncId) : Prop := ∀ (x y z : Int) (w : World), 0 ≤ x → 0 ≤ y → 0 ≤ z → z ≤ 1 → (callFunc g #[.int .u64 x, .int .u64 y, .int .u64 z]).run P w = .ok (.value (xval b x y z)) w
def calleeOf (e : Env) (o : Op) : Option (FuncId × List AV) :=
 match o with
 | .call c => (match c.callee with
  | .value f => (match evalO e f with
   | .fn g cap => (match xargs g (c.args.toList.map (evalO e)) with | some _ => none | none => some (g, c.args.toList.map (evalO e) ++ cap))
   | .bfn g cs => some (g, .agg cs :: c.args.toList.map (evalO e))
   | _ => none)
  | _ => none)
 | _ => none

def yieldOf (e : Env) (o : Op) : Option (Nat × List AV) :=
 match o with
 | .call c => (match c.callee with
  | .value f => (match evalO e f with
   | .own id => some (id, c.args.toList.map (evalO e))
   | _ => none)
  | _ => none)
 | _ => none

def aoper [Dr] (P : Program) (T : TT) (o : Oper) (e : Env) (H : Hp) (K : KV) : Prop :=
 match calleeOf e o.op with
 | some (g, args) => ACall P g args H K
 | none => match yieldOf e o.op with
  | some (id, args) => AYld P id args H K
  | none => match xcallOf e o.op with
   | some (b, g, x, y, z) => XOk P b g ∧ (0 ≤ x ∧ 0 ≤ y ∧ (0 ≤ z ∧ z ≤ 1 ∧ K (xres b x y z) H))
   | none => (match mapOpB T o.op with | true => amap T o.op (evalO e) H K | false => aop T true o.op (evalO e) H K)

structure Box (p : Prop) : Prop where
 h : p

noncomputable def aops [Dr] (P : Program) (T : TT) (n : Nat) (ops : List Oper) (l : List Oper) : Env → Hp → (Env → Hp → Prop) → Prop :=
 List.rec (motive := fun _ => Env → Hp → (Env → Hp → Prop) → Prop) (fun e H K => K e H)
  (fun o _ ih e H K => aguard ops e o (aoper P T o e H fun v H' => forceH H' fun H2 => putD n e o.dst v fun e' => Box (ih e' H2 K)) (putD n e o.dst .und fun e' => Box (ih e' H K))) l
theorem aops_cons [Dr] {P : Program} {T : TT} {n : Nat} {ops : List Oper} {o : Oper} {rest : List Oper} {e : Env} {H : Hp} {K : Env → Hp → Prop} :
  aops P T n ops (o :: rest) e H K = aguard ops e o (aoper P T o e H fun v H' => forceH H' fun H2 => putD n e o.dst v fun e' => Box (aops P T n ops rest e' H2 K)) (putD n e o.dst .und fun e' => Box (aops P T n ops rest e' H K)) := rfl

def aoperD [Dr] (P : Program) (T : TT) (w : Bool) (o : Oper) (e : Env) (H : Hp) (K : KV) : Prop :=
 match calleeOf e o.op with
 | some (g, args) => (match w with
  | false => ∃ r, ACall P g args H (fun r' H' => r' = r ∧ H' = H) ∧ K r H
  | true => ∃ r H1, ACall P g args H (fun r' H' => r' = r ∧ H' = H1) ∧ K r H1)
 | none => adopW T w o.op (evalO e) H K
def lk : List (Nat × List Nat) → Nat → List Nat
 | [], _ => []
 | (k, l) :: r, j => bif Nat.beq k j then l else lk r j
def wr : List (Nat × List Nat) → Nat → Bool
 | [], _ => false
 | (k, _) :: r, j => bif Nat.beq k (2000 + j) then true else wr r j
def swp : List (Nat × List Nat) → Option Nat
 | [] => none
 | (k, _) :: r => bif Nat.ble 1000 k && Nat.blt k 2000 then some (k - 1000) else swp r
def reck [Dr] (P : Program) (T : TT) (ops : List Oper) (e : Env) (H : Hp) (i : Nat) : Prop :=
 match ops[i]? with
 | some o => (match o.dst with
  | some d => (match calleeOf e o.op with
   | some (g, args) => ACall P g args H fun r H' => r = e d ∧ H' = H
   | none => adop T o.op (evalO e) H fun r H' => r = e d ∧ H' = H)
  | none => False)
 | none => False
def recksE [Dr] (P : Program) (T : TT) (ops : List Oper) (e : Env) (ph : Nat → Hp) (j : Nat) : List Nat → Prop
 | [] => True
 | k :: l => reck P T ops e (ph k) j ∧ recksE P T ops e ph j l
def recks [Dr] (P : Program) (T : TT) (ops : List Oper) (e : Env) (H : Hp) (p : Prop) : List Nat → Prop
 | [] => p
 | i :: l => reck P T ops e H i ∧ recks P T ops e H p l
def thenD [Dr] (P : Program) (T : TT) (ops : List Oper) (l l2 : List Nat) (ph : Nat → Hp) (j : Nat) (e : Env) (H : Hp) (p : Prop) : Prop :=
 match l, l2 with
 | [], [] => Box p
 | l, l2 => recks P T ops e H (recksE P T ops e ph j l2) l ∧ Box p
def updP (ph : Nat → Hp) (j : Nat) (H : Hp) : Nat → Hp := fun k => bif Nat.beq k j then H else ph k
noncomputable def aopsD [Dr] (P : Program) (T : TT) (n : Nat) (ops : List Oper) (L : List (Nat × List Nat)) (l : List Oper) : Nat → (Nat → Hp) → Env → Hp → (Env → Hp → Prop) → Prop :=
 List.rec (motive := fun _ => Nat → (Nat → Hp) → Env → Hp → (Env → Hp → Prop) → Prop) (fun _ _ e H K => K e H)
  (fun o _ ih j ph e H K => aguard ops e o (aoperD P T (wr L j) o e H fun v H' => forceH H' fun H2 => putD n e o.dst v fun e' => thenD P T ops (lk L j) (lk L (3000 + j)) ph j e' H2 (ih (j + 1) (updP ph j H) e' H2 K)) (putD n e o.dst .und fun e' => thenD P T ops (lk L j) [] ph j e' H (ih (j + 1) (updP ph j H) e' H K))) l
theorem aopsD_cons [Dr] {P : Program} {T : TT} {n : Nat} {ops : List Oper} {L : List (Nat × List Nat)} {o : Oper} {rest : List Oper} {j : Nat} {ph : Nat → Hp} {e : Env} {H : Hp} {K : Env → Hp → Prop} :
  aopsD P T n ops L (o :: rest) j ph e H K = aguard ops e o (aoperD P T (wr L j) o e H fun v H' => forceH H' fun H2 => putD n e o.dst v fun e' => thenD P T ops (lk L j) (lk L (3000 + j)) ph j e' H2 (aopsD P T n ops L rest (j + 1) (updP ph j H) e' H2 K)) (putD n e o.dst .und fun e' => thenD P T ops (lk L j) [] ph j e' H (aopsD P T n ops L rest (j + 1) (updP ph j H) e' H K)) := rfl
theorem recks_spec [Dr] {P : Program} {T : TT} {ops : List Oper} {e : Env} {H : Hp} {p : Prop} : ∀ {l : List Nat}, recks P T ops e H p l → p ∧ ∀ i ∈ l, reck P T ops e H i
 | [], h => ⟨h, fun i hi => by cases hi⟩
 | k :: l, h => by
  obtain ⟨h1, h2⟩ := recks_spec (l := l) h.2
  refine ⟨h1, fun i hi => ?_⟩
  rcases List.mem_cons.1 hi with rfl | hi
  ·exact h.1
  ·exact h2 i hi
theorem recksE_spec [Dr] {P : Program} {T : TT} {ops : List Oper} {e : Env} {ph : Nat → Hp} {j : Nat} : ∀ {l : List Nat}, recksE P T ops e ph j l → ∀ k ∈ l, reck P T ops e (ph k) j
 | [], _, k, hk => by cases hk
 | k :: l, h, i, hi => by
  rcases List.mem_cons.1 hi with rfl | hi
  ·exact h.1
  ·exact recksE_spec h.2 i hi
theorem thenD_spec [Dr] {P : Program} {T : TT} {ops : List Oper} {l l2 : List Nat} {ph : Nat → Hp} {j : Nat} {e : Env} {H : Hp} {p : Prop} (h : thenD P T ops l l2 ph j e H p) : p ∧ (∀ i ∈ l, reck P T ops e H i) ∧ ∀ k ∈ l2, reck P T ops e (ph k) j := by
 unfold thenD at h
 split at h
 ·exact ⟨h.h, fun i hi => (by cases hi), fun i hi => (by cases hi)⟩
 ·obtain ⟨h1, h2⟩ := recks_spec h.1
  exact ⟨h.2.h, h2, recksE_spec h1⟩

def heapUse : Op → Nat
 | .move _ | .assign _ | .pick _ _ _ | .nilCheck _ | .binOp _ _ _ _ _ | .unOp _ _ _ | .makeFunc _ _ _ | .fieldAddr _ _ _ | .field _ _ _ | .index _ _ _ | .extract _ _ | .build _ _ | .makeSlice _ _ _ => 0
 | .load _ _ | .indexAddr _ _ _ | .convert _ _ _ | .slice _ _ _ _ _ | .lookup _ _ _ _ => 1
 | .call c => (match c.callee with | .builtin .append => 2 | .builtin .copy => 2 | .builtin .delete => 2 | .builtin .min => 0 | .builtin .max => 0 | _ => 1)
 | _ => 2

def testB (m j : Nat) : Bool := Nat.beq (Nat.land (Nat.shiftRight m j) 1) 1
def waitsM (ops : List Oper) : List Nat :=
 ops.foldl (fun acc o => acc ++ [(o.after.toList.filter (Region.binds .any)).foldl (fun m e => Nat.lor (Nat.shiftLeft 1 e.on) (Nat.lor ((acc[e.on]?).getD 0) m)) 0]) []

def looks (ops : List Oper) (o : Oper) : List Tmp := o.looksAt ops.toArray

def early (ops : List Oper) (i : Nat) : Bool :=
 match ops[i]? with
 | some p => (match p.op with
  | .alloc _ => p.guard.isNone && p.dst.isSome
  | _ => false)
 | none => false
def wUse : Op → Nat
 | .buildSlice _ _ _ => 0
 | _ => 2
def hU (L : List (Nat × List Nat)) (i : Nat) (o : Oper) : Nat := bif wr L i then wUse o.op else heapUse o.op
def drawR (L : List (Nat × List Nat)) (ops : List Oper) : Bool :=
 let W := waitsM ops
 let ix := (List.range ops.length).zip ops
 (match swp L with
  | none => true
  | some x => early ops (x + 1) && !(wr L (x + 1)) && ix.all fun (k, o) => Nat.beq k (x + 1) || o.after.toList.all fun e => !Region.binds .any e || !Nat.beq e.on (x + 1) || ix.all fun (j, p) => !Nat.blt j (x + 1) || !Nat.beq (hU L j p) 2 || testB ((W[k]?).getD 0) j) &&
 ix.all fun (i, o) =>
  (o.after.toList.all fun e => !Region.binds .any e || Nat.blt e.on i) &&
  ix.all fun (j, p) =>
   (Nat.beq i j ||
    ((match p.dst with
     | some d => (!(looks ops o).contains d || (Nat.blt j i && testB ((W[i]?).getD 0) j) || (Nat.beq (hU L i o) 0 && Nat.blt i j && testB ((W[j]?).getD 0) i)) && (o.dst != some d)
     | none => true) &&
    (!(Nat.blt j i) || !((Nat.beq (hU L i o) 2 && !Nat.beq (hU L j p) 0) || (Nat.beq (hU L j p) 2 && !Nat.beq (hU L i o) 0)) || testB ((W[i]?).getD 0) j ||
     (Nat.beq (hU L i o) 2 && Nat.beq (hU L j p) 1 && (lk L i).contains j && p.guard.isNone && (match p.dst with | some d => !(looks ops p).contains d | none => false)) ||
     (match swp L with | some x => Nat.beq i (x + 1) && Nat.beq (hU L j p) 2 | none => false) ||
     (Nat.beq (hU L j p) 2 && Nat.beq (hU L i o) 1 && (lk L (3000 + i)).contains j && (match o.dst with | some d => !(looks ops o).contains d | none => false)))))

/-! ### code -/
abbrev AQ := AX → AS → Prop

structure ActOk (D : List Deferred) (K : Addr → Value → Prop) (σ : List Value) (n : Nat) (e : Env) (a : Act) : Prop where
 size : a.tmps.size = n
 defers : a.defers = D
 rv : ∀ i, Rv K σ (e i) (a.tmps.getD i undef)

def Weak (N0 : Nat) (s s' : AS) : Prop := ∀ (M0 : Nat → Prop) (σ : List Value) (w : World) (n : Nat) (a : Act) (D : List Deferred), N0 ≤ σ.length → St M0 s.H σ w → ActOk D (Kof M0 s.H σ w) σ n s.env a →
 ∃ σ', σ.take N0 <+: σ' ∧ (∀ b, Mb s'.H σ' b → Mb s.H σ b) ∧ St M0 s'.H σ' w ∧ ActOk D (Kof M0 s'.H σ' w) σ' n s'.env a

def afterQ (K : AS → Prop) (Q : AQ) : AQ := fun x s => match x with
 | .normal => K s
 | x => Q x s
@[irreducible] def ALoop (N0 : Nat) (B : AQ → AS → Prop) (Q : AQ) (s : AS) : Prop :=
 ∃ (ι : Type) (I : ι → Prop) (shape : ι → AS) (μ : ι → Nat), (∃ i, I i ∧ Weak N0 s (shape i)) ∧ ∀ i, I i → B (afterQ (fun s'' => ∃ j, I j ∧ μ j < μ i ∧ Weak N0 s'' (shape j)) Q) (shape i)

def awpRegion [Dr] (P : Program) (T : TT) (n : Nat) (ops : List Oper) (Q : AQ) (s : AS) : Bool → Prop
 | false => aops P T n ops ops s.env s.H fun e H => Q .normal ⟨e, H⟩
 | true => ∃ L, drawR L ops = true ∧ aopsD P T n ops L ops 0 (fun _ => []) s.env s.H fun e H => Q .normal ⟨e, H⟩
def blockQ (id : Nat) (Q : AQ) : AQ := fun x s => match x with
 | .exit i => bif Nat.beq i id then Q .normal s else Q (.exit i) s
 | x => Q x s
def condQ (v : AV) (p q : Prop) : Prop := match v with
 | .bool t => (match t with | true => p | false => q)
 | _ => False

def rangeK (id : Nat) (e : Env) (Q : AQ) (H : Hp) : Prop := match H[id]? with
 | some (.loop _ _ _ _ _ st) => (match st with
  | .ready => Q .normal ⟨e, H.set id .dead⟩
  | .done x => Q x ⟨e, H.set id .dead⟩
  | .busy => False)
 | _ => False
def inLoop (rd : Option Nat) (H : Hp) : Prop := match rd with
 | none => True
 | some id => match H[id]? with
  | some (.loop _ _ _ _ _ _) => True
  | _ => False
@[irreducible] def ARange [Dr] (P : Program) (n : Nat) (rd : Option Nat) (f : Operand) (ps : List Nat) (c d : Code) (Q : AQ) (s : AS) : Prop :=
 ∃ (l : List (Nat × AV)) (g : FuncId) (cap : List AV), (∀ p ∈ l, s.env p.1 = p.2) ∧ evalO s.env f = .fn g cap ∧ inLoop rd s.H ∧
  ACall P g (.own s.H.length :: cap) (s.H ++ [.loop n l ps c d .ready]) fun _ H' => rangeK s.H.length s.env Q H'

noncomputable def AWP [Dr] (P : Program) (T : TT) (n : Nat) (rd : Option Nat) (N0 : Nat) (c : Code) : AQ → AS → Prop :=
 Code.rec (motive := fun _ => AQ → AS → Prop)
  (fun Q s => Q .normal s)
  (fun _ ops d Q s => awpRegion P T n ops.toList Q s d)
  (fun _ _ iha ihb Q s => iha (afterQ (fun s' => Box (ihb Q s')) Q) s)
  (fun c _ _ iha ihb Q s => condQ (evalO s.env c) (Box (iha Q s)) (Box (ihb Q s)))
  (fun id _ ih Q s => ih (blockQ id Q) s)
  (fun _ ih Q s => ALoop N0 ih Q s)
  (fun f ps c d _ _ Q s => ARange P n rd f ps.toList c d Q s)
  (fun id Q s => Q (.exit id) s)
  (fun _ ih Q s => ih Q s)
  (fun _ Q s => Q .normal s)
  (fun _ _ _ => False)
  (fun Q s => Q .ret s)
  (fun _ _ _ => False) c

/-! ### a function's results -/
def view0 (H : Hp) : AV → Option AV
 | .own id => (rowOf H[id]?).map .sl
 | .ptr id off => (match H[id]? with
  | some (.box _ cs) => bif cs.all closed1 then some (.cptr (cs.drop off)) else none
  | _ => none)
 | x => bif closed1 x then some x else none
def view0s (H : Hp) : List AV → Option (List AV)
 | [] => some []
 | x :: r => match view0 H x with
  | some y => (match view0s H r with | some ys => some (y :: ys) | none => none)
  | none => none
def view1 (H : Hp) : AV → Option AV
 | .agg cs => (match view0s H cs with | some ds => some (.agg ds) | none => none)
 | .fn f cs => (match view0s H cs with | some ds => some (.fn f ds) | none => none)
 | x => view0 H x

def resOf (T : TT) (s : AS) : ResultVar → (AV → Prop) → Prop
 | .tmp t, K => K (s.env t)
 | .cell a t, K => aload T t (s.env a) s.H fun v _ => K v
def resOfs (T : TT) (s : AS) : List ResultVar → (List AV → Prop) → Prop
 | [], K => K []
 | r :: rest, K => resOf T s r fun v => resOfs T s rest fun vs => K (v :: vs)
def viewAll (H : Hp) : List AV → Option (List AV)
 | [] => some []
 | x :: rest => match view1 H x with
  | some y => (viewAll H rest).map (y :: ·)
  | none => none
def mkRes : List AV → AV
 | [x] => x
 | xs => .tup xs

def PEnd (T : TT) (rs : List ResultVar) (r : AV) (s : AS) : Prop := resOfs T s rs fun vs => match viewAll s.H vs with
 | some us => forceL us fun us' => mkRes us' = r
 | none => False
def PPost (T : TT) (rs : List ResultVar) (r : AV) : AQ := fun x s => match x with
 | .exit _ => False
 | _ => PEnd T rs r s

def env0 (args : List AV) : Env := fun i => args.getD i .undef

end Go.Ve
end

section
/- An abstract weakest precondition, third text: the relations between abstract and real states go on: what grows, what is pushed, what is written. -/
namespace Go.Ve

theorem Rv.mono [Dr] {K K' : Addr → Value → Prop} {σ σ' : List Value} {x : AV} {v : Value} (h : Rv K σ x v) (hK : ∀ a u, K a u → K' a u) (hs : σ <+: σ') : Rv K' σ' x v := by
 induction h generalizing σ' with
 | undef => exact .undef _ _
 | und => exact .und _
 | int => exact .int _ _ _
 | bool => exact .bool _ _
 | str => exact .str _ _
 | nils => exact .nils _
 | sl0 => exact .sl0 _
 | sl σ es a cap sz val h1 h2 h3 h4 h5 ih => exact .sl _ es a cap sz val h1 h2 h3 (fun i j c x hc hx => ih i j c x hc hx (List.prefix_refl _)) (fun i j hi hj => hK _ _ (h5 i j hi hj))
 | own σ id v h h1 => exact .own _ id v (by obtain ⟨t, rfl⟩ := hs; rw [List.getElem?_append_left (List.getElem?_eq_some_iff.1 h).1]; exact h) h1
 | cptr σ cs a val h1 h2 h3 ih => exact .cptr _ cs a val h1 (fun j x hx => ih j x hx (List.prefix_refl _)) (fun j hj => hK _ _ (h3 j hj))
 | ptr σ id off b h => exact .ptr _ id off b (by obtain ⟨t, rfl⟩ := hs; rw [List.getElem?_append_left (List.getElem?_eq_some_iff.1 h).1]; exact h)
 | eptr σ id i sz off g n cap h => exact .eptr _ id i sz off g n cap (by obtain ⟨t, rfl⟩ := hs; rw [List.getElem?_append_left (List.getElem?_eq_some_iff.1 h).1]; exact h)
 | asl σ id off n b cap hc h => exact .asl _ id off n b cap hc (by obtain ⟨t, rfl⟩ := hs; rw [List.getElem?_append_left (List.getElem?_eq_some_iff.1 h).1]; exact h)
 | vw σ id n cap a h => exact .vw _ id n cap a (by obtain ⟨t, rfl⟩ := hs; rw [List.getElem?_append_left (List.getElem?_eq_some_iff.1 h).1]; exact h)
 | nilp => exact .nilp _
 | agg σ cs vs h1 h2 h3 ih => exact .agg _ cs vs h1 h2 (fun j x hx => ih j x hx hs)
 | tup σ cs vs h1 h2 ih => exact .tup _ cs vs h1 (fun j x hx => ih j x hx hs)
 | fn σ f cs vs h1 h2 ih => exact .fn _ f cs vs h1 (fun j x hx => ih j x hx hs)
 | bfn σ f cs vs h1 h2 h3 ih => exact .bfn _ f cs vs h1 h2 (fun j x hx => ih j x hx hs)
 | nilf => exact .nilf _
 | nili => exact .nili _
 | nilm => exact .nilm _
 | ifc σ t x v h ih => exact .ifc _ t x v (ih hs)

theorem Rv.closed [Dr] {K : Addr → Value → Prop} {σ σ' : List Value} {x : AV} {v : Value} (h : Rv K σ x v) (hc : closed1 x = true) : Rv K σ' x v := by
 cases h with
 | int => exact .int _ _ _
 | bool => exact .bool _ _
 | str => exact .str _ _
 | nils => exact .nils _
 | sl0 => exact .sl0 _
 | sl _ es a cap sz val h1 h2 h3 h4 h5 => exact .sl _ es a cap sz val h1 h2 h3 h4 h5
 | cptr _ cs a val h1 h2 h3 => exact .cptr _ cs a val h1 h2 h3
 | nilp => exact .nilp _
 | nilf => exact .nilf _
 | nili => exact .nili _
 | nilm => exact .nilm _
 | _ => simp [closed1] at hc

theorem Rv.oneCell [Dr] {K : Addr → Value → Prop} {σ : List Value} {x : AV} {v : Value} (h : Rv K σ x v) (hc : isCell x = true) : v.oneCell' = true := by
 cases h <;> first
  | rfl
  | assumption
  | (simp [isCell] at hc; done)

theorem cell_of_closed [Dr] {x : AV} (h : closed1 x = true) : isCell x = true := by cases x <;> simp_all [closed1, isCell]
theorem cells_of_closed [Dr] {cs : List AV} (h : cs.all closed1 = true) : cs.all isCell = true := by
 rw [List.all_eq_true] at *; exact fun x hx => cell_of_closed (h x hx)

/-! ### Ext -/
theorem Tp.rfl [Dr] {w : World} : Tp w w := ⟨Eq.refl _, fun _ => Nat.le_refl _⟩
theorem Tp.trans [Dr] {w w' w'' : World} (k : Tp w' w'') (h : Tp w w') : Tp w w'' := ⟨k.e.trans h.e, fun s => Nat.le_trans (h.d s) (k.d s)⟩
theorem Below.base [Dr] {B : Nat} {w w' : World} (h : Below B w w') : Go.RowKit.Below B w w' := ⟨h.os, h.tape.e, h.output, h.size, h.block⟩
theorem Below.of [Dr] {B : Nat} {w w' : World} (h : Go.RowKit.Below B w w') (hd : Dr.strict → w.drawn ≤ w'.drawn) : Below B w w' := ⟨h.os, ⟨h.tape, hd⟩, h.output, h.size, h.block⟩
theorem Below.refl [Dr] (B : Nat) (w : World) : Below B w w := ⟨rfl, .rfl, rfl, Nat.le_refl _, fun _ _ => rfl⟩
theorem Below.alloc [Dr] {B : Nat} {w w' : World} (h : Below B w w') (hB : B ≤ w'.heap.size) (o : Obj) : Below B w (w'.alloc o) := .of (h.base.alloc hB o) fun s => by simpa using h.tape.d s
theorem Below.drew [Dr] {B : Nat} {w w' : World} (h : Below B w w') : Below B w w'.drew := .of h.base.drew fun s => Nat.le_trans (h.tape.d s) (by simp)
theorem Ext.refl [Dr] (H : Hp) (σ : List Value) (w : World) : Ext H σ w H σ w := ⟨rfl, .rfl, rfl, Nat.le_refl _, List.prefix_refl _, fun _ _ _ => rfl, fun _ _ h => h⟩
theorem Ext.trans [Dr] {H H' H'' : Hp} {σ σ' σ'' : List Value} {w w' w'' : World} (h : Ext H σ w H' σ' w') (k : Ext H' σ' w' H'' σ'' w'') : Ext H σ w H'' σ'' w'' :=
 ⟨k.os.trans h.os, k.tape.trans h.tape, k.output.trans h.output, Nat.le_trans h.size k.size, h.pre.trans k.pre,
  fun b hb hm => (k.keep b (Nat.lt_of_lt_of_le hb h.size) (fun hm' => hm (h.mutb b hb hm'))).trans (h.keep b hb hm),
  fun b hb hm => h.mutb b hb (k.mutb b (Nat.lt_of_lt_of_le hb h.size) hm)⟩
theorem Ext.K [Dr] {M0 : Nat → Prop} {H H' : Hp} {σ σ' : List Value} {w w' : World} (h : Ext H σ w H' σ' w') : ∀ a v, Kof M0 H σ w a v → Kof M0 H' σ' w' a v := by
 intro a v ⟨hm, hc⟩
 have hb : a.block < w.heap.size := World.block_lt_of_cell? w a hc
 refine ⟨fun hx => ?_, ?_⟩
 ·rcases hx with hx | hx
  ·exact hm (.inl hx)
  ·exact hm (.inr (h.mutb _ hb hx))
 ·rw [World.cell?_of_block (w := w) (h.keep a.block hb (fun hx => hm (.inr hx)))]; exact hc
theorem Ext.rv [Dr] {M0 : Nat → Prop} {H H' : Hp} {σ σ' : List Value} {w w' : World} {x : AV} {v : Value} (h : Ext H σ w H' σ' w') (hv : Rv (Kof M0 H σ w) σ x v) : Rv (Kof M0 H' σ' w') σ' x v := hv.mono h.K h.pre
theorem Ext.rv0 [Dr] {M0 : Nat → Prop} {H H' : Hp} {σ σ' : List Value} {w w' : World} {x : AV} {v : Value} (h : Ext H σ w H' σ' w') (hv : Rv (Kof M0 H σ w) [] x v) : Rv (Kof M0 H' σ' w') [] x v := hv.mono h.K (List.prefix_refl _)

theorem pre_get [Dr] {α : Type} {l l' : List α} {i : Nat} {x : α} (h : l <+: l') (hx : l[i]? = some x) : l'[i]? = some x := by
 obtain ⟨t, rfl⟩ := h
 rw [List.getElem?_append_left (List.getElem?_eq_some_iff.1 hx).1]; exact hx
theorem ObOk.keep [Dr] {M0 : Nat → Prop} {H H' : Hp} {σ σ' : List Value} {w w' : World} {o : Ob} {v : Value} (h : Ext H σ w H' σ' w') (ho : ObOk (Kof M0 H σ w) σ w o v)
  (hb : live o = true → ∀ b, blkOf v = some b → w'.heap[b]? = w.heap[b]?) : ObOk (Kof M0 H' σ' w') σ' w' o v := by
 cases o with
 | box t cs =>
  obtain ⟨h0, b, vs, rfl, h1, h2, h3⟩ := ho
  exact ⟨h0, b, vs, rfl, (hb rfl b rfl).trans h1, h2, fun j x hx => h.rv (h3 j x hx)⟩
 | row t sz es =>
  obtain ⟨h0, ⟨rfl, rfl⟩ | ⟨g, cap, cur, rfl, h1, h2, h3, h4, h5⟩⟩ := ho
  ·exact ⟨h0, .inl ⟨rfl, rfl⟩⟩
  exact ⟨h0, .inr ⟨g, cap, cur, rfl, (hb rfl g rfl).trans h1, h2, h3, h4, fun i c hc => ⟨(h5 i c hc).1, (h5 i c hc).2.1, fun j x hx => h.rv0 ((h5 i c hc).2.2 j x hx)⟩⟩⟩
 | frz es => exact h.rv0 ho
 | loop nt l ps c d st =>
  obtain ⟨b, r, rfl, h1, h2, h3, h4⟩ := ho
  exact ⟨b, r, rfl, (hb rfl b rfl).trans h1, h2, fun i => h.rv (h3 i), h4⟩
 | dead => trivial
 | map ks es clk =>
  obtain ⟨h0, h1, b, xs, rfl, h2, h3, h4⟩ := ho
  exact ⟨h0, h1, b, xs, rfl, (hb rfl b rfl).trans h2, h3, fun i e he => let ⟨x, us, k1, k2, k3, k4, k5, k6⟩ := h4 i e he; ⟨x, us, k1, k2, k3, k4, h.rv0 k5, h.rv0 k6⟩⟩
 | iter mid since seen last =>
  obtain ⟨h0, b, mb, rfl, h2, h3⟩ := ho
  refine ⟨h0, b, mb, rfl, (hb rfl b rfl).trans h2, ?_⟩
  cases mid with
  | none => exact h3
  | some m =>
   obtain ⟨r, e, h4⟩ := h3
   exact ⟨r, e, pre_get h.pre h4⟩

theorem Mb_lt [Dr] {M0 : Nat → Prop} {H : Hp} {σ : List Value} {w : World} (h : St M0 H σ w) {b : Nat} (hb : Mb H σ b) : b < w.heap.size := by
 obtain ⟨i, o, v, h1, h2, h3, h4⟩ := hb
 have := h.ok i o v h1 h3
 cases o with
 | box t cs =>
  obtain ⟨_, b', vs, rfl, k1, _⟩ := this
  have e : b' = b := by simpa [blkOf] using h4
  subst e
  exact (Array.getElem?_eq_some_iff.1 k1).1
 | row t sz es =>
  obtain ⟨_, ⟨rfl, rfl⟩ | ⟨g, cap, cur, rfl, k1, _⟩⟩ := this
  ·simp [blkOf] at h4
  have e : g = b := by simpa [blkOf] using h4
  subst e
  exact (Array.getElem?_eq_some_iff.1 k1).1
 | frz es => simp [live] at h2
 | loop nt l ps c d st =>
  obtain ⟨b', r, rfl, k1, _⟩ := this
  have e : b' = b := by simpa [blkOf] using h4
  subst e
  exact (Array.getElem?_eq_some_iff.1 k1).1
 | dead => simp [live] at h2
 | map ks es clk =>
  obtain ⟨_, _, b', xs, rfl, k1, _⟩ := this
  have e : b' = b := by simpa [blkOf] using h4
  subst e
  exact (Array.getElem?_eq_some_iff.1 k1).1
 | iter mid since seen last =>
  obtain ⟨_, b', mb, rfl, k1, _⟩ := this
  have e : b' = b := by simpa [blkOf] using h4
  subst e
  exact (Array.getElem?_eq_some_iff.1 k1).1

theorem St.step [Dr] {M0 : Nat → Prop} {H H' : Hp} {σ σ' : List Value} {w w' : World} (h : St M0 H σ w) (hx : Ext H σ w H' σ' w') (hl : σ'.length = H'.length)
  (hob : ∀ (i : Nat) (o : Ob) (v : Value), H'[i]? = some o → σ'[i]? = some v → (H[i]? = some o ∧ σ[i]? = some v ∧ (live o = true → ∀ b, blkOf v = some b → w'.heap[b]? = w.heap[b]?)) ∨ ObOk (Kof M0 H' σ' w') σ' w' o v)
  (hd : ∀ (i j : Nat) (o o' : Ob) (v v' : Value) (b : Nat), i ≠ j → H'[i]? = some o → H'[j]? = some o' → live o = true → live o' = true → σ'[i]? = some v → σ'[j]? = some v' → blkOf v = some b → blkOf v' ≠ some b) :
  St M0 H' σ' w' :=
 ⟨hl, fun i o v hi hv => by
  rcases hob i o v hi hv with ⟨h1, h2, h3⟩ | h1
  ·exact (h.ok i o v h1 h2).keep hx h3
  ·exact h1,
  hd,
  fun b hb hm => h.sep b (hx.mutb b (h.old b hm) hb) hm,
  fun b hm => Nat.lt_of_lt_of_le (h.old b hm) hx.size,
  fun b hb => let ⟨m, hm⟩ := h.glob b hb; ⟨m, hx.K _ _ hm⟩⟩

theorem Ext.of_below [Dr] {H : Hp} {σ : List Value} {w w' : World} (h : Below w.heap.size w w') : Ext H σ w H σ w' := ⟨h.os, h.tape, h.output, h.size, List.prefix_refl _, fun b hb _ => h.block b hb, fun _ _ h => h⟩
theorem St.below [Dr] {M0 : Nat → Prop} {H : Hp} {σ : List Value} {w w' : World} (h : St M0 H σ w) (hb : Below w.heap.size w w') : St M0 H σ w' :=
 h.step (Ext.of_below hb) h.len (fun _ o _ hi hv => .inl ⟨hi, hv, fun hl _ hk => hb.block _ (Mb_lt h ⟨_, o, _, hi, hl, hv, hk⟩)⟩) h.dist

theorem St.push [Dr] {M0 : Nat → Prop} {H : Hp} {σ : List Value} {w w' : World} (h : St M0 H σ w) (hb : Below w.heap.size w w') {o : Ob} {v : Value}
  (hn : ∀ b, blkOf v = some b → w.heap.size ≤ b) (ho : Ext H σ w (H ++ [o]) (σ ++ [v]) w' → ObOk (Kof M0 (H ++ [o]) (σ ++ [v]) w') (σ ++ [v]) w' o v) :
  St M0 (H ++ [o]) (σ ++ [v]) w' ∧ Ext H σ w (H ++ [o]) (σ ++ [v]) w' := by
 have hlen := h.len
 have cases_ : ∀ (i : Nat) (o' : Ob) (v' : Value), (H ++ [o])[i]? = some o' → (σ ++ [v])[i]? = some v' → (H[i]? = some o' ∧ σ[i]? = some v') ∨ (o' = o ∧ v' = v ∧ i = H.length) := by
  intro i o' v' h1 h2
  rcases Nat.lt_trichotomy i H.length with hi | hi | hi
  ·rw [List.getElem?_append_left hi] at h1; rw [List.getElem?_append_left (by omega)] at h2; exact .inl ⟨h1, h2⟩
  ·rw [List.getElem?_append_right (by omega)] at h1; rw [List.getElem?_append_right (by omega)] at h2
   rw [show i - H.length = 0 by omega] at h1; rw [show i - σ.length = 0 by omega] at h2
   simp at h1 h2
   exact .inr ⟨h1.symm, h2.symm, hi⟩
  ·rw [List.getElem?_eq_none (by simp; omega)] at h1; cases h1
 have hx : Ext H σ w (H ++ [o]) (σ ++ [v]) w' := ⟨hb.os, hb.tape, hb.output, hb.size, ⟨[v], rfl⟩, fun b hlt _ => hb.block b hlt, fun b hlt ⟨i, o', v', h1, h2, h3, h4⟩ => by
  rcases cases_ i o' v' h1 h3 with ⟨k1, k2⟩ | ⟨rfl, rfl, _⟩
  ·exact ⟨i, o', v', k1, h2, k2, h4⟩
  ·have := hn b h4; omega⟩
 refine ⟨h.step hx (by simp [hlen]) (fun i o' v' h1 h2 => ?_) ?_, hx⟩
 ·rcases cases_ i o' v' h1 h2 with ⟨k1, k2⟩ | ⟨rfl, rfl, _⟩
  ·exact .inl ⟨k1, k2, fun hl b hk => hb.block b (Mb_lt h ⟨i, o', v', k1, hl, k2, hk⟩)⟩
  ·exact .inr (ho hx)
 ·intro i j o1 o2 v1 v2 b hij h1 h2 l1 l2 s1 s2 e1 e2
  rcases cases_ i o1 v1 h1 s1 with ⟨k1, k2⟩ | ⟨rfl, rfl, hi⟩
  ·rcases cases_ j o2 v2 h2 s2 with ⟨m1, m2⟩ | ⟨rfl, rfl, hj⟩
   ·exact h.dist i j o1 o2 v1 v2 b hij k1 m1 l1 l2 k2 m2 e1 e2
   ·have := Mb_lt h ⟨i, o1, v1, k1, l1, k2, e1⟩; have := hn b e2; omega
  ·rcases cases_ j o2 v2 h2 s2 with ⟨m1, m2⟩ | ⟨rfl, rfl, hj⟩
   ·have := Mb_lt h ⟨j, o2, v2, m1, l2, m2, e2⟩; have := hn b e1; omega
   ·omega

theorem set_cases [Dr] {α : Type} {l : List α} {id i : Nat} {o o' : α} (h : (l.set id o)[i]? = some o') : (i = id ∧ o' = o) ∨ (i ≠ id ∧ l[i]? = some o') := by
 by_cases hi : id = i
 ·subst hi
  have hlt : id < l.length := by have := (List.getElem?_eq_some_iff.1 h).1; simpa using this
  rw [List.getElem?_set_self hlt] at h
  exact .inl ⟨rfl, by simpa using h.symm⟩
 ·rw [List.getElem?_set_ne hi] at h
  exact .inr ⟨fun e => hi e.symm, h⟩

theorem St.write [Dr] {M0 : Nat → Prop} {H : Hp} {σ : List Value} {w w' : World} (h : St M0 H σ w) {id b : Nat} {o o' : Ob} {v : Value} (hi : H[id]? = some o) (hv : σ[id]? = some v) (hl : live o = true) (hk : blkOf v = some b)
  (hos : w'.os = w.os) (htape : Tp w w') (hout : w'.output = w.output) (hsize : w.heap.size = w'.heap.size) (hkeep : ∀ c, c ≠ b → w'.heap[c]? = w.heap[c]?)
  (ho : Ext H σ w (H.set id o') σ w' → ObOk (Kof M0 (H.set id o') σ w') σ w' o' v) : St M0 (H.set id o') σ w' ∧ Ext H σ w (H.set id o') σ w' := by
 have hMb : ∀ c, Mb (H.set id o') σ c → Mb H σ c := by
  rintro c ⟨i, o1, v1, h1, h2, h3, h4⟩
  rcases set_cases h1 with ⟨rfl, rfl⟩ | ⟨_, k⟩
  ·rw [hv] at h3; cases h3
   exact ⟨_, o, v, hi, hl, hv, h4⟩
  ·exact ⟨i, o1, v1, k, h2, h3, h4⟩
 have hx : Ext H σ w (H.set id o') σ w' := ⟨hos, htape, hout, by omega, List.prefix_refl _, fun c _ hm => hkeep c (fun e => hm (e ▸ ⟨id, o, v, hi, hl, hv, hk⟩)), fun c _ hm => hMb c hm⟩
 refine ⟨h.step hx (by simp [h.len]) (fun i o1 v1 h1 h2 => ?_) ?_, hx⟩
 ·rcases set_cases h1 with ⟨rfl, rfl⟩ | ⟨hne, k⟩
  ·rw [hv] at h2; cases h2
   exact .inr (ho hx)
  ·refine .inl ⟨k, h2, fun hl1 c hc => hkeep c (fun e => ?_)⟩
   subst e
   exact h.dist i id o1 o v1 v c hne k hi hl1 hl h2 hv hc hk
 ·intro i j o1 o2 v1 v2 c hij h1 h2 l1 l2 s1 s2 e1 e2
  have back : ∀ (i : Nat) (o1 : Ob) (v1 : Value), (H.set id o')[i]? = some o1 → live o1 = true → σ[i]? = some v1 → ∃ o2, H[i]? = some o2 ∧ live o2 = true := by
   intro i o1 v1 h1 l1 _
   rcases set_cases h1 with ⟨rfl, rfl⟩ | ⟨_, k⟩
   ·exact ⟨o, hi, hl⟩
   ·exact ⟨o1, k, l1⟩
  obtain ⟨p1, q1, r1⟩ := back i o1 v1 h1 l1 s1
  obtain ⟨p2, q2, r2⟩ := back j o2 v2 h2 l2 s2
  exact h.dist i j p1 p2 v1 v2 c hij q1 q2 r1 r2 s1 s2 e1 e2

theorem St.drop [Dr] {M0 : Nat → Prop} {H : Hp} {σ : List Value} {w : World} (h : St M0 H σ w) (id : Nat) : St M0 (H.set id .dead) σ w ∧ Ext H σ w (H.set id .dead) σ w := by
 have back : ∀ (i : Nat) (o1 : Ob), (H.set id .dead)[i]? = some o1 → live o1 = true → H[i]? = some o1 := by
  intro i o1 h1 l1
  rcases set_cases h1 with ⟨rfl, rfl⟩ | ⟨_, k⟩
  ·simp [live] at l1
  ·exact k
 have hx : Ext H σ w (H.set id .dead) σ w := ⟨rfl, .rfl, rfl, Nat.le_refl _, List.prefix_refl _, fun _ _ _ => rfl, fun c _ ⟨i, o1, v1, h1, h2, h3, h4⟩ => ⟨i, o1, v1, back i o1 h1 h2, h2, h3, h4⟩⟩
 refine ⟨h.step hx (by simp [h.len]) (fun i o1 v1 h1 h2 => ?_) (fun i j o1 o2 v1 v2 c hij h1 h2 l1 l2 s1 s2 e1 e2 => h.dist i j o1 o2 v1 v2 c hij (back i o1 h1 l1) (back j o2 h2 l2) l1 l2 s1 s2 e1 e2), hx⟩
 rcases set_cases h1 with ⟨rfl, rfl⟩ | ⟨hne, k⟩
 ·exact .inr trivial
 ·exact .inl ⟨k, h2, fun _ _ _ => rfl⟩
theorem St.nilrow [Dr] {M0 : Nat → Prop} {H : Hp} {σ : List Value} {w : World} (h : St M0 H σ w) (t : TypeId) {sz : Nat} (h0 : 0 < sz) :
  St M0 (H ++ [.row t sz []]) (σ ++ [.slice none 0 0]) w ∧ Ext H σ w (H ++ [.row t sz []]) (σ ++ [.slice none 0 0]) w :=
 h.push (Below.refl _ w) (fun b hb => by simp [blkOf] at hb) (fun _ => ⟨h0, .inl ⟨rfl, rfl⟩⟩)

theorem below_of_heap [Dr] {w w' : World} (h1 : w'.os = w.os) (h2 : Tp w w') (h3 : w'.output = w.output) (h4 : w'.heap = w.heap) : Below w.heap.size w w' := ⟨h1, h2, h3, by rw [h4]; exact Nat.le_refl _, fun k _ => by rw [h4]⟩

/-! ### slots -/
theorem ActOk.ext [Dr] {D : List Deferred} {M0 : Nat → Prop} {H H' : Hp} {σ σ' : List Value} {w w' : World} {n : Nat} {e : Env} {a : Act} (h : ActOk D (Kof M0 H σ w) σ n e a) (hx : Ext H σ w H' σ' w') : ActOk D (Kof M0 H' σ' w') σ' n e a :=
 ⟨h.size, h.defers, fun i => hx.rv (h.rv i)⟩

theorem envL_get [Dr] {l : List (Nat × AV)} {i : Nat} : envL l i = .undef ∨ ∃ p ∈ l, p.1 = i ∧ envL l i = p.2 := by
 induction l with
 | nil => exact .inl rfl
 | cons p r ih =>
  obtain ⟨k, v⟩ := p
  simp only [envL]
  cases hb : Nat.beq i k with
  | true => exact .inr ⟨(k, v), List.mem_cons_self, (Nat.eq_of_beq_eq_true hb).symm, rfl⟩
  | false =>
   simp only [cond_false]
   rcases ih with h | ⟨p, h1, h2, h3⟩
   ·exact .inl h
   ·exact .inr ⟨p, List.mem_cons_of_mem _ h1, h2, h3⟩

theorem upd_same [Dr] (e : Env) (d : Nat) (v : AV) : upd e d v d = v := by simp [upd]
theorem upd_ne [Dr] (e : Env) {d i : Nat} (v : AV) (h : i ≠ d) : upd e d v i = e i := by
 have : Nat.beq i d = false := by
  cases hb : Nat.beq i d with
  | false => rfl
  | true => exact absurd (Nat.eq_of_beq_eq_true hb) h
 simp [upd, this]

theorem ActOk.put [Dr] {D : List Deferred} {K : Addr → Value → Prop} {σ : List Value} {n d : Nat} {e : Env} {a : Act} {x : AV} {v : Value} (h : ActOk D K σ n e a) (hd : d < n) (hv : Rv K σ x v) : ActOk D K σ n (upd e d x) (a.put (some d) v) := by
 refine ⟨by simp [Act.put, h.size], h.defers, fun i => ?_⟩
 by_cases hi : i = d
 ·subst hi
  rw [upd_same]
  have : (a.tmps.setIfInBounds i v).getD i undef = v := by
   have hs := h.size
   simp [Array.getElem?_setIfInBounds_self_of_lt (by omega : i < a.tmps.size)]
  simpa [Act.put, this] using hv
 ·rw [upd_ne e x hi]
  have : (a.tmps.setIfInBounds d v).getD i undef = a.tmps.getD i undef := by
   simp [Array.getElem?_setIfInBounds_ne (Ne.symm hi)]
  simpa [Act.put, this] using h.rv i

theorem Rv.cst [Dr] {K : Addr → Value → Prop} {σ : List Value} (v : Value) : Rv K σ (cst v) v := by
 unfold Ve.cst
 split <;> first
  | exact .int _ _ _
  | exact .bool _ _
  | exact .str _ _
  | exact .nils _
  | exact .nilp _
  | exact .nili _
  | exact .nilf _
  | exact .nilm _
  | exact .undef _ _

theorem ActOk.eval [Dr] {D : List Deferred} {K : Addr → Value → Prop} {σ : List Value} {n : Nat} {e : Env} {a : Act} (h : ActOk D K σ n e a) (x : Operand) : Rv K σ (evalO e x) (a.eval x) := by
 cases x with
 | tmp t => exact h.rv t
 | const v => exact Rv.cst v
 | global g => exact .undef _ _
 | func f => exact .fn _ f [] #[] rfl (fun j x hx => by simp at hx)
end Go.Ve
end

section
/- An abstract weakest precondition, fourth text: types; what each plain operation does. -/
namespace Go.Ve

/-! ### types -/
def toV : AV → Value
 | .int k n => .int k n
 | .bool b => .bool b
 | .str s => .string ⟨s.toArray⟩
 | .nils => .slice none 0 0
 | .nilp => .pointer none
 | .nilf => .nilFunc
 | .nili => .nilIface
 | .nilm => .map none
 | _ => undef
def simple1 : AV → Bool
 | .int _ _ | .bool _ | .str _ | .nils | .nilp | .nilf | .nili | .nilm => true
 | _ => false
theorem Rv.toV [Dr] {K : Addr → Value → Prop} {σ : List Value} {x : AV} (h : simple1 x = true) : Rv K σ x (toV x) := by
 cases x <;> first
  | exact .int _ _ _
  | exact .bool _ _
  | exact .str _ _
  | exact .nils _
  | exact .nilp _
  | exact .nili _
  | exact .nilf _
  | exact .nilm _
  | (simp [simple1] at h; done)
theorem cell_of_simple [Dr] {x : AV} (h : simple1 x = true) : isCell x = true := by cases x <;> simp_all [simple1, isCell]
theorem closed_of_simple [Dr] {x : AV} (h : simple1 x = true) : closed1 x = true := by cases x <;> simp_all [simple1, closed1]

inductive LeafEq : LK → Value → Value → Bool → Prop
 | int (k : IntKind) (a b : Int) : LeafEq (.int k) (.int k a) (.int k b) (a == b)
 | bool (a b : Bool) : LeafEq .bool (.bool a) (.bool b) (a == b)
 | str (a b : ByteArray) : LeafEq .str (.string a) (.string b) (a.toList == b.toList)
inductive LeafEqs : List LK → List Value → List Value → Bool → Prop
 | nil : LeafEqs [] [] [] true
 | cons {k : LK} {a b : Value} {r s : Bool} {ks : List LK} {xs ys : List Value} (h : LeafEq k a b r) (t : LeafEqs ks xs ys s) : LeafEqs (k :: ks) (a :: xs) (b :: ys) (r && s)

def szOf (P : Program) (t : TypeId) : Nat := P.cellsOf t
def ckB (P : Program) : Nat → TypeId → Bool
 | 0, _ => false
 | n + 1, t => (P.info? t).isSome && match P.underlying t with
  | some (.struct fs) => fs.toList.all fun f => ckB P n f.type && Nat.ble (f.offset + szOf P f.type) (szOf P t)
  | some (.array len e) => ckB P n e && Nat.ble (len * szOf P e) (szOf P t)
  | some (.int _) => Nat.beq (szOf P t) 1
  | some .string => Nat.beq (szOf P t) 1
  | some .bool => Nat.beq (szOf P t) 1
  | _ => false
def zB (P : Program) (e : TypeId) : Bool := match P.info? e with
 | some pi => (match pi.zero, P.underlying e with
  | some (.agg _), some (.struct _) => true
  | some (.agg _), some (.array _ _) => true
  | some (.agg _), _ => false
  | some _, some (.struct _) => false
  | some _, some (.array _ _) => false
  | some _, some _ => true
  | _, _ => false)
 | none => false
def UndOk (P : Program) (t : TypeId) : TK → Prop
 | .int k => P.underlying t = some (.int k)
 | .bool => P.underlying t = some .bool
 | .str => P.underlying t = some .string
 | .slice e => P.underlying t = some (.slice e)
 | .struct fs => ∃ fields : Array Field, P.underlying t = some (.struct fields) ∧ fields.toList.map (fun f => (f.offset, f.type)) = fs ∧ (fields.toList.mapM (fun f => (P.info? f.type).map fun i => (f.offset, i.size))).isSome = true
 | .array n e => P.underlying t = some (.array n e) ∧ (P.info? e).isSome = true
 | .ptr => ∃ e, P.underlying t = some (.pointer e) ∧ (P.info? e).isSome = true
 | .func => ∃ a b c, P.underlying t = some (.func a b c)
 | .map k e => P.underlying t = some (.map k e) ∧ ckB P 20 k = true ∧ (match P.underlying k with | some (.array _ _) | some (.struct _) => true | _ => false) = true ∧ zB P e = true
 | .other => False
structure TyOk (P : Program) (t : TypeId) (i : TI) : Prop where
 info : (P.info? t).map (fun pi => (pi.size, pi.bytes, pi.zero.map fun z => z.cells.toList)) = some (i.size, i.bytes, some (i.zero.map toV))
 simple : i.zero.all simple1 = true
 len : i.zero.length = i.size
 und : UndOk P t i.k
 eq : i.eqk ≠ [] → P.eqGuardType P.depth t = false ∧ ∀ (w : World) (xs ys : List Value) (r : Bool), LeafEqs i.eqk xs ys r → (Op.equalIn 10000 t (.agg xs.toArray) (.agg ys.toArray)).run P w = .ok r w
def TOk (P : Program) (T : TT) : Prop := ∀ t i, T t = some i → TyOk P t i

section
variable {P : Program} {t : TypeId} {i : TI}
theorem TyOk.get [Dr] (h : TyOk P t i) : ∃ pi z, P.info? t = some pi ∧ pi.size = i.size ∧ pi.bytes = i.bytes ∧ pi.zero = some z ∧ z.cells.toList = i.zero.map toV := by
 have := h.info
 cases hp : P.info? t with
 | none => simp [hp] at this
 | some pi =>
  simp only [hp, Option.map_some, Option.some.injEq, Prod.mk.injEq] at this
  obtain ⟨h1, h2, h3⟩ := this
  cases hz : pi.zero with
  | none => simp [hz] at h3
  | some z => exact ⟨pi, z, rfl, h1, h2, hz, by simpa [hz] using h3⟩
theorem TyOk.sizeOf [Dr] (h : TyOk P t i) (w : World) : (sizeOf t).run P w = .ok i.size w := by
 obtain ⟨pi, z, h1, h2, _⟩ := h.get
 simp [Go.sizeOf, typeInfo, h1, h2]
theorem TyOk.zeroValue [Dr] (h : TyOk P t i) : ∃ z, (∀ w, (zeroValue t).run P w = .ok z w) ∧ z.cells.toList = i.zero.map toV := by
 obtain ⟨pi, z, h1, _, _, h4, h5⟩ := h.get
 exact ⟨z, fun w => by simp [Go.zeroValue, typeInfo, h1, h4], h5⟩
theorem TyOk.isAgg [Dr] (h : TyOk P t i) (w : World) : (isAgg t).run P w = .ok i.isAgg w := by
 have hu := h.und
 unfold TI.isAgg
 cases hk : i.k with
 | struct fs => rw [hk] at hu; obtain ⟨f, hf, _⟩ := hu; simp [Go.isAgg, run_underlying hf]
 | ptr => rw [hk] at hu; obtain ⟨e, hf, _⟩ := hu; simp [Go.isAgg, run_underlying hf]
 | func => rw [hk] at hu; obtain ⟨_, _, _, hf⟩ := hu; simp [Go.isAgg, run_underlying hf]
 | other => rw [hk] at hu; exact hu.elim
 | array n e => rw [hk] at hu; simp [Go.isAgg, run_underlying hu.1]
 | map k e => rw [hk] at hu; simp [Go.isAgg, run_underlying hu.1]
 | _ => rw [hk] at hu; simp [Go.isAgg, run_underlying hu]
end

/-! ### inversions -/
section
variable {K : Addr → Value → Prop} {σ : List Value} {v : Value}
theorem Rv.int_inv [Dr] {k : IntKind} {n : Int} (h : Rv K σ (.int k n) v) : v = .int k n := by cases h; rfl
theorem Rv.bool_inv [Dr] {b : Bool} (h : Rv K σ (.bool b) v) : v = .bool b := by cases h; rfl
theorem Rv.str_inv [Dr] {s : Bs} (h : Rv K σ (.str s) v) : v = .string ⟨s.toArray⟩ := by cases h; rfl
theorem Rv.nils_inv [Dr] (h : Rv K σ .nils v) : v = .slice none 0 0 := by cases h; rfl
theorem Rv.nilp_inv [Dr] (h : Rv K σ .nilp v) : v = .pointer none := by cases h; rfl
theorem Rv.nilf_inv [Dr] (h : Rv K σ .nilf v) : v = .nilFunc := by cases h; rfl
theorem Rv.nilm_inv [Dr] (h : Rv K σ .nilm v) : v = .map none := by cases h; rfl
theorem Rv.own_inv [Dr] {id : Nat} (h : Rv K σ (.own id) v) : σ[id]? = some v := by cases h; assumption
theorem Rv.ptr_inv [Dr] {id off : Nat} (h : Rv K σ (.ptr id off) v) : ∃ b, v = .pointer (some ⟨b, off, none⟩) ∧ σ[id]? = some (.pointer (some ⟨b, 0, none⟩)) := by
 cases h with
 | ptr _ _ _ b h => exact ⟨b, rfl, h⟩
theorem Rv.asl_inv [Dr] {id off n : Nat} (h : Rv K σ (.asl id off n) v) : ∃ b cap, v = .slice (some ⟨b, off, none⟩) n cap ∧ n ≤ cap ∧ σ[id]? = some (.pointer (some ⟨b, 0, none⟩)) := by
 cases h with
 | asl _ _ _ _ b cap hc h => exact ⟨b, cap, rfl, hc, h⟩
theorem Rv.vw_inv [Dr] {id : Nat} (h : Rv K σ (.vw id) v) : ∃ a n cap, v = .slice a n n ∧ σ[id]? = some (.slice a n cap) := by
 cases h with
 | vw _ _ n cap a h => exact ⟨a, n, cap, rfl, h⟩
theorem Rv.eptr_inv [Dr] {id i sz off : Nat} (h : Rv K σ (.eptr id i sz off) v) : ∃ g n cap, v = .pointer (some ⟨g, i * sz + off, none⟩) ∧ σ[id]? = some (.slice (some ⟨g, 0, none⟩) n cap) := by
 cases h with
 | eptr _ _ _ _ _ g n cap h => exact ⟨g, n, cap, rfl, h⟩
theorem Rv.cptr_inv [Dr] {cs : List AV} (h : Rv K σ (.cptr cs) v) : ∃ (a : Addr) (val : Nat → Value), v = .pointer (some a) ∧ cs.all isCell = true ∧ (∀ j x, cs[j]? = some x → Rv K [] x (val j)) ∧ ∀ j, j < cs.length → K (a.add j) (val j) := by
 cases h with
 | cptr _ _ a val h1 h2 h3 => exact ⟨a, val, rfl, h1, h2, h3⟩
theorem Rv.agg_inv [Dr] {cs : List AV} (h : Rv K σ (.agg cs) v) : ∃ vs : Array Value, v = .agg vs ∧ vs.size = cs.length ∧ cs.all isCell = true ∧ ∀ j x, cs[j]? = some x → Rv K σ x (vs.getD j Go.undef) := by
 cases h with
 | agg _ _ vs h1 h2 h3 => exact ⟨vs, rfl, h1, h2, h3⟩
theorem Rv.tup_inv [Dr] {cs : List AV} (h : Rv K σ (.tup cs) v) : ∃ vs : Array Value, v = .tuple vs ∧ vs.size = cs.length ∧ ∀ j x, cs[j]? = some x → Rv K σ x (vs.getD j Go.undef) := by
 cases h with
 | tup _ _ vs h1 h3 => exact ⟨vs, rfl, h1, h3⟩
theorem Rv.bfn_inv [Dr] {f : FuncId} {cs : List AV} (h : Rv K σ (.bfn f cs) v) : ∃ vs : Array Value, v = .func (.func f) #[.agg vs] #[] ∧ Rv K σ (.agg cs) (.agg vs) := by
 cases h with
 | bfn _ _ _ vs h1 h2 h3 => exact ⟨vs, rfl, .agg _ _ _ h1 h2 h3⟩
theorem Rv.fn_inv [Dr] {f : FuncId} {cs : List AV} (h : Rv K σ (.fn f cs) v) : ∃ vs : Array Value, v = .func (.func f) #[] vs ∧ vs.size = cs.length ∧ ∀ j x, cs[j]? = some x → Rv K σ x (vs.getD j Go.undef) := by
 cases h with
 | fn _ _ _ vs h1 h3 => exact ⟨vs, rfl, h1, h3⟩
theorem Rv.sl_inv [Dr] {es : List (List AV)} (h : Rv K σ (.sl es) v) : (es = [] ∧ v = .slice none 0 0) ∨ ∃ (a : Addr) (cap sz : Nat) (val : Nat → Nat → Value), v = .slice (some a) es.length cap ∧ es.length ≤ cap ∧ es.length ≤ 9223372036854775807 ∧
  (∀ c ∈ es, c.length = sz ∧ c.all isCell = true) ∧ (∀ i j c x, es[i]? = some c → c[j]? = some x → Rv K [] x (val i j)) ∧ ∀ i j, i < es.length → j < sz → K (a.add (i * sz + j)) (val i j) := by
 cases h with
 | sl0 => exact .inl ⟨rfl, rfl⟩
 | sl _ _ a cap sz val h1 h2 h3 h4 h5 => exact .inr ⟨a, cap, sz, val, rfl, h1, h2, h3, h4, h5⟩
end

/-! ### what an operation does -/
def Ran (P : Program) (o : Oper) (ρ : Operand → Value) (w : World) (v : Value) (w' : World) : Prop :=
 (execOp ρ o).run P w = .ok (.value v) w' ∨ ((execOp ρ o).run P w = .ok .skip w' ∧ v = undef)
def OpSem [Dr] (P : Program) (o : Oper) (ev : Operand → AV) (H : Hp) (r : AV) (H' : Hp) : Prop :=
 ∀ (M0 : Nat → Prop) (σ : List Value) (w : World) (ρ : Operand → Value), St M0 H σ w → (∀ x ∈ o.op.operands, Rv (Kof M0 H σ w) σ (ev x) (ρ x)) →
  ∃ v σ' w', Ran P o ρ w v w' ∧ St M0 H' σ' w' ∧ Ext H σ w H' σ' w' ∧ Rv (Kof M0 H' σ' w') σ' r v
theorem OpSem.still [Dr] {P : Program} {o : Oper} {ev : Operand → AV} {H : Hp} {r : AV}
  (h : ∀ (M0 : Nat → Prop) (σ : List Value) (w : World) (ρ : Operand → Value), St M0 H σ w → (∀ x ∈ o.op.operands, Rv (Kof M0 H σ w) σ (ev x) (ρ x)) → ∃ v, (execOp ρ o).run P w = .ok (.value v) w ∧ Rv (Kof M0 H σ w) σ r v) : OpSem P o ev H r H := by
 intro M0 σ w ρ hs ho
 obtain ⟨v, h1, h2⟩ := h M0 σ w ρ hs ho
 exact ⟨v, σ, w, .inl h1, hs, Ext.refl _ _ _, h2⟩

section
variable {P : Program} {T : TT} {o : Oper} {ev : Operand → AV} {H : Hp} {K : KV}

theorem sem_move [Dr] {x : Operand} (ho : o.op = .move x ∨ o.op = .assign x) : ∀ H, OpSem P o ev H (ev x) H := by
 intro H
 refine .still fun M0 σ w ρ _ hx => ⟨ρ x, ?_, hx x ?_⟩
 ·rcases ho with ho | ho <;> simp [execOp, ho]
 ·rcases ho with ho | ho <;> simp [ho, Op.operands]

theorem sem_pick [Dr] {c a b : Operand} (ho : o.op = .pick c a b) {t : Bool} (hc : ev c = .bool t) : ∀ H, OpSem P o ev H (match t with | true => ev a | false => ev b) H := by
 intro H
 refine .still fun M0 σ w ρ _ hx => ?_
 have h1 := hx c (by simp [ho, Op.operands]); rw [hc] at h1
 have e1 := h1.bool_inv
 cases t
 ·exact ⟨ρ b, by simp [execOp, ho, e1, asBool], hx b (by simp [ho, Op.operands])⟩
 ·exact ⟨ρ a, by simp [execOp, ho, e1, asBool], hx a (by simp [ho, Op.operands])⟩

theorem sem_unop [Dr] {op : UnOp} {t : TypeId} {x : Operand} (ho : o.op = .unOp op t x) (h : aun op (ev x) H K) : ∃ r, (∀ H, OpSem P o ev H r H) ∧ K r H := by
 unfold aun at h
 split at h
 ·rename_i b hb
  refine ⟨_, fun H => .still fun M0 σ w ρ _ hx => ?_, h⟩
  have h1 := hx x (by simp [ho, Op.operands]); rw [hb] at h1
  exact ⟨.bool (!b), by simp [execOp, ho, h1.bool_inv, Op.unary], .bool _ _⟩
 ·rename_i k n hb
  refine ⟨_, fun H => .still fun M0 σ w ρ _ hx => ?_, h⟩
  have h1 := hx x (by simp [ho, Op.operands]); rw [hb] at h1
  exact ⟨.int k (k.wrap (0 - n)), by simp [execOp, ho, h1.int_inv, Op.unary, Op.intArith], .int _ _ _⟩
 ·rename_i k n hb
  refine ⟨_, fun H => .still fun M0 σ w ρ _ hx => ?_, h⟩
  have h1 := hx x (by simp [ho, Op.operands]); rw [hb] at h1
  exact ⟨.int k (bits .xor k (if k.signed then -1 else k.max) n), by simp [execOp, ho, h1.int_inv, Op.unary, intBits_xor], .int _ _ _⟩
 ·exact h.elim

theorem sem_nilCheck [Dr] {x : Operand} (ho : o.op = .nilCheck x) {nk : Bool} (h : aop T nk o.op ev H K) : ∃ r, (∀ H, OpSem P o ev H r H) ∧ K r H := by
 rw [ho] at h
 simp only [aop] at h
 split at h
 ·rename_i id off hb
  refine ⟨_, fun H => .still fun M0 σ w ρ _ hx => ?_, h⟩
  have h1 := hx x (by simp [ho, Op.operands]); rw [hb] at h1
  obtain ⟨b, e, _⟩ := h1.ptr_inv
  exact ⟨ρ x, by simp [execOp, ho, e], h1⟩
 ·rename_i cs hb
  refine ⟨_, fun H => .still fun M0 σ w ρ _ hx => ?_, h⟩
  have h1 := hx x (by simp [ho, Op.operands]); rw [hb] at h1
  obtain ⟨b, _, e, _⟩ := h1.cptr_inv
  exact ⟨ρ x, by simp [execOp, ho, e], h1⟩
 ·rename_i id i sz off hb
  refine ⟨_, fun H => .still fun M0 σ w ρ _ hx => ?_, h⟩
  have h1 := hx x (by simp [ho, Op.operands]); rw [hb] at h1
  obtain ⟨g, n, cap, e, _⟩ := h1.eptr_inv
  exact ⟨ρ x, by simp [execOp, ho, e], h1⟩
 ·rename_i f c hb
  refine ⟨_, fun H => .still fun M0 σ w ρ _ hx => ?_, h⟩
  have h1 := hx x (by simp [ho, Op.operands]); rw [hb] at h1
  obtain ⟨vs, e, _⟩ := h1.fn_inv
  exact ⟨ρ x, by simp [execOp, ho, e], h1⟩
 ·exact h.elim

theorem sem_extract [Dr] {t : Operand} {i : Nat} (ho : o.op = .extract t i) {nk : Bool} (h : aop T nk o.op ev H K) : ∃ r, (∀ H, OpSem P o ev H r H) ∧ K r H := by
 rw [ho] at h
 simp only [aop] at h
 split at h
 ·rename_i vs hb
  split at h
  ·rename_i v hv
   refine ⟨_, fun H => .still fun M0 σ w ρ _ hx => ?_, h⟩
   have h1 := hx t (by simp [ho, Op.operands]); rw [hb] at h1
   obtain ⟨us, e, hl, hr⟩ := h1.tup_inv
   have hlt : i < us.size := by rw [hl]; exact (List.getElem?_eq_some_iff.1 hv).1
   have := hr i v hv
   refine ⟨us[i], by simp [execOp, ho, e, Instr.extract, hlt], by simpa [Array.getElem?_eq_getElem hlt] using this⟩
  ·exact h.elim
 ·exact h.elim

theorem sem_makeFunc [Dr] {f : Fn} {first cap : Array Operand} (ho : o.op = .makeFunc f first cap) {nk : Bool} (h : aop T nk o.op ev H K) : ∃ r, (∀ H, OpSem P o ev H r H) ∧ K r H := by
 rw [ho] at h
 simp only [aop] at h
 split at h
 ·rename_i _ g he
  refine ⟨_, fun H => .still fun M0 σ w ρ _ hx => ?_, h⟩
  have hf0 : first = #[] := by rw [← Array.toList_inj]; simpa using he
  refine ⟨.func (.func g) #[] (cap.map ρ), by simp [execOp, ho, Instr.makeFunc, hf0], .fn _ _ _ _ (by simp) (fun j x hj => ?_)⟩
  simp only [List.getElem?_map, Option.map_eq_some_iff] at hj
  obtain ⟨y, hy, rfl⟩ := hj
  have hy' : cap[j]? = some y := by simpa using hy
  have := hx y (by rw [ho]; simp only [Op.operands]; exact Array.mem_append_right _ (Array.mem_of_getElem? hy'))
  simpa [hy'] using this
 ·rename_i _ g y he
  split at h
  ·rename_i _ cs hy hc
   refine ⟨_, fun H => .still fun M0 σ w ρ _ hx => ?_, h⟩
   have hf0 : first = #[y] := by rw [← Array.toList_inj]; simpa using he
   have hc0 : cap = #[] := by rw [← Array.toList_inj]; simpa using hc
   have h1 := hx y (by rw [ho]; simp only [Op.operands]; exact Array.mem_append_left _ (by rw [hf0]; simp))
   rw [hy] at h1
   obtain ⟨vs, e, k1, k2, k3⟩ := h1.agg_inv
   exact ⟨.func (.func g) #[.agg vs] #[], by simp [execOp, ho, Instr.makeFunc, hf0, hc0, e], .bfn _ _ _ _ k1 k2 k3⟩
  ·exact h.elim
 ·exact h.elim

/-! ### loads -/
theorem getD_cell [Dr] {w : World} {b : Nat} {vs : Array Value} {t : TypeId} {fz : Nat × Nat} (h : w.heap[b]? = some (.cells vs t fz)) {j : Nat} (hj : j < vs.size) : w.cell? ⟨b, j, none⟩ = some (vs.getD j undef) := by
 simp [World.cell?, h, hj]

def At (K0 : Addr → Value → Prop) (σ : List Value) (w : World) (a : Addr) (cs : List AV) : Prop := cs.all isCell = true ∧ ∃ val : Nat → Value, ∀ j x, cs[j]? = some x → Rv K0 σ x (val j) ∧ w.cell? (a.add j) = some (val j)

theorem At.drop [Dr] {K0 : Addr → Value → Prop} {σ : List Value} {w : World} {a : Addr} {cs : List AV} (h : At K0 σ w a cs) (n : Nat) : At K0 σ w (a.add n) (cs.drop n) := by
 obtain ⟨h1, val, h2⟩ := h
 refine ⟨?_, fun j => val (n + j), fun j x hx => ?_⟩
 ·rw [List.all_eq_true] at *; exact fun x hx => h1 x (List.mem_of_mem_drop hx)
 ·rw [List.getElem?_drop] at hx
  obtain ⟨k1, k2⟩ := h2 (n + j) x hx
  refine ⟨k1, ?_⟩
  have : (a.add n).add j = a.add (n + j) := by
   unfold Addr.add
   by_cases hn : n = 0
   ·subst hn; simp
   ·by_cases hj : j = 0
    ·subst hj; simp
    ·simp [hn, hj, Nat.add_assoc]
  rw [this]; exact k2

theorem sem_ldc [Dr] {t : TypeId} {i : TI} (ht : TyOk P t i) {cs : List AV} (h : ldc i cs H K) :
  ∃ r, K r H ∧ ∀ (K0 : Addr → Value → Prop) (σ : List Value) (w : World) (a : Addr), At K0 σ w a cs → ∃ v, (loadVar t a).run P w = .ok v w ∧ Rv K0 σ r v := by
 unfold ldc at h
 cases hag : i.isAgg with
 | true =>
  simp only [hag, cond_true] at h
  cases hle : Nat.ble i.size cs.length with
  | false => simp [hle] at h
  | true =>
   simp only [hle, cond_true] at h
   refine ⟨_, h, fun K0 σ w a ⟨h1, val, h2⟩ => ?_⟩
   have hle' : i.size ≤ cs.length := Nat.le_of_ble_eq_true hle
   have hl := run_loadCells (P := P) w a i.size val (fun j hj => by
    have hj' : j < cs.length := by omega
    exact (h2 j cs[j] (List.getElem?_eq_getElem hj')).2)
   refine ⟨.agg ((List.range i.size).map val).toArray, by simp [loadVar, ht.isAgg, hag, ht.sizeOf, hl], .agg _ _ _ (by simp; omega) ?_ ?_⟩
   ·rw [List.all_eq_true] at *; exact fun x hx => h1 x (List.mem_of_mem_take hx)
   ·intro j x hx
    rw [List.getElem?_take] at hx
    split at hx
    ·rename_i hj
     have := (h2 j x hx).1
     simpa [hj] using this
    ·cases hx
 | false =>
  simp only [hag, cond_false] at h
  cases cs with
  | nil => exact h.elim
  | cons x xs =>
   refine ⟨_, h, fun K0 σ w a ⟨h1, val, h2⟩ => ?_⟩
   obtain ⟨k1, k2⟩ := h2 0 x rfl
   rw [Addr.add_zero'] at k2
   exact ⟨val 0, by simp [loadVar, ht.isAgg, hag, k2], k1⟩

theorem at_box [Dr] {M0 : Nat → Prop} {σ : List Value} {w : World} (hs : St M0 H σ w) {id bt : Nat} {cs : List AV} (hi : H[id]? = some (.box bt cs)) {b : Nat} (hv : σ[id]? = some (.pointer (some ⟨b, 0, none⟩))) :
  At (Kof M0 H σ w) σ w ⟨b, 0, none⟩ cs ∧ ∃ vs, w.heap[b]? = some (.cells vs bt (0, 0)) ∧ vs.size = cs.length := by
 obtain ⟨h0, b', vs, e, h1, h2, h3⟩ := hs.ok id _ _ hi hv
 cases e
 refine ⟨⟨h0, fun j => vs.getD j undef, fun j x hx => ⟨h3 j x hx, ?_⟩⟩, vs, h1, h2⟩
 have hj : j < vs.size := by rw [h2]; exact (List.getElem?_eq_some_iff.1 hx).1
 rw [Addr.add_lit]
 simpa using getD_cell h1 hj

theorem at_cptr [Dr] {M0 : Nat → Prop} {σ : List Value} {w : World} {cs : List AV} {a : Addr} {val : Nat → Value} (h1 : cs.all isCell = true) (h2 : ∀ j x, cs[j]? = some x → Rv (Kof M0 H σ w) [] x (val j)) (h3 : ∀ j, j < cs.length → Kof M0 H σ w (a.add j) (val j)) :
  At (Kof M0 H σ w) σ w a cs :=
 ⟨h1, val, fun j x hx => ⟨(h2 j x hx).mono (fun _ _ h => h) List.nil_prefix, (h3 j (List.getElem?_eq_some_iff.1 hx).1).2⟩⟩

theorem row_pos [Dr] {i j sz n : Nat} (hi : i < n) (hj : j < sz) : i * sz + j < n * sz := by
 have : (i + 1) * sz ≤ n * sz := Nat.mul_le_mul_right sz hi
 rw [Nat.add_mul] at this
 omega

theorem at_row [Dr] {M0 : Nat → Prop} {σ : List Value} {w : World} (hs : St M0 H σ w) {id rt rs : Nat} {es : List (List AV)} (hi : H[id]? = some (.row rt rs es)) {g n cap : Nat} (hv : σ[id]? = some (.slice (some ⟨g, 0, none⟩) n cap))
  {ix : Nat} {c : List AV} (hc : es[ix]? = some c) : At (Kof M0 H σ w) σ w ⟨g, ix * rs, none⟩ c := by
 obtain ⟨h0, ⟨_, e⟩ | ⟨g', cap', cur, e, h1, h2, h3, h4, h5⟩⟩ := hs.ok id _ _ hi hv
 ·cases e
 cases e
 obtain ⟨k1, k2, k3⟩ := h5 ix c hc
 refine ⟨k2, fun j => cur.getD (ix * rs + j) undef, fun j x hx => ⟨(k3 j x hx).mono (fun _ _ h => h) List.nil_prefix, ?_⟩⟩
 have hj : j < rs := by rw [← k1]; exact (List.getElem?_eq_some_iff.1 hx).1
 have hix : ix < es.length := (List.getElem?_eq_some_iff.1 hc).1
 have hlt : ix * rs + j < cur.size := by
  have := row_pos hix hj
  have : es.length * rs ≤ cap * rs := Nat.mul_le_mul_right rs h2
  omega
 rw [Addr.add_lit]
 exact getD_cell h1 hlt

theorem sem_load [Dr] (hT : TOk P T) {t : TypeId} {a : Operand} (ho : o.op = .load t a) (h : aload T t (ev a) H K) : ∃ r, OpSem P o ev H r H ∧ K r H := by
 unfold aload at h
 cases hti : T t with
 | none => simp [hti] at h
 | some i =>
  simp only [hti] at h
  have ht := hT t i hti
  have key : ∀ (cs : List AV), ldc i cs H K → (∀ (M0 : Nat → Prop) (σ : List Value) (w : World) (v : Value), St M0 H σ w → Rv (Kof M0 H σ w) σ (ev a) v → ∃ ad, v = .pointer (some ad) ∧ At (Kof M0 H σ w) σ w ad cs) → ∃ r, OpSem P o ev H r H ∧ K r H := by
   intro cs hl hat
   obtain ⟨r, hr, hrun⟩ := sem_ldc ht hl
   refine ⟨r, .still fun M0 σ w ρ hs hx => ?_, hr⟩
   obtain ⟨ad, e, hA⟩ := hat M0 σ w (ρ a) hs (hx a (by simp [ho, Op.operands]))
   obtain ⟨v, h1, h2⟩ := hrun _ σ w ad hA
   exact ⟨v, by simp [execOp, ho, e, Instr.loadAt, Instr.sureAddr, h1], h2⟩
  split at h
  ·rename_i id off hev
   split at h
   ·rename_i bt cs hH
    refine key _ h fun M0 σ w v hs hv => ?_
    rw [hev] at hv
    obtain ⟨b, rfl, hσ⟩ := hv.ptr_inv
    refine ⟨_, rfl, ?_⟩
    have := (at_box hs hH hσ).1.drop off
    rwa [Addr.add_lit, Nat.zero_add] at this
   ·exact h.elim
  ·rename_i cs hev
   refine key _ h fun M0 σ w v hs hv => ?_
   rw [hev] at hv
   obtain ⟨ad, val, rfl, h1, h2, h3⟩ := hv.cptr_inv
   exact ⟨ad, rfl, at_cptr h1 h2 h3⟩
  ·rename_i id ix sz off hev
   split at h
   ·rename_i rt rs es hH
    cases hsz : Nat.beq sz rs with
    | false => simp [hsz] at h
    | true =>
     simp only [hsz, cond_true] at h
     have esz : sz = rs := Nat.eq_of_beq_eq_true hsz
     subst esz
     obtain ⟨c, hc, h⟩ := h
     refine key _ h fun M0 σ w v hs hv => ?_
     rw [hev] at hv
     obtain ⟨g, n, cap, rfl, hσ⟩ := hv.eptr_inv
     refine ⟨_, rfl, ?_⟩
     have := (at_row hs hH hσ hc).drop off
     rwa [Addr.add_lit] at this
   ·exact h.elim
  ·exact h.elim
end
end Go.Ve
end

section
/- An abstract weakest precondition, fifth text: tests, arithmetic, conversions, fields, indexes. -/
set_option linter.unusedSimpArgs false
set_option linter.unusedVariables false
namespace Go.Ve
noncomputable def cdec (p : Prop) : Bool := @decide p (Classical.propDecidable p)
theorem cdec_true [Dr] {p : Prop} (h : p) : cdec p = true := @decide_eq_true p (Classical.propDecidable p) h
theorem cdec_false [Dr] {p : Prop} (h : ¬ p) : cdec p = false := @decide_eq_false p (Classical.propDecidable p) h
theorem cdec_of [Dr] {p : Prop} {b : Bool} (h : p ↔ b = true) : cdec p = b := by
 cases b
 ·exact cdec_false fun hp => by simpa using h.1 hp
 ·exact cdec_true (h.2 rfl)
section
variable {P : Program} {T : TT} {o : Oper} {ev : Operand → AV} {H : Hp} {K : KV}

theorem sameKind_eq [Dr] {k k' : IntKind} (h : sameKind k k' = true) : k = k' := by cases k <;> cases k' <;> first | rfl | (simp [sameKind] at h; done)
theorem of_test [Dr] {p : Prop} [Decidable p] {R : AV → Prop} (h : test p H K) (hd : R (.bool (decide p))) : ∃ r, R r ∧ K r H := by
 by_cases hp : p
 ·exact ⟨.bool true, by rwa [decide_eq_true hp] at hd, h.1 hp⟩
 ·exact ⟨.bool false, by rwa [decide_eq_false hp] at hd, h.2 hp⟩
theorem of_ntest [Dr] {p : Prop} [Decidable p] {R : AV → Prop} (h : ntest p H K) (hd : R (.bool (!decide p))) : ∃ r, R r ∧ K r H := by
 by_cases hp : p
 ·exact ⟨.bool false, by rwa [decide_eq_true hp] at hd, h.1 hp⟩
 ·exact ⟨.bool true, by rwa [decide_eq_false hp] at hd, h.2 hp⟩

theorem of_test' [Dr] {p : Prop} {R : AV → Prop} (h : test p H K) (hd : R (.bool (cdec p))) : ∃ r, R r ∧ K r H := by
 by_cases hp : p
 ·exact ⟨.bool true, by rwa [cdec_true hp] at hd, h.1 hp⟩
 ·exact ⟨.bool false, by rwa [cdec_false hp] at hd, h.2 hp⟩
theorem of_ntest' [Dr] {p : Prop} {R : AV → Prop} (h : ntest p H K) (hd : R (.bool (!cdec p))) : ∃ r, R r ∧ K r H := by
 by_cases hp : p
 ·exact ⟨.bool false, by rwa [cdec_true hp] at hd, h.1 hp⟩
 ·exact ⟨.bool true, by rwa [cdec_false hp] at hd, h.2 hp⟩

theorem sem_bin_of [Dr] {op : BinOp} {t t' : TypeId} {x y : Operand} (ho : o.op = .binOp op t x y t') {a b r : AV} (hx : ev x = a) (hy : ev y = b)
  (hrun : ∀ (K0 : Addr → Value → Prop) (σ : List Value) (w : World) (u v : Value), Rv K0 σ a u → Rv K0 σ b v → ∃ z, (eqGuard op t x y u v).run P w = .ok () w ∧ (binOp op t u v).run P w = .ok z w ∧ Rv K0 σ r z) : ∀ H, OpSem P o ev H r H := by
 intro H
 refine .still fun M0 σ w ρ _ hop => ?_
 have h1 := hop x (by simp [ho, Op.operands]); rw [hx] at h1
 have h2 := hop y (by simp [ho, Op.operands]); rw [hy] at h2
 obtain ⟨z, e1, e2, e3⟩ := hrun _ σ w _ _ h1 h2
 exact ⟨z, by simp [execOp, ho, e1, e2], e3⟩

theorem guard_int [Dr] {op : BinOp} {t : TypeId} {x y : Operand} {k k' : IntKind} {a b : Int} (w : World) : (eqGuard op t x y (.int k a) (.int k' b)).run P w = .ok () w := by
 cases op <;> simp [eqGuard]
theorem guard_str [Dr] {op : BinOp} {t : TypeId} {x y : Operand} {a b : ByteArray} (w : World) : (eqGuard op t x y (.string a) (.string b)).run P w = .ok () w := by
 cases op <;> simp [eqGuard]

theorem sem_aint [Dr] {op : BinOp} {t t' : TypeId} {x y : Operand} (ho : o.op = .binOp op t x y t') {k : IntKind} {a b : Int} (hx : ev x = .int k a) (hy : ev y = .int k b) (hop : op ≠ .shl ∧ op ≠ .shr) (h : aint op k a b H K) :
  ∃ r, (∀ H, OpSem P o ev H r H) ∧ K r H := by
 have go : ∀ (r : AV) (z : Value), (∀ w, (binOp op t (.int k a) (.int k b)).run P w = .ok z w) → (∀ K0 σ, Rv K0 σ r z) → ∀ H, OpSem P o ev H r H := fun r z h1 h2 =>
  sem_bin_of ho hx hy fun K0 σ w u v hu hv => by
   rw [hu.int_inv, hv.int_inv]
   exact ⟨z, guard_int w, h1 w, h2 _ _⟩
 have gb : ∀ (c : Bool), (∀ w, (binOp op t (.int k a) (.int k b)).run P w = .ok (.bool c) w) → ∀ H, OpSem P o ev H (.bool c) H := fun c h1 => go _ _ h1 fun _ _ => .bool _ _
 unfold aint at h
 cases op <;> simp only at h
 case add => exact ⟨_, go _ (.int k (k.wrap (a + b))) (fun w => by simp [binOp, Op.intArith]) (fun _ _ => .int _ _ _), h⟩
 case sub => exact ⟨_, go _ (.int k (k.wrap (a - b))) (fun w => by simp [binOp, Op.intArith]) (fun _ _ => .int _ _ _), h⟩
 case mul => exact ⟨_, go _ (.int k (k.wrap (a * b))) (fun w => by simp [binOp, Op.intArith]) (fun _ _ => .int _ _ _), h⟩
 case quo => exact ⟨_, go _ (.int k (k.wrap (a.tdiv b))) (fun w => by simp [binOp, Op.intDiv, h.1]) (fun _ _ => .int _ _ _), h.2⟩
 case rem => exact ⟨_, go _ (.int k (a.tmod b)) (fun w => by simp [binOp, Op.intDiv, h.1]) (fun _ _ => .int _ _ _), h.2⟩
 case and => exact ⟨_, go _ (.int k (bits .and k a b)) (fun w => by simp [binOp, intBits_and]) (fun _ _ => .int _ _ _), h⟩
 case or => exact ⟨_, go _ (.int k (bits .or k a b)) (fun w => by simp [binOp, intBits_or]) (fun _ _ => .int _ _ _), h⟩
 case xor => exact ⟨_, go _ (.int k (bits .xor k a b)) (fun w => by simp [binOp, intBits_xor]) (fun _ _ => .int _ _ _), h⟩
 case andNot => exact ⟨_, go _ (.int k (bits .andNot k a b)) (fun w => by simp [binOp, intBits_andNot]) (fun _ _ => .int _ _ _), h⟩
 case eql => exact of_test h (gb _ fun w => by simp [binOp, Op.intCmp]; rfl)
 case neq => exact of_ntest h (gb _ fun w => by simp [binOp, Op.intCmp]; rfl)
 case lss => exact of_test h (gb _ fun w => by simp [binOp, Op.intCmp])
 case leq => exact of_test h (gb _ fun w => by simp [binOp, Op.intCmp])
 case gtr => exact of_test h (gb _ fun w => by simp [binOp, Op.intCmp])
 case geq => exact of_test h (gb _ fun w => by simp [binOp, Op.intCmp])
 all_goals exact absurd h (by simp)

theorem bs_toList [Dr] (a : Bs) : (⟨a.toArray⟩ : ByteArray).toList = a := by rw [ByteArray.toList_eq]

theorem leafEq_of [Dr] {k : LK} {x y : AV} {p : Prop} (h : eqLeaf k x y = some p) {K0 : Addr → Value → Prop} {σ : List Value} {u v : Value} (hu : Rv K0 σ x u) (hv : Rv K0 σ y v) : LeafEq k u v (cdec p) := by
 unfold eqLeaf at h
 split at h
 ·rename_i k a c b d
  cases h1 : sameKind k a <;> cases h2 : sameKind k b <;> simp only [h1, h2, Bool.and_self, Bool.and_true, Bool.and_false, Bool.false_and, Bool.true_and, cond_true, cond_false, Option.some.injEq, reduceCtorEq] at h
  subst h
  have e1 := sameKind_eq h1; have e2 := sameKind_eq h2
  subst e1; subst e2
  rw [hu.int_inv, hv.int_inv]
  have : cdec (c = d) = (c == d) := cdec_of (by simp)
  rw [this]
  exact .int _ _ _
 ·rename_i c d
  have h := Option.some.inj h; subst h
  rw [hu.bool_inv, hv.bool_inv]
  have : cdec (c = d) = (c == d) := cdec_of (by simp)
  rw [this]
  exact .bool _ _
 ·rename_i c d
  have h := Option.some.inj h; subst h
  rw [hu.str_inv, hv.str_inv]
  have : cdec (c = d) = ((⟨c.toArray⟩ : ByteArray).toList == (⟨d.toArray⟩ : ByteArray).toList) := cdec_of (by rw [bs_toList, bs_toList]; simp)
  rw [this]
  exact .str _ _
 ·cases h

theorem leafEqs_of [Dr] : ∀ {ks : List LK} {xs ys : List AV} {p : Prop} (_ : eqCells ks xs ys = some p) {K0 : Addr → Value → Prop} {σ : List Value} {us vs : List Value} (_ : us.length = xs.length) (_ : vs.length = ys.length)
  (_ : ∀ j x, xs[j]? = some x → Rv K0 σ x (us.getD j undef)) (_ : ∀ j x, ys[j]? = some x → Rv K0 σ x (vs.getD j undef)), LeafEqs ks us vs (cdec p)
 | [], [], [], p, h, K0, σ, us, vs, h1, h2, _, _ => by
  simp only [eqCells] at h
  have e1 := List.eq_nil_of_length_eq_zero h1; have e2 := List.eq_nil_of_length_eq_zero h2
  subst e1; subst e2
  have h := Option.some.inj h
  rw [cdec_true (h ▸ trivial)]; exact .nil
 | k :: ks, x :: xs, y :: ys, p, h, K0, σ, us, vs, h1, h2, h3, h4 => by
  cases us with
  | nil => simp at h1
  | cons u us =>
   cases vs with
   | nil => simp at h2
   | cons v vs =>
    have hu : Rv K0 σ x u := h3 0 x rfl
    have hv : Rv K0 σ y v := h4 0 y rfl
    have t3 : ∀ j x, xs[j]? = some x → Rv K0 σ x (us.getD j undef) := fun j z hz => by simpa using h3 (j + 1) z (by simpa using hz)
    have t4 : ∀ j x, ys[j]? = some x → Rv K0 σ x (vs.getD j undef) := fun j z hz => by simpa using h4 (j + 1) z (by simpa using hz)
    simp only [eqCells] at h
    cases hq : eqLeaf k x y with
    | none => simp [hq] at h
    | some q =>
     have hl := leafEq_of hq hu hv
     simp only [hq] at h
     cases ks with
     | nil =>
      cases xs with
      | cons => simp at h
      | nil => cases ys with
       | cons => simp at h
       | nil =>
        have h := Option.some.inj h
        have e1 : us = [] := List.eq_nil_of_length_eq_zero (by simpa using h1)
        have e2 : vs = [] := List.eq_nil_of_length_eq_zero (by simpa using h2)
        subst e1; subst e2; subst h
        have := LeafEqs.cons hl .nil
        rw [Bool.and_true] at this
        exact this
     | cons k' ks' =>
      simp only at h
      cases hr : eqCells (k' :: ks') xs ys with
      | none => simp [hr] at h
      | some r =>
       simp only [hr, Option.some.injEq] at h
       subst h
       have := LeafEqs.cons hl (leafEqs_of hr (by simpa using h1) (by simpa using h2) t3 t4)
       have e : cdec (q ∧ r) = (cdec q && cdec r) := by
        by_cases hq : q <;> by_cases hr : r <;> simp only [cdec, hq, hr, and_true, and_false, and_self, decide_true, decide_false, Bool.and_self, Bool.and_true, Bool.and_false]
       rwa [e]

theorem eqIn_slice_nil [Dr] {t e : TypeId} (h : P.underlying t = some (.slice e)) (d : Nat) (a : Option Addr) (n c m k : Nat) (w : World) : (Op.equalIn (d + 1) t (.slice a n c) (.slice none m k)).run P w = .ok a.isNone w := by
 cases a <;> simp [Op.equalIn, run_underlying h]
theorem eqIn_ptr_nil [Dr] {t e : TypeId} (h : P.underlying t = some (.pointer e)) (d : Nat) (a : Option Addr) (w : World) : (Op.equalIn (d + 1) t (.pointer a) (.pointer none)).run P w = .ok a.isNone w := by
 cases a <;> simp [Op.equalIn, run_underlying h]
theorem eqIn_ptr_same [Dr] {t e : TypeId} (h : P.underlying t = some (.pointer e)) (he : (P.info? e).isSome = true) (d : Nat) (a : Option Addr) (w : World) : (Op.equalIn (d + 1) t (.pointer a) (.pointer a)).run P w = .ok true w := by
 obtain ⟨i, hi⟩ := Option.isSome_iff_exists.1 he
 cases a with
 | none => simp [Op.equalIn, run_underlying h]
 | some a =>
  simp only [Op.equalIn, Sem.run_bind, run_underlying h, Result.andThen_ok, sizeOf, typeInfo, hi]
  simp [sameAddr, hi]
theorem eqIn_func_nil [Dr] {t : TypeId} {a b : Array TypeId} {c : Bool} (h : P.underlying t = some (.func a b c)) (d : Nat) (w : World) : (Op.equalIn (d + 1) t .nilFunc .nilFunc).run P w = .ok true w := by
 simp [Op.equalIn, run_underlying h]
theorem eqIn_fn_nil [Dr] {t : TypeId} {a b : Array TypeId} {c : Bool} (h : P.underlying t = some (.func a b c)) (d : Nat) (f : Fn) (x y : Array Value) (w : World) : (Op.equalIn (d + 1) t (.func f x y) .nilFunc).run P w = .ok false w := by
 simp [Op.equalIn, run_underlying h]

theorem run_eq [Dr] {t : TypeId} (hT : TOk P T) {a b : AV} {p : Prop} (h : aeql T t a b = some p) {K0 : Addr → Value → Prop} {σ : List Value} {u v : Value} (hu : Rv K0 σ a u) (hv : Rv K0 σ b v) (op : BinOp) (x y : Operand) (w : World) :
  (eqGuard op t x y u v).run P w = .ok () w ∧ (binOp .eql t u v).run P w = .ok (.bool (cdec p)) w ∧ (binOp .neq t u v).run P w = .ok (.bool (!cdec p)) w := by
 have fin : ∀ (_ : (eqGuard op t x y u v).run P w = .ok () w) (_ : ∀ k a, u ≠ .int k a) (_ : ∀ k a, u ≠ .float k a) (_ : ∀ k a b, u ≠ .complex k a b) (_ : ∀ s, u ≠ .string s) (_ : (Op.equalIn 10000 t u v).run P w = .ok (cdec p) w),
   (eqGuard op t x y u v).run P w = .ok () w ∧ (binOp .eql t u v).run P w = .ok (.bool (cdec p)) w ∧ (binOp .neq t u v).run P w = .ok (.bool (!cdec p)) w := by
  intro h0 h1 h2 h3 h4 h5
  refine ⟨h0, ?_, ?_⟩
  ·cases u <;> first
    | (exact absurd rfl (h1 _ _))
    | (exact absurd rfl (h2 _ _))
    | (exact absurd rfl (h3 _ _ _))
    | (exact absurd rfl (h4 _))
    | (simp only [binOp]; simp [Op.equal, Op.maxDepth, h5])
  ·cases u <;> first
    | (exact absurd rfl (h1 _ _))
    | (exact absurd rfl (h2 _ _))
    | (exact absurd rfl (h3 _ _ _))
    | (exact absurd rfl (h4 _))
    | (simp only [binOp]; simp [Op.equal, Op.maxDepth, h5])
 have g0 : ∀ {u v : Value}, (∀ a, u ≠ .agg a) → u ≠ .nilIface → (eqGuard op t x y u v).run P w = .ok () w := by
  intro u v h1 h2
  cases op <;> cases u <;> first
   | (exact absurd rfl (h1 _))
   | (exact absurd rfl h2)
   | (simp [eqGuard]; done)
 have agg : ∀ {i : TI} {cs ds : List AV} (_ : TyOk P t i) (_ : (match i.eqk with | [] => none | _ :: _ => eqCells i.eqk cs ds) = some p) (_ : Rv K0 σ (.agg cs) u) (_ : Rv K0 σ (.agg ds) v),
   (eqGuard op t x y u v).run P w = .ok () w ∧ (binOp .eql t u v).run P w = .ok (.bool (cdec p)) w ∧ (binOp .neq t u v).run P w = .ok (.bool (!cdec p)) w := by
  intro i cs ds ht h hu hv
  obtain ⟨us, rfl, l1, _, r1⟩ := hu.agg_inv
  obtain ⟨vs, rfl, l2, _, r2⟩ := hv.agg_inv
  have hne : i.eqk ≠ [] := by intro e; rw [e] at h; cases h
  have h' : eqCells i.eqk cs ds = some p := by
   cases hk : i.eqk with
   | nil => exact absurd hk hne
   | cons => rw [hk] at h; exact h
  obtain ⟨q1, q2⟩ := ht.eq hne
  have hl := leafEqs_of h' (us := us.toList) (vs := vs.toList) (by simpa using l1) (by simpa using l2) (fun j z hz => by simpa using r1 j z hz) (fun j z hz => by simpa using r2 j z hz)
  have hr := q2 w us.toList vs.toList _ hl
  refine fin (run_eqGuard_agg w op t x y us vs q1) (by simp) (by simp) (by simp) (by simp) (by simpa using hr)
 unfold aeql at h
 cases hti : T t with
 | none => simp [hti] at h
 | some i =>
  have ht := hT t i hti
  have hud := ht.und
  simp only [hti] at h
  split at h
  ·rename_i c d hk
   rw [hk] at hud
   have h := Option.some.inj h; subst h
   obtain rfl := hu.bool_inv
   obtain rfl := hv.bool_inv
   refine fin (g0 (by simp) (by simp)) (by simp) (by simp) (by simp) (by simp) ?_
   rw [run_equalIn_bool' w 9999 t _ _ hud]
   have e : cdec (c = d) = (c == d) := cdec_of (by simp)
   rw [e]
  ·rename_i hk
   rw [hk] at hud
   have h := Option.some.inj h; subst h
   obtain rfl := hu.nils_inv
   obtain rfl := hv.nils_inv
   refine fin (g0 (by simp) (by simp)) (by simp) (by simp) (by simp) (by simp) ?_
   rw [eqIn_slice_nil hud 9999, cdec_true trivial]; rfl
  ·rename_i hk
   rw [hk] at hud
   obtain ⟨e, hud, hel⟩ := hud
   have h := Option.some.inj h; subst h
   obtain rfl := hu.nilp_inv
   obtain rfl := hv.nilp_inv
   refine fin (g0 (by simp) (by simp)) (by simp) (by simp) (by simp) (by simp) ?_
   rw [eqIn_ptr_nil hud 9999, cdec_true trivial]; rfl
  ·rename_i hk
   rw [hk] at hud
   obtain ⟨e, hud, hel⟩ := hud
   have h := Option.some.inj h; subst h
   obtain ⟨b, rfl, _⟩ := hu.ptr_inv
   obtain rfl := hv.nilp_inv
   refine fin (g0 (by simp) (by simp)) (by simp) (by simp) (by simp) (by simp) ?_
   rw [eqIn_ptr_nil hud 9999, cdec_false (fun h => h)]; rfl
  ·rename_i a m b n hk
   rw [hk] at hud
   obtain ⟨e, hud, hel⟩ := hud
   cases hb : Nat.beq a b && Nat.beq m n with
   | false => rw [hb] at h; cases h
   | true =>
    rw [hb] at h
    rw [Bool.and_eq_true] at hb
    have e1 := Nat.eq_of_beq_eq_true hb.1
    have e2 := Nat.eq_of_beq_eq_true hb.2
    subst e1
    subst e2
    have h := Option.some.inj h; subst h
    obtain ⟨b1, rfl, k1⟩ := hu.ptr_inv
    obtain ⟨b2, rfl, k2⟩ := hv.ptr_inv
    rw [k1] at k2
    cases k2
    refine fin (g0 (by simp) (by simp)) (by simp) (by simp) (by simp) (by simp) ?_
    rw [eqIn_ptr_same hud hel 9999, cdec_true trivial]
  ·rename_i hk
   rw [hk] at hud
   obtain ⟨e, hud, hel⟩ := hud
   have h := Option.some.inj h; subst h
   obtain ⟨b, _, rfl, _⟩ := hu.cptr_inv
   obtain rfl := hv.nilp_inv
   refine fin (g0 (by simp) (by simp)) (by simp) (by simp) (by simp) (by simp) ?_
   rw [eqIn_ptr_nil hud 9999, cdec_false (fun h => h)]; rfl
  ·rename_i hk
   rw [hk] at hud
   obtain ⟨e1, e2, e3, hud⟩ := hud
   have h := Option.some.inj h; subst h
   obtain rfl := hu.nilf_inv
   obtain rfl := hv.nilf_inv
   refine fin (g0 (by simp) (by simp)) (by simp) (by simp) (by simp) (by simp) ?_
   rw [eqIn_func_nil hud 9999, cdec_true trivial]
  ·rename_i hk
   rw [hk] at hud
   obtain ⟨e1, e2, e3, hud⟩ := hud
   have h := Option.some.inj h; subst h
   obtain ⟨vs, rfl, _⟩ := hu.fn_inv
   obtain rfl := hv.nilf_inv
   refine fin (g0 (by simp) (by simp)) (by simp) (by simp) (by simp) (by simp) ?_
   rw [eqIn_fn_nil hud 9999, cdec_false (fun h => h)]
  ·exact agg ht h hu hv
  ·exact agg ht h hu hv
  ·cases h

theorem guard_slice [Dr] {op : BinOp} {t : TypeId} {x y : Operand} {a b : Option Addr} {n c m d : Nat} (w : World) : (eqGuard op t x y (.slice a n c) (.slice b m d)).run P w = .ok () w := by
 cases op <;> simp [eqGuard]
theorem run_eql_slice [Dr] {t e : TypeId} (h : P.underlying t = some (.slice e)) (a : Option Addr) (n c m k : Nat) (w : World) : (binOp .eql t (.slice a n c) (.slice none m k)).run P w = .ok (.bool a.isNone) w ∧ (binOp .neq t (.slice a n c) (.slice none m k)).run P w = .ok (.bool (!a.isNone)) w := by
 have := eqIn_slice_nil h 9999 a n c m k w
 constructor
 ·simp only [binOp]; simp [Op.equal, Op.maxDepth, this]
 ·simp only [binOp]; simp [Op.equal, Op.maxDepth, this]

theorem sem_anil [Dr] (hT : TOk P T) {op : BinOp} {t t' : TypeId} {x y : Operand} {yes : Bool} (ho : o.op = .binOp op t x y t') (hop : (op = .eql ∧ yes = true) ∨ (op = .neq ∧ yes = false)) (h : anil T t (ev x) (ev y) H K yes) :
  ∃ R : AV → Prop, (∀ (M0 : Nat → Prop) (σ : List Value) (w : World) (ρ : Operand → Value), St M0 H σ w → (∀ x ∈ o.op.operands, Rv (Kof M0 H σ w) σ (ev x) (ρ x)) → ∃ b, (execOp ρ o).run P w = .ok (.value (.bool b)) w ∧ R (.bool b)) ∧ ∀ r, R r → K r H := by
 unfold anil at h
 cases hti : T t with
 | none => simp [hti] at h
 | some i =>
  have hud := (hT t i hti).und
  simp only [hti] at h
  have fin : ∀ (e : TypeId) (_ : P.underlying t = some (.slice e)) (w : World) (ρ : Operand → Value) (a : Option Addr) (n c : Nat), ρ x = .slice a n c → ρ y = .slice none 0 0 → (execOp ρ o).run P w = .ok (.value (.bool (if a.isNone then yes else !yes))) w := by
   intro e hud w ρ a n c hx hy
   obtain ⟨r1, r2⟩ := run_eql_slice hud a n c 0 0 w
   rcases hop with ⟨rfl, rfl⟩ | ⟨rfl, rfl⟩
   ·simp [execOp, ho, hx, hy, guard_slice, r1]; cases a <;> rfl
   ·simp [execOp, ho, hx, hy, guard_slice, r2]; cases a <;> rfl
  split at h
  ·rename_i e es hk hx hy
   rw [hk] at hud
   refine ⟨fun r => (r = .bool (!yes)) ∨ (es = [] ∧ r = .bool yes), fun M0 σ w ρ hs hop' => ?_, fun r hr => ?_⟩
   ·have h1 := hop' x (by simp [ho, Op.operands]); rw [hx] at h1
    have h2 := hop' y (by simp [ho, Op.operands]); rw [hy] at h2
    rcases h1.sl_inv with ⟨e0, e1⟩ | ⟨a, cap, sz, val, e1, _⟩
    ·exact ⟨_, fin e hud w ρ _ _ _ e1 h2.nils_inv, .inr ⟨e0, rfl⟩⟩
    ·exact ⟨_, fin e hud w ρ _ _ _ e1 h2.nils_inv, .inl rfl⟩
   ·rcases hr with rfl | ⟨e0, rfl⟩
    ·exact h.1
    ·exact h.2 e0
  ·rename_i e id hk hx hy
   rw [hk] at hud
   split at h
   ·rename_i rt rs es hH
    refine ⟨fun r => (r = .bool (!yes)) ∨ (es = [] ∧ r = .bool yes), fun M0 σ w ρ hs hop' => ?_, fun r hr => ?_⟩
    ·have h1 := hop' x (by simp [ho, Op.operands]); rw [hx] at h1
     have h2 := hop' y (by simp [ho, Op.operands]); rw [hy] at h2
     obtain ⟨_, ⟨e0, e1⟩ | ⟨g, cap, cur, e1, _⟩⟩ := hs.ok id _ _ hH h1.own_inv
     ·exact ⟨_, fin e hud w ρ _ _ _ e1 h2.nils_inv, .inr ⟨e0, rfl⟩⟩
     ·exact ⟨_, fin e hud w ρ _ _ _ e1 h2.nils_inv, .inl rfl⟩
    ·rcases hr with rfl | ⟨e0, rfl⟩
     ·exact h.1
     ·exact h.2 e0
   ·exact h.elim
  ·exact h.elim

theorem run_strOp [Dr] (op : BinOp) (t : TypeId) (a b : ByteArray) (w : World) : (binOp op t (.string a) (.string b)).run P w = (Op.stringOp op a b).run P w := by cases op <;> rfl
theorem bs_size [Dr] (a : Bs) : (⟨a.toArray⟩ : ByteArray).size = a.length := by simp [ByteArray.size]
theorem bs_append [Dr] (a b : Bs) : (⟨a.toArray⟩ : ByteArray) ++ ⟨b.toArray⟩ = ⟨(a ++ b).toArray⟩ := by
 show ByteArray.append _ _ = _
 apply ByteArray.ext
 rw [ByteArray.append_eq, ByteArray.data_append]
 simp

theorem sem_str [Dr] {op : BinOp} {t t' : TypeId} {x y : Operand} (ho : o.op = .binOp op t x y t') {a b : Bs} (hx : ev x = .str a) (hy : ev y = .str b) (hop : op ≠ .shl ∧ op ≠ .shr) {nk : Bool} (h : abin T nk op t (.str a) (.str b) H K) :
  ∃ r, (∀ H, OpSem P o ev H r H) ∧ K r H := by
 have go : ∀ (r : AV) (z : Value), (∀ w, (Op.stringOp op ⟨a.toArray⟩ ⟨b.toArray⟩).run P w = .ok z w) → (∀ K0 σ, Rv K0 σ r z) → ∀ H, OpSem P o ev H r H := fun r z h1 h2 =>
  sem_bin_of ho hx hy fun K0 σ w u v hu hv => by
   rw [hu.str_inv, hv.str_inv]
   exact ⟨z, guard_str w, by rw [run_strOp]; exact h1 w, h2 _ _⟩
 have gb : ∀ (c : Bool), (∀ w, (Op.stringOp op ⟨a.toArray⟩ ⟨b.toArray⟩).run P w = .ok (.bool c) w) → ∀ H, OpSem P o ev H (.bool c) H := fun c h1 => go _ _ h1 fun _ _ => .bool _ _
 unfold abin at h
 cases op <;> simp only at h
 case add => exact ⟨_, go _ (.string ⟨(a ++ b).toArray⟩) (fun w => by
  have : ¬ ((((⟨a.toArray⟩ : ByteArray).size + (⟨b.toArray⟩ : ByteArray).size : Nat) : Int) > IntKind.i64.max) := by rw [bs_size, bs_size, IntKind.max_i64]; have := h.1; omega
  simp only [Op.stringOp, if_neg this, bs_append]; rfl) (fun _ _ => .str _ _), h.2⟩
 case eql => exact of_test' h (gb _ fun w => by simp only [Op.stringOp, bs_toList]; rw [cdec_of (b := (a == b)) (by simp)]; rfl)
 case neq => exact of_ntest' h (gb _ fun w => by simp only [Op.stringOp, bs_toList]; rw [cdec_of (b := (a == b)) (by simp)]; rfl)
 case lss => exact of_test' h (gb _ fun w => by simp only [Op.stringOp, bs_toList]; rw [cdec_of (b := Op.bytesLess a b) Iff.rfl]; rfl)
 case geq => exact of_ntest' h (gb _ fun w => by simp only [Op.stringOp, bs_toList]; rw [cdec_of (b := Op.bytesLess a b) Iff.rfl]; rfl)
 all_goals first
  | exact absurd rfl hop.1
  | exact absurd rfl hop.2
  | exact absurd h (by simp)

theorem sem_eqop [Dr] (hT : TOk P T) {op : BinOp} {t t' : TypeId} {x y : Operand} (ho : o.op = .binOp op t x y t') {a b : AV} (hx : ev x = a) (hy : ev y = b) (h : aeqop T false op t a b H K) : ∃ r, (∀ H, OpSem P o ev H r H) ∧ K r H := by
 unfold aeqop at h
 cases op <;> simp only at h
 case eql =>
  cases hp : aeql T t a b with
  | some p =>
   simp only [hp] at h
   exact of_test' h (sem_bin_of ho hx hy fun K0 σ w u v hu hv => by
    obtain ⟨r1, r2, _⟩ := run_eq hT hp hu hv .eql x y w
    exact ⟨_, r1, r2, .bool _ _⟩)
  | none => simp [hp] at h
 case neq =>
  cases hp : aeql T t a b with
  | some p =>
   simp only [hp] at h
   exact of_ntest' h (sem_bin_of ho hx hy fun K0 σ w u v hu hv => by
    obtain ⟨r1, _, r2⟩ := run_eq hT hp hu hv .neq x y w
    exact ⟨_, r1, r2, .bool _ _⟩)
  | none => simp [hp] at h

theorem sem_bin [Dr] (hT : TOk P T) {op : BinOp} {t t' : TypeId} {x y : Operand} (ho : o.op = .binOp op t x y t') (h : abin T false op t (ev x) (ev y) H K) : ∃ r, (∀ H, OpSem P o ev H r H) ∧ K r H := by
 by_cases hop : op ≠ .shl ∧ op ≠ .shr
 ·generalize hx : ev x = a at h
  generalize hy : ev y = b at h
  have h0 := h
  unfold abin at h
  split at h
  ·exact absurd rfl hop.1
  ·exact absurd rfl hop.2
  ·split at h
   ·rename_i k a' k' b'
    cases hk : sameKind k k' with
    | false => simp [hk] at h
    | true =>
     simp only [hk, cond_true] at h
     have := sameKind_eq hk; subst this
     exact sem_aint ho hx hy hop h
   ·exact sem_str ho hx hy hop h0
   ·exact sem_eqop hT ho hx hy h
 ·have hsh : op = .shl ∨ op = .shr := by
   by_cases h1 : op = .shl
   ·exact .inl h1
   ·by_cases h2 : op = .shr
    ·exact .inr h2
    ·exact absurd ⟨h1, h2⟩ hop
  unfold abin at h
  rcases hsh with rfl | rfl
  ·simp only at h
   split at h
   ·rename_i k a k' b hx hy
    refine ⟨_, sem_bin_of ho hx hy fun K0 σ w u v hu hv => ?_, h.2⟩
    rw [hu.int_inv, hv.int_inv]
    exact ⟨.int k (k.wrap (a * 2 ^ (min b.toNat k.bits))), guard_int w, by simp [binOp, Op.shift, show ¬ b < 0 by omega], .int _ _ _⟩
   ·exact h.elim
  ·simp only at h
   split at h
   ·rename_i k a k' b hx hy
    refine ⟨_, sem_bin_of ho hx hy fun K0 σ w u v hu hv => ?_, h.2⟩
    rw [hu.int_inv, hv.int_inv]
    exact ⟨.int k (a.fdiv (2 ^ (min b.toNat k.bits))), guard_int w, by simp [binOp, Op.shift, show ¬ b < 0 by omega], .int _ _ _⟩
   ·exact h.elim

theorem sem_bin_nil [Dr] (hT : TOk P T) {op : BinOp} {t t' : TypeId} {x y : Operand} (ho : o.op = .binOp op t x y t') (h : abin T true op t (ev x) (ev y) H K) :
  (∃ r, (∀ H, OpSem P o ev H r H) ∧ K r H) ∨ ∃ R : AV → Prop, (∀ (M0 : Nat → Prop) (σ : List Value) (w : World) (ρ : Operand → Value), St M0 H σ w → (∀ x ∈ o.op.operands, Rv (Kof M0 H σ w) σ (ev x) (ρ x)) → ∃ b, (execOp ρ o).run P w = .ok (.value (.bool b)) w ∧ R (.bool b)) ∧ ∀ r, R r → K r H := by
 by_cases hn : (op = .eql ∨ op = .neq) ∧ (∀ k a k' b, ¬ (ev x = .int k a ∧ ev y = .int k' b)) ∧ (∀ a b, ¬ (ev x = .str a ∧ ev y = .str b)) ∧ aeql T t (ev x) (ev y) = none
 ·obtain ⟨h1, h2, h3, h4⟩ := hn
  refine .inr ?_
  rcases h1 with rfl | rfl
  ·refine sem_anil hT ho (.inl ⟨rfl, rfl⟩) ?_
   unfold abin aeqop at h
   simp only at h
   split at h
   ·rename_i e1 e2; exact absurd ⟨e1, e2⟩ (h2 _ _ _ _)
   ·rename_i e1 e2; exact absurd ⟨e1, e2⟩ (h3 _ _)
   ·simpa [h4] using h
  ·refine sem_anil hT ho (.inr ⟨rfl, rfl⟩) ?_
   unfold abin aeqop at h
   simp only at h
   split at h
   ·rename_i e1 e2; exact absurd ⟨e1, e2⟩ (h2 _ _ _ _)
   ·rename_i e1 e2; exact absurd ⟨e1, e2⟩ (h3 _ _)
   ·simpa [h4] using h
 ·refine .inl (sem_bin hT ho ?_)
  unfold abin aeqop at h ⊢
  cases op <;> simp only at h ⊢ <;> try exact h
  case eql =>
   split at h
   ·rename_i e1 e2; simpa [e1, e2] using h
   ·rename_i e1 e2; simpa [e1, e2] using h
   ·rename_i n1 n2
    cases hp : aeql T t (ev x) (ev y) with
    | none => exact absurd ⟨.inl rfl, fun k a k' b ⟨e1, e2⟩ => n1 _ _ _ _ e1 e2, fun a b ⟨e1, e2⟩ => n2 _ _ e1 e2, hp⟩ hn
    | some p => simpa [hp] using h
  case neq =>
   split at h
   ·rename_i e1 e2; simpa [e1, e2] using h
   ·rename_i e1 e2; simpa [e1, e2] using h
   ·rename_i n1 n2
    cases hp : aeql T t (ev x) (ev y) with
    | none => exact absurd ⟨.inr rfl, fun k a k' b ⟨e1, e2⟩ => n1 _ _ _ _ e1 e2, fun a b ⟨e1, e2⟩ => n2 _ _ e1 e2, hp⟩ hn
    | some p => simpa [hp] using h
end
end Go.Ve
end

section
/- An abstract weakest precondition, sixth text: fields, indexes, lengths, conversions, slices, struct values: what turns nothing. -/
set_option linter.unusedSimpArgs false
set_option linter.unusedVariables false
namespace Go.Ve
section
variable {P : Program} {T : TT} {o : Oper} {ev : Operand → AV} {H : Hp} {K : KV}

theorem sem_field [Dr] (hT : TOk P T) {s : TypeId} {x : Operand} {f : Nat} (ho : o.op = .fieldAddr s x f) (h : afield T s (ev x) f H K) : ∃ r, (∀ H, OpSem P o ev H r H) ∧ K r H := by
 unfold afield at h
 cases hts : T s with
 | none => simp [hts] at h
 | some i =>
  have hud := (hT s i hts).und
  simp only [hts] at h
  split at h
  ·rename_i fs hk
   rw [hk] at hud
   obtain ⟨fields, hu, hfs, _⟩ := hud
   split at h
   ·rename_i off ft hf
    split at h
    ·rename_i fi hft
     have hso := (hT ft fi hft).sizeOf
     cases hpos : Nat.blt 0 fi.size with
     | false => simp [hpos] at h
     | true =>
      simp only [hpos, cond_true] at h
      have hne : fi.size ≠ 0 := by have : 0 < fi.size := cast Nat.blt_eq hpos; omega
      obtain ⟨fd, hfd, e1, e2⟩ : ∃ fd : Field, fields[f]? = some fd ∧ fd.offset = off ∧ fd.type = ft := by
       rw [← hfs, List.getElem?_map] at hf
       simp only [Option.map_eq_some_iff, Prod.mk.injEq] at hf
       obtain ⟨fd, k1, k2, k3⟩ := hf
       exact ⟨fd, by simpa using k1, k2, k3⟩
      have run : ∀ (w : World) (a : Addr), (Instr.fieldAt s (.pointer (some a)) f).run P w = .ok (.pointer (some (a.add off))) w := by
       intro w a
       have hso' := hso w
       rw [← e2] at hso'
       simp [Instr.fieldAt, run_underlying hu, hfd, Instr.sureAddr, fieldPlace, hso', hne, e1]
      have go : ∀ (r : AV), (∀ (K0 : Addr → Value → Prop) (σ : List Value) (v : Value), Rv K0 σ (ev x) v → ∃ a, v = .pointer (some a) ∧ Rv K0 σ r (.pointer (some (a.add off)))) → ∀ H, OpSem P o ev H r H := by
       intro r hr H
       refine .still fun M0 σ w ρ _ hop => ?_
       obtain ⟨a, e, hv⟩ := hr _ σ _ (hop x (by simp [ho, Op.operands]))
       exact ⟨_, by simp [execOp, ho, e, run w a], hv⟩
      split at h
      ·rename_i id oo hx
       refine ⟨_, go _ fun K0 σ v hv => ?_, h⟩
       rw [hx] at hv
       obtain ⟨b, rfl, hσ⟩ := hv.ptr_inv
       exact ⟨_, rfl, by rw [Addr.add_lit]; exact .ptr _ _ _ _ hσ⟩
      ·rename_i cs hx
       refine ⟨_, go _ fun K0 σ v hv => ?_, h⟩
       rw [hx] at hv
       obtain ⟨a, val, rfl, h1, h2, h3⟩ := hv.cptr_inv
       refine ⟨_, rfl, .cptr _ _ _ (fun j => val (off + j)) ?_ (fun j z hz => ?_) (fun j hj => ?_)⟩
       ·rw [List.all_eq_true] at *; exact fun z hz => h1 z (List.mem_of_mem_drop hz)
       ·rw [List.getElem?_drop] at hz; exact h2 _ _ hz
       ·have e : (a.add off).add j = a.add (off + j) := by
         unfold Addr.add
         by_cases hn : off = 0
         ·subst hn; simp
         ·by_cases hj : j = 0
          ·subst hj; simp
          ·simp [hn, hj, Nat.add_assoc]
        rw [e]
        exact h3 _ (by simp at hj; omega)
      ·rename_i id ix sz oo hx
       refine ⟨_, go _ fun K0 σ v hv => ?_, h⟩
       rw [hx] at hv
       obtain ⟨g, n, cap, rfl, hσ⟩ := hv.eptr_inv
       exact ⟨_, rfl, by rw [Addr.add_lit, Nat.add_assoc]; exact .eptr _ _ _ _ _ _ _ _ hσ⟩
      ·exact h.elim
    ·exact h.elim
   ·exact h.elim
  ·exact h.elim

theorem sem_part [Dr] {t : TypeId} {i : TI} (ht : TyOk P t i) {cs : List AV} {off : Nat} (h : apart i cs off H K) :
  ∃ r, K r H ∧ ∀ (K0 : Addr → Value → Prop) (σ : List Value) (w : World) (vs : Array Value), vs.size = cs.length → cs.all isCell = true → (∀ j x, cs[j]? = some x → Rv K0 σ x (vs.getD j undef)) → ∃ v, (part t vs off).run P w = .ok v w ∧ Rv K0 σ r v := by
 unfold apart at h
 cases hag : i.isAgg with
 | true =>
  simp only [hag, cond_true] at h
  cases hle : Nat.ble (off + i.size) cs.length with
  | false => simp [hle] at h
  | true =>
   simp only [hle, cond_true] at h
   have hle' : off + i.size ≤ cs.length := Nat.le_of_ble_eq_true hle
   refine ⟨_, h, fun K0 σ w vs hl hc hv => ⟨.agg (vs.extract off (off + i.size)), by simp [part, ht.isAgg, hag, ht.sizeOf], .agg _ _ _ (by simp; omega) ?_ ?_⟩⟩
   ·rw [List.all_eq_true] at *; exact fun x hx => hc x (List.mem_of_mem_drop (List.mem_of_mem_take hx))
   ·intro j x hx
    rw [List.getElem?_take] at hx
    split at hx
    ·rename_i hj
     rw [List.getElem?_drop] at hx
     have := hv (off + j) x hx
     have h1 : off + j < vs.size := by omega
     simpa [Array.getElem?_extract, hj, h1, show j < min (off + i.size) vs.size - off by omega] using this
    ·cases hx
 | false =>
  simp only [hag, cond_false] at h
  split at h
  ·rename_i x hx
   refine ⟨_, h, fun K0 σ w vs hl hc hv => ?_⟩
   have hlt : off < vs.size := by rw [hl]; exact (List.getElem?_eq_some_iff.1 hx).1
   refine ⟨vs[off], by simp [part, ht.isAgg, hag, hlt], ?_⟩
   have := hv off x hx
   simpa [hlt] using this
  ·exact h.elim

theorem sem_fieldv [Dr] (hT : TOk P T) {s : TypeId} {x : Operand} {f : Nat} (ho : o.op = .field s x f) (h : afieldv T s (ev x) f H K) : ∃ r, (∀ H, OpSem P o ev H r H) ∧ K r H := by
 unfold afieldv at h
 cases hts : T s with
 | none => simp [hts] at h
 | some i =>
  have hud := (hT s i hts).und
  simp only [hts] at h
  split at h
  ·rename_i fs cs hk hx
   rw [hk] at hud
   obtain ⟨fields, hu, hfs, _⟩ := hud
   split at h
   ·rename_i off ft hf
    split at h
    ·rename_i fi hft
     obtain ⟨fd, hfd, e1, e2⟩ : ∃ fd : Field, fields[f]? = some fd ∧ fd.offset = off ∧ fd.type = ft := by
      rw [← hfs, List.getElem?_map] at hf
      simp only [Option.map_eq_some_iff, Prod.mk.injEq] at hf
      obtain ⟨fd, k1, k2, k3⟩ := hf
      exact ⟨fd, by simpa using k1, k2, k3⟩
     obtain ⟨r, hr, hrun⟩ := sem_part (hT ft fi hft) h
     refine ⟨r, fun H => .still fun M0 σ w ρ _ hop => ?_, hr⟩
     have h1 := hop x (by simp [ho, Op.operands]); rw [hx] at h1
     obtain ⟨vs, e, l1, l2, l3⟩ := h1.agg_inv
     obtain ⟨v, r1, r2⟩ := hrun _ σ w vs l1 l2 l3
     exact ⟨v, by simp [execOp, ho, e, Instr.field, run_underlying hu, hfd, asAgg, e1, e2, r1], r2⟩
    ·exact h.elim
   ·exact h.elim
  ·exact h.elim

theorem sem_index [Dr] (hT : TOk P T) {t : TypeId} {x ix : Operand} (ho : o.op = .index t x ix) (h : aindex T t (ev x) (ev ix) H K) : ∃ r, (∀ H, OpSem P o ev H r H) ∧ K r H := by
 unfold aindex at h
 split at h
 ·rename_i i k n hti hix
  have hud := (hT t i hti).und
  split at h
  ·rename_i s hk hx
   rw [hk] at hud
   obtain ⟨h0, c, hc, h⟩ := h
   refine ⟨_, fun H => .still fun M0 σ w ρ _ hop => ?_, h⟩
   have h1 := hop x (by simp [ho, Op.operands]); rw [hx] at h1
   have h2 := hop ix (by simp [ho, Op.operands]); rw [hix] at h2
   have hg : (⟨s.toArray⟩ : ByteArray)[n.toNat]? = some c := by
    have hlt : n.toNat < s.length := (List.getElem?_eq_some_iff.1 hc).1
    have hlt' : n.toNat < (⟨s.toArray⟩ : ByteArray).size := by rw [bs_size]; exact hlt
    rw [getElem?_pos (⟨s.toArray⟩ : ByteArray) n.toNat hlt']
    have := (List.getElem?_eq_some_iff.1 hc).2
    exact congrArg some this
   exact ⟨.int .u8 c.toNat, by simp [execOp, ho, h1.str_inv, h2.int_inv, Instr.index, asIntOf, run_underlying (show P.underlying t = some .string from hud), h0, hg], .int _ _ _⟩
  ·rename_i m e cs hk hx
   rw [hk] at hud
   replace hud := hud.1
   split at h
   ·rename_i ei he
    obtain ⟨h0, h1, h⟩ := h
    obtain ⟨r, hr, hrun⟩ := sem_part (hT e ei he) h
    refine ⟨r, fun H => .still fun M0 σ w ρ _ hop => ?_, hr⟩
    have h2 := hop x (by simp [ho, Op.operands]); rw [hx] at h2
    have h3 := hop ix (by simp [ho, Op.operands]); rw [hix] at h3
    obtain ⟨vs, e', l1, l2, l3⟩ := h2.agg_inv
    obtain ⟨v, r1, r2⟩ := hrun _ σ w vs l1 l2 l3
    exact ⟨v, by simp [execOp, ho, e', h3.int_inv, Instr.index, asIntOf, run_underlying (show P.underlying t = some (.array m e) from hud), h0, h1, (hT e ei he).sizeOf, r1], r2⟩
   ·exact h.elim
  ·exact h.elim
 ·exact h.elim

theorem sem_ixaddr [Dr] (hT : TOk P T) {t : TypeId} {x ix : Operand} (ho : o.op = .indexAddr t x ix) (h : aixaddr T t (ev x) (ev ix) H K) : ∃ r, OpSem P o ev H r H ∧ K r H := by
 unfold aixaddr at h
 split at h
 ·rename_i i k n hti hix
  have hud := (hT t i hti).und
  have cl : ∀ {e : TypeId} {ei : TI} {es : List (List AV)} (_ : P.underlying t = some (.slice e)) (_ : T e = some ei) (_ : 0 ≤ n) {c : List AV} (_ : es[n.toNat]? = some c) (_ : c.length = ei.size) (M0 : Nat → Prop) (σ : List Value) (w : World) (ρ : Operand → Value) (_ : ρ ix = .int k n) (_ : Rv (Kof M0 H σ w) σ (.sl es) (ρ x)),
    ∃ v, (execOp ρ o).run P w = .ok (.value v) w ∧ Rv (Kof M0 H σ w) σ (.cptr c) v := by
   intro e ei es hu hei h0 c hc hcl M0 σ w ρ e2 h1
   have hlt : n.toNat < es.length := (List.getElem?_eq_some_iff.1 hc).1
   rcases h1.sl_inv with ⟨e0, _⟩ | ⟨a, cap, sz, val, e1, _, _, k3, k4, k5⟩
   ·subst e0; simp at hc
   ·have hn : n < (es.length : Int) := by omega
    have hmem : c ∈ es := List.mem_of_getElem? hc
    have esz : ei.size = sz := by rw [← hcl]; exact (k3 c hmem).1
    refine ⟨.pointer (some (a.add (n.toNat * ei.size))), by simp [execOp, ho, e1, e2, Instr.indexAt, asIntOf, run_underlying hu, h0, hn, (hT e ei hei).sizeOf], .cptr _ _ _ (fun j => val n.toNat j) (k3 c hmem).2 (fun j z hz => k4 _ _ _ _ hc hz) (fun j hj => ?_)⟩
    have ea : (a.add (n.toNat * ei.size)).add j = a.add (n.toNat * sz + j) := by
     rw [esz]
     unfold Addr.add
     by_cases h1 : n.toNat * sz = 0
     ·rw [h1]; simp
     ·by_cases h2 : j = 0
      ·subst h2; simp
      ·simp [h1, h2, Nat.add_assoc]
    rw [ea]
    exact k5 _ _ hlt (by rw [← esz, ← hcl]; exact hj)
  have arr : ∀ {m : Nat} {e : TypeId} {ei : TI} (_ : P.underlying t = some (.array m e)) (_ : T e = some ei) (_ : 0 ≤ n) (_ : n < m) (w : World) (ρ : Operand → Value) (_ : ρ ix = .int k n) (a : Addr) (_ : ρ x = .pointer (some a)),
    (execOp ρ o).run P w = .ok (.value (.pointer (some (a.add (n.toNat * ei.size))))) w := by
   intro m e ei hu hei h0 h1 w ρ e2 a e1
   simp [execOp, ho, e1, e2, Instr.indexAt, asIntOf, Instr.sureAddr, run_underlying hu, h0, h1, (hT e ei hei).sizeOf]
  split at h
  ·rename_i e es hk hx
   rw [hk] at hud
   split at h
   ·rename_i ei hei
    obtain ⟨h0, c, hc, hcl, h⟩ := h
    refine ⟨_, .still fun M0 σ w ρ hs hop => ?_, h⟩
    have h1 := hop x (by simp [ho, Op.operands]); rw [hx] at h1
    have h2 := hop ix (by simp [ho, Op.operands]); rw [hix] at h2
    exact cl hud hei h0 hc hcl M0 σ w ρ h2.int_inv h1
   ·exact h.elim
  ·rename_i e id hk hx
   rw [hk] at hud
   split at h
   ·rename_i ei rt sz es hei hH
    cases hsz : Nat.beq ei.size sz with
    | false => simp [hsz] at h
    | true =>
     simp only [hsz, cond_true] at h
     have esz := Nat.eq_of_beq_eq_true hsz
     obtain ⟨h0, hlt, h⟩ := h
     refine ⟨_, .still fun M0 σ w ρ hs hop => ?_, h⟩
     have h1 := hop x (by simp [ho, Op.operands]); rw [hx] at h1
     have h2 := hop ix (by simp [ho, Op.operands]); rw [hix] at h2
     obtain ⟨_, ⟨e0, _⟩ | ⟨g, cap, cur, e1, _⟩⟩ := hs.ok id _ _ hH h1.own_inv
     ·rw [e0] at hlt; simp at hlt
     have hn : n < (es.length : Int) := by omega
     refine ⟨.pointer (some ⟨g, n.toNat * ei.size, none⟩), by simp [execOp, ho, e1, h2.int_inv, Instr.indexAt, asIntOf, run_underlying (show P.underlying t = some (.slice e) from hud), h0, hn, (hT e ei hei).sizeOf, Addr.add_lit], ?_⟩
     rw [esz]
     have hσ := h1.own_inv
     rw [e1] at hσ
     exact .eptr _ id n.toNat sz 0 g es.length cap hσ
   ·rename_i ei es hei hH
    obtain ⟨h0, c, hc, hcl, h⟩ := h
    refine ⟨_, .still fun M0 σ w ρ hs hop => ?_, h⟩
    have h1 := hop x (by simp [ho, Op.operands]); rw [hx] at h1
    have h2 := hop ix (by simp [ho, Op.operands]); rw [hix] at h2
    exact cl hud hei h0 hc hcl M0 σ w ρ h2.int_inv ((hs.ok id _ _ hH h1.own_inv).mono (fun _ _ h => h) List.nil_prefix)
   ·exact h.elim
  ·rename_i e id off m hk hx
   rw [hk] at hud
   split at h
   ·rename_i ei hei
    cases hsz : Nat.beq ei.size 1 with
    | false => rw [hsz] at h; exact h.elim
    | true =>
     rw [hsz] at h
     simp only [cond_true] at h
     have esz := Nat.eq_of_beq_eq_true hsz
     obtain ⟨h0, hlt, h⟩ := h
     refine ⟨_, .still fun M0 σ w ρ hs hop => ?_, h⟩
     have h1 := hop x (by simp [ho, Op.operands]); rw [hx] at h1
     have h2 := hop ix (by simp [ho, Op.operands]); rw [hix] at h2
     obtain ⟨b, cap, e1, _, hσ⟩ := h1.asl_inv
     have hn : n < (m : Int) := by omega
     exact ⟨.pointer (some ⟨b, off + n.toNat, none⟩), by simp [execOp, ho, e1, h2.int_inv, Instr.indexAt, asIntOf, run_underlying (show P.underlying t = some (.slice e) from hud), h0, hn, (hT e ei hei).sizeOf, esz, Addr.add_lit], .ptr _ id (off + n.toNat) b hσ⟩
   ·exact h.elim
  ·rename_i m e id oo hk hx
   rw [hk] at hud
   replace hud := hud.1
   split at h
   ·rename_i ei hei
    obtain ⟨h0, h1, h⟩ := h
    refine ⟨_, .still fun M0 σ w ρ hs hop => ?_, h⟩
    have h2 := hop x (by simp [ho, Op.operands]); rw [hx] at h2
    have h3 := hop ix (by simp [ho, Op.operands]); rw [hix] at h3
    obtain ⟨b, e1, hσ⟩ := h2.ptr_inv
    exact ⟨_, arr hud hei h0 h1 w ρ h3.int_inv _ e1, by rw [Addr.add_lit]; exact .ptr _ _ _ _ hσ⟩
   ·exact h.elim
  ·rename_i m e cs hk hx
   rw [hk] at hud
   replace hud := hud.1
   split at h
   ·rename_i ei hei
    obtain ⟨h0, h1, h⟩ := h
    refine ⟨_, .still fun M0 σ w ρ hs hop => ?_, h⟩
    have h2 := hop x (by simp [ho, Op.operands]); rw [hx] at h2
    have h3 := hop ix (by simp [ho, Op.operands]); rw [hix] at h3
    obtain ⟨a, val, e1, k1, k2, k3⟩ := h2.cptr_inv
    refine ⟨_, arr hud hei h0 h1 w ρ h3.int_inv _ e1, .cptr _ _ _ (fun j => val (n.toNat * ei.size + j)) ?_ (fun j z hz => ?_) (fun j hj => ?_)⟩
    ·rw [List.all_eq_true] at *; exact fun z hz => k1 z (List.mem_of_mem_drop hz)
    ·rw [List.getElem?_drop] at hz; exact k2 _ _ hz
    ·have ea : (a.add (n.toNat * ei.size)).add j = a.add (n.toNat * ei.size + j) := by
      unfold Addr.add
      by_cases h1 : n.toNat * ei.size = 0
      ·rw [h1]; simp
      ·by_cases h2 : j = 0
       ·subst h2; simp
       ·simp [h1, h2, Nat.add_assoc]
     rw [ea]
     exact k3 _ (by simp at hj; omega)
   ·exact h.elim
  ·rename_i m e id jx sz oo hk hx
   rw [hk] at hud
   replace hud := hud.1
   split at h
   ·rename_i ei hei
    obtain ⟨h0, h1, h⟩ := h
    refine ⟨_, .still fun M0 σ w ρ hs hop => ?_, h⟩
    have h2 := hop x (by simp [ho, Op.operands]); rw [hx] at h2
    have h3 := hop ix (by simp [ho, Op.operands]); rw [hix] at h3
    obtain ⟨g, nn, cap, e1, hσ⟩ := h2.eptr_inv
    exact ⟨_, arr hud hei h0 h1 w ρ h3.int_inv _ e1, by rw [Addr.add_lit, Nat.add_assoc]; exact .eptr _ _ _ _ _ _ _ _ hσ⟩
   ·exact h.elim
  ·exact h.elim
 ·exact h.elim
end
end Go.Ve
end

section
/- An abstract weakest precondition, seventh text: lengths, least and greatest, conversions, slices, struct values. -/
set_option linter.unusedSimpArgs false
set_option linter.unusedVariables false
namespace Go.Ve
section
variable {P : Program} {T : TT} {o : Oper} {ev : Operand → AV} {H : Hp} {K : KV}

theorem UndOk.some [Dr] {t : TypeId} {k : TK} (h : UndOk P t k) : ∃ d, P.underlying t = some d := by
 cases k with
 | struct fs => obtain ⟨f, h, _⟩ := h; exact ⟨_, h⟩
 | ptr => obtain ⟨e, h, _⟩ := h; exact ⟨_, h⟩
 | func => obtain ⟨_, _, _, h⟩ := h; exact ⟨_, h⟩
 | other => exact h.elim
 | array n e => exact ⟨_, h.1⟩
 | map k e => exact ⟨_, h.1⟩
 | _ => exact ⟨_, h⟩

theorem sem_len [Dr] (hT : TOk P T) {t : TypeId} {x : Operand} (ho : o.op = .call { callee := .builtin .len, args := #[x], argTypes := #[t] }) (h : alen T t (ev x) H K) : ∃ r, OpSem P o ev H r H ∧ K r H := by
 unfold alen at h
 cases hti : T t with
 | none => simp [hti] at h
 | some i =>
  have hud := (hT t i hti).und
  simp only [hti] at h
  have go : ∀ (n : Nat), (∀ (M0 : Nat → Prop) (σ : List Value) (w : World) (v : Value), St M0 H σ w → Rv (Kof M0 H σ w) σ (ev x) v → (Builtin.len_ #[t] o.type #[v]).run P w = .ok (goInt n) w) → OpSem P o ev H (.int .i64 n) H := by
   intro n hr
   refine .still fun M0 σ w ρ hs hop => ?_
   have := hr M0 σ w _ hs (hop x (by simp [ho, Op.operands, Call.operands]))
   exact ⟨.int .i64 n, by simp [execOp, ho, resolve, invoke, builtin, this, goInt], .int _ _ _⟩
  have sl : ∀ {e : TypeId} (_ : P.underlying t = some (.slice e)) (a : Option Addr) (n c : Nat) (w : World), (Builtin.len_ #[t] o.type #[.slice a n c]).run P w = .ok (goInt n) w := by
   intro e hu a n c w
   simp [Builtin.len_, run_underlying hu]
  split at h
  ·rename_i s hk hx
   rw [hk] at hud
   refine ⟨_, go s.length fun M0 σ w v hs hv => ?_, h⟩
   rw [hx] at hv
   rw [hv.str_inv]
   simp [Builtin.len_, run_underlying (show P.underlying t = some .string from hud), bs_size]
  ·rename_i e es hk hx
   rw [hk] at hud
   refine ⟨_, go es.length fun M0 σ w v hs hv => ?_, h⟩
   rw [hx] at hv
   rcases hv.sl_inv with ⟨e0, e1⟩ | ⟨a, cap, sz, val, e1, _⟩
   ·subst e0; rw [e1]; exact sl hud _ _ _ w
   ·rw [e1]; exact sl hud _ _ _ w
  ·rename_i e hk hx
   rw [hk] at hud
   refine ⟨_, go 0 fun M0 σ w v hs hv => ?_, h⟩
   rw [hx] at hv
   rw [hv.nils_inv]
   exact sl hud _ _ _ w
  ·rename_i e id off n hk hx
   rw [hk] at hud
   refine ⟨_, go n fun M0 σ w v hs hv => ?_, h⟩
   rw [hx] at hv
   obtain ⟨b, cap, e1, _⟩ := hv.asl_inv
   rw [e1]; exact sl hud _ _ _ w
  ·rename_i e id hk hx
   rw [hk] at hud
   split at h
   ·rename_i es hH
    refine ⟨_, go es.length fun M0 σ w v hs hv => ?_, h⟩
    rw [hx] at hv
    unfold rowOf at hH
    split at hH
    ·rename_i rt rs es' hH'
     obtain rfl := Option.some.inj hH
     obtain ⟨_, ⟨e0, e1⟩ | ⟨g, cap, cur, e1, _⟩⟩ := hs.ok id _ _ hH' hv.own_inv
     ·subst e0; rw [e1]; exact sl hud _ _ _ w
     rw [e1]; exact sl hud _ _ _ w
    ·rename_i es' hH'
     obtain rfl := Option.some.inj hH
     rcases (hs.ok id _ _ hH' hv.own_inv).sl_inv with ⟨e0, e1⟩ | ⟨a, cap, sz, val, e1, _⟩
     ·subst e0; rw [e1]; exact sl hud _ _ _ w
     ·rw [e1]; exact sl hud _ _ _ w
    ·cases hH
   ·exact h.elim
  ·rename_i n e hk
   rw [hk] at hud
   replace hud := hud.1
   refine ⟨_, go n fun M0 σ w v hs hv => ?_, h⟩
   simp [Builtin.len_, run_underlying (show P.underlying t = some (.array n e) from hud)]
  ·exact h.elim

theorem sem_minmax [Dr] {mx : Bool} {args : Array Operand} {ts : Array TypeId} (ho : o.op = .call { callee := .builtin (if mx then .max else .min), args := args, argTypes := ts }) (h : aminmax mx (args.toList.map ev) H K) : ∃ r, (∀ H, OpSem P o ev H r H) ∧ K r H := by
 generalize hl : args.toList.map ev = l at h
 unfold aminmax at h
 split at h
 ·rename_i k a k' b
  cases hk : sameKind k k' with
  | false => simp [hk] at h
  | true =>
   have h9 : K (.int k (if mx then (if a < b then b else a) else (if b < a then b else a))) H := by
    have e1 : max a b = if a < b then b else a := by rw [Int.max_def]; split <;> split <;> omega
    have e2 : min a b = if b < a then b else a := by rw [Int.min_def]; split <;> split <;> omega
    rw [← e1, ← e2]
    rw [hk] at h
    cases mx <;> exact h
   have := sameKind_eq hk; subst this
   obtain ⟨x, y, hargs, hx, hy⟩ : ∃ x y, args = #[x, y] ∧ ev x = .int k a ∧ ev y = .int k b := by
    obtain ⟨al⟩ := args
    have hlen : al.length = 2 := by simpa using congrArg List.length hl
    match al, hlen with
    | [x, y], _ => simp at hl; exact ⟨x, y, rfl, hl.1, hl.2⟩
   subst hargs
   refine ⟨_, fun H => .still fun M0 σ w ρ _ hop => ?_, h9⟩
   have h1 := hop x (by simp [ho, Op.operands, Call.operands]); rw [hx] at h1
   have h2 := hop y (by simp [ho, Op.operands, Call.operands]); rw [hy] at h2
   refine ⟨.int k (if mx then (if a < b then b else a) else (if b < a then b else a)), ?_, .int _ _ _⟩
   cases mx
   ·simp [execOp, ho, resolve, invoke, builtin, h1.int_inv, h2.int_inv, Builtin.min_, Builtin.min2]
   ·simp [execOp, ho, resolve, invoke, builtin, h1.int_inv, h2.int_inv, Builtin.max_, Builtin.max2]
 ·exact h.elim

theorem isU8_spec [Dr] (hT : TOk P T) {t : TypeId} {i : TI} (hti : T t = some i) (h : isU8 T i = true) : ∃ e, P.underlying t = some (.slice e) ∧ P.underlying e = some (.int .u8) := by
 have hud := (hT t i hti).und
 unfold isU8 at h
 split at h
 ·rename_i e hk
  rw [hk] at hud
  split at h
  ·rename_i ei hei
   have hue := (hT e ei hei).und
   split at h
   ·rename_i hk'
    rw [hk'] at hue
    exact ⟨e, hud, hue⟩
   ·cases h
  ·cases h
 ·cases h

theorem bytes_map [Dr] (l : Bs) (i : Nat) : (l.map byteCell)[i]? = (l[i]?).map byteCell := by simp

theorem sem_conv [Dr] (hT : TOk P T) {s d : TypeId} {x : Operand} (ho : o.op = .convert s d x) (h : aconv T s d (ev x) H K) : ∃ r, OpSem P o ev H r H ∧ K r H := by
 unfold aconv at h
 split at h
 ·rename_i si di hsi hdi
  have hus := (hT s si hsi).und
  have hud := (hT d di hdi).und
  obtain ⟨du, hsu⟩ := hus.some
  have toStr : ∀ (l : Bs) {e : TypeId} (_ : P.underlying s = some (.slice e)) (_ : P.underlying e = some (.int .u8)) (_ : P.underlying d = some .string) (M0 : Nat → Prop) (σ : List Value) (w : World) (ρ : Operand → Value) (v : Value),
    ρ x = v → Rv (Kof M0 H σ w) [] (.sl (l.map byteCell)) v → ∃ u, (execOp ρ o).run P w = .ok (.value u) w ∧ Rv (Kof M0 H σ w) σ (.str l) u := by
   intro l e h1 h2 h3 M0 σ w ρ v hv hr
   rcases hr.sl_inv with ⟨e0, e1⟩ | ⟨a, cap, sz, val, e1, _, _, k3, k4, k5⟩
   ·have hl : l = [] := by simpa using e0
    subst hl
    exact ⟨.string ⟨[].toArray⟩, by simp [execOp, ho, hv, e1, run_convert_bytes_nil w s e h1 h2 0 0 d h3]; rfl, .str _ _⟩
   ·have hlen : (l.map byteCell).length = l.length := by simp
    refine ⟨.string ⟨l.toArray⟩, ?_, .str _ _⟩
    rw [hlen] at e1
    have hc := run_convert_bytes_back (P := P) w s d e a cap l h1 h2 h3 (fun j hj => by
     have hb : (l.map byteCell)[j]? = some (byteCell l[j]) := by rw [bytes_map, List.getElem?_eq_getElem hj]; rfl
     have hz : sz = 1 := by rw [← (k3 _ (List.mem_of_getElem? hb)).1]; rfl
     have q := k4 j 0 _ (.int .u8 l[j].toNat) hb rfl
     have q' := (k5 j 0 (by simpa using hj) (by omega)).2
     rw [hz, Nat.mul_one, Nat.add_zero] at q'
     rw [q', q.int_inv])
    simp [execOp, ho, hv, e1, hc]
  split at h
  ·rename_i k k' n hk hx
   rw [hk] at hud
   refine ⟨_, .still fun M0 σ w ρ hs hop => ?_, h⟩
   have h1 := hop x (by simp [ho, Op.operands]); rw [hx] at h1
   exact ⟨.int k (k.wrap n), by simp [execOp, ho, h1.int_inv, convert, run_underlying hsu, run_underlying (show P.underlying d = some (.int k) from hud), Conv.intToInt], .int _ _ _⟩
  ·rename_i b hk hx
   rw [hk] at hud
   refine ⟨_, .still fun M0 σ w ρ hs hop => ?_, h⟩
   have h1 := hop x (by simp [ho, Op.operands]); rw [hx] at h1
   exact ⟨.string ⟨b.toArray⟩, by simp [execOp, ho, h1.str_inv, convert, run_underlying hsu, run_underlying (show P.underlying d = some .string from hud)], .str _ _⟩
  ·rename_i hk hx
   rw [hk] at hud
   cases hu8 : isU8 T si with
   | false => simp [hu8] at h
   | true =>
    simp only [hu8, cond_true] at h
    obtain ⟨e, q1, q2⟩ := isU8_spec hT hsi hu8
    refine ⟨_, .still fun M0 σ w ρ hs hop => ?_, h⟩
    have h1 := hop x (by simp [ho, Op.operands]); rw [hx] at h1
    exact ⟨.string ⟨[].toArray⟩, by simp [execOp, ho, h1.nils_inv, run_convert_bytes_nil w s e q1 q2 0 0 d hud]; rfl, .str _ _⟩
  ·rename_i es hk hx
   rw [hk] at hud
   cases hu8 : isU8 T si with
   | false => simp [hu8] at h
   | true =>
    simp only [hu8, cond_true] at h
    obtain ⟨e, q1, q2⟩ := isU8_spec hT hsi hu8
    obtain ⟨l, rfl, h⟩ := h
    refine ⟨_, .still fun M0 σ w ρ hs hop => ?_, h⟩
    have h1 := hop x (by simp [ho, Op.operands]); rw [hx] at h1
    exact toStr l q1 q2 hud M0 σ w ρ _ rfl (h1.closed rfl)
  ·rename_i id hk hx
   rw [hk] at hud
   cases hu8 : isU8 T si with
   | false => simp [hu8] at h
   | true =>
    simp only [hu8, cond_true] at h
    obtain ⟨e, q1, q2⟩ := isU8_spec hT hsi hu8
    split at h
    ·rename_i es hH
     obtain ⟨l, rfl, h⟩ := h
     refine ⟨_, .still fun M0 σ w ρ hs hop => ?_, h⟩
     have h1 := hop x (by simp [ho, Op.operands]); rw [hx] at h1
     unfold rowOf at hH
     split at hH
     ·rename_i rt rs es' hH'
      obtain rfl := Option.some.inj hH
      obtain ⟨k0, ⟨e0, e1⟩ | ⟨g, cap, cur, e1, k1, k2, k3, k4, k5⟩⟩ := hs.ok id _ _ hH' h1.own_inv
      ·exact toStr l q1 q2 hud M0 σ w ρ _ rfl (by rw [e0, e1]; exact .sl0 _)
      have hlen : (l.map byteCell).length = l.length := by simp
      rw [hlen] at e1 k2
      have hc := run_convert_bytes_back (P := P) w s d e ⟨g, 0, none⟩ cap l q1 q2 hud (fun j hj => by
       have hb : (l.map byteCell)[j]? = some (byteCell l[j]) := by rw [bytes_map, List.getElem?_eq_getElem hj]; rfl
       obtain ⟨m1, _, m3⟩ := k5 j _ hb
       have hz : rs = 1 := by rw [← m1]; rfl
       have q := m3 0 (.int .u8 l[j].toNat) rfl
       rw [hz, Nat.mul_one, Nat.add_zero] at q
       rw [Addr.add_lit, Nat.zero_add, getD_cell k1 (by rw [k4, hz]; omega), q.int_inv])
      exact ⟨.string ⟨l.toArray⟩, by simp [execOp, ho, e1, hc], .str _ _⟩
     ·rename_i es' hH'
      obtain rfl := Option.some.inj hH
      exact toStr l q1 q2 hud M0 σ w ρ _ rfl (hs.ok id _ _ hH' h1.own_inv)
     ·cases hH
    ·exact h.elim
  ·rename_i e' b hk hx
   cases hu8 : isU8 T di with
   | false => simp [hu8] at h
   | true =>
    simp only [hu8, cond_true] at h
    obtain ⟨e, q1, q2⟩ := isU8_spec hT hdi hu8
    obtain ⟨hb, h⟩ := h
    refine ⟨_, fun M0 σ w ρ hs hop => ?_, h⟩
    have h1 := hop x (by simp [ho, Op.operands]); rw [hx] at h1
    have hr := Lib.run_convert_string_bytes (P := P) w s d e ⟨b.toArray⟩ hsu q1 q2
    have hB : Below w.heap.size w (Lib.bytesWorld w e ⟨b.toArray⟩) := ⟨rfl, ⟨rfl, fun _ => by unfold Lib.bytesWorld World.freeze; rw [if_neg (by decide)]; exact Nat.le_succ _⟩, rfl, by rw [Lib.bytesWorld_size]; omega, fun k hk => Lib.bytesWorld_at_old w e _ k hk⟩
    refine ⟨.slice (some ⟨w.heap.size, 0, none⟩) (⟨b.toArray⟩ : ByteArray).size (grownCap w (⟨b.toArray⟩ : ByteArray).size 0 e), σ, _, .inl (by simp only [execOp, ho, h1.str_inv, Sem.run_bind, hr, Result.andThen_ok, Sem.run_pure]), hs.below hB, Ext.of_below hB, ?_⟩
    have hlen : (⟨b.toArray⟩ : ByteArray).size = (b.map byteCell).length := by rw [bs_size]; simp
    rw [hlen]
    refine .sl _ _ _ _ 1 (fun i _ => .int .u8 (b.getD i 0).toNat) ?_ (by simpa using hb) ?_ ?_ ?_
    ·have := grownCap_ge w (⟨b.toArray⟩ : ByteArray).size 0 e
     rw [← hlen]; exact this
    ·intro c hc
     obtain ⟨y, _, rfl⟩ := List.mem_map.1 hc
     exact ⟨rfl, rfl⟩
    ·intro i j c z hc hz
     rw [bytes_map] at hc
     obtain ⟨y, hy, rfl⟩ := Option.map_eq_some_iff.1 hc
     cases j with
     | zero =>
      simp [byteCell] at hz
      subst hz
      have : b.getD i 0 = y := by simp [List.getD, hy]
      rw [this]
      exact .int _ _ _
     | succ j => simp [byteCell] at hz
    ·intro i j hi hj
     have hj0 : j = 0 := by omega
     subst hj0
     rw [Nat.mul_one, Nat.add_zero, Addr.add_lit, Nat.zero_add]
     have hi' : i < b.length := by simpa using hi
     refine ⟨fun hm => ?_, ?_⟩
     ·rcases hm with hm | hm
      ·have := hs.old _ hm; simp at this
      ·have := Mb_lt hs hm; simp at this
     ·have := Lib.bytesWorld_cell w e ⟨b.toArray⟩ i (by rw [bs_size]; exact hi')
      simpa using this
  ·exact h.elim
 ·exact h.elim

/-! ### slices -/
theorem bound_spec [Dr] {len : Nat} {x : Option Operand} {d : Nat} {K1 : Nat → Prop} (h : bound len (x.map ev) d K1) :
  ∃ m, K1 m ∧ ((x = none ∧ m = d) ∨ ∃ y k n, x = some y ∧ ev y = .int k n ∧ 0 ≤ n ∧ n ≤ len ∧ m = n.toNat) := by
 cases x with
 | none => exact ⟨d, h, .inl ⟨rfl, rfl⟩⟩
 | some y =>
  simp only [Option.map_some, bound] at h
  split at h
  ·rename_i e; cases e
  ·rename_i k n e
   obtain ⟨h0, h1, h2⟩ := h
   exact ⟨_, h2, .inr ⟨y, k, n, rfl, by simpa using e, h0, h1, rfl⟩⟩
  ·exact h.elim

theorem run_bounds [Dr] {lo hi : Option Operand} {len cap l hh : Nat} {isS : Bool} (hlc : len ≤ cap)
  (h1 : (hi = none ∧ hh = len) ∨ ∃ y k n, hi = some y ∧ ev y = .int k n ∧ 0 ≤ n ∧ n ≤ (len : Int) ∧ hh = n.toNat)
  (h2 : (lo = none ∧ l = 0) ∨ ∃ y k n, lo = some y ∧ ev y = .int k n ∧ 0 ≤ n ∧ n ≤ (hh : Int) ∧ l = n.toNat)
  {K0 : Addr → Value → Prop} {σ : List Value} {ρ : Operand → Value} (r1 : ∀ y, hi = some y → Rv K0 σ (ev y) (ρ y)) (r2 : ∀ y, lo = some y → Rv K0 σ (ev y) (ρ y)) (w : World) :
  (Instr.sliceBounds isS len cap (lo.map ρ) (hi.map ρ) none).run P w = .ok (l, hh, cap) w := by
 rcases h1 with ⟨rfl, rfl⟩ | ⟨y, k, n, rfl, e, g0, g1, rfl⟩
 ·rcases h2 with ⟨rfl, rfl⟩ | ⟨z, k', n', rfl, e', g0', g1', rfl⟩
  ·simp [Instr.sliceBounds]
  ·have q2 := r2 z rfl; rw [e'] at q2
   simp [Instr.sliceBounds, q2.int_inv, run_sliceBound w k' n' _ _ g0' g1']
 ·have q1 := r1 y rfl; rw [e] at q1
  have g1' : n ≤ (cap : Int) := by omega
  rcases h2 with ⟨rfl, rfl⟩ | ⟨z, k', n', rfl, e', g0', g1'', rfl⟩
  ·simp [Instr.sliceBounds, q1.int_inv, run_sliceBound w k n _ _ g0 g1']
  ·have q2 := r2 z rfl; rw [e'] at q2
   simp [Instr.sliceBounds, q1.int_inv, q2.int_inv, run_sliceBound w k n _ _ g0 g1', run_sliceBound w k' n' _ _ g0' g1'']

theorem hh_le [Dr] {hi : Option Operand} {len hh : Nat} (h1 : (hi = none ∧ hh = len) ∨ ∃ y k n, hi = some y ∧ ev y = .int k n ∧ 0 ≤ n ∧ n ≤ (len : Int) ∧ hh = n.toNat) : hh ≤ len := by
 rcases h1 with ⟨_, rfl⟩ | ⟨_, _, n, _, _, g0, g1, rfl⟩
 ·exact Nat.le_refl _
 ·omega
theorem l_le [Dr] {lo : Option Operand} {l hh : Nat} (h2 : (lo = none ∧ l = 0) ∨ ∃ y k n, lo = some y ∧ ev y = .int k n ∧ 0 ≤ n ∧ n ≤ (hh : Int) ∧ l = n.toNat) : l ≤ hh := by
 rcases h2 with ⟨_, rfl⟩ | ⟨_, _, n, _, _, g0, g1, rfl⟩
 ·exact Nat.zero_le _
 ·omega

theorem cut_len [Dr] {α : Type} {es : List α} {l hh : Nat} (h : hh ≤ es.length) : ((es.take hh).drop l).length = hh - l := by simp; omega

theorem rv_cut [Dr] {K0 : Addr → Value → Prop} {σ : List Value} {es : List (List AV)} {v : Value} (hv : Rv K0 σ (.sl es) v) {l hh : Nat} (h1 : hh ≤ es.length) (h2 : l ≤ hh) {s : Nat} (hs : allLen s es) :
  ∃ a n c, v = .slice a n c ∧ n = es.length ∧ n ≤ c ∧ Rv K0 σ (.sl ((es.take hh).drop l)) (.slice (if c = l then a else a.map (·.add (l * s))) (hh - l) (c - l)) := by
 rcases hv.sl_inv with ⟨e0, e1⟩ | ⟨a, cap, sz, val, e1, k1, k2, k3, k4, k5⟩
 ·subst e0
  simp at h1
  have : l = 0 := by omega
  subst this; subst h1
  exact ⟨none, 0, 0, e1, rfl, Nat.le_refl _, by simpa using .sl0 σ⟩
 ·refine ⟨some a, _, cap, e1, rfl, k1, ?_⟩
  have hl := cut_len (l := l) h1
  by_cases hemp : l = hh
  ·subst hemp
   have e0 : (es.take l).drop l = [] := List.eq_nil_of_length_eq_zero (by rw [hl]; omega)
   rw [e0, Nat.sub_self]
   have mk : ∀ (b : Addr) (c : Nat), Rv K0 σ (.sl []) (.slice (some b) 0 c) := fun b c => .sl _ [] b c sz val (Nat.zero_le _) (by simp) (fun c hc => by simp at hc) (fun i j c x hc => by simp at hc) (fun i j hi => by simp at hi)
   split
   ·exact mk _ _
   ·exact mk _ _
  ·have hne : cap ≠ l := by omega
   rw [if_neg hne]
   have hs' : s = sz := by
    have h0 : 0 < es.length := by omega
    have hm : es[0] ∈ es := List.getElem_mem h0
    rw [← hs _ hm]; exact (k3 _ hm).1
   subst hs'
   rw [← hl]
   simp only [Option.map_some]
   refine .sl _ _ _ _ s (fun i j => val (l + i) j) (by rw [hl]; omega) (by rw [hl]; omega) (fun c hc => k3 c (List.mem_of_mem_take (List.mem_of_mem_drop hc))) (fun i j c x hc hx => ?_) (fun i j hi hj => ?_)
   ·rw [List.getElem?_drop, List.getElem?_take] at hc
    split at hc
    ·exact k4 _ _ _ _ hc hx
    ·cases hc
   ·have := k5 (l + i) j (by rw [hl] at hi; omega) hj
    have ea : (a.add (l * s)).add (i * s + j) = a.add ((l + i) * s + j) := by
     have e : (l + i) * s + j = l * s + (i * s + j) := by rw [Nat.add_mul]; omega
     rw [e]
     unfold Addr.add
     by_cases g1 : l * s = 0
     ·rw [g1]; simp
     ·by_cases g2 : i * s + j = 0
      ·rw [g2]; simp
      ·have g3 : l * s + (i * s + j) ≠ 0 := by omega
       simp only [g1, g2, g3, if_false, Nat.add_assoc]
    rw [ea]; exact this

theorem bs_cut [Dr] (s : Bs) {l hh : Nat} (h1 : hh ≤ s.length) (h2 : l ≤ hh) : (⟨s.toArray⟩ : ByteArray).extract l hh = ⟨((s.take hh).drop l).toArray⟩ := by
 apply ByteArray.ext
 rw [ByteArray.data_extract]
 apply Array.ext'
 simp [List.extract_eq_take_drop, List.drop_take]

theorem St.frozen0 [Dr] {M0 : Nat → Prop} {H : Hp} {σ : List Value} {w : World} (h : St M0 H σ w) {id rt rs : Nat} {es : List (List AV)} (hH : H[id]? = some (.row rt rs es)) (e0 : es = []) {v : Value} (hσ : σ[id]? = some v) (e1 : v = .slice none 0 0) :
  St M0 (H.set id (.frz es)) σ w ∧ Ext H σ w (H.set id (.frz es)) σ w := by
 have back : ∀ (i : Nat) (o1 : Ob), (H.set id (.frz es))[i]? = some o1 → live o1 = true → H[i]? = some o1 := by
  intro i o1 h1 l1
  rcases set_cases h1 with ⟨rfl, rfl⟩ | ⟨_, k⟩
  ·simp [live] at l1
  ·exact k
 have hx : Ext H σ w (H.set id (.frz es)) σ w := ⟨rfl, .rfl, rfl, Nat.le_refl _, List.prefix_refl _, fun _ _ _ => rfl, fun c _ ⟨i, o1, v1, h1, h2, h3, h4⟩ => ⟨i, o1, v1, back i o1 h1 h2, h2, h3, h4⟩⟩
 refine ⟨h.step hx (by simp [h.len]) (fun i o1 v1 h1 h2 => ?_) (fun i j o1 o2 v1 v2 c hij h1 h2 l1 l2 s1 s2 e1 e2 => h.dist i j o1 o2 v1 v2 c hij (back i o1 h1 l1) (back j o2 h2 l2) l1 l2 s1 s2 e1 e2), hx⟩
 rcases set_cases h1 with ⟨rfl, rfl⟩ | ⟨hne, k⟩
 ·rw [hσ] at h2; cases h2
  refine .inr ?_
  show Rv _ [] (.sl es) v
  rw [e0, e1]; exact .sl0 _
 ·exact .inl ⟨k, h2, fun _ _ _ => rfl⟩

theorem sem_slice [Dr] (hT : TOk P T) {t : TypeId} {x : Operand} {lo hi : Option Operand} (ho : o.op = .slice t x lo hi none) (h : aslice T t (ev x) (lo.map ev) (hi.map ev) H K) : ∃ r H', OpSem P o ev H r H' ∧ K r H' := by
 unfold aslice at h
 cases hti : T t with
 | none => simp [hti] at h
 | some i =>
  have hud := (hT t i hti).und
  simp only [hti] at h
  have oplo : ∀ {M0 : Nat → Prop} {σ : List Value} {w : World} {ρ : Operand → Value}, (∀ x ∈ o.op.operands, Rv (Kof M0 H σ w) σ (ev x) (ρ x)) → (∀ y, hi = some y → Rv (Kof M0 H σ w) σ (ev y) (ρ y)) ∧ (∀ y, lo = some y → Rv (Kof M0 H σ w) σ (ev y) (ρ y)) ∧ Rv (Kof M0 H σ w) σ (ev x) (ρ x) := by
   intro M0 σ w ρ hop
   exact ⟨fun y hy => hop y (by simp [ho, Op.operands, hy]), fun y hy => hop y (by simp [ho, Op.operands, hy]), hop x (by simp [ho, Op.operands])⟩
  have runS : ∀ {e : TypeId} {ei : TI} (_ : P.underlying t = some (.slice e)) (_ : T e = some ei) {l hh n c : Nat} {a : Option Addr} (_ : n ≤ c)
    (_ : (hi = none ∧ hh = n) ∨ ∃ y k m, hi = some y ∧ ev y = .int k m ∧ 0 ≤ m ∧ m ≤ (n : Int) ∧ hh = m.toNat) (_ : (lo = none ∧ l = 0) ∨ ∃ y k m, lo = some y ∧ ev y = .int k m ∧ 0 ≤ m ∧ m ≤ (hh : Int) ∧ l = m.toNat)
    {M0 : Nat → Prop} {σ : List Value} {w : World} {ρ : Operand → Value} (_ : ∀ x ∈ o.op.operands, Rv (Kof M0 H σ w) σ (ev x) (ρ x)) (_ : ρ x = .slice a n c),
    (execOp ρ o).run P w = .ok (.value (.slice (if c = l then a else a.map (·.add (l * ei.size))) (hh - l) (c - l))) w := by
   intro e ei hu hei l hh n c a hnc g1 g2 M0 σ w ρ hop hx
   obtain ⟨p1, p2, _⟩ := oplo hop
   have hb := run_bounds (P := P) (ev := ev) (isS := true) hnc g1 g2 p1 p2 w
   simp [execOp, ho, hx, Instr.sliceAt, Instr.slice, run_underlying hu, hb, (hT e ei hei).sizeOf]
  split at h
  ·rename_i s hk hx
   rw [hk] at hud
   obtain ⟨hh, h, g1⟩ := bound_spec h
   obtain ⟨l, h, g2⟩ := bound_spec h
   refine ⟨_, _, .still fun M0 σ w ρ hs hop => ?_, h⟩
   obtain ⟨p1, p2, p3⟩ := oplo hop
   rw [hx] at p3
   have hb := run_bounds (P := P) (ev := ev) (isS := false) (Nat.le_refl s.length) g1 g2 p1 p2 w
   have hz : (⟨s.toArray⟩ : ByteArray).size = s.length := bs_size s
   refine ⟨.string ⟨((s.take hh).drop l).toArray⟩, ?_, .str _ _⟩
   simp [execOp, ho, p3.str_inv, Instr.sliceAt, Instr.slice, run_underlying (show P.underlying t = some .string from hud), hz, hb, bs_cut s (hh_le g1) (l_le g2)]
  ·rename_i e es hk hx
   rw [hk] at hud
   split at h
   ·rename_i ei hei
    obtain ⟨hh, h, g1⟩ := bound_spec h
    obtain ⟨l, h, g2⟩ := bound_spec h
    obtain ⟨hal, h⟩ := h
    refine ⟨_, _, .still fun M0 σ w ρ hs hop => ?_, h⟩
    obtain ⟨p1, p2, p3⟩ := oplo hop
    rw [hx] at p3
    obtain ⟨a, n, c, e1, e2, e3, e4⟩ := rv_cut p3 (hh_le g1) (l_le g2) hal
    subst e2
    exact ⟨_, runS hud hei e3 g1 g2 hop e1, e4⟩
   ·exact h.elim
  ·rename_i e hk hx
   rw [hk] at hud
   split at h
   ·rename_i ei hei
    obtain ⟨hh, h, g1⟩ := bound_spec h
    obtain ⟨l, h, g2⟩ := bound_spec h
    refine ⟨_, _, .still fun M0 σ w ρ hs hop => ?_, h⟩
    obtain ⟨p1, p2, p3⟩ := oplo hop
    rw [hx] at p3
    have h0 : hh = 0 := by have := hh_le g1; omega
    have l0 : l = 0 := by have := l_le g2; omega
    subst h0; subst l0
    have := runS (n := 0) (c := 0) hud hei (Nat.le_refl 0) g1 g2 hop p3.nils_inv
    exact ⟨_, this, .nils _⟩
   ·exact h.elim
  ·rename_i e id hk hx
   rw [hk] at hud
   split at h
   ·rename_i ei rt rs es hei hH
    cases hsz : Nat.beq rs ei.size with
    | false => simp [hsz] at h
    | true =>
     simp only [hsz, cond_true] at h
     have esz := Nat.eq_of_beq_eq_true hsz
     subst esz
     obtain ⟨hh, h, g1⟩ := bound_spec h
     obtain ⟨l, h, g2⟩ := bound_spec h
     refine ⟨_, _, fun M0 σ w ρ hs hop => ?_, h⟩
     obtain ⟨p1, p2, p3⟩ := oplo hop
     rw [hx] at p3
     have hσ := p3.own_inv
     obtain ⟨q0, ⟨e0, e1⟩ | ⟨g, cap, cur, e1, q1, q2, q3, q4, q5⟩⟩ := hs.ok id _ _ hH hσ
     ·obtain ⟨s1, s2⟩ := hs.frozen0 hH e0 hσ e1
      obtain ⟨a, n, c, f1, f2, f3, f4⟩ := rv_cut (K0 := Kof M0 (H.set id (.frz es)) σ w) (σ := []) (es := es) (v := ρ x) (by rw [e0, e1]; exact .sl0 _) (hh_le g1) (l_le g2) (s := ei.size) (fun c hc => by rw [e0] at hc; cases hc)
      subst f2
      exact ⟨_, σ, w, .inl (runS hud hei f3 g1 g2 hop f1), s1, s2, f4.closed rfl⟩
     have hkey : Ext H σ w (H.set id (.frz es)) σ w → Rv (Kof M0 (H.set id (.frz es)) σ w) [] (.sl es) (ρ x) := by
      intro hx'
      rw [e1]
      refine .sl _ es _ cap ei.size (fun i j => cur.getD (i * ei.size + j) undef) q2 (by omega) (fun c hc => ?_) (fun i j c z hc hz => hx'.rv0 ((q5 i c hc).2.2 j z hz)) (fun i j hi hj => ?_)
      ·obtain ⟨i, hi⟩ := List.getElem?_of_mem hc
       exact ⟨(q5 i c hi).1, (q5 i c hi).2.1⟩
      ·have hlt : i * ei.size + j < cur.size := by
        have := row_pos hi hj
        have : es.length * ei.size ≤ cap * ei.size := Nat.mul_le_mul_right _ q2
        omega
       refine ⟨?_, by rw [Addr.add_lit, Nat.zero_add]; exact getD_cell q1 hlt⟩
       rw [Addr.add_lit]
       intro hm
       have hMg : Mb H σ g := ⟨id, _, _, hH, rfl, hσ, by rw [e1]; rfl⟩
       rcases hm with hm | ⟨i', o', v', m1, m2, m3, m4⟩
       ·exact hs.sep g hMg hm
       ·rcases set_cases m1 with ⟨rfl, rfl⟩ | ⟨hne, k⟩
        ·simp [live] at m2
        ·exact hs.dist i' id o' _ v' _ g hne k hH m2 rfl m3 hσ m4 (by rw [e1]; rfl)
     obtain ⟨s1, s2⟩ := hs.write (w' := w) hH hσ rfl (b := g) (by rw [e1]; rfl) rfl .rfl rfl rfl (fun _ _ => rfl) (o' := .frz es) hkey
     obtain ⟨a, n, c, f1, f2, f3, f4⟩ := rv_cut (hkey s2) (hh_le g1) (l_le g2) (s := ei.size) (fun c hc => by
      obtain ⟨i, hi⟩ := List.getElem?_of_mem hc
      exact (q5 i c hi).1)
     subst f2
     exact ⟨_, σ, w, .inl (runS hud hei f3 g1 g2 hop f1), s1, s2, f4.closed rfl⟩
   ·rename_i ei es hei hH
    obtain ⟨hh, h, g1⟩ := bound_spec h
    obtain ⟨l, h, g2⟩ := bound_spec h
    obtain ⟨hal, h⟩ := h
    refine ⟨_, _, .still fun M0 σ w ρ hs hop => ?_, h⟩
    obtain ⟨p1, p2, p3⟩ := oplo hop
    rw [hx] at p3
    have p4 := hs.ok id _ _ hH p3.own_inv
    obtain ⟨a, n, c, e1, e2, e3, e4⟩ := rv_cut p4 (hh_le g1) (l_le g2) hal
    subst e2
    exact ⟨_, runS hud hei e3 g1 g2 hop e1, e4.closed rfl⟩
   ·exact h.elim
  ·rename_i m e id oo hk hx
   rw [hk] at hud
   replace hud := hud.1
   split at h
   ·rename_i ei hei
    cases hsz : Nat.beq ei.size 1 with
    | false => rw [hsz] at h; exact h.elim
    | true =>
     rw [hsz] at h
     simp only [cond_true] at h
     have esz := Nat.eq_of_beq_eq_true hsz
     obtain ⟨hh, h, g1⟩ := bound_spec h
     obtain ⟨l, h, g2⟩ := bound_spec h
     cases hlm : Nat.blt l m with
     | false => rw [hlm] at h; exact h.elim
     | true =>
      rw [hlm] at h
      simp only [cond_true] at h
      have hlt : l < m := cast Nat.blt_eq hlm
      refine ⟨_, _, .still fun M0 σ w ρ hs hop => ?_, h⟩
      obtain ⟨p1, p2, p3⟩ := oplo hop
      rw [hx] at p3
      obtain ⟨b, e1, hσ⟩ := p3.ptr_inv
      have hb := run_bounds (P := P) (ev := ev) (isS := false) (Nat.le_refl m) g1 g2 p1 p2 w
      have hle := hh_le g1
      refine ⟨.slice (some ⟨b, oo + l, none⟩) (hh - l) (m - l), ?_, .asl _ id (oo + l) (hh - l) b (m - l) (by omega) hσ⟩
      have hne : ¬ m = l := by omega
      simp [execOp, ho, e1, Instr.sliceAt, Instr.sureAddr, run_underlying (show P.underlying t = some (.array m e) from hud), hb, (hT e ei hei).sizeOf, esz, hne, Addr.add_lit]
   ·exact h.elim
  ·exact h.elim

theorem freeze_heap [Dr] (w : World) (g k : Nat) {cur : Array Value} {t : TypeId} (hg : w.heap[g]? = some (.cells cur t (0, 0))) :
  (w.freeze ⟨g, k, none⟩ 1).heap[g]? = some (.cells cur t (k, k + 1)) ∧ (∀ c, c ≠ g → (w.freeze ⟨g, k, none⟩ 1).heap[c]? = w.heap[c]?) ∧ (w.freeze ⟨g, k, none⟩ 1).heap.size = w.heap.size ∧ (w.freeze ⟨g, k, none⟩ 1).os = w.os ∧ Tp w (w.freeze ⟨g, k, none⟩ 1) ∧ (w.freeze ⟨g, k, none⟩ 1).output = w.output := by
 unfold World.freeze
 rw [if_neg (by decide)]
 refine ⟨?_, fun c hc => ?_, by simp, rfl, ⟨rfl, fun _ => Nat.le_refl _⟩, rfl⟩
 ·simp [Array.getElem?_modify, hg]
 ·simp [Array.getElem?_modify, Ne.symm hc]
theorem sem_convB [Dr] (hT : TOk P T) {s d : TypeId} {x : Operand} (ho : o.op = .convert s d x) (h : aconvB T s d (ev x) H K) : ∃ r H', OpSem P o ev H r H' ∧ K r H' := by
 have old : aconv T s d (ev x) H K → ∃ r H', OpSem P o ev H r H' ∧ K r H' := fun h => by
  obtain ⟨r, h1, h2⟩ := sem_conv hT ho h
  exact ⟨r, H, h1, h2⟩
 unfold aconvB at h
 split at h
 ·rename_i i id hsi hx
  split at h
  ·rename_i rt rs es hH
   cases hb : Nat.beq s d && isU8 T i && Nat.beq rs 1 with
   | false => rw [hb] at h; exact old h
   | true =>
    rw [hb] at h
    simp only [cond_true] at h
    rw [Bool.and_eq_true, Bool.and_eq_true] at hb
    have esd := Nat.eq_of_beq_eq_true hb.1.1
    have ers := Nat.eq_of_beq_eq_true hb.2
    subst esd ers
    obtain ⟨e, u1, u2⟩ := isU8_spec hT hsi hb.1.2
    split at h
    ·exact h.elim
    ·rename_i c0 r0
     refine ⟨_, _, fun M0 σ w ρ hs hop => ?_, h⟩
     have p1 := hop x (by simp [ho, Op.operands]); rw [hx] at p1
     have hσ := p1.own_inv
     obtain ⟨q0, ⟨e0, _⟩ | ⟨g, cap, cur, e1, q1, q2, q3, q4, q5⟩⟩ := hs.ok id _ _ hH hσ
     ·cases e0
     obtain ⟨f1, f2, f3, f4, f5, f6⟩ := freeze_heap w g cur.size q1
     have hkey : Ext H σ w (H.set id (.frz (c0 :: r0))) σ (w.freeze ⟨g, cur.size, none⟩ 1) → Rv (Kof M0 (H.set id (.frz (c0 :: r0))) σ (w.freeze ⟨g, cur.size, none⟩ 1)) [] (.sl (c0 :: r0)) (ρ x) := by
      intro hx'
      rw [e1]
      refine .sl _ (c0 :: r0) _ cap 1 (fun i j => cur.getD (i * 1 + j) undef) q2 (by omega) (fun c hc => ?_) (fun i j c z hc hz => hx'.rv0 ((q5 i c hc).2.2 j z hz)) (fun i j hi hj => ?_)
      ·obtain ⟨i, hi⟩ := List.getElem?_of_mem hc
       exact ⟨(q5 i c hi).1, (q5 i c hi).2.1⟩
      ·have hlt : i * 1 + j < cur.size := by
        have := row_pos hi hj
        have : (c0 :: r0).length * 1 ≤ cap * 1 := Nat.mul_le_mul_right _ q2
        omega
       refine ⟨?_, by rw [Addr.add_lit, Nat.zero_add]; exact getD_cell f1 hlt⟩
       rw [Addr.add_lit]
       intro hm
       have hMg : Mb H σ g := ⟨id, _, _, hH, rfl, hσ, by rw [e1]; rfl⟩
       rcases hm with hm | ⟨i', o', v', m1, m2, m3, m4⟩
       ·exact hs.sep g hMg hm
       ·rcases set_cases m1 with ⟨rfl, rfl⟩ | ⟨hne, k⟩
        ·simp [live] at m2
        ·exact hs.dist i' id o' _ v' _ g hne k hH m2 rfl m3 hσ m4 (by rw [e1]; rfl)
     obtain ⟨s1, s2⟩ := hs.write (w' := w.freeze ⟨g, cur.size, none⟩ 1) hH hσ rfl (b := g) (by rw [e1]; rfl) f4 f5 f6 f3.symm f2 (o' := .frz (c0 :: r0)) hkey
     have hsh : w.shape? g = some (rt, cur.size) := by unfold World.shape?; rw [q1]
     refine ⟨ρ x, σ, _, .inl ?_, s1, s2, (hkey s2).closed rfl⟩
     simp [execOp, ho, e1, convert, run_underlying u1, run_underlying u2, markStringish, hsh]
  ·exact old h
 ·exact old h
theorem Rv.recap [Dr] {K0 : Addr → Value → Prop} {σ : List Value} {es : List (List AV)} {a : Addr} {n c c' : Nat} (h : Rv K0 σ (.sl es) (.slice (some a) n c)) (hc : n ≤ c') : Rv K0 σ (.sl es) (.slice (some a) n c') := by
 rcases h.sl_inv with ⟨_, e⟩ | ⟨a', cap, sz, val, e, k1, k2, k3, k4, k5⟩
 ·cases e
 ·simp only [Value.slice.injEq, Option.some.injEq] at e
  obtain ⟨rfl, rfl, rfl⟩ := e
  exact .sl _ _ _ _ sz val hc k2 k3 k4 k5
theorem rv_cut3 [Dr] {K0 : Addr → Value → Prop} {σ : List Value} {es : List (List AV)} {v : Value} (hv : Rv K0 σ (.sl es) v) {l hh m : Nat} (h1 : hh ≤ m) (hm : m ≤ es.length) (h2 : l ≤ hh) {s : Nat} (hs : allLen s es) :
  ∃ a n c, v = .slice a n c ∧ n = es.length ∧ n ≤ c ∧ Rv K0 σ (.sl ((es.take hh).drop l)) (.slice (if m = l then a else a.map (·.add (l * s))) (hh - l) (m - l)) := by
 obtain ⟨a, n, c, e1, e2, e3, e4⟩ := rv_cut hv (Nat.le_trans h1 hm) h2 hs
 refine ⟨a, n, c, e1, e2, e3, ?_⟩
 cases a with
 | none =>
  subst e1
  rcases hv.sl_inv with ⟨e0, e5⟩ | ⟨a', cap, sz, val, e5, _⟩
  ·subst e0
   simp at hm
   have : hh = 0 := by omega
   have : l = 0 := by omega
   subst hm
   simp_all
  ·cases e5
 | some a =>
  by_cases hemp : l = hh
  ·subst hemp
   have e0 : (es.take l).drop l = [] := List.eq_nil_of_length_eq_zero (by rw [cut_len (by omega)]; omega)
   rw [e0, Nat.sub_self]
   have mk : ∀ (b : Addr) (c : Nat), Rv K0 σ (.sl []) (.slice (some b) 0 c) := fun b c => .sl _ [] b c 0 (fun _ _ => undef) (Nat.zero_le _) (by simp) (fun c hc => by simp at hc) (fun i j c x hc => by simp at hc) (fun i j hi => by simp at hi)
   split
   ·exact mk _ _
   ·exact mk _ _
  ·rw [if_neg (by omega)] at e4 ⊢
   simp only [Option.map_some] at e4 ⊢
   exact e4.recap (by omega)

theorem sem_slice3 [Dr] (hT : TOk P T) {t : TypeId} {x mx : Operand} {lo hi : Option Operand} (ho : o.op = .slice t x lo hi (some mx)) (h : aslice3 T t (ev x) (lo.map ev) (hi.map ev) (ev mx) H K) : ∃ r, OpSem P o ev H r H ∧ K r H := by
 unfold aslice3 at h
 split at h
 ·rename_i i kh hn km m hti hhi hmx
  have hud := (hT t i hti).und
  obtain ⟨yh, rfl, hyh⟩ : ∃ y, hi = some y ∧ ev y = .int kh hn := by
   cases hi with
   | none => cases hhi
   | some y => exact ⟨y, rfl, by simpa using hhi⟩
  have oplo : ∀ {M0 : Nat → Prop} {σ : List Value} {w : World} {ρ : Operand → Value}, (∀ x ∈ o.op.operands, Rv (Kof M0 H σ w) σ (ev x) (ρ x)) → (∀ y, lo = some y → Rv (Kof M0 H σ w) σ (ev y) (ρ y)) ∧ Rv (Kof M0 H σ w) σ (ev x) (ρ x) ∧ ρ yh = .int kh hn ∧ ρ mx = .int km m := by
   intro M0 σ w ρ hop
   refine ⟨fun y hy => hop y (by simp [ho, Op.operands, hy]), hop x (by simp [ho, Op.operands]), ?_, ?_⟩
   ·have := hop yh (by simp [ho, Op.operands]); rw [hyh] at this; exact this.int_inv
   ·have := hop mx (by simp [ho, Op.operands]); rw [hmx] at this; exact this.int_inv
  have runS : ∀ {e : TypeId} {ei : TI} (_ : P.underlying t = some (.slice e)) (_ : T e = some ei) {l n c : Nat} {a : Option Addr} (_ : 0 ≤ m) (_ : m ≤ (c : Int)) (_ : 0 ≤ hn) (_ : hn ≤ m)
    (_ : (lo = none ∧ l = 0) ∨ ∃ y k q, lo = some y ∧ ev y = .int k q ∧ 0 ≤ q ∧ q ≤ (hn.toNat : Int) ∧ l = q.toNat)
    {M0 : Nat → Prop} {σ : List Value} {w : World} {ρ : Operand → Value} (_ : ∀ x ∈ o.op.operands, Rv (Kof M0 H σ w) σ (ev x) (ρ x)) (_ : ρ x = .slice a n c),
    (execOp ρ o).run P w = .ok (.value (.slice (if m.toNat = l then a else a.map (·.add (l * ei.size))) (hn.toNat - l) (m.toNat - l))) w := by
   intro e ei hu hei l n c a g0 g1 g2 g3 g4 M0 σ w ρ hop hx
   obtain ⟨p1, _, p3, p4⟩ := oplo hop
   have hb : (Instr.sliceBounds true n c (lo.map ρ) (some (ρ yh)) (some (ρ mx))).run P w = .ok (l, hn.toNat, m.toNat) w := by
    have g3' : hn ≤ (m.toNat : Int) := by omega
    rcases g4 with ⟨rfl, rfl⟩ | ⟨z, k', n', rfl, e', g0', g1', rfl⟩
    ·simp [Instr.sliceBounds, p3, p4, run_sliceBound w km m _ _ g0 g1, run_sliceBound w kh hn _ _ g2 g3']
    ·have q2 := p1 z rfl; rw [e'] at q2
     simp [Instr.sliceBounds, p3, p4, q2.int_inv, run_sliceBound w km m _ _ g0 g1, run_sliceBound w kh hn _ _ g2 g3', run_sliceBound w k' n' _ _ g0' g1']
   simp [execOp, ho, hx, Instr.sliceAt, Instr.slice, run_underlying hu, hb, (hT e ei hei).sizeOf]
  split at h
  ·rename_i e es hk hx
   rw [hk] at hud
   split at h
   ·rename_i ei hei
    obtain ⟨g0, g1, g2, g3, h⟩ := h
    obtain ⟨l, h, g4⟩ := bound_spec h
    obtain ⟨hal, h⟩ := h
    refine ⟨_, .still fun M0 σ w ρ hs hop => ?_, h⟩
    obtain ⟨_, p2, _⟩ := oplo hop
    rw [hx] at p2
    obtain ⟨a, n, c, e1, e2, e3, e4⟩ := rv_cut3 p2 (hh := hn.toNat) (m := m.toNat) (by omega) (by omega) (l_le g4) hal
    exact ⟨_, runS hud hei g0 (by omega) g2 g3 g4 hop e1, e4⟩
   ·exact h.elim
  ·rename_i e hk hx
   rw [hk] at hud
   split at h
   ·rename_i ei hei
    obtain ⟨rfl, rfl, h⟩ := h
    obtain ⟨l, h, g4⟩ := bound_spec h
    refine ⟨_, .still fun M0 σ w ρ hs hop => ?_, h⟩
    obtain ⟨_, p2, _⟩ := oplo hop
    rw [hx] at p2
    have l0 : l = 0 := by have := l_le g4; simpa using this
    subst l0
    have := runS (n := 0) (c := 0) hud hei (by omega) (by omega) (by omega) (by omega) g4 hop p2.nils_inv
    exact ⟨_, this, .nils _⟩
   ·exact h.elim
  ·rename_i e id hk hx
   rw [hk] at hud
   split at h
   ·rename_i ei rt rs es hei hH hlo
    obtain ⟨rfl, rfl, h⟩ := h
    have hlo' : lo = none := by cases lo with | none => rfl | some y => cases hlo
    refine ⟨_, .still fun M0 σ w ρ hs hop => ?_, h⟩
    obtain ⟨_, p2, _⟩ := oplo hop
    rw [hx] at p2
    have hσ := p2.own_inv
    have hob := hs.ok id _ _ hH hσ
    have fin : ∀ {a : Option Addr} {cap : Nat}, ρ x = .slice a es.length cap → es.length ≤ cap → (∀ ad, a = some ad → ∃ g, ad = ⟨g, 0, none⟩) → ∃ v, (execOp ρ o).run P w = .ok (.value v) w ∧ Rv (Kof M0 H σ w) σ (.vw id) v := fun {a cap} e1 e2 e3 => by
     have hr := runS (n := es.length) (c := cap) (a := a) (l := 0) hud hei (by omega) (by omega) (by omega) (by omega) (.inl ⟨hlo', rfl⟩) hop e1
     refine ⟨_, hr, ?_⟩
     have ha : (if ((es.length : Int)).toNat = 0 then a else a.map (·.add (0 * ei.size))) = a := by
      split
      ·rfl
      ·cases a with
       | none => rfl
       | some ad =>
        obtain ⟨g, rfl⟩ := e3 ad rfl
        rw [Option.map_some, Addr.add_lit, Nat.zero_mul]
     rw [ha, Int.toNat_natCast, Nat.sub_zero]
     exact .vw _ id es.length cap a (by rw [← e1]; exact hσ)
    obtain ⟨q0, ⟨e0, e1⟩ | ⟨g, cap, cur, e1, q1, q2, _⟩⟩ := hob
    ·subst e0
     exact fin (a := none) (cap := 0) e1 (Nat.le_refl _) (fun ad h => by cases h)
    ·exact fin (a := some ⟨g, 0, none⟩) (cap := cap) e1 q2 (fun ad h => by cases h; exact ⟨g, rfl⟩)
   ·exact h.elim
  ·exact h.elim
 ·exact h.elim
end
end Go.Ve
end

section
/- An abstract weakest precondition, eighth text: struct values; new objects; stores; lists that grow. -/
set_option linter.unusedSimpArgs false
set_option linter.unusedVariables false
namespace Go.Ve
section
variable {P : Program} {T : TT} {o : Oper} {ev : Operand → AV} {H : Hp} {K : KV}

theorem rv_cells [Dr] {K0 : Addr → Value → Prop} {σ : List Value} {x : AV} {v : Value} (h : Rv K0 σ x v) (hc : (cellsOf x).all isCell = true) :
  v.cells.size = (cellsOf x).length ∧ (∀ j y, (cellsOf x)[j]? = some y → Rv K0 σ y (v.cells.getD j undef)) ∧ ∀ u ∈ v.cells.toList, u.oneCell' = true := by
 cases x with
 | agg cs =>
  obtain ⟨vs, rfl, h1, h2, h3⟩ := h.agg_inv
  refine ⟨h1, h3, fun u hu => ?_⟩
  change u ∈ vs.toList at hu
  obtain ⟨j, hj⟩ := List.getElem?_of_mem hu
  have hlt : j < vs.size := by simpa using (List.getElem?_eq_some_iff.1 hj).1
  have hx : cs[j]? = some (cs[j]'(by omega)) := List.getElem?_eq_getElem (by omega)
  have := h3 j _ hx
  have hcell : isCell (cs[j]'(by omega)) = true := (List.all_eq_true.1 h2) _ (List.getElem_mem _)
  have e : vs.getD j undef = u := by simpa [hlt] using hj
  rw [e] at this
  exact this.oneCell hcell
 | tup cs => simp [cellsOf, isCell] at hc
 | undef => simp [cellsOf, isCell] at hc
 | _ =>
  have h1 := h.oneCell (by simpa [cellsOf] using hc)
  have e : v.cells = #[v] := by cases v <;> first | rfl | (simp [Value.oneCell'] at h1; done)
  refine ⟨by rw [e]; rfl, fun j y hy => ?_, fun u hu => ?_⟩
  ·cases j with
   | zero => simp [cellsOf] at hy; subst hy; rw [e]; exact h
   | succ j => simp [cellsOf] at hy
  ·rw [e] at hu; simp at hu; subst hu; exact h1

theorem fill_spec [Dr] {places : Nat → Option (Nat × Nat)} {placesV : Nat → Option (Nat × Nat)} (hp : ∀ j p, places j = some p → placesV j = some p) {K0 : Addr → Value → Prop} {σ : List Value} :
  ∀ (parts : List (Nat × AV)) (cells : List AV) (partsV : List (Nat × Value)) (cellsV : Array Value) (r : List AV), afill places cells parts = some r →
   partsV.length = parts.length → (∀ (j : Nat) (p : Nat × AV), parts[j]? = some p → ∃ q : Nat × Value, partsV[j]? = some q ∧ q.1 = p.1 ∧ Rv K0 σ p.2 q.2) → (∀ p ∈ parts, (cellsOf p.2).all isCell = true) →
   cellsV.size = cells.length → cells.all isCell = true → (∀ j x, cells[j]? = some x → Rv K0 σ x (cellsV.getD j undef)) →
   ∃ rV, Instr.fill placesV cellsV partsV = some rV ∧ rV.size = r.length ∧ r.all isCell = true ∧ ∀ j x, r[j]? = some x → Rv K0 σ x (rV.getD j undef)
 | [], cells, partsV, cellsV, r, h, hl, _, _, h1, h2, h3 => by
  have : partsV = [] := List.eq_nil_of_length_eq_zero hl
  subst this
  simp only [afill, Option.some.injEq] at h
  subst h
  exact ⟨cellsV, rfl, h1, h2, h3⟩
 | (i, v) :: rest, cells, partsV, cellsV, r, h, hl, hpt, hpc, h1, h2, h3 => by
  cases partsV with
  | nil => simp at hl
  | cons q restV =>
   obtain ⟨q', e1, e2, e3⟩ := hpt 0 _ rfl
   simp at e1
   subst e1
   obtain ⟨qi, qv⟩ := q
   simp at e2 e3
   subst e2
   simp only [afill] at h
   cases hpl : places qi with
   | none => simp [hpl] at h
   | some p =>
    obtain ⟨off, size⟩ := p
    simp only [hpl] at h
    cases hb : Nat.beq (cellsOf v).length size && Nat.ble (off + size) cells.length with
    | false => simp [hb] at h
    | true =>
     simp only [hb, cond_true] at h
     rw [Bool.and_eq_true] at hb
     have esz := Nat.eq_of_beq_eq_true hb.1
     have hle := Nat.le_of_ble_eq_true hb.2
     obtain ⟨c1, c2, c3⟩ := rv_cells e3 (hpc _ List.mem_cons_self)
     obtain ⟨f1, f2⟩ := Great.foldl_set off qv.cells.toList 0 cellsV
     have hcells' : (splice cells off (cellsOf v)).length = cells.length := by simp [splice]; omega
     obtain ⟨rV, g1, g2⟩ := fill_spec hp rest (splice cells off (cellsOf v)) restV (qv.cells.toList.zipIdx.foldl (fun cs (x : Value × Nat) => cs.setIfInBounds (off + x.2) x.1) cellsV) r h (by simpa using hl)
      (fun j p hj => by simpa using hpt (j + 1) p (by simpa using hj)) (fun p hp => hpc p (List.mem_cons_of_mem _ hp)) (by rw [f1, h1, hcells']) (by
       rw [List.all_eq_true] at *
       intro x hx
       unfold splice at hx
       rw [List.mem_append, List.mem_append] at hx
       rcases hx with (hx | hx) | hx
       ·exact h2 x (List.mem_of_mem_take hx)
       ·exact (List.all_eq_true.1 (hpc _ List.mem_cons_self)) x hx
       ·exact h2 x (List.mem_of_mem_drop hx)) (fun j x hx => by
       have hj : j < cells.length := by rw [← hcells']; exact (List.getElem?_eq_some_iff.1 hx).1
       rw [Array.getD_eq_getD_getElem?, f2 j]
       unfold splice at hx
       simp only [Nat.add_zero, Array.length_toList, c1]
       by_cases hin : off ≤ j ∧ j < off + (cellsOf v).length
       ·rw [if_pos ⟨hin.1, hin.2, by omega⟩]
        rw [List.getElem?_append_left (by simp; omega), List.getElem?_append_right (by simp; omega)] at hx
        have e : j - (cells.take off).length = j - off := by simp; omega
        rw [e] at hx
        have := c2 _ _ hx
        have e' : (qv.cells.toList[j - off]?).getD undef = qv.cells.getD (j - off) undef := by simp
        rw [e']; exact this
       ·rw [if_neg (by omega)]
        rw [← Array.getD_eq_getD_getElem?]
        refine h3 j x ?_
        by_cases hlo : j < off
        ·rw [List.getElem?_append_left (by simp; omega), List.getElem?_append_left (by simp; omega), List.getElem?_take, if_pos hlo] at hx
         exact hx
        ·rw [List.getElem?_append_right (by simp; omega), List.getElem?_drop] at hx
         have e : off + (cellsOf v).length + (j - (cells.take off ++ cellsOf v).length) = j := by simp; omega
         rw [e] at hx
         exact hx)
     refine ⟨rV, ?_, g2⟩
     unfold Instr.fill
     rw [hp _ _ hpl]
     simp only
     rw [if_neg (by rw [Bool.or_eq_true, not_or]; simp; rw [c1]; omega)]
     have ez : (qv.cells.zipIdx.foldl (fun cs (x : Value × Nat) => cs.setIfInBounds (off + x.2) x.1) cellsV) = (qv.cells.toList.zipIdx.foldl (fun cs (x : Value × Nat) => cs.setIfInBounds (off + x.2) x.1) cellsV) := by
      rw [← Array.foldl_toList]; simp
     rw [ez]
     exact g1

theorem mapM_get [Dr] {α β : Type} {f : α → Option β} : ∀ {l : List α} {r : List β}, l.mapM f = some r → ∀ (j : Nat) (a : α), l[j]? = some a → ∃ b, f a = some b ∧ r[j]? = some b
 | [], r, h, j, a, hj => by simp at hj
 | x :: xs, r, h, j, a, hj => by
  simp only [List.mapM_cons, Option.bind_eq_bind, Option.bind_eq_some_iff, Option.pure_def] at h
  obtain ⟨y, hy, ys, hys, e⟩ := h
  simp at e
  subst e
  cases j with
  | zero => simp at hj; subst hj; exact ⟨y, hy, rfl⟩
  | succ j => simpa using mapM_get hys j a (by simpa using hj)

theorem sem_build [Dr] (hT : TOk P T) {t : TypeId} {parts : Array (Nat × Operand)} (ho : o.op = .build t parts) (h : abuild T t (parts.toList.map fun p => (p.1, ev p.2)) H K) : ∃ r, (∀ H, OpSem P o ev H r H) ∧ K r H := by
 unfold abuild at h
 cases hti : T t with
 | none => simp [hti] at h
 | some i =>
  have ht := hT t i hti
  simp only [hti] at h
  cases hag : i.isAgg && ((parts.toList.map fun p => (p.1, ev p.2)).all fun p => (cellsOf p.2).all isCell) with
  | false => rw [hag] at h; exact h.elim
  | true =>
   rw [hag] at h
   simp only [cond_true] at h
   rw [Bool.and_eq_true] at hag
   split at h
   ·rename_i cs hcs
    refine ⟨_, fun H => .still fun M0 σ w ρ _ hop => ?_, h⟩
    obtain ⟨pi, z, q1, q2, q3, q4, q5⟩ := ht.get
    have hz : z.cells.size = i.zero.length := by rw [← Array.length_toList, q5]; simp
    have hzr : ∀ j x, i.zero[j]? = some x → Rv (Kof M0 H σ w) σ x (z.cells.getD j undef) := by
     intro j x hx
     have hs : simple1 x = true := (List.all_eq_true.1 ht.simple) x (List.mem_of_getElem? hx)
     have e : z.cells.toList[j]? = some (toV x) := by rw [q5]; simp [hx]
     have e' : z.cells.getD j undef = toV x := by
      have : z.cells[j]? = some (toV x) := by simpa using e
      simp [this]
     rw [e']; exact Rv.toV hs
    have hzc : i.zero.all isCell = true := by
     rw [List.all_eq_true]; exact fun x hx => cell_of_simple ((List.all_eq_true.1 ht.simple) x hx)
    have hpts : ∀ (j : Nat) (p : Nat × AV), (parts.toList.map fun p => (p.1, ev p.2))[j]? = some p → ∃ q : Nat × Value, ((parts.map fun (i, x) => (i, ρ x)).toList)[j]? = some q ∧ q.1 = p.1 ∧ Rv (Kof M0 H σ w) σ p.2 q.2 := by
     intro j p hj
     simp only [List.getElem?_map, Option.map_eq_some_iff] at hj
     obtain ⟨a, ha, rfl⟩ := hj
     have ha' : parts[j]? = some a := by simpa using ha
     refine ⟨(a.1, ρ a.2), by simp [ha'], rfl, hop a.2 ?_⟩
     simp only [ho, Op.operands]
     simp only [List.mem_toArray, List.mem_map]
     exact ⟨a, List.mem_of_getElem? ha, rfl⟩
    have key : ∀ (placesV : Nat → Option (Nat × Nat)), (∀ j p, placesOf T i j = some p → placesV j = some p) → ∃ rV, Instr.fill placesV z.cells (parts.map fun (i, x) => (i, ρ x)).toList = some rV ∧ rV.size = cs.length ∧ cs.all isCell = true ∧ ∀ j x, cs[j]? = some x → Rv (Kof M0 H σ w) σ x (rV.getD j undef) :=
     fun placesV hp => fill_spec hp _ _ _ _ _ hcs (by simp) hpts (fun p hp => (List.all_eq_true.1 hag.2) p hp) hz hzc hzr
    have hud := ht.und
    have done : ∀ (cells : Array Value), P.built t (parts.map fun (i, x) => (i, ρ x)).toList = some cells → cells.size = cs.length → cs.all isCell = true → (∀ j x, cs[j]? = some x → Rv (Kof M0 H σ w) σ x (cells.getD j undef)) → ∃ v, (execOp ρ o).run P w = .ok (.value v) w ∧ Rv (Kof M0 H σ w) σ (.agg cs) v := by
     intro cells hb k1 k2 k3
     exact ⟨.agg cells, by simp only [execOp, ho, Sem.run_bind, run_build w t _ cells hb, Result.andThen_ok, Sem.run_pure], .agg _ _ _ k1 k2 k3⟩
    unfold TI.isAgg at hag
    cases hk : i.k with
    | struct fs =>
     rw [hk] at hud
     obtain ⟨fields, hu, hfs, hpl⟩ := hud
     obtain ⟨places, hpl⟩ := Option.isSome_iff_exists.1 hpl
     obtain ⟨rV, g1, g2, g3, g4⟩ := key (places.toArray[·]?) (fun j p hj => by
      unfold placesOf at hj
      simp only [hk] at hj
      split at hj
      ·rename_i off ft hf
       rw [← hfs, List.getElem?_map] at hf
       simp only [Option.map_eq_some_iff, Prod.mk.injEq] at hf
       obtain ⟨fd, k1, k2, k3⟩ := hf
       obtain ⟨fi, hfi, e⟩ := Option.map_eq_some_iff.1 hj
       obtain ⟨b, m1, m2⟩ := mapM_get hpl j fd k1
       obtain ⟨pi', _, r1, r2, _⟩ := (hT ft fi hfi).get
       rw [k3, r1] at m1
       simp at m1
       simp only [List.getElem?_toArray, m2, ← m1, ← e, k2, r2]
      ·cases hj)
     exact done rV (by unfold Program.built; simp only [q1, hu, q4, hpl]; exact g1) g2 g3 g4
    | array n e =>
     rw [hk] at hud
     obtain ⟨hud, hie⟩ := hud
     obtain ⟨ie, hie⟩ := Option.isSome_iff_exists.1 hie
     obtain ⟨rV, g1, g2, g3, g4⟩ := key (fun i => some (i * ie.size, ie.size)) (fun j p hj => by
       unfold placesOf at hj
       simp only [hk] at hj
       obtain ⟨fi, hfi, e'⟩ := Option.map_eq_some_iff.1 hj
       obtain ⟨pi', _, r1, r2, _⟩ := (hT e fi hfi).get
       rw [hie] at r1
       simp at r1
       subst r1
       rw [← e', r2])
     exact done rV (by unfold Program.built; simp only [q1, hud, q4, hie]; exact g1) g2 g3 g4
    | _ => simp [hk] at hag
   ·exact h.elim
end
end Go.Ve
end

section
/- An abstract weakest precondition, ninth text: new objects, stores, lists that grow. -/
set_option linter.unusedSimpArgs false
set_option linter.unusedVariables false
namespace Go.Ve
section
variable {P : Program} {T : TT} {o : Oper} {ev : Operand → AV} {H : Hp} {K : KV}

theorem below_alloc [Dr] (w : World) (ob : Obj) : Below w.heap.size w (w.alloc ob) := (Below.refl _ w).alloc (Nat.le_refl _) ob
theorem heap_alloc [Dr] (w : World) (ob : Obj) : (w.alloc ob).heap[w.heap.size]? = some ob := by
 show (w.heap.push ob)[w.heap.size]? = _
 simp

theorem new_id [Dr] {α : Type} (l : List α) (x : α) : (l ++ [x])[l.length]? = some x := by simp

theorem zero_cells [Dr] {t : TypeId} {i : TI} (ht : TyOk P t i) {z : Value} (hz : z.cells.toList = i.zero.map toV) {K0 : Addr → Value → Prop} {σ : List Value} :
  z.cells.size = i.zero.length ∧ i.zero.all isCell = true ∧ i.zero.all closed1 = true ∧ ∀ j x, i.zero[j]? = some x → Rv K0 σ x (z.cells.getD j undef) := by
 refine ⟨by rw [← Array.length_toList, hz]; simp, ?_, ?_, fun j x hx => ?_⟩
 ·rw [List.all_eq_true]; exact fun x hx => cell_of_simple ((List.all_eq_true.1 ht.simple) x hx)
 ·rw [List.all_eq_true]; exact fun x hx => closed_of_simple ((List.all_eq_true.1 ht.simple) x hx)
 ·have hs : simple1 x = true := (List.all_eq_true.1 ht.simple) x (List.mem_of_getElem? hx)
  have e : z.cells.toList[j]? = some (toV x) := by rw [hz]; simp [hx]
  have e' : z.cells.getD j undef = toV x := by
   have : z.cells[j]? = some (toV x) := by simpa using e
   simp [this]
  rw [e']; exact Rv.toV hs

theorem sem_alloc [Dr] (hT : TOk P T) {e : TypeId} (ho : o.op = .alloc e) {nk : Bool} (h : aop T nk o.op ev H K) : ∃ r H', OpSem P o ev H r H' ∧ K r H' := by
 rw [ho] at h
 simp only [aop, forceN_eq] at h
 split at h
 ·rename_i i hei
  have ht := hT e i hei
  refine ⟨_, _, fun M0 σ w ρ hs hop => ?_, h⟩
  obtain ⟨z, hz1, hz2⟩ := ht.zeroValue
  obtain ⟨c1, c2, _, c3⟩ := zero_cells ht hz2 (K0 := Kof M0 (H ++ [.box e i.zero]) (σ ++ [.pointer (some ⟨w.heap.size, 0, none⟩)]) (w.alloc (.cells z.cells e))) (σ := σ ++ [.pointer (some ⟨w.heap.size, 0, none⟩)])
  obtain ⟨s1, s2⟩ := hs.push (below_alloc w (.cells z.cells e)) (o := .box e i.zero) (v := .pointer (some ⟨w.heap.size, 0, none⟩)) (fun b hb => by simp [blkOf] at hb; omega)
   (fun _ => ⟨c2, w.heap.size, z.cells, rfl, heap_alloc w _, c1, c3⟩)
  exact ⟨_, _, _, .inl (by simp [execOp, ho, Instr.alloc, hz1, newVar, newRow]; rfl), s1, s2, .ptr _ _ _ _ (by rw [← hs.len]; exact new_id _ _)⟩
 ·exact h.elim

theorem sem_box [Dr] (hT : TOk P T) {e : TypeId} {x : Operand} (ho : o.op = .box e x) {nk : Bool} (h : aop T nk o.op ev H K) : ∃ r H', OpSem P o ev H r H' ∧ K r H' := by
 rw [ho] at h
 simp only [aop, forceN_eq] at h
 split at h
 ·rename_i i hei
  cases hb : Nat.beq (cellsOf (ev x)).length i.size && (cellsOf (ev x)).all isCell with
  | false => rw [hb] at h; exact h.elim
  | true =>
   rw [hb] at h
   simp only [cond_true] at h
   rw [Bool.and_eq_true] at hb
   refine ⟨_, _, fun M0 σ w ρ hs hop => ?_, h⟩
   have h1 := hop x (by simp [ho, Op.operands])
   obtain ⟨c1, c2, c3⟩ := rv_cells h1 hb.2
   obtain ⟨s1, s2⟩ := hs.push (below_alloc w (.cells (ρ x).cells e)) (o := .box e (cellsOf (ev x))) (v := .pointer (some ⟨w.heap.size, 0, none⟩)) (fun b hb => by simp [blkOf] at hb; omega)
    (fun hx => ⟨hb.2, w.heap.size, (ρ x).cells, rfl, heap_alloc w _, c1, fun j y hy => hx.rv (c2 j y hy)⟩)
   exact ⟨_, _, _, .inl (by simp [execOp, ho, Instr.box, newVar, newRow]; rfl), s1, s2, .ptr _ _ _ _ (by rw [← hs.len]; exact new_id _ _)⟩
 ·exact h.elim

theorem splice_get [Dr] {cs ds : List AV} {off j : Nat} (hle : off + ds.length ≤ cs.length) : (splice cs off ds)[j]? = if off ≤ j ∧ j < off + ds.length then ds[j - off]? else cs[j]? := by
 unfold splice
 by_cases h1 : j < off
 ·rw [if_neg (by omega), List.getElem?_append_left (by simp; omega), List.getElem?_append_left (by simp; omega), List.getElem?_take, if_pos h1]
 ·by_cases h2 : j < off + ds.length
  ·rw [if_pos ⟨by omega, h2⟩, List.getElem?_append_left (by simp; omega), List.getElem?_append_right (by simp; omega)]
   congr 1; simp; omega
  ·rw [if_neg (by omega), List.getElem?_append_right (by simp; omega), List.getElem?_drop]
   congr 1; simp; omega
theorem splice_len [Dr] {cs ds : List AV} {off : Nat} (hle : off + ds.length ≤ cs.length) : (splice cs off ds).length = cs.length := by simp [splice]; omega
theorem spliceV_get [Dr] (vs us : List Value) {off j : Nat} (hle : off + us.length ≤ vs.length) : ((vs.take off ++ us ++ vs.drop (off + us.length)).toArray).getD j undef = if off ≤ j ∧ j < off + us.length then us.getD (j - off) undef else vs.getD j undef := by
 rw [Array.getD_eq_getD_getElem?, List.getElem?_toArray, List.getD_eq_getElem?_getD, List.getD_eq_getElem?_getD]
 by_cases h1 : j < off
 ·rw [if_neg (by omega), List.getElem?_append_left (by simp; omega), List.getElem?_append_left (by simp; omega), List.getElem?_take, if_pos h1]
 ·by_cases h2 : j < off + us.length
  ·rw [if_pos ⟨by omega, h2⟩, List.getElem?_append_left (by simp; omega), List.getElem?_append_right (by simp; omega)]
   congr 2; simp; omega
  ·rw [if_neg (by omega), List.getElem?_append_right (by simp; omega), List.getElem?_drop]
   congr 2; simp; omega

theorem all_splice [Dr] {cs ds : List AV} {off : Nat} {p : AV → Bool} (h1 : cs.all p = true) (h2 : ds.all p = true) : (splice cs off ds).all p = true := by
 rw [List.all_eq_true] at *
 intro x hx
 unfold splice at hx
 rw [List.mem_append, List.mem_append] at hx
 rcases hx with (hx | hx) | hx
 ·exact h1 x (List.mem_of_mem_take hx)
 ·exact h2 x hx
 ·exact h1 x (List.mem_of_mem_drop hx)

theorem sem_store [Dr] (hT : TOk P T) {t : TypeId} {a x : Operand} (ho : o.op = .store t a x) (h : astore T t (ev a) (ev x) H K) : ∃ r H', OpSem P o ev H r H' ∧ K r H' := by
 unfold astore at h
 cases hti : T t with
 | none => simp [hti] at h
 | some i =>
  have ht := hT t i hti
  simp only [hti] at h
  cases hb : Nat.beq (cellsOf (ev x)).length i.size && (cellsOf (ev x)).all isCell with
  | false => rw [hb] at h; exact h.elim
  | true =>
   rw [hb] at h
   simp only [cond_true] at h
   rw [Bool.and_eq_true] at hb
   have esz := Nat.eq_of_beq_eq_true hb.1
   have runSt : ∀ (w : World) (ρ : Operand → Value) (g off : Nat) (cur : Array Value) (ty : TypeId), w.heap[g]? = some (.cells cur ty (0, 0)) → ρ a = .pointer (some ⟨g, off, none⟩) → (ρ x).cells.size = i.size → (∀ u ∈ (ρ x).cells.toList, u.oneCell' = true) → off + i.size ≤ cur.size →
     (execOp ρ o).run P w = .ok .skip (w.setRow g (cur.toList.take off ++ (ρ x).cells.toList ++ cur.toList.drop (off + (ρ x).cells.toList.length)).toArray) := by
    intro w ρ g off cur ty hg ha hc1 hc2 hle
    have := run_storeCells_at (P := P) g off ty (ρ x).cells.toList 0 cur w hg (by simp; omega) hc2
    simp only [Nat.add_zero] at this
    simp [execOp, ho, ha, Instr.storeAt, Instr.sureAddr, storeVar, ht.sizeOf, hc1, this]
   split at h
   ·rename_i id off hea
    split at h
    ·rename_i bt cs hH
     cases hle : Nat.ble (off + (cellsOf (ev x)).length) cs.length with
     | false => rw [hle] at h; exact h.elim
     | true =>
      rw [hle] at h
      simp only [cond_true] at h
      have hle' := Nat.le_of_ble_eq_true hle
      refine ⟨_, _, fun M0 σ w ρ hs hop => ?_, h⟩
      have h1 := hop a (by simp [ho, Op.operands]); rw [hea] at h1
      have h2 := hop x (by simp [ho, Op.operands])
      obtain ⟨b, e1, hσ⟩ := h1.ptr_inv
      obtain ⟨q0, b', vs, e2, q1, q2, q3⟩ := hs.ok id _ _ hH hσ
      cases e2
      obtain ⟨c1, c2, c3⟩ := rv_cells h2 hb.2
      have hr := runSt w ρ b off vs bt q1 e1 (by rw [c1]; exact esz) c3 (by omega)
      have hl : (ρ x).cells.toList.length = (cellsOf (ev x)).length := by simpa using c1
      obtain ⟨nw, hnw⟩ : ∃ nw, nw = (vs.toList.take off ++ (ρ x).cells.toList ++ vs.toList.drop (off + (ρ x).cells.toList.length)).toArray := ⟨_, rfl⟩
      rw [← hnw] at hr
      obtain ⟨s1, s2⟩ := hs.write (w' := w.setRow b nw) hH hσ rfl (b := b) rfl (setRow_os w b _) ⟨setRow_tape w b _, fun _ => Nat.le_of_eq (setRow_drawn w b _).symm⟩ (setRow_output w b _) (by simp) (fun c hc => setRow_other w b c _ hc)
       (o' := .box bt (splice cs off (cellsOf (ev x)))) (fun hx => ⟨all_splice q0 hb.2, b, nw, rfl, setRow_heap w b vs _ bt _ q1, by rw [hnw]; simp [splice_len hle', hl]; omega, fun j y hy => by
        rw [splice_get hle'] at hy
        have eV := spliceV_get vs.toList (ρ x).cells.toList (off := off) (j := j) (by rw [hl]; simp; omega)
        rw [← hnw, hl] at eV
        rw [eV]
        by_cases hin : off ≤ j ∧ j < off + (cellsOf (ev x)).length
        ·rw [if_pos hin] at hy ⊢
         have := hx.rv (c2 _ _ hy)
         simpa using this
        ·rw [if_neg hin] at hy ⊢
         have := hx.rv (q3 _ _ hy)
         simpa using this⟩)
      exact ⟨_, _, _, .inr ⟨hr, rfl⟩, s1, s2, .undef _ _⟩
    ·exact h.elim
   ·rename_i id ix sz off hea
    split at h
    ·rename_i rt rs es hH
     cases hle : Nat.beq sz rs && Nat.ble (off + (cellsOf (ev x)).length) rs && (cellsOf (ev x)).all closed1 with
     | false => rw [hle] at h; exact h.elim
     | true =>
      rw [hle] at h
      simp only [cond_true] at h
      rw [Bool.and_eq_true, Bool.and_eq_true] at hle
      have erz := Nat.eq_of_beq_eq_true hle.1.1
      have hle' := Nat.le_of_ble_eq_true hle.1.2
      subst erz
      obtain ⟨c, hc, h⟩ := h
      refine ⟨_, _, fun M0 σ w ρ hs hop => ?_, h⟩
      have h1 := hop a (by simp [ho, Op.operands]); rw [hea] at h1
      have h2 := hop x (by simp [ho, Op.operands])
      obtain ⟨g, n, cap, e1, hσ⟩ := h1.eptr_inv
      obtain ⟨q0, ⟨_, e2⟩ | ⟨g', cap', cur, e2, q1, q2, q3, q4, q5⟩⟩ := hs.ok id _ _ hH hσ
      ·cases e2
      cases e2
      obtain ⟨c1, c2, c3⟩ := rv_cells h2 hb.2
      have hix : ix < es.length := (List.getElem?_eq_some_iff.1 hc).1
      have hcl := (q5 ix c hc).1
      have htop : ix * sz + sz ≤ cur.size := by
       have : (ix + 1) * sz ≤ cap * sz := Nat.mul_le_mul_right _ (by omega)
       rw [Nat.add_mul] at this
       omega
      have hr := runSt w ρ g (ix * sz + off) cur rt q1 e1 (by rw [c1]; exact esz) c3 (by omega)
      have hl : (ρ x).cells.toList.length = (cellsOf (ev x)).length := by simpa using c1
      obtain ⟨nw, hnw⟩ : ∃ nw, nw = (cur.toList.take (ix * sz + off) ++ (ρ x).cells.toList ++ cur.toList.drop (ix * sz + off + (ρ x).cells.toList.length)).toArray := ⟨_, rfl⟩
      rw [← hnw] at hr
      obtain ⟨s1, s2⟩ := hs.write (w' := w.setRow g nw) hH hσ rfl (b := g) rfl (setRow_os w g _) ⟨setRow_tape w g _, fun _ => Nat.le_of_eq (setRow_drawn w g _).symm⟩ (setRow_output w g _) (by simp) (fun c hc => setRow_other w g c _ hc)
       (o' := .row rt sz (es.set ix (splice c off (cellsOf (ev x))))) (fun hx => ⟨q0, .inr ⟨g, cap, nw, by simp, setRow_heap w g cur _ rt _ q1, by simpa using q2, q3, by rw [hnw]; simp [hl]; omega, fun i' c' hc' => by
        rcases set_cases hc' with ⟨rfl, rfl⟩ | ⟨hne, k⟩
        ·refine ⟨by rw [splice_len (by omega)]; exact hcl, all_splice (q5 i' c hc).2.1 hb.2, fun j y hy => ?_⟩
         have hj : j < sz := by
          have := (List.getElem?_eq_some_iff.1 hy).1
          rw [splice_len (by omega)] at this
          omega
         rw [splice_get (by omega)] at hy
         have eV := spliceV_get cur.toList (ρ x).cells.toList (off := i' * sz + off) (j := i' * sz + j) (by rw [hl]; simp; omega)
         rw [← hnw, hl] at eV
         rw [eV]
         by_cases hin : off ≤ j ∧ j < off + (cellsOf (ev x)).length
         ·rw [if_pos hin] at hy
          rw [if_pos (by omega)]
          have e : i' * sz + j - (i' * sz + off) = j - off := by omega
          rw [e]
          have := (hx.rv (c2 _ _ hy)).closed (σ' := []) ((List.all_eq_true.1 hle.2) y (List.mem_of_getElem? hy))
          simpa using this
         ·rw [if_neg hin] at hy
          rw [if_neg (by omega)]
          have := hx.rv0 ((q5 i' c hc).2.2 _ _ hy)
          simpa using this
        ·refine ⟨(q5 i' c' k).1, (q5 i' c' k).2.1, fun j y hy => ?_⟩
         have hj : j < sz := by rw [← (q5 i' c' k).1]; exact (List.getElem?_eq_some_iff.1 hy).1
         have eV := spliceV_get cur.toList (ρ x).cells.toList (off := ix * sz + off) (j := i' * sz + j) (by rw [hl]; simp; omega)
         rw [← hnw, hl] at eV
         rw [eV]
         have hout : ¬ (ix * sz + off ≤ i' * sz + j ∧ i' * sz + j < ix * sz + off + (cellsOf (ev x)).length) := by
          intro ⟨m1, m2⟩
          rcases Nat.lt_or_gt_of_ne hne with hlt | hgt
          ·have := row_pos hlt hj; omega
          ·have : (ix + 1) * sz ≤ i' * sz := Nat.mul_le_mul_right _ hgt
           rw [Nat.add_mul] at this
           omega
         rw [if_neg hout]
         have := hx.rv0 ((q5 i' c' k).2.2 _ _ hy)
         simpa using this⟩⟩)
      exact ⟨_, _, _, .inr ⟨hr, rfl⟩, s1, s2, .undef _ _⟩
    ·exact h.elim
   ·exact h.elim
end
end Go.Ve
end

section
/- An abstract weakest precondition, tenth text: list literals, make, append. -/
set_option linter.unusedSimpArgs false
set_option linter.unusedVariables false
namespace Go.Ve
section
variable {P : Program} {T : TT} {o : Oper} {ev : Operand → AV} {H : Hp} {K : KV}

theorem push_row [Dr] {M0 : Nat → Prop} {σ : List Value} {w w' : World} (hs : St M0 H σ w) (hB : Below w.heap.size w w') {t sz cap : Nat} {es : List (List AV)} {cur : Array Value} (h0 : 0 < sz)
  (hg : w'.heap[w.heap.size]? = some (.cells cur t (0, 0))) (h1 : es.length ≤ cap) (h2 : cap ≤ 9223372036854775807) (h3 : cur.size = cap * sz)
  (h4 : ∀ i c, es[i]? = some c → c.length = sz ∧ c.all isCell = true ∧ ∀ j x, c[j]? = some x → Rv (Kof M0 H σ w) [] x (cur.getD (i * sz + j) undef)) :
  St M0 (H ++ [.row t sz es]) (σ ++ [.slice (some ⟨w.heap.size, 0, none⟩) es.length cap]) w' ∧ Ext H σ w (H ++ [.row t sz es]) (σ ++ [.slice (some ⟨w.heap.size, 0, none⟩) es.length cap]) w' :=
 hs.push hB (fun b hb => by simp [blkOf] at hb; omega) (fun hx => ⟨h0, .inr ⟨w.heap.size, cap, cur, rfl, hg, h1, h2, h3, fun i c hc => ⟨(h4 i c hc).1, (h4 i c hc).2.1, fun j x hx' => hx.rv0 ((h4 i c hc).2.2 j x hx')⟩⟩⟩)

theorem aelems_spec [Dr] {size : Nat} : ∀ {l : List (Nat × AV)} {k : Nat} {es : List (List AV)}, aelems size k l = some es →
  es.length = l.length ∧ ∀ j, j < l.length → ∃ v, l[j]? = some (k + j, v) ∧ es[j]? = some (cellsOf v) ∧ (cellsOf v).length = size ∧ (cellsOf v).all closed1 = true
 | [], k, es, h => by simp [aelems] at h; subst h; exact ⟨rfl, fun j hj => by simp at hj⟩
 | (i, v) :: rest, k, es, h => by
  simp only [aelems] at h
  cases hb : Nat.beq i k && Nat.beq (cellsOf v).length size && (cellsOf v).all closed1 with
  | false => simp [hb] at h
  | true =>
   simp only [hb, cond_true] at h
   rw [Bool.and_eq_true, Bool.and_eq_true] at hb
   have ei := Nat.eq_of_beq_eq_true hb.1.1
   have es' := Nat.eq_of_beq_eq_true hb.1.2
   obtain ⟨r, hr, rfl⟩ := Option.map_eq_some_iff.1 h
   obtain ⟨g1, g2⟩ := aelems_spec hr
   refine ⟨by simp [g1], fun j hj => ?_⟩
   cases j with
   | zero => exact ⟨v, by simp [ei], rfl, es', hb.2⟩
   | succ j =>
    obtain ⟨u, m1, m2⟩ := g2 j (by simpa using hj)
    exact ⟨u, by simp [m1]; omega, by simpa using m2⟩

theorem sem_buildSlice [Dr] (hT : TOk P T) {t : TypeId} {len : Nat} {parts : Array (Nat × Operand)} (ho : o.op = .buildSlice t len parts) (h : abuildSlice T t len (parts.toList.map fun p => (p.1, ev p.2)) H K) : ∃ r H', OpSem P o ev H r H' ∧ K r H' := by
 unfold abuildSlice at h
 cases hti : T t with
 | none => simp [hti] at h
 | some i =>
  have ht := hT t i hti
  simp only [hti] at h
  split at h
  ·rename_i e hk
   have hud := ht.und
   rw [hk] at hud
   split at h
   ·rename_i ei hei
    have hte := hT e ei hei
    cases hb : Nat.blt 0 ei.size && Nat.ble (len * ei.size) 65536 && Nat.beq (parts.toList.map fun p => (p.1, ev p.2)).length len with
    | false => rw [hb] at h; exact h.elim
    | true =>
     rw [hb] at h
     simp only [cond_true] at h
     rw [Bool.and_eq_true, Bool.and_eq_true] at hb
     have hpos : 0 < ei.size := cast Nat.blt_eq hb.1.1
     have hsmall := Nat.le_of_ble_eq_true hb.1.2
     have hlen := Nat.eq_of_beq_eq_true hb.2
     split at h
     ·rename_i es hes
      obtain ⟨g1, g2⟩ := aelems_spec hes
      rw [forceLL_eq, forceN_eq] at h
      refine ⟨_, _, fun M0 σ w ρ hs hop => ?_, h⟩
      have hesl : es.length = len := by rw [g1, hlen]
      obtain ⟨pi, z, q1, q2, q3, q4, q5⟩ := hte.get
      -- the parts as values
      have hops : ∀ j (hj : j < len), ∃ (y : Operand), parts[j]? = some (j, y) ∧ es[j]? = some (cellsOf (ev y)) ∧ (cellsOf (ev y)).length = ei.size ∧ (cellsOf (ev y)).all closed1 = true ∧ Rv (Kof M0 H σ w) σ (ev y) (ρ y) := by
       intro j hj
       obtain ⟨v, m1, m2, m3, m4⟩ := g2 j (by omega)
       simp only [List.getElem?_map, Option.map_eq_some_iff, Prod.mk.injEq] at m1
       obtain ⟨a, ha, e1, e2⟩ := m1
       have ha' : parts[j]? = some a := by simpa using ha
       obtain ⟨a1, a2⟩ := a
       simp at e1 e2
       subst e2
       subst e1
       refine ⟨a2, ha', m2, m3, m4, hop a2 ?_⟩
       simp only [ho, Op.operands, List.mem_toArray, List.mem_map]
       exact ⟨_, List.mem_of_getElem? ha, rfl⟩
      have hplen : parts.size = len := by rw [← hlen]; simp
      have hvs : ((parts.map fun (i, x) => (i, ρ x)).toList) = ((parts.toList.map fun p => ρ p.2).zipIdx 0).map fun x => (x.2, x.1) := by
       apply List.ext_getElem?
       intro j
       by_cases hj : j < len
       ·obtain ⟨y, m1, _⟩ := hops j hj
        simp [m1, List.getElem?_zipIdx]
       ·have hn : parts[j]? = none := Array.getElem?_eq_none (by omega)
        simp [hn, List.getElem?_zipIdx]
      have hcell : ∀ v ∈ parts.toList.map (fun p => ρ p.2), v.cells.size = ei.size := by
       intro v hv
       obtain ⟨j, hj⟩ := List.getElem?_of_mem hv
       have hjl : j < len := by have := (List.getElem?_eq_some_iff.1 hj).1; simpa [hplen] using this
       obtain ⟨y, m1, m2, m3, m4, m5⟩ := hops j hjl
       have : v = ρ y := by simpa [m1] using hj.symm
       rw [this, (rv_cells m5 (cells_of_closed m4)).1, m3]
      by_cases hl0 : len = 0
      ·have he : es = [] := List.eq_nil_of_length_eq_zero (by omega)
       have hp : parts = #[] := by rw [← Array.size_eq_zero_iff]; omega
       subst he
       subst hl0
       have hr : (Instr.buildSlice t 0 (parts.map fun (i, x) => (i, ρ x))).run P w = .ok (.slice (some ⟨w.heap.size, 0, none⟩) 0 0) (w.alloc (.cells #[] e)) := by
        rw [hp]
        simp [Instr.buildSlice, run_underlying (show P.underlying t = some (.slice e) from hud), sizeOf, typeInfo, q1, Instr.fill, newRow, Array.range_zero']
       obtain ⟨s1, s2⟩ := push_row hs (below_alloc w (.cells #[] e)) (es := []) (cap := 0) hpos (heap_alloc w _) (Nat.le_refl _) (by omega) (by simp) (fun i c hc => by simp at hc)
       exact ⟨_, _, _, .inl (by simp only [execOp, ho, Sem.run_bind, hr, Result.andThen_ok, Sem.run_pure]; rfl), s1, s2, .own _ _ _ (by rw [← hs.len]; exact new_id _ _) rfl⟩
      ·have hsize : ((Array.range (len * pi.size)).map (z.cells[· % z.cells.size]!)).size = len * pi.size := by simp
       obtain ⟨r, f1, f2, f3⟩ := Great.fill_dense (s := ei.size) hpos (parts.toList.map fun p => ρ p.2) 0 ((Array.range (len * pi.size)).map (z.cells[· % z.cells.size]!)) hcell (by rw [hsize, q2]; simp [hplen])
       have hr := run_buildSlice (P := P) w t e len (parts.map fun (i, x) => (i, ρ x)) r pi z hud q1 q4 (by rw [q2]; omega) (by rw [q2]; exact Nat.ne_of_gt (Nat.mul_pos (by omega) hpos)) (by rw [hvs, q2, ← f1, q2])
       obtain ⟨s1, s2⟩ := push_row hs (below_alloc w (.cells r e)) (es := es) (cap := len) (cur := r) hpos (heap_alloc w _) (by omega) (by have : len ≤ len * ei.size := Nat.le_mul_of_pos_right _ hpos; omega) (by rw [f2, hsize, q2]) (fun i c hc => by
        have hi : i < len := by rw [← hesl]; exact (List.getElem?_eq_some_iff.1 hc).1
        obtain ⟨y, m1, m2, m3, m4, m5⟩ := hops i hi
        rw [m2] at hc
        simp at hc
        subst hc
        refine ⟨m3, cells_of_closed m4, fun j x hx => ?_⟩
        have hj : j < ei.size := by rw [← m3]; exact (List.getElem?_eq_some_iff.1 hx).1
        have hrv := ((rv_cells m5 (cells_of_closed m4)).2.1 j x hx).closed (σ' := []) ((List.all_eq_true.1 m4) x (List.mem_of_getElem? hx))
        have hin := row_pos hi hj
        have hdiv : (i * ei.size + j) / ei.size = i := by
         rw [Nat.mul_comm, Nat.mul_add_div hpos, Nat.div_eq_of_lt hj]; omega
        have hmod : (i * ei.size + j) % ei.size = j := by
         rw [Nat.mul_comm, Nat.mul_add_mod, Nat.mod_eq_of_lt hj]
        have hk := f3 (i * ei.size + j)
        rw [if_pos ⟨by omega, by simp [hplen]; omega⟩, hdiv, hmod] at hk
        have hvi : (parts.toList.map fun p => ρ p.2)[i - 0]? = some (ρ y) := by simp [m1]
        rw [hvi] at hk
        simp only [Option.bind_some] at hk
        have hjc : j < (ρ y).cells.size := by rw [(rv_cells m5 (cells_of_closed m4)).1]; omega
        have e1 : r.getD (i * ei.size + j) undef = (ρ y).cells.getD j undef := by
         rw [Array.getD_eq_getD_getElem?, Array.getD_eq_getD_getElem?, hk]
        rw [e1]; exact hrv)
       rw [hesl] at s1 s2
       exact ⟨_, _, _, .inl (by simp only [execOp, ho, Sem.run_bind, hr, Result.andThen_ok, Sem.run_pure]; rfl), s1, s2, .own _ _ _ (by rw [← hs.len]; exact new_id _ _) rfl⟩
     ·exact h.elim
   ·exact h.elim
  ·exact h.elim

theorem sem_buildC [Dr] (hT : TOk P T) {t : TypeId} {len : Nat} {parts : Array (Nat × Operand)} (ho : o.op = .buildSlice t len parts) (h : abuildC T t len (parts.toList.map fun p => (p.1, ev p.2)) H K) : ∃ r, (∀ H, OpSem P o ev H r H) ∧ K r H := by
 unfold abuildC at h
 cases hti : T t with
 | none => simp [hti] at h
 | some i =>
  have ht := hT t i hti
  simp only [hti] at h
  split at h
  ·rename_i e hk
   have hud := ht.und
   rw [hk] at hud
   split at h
   ·rename_i ei hei
    have hte := hT e ei hei
    cases hb : Nat.blt 0 ei.size && Nat.ble (len * ei.size) 65536 && Nat.beq (parts.toList.map fun p => (p.1, ev p.2)).length len with
    | false => rw [hb] at h; exact h.elim
    | true =>
     rw [hb] at h
     simp only [cond_true] at h
     rw [Bool.and_eq_true, Bool.and_eq_true] at hb
     have hpos : 0 < ei.size := cast Nat.blt_eq hb.1.1
     have hsmall := Nat.le_of_ble_eq_true hb.1.2
     have hlen := Nat.eq_of_beq_eq_true hb.2
     split at h
     ·rename_i es hes
      obtain ⟨g1, g2⟩ := aelems_spec hes
      rw [forceLL_eq] at h
      refine ⟨_, fun H M0 σ w ρ hs hop => ?_, h⟩
      have hesl : es.length = len := by rw [g1, hlen]
      obtain ⟨pi, z, q1, q2, q3, q4, q5⟩ := hte.get
      -- the parts as values
      have hops : ∀ j (hj : j < len), ∃ (y : Operand), parts[j]? = some (j, y) ∧ es[j]? = some (cellsOf (ev y)) ∧ (cellsOf (ev y)).length = ei.size ∧ (cellsOf (ev y)).all closed1 = true ∧ Rv (Kof M0 H σ w) σ (ev y) (ρ y) := by
       intro j hj
       obtain ⟨v, m1, m2, m3, m4⟩ := g2 j (by omega)
       simp only [List.getElem?_map, Option.map_eq_some_iff, Prod.mk.injEq] at m1
       obtain ⟨a, ha, e1, e2⟩ := m1
       have ha' : parts[j]? = some a := by simpa using ha
       obtain ⟨a1, a2⟩ := a
       simp at e1 e2
       subst e2
       subst e1
       refine ⟨a2, ha', m2, m3, m4, hop a2 ?_⟩
       simp only [ho, Op.operands, List.mem_toArray, List.mem_map]
       exact ⟨_, List.mem_of_getElem? ha, rfl⟩
      have hplen : parts.size = len := by rw [← hlen]; simp
      have hvs : ((parts.map fun (i, x) => (i, ρ x)).toList) = ((parts.toList.map fun p => ρ p.2).zipIdx 0).map fun x => (x.2, x.1) := by
       apply List.ext_getElem?
       intro j
       by_cases hj : j < len
       ·obtain ⟨y, m1, _⟩ := hops j hj
        simp [m1, List.getElem?_zipIdx]
       ·have hn : parts[j]? = none := Array.getElem?_eq_none (by omega)
        simp [hn, List.getElem?_zipIdx]
      have hcell : ∀ v ∈ parts.toList.map (fun p => ρ p.2), v.cells.size = ei.size := by
       intro v hv
       obtain ⟨j, hj⟩ := List.getElem?_of_mem hv
       have hjl : j < len := by have := (List.getElem?_eq_some_iff.1 hj).1; simpa [hplen] using this
       obtain ⟨y, m1, m2, m3, m4, m5⟩ := hops j hjl
       have : v = ρ y := by simpa [m1] using hj.symm
       rw [this, (rv_cells m5 (cells_of_closed m4)).1, m3]
      by_cases hl0 : len = 0
      ·have he : es = [] := List.eq_nil_of_length_eq_zero (by omega)
       have hp : parts = #[] := by rw [← Array.size_eq_zero_iff]; omega
       subst he
       subst hl0
       have hr : (Instr.buildSlice t 0 (parts.map fun (i, x) => (i, ρ x))).run P w = .ok (.slice (some ⟨w.heap.size, 0, none⟩) 0 0) (w.alloc (.cells #[] e)) := by
        rw [hp]
        simp [Instr.buildSlice, run_underlying (show P.underlying t = some (.slice e) from hud), sizeOf, typeInfo, q1, Instr.fill, newRow, Array.range_zero']
       exact ⟨_, σ, _, .inl (by simp only [execOp, ho, Sem.run_bind, hr, Result.andThen_ok, Sem.run_pure]; rfl), hs.below (below_alloc w (.cells #[] e)), Ext.of_below (below_alloc w (.cells #[] e)),
        Rv.sl (K := Kof M0 H σ (w.alloc (.cells #[] e))) σ [] ⟨w.heap.size, 0, none⟩ 0 ei.size (fun _ _ => undef) (Nat.le_refl _) (by omega) (fun c hc => by cases hc) (fun i j c x hc => by simp at hc) (fun i j hi => by simp at hi)⟩
      ·have hsize : ((Array.range (len * pi.size)).map (z.cells[· % z.cells.size]!)).size = len * pi.size := by simp
       obtain ⟨r, f1, f2, f3⟩ := Great.fill_dense (s := ei.size) hpos (parts.toList.map fun p => ρ p.2) 0 ((Array.range (len * pi.size)).map (z.cells[· % z.cells.size]!)) hcell (by rw [hsize, q2]; simp [hplen])
       have hr := run_buildSlice (P := P) w t e len (parts.map fun (i, x) => (i, ρ x)) r pi z hud q1 q4 (by rw [q2]; omega) (by rw [q2]; exact Nat.ne_of_gt (Nat.mul_pos (by omega) hpos)) (by rw [hvs, q2, ← f1, q2])
       have hbl := below_alloc w (.cells r e)
       have hcel : ∀ (i j : Nat) (c : List AV) (x : AV), es[i]? = some c → c[j]? = some x → i < len ∧ j < ei.size ∧ c.length = ei.size ∧ c.all isCell = true ∧ Rv (Kof M0 H σ w) [] x (r.getD (i * ei.size + j) undef) := fun i j c x hc hx => by
        have hi : i < len := by rw [← hesl]; exact (List.getElem?_eq_some_iff.1 hc).1
        obtain ⟨y, m1, m2, m3, m4, m5⟩ := hops i hi
        rw [m2] at hc
        simp at hc
        subst hc
        have hj : j < ei.size := by rw [← m3]; exact (List.getElem?_eq_some_iff.1 hx).1
        have hrv := ((rv_cells m5 (cells_of_closed m4)).2.1 j x hx).closed (σ' := []) ((List.all_eq_true.1 m4) x (List.mem_of_getElem? hx))
        have hin := row_pos hi hj
        have hdiv : (i * ei.size + j) / ei.size = i := by
         rw [Nat.mul_comm, Nat.mul_add_div hpos, Nat.div_eq_of_lt hj]; omega
        have hmod : (i * ei.size + j) % ei.size = j := by
         rw [Nat.mul_comm, Nat.mul_add_mod, Nat.mod_eq_of_lt hj]
        have hk := f3 (i * ei.size + j)
        rw [if_pos ⟨by omega, by simp [hplen]; omega⟩, hdiv, hmod] at hk
        have hvi : (parts.toList.map fun p => ρ p.2)[i - 0]? = some (ρ y) := by simp [m1]
        rw [hvi] at hk
        simp only [Option.bind_some] at hk
        have hjc : j < (ρ y).cells.size := by rw [(rv_cells m5 (cells_of_closed m4)).1]; omega
        have e1 : r.getD (i * ei.size + j) undef = (ρ y).cells.getD j undef := by
         rw [Array.getD_eq_getD_getElem?, Array.getD_eq_getD_getElem?, hk]
        rw [e1]; exact ⟨hi, hj, m3, cells_of_closed m4, hrv⟩
       have hall : ∀ c ∈ es, c.length = ei.size ∧ c.all isCell = true := fun c hc => by
        obtain ⟨i, hi⟩ := List.getElem?_of_mem hc
        have hil : i < len := by rw [← hesl]; exact (List.getElem?_eq_some_iff.1 hi).1
        obtain ⟨y, m1, m2, m3, m4, m5⟩ := hops i hil
        rw [m2] at hi
        simp at hi
        subst hi
        exact ⟨m3, cells_of_closed m4⟩
       refine ⟨_, σ, _, .inl (by simp only [execOp, ho, Sem.run_bind, hr, Result.andThen_ok, Sem.run_pure]; rfl), hs.below hbl, Ext.of_below hbl, ?_⟩
       have hr0 := Rv.sl (K := Kof M0 H σ (w.alloc (.cells r e))) σ es ⟨w.heap.size, 0, none⟩ len ei.size (fun i j => r.getD (i * ei.size + j) undef) (by omega) (by have : len ≤ len * ei.size := Nat.le_mul_of_pos_right _ hpos; omega) hall
        (fun i j c x hc hx => (hcel i j c x hc hx).2.2.2.2.mono (Ext.of_below hbl).K (List.prefix_refl _)) (fun i j hi hj => by
        rw [hesl] at hi
        refine ⟨?_, ?_⟩
        ·rw [Addr.add_lit]
         intro hm
         rcases hm with hm | hm
         ·exact Nat.lt_irrefl _ (hs.old _ hm)
         ·exact Nat.lt_irrefl _ (Mb_lt hs hm)
        ·rw [Addr.add_lit, Nat.zero_add]
         exact getD_cell (heap_alloc w _) (by rw [f2, hsize, q2]; exact row_pos hi hj))
       rw [hesl] at hr0
       exact hr0
     ·exact h.elim
   ·exact h.elim
  ·exact h.elim


theorem sem_make [Dr] (hT : TOk P T) {t : TypeId} {l c : Operand} (ho : o.op = .makeSlice t l c) (h : amake T t (ev l) (ev c) H K) : ∃ r H', OpSem P o ev H r H' ∧ K r H' := by
 unfold amake at h
 split at h
 ·rename_i i k n k' m hti hl hc
  have hud := (hT t i hti).und
  split at h
  ·rename_i e hk
   rw [hk] at hud
   split at h
   ·rename_i ei hei
    have hte := hT e ei hei
    cases hb : Nat.blt 0 ei.size && Nat.beq ei.zero.length ei.size && ei.zero.all closed1 with
    | false => rw [hb] at h; exact h.elim
    | true =>
     rw [hb] at h
     simp only [cond_true] at h
     rw [Bool.and_eq_true, Bool.and_eq_true] at hb
     have hpos : 0 < ei.size := cast Nat.blt_eq hb.1.1
     have hzl := Nat.eq_of_beq_eq_true hb.1.2
     obtain ⟨h0, h1, h2, h3, h⟩ := h
     rw [forceN_eq] at h
     refine ⟨_, _, fun M0 σ w ρ hs hop => ?_, h⟩
     have p1 := hop l (by simp [ho, Op.operands]); rw [hl] at p1
     have p2 := hop c (by simp [ho, Op.operands]); rw [hc] at p2
     obtain ⟨pi, z, q1, q2, q3, q4, q5⟩ := hte.get
     have hby : (pi.bytes : Int) * m ≤ 281474976710656 := by rw [q3, Int.mul_comm]; omega
     have hr := run_make (P := P) w t e pi z hud q1 q4 k k' n m h0 h1 hby h3
     obtain ⟨c1, c2, c3, c4⟩ := zero_cells hte q5 (K0 := Kof M0 H σ w) (σ := [])
     rw [q2] at hr
     have hn : (List.replicate n.toNat ei.zero).length = n.toNat := by simp
     obtain ⟨s1, s2⟩ := push_row hs (below_alloc w (.cells (madeCells z.cells (m.toNat * ei.size)) e)) (es := List.replicate n.toNat ei.zero) (cap := m.toNat) hpos (heap_alloc w _) (by rw [hn]; omega) (by omega) (size_madeCells _ _) (fun i' c' hc' => by
      rw [List.getElem?_replicate] at hc'
      split at hc'
      ·rename_i hi
       simp at hc'
       subst hc'
       refine ⟨hzl, c2, fun j x hx => ?_⟩
       have hj : j < ei.size := by rw [← hzl]; exact (List.getElem?_eq_some_iff.1 hx).1
       have hlt : i' * ei.size + j < m.toNat * ei.size := row_pos (by omega) hj
       have e1 : (madeCells z.cells (m.toNat * ei.size)).getD (i' * ei.size + j) undef = z.cells.getD j undef := by
        have hzs : z.cells.size = ei.size := by rw [c1, hzl]
        have hmod : (i' * ei.size + j) % z.cells.size = j := by rw [hzs, Nat.mul_comm, Nat.mul_add_mod, Nat.mod_eq_of_lt hj]
        have hjz : j < z.cells.size := by omega
        rw [Array.getD_eq_getD_getElem?, Array.getD_eq_getD_getElem?]
        simp [madeCells, hlt, hmod, hjz]
       rw [e1]; exact c4 j x hx
      ·cases hc')
     rw [hn] at s1 s2
     exact ⟨_, _, _, .inl (by simp only [execOp, ho, p1.int_inv, p2.int_inv, Sem.run_bind, hr, Result.andThen_ok, Sem.run_pure]; rfl), s1, s2, .own _ _ _ (by rw [← hs.len]; exact new_id _ _) rfl⟩
   ·exact h.elim
  ·exact h.elim
 ·exact h.elim

theorem sem_makeC [Dr] (hT : TOk P T) {t : TypeId} {l c : Operand} (ho : o.op = .makeSlice t l c) (h : amakeC T t (ev l) (ev c) H K) : ∃ r, (∀ H, OpSem P o ev H r H) ∧ K r H := by
 unfold amakeC at h
 split at h
 ·rename_i i k n k' m hti hl hc
  have hud := (hT t i hti).und
  split at h
  ·rename_i e hk
   rw [hk] at hud
   split at h
   ·rename_i ei hei
    have hte := hT e ei hei
    cases hb : Nat.blt 0 ei.size && Nat.beq ei.zero.length ei.size && ei.zero.all closed1 with
    | false => rw [hb] at h; exact h.elim
    | true =>
     rw [hb] at h
     simp only [cond_true] at h
     rw [Bool.and_eq_true, Bool.and_eq_true] at hb
     have hpos : 0 < ei.size := cast Nat.blt_eq hb.1.1
     have hzl := Nat.eq_of_beq_eq_true hb.1.2
     obtain ⟨h0, h1, h2, h3, h⟩ := h
     refine ⟨_, fun H M0 σ w ρ hs hop => ?_, h⟩
     have p1 := hop l (by simp [ho, Op.operands]); rw [hl] at p1
     have p2 := hop c (by simp [ho, Op.operands]); rw [hc] at p2
     obtain ⟨pi, z, q1, q2, q3, q4, q5⟩ := hte.get
     have hby : (pi.bytes : Int) * m ≤ 281474976710656 := by rw [q3, Int.mul_comm]; omega
     have hr := run_make (P := P) w t e pi z hud q1 q4 k k' n m h0 h1 hby h3
     obtain ⟨c1, c2, c3, c4⟩ := zero_cells hte q5 (K0 := Kof M0 H σ w) (σ := [])
     rw [q2] at hr
     have hn : (List.replicate n.toNat ei.zero).length = n.toNat := by simp
     have hbl := below_alloc w (.cells (madeCells z.cells (m.toNat * ei.size)) e)
     have hlt : ∀ i' j : Nat, i' < n.toNat → j < ei.size → i' * ei.size + j < m.toNat * ei.size := fun i' j h1 h2 => row_pos (by omega) h2
     have hcell : ∀ i' j : Nat, i' < n.toNat → j < ei.size → (madeCells z.cells (m.toNat * ei.size)).getD (i' * ei.size + j) undef = z.cells.getD j undef := fun i' j h1 h2 => by
      have hzs : z.cells.size = ei.size := by rw [c1, hzl]
      have hmod : (i' * ei.size + j) % z.cells.size = j := by rw [hzs, Nat.mul_comm, Nat.mul_add_mod, Nat.mod_eq_of_lt h2]
      have hjz : j < z.cells.size := by omega
      have := hlt i' j h1 h2
      rw [Array.getD_eq_getD_getElem?, Array.getD_eq_getD_getElem?]
      simp [madeCells, this, hmod, hjz]
     refine ⟨_, σ, _, .inl (by simp only [execOp, ho, p1.int_inv, p2.int_inv, Sem.run_bind, hr, Result.andThen_ok, Sem.run_pure]; rfl), hs.below hbl, Ext.of_below hbl, ?_⟩
     have hr0 := Rv.sl (K := Kof M0 H σ (w.alloc (.cells (madeCells z.cells (m.toNat * ei.size)) e))) σ (List.replicate n.toNat ei.zero) ⟨w.heap.size, 0, none⟩ m.toNat ei.size (fun i j => (madeCells z.cells (m.toNat * ei.size)).getD (i * ei.size + j) undef) (by rw [hn]; omega) (by rw [hn]; omega) (fun c' hc' => by
      rw [(List.mem_replicate.1 hc').2]; exact ⟨hzl, c2⟩) (fun i' j c' x hc' hx => by
      rw [List.getElem?_replicate] at hc'
      split at hc'
      ·rename_i hi
       simp at hc'
       subst hc'
       have hj : j < ei.size := by rw [← hzl]; exact (List.getElem?_eq_some_iff.1 hx).1
       show Rv _ [] x ((madeCells z.cells (m.toNat * ei.size)).getD (i' * ei.size + j) undef)
       rw [hcell i' j hi hj]
       exact (c4 j x hx).mono (Ext.of_below hbl).K (List.prefix_refl _)
      ·cases hc') (fun i' j hi hj => by
      rw [hn] at hi
      refine ⟨?_, ?_⟩
      ·rw [Addr.add_lit]
       intro hm
       rcases hm with hm | hm
       ·exact Nat.lt_irrefl _ (hs.old _ hm)
       ·exact Nat.lt_irrefl _ (Mb_lt hs hm)
      ·rw [Addr.add_lit, Nat.zero_add]
       exact getD_cell (heap_alloc w _) (by rw [size_madeCells]; exact hlt i' j hi hj))
     rw [hn] at hr0
     exact hr0
   ·exact h.elim
  ·exact h.elim
 ·exact h.elim

theorem renew [Dr] {M0 : Nat → Prop} {σ : List Value} {w w' : World} (h : St M0 H σ w) {id g : Nat} {ob nb : Ob} {v v' : Value} (hi : H[id]? = some ob) (hv : σ[id]? = some v) (hl : live ob = true) (hk : blkOf v = some g) (hk' : blkOf v' = some g)
  (hos : w'.os = w.os) (htape : Tp w w') (hout : w'.output = w.output) (hsize : w.heap.size = w'.heap.size) (hkeep : ∀ c, c ≠ g → w'.heap[c]? = w.heap[c]?)
  (ho : Ext H σ w (H.set id .dead ++ [nb]) (σ ++ [v']) w' → ObOk (Kof M0 (H.set id .dead ++ [nb]) (σ ++ [v']) w') (σ ++ [v']) w' nb v') :
  St M0 (H.set id .dead ++ [nb]) (σ ++ [v']) w' ∧ Ext H σ w (H.set id .dead ++ [nb]) (σ ++ [v']) w' := by
 have hlen := h.len
 have cases_ : ∀ (i : Nat) (o' : Ob) (u : Value), (H.set id .dead ++ [nb])[i]? = some o' → (σ ++ [v'])[i]? = some u → (o' = .dead ∧ i < H.length) ∨ (i ≠ id ∧ i < H.length ∧ H[i]? = some o' ∧ σ[i]? = some u) ∨ (o' = nb ∧ u = v' ∧ i = H.length) := by
  intro i o' u h1 h2
  rcases Nat.lt_trichotomy i H.length with hlt | hlt | hlt
  ·rw [List.getElem?_append_left (by simpa using hlt)] at h1; rw [List.getElem?_append_left (by omega)] at h2
   rcases set_cases h1 with ⟨_, rfl⟩ | ⟨hne, k⟩
   ·exact .inl ⟨rfl, hlt⟩
   ·exact .inr (.inl ⟨hne, hlt, k, h2⟩)
  ·rw [List.getElem?_append_right (by simp; omega)] at h1; rw [List.getElem?_append_right (by omega)] at h2
   rw [show i - (H.set id Ob.dead).length = 0 by simp; omega] at h1; rw [show i - σ.length = 0 by omega] at h2
   simp at h1 h2
   exact .inr (.inr ⟨h1.symm, h2.symm, hlt⟩)
  ·rw [List.getElem?_eq_none (by simp; omega)] at h1; cases h1
 have hg : Mb H σ g := ⟨id, ob, v, hi, hl, hv, hk⟩
 have hx : Ext H σ w (H.set id .dead ++ [nb]) (σ ++ [v']) w' := ⟨hos, htape, hout, by omega, ⟨[v'], rfl⟩, fun b _ hm => hkeep b (fun e => hm (e ▸ hg)), fun b _ ⟨i, o', u, h1, h2, h3, h4⟩ => by
  rcases cases_ i o' u h1 h3 with ⟨rfl, _⟩ | ⟨_, _, k1, k2⟩ | ⟨rfl, rfl, _⟩
  ·simp [live] at h2
  ·exact ⟨i, o', u, k1, h2, k2, h4⟩
  ·rw [hk'] at h4; cases h4; exact hg⟩
 refine ⟨h.step hx (by simp [hlen]) (fun i o' u h1 h2 => ?_) ?_, hx⟩
 ·rcases cases_ i o' u h1 h2 with ⟨rfl, _⟩ | ⟨hne, _, k1, k2⟩ | ⟨rfl, rfl, _⟩
  ·exact .inr trivial
  ·exact .inl ⟨k1, k2, fun hl' b hb => hkeep b (fun e => h.dist i id o' ob u v g hne k1 hi hl' hl k2 hv (e ▸ hb) hk)⟩
  ·exact .inr (ho hx)
 ·intro i j o1 o2 v1 v2 b hij h1 h2 l1 l2 s1 s2 e1 e2
  rcases cases_ i o1 v1 h1 s1 with ⟨rfl, _⟩ | ⟨n1, _, k1, k2⟩ | ⟨rfl, rfl, hi'⟩
  ·simp [live] at l1
  ·rcases cases_ j o2 v2 h2 s2 with ⟨rfl, _⟩ | ⟨n2, _, m1, m2⟩ | ⟨rfl, rfl, hj⟩
   ·simp [live] at l2
   ·exact h.dist i j o1 o2 v1 v2 b hij k1 m1 l1 l2 k2 m2 e1 e2
   ·rw [hk'] at e2; cases e2
    exact h.dist i id o1 ob v1 v _ n1 k1 hi l1 hl k2 hv e1 hk
  ·rcases cases_ j o2 v2 h2 s2 with ⟨rfl, _⟩ | ⟨n2, _, m1, m2⟩ | ⟨rfl, rfl, hj⟩
   ·simp [live] at l2
   ·rw [hk'] at e1; cases e1
    exact h.dist j id o2 ob v2 v _ n2 m1 hi l2 hl m2 hv e2 hk
   ·omega

theorem set_same [Dr] {α : Type} {l : List α} {i : Nat} {x : α} (h : l[i]? = some x) : l.set i x = l := by
 apply List.ext_getElem?
 intro j
 by_cases hj : i = j
 ·subst hj
  rw [List.getElem?_set_self (List.getElem?_eq_some_iff.1 h).1, h]
 ·rw [List.getElem?_set_ne hj]
/-! ### append -/
theorem src_cells [Dr] {M0 : Nat → Prop} {σ : List Value} {w : World} (hs : St M0 H σ w) {y : AV} {v : Value} (hv : Rv (Kof M0 H σ w) σ y v) {ds : List (List AV)} (hd : srcOf H y = some ds) {sz : Nat} (hpos : 0 < sz) (hc : allCells sz ds) :
  (v = .slice none 0 0 ∧ ds = []) ∨ ∃ (ad : Addr) (c : Nat) (news : List Value), v = .slice (some ad) ds.length c ∧ news.length = ds.length * sz ∧ (∀ j u, news[j]? = some u → w.cell? (ad.add j) = some u) ∧ (∀ u ∈ news, u.oneCell' = true) ∧
   ∀ i c j x, ds[i]? = some c → c[j]? = some x → Rv (Kof M0 H σ w) [] x (news.getD (i * sz + j) undef) := by
 have const : ∀ {v : Value}, Rv (Kof M0 H σ w) [] (.sl ds) v → (v = .slice none 0 0 ∧ ds = []) ∨ ∃ (ad : Addr) (c : Nat) (news : List Value), v = .slice (some ad) ds.length c ∧ news.length = ds.length * sz ∧ (∀ j u, news[j]? = some u → w.cell? (ad.add j) = some u) ∧ (∀ u ∈ news, u.oneCell' = true) ∧
   ∀ i c j x, ds[i]? = some c → c[j]? = some x → Rv (Kof M0 H σ w) [] x (news.getD (i * sz + j) undef) := by
  intro v hv
  rcases hv.sl_inv with ⟨e0, e1⟩ | ⟨a, cap, sz', val, e1, k1, k2, k3, k4, k5⟩
  ·exact .inl ⟨e1, e0⟩
  ·by_cases hnil : ds = []
   ·refine .inr ⟨a, cap, [], e1, by simp [hnil], fun j u hj => by simp at hj, fun u hu => by simp at hu, fun i c j x hi => by simp [hnil] at hi⟩
   ·have hsz : sz' = sz := by
     obtain ⟨c, hm⟩ := List.exists_mem_of_ne_nil _ hnil
     rw [← (k3 c hm).1]; exact (hc c hm).1
    subst hsz
    have get : ∀ k, k < ds.length * sz' → ((List.range (ds.length * sz')).map fun k => val (k / sz') (k % sz'))[k]? = some (val (k / sz') (k % sz')) := by
     intro k hk; simp [hk]
    refine .inr ⟨a, cap, (List.range (ds.length * sz')).map fun k => val (k / sz') (k % sz'), e1, by simp, fun j u hj => ?_, fun u hu => ?_, fun i c j x hi hx => ?_⟩
    ·have hlt : j < ds.length * sz' := by have := (List.getElem?_eq_some_iff.1 hj).1; simpa using this
     rw [get j hlt] at hj
     simp at hj
     subst hj
     have hq : j / sz' < ds.length := Nat.div_lt_of_lt_mul (by rw [Nat.mul_comm]; exact hlt)
     have := (k5 (j / sz') (j % sz') hq (Nat.mod_lt _ hpos)).2
     rwa [Nat.mul_comm, Nat.div_add_mod] at this
    ·obtain ⟨k, hk, rfl⟩ := List.mem_map.1 hu
     have hk' : k < ds.length * sz' := by simpa using hk
     have hq : k / sz' < ds.length := Nat.div_lt_of_lt_mul (by rw [Nat.mul_comm]; exact hk')
     have hm : k % sz' < sz' := Nat.mod_lt _ hpos
     have hc1 : ds[k / sz']? = some ds[k / sz'] := List.getElem?_eq_getElem hq
     have hcl := (k3 _ (List.mem_of_getElem? hc1))
     have hx1 : (ds[k / sz'])[k % sz']? = some ((ds[k / sz'])[k % sz']'(by rw [hcl.1]; exact hm)) := List.getElem?_eq_getElem _
     exact (k4 _ _ _ _ hc1 hx1).oneCell ((List.all_eq_true.1 hcl.2) _ (List.mem_of_getElem? hx1))
    ·have hi' : i < ds.length := (List.getElem?_eq_some_iff.1 hi).1
     have hj' : j < sz' := by rw [← (k3 c (List.mem_of_getElem? hi)).1]; exact (List.getElem?_eq_some_iff.1 hx).1
     have hlt := row_pos hi' hj'
     have hdiv : (i * sz' + j) / sz' = i := by rw [Nat.mul_comm, Nat.mul_add_div hpos, Nat.div_eq_of_lt hj']; omega
     have hmod : (i * sz' + j) % sz' = j := by rw [Nat.mul_comm, Nat.mul_add_mod, Nat.mod_eq_of_lt hj']
     rw [List.getD_eq_getElem?_getD, get _ hlt, hdiv, hmod]
     exact k4 _ _ _ _ hi hx
 unfold srcOf at hd
 split at hd
 ·obtain rfl := Option.some.inj hd
  exact const (hv.closed rfl)
 ·obtain rfl := Option.some.inj hd
  exact .inl ⟨hv.nils_inv, rfl⟩
 ·rename_i id
  unfold rowOf at hd
  split at hd
  ·rename_i rt rs es hH
   obtain rfl := Option.some.inj hd
   obtain ⟨q0, ⟨e0, e1⟩ | ⟨g, cap, cur, e1, q1, q2, q3, q4, q5⟩⟩ := hs.ok id _ _ hH hv.own_inv
   ·exact .inl ⟨e1, e0⟩
   have hfit : es.length * rs ≤ cur.size := by rw [q4]; exact Nat.mul_le_mul_right _ q2
   by_cases hnil : es = []
   ·subst hnil
    exact .inr ⟨_, cap, [], e1, by simp, fun j u hj => by simp at hj, fun u hu => by simp at hu, fun i c j x hi => by simp at hi⟩
   ·have hsz : rs = sz := by
     obtain ⟨c, hm⟩ := List.exists_mem_of_ne_nil _ hnil
     obtain ⟨i, hi⟩ := List.getElem?_of_mem hm
     rw [← (q5 i c hi).1]; exact (hc c hm).1
    subst hsz
    refine .inr ⟨_, cap, cur.toList.take (es.length * rs), e1, by simp; omega, fun j u hj => ?_, fun u hu => ?_, fun i c j x hi hx => ?_⟩
    ·have hlt : j < es.length * rs := by have := (List.getElem?_eq_some_iff.1 hj).1; simp at this; omega
     rw [List.getElem?_take, if_pos hlt] at hj
     have hj' : cur[j]? = some u := by simpa using hj
     rw [Addr.add_lit, Nat.zero_add, getD_cell q1 (by omega)]
     simp [hj']
    ·obtain ⟨k, hk⟩ := List.getElem?_of_mem hu
     have hlt : k < es.length * rs := by have := (List.getElem?_eq_some_iff.1 hk).1; simp at this; omega
     rw [List.getElem?_take, if_pos hlt] at hk
     have hq : k / rs < es.length := Nat.div_lt_of_lt_mul (by rw [Nat.mul_comm]; exact hlt)
     have hm : k % rs < rs := Nat.mod_lt _ hpos
     have hc1 : es[k / rs]? = some es[k / rs] := List.getElem?_eq_getElem hq
     obtain ⟨m1, m2, m3⟩ := q5 _ _ hc1
     have hx1 : (es[k / rs])[k % rs]? = some ((es[k / rs])[k % rs]'(by rw [m1]; exact hm)) := List.getElem?_eq_getElem _
     have := m3 _ _ hx1
     rw [Nat.mul_comm, Nat.div_add_mod] at this
     have e : cur.getD k undef = u := by
      have hk' : cur[k]? = some u := by simpa using hk
      simp [hk']
     rw [e] at this
     exact this.oneCell ((List.all_eq_true.1 m2) _ (List.mem_of_getElem? hx1))
    ·have hi' : i < es.length := (List.getElem?_eq_some_iff.1 hi).1
     have hj' : j < rs := by rw [← (q5 i c hi).1]; exact (List.getElem?_eq_some_iff.1 hx).1
     have hlt := row_pos hi' hj'
     have := (q5 i c hi).2.2 j x hx
     have e : (cur.toList.take (es.length * rs)).getD (i * rs + j) undef = cur.getD (i * rs + j) undef := by
      rw [List.getD_eq_getElem?_getD, List.getElem?_take, if_pos hlt]; simp
     rw [e]; exact this
  ·rename_i es hH
   obtain rfl := Option.some.inj hd
   exact const (hs.ok id _ _ hH hv.own_inv)
  ·cases hd
 ·cases hd

theorem sem_append [Dr] (hT : TOk P T) {t : TypeId} {x y : Operand} (ho : o.op = .call { callee := .builtin .append, args := #[x, y], argTypes := #[t, t] }) (h : aappend T t (ev x) (ev y) H K) : ∃ r H', OpSem P o ev H r H' ∧ K r H' := by
 unfold aappend at h
 cases hti : T t with
 | none => simp [hti] at h
 | some i =>
  have hud := (hT t i hti).und
  simp only [hti] at h
  split at h
  ·rename_i e hk
   rw [hk] at hud
   split at h
   ·rename_i ei hei
    have hte := hT e ei hei
    cases hb : Nat.blt 0 ei.size && Nat.beq ei.zero.length ei.size with
    | false => rw [hb] at h; exact h.elim
    | true =>
     rw [hb] at h
     simp only [cond_true] at h
     rw [Bool.and_eq_true] at hb
     have hpos : 0 < ei.size := cast Nat.blt_eq hb.1
     have hzl := Nat.eq_of_beq_eq_true hb.2
     obtain ⟨pi, z, z1, z2, z3, z4, z5⟩ := hte.get
     have hzs : z.cells.size = ei.size := by rw [← Array.length_toList, z5]; simp [hzl]
     have hud' : P.underlying t = some (.slice e) := hud
     have runA : ∀ {w : World} {ρ : Operand → Value} {u v r : Value} {w' : World}, ρ x = u → ρ y = v → (Builtin.append_ #[t, t] o.type #[u, v]).run P w = .ok r w' → (execOp ρ o).run P w = .ok (.value r) w' := by
      intro w ρ u v r w' hx hy hr
      simp only [execOp, ho, resolve, invoke, builtin, Sem.run_bind, Sem.run_pure, Result.andThen_ok, List.map_toArray, List.map_cons, List.map_nil, hx, hy, hr]
     have appNil : ∀ (w : World) (a : Option Addr) (n c : Nat), n ≤ c → (Builtin.append_ #[t, t] o.type #[.slice a n c, .slice none 0 0]).run P w = .ok (.slice a n c) w := by
      intro w a n c hnc
      cases a <;> simp [Builtin.append_, run_underlying hud', sizeOf, typeInfo, z1, Builtin.lenOf, hnc, Builtin.firstCells, storeCells]
     split at h
     ·rename_i ds hd
      split at h
      ·rename_i hx
       obtain ⟨hac, hnil, hcons⟩ := h
       by_cases hdn : ds = []
       ·refine ⟨_, _, .still fun M0 σ w ρ hs hop => ?_, hnil hdn⟩
        have p1 := hop x (by simp [ho, Op.operands, Call.operands]); rw [hx] at p1
        have p2 := hop y (by simp [ho, Op.operands, Call.operands])
        rcases src_cells hs p2 hd hpos hac with ⟨e1, _⟩ | ⟨ad, c, news, e1, _⟩
        ·exact ⟨_, runA p1.nils_inv e1 (appNil w _ _ _ (Nat.le_refl _)), .nils _⟩
        ·subst hdn
         refine ⟨.slice none 0 0, runA p1.nils_inv e1 ?_, .nils _⟩
         simp [Builtin.append_, run_underlying hud', sizeOf, typeInfo, z1, Builtin.lenOf, Builtin.firstCells, loadCells, loadCellsFrom]
       ·obtain ⟨hby, h63, h⟩ := hcons hdn
        rw [forceN_eq] at h
        refine ⟨_, _, fun M0 σ w ρ hs hop => ?_, h⟩
        have p1 := hop x (by simp [ho, Op.operands, Call.operands]); rw [hx] at p1
        have p2 := hop y (by simp [ho, Op.operands, Call.operands])
        rcases src_cells hs p2 hd hpos hac with ⟨_, e0⟩ | ⟨ad, c, news, e1, n1, n2, n3, n4⟩
        ·exact absurd e0 hdn
        ·have hm : 0 < ds.length := List.length_pos_iff.2 hdn
         have hr := run_append_nil (P := P) w t o.type e pi z hud' z1 z4 ad ds.length c news (by rw [z2]; exact n1) n2 hm (by omega) (by rw [z3]; omega)
         have hcap := grownCap_ge w ds.length 0 e
         have hcapm := grownCap_le_maxLen w ds.length 0 e (by unfold maxLen; omega)
         have hB : Below w.heap.size w (w.drew.alloc (.cells (news.toArray ++ Builtin.zeroCells z.cells (grownCap w ds.length 0 e - ds.length)) e)) := ((Below.refl _ w).drew).alloc (Nat.le_refl _) _
         obtain ⟨s1, s2⟩ := push_row hs hB (es := ds) (cap := grownCap w ds.length 0 e) (t := e) (cur := news.toArray ++ Builtin.zeroCells z.cells (grownCap w ds.length 0 e - ds.length)) hpos (heap_alloc w.drew _) hcap (by unfold maxLen at hcapm; omega) (by
          simp only [Array.size_append, List.size_toArray, n1, size_zeroCells, hzs, ← Nat.add_mul]; congr 1; omega) (fun i c hc => by
          obtain ⟨m1, m2⟩ := hac c (List.mem_of_getElem? hc)
          refine ⟨m1, cells_of_closed m2, fun j x hx => ?_⟩
          have hlt := row_pos (List.getElem?_eq_some_iff.1 hc).1 (show j < ei.size by rw [← m1]; exact (List.getElem?_eq_some_iff.1 hx).1)
          have := n4 i c j x hc hx
          have e' : (news.toArray ++ Builtin.zeroCells z.cells (grownCap w ds.length 0 e - ds.length)).getD (i * ei.size + j) undef = news.getD (i * ei.size + j) undef := by
           rw [Array.getD_eq_getD_getElem?, Array.getElem?_append_left (by simp [n1]; exact hlt), List.getD_eq_getElem?_getD]; simp
          rw [e']; exact this)
         exact ⟨_, _, _, .inl (runA p1.nils_inv e1 hr), s1, s2, .own _ _ _ (by rw [← hs.len]; exact new_id _ _) rfl⟩
      ·rename_i id hx
       split at h
       ·rename_i rt rs es hH
        cases hbb : Nat.beq rt e && Nat.beq rs ei.size with
        | false => rw [hbb] at h; exact h.elim
        | true =>
         rw [hbb] at h
         simp only [cond_true] at h
         rw [Bool.and_eq_true] at hbb
         have er := Nat.eq_of_beq_eq_true hbb.1
         have ers := Nat.eq_of_beq_eq_true hbb.2
         subst er
         subst ers
         obtain ⟨hac, hby, h63, h⟩ := h
         rw [forceN_eq] at h
         refine ⟨_, _, fun M0 σ w ρ hs hop => ?_, h⟩
         have p1 := hop x (by simp [ho, Op.operands, Call.operands]); rw [hx] at p1
         have p2 := hop y (by simp [ho, Op.operands, Call.operands])
         have hσ := p1.own_inv
         obtain ⟨q0, ⟨f0, f1⟩ | ⟨g, cap, cur, f1, q1, q2, q3, q4, q5⟩⟩ := hs.ok id _ _ hH hσ
         ·subst f0
          obtain ⟨k1, k2⟩ := hs.drop id
          have still : (Builtin.append_ #[t, t] o.type #[ρ x, ρ y]).run P w = .ok (.slice none 0 0) w → ds = [] → ∃ v σ' w', Ran P o ρ w v w' ∧ St M0 (H.set id .dead ++ [.row rt ei.size ([] ++ ds)]) σ' w' ∧ Ext H σ w (H.set id .dead ++ [.row rt ei.size ([] ++ ds)]) σ' w' ∧ Rv (Kof M0 (H.set id .dead ++ [.row rt ei.size ([] ++ ds)]) σ' w') σ' (.own H.length) v := by
           intro hr hd0
           subst hd0
           obtain ⟨s1, s2⟩ := k1.nilrow rt hpos
           exact ⟨_, _, _, .inl (runA rfl rfl hr), s1, k2.trans s2, .own _ _ _ (by rw [← hs.len]; exact new_id _ _) rfl⟩
          rcases src_cells hs p2 hd hpos hac with ⟨e1, e0⟩ | ⟨ad, c, news, e1, n1, n2, n3, n4⟩
          ·exact still (by rw [f1, e1]; exact appNil w _ _ _ (Nat.le_refl _)) e0
          ·by_cases hdn : ds = []
           ·refine still ?_ hdn
            subst hdn
            rw [f1, e1]
            simp [Builtin.append_, run_underlying hud', sizeOf, typeInfo, z1, Builtin.lenOf, Builtin.firstCells, loadCells, loadCellsFrom]
           ·have hm : 0 < ds.length := List.length_pos_iff.2 hdn
            have hby2 : ds.length * ei.bytes ≤ 140737488355328 := by simpa using hby
            have h632 : ds.length ≤ 9223372036854775807 := by simpa using h63
            have hr := run_append_nil (P := P) w t o.type rt pi z hud' z1 z4 ad ds.length c news (by rw [z2]; exact n1) n2 hm (by omega) (by rw [z3]; omega)
            have hcap := grownCap_ge w ds.length 0 rt
            have hcapm := grownCap_le_maxLen w ds.length 0 rt (by unfold maxLen; omega)
            have hB : Below w.heap.size w (w.drew.alloc (.cells (news.toArray ++ Builtin.zeroCells z.cells (grownCap w ds.length 0 rt - ds.length)) rt)) := ((Below.refl _ w).drew).alloc (Nat.le_refl _) _
            obtain ⟨s1, s2⟩ := push_row k1 hB (es := ds) (cap := grownCap w ds.length 0 rt) (t := rt) (cur := news.toArray ++ Builtin.zeroCells z.cells (grownCap w ds.length 0 rt - ds.length)) hpos (heap_alloc w.drew _) hcap (by unfold maxLen at hcapm; omega) (by
             simp only [Array.size_append, List.size_toArray, n1, size_zeroCells, hzs, ← Nat.add_mul]; congr 1; omega) (fun i c hc => by
             obtain ⟨m1, m2⟩ := hac c (List.mem_of_getElem? hc)
             refine ⟨m1, cells_of_closed m2, fun j x hx => ?_⟩
             have hlt := row_pos (List.getElem?_eq_some_iff.1 hc).1 (show j < ei.size by rw [← m1]; exact (List.getElem?_eq_some_iff.1 hx).1)
             have := k2.rv0 (n4 i c j x hc hx)
             have e' : (news.toArray ++ Builtin.zeroCells z.cells (grownCap w ds.length 0 rt - ds.length)).getD (i * ei.size + j) undef = news.getD (i * ei.size + j) undef := by
              rw [Array.getD_eq_getD_getElem?, Array.getElem?_append_left (by simp [n1]; exact hlt), List.getD_eq_getElem?_getD]; simp
             rw [e']; exact this)
            exact ⟨_, _, _, .inl (runA f1 e1 hr), s1, k2.trans s2, .own _ _ _ (by rw [← hs.len]; simp) rfl⟩
         rw [f1] at hσ
         have hnl : (es ++ ds).length = es.length + ds.length := by simp
         have hfit : es.length * ei.size ≤ cur.size := by rw [q4]; exact Nat.mul_le_mul_right _ q2
         -- what the new row holds, given where its cells come from
         have fill : ∀ {K1 : Addr → Value → Prop} {nc : Array Value} (news : List Value), (∀ i c j x, ds[i]? = some c → c[j]? = some x → Rv K1 [] x (news.getD (i * ei.size + j) undef)) →
           (∀ k, k < es.length * ei.size → nc.getD k undef = cur.getD k undef) → (∀ k, k < ds.length * ei.size → nc.getD (es.length * ei.size + k) undef = news.getD k undef) → (∀ i c j x, es[i]? = some c → c[j]? = some x → Rv K1 [] x (cur.getD (i * ei.size + j) undef)) →
           ∀ i c, (es ++ ds)[i]? = some c → c.length = ei.size ∧ c.all isCell = true ∧ ∀ j x, c[j]? = some x → Rv K1 [] x (nc.getD (i * ei.size + j) undef) := by
          intro K1 nc news g1 g2 g3 g4 i c hc
          by_cases hi : i < es.length
          ·rw [List.getElem?_append_left hi] at hc
           obtain ⟨m1, m2, _⟩ := q5 i c hc
           refine ⟨m1, m2, fun j x hx => ?_⟩
           rw [g2 _ (row_pos hi (by rw [← m1]; exact (List.getElem?_eq_some_iff.1 hx).1))]
           exact g4 i c j x hc hx
          ·rw [List.getElem?_append_right (by omega)] at hc
           obtain ⟨m1, m2⟩ := hac c (List.mem_of_getElem? hc)
           refine ⟨m1, cells_of_closed m2, fun j x hx => ?_⟩
           have e1 : i * ei.size + j = es.length * ei.size + ((i - es.length) * ei.size + j) := by
            have : i * ei.size = es.length * ei.size + (i - es.length) * ei.size := by rw [← Nat.add_mul]; congr 1; omega
            omega
           rw [e1, g3 _ (row_pos (List.getElem?_eq_some_iff.1 hc).1 (by rw [← m1]; exact (List.getElem?_eq_some_iff.1 hx).1))]
           exact g1 _ c j x hc hx
         rcases src_cells hs p2 hd hpos hac with ⟨e1, e0⟩ | ⟨ad, c, news, e1, n1, n2, n3, n4⟩
         ·subst e0
          obtain ⟨s1, s2⟩ := renew hs hH hσ rfl rfl (v' := .slice (some ⟨g, 0, none⟩) es.length cap) (nb := .row rt ei.size (es ++ [])) rfl (w' := w) rfl .rfl rfl rfl (fun _ _ => rfl) (fun hx' => ⟨hpos, .inr ⟨g, cap, cur, by simp, q1, by simpa using q2, q3, q4, fun i c hc => by
           rw [List.append_nil] at hc
           exact ⟨(q5 i c hc).1, (q5 i c hc).2.1, fun j x hx => hx'.rv0 ((q5 i c hc).2.2 j x hx)⟩⟩⟩)
          exact ⟨_, _, _, .inl (runA f1 e1 (appNil w _ _ _ q2)), s1, s2, .own _ _ _ (by rw [← hs.len]; exact new_id _ _) rfl⟩
         ·by_cases hroom : es.length + ds.length ≤ cap
          ·have hr := run_append_room (P := P) w t o.type rt pi hud' z1 g es.length cap cur q1 ad ds.length c news (by rw [z2]; exact n1) n2 n3 hroom (by
            rw [z2, n1, ← Nat.add_mul, q4]; exact Nat.mul_le_mul_right _ hroom)
           rw [z2] at hr
           obtain ⟨nw, hnw⟩ : ∃ nw, nw = (cur.toList.take (es.length * ei.size) ++ news ++ cur.toList.drop (es.length * ei.size + news.length)).toArray := ⟨_, rfl⟩
           rw [← hnw] at hr
           have hle : es.length * ei.size + news.length ≤ cur.toList.length := by
            have h1 : (es.length + ds.length) * ei.size ≤ cap * ei.size := Nat.mul_le_mul_right _ hroom
            rw [Nat.add_mul] at h1
            have e2 : cur.toList.length = cur.size := by simp
            omega
           have hget : ∀ k, nw.getD k undef = if es.length * ei.size ≤ k ∧ k < es.length * ei.size + news.length then news.getD (k - es.length * ei.size) undef else cur.toList.getD k undef := fun k => by
            rw [hnw]; exact spliceV_get _ _ hle
           obtain ⟨s1, s2⟩ := renew hs hH hσ rfl rfl (v' := .slice (some ⟨g, 0, none⟩) (es.length + ds.length) cap) (nb := .row rt ei.size (es ++ ds)) rfl (w' := w.setRow g nw) (setRow_os w g _) ⟨setRow_tape w g _, fun _ => Nat.le_of_eq (setRow_drawn w g _).symm⟩ (setRow_output w g _) (by simp) (fun c hc => setRow_other w g c _ hc)
            (fun hx' => ⟨hpos, .inr ⟨g, cap, nw, by rw [hnl], setRow_heap w g cur _ rt _ q1, by rw [hnl]; exact hroom, q3, by rw [hnw]; simp at hle ⊢; omega, fill news (fun i c j x hc hx => hx'.rv0 (n4 i c j x hc hx)) (fun k hk => by
             rw [hget, if_neg (by omega)]; simp) (fun k hk => by
             rw [hget, if_pos (by omega)]; congr 1; omega) (fun i c j x hc hx => hx'.rv0 ((q5 i c hc).2.2 j x hx))⟩⟩)
           exact ⟨_, _, _, .inl (runA f1 e1 hr), s1, s2, .own _ _ _ (by rw [← hs.len]; simp) rfl⟩
          ·have hxl : (cur.toList.take (es.length * ei.size)).length = es.length * ei.size := by simp; omega
           have hr := run_append_grow (P := P) w t o.type rt pi z hud' z1 z4 ⟨g, 0, none⟩ es.length cap (cur.toList.take (es.length * ei.size)) (by rw [z2]; exact hxl) (fun j u hj => by
            have hlt : j < es.length * ei.size := by have := (List.getElem?_eq_some_iff.1 hj).1; simp at this; omega
            rw [List.getElem?_take, if_pos hlt] at hj
            have hj' : cur[j]? = some u := by simpa using hj
            rw [Addr.add_lit, Nat.zero_add, getD_cell q1 (by omega)]
            simp [hj']) ad ds.length c news (by rw [z2]; exact n1) n2 (by omega) (by omega) (growslice_fits (by omega) (by rw [z3]; exact hby))
           have hcap := grownCap_ge w (es.length + ds.length) cap rt
           have hcapm := grownCap_le_maxLen w (es.length + ds.length) cap rt (by unfold maxLen; omega)
           obtain ⟨nc, hnc⟩ : ∃ nc, nc = (cur.toList.take (es.length * ei.size)).toArray ++ news.toArray ++ Builtin.zeroCells z.cells (grownCap w (es.length + ds.length) cap rt - (es.length + ds.length)) := ⟨_, rfl⟩
           rw [← hnc] at hr
           have hk1 : ∀ k, k < es.length * ei.size → nc.getD k undef = cur.getD k undef := fun k hk => by
            rw [hnc, Array.getD_eq_getD_getElem?, Array.getElem?_append_left (by simp; omega), Array.getElem?_append_left (by simp; omega), Array.getD_eq_getD_getElem?]
            rw [List.getElem?_toArray, List.getElem?_take, if_pos hk]; simp
           have hk2 : ∀ k, k < ds.length * ei.size → nc.getD (es.length * ei.size + k) undef = news.getD k undef := fun k hk => by
            rw [hnc, Array.getD_eq_getD_getElem?, Array.getElem?_append_left (by simp [n1]; omega), Array.getElem?_append_right (by simp; omega), List.getElem?_toArray, List.getD_eq_getElem?_getD]
            congr 2; simp; omega
           obtain ⟨k1, k2⟩ := hs.write (w' := w) hH hσ rfl rfl rfl .rfl rfl rfl (fun _ _ => rfl) (o' := .dead) (fun _ => trivial)
           have hB : Below w.heap.size w (w.drew.alloc (.cells nc rt)) := ((Below.refl _ w).drew).alloc (Nat.le_refl _) _
           obtain ⟨s1, s2⟩ := push_row k1 hB (es := es ++ ds) (cap := grownCap w (es.length + ds.length) cap rt) (t := rt) (cur := nc) hpos (heap_alloc w.drew _) (by rw [hnl]; exact hcap) (by unfold maxLen at hcapm; omega) (by
            rw [hnc]
            simp only [Array.size_append, List.size_toArray, hxl, n1, size_zeroCells, hzs, ← Nat.add_mul]; congr 1; omega)
            (fill news (fun i c j x hc hx => k2.rv0 (n4 i c j x hc hx)) hk1 hk2 (fun i c j x hc hx => k2.rv0 ((q5 i c hc).2.2 j x hx)))
           rw [hnl] at s1 s2
           exact ⟨_, _, _, .inl (runA f1 e1 hr), s1, k2.trans s2, .own _ _ _ (by rw [← hs.len]; simp) rfl⟩
       ·exact h.elim
      ·exact h.elim
     ·exact h.elim
   ·exact h.elim
  ·exact h.elim

/-! ### copy -/
theorem run_copy_cells [Dr] (w : World) (dT sT ty elem : TypeId) (g o k dLen dCap : Nat) (a : Addr) (sLen sCap : Nat) (cur : Array Value) (t : TypeId) (cs : List Value)
  (hu : P.underlying dT = some (.slice elem)) (hs : (P.info? elem).map (·.size) = some k)
  (hg : w.heap[g]? = some (.cells cur t (0, 0))) (hn : cs.length = Nat.min sLen dLen * k)
  (hsrc : ∀ j v, cs[j]? = some v → w.cell? (a.add j) = some v) (hfit : o + cs.length ≤ cur.size) (h1 : ∀ v ∈ cs, v.oneCell' = true) :
  (Builtin.copy_ #[dT, sT] ty #[.slice (some ⟨g, o, none⟩) dLen dCap, .slice (some a) sLen sCap]).run P w =
   .ok (goInt (Nat.min sLen dLen)) (w.setRow g (cur.toList.take o ++ cs ++ cur.toList.drop (o + cs.length)).toArray) := by
 have hl := run_loadCells_list (P := P) w a cs hsrc
 have hst := run_storeCells_at P g o t cs 0 cur w hg (by simpa using hfit) h1
 cases hq : P.info? elem with
 | none => simp [hq] at hs
 | some i =>
  have hi : i.size = k := by simpa [hq] using hs
  simp [Builtin.copy_, run_underlying hu, Builtin.lenOf, Builtin.firstCells, sizeOf, typeInfo, hq, hi, ← hn, hl, hst]
theorem flat_len [Dr] {ds : List (List AV)} (h : ∀ c ∈ ds, c.length = 1) : ds.flatten.length = ds.length := by
 induction ds with
 | nil => rfl
 | cons c r ih =>
  rw [List.flatten_cons, List.length_append, h c List.mem_cons_self, ih fun c hc => h c (List.mem_cons_of_mem _ hc), List.length_cons]; omega
theorem flat_get [Dr] {ds : List (List AV)} (h : ∀ c ∈ ds, c.length = 1) {j : Nat} {y : AV} (hy : ds.flatten[j]? = some y) : ∃ c, ds[j]? = some c ∧ c[0]? = some y := by
 induction ds generalizing j with
 | nil => simp at hy
 | cons c r ih =>
  have hc := h c List.mem_cons_self
  obtain ⟨x, rfl⟩ : ∃ x, c = [x] := by
   match c, hc with
   | [x], _ => exact ⟨x, rfl⟩
  rw [List.flatten_cons] at hy
  cases j with
  | zero => simp at hy; exact ⟨[x], rfl, by simp [hy]⟩
  | succ j =>
   obtain ⟨d, h1, h2⟩ := ih (fun c hc => h c (List.mem_cons_of_mem _ hc)) (j := j) (by simpa using hy)
   exact ⟨d, by simpa using h1, h2⟩
theorem sem_copy [Dr] (hT : TOk P T) {t t' : TypeId} {x y : Operand} (ho : o.op = .call { callee := .builtin .copy, args := #[x, y], argTypes := #[t, t'] }) (h : acopy T t (ev x) (ev y) H K) : ∃ r H', OpSem P o ev H r H' ∧ K r H' := by
 unfold acopy at h
 cases hti : T t with
 | none => simp [hti] at h
 | some i =>
  have hud := (hT t i hti).und
  simp only [hti] at h
  split at h
  ·rename_i e hk
   rw [hk] at hud
   split at h
   ·rename_i ei hei
    have hte := hT e ei hei
    cases hb : Nat.blt 0 ei.size with
    | false => rw [hb] at h; exact h.elim
    | true =>
     rw [hb] at h
     simp only [cond_true] at h
     have hpos : 0 < ei.size := cast Nat.blt_eq hb
     obtain ⟨pi, z, z1, z2, z3, z4, z5⟩ := hte.get
     have hud' : P.underlying t = some (.slice e) := hud
     have hsize : (P.info? e).map (·.size) = some ei.size := by rw [z1]; simp [z2]
     have runA : ∀ {w : World} {ρ : Operand → Value} {u v r : Value} {w' : World}, ρ x = u → ρ y = v → (Builtin.copy_ #[t, t'] o.type #[u, v]).run P w = .ok r w' → (execOp ρ o).run P w = .ok (.value r) w' := by
      intro w ρ u v r w' hx hy hr
      simp only [execOp, ho, resolve, invoke, builtin, Sem.run_bind, Sem.run_pure, Result.andThen_ok, List.map_toArray, List.map_cons, List.map_nil, hx, hy, hr]
     split at h
     ·rename_i ds hd
      split at h
      ·rename_i id hx
       split at h
       ·rename_i rt rs es hH
        cases hbb : Nat.beq rs ei.size with
        | false => rw [hbb] at h; exact h.elim
        | true =>
         rw [hbb] at h
         simp only [cond_true] at h
         have ers := Nat.eq_of_beq_eq_true hbb
         subst ers
         obtain ⟨hac, h⟩ := h
         refine ⟨_, _, fun M0 σ w ρ hs hop => ?_, h⟩
         have p1 := hop x (by simp [ho, Op.operands, Call.operands]); rw [hx] at p1
         have p2 := hop y (by simp [ho, Op.operands, Call.operands])
         have hσ := p1.own_inv
         obtain ⟨q0, ⟨f0, f1⟩ | ⟨g, cap, cur, f1, q1, q2, q3, q4, q5⟩⟩ := hs.ok id _ _ hH hσ
         ·subst f0
          have hself : H.set id (.row rt ei.size (ds.take ([] : List (List AV)).length ++ ([] : List (List AV)).drop ds.length)) = H := by
           have e : ds.take ([] : List (List AV)).length ++ ([] : List (List AV)).drop ds.length = [] := by simp
           rw [e]
           exact set_same hH
          rw [hself]
          have hmin : ((min ds.length ([] : List (List AV)).length : Nat) : Int) = 0 := by simp
          rw [hmin]
          refine ⟨.int .i64 0, σ, w, .inl (runA f1 rfl ?_), hs, Ext.refl _ _ _, .int _ _ _⟩
          rcases src_cells hs p2 hd hpos hac with ⟨e1, _⟩ | ⟨ad, c, news, e1, _⟩
          ·rw [e1]; simp [Builtin.copy_, run_underlying hud', sizeOf, typeInfo, z1, Builtin.lenOf, Builtin.firstCells, goInt]
          ·rw [e1]; simp [Builtin.copy_, run_underlying hud', sizeOf, typeInfo, z1, Builtin.lenOf, Builtin.firstCells, goInt, loadCells, loadCellsFrom]
         have hnl : (ds.take es.length ++ es.drop ds.length).length = es.length := by simp; omega
         rcases src_cells hs p2 hd hpos hac with ⟨e1, e0⟩ | ⟨ad, c, news, e1, n1, n2, n3, n4⟩
         ·subst e0
          have hr := run_copy_nil (P := P) w t t' o.type e ⟨g, 0, none⟩ es.length cap hud' (by rw [z1]; rfl)
          obtain ⟨s1, s2⟩ := hs.write (w' := w) hH hσ rfl (b := g) (by rw [f1]; rfl) rfl .rfl rfl rfl (fun _ _ => rfl) (o' := .row rt ei.size (([] : List (List AV)).take es.length ++ es.drop ([] : List (List AV)).length)) (fun hx' => ⟨q0, .inr ⟨g, cap, cur, by rw [hnl, f1], q1, by rw [hnl]; exact q2, q3, q4, fun i c hc => by
           have hc : es[i]? = some c := by simpa using hc
           exact ⟨(q5 i c hc).1, (q5 i c hc).2.1, fun j x hx => hx'.rv0 ((q5 i c hc).2.2 j x hx)⟩⟩⟩)
          exact ⟨_, _, _, .inl (runA f1 e1 hr), s1, s2, by simp [goInt]; exact .int _ _ _⟩
         ·have hmin : Nat.min ds.length es.length = min ds.length es.length := rfl
          have hle : min ds.length es.length * ei.size ≤ ds.length * ei.size := Nat.mul_le_mul_right _ (by omega)
          have hle2 : min ds.length es.length * ei.size ≤ cap * ei.size := Nat.mul_le_mul_right _ (by omega)
          have hm : (news.take (min ds.length es.length * ei.size)).length = Nat.min ds.length es.length * ei.size := by rw [List.length_take, n1, hmin]; omega
          have hfit : 0 + (news.take (min ds.length es.length * ei.size)).length ≤ cur.size := by rw [hm, q4, hmin]; omega
          have hr := run_copy_cells (P := P) w t t' o.type e g 0 ei.size es.length cap ad ds.length c cur rt (news.take (min ds.length es.length * ei.size)) hud' hsize q1 hm (fun j u hj => n2 j u (by
           rw [List.getElem?_take] at hj; split at hj
           ·exact hj
           ·cases hj)) hfit (fun u hu => n3 u (List.mem_of_mem_take hu))
          obtain ⟨nw, hnw⟩ : ∃ nw, nw = (cur.toList.take 0 ++ news.take (min ds.length es.length * ei.size) ++ cur.toList.drop (0 + (news.take (min ds.length es.length * ei.size)).length)).toArray := ⟨_, rfl⟩
          rw [← hnw] at hr
          have hget : ∀ k, nw.getD k undef = if 0 ≤ k ∧ k < 0 + (news.take (min ds.length es.length * ei.size)).length then (news.take (min ds.length es.length * ei.size)).getD (k - 0) undef else cur.toList.getD k undef := fun k => by
           rw [hnw]; exact spliceV_get _ _ (by simpa using hfit)
          obtain ⟨s1, s2⟩ := hs.write (w' := w.setRow g nw) hH hσ rfl (b := g) (by rw [f1]; rfl) (setRow_os w g _) ⟨setRow_tape w g _, fun _ => Nat.le_of_eq (setRow_drawn w g _).symm⟩ (setRow_output w g _) (by simp) (fun c hc => setRow_other w g c _ hc) (o' := .row rt ei.size (ds.take es.length ++ es.drop ds.length)) (fun hx' => by
           refine ⟨q0, .inr ⟨g, cap, nw, by rw [hnl, f1], setRow_heap w g cur _ rt _ q1, by rw [hnl]; exact q2, q3, ?_, fun i c hc => ?_⟩⟩
           ·rw [hnw, ← q4]; simp at hfit ⊢; omega
           ·by_cases hi : i < min ds.length es.length
            ·have hc' : ds[i]? = some c := by
              rw [List.getElem?_append_left (by simp; omega), List.getElem?_take, if_pos (by omega)] at hc; exact hc
             obtain ⟨m1, m2⟩ := hac c (List.mem_of_getElem? hc')
             refine ⟨m1, cells_of_closed m2, fun j x hx => ?_⟩
             have hj : j < ei.size := by rw [← m1]; exact (List.getElem?_eq_some_iff.1 hx).1
             have hlt := row_pos hi hj
             have := n4 i c j x hc' hx
             rw [hget, if_pos (by rw [hm, hmin]; omega), List.getD_eq_getElem?_getD, List.getElem?_take, if_pos (by omega), ← List.getD_eq_getElem?_getD, Nat.sub_zero]
             exact hx'.rv0 this
            ·have hc' : es[i]? = some c := by
              rw [List.getElem?_append_right (by simp; omega), List.getElem?_drop] at hc
              rw [← hc]
              have hil : i < es.length := by
               have h3 := (List.getElem?_eq_some_iff.1 hc).1
               simp at h3; omega
              congr 1; simp; omega
             obtain ⟨m1, m2, m3⟩ := q5 i c hc'
             refine ⟨m1, m2, fun j x hx => ?_⟩
             have hge : min ds.length es.length * ei.size ≤ i * ei.size := Nat.mul_le_mul_right _ (by omega)
             rw [hget, if_neg (by rw [hm, hmin]; omega)]
             have := m3 j x hx
             simpa using hx'.rv0 this)
          refine ⟨_, _, _, .inl (runA f1 e1 hr), s1, s2, ?_⟩
          exact .int _ _ _
       ·exact h.elim
      ·rename_i id off n hx
       split at h
       ·rename_i bt cs hH
        cases hbb : Nat.beq ei.size 1 && Nat.ble (off + n) cs.length with
        | false => rw [hbb] at h; exact h.elim
        | true =>
         rw [hbb] at h
         simp only [cond_true] at h
         rw [Bool.and_eq_true] at hbb
         have esz := Nat.eq_of_beq_eq_true hbb.1
         have hle := Nat.le_of_ble_eq_true hbb.2
         obtain ⟨hac, h⟩ := h
         have hac' := hac
         rw [← esz] at hac
         refine ⟨_, _, fun M0 σ w ρ hs hop => ?_, h⟩
         have p1 := hop x (by simp [ho, Op.operands, Call.operands]); rw [hx] at p1
         have p2 := hop y (by simp [ho, Op.operands, Call.operands])
         obtain ⟨b, cap, f1, hcap, hσ⟩ := p1.asl_inv
         obtain ⟨q0, b', vs, e2, q1, q2, q3⟩ := hs.ok id _ _ hH hσ
         cases e2
         have hfl : ∀ c ∈ ds.take n, c.length = 1 := fun c hc => (hac' c (List.mem_of_mem_take hc)).1
         have hfn := flat_len hfl
         rw [List.length_take] at hfn
         rcases src_cells hs p2 hd hpos hac with ⟨e1, e0⟩ | ⟨ad, c, news, e1, n1, n2, n3, n4⟩
         ·subst e0
          have hr := run_copy_nil (P := P) w t t' o.type e ⟨b, off, none⟩ n cap hud' (by rw [z1]; rfl)
          have hself : H.set id (.box bt (splice cs off (([] : List (List AV)).take n).flatten)) = H := by
           have e : splice cs off (([] : List (List AV)).take n).flatten = cs := by simp [splice]
           rw [e]
           exact set_same hH
          rw [hself]
          exact ⟨_, _, _, .inl (runA f1 e1 hr), hs, Ext.refl _ _ _, by simp [goInt]; exact .int _ _ _⟩
         ·rw [esz, Nat.mul_one] at n1
          have hmin : Nat.min ds.length n = min ds.length n := rfl
          have hm : (news.take n).length = Nat.min ds.length n := by rw [List.length_take, n1, hmin]; omega
          have hfit : off + (news.take n).length ≤ vs.size := by rw [hm, hmin, q2]; omega
          have hr := run_copy_cells (P := P) w t t' o.type e b off 1 n cap ad ds.length c vs bt (news.take n) hud' (by rw [hsize, esz]) q1 (by rw [hm, Nat.mul_one]) (fun j u hj => n2 j u (by
           rw [List.getElem?_take] at hj; split at hj
           ·exact hj
           ·cases hj)) hfit (fun u hu => n3 u (List.mem_of_mem_take hu))
          obtain ⟨nw, hnw⟩ : ∃ nw, nw = (vs.toList.take off ++ news.take n ++ vs.toList.drop (off + (news.take n).length)).toArray := ⟨_, rfl⟩
          rw [← hnw] at hr
          have hfit' : off + (news.take n).length ≤ vs.toList.length := by simpa using hfit
          have hget : ∀ k, nw.getD k undef = if off ≤ k ∧ k < off + (news.take n).length then (news.take n).getD (k - off) undef else vs.toList.getD k undef := fun k => by
           rw [hnw]; exact spliceV_get _ _ hfit'
          have hsp : off + (ds.take n).flatten.length ≤ cs.length := by rw [hfn]; omega
          obtain ⟨s1, s2⟩ := hs.write (w' := w.setRow b nw) hH hσ rfl (b := b) rfl (setRow_os w b _) ⟨setRow_tape w b _, fun _ => Nat.le_of_eq (setRow_drawn w b _).symm⟩ (setRow_output w b _) (by simp) (fun c hc => setRow_other w b c _ hc) (o' := .box bt (splice cs off (ds.take n).flatten)) (fun hx' => by
           refine ⟨all_splice q0 ?_, b, nw, rfl, setRow_heap w b vs _ bt _ q1, ?_, fun j y hy => ?_⟩
           ·rw [List.all_eq_true]
            intro y hy
            obtain ⟨c, hc, hyc⟩ := List.mem_flatten.1 hy
            exact List.all_eq_true.1 (cells_of_closed (hac' c (List.mem_of_mem_take hc)).2) y hyc
           ·rw [splice_len hsp, hnw]; simp at hfit' ⊢; omega
           ·rw [splice_get hsp] at hy
            rw [hget]
            by_cases hin : off ≤ j ∧ j < off + (ds.take n).flatten.length
            ·rw [if_pos hin] at hy
             rw [if_pos (by rw [hm, hmin]; omega)]
             obtain ⟨c, g1, g2⟩ := flat_get hfl hy
             have hjn : j - off < n := by omega
             rw [List.getElem?_take, if_pos hjn] at g1
             have := n4 _ c 0 y g1 g2
             rw [esz, Nat.mul_one, Nat.add_zero] at this
             rw [List.getD_eq_getElem?_getD, List.getElem?_take, if_pos hjn, ← List.getD_eq_getElem?_getD]
             exact (hx'.rv0 this).mono (fun _ _ h => h) List.nil_prefix
            ·rw [if_neg hin] at hy
             rw [if_neg (by rw [hm, hmin]; omega)]
             have := hx'.rv (q3 j y hy)
             simpa using this)
          exact ⟨_, _, _, .inl (runA f1 e1 hr), s1, s2, .int _ _ _⟩
       ·exact h.elim
      ·exact h.elim
     ·exact h.elim
   ·exact h.elim
  ·exact h.elim
end
end Go.Ve
end

section
/- Maps, first text: keys that are structs or arrays of numbers, texts and Bools. -/
namespace Go.Ve

theorem LeafVs.len [Dr] {ks : List LK} {vs : List Value} (h : LeafVs ks vs) : vs.length = ks.length := by
 induction h with
 | nil => rfl
 | cons _ _ ih => simp [ih]
theorem ba_ext [Dr] {a b : ByteArray} : (a.toList == b.toList) = true ↔ a = b := by
 rw [beq_iff_eq]
 refine ⟨fun h => ?_, fun h => by rw [h]⟩
 have e1 : ∀ x : ByteArray, x.data.toList = x.toList := fun x => (ByteArray.toList_eq x).symm
 have : a.data.toList = b.data.toList := by rw [e1, e1, h]
 cases a; cases b
 simpa using this
theorem LeafV.eq [Dr] {k : LK} {a b : Value} (h1 : LeafV k a) (h2 : LeafV k b) : ∃ r, LeafEq k a b r ∧ (r = true ↔ a = b) := by
 cases h1 with
 | int k a => cases h2 with | int _ b => exact ⟨_, .int k a b, by simp⟩
 | bool a => cases h2 with | bool b => exact ⟨_, .bool a b, by simp⟩
 | str a => cases h2 with | str b => exact ⟨_, .str a b, by rw [ba_ext]; simp⟩
theorem LeafVs.eq [Dr] {ks : List LK} {xs ys : List Value} (h1 : LeafVs ks xs) (h2 : LeafVs ks ys) : ∃ r, LeafEqs ks xs ys r ∧ (r = true ↔ xs = ys) := by
 induction h1 generalizing ys with
 | nil => cases h2 with | nil => exact ⟨_, .nil, by simp⟩
 | cons h t ih =>
  cases h2 with
  | cons h' t' =>
   obtain ⟨r, k1, k2⟩ := h.eq h'
   obtain ⟨s, k3, k4⟩ := ih t'
   exact ⟨_, .cons k1 k3, by rw [Bool.and_eq_true, k2, k4, List.cons.injEq]⟩

/-! ### a key is looked at -/
def Shape (P : Program) (t : TypeId) (v : Value) : Prop := (match P.underlying t with | some (.struct _) => True | some (.array _ _) => True | _ => False) → ∃ cs : Array Value, v = .agg cs ∧ cs.size = szOf P t
theorem ck_part [Dr] {P : Program} {n : Nat} {e : TypeId} (h : ckB P n e = true) (cs : Array Value) {off : Nat} (hoff : off + szOf P e ≤ cs.size) (w : World) :
  ∃ v, (part e cs off).run P w = .ok v w ∧ Shape P e v := by
 cases n with
 | zero => cases h
 | succ n =>
  unfold ckB at h
  rw [Bool.and_eq_true] at h
  obtain ⟨pi, hpi⟩ := Option.isSome_iff_exists.1 h.1
  have hsz : szOf P e = pi.size := by unfold szOf Program.cellsOf; rw [hpi]; rfl
  have h2 := h.2
  cases hu : P.underlying e with
  | none => rw [hu] at h2; cases h2
  | some kd =>
   rw [hu] at h2
   have plain : Nat.beq (szOf P e) 1 = true → (isAgg e).run P w = .ok false w → (match some kd with | some (.struct _) => True | some (.array _ _) => True | _ => False : Prop) = False → ∃ v, (part e cs off).run P w = .ok v w ∧ Shape P e v := fun h1 ha hs => by
    have h1 := Nat.eq_of_beq_eq_true h1
    have hlt : off < cs.size := by omega
    refine ⟨cs[off], by simp [part, ha, hlt, Result.andThen], fun hx => ?_⟩
    rw [hu] at hx
    rw [hs] at hx; exact hx.elim
   have agg : (isAgg e).run P w = .ok true w → ∃ v, (part e cs off).run P w = .ok v w ∧ Shape P e v := fun ha => by
    refine ⟨.agg (cs.extract off (off + pi.size)), by simp [part, ha, Go.sizeOf, typeInfo, hpi, Result.andThen], fun _ => ⟨_, rfl, ?_⟩⟩
    rw [Array.size_extract, hsz]; omega
   cases kd <;> first
    | (cases h2; done)
    | exact plain h2 (by simp [isAgg, run_underlying hu]) rfl
    | exact agg (by simp [isAgg, run_underlying hu])
theorem ck_run [Dr] {P : Program} (em : Bool) (d : Nat) : ∀ (n : Nat) (t : TypeId), ckB P n t = true → ∀ (w : World) (v : Value), Shape P t v → (Instr.checkKey em (d + n) t v).run P w = .ok () w
 | 0, _, h => by cases h
 | n + 1, t, h => by
  intro w v hv
  unfold ckB at h
  rw [Bool.and_eq_true] at h
  have h2 := h.2
  rw [show d + (n + 1) = (d + n) + 1 from rfl, Instr.checkKey]
  unfold Shape at hv
  cases hu : P.underlying t with
  | none => rw [hu] at h2; cases h2
  | some kd =>
   rw [hu] at h2 hv
   cases kd
   case struct fs =>
    obtain ⟨cs, rfl, hcs⟩ := hv trivial
    simp only [Sem.run_bind, run_underlying hu, Result.andThen_ok]
    rw [← Array.forIn_toList]
    rw [List.all_eq_true] at h2
    generalize fs.toList = L at h2
    induction L with
    | nil => simp
    | cons f L ih =>
     have hf := h2 f (by simp)
     rw [Bool.and_eq_true] at hf
     have hle := Nat.le_of_ble_eq_true hf.2
     obtain ⟨x, p1, p2⟩ := ck_part hf.1 cs (off := f.offset) (by omega) w
     have p3 := ck_run em d n f.type hf.1 w x p2
     have ih' := ih (fun y hy => h2 y (List.mem_cons_of_mem _ hy))
     by_cases hn : f.name = "_"
     ·simp only [List.forIn_cons, Sem.run_bind, hn, ne_eq, not_true_eq_false, if_false, Result.andThen_ok, Sem.run_pure]
      exact ih'
     ·simp only [List.forIn_cons, Sem.run_bind, hn, ne_eq, not_false_eq_true, if_true, Result.andThen_ok, p1, p3, Sem.run_pure]
      exact ih'
   case array len e =>
    obtain ⟨cs, rfl, hcs⟩ := hv trivial
    rw [Bool.and_eq_true] at h2
    have hle := Nat.le_of_ble_eq_true h2.2
    have hinf : ∃ i, P.info? e = some i := by
     cases n with
     | zero => cases h2.1
     | succ n =>
      have := h2.1
      unfold ckB at this
      rw [Bool.and_eq_true] at this
      exact Option.isSome_iff_exists.1 this.1
    obtain ⟨i, hi⟩ := hinf
    simp only [Sem.run_bind, run_underlying hu, Result.andThen_ok]
    simp only [Std.Legacy.Range.forIn_eq_forIn_range', Std.Legacy.Range.size, Nat.sub_zero, Nat.add_one_sub_one, Nat.div_one]
    have each : ∀ j ∈ List.range' 0 len, j < len := fun j hj => by
     have := List.mem_range'.1 hj; omega
    generalize List.range' 0 len = is at each
    induction is with
    | nil => simp
    | cons j is ih =>
     have hj := each j (by simp)
     have hb : (j + 1) * szOf P e ≤ len * szOf P e := Nat.mul_le_mul_right _ hj
     rw [Nat.add_mul, Nat.one_mul] at hb
     obtain ⟨x, p1, p2⟩ := ck_part h2.1 cs (off := j * P.cellsOf e) (by show j * szOf P e + szOf P e ≤ _; omega) w
     have p3 := ck_run em d n e h2.1 w x p2
     simp only [List.forIn_cons, Sem.run_bind, run_sizeOf w hi, Result.andThen_ok, p1, p3, Sem.run_pure]
     exact ih (fun y hy => each y (List.mem_cons_of_mem _ hy))
   all_goals first
    | (cases h2; done)
    | (simp only [Sem.run_bind, run_underlying hu, Result.andThen_ok]; cases v <;> rfl)

/-! ### what a key's type gives -/
structure KeyT (P : Program) (k : TypeId) (ks : List LK) : Prop where
 check : ∀ (em : Bool) (w : World) (vs : List Value), LeafVs ks vs → (Instr.checkKey em 10000 k (.agg vs.toArray)).run P w = .ok () w
 find : ∀ (w : World) (vs : List Value) (es : List MapEntry), LeafVs ks vs → (∀ e ∈ es, ∃ us : List Value, e.key = .agg us.toArray ∧ LeafVs ks us) →
  ((Instr.findKey k (.agg vs.toArray) es).run P w = .ok none w ∧ ∀ e ∈ es, e.key ≠ .agg vs.toArray) ∨ ∃ j e, (Instr.findKey k (.agg vs.toArray) es).run P w = .ok (some (j, e.val)) w ∧ es[j]? = some e ∧ e.key = .agg vs.toArray
 stays : ∀ (w : World) (vs : List Value), LeafVs ks vs → (Instr.keyThatStays (.agg vs.toArray) (.agg vs.toArray)).run P w = .ok (.agg vs.toArray) w

theorem findAsking_leaf [Dr] {P : Program} {k : TypeId} {ks : List LK} (heq : ∀ (w : World) (xs ys : List Value) (r : Bool), LeafEqs ks xs ys r → (Op.equalIn 10000 k (.agg xs.toArray) (.agg ys.toArray)).run P w = .ok r w) (w : World) {vs : List Value} (hv : LeafVs ks vs) :
  ∀ (es : List MapEntry) (i : Nat), (∀ e ∈ es, ∃ us : List Value, e.key = .agg us.toArray ∧ LeafVs ks us) →
   ((Instr.findAsking k (.agg vs.toArray) es i).run P w = .ok none w ∧ ∀ e ∈ es, e.key ≠ .agg vs.toArray) ∨ ∃ j e, (Instr.findAsking k (.agg vs.toArray) es i).run P w = .ok (some (i + j, e.val)) w ∧ es[j]? = some e ∧ e.key = .agg vs.toArray
 | [], i, _ => .inl ⟨by simp [Instr.findAsking], by simp⟩
 | e :: es, i, hall => by
  obtain ⟨us, he, hu⟩ := hall e (by simp)
  obtain ⟨r, h1, h2⟩ := hv.eq hu
  have hr : (Op.equal k (.agg vs.toArray) e.key).run P w = .ok r w := by rw [he]; exact heq w _ _ _ h1
  cases r with
  | true =>
   refine .inr ⟨0, e, by simp [Instr.findAsking, hr], rfl, ?_⟩
   rw [he, h2.1 rfl]
  | false =>
   have hne : e.key ≠ .agg vs.toArray := fun hc => by
    rw [he] at hc
    have : us = vs := by simpa using hc
    have := h2.2 this.symm
    cases this
   rcases findAsking_leaf heq w hv es (i + 1) (fun y hy => hall y (List.mem_cons_of_mem _ hy)) with ⟨k1, k2⟩ | ⟨j, e', k1, k2, k3⟩
   ·refine .inl ⟨by simp [Instr.findAsking, hr, k1], fun y hy => ?_⟩
    rcases List.mem_cons.1 hy with rfl | hy
    ·exact hne
    ·exact k2 y hy
   ·exact .inr ⟨j + 1, e', by simp [Instr.findAsking, hr, k1, Nat.add_assoc, Nat.add_comm 1 j], by simpa using k2, k3⟩
theorem keyT_of [Dr] {P : Program} {k : TypeId} {i : TI} (ht : TyOk P k i) (hne : i.eqk ≠ []) (hsz : i.size = i.eqk.length) {n : Nat} (hn : n ≤ 10000) (hc : ckB P n k = true) (hag : (match P.underlying k with | some (.array _ _) | some (.struct _) => true | _ => false) = true) : KeyT P k i.eqk where
 check em w vs hv := by
  have h1 : szOf P k = i.size := by
   obtain ⟨pi, z, h1, h2, _⟩ := ht.get
   unfold szOf Program.cellsOf; rw [h1]; exact h2
  have := ck_run em (10000 - n) n k hc w (.agg vs.toArray) fun _ => ⟨_, rfl, by rw [h1, hsz]; simpa using hv.len⟩
  rwa [show 10000 - n + n = 10000 by omega] at this
 find w vs es hv hall := by
  rw [run_findKey_eq w hag]
  rcases findAsking_leaf (ht.eq hne).2 w hv es 0 hall with h | ⟨j, e, h1, h2, h3⟩
  ·exact .inl h
  ·exact .inr ⟨j, e, by simpa using h1, h2, h3⟩
 stays w vs hv := by
  have hs : Instr.sameBits 10000 (.agg vs.toArray) (.agg vs.toArray) = true := by
   show Instr.sameBits (9999 + 1) (.agg vs.toArray) (.agg vs.toArray) = true
   simp only [Instr.sameBits, beq_self_eq_true, Bool.true_and, List.all_eq_true]
   clear ht hc
   generalize i.eqk = ks at hv
   induction hv with
   | nil => intro p hp; simp at hp
   | cons h t ih =>
    intro p hp
    simp only [List.zip_cons_cons, List.mem_cons] at hp
    rcases hp with rfl | hp
    ·cases h <;> simp [Instr.sameBits, beq_toListBytes]
    ·exact ih p (by simpa using hp)
  simp [Instr.keyThatStays, hs]

/-! ### an operation's step -/
section
variable {P : Program} {T : TT} {o : Oper} {ev : Operand → AV} {H : Hp} {K : KV}
def Goes (P : Program) (o : Oper) (ρ : Operand → Value) (w : World) (N : Value → World → Prop) : Prop :=
 ∀ (rd : Option Nat) (a : Act) (next : Act → World → Prop) (Q : Exit → Act → World → Prop), (∀ v w', N v w' → next (a.put o.dst v) w') → o.uponIn (Fr rd) 0 P a next Q ((o.semAt rd ρ).run P w)
def StepTo [Dr] (P : Program) (o : Oper) (ev : Operand → AV) (H : Hp) (R : AV → Hp → Prop) : Prop :=
 ∀ (M0 : Nat → Prop) (σ : List Value) (w : World) (ρ : Operand → Value), St M0 H σ w → (∀ x ∈ o.op.operands, Rv (Kof M0 H σ w) σ (ev x) (ρ x)) →
  Goes P o ρ w fun v w' => ∃ r H' σ', St M0 H' σ' w' ∧ Ext H σ w H' σ' w' ∧ Rv (Kof M0 H' σ' w') σ' r v ∧ R r H'

theorem Goes.ran [Dr] {ρ : Operand → Value} {w w' : World} {v : Value} {N : Value → World → Prop} (hnd : ∀ c, o.op ≠ .defer c) (h : Ran P o ρ w v w') (hN : N v w') : Goes P o ρ w N := by
 intro rd a next Q hn
 rw [Oper.semAt_eq _ _ _ hnd]
 rcases h with h | ⟨h, rfl⟩
 ·rw [h]; exact hn _ _ hN
 ·rw [h]; exact hn _ _ hN

end
end Go.Ve
end
