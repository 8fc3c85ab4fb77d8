/- An abstract weakest precondition, second text: how abstract states stand to worlds; contracts; what code asks of an abstract state. -/
import Derived.Test.YtlmdacgkaailiaaDoorVeA
namespace Go.Ve

/-- How an abstract value stands to a value: K is what constant memory holds, σ the call's own objects as values. -/
inductive Rv (K : Addr → Value → Prop) : List Value → AV → Value → Prop
  | undef (σ : List Value) (v : Value) : Rv K σ .undef v
  | und (σ : List Value) : Rv K σ .und undef
  | int (σ : List Value) (k : IntKind) (n : Int) : Rv K σ (.int k n) (.int k n)
  | bool (σ : List Value) (b : Bool) : Rv K σ (.bool b) (.bool b)
  | str (σ : List Value) (s : Bs) : Rv K σ (.str s) (.string ⟨s.toArray⟩)
  | nils (σ : List Value) : Rv K σ .nils (.slice none 0 0)
  | sl0 (σ : List Value) : Rv K σ (.sl []) (.slice none 0 0)
  | sl (σ : List Value) (es : List (List AV)) (a : Addr) (cap sz : Nat) (val : Nat → Nat → Value) (hcap : es.length ≤ cap) (hlen : es.length ≤ 9223372036854775807)
      (hsz : ∀ c ∈ es, c.length = sz ∧ c.all isCell = true) (hv : ∀ i j c x, es[i]? = some c → c[j]? = some x → Rv K [] x (val i j))
      (hK : ∀ i j, i < es.length → j < sz → K (a.add (i * sz + j)) (val i j)) : Rv K σ (.sl es) (.slice (some a) es.length cap)
  | own (σ : List Value) (id : Nat) (v : Value) (h : σ[id]? = some v) (h1 : v.oneCell' = true) : Rv K σ (.own id) v
  | cptr (σ : List Value) (cs : List AV) (a : Addr) (val : Nat → Value) (h1 : cs.all isCell = true) (hv : ∀ j x, cs[j]? = some x → Rv K [] x (val j))
      (hK : ∀ j, j < cs.length → K (a.add j) (val j)) : Rv K σ (.cptr cs) (.pointer (some a))
  | ptr (σ : List Value) (id off b : Nat) (h : σ[id]? = some (.pointer (some ⟨b, 0, none⟩))) : Rv K σ (.ptr id off) (.pointer (some ⟨b, off, none⟩))
  | eptr (σ : List Value) (id i sz off g n cap : Nat) (h : σ[id]? = some (.slice (some ⟨g, 0, none⟩) n cap)) : Rv K σ (.eptr id i sz off) (.pointer (some ⟨g, i * sz + off, none⟩))
  | nilp (σ : List Value) : Rv K σ .nilp (.pointer none)
  | agg (σ : List Value) (cs : List AV) (vs : Array Value) (hl : vs.size = cs.length) (h1 : cs.all isCell = true) (hv : ∀ j x, cs[j]? = some x → Rv K σ x (vs.getD j undef)) : Rv K σ (.agg cs) (.agg vs)
  | tup (σ : List Value) (cs : List AV) (vs : Array Value) (hl : vs.size = cs.length) (hv : ∀ j x, cs[j]? = some x → Rv K σ x (vs.getD j undef)) : Rv K σ (.tup cs) (.tuple vs)
  | fn (σ : List Value) (f : FuncId) (cs : List AV) (vs : Array Value) (hl : vs.size = cs.length) (hv : ∀ j x, cs[j]? = some x → Rv K σ x (vs.getD j undef)) : Rv K σ (.fn f cs) (.func (.func f) #[] vs)
  | nilf (σ : List Value) : Rv K σ .nilf .nilFunc
  | nili (σ : List Value) : Rv K σ .nili .nilIface
  | ifc (σ : List Value) (t : TypeId) (x : AV) (v : Value) (h : Rv K σ x v) : Rv K σ (.ifc t x) (.iface t v)

def blkOf : Value → Option Nat
  | .pointer (some a) => some a.block
  | .slice (some a) _ _ => some a.block
  | _ => none
def live : Ob → Bool
  | .box _ _ | .row _ _ _ => true
  | _ => false
/-- The blocks that the call may write. -/
def Mb (H : Hp) (σ : List Value) (b : Nat) : Prop := ∃ (i : Nat) (o : Ob) (v : Value), H[i]? = some o ∧ live o = true ∧ σ[i]? = some v ∧ blkOf v = some b
/-- What constant memory holds: M0 are blocks that others may write. -/
def Cst (M0 : Nat → Prop) (w : World) : Addr → Value → Prop := fun a v => ¬ M0 a.block ∧ w.cell? a = some v
def Kof (M0 : Nat → Prop) (H : Hp) (σ : List Value) (w : World) : Addr → Value → Prop := Cst (fun b => M0 b ∨ Mb H σ b) w

def ObOk (K : Addr → Value → Prop) (σ : List Value) (w : World) : Ob → Value → Prop
  | .box t cs, v => cs.all isCell = true ∧ ∃ b vs, v = .pointer (some ⟨b, 0, none⟩) ∧ w.heap[b]? = some (.cells vs t (0, 0)) ∧ vs.size = cs.length ∧ ∀ j x, cs[j]? = some x → Rv K σ x (vs.getD j undef)
  | .row t sz es, v => 0 < sz ∧ ∃ g cap cur, v = .slice (some ⟨g, 0, none⟩) es.length cap ∧ w.heap[g]? = some (.cells cur t (0, 0)) ∧ es.length ≤ cap ∧ cap ≤ 9223372036854775807 ∧ cur.size = cap * sz ∧
      ∀ i c, es[i]? = some c → c.length = sz ∧ c.all isCell = true ∧ ∀ j x, c[j]? = some x → Rv K [] x (cur.getD (i * sz + j) undef)
  | .frz es, v => Rv K [] (.sl es) v
  | .dead, _ => True

/-- The block of the one package variable that the library's contracts ask for, if the seat has it. -/
def gblk : Option Nat := (some 0)
/-- An abstract heap stands to a world. -/
structure St (M0 : Nat → Prop) (H : Hp) (σ : List Value) (w : World) : Prop where
  len : σ.length = H.length
  ok : ∀ (i : Nat) (o : Ob) (v : Value), H[i]? = some o → σ[i]? = some v → ObOk (Kof M0 H σ w) σ w o v
  dist : ∀ (i j : Nat) (o o' : Ob) (v v' : Value) (b : Nat), i ≠ j → H[i]? = some o → H[j]? = some o' → live o = true → live o' = true → σ[i]? = some v → σ[j]? = some v' → blkOf v = some b → blkOf v' ≠ some b
  sep : ∀ b, Mb H σ b → ¬ M0 b
  old : ∀ b, M0 b → b < w.heap.size
  glob : ∀ b, gblk = some b → ∃ m, Kof M0 H σ w ⟨b, 0, none⟩ (.int .i64 m)

/-- What has become of a world: nothing but the call's own objects has turned. -/
structure Ext (H : Hp) (σ : List Value) (w : World) (H' : Hp) (σ' : List Value) (w' : World) : Prop where
  os : w'.os = w.os
  tape : w'.tape = w.tape
  output : w'.output = w.output
  size : w.heap.size ≤ w'.heap.size
  pre : σ <+: σ'
  keep : ∀ b, b < w.heap.size → ¬ Mb H σ b → w'.heap[b]? = w.heap[b]?
  mutb : ∀ b, b < w.heap.size → Mb H' σ' b → Mb H σ b

def Rvs (K : Addr → Value → Prop) (σ : List Value) (as : List AV) (vs : List Value) : Prop := vs.length = as.length ∧ ∀ i x, as[i]? = some x → Rv K σ x (vs.getD i undef)

/-- A call of function f is a call of code. -/
def Callable (P : Program) (f : FuncId) : Prop := ∀ (args : Array Value) (w : World), (callFunc f args).run P w = .ok (.enter f args) w

/-- The contract of a call: at these arguments, over this heap, it returns, and K holds of what it returns and of the heap behind it. -/
@[irreducible] def ACall (P : Program) (f : FuncId) (args : List AV) (H : Hp) (K : KV) : Prop :=
  Callable P f ∧ ∀ (M0 : Nat → Prop) (σ : List Value) (w : World) (vs : List Value), St M0 H σ w → Rvs (Kof M0 H σ w) σ args vs →
    Calls P f vs.toArray w fun e w' => ∃ v r H' σ', e = .returned v ∧ St M0 H' σ' w' ∧ Ext H σ w H' σ' w' ∧ Rv (Kof M0 H' σ' w') σ' r v ∧ K r H'

/-- The contract of a function that touches nothing and hands back a value that names no object: whatever others may write, if it isn't among the arguments, it isn't in the result. -/
@[irreducible] def PCall (P : Program) (f : FuncId) (args : List AV) (r : AV) : Prop :=
  Callable P f ∧ ∀ (M0 : Nat → Prop) (w : World) (vs : List Value), (∀ b, M0 b → b < w.heap.size) → (∀ b, gblk = some b → ∃ m, Cst M0 w ⟨b, 0, none⟩ (.int .i64 m)) → Rvs (Cst M0 w) [] args vs →
    Calls P f vs.toArray w fun e w' => ∃ v, e = .returned v ∧ Go.RowKit.Below w.heap.size w w' ∧ Rv (Cst M0 w') [] r v

/-! ### regions -/
def putD (n : Nat) (e : Env) (dst : Option Nat) (v : AV) (K : Env → Prop) : Prop :=
  match dst with
  | none => K e
  | some d => bif Nat.blt d n then forceV v fun u => K (upd e d u) else False

def aguard (ops : List Oper) (e : Env) (o : Oper) (yes no : Prop) : Prop :=
  match o.guard with
  | none => yes
  | some (g, want) =>
    match ops[g]? with
    | none => False
    | some og =>
      match og.dst with
      | none => False
      | some d =>
        match e d with
        | .bool b => (match b with
          | true => bif want then yes else no
          | false => bif want then no else yes)
        | .und => no
        | _ => False

/-- The function and the captured values of a call. -/
def calleeOf (e : Env) (o : Op) : Option (FuncId × List AV) :=
  match o with
  | .call c => (match c.callee with
    | .value f => (match evalO e f with
      | .fn g cap => some (g, c.args.toList.map (evalO e) ++ cap)
      | _ => none)
    | _ => none)
  | _ => none

def aoper (P : Program) (T : TT) (o : Oper) (e : Env) (H : Hp) (K : KV) : Prop :=
  match calleeOf e o.op with
  | some (g, args) => ACall P g args H K
  | none => aop T true o.op (evalO e) H K

/-- A stop for the reduction: one operation at a time. -/
structure Box (p : Prop) : Prop where
  h : p

noncomputable def aops (P : Program) (T : TT) (n : Nat) (ops : List Oper) (l : List Oper) : Env → Hp → (Env → Hp → Prop) → Prop :=
  List.rec (motive := fun _ => Env → Hp → (Env → Hp → Prop) → Prop) (fun e H K => K e H)
    (fun o _ ih e H K => aguard ops e o (aoper P T o e H fun v H' => forceH H' fun H2 => putD n e o.dst v fun e' => Box (ih e' H2 K)) (putD n e o.dst .und fun e' => Box (ih e' H K))) l
theorem aops_nil {P : Program} {T : TT} {n : Nat} {ops : List Oper} {e : Env} {H : Hp} {K : Env → Hp → Prop} : aops P T n ops [] e H K = K e H := rfl
theorem aops_cons {P : Program} {T : TT} {n : Nat} {ops : List Oper} {o : Oper} {rest : List Oper} {e : Env} {H : Hp} {K : Env → Hp → Prop} :
    aops P T n ops (o :: rest) e H K = aguard ops e o (aoper P T o e H fun v H' => forceH H' fun H2 => putD n e o.dst v fun e' => Box (aops P T n ops rest e' H2 K)) (putD n e o.dst .und fun e' => Box (aops P T n ops rest e' H K)) := rfl

/-- In a region that draws, a call has one result and turns nothing. -/
def aoperD (P : Program) (T : TT) (o : Oper) (e : Env) (H : Hp) (K : KV) : Prop :=
  match calleeOf e o.op with
  | some (g, args) => ∃ r, ACall P g args H (fun r' H' => r' = r ∧ H' = H) ∧ K r H
  | none => aop T false o.op (evalO e) H K
noncomputable def aopsD (P : Program) (T : TT) (n : Nat) (ops : List Oper) (l : List Oper) : Env → Hp → (Env → Hp → Prop) → Prop :=
  List.rec (motive := fun _ => Env → Hp → (Env → Hp → Prop) → Prop) (fun e H K => K e H)
    (fun o _ ih e H K => aguard ops e o (aoperD P T o e H fun v H' => forceH H' fun H2 => putD n e o.dst v fun e' => Box (ih e' H2 K)) (putD n e o.dst .und fun e' => Box (ih e' H K))) l
theorem aopsD_nil {P : Program} {T : TT} {n : Nat} {ops : List Oper} {e : Env} {H : Hp} {K : Env → Hp → Prop} : aopsD P T n ops [] e H K = K e H := rfl
theorem aopsD_cons {P : Program} {T : TT} {n : Nat} {ops : List Oper} {o : Oper} {rest : List Oper} {e : Env} {H : Hp} {K : Env → Hp → Prop} :
    aopsD P T n ops (o :: rest) e H K = aguard ops e o (aoperD P T o e H fun v H' => forceH H' fun H2 => putD n e o.dst v fun e' => Box (aopsD P T n ops rest e' H2 K)) (putD n e o.dst .und fun e' => Box (aopsD P T n ops rest e' H K)) := rfl

/-- What an operation does to the heap: nothing and doesn't look (0), looks (1), writes (2). -/
def heapUse : Op → Nat
  | .move _ | .assign _ | .pick _ _ _ | .nilCheck _ | .binOp _ _ _ _ _ | .unOp _ _ _ | .makeFunc _ _ _ | .fieldAddr _ _ _ | .field _ _ _ | .index _ _ _ | .extract _ _ | .build _ _ => 0
  | .load _ _ | .indexAddr _ _ _ | .convert _ _ _ => 1
  | .call c => (match c.callee with | .builtin .append => 2 | .builtin .min => 0 | .builtin .max => 0 | _ => 1)
  | _ => 2

/-- Which earlier operations an operation waits for, by edges and by their edges. -/
def waits (ops : List Oper) : List (List Nat) :=
  ops.foldl (fun acc o => acc ++ [(o.after.toList.filter (Region.binds .any)).foldl (fun l e => e.on :: ((acc[e.on]?).getD [] ++ l)) []]) []

def looks (ops : List Oper) (o : Oper) : List Tmp := o.looksAt ops.toArray

/-- Every order that the edges allow comes to the same: (a) what an operation reads was written before it, and it waits for that, and nobody writes it later or twice; (b) the operations that write the heap stand in one chain, and those that look at it wait for all that write it earlier and are waited for by all that write it later. -/
def drawOk (ops : List Oper) : Bool :=
  let W := waits ops
  let ix := (List.range ops.length).zip ops
  ix.all fun (i, o) =>
    (o.after.toList.all fun e => !Region.binds .any e || Nat.blt e.on i) &&
    ix.all fun (j, p) =>
      (Nat.beq i j ||
        ((match p.dst with
          | some d => (!(looks ops o).contains d || (Nat.blt j i && ((W[i]?).getD []).contains j)) && (o.dst != some d)
          | none => true) &&
        (!(Nat.blt j i) || !((Nat.beq (heapUse o.op) 2 && !Nat.beq (heapUse p.op) 0) || (Nat.beq (heapUse p.op) 2 && !Nat.beq (heapUse o.op) 0)) || ((W[i]?).getD []).contains j)))

/-! ### code -/
inductive AX where
  | normal
  | exit (id : Nat)
  | ret
abbrev AQ := AX → AS → Prop

structure ActOk (K : Addr → Value → Prop) (σ : List Value) (n : Nat) (e : Env) (a : Act) : Prop where
  size : a.tmps.size = n
  defers : a.defers = []
  rv : ∀ i, Rv K σ (e i) (a.tmps.getD i undef)

/-- One abstract state says no more than another, of the same world and slots: the first N0 objects keep their numbers. -/
def Weak (N0 : Nat) (s s' : AS) : Prop := ∀ (M0 : Nat → Prop) (σ : List Value) (w : World) (n : Nat) (a : Act), N0 ≤ σ.length → St M0 s.H σ w → ActOk (Kof M0 s.H σ w) σ n s.env a →
  ∃ σ', σ.take N0 <+: σ' ∧ (∀ b, Mb s'.H σ' b → Mb s.H σ b) ∧ St M0 s'.H σ' w ∧ ActOk (Kof M0 s'.H σ' w) σ' n s'.env a

def afterQ (K : AS → Prop) (Q : AQ) : AQ := fun x s => match x with
  | .normal => K s
  | x => Q x s
@[irreducible] def ALoop (B : AQ → AS → Prop) (Q : AQ) (s : AS) : Prop :=
  ∃ (ι : Type) (I : ι → Prop) (shape : ι → AS) (μ : ι → Nat), (∃ i, I i ∧ Weak s.H.length s (shape i)) ∧ ∀ i, I i → B (afterQ (fun s'' => ∃ j, I j ∧ μ j < μ i ∧ Weak s.H.length s'' (shape j)) Q) (shape i)

def awpRegion (P : Program) (T : TT) (n : Nat) (ops : List Oper) (Q : AQ) (s : AS) : Bool → Prop
  | false => aops P T n ops ops s.env s.H fun e H => Q .normal ⟨e, H⟩
  | true => drawOk ops = true ∧ aopsD P T n ops ops s.env s.H fun e H => Q .normal ⟨e, H⟩
def blockQ (id : Nat) (Q : AQ) : AQ := fun x s => match x with
  | .exit i => bif Nat.beq i id then Q .normal s else Q (.exit i) s
  | x => Q x s
def condQ (v : AV) (p q : Prop) : Prop := match v with
  | .bool t => (match t with | true => p | false => q)
  | _ => False

noncomputable def AWP (P : Program) (T : TT) (n : Nat) (c : Code) : AQ → AS → Prop :=
  Code.rec (motive := fun _ => AQ → AS → Prop)
    (fun Q s => Q .normal s)
    (fun _ ops d Q s => awpRegion P T n ops.toList Q s d)
    (fun _ _ iha ihb Q s => iha (afterQ (fun s' => Box (ihb Q s')) Q) s)
    (fun c _ _ iha ihb Q s => condQ (evalO s.env c) (Box (iha Q s)) (Box (ihb Q s)))
    (fun id _ ih Q s => ih (blockQ id Q) s)
    (fun _ ih Q s => ALoop ih Q s)
    (fun _ _ _ _ _ _ _ _ => False)
    (fun id Q s => Q (.exit id) s)
    (fun _ ih Q s => ih Q s)
    (fun _ _ _ => False)
    (fun _ _ _ => False)
    (fun Q s => Q .ret s)
    (fun _ _ _ => False) c

/-! ### a function's results -/
/-- A value that names no object any more. -/
def view1 (H : Hp) : AV → Option AV
  | .own id => (rowOf H[id]?).map .sl
  | .ptr id off => (match H[id]? with
    | some (.box _ cs) => bif cs.all closed1 then some (.cptr (cs.drop off)) else none
    | _ => none)
  | .agg cs => bif cs.all closed1 then some (.agg cs) else none
  | .fn f cs => bif cs.all closed1 then some (.fn f cs) else none
  | x => bif closed1 x then some x else none

def resOf (T : TT) (s : AS) : ResultVar → (AV → Prop) → Prop
  | .tmp t, K => K (s.env t)
  | .cell a t, K => aload T t (s.env a) s.H fun v _ => K v
def resOfs (T : TT) (s : AS) : List ResultVar → (List AV → Prop) → Prop
  | [], K => K []
  | r :: rest, K => resOf T s r fun v => resOfs T s rest fun vs => K (v :: vs)
def viewAll (H : Hp) : List AV → Option (List AV)
  | [] => some []
  | x :: rest => match view1 H x with
    | some y => (viewAll H rest).map (y :: ·)
    | none => none
def mkRes : List AV → AV
  | [x] => x
  | xs => .tup xs

/-- What is asked at a function's end, of a function that touches nothing. -/
def PEnd (T : TT) (rs : List ResultVar) (r : AV) (s : AS) : Prop := resOfs T s rs fun vs => match viewAll s.H vs with
  | some us => forceL us fun us' => mkRes us' = r
  | none => False
def PPost (T : TT) (rs : List ResultVar) (r : AV) : AQ := fun x s => match x with
  | .exit _ => False
  | _ => PEnd T rs r s

def env0 (args : List AV) : Env := fun i => args.getD i .undef

end Go.Ve
