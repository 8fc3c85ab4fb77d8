/- An abstract weakest precondition, fourth text: types; what each plain operation does. -/
import Derived.Test.YtlmdacgkaailiaaDoorVeC
import Derived.Great.BuildSlice
import Derived.Laws.OwnMore
import Derived.Laws.BytesString
import Derived.Lib.ConvBytes
import Derived.Deep.MidRow
import Derived.Laws.Cover1
namespace Go.Ve
open Go.RowKit (Below)

/-! ### types -/
def toV : AV → Value
  | .int k n => .int k n
  | .bool b => .bool b
  | .str s => .string ⟨s.toArray⟩
  | .nils => .slice none 0 0
  | .nilp => .pointer none
  | .nilf => .nilFunc
  | .nili => .nilIface
  | _ => undef
def simple1 : AV → Bool
  | .int _ _ | .bool _ | .str _ | .nils | .nilp | .nilf | .nili => true
  | _ => false
theorem Rv.toV {K : Addr → Value → Prop} {σ : List Value} {x : AV} (h : simple1 x = true) : Rv K σ x (toV x) := by
  cases x <;> first
    | exact .int _ _ _
    | exact .bool _ _
    | exact .str _ _
    | exact .nils _
    | exact .nilp _
    | exact .nili _
    | exact .nilf _
    | (simp [simple1] at h; done)
theorem cell_of_simple {x : AV} (h : simple1 x = true) : isCell x = true := by cases x <;> simp_all [simple1, isCell]
theorem closed_of_simple {x : AV} (h : simple1 x = true) : closed1 x = true := by cases x <;> simp_all [simple1, closed1]

inductive LeafEq : LK → Value → Value → Bool → Prop
  | int (k : IntKind) (a b : Int) : LeafEq (.int k) (.int k a) (.int k b) (a == b)
  | bool (a b : Bool) : LeafEq .bool (.bool a) (.bool b) (a == b)
  | str (a b : ByteArray) : LeafEq .str (.string a) (.string b) (a.toList == b.toList)
inductive LeafEqs : List LK → List Value → List Value → Bool → Prop
  | nil : LeafEqs [] [] [] true
  | cons {k : LK} {a b : Value} {r s : Bool} {ks : List LK} {xs ys : List Value} (h : LeafEq k a b r) (t : LeafEqs ks xs ys s) : LeafEqs (k :: ks) (a :: xs) (b :: ys) (r && s)

def UndOk (P : Program) (t : TypeId) : TK → Prop
  | .int k => P.underlying t = some (.int k)
  | .bool => P.underlying t = some .bool
  | .str => P.underlying t = some .string
  | .slice e => P.underlying t = some (.slice e)
  | .struct fs => ∃ fields : Array Field, P.underlying t = some (.struct fields) ∧ fields.toList.map (fun f => (f.offset, f.type)) = fs ∧ (fields.toList.mapM (fun f => (P.info? f.type).map fun i => (f.offset, i.size))).isSome = true
  | .array n e => P.underlying t = some (.array n e) ∧ (P.info? e).isSome = true
  | .ptr => ∃ e, P.underlying t = some (.pointer e)
  | .func => ∃ a b c, P.underlying t = some (.func a b c)
  | .other => False
structure TyOk (P : Program) (t : TypeId) (i : TI) : Prop where
  info : (P.info? t).map (fun pi => (pi.size, pi.bytes, pi.zero.map fun z => z.cells.toList)) = some (i.size, i.bytes, some (i.zero.map toV))
  simple : i.zero.all simple1 = true
  len : i.zero.length = i.size
  und : UndOk P t i.k
  eq : i.eqk ≠ [] → P.eqGuardType P.depth t = false ∧ ∀ (w : World) (xs ys : List Value) (r : Bool), LeafEqs i.eqk xs ys r → (Op.equalIn 10000 t (.agg xs.toArray) (.agg ys.toArray)).run P w = .ok r w
def TOk (P : Program) (T : TT) : Prop := ∀ t i, T t = some i → TyOk P t i

section
variable {P : Program} {t : TypeId} {i : TI}
theorem TyOk.get (h : TyOk P t i) : ∃ pi z, P.info? t = some pi ∧ pi.size = i.size ∧ pi.bytes = i.bytes ∧ pi.zero = some z ∧ z.cells.toList = i.zero.map toV := by
  have := h.info
  cases hp : P.info? t with
  | none => simp [hp] at this
  | some pi =>
    simp only [hp, Option.map_some, Option.some.injEq, Prod.mk.injEq] at this
    obtain ⟨h1, h2, h3⟩ := this
    cases hz : pi.zero with
    | none => simp [hz] at h3
    | some z => exact ⟨pi, z, rfl, h1, h2, hz, by simpa [hz] using h3⟩
theorem TyOk.sizeOf (h : TyOk P t i) (w : World) : (sizeOf t).run P w = .ok i.size w := by
  obtain ⟨pi, z, h1, h2, _⟩ := h.get
  simp [Go.sizeOf, typeInfo, h1, h2]
theorem TyOk.zeroValue (h : TyOk P t i) : ∃ z, (∀ w, (zeroValue t).run P w = .ok z w) ∧ z.cells.toList = i.zero.map toV := by
  obtain ⟨pi, z, h1, _, _, h4, h5⟩ := h.get
  exact ⟨z, fun w => by simp [Go.zeroValue, typeInfo, h1, h4], h5⟩
theorem TyOk.isAgg (h : TyOk P t i) (w : World) : (isAgg t).run P w = .ok i.isAgg w := by
  have hu := h.und
  unfold TI.isAgg
  cases hk : i.k with
  | struct fs => rw [hk] at hu; obtain ⟨f, hf, _⟩ := hu; simp [Go.isAgg, run_underlying hf]
  | ptr => rw [hk] at hu; obtain ⟨e, hf⟩ := hu; simp [Go.isAgg, run_underlying hf]
  | func => rw [hk] at hu; obtain ⟨_, _, _, hf⟩ := hu; simp [Go.isAgg, run_underlying hf]
  | other => rw [hk] at hu; exact hu.elim
  | array n e => rw [hk] at hu; simp [Go.isAgg, run_underlying hu.1]
  | _ => rw [hk] at hu; simp [Go.isAgg, run_underlying hu]
end

/-! ### inversions -/
section
variable {K : Addr → Value → Prop} {σ : List Value} {v : Value}
theorem Rv.int_inv {k : IntKind} {n : Int} (h : Rv K σ (.int k n) v) : v = .int k n := by cases h; rfl
theorem Rv.bool_inv {b : Bool} (h : Rv K σ (.bool b) v) : v = .bool b := by cases h; rfl
theorem Rv.str_inv {s : Bs} (h : Rv K σ (.str s) v) : v = .string ⟨s.toArray⟩ := by cases h; rfl
theorem Rv.nils_inv (h : Rv K σ .nils v) : v = .slice none 0 0 := by cases h; rfl
theorem Rv.nilp_inv (h : Rv K σ .nilp v) : v = .pointer none := by cases h; rfl
theorem Rv.nilf_inv (h : Rv K σ .nilf v) : v = .nilFunc := by cases h; rfl
theorem Rv.nili_inv (h : Rv K σ .nili v) : v = .nilIface := by cases h; rfl
theorem Rv.own_inv {id : Nat} (h : Rv K σ (.own id) v) : σ[id]? = some v := by cases h; assumption
theorem Rv.ptr_inv {id off : Nat} (h : Rv K σ (.ptr id off) v) : ∃ b, v = .pointer (some ⟨b, off, none⟩) ∧ σ[id]? = some (.pointer (some ⟨b, 0, none⟩)) := by
  cases h with
  | ptr _ _ _ b h => exact ⟨b, rfl, h⟩
theorem Rv.eptr_inv {id i sz off : Nat} (h : Rv K σ (.eptr id i sz off) v) : ∃ g n cap, v = .pointer (some ⟨g, i * sz + off, none⟩) ∧ σ[id]? = some (.slice (some ⟨g, 0, none⟩) n cap) := by
  cases h with
  | eptr _ _ _ _ _ g n cap h => exact ⟨g, n, cap, rfl, h⟩
theorem Rv.cptr_inv {cs : List AV} (h : Rv K σ (.cptr cs) v) : ∃ (a : Addr) (val : Nat → Value), v = .pointer (some a) ∧ cs.all isCell = true ∧ (∀ j x, cs[j]? = some x → Rv K [] x (val j)) ∧ ∀ j, j < cs.length → K (a.add j) (val j) := by
  cases h with
  | cptr _ _ a val h1 h2 h3 => exact ⟨a, val, rfl, h1, h2, h3⟩
theorem Rv.agg_inv {cs : List AV} (h : Rv K σ (.agg cs) v) : ∃ vs : Array Value, v = .agg vs ∧ vs.size = cs.length ∧ cs.all isCell = true ∧ ∀ j x, cs[j]? = some x → Rv K σ x (vs.getD j Go.undef) := by
  cases h with
  | agg _ _ vs h1 h2 h3 => exact ⟨vs, rfl, h1, h2, h3⟩
theorem Rv.tup_inv {cs : List AV} (h : Rv K σ (.tup cs) v) : ∃ vs : Array Value, v = .tuple vs ∧ vs.size = cs.length ∧ ∀ j x, cs[j]? = some x → Rv K σ x (vs.getD j Go.undef) := by
  cases h with
  | tup _ _ vs h1 h3 => exact ⟨vs, rfl, h1, h3⟩
theorem Rv.fn_inv {f : FuncId} {cs : List AV} (h : Rv K σ (.fn f cs) v) : ∃ vs : Array Value, v = .func (.func f) #[] vs ∧ vs.size = cs.length ∧ ∀ j x, cs[j]? = some x → Rv K σ x (vs.getD j Go.undef) := by
  cases h with
  | fn _ _ _ vs h1 h3 => exact ⟨vs, rfl, h1, h3⟩
theorem Rv.sl_inv {es : List (List AV)} (h : Rv K σ (.sl es) v) : (es = [] ∧ v = .slice none 0 0) ∨ ∃ (a : Addr) (cap sz : Nat) (val : Nat → Nat → Value), v = .slice (some a) es.length cap ∧ es.length ≤ cap ∧ es.length ≤ 9223372036854775807 ∧
    (∀ c ∈ es, c.length = sz ∧ c.all isCell = true) ∧ (∀ i j c x, es[i]? = some c → c[j]? = some x → Rv K [] x (val i j)) ∧ ∀ i j, i < es.length → j < sz → K (a.add (i * sz + j)) (val i j) := by
  cases h with
  | sl0 => exact .inl ⟨rfl, rfl⟩
  | sl _ _ a cap sz val h1 h2 h3 h4 h5 => exact .inr ⟨a, cap, sz, val, rfl, h1, h2, h3, h4, h5⟩
end

/-! ### what an operation does -/
def Ran (P : Program) (o : Oper) (ρ : Operand → Value) (w : World) (v : Value) (w' : World) : Prop :=
  (execOp ρ o).run P w = .ok (.value v) w' ∨ ((execOp ρ o).run P w = .ok .skip w' ∧ v = undef)
def OpSem (P : Program) (o : Oper) (ev : Operand → AV) (H : Hp) (r : AV) (H' : Hp) : Prop :=
  ∀ (M0 : Nat → Prop) (σ : List Value) (w : World) (ρ : Operand → Value), St M0 H σ w → (∀ x ∈ o.op.operands, Rv (Kof M0 H σ w) σ (ev x) (ρ x)) →
    ∃ v σ' w', Ran P o ρ w v w' ∧ St M0 H' σ' w' ∧ Ext H σ w H' σ' w' ∧ Rv (Kof M0 H' σ' w') σ' r v
/-- An operation that turns nothing. -/
theorem OpSem.still {P : Program} {o : Oper} {ev : Operand → AV} {H : Hp} {r : AV}
    (h : ∀ (M0 : Nat → Prop) (σ : List Value) (w : World) (ρ : Operand → Value), St M0 H σ w → (∀ x ∈ o.op.operands, Rv (Kof M0 H σ w) σ (ev x) (ρ x)) → ∃ v, (execOp ρ o).run P w = .ok (.value v) w ∧ Rv (Kof M0 H σ w) σ r v) : OpSem P o ev H r H := by
  intro M0 σ w ρ hs ho
  obtain ⟨v, h1, h2⟩ := h M0 σ w ρ hs ho
  exact ⟨v, σ, w, .inl h1, hs, Ext.refl _ _ _, h2⟩

section
variable {P : Program} {T : TT} {o : Oper} {ev : Operand → AV} {H : Hp} {K : KV}

theorem sem_move {x : Operand} (ho : o.op = .move x ∨ o.op = .assign x) : ∀ H, OpSem P o ev H (ev x) H := by
  intro H
  refine .still fun M0 σ w ρ _ hx => ⟨ρ x, ?_, hx x ?_⟩
  · rcases ho with ho | ho <;> simp [execOp, ho]
  · rcases ho with ho | ho <;> simp [ho, Op.operands]

theorem sem_pick {c a b : Operand} (ho : o.op = .pick c a b) {t : Bool} (hc : ev c = .bool t) : ∀ H, OpSem P o ev H (match t with | true => ev a | false => ev b) H := by
  intro H
  refine .still fun M0 σ w ρ _ hx => ?_
  have h1 := hx c (by simp [ho, Op.operands]); rw [hc] at h1
  have e1 := h1.bool_inv
  cases t
  · exact ⟨ρ b, by simp [execOp, ho, e1, asBool], hx b (by simp [ho, Op.operands])⟩
  · exact ⟨ρ a, by simp [execOp, ho, e1, asBool], hx a (by simp [ho, Op.operands])⟩

theorem sem_unop {op : UnOp} {t : TypeId} {x : Operand} (ho : o.op = .unOp op t x) (h : aun op (ev x) H K) : ∃ r, (∀ H, OpSem P o ev H r H) ∧ K r H := by
  unfold aun at h
  split at h
  · rename_i b hb
    refine ⟨_, fun H => .still fun M0 σ w ρ _ hx => ?_, h⟩
    have h1 := hx x (by simp [ho, Op.operands]); rw [hb] at h1
    exact ⟨.bool (!b), by simp [execOp, ho, h1.bool_inv, Op.unary], .bool _ _⟩
  · rename_i k n hb
    refine ⟨_, fun H => .still fun M0 σ w ρ _ hx => ?_, h⟩
    have h1 := hx x (by simp [ho, Op.operands]); rw [hb] at h1
    exact ⟨.int k (k.wrap (0 - n)), by simp [execOp, ho, h1.int_inv, Op.unary, Op.intArith], .int _ _ _⟩
  · rename_i k n hb
    refine ⟨_, fun H => .still fun M0 σ w ρ _ hx => ?_, h⟩
    have h1 := hx x (by simp [ho, Op.operands]); rw [hb] at h1
    exact ⟨.int k (bits .xor k (if k.signed then -1 else k.max) n), by simp [execOp, ho, h1.int_inv, Op.unary, intBits_xor], .int _ _ _⟩
  · exact h.elim

theorem sem_nilCheck {x : Operand} (ho : o.op = .nilCheck x) {nk : Bool} (h : aop T nk o.op ev H K) : ∃ r, (∀ H, OpSem P o ev H r H) ∧ K r H := by
  rw [ho] at h
  simp only [aop] at h
  split at h
  · rename_i id off hb
    refine ⟨_, fun H => .still fun M0 σ w ρ _ hx => ?_, h⟩
    have h1 := hx x (by simp [ho, Op.operands]); rw [hb] at h1
    obtain ⟨b, e, _⟩ := h1.ptr_inv
    exact ⟨ρ x, by simp [execOp, ho, e], h1⟩
  · rename_i cs hb
    refine ⟨_, fun H => .still fun M0 σ w ρ _ hx => ?_, h⟩
    have h1 := hx x (by simp [ho, Op.operands]); rw [hb] at h1
    obtain ⟨b, _, e, _⟩ := h1.cptr_inv
    exact ⟨ρ x, by simp [execOp, ho, e], h1⟩
  · rename_i id i sz off hb
    refine ⟨_, fun H => .still fun M0 σ w ρ _ hx => ?_, h⟩
    have h1 := hx x (by simp [ho, Op.operands]); rw [hb] at h1
    obtain ⟨g, n, cap, e, _⟩ := h1.eptr_inv
    exact ⟨ρ x, by simp [execOp, ho, e], h1⟩
  · rename_i f c hb
    refine ⟨_, fun H => .still fun M0 σ w ρ _ hx => ?_, h⟩
    have h1 := hx x (by simp [ho, Op.operands]); rw [hb] at h1
    obtain ⟨vs, e, _⟩ := h1.fn_inv
    exact ⟨ρ x, by simp [execOp, ho, e], h1⟩
  · exact h.elim

theorem sem_extract {t : Operand} {i : Nat} (ho : o.op = .extract t i) {nk : Bool} (h : aop T nk o.op ev H K) : ∃ r, (∀ H, OpSem P o ev H r H) ∧ K r H := by
  rw [ho] at h
  simp only [aop] at h
  split at h
  · rename_i vs hb
    split at h
    · rename_i v hv
      refine ⟨_, fun H => .still fun M0 σ w ρ _ hx => ?_, h⟩
      have h1 := hx t (by simp [ho, Op.operands]); rw [hb] at h1
      obtain ⟨us, e, hl, hr⟩ := h1.tup_inv
      have hlt : i < us.size := by rw [hl]; exact (List.getElem?_eq_some_iff.1 hv).1
      have := hr i v hv
      refine ⟨us[i], by simp [execOp, ho, e, Instr.extract, hlt], by simpa [Array.getElem?_eq_getElem hlt] using this⟩
    · exact h.elim
  · exact h.elim

theorem sem_makeFunc {f : Fn} {first cap : Array Operand} (ho : o.op = .makeFunc f first cap) {nk : Bool} (h : aop T nk o.op ev H K) : ∃ r, (∀ H, OpSem P o ev H r H) ∧ K r H := by
  rw [ho] at h
  simp only [aop] at h
  split at h
  · rename_i _ g he
    refine ⟨_, fun H => .still fun M0 σ w ρ _ hx => ?_, h⟩
    have hf0 : first = #[] := by rw [← Array.toList_inj]; simpa using he
    refine ⟨.func (.func g) #[] (cap.map ρ), by simp [execOp, ho, Instr.makeFunc, hf0], .fn _ _ _ _ (by simp) (fun j x hj => ?_)⟩
    simp only [List.getElem?_map, Option.map_eq_some_iff] at hj
    obtain ⟨y, hy, rfl⟩ := hj
    have hy' : cap[j]? = some y := by simpa using hy
    have := hx y (by rw [ho]; simp only [Op.operands]; exact Array.mem_append_right _ (Array.mem_of_getElem? hy'))
    simpa [hy'] using this
  · exact h.elim

/-! ### loads -/
theorem getD_cell {w : World} {b : Nat} {vs : Array Value} {t : TypeId} {fz : Nat × Nat} (h : w.heap[b]? = some (.cells vs t fz)) {j : Nat} (hj : j < vs.size) : w.cell? ⟨b, j, none⟩ = some (vs.getD j undef) := by
  simp [World.cell?, h, hj]

/-- Cells that begin at an address stand as abstract cells. -/
def At (K0 : Addr → Value → Prop) (σ : List Value) (w : World) (a : Addr) (cs : List AV) : Prop := cs.all isCell = true ∧ ∃ val : Nat → Value, ∀ j x, cs[j]? = some x → Rv K0 σ x (val j) ∧ w.cell? (a.add j) = some (val j)

theorem At.drop {K0 : Addr → Value → Prop} {σ : List Value} {w : World} {a : Addr} {cs : List AV} (h : At K0 σ w a cs) (n : Nat) : At K0 σ w (a.add n) (cs.drop n) := by
  obtain ⟨h1, val, h2⟩ := h
  refine ⟨?_, fun j => val (n + j), fun j x hx => ?_⟩
  · rw [List.all_eq_true] at *; exact fun x hx => h1 x (List.mem_of_mem_drop hx)
  · rw [List.getElem?_drop] at hx
    obtain ⟨k1, k2⟩ := h2 (n + j) x hx
    refine ⟨k1, ?_⟩
    have : (a.add n).add j = a.add (n + j) := by
      unfold Addr.add
      by_cases hn : n = 0
      · subst hn; simp
      · by_cases hj : j = 0
        · subst hj; simp
        · simp [hn, hj, Nat.add_assoc]
    rw [this]; exact k2

theorem sem_ldc {t : TypeId} {i : TI} (ht : TyOk P t i) {cs : List AV} (h : ldc i cs H K) :
    ∃ r, K r H ∧ ∀ (K0 : Addr → Value → Prop) (σ : List Value) (w : World) (a : Addr), At K0 σ w a cs → ∃ v, (loadVar t a).run P w = .ok v w ∧ Rv K0 σ r v := by
  unfold ldc at h
  cases hag : i.isAgg with
  | true =>
    simp only [hag, cond_true] at h
    cases hle : Nat.ble i.size cs.length with
    | false => simp [hle] at h
    | true =>
      simp only [hle, cond_true] at h
      refine ⟨_, h, fun K0 σ w a ⟨h1, val, h2⟩ => ?_⟩
      have hle' : i.size ≤ cs.length := Nat.le_of_ble_eq_true hle
      have hl := run_loadCells (P := P) w a i.size val (fun j hj => by
        have hj' : j < cs.length := by omega
        exact (h2 j cs[j] (List.getElem?_eq_getElem hj')).2)
      refine ⟨.agg ((List.range i.size).map val).toArray, by simp [loadVar, ht.isAgg, hag, ht.sizeOf, hl], .agg _ _ _ (by simp; omega) ?_ ?_⟩
      · rw [List.all_eq_true] at *; exact fun x hx => h1 x (List.mem_of_mem_take hx)
      · intro j x hx
        rw [List.getElem?_take] at hx
        split at hx
        · rename_i hj
          have := (h2 j x hx).1
          simpa [hj] using this
        · cases hx
  | false =>
    simp only [hag, cond_false] at h
    cases cs with
    | nil => exact h.elim
    | cons x xs =>
      refine ⟨_, h, fun K0 σ w a ⟨h1, val, h2⟩ => ?_⟩
      obtain ⟨k1, k2⟩ := h2 0 x rfl
      rw [Addr.add_zero'] at k2
      exact ⟨val 0, by simp [loadVar, ht.isAgg, hag, k2], k1⟩

theorem at_box {M0 : Nat → Prop} {σ : List Value} {w : World} (hs : St M0 H σ w) {id bt : Nat} {cs : List AV} (hi : H[id]? = some (.box bt cs)) {b : Nat} (hv : σ[id]? = some (.pointer (some ⟨b, 0, none⟩))) :
    At (Kof M0 H σ w) σ w ⟨b, 0, none⟩ cs ∧ ∃ vs, w.heap[b]? = some (.cells vs bt (0, 0)) ∧ vs.size = cs.length := by
  obtain ⟨h0, b', vs, e, h1, h2, h3⟩ := hs.ok id _ _ hi hv
  cases e
  refine ⟨⟨h0, fun j => vs.getD j undef, fun j x hx => ⟨h3 j x hx, ?_⟩⟩, vs, h1, h2⟩
  have hj : j < vs.size := by rw [h2]; exact (List.getElem?_eq_some_iff.1 hx).1
  rw [Addr.add_lit]
  simpa using getD_cell h1 hj

theorem at_cptr {M0 : Nat → Prop} {σ : List Value} {w : World} {cs : List AV} {a : Addr} {val : Nat → Value} (h1 : cs.all isCell = true) (h2 : ∀ j x, cs[j]? = some x → Rv (Kof M0 H σ w) [] x (val j)) (h3 : ∀ j, j < cs.length → Kof M0 H σ w (a.add j) (val j)) :
    At (Kof M0 H σ w) σ w a cs :=
  ⟨h1, val, fun j x hx => ⟨(h2 j x hx).mono (fun _ _ h => h) List.nil_prefix, (h3 j (List.getElem?_eq_some_iff.1 hx).1).2⟩⟩

theorem row_pos {i j sz n : Nat} (hi : i < n) (hj : j < sz) : i * sz + j < n * sz := by
  have : (i + 1) * sz ≤ n * sz := Nat.mul_le_mul_right sz hi
  rw [Nat.add_mul] at this
  omega

theorem at_row {M0 : Nat → Prop} {σ : List Value} {w : World} (hs : St M0 H σ w) {id rt rs : Nat} {es : List (List AV)} (hi : H[id]? = some (.row rt rs es)) {g n cap : Nat} (hv : σ[id]? = some (.slice (some ⟨g, 0, none⟩) n cap))
    {ix : Nat} {c : List AV} (hc : es[ix]? = some c) : At (Kof M0 H σ w) σ w ⟨g, ix * rs, none⟩ c := by
  obtain ⟨h0, g', cap', cur, e, h1, h2, h3, h4, h5⟩ := hs.ok id _ _ hi hv
  cases e
  obtain ⟨k1, k2, k3⟩ := h5 ix c hc
  refine ⟨k2, fun j => cur.getD (ix * rs + j) undef, fun j x hx => ⟨(k3 j x hx).mono (fun _ _ h => h) List.nil_prefix, ?_⟩⟩
  have hj : j < rs := by rw [← k1]; exact (List.getElem?_eq_some_iff.1 hx).1
  have hix : ix < es.length := (List.getElem?_eq_some_iff.1 hc).1
  have hlt : ix * rs + j < cur.size := by
    have := row_pos hix hj
    have : es.length * rs ≤ cap * rs := Nat.mul_le_mul_right rs h2
    omega
  rw [Addr.add_lit]
  exact getD_cell h1 hlt

theorem sem_load (hT : TOk P T) {t : TypeId} {a : Operand} (ho : o.op = .load t a) (h : aload T t (ev a) H K) : ∃ r, OpSem P o ev H r H ∧ K r H := by
  unfold aload at h
  cases hti : T t with
  | none => simp [hti] at h
  | some i =>
    simp only [hti] at h
    have ht := hT t i hti
    have key : ∀ (cs : List AV), ldc i cs H K → (∀ (M0 : Nat → Prop) (σ : List Value) (w : World) (v : Value), St M0 H σ w → Rv (Kof M0 H σ w) σ (ev a) v → ∃ ad, v = .pointer (some ad) ∧ At (Kof M0 H σ w) σ w ad cs) → ∃ r, OpSem P o ev H r H ∧ K r H := by
      intro cs hl hat
      obtain ⟨r, hr, hrun⟩ := sem_ldc ht hl
      refine ⟨r, .still fun M0 σ w ρ hs hx => ?_, hr⟩
      obtain ⟨ad, e, hA⟩ := hat M0 σ w (ρ a) hs (hx a (by simp [ho, Op.operands]))
      obtain ⟨v, h1, h2⟩ := hrun _ σ w ad hA
      exact ⟨v, by simp [execOp, ho, e, Instr.loadAt, Instr.sureAddr, h1], h2⟩
    split at h
    · rename_i id off hev
      split at h
      · rename_i bt cs hH
        refine key _ h fun M0 σ w v hs hv => ?_
        rw [hev] at hv
        obtain ⟨b, rfl, hσ⟩ := hv.ptr_inv
        refine ⟨_, rfl, ?_⟩
        have := (at_box hs hH hσ).1.drop off
        rwa [Addr.add_lit, Nat.zero_add] at this
      · exact h.elim
    · rename_i cs hev
      refine key _ h fun M0 σ w v hs hv => ?_
      rw [hev] at hv
      obtain ⟨ad, val, rfl, h1, h2, h3⟩ := hv.cptr_inv
      exact ⟨ad, rfl, at_cptr h1 h2 h3⟩
    · rename_i id ix sz off hev
      split at h
      · rename_i rt rs es hH
        cases hsz : Nat.beq sz rs with
        | false => simp [hsz] at h
        | true =>
          simp only [hsz, cond_true] at h
          have esz : sz = rs := Nat.eq_of_beq_eq_true hsz
          subst esz
          obtain ⟨c, hc, h⟩ := h
          refine key _ h fun M0 σ w v hs hv => ?_
          rw [hev] at hv
          obtain ⟨g, n, cap, rfl, hσ⟩ := hv.eptr_inv
          refine ⟨_, rfl, ?_⟩
          have := (at_row hs hH hσ hc).drop off
          rwa [Addr.add_lit] at this
      · exact h.elim
    · exact h.elim
end
end Go.Ve
