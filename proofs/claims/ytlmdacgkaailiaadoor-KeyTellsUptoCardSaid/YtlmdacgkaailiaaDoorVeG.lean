/- An abstract weakest precondition, seventh text: lengths, least and greatest, conversions, slices, struct values. -/
import Derived.Test.YtlmdacgkaailiaaDoorVeF
import Derived.Laws.IdiomStrings
import Derived.Great.FillDense
set_option linter.unusedSimpArgs false
set_option linter.unusedVariables false
namespace Go.Ve
open Go.RowKit (Below)
section
variable {P : Program} {T : TT} {o : Oper} {ev : Operand → AV} {H : Hp} {K : KV}

theorem UndOk.some {t : TypeId} {k : TK} (h : UndOk P t k) : ∃ d, P.underlying t = some d := by
  cases k with
  | struct fs => obtain ⟨f, h, _⟩ := h; exact ⟨_, h⟩
  | ptr => obtain ⟨e, h⟩ := h; exact ⟨_, h⟩
  | func => obtain ⟨_, _, _, h⟩ := h; exact ⟨_, h⟩
  | other => exact h.elim
  | array n e => exact ⟨_, h.1⟩
  | _ => exact ⟨_, h⟩

theorem sem_len (hT : TOk P T) {t : TypeId} {x : Operand} (ho : o.op = .call { callee := .builtin .len, args := #[x], argTypes := #[t] }) (h : alen T t (ev x) H K) : ∃ r, OpSem P o ev H r H ∧ K r H := by
  unfold alen at h
  cases hti : T t with
  | none => simp [hti] at h
  | some i =>
    have hud := (hT t i hti).und
    simp only [hti] at h
    have go : ∀ (n : Nat), (∀ (M0 : Nat → Prop) (σ : List Value) (w : World) (v : Value), St M0 H σ w → Rv (Kof M0 H σ w) σ (ev x) v → (Builtin.len_ #[t] o.type #[v]).run P w = .ok (goInt n) w) → OpSem P o ev H (.int .i64 n) H := by
      intro n hr
      refine .still fun M0 σ w ρ hs hop => ?_
      have := hr M0 σ w _ hs (hop x (by simp [ho, Op.operands, Call.operands]))
      exact ⟨.int .i64 n, by simp [execOp, ho, resolve, invoke, builtin, this, goInt], .int _ _ _⟩
    have sl : ∀ {e : TypeId} (_ : P.underlying t = some (.slice e)) (a : Option Addr) (n c : Nat) (w : World), (Builtin.len_ #[t] o.type #[.slice a n c]).run P w = .ok (goInt n) w := by
      intro e hu a n c w
      simp [Builtin.len_, run_underlying hu]
    split at h
    · rename_i s hk hx
      rw [hk] at hud
      refine ⟨_, go s.length fun M0 σ w v hs hv => ?_, h⟩
      rw [hx] at hv
      rw [hv.str_inv]
      simp [Builtin.len_, run_underlying (show P.underlying t = some .string from hud), bs_size]
    · rename_i e es hk hx
      rw [hk] at hud
      refine ⟨_, go es.length fun M0 σ w v hs hv => ?_, h⟩
      rw [hx] at hv
      rcases hv.sl_inv with ⟨e0, e1⟩ | ⟨a, cap, sz, val, e1, _⟩
      · subst e0; rw [e1]; exact sl hud _ _ _ w
      · rw [e1]; exact sl hud _ _ _ w
    · rename_i e hk hx
      rw [hk] at hud
      refine ⟨_, go 0 fun M0 σ w v hs hv => ?_, h⟩
      rw [hx] at hv
      rw [hv.nils_inv]
      exact sl hud _ _ _ w
    · rename_i e id hk hx
      rw [hk] at hud
      split at h
      · rename_i es hH
        refine ⟨_, go es.length fun M0 σ w v hs hv => ?_, h⟩
        rw [hx] at hv
        unfold rowOf at hH
        split at hH
        · rename_i rt rs es' hH'
          obtain rfl := Option.some.inj hH
          obtain ⟨_, g, cap, cur, e1, _⟩ := hs.ok id _ _ hH' hv.own_inv
          rw [e1]; exact sl hud _ _ _ w
        · rename_i es' hH'
          obtain rfl := Option.some.inj hH
          rcases (hs.ok id _ _ hH' hv.own_inv).sl_inv with ⟨e0, e1⟩ | ⟨a, cap, sz, val, e1, _⟩
          · subst e0; rw [e1]; exact sl hud _ _ _ w
          · rw [e1]; exact sl hud _ _ _ w
        · cases hH
      · exact h.elim
    · rename_i n e hk
      rw [hk] at hud
      replace hud := hud.1
      refine ⟨_, go n fun M0 σ w v hs hv => ?_, h⟩
      simp [Builtin.len_, run_underlying (show P.underlying t = some (.array n e) from hud)]
    · exact h.elim

theorem sem_minmax {mx : Bool} {args : Array Operand} {ts : Array TypeId} (ho : o.op = .call { callee := .builtin (if mx then .max else .min), args := args, argTypes := ts }) (h : aminmax mx (args.toList.map ev) H K) : ∃ r, (∀ H, OpSem P o ev H r H) ∧ K r H := by
  generalize hl : args.toList.map ev = l at h
  unfold aminmax at h
  split at h
  · rename_i k a k' b
    cases hk : sameKind k k' with
    | false => simp [hk] at h
    | true =>
      have h9 : K (.int k (if mx then (if a < b then b else a) else (if b < a then b else a))) H := by
        have e1 : max a b = if a < b then b else a := by rw [Int.max_def]; split <;> split <;> omega
        have e2 : min a b = if b < a then b else a := by rw [Int.min_def]; split <;> split <;> omega
        rw [← e1, ← e2]
        rw [hk] at h
        cases mx <;> exact h
      have := sameKind_eq hk; subst this
      obtain ⟨x, y, hargs, hx, hy⟩ : ∃ x y, args = #[x, y] ∧ ev x = .int k a ∧ ev y = .int k b := by
        obtain ⟨al⟩ := args
        have hlen : al.length = 2 := by simpa using congrArg List.length hl
        match al, hlen with
        | [x, y], _ => simp at hl; exact ⟨x, y, rfl, hl.1, hl.2⟩
      subst hargs
      refine ⟨_, fun H => .still fun M0 σ w ρ _ hop => ?_, h9⟩
      have h1 := hop x (by simp [ho, Op.operands, Call.operands]); rw [hx] at h1
      have h2 := hop y (by simp [ho, Op.operands, Call.operands]); rw [hy] at h2
      refine ⟨.int k (if mx then (if a < b then b else a) else (if b < a then b else a)), ?_, .int _ _ _⟩
      cases mx
      · simp [execOp, ho, resolve, invoke, builtin, h1.int_inv, h2.int_inv, Builtin.min_, Builtin.min2]
      · simp [execOp, ho, resolve, invoke, builtin, h1.int_inv, h2.int_inv, Builtin.max_, Builtin.max2]
  · exact h.elim

theorem isU8_spec (hT : TOk P T) {t : TypeId} {i : TI} (hti : T t = some i) (h : isU8 T i = true) : ∃ e, P.underlying t = some (.slice e) ∧ P.underlying e = some (.int .u8) := by
  have hud := (hT t i hti).und
  unfold isU8 at h
  split at h
  · rename_i e hk
    rw [hk] at hud
    split at h
    · rename_i ei hei
      have hue := (hT e ei hei).und
      split at h
      · rename_i hk'
        rw [hk'] at hue
        exact ⟨e, hud, hue⟩
      · cases h
    · cases h
  · cases h

theorem bytes_map (l : Bs) (i : Nat) : (l.map byteCell)[i]? = (l[i]?).map byteCell := by simp

theorem sem_conv (hT : TOk P T) {s d : TypeId} {x : Operand} (ho : o.op = .convert s d x) (h : aconv T s d (ev x) H K) : ∃ r, OpSem P o ev H r H ∧ K r H := by
  unfold aconv at h
  split at h
  · rename_i si di hsi hdi
    have hus := (hT s si hsi).und
    have hud := (hT d di hdi).und
    obtain ⟨du, hsu⟩ := hus.some
    have toStr : ∀ (l : Bs) {e : TypeId} (_ : P.underlying s = some (.slice e)) (_ : P.underlying e = some (.int .u8)) (_ : P.underlying d = some .string) (M0 : Nat → Prop) (σ : List Value) (w : World) (ρ : Operand → Value) (v : Value),
        ρ x = v → Rv (Kof M0 H σ w) [] (.sl (l.map byteCell)) v → ∃ u, (execOp ρ o).run P w = .ok (.value u) w ∧ Rv (Kof M0 H σ w) σ (.str l) u := by
      intro l e h1 h2 h3 M0 σ w ρ v hv hr
      rcases hr.sl_inv with ⟨e0, e1⟩ | ⟨a, cap, sz, val, e1, _, _, k3, k4, k5⟩
      · have hl : l = [] := by simpa using e0
        subst hl
        exact ⟨.string ⟨[].toArray⟩, by simp [execOp, ho, hv, e1, run_convert_bytes_nil w s e h1 h2 0 0 d h3]; rfl, .str _ _⟩
      · have hlen : (l.map byteCell).length = l.length := by simp
        refine ⟨.string ⟨l.toArray⟩, ?_, .str _ _⟩
        rw [hlen] at e1
        have hc := run_convert_bytes_back (P := P) w s d e a cap l h1 h2 h3 (fun j hj => by
          have hb : (l.map byteCell)[j]? = some (byteCell l[j]) := by rw [bytes_map, List.getElem?_eq_getElem hj]; rfl
          have hz : sz = 1 := by rw [← (k3 _ (List.mem_of_getElem? hb)).1]; rfl
          have q := k4 j 0 _ (.int .u8 l[j].toNat) hb rfl
          have q' := (k5 j 0 (by simpa using hj) (by omega)).2
          rw [hz, Nat.mul_one, Nat.add_zero] at q'
          rw [q', q.int_inv])
        simp [execOp, ho, hv, e1, hc]
    split at h
    · rename_i k k' n hk hx
      rw [hk] at hud
      refine ⟨_, .still fun M0 σ w ρ hs hop => ?_, h⟩
      have h1 := hop x (by simp [ho, Op.operands]); rw [hx] at h1
      exact ⟨.int k (k.wrap n), by simp [execOp, ho, h1.int_inv, convert, run_underlying hsu, run_underlying (show P.underlying d = some (.int k) from hud), Conv.intToInt], .int _ _ _⟩
    · rename_i b hk hx
      rw [hk] at hud
      refine ⟨_, .still fun M0 σ w ρ hs hop => ?_, h⟩
      have h1 := hop x (by simp [ho, Op.operands]); rw [hx] at h1
      exact ⟨.string ⟨b.toArray⟩, by simp [execOp, ho, h1.str_inv, convert, run_underlying hsu, run_underlying (show P.underlying d = some .string from hud)], .str _ _⟩
    · rename_i hk hx
      rw [hk] at hud
      cases hu8 : isU8 T si with
      | false => simp [hu8] at h
      | true =>
        simp only [hu8, cond_true] at h
        obtain ⟨e, q1, q2⟩ := isU8_spec hT hsi hu8
        refine ⟨_, .still fun M0 σ w ρ hs hop => ?_, h⟩
        have h1 := hop x (by simp [ho, Op.operands]); rw [hx] at h1
        exact ⟨.string ⟨[].toArray⟩, by simp [execOp, ho, h1.nils_inv, run_convert_bytes_nil w s e q1 q2 0 0 d hud]; rfl, .str _ _⟩
    · rename_i es hk hx
      rw [hk] at hud
      cases hu8 : isU8 T si with
      | false => simp [hu8] at h
      | true =>
        simp only [hu8, cond_true] at h
        obtain ⟨e, q1, q2⟩ := isU8_spec hT hsi hu8
        obtain ⟨l, rfl, h⟩ := h
        refine ⟨_, .still fun M0 σ w ρ hs hop => ?_, h⟩
        have h1 := hop x (by simp [ho, Op.operands]); rw [hx] at h1
        exact toStr l q1 q2 hud M0 σ w ρ _ rfl (h1.closed rfl)
    · rename_i id hk hx
      rw [hk] at hud
      cases hu8 : isU8 T si with
      | false => simp [hu8] at h
      | true =>
        simp only [hu8, cond_true] at h
        obtain ⟨e, q1, q2⟩ := isU8_spec hT hsi hu8
        split at h
        · rename_i es hH
          obtain ⟨l, rfl, h⟩ := h
          refine ⟨_, .still fun M0 σ w ρ hs hop => ?_, h⟩
          have h1 := hop x (by simp [ho, Op.operands]); rw [hx] at h1
          unfold rowOf at hH
          split at hH
          · rename_i rt rs es' hH'
            obtain rfl := Option.some.inj hH
            obtain ⟨k0, g, cap, cur, e1, k1, k2, k3, k4, k5⟩ := hs.ok id _ _ hH' h1.own_inv
            have hlen : (l.map byteCell).length = l.length := by simp
            rw [hlen] at e1 k2
            have hc := run_convert_bytes_back (P := P) w s d e ⟨g, 0, none⟩ cap l q1 q2 hud (fun j hj => by
              have hb : (l.map byteCell)[j]? = some (byteCell l[j]) := by rw [bytes_map, List.getElem?_eq_getElem hj]; rfl
              obtain ⟨m1, _, m3⟩ := k5 j _ hb
              have hz : rs = 1 := by rw [← m1]; rfl
              have q := m3 0 (.int .u8 l[j].toNat) rfl
              rw [hz, Nat.mul_one, Nat.add_zero] at q
              rw [Addr.add_lit, Nat.zero_add, getD_cell k1 (by rw [k4, hz]; omega), q.int_inv])
            exact ⟨.string ⟨l.toArray⟩, by simp [execOp, ho, e1, hc], .str _ _⟩
          · rename_i es' hH'
            obtain rfl := Option.some.inj hH
            exact toStr l q1 q2 hud M0 σ w ρ _ rfl (hs.ok id _ _ hH' h1.own_inv)
          · cases hH
        · exact h.elim
    · rename_i e' b hk hx
      cases hu8 : isU8 T di with
      | false => simp [hu8] at h
      | true =>
        simp only [hu8, cond_true] at h
        obtain ⟨e, q1, q2⟩ := isU8_spec hT hdi hu8
        obtain ⟨hb, h⟩ := h
        refine ⟨_, fun M0 σ w ρ hs hop => ?_, h⟩
        have h1 := hop x (by simp [ho, Op.operands]); rw [hx] at h1
        have hr := Lib.run_convert_string_bytes (P := P) w s d e ⟨b.toArray⟩ hsu q1 q2
        have hB : Below w.heap.size w (Lib.bytesWorld w e ⟨b.toArray⟩) := ⟨rfl, rfl, rfl, by rw [Lib.bytesWorld_size]; omega, fun k hk => Lib.bytesWorld_at_old w e _ k hk⟩
        refine ⟨.slice (some ⟨w.heap.size, 0, none⟩) (⟨b.toArray⟩ : ByteArray).size (grownCap w (⟨b.toArray⟩ : ByteArray).size 0 e), σ, _, .inl (by simp only [execOp, ho, h1.str_inv, Sem.run_bind, hr, Result.andThen_ok, Sem.run_pure]), hs.below hB, Ext.of_below hB, ?_⟩
        have hlen : (⟨b.toArray⟩ : ByteArray).size = (b.map byteCell).length := by rw [bs_size]; simp
        rw [hlen]
        refine .sl _ _ _ _ 1 (fun i _ => .int .u8 (b.getD i 0).toNat) ?_ (by simpa using hb) ?_ ?_ ?_
        · have := grownCap_ge w (⟨b.toArray⟩ : ByteArray).size 0 e
          rw [← hlen]; exact this
        · intro c hc
          obtain ⟨y, _, rfl⟩ := List.mem_map.1 hc
          exact ⟨rfl, rfl⟩
        · intro i j c z hc hz
          rw [bytes_map] at hc
          obtain ⟨y, hy, rfl⟩ := Option.map_eq_some_iff.1 hc
          cases j with
          | zero =>
            simp [byteCell] at hz
            subst hz
            have : b.getD i 0 = y := by simp [List.getD, hy]
            rw [this]
            exact .int _ _ _
          | succ j => simp [byteCell] at hz
        · intro i j hi hj
          have hj0 : j = 0 := by omega
          subst hj0
          rw [Nat.mul_one, Nat.add_zero, Addr.add_lit, Nat.zero_add]
          have hi' : i < b.length := by simpa using hi
          refine ⟨fun hm => ?_, ?_⟩
          · rcases hm with hm | hm
            · have := hs.old _ hm; simp at this
            · have := Mb_lt hs hm; simp at this
          · have := Lib.bytesWorld_cell w e ⟨b.toArray⟩ i (by rw [bs_size]; exact hi')
            simpa using this
    · exact h.elim
  · exact h.elim

/-! ### slices -/
theorem bound_spec {len : Nat} {x : Option Operand} {d : Nat} {K1 : Nat → Prop} (h : bound len (x.map ev) d K1) :
    ∃ m, K1 m ∧ ((x = none ∧ m = d) ∨ ∃ y k n, x = some y ∧ ev y = .int k n ∧ 0 ≤ n ∧ n ≤ len ∧ m = n.toNat) := by
  cases x with
  | none => exact ⟨d, h, .inl ⟨rfl, rfl⟩⟩
  | some y =>
    simp only [Option.map_some, bound] at h
    split at h
    · rename_i e; cases e
    · rename_i k n e
      obtain ⟨h0, h1, h2⟩ := h
      exact ⟨_, h2, .inr ⟨y, k, n, rfl, by simpa using e, h0, h1, rfl⟩⟩
    · exact h.elim

/-- The bounds as the operation reckons them. -/
theorem run_bounds {lo hi : Option Operand} {len cap l hh : Nat} {isS : Bool} (hlc : len ≤ cap)
    (h1 : (hi = none ∧ hh = len) ∨ ∃ y k n, hi = some y ∧ ev y = .int k n ∧ 0 ≤ n ∧ n ≤ (len : Int) ∧ hh = n.toNat)
    (h2 : (lo = none ∧ l = 0) ∨ ∃ y k n, lo = some y ∧ ev y = .int k n ∧ 0 ≤ n ∧ n ≤ (hh : Int) ∧ l = n.toNat)
    {K0 : Addr → Value → Prop} {σ : List Value} {ρ : Operand → Value} (r1 : ∀ y, hi = some y → Rv K0 σ (ev y) (ρ y)) (r2 : ∀ y, lo = some y → Rv K0 σ (ev y) (ρ y)) (w : World) :
    (Instr.sliceBounds isS len cap (lo.map ρ) (hi.map ρ) none).run P w = .ok (l, hh, cap) w := by
  rcases h1 with ⟨rfl, rfl⟩ | ⟨y, k, n, rfl, e, g0, g1, rfl⟩
  · rcases h2 with ⟨rfl, rfl⟩ | ⟨z, k', n', rfl, e', g0', g1', rfl⟩
    · simp [Instr.sliceBounds]
    · have q2 := r2 z rfl; rw [e'] at q2
      simp [Instr.sliceBounds, q2.int_inv, run_sliceBound w k' n' _ _ g0' g1']
  · have q1 := r1 y rfl; rw [e] at q1
    have g1' : n ≤ (cap : Int) := by omega
    rcases h2 with ⟨rfl, rfl⟩ | ⟨z, k', n', rfl, e', g0', g1'', rfl⟩
    · simp [Instr.sliceBounds, q1.int_inv, run_sliceBound w k n _ _ g0 g1']
    · have q2 := r2 z rfl; rw [e'] at q2
      simp [Instr.sliceBounds, q1.int_inv, q2.int_inv, run_sliceBound w k n _ _ g0 g1', run_sliceBound w k' n' _ _ g0' g1'']

theorem hh_le {hi : Option Operand} {len hh : Nat} (h1 : (hi = none ∧ hh = len) ∨ ∃ y k n, hi = some y ∧ ev y = .int k n ∧ 0 ≤ n ∧ n ≤ (len : Int) ∧ hh = n.toNat) : hh ≤ len := by
  rcases h1 with ⟨_, rfl⟩ | ⟨_, _, n, _, _, g0, g1, rfl⟩
  · exact Nat.le_refl _
  · omega
theorem l_le {lo : Option Operand} {l hh : Nat} (h2 : (lo = none ∧ l = 0) ∨ ∃ y k n, lo = some y ∧ ev y = .int k n ∧ 0 ≤ n ∧ n ≤ (hh : Int) ∧ l = n.toNat) : l ≤ hh := by
  rcases h2 with ⟨_, rfl⟩ | ⟨_, _, n, _, _, g0, g1, rfl⟩
  · exact Nat.zero_le _
  · omega

theorem cut_len {α : Type} {es : List α} {l hh : Nat} (h : hh ≤ es.length) : ((es.take hh).drop l).length = hh - l := by simp; omega

/-- A piece of a constant list is a constant list. -/
theorem rv_cut {K0 : Addr → Value → Prop} {σ : List Value} {es : List (List AV)} {v : Value} (hv : Rv K0 σ (.sl es) v) {l hh : Nat} (h1 : hh ≤ es.length) (h2 : l ≤ hh) {s : Nat} (hs : allLen s es) :
    ∃ a n c, v = .slice a n c ∧ n = es.length ∧ n ≤ c ∧ Rv K0 σ (.sl ((es.take hh).drop l)) (.slice (if c = l then a else a.map (·.add (l * s))) (hh - l) (c - l)) := by
  rcases hv.sl_inv with ⟨e0, e1⟩ | ⟨a, cap, sz, val, e1, k1, k2, k3, k4, k5⟩
  · subst e0
    simp at h1
    have : l = 0 := by omega
    subst this; subst h1
    exact ⟨none, 0, 0, e1, rfl, Nat.le_refl _, by simpa using .sl0 σ⟩
  · refine ⟨some a, _, cap, e1, rfl, k1, ?_⟩
    have hl := cut_len (l := l) h1
    by_cases hemp : l = hh
    · subst hemp
      have e0 : (es.take l).drop l = [] := List.eq_nil_of_length_eq_zero (by rw [hl]; omega)
      rw [e0, Nat.sub_self]
      have mk : ∀ (b : Addr) (c : Nat), Rv K0 σ (.sl []) (.slice (some b) 0 c) := fun b c => .sl _ [] b c sz val (Nat.zero_le _) (by simp) (fun c hc => by simp at hc) (fun i j c x hc => by simp at hc) (fun i j hi => by simp at hi)
      split
      · exact mk _ _
      · exact mk _ _
    · have hne : cap ≠ l := by omega
      rw [if_neg hne]
      have hs' : s = sz := by
        have h0 : 0 < es.length := by omega
        have hm : es[0] ∈ es := List.getElem_mem h0
        rw [← hs _ hm]; exact (k3 _ hm).1
      subst hs'
      rw [← hl]
      simp only [Option.map_some]
      refine .sl _ _ _ _ s (fun i j => val (l + i) j) (by rw [hl]; omega) (by rw [hl]; omega) (fun c hc => k3 c (List.mem_of_mem_take (List.mem_of_mem_drop hc))) (fun i j c x hc hx => ?_) (fun i j hi hj => ?_)
      · rw [List.getElem?_drop, List.getElem?_take] at hc
        split at hc
        · exact k4 _ _ _ _ hc hx
        · cases hc
      · have := k5 (l + i) j (by rw [hl] at hi; omega) hj
        have ea : (a.add (l * s)).add (i * s + j) = a.add ((l + i) * s + j) := by
          have e : (l + i) * s + j = l * s + (i * s + j) := by rw [Nat.add_mul]; omega
          rw [e]
          unfold Addr.add
          by_cases g1 : l * s = 0
          · rw [g1]; simp
          · by_cases g2 : i * s + j = 0
            · rw [g2]; simp
            · have g3 : l * s + (i * s + j) ≠ 0 := by omega
              simp only [g1, g2, g3, if_false, Nat.add_assoc]
        rw [ea]; exact this

theorem bs_cut (s : Bs) {l hh : Nat} (h1 : hh ≤ s.length) (h2 : l ≤ hh) : (⟨s.toArray⟩ : ByteArray).extract l hh = ⟨((s.take hh).drop l).toArray⟩ := by
  apply ByteArray.ext
  rw [ByteArray.data_extract]
  apply Array.ext'
  simp [List.extract_eq_take_drop, List.drop_take]

theorem sem_slice (hT : TOk P T) {t : TypeId} {x : Operand} {lo hi : Option Operand} (ho : o.op = .slice t x lo hi none) (h : aslice T t (ev x) (lo.map ev) (hi.map ev) H K) : ∃ r H', OpSem P o ev H r H' ∧ K r H' := by
  unfold aslice at h
  cases hti : T t with
  | none => simp [hti] at h
  | some i =>
    have hud := (hT t i hti).und
    simp only [hti] at h
    have oplo : ∀ {M0 : Nat → Prop} {σ : List Value} {w : World} {ρ : Operand → Value}, (∀ x ∈ o.op.operands, Rv (Kof M0 H σ w) σ (ev x) (ρ x)) → (∀ y, hi = some y → Rv (Kof M0 H σ w) σ (ev y) (ρ y)) ∧ (∀ y, lo = some y → Rv (Kof M0 H σ w) σ (ev y) (ρ y)) ∧ Rv (Kof M0 H σ w) σ (ev x) (ρ x) := by
      intro M0 σ w ρ hop
      exact ⟨fun y hy => hop y (by simp [ho, Op.operands, hy]), fun y hy => hop y (by simp [ho, Op.operands, hy]), hop x (by simp [ho, Op.operands])⟩
    have runS : ∀ {e : TypeId} {ei : TI} (_ : P.underlying t = some (.slice e)) (_ : T e = some ei) {l hh n c : Nat} {a : Option Addr} (_ : n ≤ c)
        (_ : (hi = none ∧ hh = n) ∨ ∃ y k m, hi = some y ∧ ev y = .int k m ∧ 0 ≤ m ∧ m ≤ (n : Int) ∧ hh = m.toNat) (_ : (lo = none ∧ l = 0) ∨ ∃ y k m, lo = some y ∧ ev y = .int k m ∧ 0 ≤ m ∧ m ≤ (hh : Int) ∧ l = m.toNat)
        {M0 : Nat → Prop} {σ : List Value} {w : World} {ρ : Operand → Value} (_ : ∀ x ∈ o.op.operands, Rv (Kof M0 H σ w) σ (ev x) (ρ x)) (_ : ρ x = .slice a n c),
        (execOp ρ o).run P w = .ok (.value (.slice (if c = l then a else a.map (·.add (l * ei.size))) (hh - l) (c - l))) w := by
      intro e ei hu hei l hh n c a hnc g1 g2 M0 σ w ρ hop hx
      obtain ⟨p1, p2, _⟩ := oplo hop
      have hb := run_bounds (P := P) (ev := ev) (isS := true) hnc g1 g2 p1 p2 w
      simp [execOp, ho, hx, Instr.sliceAt, Instr.slice, run_underlying hu, hb, (hT e ei hei).sizeOf]
    split at h
    · rename_i s hk hx
      rw [hk] at hud
      obtain ⟨hh, h, g1⟩ := bound_spec h
      obtain ⟨l, h, g2⟩ := bound_spec h
      refine ⟨_, _, .still fun M0 σ w ρ hs hop => ?_, h⟩
      obtain ⟨p1, p2, p3⟩ := oplo hop
      rw [hx] at p3
      have hb := run_bounds (P := P) (ev := ev) (isS := false) (Nat.le_refl s.length) g1 g2 p1 p2 w
      have hz : (⟨s.toArray⟩ : ByteArray).size = s.length := bs_size s
      refine ⟨.string ⟨((s.take hh).drop l).toArray⟩, ?_, .str _ _⟩
      simp [execOp, ho, p3.str_inv, Instr.sliceAt, Instr.slice, run_underlying (show P.underlying t = some .string from hud), hz, hb, bs_cut s (hh_le g1) (l_le g2)]
    · rename_i e es hk hx
      rw [hk] at hud
      split at h
      · rename_i ei hei
        obtain ⟨hh, h, g1⟩ := bound_spec h
        obtain ⟨l, h, g2⟩ := bound_spec h
        obtain ⟨hal, h⟩ := h
        refine ⟨_, _, .still fun M0 σ w ρ hs hop => ?_, h⟩
        obtain ⟨p1, p2, p3⟩ := oplo hop
        rw [hx] at p3
        obtain ⟨a, n, c, e1, e2, e3, e4⟩ := rv_cut p3 (hh_le g1) (l_le g2) hal
        subst e2
        exact ⟨_, runS hud hei e3 g1 g2 hop e1, e4⟩
      · exact h.elim
    · rename_i e hk hx
      rw [hk] at hud
      split at h
      · rename_i ei hei
        obtain ⟨hh, h, g1⟩ := bound_spec h
        obtain ⟨l, h, g2⟩ := bound_spec h
        refine ⟨_, _, .still fun M0 σ w ρ hs hop => ?_, h⟩
        obtain ⟨p1, p2, p3⟩ := oplo hop
        rw [hx] at p3
        have h0 : hh = 0 := by have := hh_le g1; omega
        have l0 : l = 0 := by have := l_le g2; omega
        subst h0; subst l0
        have := runS (n := 0) (c := 0) hud hei (Nat.le_refl 0) g1 g2 hop p3.nils_inv
        exact ⟨_, this, .nils _⟩
      · exact h.elim
    · rename_i e id hk hx
      rw [hk] at hud
      split at h
      · rename_i ei rt rs es hei hH
        cases hsz : Nat.beq rs ei.size with
        | false => simp [hsz] at h
        | true =>
          simp only [hsz, cond_true] at h
          have esz := Nat.eq_of_beq_eq_true hsz
          subst esz
          obtain ⟨hh, h, g1⟩ := bound_spec h
          obtain ⟨l, h, g2⟩ := bound_spec h
          refine ⟨_, _, fun M0 σ w ρ hs hop => ?_, h⟩
          obtain ⟨p1, p2, p3⟩ := oplo hop
          rw [hx] at p3
          have hσ := p3.own_inv
          obtain ⟨q0, g, cap, cur, e1, q1, q2, q3, q4, q5⟩ := hs.ok id _ _ hH hσ
          have hkey : Ext H σ w (H.set id (.frz es)) σ w → Rv (Kof M0 (H.set id (.frz es)) σ w) [] (.sl es) (ρ x) := by
            intro hx'
            rw [e1]
            refine .sl _ es _ cap ei.size (fun i j => cur.getD (i * ei.size + j) undef) q2 (by omega) (fun c hc => ?_) (fun i j c z hc hz => hx'.rv0 ((q5 i c hc).2.2 j z hz)) (fun i j hi hj => ?_)
            · obtain ⟨i, hi⟩ := List.getElem?_of_mem hc
              exact ⟨(q5 i c hi).1, (q5 i c hi).2.1⟩
            · have hlt : i * ei.size + j < cur.size := by
                have := row_pos hi hj
                have : es.length * ei.size ≤ cap * ei.size := Nat.mul_le_mul_right _ q2
                omega
              refine ⟨?_, by rw [Addr.add_lit, Nat.zero_add]; exact getD_cell q1 hlt⟩
              rw [Addr.add_lit]
              intro hm
              have hMg : Mb H σ g := ⟨id, _, _, hH, rfl, hσ, by rw [e1]; rfl⟩
              rcases hm with hm | ⟨i', o', v', m1, m2, m3, m4⟩
              · exact hs.sep g hMg hm
              · rcases set_cases m1 with ⟨rfl, rfl⟩ | ⟨hne, k⟩
                · simp [live] at m2
                · exact hs.dist i' id o' _ v' _ g hne k hH m2 rfl m3 hσ m4 (by rw [e1]; rfl)
          obtain ⟨s1, s2⟩ := hs.write (w' := w) hH hσ rfl (b := g) (by rw [e1]; rfl) rfl rfl rfl rfl (fun _ _ => rfl) (o' := .frz es) hkey
          obtain ⟨a, n, c, f1, f2, f3, f4⟩ := rv_cut (hkey s2) (hh_le g1) (l_le g2) (s := ei.size) (fun c hc => by
            obtain ⟨i, hi⟩ := List.getElem?_of_mem hc
            exact (q5 i c hi).1)
          subst f2
          exact ⟨_, σ, w, .inl (runS hud hei f3 g1 g2 hop f1), s1, s2, f4.closed rfl⟩
      · rename_i ei es hei hH
        obtain ⟨hh, h, g1⟩ := bound_spec h
        obtain ⟨l, h, g2⟩ := bound_spec h
        obtain ⟨hal, h⟩ := h
        refine ⟨_, _, .still fun M0 σ w ρ hs hop => ?_, h⟩
        obtain ⟨p1, p2, p3⟩ := oplo hop
        rw [hx] at p3
        have p4 := hs.ok id _ _ hH p3.own_inv
        obtain ⟨a, n, c, e1, e2, e3, e4⟩ := rv_cut p4 (hh_le g1) (l_le g2) hal
        subst e2
        exact ⟨_, runS hud hei e3 g1 g2 hop e1, e4.closed rfl⟩
      · exact h.elim
    · exact h.elim
end
end Go.Ve
