/- An abstract weakest precondition, nineteenth text: a law's contract, out of its walk. -/
import Derived.Test.YtlmdacgkaailiaaDoorVeR
namespace Go.Ve
open Go.ChangeShapes Go.WideShapes Go.ChangeAt Go.RowKit

/-- An argument that reads as data. -/
def WfV (T : TT) (B : Nat) (t : TypeId) (x : AV) : Prop := ∃ i xs, T t = some i ∧ Wf T B t xs ∧ ((i.isAgg = true ∧ x = .agg xs) ∨ (i.isAgg = false ∧ xs = [x]))
inductive WfA (T : TT) (B : Nat) : List TypeId → List AV → Prop
  | nil : WfA T B [] []
  | cons {t : TypeId} {ts : List TypeId} {x : AV} {xs : List AV} (h : WfV T B t x) (r : WfA T B ts xs) : WfA T B (t :: ts) (x :: xs)

section
variable {H : Type} {enc : TypeId × Value → H} {P : Program} {T : TT} {B : Nat} {W : World} {ok : DataW H → Prop}

theorem open_arg (hT : TOk P T) (hok : OkP B ok) {d : Nat} {t : TypeId} (hr : rdB T d t = true) {r : Reach} {b0 base : Nat} {sp : Nat → Bool} {held : Bool} {v : Value} {dt : DataW H} {ps : List MemPlace} (hval : Value.okWide P W r b0 t v) (h : DataW.Trod enc P W base sp held t v dt ps) (ho : ok dt) :
    ∃ x, Rv (Cst none0 W) [] x v ∧ WfV T B t x := by
  obtain ⟨fuel, hf⟩ := h
  obtain ⟨xs, h1, h2, h3⟩ := opens hT hok d t hr base sp held fuel _ _ hf ho
  cases d with
  | zero => cases hr
  | succ d =>
    simp only [rdB] at hr
    cases hi : T t with
    | none => rw [hi] at hr; cases hr
    | some i =>
      rw [hi] at hr
      simp only at hr
      have hu := (hT t i hi).und
      have one : (∀ cs, v ≠ .agg cs) → i.isAgg = false → ∃ x, Rv (Cst none0 W) [] x v ∧ WfV T B t x := by
        intro hne ha
        have hc : v.cells.toList = [v] := by
          cases v with
          | agg cs => exact absurd rfl (hne cs)
          | _ => rfl
        rw [hc] at h1
        obtain ⟨hl, hv⟩ := h1
        match xs, hl with
        | [x], _ => exact ⟨x, hv 0 x rfl, i, [x], hi, h3, .inr ⟨ha, rfl⟩⟩
      cases hik : i.k with
      | struct fs =>
        rw [hik] at hu
        obtain ⟨fields, hu1, _⟩ := hu
        simp only [Value.okWide, hu1] at hval
        obtain ⟨cs, rfl, _⟩ := hval
        refine ⟨.agg xs, .agg _ _ _ (by rw [← h1.1]; rfl) h2 fun j x hx => ?_, i, xs, hi, h3, .inl ⟨by simp [TI.isAgg, hik], rfl⟩⟩
        have := h1.2 j x hx
        simpa [Value.cells] using this
      | int k =>
        rw [hik] at hu
        refine one (fun cs e => ?_) (by simp [TI.isAgg, hik])
        subst e
        have hu : P.underlying t = some (.int k) := hu
        simp [Value.okWide, hu, Cell.okWide, Cell.ok] at hval
      | bool =>
        rw [hik] at hu
        refine one (fun cs e => ?_) (by simp [TI.isAgg, hik])
        subst e
        have hu : P.underlying t = some .bool := hu
        simp [Value.okWide, hu, Cell.okWide, Cell.ok] at hval
      | str =>
        rw [hik] at hu
        refine one (fun cs e => ?_) (by simp [TI.isAgg, hik])
        subst e
        have hu : P.underlying t = some .string := hu
        simp [Value.okWide, hu, Cell.okWide, Cell.ok] at hval
      | slice e =>
        rw [hik] at hu
        refine one (fun cs e => ?_) (by simp [TI.isAgg, hik])
        subst e
        have hu : P.underlying t = some (.slice _) := hu
        simp [Value.okWide, hu, Cell.okWide, Cell.ok] at hval
      | _ => rw [hik] at hr; cases hr

theorem open_args (hT : TOk P T) (hok : OkP B ok) {d : Nat} {base b0 : Nat} {sp : Nat → Bool} {held : Bool} : ∀ {ts : List TypeId} {vs : List Value} {ds : List (DataW H)} {p : List MemPlace}, (ts.all fun t => rdB T d t) = true →
    (∀ (j : Nat) t v, ts[j]? = some t → vs[j]? = some v → Value.okWide P W .any b0 t v) → DataW.TrodAll enc P W base sp held ts vs ds p → (∀ dt ∈ ds, ok dt) → ∃ xs, Rvs (Cst none0 W) [] xs vs ∧ WfA T B ts xs
  | [], [], [], _, _, _, _, _ => ⟨[], ⟨rfl, fun i x h => by simp at h⟩, .nil⟩
  | [], _ :: _, _, _, _, _, h, _ => h.elim
  | [], [], _ :: _, _, _, _, h, _ => h.elim
  | _ :: _, [], _, _, _, _, h, _ => h.elim
  | _ :: _, _ :: _, [], _, _, _, h, _ => h.elim
  | t :: ts, v :: vs, dt :: ds, _, hr, hv, ⟨p, q, h1, h2, _⟩, hod => by
    simp only [List.all_cons, Bool.and_eq_true] at hr
    obtain ⟨x, k1, k2⟩ := open_arg hT hok hr.1 (hv 0 t v rfl rfl) h1 (hod _ List.mem_cons_self)
    obtain ⟨xs, k3, k4⟩ := open_args hT hok (by simpa using hr.2) (fun j t' v' ht hv' => hv (j + 1) t' v' (by simpa using ht) (by simpa using hv')) h2 (fun d' hd' => hod d' (List.mem_cons_of_mem _ hd'))
    refine ⟨x :: xs, ⟨by simp [k3.1], fun i y hy => ?_⟩, .cons k2 k4⟩
    cases i with
    | zero => simp at hy; subst hy; exact k1
    | succ i => exact k3.2 i y hy

/-- The law's contract at any arguments, out of its walk at their abstract forms. -/
theorem law_contract (hT : TOk P T) (hok : OkP B ok) (hl : laidOutB P = true) {f : FuncId} {fn : Func} {s : ChangeSpec} {tb : TypeId} {d : Nat} {ts : Array TypeId}
    (hparams : fn.params = ts) (hres : fn.resultTypes = #[tb]) (hb : P.underlying tb = some .bool) (hvars : s.vars = []) (hread : (ts.toList.all fun t => P.readableRec t && decide (t < P.types.size)) = true) (hrd : (ts.toList.all fun t => rdB T d t) = true)
    (hs : ∀ ds : List (DataW H), ds.length = ts.toList.length → s.fn H ds = { results := [.lit (.bool true)], args := ds })
    (hP : ∀ xs, WfA T B ts.toList xs → PCall P f xs (.bool true)) (hg : ∀ b, gblk = some b → ∃ m, W.cell? ⟨b, 0, none⟩ = some (.int .i64 m))
    {base : Nat} {args : Array Value} {ds gs : List (DataW H)} {before : List MemPlace} (hval : ∀ (j : Nat) t v, fn.params[j]? = some t → args[j]? = some v → Value.okWide P W .any base t v)
    (hW : DataW.Whole enc P fn.params.toList s.vars false W args.toList ds gs before) (hod : ∀ dt ∈ ds ++ gs, ok dt) :
    Calls P f args W fun e W' => ∃ v, e = .returned v ∧ s.post enc P fn false true false false W args v W' := by
  have hW' := hW
  rw [hparams] at hval
  rw [hparams, hvars] at hW
  obtain ⟨p, q, hA, hV, rfl, _, _⟩ := hW
  obtain ⟨rfl, rfl⟩ := trodVars_none hV
  have hlt : ∀ x ∈ p, x.block < W.heap.size := fun x hx => hW'.lt x (List.mem_append_left _ hx)
  obtain ⟨xs, h1, h2⟩ := open_args hT hok hrd (fun j t v ht hv => hval j t v (by simpa using ht) (by simpa using hv)) hA (fun d hd => hod d (List.mem_append_left _ hd))
  have hC := hP xs h2
  unfold PCall at hC
  have hlen : ∀ {ts : List TypeId} {vs : List Value} {ds : List (DataW H)} {p : List MemPlace}, DataW.TrodAll enc P W 0 (fun _ => true) true ts vs ds p → ds.length = ts.length := by
    intro ts
    induction ts with
    | nil => intro vs ds p h; obtain ⟨_, rfl, _⟩ := trodAll_nil h; rfl
    | cons t ts ih => intro vs ds p h; obtain ⟨_, _, _, _, _, _, _, rfl, _, _, h2⟩ := trodAll_cons h; simp [ih h2]
  have hfn := hs ds (hlen hA)
  have hC2 := hC.2 none0 W args.toList (fun b hb => hb.elim) (fun b hb => let ⟨m, hm⟩ := hg b hb; ⟨m, cst0 hm⟩) h1
  refine Calls.mono hC2 ?_
  rintro e W' ⟨v, rfl, bel, hv⟩
  obtain rfl := hv.bool_inv
  refine ⟨_, rfl, ds, [], _, [], p, [], hW', ?_, ?_, ?_, bel.frame _, fun h => by cases h⟩
  · rw [List.append_nil, hfn, hres]; exact trodAll_mk1 (shut_bool hb _)
  · rw [List.append_nil, hfn, hparams]; exact below_all hl bel hread hA hlt
  · rw [List.append_nil, hfn, hvars]; rfl
end

/-! ### what is known of arguments -/
section
variable {T : TT} {B : Nat} {t : TypeId} {xs : List AV} {x : AV}
theorem Wf.int_inv {k : IntKind} (hk : kOf T t = some (.int k)) (h : Wf T B t xs) : ∃ n, xs = [.int k n] ∧ (Lit.int k n).wf = true := by
  cases h with
  | int h1 h2 => rw [hk] at h1; cases h1; exact ⟨_, rfl, h2⟩
  | bool h1 => rw [hk] at h1; cases h1
  | str h1 => rw [hk] at h1; cases h1
  | nils h1 => rw [hk] at h1; cases h1
  | sl h1 => rw [hk] at h1; cases h1
  | struct h1 => rw [hk] at h1; cases h1
theorem Wf.bool_inv (hk : kOf T t = some .bool) (h : Wf T B t xs) : ∃ b, xs = [.bool b] := by
  cases h with
  | int h1 => rw [hk] at h1; cases h1
  | bool h1 => exact ⟨_, rfl⟩
  | str h1 => rw [hk] at h1; cases h1
  | nils h1 => rw [hk] at h1; cases h1
  | sl h1 => rw [hk] at h1; cases h1
  | struct h1 => rw [hk] at h1; cases h1
theorem Wf.str_inv (hk : kOf T t = some .str) (h : Wf T B t xs) : ∃ s, xs = [.str s] ∧ s.length ≤ B := by
  cases h with
  | int h1 => rw [hk] at h1; cases h1
  | bool h1 => rw [hk] at h1; cases h1
  | str h1 h2 => exact ⟨_, rfl, h2⟩
  | nils h1 => rw [hk] at h1; cases h1
  | sl h1 => rw [hk] at h1; cases h1
  | struct h1 => rw [hk] at h1; cases h1
theorem Wf.slice_inv {e : TypeId} (hk : kOf T t = some (.slice e)) (h : Wf T B t xs) : xs = [.nils] ∨ ∃ es, xs = [.sl es] ∧ es.length ≤ B ∧ ∀ c ∈ es, Wf T B e c := by
  cases h with
  | int h1 => rw [hk] at h1; cases h1
  | bool h1 => rw [hk] at h1; cases h1
  | str h1 => rw [hk] at h1; cases h1
  | nils h1 => exact .inl rfl
  | sl h1 h2 h3 => rw [hk] at h1; cases h1; exact .inr ⟨_, rfl, h2, h3⟩
  | struct h1 => rw [hk] at h1; cases h1
theorem Wf.struct_inv {fs : List (Nat × TypeId)} (hk : kOf T t = some (.struct fs)) (h : Wf T B t xs) : WfL T B (fs.map (·.2)) xs := by
  cases h with
  | int h1 => rw [hk] at h1; cases h1
  | bool h1 => rw [hk] at h1; cases h1
  | str h1 => rw [hk] at h1; cases h1
  | nils h1 => rw [hk] at h1; cases h1
  | sl h1 => rw [hk] at h1; cases h1
  | struct h1 h2 => rw [hk] at h1; cases h1; exact h2
theorem WfL.cons_inv {ts : List TypeId} (h : WfL T B (t :: ts) xs) : ∃ a b, xs = a ++ b ∧ Wf T B t a ∧ WfL T B ts b := by
  cases h with
  | cons h r => exact ⟨_, _, rfl, h, r⟩
theorem WfL.nil_inv (h : WfL T B [] xs) : xs = [] := by cases h; rfl
theorem WfV.int_inv {k : IntKind} (hk : kOf T t = some (.int k)) (h : WfV T B t x) : ∃ n, x = .int k n ∧ (Lit.int k n).wf = true := by
  obtain ⟨i, xs, h1, h2, h3⟩ := h
  obtain ⟨n, rfl, hw⟩ := h2.int_inv hk
  rcases h3 with ⟨ha, _⟩ | ⟨_, e⟩
  · have hik : i.k = .int k := by simpa [kOf, h1] using hk
    simp [TI.isAgg, hik] at ha
  · simp at e; exact ⟨n, e.symm, hw⟩
theorem WfV.bool_inv (hk : kOf T t = some .bool) (h : WfV T B t x) : ∃ b, x = .bool b := by
  obtain ⟨i, xs, h1, h2, h3⟩ := h
  obtain ⟨n, rfl⟩ := h2.bool_inv hk
  rcases h3 with ⟨ha, _⟩ | ⟨_, e⟩
  · have hik : i.k = .bool := by simpa [kOf, h1] using hk
    simp [TI.isAgg, hik] at ha
  · simp at e; exact ⟨n, e.symm⟩
theorem WfV.str_inv (hk : kOf T t = some .str) (h : WfV T B t x) : ∃ s, x = .str s ∧ s.length ≤ B := by
  obtain ⟨i, xs, h1, h2, h3⟩ := h
  obtain ⟨n, rfl, hw⟩ := h2.str_inv hk
  rcases h3 with ⟨ha, _⟩ | ⟨_, e⟩
  · have hik : i.k = .str := by simpa [kOf, h1] using hk
    simp [TI.isAgg, hik] at ha
  · simp at e; exact ⟨n, e.symm, hw⟩
theorem WfV.slice_inv {e : TypeId} (hk : kOf T t = some (.slice e)) (h : WfV T B t x) : x = .nils ∨ ∃ es, x = .sl es ∧ es.length ≤ B ∧ ∀ c ∈ es, Wf T B e c := by
  obtain ⟨i, xs, h1, h2, h3⟩ := h
  have hik : i.k = .slice e := by simpa [kOf, h1] using hk
  rcases h3 with ⟨ha, _⟩ | ⟨_, rfl⟩
  · simp [TI.isAgg, hik] at ha
  · rcases h2.slice_inv hk with h | ⟨es, h, h'⟩
    · exact .inl (List.singleton_inj.1 h)
    · exact .inr ⟨es, List.singleton_inj.1 h, h'⟩
theorem WfV.struct_inv {fs : List (Nat × TypeId)} (hk : kOf T t = some (.struct fs)) (h : WfV T B t x) : ∃ xs, x = .agg xs ∧ WfL T B (fs.map (·.2)) xs := by
  obtain ⟨i, xs, h1, h2, h3⟩ := h
  have hik : i.k = .struct fs := by simpa [kOf, h1] using hk
  rcases h3 with ⟨_, rfl⟩ | ⟨ha, _⟩
  · exact ⟨xs, rfl, h2.struct_inv hk⟩
  · simp [TI.isAgg, hik] at ha
theorem WfA.cons_inv {ts : List TypeId} (h : WfA T B (t :: ts) xs) : ∃ x r, xs = x :: r ∧ WfV T B t x ∧ WfA T B ts r := by
  cases h with
  | cons h r => exact ⟨_, _, rfl, h, r⟩
theorem WfA.nil_inv (h : WfA T B [] xs) : xs = [] := by cases h; rfl
end
end Go.Ve
