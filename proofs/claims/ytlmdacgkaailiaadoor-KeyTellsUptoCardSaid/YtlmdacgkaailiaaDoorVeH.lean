/- An abstract weakest precondition, eighth text: struct values; new objects; stores; lists that grow. -/
import Derived.Test.YtlmdacgkaailiaaDoorVeG
set_option linter.unusedSimpArgs false
set_option linter.unusedVariables false
namespace Go.Ve
open Go.RowKit (Below)
section
variable {P : Program} {T : TT} {o : Oper} {ev : Operand → AV} {H : Hp} {K : KV}

/-- A value's cells stand as the abstract value's. -/
theorem rv_cells {K0 : Addr → Value → Prop} {σ : List Value} {x : AV} {v : Value} (h : Rv K0 σ x v) (hc : (cellsOf x).all isCell = true) :
    v.cells.size = (cellsOf x).length ∧ (∀ j y, (cellsOf x)[j]? = some y → Rv K0 σ y (v.cells.getD j undef)) ∧ ∀ u ∈ v.cells.toList, u.oneCell' = true := by
  cases x with
  | agg cs =>
    obtain ⟨vs, rfl, h1, h2, h3⟩ := h.agg_inv
    refine ⟨h1, h3, fun u hu => ?_⟩
    change u ∈ vs.toList at hu
    obtain ⟨j, hj⟩ := List.getElem?_of_mem hu
    have hlt : j < vs.size := by simpa using (List.getElem?_eq_some_iff.1 hj).1
    have hx : cs[j]? = some (cs[j]'(by omega)) := List.getElem?_eq_getElem (by omega)
    have := h3 j _ hx
    have hcell : isCell (cs[j]'(by omega)) = true := (List.all_eq_true.1 h2) _ (List.getElem_mem _)
    have e : vs.getD j undef = u := by simpa [hlt] using hj
    rw [e] at this
    exact this.oneCell hcell
  | tup cs => simp [cellsOf, isCell] at hc
  | undef => simp [cellsOf, isCell] at hc
  | _ =>
    have h1 := h.oneCell (by simpa [cellsOf] using hc)
    have e : v.cells = #[v] := by cases v <;> first | rfl | (simp [Value.oneCell'] at h1; done)
    refine ⟨by rw [e]; rfl, fun j y hy => ?_, fun u hu => ?_⟩
    · cases j with
      | zero => simp [cellsOf] at hy; subst hy; rw [e]; exact h
      | succ j => simp [cellsOf] at hy
    · rw [e] at hu; simp at hu; subst hu; exact h1

theorem fill_spec {places : Nat → Option (Nat × Nat)} {placesV : Nat → Option (Nat × Nat)} (hp : ∀ j p, places j = some p → placesV j = some p) {K0 : Addr → Value → Prop} {σ : List Value} :
    ∀ (parts : List (Nat × AV)) (cells : List AV) (partsV : List (Nat × Value)) (cellsV : Array Value) (r : List AV), afill places cells parts = some r →
      partsV.length = parts.length → (∀ (j : Nat) (p : Nat × AV), parts[j]? = some p → ∃ q : Nat × Value, partsV[j]? = some q ∧ q.1 = p.1 ∧ Rv K0 σ p.2 q.2) → (∀ p ∈ parts, (cellsOf p.2).all isCell = true) →
      cellsV.size = cells.length → cells.all isCell = true → (∀ j x, cells[j]? = some x → Rv K0 σ x (cellsV.getD j undef)) →
      ∃ rV, Instr.fill placesV cellsV partsV = some rV ∧ rV.size = r.length ∧ r.all isCell = true ∧ ∀ j x, r[j]? = some x → Rv K0 σ x (rV.getD j undef)
  | [], cells, partsV, cellsV, r, h, hl, _, _, h1, h2, h3 => by
    have : partsV = [] := List.eq_nil_of_length_eq_zero hl
    subst this
    simp only [afill, Option.some.injEq] at h
    subst h
    exact ⟨cellsV, rfl, h1, h2, h3⟩
  | (i, v) :: rest, cells, partsV, cellsV, r, h, hl, hpt, hpc, h1, h2, h3 => by
    cases partsV with
    | nil => simp at hl
    | cons q restV =>
      obtain ⟨q', e1, e2, e3⟩ := hpt 0 _ rfl
      simp at e1
      subst e1
      obtain ⟨qi, qv⟩ := q
      simp at e2 e3
      subst e2
      simp only [afill] at h
      cases hpl : places qi with
      | none => simp [hpl] at h
      | some p =>
        obtain ⟨off, size⟩ := p
        simp only [hpl] at h
        cases hb : Nat.beq (cellsOf v).length size && Nat.ble (off + size) cells.length with
        | false => simp [hb] at h
        | true =>
          simp only [hb, cond_true] at h
          rw [Bool.and_eq_true] at hb
          have esz := Nat.eq_of_beq_eq_true hb.1
          have hle := Nat.le_of_ble_eq_true hb.2
          obtain ⟨c1, c2, c3⟩ := rv_cells e3 (hpc _ List.mem_cons_self)
          obtain ⟨f1, f2⟩ := Great.foldl_set off qv.cells.toList 0 cellsV
          have hcells' : (splice cells off (cellsOf v)).length = cells.length := by simp [splice]; omega
          obtain ⟨rV, g1, g2⟩ := fill_spec hp rest (splice cells off (cellsOf v)) restV (qv.cells.toList.zipIdx.foldl (fun cs (x : Value × Nat) => cs.setIfInBounds (off + x.2) x.1) cellsV) r h (by simpa using hl)
            (fun j p hj => by simpa using hpt (j + 1) p (by simpa using hj)) (fun p hp => hpc p (List.mem_cons_of_mem _ hp)) (by rw [f1, h1, hcells']) (by
              rw [List.all_eq_true] at *
              intro x hx
              unfold splice at hx
              rw [List.mem_append, List.mem_append] at hx
              rcases hx with (hx | hx) | hx
              · exact h2 x (List.mem_of_mem_take hx)
              · exact (List.all_eq_true.1 (hpc _ List.mem_cons_self)) x hx
              · exact h2 x (List.mem_of_mem_drop hx)) (fun j x hx => by
              have hj : j < cells.length := by rw [← hcells']; exact (List.getElem?_eq_some_iff.1 hx).1
              rw [Array.getD_eq_getD_getElem?, f2 j]
              unfold splice at hx
              simp only [Nat.add_zero, Array.length_toList, c1]
              by_cases hin : off ≤ j ∧ j < off + (cellsOf v).length
              · rw [if_pos ⟨hin.1, hin.2, by omega⟩]
                rw [List.getElem?_append_left (by simp; omega), List.getElem?_append_right (by simp; omega)] at hx
                have e : j - (cells.take off).length = j - off := by simp; omega
                rw [e] at hx
                have := c2 _ _ hx
                have e' : (qv.cells.toList[j - off]?).getD undef = qv.cells.getD (j - off) undef := by simp
                rw [e']; exact this
              · rw [if_neg (by omega)]
                rw [← Array.getD_eq_getD_getElem?]
                refine h3 j x ?_
                by_cases hlo : j < off
                · rw [List.getElem?_append_left (by simp; omega), List.getElem?_append_left (by simp; omega), List.getElem?_take, if_pos hlo] at hx
                  exact hx
                · rw [List.getElem?_append_right (by simp; omega), List.getElem?_drop] at hx
                  have e : off + (cellsOf v).length + (j - (cells.take off ++ cellsOf v).length) = j := by simp; omega
                  rw [e] at hx
                  exact hx)
          refine ⟨rV, ?_, g2⟩
          unfold Instr.fill
          rw [hp _ _ hpl]
          simp only
          rw [if_neg (by rw [Bool.or_eq_true, not_or]; simp; rw [c1]; omega)]
          have ez : (qv.cells.zipIdx.foldl (fun cs (x : Value × Nat) => cs.setIfInBounds (off + x.2) x.1) cellsV) = (qv.cells.toList.zipIdx.foldl (fun cs (x : Value × Nat) => cs.setIfInBounds (off + x.2) x.1) cellsV) := by
            rw [← Array.foldl_toList]; simp
          rw [ez]
          exact g1

theorem mapM_get {α β : Type} {f : α → Option β} : ∀ {l : List α} {r : List β}, l.mapM f = some r → ∀ (j : Nat) (a : α), l[j]? = some a → ∃ b, f a = some b ∧ r[j]? = some b
  | [], r, h, j, a, hj => by simp at hj
  | x :: xs, r, h, j, a, hj => by
    simp only [List.mapM_cons, Option.bind_eq_bind, Option.bind_eq_some_iff, Option.pure_def] at h
    obtain ⟨y, hy, ys, hys, e⟩ := h
    simp at e
    subst e
    cases j with
    | zero => simp at hj; subst hj; exact ⟨y, hy, rfl⟩
    | succ j => simpa using mapM_get hys j a (by simpa using hj)

theorem sem_build (hT : TOk P T) {t : TypeId} {parts : Array (Nat × Operand)} (ho : o.op = .build t parts) (h : abuild T t (parts.toList.map fun p => (p.1, ev p.2)) H K) : ∃ r, (∀ H, OpSem P o ev H r H) ∧ K r H := by
  unfold abuild at h
  cases hti : T t with
  | none => simp [hti] at h
  | some i =>
    have ht := hT t i hti
    simp only [hti] at h
    cases hag : i.isAgg && ((parts.toList.map fun p => (p.1, ev p.2)).all fun p => (cellsOf p.2).all isCell) with
    | false => rw [hag] at h; exact h.elim
    | true =>
      rw [hag] at h
      simp only [cond_true] at h
      rw [Bool.and_eq_true] at hag
      split at h
      · rename_i cs hcs
        refine ⟨_, fun H => .still fun M0 σ w ρ _ hop => ?_, h⟩
        obtain ⟨pi, z, q1, q2, q3, q4, q5⟩ := ht.get
        have hz : z.cells.size = i.zero.length := by rw [← Array.length_toList, q5]; simp
        have hzr : ∀ j x, i.zero[j]? = some x → Rv (Kof M0 H σ w) σ x (z.cells.getD j undef) := by
          intro j x hx
          have hs : simple1 x = true := (List.all_eq_true.1 ht.simple) x (List.mem_of_getElem? hx)
          have e : z.cells.toList[j]? = some (toV x) := by rw [q5]; simp [hx]
          have e' : z.cells.getD j undef = toV x := by
            have : z.cells[j]? = some (toV x) := by simpa using e
            simp [this]
          rw [e']; exact Rv.toV hs
        have hzc : i.zero.all isCell = true := by
          rw [List.all_eq_true]; exact fun x hx => cell_of_simple ((List.all_eq_true.1 ht.simple) x hx)
        have hpts : ∀ (j : Nat) (p : Nat × AV), (parts.toList.map fun p => (p.1, ev p.2))[j]? = some p → ∃ q : Nat × Value, ((parts.map fun (i, x) => (i, ρ x)).toList)[j]? = some q ∧ q.1 = p.1 ∧ Rv (Kof M0 H σ w) σ p.2 q.2 := by
          intro j p hj
          simp only [List.getElem?_map, Option.map_eq_some_iff] at hj
          obtain ⟨a, ha, rfl⟩ := hj
          have ha' : parts[j]? = some a := by simpa using ha
          refine ⟨(a.1, ρ a.2), by simp [ha'], rfl, hop a.2 ?_⟩
          simp only [ho, Op.operands]
          simp only [List.mem_toArray, List.mem_map]
          exact ⟨a, List.mem_of_getElem? ha, rfl⟩
        have key : ∀ (placesV : Nat → Option (Nat × Nat)), (∀ j p, placesOf T i j = some p → placesV j = some p) → ∃ rV, Instr.fill placesV z.cells (parts.map fun (i, x) => (i, ρ x)).toList = some rV ∧ rV.size = cs.length ∧ cs.all isCell = true ∧ ∀ j x, cs[j]? = some x → Rv (Kof M0 H σ w) σ x (rV.getD j undef) :=
          fun placesV hp => fill_spec hp _ _ _ _ _ hcs (by simp) hpts (fun p hp => (List.all_eq_true.1 hag.2) p hp) hz hzc hzr
        have hud := ht.und
        have done : ∀ (cells : Array Value), P.built t (parts.map fun (i, x) => (i, ρ x)).toList = some cells → cells.size = cs.length → cs.all isCell = true → (∀ j x, cs[j]? = some x → Rv (Kof M0 H σ w) σ x (cells.getD j undef)) → ∃ v, (execOp ρ o).run P w = .ok (.value v) w ∧ Rv (Kof M0 H σ w) σ (.agg cs) v := by
          intro cells hb k1 k2 k3
          exact ⟨.agg cells, by simp only [execOp, ho, Sem.run_bind, run_build w t _ cells hb, Result.andThen_ok, Sem.run_pure], .agg _ _ _ k1 k2 k3⟩
        unfold TI.isAgg at hag
        cases hk : i.k with
        | struct fs =>
          rw [hk] at hud
          obtain ⟨fields, hu, hfs, hpl⟩ := hud
          obtain ⟨places, hpl⟩ := Option.isSome_iff_exists.1 hpl
          obtain ⟨rV, g1, g2, g3, g4⟩ := key (places.toArray[·]?) (fun j p hj => by
            unfold placesOf at hj
            simp only [hk] at hj
            split at hj
            · rename_i off ft hf
              rw [← hfs, List.getElem?_map] at hf
              simp only [Option.map_eq_some_iff, Prod.mk.injEq] at hf
              obtain ⟨fd, k1, k2, k3⟩ := hf
              obtain ⟨fi, hfi, e⟩ := Option.map_eq_some_iff.1 hj
              obtain ⟨b, m1, m2⟩ := mapM_get hpl j fd k1
              obtain ⟨pi', _, r1, r2, _⟩ := (hT ft fi hfi).get
              rw [k3, r1] at m1
              simp at m1
              simp only [List.getElem?_toArray, m2, ← m1, ← e, k2, r2]
            · cases hj)
          exact done rV (by unfold Program.built; simp only [q1, hu, q4, hpl]; exact g1) g2 g3 g4
        | array n e =>
          rw [hk] at hud
          obtain ⟨hud, hie⟩ := hud
          obtain ⟨ie, hie⟩ := Option.isSome_iff_exists.1 hie
          obtain ⟨rV, g1, g2, g3, g4⟩ := key (fun i => some (i * ie.size, ie.size)) (fun j p hj => by
              unfold placesOf at hj
              simp only [hk] at hj
              obtain ⟨fi, hfi, e'⟩ := Option.map_eq_some_iff.1 hj
              obtain ⟨pi', _, r1, r2, _⟩ := (hT e fi hfi).get
              rw [hie] at r1
              simp at r1
              subst r1
              rw [← e', r2])
          exact done rV (by unfold Program.built; simp only [q1, hud, q4, hie]; exact g1) g2 g3 g4
        | _ => simp [hk] at hag
      · exact h.elim
end
end Go.Ve
