/- An abstract weakest precondition, ninth text: new objects, stores, lists that grow. -/
import Derived.Test.YtlmdacgkaailiaaDoorVeH
set_option linter.unusedSimpArgs false
set_option linter.unusedVariables false
namespace Go.Ve
open Go.RowKit (Below)
section
variable {P : Program} {T : TT} {o : Oper} {ev : Operand → AV} {H : Hp} {K : KV}

theorem below_alloc (w : World) (ob : Obj) : Below w.heap.size w (w.alloc ob) := (Below.refl _ w).alloc (Nat.le_refl _) ob
theorem heap_alloc (w : World) (ob : Obj) : (w.alloc ob).heap[w.heap.size]? = some ob := by
  show (w.heap.push ob)[w.heap.size]? = _
  simp

theorem new_id {α : Type} (l : List α) (x : α) : (l ++ [x])[l.length]? = some x := by simp

theorem zero_cells {t : TypeId} {i : TI} (ht : TyOk P t i) {z : Value} (hz : z.cells.toList = i.zero.map toV) {K0 : Addr → Value → Prop} {σ : List Value} :
    z.cells.size = i.zero.length ∧ i.zero.all isCell = true ∧ i.zero.all closed1 = true ∧ ∀ j x, i.zero[j]? = some x → Rv K0 σ x (z.cells.getD j undef) := by
  refine ⟨by rw [← Array.length_toList, hz]; simp, ?_, ?_, fun j x hx => ?_⟩
  · rw [List.all_eq_true]; exact fun x hx => cell_of_simple ((List.all_eq_true.1 ht.simple) x hx)
  · rw [List.all_eq_true]; exact fun x hx => closed_of_simple ((List.all_eq_true.1 ht.simple) x hx)
  · have hs : simple1 x = true := (List.all_eq_true.1 ht.simple) x (List.mem_of_getElem? hx)
    have e : z.cells.toList[j]? = some (toV x) := by rw [hz]; simp [hx]
    have e' : z.cells.getD j undef = toV x := by
      have : z.cells[j]? = some (toV x) := by simpa using e
      simp [this]
    rw [e']; exact Rv.toV hs

theorem sem_alloc (hT : TOk P T) {e : TypeId} (ho : o.op = .alloc e) {nk : Bool} (h : aop T nk o.op ev H K) : ∃ r H', OpSem P o ev H r H' ∧ K r H' := by
  rw [ho] at h
  simp only [aop, forceN_eq] at h
  split at h
  · rename_i i hei
    have ht := hT e i hei
    refine ⟨_, _, fun M0 σ w ρ hs hop => ?_, h⟩
    obtain ⟨z, hz1, hz2⟩ := ht.zeroValue
    obtain ⟨c1, c2, _, c3⟩ := zero_cells ht hz2 (K0 := Kof M0 (H ++ [.box e i.zero]) (σ ++ [.pointer (some ⟨w.heap.size, 0, none⟩)]) (w.alloc (.cells z.cells e))) (σ := σ ++ [.pointer (some ⟨w.heap.size, 0, none⟩)])
    obtain ⟨s1, s2⟩ := hs.push (below_alloc w (.cells z.cells e)) (o := .box e i.zero) (v := .pointer (some ⟨w.heap.size, 0, none⟩)) (fun b hb => by simp [blkOf] at hb; omega)
      (fun _ => ⟨c2, w.heap.size, z.cells, rfl, heap_alloc w _, c1, c3⟩)
    exact ⟨_, _, _, .inl (by simp [execOp, ho, Instr.alloc, hz1, newVar, newRow]; rfl), s1, s2, .ptr _ _ _ _ (by rw [← hs.len]; exact new_id _ _)⟩
  · exact h.elim

theorem sem_box (hT : TOk P T) {e : TypeId} {x : Operand} (ho : o.op = .box e x) {nk : Bool} (h : aop T nk o.op ev H K) : ∃ r H', OpSem P o ev H r H' ∧ K r H' := by
  rw [ho] at h
  simp only [aop, forceN_eq] at h
  split at h
  · rename_i i hei
    cases hb : Nat.beq (cellsOf (ev x)).length i.size && (cellsOf (ev x)).all isCell with
    | false => rw [hb] at h; exact h.elim
    | true =>
      rw [hb] at h
      simp only [cond_true] at h
      rw [Bool.and_eq_true] at hb
      refine ⟨_, _, fun M0 σ w ρ hs hop => ?_, h⟩
      have h1 := hop x (by simp [ho, Op.operands])
      obtain ⟨c1, c2, c3⟩ := rv_cells h1 hb.2
      obtain ⟨s1, s2⟩ := hs.push (below_alloc w (.cells (ρ x).cells e)) (o := .box e (cellsOf (ev x))) (v := .pointer (some ⟨w.heap.size, 0, none⟩)) (fun b hb => by simp [blkOf] at hb; omega)
        (fun hx => ⟨hb.2, w.heap.size, (ρ x).cells, rfl, heap_alloc w _, c1, fun j y hy => hx.rv (c2 j y hy)⟩)
      exact ⟨_, _, _, .inl (by simp [execOp, ho, Instr.box, newVar, newRow]; rfl), s1, s2, .ptr _ _ _ _ (by rw [← hs.len]; exact new_id _ _)⟩
  · exact h.elim

theorem splice_get {cs ds : List AV} {off j : Nat} (hle : off + ds.length ≤ cs.length) : (splice cs off ds)[j]? = if off ≤ j ∧ j < off + ds.length then ds[j - off]? else cs[j]? := by
  unfold splice
  by_cases h1 : j < off
  · rw [if_neg (by omega), List.getElem?_append_left (by simp; omega), List.getElem?_append_left (by simp; omega), List.getElem?_take, if_pos h1]
  · by_cases h2 : j < off + ds.length
    · rw [if_pos ⟨by omega, h2⟩, List.getElem?_append_left (by simp; omega), List.getElem?_append_right (by simp; omega)]
      congr 1; simp; omega
    · rw [if_neg (by omega), List.getElem?_append_right (by simp; omega), List.getElem?_drop]
      congr 1; simp; omega
theorem splice_len {cs ds : List AV} {off : Nat} (hle : off + ds.length ≤ cs.length) : (splice cs off ds).length = cs.length := by simp [splice]; omega
theorem spliceV_get (vs us : List Value) {off j : Nat} (hle : off + us.length ≤ vs.length) : ((vs.take off ++ us ++ vs.drop (off + us.length)).toArray).getD j undef = if off ≤ j ∧ j < off + us.length then us.getD (j - off) undef else vs.getD j undef := by
  rw [Array.getD_eq_getD_getElem?, List.getElem?_toArray, List.getD_eq_getElem?_getD, List.getD_eq_getElem?_getD]
  by_cases h1 : j < off
  · rw [if_neg (by omega), List.getElem?_append_left (by simp; omega), List.getElem?_append_left (by simp; omega), List.getElem?_take, if_pos h1]
  · by_cases h2 : j < off + us.length
    · rw [if_pos ⟨by omega, h2⟩, List.getElem?_append_left (by simp; omega), List.getElem?_append_right (by simp; omega)]
      congr 2; simp; omega
    · rw [if_neg (by omega), List.getElem?_append_right (by simp; omega), List.getElem?_drop]
      congr 2; simp; omega

theorem all_splice {cs ds : List AV} {off : Nat} {p : AV → Bool} (h1 : cs.all p = true) (h2 : ds.all p = true) : (splice cs off ds).all p = true := by
  rw [List.all_eq_true] at *
  intro x hx
  unfold splice at hx
  rw [List.mem_append, List.mem_append] at hx
  rcases hx with (hx | hx) | hx
  · exact h1 x (List.mem_of_mem_take hx)
  · exact h2 x hx
  · exact h1 x (List.mem_of_mem_drop hx)

theorem sem_store (hT : TOk P T) {t : TypeId} {a x : Operand} (ho : o.op = .store t a x) (h : astore T t (ev a) (ev x) H K) : ∃ r H', OpSem P o ev H r H' ∧ K r H' := by
  unfold astore at h
  cases hti : T t with
  | none => simp [hti] at h
  | some i =>
    have ht := hT t i hti
    simp only [hti] at h
    cases hb : Nat.beq (cellsOf (ev x)).length i.size && (cellsOf (ev x)).all isCell with
    | false => rw [hb] at h; exact h.elim
    | true =>
      rw [hb] at h
      simp only [cond_true] at h
      rw [Bool.and_eq_true] at hb
      have esz := Nat.eq_of_beq_eq_true hb.1
      have runSt : ∀ (w : World) (ρ : Operand → Value) (g off : Nat) (cur : Array Value) (ty : TypeId), w.heap[g]? = some (.cells cur ty (0, 0)) → ρ a = .pointer (some ⟨g, off, none⟩) → (ρ x).cells.size = i.size → (∀ u ∈ (ρ x).cells.toList, u.oneCell' = true) → off + i.size ≤ cur.size →
          (execOp ρ o).run P w = .ok .skip (w.setRow g (cur.toList.take off ++ (ρ x).cells.toList ++ cur.toList.drop (off + (ρ x).cells.toList.length)).toArray) := by
        intro w ρ g off cur ty hg ha hc1 hc2 hle
        have := run_storeCells_at (P := P) g off ty (ρ x).cells.toList 0 cur w hg (by simp; omega) hc2
        simp only [Nat.add_zero] at this
        simp [execOp, ho, ha, Instr.storeAt, Instr.sureAddr, storeVar, ht.sizeOf, hc1, this]
      split at h
      · rename_i id off hea
        split at h
        · rename_i bt cs hH
          cases hle : Nat.ble (off + (cellsOf (ev x)).length) cs.length with
          | false => rw [hle] at h; exact h.elim
          | true =>
            rw [hle] at h
            simp only [cond_true] at h
            have hle' := Nat.le_of_ble_eq_true hle
            refine ⟨_, _, fun M0 σ w ρ hs hop => ?_, h⟩
            have h1 := hop a (by simp [ho, Op.operands]); rw [hea] at h1
            have h2 := hop x (by simp [ho, Op.operands])
            obtain ⟨b, e1, hσ⟩ := h1.ptr_inv
            obtain ⟨q0, b', vs, e2, q1, q2, q3⟩ := hs.ok id _ _ hH hσ
            cases e2
            obtain ⟨c1, c2, c3⟩ := rv_cells h2 hb.2
            have hr := runSt w ρ b off vs bt q1 e1 (by rw [c1]; exact esz) c3 (by omega)
            have hl : (ρ x).cells.toList.length = (cellsOf (ev x)).length := by simpa using c1
            obtain ⟨nw, hnw⟩ : ∃ nw, nw = (vs.toList.take off ++ (ρ x).cells.toList ++ vs.toList.drop (off + (ρ x).cells.toList.length)).toArray := ⟨_, rfl⟩
            rw [← hnw] at hr
            obtain ⟨s1, s2⟩ := hs.write (w' := w.setRow b nw) hH hσ rfl (b := b) rfl (setRow_os w b _) (setRow_tape w b _) (setRow_output w b _) (by simp) (fun c hc => setRow_other w b c _ hc)
              (o' := .box bt (splice cs off (cellsOf (ev x)))) (fun hx => ⟨all_splice q0 hb.2, b, nw, rfl, setRow_heap w b vs _ bt _ q1, by rw [hnw]; simp [splice_len hle', hl]; omega, fun j y hy => by
                rw [splice_get hle'] at hy
                have eV := spliceV_get vs.toList (ρ x).cells.toList (off := off) (j := j) (by rw [hl]; simp; omega)
                rw [← hnw, hl] at eV
                rw [eV]
                by_cases hin : off ≤ j ∧ j < off + (cellsOf (ev x)).length
                · rw [if_pos hin] at hy ⊢
                  have := hx.rv (c2 _ _ hy)
                  simpa using this
                · rw [if_neg hin] at hy ⊢
                  have := hx.rv (q3 _ _ hy)
                  simpa using this⟩)
            exact ⟨_, _, _, .inr ⟨hr, rfl⟩, s1, s2, .undef _ _⟩
        · exact h.elim
      · rename_i id ix sz off hea
        split at h
        · rename_i rt rs es hH
          cases hle : Nat.beq sz rs && Nat.ble (off + (cellsOf (ev x)).length) rs && (cellsOf (ev x)).all closed1 with
          | false => rw [hle] at h; exact h.elim
          | true =>
            rw [hle] at h
            simp only [cond_true] at h
            rw [Bool.and_eq_true, Bool.and_eq_true] at hle
            have erz := Nat.eq_of_beq_eq_true hle.1.1
            have hle' := Nat.le_of_ble_eq_true hle.1.2
            subst erz
            obtain ⟨c, hc, h⟩ := h
            refine ⟨_, _, fun M0 σ w ρ hs hop => ?_, h⟩
            have h1 := hop a (by simp [ho, Op.operands]); rw [hea] at h1
            have h2 := hop x (by simp [ho, Op.operands])
            obtain ⟨g, n, cap, e1, hσ⟩ := h1.eptr_inv
            obtain ⟨q0, g', cap', cur, e2, q1, q2, q3, q4, q5⟩ := hs.ok id _ _ hH hσ
            cases e2
            obtain ⟨c1, c2, c3⟩ := rv_cells h2 hb.2
            have hix : ix < es.length := (List.getElem?_eq_some_iff.1 hc).1
            have hcl := (q5 ix c hc).1
            have htop : ix * sz + sz ≤ cur.size := by
              have : (ix + 1) * sz ≤ cap * sz := Nat.mul_le_mul_right _ (by omega)
              rw [Nat.add_mul] at this
              omega
            have hr := runSt w ρ g (ix * sz + off) cur rt q1 e1 (by rw [c1]; exact esz) c3 (by omega)
            have hl : (ρ x).cells.toList.length = (cellsOf (ev x)).length := by simpa using c1
            obtain ⟨nw, hnw⟩ : ∃ nw, nw = (cur.toList.take (ix * sz + off) ++ (ρ x).cells.toList ++ cur.toList.drop (ix * sz + off + (ρ x).cells.toList.length)).toArray := ⟨_, rfl⟩
            rw [← hnw] at hr
            obtain ⟨s1, s2⟩ := hs.write (w' := w.setRow g nw) hH hσ rfl (b := g) rfl (setRow_os w g _) (setRow_tape w g _) (setRow_output w g _) (by simp) (fun c hc => setRow_other w g c _ hc)
              (o' := .row rt sz (es.set ix (splice c off (cellsOf (ev x))))) (fun hx => ⟨q0, g, cap, nw, by simp, setRow_heap w g cur _ rt _ q1, by simpa using q2, q3, by rw [hnw]; simp [hl]; omega, fun i' c' hc' => by
                rcases set_cases hc' with ⟨rfl, rfl⟩ | ⟨hne, k⟩
                · refine ⟨by rw [splice_len (by omega)]; exact hcl, all_splice (q5 i' c hc).2.1 hb.2, fun j y hy => ?_⟩
                  have hj : j < sz := by
                    have := (List.getElem?_eq_some_iff.1 hy).1
                    rw [splice_len (by omega)] at this
                    omega
                  rw [splice_get (by omega)] at hy
                  have eV := spliceV_get cur.toList (ρ x).cells.toList (off := i' * sz + off) (j := i' * sz + j) (by rw [hl]; simp; omega)
                  rw [← hnw, hl] at eV
                  rw [eV]
                  by_cases hin : off ≤ j ∧ j < off + (cellsOf (ev x)).length
                  · rw [if_pos hin] at hy
                    rw [if_pos (by omega)]
                    have e : i' * sz + j - (i' * sz + off) = j - off := by omega
                    rw [e]
                    have := (hx.rv (c2 _ _ hy)).closed (σ' := []) ((List.all_eq_true.1 hle.2) y (List.mem_of_getElem? hy))
                    simpa using this
                  · rw [if_neg hin] at hy
                    rw [if_neg (by omega)]
                    have := hx.rv0 ((q5 i' c hc).2.2 _ _ hy)
                    simpa using this
                · refine ⟨(q5 i' c' k).1, (q5 i' c' k).2.1, fun j y hy => ?_⟩
                  have hj : j < sz := by rw [← (q5 i' c' k).1]; exact (List.getElem?_eq_some_iff.1 hy).1
                  have eV := spliceV_get cur.toList (ρ x).cells.toList (off := ix * sz + off) (j := i' * sz + j) (by rw [hl]; simp; omega)
                  rw [← hnw, hl] at eV
                  rw [eV]
                  have hout : ¬ (ix * sz + off ≤ i' * sz + j ∧ i' * sz + j < ix * sz + off + (cellsOf (ev x)).length) := by
                    intro ⟨m1, m2⟩
                    rcases Nat.lt_or_gt_of_ne hne with hlt | hgt
                    · have := row_pos hlt hj; omega
                    · have : (ix + 1) * sz ≤ i' * sz := Nat.mul_le_mul_right _ hgt
                      rw [Nat.add_mul] at this
                      omega
                  rw [if_neg hout]
                  have := hx.rv0 ((q5 i' c' k).2.2 _ _ hy)
                  simpa using this⟩)
            exact ⟨_, _, _, .inr ⟨hr, rfl⟩, s1, s2, .undef _ _⟩
        · exact h.elim
      · exact h.elim
end
end Go.Ve
