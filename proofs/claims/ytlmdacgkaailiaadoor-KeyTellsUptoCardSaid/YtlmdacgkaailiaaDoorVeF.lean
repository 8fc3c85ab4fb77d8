/- An abstract weakest precondition, sixth text: fields, indexes, lengths, conversions, slices, struct values: what turns nothing. -/
import Derived.Test.YtlmdacgkaailiaaDoorVeE
set_option linter.unusedSimpArgs false
set_option linter.unusedVariables false
namespace Go.Ve
open Go.RowKit (Below)
section
variable {P : Program} {T : TT} {o : Oper} {ev : Operand → AV} {H : Hp} {K : KV}

theorem sem_field (hT : TOk P T) {s : TypeId} {x : Operand} {f : Nat} (ho : o.op = .fieldAddr s x f) (h : afield T s (ev x) f H K) : ∃ r, (∀ H, OpSem P o ev H r H) ∧ K r H := by
  unfold afield at h
  cases hts : T s with
  | none => simp [hts] at h
  | some i =>
    have hud := (hT s i hts).und
    simp only [hts] at h
    split at h
    · rename_i fs hk
      rw [hk] at hud
      obtain ⟨fields, hu, hfs, _⟩ := hud
      split at h
      · rename_i off ft hf
        split at h
        · rename_i fi hft
          have hso := (hT ft fi hft).sizeOf
          cases hpos : Nat.blt 0 fi.size with
          | false => simp [hpos] at h
          | true =>
            simp only [hpos, cond_true] at h
            have hne : fi.size ≠ 0 := by have : 0 < fi.size := cast Nat.blt_eq hpos; omega
            obtain ⟨fd, hfd, e1, e2⟩ : ∃ fd : Field, fields[f]? = some fd ∧ fd.offset = off ∧ fd.type = ft := by
              rw [← hfs, List.getElem?_map] at hf
              simp only [Option.map_eq_some_iff, Prod.mk.injEq] at hf
              obtain ⟨fd, k1, k2, k3⟩ := hf
              exact ⟨fd, by simpa using k1, k2, k3⟩
            have run : ∀ (w : World) (a : Addr), (Instr.fieldAt s (.pointer (some a)) f).run P w = .ok (.pointer (some (a.add off))) w := by
              intro w a
              have hso' := hso w
              rw [← e2] at hso'
              simp [Instr.fieldAt, run_underlying hu, hfd, Instr.sureAddr, fieldPlace, hso', hne, e1]
            have go : ∀ (r : AV), (∀ (K0 : Addr → Value → Prop) (σ : List Value) (v : Value), Rv K0 σ (ev x) v → ∃ a, v = .pointer (some a) ∧ Rv K0 σ r (.pointer (some (a.add off)))) → ∀ H, OpSem P o ev H r H := by
              intro r hr H
              refine .still fun M0 σ w ρ _ hop => ?_
              obtain ⟨a, e, hv⟩ := hr _ σ _ (hop x (by simp [ho, Op.operands]))
              exact ⟨_, by simp [execOp, ho, e, run w a], hv⟩
            split at h
            · rename_i id oo hx
              refine ⟨_, go _ fun K0 σ v hv => ?_, h⟩
              rw [hx] at hv
              obtain ⟨b, rfl, hσ⟩ := hv.ptr_inv
              exact ⟨_, rfl, by rw [Addr.add_lit]; exact .ptr _ _ _ _ hσ⟩
            · rename_i cs hx
              refine ⟨_, go _ fun K0 σ v hv => ?_, h⟩
              rw [hx] at hv
              obtain ⟨a, val, rfl, h1, h2, h3⟩ := hv.cptr_inv
              refine ⟨_, rfl, .cptr _ _ _ (fun j => val (off + j)) ?_ (fun j z hz => ?_) (fun j hj => ?_)⟩
              · rw [List.all_eq_true] at *; exact fun z hz => h1 z (List.mem_of_mem_drop hz)
              · rw [List.getElem?_drop] at hz; exact h2 _ _ hz
              · have e : (a.add off).add j = a.add (off + j) := by
                  unfold Addr.add
                  by_cases hn : off = 0
                  · subst hn; simp
                  · by_cases hj : j = 0
                    · subst hj; simp
                    · simp [hn, hj, Nat.add_assoc]
                rw [e]
                exact h3 _ (by simp at hj; omega)
            · rename_i id ix sz oo hx
              refine ⟨_, go _ fun K0 σ v hv => ?_, h⟩
              rw [hx] at hv
              obtain ⟨g, n, cap, rfl, hσ⟩ := hv.eptr_inv
              exact ⟨_, rfl, by rw [Addr.add_lit, Nat.add_assoc]; exact .eptr _ _ _ _ _ _ _ _ hσ⟩
            · exact h.elim
        · exact h.elim
      · exact h.elim
    · exact h.elim

theorem sem_part {t : TypeId} {i : TI} (ht : TyOk P t i) {cs : List AV} {off : Nat} (h : apart i cs off H K) :
    ∃ r, K r H ∧ ∀ (K0 : Addr → Value → Prop) (σ : List Value) (w : World) (vs : Array Value), vs.size = cs.length → cs.all isCell = true → (∀ j x, cs[j]? = some x → Rv K0 σ x (vs.getD j undef)) → ∃ v, (part t vs off).run P w = .ok v w ∧ Rv K0 σ r v := by
  unfold apart at h
  cases hag : i.isAgg with
  | true =>
    simp only [hag, cond_true] at h
    cases hle : Nat.ble (off + i.size) cs.length with
    | false => simp [hle] at h
    | true =>
      simp only [hle, cond_true] at h
      have hle' : off + i.size ≤ cs.length := Nat.le_of_ble_eq_true hle
      refine ⟨_, h, fun K0 σ w vs hl hc hv => ⟨.agg (vs.extract off (off + i.size)), by simp [part, ht.isAgg, hag, ht.sizeOf], .agg _ _ _ (by simp; omega) ?_ ?_⟩⟩
      · rw [List.all_eq_true] at *; exact fun x hx => hc x (List.mem_of_mem_drop (List.mem_of_mem_take hx))
      · intro j x hx
        rw [List.getElem?_take] at hx
        split at hx
        · rename_i hj
          rw [List.getElem?_drop] at hx
          have := hv (off + j) x hx
          have h1 : off + j < vs.size := by omega
          simpa [Array.getElem?_extract, hj, h1, show j < min (off + i.size) vs.size - off by omega] using this
        · cases hx
  | false =>
    simp only [hag, cond_false] at h
    split at h
    · rename_i x hx
      refine ⟨_, h, fun K0 σ w vs hl hc hv => ?_⟩
      have hlt : off < vs.size := by rw [hl]; exact (List.getElem?_eq_some_iff.1 hx).1
      refine ⟨vs[off], by simp [part, ht.isAgg, hag, hlt], ?_⟩
      have := hv off x hx
      simpa [hlt] using this
    · exact h.elim

theorem sem_fieldv (hT : TOk P T) {s : TypeId} {x : Operand} {f : Nat} (ho : o.op = .field s x f) (h : afieldv T s (ev x) f H K) : ∃ r, (∀ H, OpSem P o ev H r H) ∧ K r H := by
  unfold afieldv at h
  cases hts : T s with
  | none => simp [hts] at h
  | some i =>
    have hud := (hT s i hts).und
    simp only [hts] at h
    split at h
    · rename_i fs cs hk hx
      rw [hk] at hud
      obtain ⟨fields, hu, hfs, _⟩ := hud
      split at h
      · rename_i off ft hf
        split at h
        · rename_i fi hft
          obtain ⟨fd, hfd, e1, e2⟩ : ∃ fd : Field, fields[f]? = some fd ∧ fd.offset = off ∧ fd.type = ft := by
            rw [← hfs, List.getElem?_map] at hf
            simp only [Option.map_eq_some_iff, Prod.mk.injEq] at hf
            obtain ⟨fd, k1, k2, k3⟩ := hf
            exact ⟨fd, by simpa using k1, k2, k3⟩
          obtain ⟨r, hr, hrun⟩ := sem_part (hT ft fi hft) h
          refine ⟨r, fun H => .still fun M0 σ w ρ _ hop => ?_, hr⟩
          have h1 := hop x (by simp [ho, Op.operands]); rw [hx] at h1
          obtain ⟨vs, e, l1, l2, l3⟩ := h1.agg_inv
          obtain ⟨v, r1, r2⟩ := hrun _ σ w vs l1 l2 l3
          exact ⟨v, by simp [execOp, ho, e, Instr.field, run_underlying hu, hfd, asAgg, e1, e2, r1], r2⟩
        · exact h.elim
      · exact h.elim
    · exact h.elim

theorem sem_index (hT : TOk P T) {t : TypeId} {x ix : Operand} (ho : o.op = .index t x ix) (h : aindex T t (ev x) (ev ix) H K) : ∃ r, (∀ H, OpSem P o ev H r H) ∧ K r H := by
  unfold aindex at h
  split at h
  · rename_i i k n hti hix
    have hud := (hT t i hti).und
    split at h
    · rename_i s hk hx
      rw [hk] at hud
      obtain ⟨h0, c, hc, h⟩ := h
      refine ⟨_, fun H => .still fun M0 σ w ρ _ hop => ?_, h⟩
      have h1 := hop x (by simp [ho, Op.operands]); rw [hx] at h1
      have h2 := hop ix (by simp [ho, Op.operands]); rw [hix] at h2
      have hg : (⟨s.toArray⟩ : ByteArray)[n.toNat]? = some c := by
        have hlt : n.toNat < s.length := (List.getElem?_eq_some_iff.1 hc).1
        have hlt' : n.toNat < (⟨s.toArray⟩ : ByteArray).size := by rw [bs_size]; exact hlt
        rw [getElem?_pos (⟨s.toArray⟩ : ByteArray) n.toNat hlt']
        have := (List.getElem?_eq_some_iff.1 hc).2
        exact congrArg some this
      exact ⟨.int .u8 c.toNat, by simp [execOp, ho, h1.str_inv, h2.int_inv, Instr.index, asIntOf, run_underlying (show P.underlying t = some .string from hud), h0, hg], .int _ _ _⟩
    · rename_i m e cs hk hx
      rw [hk] at hud
      replace hud := hud.1
      split at h
      · rename_i ei he
        obtain ⟨h0, h1, h⟩ := h
        obtain ⟨r, hr, hrun⟩ := sem_part (hT e ei he) h
        refine ⟨r, fun H => .still fun M0 σ w ρ _ hop => ?_, hr⟩
        have h2 := hop x (by simp [ho, Op.operands]); rw [hx] at h2
        have h3 := hop ix (by simp [ho, Op.operands]); rw [hix] at h3
        obtain ⟨vs, e', l1, l2, l3⟩ := h2.agg_inv
        obtain ⟨v, r1, r2⟩ := hrun _ σ w vs l1 l2 l3
        exact ⟨v, by simp [execOp, ho, e', h3.int_inv, Instr.index, asIntOf, run_underlying (show P.underlying t = some (.array m e) from hud), h0, h1, (hT e ei he).sizeOf, r1], r2⟩
      · exact h.elim
    · exact h.elim
  · exact h.elim

theorem sem_ixaddr (hT : TOk P T) {t : TypeId} {x ix : Operand} (ho : o.op = .indexAddr t x ix) (h : aixaddr T t (ev x) (ev ix) H K) : ∃ r, OpSem P o ev H r H ∧ K r H := by
  unfold aixaddr at h
  split at h
  · rename_i i k n hti hix
    have hud := (hT t i hti).und
    have cl : ∀ {e : TypeId} {ei : TI} {es : List (List AV)} (_ : P.underlying t = some (.slice e)) (_ : T e = some ei) (_ : 0 ≤ n) {c : List AV} (_ : es[n.toNat]? = some c) (_ : c.length = ei.size) (M0 : Nat → Prop) (σ : List Value) (w : World) (ρ : Operand → Value) (_ : ρ ix = .int k n) (_ : Rv (Kof M0 H σ w) σ (.sl es) (ρ x)),
        ∃ v, (execOp ρ o).run P w = .ok (.value v) w ∧ Rv (Kof M0 H σ w) σ (.cptr c) v := by
      intro e ei es hu hei h0 c hc hcl M0 σ w ρ e2 h1
      have hlt : n.toNat < es.length := (List.getElem?_eq_some_iff.1 hc).1
      rcases h1.sl_inv with ⟨e0, _⟩ | ⟨a, cap, sz, val, e1, _, _, k3, k4, k5⟩
      · subst e0; simp at hc
      · have hn : n < (es.length : Int) := by omega
        have hmem : c ∈ es := List.mem_of_getElem? hc
        have esz : ei.size = sz := by rw [← hcl]; exact (k3 c hmem).1
        refine ⟨.pointer (some (a.add (n.toNat * ei.size))), by simp [execOp, ho, e1, e2, Instr.indexAt, asIntOf, run_underlying hu, h0, hn, (hT e ei hei).sizeOf], .cptr _ _ _ (fun j => val n.toNat j) (k3 c hmem).2 (fun j z hz => k4 _ _ _ _ hc hz) (fun j hj => ?_)⟩
        have ea : (a.add (n.toNat * ei.size)).add j = a.add (n.toNat * sz + j) := by
          rw [esz]
          unfold Addr.add
          by_cases h1 : n.toNat * sz = 0
          · rw [h1]; simp
          · by_cases h2 : j = 0
            · subst h2; simp
            · simp [h1, h2, Nat.add_assoc]
        rw [ea]
        exact k5 _ _ hlt (by rw [← esz, ← hcl]; exact hj)
    have arr : ∀ {m : Nat} {e : TypeId} {ei : TI} (_ : P.underlying t = some (.array m e)) (_ : T e = some ei) (_ : 0 ≤ n) (_ : n < m) (w : World) (ρ : Operand → Value) (_ : ρ ix = .int k n) (a : Addr) (_ : ρ x = .pointer (some a)),
        (execOp ρ o).run P w = .ok (.value (.pointer (some (a.add (n.toNat * ei.size))))) w := by
      intro m e ei hu hei h0 h1 w ρ e2 a e1
      simp [execOp, ho, e1, e2, Instr.indexAt, asIntOf, Instr.sureAddr, run_underlying hu, h0, h1, (hT e ei hei).sizeOf]
    split at h
    · rename_i e es hk hx
      rw [hk] at hud
      split at h
      · rename_i ei hei
        obtain ⟨h0, c, hc, hcl, h⟩ := h
        refine ⟨_, .still fun M0 σ w ρ hs hop => ?_, h⟩
        have h1 := hop x (by simp [ho, Op.operands]); rw [hx] at h1
        have h2 := hop ix (by simp [ho, Op.operands]); rw [hix] at h2
        exact cl hud hei h0 hc hcl M0 σ w ρ h2.int_inv h1
      · exact h.elim
    · rename_i e id hk hx
      rw [hk] at hud
      split at h
      · rename_i ei rt sz es hei hH
        cases hsz : Nat.beq ei.size sz with
        | false => simp [hsz] at h
        | true =>
          simp only [hsz, cond_true] at h
          have esz := Nat.eq_of_beq_eq_true hsz
          obtain ⟨h0, hlt, h⟩ := h
          refine ⟨_, .still fun M0 σ w ρ hs hop => ?_, h⟩
          have h1 := hop x (by simp [ho, Op.operands]); rw [hx] at h1
          have h2 := hop ix (by simp [ho, Op.operands]); rw [hix] at h2
          obtain ⟨_, g, cap, cur, e1, _⟩ := hs.ok id _ _ hH h1.own_inv
          have hn : n < (es.length : Int) := by omega
          refine ⟨.pointer (some ⟨g, n.toNat * ei.size, none⟩), by simp [execOp, ho, e1, h2.int_inv, Instr.indexAt, asIntOf, run_underlying (show P.underlying t = some (.slice e) from hud), h0, hn, (hT e ei hei).sizeOf, Addr.add_lit], ?_⟩
          rw [esz]
          have hσ := h1.own_inv
          rw [e1] at hσ
          exact .eptr _ id n.toNat sz 0 g es.length cap hσ
      · rename_i ei es hei hH
        obtain ⟨h0, c, hc, hcl, h⟩ := h
        refine ⟨_, .still fun M0 σ w ρ hs hop => ?_, h⟩
        have h1 := hop x (by simp [ho, Op.operands]); rw [hx] at h1
        have h2 := hop ix (by simp [ho, Op.operands]); rw [hix] at h2
        exact cl hud hei h0 hc hcl M0 σ w ρ h2.int_inv ((hs.ok id _ _ hH h1.own_inv).mono (fun _ _ h => h) List.nil_prefix)
      · exact h.elim
    · rename_i m e id oo hk hx
      rw [hk] at hud
      replace hud := hud.1
      split at h
      · rename_i ei hei
        obtain ⟨h0, h1, h⟩ := h
        refine ⟨_, .still fun M0 σ w ρ hs hop => ?_, h⟩
        have h2 := hop x (by simp [ho, Op.operands]); rw [hx] at h2
        have h3 := hop ix (by simp [ho, Op.operands]); rw [hix] at h3
        obtain ⟨b, e1, hσ⟩ := h2.ptr_inv
        exact ⟨_, arr hud hei h0 h1 w ρ h3.int_inv _ e1, by rw [Addr.add_lit]; exact .ptr _ _ _ _ hσ⟩
      · exact h.elim
    · rename_i m e cs hk hx
      rw [hk] at hud
      replace hud := hud.1
      split at h
      · rename_i ei hei
        obtain ⟨h0, h1, h⟩ := h
        refine ⟨_, .still fun M0 σ w ρ hs hop => ?_, h⟩
        have h2 := hop x (by simp [ho, Op.operands]); rw [hx] at h2
        have h3 := hop ix (by simp [ho, Op.operands]); rw [hix] at h3
        obtain ⟨a, val, e1, k1, k2, k3⟩ := h2.cptr_inv
        refine ⟨_, arr hud hei h0 h1 w ρ h3.int_inv _ e1, .cptr _ _ _ (fun j => val (n.toNat * ei.size + j)) ?_ (fun j z hz => ?_) (fun j hj => ?_)⟩
        · rw [List.all_eq_true] at *; exact fun z hz => k1 z (List.mem_of_mem_drop hz)
        · rw [List.getElem?_drop] at hz; exact k2 _ _ hz
        · have ea : (a.add (n.toNat * ei.size)).add j = a.add (n.toNat * ei.size + j) := by
            unfold Addr.add
            by_cases h1 : n.toNat * ei.size = 0
            · rw [h1]; simp
            · by_cases h2 : j = 0
              · subst h2; simp
              · simp [h1, h2, Nat.add_assoc]
          rw [ea]
          exact k3 _ (by simp at hj; omega)
      · exact h.elim
    · rename_i m e id jx sz oo hk hx
      rw [hk] at hud
      replace hud := hud.1
      split at h
      · rename_i ei hei
        obtain ⟨h0, h1, h⟩ := h
        refine ⟨_, .still fun M0 σ w ρ hs hop => ?_, h⟩
        have h2 := hop x (by simp [ho, Op.operands]); rw [hx] at h2
        have h3 := hop ix (by simp [ho, Op.operands]); rw [hix] at h3
        obtain ⟨g, nn, cap, e1, hσ⟩ := h2.eptr_inv
        exact ⟨_, arr hud hei h0 h1 w ρ h3.int_inv _ e1, by rw [Addr.add_lit, Nat.add_assoc]; exact .eptr _ _ _ _ _ _ _ _ hσ⟩
      · exact h.elim
    · exact h.elim
  · exact h.elim
end
end Go.Ve
