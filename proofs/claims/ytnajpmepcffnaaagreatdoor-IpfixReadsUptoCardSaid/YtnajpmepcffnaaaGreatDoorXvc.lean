/- An abstract weakest precondition: texts joined into one: VeX. -/
import Derived.Test.YtnajpmepcffnaaaGreatDoorXvb

section
/- An abstract weakest precondition, twenty-fourth text: what a call leaves behind, said in fewer words: rows that are written no more are told as constants; objects that nobody holds fall away. -/
namespace Go.Ve

/-! ### a change of the leaves -/
def mpL (φ : AV → AV) : List AV → List AV
 | [] => []
 | x :: xs => φ x :: mpL φ xs
def mpC (φ : AV → AV) : AV → AV
 | .fn f cs => .fn f (mpL φ cs)
 | .bfn f cs => bif (mpL φ cs).all isCell then .bfn f (mpL φ cs) else .undef
 | .ifc t x => .ifc t (φ x)
 | x => φ x
def mpCL (φ : AV → AV) : List AV → List AV
 | [] => []
 | x :: xs => mpC φ x :: mpCL φ xs
def mpA (φ : AV → AV) : AV → AV
 | .agg cs => bif (mpCL φ cs).all isCell then .agg (mpCL φ cs) else .undef
 | x => mpC φ x
def mpAL (φ : AV → AV) : List AV → List AV
 | [] => []
 | x :: xs => mpA φ x :: mpAL φ xs
def mpV (φ : AV → AV) : AV → AV
 | .tup cs => .tup (mpAL φ cs)
 | x => mpA φ x
def mpE (φ : AV → AV) : List (Nat × AV) → List (Nat × AV)
 | [] => []
 | (k, v) :: r => (k, mpV φ v) :: mpE φ r
def mpO (φ : AV → AV) : Ob → Ob
 | .box t cs => bif (mpCL φ cs).all isCell then .box t (mpCL φ cs) else .dead
 | .loop nt l ps a b st => .loop nt (mpE φ l) ps a b st
 | o => o
def mpH (φ : AV → AV) : Hp → Hp
 | [] => []
 | o :: r => mpO φ o :: mpH φ r

section
variable {K K' : Addr → Value → Prop} {σ : List Value} {φ : AV → AV}
theorem mpL_len [Dr] : ∀ (cs : List AV), (mpL φ cs).length = cs.length
 | [] => rfl
 | x :: xs => by simp [mpL, mpL_len xs]
theorem mpL_get [Dr] : ∀ {cs : List AV} {j : Nat} {y : AV}, (mpL φ cs)[j]? = some y → ∃ x, cs[j]? = some x ∧ y = φ x
 | [], j, y, h => by simp [mpL] at h
 | x :: xs, 0, y, h => by simp [mpL] at h; exact ⟨x, rfl, h.symm⟩
 | x :: xs, j + 1, y, h => by simp [mpL] at h; simpa using mpL_get h
theorem mpCL_len [Dr] : ∀ (cs : List AV), (mpCL φ cs).length = cs.length
 | [] => rfl
 | x :: xs => by simp [mpCL, mpCL_len xs]
theorem mpCL_get [Dr] : ∀ {cs : List AV} {j : Nat} {y : AV}, (mpCL φ cs)[j]? = some y → ∃ x, cs[j]? = some x ∧ y = mpC φ x
 | [], j, y, h => by simp [mpCL] at h
 | x :: xs, 0, y, h => by simp [mpCL] at h; exact ⟨x, rfl, h.symm⟩
 | x :: xs, j + 1, y, h => by simp [mpCL] at h; simpa using mpCL_get h
theorem mpAL_len [Dr] : ∀ (cs : List AV), (mpAL φ cs).length = cs.length
 | [] => rfl
 | x :: xs => by simp [mpAL, mpAL_len xs]
theorem mpAL_get [Dr] : ∀ {cs : List AV} {j : Nat} {y : AV}, (mpAL φ cs)[j]? = some y → ∃ x, cs[j]? = some x ∧ y = mpA φ x
 | [], j, y, h => by simp [mpAL] at h
 | x :: xs, 0, y, h => by simp [mpAL] at h; exact ⟨x, rfl, h.symm⟩
 | x :: xs, j + 1, y, h => by simp [mpAL] at h; simpa using mpAL_get h
theorem mpH_len [Dr] : ∀ (H : Hp), (mpH φ H).length = H.length
 | [] => rfl
 | x :: xs => by simp [mpH, mpH_len xs]
theorem mpH_get [Dr] : ∀ {H : Hp} {j : Nat} {y : Ob}, (mpH φ H)[j]? = some y → ∃ x, H[j]? = some x ∧ y = mpO φ x
 | [], j, y, h => by simp [mpH] at h
 | x :: xs, 0, y, h => by simp [mpH] at h; exact ⟨x, rfl, h.symm⟩
 | x :: xs, j + 1, y, h => by simp [mpH] at h; simpa using mpH_get h
theorem mpC_rv [Dr] (hφ : ∀ x v, Rv K σ x v → Rv K' σ (φ x) v) {x : AV} {v : Value} (h : Rv K σ x v) : Rv K' σ (mpC φ x) v := by
 unfold mpC
 split
 ·rename_i f cs
  obtain ⟨vs, rfl, h1, h2⟩ := h.fn_inv
  refine .fn _ _ _ _ (by rw [mpL_len]; exact h1) fun j y hy => ?_
  obtain ⟨x, hx, rfl⟩ := mpL_get hy
  exact hφ _ _ (h2 j x hx)
 ·rename_i f cs
  cases hc : (mpL φ cs).all isCell with
  | false => exact .undef _ _
  | true =>
   cases h with
   | bfn _ _ _ vs h1 _ h2 =>
    refine .bfn _ _ _ _ (by rw [mpL_len]; exact h1) hc fun j y hy => ?_
    obtain ⟨x, hx, rfl⟩ := mpL_get hy
    exact hφ _ _ (h2 j x hx)
 ·rename_i t x
  cases h with
  | ifc _ _ _ v h => exact .ifc _ _ _ _ (hφ _ _ h)
 ·exact hφ _ _ h
theorem mpA_rv [Dr] (hφ : ∀ x v, Rv K σ x v → Rv K' σ (φ x) v) {x : AV} {v : Value} (h : Rv K σ x v) : Rv K' σ (mpA φ x) v := by
 unfold mpA
 split
 ·rename_i cs
  cases hc : (mpCL φ cs).all isCell with
  | false => exact .undef _ _
  | true =>
   obtain ⟨vs, rfl, h1, _, h2⟩ := h.agg_inv
   refine .agg _ _ _ (by rw [mpCL_len]; exact h1) hc fun j y hy => ?_
   obtain ⟨x, hx, rfl⟩ := mpCL_get hy
   exact mpC_rv hφ (h2 j x hx)
 ·exact mpC_rv hφ h
theorem mpV_rv [Dr] (hφ : ∀ x v, Rv K σ x v → Rv K' σ (φ x) v) {x : AV} {v : Value} (h : Rv K σ x v) : Rv K' σ (mpV φ x) v := by
 unfold mpV
 split
 ·rename_i cs
  obtain ⟨vs, rfl, h1, h2⟩ := h.tup_inv
  refine .tup _ _ _ (by rw [mpAL_len]; exact h1) fun j y hy => ?_
  obtain ⟨x, hx, rfl⟩ := mpAL_get hy
  exact mpA_rv hφ (h2 j x hx)
 ·exact mpA_rv hφ h
theorem mpE_get [Dr] {l : List (Nat × AV)} {i : Nat} : (envL l i = .undef ∧ envL (mpE φ l) i = .undef) ∨ envL (mpE φ l) i = mpV φ (envL l i) := by
 induction l with
 | nil => exact .inl ⟨rfl, rfl⟩
 | cons p r ih =>
  obtain ⟨k, v⟩ := p
  simp only [mpE, envL]
  cases Nat.beq i k with
  | true => exact .inr rfl
  | false => exact ih
theorem mpO_ok [Dr] {w : World} (hφ : ∀ x v, Rv K σ x v → Rv K' σ (φ x) v) (hK : ∀ a v, K a v → K' a v) {o : Ob} {v : Value} (h : ObOk K σ w o v) : ObOk K' σ w (mpO φ o) v := by
 cases o with
 | box t cs =>
  simp only [mpO]
  cases hc : (mpCL φ cs).all isCell with
  | false => trivial
  | true =>
   obtain ⟨_, b, vs, rfl, h1, h2, h3⟩ := h
   refine ⟨hc, b, vs, rfl, h1, by rw [mpCL_len]; exact h2, fun j y hy => ?_⟩
   obtain ⟨x, hx, rfl⟩ := mpCL_get hy
   exact mpC_rv hφ (h3 j x hx)
 | row t sz es =>
  obtain ⟨h0, ⟨rfl, rfl⟩ | ⟨r, cap, cur, rfl, h1, h2, h3, h4, h5⟩⟩ := h
  ·exact ⟨h0, .inl ⟨rfl, rfl⟩⟩
  exact ⟨h0, .inr ⟨r, cap, cur, rfl, h1, h2, h3, h4, fun i c hc => ⟨(h5 i c hc).1, (h5 i c hc).2.1, fun j x hx => ((h5 i c hc).2.2 j x hx).mono hK (List.prefix_refl _)⟩⟩⟩
 | frz es => exact Rv.mono h hK (List.prefix_refl _)
 | loop nt l ps c d st =>
  obtain ⟨b, r, rfl, h1, h2, h3, h4⟩ := h
  refine ⟨b, r, rfl, h1, h2, fun i => ?_, h4⟩
  rcases mpE_get (φ := φ) (l := l) (i := i) with ⟨_, e⟩ | e
  ·rw [e]; exact .undef _ _
  ·rw [e]; exact mpV_rv hφ (h3 i)
 | dead => trivial
 | map ks es clk =>
  obtain ⟨h0, h1, b, xs, rfl, h2, h3, h4⟩ := h
  exact ⟨h0, h1, b, xs, rfl, h2, h3, fun i e he => let ⟨x, us, k1, k2, k3, k4, k5, k6⟩ := h4 i e he; ⟨x, us, k1, k2, k3, k4, k5.mono hK (List.prefix_refl _), k6.mono hK (List.prefix_refl _)⟩⟩
 | iter mid since seen last => exact h
theorem mpO_live [Dr] {o : Ob} (h : live (mpO φ o) = true) : live o = true := by
 cases o <;> first | rfl | exact h
end

def thN (H : Hp) : AV → AV
 | .own k => (match getO H k with | .frz es => .sl es | _ => .own k)
 | x => x
theorem weak_thaw [Dr] {N0 : Nat} {s : AS} {l : List (Nat × AV)} {H' : Hp} (hH : mpH (thN s.H) s.H = H') (h : ∀ p ∈ l, mpV (thN s.H) (s.env p.1) = p.2) : Weak N0 s ⟨envL l, H'⟩ := by
 intro M0 σ w n a D hl hs ha
 have hlen := hs.len
 have objs : ∀ {j : Nat} {o : Ob}, H'[j]? = some o → ∃ o', s.H[j]? = some o' ∧ o = mpO (thN s.H) o' := fun hj => by rw [← hH] at hj; exact mpH_get hj
 have hMb : ∀ b, Mb H' σ b → Mb s.H σ b := by
  rintro b ⟨j, o, v, h1, h2, h3, h4⟩
  obtain ⟨o', e1, rfl⟩ := objs h1
  exact ⟨j, o', v, e1, mpO_live h2, h3, h4⟩
 have hK : ∀ a v, Kof M0 s.H σ w a v → Kof M0 H' σ w a v := fun a v hk => ⟨fun hm => hk.1 (hm.imp id (hMb _)), hk.2⟩
 have hφ : ∀ x v, Rv (Kof M0 s.H σ w) σ x v → Rv (Kof M0 H' σ w) σ (thN s.H x) v := by
  intro x v hx
  have hm := hx.mono hK (List.prefix_refl σ)
  unfold thN
  split
  ·rename_i k
   split
   ·rename_i es hg
    have hσ := hx.own_inv
    have hk : k < s.H.length := by rw [← hlen]; exact (List.getElem?_eq_some_iff.1 hσ).1
    have := hs.ok k (.frz es) v (by rw [getO_get hk, hg]) hσ
    exact (Rv.mono this hK (List.prefix_refl _)).closed rfl
   ·exact hm
  ·exact hm
 refine ⟨σ, List.take_prefix _ _, hMb, ⟨by rw [← hH, mpH_len]; exact hlen, fun j o v hj hv => ?_, fun i j o o' v v' b hij hi hj l1 l2 v1 v2 b1 => ?_, fun b hb => hs.sep b (hMb b hb), hs.old, fun b hb => let ⟨m, hm⟩ := hs.glob b hb; ⟨m, hK _ _ hm⟩⟩, ha.size, ha.defers, fun i => ?_⟩
 ·obtain ⟨o', e1, rfl⟩ := objs hj
  exact mpO_ok hφ hK (hs.ok j o' v e1 hv)
 ·obtain ⟨p, e1, rfl⟩ := objs hi
  obtain ⟨p', e2, rfl⟩ := objs hj
  exact hs.dist i j p p' v v' b hij e1 e2 (mpO_live l1) (mpO_live l2) v1 v2 b1
 ·show Rv _ _ (envL l i) _
  rcases envL_get (l := l) (i := i) with e | ⟨p, h1, h2, h3⟩
  ·rw [e]; exact .undef _ _
  ·rw [h3, ← h p h1, h2]; exact mpV_rv hφ (ha.rv i)
theorem weak_frz [Dr] {N0 : Nat} {s : AS} (id : Nat) {rt rs : Nat} {es : List (List AV)} (hH : s.H[id]? = some (.row rt rs es)) : Weak N0 s ⟨s.env, s.H.set id (.frz es)⟩ := by
 intro M0 σ w n a D hl hs ha
 obtain ⟨v, hσ⟩ : ∃ v, σ[id]? = some v := ⟨_, List.getElem?_eq_getElem (by rw [hs.len]; exact (List.getElem?_eq_some_iff.1 hH).1)⟩
 obtain ⟨s1, x1, _⟩ := hs.freeze hH hσ
 refine ⟨σ, List.take_prefix _ _, fun b hb => ?_, s1, ha.ext x1⟩
 rcases hb with ⟨i, o, u, h1, h2, h3, h4⟩
 rcases set_cases h1 with ⟨rfl, rfl⟩ | ⟨_, k⟩
 ·cases h2
 ·exact ⟨i, o, u, k, h2, h3, h4⟩
theorem weak_const [Dr] {N0 : Nat} {s : AS} (id : Nat) {rt rs : Nat} {es : List (List AV)} (hH : s.H[id]? = some (.row rt rs es)) {l : List (Nat × AV)} {H1 : Hp} (hH1 : mpH (thN (s.H.set id (.frz es))) (s.H.set id (.frz es)) = H1)
  (h : EnvIs (fun i => mpV (thN (s.H.set id (.frz es))) (s.env i)) l) : Weak N0 s ⟨envL l, H1⟩ :=
 (weak_frz id hH).trans (weak_thaw (s := ⟨s.env, s.H.set id (.frz es)⟩) hH1 h.get)

variable {P : Program} {T : TT} {n : Nat}
theorem ACall.post [Dr] {f : FuncId} {args : List AV} {H : Hp} {K K' : KV} (h : ACall P f args H K) (hk : ∀ r H', K r H' → ∃ r' H'', Weak H.length ⟨envL [(0, r)], H'⟩ ⟨envL [(0, r')], H''⟩ ∧ K' r' H'') : ACall P f args H K' := by
 unfold ACall at *
 refine ⟨h.1, fun M0 σ w vs hs hv => Calls.mono (h.2 M0 σ w vs hs hv) fun e w' he => ?_⟩
 obtain ⟨v, r, H', σ', rfl, h2, h3, h4, h5⟩ := he
 obtain ⟨r', H'', hw, hK⟩ := hk r H' h5
 have ha : ActOk [] (Kof M0 H' σ' w') σ' 1 (envL [(0, r)]) { tmps := #[v], defers := [] } := ⟨rfl, rfl, fun i => by
  cases i with
  | zero => exact h4
  | succ i => exact .undef _ _⟩
 obtain ⟨σ'', k1, k2, k3, k4⟩ := hw M0 σ' w' 1 _ [] (by rw [← hs.len]; exact h3.pre.length_le) h2 ha
 refine ⟨v, r', H'', σ'', rfl, k3, ⟨h3.os, h3.tape, h3.output, h3.size, ?_, h3.keep, fun b hb hm => h3.mutb b hb (k2 b hm)⟩, k4.rv 0, hK⟩
 have : σ'.take H.length = σ := by
  obtain ⟨t, ht⟩ := h3.pre
  rw [← ht, ← hs.len]; simp
 rw [this] at k1; exact k1
theorem ACall.of_awpW [Dr] (hT : TOk P T) (hm : P.follows .mixedOrders = true) {f : FuncId} {c : Code} {rs : List ResultVar} (hf : FnIs P f n c rs) {args : List AV} (hn : args.length ≤ n) {H : Hp} {K : KV}
  (h : AWP P T n none H.length c (FPost T rs fun vs H' => ∃ r' H'', Weak H.length ⟨envL [(0, mkRes vs)], H'⟩ ⟨envL [(0, r')], H''⟩ ∧ K r' H'') ⟨env0 args, H⟩) : ACall P f args H K :=
 (ACall.of_awp (K := fun r H' => ∃ r' H'', Weak H.length ⟨envL [(0, r)], H'⟩ ⟨envL [(0, r')], H''⟩ ∧ K r' H'') hT hm hf hn h).post fun _ _ h => h

def nlN : AV → AV
 | .nils => .sl []
 | x => x
theorem nlN_rv [Dr] {K K' : Addr → Value → Prop} {σ : List Value} (hK : ∀ a v, K a v → K' a v) {x : AV} {v : Value} (h : Rv K σ x v) : Rv K' σ (nlN x) v := by
 have hm := h.mono hK (List.prefix_refl σ)
 unfold nlN
 split
 ·rw [h.nils_inv]; exact .sl0 _
 ·exact hm
theorem weak_nils [Dr] {N0 : Nat} {s : AS} {l : List (Nat × AV)} {H' : Hp} (hH : mpH nlN s.H = H') (h : EnvIs (fun i => mpV nlN (s.env i)) l) : Weak N0 s ⟨envL l, H'⟩ := by
 intro M0 σ w n a D hl hs ha
 have hlen := hs.len
 have objs : ∀ {j : Nat} {o : Ob}, H'[j]? = some o → ∃ o', s.H[j]? = some o' ∧ o = mpO nlN o' := fun hj => by rw [← hH] at hj; exact mpH_get hj
 have hMb : ∀ b, Mb H' σ b → Mb s.H σ b := by
  rintro b ⟨j, o, v, h1, h2, h3, h4⟩
  obtain ⟨o', e1, rfl⟩ := objs h1
  exact ⟨j, o', v, e1, mpO_live h2, h3, h4⟩
 have hK : ∀ a v, Kof M0 s.H σ w a v → Kof M0 H' σ w a v := fun a v hk => ⟨fun hm => hk.1 (hm.imp id (hMb _)), hk.2⟩
 have hφ : ∀ x v, Rv (Kof M0 s.H σ w) σ x v → Rv (Kof M0 H' σ w) σ (nlN x) v := fun x v hx => nlN_rv hK hx
 refine ⟨σ, List.take_prefix _ _, hMb, ⟨by rw [← hH, mpH_len]; exact hlen, fun j o v hj hv => ?_, fun i j o o' v v' b hij hi hj l1 l2 v1 v2 b1 => ?_, fun b hb => hs.sep b (hMb b hb), hs.old, fun b hb => let ⟨m, hm⟩ := hs.glob b hb; ⟨m, hK _ _ hm⟩⟩, ha.size, ha.defers, fun i => ?_⟩
 ·obtain ⟨o', e1, rfl⟩ := objs hj
  exact mpO_ok hφ hK (hs.ok j o' v e1 hv)
 ·obtain ⟨p, e1, rfl⟩ := objs hi
  obtain ⟨p', e2, rfl⟩ := objs hj
  exact hs.dist i j p p' v v' b hij e1 e2 (mpO_live l1) (mpO_live l2) v1 v2 b1
 ·show Rv _ _ (envL l i) _
  rcases envL_get (l := l) (i := i) with e | ⟨p, h1, h2, h3⟩
  ·rw [e]; exact .undef _ _
  ·rw [h3, ← h.get p h1, h2]; exact mpV_rv hφ (ha.rv i)
theorem PCall.nils [Dr] {f : FuncId} {args : List AV} {r : AV} (h : PCall P f (mpAL nlN args) r) : PCall P f args r := by
 unfold PCall at *
 refine ⟨h.1, fun M0 w vs h1 h2 hv => h.2 M0 w vs h1 h2 ⟨by rw [mpAL_len]; exact hv.1, fun i y hy => ?_⟩⟩
 obtain ⟨x, hx, rfl⟩ := mpAL_get hy
 exact mpA_rv (fun x v hx => nlN_rv (fun _ _ h => h) hx) (hv.2 i x hx)

abbrev DCall [Dr] (P : Program) (f : FuncId) (args : List AV) (H : Hp) (r0 : AV) (H0 : Hp) : Prop := ACall P f args H fun r H' => r = r0 ∧ H' = H0
theorem aW [Dr] {f : FuncId} {args as : List AV} {H Hs H0 : Hp} {r0 : AV} {K : KV} (L : List Nat) (h : DCall P f as Hs r0 H0) (hok : okL H.length (withTrue L) = true) (hH : heapOf (gOf (withTrue L) 0) H (withTrue L) = Hs)
  (ha : renAL (gOf (withTrue L) 0) args = as) (hk : K (renV (someN L H.length) r0) (mergeH L H H0)) : ACall P f args H K :=
 h.frame L hok hH ha fun r H' _ hr => by rw [hr.1, hr.2]; exact hk
theorem aDw [Dr] {f : FuncId} {args as : List AV} {H Hs H0 : Hp} {r0 : AV} {K : KV} (L : List Nat) (h : DCall P f as Hs r0 H0) (hok : okL H.length (withTrue L) = true) (hH : heapOf (gOf (withTrue L) 0) H (withTrue L) = Hs)
  (ha : renAL (gOf (withTrue L) 0) args = as) (hk : K (renV (someN L H.length) r0) (mergeH L H H0)) : ∃ r H1, ACall P f args H (fun r' H' => r' = r ∧ H' = H1) ∧ K r H1 :=
 ⟨_, _, h.frame L hok hH ha fun _ _ _ hr => ⟨by rw [hr.1], by rw [hr.2]⟩, hk⟩
theorem aDr [Dr] {f : FuncId} {args as : List AV} {H Hs H0 : Hp} {r0 : AV} {K : AV → Prop} (L : List Nat) (h : DCall P f as Hs r0 H0) (hok : okL H.length (withTrue L) = true) (hH : heapOf (gOf (withTrue L) 0) H (withTrue L) = Hs)
  (ha : renAL (gOf (withTrue L) 0) args = as) (hm : mergeH L H H0 = H) (hk : K (renV (someN L H.length) r0)) : ∃ r, ACall P f args H (fun r' H' => r' = r ∧ H' = H) ∧ K r :=
 ⟨_, h.frame L hok hH ha fun _ _ _ hr => ⟨by rw [hr.1], by rw [hr.2, hm]⟩, hk⟩
theorem DCall.of_awp [Dr] (hT : TOk P T) (hm : P.follows .mixedOrders = true) {f : FuncId} {c : Code} {rs : List ResultVar} (hf : FnIs P f n c rs) {args : List AV} (hn : args.length ≤ n) {H H0 : Hp} {r0 : AV}
  (h : AWP P T n none H.length c (FPost T rs fun vs H' => Weak H.length ⟨envL [(0, mkRes vs)], H'⟩ ⟨envL [(0, r0)], H0⟩) ⟨env0 args, H⟩) : DCall P f args H r0 H0 :=
 (ACall.of_awp (K := fun r H' => Weak H.length ⟨envL [(0, r)], H'⟩ ⟨envL [(0, r0)], H0⟩) hT hm hf hn h).post fun _ _ h => ⟨_, _, h, rfl, rfl⟩

theorem weak_cr [Dr] {N0 : Nat} {r r' : AV} {H H' : Hp} (id : Nat) (L : List (Nat × Bool)) {rt rs : Nat} {es : List (List AV)} (hH : H[id]? = some (.row rt rs es)) (hok : okL H.length L = true) (hpre : preL 0 N0 L = true)
  (hr : renV (gOf L 0) (mpV (thN (H.set id (.frz es))) r) = r') (hh : heapOf (gOf L 0) (mpH (thN (H.set id (.frz es))) (H.set id (.frz es))) L = H') : Weak N0 ⟨envL [(0, r)], H⟩ ⟨envL [(0, r')], H'⟩ :=
 (weak_const (s := ⟨envL [(0, r)], H⟩) id hH (l := [(0, mpV (thN (H.set id (.frz es))) r)]) rfl ⟨rfl, trivial⟩).trans
  (weak_ren_to (s := ⟨envL [(0, mpV (thN (H.set id (.frz es))) r)], mpH (thN (H.set id (.frz es))) (H.set id (.frz es))⟩) L (by show okL (mpH _ _).length L = true; rw [mpH_len, List.length_set]; exact hok) hpre hh ⟨hr, trivial⟩)
theorem weak_nr [Dr] {N0 : Nat} {r r' : AV} {H H' : Hp} (L : List (Nat × Bool)) (hok : okL H.length L = true) (hpre : preL 0 N0 L = true)
  (hr : renV (gOf L 0) (mpV nlN r) = r') (hh : heapOf (gOf L 0) (mpH nlN H) L = H') : Weak N0 ⟨envL [(0, r)], H⟩ ⟨envL [(0, r')], H'⟩ :=
 (weak_nils (s := ⟨envL [(0, r)], H⟩) (l := [(0, mpV nlN r)]) rfl ⟨rfl, trivial⟩).trans
  (weak_ren_to (s := ⟨envL [(0, mpV nlN r)], mpH nlN H⟩) L (by show okL (mpH _ _).length L = true; rw [mpH_len]; exact hok) hpre hh ⟨hr, trivial⟩)
/-! ### nil lists, as rows of one's own -/
def NrC (n : Nat) (x y : AV) : Prop := x = y ∨ (x = .nils ∧ y = .own n)
def NrL (n : Nat) : List AV → List AV → Prop
 | [], [] => True
 | x :: xs, y :: ys => NrC n x y ∧ NrL n xs ys
 | _, _ => False
def NrO (n : Nat) (o o' : Ob) : Prop := o = o' ∨ match o, o' with
 | .box t cs, .box t' ds => t = t' ∧ NrL n cs ds
 | _, _ => False
def NrH (n : Nat) : Hp → Hp → Prop
 | [], [] => True
 | o :: r, o' :: r' => NrO n o o' ∧ NrH n r r'
 | _, _ => False
def NrE (n : Nat) (e : Env) : List (Nat × AV) → Prop
 | [] => True
 | (k, v) :: r => NrC n (e k) v ∧ NrE n e r
theorem NrE.get [Dr] {n : Nat} {e : Env} : ∀ {l : List (Nat × AV)}, NrE n e l → ∀ p ∈ l, NrC n (e p.1) p.2
 | [], _, p, hp => by cases hp
 | (k, v) :: r, h, p, hp => by
  rcases List.mem_cons.1 hp with rfl | hp
  ·exact h.1
  ·exact NrE.get h.2 p hp
theorem NrL.len [Dr] {n : Nat} : ∀ {xs ys : List AV}, NrL n xs ys → ys.length = xs.length
 | [], [], _ => rfl
 | _ :: _, _ :: _, h => by rw [List.length_cons, List.length_cons, NrL.len h.2]
 | [], _ :: _, h => h.elim
 | _ :: _, [], h => h.elim
theorem NrL.get [Dr] {n : Nat} : ∀ {xs ys : List AV}, NrL n xs ys → ∀ {j : Nat} {y : AV}, ys[j]? = some y → ∃ x, xs[j]? = some x ∧ NrC n x y
 | [], [], _, j, y, hy => by simp at hy
 | x :: _, y' :: _, h, 0, y, hy => by simp at hy; exact ⟨x, rfl, hy ▸ h.1⟩
 | _ :: _, _ :: _, h, j + 1, y, hy => by simp at hy; simpa using NrL.get h.2 hy
 | [], _ :: _, h, _, _, _ => h.elim
 | _ :: _, [], h, _, _, _ => h.elim
theorem NrH.len [Dr] {n : Nat} : ∀ {H H' : Hp}, NrH n H H' → H'.length = H.length
 | [], [], _ => rfl
 | _ :: _, _ :: _, h => by rw [List.length_cons, List.length_cons, NrH.len h.2]
 | [], _ :: _, h => h.elim
 | _ :: _, [], h => h.elim
theorem NrH.get [Dr] {n : Nat} : ∀ {H H' : Hp}, NrH n H H' → ∀ {j : Nat} {o' : Ob}, H'[j]? = some o' → ∃ o, H[j]? = some o ∧ NrO n o o'
 | [], [], _, j, o', ho => by simp at ho
 | o :: _, o'' :: _, h, 0, o', ho => by simp at ho; exact ⟨o, rfl, ho ▸ h.1⟩
 | _ :: _, _ :: _, h, j + 1, o', ho => by simp at ho; simpa using NrH.get h.2 ho
 | [], _ :: _, h, _, _, _ => h.elim
 | _ :: _, [], h, _, _, _ => h.elim
theorem NrC.cell [Dr] {n : Nat} {x y : AV} (h : NrC n x y) (hx : isCell x = true) : isCell y = true := by
 rcases h with rfl | ⟨_, rfl⟩
 ·exact hx
 ·rfl
theorem NrO.live [Dr] {n : Nat} {o o' : Ob} (h : NrO n o o') (hl : Ve.live o' = true) : Ve.live o = true := by
 rcases h with rfl | h
 ·exact hl
 ·cases o <;> cases o' <;> first | rfl | exact h.elim
theorem weak_nilrow [Dr] {N0 : Nat} {s : AS} (t sz : Nat) (h0 : 0 < sz) {l : List (Nat × AV)} {H' : Hp} (hl : NrE s.H.length s.env l) (hH : NrH s.H.length s.H H') : Weak N0 s ⟨envL l, H' ++ [.row t sz []]⟩ := by
 intro M0 σ w n a D hN hs ha
 obtain ⟨s1, x1⟩ := hs.nilrow t h0
 have hlen := hs.len
 have hlH := hH.len
 have cell : ∀ {x y : AV} {v : Value}, NrC s.H.length x y → Rv (Kof M0 s.H σ w) σ x v → Rv (Kof M0 (s.H ++ [.row t sz []]) (σ ++ [.slice none 0 0]) w) (σ ++ [.slice none 0 0]) y v := by
  intro x y v hc hv
  rcases hc with rfl | ⟨rfl, rfl⟩
  ·exact x1.rv hv
  ·rw [hv.nils_inv]
   exact .own _ _ _ (by rw [← hlen]; exact new_id _ _) rfl
 have objs : ∀ {i : Nat} {o' : Ob}, (H' ++ [Ob.row t sz []])[i]? = some o' → ∃ o, (s.H ++ [Ob.row t sz []])[i]? = some o ∧ NrO s.H.length o o' := by
  intro i o' hi
  rcases Nat.lt_or_ge i s.H.length with hlt | hge
  ·rw [List.getElem?_append_left (by omega)] at hi
   obtain ⟨o, h1, h2⟩ := hH.get hi
   exact ⟨o, by rw [List.getElem?_append_left hlt]; exact h1, h2⟩
  ·rw [List.getElem?_append_right (by omega)] at hi
   exact ⟨o', by rw [List.getElem?_append_right (by omega), ← hlH]; exact hi, .inl rfl⟩
 have mbs : ∀ b, Mb (H' ++ [.row t sz []]) (σ ++ [.slice none 0 0]) b → Mb (s.H ++ [.row t sz []]) (σ ++ [.slice none 0 0]) b := by
  rintro b ⟨i, o', v, h1, h2, h3, h4⟩
  obtain ⟨o, k1, k2⟩ := objs h1
  exact ⟨i, o, v, k1, k2.live h2, h3, h4⟩
 have mb0 : ∀ b, Mb (s.H ++ [.row t sz []]) (σ ++ [.slice none 0 0]) b → Mb s.H σ b := by
  rintro b ⟨i, o', v, h1, h2, h3, h4⟩
  rcases Nat.lt_or_ge i s.H.length with hlt | hge
  ·rw [List.getElem?_append_left hlt] at h1
   rw [List.getElem?_append_left (by omega)] at h3
   exact ⟨i, o', v, h1, h2, h3, h4⟩
  ·rw [List.getElem?_append_right (by omega)] at h3
   have : v = .slice none 0 0 := by
    cases hd : i - σ.length with
    | zero => rw [hd] at h3; simp at h3; exact h3.symm
    | succ k => rw [hd] at h3; simp at h3
   rw [this] at h4
   simp [blkOf] at h4
 have hK : ∀ c u, Kof M0 (s.H ++ [.row t sz []]) (σ ++ [.slice none 0 0]) w c u → Kof M0 (H' ++ [.row t sz []]) (σ ++ [.slice none 0 0]) w c u := fun c u hk => ⟨fun hm => hk.1 (hm.imp id (mbs _)), hk.2⟩
 refine ⟨σ ++ [.slice none 0 0], (List.take_prefix _ _).trans (List.prefix_append _ _), fun b hb => mb0 b (mbs b hb), ⟨by simp [hlen, hlH], fun i o' v hi hv => ?_, fun i j o o' v v' b hij hi hj l1 l2 v1 v2 b1 => ?_, fun b hb => hs.sep b (mb0 b (mbs b hb)), hs.old, fun b hb => ?_⟩, ha.size, ha.defers, fun i => ?_⟩
 ·obtain ⟨o, h1, h2⟩ := objs hi
  have hob := s1.ok i o v h1 hv
  rcases h2 with rfl | h2
  ·exact hob.turn hK (List.prefix_refl _) (fun _ _ _ => rfl)
  ·cases o with
   | box t1 cs =>
    cases o' with
    | box t2 ds =>
     obtain ⟨rfl, hnl⟩ := h2
     rcases Nat.lt_or_ge i s.H.length with hlt | hge
     ·rw [List.getElem?_append_left hlt] at h1
      rw [List.getElem?_append_left (by omega)] at hv
      obtain ⟨q0, b, vs, rfl, q1, q2, q3⟩ := hs.ok i _ v h1 hv
      refine ⟨?_, b, vs, rfl, q1, by rw [hnl.len]; exact q2, fun j y hy => ?_⟩
      ·rw [List.all_eq_true] at q0 ⊢
       intro y hy
       obtain ⟨j, hj⟩ := List.getElem?_of_mem hy
       obtain ⟨x, k1, k2⟩ := hnl.get hj
       exact k2.cell (q0 x (List.mem_of_getElem? k1))
      ·obtain ⟨x, k1, k2⟩ := hnl.get hy
       exact (cell k2 (q3 j x k1)).mono hK (List.prefix_refl _)
     ·rw [List.getElem?_append_right hge] at h1
      cases hd : i - s.H.length with
      | zero => rw [hd] at h1; simp at h1
      | succ k => rw [hd] at h1; simp at h1
    | _ => exact h2.elim
   | _ => exact h2.elim
 ·obtain ⟨p, h1, h2⟩ := objs hi
  obtain ⟨p', k1, k2⟩ := objs hj
  exact s1.dist i j p p' v v' b hij h1 k1 (h2.live l1) (k2.live l2) v1 v2 b1
 ·obtain ⟨m, hm⟩ := s1.glob b hb
  exact ⟨m, hK _ _ hm⟩
 ·show Rv _ _ (envL l i) _
  rcases envL_get (l := l) (i := i) with e | ⟨p, h1, h2, h3⟩
  ·rw [e]; exact .undef _ _
  ·rw [h3]
   have := hl.get p h1
   rw [h2] at this
   exact (cell this (ha.rv i)).mono hK (List.prefix_refl _)
end Go.Ve
end
