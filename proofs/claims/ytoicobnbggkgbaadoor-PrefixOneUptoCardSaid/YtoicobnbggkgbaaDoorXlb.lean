/- The program's contracts: texts joined into one: PreLaw3 LawPre ArgsPre LawPre5. -/
import Derived.Test.YtoicobnbggkgbaaDoorXla

section
/- prefix, plain laws: the one on a node, the crossing, the order. -/
namespace Go.Proofs.YtoicobnbggkgbaaDoor
open Go.Ve

theorem over_up {s : Sp} {p q : Px} : overP s q p = (rightP s q && rightP s p && decide (upP s p q.a0 q.a1 = q)) := by
  unfold overP
  cases hq : rightP s q
  · rfl
  · cases hp : rightP s p
    · rfl
    · rw [Bool.and_self, Bool.true_and, Bool.true_and, Bool.eq_iff_iff, decide_eq_true_iff, decide_eq_true_iff]
      refine ⟨fun h => h.2.2.symm, fun h => ?_⟩
      by_cases hc : p.a0 ≤ q.a0 ∧ p.a1 ≤ q.a1
      · exact ⟨hc.1, hc.2, h.symm⟩
      · have : upP s p q.a0 q.a1 = zeroP := by unfold upP; rw [decide_eq_false hc, Bool.and_false, cond_false]
        rw [this] at h
        rw [← h, zero_notright] at hq; cases hq
theorem right_top {s : Sp} {p : Px} (h : rightP s p = true) : p.a0 ≤ (topP s).a0 ∧ p.a1 ≤ (topP s).a1 := by
  unfold rightP at h
  rw [Bool.and_eq_true, Bool.and_eq_true] at h
  obtain ⟨⟨h1, h2⟩, h3⟩ := h
  unfold topP
  rw [h1, cond_true]
  refine ⟨(len_ok_iff.1 (onD_iff.1 h2).2.1).2.2, ?_⟩
  by_cases hn : s.n = 1
  · rw [decide_eq_true hn, cond_true] at h3
    rw [sound_one h1 hn, (of_decide_eq_true h3).1]
    show (0 : Int) ≤ depthD zeroD
    decide
  · rw [decide_eq_false hn, cond_false] at h3
    exact (len_ok_iff.1 (onD_iff.1 h3).2.1).2.2
theorem up_none {s : Sp} {p : Px} {i j : Int} (h : ¬ (rightP s p = true ∧ p.a0 ≤ i ∧ p.a1 ≤ j ∧ i ≤ (topP s).a0 ∧ j ≤ (topP s).a1)) : upP s p i j = zeroP := by
  by_cases hc : rightP s p = true ∧ p.a0 ≤ i ∧ p.a1 ≤ j
  · rw [up_eq hc.1 hc.2.1 hc.2.2]
    unfold orN
    cases hr : rightP s ⟨i, j, cutD s.d0 i p.k0, cutD s.d1 j p.k1⟩
    · rw [cond_false]
    · have := right_top hr
      exact absurd ⟨hc.1, hc.2.1, hc.2.2, this.1, this.2⟩ h
  · unfold upP
    have : (rightP s p && decide (p.a0 ≤ i ∧ p.a1 ≤ j)) = false := by
      cases hr : rightP s p
      · rfl
      · rw [Bool.true_and]; exact decide_eq_false fun h' => hc ⟨hr, h'⟩
    rw [this, cond_false]
theorem up_some {s : Sp} {p : Px} {i j : Int} (hp : POk p) (h : rightP s p = true ∧ p.a0 ≤ i ∧ p.a1 ≤ j ∧ i ≤ (topP s).a0 ∧ j ≤ (topP s).a1) :
    (upP s p i j).a0 = i ∧ (upP s p i j).a1 = j ∧ overP s (upP s p i j) p = true := by
  obtain ⟨hr, h1, h2, h3, h4⟩ := h
  obtain ⟨g1, g2, g3⟩ := (rightP_iff hp).1 hr
  have hb := right_bounds hr
  have hc := hp.cut s.d0 s.d1 i j
  have hO : overP s ⟨i, j, cutD s.d0 i p.k0, cutD s.d1 j p.k1⟩ p = true := by
    unfold topP at h3 h4
    rw [g1, cond_true] at h3 h4
    have h3 : i ≤ depthD s.d0 := h3
    have h4 : j ≤ depthD s.d1 := h4
    refine (over_iffP hc hp).2 ⟨g1, RD.of_cut g2.1 ?_ h1, ?_⟩
    · exact len_ok_iff.2 ⟨(len_ok_iff.1 (onD_iff.1 g2.1).2.1).1, (show (0 : Int) ≤ i by omega), h3⟩
    · unfold R1 at g3 ⊢
      by_cases hn : s.n = 1
      · rw [if_pos hn] at g3 ⊢
        have hz := sound_one g1 hn
        rw [hz] at h4
        have hd : depthD zeroD = 0 := by decide
        rw [hd] at h4
        refine ⟨by show j = 0; omega, ?_, g3.1, g3.2.1⟩
        show cutD s.d1 j p.k1 = zeroK
        rw [hz]; unfold cutD; rw [if_pos (.inl (by rw [lenD_zero]; decide))]
      · rw [if_neg hn] at g3 ⊢
        exact RD.of_cut g3.1 (len_ok_iff.2 ⟨(len_ok_iff.1 (onD_iff.1 g3.1).2.1).1, (show (0 : Int) ≤ j by omega), h4⟩) h2
  have hR : rightP s ⟨i, j, cutD s.d0 i p.k0, cutD s.d1 j p.k1⟩ = true := by
    have := hO; unfold overP at this; rw [Bool.and_eq_true, Bool.and_eq_true] at this; exact this.1.1
  have e : upP s p i j = ⟨i, j, cutD s.d0 i p.k0, cutD s.d1 j p.k1⟩ := by rw [up_eq hr h1 h2, orN, hR, cond_true]
  rw [e]; exact ⟨rfl, rfl, hO⟩

/-! ### the crossing -/
section
variable {R : Int → Ky → Int → Ky → Prop} {a b c : Int} {k x y : Ky}
def pkA (a b : Int) : Int := if b < a then b else a
def pkK (a : Int) (k : Ky) (b : Int) (x : Ky) : Ky := if b < a then x else k
theorem pk_sym (hR : DirOk R) (hk : k.n < 2 ^ 128) (h2 : R b x (pkA a b) (pkK a k b x)) : pkA a b = pkA b a ∧ pkK a k b x = pkK b x a k := by
  unfold pkA pkK at *
  by_cases g1 : b < a
  · rw [if_pos g1, if_pos g1, if_neg (by omega), if_neg (by omega)]; exact ⟨rfl, rfl⟩
  · rw [if_neg g1, if_neg g1] at *
    by_cases g2 : a < b
    · rw [if_pos g2, if_pos g2]; exact ⟨rfl, rfl⟩
    · have e : a = b := by omega
      subst e
      rw [if_neg g2, if_neg g2]
      exact ⟨rfl, (hR.same hk h2).symm⟩
theorem pk_both (hR : DirOk R) (hy : y.n < 2 ^ 128) (hk : k.n < 2 ^ 128) (hx : x.n < 2 ^ 128) (h1 : R a k c y) (h2 : R b x c y) : R a k (pkA a b) (pkK a k b x) ∧ R b x (pkA a b) (pkK a k b x) ∧ R (pkA a b) (pkK a k b x) c y := by
  unfold pkA pkK
  by_cases g1 : b < a
  · rw [if_pos g1, if_pos g1]
    exact ⟨hR.chain hy h1 h2 (by omega), hR.l hx h2, h2⟩
  · rw [if_neg g1, if_neg g1]
    exact ⟨hR.l hk h1, hR.chain hy h2 h1 (by omega), h1⟩
end
theorem crossX_eq {s : Sp} {p q : Px} (hp : rightP s p = true) (hq : rightP s q = true) : crossX s p q = ⟨pkA p.a0 q.a0, pkA p.a1 q.a1, pkK p.a0 p.k0 q.a0 q.k0, pkK p.a1 p.k1 q.a1 q.k1⟩ := by
  have hs : soundS s = true := by unfold rightP at hp; rw [Bool.and_eq_true, Bool.and_eq_true] at hp; exact hp.1.1
  unfold crossX
  have c0 : ∀ {α : Type} (x y : α), (bif decide (q.a0 < p.a0) then x else y) = if q.a0 < p.a0 then x else y := fun x y => by
    by_cases h : q.a0 < p.a0
    · rw [decide_eq_true h, cond_true, if_pos h]
    · rw [decide_eq_false h, cond_false, if_neg h]
  have c1 : ∀ {α : Type} (x y : α), (bif decide (q.a1 < p.a1) then x else y) = if q.a1 < p.a1 then x else y := fun x y => by
    by_cases h : q.a1 < p.a1
    · rw [decide_eq_true h, cond_true, if_pos h]
    · rw [decide_eq_false h, cond_false, if_neg h]
  rcases sound_n hs with hn | hn
  · rw [hn]
    show xAt _ _ p q 1 = _
    unfold rightP at hp hq
    rw [decide_eq_true hn, cond_true, Bool.and_eq_true] at hp hq
    have e1 := of_decide_eq_true hp.2
    have e2 := of_decide_eq_true hq.2
    show (⟨bif decide (q.a0 < p.a0) then q.a0 else p.a0, p.a1, bif decide (q.a0 < p.a0) then q.k0 else p.k0, p.k1⟩ : Px) = _
    rw [c0, c0]
    unfold pkA pkK
    rw [if_neg (show ¬ q.a1 < p.a1 by omega), if_neg (show ¬ q.a1 < p.a1 by omega)]
  · rw [hn]
    show xAt _ _ p q 2 = _
    show (⟨bif decide (q.a0 < p.a0) then q.a0 else p.a0, bif decide (q.a1 < p.a1) then q.a1 else p.a1, bif decide (q.a0 < p.a0) then q.k0 else p.k0, bif decide (q.a1 < p.a1) then q.k1 else p.k1⟩ : Px) = _
    rw [c0, c0, c1, c1]; rfl
theorem pick_ok {p q : Px} (hp : POk p) (hq : POk q) : POk ⟨pkA p.a0 q.a0, pkA p.a1 q.a1, pkK p.a0 p.k0 q.a0 q.k0, pkK p.a1 p.k1 q.a1 q.k1⟩ := by
  refine ⟨?_, ?_, ?_, ?_⟩
  · show (pkK _ _ _ _).n < _; unfold pkK; split <;> first | exact hq.n0 | exact hp.n0
  · show (pkK _ _ _ _).n < _; unfold pkK; split <;> first | exact hq.n1 | exact hp.n1
  · show (pkK _ _ _ _).path.length ≤ _; unfold pkK; split <;> first | exact hq.p0 | exact hp.p0
  · show (pkK _ _ _ _).path.length ≤ _; unfold pkK; split <;> first | exact hq.p1 | exact hp.p1
theorem cross_some {s : Sp} {p q : Px} (hp : POk p) (hq : POk q) (h : crossB s p q = true) : crossB s q p = true ∧ crossP s p q = crossP s q p ∧ overP s p (crossP s p q) = true ∧ overP s q (crossP s p q) = true := by
  have h' := h
  unfold crossB at h'
  rw [Bool.and_eq_true, Bool.and_eq_true, Bool.and_eq_true] at h'
  obtain ⟨⟨⟨rp, rq⟩, o1⟩, o2⟩ := h'
  have e := crossX_eq rp rq
  have e' := crossX_eq rq rp
  rw [e] at o1 o2
  obtain ⟨_, b0, b1⟩ := (over_iffP hq (pick_ok hp hq)).1 o2
  obtain ⟨m0, m1⟩ := pk_sym (dirD _) hp.n0 b0
  obtain ⟨n0, n1⟩ := pk_sym (dir1 s) hp.n1 b1
  have ex : crossX s q p = crossX s p q := by rw [e, e', m0, m1, n0, n1]
  have hB : crossB s q p = true := by unfold crossB; rw [rp, rq, ex, e, o1, o2]; rfl
  refine ⟨hB, ?_, ?_, ?_⟩
  · unfold crossP; rw [h, hB, cond_true, cond_true, ex]
  · unfold crossP; rw [h, cond_true, e]; exact o1
  · unfold crossP; rw [h, cond_true, e]; exact o2
theorem cross_comm {s : Sp} {p q : Px} (hp : POk p) (hq : POk q) : crossB s p q = crossB s q p ∧ crossP s p q = crossP s q p := by
  cases h : crossB s p q
  · cases h2 : crossB s q p
    · exact ⟨rfl, by unfold crossP; rw [h, h2, cond_false, cond_false]⟩
    · rw [(cross_some hq hp h2).1] at h; cases h
  · obtain ⟨h1, h2, _⟩ := cross_some hp hq h
    exact ⟨h1.symm, h2⟩
theorem cross_both {s : Sp} {p q x : Px} (hp : POk p) (hq : POk q) (hx : POk x) (h1 : overP s p x = true) (h2 : overP s q x = true) : crossB s p q = true ∧ overP s (crossP s p q) x = true := by
  obtain ⟨s1, a0, a1⟩ := (over_iffP hp hx).1 h1
  obtain ⟨_, b0, b1⟩ := (over_iffP hq hx).1 h2
  obtain ⟨c0, d0, e0⟩ := pk_both (dirD _) hx.n0 hp.n0 hq.n0 a0 b0
  obtain ⟨c1, d1, e1⟩ := pk_both (dir1 s) hx.n1 hp.n1 hq.n1 a1 b1
  have rp : rightP s p = true := (rightP_iff hp).2 ⟨s1, (dirD _).l hp.n0 a0, (dir1 s).l hp.n1 a1⟩
  have rq : rightP s q = true := (rightP_iff hq).2 ⟨s1, (dirD _).l hq.n0 b0, (dir1 s).l hq.n1 b1⟩
  have e := crossX_eq rp rq
  have hB : crossB s p q = true := by
    unfold crossB
    rw [rp, rq, e, (over_iffP hp (pick_ok hp hq)).2 ⟨s1, c0, c1⟩, (over_iffP hq (pick_ok hp hq)).2 ⟨s1, d0, d1⟩]; rfl
  refine ⟨hB, ?_⟩
  unfold crossP
  rw [hB, cond_true, e]
  exact (over_iffP (pick_ok hp hq) hx).2 ⟨s1, e0, e1⟩
theorem crossP_ok {s : Sp} {p q : Px} (hp : POk p) (hq : POk q) : POk (crossP s p q) := by
  unfold crossP
  cases crossB s p q
  · exact ⟨Nat.two_pow_pos 128, Nat.two_pow_pos 128, Nat.zero_le _, Nat.zero_le _⟩
  · exact xAt_ok hp hq _
/-- Whatever both are over, the crossing is over, and the other way round. -/
theorem cross_over {s : Sp} {p q x : Px} (hp : POk p) (hq : POk q) (hx : POk x) (h : crossB s p q = true) : (overP s p x && overP s q x) = overP s (crossP s p q) x := by
  obtain ⟨_, _, h1, h2⟩ := cross_some hp hq h
  have hc := @crossP_ok s p q hp hq
  rw [Bool.eq_iff_iff, Bool.and_eq_true]
  exact ⟨fun g => (cross_both hp hq hx g.1 g.2).2, fun g => ⟨over_transP hp hc hx h1 g, over_transP hq hc hx h2 g⟩⟩
end Go.Proofs.YtoicobnbggkgbaaDoor
end

section
/- prefix: what must come of fixed calls. -/
namespace Go.Proofs.YtoicobnbggkgbaaDoor
open Go.Ve

def dA : Dm := ⟨1, 1, 8⟩
def dB : Dm := ⟨1, 2, 8⟩
def sF : Sp := ⟨2, dA, dB⟩
def ky (a : Nat) : Ky := ⟨1, 32, a * 2 ^ 96, []⟩
theorem four_okL : PCall P 73 [] (spv sF) := by
  refine PCall.of_awp tok mixed fn73 (Nat.le_of_ble_eq_true rfl) ?_
  (conv => whnf); (repeat' first | ((with_reducible refine Box.mk ?_); conv => whnf) | ((with_reducible refine And.intro (fun _ => ?_) (fun _ => ?_)) <;> conv => whnf) | ((with_reducible show ACall _ _ _ _ _); (refine ACall.of_pure (by assumption) (by rfl) ?_); conv => whnf) | ((with_reducible show Exists _); (refine ⟨_, ACall.of_pure (by assumption) (by rfl) ⟨rfl, rfl⟩, ?_⟩); conv => whnf) | ((with_reducible show ∃ L, drawR L _ = true ∧ _); (refine ⟨[], by kernel_rfl, ?_⟩); conv => whnf) | ((with_reducible show _ ∧ _ ∧ _); (refine ⟨by omega, by omega, ?_⟩); conv => whnf) | fail)
  rfl
def pF : Px := ⟨0, 0, ⟨1, 32, 167837953 * 2 ^ 96, []⟩, ⟨1, 32, 3232235777 * 2 ^ 96, []⟩⟩
def aF : Px := ⟨3, 4, ⟨1, 8, 10 * 2 ^ 120, []⟩, ⟨1, 0, 0, []⟩⟩
def bF : Px := ⟨4, 2, ⟨1, 0, 0, []⟩, ⟨1, 16, 49320 * 2 ^ 112, []⟩⟩
def xF : Px := ⟨3, 2, ⟨1, 8, 10 * 2 ^ 120, []⟩, ⟨1, 16, 49320 * 2 ^ 112, []⟩⟩
def tF : Px := ⟨4, 4, ⟨1, 0, 0, []⟩, ⟨1, 0, 0, []⟩⟩
theorem kp0 {p : Px} (h1 : p.k0.n < 2 ^ 128) (h2 : p.k1.n < 2 ^ 128) (h3 : p.k0.path = []) (h4 : p.k1.path = []) : POk p := ⟨h1, h2, by rw [h3]; exact Nat.zero_le _, by rw [h4]; exact Nat.zero_le _⟩
theorem pF_ok : POk pF := kp0 (by decide) (by decide) rfl rfl
theorem aF_ok : POk aF := kp0 (by decide) (by decide) rfl rfl
theorem bF_ok : POk bF := kp0 (by decide) (by decide) rfl rfl
theorem xF_ok : POk xF := kp0 (by decide) (by decide) rfl rfl
theorem tF_ok : POk tF := kp0 (by decide) (by decide) rfl rfl
theorem alive9_ok : PCall P 35 [] (.bool true) := by
  have c0 := four_okL
  have c1 := pEq (four_ok 167837953 (by decide)) (show _ = kv pF.k0 from rfl)
  have c2 := pEq (four_ok 3232235777 (by decide)) (show _ = kv pF.k1 from rfl)
  have c3 := pEq (leaf_ok sF pF.k0 pF.k1 pF_ok) (show _ = AV.tup [pxv pF, .bool true] by kernel_rfl)
  have c4 := pEq (up_ok sF pF 3 4 pF_ok) (show _ = pxv aF by kernel_rfl)
  have c5 := pEq (up_ok sF pF 4 2 pF_ok) (show _ = pxv bF by kernel_rfl)
  have c6 := pEq (cross_ok sF aF bF aF_ok bF_ok) (show _ = AV.tup [pxv xF, .bool true] by kernel_rfl)
  have c7 := pEq (four_ok 1 (by decide)) (show _ = kv (ky 1) from rfl)
  have c8 := pEq (leaf_ok sF (ky 1) zeroK (kp0 (by decide) (by decide) rfl rfl)) (show _ = AV.tup [pxv zeroP, .bool false] by kernel_rfl)
  have c9 := pEq (top_okP sF) (show _ = pxv tF by kernel_rfl)
  have d1 := pEq (sound_ok sF) (show _ = AV.bool true by kernel_rfl)
  have d2 := pEq (sound_ok ⟨3, dA, dB⟩) (show _ = AV.bool false by kernel_rfl)
  have d3 := pEq (up_ok sF pF 3 2 pF_ok) (show _ = pxv xF by kernel_rfl)
  have d4 := pEq (height_ok sF xF xF_ok) (show _ = AV.int .i64 5 by kernel_rfl)
  have d5 := pEq (pOver_ok sF tF pF tF_ok pF_ok) (show _ = AV.bool true by kernel_rfl)
  have d6 := pEq (pOver_ok sF pF tF pF_ok tF_ok) (show _ = AV.bool false by kernel_rfl)
  have d7 := pEq (pCmp_ok pF tF) (show _ = AV.int .i64 (-1) by kernel_rfl)
  have d8 := pEq (pRight_ok sF xF xF_ok) (show _ = AV.bool true by kernel_rfl)
  refine PCall.of_awp tok mixed fn35 (Nat.le_of_ble_eq_true rfl) ?_
  (conv => whnf); (repeat' first | ((with_reducible refine Box.mk ?_); conv => whnf) | ((with_reducible refine And.intro (fun _ => ?_) (fun _ => ?_)) <;> conv => whnf) | ((with_reducible show ACall _ _ _ _ _); (refine ACall.of_pure (by assumption) (by rfl) ?_); conv => whnf) | ((with_reducible show Exists _); (refine ⟨_, ACall.of_pure (by assumption) (by rfl) ⟨rfl, rfl⟩, ?_⟩); conv => whnf) | ((with_reducible show _ ∧ _ ∧ _); (refine ⟨by omega, by omega, ?_⟩); conv => whnf) | fail)
  refine ⟨[(7, [0, 1, 2, 3])], by kernel_rfl, ?_⟩
  (conv => whnf); (repeat' first | ((with_reducible refine Box.mk ?_); conv => whnf) | ((with_reducible refine And.intro (fun _ => ?_) (fun _ => ?_)) <;> conv => whnf) | ((with_reducible show ACall _ _ _ _ _); (refine ACall.of_pure (by assumption) (by rfl) ?_); conv => whnf) | ((with_reducible show Exists _); (refine ⟨_, ACall.of_pure (by assumption) (by rfl) ⟨rfl, rfl⟩, ?_⟩); conv => whnf) | ((with_reducible show _ ∧ _ ∧ _); (refine ⟨by omega, by omega, ?_⟩); conv => whnf) | fail)
  (refine And.intro ?_ ?_); (focus ((conv => whnf); (repeat' first | exact trivial | ((refine And.intro ?_ ?_); (focus ((conv => whnf); (first | exact ⟨rfl, rfl⟩ | exact ⟨by decide, by decide, rfl, rfl⟩ | ((refine ACall.of_pure (by assumption) (by rfl) ?_); (refine And.intro ?_ ?_ <;> rfl))))); (conv => whnf)))))
  (conv => whnf); (repeat' first | ((with_reducible refine Box.mk ?_); conv => whnf) | ((with_reducible refine And.intro (fun _ => ?_) (fun _ => ?_)) <;> conv => whnf) | ((with_reducible show ACall _ _ _ _ _); (refine ACall.of_pure (by assumption) (by rfl) ?_); conv => whnf) | ((with_reducible show Exists _); (refine ⟨_, ACall.of_pure (by assumption) (by rfl) ⟨rfl, rfl⟩, ?_⟩); conv => whnf) | ((with_reducible show _ ∧ _ ∧ _); (refine ⟨by omega, by omega, ?_⟩); conv => whnf) | fail)
  refine ⟨[(8, [0, 1, 3, 4, 5, 7]), (9, [0, 1, 3, 4, 5, 7]), (1008, [])], by kernel_rfl, ?_⟩
  (conv => whnf); (repeat' first | ((with_reducible refine Box.mk ?_); conv => whnf) | ((with_reducible refine And.intro (fun _ => ?_) (fun _ => ?_)) <;> conv => whnf) | ((with_reducible show ACall _ _ _ _ _); (refine ACall.of_pure (by assumption) (by rfl) ?_); conv => whnf) | ((with_reducible show Exists _); (refine ⟨_, ACall.of_pure (by assumption) (by rfl) ⟨rfl, rfl⟩, ?_⟩); conv => whnf) | ((with_reducible show _ ∧ _ ∧ _); (refine ⟨by omega, by omega, ?_⟩); conv => whnf) | fail)
  (refine And.intro ?_ ?_); (focus ((conv => whnf); (repeat' first | exact trivial | ((refine And.intro ?_ ?_); (focus ((conv => whnf); (first | exact ⟨rfl, rfl⟩ | exact ⟨by decide, by decide, rfl, rfl⟩ | ((refine ACall.of_pure (by assumption) (by rfl) ?_); (refine And.intro ?_ ?_ <;> rfl))))); (conv => whnf)))))
  (conv => whnf); (repeat' first | ((with_reducible refine Box.mk ?_); conv => whnf) | ((with_reducible refine And.intro (fun _ => ?_) (fun _ => ?_)) <;> conv => whnf) | ((with_reducible show ACall _ _ _ _ _); (refine ACall.of_pure (by assumption) (by rfl) ?_); conv => whnf) | ((with_reducible show Exists _); (refine ⟨_, ACall.of_pure (by assumption) (by rfl) ⟨rfl, rfl⟩, ?_⟩); conv => whnf) | ((with_reducible show _ ∧ _ ∧ _); (refine ⟨by omega, by omega, ?_⟩); conv => whnf) | fail)
  (refine And.intro ?_ ?_); (focus ((conv => whnf); (repeat' first | exact trivial | ((refine And.intro ?_ ?_); (focus ((conv => whnf); (first | exact ⟨rfl, rfl⟩ | exact ⟨by decide, by decide, rfl, rfl⟩ | ((refine ACall.of_pure (by assumption) (by rfl) ?_); (refine And.intro ?_ ?_ <;> rfl))))); (conv => whnf)))))
  (conv => whnf); (repeat' first | ((with_reducible refine Box.mk ?_); conv => whnf) | ((with_reducible refine And.intro (fun _ => ?_) (fun _ => ?_)) <;> conv => whnf) | ((with_reducible show ACall _ _ _ _ _); (refine ACall.of_pure (by assumption) (by rfl) ?_); conv => whnf) | ((with_reducible show Exists _); (refine ⟨_, ACall.of_pure (by assumption) (by rfl) ⟨rfl, rfl⟩, ?_⟩); conv => whnf) | ((with_reducible show _ ∧ _ ∧ _); (refine ⟨by omega, by omega, ?_⟩); conv => whnf) | fail)
  refine ⟨[(7, [0, 1, 3])], by kernel_rfl, ?_⟩
  (conv => whnf); (repeat' first | ((with_reducible refine Box.mk ?_); conv => whnf) | ((with_reducible refine And.intro (fun _ => ?_) (fun _ => ?_)) <;> conv => whnf) | ((with_reducible show ACall _ _ _ _ _); (refine ACall.of_pure (by assumption) (by rfl) ?_); conv => whnf) | ((with_reducible show Exists _); (refine ⟨_, ACall.of_pure (by assumption) (by rfl) ⟨rfl, rfl⟩, ?_⟩); conv => whnf) | ((with_reducible show _ ∧ _ ∧ _); (refine ⟨by omega, by omega, ?_⟩); conv => whnf) | fail)
  (refine And.intro ?_ ?_); (focus ((conv => whnf); (repeat' first | exact trivial | ((refine And.intro ?_ ?_); (focus ((conv => whnf); (first | exact ⟨rfl, rfl⟩ | exact ⟨by decide, by decide, rfl, rfl⟩ | ((refine ACall.of_pure (by assumption) (by rfl) ?_); (refine And.intro ?_ ?_ <;> rfl))))); (conv => whnf)))))
  (conv => whnf); (repeat' first | ((with_reducible refine Box.mk ?_); conv => whnf) | ((with_reducible refine And.intro (fun _ => ?_) (fun _ => ?_)) <;> conv => whnf) | ((with_reducible show ACall _ _ _ _ _); (refine ACall.of_pure (by assumption) (by rfl) ?_); conv => whnf) | ((with_reducible show Exists _); (refine ⟨_, ACall.of_pure (by assumption) (by rfl) ⟨rfl, rfl⟩, ?_⟩); conv => whnf) | ((with_reducible show ∃ L, drawR L _ = true ∧ _); (refine ⟨[], by kernel_rfl, ?_⟩); conv => whnf) | ((with_reducible show _ ∧ _ ∧ _); (refine ⟨by omega, by omega, ?_⟩); conv => whnf) | fail)
  all_goals first
    | rfl
    | contradiction
    | skip
  all_goals trace_state
end Go.Proofs.YtoicobnbggkgbaaDoor
end

section
/- prefix: arguments read as data. -/
namespace Go.Proofs.YtoicobnbggkgbaaDoor
open Go.Ve

theorem dim_wf {B : Nat} {xs : List AV} (h : Wf ty B 41 xs) : ∃ d : Dm, xs = [.int .i64 d.kind, .int .i64 d.side, .int .i64 d.step] := by
  have h0 := h.struct_inv rfl
  obtain ⟨x1, r1, rfl, hk, h1⟩ := h0.cons_inv
  obtain ⟨x2, r2, rfl, hl, h2⟩ := h1.cons_inv
  obtain ⟨x3, r3, rfl, ha, h3⟩ := h2.cons_inv
  obtain rfl := h3.nil_inv
  obtain ⟨a, rfl, _⟩ := hk.int_inv rfl
  obtain ⟨b, rfl, _⟩ := hl.int_inv rfl
  obtain ⟨c, rfl, _⟩ := ha.int_inv rfl
  exact ⟨⟨a, b, c⟩, rfl⟩
theorem space_inv {B : Nat} {x : AV} (h : WfV ty B 44 x) : ∃ s : Sp, x = spv s := by
  obtain ⟨xs, rfl, h0⟩ := h.struct_inv rfl
  obtain ⟨x1, r1, rfl, hk, h1⟩ := h0.cons_inv
  obtain ⟨x2, r2, rfl, hl, h2⟩ := h1.cons_inv
  obtain rfl := h2.nil_inv
  obtain ⟨n, rfl, _⟩ := hk.int_inv rfl
  have h3 := hl.arr_inv (n := 2) rfl
  obtain ⟨y1, q1, rfl, g1, h4⟩ := h3.cons_inv
  obtain ⟨y2, q2, rfl, g2, h5⟩ := h4.cons_inv
  obtain rfl := h5.nil_inv
  obtain ⟨d0, rfl⟩ := dim_wf g1
  obtain ⟨d1, rfl⟩ := dim_wf g2
  exact ⟨⟨n, d0, d1⟩, rfl⟩
theorem prefix_inv {x : AV} (h : WfV ty 1048576 48 x) : ∃ p : Px, x = pxv p ∧ POk p := by
  obtain ⟨xs, rfl, h0⟩ := h.struct_inv rfl
  obtain ⟨x1, r1, rfl, hk, h1⟩ := h0.cons_inv
  obtain ⟨x2, r2, rfl, hl, h2⟩ := h1.cons_inv
  obtain rfl := h2.nil_inv
  have h3 := hk.arr_inv (n := 2) rfl
  obtain ⟨y1, q1, rfl, g1, h4⟩ := h3.cons_inv
  obtain ⟨y2, q2, rfl, g2, h5⟩ := h4.cons_inv
  obtain rfl := h5.nil_inv
  obtain ⟨a0, rfl, _⟩ := g1.int_inv rfl
  obtain ⟨a1, rfl, _⟩ := g2.int_inv rfl
  have h6 := hl.arr_inv (n := 2) rfl
  obtain ⟨z1, s1, rfl, k1, h7⟩ := h6.cons_inv
  obtain ⟨z2, s2, rfl, k2, h8⟩ := h7.cons_inv
  obtain rfl := h8.nil_inv
  obtain ⟨k0, rfl, m0⟩ := key_wf k1
  obtain ⟨k1, rfl, m1⟩ := key_wf k2
  exact ⟨⟨a0, a1, k0, k1⟩, rfl, m0.n, m1.n, m0.path, m1.path⟩
end Go.Proofs.YtoicobnbggkgbaaDoor
end

section
/- prefix: the statement on the one on each node. -/
namespace Go.Proofs.YtoicobnbggkgbaaDoor
open Go.Ve

set_option maxHeartbeats 4000000 in
theorem PrefixOne_ok (s : Sp) (p q : Px) (i j : Int) (hp : POk p) (hq : POk q) : PCall P 14 [spv s, pxv p, pxv q, .int .i64 i, .int .i64 j] (.bool true) := by
  have q1 := alive9_ok
  have q2 := up_ok s p i j hp
  have q3 := pOver_ok s q p hq hp
  have q4 := pRight_ok s q hq
  have q5 := pRight_ok s p hp
  have q6 := up_ok s p q.a0 q.a1 hp
  have q7 := top_okP s
  have hu := upP_ok (s := s) hp i j
  have q8 := pOver_ok s (upP s p i j) p hu hp
  have q9 := height_ok s (upP s p i j) hu
  have q10 := height_ok s p hp
  rw [over_up] at q3
  by_cases hc : rightP s p = true ∧ p.a0 ≤ i ∧ p.a1 ≤ j ∧ i ≤ (topP s).a0 ∧ j ≤ (topP s).a1
  · obtain ⟨u1, u2, u3⟩ := up_some hp hc
    obtain ⟨c1, c2, c3, c4, c5⟩ := hc
    have hru : rightP s (upP s p i j) = true := by
      have := u3; unfold overP at this; rw [Bool.and_eq_true, Bool.and_eq_true] at this; exact this.1.1
    have hh : heightP s p ≤ heightP s (upP s p i j) := by
      unfold heightP
      rw [c1, hru, cond_true, cond_true, u1, u2]; omega
    rw [u3] at q8
    rw [c1] at q3 q5
    clear hu hru
    generalize heightP s p = h1 at *
    generalize heightP s (upP s p i j) = h2 at *
    generalize upP s p i j = u at *
    generalize upP s p q.a0 q.a1 = v at *
    generalize topP s = t at *
    generalize rightP s q = r at *
    by_cases he : v = q
    · rw [decide_eq_true he] at q3
      cases r
      all_goals (
        refine PCall.of_awp tok mixed fn14 (Nat.le_of_ble_eq_true rfl) ?_
        (conv => whnf); (repeat' first | ((with_reducible refine Box.mk ?_); conv => whnf) | ((with_reducible refine And.intro (fun _ => ?_) (fun _ => ?_)) <;> conv => whnf) | ((with_reducible show ACall _ _ _ _ _); (refine ACall.of_pure (by assumption) (by rfl) ?_); conv => whnf) | ((with_reducible show Exists _); (refine ⟨_, ACall.of_pure (by assumption) (by rfl) ⟨rfl, rfl⟩, ?_⟩); conv => whnf) | ((with_reducible show ∃ L, drawR L _ = true ∧ _); (refine ⟨[], by kernel_rfl, ?_⟩); conv => whnf) | ((with_reducible show _ ∧ _ ∧ _); (refine ⟨by omega, by omega, ?_⟩); conv => whnf) | fail)
        all_goals first
          | rfl
          | contradiction
          | (exfalso; omega)
          | exact absurd (px_eq.2 he) (by assumption)
          | (rename_i hbad; exact absurd ⟨u1, u2⟩ hbad))
    · rw [decide_eq_false he] at q3
      cases r
      all_goals (
        refine PCall.of_awp tok mixed fn14 (Nat.le_of_ble_eq_true rfl) ?_
        (conv => whnf); (repeat' first | ((with_reducible refine Box.mk ?_); conv => whnf) | ((with_reducible refine And.intro (fun _ => ?_) (fun _ => ?_)) <;> conv => whnf) | ((with_reducible show ACall _ _ _ _ _); (refine ACall.of_pure (by assumption) (by rfl) ?_); conv => whnf) | ((with_reducible show Exists _); (refine ⟨_, ACall.of_pure (by assumption) (by rfl) ⟨rfl, rfl⟩, ?_⟩); conv => whnf) | ((with_reducible show ∃ L, drawR L _ = true ∧ _); (refine ⟨[], by kernel_rfl, ?_⟩); conv => whnf) | ((with_reducible show _ ∧ _ ∧ _); (refine ⟨by omega, by omega, ?_⟩); conv => whnf) | fail)
        all_goals first
          | rfl
          | contradiction
          | (exfalso; omega)
          | exact absurd (px_eq.1 (by assumption)) he
          | (rename_i hbad; exact absurd ⟨u1, u2⟩ hbad))
  · have hz := up_none hc
    rw [hz] at q2
    clear q8 q9 q10 hu
    generalize upP s p q.a0 q.a1 = v at *
    generalize topP s = t at *
    generalize rightP s q = r at *
    generalize rightP s p = rp at *
    by_cases he : v = q
    · rw [decide_eq_true he] at q3
      cases r <;> cases rp
      all_goals (
        refine PCall.of_awp tok mixed fn14 (Nat.le_of_ble_eq_true rfl) ?_
        (conv => whnf); (repeat' first | ((with_reducible refine Box.mk ?_); conv => whnf) | ((with_reducible refine And.intro (fun _ => ?_) (fun _ => ?_)) <;> conv => whnf) | ((with_reducible show ACall _ _ _ _ _); (refine ACall.of_pure (by assumption) (by rfl) ?_); conv => whnf) | ((with_reducible show Exists _); (refine ⟨_, ACall.of_pure (by assumption) (by rfl) ⟨rfl, rfl⟩, ?_⟩); conv => whnf) | ((with_reducible show ∃ L, drawR L _ = true ∧ _); (refine ⟨[], by kernel_rfl, ?_⟩); conv => whnf) | ((with_reducible show _ ∧ _ ∧ _); (refine ⟨by omega, by omega, ?_⟩); conv => whnf) | fail)
        all_goals first
          | rfl
          | contradiction
          | exact absurd (px_eq.2 he) (by assumption)
          | (exfalso; exact hc ⟨rfl, by omega, by omega, by omega, by omega⟩)
          | (rename_i hbad; exact absurd (⟨rfl, rfl, rfl, rfl, rfl, rfl, rfl, rfl, rfl, rfl, rfl, rfl⟩ : _ ∧ _ ∧ _ ∧ _ ∧ _ ∧ _ ∧ _ ∧ _ ∧ _ ∧ _ ∧ _ ∧ _) hbad))
    · rw [decide_eq_false he] at q3
      cases r <;> cases rp
      all_goals (
        refine PCall.of_awp tok mixed fn14 (Nat.le_of_ble_eq_true rfl) ?_
        (conv => whnf); (repeat' first | ((with_reducible refine Box.mk ?_); conv => whnf) | ((with_reducible refine And.intro (fun _ => ?_) (fun _ => ?_)) <;> conv => whnf) | ((with_reducible show ACall _ _ _ _ _); (refine ACall.of_pure (by assumption) (by rfl) ?_); conv => whnf) | ((with_reducible show Exists _); (refine ⟨_, ACall.of_pure (by assumption) (by rfl) ⟨rfl, rfl⟩, ?_⟩); conv => whnf) | ((with_reducible show ∃ L, drawR L _ = true ∧ _); (refine ⟨[], by kernel_rfl, ?_⟩); conv => whnf) | ((with_reducible show _ ∧ _ ∧ _); (refine ⟨by omega, by omega, ?_⟩); conv => whnf) | fail)
        all_goals first
          | rfl
          | contradiction
          | exact absurd (px_eq.1 (by assumption)) he
          | (exfalso; exact hc ⟨rfl, by omega, by omega, by omega, by omega⟩)
          | (rename_i hbad; exact absurd (⟨rfl, rfl, rfl, rfl, rfl, rfl, rfl, rfl, rfl, rfl, rfl, rfl⟩ : _ ∧ _ ∧ _ ∧ _ ∧ _ ∧ _ ∧ _ ∧ _ ∧ _ ∧ _ ∧ _ ∧ _) hbad))

theorem PrefixOne_args (xs : List AV) (h : WfA ty 1048576 [44, 48, 48, 3, 3] xs) : PCall P 14 xs (.bool true) := by
  obtain ⟨y1, r1, rfl, g1, h1⟩ := h.cons_inv
  obtain ⟨y2, r2, rfl, g2, h2⟩ := h1.cons_inv
  obtain ⟨y3, r3, rfl, g3, h3⟩ := h2.cons_inv
  obtain ⟨y4, r4, rfl, g4, h4⟩ := h3.cons_inv
  obtain ⟨y5, r5, rfl, g5, h5⟩ := h4.cons_inv
  obtain rfl := h5.nil_inv
  obtain ⟨x1, rfl⟩ := space_inv g1
  obtain ⟨x2, rfl, f2⟩ := prefix_inv g2
  obtain ⟨x3, rfl, f3⟩ := prefix_inv g3
  obtain ⟨x4, rfl, _⟩ := g4.int_inv rfl
  obtain ⟨x5, rfl, _⟩ := g5.int_inv rfl
  exact PrefixOne_ok x1 x2 x3 x4 x5 f2 f3
end Go.Proofs.YtoicobnbggkgbaaDoor
end
