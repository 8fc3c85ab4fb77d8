/- The program's contracts: texts joined into one: PreLaw PreLaw2 Ref9 LawKey4 PreLaw3 Ref9b Ref9c PreLaw4 Ref9d LawPre ArgsPre LawPre6 Ref9e LawPre7. -/
import Derived.Test.YtoicobnbggkgbaaDoorXla

section
/- prefix, plain laws: one dimension's order. -/
namespace Go.Proofs.YtoicobnbggkgbaaDoor
open Go.Ve

theorem onD_iff {d : Dm} {l : Int} {k : Ky} : onD d l k = true ↔ rightK k = true ∧ 0 ≤ lenD d l ∧ k.kind = d.kind ∧ (k.len = lenD d l ∨ (k.kind = 3 ∧ k.len < lenD d l)) := by
  unfold onD; rw [Bool.and_eq_true, decide_eq_true_iff]
theorem len_ok_iff {d : Dm} {l : Int} : 0 ≤ lenD d l ↔ rightD d = true ∧ 0 ≤ l ∧ l ≤ depthD d := by
  unfold lenD
  split
  · rename_i h; exact ⟨fun _ => h, fun _ => by omega⟩
  · rename_i h; exact ⟨fun h' => by omega, fun h' => absurd h' h⟩
theorem lenD_anti {d : Dm} {a b : Int} (ha : 0 ≤ lenD d a) (hb : 0 ≤ lenD d b) (h : b ≤ a) : lenD d a ≤ lenD d b := by
  have h1 := len_ok_iff.1 ha
  have h2 := len_ok_iff.1 hb
  unfold lenD
  rw [if_pos h1, if_pos h2]
  have := Int.mul_le_mul_of_nonneg_right h (show 0 ≤ d.step by have := (rightD_step h1.1).2.1; omega)
  omega
theorem on_zero {d : Dm} {l : Int} : onD d l zeroK = false := by
  cases h : onD d l zeroK with
  | false => rfl
  | true => exact absurd (onD_iff.1 h).1 (by decide)
theorem cutD_eq {d : Dm} {l : Int} {k : Ky} (h : 0 ≤ lenD d l) (hk : k.kind = d.kind) : cutD d l k = cutU k (lenD d l) := by
  unfold cutD; rw [if_neg (by omega)]
theorem cutU_eq {k : Ky} (h : rightK k = true) (n : Int) : cutU k n = cutK k n := by unfold cutU; rw [h, cond_true]
theorem cut_all {k : Ky} (hn : k.n < 2 ^ 128) (h : rightK k = true) {n : Int} (hl : k.len ≤ n) : cutU k n = k := by
  rw [cutU_eq h]
  obtain ⟨c1, c2, c3⟩ := cut_right h n
  have := letters_len h
  refine letters_inj (cut_n hn n) hn c1 h c2 ?_
  rw [c3, List.take_of_length_le (by omega)]
theorem cut_self {d : Dm} {l : Int} {k : Ky} (hn : k.n < 2 ^ 128) (h : onD d l k = true) : cutD d l k = k := by
  obtain ⟨h1, h2, h3, h4⟩ := onD_iff.1 h
  rw [cutD_eq h2 h3]
  exact cut_all hn h1 (by omega)
theorem cut_len {k : Ky} (h : rightK k = true) (n : Int) (h0 : 0 ≤ n) : (cutU k n).len = min n k.len := by
  rw [cutU_eq h]
  obtain ⟨c1, c2, c3⟩ := cut_right h n
  have h1 := letters_len h
  have h2 := letters_len c1
  rw [c3, List.length_take] at h2
  omega
/-- Cut to a greater level, a key stands on that. -/
theorem cut_on {d : Dm} {a b : Int} {k : Ky} (h : onD d b k = true) (ha : 0 ≤ lenD d a) (hab : b ≤ a) : onD d a (cutD d a k) = true := by
  obtain ⟨h1, h2, h3, h4⟩ := onD_iff.1 h
  have hle := lenD_anti ha h2 hab
  have hl := cut_len h1 (lenD d a) ha
  rw [cutD_eq ha h3]
  rw [cutU_eq h1] at hl ⊢
  obtain ⟨c1, c2, c3⟩ := cut_right h1 (lenD d a)
  exact onD_iff.2 ⟨c1, ha, by rw [c2, h3], by rw [c2]; omega⟩
theorem cut_twice {d : Dm} {a b c : Int} {k : Ky} (hn : k.n < 2 ^ 128) (h : onD d c k = true) (ha : 0 ≤ lenD d a) (hb : 0 ≤ lenD d b) (hab : b ≤ a) : cutD d a (cutD d b k) = cutD d a k := by
  obtain ⟨h1, h2, h3, h4⟩ := onD_iff.1 h
  have hle := lenD_anti ha hb hab
  have hk : (cutD d b k).kind = d.kind := by
    rw [cutD_eq hb h3, cutU_eq h1, (cut_right h1 _).2.1, h3]
  rw [cutD_eq ha hk, cutD_eq ha h3, cutD_eq hb h3, cut_cut hn h1]
  split
  · rfl
  · rw [show lenD d b = lenD d a by omega]
/-! ### one dimension: the one over the other -/
/-- A level and a key of a dimension over another. -/
def RD (d : Dm) (a : Int) (k : Ky) (b : Int) (x : Ky) : Prop := onD d a k = true ∧ onD d b x = true ∧ b ≤ a ∧ k = cutD d a x
theorem RD.refl {d : Dm} {a : Int} {k : Ky} (hn : k.n < 2 ^ 128) (h : onD d a k = true) : RD d a k a k := ⟨h, h, Int.le_refl _, (cut_self hn h).symm⟩
theorem RD.same {d : Dm} {a : Int} {k x : Ky} (hx : x.n < 2 ^ 128) (h : RD d a k a x) : k = x := by rw [h.2.2.2, cut_self hx h.2.1]
theorem RD.anti {d : Dm} {a b : Int} {k x : Ky} (hx : x.n < 2 ^ 128) (h1 : RD d a k b x) (h2 : RD d b x a k) : a = b ∧ k = x := by
  have e : a = b := Int.le_antisymm h2.2.2.1 h1.2.2.1
  subst e
  exact ⟨rfl, h1.same hx⟩
theorem RD.trans {d : Dm} {a b c : Int} {k x y : Ky} (hy : y.n < 2 ^ 128) (h1 : RD d a k b x) (h2 : RD d b x c y) : RD d a k c y := by
  have ha := (onD_iff.1 h1.1).2.1
  have hb := (onD_iff.1 h2.1).2.1
  refine ⟨h1.1, h2.2.1, Int.le_trans h2.2.2.1 h1.2.2.1, ?_⟩
  rw [h1.2.2.2, h2.2.2.2, cut_twice hy h2.2.1 ha hb h1.2.2.1]
/-- Two that are over one: the one of the greater level is over the other. -/
theorem RD.chain {d : Dm} {a b c : Int} {k x y : Ky} (hy : y.n < 2 ^ 128) (h1 : RD d a k c y) (h2 : RD d b x c y) (hab : b ≤ a) : RD d a k b x := by
  have ha := (onD_iff.1 h1.1).2.1
  have hb := (onD_iff.1 h2.1).2.1
  refine ⟨h1.1, h2.1, hab, ?_⟩
  rw [h1.2.2.2, h2.2.2.2, cut_twice hy h2.2.1 ha hb hab]
theorem RD.of_cut {d : Dm} {a b : Int} {x : Ky} (h : onD d b x = true) (ha : 0 ≤ lenD d a) (hab : b ≤ a) : RD d a (cutD d a x) b x := ⟨cut_on h ha hab, h, hab, rfl⟩
theorem root_right {d : Dm} (h : rightD d = true) : rightK (rootK d.kind) = true ∧ (rootK d.kind).kind = d.kind ∧ (rootK d.kind).len = 0 ∧ lettersL (rootK d.kind) = [] ∧ (rootK d.kind).n < 2 ^ 128 := by
  obtain ⟨_, h1, h2⟩ := rightD_step h
  have hw : widthK d.kind ≠ 0 := by omega
  have hr : rootK d.kind = ⟨d.kind, 0, 0, []⟩ := by rw [rootK, if_neg hw]
  rw [hr]
  have hk : d.kind = 1 ∨ d.kind = 2 ∨ d.kind = 3 := by
    unfold widthK at hw
    by_cases k1 : d.kind = 1
    · exact .inl k1
    · by_cases k2 : d.kind = 2
      · exact .inr (.inl k2)
      · by_cases k3 : d.kind = 3
        · exact .inr (.inr k3)
        · rw [if_neg k1, if_neg k2, if_neg k3] at hw; exact absurd rfl hw
  refine ⟨?_, rfl, rfl, ?_, Nat.two_pow_pos 128⟩
  · rcases hk with k | k | k <;> rw [k] <;> decide
  · rcases hk with k | k | k <;> rw [k] <;> decide
theorem depth_len {d : Dm} (h : rightD d = true) : lenD d (depthD d) = 0 := by
  have hd := @depthD_le d
  rw [lenD, if_pos ⟨h, hd.1, Int.le_refl _⟩, depthD_eq h]
  obtain ⟨_, h1, h2⟩ := rightD_step h
  have h3 := Int.lt_ediv_add_one_mul_self (widthK d.kind + d.step - 1) (show 0 < d.step by omega)
  rw [Int.add_mul] at h3
  omega
/-- The root is over whatever stands on a level. -/
theorem RD.top {d : Dm} {b : Int} {x : Ky} (hx : x.n < 2 ^ 128) (h : onD d b x = true) : RD d (depthD d) (rootK d.kind) b x := by
  obtain ⟨h1, h2, h3, h4⟩ := onD_iff.1 h
  obtain ⟨g1, g2, g3⟩ := len_ok_iff.1 h2
  obtain ⟨r1, r2, r3, r4, r5⟩ := root_right g1
  have hl := depth_len g1
  refine ⟨onD_iff.2 ⟨r1, by omega, r2, by omega⟩, h, g3, ?_⟩
  rw [cutD_eq (by omega) h3, hl, cutU_eq h1]
  obtain ⟨c1, c2, c3⟩ := cut_right h1 0
  refine letters_inj r5 (cut_n hx 0) r1 c1 (by rw [r2, c2, h3]) ?_
  rw [c3, r4]; rfl
end Go.Proofs.YtoicobnbggkgbaaDoor
end

section
/- prefix, plain laws: prefixes over each other. -/
namespace Go.Proofs.YtoicobnbggkgbaaDoor
open Go.Ve

/-- The second dimension's relation; where there is one dimension alone: both have nothing. -/
def R1 (s : Sp) (a : Int) (k : Ky) (b : Int) (x : Ky) : Prop := if s.n = 1 then a = 0 ∧ k = zeroK ∧ b = 0 ∧ x = zeroK else RD s.d1 a k b x
structure DirOk (R : Int → Ky → Int → Ky → Prop) : Prop where
  l : ∀ {a b : Int} {k x : Ky}, k.n < 2 ^ 128 → R a k b x → R a k a k
  r : ∀ {a b : Int} {k x : Ky}, x.n < 2 ^ 128 → R a k b x → R b x b x
  le : ∀ {a b : Int} {k x : Ky}, R a k b x → b ≤ a
  same : ∀ {a : Int} {k x : Ky}, x.n < 2 ^ 128 → R a k a x → k = x
  trans : ∀ {a b c : Int} {k x y : Ky}, y.n < 2 ^ 128 → R a k b x → R b x c y → R a k c y
  chain : ∀ {a b c : Int} {k x y : Ky}, y.n < 2 ^ 128 → R a k c y → R b x c y → b ≤ a → R a k b x
theorem dirD (d : Dm) : DirOk (RD d) := ⟨fun h1 h => RD.refl h1 h.1, fun h1 h => RD.refl h1 h.2.1, fun h => h.2.2.1, fun h1 h => h.same h1, fun h1 h h' => h.trans h1 h', fun h1 h h' h2 => h.chain h1 h' h2⟩
theorem dir1 (s : Sp) : DirOk (R1 s) := by
  by_cases hn : s.n = 1
  · have e : R1 s = fun a k b x => a = 0 ∧ k = zeroK ∧ b = 0 ∧ x = zeroK := by
      funext a k b x; unfold R1; rw [if_pos hn]
    rw [e]
    exact ⟨fun _ h => ⟨h.1, h.2.1, h.1, h.2.1⟩, fun _ h => ⟨h.2.2.1, h.2.2.2, h.2.2.1, h.2.2.2⟩, fun h => by rw [h.1, h.2.2.1]; exact Int.le_refl _, fun _ h => h.2.1.trans h.2.2.2.symm,
      fun _ h h' => ⟨h.1, h.2.1, h'.2.2.1, h'.2.2.2⟩, fun _ h h' _ => ⟨h.1, h.2.1, h'.1, h'.2.1⟩⟩
  · have e : R1 s = RD s.d1 := by funext a k b x; unfold R1; rw [if_neg hn]
    rw [e]; exact dirD _
theorem rightP_iff {s : Sp} {p : Px} (hp : POk p) : rightP s p = true ↔ soundS s = true ∧ RD s.d0 p.a0 p.k0 p.a0 p.k0 ∧ R1 s p.a1 p.k1 p.a1 p.k1 := by
  unfold rightP R1
  rw [Bool.and_eq_true, Bool.and_eq_true]
  by_cases hn : s.n = 1
  · rw [decide_eq_true hn, cond_true, if_pos hn, decide_eq_true_iff]
    exact ⟨fun ⟨⟨h1, h2⟩, h3, h4⟩ => ⟨h1, RD.refl hp.n0 h2, h3, h4, h3, h4⟩, fun ⟨h1, h2, h3, h4, _⟩ => ⟨⟨h1, h2.1⟩, h3, h4⟩⟩
  · rw [decide_eq_false hn, cond_false, if_neg hn]
    exact ⟨fun ⟨⟨h1, h2⟩, h3⟩ => ⟨h1, RD.refl hp.n0 h2, RD.refl hp.n1 h3⟩, fun ⟨h1, h2, h3⟩ => ⟨⟨h1, h2.1⟩, h3.1⟩⟩
theorem zero_notright (s : Sp) : rightP s zeroP = false := by
  unfold rightP
  rw [show onD s.d0 zeroP.a0 zeroP.k0 = false from on_zero, Bool.and_false, Bool.false_and]
theorem lenD_zero (l : Int) : lenD zeroD l = -1 := by
  unfold lenD; rw [if_neg (fun h => absurd h.1 (by decide))]
theorem sound_one {s : Sp} (h : soundS s = true) (hn : s.n = 1) : s.d1 = zeroD := by
  rcases sound_cases h with h | h
  · exact h.2.2
  · omega
theorem up_eq {s : Sp} {q : Px} {i j : Int} (h : rightP s q = true) (h1 : q.a0 ≤ i) (h2 : q.a1 ≤ j) : upP s q i j = orN s ⟨i, j, cutD s.d0 i q.k0, cutD s.d1 j q.k1⟩ := by
  unfold upP; rw [h, decide_eq_true ⟨h1, h2⟩]; rfl
theorem over_iffP {s : Sp} {p q : Px} (hp : POk p) (hq : POk q) : overP s p q = true ↔ soundS s = true ∧ RD s.d0 p.a0 p.k0 q.a0 q.k0 ∧ R1 s p.a1 p.k1 q.a1 q.k1 := by
  unfold overP
  rw [Bool.and_eq_true, Bool.and_eq_true, rightP_iff hp, rightP_iff hq, decide_eq_true_iff]
  refine ⟨fun ⟨⟨⟨h1, h2, h3⟩, ⟨_, h4, h5⟩⟩, h6, h7, h8⟩ => ?_, fun ⟨h1, h2, h3⟩ => ?_⟩
  · have hr : rightP s p = true := (rightP_iff hp).2 ⟨h1, h2, h3⟩
    rw [up_eq ((rightP_iff hq).2 ⟨h1, h4, h5⟩) h6 h7] at h8
    unfold orN at h8
    cases hr2 : rightP s ⟨p.a0, p.a1, cutD s.d0 p.a0 q.k0, cutD s.d1 p.a1 q.k1⟩
    · rw [hr2, cond_false] at h8
      rw [h8, zero_notright] at hr; cases hr
    · rw [hr2, cond_true] at h8
      have e0 : p.k0 = cutD s.d0 p.a0 q.k0 := congrArg Px.k0 h8
      have e1 : p.k1 = cutD s.d1 p.a1 q.k1 := congrArg Px.k1 h8
      refine ⟨h1, ⟨h2.1, h4.1, h6, e0⟩, ?_⟩
      unfold R1 at h3 h5 ⊢
      by_cases hn : s.n = 1
      · rw [if_pos hn] at h3 h5 ⊢
        exact ⟨h3.1, h3.2.1, h5.1, h5.2.1⟩
      · rw [if_neg hn] at h3 h5 ⊢
        exact ⟨h3.1, h5.1, h7, e1⟩
  · have g1 := (dirD s.d0).l hp.n0 h2
    have g2 := (dirD s.d0).r hq.n0 h2
    have g3 := (dir1 s).l hp.n1 h3
    have g4 := (dir1 s).r hq.n1 h3
    have k1 := (dirD s.d0).le h2
    have k2 := (dir1 s).le h3
    refine ⟨⟨⟨h1, g1, g3⟩, ⟨h1, g2, g4⟩⟩, k1, k2, ?_⟩
    rw [up_eq ((rightP_iff hq).2 ⟨h1, g2, g4⟩) k1 k2]
    have e1 : p.k1 = cutD s.d1 p.a1 q.k1 := by
      unfold R1 at h3
      by_cases hn : s.n = 1
      · rw [if_pos hn] at h3
        rw [sound_one h1 hn, h3.2.1]
        unfold cutD; rw [if_pos (.inl (by rw [lenD_zero]; decide))]
      · rw [if_neg hn] at h3
        exact h3.2.2.2
    have e : (⟨p.a0, p.a1, cutD s.d0 p.a0 q.k0, cutD s.d1 p.a1 q.k1⟩ : Px) = p := px_ext rfl rfl h2.2.2.2.symm e1.symm
    rw [e]
    unfold orN
    rw [(rightP_iff hp).2 ⟨h1, g1, g3⟩, cond_true]
theorem topP_ok (s : Sp) : POk (topP s) := by
  have hz : ∀ kind, (rootK kind).n = 0 ∧ (rootK kind).path = [] := fun kind => by unfold rootK; split <;> exact ⟨rfl, rfl⟩
  unfold topP
  cases soundS s
  · exact ⟨Nat.two_pow_pos 128, Nat.two_pow_pos 128, Nat.zero_le _, Nat.zero_le _⟩
  · refine ⟨?_, ?_, ?_, ?_⟩
    · show (rootK _).n < _; rw [(hz _).1]; exact Nat.two_pow_pos 128
    · show (rootK _).n < _; rw [(hz _).1]; exact Nat.two_pow_pos 128
    · show (rootK _).path.length ≤ _; rw [(hz _).2]; exact Nat.zero_le _
    · show (rootK _).path.length ≤ _; rw [(hz _).2]; exact Nat.zero_le _
theorem over_topP {s : Sp} {p : Px} (hp : POk p) : overP s (topP s) p = rightP s p := by
  rw [Bool.eq_iff_iff, over_iffP (topP_ok s) hp, rightP_iff hp]
  refine ⟨fun ⟨h1, h2, h3⟩ => ⟨h1, (dirD _).r hp.n0 h2, (dir1 s).r hp.n1 h3⟩, fun ⟨h1, h2, h3⟩ => ⟨h1, ?_, ?_⟩⟩
  · unfold topP; rw [h1, cond_true]; exact RD.top hp.n0 h2.1
  · unfold topP; rw [h1, cond_true]
    unfold R1 at h3 ⊢
    by_cases hn : s.n = 1
    · rw [if_pos hn] at h3 ⊢
      rw [sound_one h1 hn]
      exact ⟨show depthD zeroD = 0 by decide, show rootK zeroD.kind = zeroK by decide, h3.1, h3.2.1⟩
    · rw [if_neg hn] at h3 ⊢
      exact RD.top hp.n1 h3.1
theorem over_reflP {s : Sp} {p : Px} (hp : POk p) : overP s p p = rightP s p := by
  rw [Bool.eq_iff_iff, over_iffP hp hp, rightP_iff hp]
theorem over_antiP {s : Sp} {p q : Px} (hp : POk p) (hq : POk q) (h1 : overP s p q = true) (h2 : overP s q p = true) : p = q := by
  obtain ⟨_, a1, a2⟩ := (over_iffP hp hq).1 h1
  obtain ⟨_, b1, b2⟩ := (over_iffP hq hp).1 h2
  have e0 : p.a0 = q.a0 := Int.le_antisymm ((dirD _).le b1) ((dirD _).le a1)
  have e1 : p.a1 = q.a1 := Int.le_antisymm ((dir1 s).le b2) ((dir1 s).le a2)
  rw [e0] at a1
  rw [e1] at a2
  exact px_ext e0 e1 ((dirD _).same hq.n0 a1) ((dir1 s).same hq.n1 a2)
theorem over_transP {s : Sp} {p q x : Px} (hp : POk p) (hq : POk q) (hx : POk x) (h1 : overP s p q = true) (h2 : overP s q x = true) : overP s p x = true := by
  obtain ⟨s1, a1, a2⟩ := (over_iffP hp hq).1 h1
  obtain ⟨_, b1, b2⟩ := (over_iffP hq hx).1 h2
  exact (over_iffP hp hx).2 ⟨s1, (dirD _).trans hx.n0 a1 b1, (dir1 s).trans hx.n1 a2 b2⟩
end Go.Proofs.YtoicobnbggkgbaaDoor
end

section
/- prefix, the document's answer: Sound, Right, Leaf, Top. -/
namespace Go.Proofs.YtoicobnbggkgbaaDoor
open Go.Ve

theorem r9Sound_ok (s : Sp) : PCall P 30 [spv s] (.bool (soundS s)) := by
  have q1 := r8Right_ok s.d0
  have q2 := r8Right_ok s.d1
  have ez : (s.d1.kind = 0 ∧ s.d1.side = 0 ∧ s.d1.step = 0) ↔ s.d1 = zeroD := ⟨fun h => dm_ext h.1 h.2.1 h.2.2, fun h => by rw [h]; exact ⟨rfl, rfl, rfl⟩⟩
  unfold soundS
  generalize rightD s.d0 = r0 at *
  generalize rightD s.d1 = r1 at *
  cases r0 <;> cases r1
  all_goals (
    refine PCall.of_awp tok mixed fn30 (Nat.le_of_ble_eq_true rfl) ?_
    (conv => whnf); (repeat' first | ((with_reducible refine Box.mk ?_); conv => whnf) | ((with_reducible refine And.intro (fun _ => ?_) (fun _ => ?_)) <;> conv => whnf) | ((with_reducible show ACall _ _ _ _ _); (refine ACall.of_pure (by assumption) (by rfl) ?_); conv => whnf) | ((with_reducible show Exists _); (refine ⟨_, ACall.of_pure (by assumption) (by rfl) ⟨rfl, rfl⟩, ?_⟩); conv => whnf) | ((with_reducible show ∃ L, drawR L _ = true ∧ _); (refine ⟨[], by kernel_rfl, ?_⟩); conv => whnf) | ((with_reducible show _ ∧ _ ∧ _); (refine ⟨by omega, by omega, ?_⟩); conv => whnf) | fail)
    all_goals first
      | contradiction
      | exact bool_true (decide_eq_true (.inr ⟨by assumption, rfl, rfl⟩))
      | exact bool_true (decide_eq_true (.inl ⟨by assumption, rfl, ez.1 (by assumption)⟩))
      | (refine bool_false (decide_eq_false ?_)
         rintro (⟨h1, h2, h3⟩ | ⟨h1, h2, h3⟩)
         all_goals first
           | contradiction
           | omega
           | exact absurd (ez.2 h3) (by assumption)))
theorem r9Right_ok (s : Sp) (p : Px) (hp : POk p) : PCall P 32 [spv s, pxv p] (.bool (rightP s p)) := by
  have p0 := hp.p0
  have p1 := hp.p1
  have q1 := r9Sound_ok s
  have q2 := r8On_ok s.d0 p.a0 p.k0 (by omega)
  have q3 := r8On_ok s.d1 p.a1 p.k1 (by omega)
  have ez : (p.k1.kind = 0 ∧ p.k1.len = 0 ∧ ((p.k1.n / H64 : Nat) : Int) = 0 ∧ ((p.k1.n % H64 : Nat) : Int) = 0 ∧ p.k1.path = []) ↔ p.k1 = zeroK := kv_eq (b := zeroK)
  unfold rightP
  generalize onD s.d0 p.a0 p.k0 = o0 at *
  generalize onD s.d1 p.a1 p.k1 = o1 at *
  generalize soundS s = so at *
  cases so <;> cases o0 <;> cases o1
  all_goals (
    refine PCall.of_awp tok mixed fn32 (Nat.le_of_ble_eq_true rfl) ?_
    (conv => whnf); (repeat' first | ((with_reducible refine Box.mk ?_); conv => whnf) | ((with_reducible refine And.intro (fun _ => ?_) (fun _ => ?_)) <;> conv => whnf) | ((with_reducible show ACall _ _ _ _ _); (refine ACall.of_pure (by assumption) (by rfl) ?_); conv => whnf) | ((with_reducible show Exists _); (refine ⟨_, ACall.of_pure (by assumption) (by rfl) ⟨rfl, rfl⟩, ?_⟩); conv => whnf) | ((with_reducible show ∃ L, drawR L _ = true ∧ _); (refine ⟨[], by kernel_rfl, ?_⟩); conv => whnf) | ((with_reducible show _ ∧ _ ∧ _); (refine ⟨by omega, by omega, ?_⟩); conv => whnf) | fail)
    all_goals first
      | contradiction
      | rfl
      | (rw [decide_eq_true (by assumption), cond_true]
         first
           | (show AV.bool true = AV.bool (decide (p.a1 = 0 ∧ p.k1 = zeroK)); exact bool_true (decide_eq_true ⟨by assumption, ez.1 (by assumption)⟩))
           | (show AV.bool false = AV.bool (decide (p.a1 = 0 ∧ p.k1 = zeroK)); exact bool_false (decide_eq_false fun h => absurd (ez.2 h.2) (by assumption)))
           | (show AV.bool false = AV.bool (decide (p.a1 = 0 ∧ p.k1 = zeroK)); exact bool_false (decide_eq_false fun h => absurd h.1 (by assumption))))
      | (rw [decide_eq_false (by assumption), cond_false]; rfl))
theorem r9Leaf_ok (s : Sp) (a b : Ky) (hp : POk (leafP a b)) : PCall P 28 [spv s, kv a, kv b] (.tup [pxv (orN s (leafP a b)), .bool (rightP s (leafP a b))]) := by
  have q1 := r9Right_ok s (leafP a b) hp
  unfold orN
  generalize rightP s (leafP a b) = r at *
  cases r
  · rw [cond_false, pxv_zero]
    refine PCall.of_awp tok mixed fn28 (Nat.le_of_ble_eq_true rfl) ?_
    (conv => whnf); (repeat' first | ((with_reducible refine Box.mk ?_); conv => whnf) | ((with_reducible refine And.intro (fun _ => ?_) (fun _ => ?_)) <;> conv => whnf) | ((with_reducible show ACall _ _ _ _ _); (refine ACall.of_pure (by assumption) (by rfl) ?_); conv => whnf) | ((with_reducible show Exists _); (refine ⟨_, ACall.of_pure (by assumption) (by rfl) ⟨rfl, rfl⟩, ?_⟩); conv => whnf) | ((with_reducible show ∃ L, drawR L _ = true ∧ _); (refine ⟨[], by kernel_rfl, ?_⟩); conv => whnf) | ((with_reducible show _ ∧ _ ∧ _); (refine ⟨by omega, by omega, ?_⟩); conv => whnf) | fail)
    all_goals first
      | contradiction
      | rfl
  · rw [cond_true]
    refine PCall.of_awp tok mixed fn28 (Nat.le_of_ble_eq_true rfl) ?_
    (conv => whnf); (repeat' first | ((with_reducible refine Box.mk ?_); conv => whnf) | ((with_reducible refine And.intro (fun _ => ?_) (fun _ => ?_)) <;> conv => whnf) | ((with_reducible show ACall _ _ _ _ _); (refine ACall.of_pure (by assumption) (by rfl) ?_); conv => whnf) | ((with_reducible show Exists _); (refine ⟨_, ACall.of_pure (by assumption) (by rfl) ⟨rfl, rfl⟩, ?_⟩); conv => whnf) | ((with_reducible show ∃ L, drawR L _ = true ∧ _); (refine ⟨[], by kernel_rfl, ?_⟩); conv => whnf) | ((with_reducible show _ ∧ _ ∧ _); (refine ⟨by omega, by omega, ?_⟩); conv => whnf) | fail)
    all_goals first
      | contradiction
      | rfl
theorem top_one {s : Sp} (h : soundS s = true) (hn : s.n = 1) : depthD s.d1 = 0 ∧ rootK s.d1.kind = zeroK := by
  rw [sound_one h hn]; exact ⟨by decide, by decide⟩
theorem r9Top_ok (s : Sp) : PCall P 34 [spv s] (pxv (topP s)) := by
  have q1 := r9Sound_ok s
  have q2 := r8Depth_ok s.d0
  have q3 := r8Depth_ok s.d1
  have q4 := rRoot_ok s.d0.kind
  have q5 := rRoot_ok s.d1.kind
  have h1 := @top_one s
  have hn := @sound_n s
  have kz : kcs zeroK = kzs := by simp [kcs, kzs, zeroK]
  unfold topP
  generalize depthD s.d0 = a at *
  generalize depthD s.d1 = b at *
  generalize rootK s.d0.kind = x at *
  generalize rootK s.d1.kind = y at *
  generalize soundS s = so at *
  cases so
  · rw [cond_false, pxv_zero]
    refine PCall.of_awp tok mixed fn34 (Nat.le_of_ble_eq_true rfl) ?_
    (conv => whnf); (repeat' first | ((with_reducible refine Box.mk ?_); conv => whnf) | ((with_reducible refine And.intro (fun _ => ?_) (fun _ => ?_)) <;> conv => whnf) | ((with_reducible show ACall _ _ _ _ _); (refine ACall.of_pure (by assumption) (by rfl) ?_); conv => whnf) | ((with_reducible show Exists _); (refine ⟨_, ACall.of_pure (by assumption) (by rfl) ⟨rfl, rfl⟩, ?_⟩); conv => whnf) | ((with_reducible show ∃ L, drawR L _ = true ∧ _); (refine ⟨[], by kernel_rfl, ?_⟩); conv => whnf) | ((with_reducible show _ ∧ _ ∧ _); (refine ⟨by omega, by omega, ?_⟩); conv => whnf) | fail)
    refine aloop (fun c => c = 0) (fun c : Nat => ⟨envL [(1, .ptr 0 0), (2, .ptr 1 0), (3, .ptr 2 0), (4, .int .i64 c)], topH s a b x y c⟩) (fun _ => 0) 0 rfl (weak_to ⟨rfl, rfl, rfl, rfl, trivial⟩ rfl) ?_
    rintro c rfl
    (conv => whnf); (repeat' first | ((with_reducible refine Box.mk ?_); conv => whnf) | ((with_reducible refine And.intro (fun _ => ?_) (fun _ => ?_)) <;> conv => whnf) | ((with_reducible show ACall _ _ _ _ _); (refine ACall.of_pure (by assumption) (by rfl) ?_); conv => whnf) | ((with_reducible show Exists _); (refine ⟨_, ACall.of_pure (by assumption) (by rfl) ⟨rfl, rfl⟩, ?_⟩); conv => whnf) | ((with_reducible show ∃ L, drawR L _ = true ∧ _); (refine ⟨[], by kernel_rfl, ?_⟩); conv => whnf) | ((with_reducible show _ ∧ _ ∧ _); (refine ⟨by omega, by omega, ?_⟩); conv => whnf) | fail)
    all_goals first
      | contradiction
      | rfl
  · rw [cond_true]
    have hn := hn rfl
    have h1 := h1 rfl
    refine PCall.of_awp tok mixed fn34 (Nat.le_of_ble_eq_true rfl) ?_
    (conv => whnf); (repeat' first | ((with_reducible refine Box.mk ?_); conv => whnf) | ((with_reducible refine And.intro (fun _ => ?_) (fun _ => ?_)) <;> conv => whnf) | ((with_reducible show ACall _ _ _ _ _); (refine ACall.of_pure (by assumption) (by rfl) ?_); conv => whnf) | ((with_reducible show Exists _); (refine ⟨_, ACall.of_pure (by assumption) (by rfl) ⟨rfl, rfl⟩, ?_⟩); conv => whnf) | ((with_reducible show ∃ L, drawR L _ = true ∧ _); (refine ⟨[], by kernel_rfl, ?_⟩); conv => whnf) | ((with_reducible show _ ∧ _ ∧ _); (refine ⟨by omega, by omega, ?_⟩); conv => whnf) | fail)
    refine aloop (fun c : Nat => (c : Int) ≤ s.n) (fun c : Nat => ⟨envL [(1, .ptr 0 0), (2, .ptr 1 0), (3, .ptr 2 0), (4, .int .i64 c)], topH s a b x y c⟩) (fun c => 2 - c) 0 (by omega) (weak_to ⟨rfl, rfl, rfl, rfl, trivial⟩ rfl) ?_
    intro c hc
    have hc2 : c = 0 ∨ c = 1 ∨ c = 2 := by omega
    rcases hc2 with rfl | rfl | rfl
    all_goals (
      (conv => whnf); (repeat' first | ((with_reducible refine Box.mk ?_); conv => whnf) | ((with_reducible refine And.intro (fun _ => ?_) (fun _ => ?_)) <;> conv => whnf) | ((with_reducible show ACall _ _ _ _ _); (refine ACall.of_pure (by assumption) (by rfl) ?_); conv => whnf) | ((with_reducible show Exists _); (refine ⟨_, ACall.of_pure (by assumption) (by rfl) ⟨rfl, rfl⟩, ?_⟩); conv => whnf) | ((with_reducible show ∃ L, drawR L _ = true ∧ _); (refine ⟨[], by kernel_rfl, ?_⟩); conv => whnf) | ((with_reducible show _ ∧ _ ∧ _); (refine ⟨by omega, by omega, ?_⟩); conv => whnf) | fail)
      all_goals try contradiction
      all_goals try (exfalso; omega)
      all_goals first
        | exact ⟨1, by omega, by decide, weak_to ⟨rfl, rfl, rfl, rfl, trivial⟩ rfl⟩
        | exact ⟨2, by omega, by decide, weak_to ⟨rfl, rfl, rfl, rfl, trivial⟩ rfl⟩
        | rfl
        | (obtain ⟨hb, hy⟩ := h1 (by omega)
           subst hb hy
           show AV.agg (.int .i64 a :: .int .i64 0 :: (kcs x ++ kzs)) = AV.agg (.int .i64 a :: .int .i64 0 :: (kcs x ++ kcs zeroK))
           rw [kz]))
end Go.Proofs.YtoicobnbggkgbaaDoor
end

section
/- key: the statements on where keys meet and how they are ordered. -/
namespace Go.Proofs.YtoicobnbggkgbaaDoor
open Go.Ve

theorem meetK_len (a b : Ky) : (meetK a b).path.length ≤ 1048576 := by
  unfold meetK
  cases h : meetB a b
  · exact Nat.zero_le _
  · unfold meetB at h
    rw [Bool.and_eq_true, Bool.and_eq_true] at h
    have := cutU_len a (min (alikeK a b : Int) b.len)
    unfold cutU at this
    rw [h.1.1] at this
    exact this
theorem KeyMeets_ok (a b x : Ky) (ha : KOk 1048576 a) (hb : KOk 1048576 b) (hx : KOk 1048576 x) : PCall P 7 [kv a, kv b, kv x] (.bool true) := by
  have pa := ha.path
  have pb := hb.path
  have px := hx.path
  have pm := meetK_len a b
  have q1 := alive7_ok
  have q2 := meet_ok a b ha.n hb.n (by omega) (by omega)
  have q3 := meet_ok b a hb.n ha.n (by omega) (by omega)
  rw [meetK_comm hb.n ha.n, meetB_comm b a] at q3
  have q4 := keyRight_ok a ha.n (by omega)
  have q5 := keyRight_ok b hb.n (by omega)
  have q6 := over_ok x a hx.n ha.n (by omega) (by omega)
  have q7 := over_ok x b hx.n hb.n (by omega) (by omega)
  cases hm : meetB a b
  · have hz : meetK a b = zeroK := by rw [meetK, hm, cond_false]
    rw [hz, hm] at q2 q3
    clear q6 q7 pm
    unfold meetB at hm
    generalize rightK a = ra at *
    generalize rightK b = rb at *
    by_cases hk : a.kind = b.kind
    · rw [decide_eq_true hk] at hm
      cases ra <;> cases rb
      all_goals try exact absurd hm (by decide)
      all_goals (
        refine PCall.of_awp tok mixed fn7 (Nat.le_of_ble_eq_true rfl) ?_
        (conv => whnf); (repeat' first | ((with_reducible refine Box.mk ?_); conv => whnf) | ((with_reducible refine And.intro (fun _ => ?_) (fun _ => ?_)) <;> conv => whnf) | ((with_reducible show ACall _ _ _ _ _); (refine ACall.of_pure (by assumption) (by rfl) ?_); conv => whnf) | ((with_reducible show Exists _); (refine ⟨_, ACall.of_pure (by assumption) (by rfl) ⟨rfl, rfl⟩, ?_⟩); conv => whnf) | ((with_reducible show ∃ L, drawR L _ = true ∧ _); (refine ⟨[], by kernel_rfl, ?_⟩); conv => whnf) | ((with_reducible show _ ∧ _ ∧ _); (refine ⟨by omega, by omega, ?_⟩); conv => whnf) | fail)
        all_goals first
          | rfl
          | contradiction
          | (rename_i hbad; exact absurd (⟨rfl, rfl, rfl, rfl, rfl⟩ : _ ∧ _ ∧ _ ∧ _ ∧ _) hbad))
    · cases ra <;> cases rb
      all_goals (
        refine PCall.of_awp tok mixed fn7 (Nat.le_of_ble_eq_true rfl) ?_
        (conv => whnf); (repeat' first | ((with_reducible refine Box.mk ?_); conv => whnf) | ((with_reducible refine And.intro (fun _ => ?_) (fun _ => ?_)) <;> conv => whnf) | ((with_reducible show ACall _ _ _ _ _); (refine ACall.of_pure (by assumption) (by rfl) ?_); conv => whnf) | ((with_reducible show Exists _); (refine ⟨_, ACall.of_pure (by assumption) (by rfl) ⟨rfl, rfl⟩, ?_⟩); conv => whnf) | ((with_reducible show ∃ L, drawR L _ = true ∧ _); (refine ⟨[], by kernel_rfl, ?_⟩); conv => whnf) | ((with_reducible show _ ∧ _ ∧ _); (refine ⟨by omega, by omega, ?_⟩); conv => whnf) | fail)
        all_goals first
          | rfl
          | contradiction
          | (rename_i hbad; exact absurd (⟨rfl, rfl, rfl, rfl, rfl⟩ : _ ∧ _ ∧ _ ∧ _ ∧ _) hbad))
  · obtain ⟨m1, m2, m3, m4⟩ := meet_letters ha.n hb.n hm
    have q8 := over_ok (meetK a b) a m3 ha.n (by omega) (by omega)
    have q9 := over_ok (meetK a b) b m3 hb.n (by omega) (by omega)
    have q10 := over_ok x (meetK a b) hx.n m3 (by omega) (by omega)
    have e0 : overK (meetK a b) (meetK a b) = true := by rw [over_refl m3, m1]
    have e1 := over_meet ha.n hb.n m3 hm
    rw [e0, Bool.and_eq_true] at e1
    rw [e1.1] at q8
    rw [e1.2] at q9
    rw [← over_meet ha.n hb.n hx.n hm] at q10
    rw [hm] at q2 q3
    have hm' := hm
    unfold meetB at hm'
    rw [Bool.and_eq_true, Bool.and_eq_true] at hm'
    obtain ⟨⟨ra, rb⟩, hk⟩ := hm'
    have hk := of_decide_eq_true hk
    rw [ra] at q4
    rw [rb] at q5
    clear m1 m2 m3 m4 e0 e1 pm
    generalize overK x a = oa at *
    generalize overK x b = ob at *
    generalize meetK a b = mm at *
    cases oa <;> cases ob
    all_goals (
      first
        | rw [Bool.and_self] at q10
        | rw [Bool.and_false] at q10
        | rw [Bool.false_and] at q10
      refine PCall.of_awp tok mixed fn7 (Nat.le_of_ble_eq_true rfl) ?_
      (conv => whnf); (repeat' first | ((with_reducible refine Box.mk ?_); conv => whnf) | ((with_reducible refine And.intro (fun _ => ?_) (fun _ => ?_)) <;> conv => whnf) | ((with_reducible show ACall _ _ _ _ _); (refine ACall.of_pure (by assumption) (by rfl) ?_); conv => whnf) | ((with_reducible show Exists _); (refine ⟨_, ACall.of_pure (by assumption) (by rfl) ⟨rfl, rfl⟩, ?_⟩); conv => whnf) | ((with_reducible show ∃ L, drawR L _ = true ∧ _); (refine ⟨[], by kernel_rfl, ?_⟩); conv => whnf) | ((with_reducible show _ ∧ _ ∧ _); (refine ⟨by omega, by omega, ?_⟩); conv => whnf) | fail)
      all_goals first
        | rfl
        | contradiction
        | (rename_i hbad; exact absurd (⟨rfl, rfl, rfl, rfl, rfl⟩ : _ ∧ _ ∧ _ ∧ _ ∧ _) hbad))

theorem KeyBlock_ok (a b x : Ky) (ha : KOk 1048576 a) (hb : KOk 1048576 b) (hx : KOk 1048576 x) : PCall P 8 [kv a, kv b, kv x] (.bool true) := by
  have pa := ha.path
  have pb := hb.path
  have px := hx.path
  have q1 := alive7_ok
  have q2 := over_ok a b ha.n hb.n (by omega) (by omega)
  have q3 := over_ok a x ha.n hx.n (by omega) (by omega)
  have q4 := cmpK_ok a b
  have q5 := cmpK_ok a x
  have q6 := cmpK_ok x b
  have q7 := cmpK_ok a a
  have q8 := keyRight_ok x hx.n (by omega)
  rw [cmpK_self] at q7
  cases hab : overK a b
  · rw [hab] at q2
    refine PCall.of_awp tok mixed fn8 (Nat.le_of_ble_eq_true rfl) ?_
    clear q3 q4 q5 q6 q7 q8
    (conv => whnf); (repeat' first | ((with_reducible refine Box.mk ?_); conv => whnf) | ((with_reducible refine And.intro (fun _ => ?_) (fun _ => ?_)) <;> conv => whnf) | ((with_reducible show ACall _ _ _ _ _); (refine ACall.of_pure (by assumption) (by rfl) ?_); conv => whnf) | ((with_reducible show Exists _); (refine ⟨_, ACall.of_pure (by assumption) (by rfl) ⟨rfl, rfl⟩, ?_⟩); conv => whnf) | ((with_reducible show ∃ L, drawR L _ = true ∧ _); (refine ⟨[], by kernel_rfl, ?_⟩); conv => whnf) | ((with_reducible show _ ∧ _ ∧ _); (refine ⟨by omega, by omega, ?_⟩); conv => whnf) | fail)
    all_goals first
      | rfl
      | contradiction
  · rw [hab] at q2
    have e1 := cmpK_over ha.n hb.n hab
    have e2 : rightK x = true → cmpK a x ≤ 0 → cmpK x b ≤ 0 → overK a x = true := block_over ha.n hb.n hx.n hab
    by_cases hne : a = b
    · subst hne
      clear q4 e1
      generalize cmpK a x = c1 at *
      generalize cmpK x a = c2 at *
      generalize overK a x = o1 at *
      generalize rightK x = rx at *
      cases rx <;> cases o1
      all_goals (
        refine PCall.of_awp tok mixed fn8 (Nat.le_of_ble_eq_true rfl) ?_
        (conv => whnf); (repeat' first | ((with_reducible refine Box.mk ?_); conv => whnf) | ((with_reducible refine And.intro (fun _ => ?_) (fun _ => ?_)) <;> conv => whnf) | ((with_reducible show ACall _ _ _ _ _); (refine ACall.of_pure (by assumption) (by rfl) ?_); conv => whnf) | ((with_reducible show Exists _); (refine ⟨_, ACall.of_pure (by assumption) (by rfl) ⟨rfl, rfl⟩, ?_⟩); conv => whnf) | ((with_reducible show ∃ L, drawR L _ = true ∧ _); (refine ⟨[], by kernel_rfl, ?_⟩); conv => whnf) | ((with_reducible show _ ∧ _ ∧ _); (refine ⟨by omega, by omega, ?_⟩); conv => whnf) | fail)
        all_goals first
          | rfl
          | contradiction
          | (exact absurd (kv_eq.2 rfl) (by assumption))
          | (exact absurd (e2 rfl (by assumption) (by assumption)) (by decide)))
    · rw [e1 hne] at q4
      clear e1
      generalize cmpK a x = c1 at *
      generalize cmpK x b = c2 at *
      generalize overK a x = o1 at *
      generalize rightK x = rx at *
      cases rx <;> cases o1
      all_goals (
        refine PCall.of_awp tok mixed fn8 (Nat.le_of_ble_eq_true rfl) ?_
        (conv => whnf); (repeat' first | ((with_reducible refine Box.mk ?_); conv => whnf) | ((with_reducible refine And.intro (fun _ => ?_) (fun _ => ?_)) <;> conv => whnf) | ((with_reducible show ACall _ _ _ _ _); (refine ACall.of_pure (by assumption) (by rfl) ?_); conv => whnf) | ((with_reducible show Exists _); (refine ⟨_, ACall.of_pure (by assumption) (by rfl) ⟨rfl, rfl⟩, ?_⟩); conv => whnf) | ((with_reducible show ∃ L, drawR L _ = true ∧ _); (refine ⟨[], by kernel_rfl, ?_⟩); conv => whnf) | ((with_reducible show _ ∧ _ ∧ _); (refine ⟨by omega, by omega, ?_⟩); conv => whnf) | fail)
        all_goals first
          | rfl
          | contradiction
          | (exact absurd (kv_eq.1 (by assumption)) hne)
          | (exact absurd (e2 rfl (by assumption) (by assumption)) (by decide)))
/-! ### the document's order -/
theorem less_cb : ∀ (a b : Bs), Op.bytesLess a b = true ↔ Lib.compareBytes a b = -1
  | [], [] => by decide
  | [], _ :: _ => by simp [Op.bytesLess, Lib.compareBytes]
  | _ :: _, [] => by simp [Op.bytesLess, Lib.compareBytes]
  | c :: a, d :: b => by
    rw [Op.bytesLess, Lib.compareBytes, Bool.or_eq_true, Bool.and_eq_true, less_cb a b, decide_eq_true_iff, beq_iff_eq]
    by_cases h1 : c < d
    · simp [h1]
    · by_cases h2 : d < c
      · rw [if_neg h1, if_pos h2]
        refine ⟨fun h => ?_, fun h => by omega⟩
        rcases h with h | ⟨h, _⟩
        · exact absurd h h1
        · subst h; exact absurd h2 h1
      · rw [if_neg h1, if_neg h2]
        have e : c = d := UInt8.le_antisymm (UInt8.not_lt.1 h2) (UInt8.not_lt.1 h1)
        exact ⟨fun h => (h.resolve_left h1).2, fun h => .inr ⟨e, h⟩⟩
theorem cb_range : ∀ (a b : Bs), Lib.compareBytes a b = -1 ∨ (Lib.compareBytes a b = 0 ∧ a = b) ∨ Lib.compareBytes a b = 1
  | [], [] => .inr (.inl ⟨rfl, rfl⟩)
  | [], _ :: _ => .inl rfl
  | _ :: _, [] => .inr (.inr rfl)
  | c :: a, d :: b => by
    rw [Lib.compareBytes]
    by_cases h1 : c < d
    · rw [if_pos h1]; exact .inl rfl
    · by_cases h2 : d < c
      · rw [if_neg h1, if_pos h2]; exact .inr (.inr rfl)
      · rw [if_neg h1, if_neg h2]
        have e : c = d := UInt8.le_antisymm (UInt8.not_lt.1 h2) (UInt8.not_lt.1 h1)
        rcases cb_range a b with h | ⟨h, h'⟩ | h
        · exact .inl h
        · exact .inr (.inl ⟨h, by rw [e, h']⟩)
        · exact .inr (.inr h)
theorem cmpI_range (a b : Int) : (cmpI a b = -1 ∧ a < b) ∨ (cmpI a b = 0 ∧ a = b) ∨ (cmpI a b = 1 ∧ b < a) := by
  unfold cmpI
  by_cases h1 : a < b
  · rw [if_pos h1]; exact .inl ⟨rfl, h1⟩
  · by_cases h2 : b < a
    · rw [if_neg h1, if_pos h2]; exact .inr (.inr ⟨rfl, h2⟩)
    · rw [if_neg h1, if_neg h2]; exact .inr (.inl ⟨rfl, by omega⟩)
/-- The order, in the words of the document's answer. -/
theorem cmpK_cases (a b : Ky) : cmpK a b = if a = b then 0 else
    if a.kind < b.kind ∨ (a.kind = b.kind ∧ (((a.n / H64 : Nat) : Int) < ((b.n / H64 : Nat) : Int) ∨ (((a.n / H64 : Nat) : Int) = ((b.n / H64 : Nat) : Int) ∧ (((a.n % H64 : Nat) : Int) < ((b.n % H64 : Nat) : Int) ∨ (((a.n % H64 : Nat) : Int) = ((b.n % H64 : Nat) : Int) ∧ (Op.bytesLess a.path b.path = true ∨ (a.path = b.path ∧ a.len < b.len))))))) then -1 else 1 := by
  by_cases he : a = b
  · rw [if_pos he, he, cmpK_self]
  · rw [if_neg he]
    have hn := wcmp_cases a.n b.n
    have h1 := @half_lt a.n b.n
    have h2 := @half_lt b.n a.n
    have hs := less_cb a.path b.path
    have hne : ¬ (a.kind = b.kind ∧ a.n = b.n ∧ a.path = b.path ∧ a.len = b.len) := fun ⟨e1, e2, e3, e4⟩ => he (ky_ext e1 e4 e2 e3)
    unfold cmpK
    rcases cmpI_range a.kind b.kind with ⟨k1, k2⟩ | ⟨k1, k2⟩ | ⟨k1, k2⟩
    · rw [k1, orI, if_neg (by decide), if_pos (.inl k2)]
    · rw [k1, orI, if_pos rfl]
      rcases hn with ⟨n1, n2⟩ | ⟨n1, n2⟩ | ⟨n1, n2⟩
      · rw [n2, orI, if_neg (by decide), if_pos]
        rcases h1.1 n1 with h | ⟨h, h'⟩
        · exact .inr ⟨k2, .inl (by omega)⟩
        · exact .inr ⟨k2, .inr ⟨by omega, .inl (by omega)⟩⟩
      · rw [n2, orI, if_pos rfl]
        rcases cb_range a.path b.path with p1 | ⟨p1, p2⟩ | p1
        · rw [p1, orI, if_neg (by decide), if_pos]
          exact .inr ⟨k2, .inr ⟨by rw [n1], .inr ⟨by rw [n1], .inl (hs.2 p1)⟩⟩⟩
        · rw [p1, orI, if_pos rfl]
          rcases cmpI_range a.len b.len with ⟨l1, l2⟩ | ⟨l1, l2⟩ | ⟨l1, l2⟩
          · rw [l1, orI, if_neg (by decide), if_pos]
            exact .inr ⟨k2, .inr ⟨by rw [n1], .inr ⟨by rw [n1], .inr ⟨p2, l2⟩⟩⟩⟩
          · exact absurd ⟨k2, n1, p2, l2⟩ hne
          · rw [l1, orI, if_neg (by decide), if_neg]
            rintro (h | ⟨_, h | ⟨_, h | ⟨_, h | ⟨_, h⟩⟩⟩⟩)
            · omega
            · rw [n1] at h; omega
            · rw [n1] at h; omega
            · rw [hs, p1] at h; omega
            · omega
        · rw [p1, orI, if_neg (by decide), if_neg]
          rintro (h | ⟨_, h | ⟨_, h | ⟨_, h | ⟨h, _⟩⟩⟩⟩)
          · omega
          · rw [n1] at h; omega
          · rw [n1] at h; omega
          · rw [hs, p1] at h; omega
          · rw [h, cb_self] at p1; omega
      · rw [n2, orI, if_neg (by decide), if_neg]
        have h3 := h2.1 n1
        rintro (h | ⟨_, h | ⟨h, h' | ⟨h', _⟩⟩⟩) <;> omega
    · rw [k1, orI, if_neg (by decide), if_neg]
      rintro (h | ⟨h, _⟩) <;> omega
theorem rCmp_ok (a b : Ky) : PCall P 23 [kv a, kv b] (.int .i64 (cmpK a b)) := by
  rw [cmpK_cases]
  refine PCall.of_awp tok mixed fn23 (Nat.le_of_ble_eq_true rfl) ?_
  conv => whnf
  repeat' first | ((with_reducible refine Box.mk ?_); conv => whnf) | ((with_reducible refine And.intro (fun _ => ?_) (fun _ => ?_)) <;> conv => whnf) | fail
  all_goals (
    refine res1_eq (congrArg (AV.int .i64) ?_)
    first
      | rw [if_pos (kv_eq.1 (by assumption))]
      | (rw [if_neg (fun h => absurd (kv_eq.2 h) (by assumption)), if_pos]
         first
           | exact .inl (by assumption)
           | exact .inr ⟨by assumption, .inl (by assumption)⟩
           | exact .inr ⟨by assumption, .inr ⟨by assumption, .inl (by assumption)⟩⟩
           | exact .inr ⟨by assumption, .inr ⟨by assumption, .inr ⟨by assumption, .inl (by assumption)⟩⟩⟩
           | exact .inr ⟨by assumption, .inr ⟨by assumption, .inr ⟨by assumption, .inr ⟨by assumption, by assumption⟩⟩⟩⟩)
      | (rw [if_neg (fun h => absurd (kv_eq.2 h) (by assumption)), if_neg]
         rintro (h | ⟨h1, h | ⟨h2, h | ⟨h3, h | ⟨h4, h5⟩⟩⟩⟩) <;> contradiction))

theorem KeyOrders_ok (a b : Ky) : PCall P 4 [kv a, kv b] (.bool true) := by
  have q1 := alive7_ok
  have q2 := cmpK_ok a b
  have q3 := rCmp_ok a b
  generalize cmpK a b = c at *
  refine PCall.of_awp tok mixed fn4 (Nat.le_of_ble_eq_true rfl) ?_
  (conv => whnf); (repeat' first | ((with_reducible refine Box.mk ?_); conv => whnf) | ((with_reducible refine And.intro (fun _ => ?_) (fun _ => ?_)) <;> conv => whnf) | ((with_reducible show ACall _ _ _ _ _); (refine ACall.of_pure (by assumption) (by rfl) ?_); conv => whnf) | ((with_reducible show Exists _); (refine ⟨_, ACall.of_pure (by assumption) (by rfl) ⟨rfl, rfl⟩, ?_⟩); conv => whnf) | ((with_reducible show ∃ L, drawR L _ = true ∧ _); (refine ⟨[], by kernel_rfl, ?_⟩); conv => whnf) | ((with_reducible show _ ∧ _ ∧ _); (refine ⟨by omega, by omega, ?_⟩); conv => whnf) | fail)
  all_goals first
    | rfl
    | contradiction
    | (rename_i hbad; exact absurd rfl hbad)
end Go.Proofs.YtoicobnbggkgbaaDoor
end

section
/- prefix, plain laws: the one on a node, the crossing, the order. -/
namespace Go.Proofs.YtoicobnbggkgbaaDoor
open Go.Ve

theorem over_up {s : Sp} {p q : Px} : overP s q p = (rightP s q && rightP s p && decide (upP s p q.a0 q.a1 = q)) := by
  unfold overP
  cases hq : rightP s q
  · rfl
  · cases hp : rightP s p
    · rfl
    · rw [Bool.and_self, Bool.true_and, Bool.true_and, Bool.eq_iff_iff, decide_eq_true_iff, decide_eq_true_iff]
      refine ⟨fun h => h.2.2.symm, fun h => ?_⟩
      by_cases hc : p.a0 ≤ q.a0 ∧ p.a1 ≤ q.a1
      · exact ⟨hc.1, hc.2, h.symm⟩
      · have : upP s p q.a0 q.a1 = zeroP := by unfold upP; rw [decide_eq_false hc, Bool.and_false, cond_false]
        rw [this] at h
        rw [← h, zero_notright] at hq; cases hq
theorem right_top {s : Sp} {p : Px} (h : rightP s p = true) : p.a0 ≤ (topP s).a0 ∧ p.a1 ≤ (topP s).a1 := by
  unfold rightP at h
  rw [Bool.and_eq_true, Bool.and_eq_true] at h
  obtain ⟨⟨h1, h2⟩, h3⟩ := h
  unfold topP
  rw [h1, cond_true]
  refine ⟨(len_ok_iff.1 (onD_iff.1 h2).2.1).2.2, ?_⟩
  by_cases hn : s.n = 1
  · rw [decide_eq_true hn, cond_true] at h3
    rw [sound_one h1 hn, (of_decide_eq_true h3).1]
    show (0 : Int) ≤ depthD zeroD
    decide
  · rw [decide_eq_false hn, cond_false] at h3
    exact (len_ok_iff.1 (onD_iff.1 h3).2.1).2.2
theorem up_none {s : Sp} {p : Px} {i j : Int} (h : ¬ (rightP s p = true ∧ p.a0 ≤ i ∧ p.a1 ≤ j ∧ i ≤ (topP s).a0 ∧ j ≤ (topP s).a1)) : upP s p i j = zeroP := by
  by_cases hc : rightP s p = true ∧ p.a0 ≤ i ∧ p.a1 ≤ j
  · rw [up_eq hc.1 hc.2.1 hc.2.2]
    unfold orN
    cases hr : rightP s ⟨i, j, cutD s.d0 i p.k0, cutD s.d1 j p.k1⟩
    · rw [cond_false]
    · have := right_top hr
      exact absurd ⟨hc.1, hc.2.1, hc.2.2, this.1, this.2⟩ h
  · unfold upP
    have : (rightP s p && decide (p.a0 ≤ i ∧ p.a1 ≤ j)) = false := by
      cases hr : rightP s p
      · rfl
      · rw [Bool.true_and]; exact decide_eq_false fun h' => hc ⟨hr, h'⟩
    rw [this, cond_false]
theorem up_some {s : Sp} {p : Px} {i j : Int} (hp : POk p) (h : rightP s p = true ∧ p.a0 ≤ i ∧ p.a1 ≤ j ∧ i ≤ (topP s).a0 ∧ j ≤ (topP s).a1) :
    (upP s p i j).a0 = i ∧ (upP s p i j).a1 = j ∧ overP s (upP s p i j) p = true := by
  obtain ⟨hr, h1, h2, h3, h4⟩ := h
  obtain ⟨g1, g2, g3⟩ := (rightP_iff hp).1 hr
  have hb := right_bounds hr
  have hc := hp.cut s.d0 s.d1 i j
  have hO : overP s ⟨i, j, cutD s.d0 i p.k0, cutD s.d1 j p.k1⟩ p = true := by
    unfold topP at h3 h4
    rw [g1, cond_true] at h3 h4
    have h3 : i ≤ depthD s.d0 := h3
    have h4 : j ≤ depthD s.d1 := h4
    refine (over_iffP hc hp).2 ⟨g1, RD.of_cut g2.1 ?_ h1, ?_⟩
    · exact len_ok_iff.2 ⟨(len_ok_iff.1 (onD_iff.1 g2.1).2.1).1, (show (0 : Int) ≤ i by omega), h3⟩
    · unfold R1 at g3 ⊢
      by_cases hn : s.n = 1
      · rw [if_pos hn] at g3 ⊢
        have hz := sound_one g1 hn
        rw [hz] at h4
        have hd : depthD zeroD = 0 := by decide
        rw [hd] at h4
        refine ⟨by show j = 0; omega, ?_, g3.1, g3.2.1⟩
        show cutD s.d1 j p.k1 = zeroK
        rw [hz]; unfold cutD; rw [if_pos (.inl (by rw [lenD_zero]; decide))]
      · rw [if_neg hn] at g3 ⊢
        exact RD.of_cut g3.1 (len_ok_iff.2 ⟨(len_ok_iff.1 (onD_iff.1 g3.1).2.1).1, (show (0 : Int) ≤ j by omega), h4⟩) h2
  have hR : rightP s ⟨i, j, cutD s.d0 i p.k0, cutD s.d1 j p.k1⟩ = true := by
    have := hO; unfold overP at this; rw [Bool.and_eq_true, Bool.and_eq_true] at this; exact this.1.1
  have e : upP s p i j = ⟨i, j, cutD s.d0 i p.k0, cutD s.d1 j p.k1⟩ := by rw [up_eq hr h1 h2, orN, hR, cond_true]
  rw [e]; exact ⟨rfl, rfl, hO⟩

/-! ### the crossing -/
section
variable {R : Int → Ky → Int → Ky → Prop} {a b c : Int} {k x y : Ky}
def pkA (a b : Int) : Int := if b < a then b else a
def pkK (a : Int) (k : Ky) (b : Int) (x : Ky) : Ky := if b < a then x else k
theorem pk_sym (hR : DirOk R) (hk : k.n < 2 ^ 128) (h2 : R b x (pkA a b) (pkK a k b x)) : pkA a b = pkA b a ∧ pkK a k b x = pkK b x a k := by
  unfold pkA pkK at *
  by_cases g1 : b < a
  · rw [if_pos g1, if_pos g1, if_neg (by omega), if_neg (by omega)]; exact ⟨rfl, rfl⟩
  · rw [if_neg g1, if_neg g1] at *
    by_cases g2 : a < b
    · rw [if_pos g2, if_pos g2]; exact ⟨rfl, rfl⟩
    · have e : a = b := by omega
      subst e
      rw [if_neg g2, if_neg g2]
      exact ⟨rfl, (hR.same hk h2).symm⟩
theorem pk_both (hR : DirOk R) (hy : y.n < 2 ^ 128) (hk : k.n < 2 ^ 128) (hx : x.n < 2 ^ 128) (h1 : R a k c y) (h2 : R b x c y) : R a k (pkA a b) (pkK a k b x) ∧ R b x (pkA a b) (pkK a k b x) ∧ R (pkA a b) (pkK a k b x) c y := by
  unfold pkA pkK
  by_cases g1 : b < a
  · rw [if_pos g1, if_pos g1]
    exact ⟨hR.chain hy h1 h2 (by omega), hR.l hx h2, h2⟩
  · rw [if_neg g1, if_neg g1]
    exact ⟨hR.l hk h1, hR.chain hy h2 h1 (by omega), h1⟩
end
theorem crossX_eq {s : Sp} {p q : Px} (hp : rightP s p = true) (hq : rightP s q = true) : crossX s p q = ⟨pkA p.a0 q.a0, pkA p.a1 q.a1, pkK p.a0 p.k0 q.a0 q.k0, pkK p.a1 p.k1 q.a1 q.k1⟩ := by
  have hs : soundS s = true := by unfold rightP at hp; rw [Bool.and_eq_true, Bool.and_eq_true] at hp; exact hp.1.1
  unfold crossX
  have c0 : ∀ {α : Type} (x y : α), (bif decide (q.a0 < p.a0) then x else y) = if q.a0 < p.a0 then x else y := fun x y => by
    by_cases h : q.a0 < p.a0
    · rw [decide_eq_true h, cond_true, if_pos h]
    · rw [decide_eq_false h, cond_false, if_neg h]
  have c1 : ∀ {α : Type} (x y : α), (bif decide (q.a1 < p.a1) then x else y) = if q.a1 < p.a1 then x else y := fun x y => by
    by_cases h : q.a1 < p.a1
    · rw [decide_eq_true h, cond_true, if_pos h]
    · rw [decide_eq_false h, cond_false, if_neg h]
  rcases sound_n hs with hn | hn
  · rw [hn]
    show xAt _ _ p q 1 = _
    unfold rightP at hp hq
    rw [decide_eq_true hn, cond_true, Bool.and_eq_true] at hp hq
    have e1 := of_decide_eq_true hp.2
    have e2 := of_decide_eq_true hq.2
    show (⟨bif decide (q.a0 < p.a0) then q.a0 else p.a0, p.a1, bif decide (q.a0 < p.a0) then q.k0 else p.k0, p.k1⟩ : Px) = _
    rw [c0, c0]
    unfold pkA pkK
    rw [if_neg (show ¬ q.a1 < p.a1 by omega), if_neg (show ¬ q.a1 < p.a1 by omega)]
  · rw [hn]
    show xAt _ _ p q 2 = _
    show (⟨bif decide (q.a0 < p.a0) then q.a0 else p.a0, bif decide (q.a1 < p.a1) then q.a1 else p.a1, bif decide (q.a0 < p.a0) then q.k0 else p.k0, bif decide (q.a1 < p.a1) then q.k1 else p.k1⟩ : Px) = _
    rw [c0, c0, c1, c1]; rfl
theorem pick_ok {p q : Px} (hp : POk p) (hq : POk q) : POk ⟨pkA p.a0 q.a0, pkA p.a1 q.a1, pkK p.a0 p.k0 q.a0 q.k0, pkK p.a1 p.k1 q.a1 q.k1⟩ := by
  refine ⟨?_, ?_, ?_, ?_⟩
  · show (pkK _ _ _ _).n < _; unfold pkK; split <;> first | exact hq.n0 | exact hp.n0
  · show (pkK _ _ _ _).n < _; unfold pkK; split <;> first | exact hq.n1 | exact hp.n1
  · show (pkK _ _ _ _).path.length ≤ _; unfold pkK; split <;> first | exact hq.p0 | exact hp.p0
  · show (pkK _ _ _ _).path.length ≤ _; unfold pkK; split <;> first | exact hq.p1 | exact hp.p1
theorem cross_some {s : Sp} {p q : Px} (hp : POk p) (hq : POk q) (h : crossB s p q = true) : crossB s q p = true ∧ crossP s p q = crossP s q p ∧ overP s p (crossP s p q) = true ∧ overP s q (crossP s p q) = true := by
  have h' := h
  unfold crossB at h'
  rw [Bool.and_eq_true, Bool.and_eq_true, Bool.and_eq_true] at h'
  obtain ⟨⟨⟨rp, rq⟩, o1⟩, o2⟩ := h'
  have e := crossX_eq rp rq
  have e' := crossX_eq rq rp
  rw [e] at o1 o2
  obtain ⟨_, b0, b1⟩ := (over_iffP hq (pick_ok hp hq)).1 o2
  obtain ⟨m0, m1⟩ := pk_sym (dirD _) hp.n0 b0
  obtain ⟨n0, n1⟩ := pk_sym (dir1 s) hp.n1 b1
  have ex : crossX s q p = crossX s p q := by rw [e, e', m0, m1, n0, n1]
  have hB : crossB s q p = true := by unfold crossB; rw [rp, rq, ex, e, o1, o2]; rfl
  refine ⟨hB, ?_, ?_, ?_⟩
  · unfold crossP; rw [h, hB, cond_true, cond_true, ex]
  · unfold crossP; rw [h, cond_true, e]; exact o1
  · unfold crossP; rw [h, cond_true, e]; exact o2
theorem cross_comm {s : Sp} {p q : Px} (hp : POk p) (hq : POk q) : crossB s p q = crossB s q p ∧ crossP s p q = crossP s q p := by
  cases h : crossB s p q
  · cases h2 : crossB s q p
    · exact ⟨rfl, by unfold crossP; rw [h, h2, cond_false, cond_false]⟩
    · rw [(cross_some hq hp h2).1] at h; cases h
  · obtain ⟨h1, h2, _⟩ := cross_some hp hq h
    exact ⟨h1.symm, h2⟩
theorem cross_both {s : Sp} {p q x : Px} (hp : POk p) (hq : POk q) (hx : POk x) (h1 : overP s p x = true) (h2 : overP s q x = true) : crossB s p q = true ∧ overP s (crossP s p q) x = true := by
  obtain ⟨s1, a0, a1⟩ := (over_iffP hp hx).1 h1
  obtain ⟨_, b0, b1⟩ := (over_iffP hq hx).1 h2
  obtain ⟨c0, d0, e0⟩ := pk_both (dirD _) hx.n0 hp.n0 hq.n0 a0 b0
  obtain ⟨c1, d1, e1⟩ := pk_both (dir1 s) hx.n1 hp.n1 hq.n1 a1 b1
  have rp : rightP s p = true := (rightP_iff hp).2 ⟨s1, (dirD _).l hp.n0 a0, (dir1 s).l hp.n1 a1⟩
  have rq : rightP s q = true := (rightP_iff hq).2 ⟨s1, (dirD _).l hq.n0 b0, (dir1 s).l hq.n1 b1⟩
  have e := crossX_eq rp rq
  have hB : crossB s p q = true := by
    unfold crossB
    rw [rp, rq, e, (over_iffP hp (pick_ok hp hq)).2 ⟨s1, c0, c1⟩, (over_iffP hq (pick_ok hp hq)).2 ⟨s1, d0, d1⟩]; rfl
  refine ⟨hB, ?_⟩
  unfold crossP
  rw [hB, cond_true, e]
  exact (over_iffP (pick_ok hp hq) hx).2 ⟨s1, e0, e1⟩
theorem crossP_ok {s : Sp} {p q : Px} (hp : POk p) (hq : POk q) : POk (crossP s p q) := by
  unfold crossP
  cases crossB s p q
  · exact ⟨Nat.two_pow_pos 128, Nat.two_pow_pos 128, Nat.zero_le _, Nat.zero_le _⟩
  · exact xAt_ok hp hq _
/-- Whatever both are over, the crossing is over, and the other way round. -/
theorem cross_over {s : Sp} {p q x : Px} (hp : POk p) (hq : POk q) (hx : POk x) (h : crossB s p q = true) : (overP s p x && overP s q x) = overP s (crossP s p q) x := by
  obtain ⟨_, _, h1, h2⟩ := cross_some hp hq h
  have hc := @crossP_ok s p q hp hq
  rw [Bool.eq_iff_iff, Bool.and_eq_true]
  exact ⟨fun g => (cross_both hp hq hx g.1 g.2).2, fun g => ⟨over_transP hp hc hx h1 g, over_transP hq hc hx h2 g⟩⟩
end Go.Proofs.YtoicobnbggkgbaaDoor
end

section
/- prefix, the document's answer: Over, Up; and the statements that they serve. -/
namespace Go.Proofs.YtoicobnbggkgbaaDoor
open Go.Ve

theorem up_over {s : Sp} {p : Px} (i j : Int) : upP s p i j = bif overP s ⟨i, j, cutD s.d0 i p.k0, cutD s.d1 j p.k1⟩ p then ⟨i, j, cutD s.d0 i p.k0, cutD s.d1 j p.k1⟩ else zeroP := by
  cases h : overP s ⟨i, j, cutD s.d0 i p.k0, cutD s.d1 j p.k1⟩ p
  · rw [cond_false]
    by_cases hc : rightP s p = true ∧ p.a0 ≤ i ∧ p.a1 ≤ j
    · rw [up_eq hc.1 hc.2.1 hc.2.2]
      unfold orN
      cases hr : rightP s ⟨i, j, cutD s.d0 i p.k0, cutD s.d1 j p.k1⟩
      · rfl
      · exfalso
        have : overP s ⟨i, j, cutD s.d0 i p.k0, cutD s.d1 j p.k1⟩ p = true := by
          unfold overP
          rw [hr, hc.1, Bool.and_self, Bool.true_and]
          refine decide_eq_true ⟨hc.2.1, hc.2.2, ?_⟩
          show _ = upP s p i j
          rw [up_eq hc.1 hc.2.1 hc.2.2, orN, hr, cond_true]
        rw [h] at this; cases this
    · unfold upP
      have : (rightP s p && decide (p.a0 ≤ i ∧ p.a1 ≤ j)) = false := by
        cases hr : rightP s p
        · rfl
        · rw [Bool.true_and]; exact decide_eq_false fun h' => hc ⟨hr, h'⟩
      rw [this, cond_false]
  · rw [cond_true]
    have h' := h
    unfold overP at h'
    rw [Bool.and_eq_true, Bool.and_eq_true] at h'
    exact (of_decide_eq_true h'.2).2.2.symm
theorem over_dims {s : Sp} {p q : Px} (hp : POk p) (hq : POk q) (rp : rightP s p = true) (rq : rightP s q = true) :
    overP s p q = true ↔ (q.a0 ≤ p.a0 ∧ p.k0 = cutD s.d0 p.a0 q.k0) ∧ (s.n = 2 → q.a1 ≤ p.a1 ∧ p.k1 = cutD s.d1 p.a1 q.k1) := by
  rw [over_iffP hp hq]
  obtain ⟨s1, p0, p1⟩ := (rightP_iff hp).1 rp
  obtain ⟨_, q0, q1⟩ := (rightP_iff hq).1 rq
  refine ⟨fun ⟨_, h0, h1⟩ => ⟨⟨h0.2.2.1, h0.2.2.2⟩, fun hn => ?_⟩, fun ⟨h0, h1⟩ => ⟨s1, ⟨p0.1, q0.1, h0.1, h0.2⟩, ?_⟩⟩
  · unfold R1 at h1
    rw [if_neg (by omega)] at h1
    exact ⟨h1.2.2.1, h1.2.2.2⟩
  · unfold R1 at p1 q1 ⊢
    by_cases hn : s.n = 1
    · rw [if_pos hn] at p1 q1 ⊢
      exact ⟨p1.1, p1.2.1, q1.1, q1.2.1⟩
    · rw [if_neg hn] at p1 q1 ⊢
      have h2 := h1 (by have := sound_n s1; omega)
      exact ⟨p1.1, q1.1, h2.1, h2.2⟩
theorem r9Over_ok (s : Sp) (p q : Px) (hp : POk p) (hq : POk q) : PCall P 40 [spv s, pxv p, pxv q] (.bool (overP s p q)) := by
  have p0 := hp.p0
  have p1 := hp.p1
  have w0 := hq.p0
  have w1 := hq.p1
  have q1 := r9Right_ok s p hp
  have q2 := r9Right_ok s q hq
  have q3 := r8Cut_ok s.d0 p.a0 q.k0 hq.n0 (by omega)
  have q4 := r8Cut_ok s.d1 p.a1 q.k1 hq.n1 (by omega)
  cases rp : rightP s p
  · have e : overP s p q = false := by unfold overP; rw [rp]; rfl
    rw [e]
    rw [rp] at q1
    generalize rightP s q = rq at *
    cases rq
    all_goals (
      refine PCall.of_awp tok mixed fn40 (Nat.le_of_ble_eq_true rfl) ?_
      (conv => whnf); (repeat' first | ((with_reducible refine Box.mk ?_); conv => whnf) | ((with_reducible refine And.intro (fun _ => ?_) (fun _ => ?_)) <;> conv => whnf) | ((with_reducible show ACall _ _ _ _ _); (refine ACall.of_pure (by assumption) (by rfl) ?_); conv => whnf) | ((with_reducible show Exists _); (refine ⟨_, ACall.of_pure (by assumption) (by rfl) ⟨rfl, rfl⟩, ?_⟩); conv => whnf) | ((with_reducible show _ ∧ _ ∧ _); (refine ⟨by omega, by omega, ?_⟩); conv => whnf) | fail)
      all_goals first
        | contradiction
        | rfl)
  · cases rq : rightP s q
    · have e : overP s p q = false := by unfold overP; rw [rp, rq]; rfl
      rw [e]
      rw [rp] at q1
      rw [rq] at q2
      refine PCall.of_awp tok mixed fn40 (Nat.le_of_ble_eq_true rfl) ?_
      (conv => whnf); (repeat' first | ((with_reducible refine Box.mk ?_); conv => whnf) | ((with_reducible refine And.intro (fun _ => ?_) (fun _ => ?_)) <;> conv => whnf) | ((with_reducible show ACall _ _ _ _ _); (refine ACall.of_pure (by assumption) (by rfl) ?_); conv => whnf) | ((with_reducible show Exists _); (refine ⟨_, ACall.of_pure (by assumption) (by rfl) ⟨rfl, rfl⟩, ?_⟩); conv => whnf) | ((with_reducible show _ ∧ _ ∧ _); (refine ⟨by omega, by omega, ?_⟩); conv => whnf) | fail)
      all_goals first
        | contradiction
        | rfl
    · have hn : s.n = 1 ∨ s.n = 2 := sound_n ((rightP_iff hp).1 rp).1
      have ho := over_dims hp hq rp rq
      have no : ¬ ((q.a0 ≤ p.a0 ∧ p.k0 = cutD s.d0 p.a0 q.k0) ∧ (s.n = 2 → q.a1 ≤ p.a1 ∧ p.k1 = cutD s.d1 p.a1 q.k1)) → AV.bool false = AV.bool (overP s p q) := fun h => by
        cases h2 : overP s p q with
        | false => rfl
        | true => exact absurd (ho.1 h2) h
      have yes : ((q.a0 ≤ p.a0 ∧ p.k0 = cutD s.d0 p.a0 q.k0) ∧ (s.n = 2 → q.a1 ≤ p.a1 ∧ p.k1 = cutD s.d1 p.a1 q.k1)) → AV.bool true = AV.bool (overP s p q) := fun h => by rw [ho.2 h]
      rw [rp] at q1
      rw [rq] at q2
      clear ho
      generalize cutD s.d0 p.a0 q.k0 = x at *
      generalize cutD s.d1 p.a1 q.k1 = y at *
      refine PCall.of_awp tok mixed fn40 (Nat.le_of_ble_eq_true rfl) ?_
      (conv => whnf); (repeat' first | ((with_reducible refine Box.mk ?_); conv => whnf) | ((with_reducible refine And.intro (fun _ => ?_) (fun _ => ?_)) <;> conv => whnf) | ((with_reducible show ACall _ _ _ _ _); (refine ACall.of_pure (by assumption) (by rfl) ?_); conv => whnf) | ((with_reducible show Exists _); (refine ⟨_, ACall.of_pure (by assumption) (by rfl) ⟨rfl, rfl⟩, ?_⟩); conv => whnf) | ((with_reducible show ∃ L, drawR L _ = true ∧ _); (refine ⟨[], by kernel_rfl, ?_⟩); conv => whnf) | ((with_reducible show _ ∧ _ ∧ _); (refine ⟨by omega, by omega, ?_⟩); conv => whnf) | fail)
      all_goals try contradiction
      refine aloop (fun c : Nat => (c : Int) ≤ s.n ∧ (0 < c → q.a0 ≤ p.a0 ∧ p.k0 = x) ∧ (1 < c → q.a1 ≤ p.a1 ∧ p.k1 = y)) (fun c : Nat => ⟨envL [(3, .ptr 0 0), (4, .ptr 1 0), (5, .ptr 2 0), (6, .bool false), (7, .int .i64 c)], [.box 44 (scs s), .box 48 (pcs p), .box 48 (pcs q)]⟩)
        (fun c => 2 - c) 0 ⟨by omega, fun h => by omega, fun h => by omega⟩ (weak_to ⟨rfl, rfl, rfl, rfl, rfl, trivial⟩ rfl) ?_
      rintro c ⟨hc, g0, g1⟩
      have hc2 : c = 0 ∨ c = 1 ∨ c = 2 := by omega
      rcases hc2 with rfl | rfl | rfl
      · (conv => whnf); (repeat' first | ((with_reducible refine Box.mk ?_); conv => whnf) | ((with_reducible refine And.intro (fun _ => ?_) (fun _ => ?_)) <;> conv => whnf) | ((with_reducible show ACall _ _ _ _ _); (refine ACall.of_pure (by assumption) (by rfl) ?_); conv => whnf) | ((with_reducible show Exists _); (refine ⟨_, ACall.of_pure (by assumption) (by rfl) ⟨rfl, rfl⟩, ?_⟩); conv => whnf) | ((with_reducible show ∃ L, drawR L _ = true ∧ _); (refine ⟨[], by kernel_rfl, ?_⟩); conv => whnf) | ((with_reducible show _ ∧ _ ∧ _); (refine ⟨by omega, by omega, ?_⟩); conv => whnf) | fail)
        all_goals try contradiction
        all_goals try (exfalso; omega)
        all_goals first
          | exact no fun h => by omega
          | exact no fun h => absurd (kv_eq.2 h.1.2) (by assumption)
          | exact ⟨1, ⟨by omega, fun _ => ⟨by omega, kv_eq.1 (by assumption)⟩, fun h => by omega⟩, by decide, weak_to ⟨rfl, rfl, rfl, rfl, rfl, trivial⟩ rfl⟩
      · have k0 := g0 (by omega)
        (conv => whnf); (repeat' first | ((with_reducible refine Box.mk ?_); conv => whnf) | ((with_reducible refine And.intro (fun _ => ?_) (fun _ => ?_)) <;> conv => whnf) | ((with_reducible show ACall _ _ _ _ _); (refine ACall.of_pure (by assumption) (by rfl) ?_); conv => whnf) | ((with_reducible show Exists _); (refine ⟨_, ACall.of_pure (by assumption) (by rfl) ⟨rfl, rfl⟩, ?_⟩); conv => whnf) | ((with_reducible show ∃ L, drawR L _ = true ∧ _); (refine ⟨[], by kernel_rfl, ?_⟩); conv => whnf) | ((with_reducible show _ ∧ _ ∧ _); (refine ⟨by omega, by omega, ?_⟩); conv => whnf) | fail)
        all_goals try contradiction
        all_goals first
          | exact no fun h => by have := h.2 (by omega); omega
          | exact no fun h => absurd (kv_eq.2 (h.2 (by omega)).2) (by assumption)
          | exact ⟨2, ⟨by omega, fun _ => k0, fun _ => ⟨by omega, kv_eq.1 (by assumption)⟩⟩, by decide, weak_to ⟨rfl, rfl, rfl, rfl, rfl, trivial⟩ rfl⟩
          | exact yes ⟨k0, fun h => by omega⟩
      · have k0 := g0 (by omega)
        have k1 := g1 (by omega)
        (conv => whnf); (repeat' first | ((with_reducible refine Box.mk ?_); conv => whnf) | ((with_reducible refine And.intro (fun _ => ?_) (fun _ => ?_)) <;> conv => whnf) | ((with_reducible show ACall _ _ _ _ _); (refine ACall.of_pure (by assumption) (by rfl) ?_); conv => whnf) | ((with_reducible show Exists _); (refine ⟨_, ACall.of_pure (by assumption) (by rfl) ⟨rfl, rfl⟩, ?_⟩); conv => whnf) | ((with_reducible show ∃ L, drawR L _ = true ∧ _); (refine ⟨[], by kernel_rfl, ?_⟩); conv => whnf) | ((with_reducible show _ ∧ _ ∧ _); (refine ⟨by omega, by omega, ?_⟩); conv => whnf) | fail)
        all_goals try contradiction
        all_goals try (exfalso; omega)
        all_goals exact yes ⟨k0, fun _ => k1⟩
end Go.Proofs.YtoicobnbggkgbaaDoor
end

section
/- prefix, the document's answer: Up. -/
namespace Go.Proofs.YtoicobnbggkgbaaDoor
open Go.Ve

theorem r9Up_ok (s : Sp) (p : Px) (i j : Int) (hp : POk p) : PCall P 38 [spv s, pxv p, .agg [.int .i64 i, .int .i64 j]] (pxv (upP s p i j)) := by
  have p0 := hp.p0
  have p1 := hp.p1
  have q2 := r8Cut_ok s.d0 i p.k0 hp.n0 (by omega)
  have q3 := r8Cut_ok s.d1 j p.k1 hp.n1 (by omega)
  have q4 := r9Over_ok s _ p (hp.cut s.d0 s.d1 i j) hp
  rw [up_over]
  generalize cutD s.d0 i p.k0 = x at *
  generalize cutD s.d1 j p.k1 = y at *
  generalize overP s ⟨i, j, x, y⟩ p = o at *
  refine PCall.of_awp tok mixed fn38 (Nat.le_of_ble_eq_true rfl) ?_
  (conv => whnf); (repeat' first | ((with_reducible refine Box.mk ?_); conv => whnf) | ((with_reducible refine And.intro (fun _ => ?_) (fun _ => ?_)) <;> conv => whnf) | ((with_reducible show ACall _ _ _ _ _); (refine ACall.of_pure (by assumption) (by rfl) ?_); conv => whnf) | ((with_reducible show Exists _); (refine ⟨_, ACall.of_pure (by assumption) (by rfl) ⟨rfl, rfl⟩, ?_⟩); conv => whnf) | ((with_reducible show ∃ L, drawR L _ = true ∧ _); (refine ⟨[], by kernel_rfl, ?_⟩); conv => whnf) | ((with_reducible show _ ∧ _ ∧ _); (refine ⟨by omega, by omega, ?_⟩); conv => whnf) | fail)
  refine aloop (fun c => c ≤ 2) (fun c : Nat => ⟨envL [(3, .ptr 0 0), (4, .ptr 1 0), (5, .ptr 2 0), (6, .ptr 3 0), (7, .ptr 4 0), (8, .int .i64 c)], upH s p i j x y c⟩)
    (fun c => 2 - c) 0 (by omega) (weak_to ⟨rfl, rfl, rfl, rfl, rfl, rfl, trivial⟩ rfl) ?_
  intro c hc
  have hc : c = 0 ∨ c = 1 ∨ c = 2 := by omega
  rcases hc with rfl | rfl | rfl
  · (conv => whnf); (repeat' first | ((with_reducible refine Box.mk ?_); conv => whnf) | ((with_reducible refine And.intro (fun _ => ?_) (fun _ => ?_)) <;> conv => whnf) | ((with_reducible show ACall _ _ _ _ _); (refine ACall.of_pure (by assumption) (by rfl) ?_); conv => whnf) | ((with_reducible show Exists _); (refine ⟨_, ACall.of_pure (by assumption) (by rfl) ⟨rfl, rfl⟩, ?_⟩); conv => whnf) | ((with_reducible show ∃ L, drawR L _ = true ∧ _); (refine ⟨[], by kernel_rfl, ?_⟩); conv => whnf) | ((with_reducible show _ ∧ _ ∧ _); (refine ⟨by omega, by omega, ?_⟩); conv => whnf) | fail)
    all_goals try contradiction
    all_goals first
      | exact ⟨1, by omega, by decide, weak_to ⟨rfl, rfl, rfl, rfl, rfl, rfl, trivial⟩ rfl⟩
      | (exfalso; omega)
  · (conv => whnf); (repeat' first | ((with_reducible refine Box.mk ?_); conv => whnf) | ((with_reducible refine And.intro (fun _ => ?_) (fun _ => ?_)) <;> conv => whnf) | ((with_reducible show ACall _ _ _ _ _); (refine ACall.of_pure (by assumption) (by rfl) ?_); conv => whnf) | ((with_reducible show Exists _); (refine ⟨_, ACall.of_pure (by assumption) (by rfl) ⟨rfl, rfl⟩, ?_⟩); conv => whnf) | ((with_reducible show ∃ L, drawR L _ = true ∧ _); (refine ⟨[], by kernel_rfl, ?_⟩); conv => whnf) | ((with_reducible show _ ∧ _ ∧ _); (refine ⟨by omega, by omega, ?_⟩); conv => whnf) | fail)
    all_goals try contradiction
    all_goals first
      | exact ⟨2, by omega, by decide, weak_to ⟨rfl, rfl, rfl, rfl, rfl, rfl, trivial⟩ rfl⟩
      | (exfalso; omega)
  · cases o
    · rw [cond_false, pxv_zero]
      (conv => whnf); (repeat' first | ((with_reducible refine Box.mk ?_); conv => whnf) | ((with_reducible refine And.intro (fun _ => ?_) (fun _ => ?_)) <;> conv => whnf) | ((with_reducible show ACall _ _ _ _ _); (refine ACall.of_pure (by assumption) (by rfl) ?_); conv => whnf) | ((with_reducible show Exists _); (refine ⟨_, ACall.of_pure (by assumption) (by rfl) ⟨rfl, rfl⟩, ?_⟩); conv => whnf) | ((with_reducible show ∃ L, drawR L _ = true ∧ _); (refine ⟨[], by kernel_rfl, ?_⟩); conv => whnf) | ((with_reducible show _ ∧ _ ∧ _); (refine ⟨by omega, by omega, ?_⟩); conv => whnf) | fail)
      all_goals try contradiction
      all_goals first
        | rfl
        | (exfalso; omega)
    · rw [cond_true]
      (conv => whnf); (repeat' first | ((with_reducible refine Box.mk ?_); conv => whnf) | ((with_reducible refine And.intro (fun _ => ?_) (fun _ => ?_)) <;> conv => whnf) | ((with_reducible show ACall _ _ _ _ _); (refine ACall.of_pure (by assumption) (by rfl) ?_); conv => whnf) | ((with_reducible show Exists _); (refine ⟨_, ACall.of_pure (by assumption) (by rfl) ⟨rfl, rfl⟩, ?_⟩); conv => whnf) | ((with_reducible show ∃ L, drawR L _ = true ∧ _); (refine ⟨[], by kernel_rfl, ?_⟩); conv => whnf) | ((with_reducible show _ ∧ _ ∧ _); (refine ⟨by omega, by omega, ?_⟩); conv => whnf) | fail)
      all_goals try contradiction
      all_goals first
        | rfl
        | (exfalso; omega)
end Go.Proofs.YtoicobnbggkgbaaDoor
end

section
/- prefix, plain laws: the order is one. -/
namespace Go.Proofs.YtoicobnbggkgbaaDoor
open Go.Ve

structure TO {α : Type} (c : α → α → Int) : Prop where
  neg : ∀ a b, c a b = -c b a
  rng : ∀ a b, -1 ≤ c a b ∧ c a b ≤ 1
  tr : ∀ a b d, c a b ≤ 0 → c b d ≤ 0 → c a d ≤ 0
section
variable {α β : Type} {c c1 c2 : α → α → Int}
theorem TO.strict (h : TO c) {a b d : α} (h1 : c a b < 0) (h2 : c b d ≤ 0) : c a d < 0 := by
  rcases Int.lt_or_le (c a d) 0 with h3 | h3
  · exact h3
  · have e1 := h.neg a d
    have e2 := h.tr b d a h2 (by omega)
    have e3 := h.neg a b
    omega
theorem TO.strict' (h : TO c) {a b d : α} (h1 : c a b ≤ 0) (h2 : c b d < 0) : c a d < 0 := by
  rcases Int.lt_or_le (c a d) 0 with h3 | h3
  · exact h3
  · have e1 := h.neg a d
    have e2 := h.tr d a b (by omega) h1
    have e3 := h.neg b d
    omega
theorem TO.zero (h : TO c) {a b d : α} (h1 : c a b = 0) (h2 : c b d = 0) : c a d = 0 := by
  have e1 := h.tr a b d (by omega) (by omega)
  have e2 := h.neg a b
  have e3 := h.neg b d
  have e4 := h.tr d b a (by omega) (by omega)
  have e5 := h.neg a d
  omega
theorem TO.lx (h1 : TO c1) (h2 : TO c2) : TO (fun a b => if c1 a b = 0 then c2 a b else c1 a b) := by
  refine ⟨fun a b => ?_, fun a b => ?_, fun a b d k1 k2 => ?_⟩
  · have e1 := h1.neg a b
    have e2 := h2.neg a b
    show (if c1 a b = 0 then c2 a b else c1 a b) = -(if c1 b a = 0 then c2 b a else c1 b a)
    split <;> split <;> omega
  · have e1 := h1.rng a b
    have e2 := h2.rng a b
    show -1 ≤ (if c1 a b = 0 then c2 a b else c1 a b) ∧ (if c1 a b = 0 then c2 a b else c1 a b) ≤ 1
    split <;> omega
  · have k1 : (if c1 a b = 0 then c2 a b else c1 a b) ≤ 0 := k1
    have k2 : (if c1 b d = 0 then c2 b d else c1 b d) ≤ 0 := k2
    show (if c1 a d = 0 then c2 a d else c1 a d) ≤ 0
    by_cases g1 : c1 a b = 0
    · rw [if_pos g1] at k1
      by_cases g2 : c1 b d = 0
      · rw [if_pos g2] at k2
        rw [if_pos (h1.zero g1 g2)]
        exact h2.tr a b d k1 k2
      · rw [if_neg g2] at k2
        have := h1.strict' (a := a) (b := b) (d := d) (by omega) (by omega)
        rw [if_neg (by omega)]; omega
    · rw [if_neg g1] at k1
      have hb : c1 b d ≤ 0 := by
        by_cases g2 : c1 b d = 0
        · omega
        · rw [if_neg g2] at k2; exact k2
      have := h1.strict (a := a) (b := b) (d := d) (by omega) hb
      rw [if_neg (by omega)]; omega
theorem TO.comap (h : TO c) (f : β → α) : TO (fun a b => c (f a) (f b)) := ⟨fun _ _ => h.neg _ _, fun _ _ => h.rng _ _, fun _ _ _ => h.tr _ _ _⟩
end
theorem to_cmpI : TO cmpI := by
  refine ⟨fun a b => ?_, fun a b => ?_, fun a b d h1 h2 => ?_⟩
  · unfold cmpI; split <;> split <;> (try split) <;> (try split) <;> omega
  · unfold cmpI; split <;> (try split) <;> omega
  · rw [cmpI_le] at *; omega
theorem to_wcmp : TO wcmp := by
  refine ⟨fun a b => ?_, fun a b => ?_, fun a b d h1 h2 => ?_⟩
  · rcases wcmp_cases a b with ⟨h, e⟩ | ⟨h, e⟩ | ⟨h, e⟩ <;> rcases wcmp_cases b a with ⟨h', e'⟩ | ⟨h', e'⟩ | ⟨h', e'⟩ <;> rw [e, e'] <;> omega
  · rcases wcmp_cases a b with ⟨h, e⟩ | ⟨h, e⟩ | ⟨h, e⟩ <;> rw [e] <;> omega
  · rcases wcmp_cases a b with ⟨h, e⟩ | ⟨h, e⟩ | ⟨h, e⟩ <;> rcases wcmp_cases b d with ⟨h', e'⟩ | ⟨h', e'⟩ | ⟨h', e'⟩ <;> rcases wcmp_cases a d with ⟨h2', e2⟩ | ⟨h2', e2⟩ | ⟨h2', e2⟩ <;> rw [e] at h1 <;> rw [e'] at h2 <;> rw [e2] <;> omega
theorem cb_neg : ∀ (a b : Bs), Lib.compareBytes a b = -Lib.compareBytes b a
  | [], [] => rfl
  | [], _ :: _ => rfl
  | _ :: _, [] => rfl
  | x :: a, y :: b => by
    have ih := cb_neg a b
    rw [Lib.compareBytes, Lib.compareBytes]
    by_cases h1 : x < y
    · rw [if_pos h1, if_neg (UInt8.lt_asymm h1), if_pos h1]
    · by_cases h2 : y < x
      · rw [if_neg h1, if_pos h2, if_pos h2]; rfl
      · rw [if_neg h1, if_neg h2, if_neg h2, if_neg h1, ih]
theorem cb_tr : ∀ (a b d : Bs), Lib.compareBytes a b ≤ 0 → Lib.compareBytes b d ≤ 0 → Lib.compareBytes a d ≤ 0
  | [], _, [], _, _ => by decide
  | [], _, _ :: _, _, _ => by rw [Lib.compareBytes]; decide
  | _ :: _, [], _, h, _ => by rw [Lib.compareBytes] at h; omega
  | _ :: _, _ :: _, [], _, h => by rw [Lib.compareBytes] at h; omega
  | x :: a, y :: b, z :: d, h1, h2 => by
    have ih := cb_tr a b d
    rw [Lib.compareBytes] at h1 h2 ⊢
    have hx : ∀ {u v : UInt8}, u < v ↔ u.toNat < v.toNat := fun {u v} => Iff.rfl
    simp only [hx] at h1 h2 ⊢
    by_cases g1 : x.toNat < y.toNat
    · by_cases g2 : y.toNat < z.toNat
      · rw [if_pos (by omega)]; decide
      · by_cases g3 : z.toNat < y.toNat
        · rw [if_neg g2, if_pos g3] at h2; omega
        · rw [if_pos (by omega)]; decide
    · by_cases g1' : y.toNat < x.toNat
      · rw [if_neg g1, if_pos g1'] at h1; omega
      · rw [if_neg g1, if_neg g1'] at h1
        by_cases g2 : y.toNat < z.toNat
        · rw [if_pos (by omega)]; decide
        · by_cases g3 : z.toNat < y.toNat
          · rw [if_neg g2, if_pos g3] at h2; omega
          · rw [if_neg g2, if_neg g3] at h2
            rw [if_neg (by omega), if_neg (by omega)]
            exact ih h1 h2
theorem to_cb : TO Lib.compareBytes := ⟨cb_neg, fun a b => by rcases cb_range a b with h | ⟨h, _⟩ | h <;> omega, cb_tr⟩
theorem to_cmpK : TO cmpK := by
  have h := (to_cmpI.comap Ky.kind).lx ((to_wcmp.comap Ky.n).lx ((to_cb.comap Ky.path).lx (to_cmpI.comap Ky.len)))
  have e : cmpK = fun a b => if cmpI a.kind b.kind = 0 then (if wcmp a.n b.n = 0 then (if Lib.compareBytes a.path b.path = 0 then cmpI a.len b.len else Lib.compareBytes a.path b.path) else wcmp a.n b.n) else cmpI a.kind b.kind := by
    funext a b
    unfold cmpK
    rw [orI, orI, orI, orI]
    by_cases h : cmpI a.len b.len = 0
    · rw [if_pos h, h]; rfl
    · rw [if_neg h]
  rw [e]; exact h
theorem cmpK_zero {a b : Ky} (h : cmpK a b = 0) : a = b := by
  rw [cmpK_cases] at h
  by_cases e : a = b
  · exact e
  · rw [if_neg e] at h
    split at h <;> omega
def lexP (p q : Px) : Int := if (if cmpI p.a0 q.a0 = 0 then cmpI p.a1 q.a1 else cmpI p.a0 q.a0) = 0 then (if cmpK p.k0 q.k0 = 0 then cmpK p.k1 q.k1 else cmpK p.k0 q.k0) else (if cmpI p.a0 q.a0 = 0 then cmpI p.a1 q.a1 else cmpI p.a0 q.a0)
theorem to_lexP : TO lexP := ((to_cmpI.comap Px.a0).lx (to_cmpI.comap Px.a1)).lx ((to_cmpK.comap Px.k0).lx (to_cmpK.comap Px.k1))
theorem or2 (x y : Int) : orI [x, y] = if x = 0 then y else x := by
  rw [orI, orI]
  by_cases h : y = 0
  · rw [if_pos h, h]; rfl
  · rw [if_neg h]
theorem cmpP_lex (p q : Px) : cmpP p q = lexP p q := by
  unfold cmpP
  by_cases h : p = q
  · rw [if_pos h, h]
    unfold lexP
    rw [cmpI_eq.2 rfl, cmpI_eq.2 rfl, cmpK_self, cmpK_self]
    rfl
  · rw [if_neg h, orI, or2, or2]; rfl
theorem to_cmpP : TO cmpP := by
  have e : cmpP = lexP := by funext p q; exact cmpP_lex p q
  rw [e]; exact to_lexP
theorem cmpP_zero {p q : Px} : cmpP p q = 0 ↔ p = q := by
  refine ⟨fun h => ?_, fun h => by unfold cmpP; rw [if_pos h]⟩
  rw [cmpP_lex] at h
  unfold lexP at h
  by_cases h0 : cmpI p.a0 q.a0 = 0
  · rw [if_pos h0] at h
    by_cases h1 : cmpI p.a1 q.a1 = 0
    · rw [if_pos h1] at h
      by_cases h2 : cmpK p.k0 q.k0 = 0
      · rw [if_pos h2] at h
        exact px_ext (cmpI_eq.1 h0) (cmpI_eq.1 h1) (cmpK_zero h2) (cmpK_zero h)
      · rw [if_neg h2] at h; exact absurd h h2
    · rw [if_neg h1] at h; exact absurd h h1
  · rw [if_neg h0, if_neg h0] at h; exact absurd h h0
end Go.Proofs.YtoicobnbggkgbaaDoor
end

section
/- prefix, the document's answer: Cmp. -/
namespace Go.Proofs.YtoicobnbggkgbaaDoor
open Go.Ve

theorem r9less_ok (b : Bool) : PCall P 76 [.bool b] (.int .i64 (bif b then -1 else 1)) := by
  cases b
  all_goals (
    refine PCall.of_awp tok mixed fn76 (Nat.le_of_ble_eq_true rfl) ?_
    (conv => whnf); (repeat' first | ((with_reducible refine Box.mk ?_); conv => whnf) | ((with_reducible refine And.intro (fun _ => ?_) (fun _ => ?_)) <;> conv => whnf) | ((with_reducible show ACall _ _ _ _ _); (refine ACall.of_pure (by assumption) (by rfl) ?_); conv => whnf) | ((with_reducible show Exists _); (refine ⟨_, ACall.of_pure (by assumption) (by rfl) ⟨rfl, rfl⟩, ?_⟩); conv => whnf) | ((with_reducible show ∃ L, drawR L _ = true ∧ _); (refine ⟨[], by kernel_rfl, ?_⟩); conv => whnf) | ((with_reducible show _ ∧ _ ∧ _); (refine ⟨by omega, by omega, ?_⟩); conv => whnf) | fail)
    rfl)
theorem cmpI_one {a b : Int} (h : b < a) : cmpI a b = 1 := by unfold cmpI; rw [if_neg (by omega), if_pos h]
theorem cp1 {p q : Px} (h : p.a0 < q.a0) : cmpP p q = -1 := by rw [cmpP_lex, lexP, cmpI_neg h]; rfl
theorem cp2 {p q : Px} (h : q.a0 < p.a0) : cmpP p q = 1 := by rw [cmpP_lex, lexP, cmpI_one h]; rfl
theorem cp3 {p q : Px} (h0 : p.a0 = q.a0) (h : p.a1 < q.a1) : cmpP p q = -1 := by rw [cmpP_lex, lexP, cmpI_eq.2 h0, cmpI_neg h]; rfl
theorem cp4 {p q : Px} (h0 : p.a0 = q.a0) (h : q.a1 < p.a1) : cmpP p q = 1 := by rw [cmpP_lex, lexP, cmpI_eq.2 h0, cmpI_one h]; rfl
theorem cp5 {p q : Px} (h0 : p.a0 = q.a0) (h1 : p.a1 = q.a1) (h : p.k0 ≠ q.k0) : cmpP p q = cmpK p.k0 q.k0 := by
  rw [cmpP_lex, lexP, cmpI_eq.2 h0, cmpI_eq.2 h1, if_pos rfl, if_pos rfl, if_neg (fun e => h (cmpK_zero e))]
theorem cp6 {p q : Px} (h0 : p.a0 = q.a0) (h1 : p.a1 = q.a1) (h : p.k0 = q.k0) : cmpP p q = cmpK p.k1 q.k1 := by
  rw [cmpP_lex, lexP, cmpI_eq.2 h0, cmpI_eq.2 h1, if_pos rfl, if_pos rfl, h, cmpK_self, if_pos rfl]
theorem r9Cmp_ok (p q : Px) : PCall P 44 [pxv p, pxv q] (.int .i64 (cmpP p q)) := by
  have c1 := r9less_ok true
  have c2 := r9less_ok false
  have c3 := rCmp_ok p.k0 q.k0
  have c4 := rCmp_ok p.k1 q.k1
  refine PCall.of_awp tok mixed fn44 (Nat.le_of_ble_eq_true rfl) ?_
  (conv => whnf); (repeat' first | ((with_reducible refine Box.mk ?_); conv => whnf) | ((with_reducible refine And.intro (fun _ => ?_) (fun _ => ?_)) <;> conv => whnf) | ((with_reducible show ACall _ _ _ _ _); (refine ACall.of_pure (by assumption) (by rfl) ?_); conv => whnf) | ((with_reducible show Exists _); (refine ⟨_, ACall.of_pure (by assumption) (by rfl) ⟨rfl, rfl⟩, ?_⟩); conv => whnf) | ((with_reducible show ∃ L, drawR L _ = true ∧ _); (refine ⟨[], by kernel_rfl, ?_⟩); conv => whnf) | ((with_reducible show _ ∧ _ ∧ _); (refine ⟨by omega, by omega, ?_⟩); conv => whnf) | fail)
  all_goals first
    | (rw [cp1 (by omega)]; rfl)
    | (rw [cp2 (by omega)]; rfl)
    | (rw [cp3 (by omega) (by omega)]; rfl)
    | (rw [cp4 (by omega) (by omega)]; rfl)
    | (rw [cp5 (by omega) (by omega) (fun e => absurd (kv_eq.2 e) (by assumption))]; rfl)
    | (rw [cp6 (by omega) (by omega) (kv_eq.1 (by assumption))]; rfl)
end Go.Proofs.YtoicobnbggkgbaaDoor
end

section
/- prefix: what must come of fixed calls. -/
namespace Go.Proofs.YtoicobnbggkgbaaDoor
open Go.Ve

def dA : Dm := ⟨1, 1, 8⟩
def dB : Dm := ⟨1, 2, 8⟩
def sF : Sp := ⟨2, dA, dB⟩
def ky (a : Nat) : Ky := ⟨1, 32, a * 2 ^ 96, []⟩
theorem four_okL : PCall P 73 [] (spv sF) := by
  refine PCall.of_awp tok mixed fn73 (Nat.le_of_ble_eq_true rfl) ?_
  (conv => whnf); (repeat' first | ((with_reducible refine Box.mk ?_); conv => whnf) | ((with_reducible refine And.intro (fun _ => ?_) (fun _ => ?_)) <;> conv => whnf) | ((with_reducible show ACall _ _ _ _ _); (refine ACall.of_pure (by assumption) (by rfl) ?_); conv => whnf) | ((with_reducible show Exists _); (refine ⟨_, ACall.of_pure (by assumption) (by rfl) ⟨rfl, rfl⟩, ?_⟩); conv => whnf) | ((with_reducible show ∃ L, drawR L _ = true ∧ _); (refine ⟨[], by kernel_rfl, ?_⟩); conv => whnf) | ((with_reducible show _ ∧ _ ∧ _); (refine ⟨by omega, by omega, ?_⟩); conv => whnf) | fail)
  rfl
def pF : Px := ⟨0, 0, ⟨1, 32, 167837953 * 2 ^ 96, []⟩, ⟨1, 32, 3232235777 * 2 ^ 96, []⟩⟩
def aF : Px := ⟨3, 4, ⟨1, 8, 10 * 2 ^ 120, []⟩, ⟨1, 0, 0, []⟩⟩
def bF : Px := ⟨4, 2, ⟨1, 0, 0, []⟩, ⟨1, 16, 49320 * 2 ^ 112, []⟩⟩
def xF : Px := ⟨3, 2, ⟨1, 8, 10 * 2 ^ 120, []⟩, ⟨1, 16, 49320 * 2 ^ 112, []⟩⟩
def tF : Px := ⟨4, 4, ⟨1, 0, 0, []⟩, ⟨1, 0, 0, []⟩⟩
theorem kp0 {p : Px} (h1 : p.k0.n < 2 ^ 128) (h2 : p.k1.n < 2 ^ 128) (h3 : p.k0.path = []) (h4 : p.k1.path = []) : POk p := ⟨h1, h2, by rw [h3]; exact Nat.zero_le _, by rw [h4]; exact Nat.zero_le _⟩
theorem pF_ok : POk pF := kp0 (by decide) (by decide) rfl rfl
theorem aF_ok : POk aF := kp0 (by decide) (by decide) rfl rfl
theorem bF_ok : POk bF := kp0 (by decide) (by decide) rfl rfl
theorem xF_ok : POk xF := kp0 (by decide) (by decide) rfl rfl
theorem tF_ok : POk tF := kp0 (by decide) (by decide) rfl rfl
theorem alive9_ok : PCall P 35 [] (.bool true) := by
  have c0 := four_okL
  have c1 := pEq (four_ok 167837953 (by decide)) (show _ = kv pF.k0 from rfl)
  have c2 := pEq (four_ok 3232235777 (by decide)) (show _ = kv pF.k1 from rfl)
  have c3 := pEq (leaf_ok sF pF.k0 pF.k1 pF_ok) (show _ = AV.tup [pxv pF, .bool true] by kernel_rfl)
  have c4 := pEq (up_ok sF pF 3 4 pF_ok) (show _ = pxv aF by kernel_rfl)
  have c5 := pEq (up_ok sF pF 4 2 pF_ok) (show _ = pxv bF by kernel_rfl)
  have c6 := pEq (cross_ok sF aF bF aF_ok bF_ok) (show _ = AV.tup [pxv xF, .bool true] by kernel_rfl)
  have c7 := pEq (four_ok 1 (by decide)) (show _ = kv (ky 1) from rfl)
  have c8 := pEq (leaf_ok sF (ky 1) zeroK (kp0 (by decide) (by decide) rfl rfl)) (show _ = AV.tup [pxv zeroP, .bool false] by kernel_rfl)
  have c9 := pEq (top_okP sF) (show _ = pxv tF by kernel_rfl)
  have d1 := pEq (sound_ok sF) (show _ = AV.bool true by kernel_rfl)
  have d2 := pEq (sound_ok ⟨3, dA, dB⟩) (show _ = AV.bool false by kernel_rfl)
  have d3 := pEq (up_ok sF pF 3 2 pF_ok) (show _ = pxv xF by kernel_rfl)
  have d4 := pEq (height_ok sF xF xF_ok) (show _ = AV.int .i64 5 by kernel_rfl)
  have d5 := pEq (pOver_ok sF tF pF tF_ok pF_ok) (show _ = AV.bool true by kernel_rfl)
  have d6 := pEq (pOver_ok sF pF tF pF_ok tF_ok) (show _ = AV.bool false by kernel_rfl)
  have d7 := pEq (pCmp_ok pF tF) (show _ = AV.int .i64 (-1) by kernel_rfl)
  have d8 := pEq (pRight_ok sF xF xF_ok) (show _ = AV.bool true by kernel_rfl)
  refine PCall.of_awp tok mixed fn35 (Nat.le_of_ble_eq_true rfl) ?_
  (conv => whnf); (repeat' first | ((with_reducible refine Box.mk ?_); conv => whnf) | ((with_reducible refine And.intro (fun _ => ?_) (fun _ => ?_)) <;> conv => whnf) | ((with_reducible show ACall _ _ _ _ _); (refine ACall.of_pure (by assumption) (by rfl) ?_); conv => whnf) | ((with_reducible show Exists _); (refine ⟨_, ACall.of_pure (by assumption) (by rfl) ⟨rfl, rfl⟩, ?_⟩); conv => whnf) | ((with_reducible show _ ∧ _ ∧ _); (refine ⟨by omega, by omega, ?_⟩); conv => whnf) | fail)
  refine ⟨[(7, [0, 1, 2, 3])], by kernel_rfl, ?_⟩
  (conv => whnf); (repeat' first | ((with_reducible refine Box.mk ?_); conv => whnf) | ((with_reducible refine And.intro (fun _ => ?_) (fun _ => ?_)) <;> conv => whnf) | ((with_reducible show ACall _ _ _ _ _); (refine ACall.of_pure (by assumption) (by rfl) ?_); conv => whnf) | ((with_reducible show Exists _); (refine ⟨_, ACall.of_pure (by assumption) (by rfl) ⟨rfl, rfl⟩, ?_⟩); conv => whnf) | ((with_reducible show _ ∧ _ ∧ _); (refine ⟨by omega, by omega, ?_⟩); conv => whnf) | fail)
  (refine And.intro ?_ ?_); (focus ((conv => whnf); (repeat' first | exact trivial | ((refine And.intro ?_ ?_); (focus ((conv => whnf); (first | exact ⟨rfl, rfl⟩ | exact ⟨by decide, by decide, rfl, rfl⟩ | ((refine ACall.of_pure (by assumption) (by rfl) ?_); (refine And.intro ?_ ?_ <;> rfl))))); (conv => whnf)))))
  (conv => whnf); (repeat' first | ((with_reducible refine Box.mk ?_); conv => whnf) | ((with_reducible refine And.intro (fun _ => ?_) (fun _ => ?_)) <;> conv => whnf) | ((with_reducible show ACall _ _ _ _ _); (refine ACall.of_pure (by assumption) (by rfl) ?_); conv => whnf) | ((with_reducible show Exists _); (refine ⟨_, ACall.of_pure (by assumption) (by rfl) ⟨rfl, rfl⟩, ?_⟩); conv => whnf) | ((with_reducible show _ ∧ _ ∧ _); (refine ⟨by omega, by omega, ?_⟩); conv => whnf) | fail)
  refine ⟨[(8, [0, 1, 3, 4, 5, 7]), (9, [0, 1, 3, 4, 5, 7]), (1008, [])], by kernel_rfl, ?_⟩
  (conv => whnf); (repeat' first | ((with_reducible refine Box.mk ?_); conv => whnf) | ((with_reducible refine And.intro (fun _ => ?_) (fun _ => ?_)) <;> conv => whnf) | ((with_reducible show ACall _ _ _ _ _); (refine ACall.of_pure (by assumption) (by rfl) ?_); conv => whnf) | ((with_reducible show Exists _); (refine ⟨_, ACall.of_pure (by assumption) (by rfl) ⟨rfl, rfl⟩, ?_⟩); conv => whnf) | ((with_reducible show _ ∧ _ ∧ _); (refine ⟨by omega, by omega, ?_⟩); conv => whnf) | fail)
  (refine And.intro ?_ ?_); (focus ((conv => whnf); (repeat' first | exact trivial | ((refine And.intro ?_ ?_); (focus ((conv => whnf); (first | exact ⟨rfl, rfl⟩ | exact ⟨by decide, by decide, rfl, rfl⟩ | ((refine ACall.of_pure (by assumption) (by rfl) ?_); (refine And.intro ?_ ?_ <;> rfl))))); (conv => whnf)))))
  (conv => whnf); (repeat' first | ((with_reducible refine Box.mk ?_); conv => whnf) | ((with_reducible refine And.intro (fun _ => ?_) (fun _ => ?_)) <;> conv => whnf) | ((with_reducible show ACall _ _ _ _ _); (refine ACall.of_pure (by assumption) (by rfl) ?_); conv => whnf) | ((with_reducible show Exists _); (refine ⟨_, ACall.of_pure (by assumption) (by rfl) ⟨rfl, rfl⟩, ?_⟩); conv => whnf) | ((with_reducible show _ ∧ _ ∧ _); (refine ⟨by omega, by omega, ?_⟩); conv => whnf) | fail)
  (refine And.intro ?_ ?_); (focus ((conv => whnf); (repeat' first | exact trivial | ((refine And.intro ?_ ?_); (focus ((conv => whnf); (first | exact ⟨rfl, rfl⟩ | exact ⟨by decide, by decide, rfl, rfl⟩ | ((refine ACall.of_pure (by assumption) (by rfl) ?_); (refine And.intro ?_ ?_ <;> rfl))))); (conv => whnf)))))
  (conv => whnf); (repeat' first | ((with_reducible refine Box.mk ?_); conv => whnf) | ((with_reducible refine And.intro (fun _ => ?_) (fun _ => ?_)) <;> conv => whnf) | ((with_reducible show ACall _ _ _ _ _); (refine ACall.of_pure (by assumption) (by rfl) ?_); conv => whnf) | ((with_reducible show Exists _); (refine ⟨_, ACall.of_pure (by assumption) (by rfl) ⟨rfl, rfl⟩, ?_⟩); conv => whnf) | ((with_reducible show _ ∧ _ ∧ _); (refine ⟨by omega, by omega, ?_⟩); conv => whnf) | fail)
  refine ⟨[(7, [0, 1, 3])], by kernel_rfl, ?_⟩
  (conv => whnf); (repeat' first | ((with_reducible refine Box.mk ?_); conv => whnf) | ((with_reducible refine And.intro (fun _ => ?_) (fun _ => ?_)) <;> conv => whnf) | ((with_reducible show ACall _ _ _ _ _); (refine ACall.of_pure (by assumption) (by rfl) ?_); conv => whnf) | ((with_reducible show Exists _); (refine ⟨_, ACall.of_pure (by assumption) (by rfl) ⟨rfl, rfl⟩, ?_⟩); conv => whnf) | ((with_reducible show _ ∧ _ ∧ _); (refine ⟨by omega, by omega, ?_⟩); conv => whnf) | fail)
  (refine And.intro ?_ ?_); (focus ((conv => whnf); (repeat' first | exact trivial | ((refine And.intro ?_ ?_); (focus ((conv => whnf); (first | exact ⟨rfl, rfl⟩ | exact ⟨by decide, by decide, rfl, rfl⟩ | ((refine ACall.of_pure (by assumption) (by rfl) ?_); (refine And.intro ?_ ?_ <;> rfl))))); (conv => whnf)))))
  (conv => whnf); (repeat' first | ((with_reducible refine Box.mk ?_); conv => whnf) | ((with_reducible refine And.intro (fun _ => ?_) (fun _ => ?_)) <;> conv => whnf) | ((with_reducible show ACall _ _ _ _ _); (refine ACall.of_pure (by assumption) (by rfl) ?_); conv => whnf) | ((with_reducible show Exists _); (refine ⟨_, ACall.of_pure (by assumption) (by rfl) ⟨rfl, rfl⟩, ?_⟩); conv => whnf) | ((with_reducible show ∃ L, drawR L _ = true ∧ _); (refine ⟨[], by kernel_rfl, ?_⟩); conv => whnf) | ((with_reducible show _ ∧ _ ∧ _); (refine ⟨by omega, by omega, ?_⟩); conv => whnf) | fail)
  all_goals first
    | rfl
    | contradiction
    | skip
  all_goals trace_state
end Go.Proofs.YtoicobnbggkgbaaDoor
end

section
/- prefix: arguments read as data. -/
namespace Go.Proofs.YtoicobnbggkgbaaDoor
open Go.Ve

theorem dim_wf {B : Nat} {xs : List AV} (h : Wf ty B 41 xs) : ∃ d : Dm, xs = [.int .i64 d.kind, .int .i64 d.side, .int .i64 d.step] := by
  have h0 := h.struct_inv rfl
  obtain ⟨x1, r1, rfl, hk, h1⟩ := h0.cons_inv
  obtain ⟨x2, r2, rfl, hl, h2⟩ := h1.cons_inv
  obtain ⟨x3, r3, rfl, ha, h3⟩ := h2.cons_inv
  obtain rfl := h3.nil_inv
  obtain ⟨a, rfl, _⟩ := hk.int_inv rfl
  obtain ⟨b, rfl, _⟩ := hl.int_inv rfl
  obtain ⟨c, rfl, _⟩ := ha.int_inv rfl
  exact ⟨⟨a, b, c⟩, rfl⟩
theorem space_inv {B : Nat} {x : AV} (h : WfV ty B 44 x) : ∃ s : Sp, x = spv s := by
  obtain ⟨xs, rfl, h0⟩ := h.struct_inv rfl
  obtain ⟨x1, r1, rfl, hk, h1⟩ := h0.cons_inv
  obtain ⟨x2, r2, rfl, hl, h2⟩ := h1.cons_inv
  obtain rfl := h2.nil_inv
  obtain ⟨n, rfl, _⟩ := hk.int_inv rfl
  have h3 := hl.arr_inv (n := 2) rfl
  obtain ⟨y1, q1, rfl, g1, h4⟩ := h3.cons_inv
  obtain ⟨y2, q2, rfl, g2, h5⟩ := h4.cons_inv
  obtain rfl := h5.nil_inv
  obtain ⟨d0, rfl⟩ := dim_wf g1
  obtain ⟨d1, rfl⟩ := dim_wf g2
  exact ⟨⟨n, d0, d1⟩, rfl⟩
theorem prefix_inv {x : AV} (h : WfV ty 1048576 48 x) : ∃ p : Px, x = pxv p ∧ POk p := by
  obtain ⟨xs, rfl, h0⟩ := h.struct_inv rfl
  obtain ⟨x1, r1, rfl, hk, h1⟩ := h0.cons_inv
  obtain ⟨x2, r2, rfl, hl, h2⟩ := h1.cons_inv
  obtain rfl := h2.nil_inv
  have h3 := hk.arr_inv (n := 2) rfl
  obtain ⟨y1, q1, rfl, g1, h4⟩ := h3.cons_inv
  obtain ⟨y2, q2, rfl, g2, h5⟩ := h4.cons_inv
  obtain rfl := h5.nil_inv
  obtain ⟨a0, rfl, _⟩ := g1.int_inv rfl
  obtain ⟨a1, rfl, _⟩ := g2.int_inv rfl
  have h6 := hl.arr_inv (n := 2) rfl
  obtain ⟨z1, s1, rfl, k1, h7⟩ := h6.cons_inv
  obtain ⟨z2, s2, rfl, k2, h8⟩ := h7.cons_inv
  obtain rfl := h8.nil_inv
  obtain ⟨k0, rfl, m0⟩ := key_wf k1
  obtain ⟨k1, rfl, m1⟩ := key_wf k2
  exact ⟨⟨a0, a1, k0, k1⟩, rfl, m0.n, m1.n, m0.path, m1.path⟩
end Go.Proofs.YtoicobnbggkgbaaDoor
end

section
/- prefix: the statements on what is told and on the prefix over another. -/
namespace Go.Proofs.YtoicobnbggkgbaaDoor
open Go.Ve

theorem px_same (p : Px) : p.a0 = p.a0 ∧ p.a1 = p.a1 ∧ p.k0.kind = p.k0.kind ∧ p.k0.len = p.k0.len ∧ ((p.k0.n / H64 : Nat) : Int) = ((p.k0.n / H64 : Nat) : Int) ∧ ((p.k0.n % H64 : Nat) : Int) = ((p.k0.n % H64 : Nat) : Int) ∧ p.k0.path = p.k0.path ∧
    p.k1.kind = p.k1.kind ∧ p.k1.len = p.k1.len ∧ ((p.k1.n / H64 : Nat) : Int) = ((p.k1.n / H64 : Nat) : Int) ∧ ((p.k1.n % H64 : Nat) : Int) = ((p.k1.n % H64 : Nat) : Int) ∧ p.k1.path = p.k1.path := ⟨rfl, rfl, rfl, rfl, rfl, rfl, rfl, rfl, rfl, rfl, rfl, rfl⟩
set_option maxHeartbeats 4000000 in
theorem PrefixTells_ok (s : Sp) (p : Px) (hp : POk p) : PCall P 10 [spv s, pxv p] (.bool true) := by
  have hl : POk (leafP p.k0 p.k1) := ⟨hp.n0, hp.n1, hp.p0, hp.p1⟩
  have q1 := alive9_ok
  have q2 := leaf_ok s p.k0 p.k1 hl
  have q3 := r9Leaf_ok s p.k0 p.k1 hl
  have q4 := sound_ok s
  have q5 := r9Sound_ok s
  have q6 := pRight_ok s p hp
  have q7 := r9Right_ok s p hp
  have q8 := top_okP s
  have q9 := r9Top_ok s
  have q10 := height_ok s p hp
  have hb := @right_bounds s p
  have hw : rightP s p = true → IntKind.i64.wrap (p.a0 + p.a1) = p.a0 + p.a1 := fun h => by have := hb h; exact wrap_i64 (by omega) (by omega)
  unfold heightP at q10
  generalize orN s (leafP p.k0 p.k1) = l at *
  generalize rightP s (leafP p.k0 p.k1) = rl at *
  generalize soundS s = so at *
  generalize topP s = t at *
  generalize rightP s p = r at *
  cases rl <;> cases so <;> cases r
  all_goals (
    first
      | rw [cond_true] at q10
      | rw [cond_false] at q10
    refine PCall.of_awp tok mixed fn10 (Nat.le_of_ble_eq_true rfl) ?_
    (conv => whnf); (repeat' first | ((with_reducible refine Box.mk ?_); conv => whnf) | ((with_reducible refine And.intro (fun _ => ?_) (fun _ => ?_)) <;> conv => whnf) | ((with_reducible show ACall _ _ _ _ _); (refine ACall.of_pure (by assumption) (by rfl) ?_); conv => whnf) | ((with_reducible show Exists _); (refine ⟨_, ACall.of_pure (by assumption) (by rfl) ⟨rfl, rfl⟩, ?_⟩); conv => whnf) | ((with_reducible show ∃ L, drawR L _ = true ∧ _); (refine ⟨[], by kernel_rfl, ?_⟩); conv => whnf) | ((with_reducible show _ ∧ _ ∧ _); (refine ⟨by omega, by omega, ?_⟩); conv => whnf) | fail)
    all_goals first
      | rfl
      | contradiction
      | exact absurd (px_same _) (by assumption)
      | (exfalso; have := hw rfl; omega)
      | (exfalso; omega))
theorem PrefixUps_ok (s : Sp) (p q : Px) (i j : Int) (hp : POk p) (hq : POk q) : PCall P 11 [spv s, pxv p, pxv q, .int .i64 i, .int .i64 j] (.bool true) := by
  have q1 := alive9_ok
  have q2 := up_ok s p i j hp
  have q3 := r9Up_ok s p i j hp
  have q4 := pOver_ok s p q hp hq
  have q5 := r9Over_ok s p q hp hq
  generalize upP s p i j = u at *
  generalize overP s p q = o at *
  cases o
  all_goals (
    refine PCall.of_awp tok mixed fn11 (Nat.le_of_ble_eq_true rfl) ?_
    (conv => whnf); (repeat' first | ((with_reducible refine Box.mk ?_); conv => whnf) | ((with_reducible refine And.intro (fun _ => ?_) (fun _ => ?_)) <;> conv => whnf) | ((with_reducible show ACall _ _ _ _ _); (refine ACall.of_pure (by assumption) (by rfl) ?_); conv => whnf) | ((with_reducible show Exists _); (refine ⟨_, ACall.of_pure (by assumption) (by rfl) ⟨rfl, rfl⟩, ?_⟩); conv => whnf) | ((with_reducible show ∃ L, drawR L _ = true ∧ _); (refine ⟨[], by kernel_rfl, ?_⟩); conv => whnf) | ((with_reducible show _ ∧ _ ∧ _); (refine ⟨by omega, by omega, ?_⟩); conv => whnf) | fail)
    all_goals first
      | rfl
      | contradiction
      | exact absurd (px_same _) (by assumption))

theorem PrefixTells_args (xs : List AV) (h : WfA ty 1048576 [44, 48] xs) : PCall P 10 xs (.bool true) := by
  obtain ⟨y1, r1, rfl, g1, h1⟩ := h.cons_inv
  obtain ⟨y2, r2, rfl, g2, h2⟩ := h1.cons_inv
  obtain rfl := h2.nil_inv
  obtain ⟨x1, rfl⟩ := space_inv g1
  obtain ⟨x2, rfl, f2⟩ := prefix_inv g2
  exact PrefixTells_ok x1 x2 f2
theorem PrefixUps_args (xs : List AV) (h : WfA ty 1048576 [44, 48, 48, 3, 3] xs) : PCall P 11 xs (.bool true) := by
  obtain ⟨y1, r1, rfl, g1, h1⟩ := h.cons_inv
  obtain ⟨y2, r2, rfl, g2, h2⟩ := h1.cons_inv
  obtain ⟨y3, r3, rfl, g3, h3⟩ := h2.cons_inv
  obtain ⟨y4, r4, rfl, g4, h4⟩ := h3.cons_inv
  obtain ⟨y5, r5, rfl, g5, h5⟩ := h4.cons_inv
  obtain rfl := h5.nil_inv
  obtain ⟨x1, rfl⟩ := space_inv g1
  obtain ⟨x2, rfl, f2⟩ := prefix_inv g2
  obtain ⟨x3, rfl, f3⟩ := prefix_inv g3
  obtain ⟨x4, rfl, _⟩ := g4.int_inv rfl
  obtain ⟨x5, rfl, _⟩ := g5.int_inv rfl
  exact PrefixUps_ok x1 x2 x3 x4 x5 f2 f3
end Go.Proofs.YtoicobnbggkgbaaDoor
end

section
/- prefix, the document's answer: Cross; and the statement on crossings. -/
namespace Go.Proofs.YtoicobnbggkgbaaDoor
open Go.Ve

/-- The four candidates. -/
def cand (p q : Px) (k l : Ky) : Px := ⟨pkA p.a0 q.a0, pkA p.a1 q.a1, k, l⟩
theorem cand_ok {p q : Px} {k l : Ky} (hk : k.n < 2 ^ 128) (hl : l.n < 2 ^ 128) (pk : k.path.length ≤ 1048576) (pl : l.path.length ≤ 1048576) : POk (cand p q k l) := ⟨hk, hl, pk, pl⟩
/-- One that both are over is the crossing. -/
theorem cand_sat {s : Sp} {p q : Px} (hp : POk p) (hq : POk q) {k l : Ky} (hc : POk (cand p q k l)) (h1 : overP s p (cand p q k l) = true) (h2 : overP s q (cand p q k l) = true) : crossB s p q = true ∧ crossP s p q = cand p q k l := by
  obtain ⟨s1, a0, a1⟩ := (over_iffP hp hc).1 h1
  obtain ⟨_, b0, b1⟩ := (over_iffP hq hc).1 h2
  have rp : rightP s p = true := (rightP_iff hp).2 ⟨s1, (dirD _).l hp.n0 a0, (dir1 s).l hp.n1 a1⟩
  have rq : rightP s q = true := (rightP_iff hq).2 ⟨s1, (dirD _).l hq.n0 b0, (dir1 s).l hq.n1 b1⟩
  have key : ∀ {R : Int → Ky → Int → Ky → Prop} {a b : Int} {k x y : Ky}, DirOk R → y.n < 2 ^ 128 → R a k (pkA a b) y → R b x (pkA a b) y → pkK a k b x = y := fun {R a b k x y} hR hy g1 g2 => by
    unfold pkA pkK at *
    by_cases g : b < a
    · rw [if_pos g] at g2 ⊢; exact hR.same hy g2
    · rw [if_neg g] at g1 ⊢; exact hR.same hy g1
  have e0 := key (dirD s.d0) hc.n0 a0 b0
  have e1 := key (dir1 s) hc.n1 a1 b1
  have ex : crossX s p q = cand p q k l := by
    rw [crossX_eq rp rq]
    show (⟨_, _, pkK p.a0 p.k0 q.a0 q.k0, pkK p.a1 p.k1 q.a1 q.k1⟩ : Px) = _
    rw [e0, e1]; rfl
  have hB : crossB s p q = true := by unfold crossB; rw [rp, rq, ex, h1, h2]; rfl
  exact ⟨hB, by unfold crossP; rw [hB, cond_true, ex]⟩
theorem cand_none {s : Sp} {p q : Px} (h : ∀ k l, (k = p.k0 ∨ k = q.k0) → (l = p.k1 ∨ l = q.k1) → (overP s p (cand p q k l) && overP s q (cand p q k l)) = false) : crossB s p q = false ∧ crossP s p q = zeroP := by
  have hB : crossB s p q = false := by
    cases hB : crossB s p q with
    | false => rfl
    | true =>
      have h' := hB
      unfold crossB at h'
      rw [Bool.and_eq_true, Bool.and_eq_true, Bool.and_eq_true] at h'
      obtain ⟨⟨⟨rp, rq⟩, o1⟩, o2⟩ := h'
      rw [crossX_eq rp rq] at o1 o2
      have := h (pkK p.a0 p.k0 q.a0 q.k0) (pkK p.a1 p.k1 q.a1 q.k1) (by unfold pkK; split <;> simp) (by unfold pkK; split <;> simp)
      unfold cand at this
      rw [o1, o2] at this; cases this
  exact ⟨hB, by unfold crossP; rw [hB, cond_false]⟩
def crH (s : Sp) (p q : Px) (m0 m1 : Int) (x y : List AV) : Hp :=
  [.box 44 (scs s), .box 48 (pcs p), .box 48 (pcs q), .box 48 (.int .i64 0 :: .int .i64 0 :: (kzs ++ kzs)), .box 48 (.int .i64 m0 :: .int .i64 m1 :: (x ++ y))]
def crA (m0 m1 : Int) : Nat → Int × Int
  | 0 => (0, 0)
  | 1 => (m0, 0)
  | _ => (m0, m1)
def crX (p q : Px) : Nat → List AV × List AV
  | 0 => (kzs, kzs)
  | 1 => (kcs p.k0, kcs q.k1)
  | _ => (kcs q.k0, kcs q.k1)
def crK (p q : Px) : Nat → Ky
  | 0 => p.k0
  | _ => q.k0
def crL (p q : Px) : Nat → Ky
  | 0 => p.k1
  | _ => q.k1
def crY (p q : Px) (i : Nat) : Nat → List AV × List AV
  | 0 => crX p q i
  | 1 => (kcs (crK p q i), kcs p.k1)
  | _ => (kcs (crK p q i), kcs q.k1)
def crR (p q : Px) : Hp := [.row 24 5 [kcs p.k0, kcs q.k0], .row 24 5 [kcs p.k1, kcs q.k1]]
def unsat (s : Sp) (p q : Px) (i j : Nat) : Prop := (overP s p (cand p q (crK p q i) (crL p q j)) && overP s q (cand p q (crK p q i) (crL p q j))) = false
theorem r9Cross_ok (s : Sp) (p q : Px) (hp : POk p) (hq : POk q) : PCall P 42 [spv s, pxv p, pxv q] (.tup [pxv (crossP s p q), .bool (crossB s p q)]) := by
  have hc : ∀ i j, POk (cand p q (crK p q i) (crL p q j)) := fun i j => by
    cases i <;> cases j <;> first
      | exact ⟨hp.n0, hp.n1, hp.p0, hp.p1⟩
      | exact ⟨hp.n0, hq.n1, hp.p0, hq.p1⟩
      | exact ⟨hq.n0, hp.n1, hq.p0, hp.p1⟩
      | exact ⟨hq.n0, hq.n1, hq.p0, hq.p1⟩
  have c1 : ∀ i j, PCall P 40 [spv s, pxv p, pxv (cand p q (crK p q i) (crL p q j))] (.bool (overP s p (cand p q (crK p q i) (crL p q j)))) := fun i j => r9Over_ok s p _ hp (hc i j)
  have c2 : ∀ i j, PCall P 40 [spv s, pxv q, pxv (cand p q (crK p q i) (crL p q j))] (.bool (overP s q (cand p q (crK p q i) (crL p q j)))) := fun i j => r9Over_ok s q _ hq (hc i j)
  have yes : ∀ i j, overP s p (cand p q (crK p q i) (crL p q j)) = true → overP s q (cand p q (crK p q i) (crL p q j)) = true → AV.tup [pxv (cand p q (crK p q i) (crL p q j)), .bool true] = .tup [pxv (crossP s p q), .bool (crossB s p q)] := fun i j h1 h2 => by
    obtain ⟨e1, e2⟩ := cand_sat hp hq (hc i j) h1 h2
    rw [e1, e2]
  have no : unsat s p q 0 0 → unsat s p q 0 1 → unsat s p q 1 0 → unsat s p q 1 1 → AV.tup [.agg (.int .i64 0 :: .int .i64 0 :: (kzs ++ kzs)), .bool false] = .tup [pxv (crossP s p q), .bool (crossB s p q)] := fun h1 h2 h3 h4 => by
    obtain ⟨e1, e2⟩ := cand_none (s := s) (p := p) (q := q) (fun k l hk hl => by
      rcases hk with rfl | rfl <;> rcases hl with rfl | rfl
      · exact h1
      · exact h2
      · exact h3
      · exact h4)
    rw [e1, e2, pxv_zero]; rfl
  obtain ⟨m0, hm0⟩ : ∃ m, pkA p.a0 q.a0 = m := ⟨_, rfl⟩
  obtain ⟨m1, hm1⟩ : ∃ m, pkA p.a1 q.a1 = m := ⟨_, rfl⟩
  have t0 : q.a0 < p.a0 → m0 = q.a0 := fun h => by rw [← hm0, pkA, if_pos h]
  have f0 : ¬ q.a0 < p.a0 → m0 = p.a0 := fun h => by rw [← hm0, pkA, if_neg h]
  have t1 : q.a1 < p.a1 → m1 = q.a1 := fun h => by rw [← hm1, pkA, if_pos h]
  have f1 : ¬ q.a1 < p.a1 → m1 = p.a1 := fun h => by rw [← hm1, pkA, if_neg h]
  have cv : ∀ i j, pxv (cand p q (crK p q i) (crL p q j)) = .agg (.int .i64 m0 :: .int .i64 m1 :: (kcs (crK p q i) ++ kcs (crL p q j))) := fun i j => by rw [← hm0, ← hm1]; rfl
  refine PCall.of_awp tok mixed fn42 (Nat.le_of_ble_eq_true rfl) ?_
  (conv => whnf); (repeat' first | ((with_reducible refine Box.mk ?_); conv => whnf) | ((with_reducible refine And.intro (fun _ => ?_) (fun _ => ?_)) <;> conv => whnf) | ((with_reducible show ACall _ _ _ _ _); (refine ACall.of_pure (by assumption) (by rfl) ?_); conv => whnf) | ((with_reducible show Exists _); (refine ⟨_, ACall.of_pure (by assumption) (by rfl) ⟨rfl, rfl⟩, ?_⟩); conv => whnf) | ((with_reducible show _ ∧ _ ∧ _); (refine ⟨by omega, by omega, ?_⟩); conv => whnf) | fail)
  refine aloop (fun c => c ≤ 2) (fun c : Nat => ⟨envL [(3, .ptr 0 0), (4, .ptr 1 0), (5, .ptr 2 0), (6, .ptr 3 0), (7, .bool false), (8, .ptr 4 0), (9, .int .i64 c)], crH s p q (crA m0 m1 c).1 (crA m0 m1 c).2 kzs kzs⟩)
    (fun c => 2 - c) 0 (by omega) (weak_to ⟨rfl, rfl, rfl, rfl, rfl, rfl, rfl, trivial⟩ rfl) ?_
  intro c hcc
  have hc2 : c = 0 ∨ c = 1 ∨ c = 2 := by omega
  rcases hc2 with rfl | rfl | rfl
  · (conv => whnf); (repeat' first | ((with_reducible refine Box.mk ?_); conv => whnf) | ((with_reducible refine And.intro (fun _ => ?_) (fun _ => ?_)) <;> conv => whnf) | ((with_reducible show ACall _ _ _ _ _); (refine ACall.of_pure (by assumption) (by rfl) ?_); conv => whnf) | ((with_reducible show Exists _); (refine ⟨_, ACall.of_pure (by assumption) (by rfl) ⟨rfl, rfl⟩, ?_⟩); conv => whnf) | ((with_reducible show ∃ L, drawR L _ = true ∧ _); (refine ⟨[], by kernel_rfl, ?_⟩); conv => whnf) | ((with_reducible show _ ∧ _ ∧ _); (refine ⟨by omega, by omega, ?_⟩); conv => whnf) | fail)
    all_goals try contradiction
    all_goals first
      | exact ⟨1, by omega, by decide, weak_to ⟨rfl, rfl, rfl, rfl, rfl, rfl, rfl, trivial⟩ (by first | (rw [t0 (by assumption)]; rfl) | (rw [f0 (by assumption)]; rfl))⟩
      | (exfalso; omega)
  · (conv => whnf); (repeat' first | ((with_reducible refine Box.mk ?_); conv => whnf) | ((with_reducible refine And.intro (fun _ => ?_) (fun _ => ?_)) <;> conv => whnf) | ((with_reducible show ACall _ _ _ _ _); (refine ACall.of_pure (by assumption) (by rfl) ?_); conv => whnf) | ((with_reducible show Exists _); (refine ⟨_, ACall.of_pure (by assumption) (by rfl) ⟨rfl, rfl⟩, ?_⟩); conv => whnf) | ((with_reducible show ∃ L, drawR L _ = true ∧ _); (refine ⟨[], by kernel_rfl, ?_⟩); conv => whnf) | ((with_reducible show _ ∧ _ ∧ _); (refine ⟨by omega, by omega, ?_⟩); conv => whnf) | fail)
    all_goals try contradiction
    all_goals first
      | exact ⟨2, by omega, by decide, weak_to ⟨rfl, rfl, rfl, rfl, rfl, rfl, rfl, trivial⟩ (by first | (rw [t1 (by assumption)]; rfl) | (rw [f1 (by assumption)]; rfl))⟩
      | (exfalso; omega)
  · (conv => whnf); (repeat' first | ((with_reducible refine Box.mk ?_); conv => whnf) | ((with_reducible refine And.intro (fun _ => ?_) (fun _ => ?_)) <;> conv => whnf) | ((with_reducible show ACall _ _ _ _ _); (refine ACall.of_pure (by assumption) (by rfl) ?_); conv => whnf) | ((with_reducible show Exists _); (refine ⟨_, ACall.of_pure (by assumption) (by rfl) ⟨rfl, rfl⟩, ?_⟩); conv => whnf) | ((with_reducible show _ ∧ _ ∧ _); (refine ⟨by omega, by omega, ?_⟩); conv => whnf) | fail)
    all_goals try contradiction
    all_goals try (exfalso; omega)
    refine aloop (fun i => i ≤ 2 ∧ (0 < i → unsat s p q 0 0 ∧ unsat s p q 0 1) ∧ (1 < i → unsat s p q 1 0 ∧ unsat s p q 1 1))
      (fun i : Nat => ⟨envL [(3, .ptr 0 0), (4, .ptr 1 0), (5, .ptr 2 0), (6, .ptr 3 0), (7, .bool false), (8, .ptr 4 0), (10, .own 5), (11, .own 6), (12, .int .i64 i)], crH s p q m0 m1 (crX p q i).1 (crX p q i).2 ++ crR p q⟩)
      (fun i => 2 - i) 0 ⟨by omega, fun h => by omega, fun h => by omega⟩ (weak_to ⟨rfl, rfl, rfl, rfl, rfl, rfl, rfl, rfl, rfl, trivial⟩ rfl) ?_
    rintro i ⟨hi, u0, u1⟩
    have hi2 : i = 0 ∨ i = 1 ∨ i = 2 := by omega
    rcases hi2 with rfl | rfl | rfl
    · (conv => whnf); (repeat' first | ((with_reducible refine Box.mk ?_); conv => whnf) | ((with_reducible refine And.intro (fun _ => ?_) (fun _ => ?_)) <;> conv => whnf) | ((with_reducible show ACall _ _ _ _ _); (refine ACall.of_pure (by assumption) (by rfl) ?_); conv => whnf) | ((with_reducible show Exists _); (refine ⟨_, ACall.of_pure (by assumption) (by rfl) ⟨rfl, rfl⟩, ?_⟩); conv => whnf) | ((with_reducible show _ ∧ _ ∧ _); (refine ⟨by omega, by omega, ?_⟩); conv => whnf) | fail)
      all_goals try contradiction
      all_goals try (exfalso; omega)
      refine aloop (fun j => j ≤ 2 ∧ (0 < j → unsat s p q 0 0) ∧ (1 < j → unsat s p q 0 1))
        (fun j : Nat => ⟨envL [(3, .ptr 0 0), (4, .ptr 1 0), (5, .ptr 2 0), (6, .ptr 3 0), (7, .bool false), (8, .ptr 4 0), (10, .own 5), (11, .own 6), (12, .int .i64 0), (13, .int .i64 j)], crH s p q m0 m1 (crY p q 0 j).1 (crY p q 0 j).2 ++ crR p q⟩)
        (fun j => 2 - j) 0 ⟨by omega, fun h => by omega, fun h => by omega⟩ (weak_to ⟨rfl, rfl, rfl, rfl, rfl, rfl, rfl, rfl, rfl, rfl, trivial⟩ rfl) ?_
      rintro j ⟨hj, w0, w1⟩
      have hj2 : j = 0 ∨ j = 1 ∨ j = 2 := by omega
      rcases hj2 with rfl | rfl | rfl
      · have c3 := c1 0 0
        have c4 := c2 0 0
        rw [cv] at c3 c4
        have y := yes 0 0
        have n : (overP s p (cand p q (crK p q 0) (crL p q 0)) && overP s q (cand p q (crK p q 0) (crL p q 0))) = false → unsat s p q 0 0 := fun h => h
        generalize hA : overP s p (cand p q (crK p q 0) (crL p q 0)) = A at c3 y n
        generalize hB : overP s q (cand p q (crK p q 0) (crL p q 0)) = B at c4 y n
        cases A <;> cases B
        all_goals (conv => whnf); (repeat' first | ((with_reducible refine Box.mk ?_); conv => whnf) | ((with_reducible refine And.intro (fun _ => ?_) (fun _ => ?_)) <;> conv => whnf) | ((with_reducible show ACall _ _ _ _ _); (refine ACall.of_pure (by assumption) (by rfl) ?_); conv => whnf) | ((with_reducible show Exists _); (refine ⟨_, ACall.of_pure (by assumption) (by rfl) ⟨rfl, rfl⟩, ?_⟩); conv => whnf) | ((with_reducible show ∃ L, drawR L _ = true ∧ _); (refine ⟨[], by kernel_rfl, ?_⟩); conv => whnf) | ((with_reducible show _ ∧ _ ∧ _); (refine ⟨by omega, by omega, ?_⟩); conv => whnf) | ((with_reducible show _ ∧ _ ∧ _); (refine ⟨by decide, Nat.le_of_ble_eq_true rfl, ?_⟩); conv => whnf) | ((with_reducible show Exists _); (refine ⟨_, rfl, ?_⟩); conv => whnf) | fail)
        all_goals try contradiction
        all_goals try (exfalso; omega)
        all_goals first
          | exact ⟨1, ⟨by omega, fun h => by first | exact n rfl | exact w0 (by omega), fun h => by first | exact n rfl | omega⟩, by decide, weak_to ⟨rfl, rfl, rfl, rfl, rfl, rfl, rfl, rfl, rfl, rfl, trivial⟩ rfl⟩
          | (rw [← y rfl rfl, cv]; rfl)
      · have c3 := c1 0 1
        have c4 := c2 0 1
        rw [cv] at c3 c4
        have y := yes 0 1
        have n : (overP s p (cand p q (crK p q 0) (crL p q 1)) && overP s q (cand p q (crK p q 0) (crL p q 1))) = false → unsat s p q 0 1 := fun h => h
        generalize hA : overP s p (cand p q (crK p q 0) (crL p q 1)) = A at c3 y n
        generalize hB : overP s q (cand p q (crK p q 0) (crL p q 1)) = B at c4 y n
        cases A <;> cases B
        all_goals (conv => whnf); (repeat' first | ((with_reducible refine Box.mk ?_); conv => whnf) | ((with_reducible refine And.intro (fun _ => ?_) (fun _ => ?_)) <;> conv => whnf) | ((with_reducible show ACall _ _ _ _ _); (refine ACall.of_pure (by assumption) (by rfl) ?_); conv => whnf) | ((with_reducible show Exists _); (refine ⟨_, ACall.of_pure (by assumption) (by rfl) ⟨rfl, rfl⟩, ?_⟩); conv => whnf) | ((with_reducible show ∃ L, drawR L _ = true ∧ _); (refine ⟨[], by kernel_rfl, ?_⟩); conv => whnf) | ((with_reducible show _ ∧ _ ∧ _); (refine ⟨by omega, by omega, ?_⟩); conv => whnf) | ((with_reducible show _ ∧ _ ∧ _); (refine ⟨by decide, Nat.le_of_ble_eq_true rfl, ?_⟩); conv => whnf) | ((with_reducible show Exists _); (refine ⟨_, rfl, ?_⟩); conv => whnf) | fail)
        all_goals try contradiction
        all_goals try (exfalso; omega)
        all_goals first
          | exact ⟨2, ⟨by omega, fun h => by first | exact n rfl | exact w0 (by omega), fun h => by first | exact n rfl | omega⟩, by decide, weak_to ⟨rfl, rfl, rfl, rfl, rfl, rfl, rfl, rfl, rfl, rfl, trivial⟩ rfl⟩
          | (rw [← y rfl rfl, cv]; rfl)
      · (conv => whnf); (repeat' first | ((with_reducible refine Box.mk ?_); conv => whnf) | ((with_reducible refine And.intro (fun _ => ?_) (fun _ => ?_)) <;> conv => whnf) | ((with_reducible show ACall _ _ _ _ _); (refine ACall.of_pure (by assumption) (by rfl) ?_); conv => whnf) | ((with_reducible show Exists _); (refine ⟨_, ACall.of_pure (by assumption) (by rfl) ⟨rfl, rfl⟩, ?_⟩); conv => whnf) | ((with_reducible show _ ∧ _ ∧ _); (refine ⟨by omega, by omega, ?_⟩); conv => whnf) | fail)
        all_goals try contradiction
        all_goals try (exfalso; omega)
        exact ⟨1, ⟨by omega, fun h => by first | exact ⟨w0 (by omega), w1 (by omega)⟩ | exact u0 (by omega), fun h => by first | omega | exact ⟨w0 (by omega), w1 (by omega)⟩⟩, by decide, weak_to ⟨rfl, rfl, rfl, rfl, rfl, rfl, rfl, rfl, rfl, trivial⟩ rfl⟩
    · (conv => whnf); (repeat' first | ((with_reducible refine Box.mk ?_); conv => whnf) | ((with_reducible refine And.intro (fun _ => ?_) (fun _ => ?_)) <;> conv => whnf) | ((with_reducible show ACall _ _ _ _ _); (refine ACall.of_pure (by assumption) (by rfl) ?_); conv => whnf) | ((with_reducible show Exists _); (refine ⟨_, ACall.of_pure (by assumption) (by rfl) ⟨rfl, rfl⟩, ?_⟩); conv => whnf) | ((with_reducible show _ ∧ _ ∧ _); (refine ⟨by omega, by omega, ?_⟩); conv => whnf) | fail)
      all_goals try contradiction
      all_goals try (exfalso; omega)
      refine aloop (fun j => j ≤ 2 ∧ (0 < j → unsat s p q 1 0) ∧ (1 < j → unsat s p q 1 1))
        (fun j : Nat => ⟨envL [(3, .ptr 0 0), (4, .ptr 1 0), (5, .ptr 2 0), (6, .ptr 3 0), (7, .bool false), (8, .ptr 4 0), (10, .own 5), (11, .own 6), (12, .int .i64 1), (13, .int .i64 j)], crH s p q m0 m1 (crY p q 1 j).1 (crY p q 1 j).2 ++ crR p q⟩)
        (fun j => 2 - j) 0 ⟨by omega, fun h => by omega, fun h => by omega⟩ (weak_to ⟨rfl, rfl, rfl, rfl, rfl, rfl, rfl, rfl, rfl, rfl, trivial⟩ rfl) ?_
      rintro j ⟨hj, w0, w1⟩
      have hj2 : j = 0 ∨ j = 1 ∨ j = 2 := by omega
      rcases hj2 with rfl | rfl | rfl
      · have c3 := c1 1 0
        have c4 := c2 1 0
        rw [cv] at c3 c4
        have y := yes 1 0
        have n : (overP s p (cand p q (crK p q 1) (crL p q 0)) && overP s q (cand p q (crK p q 1) (crL p q 0))) = false → unsat s p q 1 0 := fun h => h
        generalize hA : overP s p (cand p q (crK p q 1) (crL p q 0)) = A at c3 y n
        generalize hB : overP s q (cand p q (crK p q 1) (crL p q 0)) = B at c4 y n
        cases A <;> cases B
        all_goals (conv => whnf); (repeat' first | ((with_reducible refine Box.mk ?_); conv => whnf) | ((with_reducible refine And.intro (fun _ => ?_) (fun _ => ?_)) <;> conv => whnf) | ((with_reducible show ACall _ _ _ _ _); (refine ACall.of_pure (by assumption) (by rfl) ?_); conv => whnf) | ((with_reducible show Exists _); (refine ⟨_, ACall.of_pure (by assumption) (by rfl) ⟨rfl, rfl⟩, ?_⟩); conv => whnf) | ((with_reducible show ∃ L, drawR L _ = true ∧ _); (refine ⟨[], by kernel_rfl, ?_⟩); conv => whnf) | ((with_reducible show _ ∧ _ ∧ _); (refine ⟨by omega, by omega, ?_⟩); conv => whnf) | ((with_reducible show _ ∧ _ ∧ _); (refine ⟨by decide, Nat.le_of_ble_eq_true rfl, ?_⟩); conv => whnf) | ((with_reducible show Exists _); (refine ⟨_, rfl, ?_⟩); conv => whnf) | fail)
        all_goals try contradiction
        all_goals try (exfalso; omega)
        all_goals first
          | exact ⟨1, ⟨by omega, fun h => by first | exact n rfl | exact w0 (by omega), fun h => by first | exact n rfl | omega⟩, by decide, weak_to ⟨rfl, rfl, rfl, rfl, rfl, rfl, rfl, rfl, rfl, rfl, trivial⟩ rfl⟩
          | (rw [← y rfl rfl, cv]; rfl)
      · have c3 := c1 1 1
        have c4 := c2 1 1
        rw [cv] at c3 c4
        have y := yes 1 1
        have n : (overP s p (cand p q (crK p q 1) (crL p q 1)) && overP s q (cand p q (crK p q 1) (crL p q 1))) = false → unsat s p q 1 1 := fun h => h
        generalize hA : overP s p (cand p q (crK p q 1) (crL p q 1)) = A at c3 y n
        generalize hB : overP s q (cand p q (crK p q 1) (crL p q 1)) = B at c4 y n
        cases A <;> cases B
        all_goals (conv => whnf); (repeat' first | ((with_reducible refine Box.mk ?_); conv => whnf) | ((with_reducible refine And.intro (fun _ => ?_) (fun _ => ?_)) <;> conv => whnf) | ((with_reducible show ACall _ _ _ _ _); (refine ACall.of_pure (by assumption) (by rfl) ?_); conv => whnf) | ((with_reducible show Exists _); (refine ⟨_, ACall.of_pure (by assumption) (by rfl) ⟨rfl, rfl⟩, ?_⟩); conv => whnf) | ((with_reducible show ∃ L, drawR L _ = true ∧ _); (refine ⟨[], by kernel_rfl, ?_⟩); conv => whnf) | ((with_reducible show _ ∧ _ ∧ _); (refine ⟨by omega, by omega, ?_⟩); conv => whnf) | ((with_reducible show _ ∧ _ ∧ _); (refine ⟨by decide, Nat.le_of_ble_eq_true rfl, ?_⟩); conv => whnf) | ((with_reducible show Exists _); (refine ⟨_, rfl, ?_⟩); conv => whnf) | fail)
        all_goals try contradiction
        all_goals try (exfalso; omega)
        all_goals first
          | exact ⟨2, ⟨by omega, fun h => by first | exact n rfl | exact w0 (by omega), fun h => by first | exact n rfl | omega⟩, by decide, weak_to ⟨rfl, rfl, rfl, rfl, rfl, rfl, rfl, rfl, rfl, rfl, trivial⟩ rfl⟩
          | (rw [← y rfl rfl, cv]; rfl)
      · (conv => whnf); (repeat' first | ((with_reducible refine Box.mk ?_); conv => whnf) | ((with_reducible refine And.intro (fun _ => ?_) (fun _ => ?_)) <;> conv => whnf) | ((with_reducible show ACall _ _ _ _ _); (refine ACall.of_pure (by assumption) (by rfl) ?_); conv => whnf) | ((with_reducible show Exists _); (refine ⟨_, ACall.of_pure (by assumption) (by rfl) ⟨rfl, rfl⟩, ?_⟩); conv => whnf) | ((with_reducible show _ ∧ _ ∧ _); (refine ⟨by omega, by omega, ?_⟩); conv => whnf) | fail)
        all_goals try contradiction
        all_goals try (exfalso; omega)
        exact ⟨2, ⟨by omega, fun h => by first | exact ⟨w0 (by omega), w1 (by omega)⟩ | exact u0 (by omega), fun h => by first | omega | exact ⟨w0 (by omega), w1 (by omega)⟩⟩, by decide, weak_to ⟨rfl, rfl, rfl, rfl, rfl, rfl, rfl, rfl, rfl, trivial⟩ rfl⟩
    · (conv => whnf); (repeat' first | ((with_reducible refine Box.mk ?_); conv => whnf) | ((with_reducible refine And.intro (fun _ => ?_) (fun _ => ?_)) <;> conv => whnf) | ((with_reducible show ACall _ _ _ _ _); (refine ACall.of_pure (by assumption) (by rfl) ?_); conv => whnf) | ((with_reducible show Exists _); (refine ⟨_, ACall.of_pure (by assumption) (by rfl) ⟨rfl, rfl⟩, ?_⟩); conv => whnf) | ((with_reducible show ∃ L, drawR L _ = true ∧ _); (refine ⟨[], by kernel_rfl, ?_⟩); conv => whnf) | ((with_reducible show _ ∧ _ ∧ _); (refine ⟨by omega, by omega, ?_⟩); conv => whnf) | fail)
      all_goals try contradiction
      all_goals try (exfalso; omega)
      exact no (u0 (by omega)).1 (u0 (by omega)).2 (u1 (by omega)).1 (u1 (by omega)).2
end Go.Proofs.YtoicobnbggkgbaaDoor
end

section
/- prefix: the statement on crossings. -/
namespace Go.Proofs.YtoicobnbggkgbaaDoor
open Go.Ve

theorem PrefixCrosses_ok (s : Sp) (p q : Px) (hp : POk p) (hq : POk q) : PCall P 12 [spv s, pxv p, pxv q] (.bool true) := by
  have q1 := alive9_ok
  have q2 := cross_ok s p q hp hq
  have q3 := r9Cross_ok s p q hp hq
  have q4 := pCmp_ok p q
  have q5 := r9Cmp_ok p q
  generalize crossP s p q = x at *
  generalize crossB s p q = b at *
  generalize cmpP p q = c at *
  cases b
  all_goals (
    refine PCall.of_awp tok mixed fn12 (Nat.le_of_ble_eq_true rfl) ?_
    (conv => whnf); (repeat' first | ((with_reducible refine Box.mk ?_); conv => whnf) | ((with_reducible refine And.intro (fun _ => ?_) (fun _ => ?_)) <;> conv => whnf) | ((with_reducible show ACall _ _ _ _ _); (refine ACall.of_pure (by assumption) (by rfl) ?_); conv => whnf) | ((with_reducible show Exists _); (refine ⟨_, ACall.of_pure (by assumption) (by rfl) ⟨rfl, rfl⟩, ?_⟩); conv => whnf) | ((with_reducible show ∃ L, drawR L _ = true ∧ _); (refine ⟨[], by kernel_rfl, ?_⟩); conv => whnf) | ((with_reducible show _ ∧ _ ∧ _); (refine ⟨by omega, by omega, ?_⟩); conv => whnf) | fail)
    all_goals first
      | rfl
      | contradiction
      | exact absurd (px_same _) (by assumption)
      | (exfalso; omega))
theorem PrefixCrosses_args (xs : List AV) (h : WfA ty 1048576 [44, 48, 48] xs) : PCall P 12 xs (.bool true) := by
  obtain ⟨y1, r1, rfl, g1, h1⟩ := h.cons_inv
  obtain ⟨y2, r2, rfl, g2, h2⟩ := h1.cons_inv
  obtain ⟨y3, r3, rfl, g3, h3⟩ := h2.cons_inv
  obtain rfl := h3.nil_inv
  obtain ⟨x1, rfl⟩ := space_inv g1
  obtain ⟨x2, rfl, f2⟩ := prefix_inv g2
  obtain ⟨x3, rfl, f3⟩ := prefix_inv g3
  exact PrefixCrosses_ok x1 x2 x3 f2 f3
end Go.Proofs.YtoicobnbggkgbaaDoor
end
