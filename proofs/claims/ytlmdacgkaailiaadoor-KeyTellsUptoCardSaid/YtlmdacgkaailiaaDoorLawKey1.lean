/- key: the first statement's walk. -/
import Derived.Test.YtlmdacgkaailiaaDoorRef7e
import Derived.Test.YtlmdacgkaailiaaDoorLawKey
import Derived.Test.YtlmdacgkaailiaaDoorVeU
namespace Go.Proofs.YtlmdacgkaailiaaDoor
open Go.Ve

theorem splitDot_count : ∀ (p : Bs), (splitDot p).length = p.count 46 + 1
  | [] => rfl
  | c :: s => by
    have ih := splitDot_count s
    unfold splitDot
    by_cases hc : c = 46
    · subst hc; simp [ih]
    · cases h : splitDot s with
      | nil => exact absurd h (splitDot_ne s)
      | cons x l => simp_all
def wantK (p : Bs) : Ky := ⟨3, (if p.length = 0 then 0 else p.count 46 + 1 : Nat), 0, p⟩
theorem wantK_len {p : Bs} (h : okPath p = true) : ((labs p).length : Nat) = (if p.length = 0 then 0 else p.count 46 + 1 : Nat) := by
  cases p with
  | nil => rfl
  | cons c s => 
    have : labs (c :: s) = splitDot (c :: s) := by unfold labs; rw [h]; rfl
    rw [this, splitDot_count, if_neg (by simp)]
theorem wantK_right (p : Bs) : rightK (wantK p) = okPath p := by
  unfold rightK
  rw [if_neg (by show ¬ ((3 : Int) = 1 ∨ (3 : Int) = 2); decide), if_pos (by rfl)]
  show (okPath p && _) = _
  cases h : okPath p
  · rfl
  · rw [Bool.true_and]; exact decide_eq_true ⟨by show ((_ : Nat) : Int) = ((labs p).length : Nat); rw [wantK_len h], rfl⟩
theorem wantK_of {p : Bs} (h : okPath p = true) : ofPathK p = wantK p := by
  unfold ofPathK wantK; rw [wantK_len h]
theorem wantK_not (p : Bs) : zeroK ≠ wantK p := fun e => by
  have := congrArg Ky.kind e; exact absurd this (by show ¬ (0 : Int) = 3; decide)

theorem KeyTells_ok (k : Ky) (hk : k.n < 2 ^ 128) (hkp : k.path.length ≤ 1048576) (a : Nat) (ha : a < 4294967296) (W : Nat) (hW : W < 2 ^ 128) (p : Bs) (hp : p.length ≤ 1048576) (kind : Int) :
    PCall P 11 [kv k, .int .u32 (a : Int), wv W, .str p, .int .i64 kind] (.bool true) := by
  have cP := path_ok p (by omega)
  generalize hg : (bif okPath p then ofPathK p else zeroK) = g at cP
  generalize he : (bif okPath p then (0 : Int) else 3) = e at cP
  have c4 := four_ok a ha
  have r4 := rFour_ok a ha
  generalize a * 2 ^ 96 = A at c4 r4
  have c5 := root_ok kind
  have r5 := rRoot_ok kind
  generalize rootK kind = R at c5 r5
  have c6 := width_ok kind
  have r6 := rWidth_ok kind
  generalize widthK kind = d at c6 r6
  refine PCall.of_awp tok mixed fn11 (Nat.le_of_ble_eq_true rfl) ?_
  conv => whnf
  repeat' first | ((with_reducible refine Box.mk ?_); conv => whnf) | ((with_reducible refine And.intro (fun _ => ?_) (fun _ => ?_)) <;> conv => whnf) | fail
  refine ACall.of_pure cP rfl ?_
  conv => whnf
  repeat' first | ((with_reducible refine Box.mk ?_); conv => whnf) | ((with_reducible refine And.intro (fun _ => ?_) (fun _ => ?_)) <;> conv => whnf) | fail
  refine aloop (fun i => i ≤ p.length) (fun i : Nat => ⟨envL [(1, .int .u32 a), (3, .str p), (4, .int .i64 kind), (5, .ptr 0 0), (7, .ptr 1 0), (10, .bool false), (11, .ptr 2 0), (12, .int .i64 e), (13, .ptr 3 0), (14, .int .i64 i)],
      [.box 48 [.int .i64 k.kind, .int .i64 k.len, .int .u64 ((k.n / H64 : Nat) : Int), .int .u64 ((k.n % H64 : Nat) : Int), .str k.path], .box 59 [.int .u64 ((W / H64 : Nat) : Int), .int .u64 ((W % H64 : Nat) : Int)],
       .box 48 [.int .i64 g.kind, .int .i64 g.len, .int .u64 ((g.n / H64 : Nat) : Int), .int .u64 ((g.n % H64 : Nat) : Int), .str g.path],
       .box 48 [.int .i64 3, .int .i64 ((if i = 0 then 0 else (p.take i).count 46 + 1 : Nat) : Int), .int .u64 0, .int .u64 0, .str p]]⟩) (fun i => p.length - i) 0 (Nat.zero_le _)
    (weak_to ⟨rfl, rfl, rfl, rfl, rfl, rfl, rfl, rfl, rfl, rfl, trivial⟩ rfl) ?_
  rintro i hi
  have hcnt : ∀ (h : i < p.length), (p.take (i + 1)).count 46 = (p.take i).count 46 + (if p[i] = 46 then 1 else 0) := fun h => by
    rw [List.take_succ_eq_append_getElem h, List.count_append]
    by_cases e : p[i] = 46 <;> simp [e]
  have hle : (p.take i).count 46 ≤ i := Nat.le_trans List.count_le_length (by simp; omega)
  have fin : ∀ (h : i < p.length) (m : Int), m = ((p.take i).count 46 + 1 + (if p[i] = 46 then 1 else 0) : Nat) → m = ((if i + 1 = 0 then 0 else (p.take (i + 1)).count 46 + 1 : Nat) : Int) := fun h m e => by
    have : (if i + 1 = 0 then 0 else (p.take (i + 1)).count 46 + 1 : Nat) = (p.take (i + 1)).count 46 + 1 := if_neg (by omega)
    rw [e, this, hcnt h]; omega
  have fin2 : ∀ (h : i < p.length) (m : Int), m = ((p.take i).count 46 + 1 + (if p[i] = 46 then 1 else 0) : Nat) →
      ([.box 48 [.int .i64 3, .int .i64 m, .int .u64 0, .int .u64 0, .str p]] : Hp) = [.box 48 [.int .i64 3, .int .i64 ((if i + 1 = 0 then 0 else (p.take (i + 1)).count 46 + 1 : Nat) : Int), .int .u64 0, .int .u64 0, .str p]] := fun h m e => by rw [← fin h m e]
  conv => whnf
  repeat' first | ((with_reducible refine Box.mk ?_); conv => whnf) | ((with_reducible refine And.intro (fun _ => ?_) (fun _ => ?_)) <;> conv => whnf) | fail
  · rename_i h1 h2
    have hlt : i < p.length := by omega
    have h0 : i = 0 := by omega
    refine ⟨by omega, p[i], List.getElem?_eq_getElem hlt, ?_⟩
    conv => whnf
    repeat' first | ((with_reducible refine Box.mk ?_); conv => whnf) | ((with_reducible refine And.intro (fun _ => ?_) (fun _ => ?_)) <;> conv => whnf) | fail
    · rename_i h4
      have hc : p[i] = 46 := by
        apply UInt8.toNat_inj.1
        exact_mod_cast h4
      refine ⟨i + 1, hlt, by omega, weak_to ⟨rfl, rfl, rfl, rfl, rfl, rfl, rfl, rfl, rfl, wrap_nat (m := 1) (by omega), trivial⟩ (congrArg (fun l : Hp => _ :: _ :: _ :: l) (fin2 hlt _ ?_))⟩
      rw [if_pos hc, h0]; rfl
    · rename_i h4
      have hc : p[i] ≠ 46 := fun h => h4 (by rw [h]; rfl)
      refine ⟨i + 1, hlt, by omega, weak_to ⟨rfl, rfl, rfl, rfl, rfl, rfl, rfl, rfl, rfl, wrap_nat (m := 1) (by omega), trivial⟩ (congrArg (fun l : Hp => _ :: _ :: _ :: l) (fin2 hlt _ ?_))⟩
      rw [if_neg hc, h0]; rfl
  · rename_i h1 h2
    have hlt : i < p.length := by omega
    have h0 : i ≠ 0 := by omega
    refine ⟨by omega, p[i], List.getElem?_eq_getElem hlt, ?_⟩
    conv => whnf
    repeat' first | ((with_reducible refine Box.mk ?_); conv => whnf) | ((with_reducible refine And.intro (fun _ => ?_) (fun _ => ?_)) <;> conv => whnf) | fail
    · rename_i h4
      have hc : p[i] = 46 := by
        apply UInt8.toNat_inj.1
        exact_mod_cast h4
      refine ⟨i + 1, hlt, by omega, weak_to ⟨rfl, rfl, rfl, rfl, rfl, rfl, rfl, rfl, rfl, wrap_nat (m := 1) (by omega), trivial⟩ (congrArg (fun l : Hp => _ :: _ :: _ :: l) (fin2 hlt _ ?_))⟩
      rw [if_pos hc, if_neg h0, wrap_i64 (by omega) (by omega)]; rfl
    · rename_i h4
      have hc : p[i] ≠ 46 := fun h => h4 (by rw [h]; rfl)
      refine ⟨i + 1, hlt, by omega, weak_to ⟨rfl, rfl, rfl, rfl, rfl, rfl, rfl, rfl, rfl, wrap_nat (m := 1) (by omega), trivial⟩ (congrArg (fun l : Hp => _ :: _ :: _ :: l) (fin2 hlt _ ?_))⟩
      rw [if_neg hc, if_neg h0]
  · rename_i h1
    have hi2 : i = p.length := by omega
    subst hi2
    have c1 := rRight_ok (wantK p) (by show p.length < _; omega)
    have e0 : kv (wantK p) = .agg [.int .i64 3, .int .i64 (wantK p).len, .int .u64 0, .int .u64 0, .str p] := by
      show AV.agg [_, _, _, _, _] = AV.agg [_, _, _, _, _]
      simp [wantK]
    rw [wantK_right, e0] at c1
    have e1 : ((if p.length = 0 then 0 else (p.take p.length).count 46 + 1 : Nat) : Int) = (wantK p).len := by rw [List.take_length]; rfl
    rw [e1]
    refine ACall.of_pure c1 rfl ?_
    have q1 := alive7_ok
    have z1 : (((wantK p).n / H64 : Nat) : Int) = 0 := by show ((0 / H64 : Nat) : Int) = 0; rw [Nat.zero_div]; rfl
    have z2 : (((wantK p).n % H64 : Nat) : Int) = 0 := by show ((0 % H64 : Nat) : Int) = 0; rw [Nat.zero_mod]; rfl
    have q2 := keyRight_ok k hk (by omega)
    have q3 := rRight_ok k (by omega)
    cases hb : okPath p
    · rw [hb] at hg he
      have hg : zeroK = g := hg
      have he : (3 : Int) = e := he
      subst hg he
      conv => whnf
      repeat' first | ((with_reducible refine Box.mk ?_); conv => whnf) | ((with_reducible refine And.intro (fun _ => ?_) (fun _ => ?_)) <;> conv => whnf) | fail
      all_goals try contradiction
      all_goals try (rename_i hbad; exact absurd ⟨rfl, rfl, rfl, rfl, rfl⟩ hbad)
      all_goals try (rename_i hbad; exact absurd ⟨rfl, rfl, z1, z2, rfl⟩ hbad)
      all_goals (
        refine ⟨drawOk_of (by kernel_rfl), ?_⟩
        conv => whnf
        repeat' first | ((with_reducible refine Box.mk ?_); conv => whnf) | ((with_reducible refine And.intro (fun _ => ?_) (fun _ => ?_)) <;> conv => whnf) | fail
        refine ⟨_, ACall.of_pure q1 rfl ⟨rfl, rfl⟩, ?_⟩
        conv => whnf
        repeat' first | ((with_reducible refine Box.mk ?_); conv => whnf) | ((with_reducible refine And.intro (fun _ => ?_) (fun _ => ?_)) <;> conv => whnf) | fail
        refine ⟨_, ACall.of_pure q2 rfl ⟨rfl, rfl⟩, ?_⟩
        conv => whnf
        repeat' first | ((with_reducible refine Box.mk ?_); conv => whnf) | ((with_reducible refine And.intro (fun _ => ?_) (fun _ => ?_)) <;> conv => whnf) | fail
        refine ⟨_, ACall.of_pure q3 rfl ⟨rfl, rfl⟩, ?_⟩
        cases rightK k
        all_goals (
          conv => whnf
          repeat' first | ((with_reducible refine Box.mk ?_); conv => whnf) | ((with_reducible refine And.intro (fun _ => ?_) (fun _ => ?_)) <;> conv => whnf) | fail
          all_goals try contradiction
          refine ⟨_, ACall.of_pure c6 rfl ⟨rfl, rfl⟩, ?_⟩
          conv => whnf
          repeat' first | ((with_reducible refine Box.mk ?_); conv => whnf) | ((with_reducible refine And.intro (fun _ => ?_) (fun _ => ?_)) <;> conv => whnf) | fail
          refine ⟨_, ACall.of_pure r6 rfl ⟨rfl, rfl⟩, ?_⟩
          conv => whnf
          repeat' first | ((with_reducible refine Box.mk ?_); conv => whnf) | ((with_reducible refine And.intro (fun _ => ?_) (fun _ => ?_)) <;> conv => whnf) | fail
          all_goals try contradiction
          refine ⟨_, ACall.of_pure c5 rfl ⟨rfl, rfl⟩, ?_⟩
          conv => whnf
          repeat' first | ((with_reducible refine Box.mk ?_); conv => whnf) | ((with_reducible refine And.intro (fun _ => ?_) (fun _ => ?_)) <;> conv => whnf) | fail
          refine ⟨_, ACall.of_pure r5 rfl ⟨rfl, rfl⟩, ?_⟩
          conv => whnf
          repeat' first | ((with_reducible refine Box.mk ?_); conv => whnf) | ((with_reducible refine And.intro (fun _ => ?_) (fun _ => ?_)) <;> conv => whnf) | fail
          all_goals try (rename_i hbad; exact absurd ⟨rfl, rfl, rfl, rfl, rfl⟩ hbad)
          refine ⟨_, ACall.of_pure c4 rfl ⟨rfl, rfl⟩, ?_⟩
          conv => whnf
          repeat' first | ((with_reducible refine Box.mk ?_); conv => whnf) | ((with_reducible refine And.intro (fun _ => ?_) (fun _ => ?_)) <;> conv => whnf) | fail
          refine ⟨_, ACall.of_pure r4 rfl ⟨rfl, rfl⟩, ?_⟩
          conv => whnf
          repeat' first | ((with_reducible refine Box.mk ?_); conv => whnf) | ((with_reducible refine And.intro (fun _ => ?_) (fun _ => ?_)) <;> conv => whnf) | fail
          all_goals try (rename_i hbad; exact absurd ⟨rfl, rfl, rfl, rfl, rfl⟩ hbad)
          refine ⟨_, ACall.of_pure (six_ok W hW) rfl ⟨rfl, rfl⟩, ?_⟩
          conv => whnf
          repeat' first | ((with_reducible refine Box.mk ?_); conv => whnf) | ((with_reducible refine And.intro (fun _ => ?_) (fun _ => ?_)) <;> conv => whnf) | fail
          refine ⟨_, ACall.of_pure (rSix_ok W) rfl ⟨rfl, rfl⟩, ?_⟩
          conv => whnf
          repeat' first | ((with_reducible refine Box.mk ?_); conv => whnf) | ((with_reducible refine And.intro (fun _ => ?_) (fun _ => ?_)) <;> conv => whnf) | fail
          all_goals first
            | rfl
            | (rename_i hbad; exact absurd ⟨rfl, rfl, rfl, rfl, rfl⟩ hbad)))
    · rw [hb] at hg he
      have hg : ofPathK p = g := hg
      rw [wantK_of hb] at hg
      have he : (0 : Int) = e := he
      subst hg he
      conv => whnf
      repeat' first | ((with_reducible refine Box.mk ?_); conv => whnf) | ((with_reducible refine And.intro (fun _ => ?_) (fun _ => ?_)) <;> conv => whnf) | fail
      all_goals try contradiction
      all_goals try (rename_i hbad; exact absurd ⟨rfl, rfl, rfl, rfl, rfl⟩ hbad)
      all_goals try (rename_i hbad; exact absurd ⟨rfl, rfl, z1, z2, rfl⟩ hbad)
      all_goals (
        refine ⟨drawOk_of (by kernel_rfl), ?_⟩
        conv => whnf
        repeat' first | ((with_reducible refine Box.mk ?_); conv => whnf) | ((with_reducible refine And.intro (fun _ => ?_) (fun _ => ?_)) <;> conv => whnf) | fail
        refine ⟨_, ACall.of_pure q1 rfl ⟨rfl, rfl⟩, ?_⟩
        conv => whnf
        repeat' first | ((with_reducible refine Box.mk ?_); conv => whnf) | ((with_reducible refine And.intro (fun _ => ?_) (fun _ => ?_)) <;> conv => whnf) | fail
        refine ⟨_, ACall.of_pure q2 rfl ⟨rfl, rfl⟩, ?_⟩
        conv => whnf
        repeat' first | ((with_reducible refine Box.mk ?_); conv => whnf) | ((with_reducible refine And.intro (fun _ => ?_) (fun _ => ?_)) <;> conv => whnf) | fail
        refine ⟨_, ACall.of_pure q3 rfl ⟨rfl, rfl⟩, ?_⟩
        cases rightK k
        all_goals (
          conv => whnf
          repeat' first | ((with_reducible refine Box.mk ?_); conv => whnf) | ((with_reducible refine And.intro (fun _ => ?_) (fun _ => ?_)) <;> conv => whnf) | fail
          all_goals try contradiction
          refine ⟨_, ACall.of_pure c6 rfl ⟨rfl, rfl⟩, ?_⟩
          conv => whnf
          repeat' first | ((with_reducible refine Box.mk ?_); conv => whnf) | ((with_reducible refine And.intro (fun _ => ?_) (fun _ => ?_)) <;> conv => whnf) | fail
          refine ⟨_, ACall.of_pure r6 rfl ⟨rfl, rfl⟩, ?_⟩
          conv => whnf
          repeat' first | ((with_reducible refine Box.mk ?_); conv => whnf) | ((with_reducible refine And.intro (fun _ => ?_) (fun _ => ?_)) <;> conv => whnf) | fail
          all_goals try contradiction
          refine ⟨_, ACall.of_pure c5 rfl ⟨rfl, rfl⟩, ?_⟩
          conv => whnf
          repeat' first | ((with_reducible refine Box.mk ?_); conv => whnf) | ((with_reducible refine And.intro (fun _ => ?_) (fun _ => ?_)) <;> conv => whnf) | fail
          refine ⟨_, ACall.of_pure r5 rfl ⟨rfl, rfl⟩, ?_⟩
          conv => whnf
          repeat' first | ((with_reducible refine Box.mk ?_); conv => whnf) | ((with_reducible refine And.intro (fun _ => ?_) (fun _ => ?_)) <;> conv => whnf) | fail
          all_goals try (rename_i hbad; exact absurd ⟨rfl, rfl, rfl, rfl, rfl⟩ hbad)
          refine ⟨_, ACall.of_pure c4 rfl ⟨rfl, rfl⟩, ?_⟩
          conv => whnf
          repeat' first | ((with_reducible refine Box.mk ?_); conv => whnf) | ((with_reducible refine And.intro (fun _ => ?_) (fun _ => ?_)) <;> conv => whnf) | fail
          refine ⟨_, ACall.of_pure r4 rfl ⟨rfl, rfl⟩, ?_⟩
          conv => whnf
          repeat' first | ((with_reducible refine Box.mk ?_); conv => whnf) | ((with_reducible refine And.intro (fun _ => ?_) (fun _ => ?_)) <;> conv => whnf) | fail
          all_goals try (rename_i hbad; exact absurd ⟨rfl, rfl, rfl, rfl, rfl⟩ hbad)
          refine ⟨_, ACall.of_pure (six_ok W hW) rfl ⟨rfl, rfl⟩, ?_⟩
          conv => whnf
          repeat' first | ((with_reducible refine Box.mk ?_); conv => whnf) | ((with_reducible refine And.intro (fun _ => ?_) (fun _ => ?_)) <;> conv => whnf) | fail
          refine ⟨_, ACall.of_pure (rSix_ok W) rfl ⟨rfl, rfl⟩, ?_⟩
          conv => whnf
          repeat' first | ((with_reducible refine Box.mk ?_); conv => whnf) | ((with_reducible refine And.intro (fun _ => ?_) (fun _ => ?_)) <;> conv => whnf) | fail
          all_goals first
            | rfl
            | (rename_i hbad; exact absurd ⟨rfl, rfl, rfl, rfl, rfl⟩ hbad)))
end Go.Proofs.YtlmdacgkaailiaaDoor
