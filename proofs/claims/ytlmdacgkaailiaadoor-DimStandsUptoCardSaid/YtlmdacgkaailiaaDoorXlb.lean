/- The program's contracts: texts joined into one: KeyLaw3 ArgsKey LawKey2 LawKey3 DimLaw Ref7f Ref8b Ref8c LawDim ArgsDim. -/
import Derived.Test.YtlmdacgkaailiaaDoorXla
import Derived.Test.YtlmdacgkaailiaaDoorXvb

section
/- key, plain laws: how keys are ordered. -/
namespace Go.Proofs.YtlmdacgkaailiaaDoor
open Go.Ve

theorem cmpI_lt {a b : Int} : cmpI a b < 0 ↔ a < b := by unfold cmpI; split <;> (try split) <;> omega
theorem cmpI_eq {a b : Int} : cmpI a b = 0 ↔ a = b := by unfold cmpI; split <;> (try split) <;> omega
theorem cmpI_le {a b : Int} : cmpI a b ≤ 0 ↔ a ≤ b := by unfold cmpI; split <;> (try split) <;> omega
theorem cmpI_neg {a b : Int} (h : a < b) : cmpI a b = -1 := by unfold cmpI; rw [if_pos h]
theorem half_lt {A B : Nat} : A < B ↔ (A / H64 < B / H64 ∨ (A / H64 = B / H64 ∧ A % H64 < B % H64)) := by
  have h1 := Nat.div_add_mod A H64
  have h2 := Nat.div_add_mod B H64
  refine ⟨fun h => ?_, fun h => ?_⟩
  · rcases Nat.lt_or_ge (A / H64) (B / H64) with h3 | h3
    · exact .inl h3
    · have h4 : A / H64 = B / H64 := Nat.le_antisymm (Nat.div_le_div_right (Nat.le_of_lt h)) h3
      rw [h4] at h1
      exact .inr ⟨h4, by omega⟩
  · rcases h with h | ⟨h, h'⟩
    · exact Nat.lt_of_not_le fun h3 => absurd (Nat.div_le_div_right (c := H64) h3) (by omega)
    · rw [h] at h1; omega
theorem wcmp_cases (A B : Nat) : (A < B ∧ wcmp A B = -1) ∨ (A = B ∧ wcmp A B = 0) ∨ (B < A ∧ wcmp A B = 1) := by
  have h1 := @half_lt A B
  have h2 := @half_lt B A
  unfold wcmp orI orI orI cmpI
  rcases Nat.lt_trichotomy A B with h | h | h
  · refine .inl ⟨h, ?_⟩
    rcases h1.1 h with h3 | ⟨h3, h4⟩
    · rw [if_neg (by rw [if_pos (by omega)]; decide), if_pos (by omega)]
    · rw [if_pos (by rw [if_neg (by omega), if_neg (by omega)]), if_neg (by rw [if_pos (by omega)]; decide), if_pos (by omega)]
  · subst h
    refine .inr (.inl ⟨rfl, ?_⟩)
    simp
  · refine .inr (.inr ⟨h, ?_⟩)
    rcases h2.1 h with h3 | ⟨h3, h4⟩
    · rw [if_neg (by rw [if_neg (by omega), if_pos (by omega)]; decide), if_neg (by omega), if_pos (by omega)]
    · rw [if_pos (by rw [if_neg (by omega), if_neg (by omega)]), if_neg (by rw [if_neg (by omega), if_pos (by omega)]; decide), if_neg (by omega), if_pos (by omega)]
theorem cb_self : ∀ (a : Bs), Lib.compareBytes a a = 0
  | [] => rfl
  | c :: a => by rw [Lib.compareBytes, if_neg (UInt8.lt_irrefl c), if_neg (UInt8.lt_irrefl c), cb_self a]
theorem cb_ahead : ∀ (a : Bs) (c : UInt8) (s : Bs), Lib.compareBytes a (a ++ c :: s) = -1
  | [], _, _ => rfl
  | d :: a, c, s => by rw [List.cons_append, Lib.compareBytes, if_neg (UInt8.lt_irrefl d), if_neg (UInt8.lt_irrefl d), cb_ahead a c s]
theorem cb_between : ∀ {a x s : Bs}, Lib.compareBytes a x ≤ 0 → Lib.compareBytes x (a ++ s) ≤ 0 → ∃ t, x = a ++ t ∧ Lib.compareBytes t s ≤ 0
  | [], x, s, _, h => ⟨x, rfl, h⟩
  | c :: a, [], s, h, _ => by rw [Lib.compareBytes] at h; omega
  | c :: a, d :: x, s, h1, h2 => by
    rw [Lib.compareBytes] at h1
    rw [List.cons_append, Lib.compareBytes] at h2
    by_cases e1 : c < d
    · rw [if_neg (UInt8.lt_asymm e1), if_pos e1] at h2; omega
    · by_cases e2 : d < c
      · rw [if_neg e1, if_pos e2] at h1; omega
      · rw [if_neg e1, if_neg e2] at h1
        rw [if_neg e2, if_neg e1] at h2
        obtain ⟨t, rfl, ht⟩ := cb_between h1 h2
        have e : c = d := UInt8.le_antisymm (UInt8.not_lt.1 e2) (UInt8.not_lt.1 e1)
        exact ⟨t, by rw [e]; rfl, ht⟩
theorem cb_nil {t : Bs} (h : Lib.compareBytes t [] ≤ 0) : t = [] := by
  cases t with
  | nil => rfl
  | cons c t => rw [Lib.compareBytes] at h; omega
theorem splitDot_mid : ∀ (a t : Bs), splitDot (a ++ 46 :: t) = splitDot a ++ splitDot t
  | [], t => by simp [splitDot]
  | c :: a, t => by
    have ih := splitDot_mid a t
    rw [List.cons_append]
    by_cases hc : c = 46
    · simp [splitDot, hc, ih]
    · have d : ∀ u : Bs, splitDot (c :: u) = (match splitDot u with | [] => [[c]] | x :: xs => (c :: x) :: xs) := fun u => by rw [splitDot, if_neg hc] <;> (cases splitDot u <;> rfl)
      rw [d, d, ih]
      cases h : splitDot a with
      | nil => exact absurd h (splitDot_ne a)
      | cons x l => rfl
theorem joinD_app : ∀ {l r : List Bs}, l ≠ [] → r ≠ [] → joinD (l ++ r) = joinD l ++ 46 :: joinD r
  | [x], y :: r, _, _ => by simp [joinD]
  | x :: z :: l, r, _, hr => by
    have ih := joinD_app (l := z :: l) (r := r) (by simp) hr
    simp only [List.cons_append, joinD] at ih ⊢
    rw [ih]; simp
theorem mem_joinD : ∀ {l : List Bs} {c : UInt8}, c ∈ joinD l → c = 46 ∨ ∃ x ∈ l, c ∈ x
  | [], c, h => by simp [joinD] at h
  | [x], c, h => by simp [joinD] at h; exact .inr ⟨x, by simp, h⟩
  | x :: y :: l, c, h => by
    rw [joinD, List.mem_append, List.mem_cons] at h
    rcases h with h | h | h
    · exact .inr ⟨x, by simp, h⟩
    · exact .inl h
    · rcases mem_joinD h with h | ⟨z, hz, h⟩
      · exact .inl h
      · exact .inr ⟨z, List.mem_cons_of_mem _ hz, h⟩
theorem path_byte {p : Bs} (h : okPath p = true) {c : UInt8} (hc : c ∈ p) : ¬ c < 46 := by
  rw [← join_labs h] at hc
  rcases mem_joinD hc with rfl | ⟨x, hx, hcx⟩
  · exact UInt8.lt_irrefl _
  · have := labs_lab x hx
    unfold isLabel at this
    rw [Bool.and_eq_true, List.all_eq_true] at this
    have h3 := of_decide_eq_true (this.1 c hcx)
    intro h4
    have h5 : c.toNat < 46 := h4
    unfold okByte at h3
    omega
theorem labs_nil_path {p : Bs} (h : okPath p = true) (hl : labs p = []) : p = [] := by rw [← join_labs h, hl]; rfl
theorem labs_split {p : Bs} (h : okPath p = true) (hp : p ≠ []) : labs p = splitDot p := by
  unfold labs
  rw [h]
  cases p with
  | nil => exact absurd rfl hp
  | cons c s => rfl
theorem labs_ne {p : Bs} (h : okPath p = true) (hp : p ≠ []) : labs p ≠ [] := by rw [labs_split h hp]; exact splitDot_ne _
/-- A path whose labels begin another's: the bytes do too. -/
theorem labs_prefix {a b : Bs} (ha : okPath a = true) (hb : okPath b = true) (h : labs a <+: labs b) : a = b ∨ a = [] ∨ ∃ r, b = a ++ 46 :: r := by
  obtain ⟨r, hr⟩ := h
  by_cases h1 : labs a = []
  · exact .inr (.inl (labs_nil_path ha h1))
  · by_cases h2 : r = []
    · rw [h2, List.append_nil] at hr
      exact .inl (by rw [← join_labs ha, ← join_labs hb, hr])
    · exact .inr (.inr ⟨joinD r, by rw [← join_labs hb, ← hr, joinD_app h1 h2, join_labs ha]⟩)
theorem prefix_labs {a b r : Bs} (ha : okPath a = true) (hb : okPath b = true) (hne : a ≠ []) (h : b = a ++ 46 :: r) : labs a <+: labs b := by
  rw [labs_split ha hne, labs_split hb (by rw [h]; simp), h, splitDot_mid]
  exact List.prefix_append _ _
theorem path_between {a b x : Bs} (ha : okPath a = true) (hb : okPath b = true) (hx : okPath x = true) (h : labs a <+: labs b) (h1 : Lib.compareBytes a x ≤ 0) (h2 : Lib.compareBytes x b ≤ 0) : labs a <+: labs x := by
  rcases labs_prefix ha hb h with rfl | rfl | ⟨r, rfl⟩
  · obtain ⟨t, rfl, ht⟩ := cb_between (s := []) h1 (by rw [List.append_nil]; exact h2)
    rw [cb_nil ht, List.append_nil]; exact List.prefix_rfl
  · exact List.nil_prefix
  · by_cases hne : a = []
    · subst hne; exact List.nil_prefix
    · obtain ⟨t, rfl, ht⟩ := cb_between h1 h2
      cases t with
      | nil => rw [List.append_nil]; exact List.prefix_rfl
      | cons c t =>
        have hc := path_byte hx (c := c) (by simp)
        rw [Lib.compareBytes, if_neg hc] at ht
        by_cases h4 : (46 : UInt8) < c
        · rw [if_pos h4] at ht; omega
        · have : c = 46 := UInt8.le_antisymm (UInt8.not_lt.1 h4) (UInt8.not_lt.1 hc)
          subst this
          exact prefix_labs ha hx hne rfl

theorem orI_cons_le {x : Int} {l : List Int} : orI (x :: l) ≤ 0 ↔ x < 0 ∨ (x = 0 ∧ orI l ≤ 0) := by
  rw [orI]; split <;> omega
theorem wcmp_le {A B : Nat} : wcmp A B < 0 ↔ A < B := by
  rcases wcmp_cases A B with ⟨h, e⟩ | ⟨h, e⟩ | ⟨h, e⟩ <;> rw [e] <;> omega
theorem wcmp_zero {A B : Nat} : wcmp A B = 0 ↔ A = B := by
  rcases wcmp_cases A B with ⟨h, e⟩ | ⟨h, e⟩ | ⟨h, e⟩ <;> rw [e] <;> omega
theorem cmpK_self (a : Ky) : cmpK a a = 0 := by
  unfold cmpK
  rw [cmpI_eq.2 rfl, wcmp_zero.2 rfl, cb_self, cmpI_eq.2 rfl]; rfl
theorem cmpK_over {a b : Ky} (na : a.n < 2 ^ 128) (nb : b.n < 2 ^ 128) (h : overK a b = true) (hne : a ≠ b) : cmpK a b = -1 := by
  obtain ⟨ha, hb, hk, hp⟩ := (over_iff na nb).1 h
  have la := letters_len ha
  have lb := letters_len hb
  have hle := hp.length_le
  unfold cmpK
  rw [cmpI_eq.2 hk, orI, if_pos rfl]
  by_cases h3 : a.kind = 3
  · obtain ⟨a1, a2, a3⟩ := right_path ha h3
    obtain ⟨b1, b2, b3⟩ := right_path hb (by omega)
    rw [wcmp_zero.2 (by rw [a3, b3]), orI, if_pos rfl]
    have e2 : lettersL a = labs a.path := by unfold lettersL; rw [if_pos h3]
    have e3 : lettersL b = labs b.path := by unfold lettersL; rw [if_pos (by omega)]
    rw [e2, e3] at hp
    have hcb : Lib.compareBytes a.path b.path = -1 := by
      rcases labs_prefix a1 b1 hp with h | h | ⟨r, h⟩
      · exact absurd (letters_inj na nb ha hb hk (by rw [e2, e3, h])) hne
      · have hb0 : b.path ≠ [] := fun h' => hne (letters_inj na nb ha hb hk (by rw [e2, e3, h, h']))
        rw [h]
        cases hbp : b.path with
        | nil => exact absurd hbp hb0
        | cons c s => rfl
      · rw [h]; exact cb_ahead _ _ _
    rw [hcb]; rfl
  · obtain ⟨_, a1, a2, a3, a4⟩ := right_addr ha h3
    obtain ⟨_, b1, b2, b3, b4⟩ := right_addr hb (by omega)
    have e2 : lettersL a = letB a.n a.len.toNat := by unfold lettersL; rw [if_neg h3]
    have e3 : lettersL b = letB b.n b.len.toNat := by unfold lettersL; rw [if_neg (by omega)]
    rw [e2, e3] at hp
    obtain ⟨h1, h2⟩ := (letB_prefix na nb (by omega)).1 hp
    rw [← a3] at h2
    have hn : a.n ≤ b.n := by rw [h2]; exact topN_le _ _
    rcases Nat.lt_or_ge a.n b.n with h4 | h4
    · rcases wcmp_cases a.n b.n with ⟨h, e⟩ | ⟨h, e⟩ | ⟨h, e⟩
      · rw [e]; rfl
      · omega
      · omega
    · have en : a.n = b.n := by omega
      rw [wcmp_zero.2 en, orI, if_pos rfl, a4, b4, show Lib.compareBytes [] [] = 0 from rfl, orI, if_pos rfl]
      have : a.len ≠ b.len := fun e => hne (ky_ext hk e en (by rw [a4, b4]))
      rw [cmpI_neg (by omega)]; rfl
theorem block_over {a b x : Ky} (na : a.n < 2 ^ 128) (nb : b.n < 2 ^ 128) (nx : x.n < 2 ^ 128) (h : overK a b = true) (hx : rightK x = true) (h1 : cmpK a x ≤ 0) (h2 : cmpK x b ≤ 0) : overK a x = true := by
  obtain ⟨ha, hb, hk, hp⟩ := (over_iff na nb).1 h
  unfold cmpK at h1 h2
  rw [orI_cons_le, cmpI_lt, cmpI_eq] at h1 h2
  have hkx : a.kind = x.kind := by omega
  have h1 := (h1.resolve_left (by omega)).2
  have h2 := (h2.resolve_left (by omega)).2
  rw [orI_cons_le, wcmp_le, wcmp_zero, orI_cons_le] at h1 h2
  refine (over_iff na nx).2 ⟨ha, hx, hkx, ?_⟩
  by_cases h3 : a.kind = 3
  · obtain ⟨a1, a2, a3⟩ := right_path ha h3
    obtain ⟨b1, b2, b3⟩ := right_path hb (by omega)
    obtain ⟨x1, x2, x3⟩ := right_path hx (by omega)
    have e2 : lettersL a = labs a.path := by unfold lettersL; rw [if_pos h3]
    have e3 : lettersL b = labs b.path := by unfold lettersL; rw [if_pos (by omega)]
    have e4 : lettersL x = labs x.path := by unfold lettersL; rw [if_pos (by omega)]
    rw [e2, e4]
    rw [e2, e3] at hp
    refine path_between a1 b1 x1 hp ?_ ?_ <;> omega
  · obtain ⟨_, a1, a2, a3, a4⟩ := right_addr ha h3
    obtain ⟨_, b1, b2, b3, b4⟩ := right_addr hb (by omega)
    obtain ⟨_, x1, x2, x3, x4⟩ := right_addr hx (by omega)
    have e2 : lettersL a = letB a.n a.len.toNat := by unfold lettersL; rw [if_neg h3]
    have e3 : lettersL b = letB b.n b.len.toNat := by unfold lettersL; rw [if_neg (by omega)]
    have e4 : lettersL x = letB x.n x.len.toNat := by unfold lettersL; rw [if_neg (by omega)]
    rw [e2, e3] at hp
    obtain ⟨p1, p2⟩ := (letB_prefix na nb (by omega)).1 hp
    rw [e2, e4]
    have l1 : a.n ≤ x.n := by omega
    have l2 : x.n ≤ b.n := by omega
    have t1 := topN_mono l1 a.len.toNat
    have t2 := topN_mono l2 a.len.toNat
    rw [← a3] at t1 p2
    have ht : topN x.n a.len.toNat = a.n := by omega
    have hl : a.len ≤ x.len := by
      rcases Int.lt_or_le x.len a.len with hlt | hge
      · have e5 : topN (topN x.n a.len.toNat) x.len.toNat = topN x.n x.len.toNat := by
          rw [topN_top (by omega) (by omega)]; congr 1; omega
        rw [ht, ← x3] at e5
        have := topN_le a.n x.len.toNat
        have en : a.n = x.n := by omega
        rw [a4, x4, show Lib.compareBytes [] [] = 0 from rfl, orI_cons_le, cmpI_lt, cmpI_eq] at h1
        omega
      · exact hge
    exact (letB_prefix na nx (by omega)).2 ⟨by omega, by rw [← a3, ht]⟩
end Go.Proofs.YtlmdacgkaailiaaDoor
end

section
/- key: arguments read as data. -/
namespace Go.Proofs.YtlmdacgkaailiaaDoor
open Go.Ve

theorem lit_rng {k : IntKind} {n : Int} (h : (Lit.int k n).wf = true) : k.min ≤ n ∧ n ≤ k.max := by
  simpa [Lit.wf] using h
theorem u64_lit {n : Int} (h : (Lit.int .u64 n).wf = true) : ∃ m : Nat, n = (m : Int) ∧ m < H64 := by
  have h1 : (0 : Int) ≤ n ∧ n ≤ 18446744073709551615 := lit_rng h
  exact ⟨n.toNat, by omega, by show n.toNat < 18446744073709551616; omega⟩
theorem u32_lit {n : Int} (h : (Lit.int .u32 n).wf = true) : ∃ m : Nat, n = (m : Int) ∧ m < 4294967296 := by
  have h1 : (0 : Int) ≤ n ∧ n ≤ 4294967295 := lit_rng h
  exact ⟨n.toNat, by omega, by omega⟩
theorem i64_lit {n : Int} (h : (Lit.int .i64 n).wf = true) : -9223372036854775808 ≤ n ∧ n ≤ 9223372036854775807 := lit_rng h
theorem halves {a b : Nat} (hb : b < H64) : (a * H64 + b) / H64 = a ∧ (a * H64 + b) % H64 = b := by
  refine ⟨?_, ?_⟩
  · rw [Nat.mul_comm, Nat.mul_add_div (by decide), Nat.div_eq_of_lt hb, Nat.add_zero]
  · rw [Nat.mul_comm, Nat.mul_add_mod, Nat.mod_eq_of_lt hb]
theorem halves_lt {a b : Nat} (ha : a < H64) (hb : b < H64) : a * H64 + b < 2 ^ 128 := by
  have h1 : (a + 1) * H64 ≤ H64 * H64 := Nat.mul_le_mul_right _ ha
  rw [hh, Nat.add_mul, Nat.one_mul] at h1
  omega
theorem wide_inv {B : Nat} {x : AV} (h : WfV ty B 59 x) : ∃ W : Nat, x = wv W ∧ W < 2 ^ 128 := by
  obtain ⟨xs, rfl, h1⟩ := h.struct_inv rfl
  obtain ⟨x1, r1, rfl, ha, h2⟩ := h1.cons_inv
  obtain ⟨x2, r2, rfl, hb, h3⟩ := h2.cons_inv
  obtain rfl := h3.nil_inv
  obtain ⟨a', rfl, ha2⟩ := ha.int_inv rfl
  obtain ⟨b', rfl, hb2⟩ := hb.int_inv rfl
  obtain ⟨a, rfl, ha3⟩ := u64_lit ha2
  obtain ⟨b, rfl, hb3⟩ := u64_lit hb2
  obtain ⟨e1, e2⟩ := halves (a := a) hb3
  exact ⟨a * H64 + b, by unfold wv; rw [e1, e2]; rfl, halves_lt ha3 hb3⟩
/-- A key as data. -/
structure KOk (B : Nat) (k : Ky) : Prop where
  n : k.n < 2 ^ 128
  path : k.path.length ≤ B
  kind : -9223372036854775808 ≤ k.kind ∧ k.kind ≤ 9223372036854775807
  len : -9223372036854775808 ≤ k.len ∧ k.len ≤ 9223372036854775807
theorem key_wf {B : Nat} {xs : List AV} (h : Wf ty B 48 xs) : ∃ k : Ky, xs = [.int .i64 k.kind, .int .i64 k.len, .int .u64 ((k.n / H64 : Nat) : Int), .int .u64 ((k.n % H64 : Nat) : Int), .str k.path] ∧ KOk B k := by
  have h0 := h.struct_inv rfl
  obtain ⟨x1, r1, rfl, hk, h1⟩ := h0.cons_inv
  obtain ⟨x2, r2, rfl, hl, h2⟩ := h1.cons_inv
  obtain ⟨x3, r3, rfl, ha, h3⟩ := h2.cons_inv
  obtain ⟨x4, r4, rfl, hb, h4⟩ := h3.cons_inv
  obtain ⟨x5, r5, rfl, hp, h5⟩ := h4.cons_inv
  obtain rfl := h5.nil_inv
  obtain ⟨kd, rfl, hk2⟩ := hk.int_inv rfl
  obtain ⟨ln, rfl, hl2⟩ := hl.int_inv rfl
  obtain ⟨a', rfl, ha2⟩ := ha.int_inv rfl
  obtain ⟨b', rfl, hb2⟩ := hb.int_inv rfl
  obtain ⟨p, rfl, hp2⟩ := hp.str_inv rfl
  obtain ⟨a, rfl, ha3⟩ := u64_lit ha2
  obtain ⟨b, rfl, hb3⟩ := u64_lit hb2
  obtain ⟨e1, e2⟩ := halves (a := a) hb3
  exact ⟨⟨kd, ln, a * H64 + b, p⟩, by show _ = [_, _, AV.int _ (((a * H64 + b) / H64 : Nat) : Int), AV.int _ (((a * H64 + b) % H64 : Nat) : Int), _]; rw [e1, e2]; rfl, halves_lt ha3 hb3, hp2, i64_lit hk2, i64_lit hl2⟩
theorem key_inv {B : Nat} {x : AV} (h : WfV ty B 48 x) : ∃ k : Ky, x = kv k ∧ KOk B k := by
  obtain ⟨i, xs, h1, h2, h3⟩ := h
  obtain ⟨k, rfl, hk⟩ := key_wf h2
  rcases h3 with ⟨_, rfl⟩ | ⟨ha, _⟩
  · exact ⟨k, rfl, hk⟩
  · cases h1; cases ha
end Go.Proofs.YtlmdacgkaailiaaDoor
end

section
/- key: the outright statements' walks. -/
namespace Go.Proofs.YtlmdacgkaailiaaDoor
open Go.Ve

theorem over_refl {a : Ky} (na : a.n < 2 ^ 128) : overK a a = rightK a := by
  rw [Bool.eq_iff_iff, over_iff na na]
  exact ⟨fun h => h.1, fun h => ⟨h, h, rfl, List.prefix_rfl⟩⟩
theorem over_anti {a b : Ky} (na : a.n < 2 ^ 128) (nb : b.n < 2 ^ 128) (h1 : overK a b = true) (h2 : overK b a = true) : a = b := by
  obtain ⟨h3, h4, h5, h6⟩ := (over_iff na nb).1 h1
  obtain ⟨_, _, _, h7⟩ := (over_iff nb na).1 h2
  exact letters_inj na nb h3 h4 h5 (h6.eq_of_length (Nat.le_antisymm h6.length_le h7.length_le))
theorem over_trans {a b c : Ky} (na : a.n < 2 ^ 128) (nb : b.n < 2 ^ 128) (nc : c.n < 2 ^ 128) (h1 : overK a b = true) (h2 : overK b c = true) : overK a c = true := by
  obtain ⟨h3, h4, h5, h6⟩ := (over_iff na nb).1 h1
  obtain ⟨h7, h8, h9, h10⟩ := (over_iff nb nc).1 h2
  exact (over_iff na nc).2 ⟨h3, h8, h5.trans h9, h6.trans h10⟩
theorem over_chain {a b c : Ky} (na : a.n < 2 ^ 128) (nb : b.n < 2 ^ 128) (nc : c.n < 2 ^ 128) (h1 : overK a c = true) (h2 : overK b c = true) : overK a b = true ∨ overK b a = true := by
  obtain ⟨h3, h4, h5, h6⟩ := (over_iff na nc).1 h1
  obtain ⟨h7, h8, h9, h10⟩ := (over_iff nb nc).1 h2
  rcases Nat.le_total (lettersL a).length (lettersL b).length with h | h
  · exact .inl ((over_iff na nb).2 ⟨h3, h7, h5.trans h9.symm, List.prefix_of_prefix_length_le h6 h10 h⟩)
  · exact .inr ((over_iff nb na).2 ⟨h7, h3, h9.trans h5.symm, List.prefix_of_prefix_length_le h10 h6 h⟩)
theorem bimp {a b : Bool} (h : a = true → b = true) : (!a || b) = true := by cases a <;> simp_all
end Go.Proofs.YtlmdacgkaailiaaDoor
end

section
/- key: the outright statements' walks, further. -/
namespace Go.Proofs.YtlmdacgkaailiaaDoor
open Go.Ve

theorem cutU_len (k : Ky) (n : Int) : (cutU k n).path.length ≤ 1048576 := by
  unfold cutU
  cases h : rightK k
  · exact Nat.zero_le _
  · show (cutK k n).path.length ≤ 1048576
    unfold cutK
    split
    · rename_i h3
      show (joinD _).length ≤ 1048576
      have h1 := joinD_take_len (l := labs k.path) (B := 16) (i := (min (max n 0) k.len).toNat) (fun x hx => isLabel_len (labs_lab x hx))
      have h8 := (labs_len k.path).1
      omega
    · exact Nat.zero_le _
theorem cutU_n {k : Ky} (hn : k.n < 2 ^ 128) (n : Int) : (cutU k n).n < 2 ^ 128 := by
  unfold cutU
  cases h : rightK k
  · exact Nat.two_pow_pos 128
  · exact cut_n hn n
theorem not_over {a k : Ky} (h : rightK k = false) : overK a k = false := by unfold overK; rw [h, Bool.and_false, Bool.false_and]
theorem cut_over {k : Ky} (hn : k.n < 2 ^ 128) (h : rightK k = true) (n : Int) : overK (cutU k n) k = true := by
  have e : cutU k n = cutK k n := by unfold cutU; rw [h]; rfl
  obtain ⟨c1, c2, c3⟩ := cut_right h n
  rw [e]
  exact (over_iff (cut_n hn n) hn).2 ⟨c1, h, c2, by rw [c3]; exact List.take_prefix _ _⟩
theorem cut_cut {k : Ky} (hn : k.n < 2 ^ 128) (h : rightK k = true) (n m : Int) : cutU (cutU k n) m = cutU k (if m < n then m else n) := by
  have e : ∀ j, cutU k j = cutK k j := fun j => by unfold cutU; rw [h]; rfl
  obtain ⟨c1, c2, c3⟩ := cut_right h n
  have e2 : cutU (cutK k n) m = cutK (cutK k n) m := by unfold cutU; rw [c1]; rfl
  rw [e, e, e2]
  obtain ⟨d1, d2, d3⟩ := cut_right c1 m
  obtain ⟨f1, f2, f3⟩ := cut_right h (if m < n then m else n)
  refine letters_inj (cut_n (cut_n hn n) m) (cut_n hn _) d1 f1 (by rw [d2, c2, f2]) ?_
  rw [d3, c3, f3, List.take_take]
  congr 1; split <;> omega
theorem over_cut {a k : Ky} (na : a.n < 2 ^ 128) (hn : k.n < 2 ^ 128) (h : rightK k = true) : overK a k = (rightK a && decide (cutU k a.len = a)) := by
  have e : ∀ j, cutU k j = cutK k j := fun j => by unfold cutU; rw [h]; rfl
  obtain ⟨c1, c2, c3⟩ := cut_right h a.len
  rw [Bool.eq_iff_iff, over_iff na hn, Bool.and_eq_true, decide_eq_true_iff, e]
  refine ⟨fun ⟨h1, _, h3, h4⟩ => ⟨h1, letters_inj (cut_n hn _) na c1 h1 (by rw [c2, h3]) ?_⟩, fun ⟨h1, h2⟩ => ⟨h1, h, by rw [← c2, h2], ?_⟩⟩
  · have := letters_len h1
    rw [c3, show (max a.len 0).toNat = (lettersL a).length by omega]
    exact (List.prefix_iff_eq_take.1 h4).symm
  · rw [← h2, c3]; exact List.take_prefix _ _
end Go.Proofs.YtlmdacgkaailiaaDoor
end

section
/- dim: the plain law. -/
namespace Go.Proofs.YtlmdacgkaailiaaDoor
open Go.Ve

theorem lenD_yes {d : Dm} {l : Int} (h : 0 ≤ lenD d l) : rightD d = true ∧ 0 ≤ l ∧ l ≤ depthD d ∧ lenD d l = max 0 (widthK d.kind - l * d.step) := by
  unfold lenD at h ⊢
  by_cases hc : rightD d = true ∧ 0 ≤ l ∧ l ≤ depthD d
  · rw [if_pos hc]; exact ⟨hc.1, hc.2.1, hc.2.2, rfl⟩
  · rw [if_neg hc] at h; omega
theorem right_kind {d : Dm} (h : rightD d = true) : d.kind = 1 ∨ d.kind = 2 ∨ d.kind = 3 := by
  obtain ⟨_, h1, h2⟩ := rightD_step h
  unfold widthK at h2
  split at h2
  · left; assumption
  · split at h2
    · right; left; assumption
    · split at h2
      · right; right; assumption
      · omega
theorem lenD_mono {d : Dm} {i j : Int} (hij : i ≤ j) (hi : 0 ≤ lenD d i) (hj : 0 ≤ lenD d j) : lenD d j ≤ lenD d i := by
  obtain ⟨hr, h1, h2, h3⟩ := lenD_yes hi
  obtain ⟨_, k1, k2, k3⟩ := lenD_yes hj
  obtain ⟨_, s1, s2⟩ := rightD_step hr
  have := Int.mul_le_mul_of_nonneg_right hij (show 0 ≤ d.step by omega)
  omega
theorem onD_yes {d : Dm} {i : Int} {k : Ky} (h : onD d i k = true) : rightK k = true ∧ 0 ≤ lenD d i ∧ k.kind = d.kind ∧ k.len ≤ lenD d i ∧ (d.kind ≠ 3 → k.len = lenD d i) := by
  unfold onD at h
  rw [Bool.and_eq_true, decide_eq_true_iff] at h
  obtain ⟨h1, h2, h3, h4⟩ := h
  refine ⟨h1, h2, h3, by omega, fun h5 => by omega⟩
theorem cutD_yes {d : Dm} {i : Int} {k : Ky} (h : 0 ≤ lenD d i) (hk : k.kind = d.kind) : cutD d i k = cutU k (lenD d i) := by unfold cutD; rw [if_neg (by omega)]
theorem cutU_right {k : Ky} (h : rightK k = true) (n : Int) : cutU k n = cutK k n := by unfold cutU; rw [h, cond_true]
theorem cutU_wrong {k : Ky} (h : rightK k = false) (n : Int) : cutU k n = zeroK := by unfold cutU; rw [h, cond_false]
theorem on_cut {d : Dm} {i : Int} {k : Ky} (hn : k.n < 2 ^ 128) (h : onD d i k = true) : cutD d i k = k := by
  obtain ⟨h1, h2, h3, h4, _⟩ := onD_yes h
  rw [cutD_yes h2 h3, cutU_right h1]
  obtain ⟨c1, c2, c3⟩ := cut_right h1 (lenD d i)
  refine letters_inj (cut_n hn _) hn c1 h1 c2 ?_
  have := letters_len h1
  rw [c3, List.take_of_length_le (by omega)]
theorem on_on {d : Dm} {i j : Int} {k : Ky} (hij : i ≤ j) (hj : 0 ≤ lenD d j) (h : onD d i k = true) : onD d j (cutD d j k) = true := by
  obtain ⟨h1, h2, h3, h4, h5⟩ := onD_yes h
  have hm := lenD_mono hij h2 hj
  rw [cutD_yes hj h3, cutU_right h1]
  obtain ⟨c1, c2, c3⟩ := cut_right h1 (lenD d j)
  have l1 := letters_len h1
  have l2 := letters_len c1
  rw [c3, List.length_take] at l2
  unfold onD
  rw [c1, Bool.true_and, decide_eq_true_iff]
  refine ⟨hj, by omega, ?_⟩
  by_cases hk : d.kind = 3
  · omega
  · have := h5 hk; omega
theorem zero_right : rightK zeroK = false := by kernel_rfl
theorem cutD_zero {d : Dm} {j : Int} : cutD d j zeroK = zeroK := by
  unfold cutD
  split
  · rfl
  · rw [cutU_wrong zero_right]
theorem cutD_cut {d : Dm} {i j : Int} {k : Ky} (hn : k.n < 2 ^ 128) (hij : i ≤ j) (hi : 0 ≤ lenD d i) (hj : 0 ≤ lenD d j) : cutD d j (cutD d i k) = cutD d j k := by
  have hm := lenD_mono hij hi hj
  by_cases hk : k.kind = d.kind
  · rw [cutD_yes hi hk, cutD_yes hj hk]
    cases hr : rightK k
    · rw [cutU_wrong hr, cutU_wrong hr, cutD_zero]
    · have e := cut_cut hn hr (lenD d i) (lenD d j)
      obtain ⟨c1, c2, c3⟩ := cut_right hr (lenD d i)
      rw [cutD_yes hj (by rw [cutU_right hr, c2, hk]), e]
      congr 1; split <;> omega
  · have e : ∀ l, cutD d l k = zeroK := fun l => by unfold cutD; rw [if_pos (.inr hk)]
    rw [e, e, cutD_zero]
theorem cutD_same {d : Dm} {i j : Int} {k x : Ky} (hn : k.n < 2 ^ 128) (hx : x.n < 2 ^ 128) (hij : i ≤ j) (hi : 0 ≤ lenD d i) (hj : 0 ≤ lenD d j) (h : cutD d i k = cutD d i x) : cutD d j k = cutD d j x := by
  rw [← cutD_cut hn hij hi hj, h, cutD_cut hx hij hi hj]
theorem cutD_n {d : Dm} {i : Int} {k : Ky} (hn : k.n < 2 ^ 128) : (cutD d i k).n < 2 ^ 128 := by
  unfold cutD; split
  · exact Nat.two_pow_pos 128
  · exact cutU_n hn _
theorem cutD_len (d : Dm) (i : Int) (k : Ky) : (cutD d i k).path.length ≤ 1048576 := by
  unfold cutD; split
  · exact Nat.zero_le _
  · exact cutU_len _ _

/-- Lengths fall, by the step or by what is left. -/
theorem steps_yes {d : Dm} (h : rightD d = true) : lenD d 0 = widthK d.kind ∧ 1 ≤ depthD d ∧ lenD d (depthD d) = 0 := by
  obtain ⟨_, h1, h2⟩ := rightD_step h
  have hd := @depthD_le d
  have hw := widthK_le d.kind
  have e := depthD_eq h
  have h4 : (widthK d.kind + d.step - 1) / d.step * d.step ≤ widthK d.kind + d.step - 1 := Int.ediv_mul_le _ (by omega)
  have h5 : widthK d.kind + d.step - 1 < ((widthK d.kind + d.step - 1) / d.step + 1) * d.step := Int.lt_ediv_add_one_mul_self _ (by omega)
  rw [← e] at h4 h5
  have h6 : 1 ≤ depthD d := by
    rw [e, Int.le_ediv_iff_mul_le (by omega)]; omega
  rw [Int.add_mul] at h5
  refine ⟨?_, h6, ?_⟩
  · rw [lenD, if_pos ⟨h, by omega, by omega⟩]; omega
  · rw [lenD, if_pos ⟨h, by omega, by omega⟩]; omega
theorem steps_at {d : Dm} (h : rightD d = true) {l : Int} (h0 : 0 ≤ l) (hl : l < depthD d) :
    lenD d (l + 1) < lenD d l ∧ (lenD d l - lenD d (l + 1) = d.step ∨ (lenD d l - lenD d (l + 1) < d.step ∧ l + 1 = depthD d)) ∧ levelD d (lenD d l) = l := by
  obtain ⟨_, h1, h2⟩ := rightD_step h
  have hw := widthK_le d.kind
  have hd := @depthD_le d
  have pos : ∀ i : Nat, (i : Int) < depthD d → lenAt (widthK d.kind) d.step i = widthK d.kind - i * d.step ∧ 0 < lenAt (widthK d.kind) d.step i := fun i hi => by
    have := (depth_iff h i).2 hi
    refine ⟨?_, this⟩
    unfold lenAt at this ⊢; omega
  obtain ⟨k, rfl⟩ : ∃ k : Nat, l = k := ⟨l.toNat, by omega⟩
  have hk := pos k hl
  have e0 := lenD_at h (i := k) (by omega)
  have e1 := lenD_at h (i := k + 1) (by omega)
  have es : ((k + 1 : Nat) : Int) = (k : Int) + 1 := by omega
  rw [es] at e1
  have ek : lenAt (widthK d.kind) d.step (k + 1) = max 0 (widthK d.kind - (k * d.step + d.step)) := by unfold lenAt; rw [es, Int.add_mul]; omega
  rw [e0, e1]
  refine ⟨by omega, ?_, ?_⟩
  · by_cases hp : ((k + 1 : Nat) : Int) < depthD d
    · left; have := pos (k + 1) hp; omega
    · have hend : ((k : Int) + 1) = depthD d := by omega
      by_cases hq : lenAt (widthK d.kind) d.step k - lenAt (widthK d.kind) d.step (k + 1) = d.step
      · left; exact hq
      · right; exact ⟨by omega, hend⟩
  · refine levelD_at h (by omega) rfl fun j hj => ?_
    have hjp := pos j (by omega)
    have : ((j : Int) + 1) * d.step ≤ (k : Int) * d.step := Int.mul_le_mul_of_nonneg_right (by omega) (by omega)
    rw [Int.add_mul] at this
    omega
end Go.Proofs.YtlmdacgkaailiaaDoor
end

section
/- key, the document's answer: Cut. -/
namespace Go.Proofs.YtlmdacgkaailiaaDoor
open Go.Ve

theorem of_take {k : Ky} (hn : k.n < 2 ^ 128) (h : rightK k = true) (m : Nat) (hm : (m : Int) ≤ k.len) : PCall P 69 [.int .i64 k.kind, .sl (strs ((lettersL k).take m))] (kv (cutK k m)) := by
  by_cases h3 : k.kind = 3
  · obtain ⟨a1, a2, a3⟩ := right_path h h3
    have e : lettersL k = labs k.path := by unfold lettersL; rw [if_pos h3]
    have hlab : ∀ x ∈ (labs k.path).take m, isLabel x = true := fun x hx => labs_lab x (List.mem_of_mem_take hx)
    have h8 : ((labs k.path).take m).length ≤ 8 := Nat.le_trans (by rw [List.length_take]; exact Nat.min_le_right _ _) (labs_len k.path).1
    obtain ⟨j1, j2⟩ := labs_join hlab h8
    have e2 : cutK k m = ⟨3, (((labs k.path).take m).length : Int), 0, joinD ((labs k.path).take m)⟩ := by
      rw [cutK, if_pos h3, show (min (max (m : Int) 0) k.len).toNat = m by omega, ofPathK, j2]
    rw [e, e2, h3]
    exact of3_ok _ 16 (fun x hx => isLabel_len (hlab x hx)) (by omega)
  · obtain ⟨a0, a1, a2, a3, a4⟩ := right_addr h h3
    have e : lettersL k = letB k.n k.len.toNat := by unfold lettersL; rw [if_neg h3]
    have e2 : cutK k m = ⟨k.kind, (m : Int), topN k.n m, []⟩ := by
      rw [cutK, if_neg h3, ofBitsK, show min (max (m : Int) 0) k.len = (m : Int) by omega, show (min (m : Int) 128).toNat = m by omega]
    rw [e, e2, letB_take, show min m k.len.toNat = m by omega]
    exact ofB_ok k.kind h3 k.n m hn (by omega)
theorem of_nils {k : Ky} (hn : k.n < 2 ^ 128) (h : rightK k = true) : PCall P 69 [.int .i64 k.kind, .nils] (kv (cutK k 0)) := by
  have h1 := letters_len h
  have := of_take hn h 0 (by omega)
  rw [List.take_zero] at this
  exact pNil2 this
theorem strs_take (l : List Bs) (m : Nat) : ((strs l).take m).drop 0 = strs (l.take m) := by simp [strs, List.map_take]
theorem strs_all (l : List Bs) : allLen 1 (strs l) := by
  intro c hc
  simp only [strs, List.mem_map] at hc
  obtain ⟨x, _, rfl⟩ := hc
  rfl
theorem cutK_min {k : Ky} (h : rightK k = true) (n : Int) : cutK k (min (max n 0) k.len) = cutK k n := by
  have h1 := letters_len h
  unfold cutK
  rw [show min (max (min (max n 0) k.len) 0) k.len = min (max n 0) k.len by omega]
theorem rCut_ok (k : Ky) (n : Int) (hn : k.n < 2 ^ 128) (hp : k.path.length < 4294967281) : PCall P 60 [kv k, .int .i64 n] (kv (cutU k n)) := by
  have q1 := letters_ok k hp
  refine PCall.of_awp tok mixed fn60 (Nat.le_of_ble_eq_true rfl) ?_
  cases hr : rightK k
  · rw [hr] at q1
    (conv => whnf); (repeat' first | ((with_reducible refine Box.mk ?_); conv => whnf) | ((with_reducible refine And.intro (fun _ => ?_) (fun _ => ?_)) <;> conv => whnf) | ((with_reducible show AYld _ _ _ _ _); (refine AYld.of tok mixed ?_); conv => whnf) | ((with_reducible show ACall _ _ _ _ _); (refine ACall.of_pure (by assumption) (by rfl) ?_); conv => whnf) | ((with_reducible show Exists _); (refine ⟨_, ACall.of_pure (by assumption) (by rfl) ⟨rfl, rfl⟩, ?_⟩); conv => whnf) | ((with_reducible show ∃ L, drawR L _ = true ∧ _); (refine ⟨[], by kernel_rfl, ?_⟩); conv => whnf) | ((with_reducible show _ ∧ _ ∧ _); (refine ⟨by omega, by omega, ?_⟩); conv => whnf) | fail)
    rw [cutU, hr, cond_false]
    show AV.agg [_, _, _, _, _] = AV.agg [_, _, _, _, _]
    simp [zeroK]
  · rw [hr, cond_true] at q1
    have hl := letters_len hr
    have hc : ∀ m : Int, min (max n 0) k.len = m → cutU k n = cutK k m := fun m h => by rw [cutU, hr, cond_true, ← cutK_min hr, h]
    cases hL : lettersL k with
    | nil =>
      rw [hL] at q1 hl
      have q2 := of_nils hn hr
      have hl : (0 : Int) = k.len := hl
      rw [hc 0 (by omega)]
      (conv => whnf); (repeat' first | ((with_reducible refine Box.mk ?_); conv => whnf) | ((with_reducible refine And.intro (fun _ => ?_) (fun _ => ?_)) <;> conv => whnf) | ((with_reducible show AYld _ _ _ _ _); (refine AYld.of tok mixed ?_); conv => whnf) | ((with_reducible show ACall _ _ _ _ _); (refine ACall.of_pure (by assumption) (by rfl) ?_); conv => whnf) | ((with_reducible show Exists _); (refine ⟨_, ACall.of_pure (by assumption) (by rfl) ⟨rfl, rfl⟩, ?_⟩); conv => whnf) | ((with_reducible show ∃ L, drawR L _ = true ∧ _); (refine ⟨[], by kernel_rfl, ?_⟩); conv => whnf) | ((with_reducible show _ ∧ _ ∧ _); (refine ⟨by omega, by omega, ?_⟩); conv => whnf) | fail)
      all_goals rfl
    | cons x l =>
      rw [hL] at q1 hl
      have q2 : ∀ m : Nat, (m : Int) ≤ k.len → PCall P 69 [.int .i64 k.kind, .sl (((strs (x :: l)).take m).drop 0)] (kv (cutK k m)) := fun m hm => by
        rw [strs_take, ← hL]; exact of_take hn hr m hm
      have hlen : ((strs (x :: l)).length : Int) = k.len := by rw [strs_len]; exact hl
      have hal := strs_all (x :: l)
      (conv => whnf); (repeat' first | ((with_reducible refine Box.mk ?_); conv => whnf) | ((with_reducible refine And.intro (fun _ => ?_) (fun _ => ?_)) <;> conv => whnf) | ((with_reducible show AYld _ _ _ _ _); (refine AYld.of tok mixed ?_); conv => whnf) | ((with_reducible show ACall _ _ _ _ _); (refine ACall.of_pure (by assumption) (by rfl) ?_); conv => whnf) | ((with_reducible show Exists _); (refine ⟨_, ACall.of_pure (by assumption) (by rfl) ⟨rfl, rfl⟩, ?_⟩); conv => whnf) | ((with_reducible show ∃ L, drawR L _ = true ∧ _); (refine ⟨[], by kernel_rfl, ?_⟩); conv => whnf) | ((with_reducible show _ ∧ _ ∧ _); (refine ⟨by omega, by omega, ?_⟩); conv => whnf) | fail)
      all_goals try (exfalso; omega)
      all_goals (
        refine ⟨hal, ?_⟩
        (conv => whnf); (repeat' first | ((with_reducible refine Box.mk ?_); conv => whnf) | ((with_reducible refine And.intro (fun _ => ?_) (fun _ => ?_)) <;> conv => whnf) | ((with_reducible show AYld _ _ _ _ _); (refine AYld.of tok mixed ?_); conv => whnf) | ((with_reducible show ACall _ _ _ _ _); (refine ACall.of_pure (by assumption) (by rfl) ?_); conv => whnf) | ((with_reducible show Exists _); (refine ⟨_, ACall.of_pure (by assumption) (by rfl) ⟨rfl, rfl⟩, ?_⟩); conv => whnf) | ((with_reducible show ∃ L, drawR L _ = true ∧ _); (refine ⟨[], by kernel_rfl, ?_⟩); conv => whnf) | ((with_reducible show _ ∧ _ ∧ _); (refine ⟨by omega, by omega, ?_⟩); conv => whnf) | fail)
        refine ⟨_, ACall.of_pure (q2 _ (by omega)) rfl ⟨rfl, rfl⟩, ?_⟩
        (conv => whnf); (repeat' first | ((with_reducible refine Box.mk ?_); conv => whnf) | ((with_reducible refine And.intro (fun _ => ?_) (fun _ => ?_)) <;> conv => whnf) | ((with_reducible show AYld _ _ _ _ _); (refine AYld.of tok mixed ?_); conv => whnf) | ((with_reducible show ACall _ _ _ _ _); (refine ACall.of_pure (by assumption) (by rfl) ?_); conv => whnf) | ((with_reducible show Exists _); (refine ⟨_, ACall.of_pure (by assumption) (by rfl) ⟨rfl, rfl⟩, ?_⟩); conv => whnf) | ((with_reducible show ∃ L, drawR L _ = true ∧ _); (refine ⟨[], by kernel_rfl, ?_⟩); conv => whnf) | ((with_reducible show _ ∧ _ ∧ _); (refine ⟨by omega, by omega, ?_⟩); conv => whnf) | fail)
        first
          | (rw [hc (((0 : Int).toNat : Nat) : Int) (by omega)]; rfl)
          | (rw [hc ((((strs (x :: l)).length : Int).toNat : Nat) : Int) (by omega)]; rfl)
          | (rw [hc ((n.toNat : Nat) : Int) (by omega)]; rfl))
end Go.Proofs.YtlmdacgkaailiaaDoor
end

section
/- dim, the document's answer: Right, Depth, Len, On, Cut. -/
namespace Go.Proofs.YtlmdacgkaailiaaDoor
open Go.Ve

theorem lens_yes {d : Dm} (h : rightD d = true) : lensV d = .sl (ints (lensA (widthK d.kind) d.step ((depthD d).toNat + 1))) := by rw [lensV, h, cond_true]
theorem lens_no {d : Dm} (h : rightD d = false) : lensV d = .nils := by rw [lensV, h, cond_false]
theorem lens_cnt (w s : Int) (n : Nat) : ((ints (lensA w s n)).length : Int) = (n : Int) := by rw [ints_len, lensA_len]
theorem r8Right_ok (d : Dm) : PCall P 28 [dmv d] (.bool (rightD d)) := by
  have q1 := lens_ok d
  cases hr : rightD d
  · rw [lens_no hr] at q1
    refine PCall.of_awp tok mixed fn28 (Nat.le_of_ble_eq_true rfl) ?_
    (conv => whnf); (repeat' first | ((with_reducible refine Box.mk ?_); conv => whnf) | ((with_reducible refine And.intro (fun _ => ?_) (fun _ => ?_)) <;> conv => whnf) | ((with_reducible show AYld _ _ _ _ _); (refine AYld.of tok mixed ?_); conv => whnf) | ((with_reducible show ACall _ _ _ _ _); (refine ACall.of_pure (by assumption) (by rfl) ?_); conv => whnf) | ((with_reducible show Exists _); (refine ⟨_, ACall.of_pure (by assumption) (by rfl) ⟨rfl, rfl⟩, ?_⟩); conv => whnf) | ((with_reducible show ∃ L, drawR L _ = true ∧ _); (refine ⟨[], by kernel_rfl, ?_⟩); conv => whnf) | ((with_reducible show _ ∧ _ ∧ _); (refine ⟨by omega, by omega, ?_⟩); conv => whnf) | fail)
    all_goals first
      | rfl
      | (exfalso; omega)
  · rw [lens_yes hr] at q1
    have hl := lens_cnt (widthK d.kind) d.step ((depthD d).toNat + 1)
    refine PCall.of_awp tok mixed fn28 (Nat.le_of_ble_eq_true rfl) ?_
    (conv => whnf); (repeat' first | ((with_reducible refine Box.mk ?_); conv => whnf) | ((with_reducible refine And.intro (fun _ => ?_) (fun _ => ?_)) <;> conv => whnf) | ((with_reducible show AYld _ _ _ _ _); (refine AYld.of tok mixed ?_); conv => whnf) | ((with_reducible show ACall _ _ _ _ _); (refine ACall.of_pure (by assumption) (by rfl) ?_); conv => whnf) | ((with_reducible show Exists _); (refine ⟨_, ACall.of_pure (by assumption) (by rfl) ⟨rfl, rfl⟩, ?_⟩); conv => whnf) | ((with_reducible show ∃ L, drawR L _ = true ∧ _); (refine ⟨[], by kernel_rfl, ?_⟩); conv => whnf) | ((with_reducible show _ ∧ _ ∧ _); (refine ⟨by omega, by omega, ?_⟩); conv => whnf) | fail)
    all_goals first
      | rfl
      | (exfalso; omega)
theorem r8Depth_ok (d : Dm) : PCall P 30 [dmv d] (.int .i64 (depthD d)) := by
  have q1 := lens_ok d
  have hd := @depthD_le d
  cases hr : rightD d
  · rw [lens_no hr] at q1
    have e : depthD d = 0 := by rw [depthD, hr, cond_false]
    rw [e]
    refine PCall.of_awp tok mixed fn30 (Nat.le_of_ble_eq_true rfl) ?_
    (conv => whnf); (repeat' first | ((with_reducible refine Box.mk ?_); conv => whnf) | ((with_reducible refine And.intro (fun _ => ?_) (fun _ => ?_)) <;> conv => whnf) | ((with_reducible show AYld _ _ _ _ _); (refine AYld.of tok mixed ?_); conv => whnf) | ((with_reducible show ACall _ _ _ _ _); (refine ACall.of_pure (by assumption) (by rfl) ?_); conv => whnf) | ((with_reducible show Exists _); (refine ⟨_, ACall.of_pure (by assumption) (by rfl) ⟨rfl, rfl⟩, ?_⟩); conv => whnf) | ((with_reducible show ∃ L, drawR L _ = true ∧ _); (refine ⟨[], by kernel_rfl, ?_⟩); conv => whnf) | ((with_reducible show _ ∧ _ ∧ _); (refine ⟨by omega, by omega, ?_⟩); conv => whnf) | fail)
    all_goals first
      | rfl
      | (exfalso; omega)
  · rw [lens_yes hr] at q1
    have hl := lens_cnt (widthK d.kind) d.step ((depthD d).toNat + 1)
    refine PCall.of_awp tok mixed fn30 (Nat.le_of_ble_eq_true rfl) ?_
    (conv => whnf); (repeat' first | ((with_reducible refine Box.mk ?_); conv => whnf) | ((with_reducible refine And.intro (fun _ => ?_) (fun _ => ?_)) <;> conv => whnf) | ((with_reducible show AYld _ _ _ _ _); (refine AYld.of tok mixed ?_); conv => whnf) | ((with_reducible show ACall _ _ _ _ _); (refine ACall.of_pure (by assumption) (by rfl) ?_); conv => whnf) | ((with_reducible show Exists _); (refine ⟨_, ACall.of_pure (by assumption) (by rfl) ⟨rfl, rfl⟩, ?_⟩); conv => whnf) | ((with_reducible show ∃ L, drawR L _ = true ∧ _); (refine ⟨[], by kernel_rfl, ?_⟩); conv => whnf) | ((with_reducible show _ ∧ _ ∧ _); (refine ⟨by omega, by omega, ?_⟩); conv => whnf) | fail)
    all_goals first
      | (exfalso; omega)
      | (refine res1_eq (congrArg (AV.int .i64) ?_); rw [hl, wrap_i64 (by omega) (by omega)]; omega)
theorem r8Len_ok (d : Dm) (l : Int) : PCall P 32 [dmv d, .int .i64 l] (.int .i64 (lenD d l)) := by
  have q1 := lens_ok d
  have hd := @depthD_le d
  cases hr : rightD d
  · rw [lens_no hr] at q1
    have e : lenD d l = -1 := by rw [lenD, if_neg (fun h => by rw [hr] at h; exact absurd h.1 (by decide))]
    rw [e]
    refine PCall.of_awp tok mixed fn32 (Nat.le_of_ble_eq_true rfl) ?_
    (conv => whnf); (repeat' first | ((with_reducible refine Box.mk ?_); conv => whnf) | ((with_reducible refine And.intro (fun _ => ?_) (fun _ => ?_)) <;> conv => whnf) | ((with_reducible show AYld _ _ _ _ _); (refine AYld.of tok mixed ?_); conv => whnf) | ((with_reducible show ACall _ _ _ _ _); (refine ACall.of_pure (by assumption) (by rfl) ?_); conv => whnf) | ((with_reducible show Exists _); (refine ⟨_, ACall.of_pure (by assumption) (by rfl) ⟨rfl, rfl⟩, ?_⟩); conv => whnf) | ((with_reducible show ∃ L, drawR L _ = true ∧ _); (refine ⟨[], by kernel_rfl, ?_⟩); conv => whnf) | ((with_reducible show _ ∧ _ ∧ _); (refine ⟨by omega, by omega, ?_⟩); conv => whnf) | fail)
    all_goals first
      | rfl
      | (exfalso; omega)
  · rw [lens_yes hr] at q1
    have hl := lens_cnt (widthK d.kind) d.step ((depthD d).toNat + 1)
    refine PCall.of_awp tok mixed fn32 (Nat.le_of_ble_eq_true rfl) ?_
    (conv => whnf); (repeat' first | ((with_reducible refine Box.mk ?_); conv => whnf) | ((with_reducible refine And.intro (fun _ => ?_) (fun _ => ?_)) <;> conv => whnf) | ((with_reducible show AYld _ _ _ _ _); (refine AYld.of tok mixed ?_); conv => whnf) | ((with_reducible show ACall _ _ _ _ _); (refine ACall.of_pure (by assumption) (by rfl) ?_); conv => whnf) | ((with_reducible show Exists _); (refine ⟨_, ACall.of_pure (by assumption) (by rfl) ⟨rfl, rfl⟩, ?_⟩); conv => whnf) | ((with_reducible show ∃ L, drawR L _ = true ∧ _); (refine ⟨[], by kernel_rfl, ?_⟩); conv => whnf) | ((with_reducible show _ ∧ _ ∧ _); (refine ⟨by omega, by omega, ?_⟩); conv => whnf) | fail)
    · rw [lenD, if_neg (fun h => by omega)]; rfl
    · rw [lenD, if_neg (fun h => by omega)]; rfl
    · rename_i h1 h2
      have hlt : l.toNat < (depthD d).toNat + 1 := by omega
      have hat := lensA_at (w := widthK d.kind) (s := d.step) hlt
      rw [show ((l.toNat : Nat) : Int) = l by omega] at hat
      refine ⟨by omega, _, hat, rfl, ?_⟩
      (conv => whnf); (repeat' first | ((with_reducible refine Box.mk ?_); conv => whnf) | ((with_reducible refine And.intro (fun _ => ?_) (fun _ => ?_)) <;> conv => whnf) | ((with_reducible show AYld _ _ _ _ _); (refine AYld.of tok mixed ?_); conv => whnf) | ((with_reducible show ACall _ _ _ _ _); (refine ACall.of_pure (by assumption) (by rfl) ?_); conv => whnf) | ((with_reducible show Exists _); (refine ⟨_, ACall.of_pure (by assumption) (by rfl) ⟨rfl, rfl⟩, ?_⟩); conv => whnf) | ((with_reducible show ∃ L, drawR L _ = true ∧ _); (refine ⟨[], by kernel_rfl, ?_⟩); conv => whnf) | ((with_reducible show _ ∧ _ ∧ _); (refine ⟨by omega, by omega, ?_⟩); conv => whnf) | fail)
      refine res1_eq (congrArg (AV.int .i64) ?_)
      rw [lenD, if_pos ⟨hr, by omega, by omega⟩, lenAt, show ((l.toNat : Nat) : Int) = l by omega]
theorem r8On_ok (d : Dm) (l : Int) (k : Ky) (hp : k.path.length < 4294967281) : PCall P 36 [dmv d, .int .i64 l, kv k] (.bool (onD d l k)) := by
  have q1 := r8Len_ok d l
  have q2 := rRight_ok k hp
  unfold onD
  generalize lenD d l = n at *
  generalize rightK k = r at *
  cases r
  all_goals (
    refine PCall.of_awp tok mixed fn36 (Nat.le_of_ble_eq_true rfl) ?_
    (conv => whnf); (repeat' first | ((with_reducible refine Box.mk ?_); conv => whnf) | ((with_reducible refine And.intro (fun _ => ?_) (fun _ => ?_)) <;> conv => whnf) | ((with_reducible show AYld _ _ _ _ _); (refine AYld.of tok mixed ?_); conv => whnf) | ((with_reducible show ACall _ _ _ _ _); (refine ACall.of_pure (by assumption) (by rfl) ?_); conv => whnf) | ((with_reducible show Exists _); (refine ⟨_, ACall.of_pure (by assumption) (by rfl) ⟨rfl, rfl⟩, ?_⟩); conv => whnf) | ((with_reducible show ∃ L, drawR L _ = true ∧ _); (refine ⟨[], by kernel_rfl, ?_⟩); conv => whnf) | ((with_reducible show _ ∧ _ ∧ _); (refine ⟨by omega, by omega, ?_⟩); conv => whnf) | fail)
    all_goals first
      | contradiction
      | rfl
      | exact bool_true (decide_eq_true (by omega))
      | exact bool_false (decide_eq_false fun h => by omega))
theorem r8Cut_ok (d : Dm) (l : Int) (k : Ky) (hn : k.n < 2 ^ 128) (hp : k.path.length < 4294967281) : PCall P 38 [dmv d, .int .i64 l, kv k] (kv (cutD d l k)) := by
  have q1 := r8Len_ok d l
  have q2 := rRight_ok k hp
  have q3 := rCut_ok k (lenD d l) hn hp
  have zk : kv zeroK = .agg [.int .i64 0, .int .i64 0, .int .u64 0, .int .u64 0, .str []] := by
    show AV.agg [_, _, _, _, _] = AV.agg [_, _, _, _, _]
    simp [zeroK]
  have e0 : rightK k = false → cutU k (lenD d l) = zeroK := fun h => by unfold cutU; rw [h, cond_false]
  unfold cutD
  generalize lenD d l = n at *
  generalize cutU k n = c at *
  generalize rightK k = r at *
  cases r
  · have e1 := e0 rfl
    subst e1
    have e2 : (if n < 0 ∨ k.kind ≠ d.kind then zeroK else zeroK) = zeroK := by split <;> rfl
    rw [e2, zk]
    refine PCall.of_awp tok mixed fn38 (Nat.le_of_ble_eq_true rfl) ?_
    (conv => whnf); (repeat' first | ((with_reducible refine Box.mk ?_); conv => whnf) | ((with_reducible refine And.intro (fun _ => ?_) (fun _ => ?_)) <;> conv => whnf) | ((with_reducible show AYld _ _ _ _ _); (refine AYld.of tok mixed ?_); conv => whnf) | ((with_reducible show ACall _ _ _ _ _); (refine ACall.of_pure (by assumption) (by rfl) ?_); conv => whnf) | ((with_reducible show Exists _); (refine ⟨_, ACall.of_pure (by assumption) (by rfl) ⟨rfl, rfl⟩, ?_⟩); conv => whnf) | ((with_reducible show ∃ L, drawR L _ = true ∧ _); (refine ⟨[], by kernel_rfl, ?_⟩); conv => whnf) | ((with_reducible show _ ∧ _ ∧ _); (refine ⟨by omega, by omega, ?_⟩); conv => whnf) | fail)
    all_goals first
      | contradiction
      | rfl
  · refine PCall.of_awp tok mixed fn38 (Nat.le_of_ble_eq_true rfl) ?_
    (conv => whnf); (repeat' first | ((with_reducible refine Box.mk ?_); conv => whnf) | ((with_reducible refine And.intro (fun _ => ?_) (fun _ => ?_)) <;> conv => whnf) | ((with_reducible show AYld _ _ _ _ _); (refine AYld.of tok mixed ?_); conv => whnf) | ((with_reducible show ACall _ _ _ _ _); (refine ACall.of_pure (by assumption) (by rfl) ?_); conv => whnf) | ((with_reducible show Exists _); (refine ⟨_, ACall.of_pure (by assumption) (by rfl) ⟨rfl, rfl⟩, ?_⟩); conv => whnf) | ((with_reducible show ∃ L, drawR L _ = true ∧ _); (refine ⟨[], by kernel_rfl, ?_⟩); conv => whnf) | ((with_reducible show _ ∧ _ ∧ _); (refine ⟨by omega, by omega, ?_⟩); conv => whnf) | fail)
    all_goals first
      | contradiction
      | (rw [if_pos (.inl (by omega)), zk]; rfl)
      | (rw [if_pos (.inr (by omega)), zk]; rfl)
      | (rw [if_neg (by omega)]; rfl)
end Go.Proofs.YtlmdacgkaailiaaDoor
end

section
/- dim, the document's answer: Level. -/
namespace Go.Proofs.YtlmdacgkaailiaaDoor
open Go.Ve

theorem r8Level_ok (d : Dm) (n : Int) : PCall P 34 [dmv d, .int .i64 n] (.int .i64 (levelD d n)) := by
  have q1 := lens_ok d
  have hd := @depthD_le d
  cases hr : rightD d
  · rw [lens_no hr] at q1
    have e := levelD_no (n := n) hr
    rw [e]
    refine PCall.of_awp tok mixed fn34 (Nat.le_of_ble_eq_true rfl) ?_
    (conv => whnf); (repeat' first | ((with_reducible refine Box.mk ?_); conv => whnf) | ((with_reducible refine And.intro (fun _ => ?_) (fun _ => ?_)) <;> conv => whnf) | ((with_reducible show AYld _ _ _ _ _); (refine AYld.of tok mixed ?_); conv => whnf) | ((with_reducible show ACall _ _ _ _ _); (refine ACall.of_pure (by assumption) (by rfl) ?_); conv => whnf) | ((with_reducible show Exists _); (refine ⟨_, ACall.of_pure (by assumption) (by rfl) ⟨rfl, rfl⟩, ?_⟩); conv => whnf) | ((with_reducible show ∃ L, drawR L _ = true ∧ _); (refine ⟨[], by kernel_rfl, ?_⟩); conv => whnf) | ((with_reducible show _ ∧ _ ∧ _); (refine ⟨by omega, by omega, ?_⟩); conv => whnf) | fail)
    refine aloop (fun _ => True) (fun _ : Unit => ⟨envL [(1, .int .i64 n), (5, .nils), (6, .int .i64 0)], [.box 41 (dcsD d)]⟩) (fun _ => 0) () trivial (weak_to ⟨rfl, rfl, rfl, trivial⟩ rfl) ?_
    intro _ _
    (conv => whnf); (repeat' first | ((with_reducible refine Box.mk ?_); conv => whnf) | ((with_reducible refine And.intro (fun _ => ?_) (fun _ => ?_)) <;> conv => whnf) | ((with_reducible show AYld _ _ _ _ _); (refine AYld.of tok mixed ?_); conv => whnf) | ((with_reducible show ACall _ _ _ _ _); (refine ACall.of_pure (by assumption) (by rfl) ?_); conv => whnf) | ((with_reducible show Exists _); (refine ⟨_, ACall.of_pure (by assumption) (by rfl) ⟨rfl, rfl⟩, ?_⟩); conv => whnf) | ((with_reducible show ∃ L, drawR L _ = true ∧ _); (refine ⟨[], by kernel_rfl, ?_⟩); conv => whnf) | ((with_reducible show _ ∧ _ ∧ _); (refine ⟨by omega, by omega, ?_⟩); conv => whnf) | fail)
    all_goals first
      | rfl
      | (exfalso; omega)
  · rw [lens_yes hr] at q1
    have hl := lens_cnt (widthK d.kind) d.step ((depthD d).toNat + 1)
    have hat := fun (k : Nat) (h0 : (k : Int) ≤ depthD d) h1 h2 => levelD_at (n := n) hr h0 (k := k) h1 h2
    have hno := levelD_none (n := n) hr
    have hget := fun i h => lensA_at (w := widthK d.kind) (s := d.step) (n := (depthD d).toNat + 1) (i := i) h
    generalize lensA (widthK d.kind) d.step ((depthD d).toNat + 1) = L at *
    generalize depthD d = dd at *
    generalize lenAt (widthK d.kind) d.step = la at *
    generalize levelD d n = lv at *
    refine PCall.of_awp tok mixed fn34 (Nat.le_of_ble_eq_true rfl) ?_
    (conv => whnf); (repeat' first | ((with_reducible refine Box.mk ?_); conv => whnf) | ((with_reducible refine And.intro (fun _ => ?_) (fun _ => ?_)) <;> conv => whnf) | ((with_reducible show AYld _ _ _ _ _); (refine AYld.of tok mixed ?_); conv => whnf) | ((with_reducible show ACall _ _ _ _ _); (refine ACall.of_pure (by assumption) (by rfl) ?_); conv => whnf) | ((with_reducible show Exists _); (refine ⟨_, ACall.of_pure (by assumption) (by rfl) ⟨rfl, rfl⟩, ?_⟩); conv => whnf) | ((with_reducible show ∃ L, drawR L _ = true ∧ _); (refine ⟨[], by kernel_rfl, ?_⟩); conv => whnf) | ((with_reducible show _ ∧ _ ∧ _); (refine ⟨by omega, by omega, ?_⟩); conv => whnf) | fail)
    refine aloop (fun i : Nat => (i : Int) ≤ dd + 1 ∧ ∀ j : Nat, j < i → la j ≠ n) (fun i : Nat => ⟨envL [(1, .int .i64 n), (5, .sl (ints L)), (6, .int .i64 i)], [.box 41 (dcsD d)]⟩) (fun i => (dd + 1).toNat - i) 0 ⟨by omega, fun j hj => by omega⟩ (weak_to ⟨rfl, rfl, rfl, trivial⟩ rfl) ?_
    rintro i ⟨hi, hj⟩
    have e1 : IntKind.i64.wrap ((i : Int) + 1) = ((i + 1 : Nat) : Int) := by rw [wrap_i64 (by omega) (by omega)]; omega
    (conv => whnf); (repeat' first | ((with_reducible refine Box.mk ?_); conv => whnf) | ((with_reducible refine And.intro (fun _ => ?_) (fun _ => ?_)) <;> conv => whnf) | ((with_reducible show AYld _ _ _ _ _); (refine AYld.of tok mixed ?_); conv => whnf) | ((with_reducible show ACall _ _ _ _ _); (refine ACall.of_pure (by assumption) (by rfl) ?_); conv => whnf) | ((with_reducible show Exists _); (refine ⟨_, ACall.of_pure (by assumption) (by rfl) ⟨rfl, rfl⟩, ?_⟩); conv => whnf) | ((with_reducible show ∃ L, drawR L _ = true ∧ _); (refine ⟨[], by kernel_rfl, ?_⟩); conv => whnf) | ((with_reducible show _ ∧ _ ∧ _); (refine ⟨by omega, by omega, ?_⟩); conv => whnf) | fail)
    · rename_i h
      refine ⟨by omega, _, hget i (by omega), rfl, ?_⟩
      (conv => whnf); (repeat' first | ((with_reducible refine Box.mk ?_); conv => whnf) | ((with_reducible refine And.intro (fun _ => ?_) (fun _ => ?_)) <;> conv => whnf) | ((with_reducible show AYld _ _ _ _ _); (refine AYld.of tok mixed ?_); conv => whnf) | ((with_reducible show ACall _ _ _ _ _); (refine ACall.of_pure (by assumption) (by rfl) ?_); conv => whnf) | ((with_reducible show Exists _); (refine ⟨_, ACall.of_pure (by assumption) (by rfl) ⟨rfl, rfl⟩, ?_⟩); conv => whnf) | ((with_reducible show ∃ L, drawR L _ = true ∧ _); (refine ⟨[], by kernel_rfl, ?_⟩); conv => whnf) | ((with_reducible show _ ∧ _ ∧ _); (refine ⟨by omega, by omega, ?_⟩); conv => whnf) | fail)
      · rename_i h2
        exact res1_eq (congrArg (AV.int .i64) (hat i (by omega) h2 hj).symm)
      · rename_i h2
        refine ⟨i + 1, ⟨by omega, fun j hji => ?_⟩, by omega, weak_to ⟨rfl, rfl, congrArg (AV.int .i64) e1, trivial⟩ rfl⟩
        rcases Nat.lt_succ_iff_lt_or_eq.1 hji with h | rfl
        · exact hj j h
        · exact h2
    · rename_i h
      exact res1_eq (congrArg (AV.int .i64) (hno fun j hjd => hj j (by omega)).symm)
end Go.Proofs.YtlmdacgkaailiaaDoor
end

section
/- dim: what must come of fixed calls; the statements' walks. -/
namespace Go.Proofs.YtlmdacgkaailiaaDoor
open Go.Ve

def dd12 : Dm := ⟨1, 1, 12⟩
def dp3 : Dm := ⟨3, 2, 3⟩
def kabc : Ky := ⟨3, 3, 0, [97, 46, 98, 46, 99]⟩
theorem alive8_ok : PCall P 26 [] (.bool true) := by
  have c1 := pEq (path_ok [97, 46, 98, 46, 99] (by decide)) (show _ = AV.tup [kv kabc, .int .i64 0] by kernel_rfl)
  have c2 := pEq (dRight_ok dd12) (show _ = AV.bool true by kernel_rfl)
  have c3 := pEq (dRight_ok ⟨1, 3, 1⟩) (show _ = AV.bool false by kernel_rfl)
  have c4 := pEq (dDepth_ok dd12) (show _ = AV.int .i64 3 by kernel_rfl)
  have c5 := pEq (dLen_ok dd12 1) (show _ = AV.int .i64 20 by kernel_rfl)
  have c6 := pEq (dLevel_ok dd12 8) (show _ = AV.int .i64 2 by kernel_rfl)
  have c7 := pEq (dLevel_ok dd12 9) (show _ = AV.int .i64 (-1) by kernel_rfl)
  have c8 := pEq (dOn_ok dp3 1 kabc (by decide) (by decide)) (show _ = AV.bool true by kernel_rfl)
  have c9 := pEq (dOn_ok dp3 2 kabc (by decide) (by decide)) (show _ = AV.bool false by kernel_rfl)
  have c10 := pEq (dCut_ok dp3 2 kabc (by decide) (by decide)) (show _ = kv ⟨3, 2, 0, [97, 46, 98]⟩ by kernel_rfl)
  have c11 := pEq (dCut_ok dd12 0 kabc (by decide) (by decide)) (show _ = kv zeroK by kernel_rfl)
  refine PCall.of_awp tok mixed fn26 (Nat.le_of_ble_eq_true rfl) ?_
  (conv => whnf); (repeat' first | ((with_reducible refine Box.mk ?_); conv => whnf) | ((with_reducible refine And.intro (fun _ => ?_) (fun _ => ?_)) <;> conv => whnf) | ((with_reducible show AYld _ _ _ _ _); (refine AYld.of tok mixed ?_); conv => whnf) | ((with_reducible show ACall _ _ _ _ _); (refine ACall.of_pure (by assumption) (by rfl) ?_); conv => whnf) | ((with_reducible show Exists _); (refine ⟨_, ACall.of_pure (by assumption) (by rfl) ⟨rfl, rfl⟩, ?_⟩); conv => whnf) | ((with_reducible show ∃ L, drawR L _ = true ∧ _); (refine ⟨[], by kernel_rfl, ?_⟩); conv => whnf) | ((with_reducible show _ ∧ _ ∧ _); (refine ⟨by omega, by omega, ?_⟩); conv => whnf) | fail)
  all_goals first
    | rfl
    | (rename_i hbad; exact absurd (by decide) hbad)
theorem DimTells_ok (d : Dm) (l n : Int) : PCall P 6 [dmv d, .int .i64 l, .int .i64 n] (.bool true) := by
  have q1 := alive8_ok
  have q2 := dRight_ok d
  have q3 := r8Right_ok d
  have q4 := dDepth_ok d
  have q5 := r8Depth_ok d
  have q6 := dLen_ok d l
  have q7 := r8Len_ok d l
  have q8 := dLevel_ok d n
  have q9 := r8Level_ok d n
  generalize rightD d = r at *
  generalize depthD d = dd at *
  generalize lenD d l = x at *
  generalize levelD d n = y at *
  cases r
  all_goals (
    refine PCall.of_awp tok mixed fn6 (Nat.le_of_ble_eq_true rfl) ?_
    (conv => whnf); (repeat' first | ((with_reducible refine Box.mk ?_); conv => whnf) | ((with_reducible refine And.intro (fun _ => ?_) (fun _ => ?_)) <;> conv => whnf) | ((with_reducible show AYld _ _ _ _ _); (refine AYld.of tok mixed ?_); conv => whnf) | ((with_reducible show ACall _ _ _ _ _); (refine ACall.of_pure (by assumption) (by rfl) ?_); conv => whnf) | ((with_reducible show Exists _); (refine ⟨_, ACall.of_pure (by assumption) (by rfl) ⟨rfl, rfl⟩, ?_⟩); conv => whnf) | ((with_reducible show ∃ L, drawR L _ = true ∧ _); (refine ⟨[], by kernel_rfl, ?_⟩); conv => whnf) | ((with_reducible show _ ∧ _ ∧ _); (refine ⟨by omega, by omega, ?_⟩); conv => whnf) | fail)
    all_goals first
      | rfl
      | (rename_i hbad; exact absurd rfl hbad))
theorem DimCuts_ok (d : Dm) (l : Int) (k : Ky) (hk : KOk 1048576 k) : PCall P 7 [dmv d, .int .i64 l, kv k] (.bool true) := by
  have pk := hk.path
  have q1 := alive8_ok
  have q2 := dOn_ok d l k hk.n (by omega)
  have q3 := r8On_ok d l k (by omega)
  have q4 := dCut_ok d l k hk.n (by omega)
  have q5 := r8Cut_ok d l k hk.n (by omega)
  generalize onD d l k = r at *
  generalize cutD d l k = c at *
  cases r
  all_goals (
    refine PCall.of_awp tok mixed fn7 (Nat.le_of_ble_eq_true rfl) ?_
    (conv => whnf); (repeat' first | ((with_reducible refine Box.mk ?_); conv => whnf) | ((with_reducible refine And.intro (fun _ => ?_) (fun _ => ?_)) <;> conv => whnf) | ((with_reducible show AYld _ _ _ _ _); (refine AYld.of tok mixed ?_); conv => whnf) | ((with_reducible show ACall _ _ _ _ _); (refine ACall.of_pure (by assumption) (by rfl) ?_); conv => whnf) | ((with_reducible show Exists _); (refine ⟨_, ACall.of_pure (by assumption) (by rfl) ⟨rfl, rfl⟩, ?_⟩); conv => whnf) | ((with_reducible show ∃ L, drawR L _ = true ∧ _); (refine ⟨[], by kernel_rfl, ?_⟩); conv => whnf) | ((with_reducible show _ ∧ _ ∧ _); (refine ⟨by omega, by omega, ?_⟩); conv => whnf) | fail)
    all_goals first
      | rfl
      | (rename_i hbad; exact absurd (⟨rfl, rfl, rfl, rfl, rfl⟩ : _ ∧ _ ∧ _ ∧ _ ∧ _) hbad)
      | (rename_i hbad; exact absurd rfl hbad))
theorem DimSteps_ok (d : Dm) (l : Int) : PCall P 8 [dmv d, .int .i64 l] (.bool true) := by
  have q1 := alive8_ok
  have q2 := dRight_ok d
  have q3 := dDepth_ok d
  have q4 := fun i => dLen_ok d i
  have q5 := fun n => dLevel_ok d n
  have q6 := width_ok d.kind
  have hd := @depthD_le d
  cases hr : rightD d
  · rw [hr] at q2
    have e1 : depthD d = 0 := by rw [depthD, hr, cond_false]
    have e2 : ∀ i, lenD d i = -1 := fun i => by rw [lenD, if_neg (fun h => by rw [hr] at h; exact absurd h.1 (by decide))]
    have e3 : ∀ n, levelD d n = -1 := fun n => levelD_no hr
    have q3' := pEq q3 (show _ = AV.int .i64 0 by rw [e1])
    have q4' := pEq (q4 l) (show _ = AV.int .i64 (-1) by rw [e2])
    have q5' := pEq (q5 l) (show _ = AV.int .i64 (-1) by rw [e3])
    clear q3 q4 q5
    refine PCall.of_awp tok mixed fn8 (Nat.le_of_ble_eq_true rfl) ?_
    (conv => whnf); (repeat' first | ((with_reducible refine Box.mk ?_); conv => whnf) | ((with_reducible refine And.intro (fun _ => ?_) (fun _ => ?_)) <;> conv => whnf) | ((with_reducible show AYld _ _ _ _ _); (refine AYld.of tok mixed ?_); conv => whnf) | ((with_reducible show ACall _ _ _ _ _); (refine ACall.of_pure (by assumption) (by rfl) ?_); conv => whnf) | ((with_reducible show Exists _); (refine ⟨_, ACall.of_pure (by assumption) (by rfl) ⟨rfl, rfl⟩, ?_⟩); conv => whnf) | ((with_reducible show ∃ L, drawR L _ = true ∧ _); (refine ⟨[], by kernel_rfl, ?_⟩); conv => whnf) | ((with_reducible show _ ∧ _ ∧ _); (refine ⟨by omega, by omega, ?_⟩); conv => whnf) | fail)
    all_goals first
      | rfl
      | contradiction
      | (rename_i hbad; exact absurd (by decide) hbad)
  · rw [hr] at q2
    obtain ⟨s1, s2, s3⟩ := steps_yes hr
    have sAt := fun h0 hl => steps_at hr (l := l) h0 hl
    have hneg : lenD d l = -1 ↔ (l < 0 ∨ depthD d < l) := by
      constructor
      · intro h
        by_cases hc : 0 ≤ l ∧ l ≤ depthD d
        · rw [lenD, if_pos ⟨hr, hc⟩] at h; omega
        · omega
      · intro h; rw [lenD, if_neg (by omega)]
    have r1 := @lenD_range d l
    have r2 := @lenD_range d (l + 1)
    have q4a := q4 0
    have q4b := q4 (depthD d)
    have q4c := q4 l
    have q4d : IntKind.i64.wrap (l + 1) = l + 1 → PCall P 31 [dmv d, .int .i64 (IntKind.i64.wrap (l + 1))] (.int .i64 (lenD d (l + 1))) := fun h => by rw [h]; exact q4 (l + 1)
    have q5a := q5 (lenD d l)
    clear q4 q5
    have hstep := rightD_step hr
    have hw := widthK_le d.kind
    rw [s1] at q4a
    rw [s3] at q4b
    generalize lenD d (l + 1) = b at *
    generalize lenD d l = a at *
    generalize depthD d = dd at *
    generalize levelD d a = lv at *
    generalize widthK d.kind = w at *
    have hwr : 0 ≤ l → l < dd → IntKind.i64.wrap (l + 1) = l + 1 := fun h1 h2 => wrap_i64 (by omega) (by omega)
    refine PCall.of_awp tok mixed fn8 (Nat.le_of_ble_eq_true rfl) ?_
    by_cases hin : 0 ≤ l ∧ l < dd
    · obtain ⟨t1, t2, t3⟩ := sAt hin.1 hin.2
      have q4e := q4d (hwr hin.1 hin.2)
      have w1 := hwr hin.1 hin.2
      have w2 : IntKind.i64.wrap (a - b) = a - b := wrap_i64 (by omega) (by omega)
      (conv => whnf); (repeat' first | ((with_reducible refine Box.mk ?_); conv => whnf) | ((with_reducible refine And.intro (fun _ => ?_) (fun _ => ?_)) <;> conv => whnf) | ((with_reducible show AYld _ _ _ _ _); (refine AYld.of tok mixed ?_); conv => whnf) | ((with_reducible show ACall _ _ _ _ _); (refine ACall.of_pure (by assumption) (by rfl) ?_); conv => whnf) | ((with_reducible show Exists _); (refine ⟨_, ACall.of_pure (by assumption) (by rfl) ⟨rfl, rfl⟩, ?_⟩); conv => whnf) | ((with_reducible show ∃ L, drawR L _ = true ∧ _); (refine ⟨[], by kernel_rfl, ?_⟩); conv => whnf) | ((with_reducible show _ ∧ _ ∧ _); (refine ⟨by omega, by omega, ?_⟩); conv => whnf) | fail)
      all_goals try (exfalso; omega)
      all_goals try simp only [w1, w2] at *
      all_goals first
        | rfl
        | contradiction
        | (exfalso; omega)
    · (conv => whnf); (repeat' first | ((with_reducible refine Box.mk ?_); conv => whnf) | ((with_reducible refine And.intro (fun _ => ?_) (fun _ => ?_)) <;> conv => whnf) | ((with_reducible show AYld _ _ _ _ _); (refine AYld.of tok mixed ?_); conv => whnf) | ((with_reducible show ACall _ _ _ _ _); (refine ACall.of_pure (by assumption) (by rfl) ?_); conv => whnf) | ((with_reducible show Exists _); (refine ⟨_, ACall.of_pure (by assumption) (by rfl) ⟨rfl, rfl⟩, ?_⟩); conv => whnf) | ((with_reducible show ∃ L, drawR L _ = true ∧ _); (refine ⟨[], by kernel_rfl, ?_⟩); conv => whnf) | ((with_reducible show _ ∧ _ ∧ _); (refine ⟨by omega, by omega, ?_⟩); conv => whnf) | fail)
      all_goals first
        | rfl
        | contradiction
        | (exfalso; omega)
theorem DimStands_ok (d : Dm) (i j : Int) (k x : Ky) (hk : KOk 1048576 k) (hx : KOk 1048576 x) : PCall P 9 [dmv d, .int .i64 i, .int .i64 j, kv k, kv x] (.bool true) := by
  have pk := hk.path
  have px := hx.path
  have q1 := alive8_ok
  have q2 := dOn_ok d i k hk.n (by omega)
  have q3 := dCut_ok d i k hk.n (by omega)
  have q4 := keyRight_ok k hk.n (by omega)
  have q5 := dLen_ok d i
  have q6 := dLen_ok d j
  have q7 := dCut_ok d j k hk.n (by omega)
  have q8 := dOn_ok d j (cutD d j k) (cutD_n hk.n) (by have := cutD_len d j k; omega)
  have q9 := dCut_ok d i x hx.n (by omega)
  have q10 := dCut_ok d j x hx.n (by omega)
  have q11 := dCut_ok d j (cutD d i k) (cutD_n hk.n) (by have := cutD_len d i k; omega)
  have f1 := fun h => on_cut (d := d) (i := i) hk.n h
  have f2 : onD d i k = true → rightK k = true := fun h => (onD_yes h).1
  have f3 := fun h1 h2 h3 => on_on (d := d) (i := i) (j := j) (k := k) h1 h2 h3
  have f4 := fun h1 h2 h3 => cutD_same (d := d) (i := i) (j := j) hk.n hx.n h1 h2 h3
  have f5 := fun h1 h2 h3 => cutD_cut (d := d) (i := i) (j := j) hk.n h1 h2 h3
  by_cases hij : i ≤ j ∧ 0 ≤ lenD d i ∧ 0 ≤ lenD d j
  · replace f4 := f4 hij.1 hij.2.1 hij.2.2
    rw [f5 hij.1 hij.2.1 hij.2.2] at q11
    replace f3 := f3 hij.1 hij.2.2
    clear f5
    generalize onD d j (cutD d j k) = o2 at *
    generalize onD d i k = o1 at *
    generalize cutD d i k = c1 at *
    generalize cutD d j k = c2 at *
    generalize cutD d i x = c3 at *
    generalize cutD d j x = c4 at *
    generalize rightK k = rk at *
    generalize lenD d i = li at *
    generalize lenD d j = lj at *
    cases o1
    · clear f1 f2 f3
      refine PCall.of_awp tok mixed fn9 (Nat.le_of_ble_eq_true rfl) ?_
      (conv => whnf); (repeat' first | ((with_reducible refine Box.mk ?_); conv => whnf) | ((with_reducible refine And.intro (fun _ => ?_) (fun _ => ?_)) <;> conv => whnf) | ((with_reducible show AYld _ _ _ _ _); (refine AYld.of tok mixed ?_); conv => whnf) | ((with_reducible show ACall _ _ _ _ _); (refine ACall.of_pure (by assumption) (by rfl) ?_); conv => whnf) | ((with_reducible show Exists _); (refine ⟨_, ACall.of_pure (by assumption) (by rfl) ⟨rfl, rfl⟩, ?_⟩); conv => whnf) | ((with_reducible show ∃ L, drawR L _ = true ∧ _); (refine ⟨[], by kernel_rfl, ?_⟩); conv => whnf) | ((with_reducible show _ ∧ _ ∧ _); (refine ⟨by omega, by omega, ?_⟩); conv => whnf) | fail)
      all_goals first
        | rfl
        | (exfalso; omega)
        | contradiction
        | (rename_i hbad; exact absurd (⟨rfl, rfl, rfl, rfl, rfl⟩ : _ ∧ _ ∧ _ ∧ _ ∧ _) hbad)
        | (exact absurd (kv_eq.2 (f4 (kv_eq.1 (by assumption)))) (by assumption))
    · have g1 := f1 rfl
      have g2 := f2 rfl
      have g3 := f3 rfl
      subst g1 g2 g3
      refine PCall.of_awp tok mixed fn9 (Nat.le_of_ble_eq_true rfl) ?_
      (conv => whnf); (repeat' first | ((with_reducible refine Box.mk ?_); conv => whnf) | ((with_reducible refine And.intro (fun _ => ?_) (fun _ => ?_)) <;> conv => whnf) | ((with_reducible show AYld _ _ _ _ _); (refine AYld.of tok mixed ?_); conv => whnf) | ((with_reducible show ACall _ _ _ _ _); (refine ACall.of_pure (by assumption) (by rfl) ?_); conv => whnf) | ((with_reducible show Exists _); (refine ⟨_, ACall.of_pure (by assumption) (by rfl) ⟨rfl, rfl⟩, ?_⟩); conv => whnf) | ((with_reducible show ∃ L, drawR L _ = true ∧ _); (refine ⟨[], by kernel_rfl, ?_⟩); conv => whnf) | ((with_reducible show _ ∧ _ ∧ _); (refine ⟨by omega, by omega, ?_⟩); conv => whnf) | fail)
      all_goals first
        | rfl
        | (exfalso; omega)
        | contradiction
        | (rename_i hbad; exact absurd (⟨rfl, rfl, rfl, rfl, rfl⟩ : _ ∧ _ ∧ _ ∧ _ ∧ _) hbad)
        | (exact absurd (kv_eq.2 (f4 (kv_eq.1 (by assumption)))) (by assumption))
  · clear f3 f4 f5 q7 q8 q9 q10 q11
    generalize onD d i k = o1 at *
    generalize cutD d i k = c1 at *
    generalize rightK k = rk at *
    generalize lenD d i = li at *
    generalize lenD d j = lj at *
    cases o1
    · refine PCall.of_awp tok mixed fn9 (Nat.le_of_ble_eq_true rfl) ?_
      (conv => whnf); (repeat' first | ((with_reducible refine Box.mk ?_); conv => whnf) | ((with_reducible refine And.intro (fun _ => ?_) (fun _ => ?_)) <;> conv => whnf) | ((with_reducible show AYld _ _ _ _ _); (refine AYld.of tok mixed ?_); conv => whnf) | ((with_reducible show ACall _ _ _ _ _); (refine ACall.of_pure (by assumption) (by rfl) ?_); conv => whnf) | ((with_reducible show Exists _); (refine ⟨_, ACall.of_pure (by assumption) (by rfl) ⟨rfl, rfl⟩, ?_⟩); conv => whnf) | ((with_reducible show ∃ L, drawR L _ = true ∧ _); (refine ⟨[], by kernel_rfl, ?_⟩); conv => whnf) | ((with_reducible show _ ∧ _ ∧ _); (refine ⟨by omega, by omega, ?_⟩); conv => whnf) | fail)
      all_goals try (exfalso; omega)
      all_goals first
        | rfl
        | contradiction
    · have g1 := f1 rfl
      have g2 := f2 rfl
      subst g1 g2
      refine PCall.of_awp tok mixed fn9 (Nat.le_of_ble_eq_true rfl) ?_
      (conv => whnf); (repeat' first | ((with_reducible refine Box.mk ?_); conv => whnf) | ((with_reducible refine And.intro (fun _ => ?_) (fun _ => ?_)) <;> conv => whnf) | ((with_reducible show AYld _ _ _ _ _); (refine AYld.of tok mixed ?_); conv => whnf) | ((with_reducible show ACall _ _ _ _ _); (refine ACall.of_pure (by assumption) (by rfl) ?_); conv => whnf) | ((with_reducible show Exists _); (refine ⟨_, ACall.of_pure (by assumption) (by rfl) ⟨rfl, rfl⟩, ?_⟩); conv => whnf) | ((with_reducible show ∃ L, drawR L _ = true ∧ _); (refine ⟨[], by kernel_rfl, ?_⟩); conv => whnf) | ((with_reducible show _ ∧ _ ∧ _); (refine ⟨by omega, by omega, ?_⟩); conv => whnf) | fail)
      all_goals try (exfalso; omega)
      all_goals first
        | rfl
        | contradiction
        | (rename_i hbad; exact absurd (⟨rfl, rfl, rfl, rfl, rfl⟩ : _ ∧ _ ∧ _ ∧ _ ∧ _) hbad)
theorem DimOver_ok (d : Dm) (i j : Int) (k x : Ky) (hk : KOk 1048576 k) (hx : KOk 1048576 x) : PCall P 10 [dmv d, .int .i64 i, .int .i64 j, kv k, kv x] (.bool true) := by
  have pk := hk.path
  have px := hx.path
  have q1 := alive8_ok
  have q2 := dOn_ok d i k hk.n (by omega)
  have q3 := dOn_ok d j x hx.n (by omega)
  have q4 := over_ok x k hx.n hk.n (by omega) (by omega)
  have q5 := keyCut_ok k x.len hk.n (by omega)
  have q6 := dCut_ok d j k hk.n (by omega)
  have q7 := over_ok (cutD d j k) k (cutD_n hk.n) hk.n (by have := cutD_len d j k; omega) (by omega)
  by_cases hc : i ≤ j ∧ onD d i k = true ∧ onD d j x = true
  · obtain ⟨h1, h2, h3⟩ := hc
    obtain ⟨a1, a2, a3, a4, a5⟩ := onD_yes h2
    obtain ⟨b1, b2, b3, b4, b5⟩ := onD_yes h3
    rw [h2] at q2
    rw [h3] at q3
    have e7 : overK (cutD d j k) k = true := by rw [cutD_yes b2 a3]; exact cut_over hk.n a1 _
    rw [e7] at q7
    have e4 := over_cut hx.n hk.n a1
    rw [b1, Bool.true_and] at e4
    rw [e4] at q4
    by_cases h3 : d.kind = 3
    · generalize cutU k x.len = c at *
      generalize cutD d j k = c2 at *
      by_cases he : c = x
      · rw [decide_eq_true he] at q4
        refine PCall.of_awp tok mixed fn10 (Nat.le_of_ble_eq_true rfl) ?_
        (conv => whnf); (repeat' first | ((with_reducible refine Box.mk ?_); conv => whnf) | ((with_reducible refine And.intro (fun _ => ?_) (fun _ => ?_)) <;> conv => whnf) | ((with_reducible show AYld _ _ _ _ _); (refine AYld.of tok mixed ?_); conv => whnf) | ((with_reducible show ACall _ _ _ _ _); (refine ACall.of_pure (by assumption) (by rfl) ?_); conv => whnf) | ((with_reducible show Exists _); (refine ⟨_, ACall.of_pure (by assumption) (by rfl) ⟨rfl, rfl⟩, ?_⟩); conv => whnf) | ((with_reducible show ∃ L, drawR L _ = true ∧ _); (refine ⟨[], by kernel_rfl, ?_⟩); conv => whnf) | ((with_reducible show _ ∧ _ ∧ _); (refine ⟨by omega, by omega, ?_⟩); conv => whnf) | fail)
        all_goals first
          | rfl
          | (exfalso; omega)
          | contradiction
          | (exact absurd (kv_eq.2 he) (by assumption))
      · rw [decide_eq_false he] at q4
        refine PCall.of_awp tok mixed fn10 (Nat.le_of_ble_eq_true rfl) ?_
        (conv => whnf); (repeat' first | ((with_reducible refine Box.mk ?_); conv => whnf) | ((with_reducible refine And.intro (fun _ => ?_) (fun _ => ?_)) <;> conv => whnf) | ((with_reducible show AYld _ _ _ _ _); (refine AYld.of tok mixed ?_); conv => whnf) | ((with_reducible show ACall _ _ _ _ _); (refine ACall.of_pure (by assumption) (by rfl) ?_); conv => whnf) | ((with_reducible show Exists _); (refine ⟨_, ACall.of_pure (by assumption) (by rfl) ⟨rfl, rfl⟩, ?_⟩); conv => whnf) | ((with_reducible show ∃ L, drawR L _ = true ∧ _); (refine ⟨[], by kernel_rfl, ?_⟩); conv => whnf) | ((with_reducible show _ ∧ _ ∧ _); (refine ⟨by omega, by omega, ?_⟩); conv => whnf) | fail)
        all_goals first
          | rfl
          | (exfalso; omega)
          | contradiction
    · have e6 : cutD d j k = cutU k x.len := by rw [cutD_yes b2 a3, b5 h3]
      rw [e6] at q6 q7
      generalize cutU k x.len = c at *
      by_cases he : c = x
      · rw [decide_eq_true he] at q4
        refine PCall.of_awp tok mixed fn10 (Nat.le_of_ble_eq_true rfl) ?_
        (conv => whnf); (repeat' first | ((with_reducible refine Box.mk ?_); conv => whnf) | ((with_reducible refine And.intro (fun _ => ?_) (fun _ => ?_)) <;> conv => whnf) | ((with_reducible show AYld _ _ _ _ _); (refine AYld.of tok mixed ?_); conv => whnf) | ((with_reducible show ACall _ _ _ _ _); (refine ACall.of_pure (by assumption) (by rfl) ?_); conv => whnf) | ((with_reducible show Exists _); (refine ⟨_, ACall.of_pure (by assumption) (by rfl) ⟨rfl, rfl⟩, ?_⟩); conv => whnf) | ((with_reducible show ∃ L, drawR L _ = true ∧ _); (refine ⟨[], by kernel_rfl, ?_⟩); conv => whnf) | ((with_reducible show _ ∧ _ ∧ _); (refine ⟨by omega, by omega, ?_⟩); conv => whnf) | fail)
        all_goals first
          | rfl
          | (exfalso; omega)
          | contradiction
          | (exact absurd (kv_eq.2 he) (by assumption))
      · rw [decide_eq_false he] at q4
        refine PCall.of_awp tok mixed fn10 (Nat.le_of_ble_eq_true rfl) ?_
        (conv => whnf); (repeat' first | ((with_reducible refine Box.mk ?_); conv => whnf) | ((with_reducible refine And.intro (fun _ => ?_) (fun _ => ?_)) <;> conv => whnf) | ((with_reducible show AYld _ _ _ _ _); (refine AYld.of tok mixed ?_); conv => whnf) | ((with_reducible show ACall _ _ _ _ _); (refine ACall.of_pure (by assumption) (by rfl) ?_); conv => whnf) | ((with_reducible show Exists _); (refine ⟨_, ACall.of_pure (by assumption) (by rfl) ⟨rfl, rfl⟩, ?_⟩); conv => whnf) | ((with_reducible show ∃ L, drawR L _ = true ∧ _); (refine ⟨[], by kernel_rfl, ?_⟩); conv => whnf) | ((with_reducible show _ ∧ _ ∧ _); (refine ⟨by omega, by omega, ?_⟩); conv => whnf) | fail)
        all_goals first
          | rfl
          | (exfalso; omega)
          | contradiction
          | (exact absurd (kv_eq.1 (by assumption)) he)
  · clear q4 q5 q6 q7
    generalize onD d i k = o1 at *
    generalize onD d j x = o2 at *
    cases o1 <;> cases o2
    all_goals (
      refine PCall.of_awp tok mixed fn10 (Nat.le_of_ble_eq_true rfl) ?_
      (conv => whnf); (repeat' first | ((with_reducible refine Box.mk ?_); conv => whnf) | ((with_reducible refine And.intro (fun _ => ?_) (fun _ => ?_)) <;> conv => whnf) | ((with_reducible show AYld _ _ _ _ _); (refine AYld.of tok mixed ?_); conv => whnf) | ((with_reducible show ACall _ _ _ _ _); (refine ACall.of_pure (by assumption) (by rfl) ?_); conv => whnf) | ((with_reducible show Exists _); (refine ⟨_, ACall.of_pure (by assumption) (by rfl) ⟨rfl, rfl⟩, ?_⟩); conv => whnf) | ((with_reducible show ∃ L, drawR L _ = true ∧ _); (refine ⟨[], by kernel_rfl, ?_⟩); conv => whnf) | ((with_reducible show _ ∧ _ ∧ _); (refine ⟨by omega, by omega, ?_⟩); conv => whnf) | fail)
      all_goals first
        | rfl
        | (exfalso; exact hc ⟨by omega, rfl, rfl⟩)
        | contradiction)
end Go.Proofs.YtlmdacgkaailiaaDoor
end

section
/- dim: the statements at whatever arguments read as data. -/
namespace Go.Proofs.YtlmdacgkaailiaaDoor
open Go.Ve

theorem dim_inv {B : Nat} {x : AV} (h : WfV ty B 41 x) : ∃ d : Dm, x = dmv d := by
  obtain ⟨xs, rfl, h0⟩ := h.struct_inv rfl
  obtain ⟨x1, r1, rfl, hk, h1⟩ := h0.cons_inv
  obtain ⟨x2, r2, rfl, hl, h2⟩ := h1.cons_inv
  obtain ⟨x3, r3, rfl, ha, h3⟩ := h2.cons_inv
  obtain rfl := h3.nil_inv
  obtain ⟨a, rfl, _⟩ := hk.int_inv rfl
  obtain ⟨b, rfl, _⟩ := hl.int_inv rfl
  obtain ⟨c, rfl, _⟩ := ha.int_inv rfl
  exact ⟨⟨a, b, c⟩, rfl⟩
theorem DimTells_args (xs : List AV) (h : WfA ty 9223372036854775807 [41, 3, 3] xs) : PCall P 6 xs (.bool true) := by
  obtain ⟨y1, r1, rfl, g1, h1⟩ := h.cons_inv
  obtain ⟨y2, r2, rfl, g2, h2⟩ := h1.cons_inv
  obtain ⟨y3, r3, rfl, g3, h3⟩ := h2.cons_inv
  obtain rfl := h3.nil_inv
  obtain ⟨x1, rfl⟩ := dim_inv g1
  obtain ⟨x2, rfl, _⟩ := g2.int_inv rfl
  obtain ⟨x3, rfl, _⟩ := g3.int_inv rfl
  exact DimTells_ok x1 x2 x3
theorem DimSteps_args (xs : List AV) (h : WfA ty 9223372036854775807 [41, 3] xs) : PCall P 8 xs (.bool true) := by
  obtain ⟨y1, r1, rfl, g1, h1⟩ := h.cons_inv
  obtain ⟨y2, r2, rfl, g2, h2⟩ := h1.cons_inv
  obtain rfl := h2.nil_inv
  obtain ⟨x1, rfl⟩ := dim_inv g1
  obtain ⟨x2, rfl, _⟩ := g2.int_inv rfl
  exact DimSteps_ok x1 x2
theorem DimCuts_args (xs : List AV) (h : WfA ty 1048576 [41, 3, 48] xs) : PCall P 7 xs (.bool true) := by
  obtain ⟨y1, r1, rfl, g1, h1⟩ := h.cons_inv
  obtain ⟨y2, r2, rfl, g2, h2⟩ := h1.cons_inv
  obtain ⟨y3, r3, rfl, g3, h3⟩ := h2.cons_inv
  obtain rfl := h3.nil_inv
  obtain ⟨x1, rfl⟩ := dim_inv g1
  obtain ⟨x2, rfl, _⟩ := g2.int_inv rfl
  obtain ⟨x3, rfl, f3⟩ := key_inv g3
  exact DimCuts_ok x1 x2 x3 f3
theorem DimStands_args (xs : List AV) (h : WfA ty 1048576 [41, 3, 3, 48, 48] xs) : PCall P 9 xs (.bool true) := by
  obtain ⟨y1, r1, rfl, g1, h1⟩ := h.cons_inv
  obtain ⟨y2, r2, rfl, g2, h2⟩ := h1.cons_inv
  obtain ⟨y3, r3, rfl, g3, h3⟩ := h2.cons_inv
  obtain ⟨y4, r4, rfl, g4, h4⟩ := h3.cons_inv
  obtain ⟨y5, r5, rfl, g5, h5⟩ := h4.cons_inv
  obtain rfl := h5.nil_inv
  obtain ⟨x1, rfl⟩ := dim_inv g1
  obtain ⟨x2, rfl, _⟩ := g2.int_inv rfl
  obtain ⟨x3, rfl, _⟩ := g3.int_inv rfl
  obtain ⟨x4, rfl, f4⟩ := key_inv g4
  obtain ⟨x5, rfl, f5⟩ := key_inv g5
  exact DimStands_ok x1 x2 x3 x4 x5 f4 f5
theorem DimOver_args (xs : List AV) (h : WfA ty 1048576 [41, 3, 3, 48, 48] xs) : PCall P 10 xs (.bool true) := by
  obtain ⟨y1, r1, rfl, g1, h1⟩ := h.cons_inv
  obtain ⟨y2, r2, rfl, g2, h2⟩ := h1.cons_inv
  obtain ⟨y3, r3, rfl, g3, h3⟩ := h2.cons_inv
  obtain ⟨y4, r4, rfl, g4, h4⟩ := h3.cons_inv
  obtain ⟨y5, r5, rfl, g5, h5⟩ := h4.cons_inv
  obtain rfl := h5.nil_inv
  obtain ⟨x1, rfl⟩ := dim_inv g1
  obtain ⟨x2, rfl, _⟩ := g2.int_inv rfl
  obtain ⟨x3, rfl, _⟩ := g3.int_inv rfl
  obtain ⟨x4, rfl, f4⟩ := key_inv g4
  obtain ⟨x5, rfl, f5⟩ := key_inv g5
  exact DimOver_ok x1 x2 x3 x4 x5 f4 f5
end Go.Proofs.YtlmdacgkaailiaaDoor
end
