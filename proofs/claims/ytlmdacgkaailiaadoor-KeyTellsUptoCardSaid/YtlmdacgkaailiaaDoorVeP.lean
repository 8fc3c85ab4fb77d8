/- An abstract weakest precondition, sixteenth text: helps for the walks. -/
import Derived.Test.YtlmdacgkaailiaaDoorVeO
namespace Go.Ve

def EnvIs (e : Env) : List (Nat × AV) → Prop
  | [] => True
  | (k, v) :: r => e k = v ∧ EnvIs e r
theorem EnvIs.get {e : Env} : ∀ {l : List (Nat × AV)}, EnvIs e l → ∀ p ∈ l, e p.1 = p.2
  | [], _, p, hp => by cases hp
  | (k, v) :: r, h, p, hp => by
    rcases List.mem_cons.1 hp with rfl | hp
    · exact h.1
    · exact EnvIs.get h.2 p hp
theorem weak_to {N0 : Nat} {s : AS} {l : List (Nat × AV)} {H : Hp} (h : EnvIs s.env l) (hH : s.H = H) : Weak N0 s ⟨envL l, H⟩ := by
  subst hH; exact weak_env h.get
theorem weak_ren_to {N0 : Nat} {s : AS} (L : List (Nat × Bool)) {H' : Hp} {l : List (Nat × AV)} (hok : okL s.H.length L = true) (hpre : preL 0 N0 L = true) (hH : heapOf (gOf L 0) s.H L = H')
    (h : EnvIs (fun i => renV (gOf L 0) (s.env i)) l) : Weak N0 s ⟨envL l, H'⟩ := weak_ren L hok hpre hH h.get

/-- The slots; a nil list may stand for an empty one. -/
def EnvLe (e : Env) : List (Nat × AV) → Prop
  | [] => True
  | (k, v) :: r => (e k = v ∨ (e k = .nils ∧ v = .sl [])) ∧ EnvLe e r
theorem EnvLe.get {e : Env} : ∀ {l : List (Nat × AV)}, EnvLe e l → ∀ p ∈ l, e p.1 = p.2 ∨ (e p.1 = .nils ∧ p.2 = .sl [])
  | [], _, p, hp => by cases hp
  | (k, v) :: r, h, p, hp => by
    rcases List.mem_cons.1 hp with rfl | hp
    · exact h.1
    · exact EnvLe.get h.2 p hp
theorem weak_le {N0 : Nat} {s : AS} {l : List (Nat × AV)} {H : Hp} (h : EnvLe s.env l) (hH : s.H = H) : Weak N0 s ⟨envL l, H⟩ := by
  subst hH
  intro M0 σ w n a hl hs ha
  refine ⟨σ, List.take_prefix _ _, fun _ h => h, hs, ha.size, ha.defers, fun i => ?_⟩
  rcases envL_get (l := l) (i := i) with e | ⟨p, h1, h2, h3⟩
  · show Rv _ _ (envL l i) _
    rw [e]; exact .undef _ _
  · show Rv _ _ (envL l i) _
    have hr := ha.rv i
    rw [h3]
    rcases h.get p h1 with k | ⟨k1, k2⟩
    · rw [← k, h2]; exact hr
    · rw [k2]
      rw [← h2, k1] at hr
      rw [← h2, hr.nils_inv]
      exact .sl0 _

theorem wrap_i64 {n : Int} (h1 : -9223372036854775808 ≤ n) (h2 : n ≤ 9223372036854775807) : IntKind.i64.wrap n = n := by
  simp [IntKind.wrap, IntKind.signed, IntKind.bits]; omega
theorem wrap_u64 {n : Int} (h1 : 0 ≤ n) (h2 : n ≤ 18446744073709551615) : IntKind.u64.wrap n = n := by
  simp [IntKind.wrap, IntKind.signed, IntKind.bits]; omega
theorem wrap_u8 {n : Int} (h1 : 0 ≤ n) (h2 : n ≤ 255) : IntKind.u8.wrap n = n := by
  simp [IntKind.wrap, IntKind.signed, IntKind.bits]; omega
theorem wrap_nat {n m : Nat} (h : n + m ≤ 9223372036854775807) : AV.int .i64 (IntKind.i64.wrap ((n : Int) + (m : Int))) = AV.int .i64 ((n + m : Nat) : Int) := by
  rw [wrap_i64 (by omega) (by omega)]; rfl

theorem kc {K : KV} {x y : AV} {H : Hp} (h : x = y) (hk : K y H) : K x H := h ▸ hk
/-- The result stands. -/
theorem res1_eq {x y : AV} (h : x = y) : mkRes [x] = y := h

theorem res_eq {xs : List AV} {y : AV} (h : mkRes xs = y) : mkRes xs = y := h

theorem bool_true {b : Bool} (h : b = true) : AV.bool true = AV.bool b := by rw [h]
theorem bool_false {b : Bool} (h : b = false) : AV.bool false = AV.bool b := by rw [h]
end Go.Ve
