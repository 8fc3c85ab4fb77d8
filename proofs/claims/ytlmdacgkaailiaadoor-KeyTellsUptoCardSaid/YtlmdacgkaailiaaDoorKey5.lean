/- key: which key stands ahead, further. -/
import Derived.Test.YtlmdacgkaailiaaDoorKey4
namespace Go.Proofs.YtlmdacgkaailiaaDoor
open Go.Ve

theorem lib_Compare (a b : Bs) : PCall P 84 [.str a, .str b] (.int .i64 (Lib.compareBytes a b)) := by
  unfold PCall
  refine ⟨fn84.callable, fun M0 w vs hM hG hv => ?_⟩
  obtain ⟨hl, hv⟩ := hv
  obtain ⟨v0, v1, rfl⟩ : ∃ v0 v1, vs = [v0, v1] := by
    match vs, hl with
    | [a, b], _ => exact ⟨a, b, rfl⟩
  have e0 := (hv 0 _ rfl).str_inv
  have e1 := (hv 1 _ rfl).str_inv
  simp at e0 e1
  subst e0 e1
  refine (Tryd.strings_Compare ⟨a.toArray⟩ ⟨b.toArray⟩ w).mono ?_
  rintro e w' ⟨rfl, rfl⟩
  exact ⟨_, rfl, Go.RowKit.Below.refl _ _, .int _ _ _⟩

def wcmp (A B : Nat) : Int := orI [cmpI ((A / H64 : Nat) : Int) ((B / H64 : Nat) : Int), cmpI ((A % H64 : Nat) : Int) ((B % H64 : Nat) : Int)]
theorem wcmp_ok (A B : Nat) : PCall P 83 [wv A, wv B] (.int .i64 (wcmp A B)) := by
  refine PCall.of_awp tok mixed fn83 (Nat.le_of_ble_eq_true rfl) ?_
  conv => whnf
  repeat' first | ((with_reducible refine Box.mk ?_); conv => whnf) | ((with_reducible refine And.intro (fun _ => ?_) (fun _ => ?_)) <;> conv => whnf) | fail
  refine ⟨by kernel_rfl, ?_⟩
  conv => whnf
  repeat' first | ((with_reducible refine Box.mk ?_); conv => whnf) | ((with_reducible refine And.intro (fun _ => ?_) (fun _ => ?_)) <;> conv => whnf) | fail
  refine ⟨_, ACall.of_pure (cmpU_ok _ _) rfl ⟨rfl, rfl⟩, ?_⟩
  conv => whnf
  repeat' first | ((with_reducible refine Box.mk ?_); conv => whnf) | ((with_reducible refine And.intro (fun _ => ?_) (fun _ => ?_)) <;> conv => whnf) | fail
  refine ⟨_, ACall.of_pure (cmpU_ok _ _) rfl ⟨rfl, rfl⟩, ?_⟩
  conv => whnf
  repeat' first | ((with_reducible refine Box.mk ?_); conv => whnf) | ((with_reducible refine And.intro (fun _ => ?_) (fun _ => ?_)) <;> conv => whnf) | fail
  refine ⟨_, ACall.of_view (or_ok [cmpI ((A / H64 : Nat) : Int) ((B / H64 : Nat) : Int), cmpI ((A % H64 : Nat) : Int) ((B % H64 : Nat) : Int)] (by simp)) rfl rfl ⟨rfl, rfl⟩, ?_⟩
  conv => whnf
  repeat' first | ((with_reducible refine Box.mk ?_); conv => whnf) | ((with_reducible refine And.intro (fun _ => ?_) (fun _ => ?_)) <;> conv => whnf) | fail
  rfl
def cmpK (a b : Ky) : Int := orI [cmpI a.kind b.kind, wcmp a.n b.n, Lib.compareBytes a.path b.path, cmpI a.len b.len]
theorem cmpK_ok (a b : Ky) : PCall P 67 [kv a, kv b] (.int .i64 (cmpK a b)) := by
  refine PCall.of_awp tok mixed fn67 (Nat.le_of_ble_eq_true rfl) ?_
  conv => whnf
  repeat' first | ((with_reducible refine Box.mk ?_); conv => whnf) | ((with_reducible refine And.intro (fun _ => ?_) (fun _ => ?_)) <;> conv => whnf) | fail
  refine ⟨by kernel_rfl, ?_⟩
  conv => whnf
  repeat' first | ((with_reducible refine Box.mk ?_); conv => whnf) | ((with_reducible refine And.intro (fun _ => ?_) (fun _ => ?_)) <;> conv => whnf) | fail
  refine ⟨_, ACall.of_pure (cmpI_ok _ _) rfl ⟨rfl, rfl⟩, ?_⟩
  conv => whnf
  repeat' first | ((with_reducible refine Box.mk ?_); conv => whnf) | ((with_reducible refine And.intro (fun _ => ?_) (fun _ => ?_)) <;> conv => whnf) | fail
  refine ⟨_, ACall.of_pure (bits_ok a) rfl ⟨rfl, rfl⟩, ?_⟩
  conv => whnf
  repeat' first | ((with_reducible refine Box.mk ?_); conv => whnf) | ((with_reducible refine And.intro (fun _ => ?_) (fun _ => ?_)) <;> conv => whnf) | fail
  refine ⟨_, ACall.of_pure (bits_ok b) rfl ⟨rfl, rfl⟩, ?_⟩
  conv => whnf
  repeat' first | ((with_reducible refine Box.mk ?_); conv => whnf) | ((with_reducible refine And.intro (fun _ => ?_) (fun _ => ?_)) <;> conv => whnf) | fail
  refine ⟨_, ACall.of_pure (wcmp_ok _ _) rfl ⟨rfl, rfl⟩, ?_⟩
  conv => whnf
  repeat' first | ((with_reducible refine Box.mk ?_); conv => whnf) | ((with_reducible refine And.intro (fun _ => ?_) (fun _ => ?_)) <;> conv => whnf) | fail
  refine ⟨_, ACall.of_pure (lib_Compare _ _) rfl ⟨rfl, rfl⟩, ?_⟩
  conv => whnf
  repeat' first | ((with_reducible refine Box.mk ?_); conv => whnf) | ((with_reducible refine And.intro (fun _ => ?_) (fun _ => ?_)) <;> conv => whnf) | fail
  refine ⟨_, ACall.of_pure (cmpI_ok _ _) rfl ⟨rfl, rfl⟩, ?_⟩
  conv => whnf
  repeat' first | ((with_reducible refine Box.mk ?_); conv => whnf) | ((with_reducible refine And.intro (fun _ => ?_) (fun _ => ?_)) <;> conv => whnf) | fail
  refine ⟨_, ACall.of_view (or_ok [cmpI a.kind b.kind, wcmp a.n b.n, Lib.compareBytes a.path b.path, cmpI a.len b.len] (by simp)) rfl rfl ⟨rfl, rfl⟩, ?_⟩
  conv => whnf
  repeat' first | ((with_reducible refine Box.mk ?_); conv => whnf) | ((with_reducible refine And.intro (fun _ => ?_) (fun _ => ?_)) <;> conv => whnf) | fail
  rfl
end Go.Proofs.YtlmdacgkaailiaaDoor
