/- The program's contracts: texts joined into one: LawWire2 LawWire3 LawWire4 LawWire5 WireLaw LawWire6. -/
import Derived.Test.YtlmdacgkaailiaaXla

section
/- wire: what must come of fixed calls; the statement on writing. -/
namespace Go.Proofs.Ytlmdacgkaailiaa
open Go.Ve

def zz (n : Nat) : Bs := List.replicate n 0
def wB : Bs := [1, 2, 0, 2, 97, 98] ++ zz 15 ++ [7, 9]
set_option maxHeartbeats 4000000 in
theorem alive2_ok : PCall P 7 [] (.bool true) := by
  have c1 : DCall P 10 [.ptr 0 0, .int .u64 258, .int .i64 2] (wH []) (.ptr 0 0) (wP [] [1, 2]) := wNum_ok [] (by decide) 258 2
  have c2 : DCall P 24 [.ptr 0 0, .str [97, 98]] (wH [1, 2]) (.ptr 0 0) (wP [1, 2] [1, 2, 0, 2, 97, 98]) := wText_ok [1, 2] (by decide) [97, 98]
  have c3 : DCall P 23 [.ptr 0 0, .agg [.int .u64 0, .int .u64 7]] (wH [1, 2, 0, 2, 97, 98]) (.ptr 0 0) (wP [1, 2, 0, 2, 97, 98] ([1, 2, 0, 2, 97, 98] ++ zz 15 ++ [7])) := wWide_ok [1, 2, 0, 2, 97, 98] (by decide) 0 7
  have c4 : DCall P 25 [.ptr 0 0, .sl (bcl [9])] (wH ([1, 2, 0, 2, 97, 98] ++ zz 15 ++ [7])) (.ptr 0 0) (wP ([1, 2, 0, 2, 97, 98] ++ zz 15 ++ [7]) wB) := wRaw_ok _ (by decide) false [9] (by decide) (by decide)
  have c5 : DCall P 9 [.ptr 0 0] (wH wB) (.sl (bcl wB)) (wH wB) := wBytes_ok wB (by decide)
  have c6 : DCall P 11 [.sl (bcl wB)] [] (.ptr 0 0) (rH wB 0) := from_sl wB (by decide)
  have c7 : DCall P 19 [.ptr 0 0, .int .i64 2] (rH wB 0) (.int .u64 258) (rH (wB.drop 2) 0) := rNum_ok wB 0 2 (by decide)
  have c8 : DCall P 20 [.ptr 0 0, .int .i64 5] (rH (wB.drop 2) 0) (.str [97, 98]) (rH (wB.drop 6) 0) := rText_ok (wB.drop 2) 0 5 (by decide)
  have c9 : DCall P 22 [.ptr 0 0] (rH (wB.drop 6) 0) (.agg [.int .u64 0, .int .u64 7]) (rH [9] 0) := rWide_ok (wB.drop 6) 0 (by decide)
  have c10 : DCall P 21 [.ptr 0 0, .int .i64 1] (rH [9] 0) (.sl (bcl [9])) (rH [] 0) := rRaw_ok [9] 0 1 (by decide)
  have c11 : DCall P 11 [.sl (bcl [1, 2, 0])] [] (.ptr 0 0) (rH [1, 2, 0] 0) := from_sl [1, 2, 0] (by decide)
  have c12 : DCall P 19 [.ptr 0 0, .int .i64 4] (rH [1, 2, 0] 0) (.int .u64 0) (rH [1, 2, 0] 8) := rNum_ok [1, 2, 0] 0 4 (by decide)
  have c13 : DCall P 14 [.ptr 0 0] (rH [] 0) (.int .i64 0) (rH [] 0) := rEnd_ok [] 0
  have c14 : DCall P 14 [.ptr 0 0] (rH [1, 2, 0] 8) (.int .i64 8) (rH [1, 2, 0] 8) := rEnd_ok [1, 2, 0] 8
  have c15 : PCall P 26 [.int .u64 7] (.agg [.int .u64 0, .int .u64 7]) := of_ok 7 (Nat.le_of_ble_eq_true rfl)
  refine PCall.of_awp tok mixed fn7 (Nat.le_of_ble_eq_true rfl) ?_
  (conv => whnf); (repeat' first | ((with_reducible refine Box.mk ?_); conv => whnf) | ((with_reducible refine And.intro (fun _ => ?_) (fun _ => ?_)) <;> conv => whnf) | ((with_reducible show AYld _ _ _ _ _); (refine AYld.of tok mixed ?_); conv => whnf) | ((with_reducible show forceH _ _); (refine (forceH_eq _ _).mpr ?_); conv => whnf) | ((with_reducible show ACall _ _ _ _ _); (refine ACall.of_pure (by assumption) (by rfl) ?_); conv => whnf) | ((with_reducible show Exists _); (refine ⟨_, ACall.of_pure (by assumption) (by rfl) ⟨rfl, rfl⟩, ?_⟩); conv => whnf) | ((with_reducible show _ ∧ _ ∧ _); (refine ⟨by omega, by omega, ?_⟩); conv => whnf) | fail)
  refine aW [0] c1 rfl rfl rfl ?_
  (conv => whnf); (repeat' first | ((with_reducible refine Box.mk ?_); conv => whnf) | ((with_reducible refine And.intro (fun _ => ?_) (fun _ => ?_)) <;> conv => whnf) | ((with_reducible show AYld _ _ _ _ _); (refine AYld.of tok mixed ?_); conv => whnf) | ((with_reducible show forceH _ _); (refine (forceH_eq _ _).mpr ?_); conv => whnf) | ((with_reducible show ACall _ _ _ _ _); (refine ACall.of_pure (by assumption) (by rfl) ?_); conv => whnf) | ((with_reducible show Exists _); (refine ⟨_, ACall.of_pure (by assumption) (by rfl) ⟨rfl, rfl⟩, ?_⟩); conv => whnf) | ((with_reducible show _ ∧ _ ∧ _); (refine ⟨by omega, by omega, ?_⟩); conv => whnf) | fail)
  refine aW [0, 1] c2 rfl rfl rfl ?_
  (conv => whnf); (repeat' first | ((with_reducible refine Box.mk ?_); conv => whnf) | ((with_reducible refine And.intro (fun _ => ?_) (fun _ => ?_)) <;> conv => whnf) | ((with_reducible show AYld _ _ _ _ _); (refine AYld.of tok mixed ?_); conv => whnf) | ((with_reducible show forceH _ _); (refine (forceH_eq _ _).mpr ?_); conv => whnf) | ((with_reducible show ACall _ _ _ _ _); (refine ACall.of_pure (by assumption) (by rfl) ?_); conv => whnf) | ((with_reducible show Exists _); (refine ⟨_, ACall.of_pure (by assumption) (by rfl) ⟨rfl, rfl⟩, ?_⟩); conv => whnf) | ((with_reducible show _ ∧ _ ∧ _); (refine ⟨by omega, by omega, ?_⟩); conv => whnf) | fail)
  refine aW [0, 2] c3 rfl rfl rfl ?_
  (conv => whnf); (repeat' first | ((with_reducible refine Box.mk ?_); conv => whnf) | ((with_reducible refine And.intro (fun _ => ?_) (fun _ => ?_)) <;> conv => whnf) | ((with_reducible show AYld _ _ _ _ _); (refine AYld.of tok mixed ?_); conv => whnf) | ((with_reducible show forceH _ _); (refine (forceH_eq _ _).mpr ?_); conv => whnf) | ((with_reducible show ACall _ _ _ _ _); (refine ACall.of_pure (by assumption) (by rfl) ?_); conv => whnf) | ((with_reducible show Exists _); (refine ⟨_, ACall.of_pure (by assumption) (by rfl) ⟨rfl, rfl⟩, ?_⟩); conv => whnf) | ((with_reducible show _ ∧ _ ∧ _); (refine ⟨by omega, by omega, ?_⟩); conv => whnf) | fail)
  refine ACall.freeze 4 rfl rfl ?_
  refine aW [0, 3] c4 rfl rfl rfl ?_
  (conv => whnf); (repeat' first | ((with_reducible refine Box.mk ?_); conv => whnf) | ((with_reducible refine And.intro (fun _ => ?_) (fun _ => ?_)) <;> conv => whnf) | ((with_reducible show AYld _ _ _ _ _); (refine AYld.of tok mixed ?_); conv => whnf) | ((with_reducible show forceH _ _); (refine (forceH_eq _ _).mpr ?_); conv => whnf) | ((with_reducible show ACall _ _ _ _ _); (refine ACall.of_pure (by assumption) (by rfl) ?_); conv => whnf) | ((with_reducible show Exists _); (refine ⟨_, ACall.of_pure (by assumption) (by rfl) ⟨rfl, rfl⟩, ?_⟩); conv => whnf) | ((with_reducible show _ ∧ _ ∧ _); (refine ⟨by omega, by omega, ?_⟩); conv => whnf) | fail)
  refine aW [0, 5] c5 rfl rfl rfl ?_
  (conv => whnf); (repeat' first | ((with_reducible refine Box.mk ?_); conv => whnf) | ((with_reducible refine And.intro (fun _ => ?_) (fun _ => ?_)) <;> conv => whnf) | ((with_reducible show AYld _ _ _ _ _); (refine AYld.of tok mixed ?_); conv => whnf) | ((with_reducible show forceH _ _); (refine (forceH_eq _ _).mpr ?_); conv => whnf) | ((with_reducible show ACall _ _ _ _ _); (refine ACall.of_pure (by assumption) (by rfl) ?_); conv => whnf) | ((with_reducible show Exists _); (refine ⟨_, ACall.of_pure (by assumption) (by rfl) ⟨rfl, rfl⟩, ?_⟩); conv => whnf) | ((with_reducible show _ ∧ _ ∧ _); (refine ⟨by omega, by omega, ?_⟩); conv => whnf) | fail)
  all_goals try (rename_i hbad; exact absurd rfl hbad)
  refine aW [] c6 rfl rfl rfl ?_
  (conv => whnf); (repeat' first | ((with_reducible refine Box.mk ?_); conv => whnf) | ((with_reducible refine And.intro (fun _ => ?_) (fun _ => ?_)) <;> conv => whnf) | ((with_reducible show AYld _ _ _ _ _); (refine AYld.of tok mixed ?_); conv => whnf) | ((with_reducible show forceH _ _); (refine (forceH_eq _ _).mpr ?_); conv => whnf) | ((with_reducible show ACall _ _ _ _ _); (refine ACall.of_pure (by assumption) (by rfl) ?_); conv => whnf) | ((with_reducible show Exists _); (refine ⟨_, ACall.of_pure (by assumption) (by rfl) ⟨rfl, rfl⟩, ?_⟩); conv => whnf) | ((with_reducible show _ ∧ _ ∧ _); (refine ⟨by omega, by omega, ?_⟩); conv => whnf) | fail)
  refine aW [6] c7 rfl rfl rfl ?_
  (conv => whnf); (repeat' first | ((with_reducible refine Box.mk ?_); conv => whnf) | ((with_reducible refine And.intro (fun _ => ?_) (fun _ => ?_)) <;> conv => whnf) | ((with_reducible show AYld _ _ _ _ _); (refine AYld.of tok mixed ?_); conv => whnf) | ((with_reducible show forceH _ _); (refine (forceH_eq _ _).mpr ?_); conv => whnf) | ((with_reducible show ACall _ _ _ _ _); (refine ACall.of_pure (by assumption) (by rfl) ?_); conv => whnf) | ((with_reducible show Exists _); (refine ⟨_, ACall.of_pure (by assumption) (by rfl) ⟨rfl, rfl⟩, ?_⟩); conv => whnf) | ((with_reducible show _ ∧ _ ∧ _); (refine ⟨by omega, by omega, ?_⟩); conv => whnf) | fail)
  refine aW [6] c8 rfl rfl rfl ?_
  (conv => whnf); (repeat' first | ((with_reducible refine Box.mk ?_); conv => whnf) | ((with_reducible refine And.intro (fun _ => ?_) (fun _ => ?_)) <;> conv => whnf) | ((with_reducible show AYld _ _ _ _ _); (refine AYld.of tok mixed ?_); conv => whnf) | ((with_reducible show forceH _ _); (refine (forceH_eq _ _).mpr ?_); conv => whnf) | ((with_reducible show ACall _ _ _ _ _); (refine ACall.of_pure (by assumption) (by rfl) ?_); conv => whnf) | ((with_reducible show Exists _); (refine ⟨_, ACall.of_pure (by assumption) (by rfl) ⟨rfl, rfl⟩, ?_⟩); conv => whnf) | ((with_reducible show _ ∧ _ ∧ _); (refine ⟨by omega, by omega, ?_⟩); conv => whnf) | fail)
  refine aW [6] c9 rfl rfl rfl ?_
  (conv => whnf); (repeat' first | ((with_reducible refine Box.mk ?_); conv => whnf) | ((with_reducible refine And.intro (fun _ => ?_) (fun _ => ?_)) <;> conv => whnf) | ((with_reducible show AYld _ _ _ _ _); (refine AYld.of tok mixed ?_); conv => whnf) | ((with_reducible show forceH _ _); (refine (forceH_eq _ _).mpr ?_); conv => whnf) | ((with_reducible show ACall _ _ _ _ _); (refine ACall.of_pure (by assumption) (by rfl) ?_); conv => whnf) | ((with_reducible show Exists _); (refine ⟨_, ACall.of_pure (by assumption) (by rfl) ⟨rfl, rfl⟩, ?_⟩); conv => whnf) | ((with_reducible show _ ∧ _ ∧ _); (refine ⟨by omega, by omega, ?_⟩); conv => whnf) | fail)
  refine aW [6] c10 rfl rfl rfl ?_
  (conv => whnf); (repeat' first | ((with_reducible refine Box.mk ?_); conv => whnf) | ((with_reducible refine And.intro (fun _ => ?_) (fun _ => ?_)) <;> conv => whnf) | ((with_reducible show AYld _ _ _ _ _); (refine AYld.of tok mixed ?_); conv => whnf) | ((with_reducible show forceH _ _); (refine (forceH_eq _ _).mpr ?_); conv => whnf) | ((with_reducible show ACall _ _ _ _ _); (refine ACall.of_pure (by assumption) (by rfl) ?_); conv => whnf) | ((with_reducible show Exists _); (refine ⟨_, ACall.of_pure (by assumption) (by rfl) ⟨rfl, rfl⟩, ?_⟩); conv => whnf) | ((with_reducible show _ ∧ _ ∧ _); (refine ⟨by omega, by omega, ?_⟩); conv => whnf) | fail)
  refine ⟨bcl_all wB, ?_⟩
  (conv => whnf); (repeat' first | ((with_reducible refine Box.mk ?_); conv => whnf) | ((with_reducible refine And.intro (fun _ => ?_) (fun _ => ?_)) <;> conv => whnf) | ((with_reducible show AYld _ _ _ _ _); (refine AYld.of tok mixed ?_); conv => whnf) | ((with_reducible show forceH _ _); (refine (forceH_eq _ _).mpr ?_); conv => whnf) | ((with_reducible show ACall _ _ _ _ _); (refine ACall.of_pure (by assumption) (by rfl) ?_); conv => whnf) | ((with_reducible show Exists _); (refine ⟨_, ACall.of_pure (by assumption) (by rfl) ⟨rfl, rfl⟩, ?_⟩); conv => whnf) | ((with_reducible show _ ∧ _ ∧ _); (refine ⟨by omega, by omega, ?_⟩); conv => whnf) | fail)
  refine aW [] c11 rfl rfl rfl ?_
  (conv => whnf); (repeat' first | ((with_reducible refine Box.mk ?_); conv => whnf) | ((with_reducible refine And.intro (fun _ => ?_) (fun _ => ?_)) <;> conv => whnf) | ((with_reducible show AYld _ _ _ _ _); (refine AYld.of tok mixed ?_); conv => whnf) | ((with_reducible show forceH _ _); (refine (forceH_eq _ _).mpr ?_); conv => whnf) | ((with_reducible show ACall _ _ _ _ _); (refine ACall.of_pure (by assumption) (by rfl) ?_); conv => whnf) | ((with_reducible show Exists _); (refine ⟨_, ACall.of_pure (by assumption) (by rfl) ⟨rfl, rfl⟩, ?_⟩); conv => whnf) | ((with_reducible show _ ∧ _ ∧ _); (refine ⟨by omega, by omega, ?_⟩); conv => whnf) | fail)
  refine aW [8] c12 rfl rfl rfl ?_
  (conv => whnf); (repeat' first | ((with_reducible refine Box.mk ?_); conv => whnf) | ((with_reducible refine And.intro (fun _ => ?_) (fun _ => ?_)) <;> conv => whnf) | ((with_reducible show AYld _ _ _ _ _); (refine AYld.of tok mixed ?_); conv => whnf) | ((with_reducible show forceH _ _); (refine (forceH_eq _ _).mpr ?_); conv => whnf) | ((with_reducible show ACall _ _ _ _ _); (refine ACall.of_pure (by assumption) (by rfl) ?_); conv => whnf) | ((with_reducible show Exists _); (refine ⟨_, ACall.of_pure (by assumption) (by rfl) ⟨rfl, rfl⟩, ?_⟩); conv => whnf) | ((with_reducible show _ ∧ _ ∧ _); (refine ⟨by omega, by omega, ?_⟩); conv => whnf) | fail)
  refine ⟨[], by kernel_rfl, ?_⟩
  (conv => whnf); (repeat' first | ((with_reducible refine Box.mk ?_); conv => whnf) | ((with_reducible refine And.intro (fun _ => ?_) (fun _ => ?_)) <;> conv => whnf) | ((with_reducible show AYld _ _ _ _ _); (refine AYld.of tok mixed ?_); conv => whnf) | ((with_reducible show forceH _ _); (refine (forceH_eq _ _).mpr ?_); conv => whnf) | ((with_reducible show ACall _ _ _ _ _); (refine ACall.of_pure (by assumption) (by rfl) ?_); conv => whnf) | ((with_reducible show Exists _); (refine ⟨_, ACall.of_pure (by assumption) (by rfl) ⟨rfl, rfl⟩, ?_⟩); conv => whnf) | ((with_reducible show _ ∧ _ ∧ _); (refine ⟨by omega, by omega, ?_⟩); conv => whnf) | fail)
  refine ⟨bcl_all wB, ?_⟩
  (conv => whnf); (repeat' first | ((with_reducible refine Box.mk ?_); conv => whnf) | ((with_reducible refine And.intro (fun _ => ?_) (fun _ => ?_)) <;> conv => whnf) | ((with_reducible show AYld _ _ _ _ _); (refine AYld.of tok mixed ?_); conv => whnf) | ((with_reducible show forceH _ _); (refine (forceH_eq _ _).mpr ?_); conv => whnf) | ((with_reducible show ACall _ _ _ _ _); (refine ACall.of_pure (by assumption) (by rfl) ?_); conv => whnf) | ((with_reducible show Exists _); (refine ⟨_, ACall.of_pure (by assumption) (by rfl) ⟨rfl, rfl⟩, ?_⟩); conv => whnf) | ((with_reducible show _ ∧ _ ∧ _); (refine ⟨by omega, by omega, ?_⟩); conv => whnf) | fail)
  refine ⟨[1, 2, 0, 2, 97, 98], rfl, ?_⟩
  (conv => whnf); (repeat' first | ((with_reducible refine Box.mk ?_); conv => whnf) | ((with_reducible refine And.intro (fun _ => ?_) (fun _ => ?_)) <;> conv => whnf) | ((with_reducible show AYld _ _ _ _ _); (refine AYld.of tok mixed ?_); conv => whnf) | ((with_reducible show forceH _ _); (refine (forceH_eq _ _).mpr ?_); conv => whnf) | ((with_reducible show ACall _ _ _ _ _); (refine ACall.of_pure (by assumption) (by rfl) ?_); conv => whnf) | ((with_reducible show Exists _); (refine ⟨_, ACall.of_pure (by assumption) (by rfl) ⟨rfl, rfl⟩, ?_⟩); conv => whnf) | ((with_reducible show _ ∧ _ ∧ _); (refine ⟨by omega, by omega, ?_⟩); conv => whnf) | fail)
  all_goals try (rename_i hbad; exact absurd rfl hbad)
  all_goals try (rename_i hbad; exact absurd (⟨rfl, rfl⟩ : _ ∧ _) hbad)
  refine ⟨[9], rfl, ?_⟩
  (conv => whnf); (repeat' first | ((with_reducible refine Box.mk ?_); conv => whnf) | ((with_reducible refine And.intro (fun _ => ?_) (fun _ => ?_)) <;> conv => whnf) | ((with_reducible show AYld _ _ _ _ _); (refine AYld.of tok mixed ?_); conv => whnf) | ((with_reducible show forceH _ _); (refine (forceH_eq _ _).mpr ?_); conv => whnf) | ((with_reducible show ACall _ _ _ _ _); (refine ACall.of_pure (by assumption) (by rfl) ?_); conv => whnf) | ((with_reducible show Exists _); (refine ⟨_, ACall.of_pure (by assumption) (by rfl) ⟨rfl, rfl⟩, ?_⟩); conv => whnf) | ((with_reducible show _ ∧ _ ∧ _); (refine ⟨by omega, by omega, ?_⟩); conv => whnf) | fail)
  all_goals try (rename_i hbad; exact absurd rfl hbad)
  refine aDr [6] c13 rfl rfl rfl rfl ?_
  (conv => whnf); (repeat' first | ((with_reducible refine Box.mk ?_); conv => whnf) | ((with_reducible refine And.intro (fun _ => ?_) (fun _ => ?_)) <;> conv => whnf) | ((with_reducible show AYld _ _ _ _ _); (refine AYld.of tok mixed ?_); conv => whnf) | ((with_reducible show forceH _ _); (refine (forceH_eq _ _).mpr ?_); conv => whnf) | ((with_reducible show ACall _ _ _ _ _); (refine ACall.of_pure (by assumption) (by rfl) ?_); conv => whnf) | ((with_reducible show Exists _); (refine ⟨_, ACall.of_pure (by assumption) (by rfl) ⟨rfl, rfl⟩, ?_⟩); conv => whnf) | ((with_reducible show _ ∧ _ ∧ _); (refine ⟨by omega, by omega, ?_⟩); conv => whnf) | fail)
  all_goals try (rename_i hbad; exact absurd rfl hbad)
  refine aDr [8] c14 rfl rfl rfl rfl ?_
  (conv => whnf); (repeat' first | ((with_reducible refine Box.mk ?_); conv => whnf) | ((with_reducible refine And.intro (fun _ => ?_) (fun _ => ?_)) <;> conv => whnf) | ((with_reducible show AYld _ _ _ _ _); (refine AYld.of tok mixed ?_); conv => whnf) | ((with_reducible show forceH _ _); (refine (forceH_eq _ _).mpr ?_); conv => whnf) | ((with_reducible show ACall _ _ _ _ _); (refine ACall.of_pure (by assumption) (by rfl) ?_); conv => whnf) | ((with_reducible show Exists _); (refine ⟨_, ACall.of_pure (by assumption) (by rfl) ⟨rfl, rfl⟩, ?_⟩); conv => whnf) | ((with_reducible show _ ∧ _ ∧ _); (refine ⟨by omega, by omega, ?_⟩); conv => whnf) | fail)
  all_goals first
    | rfl
    | (rename_i hbad; exact absurd rfl hbad)
def lcl (l : List Pt) : List (List AV) := l.map ptc
theorem lcl_len (l : List Pt) : (lcl l).length = l.length := by simp [lcl]
theorem lcl_get {l : List Pt} {i : Nat} {p : Pt} (h : l[i]? = some p) : (lcl l)[(i : Int).toNat]? = some (ptc p) := by rw [Int.toNat_natCast, lcl, List.getElem?_map, h]; rfl
/-- The heap at the head of the writing loop; the slot of what should be written. -/
def wwH : Bs → Hp
  | [] => [.box 26 [.nils]]
  | x :: r => [.box 26 [.own 1], .row 5 1 (bcl (x :: r)), .row 5 1 (bcl (x :: r))]
def wwV : Bs → AV
  | [] => .nils
  | _ :: _ => .own 2
theorem part_len (p : Pt) (hg : greatP p = false) : (partB p).length ≤ 66000 := by
  have h := of_decide_eq_false hg
  unfold partB
  split
  · rw [numB_len]; have := szN_pos p.i; omega
  · split
    · rw [List.length_append, numB_len, numB_len]; omega
    · split
      · unfold textB; rw [List.length_append, numB_len, List.length_take]; omega
      · split
        · omega
        · exact Nat.zero_le _
set_option maxHeartbeats 8000000 in
theorem WireWrites_ok (l : List Pt) (hl : ∀ p ∈ l, PtOk p) : PCall P 3 [.sl (lcl l)] (.bool true) := by
  have q1 := alive2_ok
  have hll := lcl_len l
  have q3 := wBytes_nil
  have q4 := wNum_nil 1 1
  refine PCall.of_awp tok mixed fn3 (Nat.le_of_ble_eq_true rfl) ?_
  (conv => whnf); (repeat' first | ((with_reducible refine Box.mk ?_); conv => whnf) | ((with_reducible refine And.intro (fun _ => ?_) (fun _ => ?_)) <;> conv => whnf) | ((with_reducible show AYld _ _ _ _ _); (refine AYld.of tok mixed ?_); conv => whnf) | ((with_reducible show forceH _ _); (refine (forceH_eq _ _).mpr ?_); conv => whnf) | ((with_reducible show ACall _ _ _ _ _); (refine ACall.of_pure (by assumption) (by rfl) ?_); conv => whnf) | ((with_reducible show Exists _); (refine ⟨_, ACall.of_pure (by assumption) (by rfl) ⟨rfl, rfl⟩, ?_⟩); conv => whnf) | ((with_reducible show _ ∧ _ ∧ _); (refine ⟨by omega, by omega, ?_⟩); conv => whnf) | fail)
  refine aloop (fun x : Nat × Bs => x.1 ≤ l.length ∧ x.1 ≤ 30 ∧ x.2.length ≤ x.1 * 66000) (fun x => ⟨envL [(0, .sl (lcl l)), (3, .ptr 0 0), (4, .nilp), (5, wwV x.2), (6, .int .i64 x.1)], wwH x.2⟩) (fun x => l.length - x.1) (0, []) ⟨Nat.zero_le _, Nat.zero_le _, Nat.zero_le _⟩ (weak_to ⟨rfl, rfl, rfl, rfl, rfl, trivial⟩ rfl) ?_
  rintro ⟨i, bs⟩ ⟨hi, hi30, hbs⟩
  have hi : i ≤ l.length := hi
  have hi30 : i ≤ 30 := hi30
  have hbs : bs.length ≤ i * 66000 := hbs
  have hbl := bcl_len bs
  by_cases hil : i < l.length ∧ i < 30
  · have hg0 : l[i]? = some l[i] := List.getElem?_eq_getElem hil.1
    have hg := lcl_get hg0
    have hp := hl _ (List.getElem_mem hil.1)
    have q2 := great_ok l[i] hp
    have q5 := put_ok bs (by omega) l[i] hp
    have q6 := put0_ok l[i] hp
    have hpl := part_len l[i]
    generalize l[i] = p at *
    have hbb : (p.bn = true ∧ ptc p = [.int .i64 p.kind, .int .i64 p.i, .int .u64 p.n, .int .u64 p.hi, .int .u64 p.lo, .str p.s, .nils]) ∨ (p.bn = false ∧ ptc p = [.int .i64 p.kind, .int .i64 p.i, .int .u64 p.n, .int .u64 p.hi, .int .u64 p.lo, .str p.s, .sl (bcl p.b)]) := by
      cases h : p.bn
      · refine .inr ⟨rfl, ?_⟩
        unfold ptc bv; rw [h]; rfl
      · refine .inl ⟨rfl, ?_⟩
        unfold ptc bv; rw [h]; rfl
    rcases hbb with hbb | hbb
    · obtain ⟨hbn, hpc⟩ := hbb
      unfold ptv at q2 q5 q6
      rw [hpc] at hg q2 q5 q6
      cases hgr : greatP p with
      | true =>
        rw [hgr] at q2
        cases bs with
        | nil =>
          (conv => whnf); (repeat' first | ((with_reducible refine Box.mk ?_); conv => whnf) | ((with_reducible refine And.intro (fun _ => ?_) (fun _ => ?_)) <;> conv => whnf) | ((with_reducible show AYld _ _ _ _ _); (refine AYld.of tok mixed ?_); conv => whnf) | ((with_reducible show forceH _ _); (refine (forceH_eq _ _).mpr ?_); conv => whnf) | ((with_reducible show ACall _ _ _ _ _); (refine ACall.of_pure (by assumption) (by rfl) ?_); conv => whnf) | ((with_reducible show Exists _); (refine ⟨_, ACall.of_pure (by assumption) (by rfl) ⟨rfl, rfl⟩, ?_⟩); conv => whnf) | ((with_reducible show _ ∧ _ ∧ _); (refine ⟨by omega, by omega, ?_⟩); conv => whnf) | fail)
          all_goals try (exfalso; omega)
          refine ⟨by omega, _, hg, rfl, ?_⟩
          (conv => whnf); (repeat' first | ((with_reducible refine Box.mk ?_); conv => whnf) | ((with_reducible refine And.intro (fun _ => ?_) (fun _ => ?_)) <;> conv => whnf) | ((with_reducible show AYld _ _ _ _ _); (refine AYld.of tok mixed ?_); conv => whnf) | ((with_reducible show forceH _ _); (refine (forceH_eq _ _).mpr ?_); conv => whnf) | ((with_reducible show ACall _ _ _ _ _); (refine ACall.of_pure (by assumption) (by rfl) ?_); conv => whnf) | ((with_reducible show Exists _); (refine ⟨_, ACall.of_pure (by assumption) (by rfl) ⟨rfl, rfl⟩, ?_⟩); conv => whnf) | ((with_reducible show _ ∧ _ ∧ _); (refine ⟨by omega, by omega, ?_⟩); conv => whnf) | fail)
          all_goals try contradiction
          rfl
        | cons y r =>
          (conv => whnf); (repeat' first | ((with_reducible refine Box.mk ?_); conv => whnf) | ((with_reducible refine And.intro (fun _ => ?_) (fun _ => ?_)) <;> conv => whnf) | ((with_reducible show AYld _ _ _ _ _); (refine AYld.of tok mixed ?_); conv => whnf) | ((with_reducible show forceH _ _); (refine (forceH_eq _ _).mpr ?_); conv => whnf) | ((with_reducible show ACall _ _ _ _ _); (refine ACall.of_pure (by assumption) (by rfl) ?_); conv => whnf) | ((with_reducible show Exists _); (refine ⟨_, ACall.of_pure (by assumption) (by rfl) ⟨rfl, rfl⟩, ?_⟩); conv => whnf) | ((with_reducible show _ ∧ _ ∧ _); (refine ⟨by omega, by omega, ?_⟩); conv => whnf) | fail)
          all_goals try (exfalso; omega)
          refine ⟨by omega, _, hg, rfl, ?_⟩
          (conv => whnf); (repeat' first | ((with_reducible refine Box.mk ?_); conv => whnf) | ((with_reducible refine And.intro (fun _ => ?_) (fun _ => ?_)) <;> conv => whnf) | ((with_reducible show AYld _ _ _ _ _); (refine AYld.of tok mixed ?_); conv => whnf) | ((with_reducible show forceH _ _); (refine (forceH_eq _ _).mpr ?_); conv => whnf) | ((with_reducible show ACall _ _ _ _ _); (refine ACall.of_pure (by assumption) (by rfl) ?_); conv => whnf) | ((with_reducible show Exists _); (refine ⟨_, ACall.of_pure (by assumption) (by rfl) ⟨rfl, rfl⟩, ?_⟩); conv => whnf) | ((with_reducible show _ ∧ _ ∧ _); (refine ⟨by omega, by omega, ?_⟩); conv => whnf) | fail)
          all_goals try contradiction
          rfl
      | false =>
        rw [hgr] at q2
        have hgd := of_decide_eq_false hgr
        have q5 := q5 (by omega)
        have hpl := hpl hgr
        have hxl := bcl_len (partB p)
        have hxc := bcl_cells (partB p)
        generalize partB p = x at *
        cases bs with
        | nil =>
          cases x with
          | nil =>
            (conv => whnf); (repeat' first | ((with_reducible refine Box.mk ?_); conv => whnf) | ((with_reducible refine And.intro (fun _ => ?_) (fun _ => ?_)) <;> conv => whnf) | ((with_reducible show AYld _ _ _ _ _); (refine AYld.of tok mixed ?_); conv => whnf) | ((with_reducible show forceH _ _); (refine (forceH_eq _ _).mpr ?_); conv => whnf) | ((with_reducible show ACall _ _ _ _ _); (refine ACall.of_pure (by assumption) (by rfl) ?_); conv => whnf) | ((with_reducible show Exists _); (refine ⟨_, ACall.of_pure (by assumption) (by rfl) ⟨rfl, rfl⟩, ?_⟩); conv => whnf) | ((with_reducible show _ ∧ _ ∧ _); (refine ⟨by omega, by omega, ?_⟩); conv => whnf) | fail)
            all_goals try (exfalso; omega)
            refine ⟨by omega, _, hg, rfl, ?_⟩
            (conv => whnf); (repeat' first | ((with_reducible refine Box.mk ?_); conv => whnf) | ((with_reducible refine And.intro (fun _ => ?_) (fun _ => ?_)) <;> conv => whnf) | ((with_reducible show AYld _ _ _ _ _); (refine AYld.of tok mixed ?_); conv => whnf) | ((with_reducible show forceH _ _); (refine (forceH_eq _ _).mpr ?_); conv => whnf) | ((with_reducible show ACall _ _ _ _ _); (refine ACall.of_pure (by assumption) (by rfl) ?_); conv => whnf) | ((with_reducible show Exists _); (refine ⟨_, ACall.of_pure (by assumption) (by rfl) ⟨rfl, rfl⟩, ?_⟩); conv => whnf) | ((with_reducible show _ ∧ _ ∧ _); (refine ⟨by omega, by omega, ?_⟩); conv => whnf) | fail)
            all_goals try contradiction
            refine ⟨by omega, _, hg, rfl, ?_⟩
            (conv => whnf); (repeat' first | ((with_reducible refine Box.mk ?_); conv => whnf) | ((with_reducible refine And.intro (fun _ => ?_) (fun _ => ?_)) <;> conv => whnf) | ((with_reducible show AYld _ _ _ _ _); (refine AYld.of tok mixed ?_); conv => whnf) | ((with_reducible show forceH _ _); (refine (forceH_eq _ _).mpr ?_); conv => whnf) | ((with_reducible show ACall _ _ _ _ _); (refine ACall.of_pure (by assumption) (by rfl) ?_); conv => whnf) | ((with_reducible show Exists _); (refine ⟨_, ACall.of_pure (by assumption) (by rfl) ⟨rfl, rfl⟩, ?_⟩); conv => whnf) | ((with_reducible show _ ∧ _ ∧ _); (refine ⟨by omega, by omega, ?_⟩); conv => whnf) | fail)
            refine aW [0] q5 rfl rfl rfl ?_
            (conv => whnf); (repeat' first | ((with_reducible refine Box.mk ?_); conv => whnf) | ((with_reducible refine And.intro (fun _ => ?_) (fun _ => ?_)) <;> conv => whnf) | ((with_reducible show AYld _ _ _ _ _); (refine AYld.of tok mixed ?_); conv => whnf) | ((with_reducible show forceH _ _); (refine (forceH_eq _ _).mpr ?_); conv => whnf) | ((with_reducible show ACall _ _ _ _ _); (refine ACall.of_pure (by assumption) (by rfl) ?_); conv => whnf) | ((with_reducible show Exists _); (refine ⟨_, ACall.of_pure (by assumption) (by rfl) ⟨rfl, rfl⟩, ?_⟩); conv => whnf) | ((with_reducible show _ ∧ _ ∧ _); (refine ⟨by omega, by omega, ?_⟩); conv => whnf) | fail)
            refine ⟨hxc, fun _ => ?_, fun h => absurd rfl h⟩
            (conv => whnf); (repeat' first | ((with_reducible refine Box.mk ?_); conv => whnf) | ((with_reducible refine And.intro (fun _ => ?_) (fun _ => ?_)) <;> conv => whnf) | ((with_reducible show AYld _ _ _ _ _); (refine AYld.of tok mixed ?_); conv => whnf) | ((with_reducible show forceH _ _); (refine (forceH_eq _ _).mpr ?_); conv => whnf) | ((with_reducible show ACall _ _ _ _ _); (refine ACall.of_pure (by assumption) (by rfl) ?_); conv => whnf) | ((with_reducible show Exists _); (refine ⟨_, ACall.of_pure (by assumption) (by rfl) ⟨rfl, rfl⟩, ?_⟩); conv => whnf) | ((with_reducible show _ ∧ _ ∧ _); (refine ⟨by omega, by omega, ?_⟩); conv => whnf) | fail)
            refine ⟨by omega, _, hg, rfl, ?_⟩
            (conv => whnf); (repeat' first | ((with_reducible refine Box.mk ?_); conv => whnf) | ((with_reducible refine And.intro (fun _ => ?_) (fun _ => ?_)) <;> conv => whnf) | ((with_reducible show AYld _ _ _ _ _); (refine AYld.of tok mixed ?_); conv => whnf) | ((with_reducible show forceH _ _); (refine (forceH_eq _ _).mpr ?_); conv => whnf) | ((with_reducible show ACall _ _ _ _ _); (refine ACall.of_pure (by assumption) (by rfl) ?_); conv => whnf) | ((with_reducible show Exists _); (refine ⟨_, ACall.of_pure (by assumption) (by rfl) ⟨rfl, rfl⟩, ?_⟩); conv => whnf) | ((with_reducible show _ ∧ _ ∧ _); (refine ⟨by omega, by omega, ?_⟩); conv => whnf) | fail)
            refine aW [] q6 rfl rfl rfl ?_
            (conv => whnf); (repeat' first | ((with_reducible refine Box.mk ?_); conv => whnf) | ((with_reducible refine And.intro (fun _ => ?_) (fun _ => ?_)) <;> conv => whnf) | ((with_reducible show AYld _ _ _ _ _); (refine AYld.of tok mixed ?_); conv => whnf) | ((with_reducible show forceH _ _); (refine (forceH_eq _ _).mpr ?_); conv => whnf) | ((with_reducible show ACall _ _ _ _ _); (refine ACall.of_pure (by assumption) (by rfl) ?_); conv => whnf) | ((with_reducible show Exists _); (refine ⟨_, ACall.of_pure (by assumption) (by rfl) ⟨rfl, rfl⟩, ?_⟩); conv => whnf) | ((with_reducible show _ ∧ _ ∧ _); (refine ⟨by omega, by omega, ?_⟩); conv => whnf) | fail)
            exact ⟨(i + 1, []), ⟨hil.1, hil.2, Nat.zero_le _⟩, by show l.length - (i + 1) < l.length - i; omega, weak_ren_to [(0, true)] rfl rfl rfl ⟨rfl, rfl, rfl, rfl, wrap_nat (m := 1) (by omega), trivial⟩⟩
          | cons a b =>
            (conv => whnf); (repeat' first | ((with_reducible refine Box.mk ?_); conv => whnf) | ((with_reducible refine And.intro (fun _ => ?_) (fun _ => ?_)) <;> conv => whnf) | ((with_reducible show AYld _ _ _ _ _); (refine AYld.of tok mixed ?_); conv => whnf) | ((with_reducible show forceH _ _); (refine (forceH_eq _ _).mpr ?_); conv => whnf) | ((with_reducible show ACall _ _ _ _ _); (refine ACall.of_pure (by assumption) (by rfl) ?_); conv => whnf) | ((with_reducible show Exists _); (refine ⟨_, ACall.of_pure (by assumption) (by rfl) ⟨rfl, rfl⟩, ?_⟩); conv => whnf) | ((with_reducible show _ ∧ _ ∧ _); (refine ⟨by omega, by omega, ?_⟩); conv => whnf) | fail)
            all_goals try (exfalso; omega)
            refine ⟨by omega, _, hg, rfl, ?_⟩
            (conv => whnf); (repeat' first | ((with_reducible refine Box.mk ?_); conv => whnf) | ((with_reducible refine And.intro (fun _ => ?_) (fun _ => ?_)) <;> conv => whnf) | ((with_reducible show AYld _ _ _ _ _); (refine AYld.of tok mixed ?_); conv => whnf) | ((with_reducible show forceH _ _); (refine (forceH_eq _ _).mpr ?_); conv => whnf) | ((with_reducible show ACall _ _ _ _ _); (refine ACall.of_pure (by assumption) (by rfl) ?_); conv => whnf) | ((with_reducible show Exists _); (refine ⟨_, ACall.of_pure (by assumption) (by rfl) ⟨rfl, rfl⟩, ?_⟩); conv => whnf) | ((with_reducible show _ ∧ _ ∧ _); (refine ⟨by omega, by omega, ?_⟩); conv => whnf) | fail)
            all_goals try contradiction
            refine ⟨by omega, _, hg, rfl, ?_⟩
            (conv => whnf); (repeat' first | ((with_reducible refine Box.mk ?_); conv => whnf) | ((with_reducible refine And.intro (fun _ => ?_) (fun _ => ?_)) <;> conv => whnf) | ((with_reducible show AYld _ _ _ _ _); (refine AYld.of tok mixed ?_); conv => whnf) | ((with_reducible show forceH _ _); (refine (forceH_eq _ _).mpr ?_); conv => whnf) | ((with_reducible show ACall _ _ _ _ _); (refine ACall.of_pure (by assumption) (by rfl) ?_); conv => whnf) | ((with_reducible show Exists _); (refine ⟨_, ACall.of_pure (by assumption) (by rfl) ⟨rfl, rfl⟩, ?_⟩); conv => whnf) | ((with_reducible show _ ∧ _ ∧ _); (refine ⟨by omega, by omega, ?_⟩); conv => whnf) | fail)
            refine aW [0] q5 rfl rfl rfl ?_
            (conv => whnf); (repeat' first | ((with_reducible refine Box.mk ?_); conv => whnf) | ((with_reducible refine And.intro (fun _ => ?_) (fun _ => ?_)) <;> conv => whnf) | ((with_reducible show AYld _ _ _ _ _); (refine AYld.of tok mixed ?_); conv => whnf) | ((with_reducible show forceH _ _); (refine (forceH_eq _ _).mpr ?_); conv => whnf) | ((with_reducible show ACall _ _ _ _ _); (refine ACall.of_pure (by assumption) (by rfl) ?_); conv => whnf) | ((with_reducible show Exists _); (refine ⟨_, ACall.of_pure (by assumption) (by rfl) ⟨rfl, rfl⟩, ?_⟩); conv => whnf) | ((with_reducible show _ ∧ _ ∧ _); (refine ⟨by omega, by omega, ?_⟩); conv => whnf) | fail)
            refine ⟨hxc, fun h => (by cases h), fun _ => ⟨by rw [hxl]; show _ * 1 ≤ _; omega, by rw [hxl]; omega, ?_⟩⟩
            (conv => whnf); (repeat' first | ((with_reducible refine Box.mk ?_); conv => whnf) | ((with_reducible refine And.intro (fun _ => ?_) (fun _ => ?_)) <;> conv => whnf) | ((with_reducible show AYld _ _ _ _ _); (refine AYld.of tok mixed ?_); conv => whnf) | ((with_reducible show forceH _ _); (refine (forceH_eq _ _).mpr ?_); conv => whnf) | ((with_reducible show ACall _ _ _ _ _); (refine ACall.of_pure (by assumption) (by rfl) ?_); conv => whnf) | ((with_reducible show Exists _); (refine ⟨_, ACall.of_pure (by assumption) (by rfl) ⟨rfl, rfl⟩, ?_⟩); conv => whnf) | ((with_reducible show _ ∧ _ ∧ _); (refine ⟨by omega, by omega, ?_⟩); conv => whnf) | fail)
            refine ⟨by omega, _, hg, rfl, ?_⟩
            (conv => whnf); (repeat' first | ((with_reducible refine Box.mk ?_); conv => whnf) | ((with_reducible refine And.intro (fun _ => ?_) (fun _ => ?_)) <;> conv => whnf) | ((with_reducible show AYld _ _ _ _ _); (refine AYld.of tok mixed ?_); conv => whnf) | ((with_reducible show forceH _ _); (refine (forceH_eq _ _).mpr ?_); conv => whnf) | ((with_reducible show ACall _ _ _ _ _); (refine ACall.of_pure (by assumption) (by rfl) ?_); conv => whnf) | ((with_reducible show Exists _); (refine ⟨_, ACall.of_pure (by assumption) (by rfl) ⟨rfl, rfl⟩, ?_⟩); conv => whnf) | ((with_reducible show _ ∧ _ ∧ _); (refine ⟨by omega, by omega, ?_⟩); conv => whnf) | fail)
            refine aW [] q6 rfl rfl rfl ?_
            (conv => whnf); (repeat' first | ((with_reducible refine Box.mk ?_); conv => whnf) | ((with_reducible refine And.intro (fun _ => ?_) (fun _ => ?_)) <;> conv => whnf) | ((with_reducible show AYld _ _ _ _ _); (refine AYld.of tok mixed ?_); conv => whnf) | ((with_reducible show forceH _ _); (refine (forceH_eq _ _).mpr ?_); conv => whnf) | ((with_reducible show ACall _ _ _ _ _); (refine ACall.of_pure (by assumption) (by rfl) ?_); conv => whnf) | ((with_reducible show Exists _); (refine ⟨_, ACall.of_pure (by assumption) (by rfl) ⟨rfl, rfl⟩, ?_⟩); conv => whnf) | ((with_reducible show _ ∧ _ ∧ _); (refine ⟨by omega, by omega, ?_⟩); conv => whnf) | fail)
            exact ⟨(i + 1, [] ++ (a :: b)), ⟨hil.1, hil.2, by show ([] ++ (a :: b)).length ≤ (i + 1) * 66000; rw [List.length_append]; omega⟩, by show l.length - (i + 1) < l.length - i; omega, weak_ren_to [(0, true), (1, true), (2, true)] rfl rfl rfl ⟨rfl, rfl, rfl, rfl, wrap_nat (m := 1) (by omega), trivial⟩⟩
        | cons y r =>
          (conv => whnf); (repeat' first | ((with_reducible refine Box.mk ?_); conv => whnf) | ((with_reducible refine And.intro (fun _ => ?_) (fun _ => ?_)) <;> conv => whnf) | ((with_reducible show AYld _ _ _ _ _); (refine AYld.of tok mixed ?_); conv => whnf) | ((with_reducible show forceH _ _); (refine (forceH_eq _ _).mpr ?_); conv => whnf) | ((with_reducible show ACall _ _ _ _ _); (refine ACall.of_pure (by assumption) (by rfl) ?_); conv => whnf) | ((with_reducible show Exists _); (refine ⟨_, ACall.of_pure (by assumption) (by rfl) ⟨rfl, rfl⟩, ?_⟩); conv => whnf) | ((with_reducible show _ ∧ _ ∧ _); (refine ⟨by omega, by omega, ?_⟩); conv => whnf) | fail)
          all_goals try (exfalso; omega)
          refine ⟨by omega, _, hg, rfl, ?_⟩
          (conv => whnf); (repeat' first | ((with_reducible refine Box.mk ?_); conv => whnf) | ((with_reducible refine And.intro (fun _ => ?_) (fun _ => ?_)) <;> conv => whnf) | ((with_reducible show AYld _ _ _ _ _); (refine AYld.of tok mixed ?_); conv => whnf) | ((with_reducible show forceH _ _); (refine (forceH_eq _ _).mpr ?_); conv => whnf) | ((with_reducible show ACall _ _ _ _ _); (refine ACall.of_pure (by assumption) (by rfl) ?_); conv => whnf) | ((with_reducible show Exists _); (refine ⟨_, ACall.of_pure (by assumption) (by rfl) ⟨rfl, rfl⟩, ?_⟩); conv => whnf) | ((with_reducible show _ ∧ _ ∧ _); (refine ⟨by omega, by omega, ?_⟩); conv => whnf) | fail)
          all_goals try contradiction
          refine ⟨by omega, _, hg, rfl, ?_⟩
          (conv => whnf); (repeat' first | ((with_reducible refine Box.mk ?_); conv => whnf) | ((with_reducible refine And.intro (fun _ => ?_) (fun _ => ?_)) <;> conv => whnf) | ((with_reducible show AYld _ _ _ _ _); (refine AYld.of tok mixed ?_); conv => whnf) | ((with_reducible show forceH _ _); (refine (forceH_eq _ _).mpr ?_); conv => whnf) | ((with_reducible show ACall _ _ _ _ _); (refine ACall.of_pure (by assumption) (by rfl) ?_); conv => whnf) | ((with_reducible show Exists _); (refine ⟨_, ACall.of_pure (by assumption) (by rfl) ⟨rfl, rfl⟩, ?_⟩); conv => whnf) | ((with_reducible show _ ∧ _ ∧ _); (refine ⟨by omega, by omega, ?_⟩); conv => whnf) | fail)
          refine aW [0, 1] q5 rfl rfl rfl ?_
          (conv => whnf); (repeat' first | ((with_reducible refine Box.mk ?_); conv => whnf) | ((with_reducible refine And.intro (fun _ => ?_) (fun _ => ?_)) <;> conv => whnf) | ((with_reducible show AYld _ _ _ _ _); (refine AYld.of tok mixed ?_); conv => whnf) | ((with_reducible show forceH _ _); (refine (forceH_eq _ _).mpr ?_); conv => whnf) | ((with_reducible show ACall _ _ _ _ _); (refine ACall.of_pure (by assumption) (by rfl) ?_); conv => whnf) | ((with_reducible show Exists _); (refine ⟨_, ACall.of_pure (by assumption) (by rfl) ⟨rfl, rfl⟩, ?_⟩); conv => whnf) | ((with_reducible show _ ∧ _ ∧ _); (refine ⟨by omega, by omega, ?_⟩); conv => whnf) | fail)
          refine ⟨hxc, by rw [hbl, hxl]; show _ * 1 ≤ _; omega, by rw [hbl, hxl]; omega, ?_⟩
          (conv => whnf); (repeat' first | ((with_reducible refine Box.mk ?_); conv => whnf) | ((with_reducible refine And.intro (fun _ => ?_) (fun _ => ?_)) <;> conv => whnf) | ((with_reducible show AYld _ _ _ _ _); (refine AYld.of tok mixed ?_); conv => whnf) | ((with_reducible show forceH _ _); (refine (forceH_eq _ _).mpr ?_); conv => whnf) | ((with_reducible show ACall _ _ _ _ _); (refine ACall.of_pure (by assumption) (by rfl) ?_); conv => whnf) | ((with_reducible show Exists _); (refine ⟨_, ACall.of_pure (by assumption) (by rfl) ⟨rfl, rfl⟩, ?_⟩); conv => whnf) | ((with_reducible show _ ∧ _ ∧ _); (refine ⟨by omega, by omega, ?_⟩); conv => whnf) | fail)
          refine ⟨by omega, _, hg, rfl, ?_⟩
          (conv => whnf); (repeat' first | ((with_reducible refine Box.mk ?_); conv => whnf) | ((with_reducible refine And.intro (fun _ => ?_) (fun _ => ?_)) <;> conv => whnf) | ((with_reducible show AYld _ _ _ _ _); (refine AYld.of tok mixed ?_); conv => whnf) | ((with_reducible show forceH _ _); (refine (forceH_eq _ _).mpr ?_); conv => whnf) | ((with_reducible show ACall _ _ _ _ _); (refine ACall.of_pure (by assumption) (by rfl) ?_); conv => whnf) | ((with_reducible show Exists _); (refine ⟨_, ACall.of_pure (by assumption) (by rfl) ⟨rfl, rfl⟩, ?_⟩); conv => whnf) | ((with_reducible show _ ∧ _ ∧ _); (refine ⟨by omega, by omega, ?_⟩); conv => whnf) | fail)
          refine aW [] q6 rfl rfl rfl ?_
          (conv => whnf); (repeat' first | ((with_reducible refine Box.mk ?_); conv => whnf) | ((with_reducible refine And.intro (fun _ => ?_) (fun _ => ?_)) <;> conv => whnf) | ((with_reducible show AYld _ _ _ _ _); (refine AYld.of tok mixed ?_); conv => whnf) | ((with_reducible show forceH _ _); (refine (forceH_eq _ _).mpr ?_); conv => whnf) | ((with_reducible show ACall _ _ _ _ _); (refine ACall.of_pure (by assumption) (by rfl) ?_); conv => whnf) | ((with_reducible show Exists _); (refine ⟨_, ACall.of_pure (by assumption) (by rfl) ⟨rfl, rfl⟩, ?_⟩); conv => whnf) | ((with_reducible show _ ∧ _ ∧ _); (refine ⟨by omega, by omega, ?_⟩); conv => whnf) | fail)
          exact ⟨(i + 1, y :: r ++ x), ⟨hil.1, hil.2, by show (y :: r ++ x).length ≤ (i + 1) * 66000; rw [List.length_append]; omega⟩, by show l.length - (i + 1) < l.length - i; omega, weak_ren_to [(0, true), (3, true), (4, true)] rfl rfl (by show [_, _, Ob.row _ _ (bcl (y :: r) ++ bcl x)] = _; rw [← bcl_app]; rfl) ⟨rfl, rfl, rfl, rfl, wrap_nat (m := 1) (by omega), trivial⟩⟩
    · obtain ⟨hbn, hpc⟩ := hbb
      unfold ptv at q2 q5 q6
      rw [hpc] at hg q2 q5 q6
      cases hgr : greatP p with
      | true =>
        rw [hgr] at q2
        cases bs with
        | nil =>
          (conv => whnf); (repeat' first | ((with_reducible refine Box.mk ?_); conv => whnf) | ((with_reducible refine And.intro (fun _ => ?_) (fun _ => ?_)) <;> conv => whnf) | ((with_reducible show AYld _ _ _ _ _); (refine AYld.of tok mixed ?_); conv => whnf) | ((with_reducible show forceH _ _); (refine (forceH_eq _ _).mpr ?_); conv => whnf) | ((with_reducible show ACall _ _ _ _ _); (refine ACall.of_pure (by assumption) (by rfl) ?_); conv => whnf) | ((with_reducible show Exists _); (refine ⟨_, ACall.of_pure (by assumption) (by rfl) ⟨rfl, rfl⟩, ?_⟩); conv => whnf) | ((with_reducible show _ ∧ _ ∧ _); (refine ⟨by omega, by omega, ?_⟩); conv => whnf) | fail)
          all_goals try (exfalso; omega)
          refine ⟨by omega, _, hg, rfl, ?_⟩
          (conv => whnf); (repeat' first | ((with_reducible refine Box.mk ?_); conv => whnf) | ((with_reducible refine And.intro (fun _ => ?_) (fun _ => ?_)) <;> conv => whnf) | ((with_reducible show AYld _ _ _ _ _); (refine AYld.of tok mixed ?_); conv => whnf) | ((with_reducible show forceH _ _); (refine (forceH_eq _ _).mpr ?_); conv => whnf) | ((with_reducible show ACall _ _ _ _ _); (refine ACall.of_pure (by assumption) (by rfl) ?_); conv => whnf) | ((with_reducible show Exists _); (refine ⟨_, ACall.of_pure (by assumption) (by rfl) ⟨rfl, rfl⟩, ?_⟩); conv => whnf) | ((with_reducible show _ ∧ _ ∧ _); (refine ⟨by omega, by omega, ?_⟩); conv => whnf) | fail)
          all_goals try contradiction
          rfl
        | cons y r =>
          (conv => whnf); (repeat' first | ((with_reducible refine Box.mk ?_); conv => whnf) | ((with_reducible refine And.intro (fun _ => ?_) (fun _ => ?_)) <;> conv => whnf) | ((with_reducible show AYld _ _ _ _ _); (refine AYld.of tok mixed ?_); conv => whnf) | ((with_reducible show forceH _ _); (refine (forceH_eq _ _).mpr ?_); conv => whnf) | ((with_reducible show ACall _ _ _ _ _); (refine ACall.of_pure (by assumption) (by rfl) ?_); conv => whnf) | ((with_reducible show Exists _); (refine ⟨_, ACall.of_pure (by assumption) (by rfl) ⟨rfl, rfl⟩, ?_⟩); conv => whnf) | ((with_reducible show _ ∧ _ ∧ _); (refine ⟨by omega, by omega, ?_⟩); conv => whnf) | fail)
          all_goals try (exfalso; omega)
          refine ⟨by omega, _, hg, rfl, ?_⟩
          (conv => whnf); (repeat' first | ((with_reducible refine Box.mk ?_); conv => whnf) | ((with_reducible refine And.intro (fun _ => ?_) (fun _ => ?_)) <;> conv => whnf) | ((with_reducible show AYld _ _ _ _ _); (refine AYld.of tok mixed ?_); conv => whnf) | ((with_reducible show forceH _ _); (refine (forceH_eq _ _).mpr ?_); conv => whnf) | ((with_reducible show ACall _ _ _ _ _); (refine ACall.of_pure (by assumption) (by rfl) ?_); conv => whnf) | ((with_reducible show Exists _); (refine ⟨_, ACall.of_pure (by assumption) (by rfl) ⟨rfl, rfl⟩, ?_⟩); conv => whnf) | ((with_reducible show _ ∧ _ ∧ _); (refine ⟨by omega, by omega, ?_⟩); conv => whnf) | fail)
          all_goals try contradiction
          rfl
      | false =>
        rw [hgr] at q2
        have hgd := of_decide_eq_false hgr
        have q5 := q5 (by omega)
        have hpl := hpl hgr
        have hxl := bcl_len (partB p)
        have hxc := bcl_cells (partB p)
        generalize partB p = x at *
        cases bs with
        | nil =>
          cases x with
          | nil =>
            (conv => whnf); (repeat' first | ((with_reducible refine Box.mk ?_); conv => whnf) | ((with_reducible refine And.intro (fun _ => ?_) (fun _ => ?_)) <;> conv => whnf) | ((with_reducible show AYld _ _ _ _ _); (refine AYld.of tok mixed ?_); conv => whnf) | ((with_reducible show forceH _ _); (refine (forceH_eq _ _).mpr ?_); conv => whnf) | ((with_reducible show ACall _ _ _ _ _); (refine ACall.of_pure (by assumption) (by rfl) ?_); conv => whnf) | ((with_reducible show Exists _); (refine ⟨_, ACall.of_pure (by assumption) (by rfl) ⟨rfl, rfl⟩, ?_⟩); conv => whnf) | ((with_reducible show _ ∧ _ ∧ _); (refine ⟨by omega, by omega, ?_⟩); conv => whnf) | fail)
            all_goals try (exfalso; omega)
            refine ⟨by omega, _, hg, rfl, ?_⟩
            (conv => whnf); (repeat' first | ((with_reducible refine Box.mk ?_); conv => whnf) | ((with_reducible refine And.intro (fun _ => ?_) (fun _ => ?_)) <;> conv => whnf) | ((with_reducible show AYld _ _ _ _ _); (refine AYld.of tok mixed ?_); conv => whnf) | ((with_reducible show forceH _ _); (refine (forceH_eq _ _).mpr ?_); conv => whnf) | ((with_reducible show ACall _ _ _ _ _); (refine ACall.of_pure (by assumption) (by rfl) ?_); conv => whnf) | ((with_reducible show Exists _); (refine ⟨_, ACall.of_pure (by assumption) (by rfl) ⟨rfl, rfl⟩, ?_⟩); conv => whnf) | ((with_reducible show _ ∧ _ ∧ _); (refine ⟨by omega, by omega, ?_⟩); conv => whnf) | fail)
            all_goals try contradiction
            refine ⟨by omega, _, hg, rfl, ?_⟩
            (conv => whnf); (repeat' first | ((with_reducible refine Box.mk ?_); conv => whnf) | ((with_reducible refine And.intro (fun _ => ?_) (fun _ => ?_)) <;> conv => whnf) | ((with_reducible show AYld _ _ _ _ _); (refine AYld.of tok mixed ?_); conv => whnf) | ((with_reducible show forceH _ _); (refine (forceH_eq _ _).mpr ?_); conv => whnf) | ((with_reducible show ACall _ _ _ _ _); (refine ACall.of_pure (by assumption) (by rfl) ?_); conv => whnf) | ((with_reducible show Exists _); (refine ⟨_, ACall.of_pure (by assumption) (by rfl) ⟨rfl, rfl⟩, ?_⟩); conv => whnf) | ((with_reducible show _ ∧ _ ∧ _); (refine ⟨by omega, by omega, ?_⟩); conv => whnf) | fail)
            refine aW [0] q5 rfl rfl rfl ?_
            (conv => whnf); (repeat' first | ((with_reducible refine Box.mk ?_); conv => whnf) | ((with_reducible refine And.intro (fun _ => ?_) (fun _ => ?_)) <;> conv => whnf) | ((with_reducible show AYld _ _ _ _ _); (refine AYld.of tok mixed ?_); conv => whnf) | ((with_reducible show forceH _ _); (refine (forceH_eq _ _).mpr ?_); conv => whnf) | ((with_reducible show ACall _ _ _ _ _); (refine ACall.of_pure (by assumption) (by rfl) ?_); conv => whnf) | ((with_reducible show Exists _); (refine ⟨_, ACall.of_pure (by assumption) (by rfl) ⟨rfl, rfl⟩, ?_⟩); conv => whnf) | ((with_reducible show _ ∧ _ ∧ _); (refine ⟨by omega, by omega, ?_⟩); conv => whnf) | fail)
            refine ⟨hxc, fun _ => ?_, fun h => absurd rfl h⟩
            (conv => whnf); (repeat' first | ((with_reducible refine Box.mk ?_); conv => whnf) | ((with_reducible refine And.intro (fun _ => ?_) (fun _ => ?_)) <;> conv => whnf) | ((with_reducible show AYld _ _ _ _ _); (refine AYld.of tok mixed ?_); conv => whnf) | ((with_reducible show forceH _ _); (refine (forceH_eq _ _).mpr ?_); conv => whnf) | ((with_reducible show ACall _ _ _ _ _); (refine ACall.of_pure (by assumption) (by rfl) ?_); conv => whnf) | ((with_reducible show Exists _); (refine ⟨_, ACall.of_pure (by assumption) (by rfl) ⟨rfl, rfl⟩, ?_⟩); conv => whnf) | ((with_reducible show _ ∧ _ ∧ _); (refine ⟨by omega, by omega, ?_⟩); conv => whnf) | fail)
            refine ⟨by omega, _, hg, rfl, ?_⟩
            (conv => whnf); (repeat' first | ((with_reducible refine Box.mk ?_); conv => whnf) | ((with_reducible refine And.intro (fun _ => ?_) (fun _ => ?_)) <;> conv => whnf) | ((with_reducible show AYld _ _ _ _ _); (refine AYld.of tok mixed ?_); conv => whnf) | ((with_reducible show forceH _ _); (refine (forceH_eq _ _).mpr ?_); conv => whnf) | ((with_reducible show ACall _ _ _ _ _); (refine ACall.of_pure (by assumption) (by rfl) ?_); conv => whnf) | ((with_reducible show Exists _); (refine ⟨_, ACall.of_pure (by assumption) (by rfl) ⟨rfl, rfl⟩, ?_⟩); conv => whnf) | ((with_reducible show _ ∧ _ ∧ _); (refine ⟨by omega, by omega, ?_⟩); conv => whnf) | fail)
            refine aW [] q6 rfl rfl rfl ?_
            (conv => whnf); (repeat' first | ((with_reducible refine Box.mk ?_); conv => whnf) | ((with_reducible refine And.intro (fun _ => ?_) (fun _ => ?_)) <;> conv => whnf) | ((with_reducible show AYld _ _ _ _ _); (refine AYld.of tok mixed ?_); conv => whnf) | ((with_reducible show forceH _ _); (refine (forceH_eq _ _).mpr ?_); conv => whnf) | ((with_reducible show ACall _ _ _ _ _); (refine ACall.of_pure (by assumption) (by rfl) ?_); conv => whnf) | ((with_reducible show Exists _); (refine ⟨_, ACall.of_pure (by assumption) (by rfl) ⟨rfl, rfl⟩, ?_⟩); conv => whnf) | ((with_reducible show _ ∧ _ ∧ _); (refine ⟨by omega, by omega, ?_⟩); conv => whnf) | fail)
            exact ⟨(i + 1, []), ⟨hil.1, hil.2, Nat.zero_le _⟩, by show l.length - (i + 1) < l.length - i; omega, weak_ren_to [(0, true)] rfl rfl rfl ⟨rfl, rfl, rfl, rfl, wrap_nat (m := 1) (by omega), trivial⟩⟩
          | cons a b =>
            (conv => whnf); (repeat' first | ((with_reducible refine Box.mk ?_); conv => whnf) | ((with_reducible refine And.intro (fun _ => ?_) (fun _ => ?_)) <;> conv => whnf) | ((with_reducible show AYld _ _ _ _ _); (refine AYld.of tok mixed ?_); conv => whnf) | ((with_reducible show forceH _ _); (refine (forceH_eq _ _).mpr ?_); conv => whnf) | ((with_reducible show ACall _ _ _ _ _); (refine ACall.of_pure (by assumption) (by rfl) ?_); conv => whnf) | ((with_reducible show Exists _); (refine ⟨_, ACall.of_pure (by assumption) (by rfl) ⟨rfl, rfl⟩, ?_⟩); conv => whnf) | ((with_reducible show _ ∧ _ ∧ _); (refine ⟨by omega, by omega, ?_⟩); conv => whnf) | fail)
            all_goals try (exfalso; omega)
            refine ⟨by omega, _, hg, rfl, ?_⟩
            (conv => whnf); (repeat' first | ((with_reducible refine Box.mk ?_); conv => whnf) | ((with_reducible refine And.intro (fun _ => ?_) (fun _ => ?_)) <;> conv => whnf) | ((with_reducible show AYld _ _ _ _ _); (refine AYld.of tok mixed ?_); conv => whnf) | ((with_reducible show forceH _ _); (refine (forceH_eq _ _).mpr ?_); conv => whnf) | ((with_reducible show ACall _ _ _ _ _); (refine ACall.of_pure (by assumption) (by rfl) ?_); conv => whnf) | ((with_reducible show Exists _); (refine ⟨_, ACall.of_pure (by assumption) (by rfl) ⟨rfl, rfl⟩, ?_⟩); conv => whnf) | ((with_reducible show _ ∧ _ ∧ _); (refine ⟨by omega, by omega, ?_⟩); conv => whnf) | fail)
            all_goals try contradiction
            refine ⟨by omega, _, hg, rfl, ?_⟩
            (conv => whnf); (repeat' first | ((with_reducible refine Box.mk ?_); conv => whnf) | ((with_reducible refine And.intro (fun _ => ?_) (fun _ => ?_)) <;> conv => whnf) | ((with_reducible show AYld _ _ _ _ _); (refine AYld.of tok mixed ?_); conv => whnf) | ((with_reducible show forceH _ _); (refine (forceH_eq _ _).mpr ?_); conv => whnf) | ((with_reducible show ACall _ _ _ _ _); (refine ACall.of_pure (by assumption) (by rfl) ?_); conv => whnf) | ((with_reducible show Exists _); (refine ⟨_, ACall.of_pure (by assumption) (by rfl) ⟨rfl, rfl⟩, ?_⟩); conv => whnf) | ((with_reducible show _ ∧ _ ∧ _); (refine ⟨by omega, by omega, ?_⟩); conv => whnf) | fail)
            refine aW [0] q5 rfl rfl rfl ?_
            (conv => whnf); (repeat' first | ((with_reducible refine Box.mk ?_); conv => whnf) | ((with_reducible refine And.intro (fun _ => ?_) (fun _ => ?_)) <;> conv => whnf) | ((with_reducible show AYld _ _ _ _ _); (refine AYld.of tok mixed ?_); conv => whnf) | ((with_reducible show forceH _ _); (refine (forceH_eq _ _).mpr ?_); conv => whnf) | ((with_reducible show ACall _ _ _ _ _); (refine ACall.of_pure (by assumption) (by rfl) ?_); conv => whnf) | ((with_reducible show Exists _); (refine ⟨_, ACall.of_pure (by assumption) (by rfl) ⟨rfl, rfl⟩, ?_⟩); conv => whnf) | ((with_reducible show _ ∧ _ ∧ _); (refine ⟨by omega, by omega, ?_⟩); conv => whnf) | fail)
            refine ⟨hxc, fun h => (by cases h), fun _ => ⟨by rw [hxl]; show _ * 1 ≤ _; omega, by rw [hxl]; omega, ?_⟩⟩
            (conv => whnf); (repeat' first | ((with_reducible refine Box.mk ?_); conv => whnf) | ((with_reducible refine And.intro (fun _ => ?_) (fun _ => ?_)) <;> conv => whnf) | ((with_reducible show AYld _ _ _ _ _); (refine AYld.of tok mixed ?_); conv => whnf) | ((with_reducible show forceH _ _); (refine (forceH_eq _ _).mpr ?_); conv => whnf) | ((with_reducible show ACall _ _ _ _ _); (refine ACall.of_pure (by assumption) (by rfl) ?_); conv => whnf) | ((with_reducible show Exists _); (refine ⟨_, ACall.of_pure (by assumption) (by rfl) ⟨rfl, rfl⟩, ?_⟩); conv => whnf) | ((with_reducible show _ ∧ _ ∧ _); (refine ⟨by omega, by omega, ?_⟩); conv => whnf) | fail)
            refine ⟨by omega, _, hg, rfl, ?_⟩
            (conv => whnf); (repeat' first | ((with_reducible refine Box.mk ?_); conv => whnf) | ((with_reducible refine And.intro (fun _ => ?_) (fun _ => ?_)) <;> conv => whnf) | ((with_reducible show AYld _ _ _ _ _); (refine AYld.of tok mixed ?_); conv => whnf) | ((with_reducible show forceH _ _); (refine (forceH_eq _ _).mpr ?_); conv => whnf) | ((with_reducible show ACall _ _ _ _ _); (refine ACall.of_pure (by assumption) (by rfl) ?_); conv => whnf) | ((with_reducible show Exists _); (refine ⟨_, ACall.of_pure (by assumption) (by rfl) ⟨rfl, rfl⟩, ?_⟩); conv => whnf) | ((with_reducible show _ ∧ _ ∧ _); (refine ⟨by omega, by omega, ?_⟩); conv => whnf) | fail)
            refine aW [] q6 rfl rfl rfl ?_
            (conv => whnf); (repeat' first | ((with_reducible refine Box.mk ?_); conv => whnf) | ((with_reducible refine And.intro (fun _ => ?_) (fun _ => ?_)) <;> conv => whnf) | ((with_reducible show AYld _ _ _ _ _); (refine AYld.of tok mixed ?_); conv => whnf) | ((with_reducible show forceH _ _); (refine (forceH_eq _ _).mpr ?_); conv => whnf) | ((with_reducible show ACall _ _ _ _ _); (refine ACall.of_pure (by assumption) (by rfl) ?_); conv => whnf) | ((with_reducible show Exists _); (refine ⟨_, ACall.of_pure (by assumption) (by rfl) ⟨rfl, rfl⟩, ?_⟩); conv => whnf) | ((with_reducible show _ ∧ _ ∧ _); (refine ⟨by omega, by omega, ?_⟩); conv => whnf) | fail)
            exact ⟨(i + 1, [] ++ (a :: b)), ⟨hil.1, hil.2, by show ([] ++ (a :: b)).length ≤ (i + 1) * 66000; rw [List.length_append]; omega⟩, by show l.length - (i + 1) < l.length - i; omega, weak_ren_to [(0, true), (1, true), (2, true)] rfl rfl rfl ⟨rfl, rfl, rfl, rfl, wrap_nat (m := 1) (by omega), trivial⟩⟩
        | cons y r =>
          (conv => whnf); (repeat' first | ((with_reducible refine Box.mk ?_); conv => whnf) | ((with_reducible refine And.intro (fun _ => ?_) (fun _ => ?_)) <;> conv => whnf) | ((with_reducible show AYld _ _ _ _ _); (refine AYld.of tok mixed ?_); conv => whnf) | ((with_reducible show forceH _ _); (refine (forceH_eq _ _).mpr ?_); conv => whnf) | ((with_reducible show ACall _ _ _ _ _); (refine ACall.of_pure (by assumption) (by rfl) ?_); conv => whnf) | ((with_reducible show Exists _); (refine ⟨_, ACall.of_pure (by assumption) (by rfl) ⟨rfl, rfl⟩, ?_⟩); conv => whnf) | ((with_reducible show _ ∧ _ ∧ _); (refine ⟨by omega, by omega, ?_⟩); conv => whnf) | fail)
          all_goals try (exfalso; omega)
          refine ⟨by omega, _, hg, rfl, ?_⟩
          (conv => whnf); (repeat' first | ((with_reducible refine Box.mk ?_); conv => whnf) | ((with_reducible refine And.intro (fun _ => ?_) (fun _ => ?_)) <;> conv => whnf) | ((with_reducible show AYld _ _ _ _ _); (refine AYld.of tok mixed ?_); conv => whnf) | ((with_reducible show forceH _ _); (refine (forceH_eq _ _).mpr ?_); conv => whnf) | ((with_reducible show ACall _ _ _ _ _); (refine ACall.of_pure (by assumption) (by rfl) ?_); conv => whnf) | ((with_reducible show Exists _); (refine ⟨_, ACall.of_pure (by assumption) (by rfl) ⟨rfl, rfl⟩, ?_⟩); conv => whnf) | ((with_reducible show _ ∧ _ ∧ _); (refine ⟨by omega, by omega, ?_⟩); conv => whnf) | fail)
          all_goals try contradiction
          refine ⟨by omega, _, hg, rfl, ?_⟩
          (conv => whnf); (repeat' first | ((with_reducible refine Box.mk ?_); conv => whnf) | ((with_reducible refine And.intro (fun _ => ?_) (fun _ => ?_)) <;> conv => whnf) | ((with_reducible show AYld _ _ _ _ _); (refine AYld.of tok mixed ?_); conv => whnf) | ((with_reducible show forceH _ _); (refine (forceH_eq _ _).mpr ?_); conv => whnf) | ((with_reducible show ACall _ _ _ _ _); (refine ACall.of_pure (by assumption) (by rfl) ?_); conv => whnf) | ((with_reducible show Exists _); (refine ⟨_, ACall.of_pure (by assumption) (by rfl) ⟨rfl, rfl⟩, ?_⟩); conv => whnf) | ((with_reducible show _ ∧ _ ∧ _); (refine ⟨by omega, by omega, ?_⟩); conv => whnf) | fail)
          refine aW [0, 1] q5 rfl rfl rfl ?_
          (conv => whnf); (repeat' first | ((with_reducible refine Box.mk ?_); conv => whnf) | ((with_reducible refine And.intro (fun _ => ?_) (fun _ => ?_)) <;> conv => whnf) | ((with_reducible show AYld _ _ _ _ _); (refine AYld.of tok mixed ?_); conv => whnf) | ((with_reducible show forceH _ _); (refine (forceH_eq _ _).mpr ?_); conv => whnf) | ((with_reducible show ACall _ _ _ _ _); (refine ACall.of_pure (by assumption) (by rfl) ?_); conv => whnf) | ((with_reducible show Exists _); (refine ⟨_, ACall.of_pure (by assumption) (by rfl) ⟨rfl, rfl⟩, ?_⟩); conv => whnf) | ((with_reducible show _ ∧ _ ∧ _); (refine ⟨by omega, by omega, ?_⟩); conv => whnf) | fail)
          refine ⟨hxc, by rw [hbl, hxl]; show _ * 1 ≤ _; omega, by rw [hbl, hxl]; omega, ?_⟩
          (conv => whnf); (repeat' first | ((with_reducible refine Box.mk ?_); conv => whnf) | ((with_reducible refine And.intro (fun _ => ?_) (fun _ => ?_)) <;> conv => whnf) | ((with_reducible show AYld _ _ _ _ _); (refine AYld.of tok mixed ?_); conv => whnf) | ((with_reducible show forceH _ _); (refine (forceH_eq _ _).mpr ?_); conv => whnf) | ((with_reducible show ACall _ _ _ _ _); (refine ACall.of_pure (by assumption) (by rfl) ?_); conv => whnf) | ((with_reducible show Exists _); (refine ⟨_, ACall.of_pure (by assumption) (by rfl) ⟨rfl, rfl⟩, ?_⟩); conv => whnf) | ((with_reducible show _ ∧ _ ∧ _); (refine ⟨by omega, by omega, ?_⟩); conv => whnf) | fail)
          refine ⟨by omega, _, hg, rfl, ?_⟩
          (conv => whnf); (repeat' first | ((with_reducible refine Box.mk ?_); conv => whnf) | ((with_reducible refine And.intro (fun _ => ?_) (fun _ => ?_)) <;> conv => whnf) | ((with_reducible show AYld _ _ _ _ _); (refine AYld.of tok mixed ?_); conv => whnf) | ((with_reducible show forceH _ _); (refine (forceH_eq _ _).mpr ?_); conv => whnf) | ((with_reducible show ACall _ _ _ _ _); (refine ACall.of_pure (by assumption) (by rfl) ?_); conv => whnf) | ((with_reducible show Exists _); (refine ⟨_, ACall.of_pure (by assumption) (by rfl) ⟨rfl, rfl⟩, ?_⟩); conv => whnf) | ((with_reducible show _ ∧ _ ∧ _); (refine ⟨by omega, by omega, ?_⟩); conv => whnf) | fail)
          refine aW [] q6 rfl rfl rfl ?_
          (conv => whnf); (repeat' first | ((with_reducible refine Box.mk ?_); conv => whnf) | ((with_reducible refine And.intro (fun _ => ?_) (fun _ => ?_)) <;> conv => whnf) | ((with_reducible show AYld _ _ _ _ _); (refine AYld.of tok mixed ?_); conv => whnf) | ((with_reducible show forceH _ _); (refine (forceH_eq _ _).mpr ?_); conv => whnf) | ((with_reducible show ACall _ _ _ _ _); (refine ACall.of_pure (by assumption) (by rfl) ?_); conv => whnf) | ((with_reducible show Exists _); (refine ⟨_, ACall.of_pure (by assumption) (by rfl) ⟨rfl, rfl⟩, ?_⟩); conv => whnf) | ((with_reducible show _ ∧ _ ∧ _); (refine ⟨by omega, by omega, ?_⟩); conv => whnf) | fail)
          exact ⟨(i + 1, y :: r ++ x), ⟨hil.1, hil.2, by show (y :: r ++ x).length ≤ (i + 1) * 66000; rw [List.length_append]; omega⟩, by show l.length - (i + 1) < l.length - i; omega, weak_ren_to [(0, true), (3, true), (4, true)] rfl rfl (by show [_, _, Ob.row _ _ (bcl (y :: r) ++ bcl x)] = _; rw [← bcl_app]; rfl) ⟨rfl, rfl, rfl, rfl, wrap_nat (m := 1) (by omega), trivial⟩⟩
  · have q7 := wBytes_ok bs (by omega)
    have q8 := wNum_ok bs (by omega) 1 1
    obtain ⟨a, b, ew⟩ : ∃ a b, numB 1 (szN 1) = a :: b := ⟨_, _, rfl⟩
    rw [ew] at q8
    cases bs with
    | nil =>
      (conv => whnf); (repeat' first | ((with_reducible refine Box.mk ?_); conv => whnf) | ((with_reducible refine And.intro (fun _ => ?_) (fun _ => ?_)) <;> conv => whnf) | ((with_reducible show AYld _ _ _ _ _); (refine AYld.of tok mixed ?_); conv => whnf) | ((with_reducible show forceH _ _); (refine (forceH_eq _ _).mpr ?_); conv => whnf) | ((with_reducible show ACall _ _ _ _ _); (refine ACall.of_pure (by assumption) (by rfl) ?_); conv => whnf) | ((with_reducible show Exists _); (refine ⟨_, ACall.of_pure (by assumption) (by rfl) ⟨rfl, rfl⟩, ?_⟩); conv => whnf) | ((with_reducible show _ ∧ _ ∧ _); (refine ⟨by omega, by omega, ?_⟩); conv => whnf) | fail)
      all_goals try (exfalso; omega)
      all_goals (
        refine ⟨[(2022, [])], by kernel_rfl, ?_⟩
        (conv => whnf); (repeat' first | ((with_reducible refine Box.mk ?_); conv => whnf) | ((with_reducible refine And.intro (fun _ => ?_) (fun _ => ?_)) <;> conv => whnf) | ((with_reducible show AYld _ _ _ _ _); (refine AYld.of tok mixed ?_); conv => whnf) | ((with_reducible show forceH _ _); (refine (forceH_eq _ _).mpr ?_); conv => whnf) | ((with_reducible show ACall _ _ _ _ _); (refine ACall.of_pure (by assumption) (by rfl) ?_); conv => whnf) | ((with_reducible show Exists _); (refine ⟨_, ACall.of_pure (by assumption) (by rfl) ⟨rfl, rfl⟩, ?_⟩); conv => whnf) | ((with_reducible show _ ∧ _ ∧ _); (refine ⟨by omega, by omega, ?_⟩); conv => whnf) | fail)
        refine aDr [0] q7 rfl rfl rfl rfl ?_
        (conv => whnf); (repeat' first | ((with_reducible refine Box.mk ?_); conv => whnf) | ((with_reducible refine And.intro (fun _ => ?_) (fun _ => ?_)) <;> conv => whnf) | ((with_reducible show AYld _ _ _ _ _); (refine AYld.of tok mixed ?_); conv => whnf) | ((with_reducible show forceH _ _); (refine (forceH_eq _ _).mpr ?_); conv => whnf) | ((with_reducible show ACall _ _ _ _ _); (refine ACall.of_pure (by assumption) (by rfl) ?_); conv => whnf) | ((with_reducible show Exists _); (refine ⟨_, ACall.of_pure (by assumption) (by rfl) ⟨rfl, rfl⟩, ?_⟩); conv => whnf) | ((with_reducible show _ ∧ _ ∧ _); (refine ⟨by omega, by omega, ?_⟩); conv => whnf) | fail)
        refine ⟨[], rfl, ?_⟩
        (conv => whnf); (repeat' first | ((with_reducible refine Box.mk ?_); conv => whnf) | ((with_reducible refine And.intro (fun _ => ?_) (fun _ => ?_)) <;> conv => whnf) | ((with_reducible show AYld _ _ _ _ _); (refine AYld.of tok mixed ?_); conv => whnf) | ((with_reducible show forceH _ _); (refine (forceH_eq _ _).mpr ?_); conv => whnf) | ((with_reducible show ACall _ _ _ _ _); (refine ACall.of_pure (by assumption) (by rfl) ?_); conv => whnf) | ((with_reducible show Exists _); (refine ⟨_, ACall.of_pure (by assumption) (by rfl) ⟨rfl, rfl⟩, ?_⟩); conv => whnf) | ((with_reducible show _ ∧ _ ∧ _); (refine ⟨by omega, by omega, ?_⟩); conv => whnf) | fail)
        all_goals try (rename_i hbad; exact absurd rfl hbad)
        refine aDw [0] q8 rfl rfl rfl ?_
        (conv => whnf); (repeat' first | ((with_reducible refine Box.mk ?_); conv => whnf) | ((with_reducible refine And.intro (fun _ => ?_) (fun _ => ?_)) <;> conv => whnf) | ((with_reducible show AYld _ _ _ _ _); (refine AYld.of tok mixed ?_); conv => whnf) | ((with_reducible show forceH _ _); (refine (forceH_eq _ _).mpr ?_); conv => whnf) | ((with_reducible show ACall _ _ _ _ _); (refine ACall.of_pure (by assumption) (by rfl) ?_); conv => whnf) | ((with_reducible show Exists _); (refine ⟨_, ACall.of_pure (by assumption) (by rfl) ⟨rfl, rfl⟩, ?_⟩); conv => whnf) | ((with_reducible show _ ∧ _ ∧ _); (refine ⟨by omega, by omega, ?_⟩); conv => whnf) | fail)
        all_goals first
          | rfl
          | (rename_i hbad; exact absurd trivial hbad))
    | cons y r =>
      (conv => whnf); (repeat' first | ((with_reducible refine Box.mk ?_); conv => whnf) | ((with_reducible refine And.intro (fun _ => ?_) (fun _ => ?_)) <;> conv => whnf) | ((with_reducible show AYld _ _ _ _ _); (refine AYld.of tok mixed ?_); conv => whnf) | ((with_reducible show forceH _ _); (refine (forceH_eq _ _).mpr ?_); conv => whnf) | ((with_reducible show ACall _ _ _ _ _); (refine ACall.of_pure (by assumption) (by rfl) ?_); conv => whnf) | ((with_reducible show Exists _); (refine ⟨_, ACall.of_pure (by assumption) (by rfl) ⟨rfl, rfl⟩, ?_⟩); conv => whnf) | ((with_reducible show _ ∧ _ ∧ _); (refine ⟨by omega, by omega, ?_⟩); conv => whnf) | fail)
      all_goals try (exfalso; omega)
      all_goals (
        refine ⟨[(2022, [])], by kernel_rfl, ?_⟩
        (conv => whnf); (repeat' first | ((with_reducible refine Box.mk ?_); conv => whnf) | ((with_reducible refine And.intro (fun _ => ?_) (fun _ => ?_)) <;> conv => whnf) | ((with_reducible show AYld _ _ _ _ _); (refine AYld.of tok mixed ?_); conv => whnf) | ((with_reducible show forceH _ _); (refine (forceH_eq _ _).mpr ?_); conv => whnf) | ((with_reducible show ACall _ _ _ _ _); (refine ACall.of_pure (by assumption) (by rfl) ?_); conv => whnf) | ((with_reducible show Exists _); (refine ⟨_, ACall.of_pure (by assumption) (by rfl) ⟨rfl, rfl⟩, ?_⟩); conv => whnf) | ((with_reducible show _ ∧ _ ∧ _); (refine ⟨by omega, by omega, ?_⟩); conv => whnf) | fail)
        refine aDr [0, 1] q7 rfl rfl rfl rfl ?_
        (conv => whnf); (repeat' first | ((with_reducible refine Box.mk ?_); conv => whnf) | ((with_reducible refine And.intro (fun _ => ?_) (fun _ => ?_)) <;> conv => whnf) | ((with_reducible show AYld _ _ _ _ _); (refine AYld.of tok mixed ?_); conv => whnf) | ((with_reducible show forceH _ _); (refine (forceH_eq _ _).mpr ?_); conv => whnf) | ((with_reducible show ACall _ _ _ _ _); (refine ACall.of_pure (by assumption) (by rfl) ?_); conv => whnf) | ((with_reducible show Exists _); (refine ⟨_, ACall.of_pure (by assumption) (by rfl) ⟨rfl, rfl⟩, ?_⟩); conv => whnf) | ((with_reducible show _ ∧ _ ∧ _); (refine ⟨by omega, by omega, ?_⟩); conv => whnf) | fail)
        refine ⟨y :: r, rfl, ?_⟩
        (conv => whnf); (repeat' first | ((with_reducible refine Box.mk ?_); conv => whnf) | ((with_reducible refine And.intro (fun _ => ?_) (fun _ => ?_)) <;> conv => whnf) | ((with_reducible show AYld _ _ _ _ _); (refine AYld.of tok mixed ?_); conv => whnf) | ((with_reducible show forceH _ _); (refine (forceH_eq _ _).mpr ?_); conv => whnf) | ((with_reducible show ACall _ _ _ _ _); (refine ACall.of_pure (by assumption) (by rfl) ?_); conv => whnf) | ((with_reducible show Exists _); (refine ⟨_, ACall.of_pure (by assumption) (by rfl) ⟨rfl, rfl⟩, ?_⟩); conv => whnf) | ((with_reducible show _ ∧ _ ∧ _); (refine ⟨by omega, by omega, ?_⟩); conv => whnf) | fail)
        refine ⟨y :: r, rfl, ?_⟩
        (conv => whnf); (repeat' first | ((with_reducible refine Box.mk ?_); conv => whnf) | ((with_reducible refine And.intro (fun _ => ?_) (fun _ => ?_)) <;> conv => whnf) | ((with_reducible show AYld _ _ _ _ _); (refine AYld.of tok mixed ?_); conv => whnf) | ((with_reducible show forceH _ _); (refine (forceH_eq _ _).mpr ?_); conv => whnf) | ((with_reducible show ACall _ _ _ _ _); (refine ACall.of_pure (by assumption) (by rfl) ?_); conv => whnf) | ((with_reducible show Exists _); (refine ⟨_, ACall.of_pure (by assumption) (by rfl) ⟨rfl, rfl⟩, ?_⟩); conv => whnf) | ((with_reducible show _ ∧ _ ∧ _); (refine ⟨by omega, by omega, ?_⟩); conv => whnf) | fail)
        all_goals try (rename_i hbad; exact absurd rfl hbad)
        refine aDw [0, 1] q8 rfl rfl rfl ?_
        (conv => whnf); (repeat' first | ((with_reducible refine Box.mk ?_); conv => whnf) | ((with_reducible refine And.intro (fun _ => ?_) (fun _ => ?_)) <;> conv => whnf) | ((with_reducible show AYld _ _ _ _ _); (refine AYld.of tok mixed ?_); conv => whnf) | ((with_reducible show forceH _ _); (refine (forceH_eq _ _).mpr ?_); conv => whnf) | ((with_reducible show ACall _ _ _ _ _); (refine ACall.of_pure (by assumption) (by rfl) ?_); conv => whnf) | ((with_reducible show Exists _); (refine ⟨_, ACall.of_pure (by assumption) (by rfl) ⟨rfl, rfl⟩, ?_⟩); conv => whnf) | ((with_reducible show _ ∧ _ ∧ _); (refine ⟨by omega, by omega, ?_⟩); conv => whnf) | fail)
        all_goals first
          | rfl
          | (rename_i hbad; exact absurd trivial hbad))
end Go.Proofs.Ytlmdacgkaailiaa
end

section
/- wire: the statement on reading. -/
namespace Go.Proofs.Ytlmdacgkaailiaa
open Go.Ve

/-- What is left and the fault behind the reading of a part. -/
def stepR (p : Pt) (bs : Bs) (e : Int) : Bs × Int :=
  if p.kind = 0 then (rawF (szN p.i : Nat) bs e).2 else if p.kind = 1 then (rawF 16 bs e).2 else if p.kind = 2 then (textF p.i bs e).2 else if p.kind = 3 then (rawF p.i bs e).2 else if p.kind = 4 then (bs, mustE e (decide (0 < p.i))) else (bs, e)
/-- What has been read of bytes, behind a part. -/
def preR (p : Pt) (bs : Bs) (e : Int) : Bs :=
  if p.kind = 0 then (rawF (szN p.i : Nat) bs e).1 else if p.kind = 1 then (rawF 16 bs e).1 else if p.kind = 2 then (rawF 2 bs e).1 ++ (textF p.i bs e).1 else if p.kind = 3 then (rawF p.i bs e).1 else []
theorem text_app (most : Int) (bs : Bs) (e : Int) : (rawF 2 bs e).1 ++ (textF most bs e).1 ++ (textF most bs e).2.1 = bs := by
  unfold textF
  rw [List.append_assoc, raw_app, raw_app]
theorem stepR_app (p : Pt) (bs : Bs) (e : Int) : preR p bs e ++ (stepR p bs e).1 = bs := by
  unfold preR stepR
  split
  · exact raw_app _ _ _
  · split
    · exact raw_app _ _ _
    · split
      · exact text_app _ _ _
      · split
        · exact raw_app _ _ _
        · split <;> rfl
set_option maxHeartbeats 8000000 in
theorem read_ok (p : Pt) (pre bs : Bs) (e : Int) (hl : (pre ++ bs).length ≤ 1000000000) :
    DCall P 12 [.ptr 0 0, .ptr 1 0, ptv p] (rH bs e ++ xH pre bs e) (.bool true) (rH (stepR p bs e).1 (stepR p bs e).2 ++ xH (pre ++ preR p bs e) (stepR p bs e).1 (stepR p bs e).2) := by
  have hl2 : bs.length ≤ 1000000000 := by rw [List.length_append] at hl; omega
  have a0 := rNum_ok bs e p.i hl2
  have b0 := xrNum_ok pre bs e p.i hl
  have a1 := rWide_ok bs e hl2
  have b1 := xrWide_ok pre bs e hl
  have c1 := as_ok (valB (rawF 16 bs e).1)
  have a2 := rText_ok bs e p.i hl2
  have b2 := xrText_ok pre bs e p.i hl
  have a3 := rRaw_ok bs e p.i hl2
  have b3 := xRaw_ok pre bs e p.i hl
  have a4 := fun b => rMust_ok bs e b
  have b4 := fun b => xMust_ok pre bs e b
  unfold stepR preR
  cases hbn : p.bn
  all_goals (
    first
      | rw [ptv_nil hbn]
      | rw [ptv_sl hbn]
    refine DCall.of_awp tok mixed fn12 (Nat.le_of_ble_eq_true rfl) ?_
    (conv => whnf); (repeat' first | ((with_reducible refine Box.mk ?_); conv => whnf) | ((with_reducible refine And.intro (fun _ => ?_) (fun _ => ?_)) <;> conv => whnf) | ((with_reducible show AYld _ _ _ _ _); (refine AYld.of tok mixed ?_); conv => whnf) | ((with_reducible show forceH _ _); (refine (forceH_eq _ _).mpr ?_); conv => whnf) | ((with_reducible show ACall _ _ _ _ _); (refine ACall.of_pure (by assumption) (by rfl) ?_); conv => whnf) | ((with_reducible show Exists _); (refine ⟨_, ACall.of_pure (by assumption) (by rfl) ⟨rfl, rfl⟩, ?_⟩); conv => whnf) | ((with_reducible show _ ∧ _ ∧ _); (refine ⟨by omega, by omega, ?_⟩); conv => whnf) | fail)
    · rename_i h0
      rw [if_pos h0, if_pos h0]
      refine ⟨[(2003, []), (2007, []), (3006, [3])], by kernel_rfl, ?_⟩
      (conv => whnf); (repeat' first | ((with_reducible refine Box.mk ?_); conv => whnf) | ((with_reducible refine And.intro (fun _ => ?_) (fun _ => ?_)) <;> conv => whnf) | ((with_reducible show AYld _ _ _ _ _); (refine AYld.of tok mixed ?_); conv => whnf) | ((with_reducible show forceH _ _); (refine (forceH_eq _ _).mpr ?_); conv => whnf) | ((with_reducible show ACall _ _ _ _ _); (refine ACall.of_pure (by assumption) (by rfl) ?_); conv => whnf) | ((with_reducible show Exists _); (refine ⟨_, ACall.of_pure (by assumption) (by rfl) ⟨rfl, rfl⟩, ?_⟩); conv => whnf) | ((with_reducible show _ ∧ _ ∧ _); (refine ⟨by omega, by omega, ?_⟩); conv => whnf) | fail)
      refine aDw [0] a0 rfl rfl rfl ?_
      (conv => whnf); (repeat' first | ((with_reducible refine Box.mk ?_); conv => whnf) | ((with_reducible refine And.intro (fun _ => ?_) (fun _ => ?_)) <;> conv => whnf) | ((with_reducible show AYld _ _ _ _ _); (refine AYld.of tok mixed ?_); conv => whnf) | ((with_reducible show forceH _ _); (refine (forceH_eq _ _).mpr ?_); conv => whnf) | ((with_reducible show ACall _ _ _ _ _); (refine ACall.of_pure (by assumption) (by rfl) ?_); conv => whnf) | ((with_reducible show Exists _); (refine ⟨_, ACall.of_pure (by assumption) (by rfl) ⟨rfl, rfl⟩, ?_⟩); conv => whnf) | ((with_reducible show _ ∧ _ ∧ _); (refine ⟨by omega, by omega, ?_⟩); conv => whnf) | fail)
      (refine And.intro ?_ ?_); (focus ((conv => whnf); (repeat' first | exact trivial | ((refine And.intro ?_ ?_); (focus ((conv => whnf); (first | exact ⟨rfl, rfl⟩ | exact ⟨by decide, by decide, rfl, rfl⟩ | exact ⟨by omega, by omega, rfl, rfl⟩ | exact ⟨by (simp only [List.length_drop, List.length_take]; omega), rfl, rfl⟩ | exact ⟨_, rfl, rfl, rfl⟩ | exact ⟨by omega, _, by assumption, rfl, rfl, rfl⟩ | ((refine ACall.of_pure (by assumption) (by rfl) ?_); (refine And.intro ?_ ?_ <;> rfl))))); (conv => whnf)))))
      (conv => whnf); (repeat' first | ((with_reducible refine Box.mk ?_); conv => whnf) | ((with_reducible refine And.intro (fun _ => ?_) (fun _ => ?_)) <;> conv => whnf) | ((with_reducible show AYld _ _ _ _ _); (refine AYld.of tok mixed ?_); conv => whnf) | ((with_reducible show forceH _ _); (refine (forceH_eq _ _).mpr ?_); conv => whnf) | ((with_reducible show ACall _ _ _ _ _); (refine ACall.of_pure (by assumption) (by rfl) ?_); conv => whnf) | ((with_reducible show Exists _); (refine ⟨_, ACall.of_pure (by assumption) (by rfl) ⟨rfl, rfl⟩, ?_⟩); conv => whnf) | ((with_reducible show _ ∧ _ ∧ _); (refine ⟨by omega, by omega, ?_⟩); conv => whnf) | fail)
      refine aDw [1] b0 rfl rfl rfl ?_
      (conv => whnf); (repeat' first | ((with_reducible refine Box.mk ?_); conv => whnf) | ((with_reducible refine And.intro (fun _ => ?_) (fun _ => ?_)) <;> conv => whnf) | ((with_reducible show AYld _ _ _ _ _); (refine AYld.of tok mixed ?_); conv => whnf) | ((with_reducible show forceH _ _); (refine (forceH_eq _ _).mpr ?_); conv => whnf) | ((with_reducible show ACall _ _ _ _ _); (refine ACall.of_pure (by assumption) (by rfl) ?_); conv => whnf) | ((with_reducible show Exists _); (refine ⟨_, ACall.of_pure (by assumption) (by rfl) ⟨rfl, rfl⟩, ?_⟩); conv => whnf) | ((with_reducible show _ ∧ _ ∧ _); (refine ⟨by omega, by omega, ?_⟩); conv => whnf) | fail)
      · exact weak_ren_to [(0, true), (1, true)] rfl rfl rfl ⟨rfl, trivial⟩
      · rename_i hbad; exact absurd rfl hbad
    · rename_i h0 h1
      rw [if_neg h0, if_pos h1, if_neg h0, if_pos h1]
      refine aW [0] a1 rfl rfl rfl ?_
      (conv => whnf); (repeat' first | ((with_reducible refine Box.mk ?_); conv => whnf) | ((with_reducible refine And.intro (fun _ => ?_) (fun _ => ?_)) <;> conv => whnf) | ((with_reducible show AYld _ _ _ _ _); (refine AYld.of tok mixed ?_); conv => whnf) | ((with_reducible show forceH _ _); (refine (forceH_eq _ _).mpr ?_); conv => whnf) | ((with_reducible show ACall _ _ _ _ _); (refine ACall.of_pure (by assumption) (by rfl) ?_); conv => whnf) | ((with_reducible show Exists _); (refine ⟨_, ACall.of_pure (by assumption) (by rfl) ⟨rfl, rfl⟩, ?_⟩); conv => whnf) | ((with_reducible show _ ∧ _ ∧ _); (refine ⟨by omega, by omega, ?_⟩); conv => whnf) | fail)
      refine aW [1] b1 rfl rfl rfl ?_
      (conv => whnf); (repeat' first | ((with_reducible refine Box.mk ?_); conv => whnf) | ((with_reducible refine And.intro (fun _ => ?_) (fun _ => ?_)) <;> conv => whnf) | ((with_reducible show AYld _ _ _ _ _); (refine AYld.of tok mixed ?_); conv => whnf) | ((with_reducible show forceH _ _); (refine (forceH_eq _ _).mpr ?_); conv => whnf) | ((with_reducible show ACall _ _ _ _ _); (refine ACall.of_pure (by assumption) (by rfl) ?_); conv => whnf) | ((with_reducible show Exists _); (refine ⟨_, ACall.of_pure (by assumption) (by rfl) ⟨rfl, rfl⟩, ?_⟩); conv => whnf) | ((with_reducible show _ ∧ _ ∧ _); (refine ⟨by omega, by omega, ?_⟩); conv => whnf) | fail)
      · exact weak_ren_to [(0, true), (1, true)] rfl rfl rfl ⟨rfl, trivial⟩
      · rename_i hbad; exact absurd (⟨rfl, rfl⟩ : _ ∧ _) hbad
    · rename_i h0 h1 h2
      rw [if_neg h0, if_neg h1, if_pos h2, if_neg h0, if_neg h1, if_pos h2]
      refine ⟨[(2003, []), (2007, []), (3006, [3])], by kernel_rfl, ?_⟩
      (conv => whnf); (repeat' first | ((with_reducible refine Box.mk ?_); conv => whnf) | ((with_reducible refine And.intro (fun _ => ?_) (fun _ => ?_)) <;> conv => whnf) | ((with_reducible show AYld _ _ _ _ _); (refine AYld.of tok mixed ?_); conv => whnf) | ((with_reducible show forceH _ _); (refine (forceH_eq _ _).mpr ?_); conv => whnf) | ((with_reducible show ACall _ _ _ _ _); (refine ACall.of_pure (by assumption) (by rfl) ?_); conv => whnf) | ((with_reducible show Exists _); (refine ⟨_, ACall.of_pure (by assumption) (by rfl) ⟨rfl, rfl⟩, ?_⟩); conv => whnf) | ((with_reducible show _ ∧ _ ∧ _); (refine ⟨by omega, by omega, ?_⟩); conv => whnf) | fail)
      refine aDw [0] a2 rfl rfl rfl ?_
      (conv => whnf); (repeat' first | ((with_reducible refine Box.mk ?_); conv => whnf) | ((with_reducible refine And.intro (fun _ => ?_) (fun _ => ?_)) <;> conv => whnf) | ((with_reducible show AYld _ _ _ _ _); (refine AYld.of tok mixed ?_); conv => whnf) | ((with_reducible show forceH _ _); (refine (forceH_eq _ _).mpr ?_); conv => whnf) | ((with_reducible show ACall _ _ _ _ _); (refine ACall.of_pure (by assumption) (by rfl) ?_); conv => whnf) | ((with_reducible show Exists _); (refine ⟨_, ACall.of_pure (by assumption) (by rfl) ⟨rfl, rfl⟩, ?_⟩); conv => whnf) | ((with_reducible show _ ∧ _ ∧ _); (refine ⟨by omega, by omega, ?_⟩); conv => whnf) | fail)
      (refine And.intro ?_ ?_); (focus ((conv => whnf); (repeat' first | exact trivial | ((refine And.intro ?_ ?_); (focus ((conv => whnf); (first | exact ⟨rfl, rfl⟩ | exact ⟨by decide, by decide, rfl, rfl⟩ | exact ⟨by omega, by omega, rfl, rfl⟩ | exact ⟨by (simp only [List.length_drop, List.length_take]; omega), rfl, rfl⟩ | exact ⟨_, rfl, rfl, rfl⟩ | exact ⟨by omega, _, by assumption, rfl, rfl, rfl⟩ | ((refine ACall.of_pure (by assumption) (by rfl) ?_); (refine And.intro ?_ ?_ <;> rfl))))); (conv => whnf)))))
      (conv => whnf); (repeat' first | ((with_reducible refine Box.mk ?_); conv => whnf) | ((with_reducible refine And.intro (fun _ => ?_) (fun _ => ?_)) <;> conv => whnf) | ((with_reducible show AYld _ _ _ _ _); (refine AYld.of tok mixed ?_); conv => whnf) | ((with_reducible show forceH _ _); (refine (forceH_eq _ _).mpr ?_); conv => whnf) | ((with_reducible show ACall _ _ _ _ _); (refine ACall.of_pure (by assumption) (by rfl) ?_); conv => whnf) | ((with_reducible show Exists _); (refine ⟨_, ACall.of_pure (by assumption) (by rfl) ⟨rfl, rfl⟩, ?_⟩); conv => whnf) | ((with_reducible show _ ∧ _ ∧ _); (refine ⟨by omega, by omega, ?_⟩); conv => whnf) | fail)
      refine aDw [1] b2 rfl rfl rfl ?_
      (conv => whnf); (repeat' first | ((with_reducible refine Box.mk ?_); conv => whnf) | ((with_reducible refine And.intro (fun _ => ?_) (fun _ => ?_)) <;> conv => whnf) | ((with_reducible show AYld _ _ _ _ _); (refine AYld.of tok mixed ?_); conv => whnf) | ((with_reducible show forceH _ _); (refine (forceH_eq _ _).mpr ?_); conv => whnf) | ((with_reducible show ACall _ _ _ _ _); (refine ACall.of_pure (by assumption) (by rfl) ?_); conv => whnf) | ((with_reducible show Exists _); (refine ⟨_, ACall.of_pure (by assumption) (by rfl) ⟨rfl, rfl⟩, ?_⟩); conv => whnf) | ((with_reducible show _ ∧ _ ∧ _); (refine ⟨by omega, by omega, ?_⟩); conv => whnf) | fail)
      · exact weak_ren_to [(0, true), (1, true)] rfl rfl (by rw [← List.append_assoc pre]; rfl) ⟨rfl, trivial⟩
      · rename_i hbad; exact absurd rfl hbad
    · rename_i h0 h1 h2 h3
      rw [if_neg h0, if_neg h1, if_neg h2, if_pos h3, if_neg h0, if_neg h1, if_neg h2, if_pos h3]
      refine ⟨[(2003, []), (2008, []), (3007, [3]), (8, [4])], by kernel_rfl, ?_⟩
      (conv => whnf); (repeat' first | ((with_reducible refine Box.mk ?_); conv => whnf) | ((with_reducible refine And.intro (fun _ => ?_) (fun _ => ?_)) <;> conv => whnf) | ((with_reducible show AYld _ _ _ _ _); (refine AYld.of tok mixed ?_); conv => whnf) | ((with_reducible show forceH _ _); (refine (forceH_eq _ _).mpr ?_); conv => whnf) | ((with_reducible show ACall _ _ _ _ _); (refine ACall.of_pure (by assumption) (by rfl) ?_); conv => whnf) | ((with_reducible show Exists _); (refine ⟨_, ACall.of_pure (by assumption) (by rfl) ⟨rfl, rfl⟩, ?_⟩); conv => whnf) | ((with_reducible show _ ∧ _ ∧ _); (refine ⟨by omega, by omega, ?_⟩); conv => whnf) | fail)
      refine aDw [0] a3 rfl rfl rfl ?_
      (conv => whnf); (repeat' first | ((with_reducible refine Box.mk ?_); conv => whnf) | ((with_reducible refine And.intro (fun _ => ?_) (fun _ => ?_)) <;> conv => whnf) | ((with_reducible show AYld _ _ _ _ _); (refine AYld.of tok mixed ?_); conv => whnf) | ((with_reducible show forceH _ _); (refine (forceH_eq _ _).mpr ?_); conv => whnf) | ((with_reducible show ACall _ _ _ _ _); (refine ACall.of_pure (by assumption) (by rfl) ?_); conv => whnf) | ((with_reducible show Exists _); (refine ⟨_, ACall.of_pure (by assumption) (by rfl) ⟨rfl, rfl⟩, ?_⟩); conv => whnf) | ((with_reducible show _ ∧ _ ∧ _); (refine ⟨by omega, by omega, ?_⟩); conv => whnf) | fail)
      refine ⟨_, rfl, ?_⟩
      (conv => whnf); (repeat' first | ((with_reducible refine Box.mk ?_); conv => whnf) | ((with_reducible refine And.intro (fun _ => ?_) (fun _ => ?_)) <;> conv => whnf) | ((with_reducible show AYld _ _ _ _ _); (refine AYld.of tok mixed ?_); conv => whnf) | ((with_reducible show forceH _ _); (refine (forceH_eq _ _).mpr ?_); conv => whnf) | ((with_reducible show ACall _ _ _ _ _); (refine ACall.of_pure (by assumption) (by rfl) ?_); conv => whnf) | ((with_reducible show Exists _); (refine ⟨_, ACall.of_pure (by assumption) (by rfl) ⟨rfl, rfl⟩, ?_⟩); conv => whnf) | ((with_reducible show _ ∧ _ ∧ _); (refine ⟨by omega, by omega, ?_⟩); conv => whnf) | fail)
      (refine And.intro ?_ ?_); (focus ((conv => whnf); (repeat' first | exact trivial | ((refine And.intro ?_ ?_); (focus ((conv => whnf); (first | exact ⟨rfl, rfl⟩ | exact ⟨by decide, by decide, rfl, rfl⟩ | exact ⟨by omega, by omega, rfl, rfl⟩ | exact ⟨by (simp only [List.length_drop, List.length_take]; omega), rfl, rfl⟩ | exact ⟨_, rfl, rfl, rfl⟩ | exact ⟨by omega, _, by assumption, rfl, rfl, rfl⟩ | ((refine ACall.of_pure (by assumption) (by rfl) ?_); (refine And.intro ?_ ?_ <;> rfl))))); (conv => whnf)))))
      (conv => whnf); (repeat' first | ((with_reducible refine Box.mk ?_); conv => whnf) | ((with_reducible refine And.intro (fun _ => ?_) (fun _ => ?_)) <;> conv => whnf) | ((with_reducible show AYld _ _ _ _ _); (refine AYld.of tok mixed ?_); conv => whnf) | ((with_reducible show forceH _ _); (refine (forceH_eq _ _).mpr ?_); conv => whnf) | ((with_reducible show ACall _ _ _ _ _); (refine ACall.of_pure (by assumption) (by rfl) ?_); conv => whnf) | ((with_reducible show Exists _); (refine ⟨_, ACall.of_pure (by assumption) (by rfl) ⟨rfl, rfl⟩, ?_⟩); conv => whnf) | ((with_reducible show _ ∧ _ ∧ _); (refine ⟨by omega, by omega, ?_⟩); conv => whnf) | fail)
      refine aDw [1] b3 rfl rfl rfl ?_
      (conv => whnf); (repeat' first | ((with_reducible refine Box.mk ?_); conv => whnf) | ((with_reducible refine And.intro (fun _ => ?_) (fun _ => ?_)) <;> conv => whnf) | ((with_reducible show AYld _ _ _ _ _); (refine AYld.of tok mixed ?_); conv => whnf) | ((with_reducible show forceH _ _); (refine (forceH_eq _ _).mpr ?_); conv => whnf) | ((with_reducible show ACall _ _ _ _ _); (refine ACall.of_pure (by assumption) (by rfl) ?_); conv => whnf) | ((with_reducible show Exists _); (refine ⟨_, ACall.of_pure (by assumption) (by rfl) ⟨rfl, rfl⟩, ?_⟩); conv => whnf) | ((with_reducible show _ ∧ _ ∧ _); (refine ⟨by omega, by omega, ?_⟩); conv => whnf) | fail)
      (refine And.intro ?_ ?_); (focus ((conv => whnf); (repeat' first | exact trivial | ((refine And.intro ?_ ?_); (focus ((conv => whnf); (first | exact ⟨rfl, rfl⟩ | exact ⟨by decide, by decide, rfl, rfl⟩ | exact ⟨by omega, by omega, rfl, rfl⟩ | exact ⟨by (simp only [List.length_drop, List.length_take]; omega), rfl, rfl⟩ | exact ⟨_, rfl, rfl, rfl⟩ | exact ⟨by omega, _, by assumption, rfl, rfl, rfl⟩ | ((refine ACall.of_pure (by assumption) (by rfl) ?_); (refine And.intro ?_ ?_ <;> rfl))))); (conv => whnf)))))
      (conv => whnf); (repeat' first | ((with_reducible refine Box.mk ?_); conv => whnf) | ((with_reducible refine And.intro (fun _ => ?_) (fun _ => ?_)) <;> conv => whnf) | ((with_reducible show AYld _ _ _ _ _); (refine AYld.of tok mixed ?_); conv => whnf) | ((with_reducible show forceH _ _); (refine (forceH_eq _ _).mpr ?_); conv => whnf) | ((with_reducible show ACall _ _ _ _ _); (refine ACall.of_pure (by assumption) (by rfl) ?_); conv => whnf) | ((with_reducible show Exists _); (refine ⟨_, ACall.of_pure (by assumption) (by rfl) ⟨rfl, rfl⟩, ?_⟩); conv => whnf) | ((with_reducible show _ ∧ _ ∧ _); (refine ⟨by omega, by omega, ?_⟩); conv => whnf) | fail)
      refine ⟨_, rfl, ?_⟩
      (conv => whnf); (repeat' first | ((with_reducible refine Box.mk ?_); conv => whnf) | ((with_reducible refine And.intro (fun _ => ?_) (fun _ => ?_)) <;> conv => whnf) | ((with_reducible show AYld _ _ _ _ _); (refine AYld.of tok mixed ?_); conv => whnf) | ((with_reducible show forceH _ _); (refine (forceH_eq _ _).mpr ?_); conv => whnf) | ((with_reducible show ACall _ _ _ _ _); (refine ACall.of_pure (by assumption) (by rfl) ?_); conv => whnf) | ((with_reducible show Exists _); (refine ⟨_, ACall.of_pure (by assumption) (by rfl) ⟨rfl, rfl⟩, ?_⟩); conv => whnf) | ((with_reducible show _ ∧ _ ∧ _); (refine ⟨by omega, by omega, ?_⟩); conv => whnf) | fail)
      · exact weak_ren_to [(0, true), (1, true)] rfl rfl rfl ⟨rfl, trivial⟩
      · rename_i hbad; exact absurd rfl hbad
    · rename_i h0 h1 h2 h3 h4 h5
      rw [if_neg h0, if_neg h1, if_neg h2, if_neg h3, if_pos h4, decide_eq_true h5, if_neg h0, if_neg h1, if_neg h2, if_neg h3]
      refine aW [0] (a4 true) rfl rfl rfl ?_
      (conv => whnf); (repeat' first | ((with_reducible refine Box.mk ?_); conv => whnf) | ((with_reducible refine And.intro (fun _ => ?_) (fun _ => ?_)) <;> conv => whnf) | ((with_reducible show AYld _ _ _ _ _); (refine AYld.of tok mixed ?_); conv => whnf) | ((with_reducible show forceH _ _); (refine (forceH_eq _ _).mpr ?_); conv => whnf) | ((with_reducible show ACall _ _ _ _ _); (refine ACall.of_pure (by assumption) (by rfl) ?_); conv => whnf) | ((with_reducible show Exists _); (refine ⟨_, ACall.of_pure (by assumption) (by rfl) ⟨rfl, rfl⟩, ?_⟩); conv => whnf) | ((with_reducible show _ ∧ _ ∧ _); (refine ⟨by omega, by omega, ?_⟩); conv => whnf) | fail)
      all_goals try contradiction
      refine aW [1] (b4 true) rfl rfl rfl ?_
      (conv => whnf); (repeat' first | ((with_reducible refine Box.mk ?_); conv => whnf) | ((with_reducible refine And.intro (fun _ => ?_) (fun _ => ?_)) <;> conv => whnf) | ((with_reducible show AYld _ _ _ _ _); (refine AYld.of tok mixed ?_); conv => whnf) | ((with_reducible show forceH _ _); (refine (forceH_eq _ _).mpr ?_); conv => whnf) | ((with_reducible show ACall _ _ _ _ _); (refine ACall.of_pure (by assumption) (by rfl) ?_); conv => whnf) | ((with_reducible show Exists _); (refine ⟨_, ACall.of_pure (by assumption) (by rfl) ⟨rfl, rfl⟩, ?_⟩); conv => whnf) | ((with_reducible show _ ∧ _ ∧ _); (refine ⟨by omega, by omega, ?_⟩); conv => whnf) | fail)
      exact weak_ren_to [(0, true), (1, true)] rfl rfl (by rw [List.append_nil]; rfl) ⟨rfl, trivial⟩
    · rename_i h0 h1 h2 h3 h4 h5
      rw [if_neg h0, if_neg h1, if_neg h2, if_neg h3, if_pos h4, decide_eq_false h5, if_neg h0, if_neg h1, if_neg h2, if_neg h3]
      refine aW [0] (a4 false) rfl rfl rfl ?_
      (conv => whnf); (repeat' first | ((with_reducible refine Box.mk ?_); conv => whnf) | ((with_reducible refine And.intro (fun _ => ?_) (fun _ => ?_)) <;> conv => whnf) | ((with_reducible show AYld _ _ _ _ _); (refine AYld.of tok mixed ?_); conv => whnf) | ((with_reducible show forceH _ _); (refine (forceH_eq _ _).mpr ?_); conv => whnf) | ((with_reducible show ACall _ _ _ _ _); (refine ACall.of_pure (by assumption) (by rfl) ?_); conv => whnf) | ((with_reducible show Exists _); (refine ⟨_, ACall.of_pure (by assumption) (by rfl) ⟨rfl, rfl⟩, ?_⟩); conv => whnf) | ((with_reducible show _ ∧ _ ∧ _); (refine ⟨by omega, by omega, ?_⟩); conv => whnf) | fail)
      all_goals try contradiction
      refine aW [1] (b4 false) rfl rfl rfl ?_
      (conv => whnf); (repeat' first | ((with_reducible refine Box.mk ?_); conv => whnf) | ((with_reducible refine And.intro (fun _ => ?_) (fun _ => ?_)) <;> conv => whnf) | ((with_reducible show AYld _ _ _ _ _); (refine AYld.of tok mixed ?_); conv => whnf) | ((with_reducible show forceH _ _); (refine (forceH_eq _ _).mpr ?_); conv => whnf) | ((with_reducible show ACall _ _ _ _ _); (refine ACall.of_pure (by assumption) (by rfl) ?_); conv => whnf) | ((with_reducible show Exists _); (refine ⟨_, ACall.of_pure (by assumption) (by rfl) ⟨rfl, rfl⟩, ?_⟩); conv => whnf) | ((with_reducible show _ ∧ _ ∧ _); (refine ⟨by omega, by omega, ?_⟩); conv => whnf) | fail)
      exact weak_ren_to [(0, true), (1, true)] rfl rfl (by rw [List.append_nil]; rfl) ⟨rfl, trivial⟩
    · rename_i h0 h1 h2 h3 h4
      rw [if_neg h0, if_neg h1, if_neg h2, if_neg h3, if_neg h4, if_neg h0, if_neg h1, if_neg h2, if_neg h3]
      exact weak_ren_to [(0, true), (1, true)] rfl rfl (by rw [List.append_nil]; rfl) ⟨rfl, trivial⟩)
end Go.Proofs.Ytlmdacgkaailiaa
end

section
/- wire: a reader that is nil or wasn't made. -/
namespace Go.Proofs.Ytlmdacgkaailiaa
open Go.Ve

def zH : Hp := [.box 48 [.bool false, .nils, .int .i64 0]]
theorem zErr_ok : DCall P 13 [.ptr 0 0] zH (.int .i64 6) zH := by
  refine DCall.of_awp tok mixed fn13 (Nat.le_of_ble_eq_true rfl) ?_
  (conv => whnf); (repeat' first | ((with_reducible refine Box.mk ?_); conv => whnf) | ((with_reducible refine And.intro (fun _ => ?_) (fun _ => ?_)) <;> conv => whnf) | ((with_reducible show AYld _ _ _ _ _); (refine AYld.of tok mixed ?_); conv => whnf) | ((with_reducible show forceH _ _); (refine (forceH_eq _ _).mpr ?_); conv => whnf) | ((with_reducible show ACall _ _ _ _ _); (refine ACall.of_pure (by assumption) (by rfl) ?_); conv => whnf) | ((with_reducible show Exists _); (refine ⟨_, ACall.of_pure (by assumption) (by rfl) ⟨rfl, rfl⟩, ?_⟩); conv => whnf) | ((with_reducible show ∃ L, drawR L _ = true ∧ _); (refine ⟨[], by kernel_rfl, ?_⟩); conv => whnf) | ((with_reducible show _ ∧ _ ∧ _); (refine ⟨by omega, by omega, ?_⟩); conv => whnf) | fail)
  all_goals try contradiction
  exact weak_to ⟨rfl, trivial⟩ rfl
theorem zLeft_ok : DCall P 16 [.ptr 0 0] zH (.int .i64 0) zH := by
  have q1 := zErr_ok
  refine DCall.of_awp tok mixed fn16 (Nat.le_of_ble_eq_true rfl) ?_
  (conv => whnf); (repeat' first | ((with_reducible refine Box.mk ?_); conv => whnf) | ((with_reducible refine And.intro (fun _ => ?_) (fun _ => ?_)) <;> conv => whnf) | ((with_reducible show AYld _ _ _ _ _); (refine AYld.of tok mixed ?_); conv => whnf) | ((with_reducible show forceH _ _); (refine (forceH_eq _ _).mpr ?_); conv => whnf) | ((with_reducible show ACall _ _ _ _ _); (refine ACall.of_pure (by assumption) (by rfl) ?_); conv => whnf) | ((with_reducible show Exists _); (refine ⟨_, ACall.of_pure (by assumption) (by rfl) ⟨rfl, rfl⟩, ?_⟩); conv => whnf) | ((with_reducible show ∃ L, drawR L _ = true ∧ _); (refine ⟨[], by kernel_rfl, ?_⟩); conv => whnf) | ((with_reducible show _ ∧ _ ∧ _); (refine ⟨by omega, by omega, ?_⟩); conv => whnf) | fail)
  refine aW [0] q1 rfl rfl rfl ?_
  (conv => whnf); (repeat' first | ((with_reducible refine Box.mk ?_); conv => whnf) | ((with_reducible refine And.intro (fun _ => ?_) (fun _ => ?_)) <;> conv => whnf) | ((with_reducible show AYld _ _ _ _ _); (refine AYld.of tok mixed ?_); conv => whnf) | ((with_reducible show forceH _ _); (refine (forceH_eq _ _).mpr ?_); conv => whnf) | ((with_reducible show ACall _ _ _ _ _); (refine ACall.of_pure (by assumption) (by rfl) ?_); conv => whnf) | ((with_reducible show Exists _); (refine ⟨_, ACall.of_pure (by assumption) (by rfl) ⟨rfl, rfl⟩, ?_⟩); conv => whnf) | ((with_reducible show ∃ L, drawR L _ = true ∧ _); (refine ⟨[], by kernel_rfl, ?_⟩); conv => whnf) | ((with_reducible show _ ∧ _ ∧ _); (refine ⟨by omega, by omega, ?_⟩); conv => whnf) | fail)
  all_goals try contradiction
  exact weak_to ⟨rfl, trivial⟩ rfl
theorem zEnd_ok : DCall P 14 [.ptr 0 0] zH (.int .i64 6) zH := by
  have q1 := zErr_ok
  have q2 := zLeft_ok
  refine DCall.of_awp tok mixed fn14 (Nat.le_of_ble_eq_true rfl) ?_
  (conv => whnf); (repeat' first | ((with_reducible refine Box.mk ?_); conv => whnf) | ((with_reducible refine And.intro (fun _ => ?_) (fun _ => ?_)) <;> conv => whnf) | ((with_reducible show AYld _ _ _ _ _); (refine AYld.of tok mixed ?_); conv => whnf) | ((with_reducible show forceH _ _); (refine (forceH_eq _ _).mpr ?_); conv => whnf) | ((with_reducible show ACall _ _ _ _ _); (refine ACall.of_pure (by assumption) (by rfl) ?_); conv => whnf) | ((with_reducible show Exists _); (refine ⟨_, ACall.of_pure (by assumption) (by rfl) ⟨rfl, rfl⟩, ?_⟩); conv => whnf) | ((with_reducible show ∃ L, drawR L _ = true ∧ _); (refine ⟨[], by kernel_rfl, ?_⟩); conv => whnf) | ((with_reducible show _ ∧ _ ∧ _); (refine ⟨by omega, by omega, ?_⟩); conv => whnf) | fail)
  refine aW [0] q2 rfl rfl rfl ?_
  (conv => whnf); (repeat' first | ((with_reducible refine Box.mk ?_); conv => whnf) | ((with_reducible refine And.intro (fun _ => ?_) (fun _ => ?_)) <;> conv => whnf) | ((with_reducible show AYld _ _ _ _ _); (refine AYld.of tok mixed ?_); conv => whnf) | ((with_reducible show forceH _ _); (refine (forceH_eq _ _).mpr ?_); conv => whnf) | ((with_reducible show ACall _ _ _ _ _); (refine ACall.of_pure (by assumption) (by rfl) ?_); conv => whnf) | ((with_reducible show Exists _); (refine ⟨_, ACall.of_pure (by assumption) (by rfl) ⟨rfl, rfl⟩, ?_⟩); conv => whnf) | ((with_reducible show ∃ L, drawR L _ = true ∧ _); (refine ⟨[], by kernel_rfl, ?_⟩); conv => whnf) | ((with_reducible show _ ∧ _ ∧ _); (refine ⟨by omega, by omega, ?_⟩); conv => whnf) | fail)
  all_goals try (exfalso; omega)
  refine aW [0] q1 rfl rfl rfl ?_
  (conv => whnf); (repeat' first | ((with_reducible refine Box.mk ?_); conv => whnf) | ((with_reducible refine And.intro (fun _ => ?_) (fun _ => ?_)) <;> conv => whnf) | ((with_reducible show AYld _ _ _ _ _); (refine AYld.of tok mixed ?_); conv => whnf) | ((with_reducible show forceH _ _); (refine (forceH_eq _ _).mpr ?_); conv => whnf) | ((with_reducible show ACall _ _ _ _ _); (refine ACall.of_pure (by assumption) (by rfl) ?_); conv => whnf) | ((with_reducible show Exists _); (refine ⟨_, ACall.of_pure (by assumption) (by rfl) ⟨rfl, rfl⟩, ?_⟩); conv => whnf) | ((with_reducible show ∃ L, drawR L _ = true ∧ _); (refine ⟨[], by kernel_rfl, ?_⟩); conv => whnf) | ((with_reducible show _ ∧ _ ∧ _); (refine ⟨by omega, by omega, ?_⟩); conv => whnf) | fail)
  exact weak_to ⟨rfl, trivial⟩ rfl
theorem zMust_ok (b : Bool) : DCall P 18 [.ptr 0 0, .bool b] zH (mkRes []) zH := by
  have q1 := zErr_ok
  cases b
  all_goals (
    refine DCall.of_awp tok mixed fn18 (Nat.le_of_ble_eq_true rfl) ?_
    (conv => whnf); (repeat' first | ((with_reducible refine Box.mk ?_); conv => whnf) | ((with_reducible refine And.intro (fun _ => ?_) (fun _ => ?_)) <;> conv => whnf) | ((with_reducible show AYld _ _ _ _ _); (refine AYld.of tok mixed ?_); conv => whnf) | ((with_reducible show forceH _ _); (refine (forceH_eq _ _).mpr ?_); conv => whnf) | ((with_reducible show ACall _ _ _ _ _); (refine ACall.of_pure (by assumption) (by rfl) ?_); conv => whnf) | ((with_reducible show Exists _); (refine ⟨_, ACall.of_pure (by assumption) (by rfl) ⟨rfl, rfl⟩, ?_⟩); conv => whnf) | ((with_reducible show ∃ L, drawR L _ = true ∧ _); (refine ⟨[], by kernel_rfl, ?_⟩); conv => whnf) | ((with_reducible show _ ∧ _ ∧ _); (refine ⟨by omega, by omega, ?_⟩); conv => whnf) | fail)
    refine aW [0] q1 rfl rfl rfl ?_
    (conv => whnf); (repeat' first | ((with_reducible refine Box.mk ?_); conv => whnf) | ((with_reducible refine And.intro (fun _ => ?_) (fun _ => ?_)) <;> conv => whnf) | ((with_reducible show AYld _ _ _ _ _); (refine AYld.of tok mixed ?_); conv => whnf) | ((with_reducible show forceH _ _); (refine (forceH_eq _ _).mpr ?_); conv => whnf) | ((with_reducible show ACall _ _ _ _ _); (refine ACall.of_pure (by assumption) (by rfl) ?_); conv => whnf) | ((with_reducible show Exists _); (refine ⟨_, ACall.of_pure (by assumption) (by rfl) ⟨rfl, rfl⟩, ?_⟩); conv => whnf) | ((with_reducible show ∃ L, drawR L _ = true ∧ _); (refine ⟨[], by kernel_rfl, ?_⟩); conv => whnf) | ((with_reducible show _ ∧ _ ∧ _); (refine ⟨by omega, by omega, ?_⟩); conv => whnf) | fail)
    all_goals try (exfalso; omega)
    exact weak_to ⟨rfl, trivial⟩ rfl)
theorem zRaw_ok (n : Int) : DCall P 21 [.ptr 0 0, .int .i64 n] zH .nils zH := by
  have q1 := zErr_ok
  have q2 := fun b => zMust_ok b
  refine DCall.of_awp tok mixed fn21 (Nat.le_of_ble_eq_true rfl) ?_
  (conv => whnf); (repeat' first | ((with_reducible refine Box.mk ?_); conv => whnf) | ((with_reducible refine And.intro (fun _ => ?_) (fun _ => ?_)) <;> conv => whnf) | ((with_reducible show AYld _ _ _ _ _); (refine AYld.of tok mixed ?_); conv => whnf) | ((with_reducible show forceH _ _); (refine (forceH_eq _ _).mpr ?_); conv => whnf) | ((with_reducible show ACall _ _ _ _ _); (refine ACall.of_pure (by assumption) (by rfl) ?_); conv => whnf) | ((with_reducible show Exists _); (refine ⟨_, ACall.of_pure (by assumption) (by rfl) ⟨rfl, rfl⟩, ?_⟩); conv => whnf) | ((with_reducible show ∃ L, drawR L _ = true ∧ _); (refine ⟨[], by kernel_rfl, ?_⟩); conv => whnf) | ((with_reducible show _ ∧ _ ∧ _); (refine ⟨by omega, by omega, ?_⟩); conv => whnf) | fail)
  · refine aW [0] (q2 true) rfl rfl rfl ?_
    (conv => whnf); (repeat' first | ((with_reducible refine Box.mk ?_); conv => whnf) | ((with_reducible refine And.intro (fun _ => ?_) (fun _ => ?_)) <;> conv => whnf) | ((with_reducible show AYld _ _ _ _ _); (refine AYld.of tok mixed ?_); conv => whnf) | ((with_reducible show forceH _ _); (refine (forceH_eq _ _).mpr ?_); conv => whnf) | ((with_reducible show ACall _ _ _ _ _); (refine ACall.of_pure (by assumption) (by rfl) ?_); conv => whnf) | ((with_reducible show Exists _); (refine ⟨_, ACall.of_pure (by assumption) (by rfl) ⟨rfl, rfl⟩, ?_⟩); conv => whnf) | ((with_reducible show ∃ L, drawR L _ = true ∧ _); (refine ⟨[], by kernel_rfl, ?_⟩); conv => whnf) | ((with_reducible show _ ∧ _ ∧ _); (refine ⟨by omega, by omega, ?_⟩); conv => whnf) | fail)
    refine aW [0] q1 rfl rfl rfl ?_
    (conv => whnf); (repeat' first | ((with_reducible refine Box.mk ?_); conv => whnf) | ((with_reducible refine And.intro (fun _ => ?_) (fun _ => ?_)) <;> conv => whnf) | ((with_reducible show AYld _ _ _ _ _); (refine AYld.of tok mixed ?_); conv => whnf) | ((with_reducible show forceH _ _); (refine (forceH_eq _ _).mpr ?_); conv => whnf) | ((with_reducible show ACall _ _ _ _ _); (refine ACall.of_pure (by assumption) (by rfl) ?_); conv => whnf) | ((with_reducible show Exists _); (refine ⟨_, ACall.of_pure (by assumption) (by rfl) ⟨rfl, rfl⟩, ?_⟩); conv => whnf) | ((with_reducible show ∃ L, drawR L _ = true ∧ _); (refine ⟨[], by kernel_rfl, ?_⟩); conv => whnf) | ((with_reducible show _ ∧ _ ∧ _); (refine ⟨by omega, by omega, ?_⟩); conv => whnf) | fail)
    all_goals try contradiction
    exact weak_to ⟨rfl, trivial⟩ rfl
  · refine aW [0] (q2 false) rfl rfl rfl ?_
    (conv => whnf); (repeat' first | ((with_reducible refine Box.mk ?_); conv => whnf) | ((with_reducible refine And.intro (fun _ => ?_) (fun _ => ?_)) <;> conv => whnf) | ((with_reducible show AYld _ _ _ _ _); (refine AYld.of tok mixed ?_); conv => whnf) | ((with_reducible show forceH _ _); (refine (forceH_eq _ _).mpr ?_); conv => whnf) | ((with_reducible show ACall _ _ _ _ _); (refine ACall.of_pure (by assumption) (by rfl) ?_); conv => whnf) | ((with_reducible show Exists _); (refine ⟨_, ACall.of_pure (by assumption) (by rfl) ⟨rfl, rfl⟩, ?_⟩); conv => whnf) | ((with_reducible show ∃ L, drawR L _ = true ∧ _); (refine ⟨[], by kernel_rfl, ?_⟩); conv => whnf) | ((with_reducible show _ ∧ _ ∧ _); (refine ⟨by omega, by omega, ?_⟩); conv => whnf) | fail)
    refine aW [0] q1 rfl rfl rfl ?_
    (conv => whnf); (repeat' first | ((with_reducible refine Box.mk ?_); conv => whnf) | ((with_reducible refine And.intro (fun _ => ?_) (fun _ => ?_)) <;> conv => whnf) | ((with_reducible show AYld _ _ _ _ _); (refine AYld.of tok mixed ?_); conv => whnf) | ((with_reducible show forceH _ _); (refine (forceH_eq _ _).mpr ?_); conv => whnf) | ((with_reducible show ACall _ _ _ _ _); (refine ACall.of_pure (by assumption) (by rfl) ?_); conv => whnf) | ((with_reducible show Exists _); (refine ⟨_, ACall.of_pure (by assumption) (by rfl) ⟨rfl, rfl⟩, ?_⟩); conv => whnf) | ((with_reducible show ∃ L, drawR L _ = true ∧ _); (refine ⟨[], by kernel_rfl, ?_⟩); conv => whnf) | ((with_reducible show _ ∧ _ ∧ _); (refine ⟨by omega, by omega, ?_⟩); conv => whnf) | fail)
    all_goals try contradiction
    exact weak_to ⟨rfl, trivial⟩ rfl
theorem zNum_ok (k : Int) : DCall P 19 [.ptr 0 0, .int .i64 k] zH (.int .u64 0) zH := by
  have q1 := wSize_ok k
  have q2 := zRaw_ok (szN k : Nat)
  refine DCall.of_awp tok mixed fn19 (Nat.le_of_ble_eq_true rfl) ?_
  (conv => whnf); (repeat' first | ((with_reducible refine Box.mk ?_); conv => whnf) | ((with_reducible refine And.intro (fun _ => ?_) (fun _ => ?_)) <;> conv => whnf) | ((with_reducible show AYld _ _ _ _ _); (refine AYld.of tok mixed ?_); conv => whnf) | ((with_reducible show forceH _ _); (refine (forceH_eq _ _).mpr ?_); conv => whnf) | ((with_reducible show ACall _ _ _ _ _); (refine ACall.of_pure (by assumption) (by rfl) ?_); conv => whnf) | ((with_reducible show Exists _); (refine ⟨_, ACall.of_pure (by assumption) (by rfl) ⟨rfl, rfl⟩, ?_⟩); conv => whnf) | ((with_reducible show ∃ L, drawR L _ = true ∧ _); (refine ⟨[], by kernel_rfl, ?_⟩); conv => whnf) | ((with_reducible show _ ∧ _ ∧ _); (refine ⟨by omega, by omega, ?_⟩); conv => whnf) | fail)
  refine aW [0] q2 rfl rfl rfl ?_
  (conv => whnf); (repeat' first | ((with_reducible refine Box.mk ?_); conv => whnf) | ((with_reducible refine And.intro (fun _ => ?_) (fun _ => ?_)) <;> conv => whnf) | ((with_reducible show AYld _ _ _ _ _); (refine AYld.of tok mixed ?_); conv => whnf) | ((with_reducible show forceH _ _); (refine (forceH_eq _ _).mpr ?_); conv => whnf) | ((with_reducible show ACall _ _ _ _ _); (refine ACall.of_pure (by assumption) (by rfl) ?_); conv => whnf) | ((with_reducible show Exists _); (refine ⟨_, ACall.of_pure (by assumption) (by rfl) ⟨rfl, rfl⟩, ?_⟩); conv => whnf) | ((with_reducible show ∃ L, drawR L _ = true ∧ _); (refine ⟨[], by kernel_rfl, ?_⟩); conv => whnf) | ((with_reducible show _ ∧ _ ∧ _); (refine ⟨by omega, by omega, ?_⟩); conv => whnf) | fail)
  refine aloop (fun _ : Unit => True) (fun _ => ⟨envL [(5, .int .u64 0), (11, .nils), (12, .int .i64 0), (13, .int .i64 0)], zH⟩) (fun _ => 0) () trivial (weak_to ⟨rfl, rfl, rfl, rfl, trivial⟩ rfl) ?_
  intro _ _
  (conv => whnf); (repeat' first | ((with_reducible refine Box.mk ?_); conv => whnf) | ((with_reducible refine And.intro (fun _ => ?_) (fun _ => ?_)) <;> conv => whnf) | ((with_reducible show AYld _ _ _ _ _); (refine AYld.of tok mixed ?_); conv => whnf) | ((with_reducible show forceH _ _); (refine (forceH_eq _ _).mpr ?_); conv => whnf) | ((with_reducible show ACall _ _ _ _ _); (refine ACall.of_pure (by assumption) (by rfl) ?_); conv => whnf) | ((with_reducible show Exists _); (refine ⟨_, ACall.of_pure (by assumption) (by rfl) ⟨rfl, rfl⟩, ?_⟩); conv => whnf) | ((with_reducible show ∃ L, drawR L _ = true ∧ _); (refine ⟨[], by kernel_rfl, ?_⟩); conv => whnf) | ((with_reducible show _ ∧ _ ∧ _); (refine ⟨by omega, by omega, ?_⟩); conv => whnf) | fail)
  all_goals try (exfalso; omega)
  exact weak_to ⟨rfl, trivial⟩ rfl
theorem zText_ok (k : Int) : DCall P 20 [.ptr 0 0, .int .i64 k] zH (.str []) zH := by
  have q1 := zNum_ok 2
  have q2 := fun b => zMust_ok b
  have q3 := zRaw_ok 0
  refine DCall.of_awp tok mixed fn20 (Nat.le_of_ble_eq_true rfl) ?_
  (conv => whnf); (repeat' first | ((with_reducible refine Box.mk ?_); conv => whnf) | ((with_reducible refine And.intro (fun _ => ?_) (fun _ => ?_)) <;> conv => whnf) | ((with_reducible show AYld _ _ _ _ _); (refine AYld.of tok mixed ?_); conv => whnf) | ((with_reducible show forceH _ _); (refine (forceH_eq _ _).mpr ?_); conv => whnf) | ((with_reducible show ACall _ _ _ _ _); (refine ACall.of_pure (by assumption) (by rfl) ?_); conv => whnf) | ((with_reducible show Exists _); (refine ⟨_, ACall.of_pure (by assumption) (by rfl) ⟨rfl, rfl⟩, ?_⟩); conv => whnf) | ((with_reducible show ∃ L, drawR L _ = true ∧ _); (refine ⟨[], by kernel_rfl, ?_⟩); conv => whnf) | ((with_reducible show _ ∧ _ ∧ _); (refine ⟨by omega, by omega, ?_⟩); conv => whnf) | fail)
  refine aW [0] q1 rfl rfl rfl ?_
  (conv => whnf); (repeat' first | ((with_reducible refine Box.mk ?_); conv => whnf) | ((with_reducible refine And.intro (fun _ => ?_) (fun _ => ?_)) <;> conv => whnf) | ((with_reducible show AYld _ _ _ _ _); (refine AYld.of tok mixed ?_); conv => whnf) | ((with_reducible show forceH _ _); (refine (forceH_eq _ _).mpr ?_); conv => whnf) | ((with_reducible show ACall _ _ _ _ _); (refine ACall.of_pure (by assumption) (by rfl) ?_); conv => whnf) | ((with_reducible show Exists _); (refine ⟨_, ACall.of_pure (by assumption) (by rfl) ⟨rfl, rfl⟩, ?_⟩); conv => whnf) | ((with_reducible show ∃ L, drawR L _ = true ∧ _); (refine ⟨[], by kernel_rfl, ?_⟩); conv => whnf) | ((with_reducible show _ ∧ _ ∧ _); (refine ⟨by omega, by omega, ?_⟩); conv => whnf) | fail)
  · refine aW [0] (q2 true) rfl rfl rfl ?_
    (conv => whnf); (repeat' first | ((with_reducible refine Box.mk ?_); conv => whnf) | ((with_reducible refine And.intro (fun _ => ?_) (fun _ => ?_)) <;> conv => whnf) | ((with_reducible show AYld _ _ _ _ _); (refine AYld.of tok mixed ?_); conv => whnf) | ((with_reducible show forceH _ _); (refine (forceH_eq _ _).mpr ?_); conv => whnf) | ((with_reducible show ACall _ _ _ _ _); (refine ACall.of_pure (by assumption) (by rfl) ?_); conv => whnf) | ((with_reducible show Exists _); (refine ⟨_, ACall.of_pure (by assumption) (by rfl) ⟨rfl, rfl⟩, ?_⟩); conv => whnf) | ((with_reducible show ∃ L, drawR L _ = true ∧ _); (refine ⟨[], by kernel_rfl, ?_⟩); conv => whnf) | ((with_reducible show _ ∧ _ ∧ _); (refine ⟨by omega, by omega, ?_⟩); conv => whnf) | fail)
    refine aW [0] q3 rfl rfl rfl ?_
    (conv => whnf); (repeat' first | ((with_reducible refine Box.mk ?_); conv => whnf) | ((with_reducible refine And.intro (fun _ => ?_) (fun _ => ?_)) <;> conv => whnf) | ((with_reducible show AYld _ _ _ _ _); (refine AYld.of tok mixed ?_); conv => whnf) | ((with_reducible show forceH _ _); (refine (forceH_eq _ _).mpr ?_); conv => whnf) | ((with_reducible show ACall _ _ _ _ _); (refine ACall.of_pure (by assumption) (by rfl) ?_); conv => whnf) | ((with_reducible show Exists _); (refine ⟨_, ACall.of_pure (by assumption) (by rfl) ⟨rfl, rfl⟩, ?_⟩); conv => whnf) | ((with_reducible show ∃ L, drawR L _ = true ∧ _); (refine ⟨[], by kernel_rfl, ?_⟩); conv => whnf) | ((with_reducible show _ ∧ _ ∧ _); (refine ⟨by omega, by omega, ?_⟩); conv => whnf) | fail)
    exact weak_to ⟨rfl, trivial⟩ rfl
  · refine aW [0] (q2 false) rfl rfl rfl ?_
    (conv => whnf); (repeat' first | ((with_reducible refine Box.mk ?_); conv => whnf) | ((with_reducible refine And.intro (fun _ => ?_) (fun _ => ?_)) <;> conv => whnf) | ((with_reducible show AYld _ _ _ _ _); (refine AYld.of tok mixed ?_); conv => whnf) | ((with_reducible show forceH _ _); (refine (forceH_eq _ _).mpr ?_); conv => whnf) | ((with_reducible show ACall _ _ _ _ _); (refine ACall.of_pure (by assumption) (by rfl) ?_); conv => whnf) | ((with_reducible show Exists _); (refine ⟨_, ACall.of_pure (by assumption) (by rfl) ⟨rfl, rfl⟩, ?_⟩); conv => whnf) | ((with_reducible show ∃ L, drawR L _ = true ∧ _); (refine ⟨[], by kernel_rfl, ?_⟩); conv => whnf) | ((with_reducible show _ ∧ _ ∧ _); (refine ⟨by omega, by omega, ?_⟩); conv => whnf) | fail)
    refine aW [0] q3 rfl rfl rfl ?_
    (conv => whnf); (repeat' first | ((with_reducible refine Box.mk ?_); conv => whnf) | ((with_reducible refine And.intro (fun _ => ?_) (fun _ => ?_)) <;> conv => whnf) | ((with_reducible show AYld _ _ _ _ _); (refine AYld.of tok mixed ?_); conv => whnf) | ((with_reducible show forceH _ _); (refine (forceH_eq _ _).mpr ?_); conv => whnf) | ((with_reducible show ACall _ _ _ _ _); (refine ACall.of_pure (by assumption) (by rfl) ?_); conv => whnf) | ((with_reducible show Exists _); (refine ⟨_, ACall.of_pure (by assumption) (by rfl) ⟨rfl, rfl⟩, ?_⟩); conv => whnf) | ((with_reducible show ∃ L, drawR L _ = true ∧ _); (refine ⟨[], by kernel_rfl, ?_⟩); conv => whnf) | ((with_reducible show _ ∧ _ ∧ _); (refine ⟨by omega, by omega, ?_⟩); conv => whnf) | fail)
    exact weak_to ⟨rfl, trivial⟩ rfl
theorem nLeft_ok : PCall P 16 [.nilp] (.int .i64 0) := by
  have q1 := rErr_nil
  refine PCall.of_awp tok mixed fn16 (Nat.le_of_ble_eq_true rfl) ?_
  (conv => whnf); (repeat' first | ((with_reducible refine Box.mk ?_); conv => whnf) | ((with_reducible refine And.intro (fun _ => ?_) (fun _ => ?_)) <;> conv => whnf) | ((with_reducible show AYld _ _ _ _ _); (refine AYld.of tok mixed ?_); conv => whnf) | ((with_reducible show forceH _ _); (refine (forceH_eq _ _).mpr ?_); conv => whnf) | ((with_reducible show ACall _ _ _ _ _); (refine ACall.of_pure (by assumption) (by rfl) ?_); conv => whnf) | ((with_reducible show Exists _); (refine ⟨_, ACall.of_pure (by assumption) (by rfl) ⟨rfl, rfl⟩, ?_⟩); conv => whnf) | ((with_reducible show ∃ L, drawR L _ = true ∧ _); (refine ⟨[], by kernel_rfl, ?_⟩); conv => whnf) | ((with_reducible show _ ∧ _ ∧ _); (refine ⟨by omega, by omega, ?_⟩); conv => whnf) | fail)
  all_goals first
    | rfl
    | contradiction
theorem nMust_ok (b : Bool) : PCall P 18 [.nilp, .bool b] (mkRes []) := by
  have q1 := rErr_nil
  cases b
  all_goals (
    refine PCall.of_awp tok mixed fn18 (Nat.le_of_ble_eq_true rfl) ?_
    (conv => whnf); (repeat' first | ((with_reducible refine Box.mk ?_); conv => whnf) | ((with_reducible refine And.intro (fun _ => ?_) (fun _ => ?_)) <;> conv => whnf) | ((with_reducible show AYld _ _ _ _ _); (refine AYld.of tok mixed ?_); conv => whnf) | ((with_reducible show forceH _ _); (refine (forceH_eq _ _).mpr ?_); conv => whnf) | ((with_reducible show ACall _ _ _ _ _); (refine ACall.of_pure (by assumption) (by rfl) ?_); conv => whnf) | ((with_reducible show Exists _); (refine ⟨_, ACall.of_pure (by assumption) (by rfl) ⟨rfl, rfl⟩, ?_⟩); conv => whnf) | ((with_reducible show ∃ L, drawR L _ = true ∧ _); (refine ⟨[], by kernel_rfl, ?_⟩); conv => whnf) | ((with_reducible show _ ∧ _ ∧ _); (refine ⟨by omega, by omega, ?_⟩); conv => whnf) | fail)
    all_goals first
      | rfl
      | contradiction
      | (exfalso; omega))
theorem nRaw_ok (n : Int) : PCall P 21 [.nilp, .int .i64 n] .nils := by
  have q1 := rErr_nil
  have q2 := nMust_ok true
  have q3 := nMust_ok false
  refine PCall.of_awp tok mixed fn21 (Nat.le_of_ble_eq_true rfl) ?_
  (conv => whnf); (repeat' first | ((with_reducible refine Box.mk ?_); conv => whnf) | ((with_reducible refine And.intro (fun _ => ?_) (fun _ => ?_)) <;> conv => whnf) | ((with_reducible show AYld _ _ _ _ _); (refine AYld.of tok mixed ?_); conv => whnf) | ((with_reducible show forceH _ _); (refine (forceH_eq _ _).mpr ?_); conv => whnf) | ((with_reducible show ACall _ _ _ _ _); (refine ACall.of_pure (by assumption) (by rfl) ?_); conv => whnf) | ((with_reducible show Exists _); (refine ⟨_, ACall.of_pure (by assumption) (by rfl) ⟨rfl, rfl⟩, ?_⟩); conv => whnf) | ((with_reducible show ∃ L, drawR L _ = true ∧ _); (refine ⟨[], by kernel_rfl, ?_⟩); conv => whnf) | ((with_reducible show _ ∧ _ ∧ _); (refine ⟨by omega, by omega, ?_⟩); conv => whnf) | fail)
  all_goals first
    | rfl
    | contradiction
theorem nNum_ok (k : Int) : PCall P 19 [.nilp, .int .i64 k] (.int .u64 0) := by
  have q1 := wSize_ok k
  have q2 := nRaw_ok (szN k : Nat)
  refine PCall.of_awp tok mixed fn19 (Nat.le_of_ble_eq_true rfl) ?_
  (conv => whnf); (repeat' first | ((with_reducible refine Box.mk ?_); conv => whnf) | ((with_reducible refine And.intro (fun _ => ?_) (fun _ => ?_)) <;> conv => whnf) | ((with_reducible show AYld _ _ _ _ _); (refine AYld.of tok mixed ?_); conv => whnf) | ((with_reducible show forceH _ _); (refine (forceH_eq _ _).mpr ?_); conv => whnf) | ((with_reducible show ACall _ _ _ _ _); (refine ACall.of_pure (by assumption) (by rfl) ?_); conv => whnf) | ((with_reducible show Exists _); (refine ⟨_, ACall.of_pure (by assumption) (by rfl) ⟨rfl, rfl⟩, ?_⟩); conv => whnf) | ((with_reducible show ∃ L, drawR L _ = true ∧ _); (refine ⟨[], by kernel_rfl, ?_⟩); conv => whnf) | ((with_reducible show _ ∧ _ ∧ _); (refine ⟨by omega, by omega, ?_⟩); conv => whnf) | fail)
  refine aloop (fun _ : Unit => True) (fun _ => ⟨envL [(5, .int .u64 0), (11, .nils), (12, .int .i64 0), (13, .int .i64 0)], []⟩) (fun _ => 0) () trivial (weak_to ⟨rfl, rfl, rfl, rfl, trivial⟩ rfl) ?_
  intro _ _
  (conv => whnf); (repeat' first | ((with_reducible refine Box.mk ?_); conv => whnf) | ((with_reducible refine And.intro (fun _ => ?_) (fun _ => ?_)) <;> conv => whnf) | ((with_reducible show AYld _ _ _ _ _); (refine AYld.of tok mixed ?_); conv => whnf) | ((with_reducible show forceH _ _); (refine (forceH_eq _ _).mpr ?_); conv => whnf) | ((with_reducible show ACall _ _ _ _ _); (refine ACall.of_pure (by assumption) (by rfl) ?_); conv => whnf) | ((with_reducible show Exists _); (refine ⟨_, ACall.of_pure (by assumption) (by rfl) ⟨rfl, rfl⟩, ?_⟩); conv => whnf) | ((with_reducible show ∃ L, drawR L _ = true ∧ _); (refine ⟨[], by kernel_rfl, ?_⟩); conv => whnf) | ((with_reducible show _ ∧ _ ∧ _); (refine ⟨by omega, by omega, ?_⟩); conv => whnf) | fail)
  all_goals first
    | rfl
    | (exfalso; omega)
theorem nText_ok (k : Int) : PCall P 20 [.nilp, .int .i64 k] (.str []) := by
  have q1 := nNum_ok 2
  have q2 := nMust_ok true
  have q4 := nMust_ok false
  have q3 := nRaw_ok 0
  refine PCall.of_awp tok mixed fn20 (Nat.le_of_ble_eq_true rfl) ?_
  (conv => whnf); (repeat' first | ((with_reducible refine Box.mk ?_); conv => whnf) | ((with_reducible refine And.intro (fun _ => ?_) (fun _ => ?_)) <;> conv => whnf) | ((with_reducible show AYld _ _ _ _ _); (refine AYld.of tok mixed ?_); conv => whnf) | ((with_reducible show forceH _ _); (refine (forceH_eq _ _).mpr ?_); conv => whnf) | ((with_reducible show ACall _ _ _ _ _); (refine ACall.of_pure (by assumption) (by rfl) ?_); conv => whnf) | ((with_reducible show Exists _); (refine ⟨_, ACall.of_pure (by assumption) (by rfl) ⟨rfl, rfl⟩, ?_⟩); conv => whnf) | ((with_reducible show ∃ L, drawR L _ = true ∧ _); (refine ⟨[], by kernel_rfl, ?_⟩); conv => whnf) | ((with_reducible show _ ∧ _ ∧ _); (refine ⟨by omega, by omega, ?_⟩); conv => whnf) | fail)
  all_goals rfl
theorem nWide_ok : PCall P 22 [.nilp] (.agg [.int .u64 0, .int .u64 0]) := by
  have q2 := nRaw_ok 16
  refine PCall.of_awp tok mixed fn22 (Nat.le_of_ble_eq_true rfl) ?_
  (conv => whnf); (repeat' first | ((with_reducible refine Box.mk ?_); conv => whnf) | ((with_reducible refine And.intro (fun _ => ?_) (fun _ => ?_)) <;> conv => whnf) | ((with_reducible show AYld _ _ _ _ _); (refine AYld.of tok mixed ?_); conv => whnf) | ((with_reducible show forceH _ _); (refine (forceH_eq _ _).mpr ?_); conv => whnf) | ((with_reducible show ACall _ _ _ _ _); (refine ACall.of_pure (by assumption) (by rfl) ?_); conv => whnf) | ((with_reducible show Exists _); (refine ⟨_, ACall.of_pure (by assumption) (by rfl) ⟨rfl, rfl⟩, ?_⟩); conv => whnf) | ((with_reducible show ∃ L, drawR L _ = true ∧ _); (refine ⟨[], by kernel_rfl, ?_⟩); conv => whnf) | ((with_reducible show _ ∧ _ ∧ _); (refine ⟨by omega, by omega, ?_⟩); conv => whnf) | fail)
  refine aloop (fun _ : Unit => True) (fun _ => ⟨envL [(2, .ptr 0 0), (4, .ptr 1 0), (9, .nils), (10, .int .i64 0), (11, .int .i64 0)], [.box 30 [.int .u64 0, .int .u64 0], .box 30 [.int .u64 0, .int .u64 0]]⟩) (fun _ => 0) () trivial (weak_to ⟨rfl, rfl, rfl, rfl, rfl, trivial⟩ rfl) ?_
  intro _ _
  (conv => whnf); (repeat' first | ((with_reducible refine Box.mk ?_); conv => whnf) | ((with_reducible refine And.intro (fun _ => ?_) (fun _ => ?_)) <;> conv => whnf) | ((with_reducible show AYld _ _ _ _ _); (refine AYld.of tok mixed ?_); conv => whnf) | ((with_reducible show forceH _ _); (refine (forceH_eq _ _).mpr ?_); conv => whnf) | ((with_reducible show ACall _ _ _ _ _); (refine ACall.of_pure (by assumption) (by rfl) ?_); conv => whnf) | ((with_reducible show Exists _); (refine ⟨_, ACall.of_pure (by assumption) (by rfl) ⟨rfl, rfl⟩, ?_⟩); conv => whnf) | ((with_reducible show ∃ L, drawR L _ = true ∧ _); (refine ⟨[], by kernel_rfl, ?_⟩); conv => whnf) | ((with_reducible show _ ∧ _ ∧ _); (refine ⟨by omega, by omega, ?_⟩); conv => whnf) | fail)
  all_goals first
    | rfl
    | (exfalso; omega)
end Go.Proofs.Ytlmdacgkaailiaa
end

section
/- wire: the statement on reading. -/
namespace Go.Proofs.Ytlmdacgkaailiaa
open Go.Ve

def Cells8 (es : List (List AV)) : Prop := ∀ c ∈ es, ∃ n : Int, c = [.int .u8 n]
theorem cells8_bcl (l : Bs) : Cells8 (bcl l) := fun c hc => by
  obtain ⟨b, _, rfl⟩ := List.mem_map.1 hc
  exact ⟨_, rfl⟩
theorem cells8_set {es : List (List AV)} (h : Cells8 es) (i : Nat) (n : Int) : Cells8 (es.set i [.int .u8 n]) := fun c hc => by
  rcases List.mem_or_eq_of_mem_set hc with h1 | h1
  · exact h c h1
  · exact ⟨n, h1⟩
set_option maxHeartbeats 8000000 in
theorem WireReads_ok (b : Bs) (l : List Pt) (hl : ∀ p ∈ l, PtOk p) : PCall P 4 [.sl (bcl b), .sl (lcl l)] (.bool true) := by
  have q1 := alive2_ok
  have hll := lcl_len l
  have hbl := bcl_len b
  have n1 := nMust_ok false
  have n2 := rErr_nil
  have n3 := nNum_ok 1
  have n4 := nText_ok 5
  have n5 := nRaw_ok 5
  have n6 := nLeft_ok
  have n7 := nWide_ok
  refine PCall.of_awp tok mixed fn4 (Nat.le_of_ble_eq_true rfl) ?_
  (conv => whnf); (repeat' first | ((with_reducible refine Box.mk ?_); conv => whnf) | ((with_reducible refine And.intro (fun _ => ?_) (fun _ => ?_)) <;> conv => whnf) | ((with_reducible show AYld _ _ _ _ _); (refine AYld.of tok mixed ?_); conv => whnf) | ((with_reducible show forceH _ _); (refine (forceH_eq _ _).mpr ?_); conv => whnf) | ((with_reducible show ACall _ _ _ _ _); (refine ACall.of_pure (by assumption) (by rfl) ?_); conv => whnf) | ((with_reducible show Exists _); (refine ⟨_, ACall.of_pure (by assumption) (by rfl) ⟨rfl, rfl⟩, ?_⟩); conv => whnf) | ((with_reducible show _ ∧ _ ∧ _); (refine ⟨by omega, by omega, ?_⟩); conv => whnf) | fail)
  · rfl
  · rename_i hb
    have hb5 : b.length ≤ 500 := by omega
    have c1 := from_own b (by omega)
    refine ⟨bcl_cells b, by rw [hbl]; show (0 + _) * 1 ≤ _; omega, by rw [hbl]; show 0 + _ ≤ _; omega, ?_⟩
    (conv => whnf); (repeat' first | ((with_reducible refine Box.mk ?_); conv => whnf) | ((with_reducible refine And.intro (fun _ => ?_) (fun _ => ?_)) <;> conv => whnf) | ((with_reducible show AYld _ _ _ _ _); (refine AYld.of tok mixed ?_); conv => whnf) | ((with_reducible show forceH _ _); (refine (forceH_eq _ _).mpr ?_); conv => whnf) | ((with_reducible show ACall _ _ _ _ _); (refine ACall.of_pure (by assumption) (by rfl) ?_); conv => whnf) | ((with_reducible show Exists _); (refine ⟨_, ACall.of_pure (by assumption) (by rfl) ⟨rfl, rfl⟩, ?_⟩); conv => whnf) | ((with_reducible show _ ∧ _ ∧ _); (refine ⟨by omega, by omega, ?_⟩); conv => whnf) | fail)
    refine aW [1] c1 rfl rfl rfl ?_
    (conv => whnf); (repeat' first | ((with_reducible refine Box.mk ?_); conv => whnf) | ((with_reducible refine And.intro (fun _ => ?_) (fun _ => ?_)) <;> conv => whnf) | ((with_reducible show AYld _ _ _ _ _); (refine AYld.of tok mixed ?_); conv => whnf) | ((with_reducible show forceH _ _); (refine (forceH_eq _ _).mpr ?_); conv => whnf) | ((with_reducible show ACall _ _ _ _ _); (refine ACall.of_pure (by assumption) (by rfl) ?_); conv => whnf) | ((with_reducible show Exists _); (refine ⟨_, ACall.of_pure (by assumption) (by rfl) ⟨rfl, rfl⟩, ?_⟩); conv => whnf) | ((with_reducible show _ ∧ _ ∧ _); (refine ⟨by omega, by omega, ?_⟩); conv => whnf) | fail)
    refine aloop (fun x : Nat × List (List AV) => x.1 ≤ b.length ∧ x.2.length = b.length ∧ Cells8 x.2) (fun x => ⟨envL [(0, .sl (bcl b)), (1, .sl (lcl l)), (5, .own 0), (6, .ptr 1 0), (7, .ptr 2 0), (8, .int .i64 x.1)], .row 5 1 x.2 :: (rH b 0 ++ xH [] b 0)⟩) (fun x => b.length - x.1) (0, bcl b) ⟨Nat.zero_le _, hbl, cells8_bcl b⟩
      (weak_ren_to [(1, true), (2, true), (3, true)] rfl rfl rfl ⟨rfl, rfl, rfl, rfl, rfl, rfl, trivial⟩) ?_
    rintro ⟨k, es⟩ ⟨hk, hes, hc8⟩
    have hk : k ≤ b.length := hk
    have hes : es.length = b.length := hes
    have hc8 : Cells8 es := hc8
    (conv => whnf); (repeat' first | ((with_reducible refine Box.mk ?_); conv => whnf) | ((with_reducible refine And.intro (fun _ => ?_) (fun _ => ?_)) <;> conv => whnf) | ((with_reducible show AYld _ _ _ _ _); (refine AYld.of tok mixed ?_); conv => whnf) | ((with_reducible show forceH _ _); (refine (forceH_eq _ _).mpr ?_); conv => whnf) | ((with_reducible show ACall _ _ _ _ _); (refine ACall.of_pure (by assumption) (by rfl) ?_); conv => whnf) | ((with_reducible show Exists _); (refine ⟨_, ACall.of_pure (by assumption) (by rfl) ⟨rfl, rfl⟩, ?_⟩); conv => whnf) | ((with_reducible show _ ∧ _ ∧ _); (refine ⟨by omega, by omega, ?_⟩); conv => whnf) | fail)
    · rename_i hlt
      have hlt : (k : Int) < (es.length : Int) := hlt
      have hke : k < es.length := by omega
      have hg0 : es[k]? = some es[k] := List.getElem?_eq_getElem hke
      obtain ⟨n, hn⟩ := hc8 _ (List.getElem_mem hke)
      rw [hn] at hg0
      have hg : es[((k : Nat) : Int).toNat]? = some [.int .u8 n] := by rw [Int.toNat_natCast]; exact hg0
      refine ⟨_, hg, ?_⟩
      (conv => whnf); (repeat' first | ((with_reducible refine Box.mk ?_); conv => whnf) | ((with_reducible refine And.intro (fun _ => ?_) (fun _ => ?_)) <;> conv => whnf) | ((with_reducible show AYld _ _ _ _ _); (refine AYld.of tok mixed ?_); conv => whnf) | ((with_reducible show forceH _ _); (refine (forceH_eq _ _).mpr ?_); conv => whnf) | ((with_reducible show ACall _ _ _ _ _); (refine ACall.of_pure (by assumption) (by rfl) ?_); conv => whnf) | ((with_reducible show Exists _); (refine ⟨_, ACall.of_pure (by assumption) (by rfl) ⟨rfl, rfl⟩, ?_⟩); conv => whnf) | ((with_reducible show _ ∧ _ ∧ _); (refine ⟨by omega, by omega, ?_⟩); conv => whnf) | fail)
      refine ⟨_, hg, ?_⟩
      (conv => whnf); (repeat' first | ((with_reducible refine Box.mk ?_); conv => whnf) | ((with_reducible refine And.intro (fun _ => ?_) (fun _ => ?_)) <;> conv => whnf) | ((with_reducible show AYld _ _ _ _ _); (refine AYld.of tok mixed ?_); conv => whnf) | ((with_reducible show forceH _ _); (refine (forceH_eq _ _).mpr ?_); conv => whnf) | ((with_reducible show ACall _ _ _ _ _); (refine ACall.of_pure (by assumption) (by rfl) ?_); conv => whnf) | ((with_reducible show Exists _); (refine ⟨_, ACall.of_pure (by assumption) (by rfl) ⟨rfl, rfl⟩, ?_⟩); conv => whnf) | ((with_reducible show _ ∧ _ ∧ _); (refine ⟨by omega, by omega, ?_⟩); conv => whnf) | fail)
      refine ⟨(k + 1, es.set k [.int .u8 (bits .xor .u8 n 255)]), ⟨by show k + 1 ≤ _; omega, by show (es.set _ _).length = _; rw [List.length_set]; exact hes, cells8_set hc8 _ _⟩, by show b.length - (k + 1) < b.length - k; omega, weak_to ⟨rfl, rfl, rfl, rfl, rfl, wrap_nat (m := 1) (by omega), trivial⟩ rfl⟩
    · clear c1 hk hes hc8
      refine aloop (fun x : Nat × Bs × Bs × Int => x.1 ≤ l.length ∧ x.2.1 ++ x.2.2.1 = b) (fun x => ⟨envL [(0, .sl (bcl b)), (1, .sl (lcl l)), (6, .ptr 0 0), (7, .ptr 1 0), (9, .int .i64 x.1)], rH x.2.2.1 x.2.2.2 ++ xH x.2.1 x.2.2.1 x.2.2.2⟩) (fun x => l.length - x.1) (0, [], b, 0) ⟨Nat.zero_le _, rfl⟩
        (weak_ren_to [(1, true), (2, true)] rfl rfl rfl ⟨rfl, rfl, rfl, rfl, rfl, trivial⟩) ?_
      rintro ⟨i, pre, bs, e⟩ ⟨hi, hpb⟩
      have hi : i ≤ l.length := hi
      have hpb : pre ++ bs = b := hpb
      have hlen : (pre ++ bs).length ≤ 1000000000 := by rw [hpb]; omega
      by_cases hil : i < l.length ∧ i < 30
      · have hg0 : l[i]? = some l[i] := List.getElem?_eq_getElem hil.1
        have hg := lcl_get hg0
        have hp := hl _ (List.getElem_mem hil.1)
        have q2 := great_ok l[i] hp
        have q5 := read_ok l[i] pre bs e hlen
        have hst := stepR_app l[i] bs e
        generalize l[i] = p at *
        have hlen2 : ((pre ++ preR p bs e) ++ (stepR p bs e).1).length ≤ 1000000000 := by rw [List.append_assoc, hst]; exact hlen
        have a1 := rErr_ok (stepR p bs e).1 (stepR p bs e).2
        have a2 := rEnd_ok (stepR p bs e).1 (stepR p bs e).2
        have a3 := rLeft_ok (stepR p bs e).1 (stepR p bs e).2
        have b2 := xEnd_ok (pre ++ preR p bs e) (stepR p bs e).1 (stepR p bs e).2 hlen2
        have b3 := xLeft_ok (pre ++ preR p bs e) (stepR p bs e).1 (stepR p bs e).2 hlen2
        generalize hs1 : (stepR p bs e).1 = bs' at *
        generalize hs2 : (stepR p bs e).2 = e' at *
        generalize hs3 : preR p bs e = x at *
        have hbb : ptc p = [.int .i64 p.kind, .int .i64 p.i, .int .u64 p.n, .int .u64 p.hi, .int .u64 p.lo, .str p.s, .nils] ∨ ptc p = [.int .i64 p.kind, .int .i64 p.i, .int .u64 p.n, .int .u64 p.hi, .int .u64 p.lo, .str p.s, .sl (bcl p.b)] := by
          cases h : p.bn
          · refine .inr ?_
            unfold ptc bv; rw [h]; rfl
          · refine .inl ?_
            unfold ptc bv; rw [h]; rfl
        unfold ptv at q2 q5
        rcases hbb with hpc | hpc
        all_goals (
          rw [hpc] at hg q2 q5
          generalize greatP p = gr at *
          cases gr
          · (conv => whnf); (repeat' first | ((with_reducible refine Box.mk ?_); conv => whnf) | ((with_reducible refine And.intro (fun _ => ?_) (fun _ => ?_)) <;> conv => whnf) | ((with_reducible show AYld _ _ _ _ _); (refine AYld.of tok mixed ?_); conv => whnf) | ((with_reducible show forceH _ _); (refine (forceH_eq _ _).mpr ?_); conv => whnf) | ((with_reducible show ACall _ _ _ _ _); (refine ACall.of_pure (by assumption) (by rfl) ?_); conv => whnf) | ((with_reducible show Exists _); (refine ⟨_, ACall.of_pure (by assumption) (by rfl) ⟨rfl, rfl⟩, ?_⟩); conv => whnf) | ((with_reducible show _ ∧ _ ∧ _); (refine ⟨by omega, by omega, ?_⟩); conv => whnf) | fail)
            all_goals try (exfalso; omega)
            refine ⟨by omega, _, hg, rfl, ?_⟩
            (conv => whnf); (repeat' first | ((with_reducible refine Box.mk ?_); conv => whnf) | ((with_reducible refine And.intro (fun _ => ?_) (fun _ => ?_)) <;> conv => whnf) | ((with_reducible show AYld _ _ _ _ _); (refine AYld.of tok mixed ?_); conv => whnf) | ((with_reducible show forceH _ _); (refine (forceH_eq _ _).mpr ?_); conv => whnf) | ((with_reducible show ACall _ _ _ _ _); (refine ACall.of_pure (by assumption) (by rfl) ?_); conv => whnf) | ((with_reducible show Exists _); (refine ⟨_, ACall.of_pure (by assumption) (by rfl) ⟨rfl, rfl⟩, ?_⟩); conv => whnf) | ((with_reducible show _ ∧ _ ∧ _); (refine ⟨by omega, by omega, ?_⟩); conv => whnf) | fail)
            all_goals try contradiction
            refine ⟨[(2006, [])], by kernel_rfl, ?_⟩
            (conv => whnf); (repeat' first | ((with_reducible refine Box.mk ?_); conv => whnf) | ((with_reducible refine And.intro (fun _ => ?_) (fun _ => ?_)) <;> conv => whnf) | ((with_reducible show AYld _ _ _ _ _); (refine AYld.of tok mixed ?_); conv => whnf) | ((with_reducible show forceH _ _); (refine (forceH_eq _ _).mpr ?_); conv => whnf) | ((with_reducible show ACall _ _ _ _ _); (refine ACall.of_pure (by assumption) (by rfl) ?_); conv => whnf) | ((with_reducible show Exists _); (refine ⟨_, ACall.of_pure (by assumption) (by rfl) ⟨rfl, rfl⟩, ?_⟩); conv => whnf) | ((with_reducible show _ ∧ _ ∧ _); (refine ⟨by omega, by omega, ?_⟩); conv => whnf) | fail)
            refine ⟨by omega, _, hg, rfl, ?_⟩
            (conv => whnf); (repeat' first | ((with_reducible refine Box.mk ?_); conv => whnf) | ((with_reducible refine And.intro (fun _ => ?_) (fun _ => ?_)) <;> conv => whnf) | ((with_reducible show AYld _ _ _ _ _); (refine AYld.of tok mixed ?_); conv => whnf) | ((with_reducible show forceH _ _); (refine (forceH_eq _ _).mpr ?_); conv => whnf) | ((with_reducible show ACall _ _ _ _ _); (refine ACall.of_pure (by assumption) (by rfl) ?_); conv => whnf) | ((with_reducible show Exists _); (refine ⟨_, ACall.of_pure (by assumption) (by rfl) ⟨rfl, rfl⟩, ?_⟩); conv => whnf) | ((with_reducible show _ ∧ _ ∧ _); (refine ⟨by omega, by omega, ?_⟩); conv => whnf) | fail)
            refine aDw [0, 1] q5 rfl rfl rfl ?_
            (conv => whnf); (repeat' first | ((with_reducible refine Box.mk ?_); conv => whnf) | ((with_reducible refine And.intro (fun _ => ?_) (fun _ => ?_)) <;> conv => whnf) | ((with_reducible show AYld _ _ _ _ _); (refine AYld.of tok mixed ?_); conv => whnf) | ((with_reducible show forceH _ _); (refine (forceH_eq _ _).mpr ?_); conv => whnf) | ((with_reducible show ACall _ _ _ _ _); (refine ACall.of_pure (by assumption) (by rfl) ?_); conv => whnf) | ((with_reducible show Exists _); (refine ⟨_, ACall.of_pure (by assumption) (by rfl) ⟨rfl, rfl⟩, ?_⟩); conv => whnf) | ((with_reducible show _ ∧ _ ∧ _); (refine ⟨by omega, by omega, ?_⟩); conv => whnf) | fail)
            refine aDr [0] a1 rfl rfl rfl rfl ?_
            (conv => whnf); (repeat' first | ((with_reducible refine Box.mk ?_); conv => whnf) | ((with_reducible refine And.intro (fun _ => ?_) (fun _ => ?_)) <;> conv => whnf) | ((with_reducible show AYld _ _ _ _ _); (refine AYld.of tok mixed ?_); conv => whnf) | ((with_reducible show forceH _ _); (refine (forceH_eq _ _).mpr ?_); conv => whnf) | ((with_reducible show ACall _ _ _ _ _); (refine ACall.of_pure (by assumption) (by rfl) ?_); conv => whnf) | ((with_reducible show Exists _); (refine ⟨_, ACall.of_pure (by assumption) (by rfl) ⟨rfl, rfl⟩, ?_⟩); conv => whnf) | ((with_reducible show _ ∧ _ ∧ _); (refine ⟨by omega, by omega, ?_⟩); conv => whnf) | fail)
            all_goals try (rename_i hbad; exact absurd rfl hbad)
            refine aDr [0] a2 rfl rfl rfl rfl ?_
            (conv => whnf); (repeat' first | ((with_reducible refine Box.mk ?_); conv => whnf) | ((with_reducible refine And.intro (fun _ => ?_) (fun _ => ?_)) <;> conv => whnf) | ((with_reducible show AYld _ _ _ _ _); (refine AYld.of tok mixed ?_); conv => whnf) | ((with_reducible show forceH _ _); (refine (forceH_eq _ _).mpr ?_); conv => whnf) | ((with_reducible show ACall _ _ _ _ _); (refine ACall.of_pure (by assumption) (by rfl) ?_); conv => whnf) | ((with_reducible show Exists _); (refine ⟨_, ACall.of_pure (by assumption) (by rfl) ⟨rfl, rfl⟩, ?_⟩); conv => whnf) | ((with_reducible show _ ∧ _ ∧ _); (refine ⟨by omega, by omega, ?_⟩); conv => whnf) | fail)
            refine aDr [1] b2 rfl rfl rfl rfl ?_
            (conv => whnf); (repeat' first | ((with_reducible refine Box.mk ?_); conv => whnf) | ((with_reducible refine And.intro (fun _ => ?_) (fun _ => ?_)) <;> conv => whnf) | ((with_reducible show AYld _ _ _ _ _); (refine AYld.of tok mixed ?_); conv => whnf) | ((with_reducible show forceH _ _); (refine (forceH_eq _ _).mpr ?_); conv => whnf) | ((with_reducible show ACall _ _ _ _ _); (refine ACall.of_pure (by assumption) (by rfl) ?_); conv => whnf) | ((with_reducible show Exists _); (refine ⟨_, ACall.of_pure (by assumption) (by rfl) ⟨rfl, rfl⟩, ?_⟩); conv => whnf) | ((with_reducible show _ ∧ _ ∧ _); (refine ⟨by omega, by omega, ?_⟩); conv => whnf) | fail)
            all_goals try (rename_i hbad; exact absurd rfl hbad)
            refine aDr [0] a3 rfl rfl rfl rfl ?_
            (conv => whnf); (repeat' first | ((with_reducible refine Box.mk ?_); conv => whnf) | ((with_reducible refine And.intro (fun _ => ?_) (fun _ => ?_)) <;> conv => whnf) | ((with_reducible show AYld _ _ _ _ _); (refine AYld.of tok mixed ?_); conv => whnf) | ((with_reducible show forceH _ _); (refine (forceH_eq _ _).mpr ?_); conv => whnf) | ((with_reducible show ACall _ _ _ _ _); (refine ACall.of_pure (by assumption) (by rfl) ?_); conv => whnf) | ((with_reducible show Exists _); (refine ⟨_, ACall.of_pure (by assumption) (by rfl) ⟨rfl, rfl⟩, ?_⟩); conv => whnf) | ((with_reducible show _ ∧ _ ∧ _); (refine ⟨by omega, by omega, ?_⟩); conv => whnf) | fail)
            refine aDr [1] b3 rfl rfl rfl rfl ?_
            (conv => whnf); (repeat' first | ((with_reducible refine Box.mk ?_); conv => whnf) | ((with_reducible refine And.intro (fun _ => ?_) (fun _ => ?_)) <;> conv => whnf) | ((with_reducible show AYld _ _ _ _ _); (refine AYld.of tok mixed ?_); conv => whnf) | ((with_reducible show forceH _ _); (refine (forceH_eq _ _).mpr ?_); conv => whnf) | ((with_reducible show ACall _ _ _ _ _); (refine ACall.of_pure (by assumption) (by rfl) ?_); conv => whnf) | ((with_reducible show Exists _); (refine ⟨_, ACall.of_pure (by assumption) (by rfl) ⟨rfl, rfl⟩, ?_⟩); conv => whnf) | ((with_reducible show _ ∧ _ ∧ _); (refine ⟨by omega, by omega, ?_⟩); conv => whnf) | fail)
            all_goals try (rename_i hbad; exact absurd rfl hbad)
            exact ⟨(i + 1, pre ++ x, bs', e'), ⟨hil.1, by show (pre ++ x) ++ bs' = b; rw [List.append_assoc, hst, hpb]⟩, by show l.length - (i + 1) < l.length - i; omega, weak_ren_to [(0, true), (1, true)] rfl rfl rfl ⟨rfl, rfl, rfl, rfl, wrap_nat (m := 1) (by omega), trivial⟩⟩
          · (conv => whnf); (repeat' first | ((with_reducible refine Box.mk ?_); conv => whnf) | ((with_reducible refine And.intro (fun _ => ?_) (fun _ => ?_)) <;> conv => whnf) | ((with_reducible show AYld _ _ _ _ _); (refine AYld.of tok mixed ?_); conv => whnf) | ((with_reducible show forceH _ _); (refine (forceH_eq _ _).mpr ?_); conv => whnf) | ((with_reducible show ACall _ _ _ _ _); (refine ACall.of_pure (by assumption) (by rfl) ?_); conv => whnf) | ((with_reducible show Exists _); (refine ⟨_, ACall.of_pure (by assumption) (by rfl) ⟨rfl, rfl⟩, ?_⟩); conv => whnf) | ((with_reducible show _ ∧ _ ∧ _); (refine ⟨by omega, by omega, ?_⟩); conv => whnf) | fail)
            all_goals try (exfalso; omega)
            refine ⟨by omega, _, hg, rfl, ?_⟩
            (conv => whnf); (repeat' first | ((with_reducible refine Box.mk ?_); conv => whnf) | ((with_reducible refine And.intro (fun _ => ?_) (fun _ => ?_)) <;> conv => whnf) | ((with_reducible show AYld _ _ _ _ _); (refine AYld.of tok mixed ?_); conv => whnf) | ((with_reducible show forceH _ _); (refine (forceH_eq _ _).mpr ?_); conv => whnf) | ((with_reducible show ACall _ _ _ _ _); (refine ACall.of_pure (by assumption) (by rfl) ?_); conv => whnf) | ((with_reducible show Exists _); (refine ⟨_, ACall.of_pure (by assumption) (by rfl) ⟨rfl, rfl⟩, ?_⟩); conv => whnf) | ((with_reducible show _ ∧ _ ∧ _); (refine ⟨by omega, by omega, ?_⟩); conv => whnf) | fail)
            all_goals first
              | rfl
              | contradiction)
      · (conv => whnf); (repeat' first | ((with_reducible refine Box.mk ?_); conv => whnf) | ((with_reducible refine And.intro (fun _ => ?_) (fun _ => ?_)) <;> conv => whnf) | ((with_reducible show AYld _ _ _ _ _); (refine AYld.of tok mixed ?_); conv => whnf) | ((with_reducible show forceH _ _); (refine (forceH_eq _ _).mpr ?_); conv => whnf) | ((with_reducible show ACall _ _ _ _ _); (refine ACall.of_pure (by assumption) (by rfl) ?_); conv => whnf) | ((with_reducible show Exists _); (refine ⟨_, ACall.of_pure (by assumption) (by rfl) ⟨rfl, rfl⟩, ?_⟩); conv => whnf) | ((with_reducible show _ ∧ _ ∧ _); (refine ⟨by omega, by omega, ?_⟩); conv => whnf) | fail)
        all_goals try (exfalso; omega)
        all_goals (
          refine aW [2] (zMust_ok true) rfl rfl rfl ?_
          (conv => whnf); (repeat' first | ((with_reducible refine Box.mk ?_); conv => whnf) | ((with_reducible refine And.intro (fun _ => ?_) (fun _ => ?_)) <;> conv => whnf) | ((with_reducible show AYld _ _ _ _ _); (refine AYld.of tok mixed ?_); conv => whnf) | ((with_reducible show forceH _ _); (refine (forceH_eq _ _).mpr ?_); conv => whnf) | ((with_reducible show ACall _ _ _ _ _); (refine ACall.of_pure (by assumption) (by rfl) ?_); conv => whnf) | ((with_reducible show Exists _); (refine ⟨_, ACall.of_pure (by assumption) (by rfl) ⟨rfl, rfl⟩, ?_⟩); conv => whnf) | ((with_reducible show _ ∧ _ ∧ _); (refine ⟨by omega, by omega, ?_⟩); conv => whnf) | fail)
          all_goals try (rename_i hbad; exact absurd rfl hbad)
          refine aW [2] zEnd_ok rfl rfl rfl ?_
          (conv => whnf); (repeat' first | ((with_reducible refine Box.mk ?_); conv => whnf) | ((with_reducible refine And.intro (fun _ => ?_) (fun _ => ?_)) <;> conv => whnf) | ((with_reducible show AYld _ _ _ _ _); (refine AYld.of tok mixed ?_); conv => whnf) | ((with_reducible show forceH _ _); (refine (forceH_eq _ _).mpr ?_); conv => whnf) | ((with_reducible show ACall _ _ _ _ _); (refine ACall.of_pure (by assumption) (by rfl) ?_); conv => whnf) | ((with_reducible show Exists _); (refine ⟨_, ACall.of_pure (by assumption) (by rfl) ⟨rfl, rfl⟩, ?_⟩); conv => whnf) | ((with_reducible show _ ∧ _ ∧ _); (refine ⟨by omega, by omega, ?_⟩); conv => whnf) | fail)
          all_goals try (rename_i hbad; exact absurd rfl hbad)
          refine aW [2] (zNum_ok 8) rfl rfl rfl ?_
          (conv => whnf); (repeat' first | ((with_reducible refine Box.mk ?_); conv => whnf) | ((with_reducible refine And.intro (fun _ => ?_) (fun _ => ?_)) <;> conv => whnf) | ((with_reducible show AYld _ _ _ _ _); (refine AYld.of tok mixed ?_); conv => whnf) | ((with_reducible show forceH _ _); (refine (forceH_eq _ _).mpr ?_); conv => whnf) | ((with_reducible show ACall _ _ _ _ _); (refine ACall.of_pure (by assumption) (by rfl) ?_); conv => whnf) | ((with_reducible show Exists _); (refine ⟨_, ACall.of_pure (by assumption) (by rfl) ⟨rfl, rfl⟩, ?_⟩); conv => whnf) | ((with_reducible show _ ∧ _ ∧ _); (refine ⟨by omega, by omega, ?_⟩); conv => whnf) | fail)
          all_goals try (rename_i hbad; exact absurd rfl hbad)
          refine aW [2] (zText_ok 5) rfl rfl rfl ?_
          (conv => whnf); (repeat' first | ((with_reducible refine Box.mk ?_); conv => whnf) | ((with_reducible refine And.intro (fun _ => ?_) (fun _ => ?_)) <;> conv => whnf) | ((with_reducible show AYld _ _ _ _ _); (refine AYld.of tok mixed ?_); conv => whnf) | ((with_reducible show forceH _ _); (refine (forceH_eq _ _).mpr ?_); conv => whnf) | ((with_reducible show ACall _ _ _ _ _); (refine ACall.of_pure (by assumption) (by rfl) ?_); conv => whnf) | ((with_reducible show Exists _); (refine ⟨_, ACall.of_pure (by assumption) (by rfl) ⟨rfl, rfl⟩, ?_⟩); conv => whnf) | ((with_reducible show _ ∧ _ ∧ _); (refine ⟨by omega, by omega, ?_⟩); conv => whnf) | fail)
          refine ⟨Nat.le_of_ble_eq_true rfl, ?_⟩
          (conv => whnf); (repeat' first | ((with_reducible refine Box.mk ?_); conv => whnf) | ((with_reducible refine And.intro (fun _ => ?_) (fun _ => ?_)) <;> conv => whnf) | ((with_reducible show AYld _ _ _ _ _); (refine AYld.of tok mixed ?_); conv => whnf) | ((with_reducible show forceH _ _); (refine (forceH_eq _ _).mpr ?_); conv => whnf) | ((with_reducible show ACall _ _ _ _ _); (refine ACall.of_pure (by assumption) (by rfl) ?_); conv => whnf) | ((with_reducible show Exists _); (refine ⟨_, ACall.of_pure (by assumption) (by rfl) ⟨rfl, rfl⟩, ?_⟩); conv => whnf) | ((with_reducible show _ ∧ _ ∧ _); (refine ⟨by omega, by omega, ?_⟩); conv => whnf) | fail)
          all_goals try (rename_i hbad; exact absurd rfl hbad)
          refine aW [2] (zRaw_ok 5) rfl rfl rfl ?_
          (conv => whnf); (repeat' first | ((with_reducible refine Box.mk ?_); conv => whnf) | ((with_reducible refine And.intro (fun _ => ?_) (fun _ => ?_)) <;> conv => whnf) | ((with_reducible show AYld _ _ _ _ _); (refine AYld.of tok mixed ?_); conv => whnf) | ((with_reducible show forceH _ _); (refine (forceH_eq _ _).mpr ?_); conv => whnf) | ((with_reducible show ACall _ _ _ _ _); (refine ACall.of_pure (by assumption) (by rfl) ?_); conv => whnf) | ((with_reducible show Exists _); (refine ⟨_, ACall.of_pure (by assumption) (by rfl) ⟨rfl, rfl⟩, ?_⟩); conv => whnf) | ((with_reducible show _ ∧ _ ∧ _); (refine ⟨by omega, by omega, ?_⟩); conv => whnf) | fail)
          refine aW [2] zLeft_ok rfl rfl rfl ?_
          (conv => whnf); (repeat' first | ((with_reducible refine Box.mk ?_); conv => whnf) | ((with_reducible refine And.intro (fun _ => ?_) (fun _ => ?_)) <;> conv => whnf) | ((with_reducible show AYld _ _ _ _ _); (refine AYld.of tok mixed ?_); conv => whnf) | ((with_reducible show forceH _ _); (refine (forceH_eq _ _).mpr ?_); conv => whnf) | ((with_reducible show ACall _ _ _ _ _); (refine ACall.of_pure (by assumption) (by rfl) ?_); conv => whnf) | ((with_reducible show Exists _); (refine ⟨_, ACall.of_pure (by assumption) (by rfl) ⟨rfl, rfl⟩, ?_⟩); conv => whnf) | ((with_reducible show _ ∧ _ ∧ _); (refine ⟨by omega, by omega, ?_⟩); conv => whnf) | fail)
          all_goals try (rename_i hbad; exact absurd rfl hbad)
          all_goals first
            | rfl
            | (rename_i hbad; exact absurd (⟨rfl, rfl⟩ : _ ∧ _) hbad))
end Go.Proofs.Ytlmdacgkaailiaa
end

section
/- wire: what was written is read (plain). -/
namespace Go.Proofs.Ytlmdacgkaailiaa
open Go.Ve

theorem rawF_full {x R : Bs} {n : Int} (h : (x.length : Int) = n) : rawF n (x ++ R) 0 = (x, R, 0) := by
  unfold rawF
  have h0 : mustE 0 (decide (0 ≤ n)) = 0 := by rw [decide_eq_true (by omega)]; rfl
  rw [if_neg (fun hc => hc h0), if_neg (by rw [List.length_append]; omega), ← h, Int.toNat_natCast, List.take_left, List.drop_left]
theorem rawF_short {bs : Bs} {n : Int} (h : (bs.length : Int) < n) : rawF n bs 0 = ([], bs, 8) := by
  unfold rawF
  have h0 : mustE 0 (decide (0 ≤ n)) = 0 := by rw [decide_eq_true (by omega)]; rfl
  rw [if_neg (fun hc => hc h0), if_pos h]
theorem must_err {e : Int} (he : e ≠ 0) (b : Bool) : mustE e b = e := by
  unfold mustE; rw [if_neg (fun h => he h.1)]
theorem rawF_err {bs : Bs} {n e : Int} (he : e ≠ 0) : rawF n bs e = ([], bs, e) := by
  unfold rawF
  rw [must_err he, if_pos he]
theorem numB_mod (n : Nat) : ∀ k, valB (numB n k) = n % 256 ^ k
  | 0 => by rw [Nat.pow_zero, Nat.mod_one]; rfl
  | k + 1 => by
    have ih := numB_mod n k
    have h : valB (numB n (k + 1)) = (n / 256 ^ k % 256) * 256 ^ k + valB (numB n k) := by
      have := valB_app [UInt8.ofNat (n / 256 ^ k)] (numB n k)
      rw [numB_len] at this
      exact this.trans (by
        congr 2
        show 0 * 256 + (n / 256 ^ k % 256) = _
        omega)
    rw [h, ih, Nat.pow_succ, Nat.mod_mul, Nat.mul_comm (256 ^ k), Nat.add_comm]
theorem numB_again (n : Nat) : ∀ k j, k ≤ j → numB (n % 256 ^ j) k = numB n k
  | 0, _, _ => rfl
  | k + 1, j, h => by
    unfold numB
    rw [numB_again n k j (by omega)]
    congr 1
    have hj : 256 ^ j = 256 ^ k * 256 ^ (j - k) := by rw [← Nat.pow_add]; congr 1; omega
    have h1 : n % 256 ^ j / 256 ^ k = n / 256 ^ k % 256 ^ (j - k) := by rw [hj, Nat.mod_mul_right_div_self]
    rw [h1]
    have hd : 256 ∣ 256 ^ (j - k) := by
      obtain ⟨d, hd⟩ : ∃ d, j - k = d + 1 := ⟨j - k - 1, by omega⟩
      rw [hd, Nat.pow_succ]; exact Nat.dvd_mul_left _ _
    have : UInt8.ofNat (n / 256 ^ k % 256 ^ (j - k)) = UInt8.ofNat (n / 256 ^ k) := by
      apply UInt8.toNat_inj.1
      show n / 256 ^ k % 256 ^ (j - k) % 256 = n / 256 ^ k % 256
      exact Nat.mod_mod_of_dvd _ hd
    exact this
/-- A part that the statement takes. -/
structure GoodP (p : Pt) : Prop where
  ok : PtOk p
  great : greatP p = false
  k0 : 0 ≤ p.kind
  k3 : p.kind ≤ 3
  s : p.s.length ≤ 300
/-- A part is read: its bytes; what is left; the fault. -/
def stepB (p : Pt) (bs : Bs) (e : Int) : Bs × Bs × Int :=
  if p.kind = 0 then rawF (szN p.i : Nat) bs e else if p.kind = 1 then rawF 16 bs e else if p.kind = 2 then textF 300 bs e else rawF (p.b.length : Nat) bs e
/-- What is read of a part: without a text's length. -/
def readB (p : Pt) : Bs := if p.kind = 2 then p.s else partB p
theorem textB_short {s : Bs} (h : s.length ≤ 300) : textB s = numB s.length 2 ++ s := by
  unfold textB
  rw [List.take_of_length_le (by omega)]
theorem text_val {s : Bs} (h : s.length ≤ 300) : valB (numB s.length 2) = s.length := by
  rw [numB_mod, Nat.mod_eq_of_lt]
  exact Nat.lt_of_le_of_lt h (by decide)
theorem stepB_full {p : Pt} (hp : GoodP p) (R : Bs) : stepB p (partB p ++ R) 0 = (readB p, R, 0) := by
  unfold stepB readB partB
  split
  · rename_i h0
    rw [if_neg (by omega)]
    exact rawF_full (by rw [numB_len])
  · split
    · rename_i h0 h1
      rw [if_neg (by omega)]
      exact rawF_full (by rw [List.length_append, numB_len, numB_len]; rfl)
    · split
      · rename_i h0 h1 h2
        have hs := hp.s
        rw [textB_short hs, List.append_assoc]
        unfold textF
        rw [rawF_full (x := numB p.s.length 2) (by rw [numB_len]; rfl)]
        show rawF ((valB (numB p.s.length 2) : Nat) : Int) (p.s ++ R) (mustE 0 (decide (((valB (numB p.s.length 2) : Nat) : Int) ≤ 300))) = _
        rw [text_val hs, decide_eq_true (by omega)]
        exact rawF_full rfl
      · rename_i h0 h1 h2
        have := hp.k0
        have := hp.k3
        rw [if_pos (by omega)]
        exact rawF_full rfl
theorem stepB_err {p : Pt} {bs : Bs} {e : Int} (he : e ≠ 0) : (stepB p bs e).2 = (bs, e) := by
  unfold stepB
  split
  · rw [rawF_err he]
  · split
    · rw [rawF_err he]
    · split
      · unfold textF
        rw [rawF_err (n := 2) he]
        show (rawF _ bs (mustE e _)).2 = _
        rw [must_err he, rawF_err he]
      · rw [rawF_err he]
theorem stepB_short {p : Pt} (hp : GoodP p) {R : Bs} {c : Nat} (hc : c < (partB p).length) : (stepB p ((partB p ++ R).take c) 0).2.2 = 8 := by
  have hl : ((partB p ++ R).take c).length = c := by rw [List.length_take, List.length_append]; omega
  unfold stepB
  unfold partB at hc hl ⊢
  split
  · rename_i h0
    rw [if_pos h0] at hc hl
    rw [numB_len] at hc
    rw [rawF_short (by omega)]
  · split
    · rename_i h0 h1
      rw [if_neg h0, if_pos h1] at hc hl
      rw [List.length_append, numB_len, numB_len] at hc
      rw [rawF_short (by omega)]
    · split
      · rename_i h0 h1 h2
        rw [if_neg h0, if_neg h1, if_pos h2] at hc hl
        have hs := hp.s
        rw [textB_short hs] at hc hl ⊢
        rw [List.length_append, numB_len] at hc
        unfold textF
        by_cases h : c < 2
        · rw [rawF_short (n := 2) (by omega)]
          show (rawF _ _ (mustE 8 _)).2.2 = 8
          rw [must_err (by decide), rawF_err (by decide)]
        · have e1 : (numB p.s.length 2 ++ p.s ++ R).take c = numB p.s.length 2 ++ (p.s ++ R).take (c - 2) := by
            rw [List.append_assoc, List.take_append, numB_len, List.take_of_length_le (by rw [numB_len]; omega)]
          rw [e1, rawF_full (x := numB p.s.length 2) (by rw [numB_len]; rfl)]
          show (rawF ((valB (numB p.s.length 2) : Nat) : Int) _ (mustE 0 (decide (((valB (numB p.s.length 2) : Nat) : Int) ≤ 300)))).2.2 = 8
          rw [text_val hs, decide_eq_true (by omega), show mustE 0 true = 0 from rfl, rawF_short (by rw [List.length_take, List.length_append]; omega)]
      · rename_i h0 h1 h2
        have := hp.k0
        have := hp.k3
        rw [if_neg h0, if_neg h1, if_neg h2, if_pos (by omega)] at hc hl
        rw [if_pos (by omega), rawF_short (by omega)]
/-- The parts' bytes, one behind the other. -/
def catB (l : List Pt) : Bs := l.flatMap partB
theorem catB_take {l : List Pt} {i : Nat} {p : Pt} (h : l[i]? = some p) : catB (l.take (i + 1)) = catB (l.take i) ++ partB p := by
  unfold catB
  rw [List.take_add_one, h, List.flatMap_append]
  simp
theorem catB_drop {l : List Pt} {i : Nat} {p : Pt} (h : l[i]? = some p) : catB (l.drop i) = partB p ++ catB (l.drop (i + 1)) := by
  unfold catB
  have hi := (List.getElem?_eq_some_iff.1 h).1
  have he := (List.getElem?_eq_some_iff.1 h).2
  rw [List.drop_eq_getElem_cons hi, he, List.flatMap_cons]
theorem catB_all (l : List Pt) (i : Nat) : catB (l.take i) ++ catB (l.drop i) = catB l := by
  unfold catB
  rw [← List.flatMap_append, List.take_append_drop]
theorem catB_len {l : List Pt} (h : ∀ p ∈ l, greatP p = false) : (catB l).length ≤ l.length * 66000 := by
  unfold catB
  induction l with
  | nil => exact Nat.zero_le _
  | cons p r ih =>
    have h1 := ih fun q hq => h q (List.mem_cons_of_mem _ hq)
    have h2 := part_len p (h p List.mem_cons_self)
    rw [List.flatMap_cons, List.length_append, List.length_cons]
    omega
end Go.Proofs.Ytlmdacgkaailiaa
end

section
/- wire: written, then read: the steps. -/
namespace Go.Proofs.Ytlmdacgkaailiaa
open Go.Ve

/-- What the four ways of reading and of writing again come to at a part that stands next. -/
structure Steps (p : Pt) (R cs : Bs) : Prop where
  a0 : p.kind = 0 → ∃ v : Nat, DCall P 19 [.ptr 0 0, .int .i64 p.i] (rH (partB p ++ R) 0) (.int .u64 v) (rH R 0) ∧ DCall P 10 [.ptr 0 0, .int .u64 v, .int .i64 p.i] (wH cs) (.ptr 0 0) (wP cs (cs ++ partB p))
  a1 : p.kind = 1 → ∃ v : Nat, DCall P 22 [.ptr 0 0] (rH (partB p ++ R) 0) (wv v) (rH R 0) ∧ DCall P 23 [.ptr 0 0, wv v] (wH cs) (.ptr 0 0) (wP cs (cs ++ partB p))
  a2 : p.kind = 2 → DCall P 20 [.ptr 0 0, .int .i64 300] (rH (partB p ++ R) 0) (.str p.s) (rH R 0) ∧ DCall P 24 [.ptr 0 0, .str p.s] (wH cs) (.ptr 0 0) (wP cs (cs ++ partB p))
  a3 : p.kind = 3 → DCall P 21 [.ptr 0 0, .int .i64 (p.b.length : Nat)] (rH (partB p ++ R) 0) (.sl (bcl p.b)) (rH R 0) ∧ DCall P 25 [.ptr 0 0, .sl (bcl p.b)] (wH cs) (.ptr 0 0) (wP cs (cs ++ partB p))
theorem steps_ok {p : Pt} (hp : GoodP p) {R cs : Bs} (hR : (partB p ++ R).length ≤ 1000000000) (hcs : cs.length ≤ 800000000) : Steps p R cs := by
  have hf := stepB_full hp R
  have hlb : p.b.length ≤ 300 := by have := of_decide_eq_false hp.great; omega
  refine ⟨fun h => ?_, fun h => ?_, fun h => ?_, fun h => ?_⟩
  · have hpb : partB p = numB p.n (szN p.i) := by unfold partB; rw [if_pos h]
    have hrb : readB p = partB p := by unfold readB; rw [if_neg (by omega)]
    have hs : stepB p (partB p ++ R) 0 = rawF (szN p.i : Nat) (partB p ++ R) 0 := by unfold stepB; rw [if_pos h]
    have q1 := rNum_ok (partB p ++ R) 0 p.i hR
    rw [← hs, hf, hrb] at q1
    refine ⟨valB (partB p), q1, ?_⟩
    have q2 := wNum_ok cs (by omega) (valB (partB p)) p.i
    rw [hpb, numB_mod, numB_again _ _ _ (Nat.le_refl _)] at q2
    rw [hpb, numB_mod]
    exact q2
  · have hpb : partB p = numB p.hi 8 ++ numB p.lo 8 := by unfold partB; rw [if_neg (by omega), if_pos h]
    have hrb : readB p = partB p := by unfold readB; rw [if_neg (by omega)]
    have hs : stepB p (partB p ++ R) 0 = rawF 16 (partB p ++ R) 0 := by unfold stepB; rw [if_neg (by omega), if_pos h]
    have q1 := rWide_ok (partB p ++ R) 0 hR
    rw [← hs, hf, hrb] at q1
    refine ⟨valB (partB p), q1, ?_⟩
    have e256 : (256 : Nat) ^ 8 = H64 := by rw [h64, show (256 : Nat) = 2 ^ 8 from rfl, ← Nat.pow_mul]
    have hv : valB (partB p) = p.hi * H64 + p.lo := by
      rw [hpb, valB_app, numB_len, numB_mod, numB_mod, e256, Nat.mod_eq_of_lt hp.ok.hi, Nat.mod_eq_of_lt hp.ok.lo]
    obtain ⟨_, e1, e2⟩ := wide_halves hp.ok.hi hp.ok.lo
    have q2 := wWide_ok cs (by omega) p.hi p.lo
    unfold wv
    rw [hv, e1, e2, hpb]
    exact q2
  · have hpb : partB p = textB p.s := by unfold partB; rw [if_neg (by omega), if_neg (by omega), if_pos h]
    have hrb : readB p = p.s := by unfold readB; rw [if_pos h]
    have hs : stepB p (partB p ++ R) 0 = textF 300 (partB p ++ R) 0 := by unfold stepB; rw [if_neg (by omega), if_neg (by omega), if_pos h]
    have q1 := rText_ok (partB p ++ R) 0 300 hR
    rw [← hs, hf, hrb] at q1
    have q2 := wText_ok cs (by omega) p.s
    rw [← hpb] at q2
    exact ⟨q1, q2⟩
  · have hpb : partB p = p.b := by unfold partB; rw [if_neg (by omega), if_neg (by omega), if_neg (by omega), if_pos h]
    have hrb : readB p = p.b := by unfold readB; rw [if_neg (by omega), hpb]
    have hs : stepB p (partB p ++ R) 0 = rawF (p.b.length : Nat) (partB p ++ R) 0 := by unfold stepB; rw [if_neg (by omega), if_neg (by omega), if_neg (by omega)]
    have q1 := rRaw_ok (partB p ++ R) 0 (p.b.length : Nat) hR
    rw [← hs, hf, hrb] at q1
    have q2 := wRaw_ok cs (by omega) false p.b (fun h => by cases h) (by omega)
    rw [hpb] at q1 ⊢
    exact ⟨q1, q2⟩
/-- What reading a part comes to, whatever stands next. -/
structure RSteps (p : Pt) (bs : Bs) (e : Int) : Prop where
  a0 : p.kind = 0 → ∃ v : Nat, DCall P 19 [.ptr 0 0, .int .i64 p.i] (rH bs e) (.int .u64 v) (rH (stepB p bs e).2.1 (stepB p bs e).2.2)
  a1 : p.kind = 1 → ∃ v : Nat, DCall P 22 [.ptr 0 0] (rH bs e) (wv v) (rH (stepB p bs e).2.1 (stepB p bs e).2.2)
  a2 : p.kind = 2 → ∃ v : Bs, DCall P 20 [.ptr 0 0, .int .i64 300] (rH bs e) (.str v) (rH (stepB p bs e).2.1 (stepB p bs e).2.2)
  a3 : p.kind = 3 → ∃ v : Bs, DCall P 21 [.ptr 0 0, .int .i64 (p.b.length : Nat)] (rH bs e) (.sl (bcl v)) (rH (stepB p bs e).2.1 (stepB p bs e).2.2)
theorem rsteps_ok (p : Pt) {bs : Bs} (e : Int) (h : bs.length ≤ 1000000000) : RSteps p bs e := by
  refine ⟨fun hk => ?_, fun hk => ?_, fun hk => ?_, fun hk => ?_⟩
  · have q := rNum_ok bs e p.i h
    rw [show stepB p bs e = rawF (szN p.i : Nat) bs e by unfold stepB; rw [if_pos hk]]
    exact ⟨_, q⟩
  · have q := rWide_ok bs e h
    rw [show stepB p bs e = rawF 16 bs e by unfold stepB; rw [if_neg (by omega), if_pos hk]]
    exact ⟨_, q⟩
  · have q := rText_ok bs e 300 h
    rw [show stepB p bs e = textF 300 bs e by unfold stepB; rw [if_neg (by omega), if_neg (by omega), if_pos hk]]
    exact ⟨_, q⟩
  · have q := rRaw_ok bs e (p.b.length : Nat) h
    rw [show stepB p bs e = rawF (p.b.length : Nat) bs e by unfold stepB; rw [if_neg (by omega), if_neg (by omega), if_neg (by omega)]]
    exact ⟨_, q⟩
theorem stepB_rest (p : Pt) (bs : Bs) (e : Int) : (stepB p bs e).2.1.length ≤ bs.length := by
  unfold stepB
  split
  · exact raw_rest _ _ _
  · split
    · exact raw_rest _ _ _
    · split
      · unfold textF
        exact Nat.le_trans (raw_rest _ _ _) (raw_rest _ _ _)
      · exact raw_rest _ _ _
/-- Bytes cut at c, read part by part: where the reader stands. -/
def CutInv (l : List Pt) (c i : Nat) (rest : Bs) (e : Int) : Prop :=
  (e = 8 ∨ (e = 0 ∧ (catB (l.take i)).length ≤ c ∧ rest = (catB (l.drop i)).take (c - (catB (l.take i)).length))) ∧ rest.length ≤ 3000000
theorem cut_step {l : List Pt} {c i : Nat} {p : Pt} {rest : Bs} {e : Int} (hg : l[i]? = some p) (hp : GoodP p) (h : CutInv l c i rest e) : CutInv l c (i + 1) (stepB p rest e).2.1 (stepB p rest e).2.2 := by
  refine ⟨?_, Nat.le_trans (stepB_rest p rest e) h.2⟩
  rcases h.1 with he | ⟨he, hc, hr⟩
  · rw [stepB_err (by rw [he]; decide)]; exact .inl he
  · rw [he]
    have hd := catB_drop hg
    have ht := catB_take hg
    rw [hd] at hr
    by_cases hk : c - (catB (l.take i)).length < (partB p).length
    · left; rw [hr]; exact stepB_short hp hk
    · right
      rw [hr, List.take_append, List.take_of_length_le (by omega), stepB_full hp, ht, List.length_append]
      exact ⟨rfl, by omega, by rw [Nat.sub_sub]⟩
theorem cut_end {l : List Pt} {c : Nat} {rest : Bs} {e : Int} (hc : c < (catB l).length) (h : CutInv l c l.length rest e) : e = 8 := by
  rcases h.1 with he | ⟨_, h2, _⟩
  · exact he
  · rw [List.take_length] at h2; omega
theorem cut_start (l : List Pt) (c : Nat) (h : (catB l).length ≤ 3000000) : CutInv l c 0 ((catB l).take c) 0 := ⟨.inr ⟨rfl, Nat.zero_le _, rfl⟩, by rw [List.length_take]; omega⟩
end Go.Proofs.Ytlmdacgkaailiaa
end
