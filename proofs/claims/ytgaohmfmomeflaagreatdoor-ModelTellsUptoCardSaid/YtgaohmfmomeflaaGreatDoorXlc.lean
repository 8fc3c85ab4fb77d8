/- The program's contracts: texts joined into one: LawMdl LawMdl2 LawMdl4 LawMdl5 TellLaw3 TellLaw2 Ref29 Tell TellLaw4 LawTell ArgsTell. -/
import Derived.Test.YtgaohmfmomeflaaGreatDoorXlb

section
/- model, the laws: what must come of fixed calls. -/
namespace Go.Proofs.YtgaohmfmomeflaaGreatDoor
open Go.Ve

theorem loadsM_self {l : Ml} (h : Ord cmpP (keysM l)) (hp : ∀ x ∈ l, 0 < x.2) : loadsM l = l := by
  have hn := h.nodup to_cmpP
  have e : heavyK l = keysM l := (heavyK_ord hn).ext to_cmpP h fun p => by
    rw [heavyK_mem]
    refine ⟨look_key, fun hk => ?_⟩
    obtain ⟨x, hx, rfl⟩ := List.mem_map.1 hk
    rw [look_mem hn hx]; exact hp x hx
  unfold loadsM
  rw [e, keysM, List.map_map]
  refine (List.map_congr_left fun x hx => ?_).trans (List.map_id l)
  show (x.1, look l x.1) = x
  rw [look_mem hn hx]
def sA : Sp := ⟨1, ⟨1, 1, 16⟩, zeroD⟩
def lfA (a : Nat) : Px := ⟨0, 0, ⟨1, 32, a * 2 ^ 96, []⟩, zeroK⟩
def pA : Px := lfA 167772161
def pB : Px := lfA 167772162
def mA : Px := ⟨1, 0, ⟨1, 16, 720575940379279360 * H64, []⟩, zeroK⟩
theorem lfA_ok {a : Nat} (h : a < 4294967296) : POk (lfA a) := ⟨by show a * 2 ^ 96 < 2 ^ 128; omega, by show (0 : Nat) < 2 ^ 128; decide, Nat.zero_le _, Nat.zero_le _⟩
theorem mA_ok : POk mA := ⟨by decide, by decide, Nat.zero_le _, Nat.zero_le _⟩
theorem leaf1 : PCall P 40 [.int .u64 167772161] (pxv pA) := by
  refine PCall.of_awp tok mixed fn40 (Nat.le_of_ble_eq_true rfl) ?_
  (conv => whnf); (repeat' ((first | (with_reducible first | refine Box.mk ?_ | refine And.intro (fun _ => ?_) (fun _ => ?_) | refine (forceH_eq _ _).mpr ?_) | refine ACall.of_pure (by assumption) (by rfl) ?_ | ((with_reducible show Exists _); refine ⟨_, ACall.of_pure (by assumption) (by rfl) ⟨rfl, rfl⟩, ?_⟩) | ((with_reducible show ∃ L, drawR L _ = true ∧ _); refine ⟨[], by kernel_rfl, ?_⟩) | ((with_reducible show _ ∧ _ ∧ _); refine ⟨by omega, by omega, ?_⟩) | fail) <;> conv => whnf))
  refine ⟨by decide, ?_⟩
  (conv => whnf); (repeat' ((first | (with_reducible first | refine Box.mk ?_ | refine And.intro (fun _ => ?_) (fun _ => ?_) | refine (forceH_eq _ _).mpr ?_) | refine ACall.of_pure (by assumption) (by rfl) ?_ | ((with_reducible show Exists _); refine ⟨_, ACall.of_pure (by assumption) (by rfl) ⟨rfl, rfl⟩, ?_⟩) | ((with_reducible show ∃ L, drawR L _ = true ∧ _); refine ⟨[], by kernel_rfl, ?_⟩) | ((with_reducible show _ ∧ _ ∧ _); refine ⟨by omega, by omega, ?_⟩) | fail) <;> conv => whnf))
  rfl
theorem leaf2 : PCall P 40 [.int .u64 167772162] (pxv pB) := by
  refine PCall.of_awp tok mixed fn40 (Nat.le_of_ble_eq_true rfl) ?_
  (conv => whnf); (repeat' ((first | (with_reducible first | refine Box.mk ?_ | refine And.intro (fun _ => ?_) (fun _ => ?_) | refine (forceH_eq _ _).mpr ?_) | refine ACall.of_pure (by assumption) (by rfl) ?_ | ((with_reducible show Exists _); refine ⟨_, ACall.of_pure (by assumption) (by rfl) ⟨rfl, rfl⟩, ?_⟩) | ((with_reducible show ∃ L, drawR L _ = true ∧ _); refine ⟨[], by kernel_rfl, ?_⟩) | ((with_reducible show _ ∧ _ ∧ _); refine ⟨by omega, by omega, ?_⟩) | fail) <;> conv => whnf))
  refine ⟨by decide, ?_⟩
  (conv => whnf); (repeat' ((first | (with_reducible first | refine Box.mk ?_ | refine And.intro (fun _ => ?_) (fun _ => ?_) | refine (forceH_eq _ _).mpr ?_) | refine ACall.of_pure (by assumption) (by rfl) ?_ | ((with_reducible show Exists _); refine ⟨_, ACall.of_pure (by assumption) (by rfl) ⟨rfl, rfl⟩, ?_⟩) | ((with_reducible show ∃ L, drawR L _ = true ∧ _); refine ⟨[], by kernel_rfl, ?_⟩) | ((with_reducible show _ ∧ _ ∧ _); refine ⟨by omega, by omega, ?_⟩) | fail) <;> conv => whnf))
  rfl
theorem leaf3 : PCall P 40 [.int .u64 1] (pxv (lfA 1)) := by
  refine PCall.of_awp tok mixed fn40 (Nat.le_of_ble_eq_true rfl) ?_
  (conv => whnf); (repeat' ((first | (with_reducible first | refine Box.mk ?_ | refine And.intro (fun _ => ?_) (fun _ => ?_) | refine (forceH_eq _ _).mpr ?_) | refine ACall.of_pure (by assumption) (by rfl) ?_ | ((with_reducible show Exists _); refine ⟨_, ACall.of_pure (by assumption) (by rfl) ⟨rfl, rfl⟩, ?_⟩) | ((with_reducible show ∃ L, drawR L _ = true ∧ _); refine ⟨[], by kernel_rfl, ?_⟩) | ((with_reducible show _ ∧ _ ∧ _); refine ⟨by omega, by omega, ?_⟩) | fail) <;> conv => whnf))
  refine ⟨by decide, ?_⟩
  (conv => whnf); (repeat' ((first | (with_reducible first | refine Box.mk ?_ | refine And.intro (fun _ => ?_) (fun _ => ?_) | refine (forceH_eq _ _).mpr ?_) | refine ACall.of_pure (by assumption) (by rfl) ?_ | ((with_reducible show Exists _); refine ⟨_, ACall.of_pure (by assumption) (by rfl) ⟨rfl, rfl⟩, ?_⟩) | ((with_reducible show ∃ L, drawR L _ = true ∧ _); refine ⟨[], by kernel_rfl, ?_⟩) | ((with_reducible show _ ∧ _ ∧ _); refine ⟨by omega, by omega, ?_⟩) | fail) <;> conv => whnf))
  rfl
def l1A : Ml := [(pA, 5)]
def l2A : Ml := [(pA, 5), (pB, 3)]
def l3A : Ml := [(pA, 10), (pB, 6)]
theorem sA_sound : soundS sA = true := by kernel_rfl
theorem mi1 : MI sA l1A := (MI.nil sA_sound).put (p := pA) (w := 5) (lfA_ok (by decide)) (by decide) (by kernel_rfl)
theorem mi2 : MI sA l2A := mi1.put (p := pB) (w := 3) (lfA_ok (by decide)) (by decide) (by kernel_rfl)
theorem l2A_loads : loadsM l2A = l2A := by
  refine loadsM_self ?_ (by decide)
  show List.Pairwise _ [pA, pB]
  refine List.Pairwise.cons (fun y hy => ?_) (List.pairwise_singleton _ _)
  rw [List.mem_singleton.1 hy]
  have : cmpP pA pB = -1 := by kernel_rfl
  rw [this]; decide
theorem l2A_ov : (ovM sA l2A).length = 4 := by
  have hp : POk pA := lfA_ok (by decide)
  have hq : POk pB := lfA_ok (by decide)
  have e : ovM sA l2A = [pA, pB, mA, topP sA] := by
    refine (ovM_ord sA l2A).ext to_hgtP ?_ fun q => ?_
    · have h1 : hgtP pA pB = -1 := by kernel_rfl
      have h2 : hgtP pA mA = -1 := by kernel_rfl
      have h3 : hgtP pA (topP sA) = -1 := by kernel_rfl
      have h4 : hgtP pB mA = -1 := by kernel_rfl
      have h5 : hgtP pB (topP sA) = -1 := by kernel_rfl
      have h6 : hgtP mA (topP sA) = -1 := by kernel_rfl
      refine .cons (fun y hy => ?_) (.cons (fun y hy => ?_) (.cons (fun y hy => ?_) (List.pairwise_singleton _ _)))
      · simp only [List.mem_cons, List.not_mem_nil, or_false] at hy
        rcases hy with rfl | rfl | rfl
        · rw [h1]; decide
        · rw [h2]; decide
        · rw [h3]; decide
      · simp only [List.mem_cons, List.not_mem_nil, or_false] at hy
        rcases hy with rfl | rfl
        · rw [h4]; decide
        · rw [h5]; decide
      · rw [List.mem_singleton.1 hy, h6]; decide
    · rw [ovM_mem mi2.ok mi2.nodup, sumF_pos]
      have a1 : allP sA pA = [pA, mA, topP sA] := by kernel_rfl
      have a2 : allP sA pB = [pB, mA, topP sA] := by kernel_rfl
      have m1 := allP_mem (s := sA) (x := q) hp
      have m2 := allP_mem (s := sA) (x := q) hq
      rw [a1] at m1
      rw [a2] at m2
      simp only [List.mem_cons, List.not_mem_nil, or_false] at m1 m2 ⊢
      constructor
      · rintro ⟨x, hx, hx2, _⟩
        rcases (show x = (pA, 5) ∨ x = (pB, 3) by simpa [l2A] using hx) with rfl | hx
        · rcases m1.2 hx2 with h | h | h
          · exact .inl h
          · exact .inr (.inr (.inl h))
          · exact .inr (.inr (.inr h))
        · subst hx
          rcases m2.2 hx2 with h | h | h
          · exact .inr (.inl h)
          · exact .inr (.inr (.inl h))
          · exact .inr (.inr (.inr h))
      · intro h
        rcases h with h | h | h | h
        · exact ⟨(pA, 5), .head _, m1.1 (.inl h), by decide⟩
        · exact ⟨(pB, 3), .tail _ (.head _), m2.1 (.inl h), by decide⟩
        · exact ⟨(pA, 5), .head _, m1.1 (.inr (.inl h)), by decide⟩
        · exact ⟨(pA, 5), .head _, m1.1 (.inr (.inr h)), by decide⟩
  rw [e]; rfl
theorem l2A_self : putF l2A (loadsM l2A) = l3A := by rw [l2A_loads]; kernel_rfl
theorem dEq {f : FuncId} {args : List AV} {H H0 H1 : Hp} {r r' : AV} (h : DCall P f args H r H0) (e : r = r') (e2 : H0 = H1) : DCall P f args H r' H1 := by subst e; subst e2; exact h
theorem alive35_ok : PCall P 12 [] (.bool true) := by
  have c0 := new_ok sA sA_sound
  have c1 := leaf1
  have c2 := leaf2
  have c3 := leaf3
  have d1 := dEq (put_ok sA [] (MI.nil sA_sound) pA (lfA_ok (by decide)) 5) (show _ = AV.int .i64 0 by kernel_rfl) (show _ = MH sA l1A by kernel_rfl)
  have d2 := dEq (put_ok sA l1A mi1 pB (lfA_ok (by decide)) 3) (show _ = AV.int .i64 0 by kernel_rfl) (show _ = MH sA l2A by kernel_rfl)
  have d3 := dEq (put_ok sA l2A mi2 zeroP zero_ok 1) (show _ = AV.int .i64 1 by kernel_rfl) (show _ = MH sA l2A by kernel_rfl)
  have d4 := dEq (put_ok sA l2A mi2 (lfA 1) (lfA_ok (by decide)) 4611686018427387904) (show _ = AV.int .i64 13 by kernel_rfl) (show _ = MH sA l2A by kernel_rfl)
  have d5 := loads_ok sA l2A mi2
  rw [l2A_loads] at d5
  have d6 := mOver_ok sA l2A mi2
  have d7 := dEq (weight_ok sA l2A mi2 mA mA_ok) (show _ = AV.int .u64 8 by kernel_rfl) rfl
  have d8 := dEq (join_self sA l2A mi2 (by decide)) (show _ = AV.int .i64 0 from rfl) (show _ = MHat 0 sA l3A by rw [l2A_self])
  have d9 := dEq (total_ok sA l3A) (show _ = AV.int .u64 16 by kernel_rfl) rfl
  have mi3 : MI sA l3A := ⟨sA_sound, mi2.nodup, by decide, mi2.ok, by decide, mi2.leaf⟩
  have e1 := dEq (weight_ok sA l3A mi3 mA mA_ok) (show _ = AV.int .u64 16 by kernel_rfl) rfl
  have e2 := space_ok sA l3A
  have e3 := new_nil zeroS (by kernel_rfl)
  have e4 := put_nil mA 1
  have e5 := join_nil sA l3A
  have e6 := weight_nil mA
  have hov := l2A_ov
  generalize ovM sA l2A = ov at *
  have hoc := pcl_len ov
  refine PCall.of_awp tok mixed fn12 (Nat.le_of_ble_eq_true rfl) ?_
  (conv => whnf); (repeat' ((first | (with_reducible first | refine Box.mk ?_ | refine And.intro (fun _ => ?_) (fun _ => ?_) | refine (forceH_eq _ _).mpr ?_) | refine ACall.of_pure (by assumption) (by rfl) ?_ | ((with_reducible show Exists _); refine ⟨_, ACall.of_pure (by assumption) (by rfl) ⟨rfl, rfl⟩, ?_⟩) | ((with_reducible show _ ∧ _ ∧ _); refine ⟨by omega, by omega, ?_⟩) | fail) <;> conv => whnf))
  refine aW [] c0 rfl rfl rfl ?_
  (conv => whnf); (repeat' ((first | (with_reducible first | refine Box.mk ?_ | refine And.intro (fun _ => ?_) (fun _ => ?_) | refine (forceH_eq _ _).mpr ?_) | refine ACall.of_pure (by assumption) (by rfl) ?_ | ((with_reducible show Exists _); refine ⟨_, ACall.of_pure (by assumption) (by rfl) ⟨rfl, rfl⟩, ?_⟩) | ((with_reducible show _ ∧ _ ∧ _); refine ⟨by omega, by omega, ?_⟩) | fail) <;> conv => whnf))
  · contradiction
  refine aW [1, 2] d1 rfl rfl rfl ?_
  (conv => whnf); (repeat' ((first | (with_reducible first | refine Box.mk ?_ | refine And.intro (fun _ => ?_) (fun _ => ?_) | refine (forceH_eq _ _).mpr ?_) | refine ACall.of_pure (by assumption) (by rfl) ?_ | ((with_reducible show Exists _); refine ⟨_, ACall.of_pure (by assumption) (by rfl) ⟨rfl, rfl⟩, ?_⟩) | ((with_reducible show _ ∧ _ ∧ _); refine ⟨by omega, by omega, ?_⟩) | fail) <;> conv => whnf))
  rotate_left
  · rename_i h; exact absurd rfl h
  refine aW [1, 2] d2 rfl rfl rfl ?_
  (conv => whnf); (repeat' ((first | (with_reducible first | refine Box.mk ?_ | refine And.intro (fun _ => ?_) (fun _ => ?_) | refine (forceH_eq _ _).mpr ?_) | refine ACall.of_pure (by assumption) (by rfl) ?_ | ((with_reducible show Exists _); refine ⟨_, ACall.of_pure (by assumption) (by rfl) ⟨rfl, rfl⟩, ?_⟩) | ((with_reducible show _ ∧ _ ∧ _); refine ⟨by omega, by omega, ?_⟩) | fail) <;> conv => whnf))
  rotate_left
  · rename_i h; exact absurd rfl h
  refine aW [1, 2] d3 rfl rfl rfl ?_
  (conv => whnf); (repeat' ((first | (with_reducible first | refine Box.mk ?_ | refine And.intro (fun _ => ?_) (fun _ => ?_) | refine (forceH_eq _ _).mpr ?_) | refine ACall.of_pure (by assumption) (by rfl) ?_ | ((with_reducible show Exists _); refine ⟨_, ACall.of_pure (by assumption) (by rfl) ⟨rfl, rfl⟩, ?_⟩) | ((with_reducible show _ ∧ _ ∧ _); refine ⟨by omega, by omega, ?_⟩) | fail) <;> conv => whnf))
  rotate_left
  · rename_i h; exact absurd rfl h
  refine aW [1, 2] d4 rfl rfl rfl ?_
  (conv => whnf); (repeat' ((first | (with_reducible first | refine Box.mk ?_ | refine And.intro (fun _ => ?_) (fun _ => ?_) | refine (forceH_eq _ _).mpr ?_) | refine ACall.of_pure (by assumption) (by rfl) ?_ | ((with_reducible show Exists _); refine ⟨_, ACall.of_pure (by assumption) (by rfl) ⟨rfl, rfl⟩, ?_⟩) | ((with_reducible show _ ∧ _ ∧ _); refine ⟨by omega, by omega, ?_⟩) | fail) <;> conv => whnf))
  rotate_left
  · rename_i h; exact absurd rfl h
  refine aW [1, 2] d5 rfl rfl rfl ?_
  (conv => whnf); (repeat' ((first | (with_reducible first | refine Box.mk ?_ | refine And.intro (fun _ => ?_) (fun _ => ?_) | refine (forceH_eq _ _).mpr ?_) | refine ACall.of_pure (by assumption) (by rfl) ?_ | ((with_reducible show Exists _); refine ⟨_, ACall.of_pure (by assumption) (by rfl) ⟨rfl, rfl⟩, ?_⟩) | ((with_reducible show _ ∧ _ ∧ _); refine ⟨by omega, by omega, ?_⟩) | fail) <;> conv => whnf))
  rotate_left
  · rename_i h; exact absurd rfl h
  refine aW [1, 2] d6 rfl rfl rfl ?_
  (conv => whnf); (repeat' ((first | (with_reducible first | refine Box.mk ?_ | refine And.intro (fun _ => ?_) (fun _ => ?_) | refine (forceH_eq _ _).mpr ?_) | refine ACall.of_pure (by assumption) (by rfl) ?_ | ((with_reducible show Exists _); refine ⟨_, ACall.of_pure (by assumption) (by rfl) ⟨rfl, rfl⟩, ?_⟩) | ((with_reducible show _ ∧ _ ∧ _); refine ⟨by omega, by omega, ?_⟩) | fail) <;> conv => whnf))
  rotate_left
  · rename_i h; exact absurd (show ((pcl ov).length : Int) = 4 by rw [hoc, hov]; rfl) h
  refine aW [1, 2] d7 rfl rfl rfl ?_
  (conv => whnf); (repeat' ((first | (with_reducible first | refine Box.mk ?_ | refine And.intro (fun _ => ?_) (fun _ => ?_) | refine (forceH_eq _ _).mpr ?_) | refine ACall.of_pure (by assumption) (by rfl) ?_ | ((with_reducible show Exists _); refine ⟨_, ACall.of_pure (by assumption) (by rfl) ⟨rfl, rfl⟩, ?_⟩) | ((with_reducible show _ ∧ _ ∧ _); refine ⟨by omega, by omega, ?_⟩) | fail) <;> conv => whnf))
  rotate_left
  · rename_i h; exact absurd rfl h
  refine aW [1, 2] d8 rfl rfl rfl ?_
  (conv => whnf); (repeat' ((first | (with_reducible first | refine Box.mk ?_ | refine And.intro (fun _ => ?_) (fun _ => ?_) | refine (forceH_eq _ _).mpr ?_) | refine ACall.of_pure (by assumption) (by rfl) ?_ | ((with_reducible show Exists _); refine ⟨_, ACall.of_pure (by assumption) (by rfl) ⟨rfl, rfl⟩, ?_⟩) | ((with_reducible show _ ∧ _ ∧ _); refine ⟨by omega, by omega, ?_⟩) | fail) <;> conv => whnf))
  rotate_left
  · rename_i h; exact absurd rfl h
  refine ⟨[], by kernel_rfl, ?_⟩
  (conv => whnf); (repeat' ((first | (with_reducible first | refine Box.mk ?_ | refine And.intro (fun _ => ?_) (fun _ => ?_) | refine (forceH_eq _ _).mpr ?_) | refine ACall.of_pure (by assumption) (by rfl) ?_ | ((with_reducible show Exists _); refine ⟨_, ACall.of_pure (by assumption) (by rfl) ⟨rfl, rfl⟩, ?_⟩) | ((with_reducible show _ ∧ _ ∧ _); refine ⟨by omega, by omega, ?_⟩) | fail) <;> conv => whnf))
  refine ⟨by decide, lcs (pA, 5), rfl, rfl, ?_⟩
  (conv => whnf); (repeat' ((first | (with_reducible first | refine Box.mk ?_ | refine And.intro (fun _ => ?_) (fun _ => ?_) | refine (forceH_eq _ _).mpr ?_) | refine ACall.of_pure (by assumption) (by rfl) ?_ | ((with_reducible show Exists _); refine ⟨_, ACall.of_pure (by assumption) (by rfl) ⟨rfl, rfl⟩, ?_⟩) | ((with_reducible show _ ∧ _ ∧ _); refine ⟨by omega, by omega, ?_⟩) | fail) <;> conv => whnf))
  rotate_left
  · rename_i h; exact absurd ⟨rfl, rfl, rfl, rfl, rfl, rfl, rfl, rfl, rfl, rfl, rfl, rfl, rfl⟩ h
  refine aDr [1, 2] d9 rfl rfl rfl rfl ?_
  (conv => whnf); (repeat' ((first | (with_reducible first | refine Box.mk ?_ | refine And.intro (fun _ => ?_) (fun _ => ?_) | refine (forceH_eq _ _).mpr ?_) | refine ACall.of_pure (by assumption) (by rfl) ?_ | ((with_reducible show Exists _); refine ⟨_, ACall.of_pure (by assumption) (by rfl) ⟨rfl, rfl⟩, ?_⟩) | ((with_reducible show _ ∧ _ ∧ _); refine ⟨by omega, by omega, ?_⟩) | fail) <;> conv => whnf))
  rotate_left
  · rename_i h; exact absurd rfl h
  refine aDr [1, 2] e1 rfl rfl rfl rfl ?_
  (conv => whnf); (repeat' ((first | (with_reducible first | refine Box.mk ?_ | refine And.intro (fun _ => ?_) (fun _ => ?_) | refine (forceH_eq _ _).mpr ?_) | refine ACall.of_pure (by assumption) (by rfl) ?_ | ((with_reducible show Exists _); refine ⟨_, ACall.of_pure (by assumption) (by rfl) ⟨rfl, rfl⟩, ?_⟩) | ((with_reducible show _ ∧ _ ∧ _); refine ⟨by omega, by omega, ?_⟩) | fail) <;> conv => whnf))
  rotate_left
  · rename_i h; exact absurd rfl h
  refine aDr [1, 2] e2 rfl rfl rfl rfl ?_
  (conv => whnf); (repeat' ((first | (with_reducible first | refine Box.mk ?_ | refine And.intro (fun _ => ?_) (fun _ => ?_) | refine (forceH_eq _ _).mpr ?_) | refine ACall.of_pure (by assumption) (by rfl) ?_ | ((with_reducible show Exists _); refine ⟨_, ACall.of_pure (by assumption) (by rfl) ⟨rfl, rfl⟩, ?_⟩) | ((with_reducible show _ ∧ _ ∧ _); refine ⟨by omega, by omega, ?_⟩) | fail) <;> conv => whnf))
  all_goals try (rename_i h; first | exact absurd trivial h | exact absurd rfl h | exact absurd ⟨rfl, rfl, rfl, rfl, rfl, rfl, rfl⟩ h)
  refine aDr [1, 2] e5 rfl rfl rfl rfl ?_
  (conv => whnf); (repeat' ((first | (with_reducible first | refine Box.mk ?_ | refine And.intro (fun _ => ?_) (fun _ => ?_) | refine (forceH_eq _ _).mpr ?_) | refine ACall.of_pure (by assumption) (by rfl) ?_ | ((with_reducible show Exists _); refine ⟨_, ACall.of_pure (by assumption) (by rfl) ⟨rfl, rfl⟩, ?_⟩) | ((with_reducible show _ ∧ _ ∧ _); refine ⟨by omega, by omega, ?_⟩) | fail) <;> conv => whnf))
  all_goals first
    | rfl
    | (rename_i h; exact absurd rfl h)
end Go.Proofs.YtgaohmfmomeflaaGreatDoor
end

section
/- model, the laws: two prefixes and their cross. -/
namespace Go.Proofs.YtgaohmfmomeflaaGreatDoor
open Go.Ve

end Go.Proofs.YtgaohmfmomeflaaGreatDoor
end

section
/- model, the laws: the order of what is put does not matter. -/
namespace Go.Proofs.YtgaohmfmomeflaaGreatDoor
open Go.Ve

theorem lsame_ok (l : Ml) (hl : l.length ≤ 1000000000) : PCall P 28 [.sl (lcl l), .sl (lcl l)] (.bool true) := by
  have hpl := lcl_len l
  refine PCall.of_awp tok mixed fn28 (Nat.le_of_ble_eq_true rfl) ?_
  (conv => whnf); (repeat' ((first | (with_reducible first | refine Box.mk ?_ | refine And.intro (fun _ => ?_) (fun _ => ?_) | refine (forceH_eq _ _).mpr ?_) | refine ACall.of_pure (by assumption) (by rfl) ?_ | ((with_reducible show Exists _); refine ⟨_, ACall.of_pure (by assumption) (by rfl) ⟨rfl, rfl⟩, ?_⟩) | ((with_reducible show ∃ L, drawR L _ = true ∧ _); refine ⟨[], by kernel_rfl, ?_⟩) | ((with_reducible show _ ∧ _ ∧ _); refine ⟨by omega, by omega, ?_⟩) | fail) <;> conv => whnf))
  all_goals try contradiction
  refine aloopH (fun i : Nat => i ≤ l.length) (fun i : Nat => [(0, .sl (lcl l)), (1, .sl (lcl l)), (5, .int .i64 i)]) (fun _ H => H) (fun i => l.length - i) 0 (Nat.zero_le _) (weak_to ⟨rfl, rfl, rfl, trivial⟩ rfl) ?_
  intro i hi
  (conv => whnf); (repeat' ((first | (with_reducible first | refine Box.mk ?_ | refine And.intro (fun _ => ?_) (fun _ => ?_) | refine (forceH_eq _ _).mpr ?_) | refine ACall.of_pure (by assumption) (by rfl) ?_ | ((with_reducible show Exists _); refine ⟨_, ACall.of_pure (by assumption) (by rfl) ⟨rfl, rfl⟩, ?_⟩) | ((with_reducible show ∃ L, drawR L _ = true ∧ _); refine ⟨[], by kernel_rfl, ?_⟩) | ((with_reducible show _ ∧ _ ∧ _); refine ⟨by omega, by omega, ?_⟩) | fail) <;> conv => whnf))
  · rename_i h
    have hil : i < l.length := by omega
    have hg : (lcl l)[(i : Int).toNat]? = some (lcs l[i]) := by rw [lcl_get, Int.toNat_natCast, List.getElem?_eq_getElem hil]; rfl
    refine ⟨by omega, _, hg, rfl, ?_⟩
    (conv => whnf); (repeat' ((first | (with_reducible first | refine Box.mk ?_ | refine And.intro (fun _ => ?_) (fun _ => ?_) | refine (forceH_eq _ _).mpr ?_) | refine ACall.of_pure (by assumption) (by rfl) ?_ | ((with_reducible show Exists _); refine ⟨_, ACall.of_pure (by assumption) (by rfl) ⟨rfl, rfl⟩, ?_⟩) | ((with_reducible show ∃ L, drawR L _ = true ∧ _); refine ⟨[], by kernel_rfl, ?_⟩) | ((with_reducible show _ ∧ _ ∧ _); refine ⟨by omega, by omega, ?_⟩) | fail) <;> conv => whnf))
    refine ⟨by omega, _, hg, rfl, ?_⟩
    (conv => whnf); (repeat' ((first | (with_reducible first | refine Box.mk ?_ | refine And.intro (fun _ => ?_) (fun _ => ?_) | refine (forceH_eq _ _).mpr ?_) | refine ACall.of_pure (by assumption) (by rfl) ?_ | ((with_reducible show Exists _); refine ⟨_, ACall.of_pure (by assumption) (by rfl) ⟨rfl, rfl⟩, ?_⟩) | ((with_reducible show ∃ L, drawR L _ = true ∧ _); refine ⟨[], by kernel_rfl, ?_⟩) | ((with_reducible show _ ∧ _ ∧ _); refine ⟨by omega, by omega, ?_⟩) | fail) <;> conv => whnf))
    · exact ⟨i + 1, hil, by omega, weak_to ⟨rfl, rfl, wrap_nat (m := 1) (by omega), trivial⟩ rfl⟩
    · rename_i hbad; exact absurd (⟨rfl, rfl, rfl, rfl, rfl, rfl, rfl, rfl, rfl, rfl, rfl, rfl, rfl⟩ : _ ∧ _ ∧ _ ∧ _ ∧ _ ∧ _ ∧ _ ∧ _ ∧ _ ∧ _ ∧ _ ∧ _ ∧ _) hbad
  · rfl
theorem psame2_ok (l : List Px) (hl : l.length ≤ 1000000000) : PCall P 30 [.sl (pcl l), .sl (pcl l)] (.bool true) := by
  have hpl := pcl_len l
  refine PCall.of_awp tok mixed fn30 (Nat.le_of_ble_eq_true rfl) ?_
  (conv => whnf); (repeat' ((first | (with_reducible first | refine Box.mk ?_ | refine And.intro (fun _ => ?_) (fun _ => ?_) | refine (forceH_eq _ _).mpr ?_) | refine ACall.of_pure (by assumption) (by rfl) ?_ | ((with_reducible show Exists _); refine ⟨_, ACall.of_pure (by assumption) (by rfl) ⟨rfl, rfl⟩, ?_⟩) | ((with_reducible show ∃ L, drawR L _ = true ∧ _); refine ⟨[], by kernel_rfl, ?_⟩) | ((with_reducible show _ ∧ _ ∧ _); refine ⟨by omega, by omega, ?_⟩) | fail) <;> conv => whnf))
  all_goals try contradiction
  refine aloopH (fun i : Nat => i ≤ l.length) (fun i : Nat => [(0, .sl (pcl l)), (1, .sl (pcl l)), (5, .int .i64 i)]) (fun _ H => H) (fun i => l.length - i) 0 (Nat.zero_le _) (weak_to ⟨rfl, rfl, rfl, trivial⟩ rfl) ?_
  intro i hi
  (conv => whnf); (repeat' ((first | (with_reducible first | refine Box.mk ?_ | refine And.intro (fun _ => ?_) (fun _ => ?_) | refine (forceH_eq _ _).mpr ?_) | refine ACall.of_pure (by assumption) (by rfl) ?_ | ((with_reducible show Exists _); refine ⟨_, ACall.of_pure (by assumption) (by rfl) ⟨rfl, rfl⟩, ?_⟩) | ((with_reducible show ∃ L, drawR L _ = true ∧ _); refine ⟨[], by kernel_rfl, ?_⟩) | ((with_reducible show _ ∧ _ ∧ _); refine ⟨by omega, by omega, ?_⟩) | fail) <;> conv => whnf))
  · rename_i h
    have hil : i < l.length := by omega
    have hg : (pcl l)[(i : Int).toNat]? = some (pcs l[i]) := by rw [pcl_get, Int.toNat_natCast, List.getElem?_eq_getElem hil]; rfl
    refine ⟨by omega, _, hg, rfl, ?_⟩
    (conv => whnf); (repeat' ((first | (with_reducible first | refine Box.mk ?_ | refine And.intro (fun _ => ?_) (fun _ => ?_) | refine (forceH_eq _ _).mpr ?_) | refine ACall.of_pure (by assumption) (by rfl) ?_ | ((with_reducible show Exists _); refine ⟨_, ACall.of_pure (by assumption) (by rfl) ⟨rfl, rfl⟩, ?_⟩) | ((with_reducible show ∃ L, drawR L _ = true ∧ _); refine ⟨[], by kernel_rfl, ?_⟩) | ((with_reducible show _ ∧ _ ∧ _); refine ⟨by omega, by omega, ?_⟩) | fail) <;> conv => whnf))
    refine ⟨by omega, _, hg, rfl, ?_⟩
    (conv => whnf); (repeat' ((first | (with_reducible first | refine Box.mk ?_ | refine And.intro (fun _ => ?_) (fun _ => ?_) | refine (forceH_eq _ _).mpr ?_) | refine ACall.of_pure (by assumption) (by rfl) ?_ | ((with_reducible show Exists _); refine ⟨_, ACall.of_pure (by assumption) (by rfl) ⟨rfl, rfl⟩, ?_⟩) | ((with_reducible show ∃ L, drawR L _ = true ∧ _); refine ⟨[], by kernel_rfl, ?_⟩) | ((with_reducible show _ ∧ _ ∧ _); refine ⟨by omega, by omega, ?_⟩) | fail) <;> conv => whnf))
    · exact ⟨i + 1, hil, by omega, weak_to ⟨rfl, rfl, wrap_nat (m := 1) (by omega), trivial⟩ rfl⟩
    · rename_i hbad; exact absurd (⟨rfl, rfl, rfl, rfl, rfl, rfl, rfl, rfl, rfl, rfl, rfl, rfl⟩ : _ ∧ _ ∧ _ ∧ _ ∧ _ ∧ _ ∧ _ ∧ _ ∧ _ ∧ _ ∧ _ ∧ _) hbad
  · rfl

/-! ### what is taken is taken again, in any order -/
end Go.Proofs.YtgaohmfmomeflaaGreatDoor
end

section
/- model, the laws: the order of what is put does not matter, walked. -/
namespace Go.Proofs.YtgaohmfmomeflaaGreatDoor
open Go.Ve

theorem MI.join {s : Sp} {l : Ml} (h : MI s l) {t : Ml} (ht : ∀ x ∈ t, POk x.1) (hr : ∀ x ∈ t, leafR s x.1 = true) (hs : totM l + totM t ≤ 4611686018427387904) (hl : l.length + t.length ≤ 65536) : MI s (putF l t) := by
  refine ⟨h.sound, nodup_putF _ h.nodup, ?_, fun q hq => ?_, Nat.le_trans (putF_len _ _) hl, fun q hq => ?_⟩
  · have : totM (putF l t) = totM l + totM t := sumF_putF _ _ _
    omega
  · rcases (mem_keys_putF t).1 hq with hq | hq
    · exact h.ok q hq
    · obtain ⟨x, hx, rfl⟩ := List.mem_map.1 hq
      exact ht x hx
  · rcases (mem_keys_putF t).1 hq with hq | hq
    · exact h.leaf q hq
    · obtain ⟨x, hx, rfl⟩ := List.mem_map.1 hq
      exact hr x hx
end Go.Proofs.YtgaohmfmomeflaaGreatDoor
end

section
/- model, plain laws: what the document keeps is what weighs something. -/
namespace Go.Proofs.YtgaohmfmomeflaaGreatDoor
open Go.Ve

theorem look_sum (p : Px) : ∀ {r : Ml}, (keysM r).Nodup → look r p = sumF (fun q => decide (q = p)) r
  | [], _ => rfl
  | x :: r, hk => by
    have hn' := List.nodup_cons.1 (show (x.1 :: keysM r).Nodup from hk)
    rw [sumF_cons, look, ← look_sum p hn'.2]
    by_cases e : x.1 = p
    · rw [if_pos e, decide_eq_true e, cond_true, look_none (by rw [← e]; exact hn'.1)]; rfl
    · rw [if_neg e, decide_eq_false e, cond_false, Nat.zero_add]
theorem look_again {m : Ml} (hn : (keysM m).Nodup) (p : Px) : look (putAll (loadsM m)) p = look m p := by
  rw [look_putF, look, Nat.zero_add, sumF_loadsM _ hn, look_sum p hn]
theorem tell_put {m : Ml} (hn : (keysM m).Nodup) (p : Px) (w : Nat) : loadsM (putAll (loadsM m ++ [(p, w)])) = loadsM (addM m p w) := by
  rw [show putAll (loadsM m ++ [(p, w)]) = addM (putAll (loadsM m)) p w from putF_snoc _ _ _]
  exact loadsM_ext (nodup_addM (nodup_putAll _) _ _) (nodup_addM hn _ _) fun q => by rw [look_addM, look_addM, look_again hn]
theorem tell_join {m m' : Ml} (hn : (keysM m).Nodup) : loadsM (putAll (loadsM m ++ loadsM m')) = loadsM (putF m (loadsM m')) := by
  rw [show putAll (loadsM m ++ loadsM m') = putF (putAll (loadsM m)) (loadsM m') from putF_app _ _ _]
  exact loadsM_ext (nodup_putF _ (nodup_putAll _)) (nodup_putF _ hn) fun q => by rw [look_putF q (loadsM m'), look_putF q (loadsM m') m, look_again hn]
theorem sub_len : ∀ {α : Type} {l K : List α}, l.Nodup → (∀ x ∈ l, x ∈ K) → l.length ≤ K.length
  | _, [], _, _, _ => Nat.zero_le _
  | α, x :: l, K, h, hs => by
    have h1 := List.nodup_cons.1 h
    obtain ⟨a, b, rfl⟩ := List.append_of_mem (hs x List.mem_cons_self)
    have := sub_len (l := l) (K := a ++ b) h1.2 fun y hy => by
      have := hs y (List.mem_cons_of_mem _ hy)
      rcases List.mem_append.1 this with h2 | h2
      · exact List.mem_append_left _ h2
      · rcases List.mem_cons.1 h2 with rfl | h2
        · exact absurd hy h1.1
        · exact List.mem_append_right _ h2
    simp only [List.length_append, List.length_cons] at *
    omega
/-- What a model is, within what has been put. -/
structure TIn (s : Sp) (K : List Px) (m : Ml) : Prop where
  mi : MI s m
  sub : ∀ p ∈ keysM m, p ∈ K
theorem TIn.len {s : Sp} {K : List Px} {m : Ml} (h : TIn s K m) : m.length ≤ K.length := by
  have := sub_len h.mi.nodup h.sub
  unfold keysM at this
  rwa [List.length_map] at this
theorem TIn.more {s : Sp} {K : List Px} {m : Ml} (h : TIn s K m) (p : Px) : TIn s (p :: K) m := ⟨h.mi, fun q hq => List.mem_cons_of_mem _ (h.sub q hq)⟩
theorem TIn.put {s : Sp} {K : List Px} {m : Ml} (h : TIn s K m) {p : Px} (hp : POk p) (w : Nat) (hl : K.length < 65536) : TIn s (p :: K) (putM s m p w) := by
  have hlen := h.len
  unfold putM
  by_cases he : putE s m p w = 0
  · rw [if_pos he]
    refine ⟨h.mi.put hp (by omega) he, fun q hq => ?_⟩
    rcases mem_keys_addM.1 hq with hq | rfl
    · exact List.mem_cons_of_mem _ (h.sub q hq)
    · exact List.mem_cons_self
  · rw [if_neg he]; exact h.more p
def joinT (m m' : Ml) : Ml := if totM m + totM m' ≤ 4611686018427387904 then putF m (loadsM m') else m
theorem TIn.join {s : Sp} {K : List Px} {m m' : Ml} (h : TIn s K m) (h' : TIn s K m') (hl : K.length ≤ 30000) (p : Px) : TIn s (p :: K) (joinT m m') := by
  have h1 := h.len
  have h2 := h'.len
  have h3 := loadsM_len (l := m')
  unfold joinT
  split
  · rename_i ht
    refine ⟨h.mi.join (fun x hx => h'.mi.ok.loads.at hx) (fun x hx => h'.mi.leaf _ (look_key (by rw [← (loadsM_mem.1 hx).1]; exact (loadsM_mem.1 hx).2))) (by rw [show totM (loadsM m') = totM m' from sumF_loadsM _ h'.mi.nodup]; exact ht) (by omega), fun q hq => ?_⟩
    rcases (mem_keys_putF _).1 hq with hq | hq
    · exact List.mem_cons_of_mem _ (h.sub q hq)
    · rw [keys_loadsM, heavyK_mem] at hq
      exact List.mem_cons_of_mem _ (h'.sub q (look_key hq))
  · exact h.more p
theorem TIn.nil {s : Sp} (hs : soundS s = true) : TIn s [] [] := ⟨MI.nil hs, fun q hq => by cases hq⟩
end Go.Proofs.YtgaohmfmomeflaaGreatDoor
end

section
/- model, plain laws: every prefix over what weighs something, node by node. -/
namespace Go.Proofs.YtgaohmfmomeflaaGreatDoor
open Go.Ve

def ltN (a b : Nat × Nat) : Prop := a.1 + a.2 < b.1 + b.2 ∨ (a.1 + a.2 = b.1 + b.2 ∧ a.1 < b.1)
theorem rowN_sum {a b h : Nat} {q : Nat × Nat} (hq : q ∈ rowN a b h) : q.1 + q.2 = h := by
  obtain ⟨t, ht, rfl⟩ := List.mem_map.1 hq
  rw [List.mem_range] at ht
  unfold cntN at ht
  show (h - b + t) + (h - (h - b + t)) = h
  omega
theorem nds_ord (s : Sp) : (nds s).Pairwise ltN := by
  cases hs : soundS s
  · rw [nds_no hs]; exact List.Pairwise.nil
  · rw [nds_yes hs]
    unfold nodesN uptoN
    rw [List.pairwise_flatMap]
    refine ⟨fun h _ => ?_, ?_⟩
    · have hm := @rowN_sum (gA s) (gB s) h
      have hp : (rowN (gA s) (gB s) h).Pairwise fun x y => x.1 < y.1 := by
        unfold rowN
        rw [List.pairwise_map]
        exact List.pairwise_lt_range.imp fun {x y} h => by
          show _ + x < _ + y
          omega
      exact hp.imp_of_mem fun hx hy h => .inr ⟨by rw [hm hx, hm hy], h⟩
    · exact List.pairwise_lt_range.imp fun {x y} h a ha b hb => .inl (by rw [rowN_sum ha, rowN_sum hb]; exact h)
def selN (K : List Px) (n : Nat × Nat) : List Px := K.filter fun q => decide (q.a0 = (n.1 : Int) ∧ q.a1 = (n.2 : Int))
def outN (K : List Px) (l : List (Nat × Nat)) : List Px := l.flatMap (selN K)
theorem selN_mem {K : List Px} {n : Nat × Nat} {q : Px} : q ∈ selN K n ↔ q ∈ K ∧ q.a0 = (n.1 : Int) ∧ q.a1 = (n.2 : Int) := by
  unfold selN; rw [List.mem_filter, decide_eq_true_iff]
theorem selN_step {K : List Px} {n : Nat × Nat} {k : Nat} {q : Px} (h : K[k]? = some q) : selN (K.take (k + 1)) n = selN (K.take k) n ++ if q.a0 = (n.1 : Int) ∧ q.a1 = (n.2 : Int) then [q] else [] := by
  unfold selN
  rw [List.take_add_one, h, List.filter_append]
  congr 1
  by_cases hq : q.a0 = (n.1 : Int) ∧ q.a1 = (n.2 : Int)
  · rw [if_pos hq]; simp [hq]
  · rw [if_neg hq]
    show [q].filter _ = []
    rw [List.filter_cons_of_neg (by simpa using hq)]; rfl
theorem selN_len (K : List Px) (n : Nat × Nat) : (selN K n).length ≤ K.length := List.length_filter_le _ _
theorem outN_step {K : List Px} {l : List (Nat × Nat)} {j : Nat} {n : Nat × Nat} (h : l[j]? = some n) : outN K (l.take (j + 1)) = outN K (l.take j) ++ selN K n := by
  unfold outN
  rw [List.take_add_one, h, List.flatMap_append]
  simp
theorem outN_len (K : List Px) : ∀ l : List (Nat × Nat), (outN K l).length ≤ l.length * K.length
  | [] => Nat.zero_le _
  | n :: l => by
    have h1 := outN_len K l
    have h2 := selN_len K n
    show ((n :: l).flatMap (selN K)).length ≤ _
    rw [List.flatMap_cons, List.length_append, List.length_cons, Nat.succ_mul]
    show _ + (outN K l).length ≤ _
    omega
theorem outN_ord {s : Sp} {K : List Px} (h : Ord cmpP K) : Ord hgtP (outN K (nds s)) := by
  have hb : ∀ n ∈ nds s, n.1 + n.2 ≤ 1000000 := fun n hn => by
    cases hs : soundS s
    · rw [nds_no hs] at hn; cases hn
    · obtain ⟨k, hk⟩ := List.getElem?_of_mem hn
      rw [nds_yes hs] at hk
      obtain ⟨h1, h2, _⟩ := node_get hk
      obtain ⟨g1, g2⟩ := g_le s
      omega
  have hw : ∀ n ∈ nds s, ∀ q ∈ selN K n, IntKind.i64.wrap (q.a0 + q.a1) = ((n.1 + n.2 : Nat) : Int) := fun n hn q hq => by
    obtain ⟨_, h1, h2⟩ := selN_mem.1 hq
    have := hb n hn
    rw [h1, h2, wrap_i64 (by omega) (by omega)]; omega
  unfold Ord outN
  rw [List.pairwise_flatMap]
  refine ⟨fun n hn => ?_, (nds_ord s).imp_of_mem fun {a b} ha hb h x hx y hy => ?_⟩
  · refine (h.filter _).imp_of_mem fun {x y} hx hy hxy => ?_
    have hx : x ∈ selN K n := hx
    have hy : y ∈ selN K n := hy
    unfold hgtP
    rw [hw n hn x hx, hw n hn y hy, if_pos (show cmpI _ _ = 0 from by unfold cmpI; simp)]
    exact hxy
  · have e1 := hw a ha x hx
    have e2 := hw b hb y hy
    obtain ⟨_, x1, x2⟩ := selN_mem.1 hx
    obtain ⟨_, y1, y2⟩ := selN_mem.1 hy
    unfold hgtP
    rw [e1, e2]
    rcases h with h | ⟨h1, h2⟩
    · have : cmpI ((a.1 + a.2 : Nat) : Int) ((b.1 + b.2 : Nat) : Int) = -1 := by unfold cmpI; rw [if_pos (by omega)]
      rw [this, if_neg (by decide)]; decide
    · rw [h1, if_pos (show cmpI _ _ = 0 from by unfold cmpI; simp)]
      have hne : ¬ x = y := fun e => by rw [e, y1] at x1; omega
      unfold cmpP
      rw [if_neg hne]
      have : cmpI x.a0 y.a0 = -1 := by unfold cmpI; rw [if_pos (by omega)]
      have h3 : orI [cmpI x.a0 y.a0, cmpI x.a1 y.a1] = -1 := by rw [orI, this, if_neg (by decide)]
      rw [orI, h3, if_neg (by decide)]; decide
theorem cntL_pos {U : List Px} {q : Px} : 0 < look (cntL U) q ↔ q ∈ U := by
  unfold cntL
  rw [look_putF, look, Nat.zero_add, sumF_pos]
  constructor
  · rintro ⟨x, hx, h1, _⟩
    obtain ⟨p, hp, rfl⟩ := List.mem_map.1 hx
    have : p = q := of_decide_eq_true h1
    exact this ▸ hp
  · intro h
    exact ⟨(q, 1), List.mem_map.2 ⟨q, h, rfl⟩, decide_eq_true rfl, Nat.one_pos⟩
theorem cntL_key {U : List Px} {q : Px} : q ∈ keysM (cntL U) ↔ q ∈ U := by
  unfold cntL
  rw [mem_keys_putF]
  have : keysM (U.map fun p => (p, 1)) = U := by
    unfold keysM
    rw [List.map_map]
    exact List.map_id _
  rw [this]
  exact ⟨fun h => h.elim (fun h => by cases h) id, .inr⟩
theorem cntL_nodup (U : List Px) : (keysM (cntL U)).Nodup := nodup_putAll _
theorem cntU_snoc (U : List Px) (q : Px) : cntL (U ++ [q]) = addM (cntL U) q 1 := by
  unfold cntL
  rw [List.map_append]
  exact putF_snoc _ _ _
theorem cntL_len (U : List Px) : (cntL U).length ≤ U.length := by
  have h := putF_len (U.map fun p => (p, 1)) []
  rw [List.length_map] at h
  simp only [List.length_nil, Nat.zero_add] at h
  exact h
theorem look_cntL (U : List Px) (q : Px) : look (cntL U) q ≤ U.length := by
  refine Nat.le_trans (look_le q) ?_
  show sumF _ (putF [] _) ≤ _
  rw [sumF_putF, sumF_nil, Nat.zero_add]
  clear q
  induction U with
  | nil => exact Nat.le_refl _
  | cons x U ih => rw [List.map_cons, sumF_cons, cond_true, List.length_cons]; omega
theorem upsM_step {s : Sp} {L : Ml} {i : Nat} {x : Px × Nat} (h : L[i]? = some x) : upsM s (L.take (i + 1)) = upsM s (L.take i) ++ allP s x.1 := by
  unfold upsM
  rw [List.take_add_one, h, List.flatMap_append]
  simp
theorem ovM_out {s : Sp} {m : Ml} (hI : MI s m) : outN (keysM (loadsM (cntL (upsM s (loadsM m))))) (nds s) = ovM s m := by
  rw [keys_loadsM]
  refine (outN_ord (heavyK_ord (cntL_nodup _))).ext to_hgtP (ovM_ord s m) fun q => ?_
  unfold ovM outN
  rw [srt_mem, cntL_key, List.mem_flatMap]
  constructor
  · rintro ⟨n, _, hq⟩
    exact cntL_pos.1 (heavyK_mem.1 (selN_mem.1 hq).1)
  · intro hq
    obtain ⟨x, _, hx2⟩ := (upsM_mem hI.ok.loads).1 hq
    have hr := (over_right hx2).1
    have hs := right_sound hr
    obtain ⟨t0, t1⟩ := top_g s
    have htx := right_top hr
    have hbx := right_bounds hr
    refine ⟨(q.a0.toNat, q.a1.toNat), ?_, selN_mem.2 ⟨heavyK_mem.2 (cntL_pos.2 hq), by show q.a0 = (q.a0.toNat : Int); omega, by show q.a1 = (q.a1.toNat : Int); omega⟩⟩
    rw [nds_yes hs]
    exact List.mem_of_getElem? (place_get (by show q.a0.toNat ≤ _; omega) (by show q.a1.toNat ≤ _; omega))
end Go.Proofs.YtgaohmfmomeflaaGreatDoor
end

section
/- model, the document's answer: Over. -/
namespace Go.Proofs.YtgaohmfmomeflaaGreatDoor
open Go.Ve

theorem nds_ne {s : Sp} (h : soundS s = true) : nds s ≠ [] := fun e => by
  have := List.mem_of_getElem? (place_get (a := gA s) (b := gB s) (p := (0, 0)) (Nat.zero_le _) (Nat.zero_le _))
  rw [← nds_yes h, e] at this
  cases this
theorem upsM_len2 {s : Sp} (L : Ml) (i : Nat) : (upsM s (L.take i)).length ≤ L.length * 33153 := by
  refine Nat.le_trans (upsM_len s _) (Nat.mul_le_mul_right _ ?_)
  rw [List.length_take]; omega
theorem r29Over_ok (s : Sp) (m : Ml) (hI : MI s m) (hm : m.length ≤ 64) : PCall P 77 [spv s, .sl (lcl (loadsM m))] (.sl (pcl (ovM s m))) := by
  have hLl := loadsM_len (l := m)
  have hLw : ∀ x ∈ loadsM m, 0 < x.2 := fun x hx => (loadsM_mem.1 hx).2
  have hLo := hI.ok.loads
  have hLr : ∀ x ∈ loadsM m, rightP s x.1 = true := fun x hx => by
    have := hI.leaf x.1 (look_key (by rw [← (loadsM_mem.1 hx).1]; exact hLw x hx))
    unfold leafR at this
    rw [Bool.and_eq_true] at this
    exact this.1
  rw [← ovM_out hI]
  generalize loadsM m = L at *
  have hlc := lcl_len L
  have q1 := pEq (rNodes_ok s) (nvl_sl (nds_ne hI.sound))
  have hN := nds_len s
  refine PCall.of_awp tok mixed fn77 (Nat.le_of_ble_eq_true rfl) ?_
  (conv => whnf); (repeat' ((first | (with_reducible first | refine Box.mk ?_ | refine And.intro (fun _ => ?_) (fun _ => ?_) | refine (forceH_eq _ _).mpr ?_) | refine ACall.of_pure (by assumption) (by rfl) ?_ | ((with_reducible show Exists _); refine ⟨_, ACall.of_pure (by assumption) (by rfl) ⟨rfl, rfl⟩, ?_⟩) | ((with_reducible show _ ∧ _ ∧ _); refine ⟨by omega, by omega, ?_⟩) | fail) <;> conv => whnf))
  refine aloop (fun i : Nat => i ≤ L.length) (fun i => ⟨envL [(1, .sl (lcl L)), (2, .ptr 0 0), (5, .sl (nol (loadsM (cntL (upsM s (L.take i)))))), (6, .int .i64 i)], [.box 26 (scs s)]⟩) (fun i => L.length - i) 0 (Nat.zero_le _) (weak_le ⟨.inl rfl, .inl rfl, .inr ⟨rfl, by rw [List.take_zero, show loadsM (cntL (upsM s [])) = [] from loadsM_nil]; rfl⟩, .inl rfl, trivial⟩ rfl) ?_
  intro i hi
  (conv => whnf); (repeat' ((first | (with_reducible first | refine Box.mk ?_ | refine And.intro (fun _ => ?_) (fun _ => ?_) | refine (forceH_eq _ _).mpr ?_) | refine ACall.of_pure (by assumption) (by rfl) ?_ | ((with_reducible show Exists _); refine ⟨_, ACall.of_pure (by assumption) (by rfl) ⟨rfl, rfl⟩, ?_⟩) | ((with_reducible show _ ∧ _ ∧ _); refine ⟨by omega, by omega, ?_⟩) | fail) <;> conv => whnf))
  · rename_i hlt
    have hlt : i < L.length := by omega
    have hx := List.getElem?_eq_getElem hlt
    have hxm := List.mem_of_getElem? hx
    have hst := upsM_step (s := s) hx
    have hul := upsM_len2 (s := s) L (i + 1)
    have hxw := hLw _ hxm
    have hxo := hLo.at hxm
    have hxr := hLr _ hxm
    generalize L[i] = x at *
    have q2 := pEq (rAll_ok s x.1 hxo) (pvl_sl ((allP_ne hxo).2 hxr))
    have hUo := allP_ok (s := s) hxo
    rw [hst] at hul
    generalize allP s x.1 = U at *
    have hUc := pcl_len U
    refine ⟨[], by kernel_rfl, ?_⟩
    (conv => whnf); (repeat' ((first | (with_reducible first | refine Box.mk ?_ | refine And.intro (fun _ => ?_) (fun _ => ?_) | refine (forceH_eq _ _).mpr ?_) | refine ACall.of_pure (by assumption) (by rfl) ?_ | ((with_reducible show Exists _); refine ⟨_, ACall.of_pure (by assumption) (by rfl) ⟨rfl, rfl⟩, ?_⟩) | ((with_reducible show _ ∧ _ ∧ _); refine ⟨by omega, by omega, ?_⟩) | fail) <;> conv => whnf))
    refine ⟨by omega, lcs x, by rw [Int.toNat_natCast, lcl_get, hx]; rfl, rfl, ?_⟩
    (conv => whnf); (repeat' ((first | (with_reducible first | refine Box.mk ?_ | refine And.intro (fun _ => ?_) (fun _ => ?_) | refine (forceH_eq _ _).mpr ?_) | refine ACall.of_pure (by assumption) (by rfl) ?_ | ((with_reducible show Exists _); refine ⟨_, ACall.of_pure (by assumption) (by rfl) ⟨rfl, rfl⟩, ?_⟩) | ((with_reducible show _ ∧ _ ∧ _); refine ⟨by omega, by omega, ?_⟩) | fail) <;> conv => whnf))
    refine aloop (fun k : Nat => k ≤ U.length) (fun k => ⟨envL [(1, .sl (lcl L)), (2, .ptr 0 0), (5, .sl (nol (loadsM (cntL (upsM s (L.take i) ++ U.take k))))), (6, .int .i64 i), (7, .sl (pcl U)), (8, .int .i64 k)], [.box 26 (scs s)]⟩) (fun k => U.length - k) 0 (Nat.zero_le _) (weak_to ⟨rfl, rfl, by rw [List.take_zero, List.append_nil]; rfl, rfl, rfl, rfl, trivial⟩ rfl) ?_
    intro k hk
    (conv => whnf); (repeat' ((first | (with_reducible first | refine Box.mk ?_ | refine And.intro (fun _ => ?_) (fun _ => ?_) | refine (forceH_eq _ _).mpr ?_) | refine ACall.of_pure (by assumption) (by rfl) ?_ | ((with_reducible show Exists _); refine ⟨_, ACall.of_pure (by assumption) (by rfl) ⟨rfl, rfl⟩, ?_⟩) | ((with_reducible show _ ∧ _ ∧ _); refine ⟨by omega, by omega, ?_⟩) | fail) <;> conv => whnf))
    · rename_i hkl
      have hkl : k < U.length := by omega
      have hy := List.getElem?_eq_getElem hkl
      have hyo := hUo _ (List.mem_of_getElem? hy)
      have hsn : cntL (upsM s (L.take i) ++ U.take (k + 1)) = addM (cntL (upsM s (L.take i) ++ U.take k)) U[k] 1 := by
        rw [← cntU_snoc, List.append_assoc, List.take_add_one, hy]; rfl
      generalize U[k] = y at *
      have hll := cntL_len (upsM s (L.take i) ++ U.take k)
      have hlk := look_cntL (upsM s (L.take i) ++ U.take k) y
      rw [List.length_append] at hul hll hlk
      rw [List.length_take] at hll hlk
      have q3 := r23Add_ok (cntL (upsM s (L.take i) ++ U.take k)) (cntL_nodup _) y 1 (by decide) (by omega) (by omega)
      rw [← hsn] at q3
      refine ⟨by omega, lcs x, by rw [Int.toNat_natCast, lcl_get, hx]; rfl, rfl, ?_⟩
      (conv => whnf); (repeat' ((first | (with_reducible first | refine Box.mk ?_ | refine And.intro (fun _ => ?_) (fun _ => ?_) | refine (forceH_eq _ _).mpr ?_) | refine ACall.of_pure (by assumption) (by rfl) ?_ | ((with_reducible show Exists _); refine ⟨_, ACall.of_pure (by assumption) (by rfl) ⟨rfl, rfl⟩, ?_⟩) | ((with_reducible show _ ∧ _ ∧ _); refine ⟨by omega, by omega, ?_⟩) | fail) <;> conv => whnf))
      rotate_left
      · exfalso; rename_i h; have h : ¬ (0 : Int) < (x.2 : Int) := h; omega
      refine ⟨by omega, pcs y, by rw [Int.toNat_natCast, pcl_get, hy]; rfl, rfl, ?_⟩
      (conv => whnf); (repeat' ((first | (with_reducible first | refine Box.mk ?_ | refine And.intro (fun _ => ?_) (fun _ => ?_) | refine (forceH_eq _ _).mpr ?_) | refine ACall.of_pure (by assumption) (by rfl) ?_ | ((with_reducible show Exists _); refine ⟨_, ACall.of_pure (by assumption) (by rfl) ⟨rfl, rfl⟩, ?_⟩) | ((with_reducible show _ ∧ _ ∧ _); refine ⟨by omega, by omega, ?_⟩) | fail) <;> conv => whnf))
      exact ⟨k + 1, hkl, by omega, weak_to ⟨rfl, rfl, rfl, rfl, rfl, wrap_nat (m := 1) (by omega), trivial⟩ rfl⟩
    · rename_i hkl
      have : k = U.length := by omega
      subst this
      rw [List.take_length, ← hst]
      exact ⟨i + 1, hlt, by omega, weak_to ⟨rfl, rfl, rfl, wrap_nat (m := 1) (by omega), trivial⟩ rfl⟩
  · rename_i hlt
    have : i = L.length := by omega
    subst this
    rw [List.take_length]
    have hWl := loadsM_len (l := cntL (upsM s L))
    have hul := upsM_len s L
    have hcl := cntL_len (upsM s L)
    generalize loadsM (cntL (upsM s L)) = W at *
    generalize nds s = N at *
    have hnl := nol_len W
    have hNl := ncl_len N
    have hKl : (keysM W).length = W.length := by unfold keysM; simp
    (conv => whnf); (repeat' ((first | (with_reducible first | refine Box.mk ?_ | refine And.intro (fun _ => ?_) (fun _ => ?_) | refine (forceH_eq _ _).mpr ?_) | refine ACall.of_pure (by assumption) (by rfl) ?_ | ((with_reducible show Exists _); refine ⟨_, ACall.of_pure (by assumption) (by rfl) ⟨rfl, rfl⟩, ?_⟩) | ((with_reducible show _ ∧ _ ∧ _); refine ⟨by omega, by omega, ?_⟩) | fail) <;> conv => whnf))
    refine aloop (fun j : Nat => j ≤ N.length) (fun j => ⟨envL [(5, .sl (nol W)), (9, .own 0), (10, .sl (ncl N)), (11, .int .i64 j)], [] ++ [Ob.row 34 12 (pcl (outN (keysM W) (N.take j)))]⟩) (fun j => N.length - j) 0 (Nat.zero_le _) ?_ ?_
    · exact weak_nil1 [] (l1 := [(5, .sl (nol W)), (9, .nils), (10, .sl (ncl N)), (11, .int .i64 0)]) (H1 := []) 34 12 (by decide) rfl rfl rfl ⟨rfl, rfl, rfl, rfl, trivial⟩ ⟨.inl rfl, .inr ⟨rfl, rfl⟩, .inl rfl, .inl rfl, trivial⟩ trivial
    intro j hj
    (conv => whnf); (repeat' ((first | (with_reducible first | refine Box.mk ?_ | refine And.intro (fun _ => ?_) (fun _ => ?_) | refine (forceH_eq _ _).mpr ?_) | refine ACall.of_pure (by assumption) (by rfl) ?_ | ((with_reducible show Exists _); refine ⟨_, ACall.of_pure (by assumption) (by rfl) ⟨rfl, rfl⟩, ?_⟩) | ((with_reducible show _ ∧ _ ∧ _); refine ⟨by omega, by omega, ?_⟩) | fail) <;> conv => whnf))
    · rename_i hjl
      have hjl : j < N.length := by omega
      have hn := List.getElem?_eq_getElem hjl
      have hos := outN_step (K := keysM W) hn
      generalize N[j] = n at *
      have hol := outN_len (keysM W) (N.take j)
      rw [List.length_take, hKl] at hol
      have hol2 : min j N.length * W.length ≤ 33153 * 2121792 := Nat.mul_le_mul (by omega) (by omega)
      refine aloop (fun k : Nat => k ≤ W.length) (fun k => ⟨envL [(5, .sl (nol W)), (9, .own 0), (10, .sl (ncl N)), (11, .int .i64 j), (12, .int .i64 k)], [] ++ [Ob.row 34 12 (pcl (outN (keysM W) (N.take j) ++ selN ((keysM W).take k) n))]⟩) (fun k => W.length - k) 0 (Nat.zero_le _)
        (weak_ren_to [(0, true)] rfl rfl (by rw [List.take_zero, show selN [] n = [] from rfl, List.append_nil]; rfl) ⟨rfl, rfl, rfl, rfl, rfl, trivial⟩) ?_
      intro k hk
      (conv => whnf); (repeat' ((first | (with_reducible first | refine Box.mk ?_ | refine And.intro (fun _ => ?_) (fun _ => ?_) | refine (forceH_eq _ _).mpr ?_) | refine ACall.of_pure (by assumption) (by rfl) ?_ | ((with_reducible show Exists _); refine ⟨_, ACall.of_pure (by assumption) (by rfl) ⟨rfl, rfl⟩, ?_⟩) | ((with_reducible show _ ∧ _ ∧ _); refine ⟨by omega, by omega, ?_⟩) | fail) <;> conv => whnf))
      · rename_i hkl
        have hkl : k < W.length := by omega
        have hx := List.getElem?_eq_getElem hkl
        have hxk : (keysM W)[k]? = some W[k].1 := by unfold keysM; rw [List.getElem?_map, hx]; rfl
        have hss := selN_step (n := n) hxk
        generalize W[k] = x at *
        have hsl := selN_len ((keysM W).take k) n
        rw [List.length_take, hKl] at hsl
        have hpl := pcl_len (outN (keysM W) (N.take j) ++ selN ((keysM W).take k) n)
        rw [List.length_append] at hpl
        refine ⟨[], by kernel_rfl, ?_⟩
        (conv => whnf); (repeat' ((first | (with_reducible first | refine Box.mk ?_ | refine And.intro (fun _ => ?_) (fun _ => ?_) | refine (forceH_eq _ _).mpr ?_) | refine ACall.of_pure (by assumption) (by rfl) ?_ | ((with_reducible show Exists _); refine ⟨_, ACall.of_pure (by assumption) (by rfl) ⟨rfl, rfl⟩, ?_⟩) | ((with_reducible show _ ∧ _ ∧ _); refine ⟨by omega, by omega, ?_⟩) | fail) <;> conv => whnf))
        refine ⟨by omega, nod x, by rw [Int.toNat_natCast, nol_get, hx]; rfl, rfl, ?_⟩
        (conv => whnf); (repeat' ((first | (with_reducible first | refine Box.mk ?_ | refine And.intro (fun _ => ?_) (fun _ => ?_) | refine (forceH_eq _ _).mpr ?_) | refine ACall.of_pure (by assumption) (by rfl) ?_ | ((with_reducible show Exists _); refine ⟨_, ACall.of_pure (by assumption) (by rfl) ⟨rfl, rfl⟩, ?_⟩) | ((with_reducible show _ ∧ _ ∧ _); refine ⟨by omega, by omega, ?_⟩) | fail) <;> conv => whnf))
        refine ⟨by omega, ncs n, by rw [Int.toNat_natCast, ncl_get, hn]; rfl, rfl, ?_⟩
        (conv => whnf); (repeat' ((first | (with_reducible first | refine Box.mk ?_ | refine And.intro (fun _ => ?_) (fun _ => ?_) | refine (forceH_eq _ _).mpr ?_) | refine ACall.of_pure (by assumption) (by rfl) ?_ | ((with_reducible show Exists _); refine ⟨_, ACall.of_pure (by assumption) (by rfl) ⟨rfl, rfl⟩, ?_⟩) | ((with_reducible show _ ∧ _ ∧ _); refine ⟨by omega, by omega, ?_⟩) | fail) <;> conv => whnf))
        · rename_i heq
          rw [if_pos heq] at hss
          refine ⟨by omega, nod x, by rw [Int.toNat_natCast, nol_get, hx]; rfl, rfl, ?_⟩
          (conv => whnf); (repeat' ((first | (with_reducible first | refine Box.mk ?_ | refine And.intro (fun _ => ?_) (fun _ => ?_) | refine (forceH_eq _ _).mpr ?_) | refine ACall.of_pure (by assumption) (by rfl) ?_ | ((with_reducible show Exists _); refine ⟨_, ACall.of_pure (by assumption) (by rfl) ⟨rfl, rfl⟩, ?_⟩) | ((with_reducible show _ ∧ _ ∧ _); refine ⟨by omega, by omega, ?_⟩) | fail) <;> conv => whnf))
          refine ⟨fun c hc => by rw [List.mem_singleton.1 hc]; exact ⟨rfl, rfl⟩, by show (_ + 1) * 112 ≤ _; omega, by show _ + 1 ≤ _; omega, ?_⟩
          (conv => whnf); (repeat' ((first | (with_reducible first | refine Box.mk ?_ | refine And.intro (fun _ => ?_) (fun _ => ?_) | refine (forceH_eq _ _).mpr ?_) | refine ACall.of_pure (by assumption) (by rfl) ?_ | ((with_reducible show Exists _); refine ⟨_, ACall.of_pure (by assumption) (by rfl) ⟨rfl, rfl⟩, ?_⟩) | ((with_reducible show _ ∧ _ ∧ _); refine ⟨by omega, by omega, ?_⟩) | fail) <;> conv => whnf))
          refine ⟨k + 1, hkl, by omega, weak_ren_to [(2, true)] rfl rfl ?_ ⟨rfl, rfl, rfl, rfl, wrap_nat (m := 1) (by omega), trivial⟩⟩
          rw [hss, ← List.append_assoc, ← pcl_snoc]; rfl
        · rename_i heq
          rw [if_neg heq, List.append_nil] at hss
          refine ⟨k + 1, hkl, by omega, weak_ren_to [(0, true)] rfl rfl ?_ ⟨rfl, rfl, rfl, rfl, wrap_nat (m := 1) (by omega), trivial⟩⟩
          rw [hss]; rfl
      · rename_i hkl
        have : k = W.length := by omega
        subst this
        rw [← hKl, List.take_length, ← hos]
        exact ⟨j + 1, hjl, by omega, weak_ren_to [(0, true)] rfl rfl rfl ⟨rfl, rfl, rfl, wrap_nat (m := 1) (by omega), trivial⟩⟩
    · rename_i hjl
      have : j = N.length := by omega
      subst this
      rw [List.take_length]; rfl
theorem r35Over_ok (s : Sp) (m : Ml) (hI : MI s m) (hm : m.length ≤ 64) : PCall P 48 [rmv s (loadsM m)] (.sl (pcl (ovM s m))) := by
  have q1 := r29Over_ok s m hI hm
  refine PCall.of_awp tok mixed fn48 (Nat.le_of_ble_eq_true rfl) ?_
  (conv => whnf); (repeat' ((first | (with_reducible first | refine Box.mk ?_ | refine And.intro (fun _ => ?_) (fun _ => ?_) | refine (forceH_eq _ _).mpr ?_) | refine ACall.of_pure (by assumption) (by rfl) ?_ | ((with_reducible show Exists _); refine ⟨_, ACall.of_pure (by assumption) (by rfl) ⟨rfl, rfl⟩, ?_⟩) | ((with_reducible show ∃ L, drawR L _ = true ∧ _); refine ⟨[], by kernel_rfl, ?_⟩) | ((with_reducible show _ ∧ _ ∧ _); refine ⟨by omega, by omega, ?_⟩) | fail) <;> conv => whnf))
  rfl
end Go.Proofs.YtgaohmfmomeflaaGreatDoor
end

section
/- model: where a deed is; does a model tell what it should? -/
namespace Go.Proofs.YtgaohmfmomeflaaGreatDoor
open Go.Ve

theorem place_ok (a : Int) : PCall P 13 [.int .i64 a] (.int .i64 0) ∨ PCall P 13 [.int .i64 a] (.int .i64 1) := by
  by_cases h : Int.tmod a 2 = 0
  · refine .inl (PCall.of_awp tok mixed fn13 (Nat.le_of_ble_eq_true rfl) ?_)
    (conv => whnf); (repeat' ((first | (with_reducible first | refine Box.mk ?_ | refine And.intro (fun _ => ?_) (fun _ => ?_) | refine (forceH_eq _ _).mpr ?_) | refine ACall.of_pure (by assumption) (by rfl) ?_ | ((with_reducible show Exists _); refine ⟨_, ACall.of_pure (by assumption) (by rfl) ⟨rfl, rfl⟩, ?_⟩) | ((with_reducible show ∃ L, drawR L _ = true ∧ _); refine ⟨[], by kernel_rfl, ?_⟩) | ((with_reducible show _ ∧ _ ∧ _); refine ⟨by omega, by omega, ?_⟩) | fail) <;> conv => whnf))
    refine ⟨by decide, ?_⟩
    (conv => whnf); (repeat' ((first | (with_reducible first | refine Box.mk ?_ | refine And.intro (fun _ => ?_) (fun _ => ?_) | refine (forceH_eq _ _).mpr ?_) | refine ACall.of_pure (by assumption) (by rfl) ?_ | ((with_reducible show Exists _); refine ⟨_, ACall.of_pure (by assumption) (by rfl) ⟨rfl, rfl⟩, ?_⟩) | ((with_reducible show ∃ L, drawR L _ = true ∧ _); refine ⟨[], by kernel_rfl, ?_⟩) | ((with_reducible show _ ∧ _ ∧ _); refine ⟨by omega, by omega, ?_⟩) | fail) <;> conv => whnf))
    all_goals first
      | rfl
      | (rename_i h2; exact absurd h h2)
  · refine .inr (PCall.of_awp tok mixed fn13 (Nat.le_of_ble_eq_true rfl) ?_)
    (conv => whnf); (repeat' ((first | (with_reducible first | refine Box.mk ?_ | refine And.intro (fun _ => ?_) (fun _ => ?_) | refine (forceH_eq _ _).mpr ?_) | refine ACall.of_pure (by assumption) (by rfl) ?_ | ((with_reducible show Exists _); refine ⟨_, ACall.of_pure (by assumption) (by rfl) ⟨rfl, rfl⟩, ?_⟩) | ((with_reducible show ∃ L, drawR L _ = true ∧ _); refine ⟨[], by kernel_rfl, ?_⟩) | ((with_reducible show _ ∧ _ ∧ _); refine ⟨by omega, by omega, ?_⟩) | fail) <;> conv => whnf))
    refine ⟨by decide, ?_⟩
    (conv => whnf); (repeat' ((first | (with_reducible first | refine Box.mk ?_ | refine And.intro (fun _ => ?_) (fun _ => ?_) | refine (forceH_eq _ _).mpr ?_) | refine ACall.of_pure (by assumption) (by rfl) ?_ | ((with_reducible show Exists _); refine ⟨_, ACall.of_pure (by assumption) (by rfl) ⟨rfl, rfl⟩, ?_⟩) | ((with_reducible show ∃ L, drawR L _ = true ∧ _); refine ⟨[], by kernel_rfl, ?_⟩) | ((with_reducible show _ ∧ _ ∧ _); refine ⟨by omega, by omega, ?_⟩) | fail) <;> conv => whnf))
    all_goals first
      | rfl
      | (rename_i h2; exact absurd h2 h)
theorem same35_ok (s : Sp) (m : Ml) (hI : MI s m) (hm : m.length ≤ 64) (p : Px) (hp : POk p) :
    DCall P 19 [.ptr 0 0, rmv s (loadsM m), pxv p] (MH s m) (.bool true) (MH s m) := by
  have hLl := loadsM_len (l := m)
  have ht := hI.tot
  have eT : totM (loadsM m) = totM m := sumF_loadsM _ hI.nodup
  have eW : wgt s (loadsM m) p = wgt s m p := sumF_loadsM _ hI.nodup
  have w1 := space_ok s m
  have w2 := total_ok s m
  have w3 := weight_ok s m hI p hp
  have w4 := loads_ok s m hI
  have w5 := mOver_ok s m hI
  have q2 := r29Total_ok (loadsM m) (by omega) (by omega)
  have q3 := r35Weight_ok s (loadsM m) p hp (fun x hx => hI.ok.loads.at hx) (by omega) (by omega)
  have q4 := r35Loads_ok s (loadsM m) (by omega) (by omega)
  have q5 := r35Over_ok s m hI hm
  have q6 := lsame_ok (loadsM m) (by omega)
  have q7 := psame2_ok (ovM s m) (Nat.le_trans (ovM_len _ _) (by omega))
  rw [putAll_loads hI.nodup] at q4
  rw [eT] at q2
  rw [eW] at q3
  refine DCall.of_awp tok mixed fn19 (Nat.le_of_ble_eq_true rfl) ?_
  (conv => whnf); (repeat' ((first | (with_reducible first | refine Box.mk ?_ | refine And.intro (fun _ => ?_) (fun _ => ?_) | refine (forceH_eq _ _).mpr ?_) | refine ACall.of_pure (by assumption) (by rfl) ?_ | ((with_reducible show Exists _); refine ⟨_, ACall.of_pure (by assumption) (by rfl) ⟨rfl, rfl⟩, ?_⟩) | ((with_reducible show _ ∧ _ ∧ _); refine ⟨by omega, by omega, ?_⟩) | fail) <;> conv => whnf))
  refine ⟨[], by kernel_rfl, ?_⟩
  (conv => whnf); (repeat' ((first | (with_reducible first | refine Box.mk ?_ | refine And.intro (fun _ => ?_) (fun _ => ?_) | refine (forceH_eq _ _).mpr ?_) | refine ACall.of_pure (by assumption) (by rfl) ?_ | ((with_reducible show Exists _); refine ⟨_, ACall.of_pure (by assumption) (by rfl) ⟨rfl, rfl⟩, ?_⟩) | ((with_reducible show _ ∧ _ ∧ _); refine ⟨by omega, by omega, ?_⟩) | fail) <;> conv => whnf))
  refine aDr [0, 1] w1 rfl rfl rfl rfl ?_
  (conv => whnf); (repeat' ((first | (with_reducible first | refine Box.mk ?_ | refine And.intro (fun _ => ?_) (fun _ => ?_) | refine (forceH_eq _ _).mpr ?_) | refine ACall.of_pure (by assumption) (by rfl) ?_ | ((with_reducible show Exists _); refine ⟨_, ACall.of_pure (by assumption) (by rfl) ⟨rfl, rfl⟩, ?_⟩) | ((with_reducible show _ ∧ _ ∧ _); refine ⟨by omega, by omega, ?_⟩) | fail) <;> conv => whnf))
  rotate_left
  · rename_i h; exact absurd ⟨rfl, rfl, rfl, rfl, rfl, rfl, rfl⟩ h
  refine aDr [0, 1] w2 rfl rfl rfl rfl ?_
  (conv => whnf); (repeat' ((first | (with_reducible first | refine Box.mk ?_ | refine And.intro (fun _ => ?_) (fun _ => ?_) | refine (forceH_eq _ _).mpr ?_) | refine ACall.of_pure (by assumption) (by rfl) ?_ | ((with_reducible show Exists _); refine ⟨_, ACall.of_pure (by assumption) (by rfl) ⟨rfl, rfl⟩, ?_⟩) | ((with_reducible show _ ∧ _ ∧ _); refine ⟨by omega, by omega, ?_⟩) | fail) <;> conv => whnf))
  rotate_left
  · rename_i h; exact absurd rfl h
  refine aDr [0, 1] w3 rfl rfl rfl rfl ?_
  (conv => whnf); (repeat' ((first | (with_reducible first | refine Box.mk ?_ | refine And.intro (fun _ => ?_) (fun _ => ?_) | refine (forceH_eq _ _).mpr ?_) | refine ACall.of_pure (by assumption) (by rfl) ?_ | ((with_reducible show Exists _); refine ⟨_, ACall.of_pure (by assumption) (by rfl) ⟨rfl, rfl⟩, ?_⟩) | ((with_reducible show _ ∧ _ ∧ _); refine ⟨by omega, by omega, ?_⟩) | fail) <;> conv => whnf))
  rotate_left
  · rename_i h; exact absurd rfl h
  refine aDr [0, 1] w4 rfl rfl rfl rfl ?_
  (conv => whnf); (repeat' ((first | (with_reducible first | refine Box.mk ?_ | refine And.intro (fun _ => ?_) (fun _ => ?_) | refine (forceH_eq _ _).mpr ?_) | refine ACall.of_pure (by assumption) (by rfl) ?_ | ((with_reducible show Exists _); refine ⟨_, ACall.of_pure (by assumption) (by rfl) ⟨rfl, rfl⟩, ?_⟩) | ((with_reducible show _ ∧ _ ∧ _); refine ⟨by omega, by omega, ?_⟩) | fail) <;> conv => whnf))
  refine aDr [0, 1] w5 rfl rfl rfl rfl ?_
  (conv => whnf); (repeat' ((first | (with_reducible first | refine Box.mk ?_ | refine And.intro (fun _ => ?_) (fun _ => ?_) | refine (forceH_eq _ _).mpr ?_) | refine ACall.of_pure (by assumption) (by rfl) ?_ | ((with_reducible show Exists _); refine ⟨_, ACall.of_pure (by assumption) (by rfl) ⟨rfl, rfl⟩, ?_⟩) | ((with_reducible show _ ∧ _ ∧ _); refine ⟨by omega, by omega, ?_⟩) | fail) <;> conv => whnf))
  exact weak_ren_to [(0, true), (1, true)] rfl rfl rfl ⟨rfl, trivial⟩
end Go.Proofs.YtgaohmfmomeflaaGreatDoor
end

section
/- model: what becomes of a deed, in the model and in the document. -/
namespace Go.Proofs.YtgaohmfmomeflaaGreatDoor
open Go.Ve

def mjoinE (m m' : Ml) : Int := if totM m + totM m' ≤ 4611686018427387904 then 0 else 13
theorem mjoin_ok (s : Sp) (l l' : Ml) (hI : MI s l) (hI' : MI s l') :
    DCall P 16 [.ptr 0 0, .ptr 2 0] (MHat 0 s l ++ MHat 2 s l') (.int .i64 (mjoinE l l')) (MHat 0 s (joinT l l') ++ MHat 2 s l') := by
  unfold mjoinE joinT
  by_cases h : totM l + totM l' ≤ 4611686018427387904
  · rw [if_pos h, if_pos h]; exact join_good s l l' hI hI' h
  · rw [if_neg h, if_neg h]; exact join_over s l l' hI hI' (by omega)
theorem mjoinS_ok (s : Sp) (l : Ml) (hI : MI s l) :
    DCall P 16 [.ptr 0 0, .ptr 0 0] (MHat 0 s l) (.int .i64 (mjoinE l l)) (MHat 0 s (joinT l l)) := by
  unfold mjoinE joinT
  by_cases h : totM l + totM l ≤ 4611686018427387904
  · rw [if_pos h, if_pos h]; exact join_self s l hI h
  · rw [if_neg h, if_neg h]; exact join_self_over s l hI (by omega)
def rjoinL (m m' : Ml) : Ml := if totM m + totM m' ≤ 4611686018427387904 then loadsM m ++ loadsM m' else loadsM m
theorem tot_loads {m : Ml} (hn : (keysM m).Nodup) : totM (loadsM m) = totM m := sumF_loadsM _ hn
/-- What the document does. -/
theorem rjoin_ok (s : Sp) (m m' : Ml) (hI : MI s m) (hI' : MI s m') (hl : m.length ≤ 64) (hl' : m'.length ≤ 64) :
    DCall P 17 [rmv s (loadsM m), rmv s (loadsM m')] [] (.tup [rmv s (rjoinL m m'), .int .i64 (mjoinE m m')]) [] ∧
    PCall P 18 [rmv s (rjoinL m m')] (.sl (lcl (loadsM (joinT m m')))) := by
  have t1 := tot_loads hI.nodup
  have t2 := tot_loads hI'.nodup
  have a1 := hI.tot
  have a2 := hI'.tot
  have l1 := loadsM_len (l := m)
  have l2 := loadsM_len (l := m')
  have h1 := r35Join_ok s (loadsM m) (loadsM m') (by omega) (by omega) (by omega) (by omega)
  rw [t1, t2] at h1
  unfold rjoinL mjoinE joinT
  refine ⟨h1, ?_⟩
  by_cases h : totM m + totM m' ≤ 4611686018427387904
  · rw [if_pos h, if_pos h, ← tell_join hI.nodup]
    refine r35Loads_ok s _ ?_ (by rw [List.length_append]; omega)
    have : totM (loadsM m ++ loadsM m') = totM (loadsM m) + totM (loadsM m') := sumF_app _ _ _
    omega
  · rw [if_neg h, if_neg h]
    have := r35Loads_ok s (loadsM m) (by omega) (by omega)
    rwa [putAll_loads hI.nodup] at this
theorem rput_ok (s : Sp) (m : Ml) (hI : MI s m) (hl : m.length ≤ 64) (p : Px) (hp : POk p) (w : Nat) :
    DCall P 15 [rmv s (loadsM m), pxv p, .int .u64 (w : Int)] [] (.tup [rmv s (rputL s (loadsM m) p w), .int .i64 (putE s m p w)]) [] ∧
    PCall P 18 [rmv s (rputL s (loadsM m) p w)] (.sl (lcl (loadsM (putM s m p w)))) := by
  have t1 := tot_loads hI.nodup
  have a1 := hI.tot
  have l1 := loadsM_len (l := m)
  have he : putE s (loadsM m) p w = putE s m p w := by unfold putE; rw [t1]
  have h1 := r35Put_ok s (loadsM m) p w hp (by omega) (by omega)
  rw [he] at h1
  refine ⟨h1, ?_⟩
  unfold rputL putM
  rw [he]
  by_cases h : putE s m p w = 0
  · rw [if_pos h, if_pos h, ← tell_put hI.nodup]
    refine r35Loads_ok s _ ?_ (by rw [List.length_append]; show _ + 1 ≤ _; omega)
    have e : totM (loadsM m ++ [(p, w)]) = totM (loadsM m) + w := by rw [totM, sumF_app, sumF_cons, cond_true, sumF_nil]; rfl
    unfold putE at h
    cases hr : leafR s p
    · rw [hr, cond_false] at h; cases h
    · rw [hr, cond_true] at h
      by_cases ho : 4611686018427387904 - totM m < w
      · rw [if_pos ho] at h; cases h
      · omega
  · rw [if_neg h, if_neg h]
    have := r35Loads_ok s (loadsM m) (by omega) (by omega)
    rwa [putAll_loads hI.nodup] at this
theorem rstay_ok (s : Sp) (m : Ml) (hI : MI s m) (hl : m.length ≤ 64) : PCall P 18 [rmv s (loadsM m)] (.sl (lcl (loadsM m))) := by
  have t1 := tot_loads hI.nodup
  have a1 := hI.tot
  have l1 := loadsM_len (l := m)
  have := r35Loads_ok s (loadsM m) (by omega) (by omega)
  rwa [putAll_loads hI.nodup] at this
end Go.Proofs.YtgaohmfmomeflaaGreatDoor
end

section
/- model, the laws: any deeds at two models (printed by wip/tools/tellgen.py). -/
namespace Go.Proofs.YtgaohmfmomeflaaGreatDoor
open Go.Ve

structure Ac where
  kind : Int
  at' : Int
  p : Px
  w : Nat
def acs (x : Ac) : List AV := [.int .i64 x.kind, .int .i64 x.at', .int .i64 x.p.a0, .int .i64 x.p.a1, .int .i64 x.p.k0.kind, .int .i64 x.p.k0.len, .int .u64 ((x.p.k0.n / H64 : Nat) : Int), .int .u64 ((x.p.k0.n % H64 : Nat) : Int), .str x.p.k0.path,
  .int .i64 x.p.k1.kind, .int .i64 x.p.k1.len, .int .u64 ((x.p.k1.n / H64 : Nat) : Int), .int .u64 ((x.p.k1.n % H64 : Nat) : Int), .str x.p.k1.path, .int .u64 (x.w : Int)]
def acl (l : List Ac) : List (List AV) := l.map acs
theorem acl_len (l : List Ac) : (acl l).length = l.length := by simp [acl]
theorem acl_get (l : List Ac) (i : Nat) : (acl l)[i]? = (l[i]?).map acs := by simp [acl]
def TH (s : Sp) (p : Px) (A B LA LB : Ml) : Hp := [.box 26 (scs s), .box 34 (pcs p)] ++ MHat 2 s A ++ MHat 4 s B ++
  [Ob.box 37 [.ptr 2 0, .ptr 4 0], Ob.box 43 [.int .i64 s.n, .int .i64 s.d0.kind, .int .i64 s.d0.side, .int .i64 s.d0.step, .int .i64 s.d1.kind, .int .i64 s.d1.side, .int .i64 s.d1.step, .sl (lcl LA),
    .int .i64 s.n, .int .i64 s.d0.kind, .int .i64 s.d0.side, .int .i64 s.d0.step, .int .i64 s.d1.kind, .int .i64 s.d1.side, .int .i64 s.d1.step, .sl (lcl LB)]]
theorem mtells_no (s : Sp) (l : List Ac) (p : Px) (hs : soundS s = false) : PCall P 3 [spv s, .sl (acl l), pxv p] (.bool true) := by
  have c1 := new_nil s hs
  have c2 := alive35_ok
  have c3 := r9Sound_ok s
  rw [hs] at c3
  refine PCall.of_awp tok mixed fn3 (Nat.le_of_ble_eq_true rfl) ?_
  (conv => whnf); (repeat' ((first | (with_reducible first | refine Box.mk ?_ | refine And.intro (fun _ => ?_) (fun _ => ?_) | refine (forceH_eq _ _).mpr ?_) | refine ACall.of_pure (by assumption) (by rfl) ?_ | ((with_reducible show Exists _); refine ⟨_, ACall.of_pure (by assumption) (by rfl) ⟨rfl, rfl⟩, ?_⟩) | ((with_reducible show _ ∧ _ ∧ _); refine ⟨by omega, by omega, ?_⟩) | fail) <;> conv => whnf))
  refine ⟨[(5, [0, 1, 2, 3])], by kernel_rfl, ?_⟩
  (conv => whnf); (repeat' ((first | (with_reducible first | refine Box.mk ?_ | refine And.intro (fun _ => ?_) (fun _ => ?_) | refine (forceH_eq _ _).mpr ?_) | refine ACall.of_pure (by assumption) (by rfl) ?_ | ((with_reducible show Exists _); refine ⟨_, ACall.of_pure (by assumption) (by rfl) ⟨rfl, rfl⟩, ?_⟩) | ((with_reducible show _ ∧ _ ∧ _); refine ⟨by omega, by omega, ?_⟩) | fail) <;> conv => whnf))
  (refine And.intro ?_ ?_); (focus ((conv => whnf); (repeat' first | exact trivial | ((refine And.intro ?_ ?_); (focus ((conv => whnf); (first | exact ⟨rfl, rfl⟩ | exact ⟨by decide, by decide, rfl, rfl⟩ | exact ⟨by omega, by omega, rfl, rfl⟩ | exact ⟨by (simp only [List.length_drop, List.length_take]; omega), rfl, rfl⟩ | exact ⟨_, rfl, rfl, rfl⟩ | exact ⟨by omega, _, by assumption, rfl, rfl, rfl⟩ | ((refine ACall.of_pure (by assumption) (by rfl) ?_); (refine And.intro ?_ ?_ <;> rfl))))); (conv => whnf)))))
  (conv => whnf); (repeat' ((first | (with_reducible first | refine Box.mk ?_ | refine And.intro (fun _ => ?_) (fun _ => ?_) | refine (forceH_eq _ _).mpr ?_) | refine ACall.of_pure (by assumption) (by rfl) ?_ | ((with_reducible show Exists _); refine ⟨_, ACall.of_pure (by assumption) (by rfl) ⟨rfl, rfl⟩, ?_⟩) | ((with_reducible show _ ∧ _ ∧ _); refine ⟨by omega, by omega, ?_⟩) | fail) <;> conv => whnf))
  all_goals first
    | rfl
    | (rename_i h; exact absurd trivial h)
/-- Both models, within what has been put. -/
def TInv (s : Sp) (l : List Ac) (x : Nat × Ml × Ml) : Prop := x.1 ≤ l.length ∧ x.1 ≤ 24 ∧ ∃ K : List Px, K.length ≤ x.1 ∧ TIn s K x.2.1 ∧ TIn s K x.2.2
theorem ModelTells_ok (s : Sp) (l : List Ac) (ho : ∀ x ∈ l, POk x.p) (p : Px) (hp : POk p) : PCall P 3 [spv s, .sl (acl l), pxv p] (.bool true) := by
  cases hs : soundS s
  · exact mtells_no s l p hs
  have c1 := new_ok s hs
  have c2 := alive35_ok
  have c3 := r9Sound_ok s
  rw [hs] at c3
  have hlc := acl_len l
  refine PCall.of_awp tok mixed fn3 (Nat.le_of_ble_eq_true rfl) ?_
  (conv => whnf); (repeat' ((first | (with_reducible first | refine Box.mk ?_ | refine And.intro (fun _ => ?_) (fun _ => ?_) | refine (forceH_eq _ _).mpr ?_) | refine ACall.of_pure (by assumption) (by rfl) ?_ | ((with_reducible show Exists _); refine ⟨_, ACall.of_pure (by assumption) (by rfl) ⟨rfl, rfl⟩, ?_⟩) | ((with_reducible show _ ∧ _ ∧ _); refine ⟨by omega, by omega, ?_⟩) | fail) <;> conv => whnf))
  refine ⟨[(2001, []), (2003, []), (1004, []), (5, [0, 2]), (3002, [1])], by kernel_rfl, ?_⟩
  (conv => whnf); (repeat' ((first | (with_reducible first | refine Box.mk ?_ | refine And.intro (fun _ => ?_) (fun _ => ?_) | refine (forceH_eq _ _).mpr ?_) | refine ACall.of_pure (by assumption) (by rfl) ?_ | ((with_reducible show Exists _); refine ⟨_, ACall.of_pure (by assumption) (by rfl) ⟨rfl, rfl⟩, ?_⟩) | ((with_reducible show _ ∧ _ ∧ _); refine ⟨by omega, by omega, ?_⟩) | fail) <;> conv => whnf))
  refine aDw [] c1 rfl rfl rfl ?_
  (conv => whnf); (repeat' ((first | (with_reducible first | refine Box.mk ?_ | refine And.intro (fun _ => ?_) (fun _ => ?_) | refine (forceH_eq _ _).mpr ?_) | refine ACall.of_pure (by assumption) (by rfl) ?_ | ((with_reducible show Exists _); refine ⟨_, ACall.of_pure (by assumption) (by rfl) ⟨rfl, rfl⟩, ?_⟩) | ((with_reducible show _ ∧ _ ∧ _); refine ⟨by omega, by omega, ?_⟩) | fail) <;> conv => whnf))
  (refine And.intro ?_ ?_); (focus ((conv => whnf); (repeat' first | exact trivial | ((refine And.intro ?_ ?_); (focus ((conv => whnf); (first | exact ⟨rfl, rfl⟩ | exact ⟨by decide, by decide, rfl, rfl⟩ | exact ⟨by omega, by omega, rfl, rfl⟩ | exact ⟨by (simp only [List.length_drop, List.length_take]; omega), rfl, rfl⟩ | exact ⟨_, rfl, rfl, rfl⟩ | exact ⟨by omega, _, by assumption, rfl, rfl, rfl⟩ | ((refine ACall.of_pure (by assumption) (by rfl) ?_); (refine And.intro ?_ ?_ <;> rfl))))); (conv => whnf)))))
  (conv => whnf); (repeat' ((first | (with_reducible first | refine Box.mk ?_ | refine And.intro (fun _ => ?_) (fun _ => ?_) | refine (forceH_eq _ _).mpr ?_) | refine ACall.of_pure (by assumption) (by rfl) ?_ | ((with_reducible show Exists _); refine ⟨_, ACall.of_pure (by assumption) (by rfl) ⟨rfl, rfl⟩, ?_⟩) | ((with_reducible show _ ∧ _ ∧ _); refine ⟨by omega, by omega, ?_⟩) | fail) <;> conv => whnf))
  refine aDw [] c1 rfl rfl rfl ?_
  (conv => whnf); (repeat' ((first | (with_reducible first | refine Box.mk ?_ | refine And.intro (fun _ => ?_) (fun _ => ?_) | refine (forceH_eq _ _).mpr ?_) | refine ACall.of_pure (by assumption) (by rfl) ?_ | ((with_reducible show Exists _); refine ⟨_, ACall.of_pure (by assumption) (by rfl) ⟨rfl, rfl⟩, ?_⟩) | ((with_reducible show _ ∧ _ ∧ _); refine ⟨by omega, by omega, ?_⟩) | fail) <;> conv => whnf))
  (refine And.intro ?_ ?_); (focus ((conv => whnf); (repeat' first | exact trivial | ((refine And.intro ?_ ?_); (focus ((conv => whnf); (first | exact ⟨rfl, rfl⟩ | exact ⟨by decide, by decide, rfl, rfl⟩ | exact ⟨by omega, by omega, rfl, rfl⟩ | exact ⟨by (simp only [List.length_drop, List.length_take]; omega), rfl, rfl⟩ | exact ⟨_, rfl, rfl, rfl⟩ | exact ⟨by omega, _, by assumption, rfl, rfl, rfl⟩ | ((refine ACall.of_pure (by assumption) (by rfl) ?_); (refine And.intro ?_ ?_ <;> rfl))))); (conv => whnf)))))
  (conv => whnf); (repeat' ((first | (with_reducible first | refine Box.mk ?_ | refine And.intro (fun _ => ?_) (fun _ => ?_) | refine (forceH_eq _ _).mpr ?_) | refine ACall.of_pure (by assumption) (by rfl) ?_ | ((with_reducible show Exists _); refine ⟨_, ACall.of_pure (by assumption) (by rfl) ⟨rfl, rfl⟩, ?_⟩) | ((with_reducible show _ ∧ _ ∧ _); refine ⟨by omega, by omega, ?_⟩) | fail) <;> conv => whnf))
  all_goals try contradiction
  refine aloop (TInv s l) (fun x => ⟨envL [(1, .sl (acl l)), (5, .ptr 1 0), (6, .bool false), (7, .ptr 6 0), (8, .ptr 7 0), (9, .int .i64 (x.1 : Int))], TH s p x.2.1 x.2.2 (loadsM x.2.1) (loadsM x.2.2)⟩) (fun x => l.length - x.1) (0, [], []) ⟨Nat.zero_le _, Nat.zero_le _, [], Nat.zero_le _, TIn.nil hs, TIn.nil hs⟩ ?_ ?_
  · show Weak 0 _ ⟨envL [(1, .sl (acl l)), (5, .ptr 1 0), (6, .bool false), (7, .ptr 6 0), (8, .ptr 7 0), (9, .int .i64 0)], TH s p [] [] (loadsM []) (loadsM [])⟩
    rw [loadsM_nil]
    exact weak_nils rfl ⟨rfl, rfl, rfl, rfl, rfl, rfl, trivial⟩
  rintro ⟨i, A, B⟩ ⟨hi, hi2, K, hK, hA, hB⟩
  have hi : i ≤ l.length := hi
  have hi2 : i ≤ 24 := hi2
  have hK : K.length ≤ i := hK
  have hA : TIn s K A := hA
  have hB : TIn s K B := hB
  have lA := hA.len
  have lB := hB.len
  have a1 := same35_ok s A hA.mi (by omega) p hp
  have a2 := same35_ok s B hB.mi (by omega) p hp
  (conv => whnf); (repeat' ((first | (with_reducible first | refine Box.mk ?_ | refine And.intro (fun _ => ?_) (fun _ => ?_) | refine (forceH_eq _ _).mpr ?_) | refine ACall.of_pure (by assumption) (by rfl) ?_ | ((with_reducible show Exists _); refine ⟨_, ACall.of_pure (by assumption) (by rfl) ⟨rfl, rfl⟩, ?_⟩) | ((with_reducible show _ ∧ _ ∧ _); refine ⟨by omega, by omega, ?_⟩) | fail) <;> conv => whnf))
  · rename_i h1 h2
    have hil : i < l.length := by omega
    have h24 : i + 1 ≤ 24 := by have h2 : (i : Int) < 24 := h2; omega
    have hx := List.getElem?_eq_getElem hil
    have hxo := ho _ (List.mem_of_getElem? hx)
    generalize l[i] = x at *
    rcases place_ok x.at' with pl | pl
    · have hM := hA
      have hO := hB
      refine ⟨by omega, acs x, by rw [Int.toNat_natCast, acl_get, hx]; rfl, rfl, ?_⟩
      (conv => whnf); (repeat' ((first | (with_reducible first | refine Box.mk ?_ | refine And.intro (fun _ => ?_) (fun _ => ?_) | refine (forceH_eq _ _).mpr ?_) | refine ACall.of_pure (by assumption) (by rfl) ?_ | ((with_reducible show Exists _); refine ⟨_, ACall.of_pure (by assumption) (by rfl) ⟨rfl, rfl⟩, ?_⟩) | ((with_reducible show _ ∧ _ ∧ _); refine ⟨by omega, by omega, ?_⟩) | fail) <;> conv => whnf))
      refine ⟨by omega, acs x, by rw [Int.toNat_natCast, acl_get, hx]; rfl, rfl, ?_⟩
      (conv => whnf); (repeat' ((first | (with_reducible first | refine Box.mk ?_ | refine And.intro (fun _ => ?_) (fun _ => ?_) | refine (forceH_eq _ _).mpr ?_) | refine ACall.of_pure (by assumption) (by rfl) ?_ | ((with_reducible show Exists _); refine ⟨_, ACall.of_pure (by assumption) (by rfl) ⟨rfl, rfl⟩, ?_⟩) | ((with_reducible show _ ∧ _ ∧ _); refine ⟨by omega, by omega, ?_⟩) | fail) <;> conv => whnf))
      · have d1 := put_ok s A hM.mi x.p hxo x.w
        rw [show MH s A = MHat 0 s A from rfl] at d1
        have d2 := rput_ok s A hM.mi (by omega) x.p hxo x.w
        have hT := hM.put hxo x.w (by omega)
        generalize putE s A x.p x.w = e at *
        generalize rputL s (loadsM A) x.p x.w = R at *
        generalize putM s A x.p x.w = T at *
        obtain ⟨d2, d3⟩ := d2
        refine ⟨[(2015, [])], by kernel_rfl, ?_⟩
        (conv => whnf); (repeat' ((first | (with_reducible first | refine Box.mk ?_ | refine And.intro (fun _ => ?_) (fun _ => ?_) | refine (forceH_eq _ _).mpr ?_) | refine ACall.of_pure (by assumption) (by rfl) ?_ | ((with_reducible show Exists _); refine ⟨_, ACall.of_pure (by assumption) (by rfl) ⟨rfl, rfl⟩, ?_⟩) | ((with_reducible show _ ∧ _ ∧ _); refine ⟨by omega, by omega, ?_⟩) | fail) <;> conv => whnf))
        refine ⟨by omega, acs x, by rw [Int.toNat_natCast, acl_get, hx]; rfl, rfl, ?_⟩
        (conv => whnf); (repeat' ((first | (with_reducible first | refine Box.mk ?_ | refine And.intro (fun _ => ?_) (fun _ => ?_) | refine (forceH_eq _ _).mpr ?_) | refine ACall.of_pure (by assumption) (by rfl) ?_ | ((with_reducible show Exists _); refine ⟨_, ACall.of_pure (by assumption) (by rfl) ⟨rfl, rfl⟩, ?_⟩) | ((with_reducible show _ ∧ _ ∧ _); refine ⟨by omega, by omega, ?_⟩) | fail) <;> conv => whnf))
        refine ⟨by omega, acs x, by rw [Int.toNat_natCast, acl_get, hx]; rfl, rfl, ?_⟩
        (conv => whnf); (repeat' ((first | (with_reducible first | refine Box.mk ?_ | refine And.intro (fun _ => ?_) (fun _ => ?_) | refine (forceH_eq _ _).mpr ?_) | refine ACall.of_pure (by assumption) (by rfl) ?_ | ((with_reducible show Exists _); refine ⟨_, ACall.of_pure (by assumption) (by rfl) ⟨rfl, rfl⟩, ?_⟩) | ((with_reducible show _ ∧ _ ∧ _); refine ⟨by omega, by omega, ?_⟩) | fail) <;> conv => whnf))
        refine aDw [2, 3] d1 rfl rfl rfl ?_
        (conv => whnf); (repeat' ((first | (with_reducible first | refine Box.mk ?_ | refine And.intro (fun _ => ?_) (fun _ => ?_) | refine (forceH_eq _ _).mpr ?_) | refine ACall.of_pure (by assumption) (by rfl) ?_ | ((with_reducible show Exists _); refine ⟨_, ACall.of_pure (by assumption) (by rfl) ⟨rfl, rfl⟩, ?_⟩) | ((with_reducible show _ ∧ _ ∧ _); refine ⟨by omega, by omega, ?_⟩) | fail) <;> conv => whnf))
        refine ⟨[], by kernel_rfl, ?_⟩
        (conv => whnf); (repeat' ((first | (with_reducible first | refine Box.mk ?_ | refine And.intro (fun _ => ?_) (fun _ => ?_) | refine (forceH_eq _ _).mpr ?_) | refine ACall.of_pure (by assumption) (by rfl) ?_ | ((with_reducible show Exists _); refine ⟨_, ACall.of_pure (by assumption) (by rfl) ⟨rfl, rfl⟩, ?_⟩) | ((with_reducible show _ ∧ _ ∧ _); refine ⟨by omega, by omega, ?_⟩) | fail) <;> conv => whnf))
        refine ⟨by omega, acs x, by rw [Int.toNat_natCast, acl_get, hx]; rfl, rfl, ?_⟩
        (conv => whnf); (repeat' ((first | (with_reducible first | refine Box.mk ?_ | refine And.intro (fun _ => ?_) (fun _ => ?_) | refine (forceH_eq _ _).mpr ?_) | refine ACall.of_pure (by assumption) (by rfl) ?_ | ((with_reducible show Exists _); refine ⟨_, ACall.of_pure (by assumption) (by rfl) ⟨rfl, rfl⟩, ?_⟩) | ((with_reducible show _ ∧ _ ∧ _); refine ⟨by omega, by omega, ?_⟩) | fail) <;> conv => whnf))
        refine ⟨by omega, acs x, by rw [Int.toNat_natCast, acl_get, hx]; rfl, rfl, ?_⟩
        (conv => whnf); (repeat' ((first | (with_reducible first | refine Box.mk ?_ | refine And.intro (fun _ => ?_) (fun _ => ?_) | refine (forceH_eq _ _).mpr ?_) | refine ACall.of_pure (by assumption) (by rfl) ?_ | ((with_reducible show Exists _); refine ⟨_, ACall.of_pure (by assumption) (by rfl) ⟨rfl, rfl⟩, ?_⟩) | ((with_reducible show _ ∧ _ ∧ _); refine ⟨by omega, by omega, ?_⟩) | fail) <;> conv => whnf))
        refine aDr [] d2 rfl rfl rfl rfl ?_
        (conv => whnf); (repeat' ((first | (with_reducible first | refine Box.mk ?_ | refine And.intro (fun _ => ?_) (fun _ => ?_) | refine (forceH_eq _ _).mpr ?_) | refine ACall.of_pure (by assumption) (by rfl) ?_ | ((with_reducible show Exists _); refine ⟨_, ACall.of_pure (by assumption) (by rfl) ⟨rfl, rfl⟩, ?_⟩) | ((with_reducible show _ ∧ _ ∧ _); refine ⟨by omega, by omega, ?_⟩) | fail) <;> conv => whnf))
        rotate_left
        · rename_i h; exact absurd rfl h
        exact ⟨(i + 1, T, B), ⟨hil, h24, x.p :: K, by rw [List.length_cons]; show _ + 1 ≤ i + 1; omega, hT, hB.more x.p⟩, by show l.length - (i + 1) < l.length - i; omega, weak_ren_to [(0, true), (1, true), (2, true), (3, true), (4, true), (5, true), (6, true), (7, true)] rfl rfl rfl ⟨rfl, rfl, rfl, rfl, rfl, wrap_nat (m := 1) (by omega), trivial⟩⟩
      · have d1 := mjoin_ok s A B hM.mi hO.mi
        have d2 := rjoin_ok s A B hM.mi hO.mi (by omega) (by omega)
        have hT := hM.join hO (by omega) x.p
        generalize mjoinE A B = e at *
        generalize rjoinL A B = R at *
        generalize joinT A B = T at *
        obtain ⟨d2, d3⟩ := d2
        refine ⟨[(2007, [])], by kernel_rfl, ?_⟩
        (conv => whnf); (repeat' ((first | (with_reducible first | refine Box.mk ?_ | refine And.intro (fun _ => ?_) (fun _ => ?_) | refine (forceH_eq _ _).mpr ?_) | refine ACall.of_pure (by assumption) (by rfl) ?_ | ((with_reducible show Exists _); refine ⟨_, ACall.of_pure (by assumption) (by rfl) ⟨rfl, rfl⟩, ?_⟩) | ((with_reducible show _ ∧ _ ∧ _); refine ⟨by omega, by omega, ?_⟩) | fail) <;> conv => whnf))
        refine ⟨by decide, by decide, ?_⟩
        (conv => whnf); (repeat' ((first | (with_reducible first | refine Box.mk ?_ | refine And.intro (fun _ => ?_) (fun _ => ?_) | refine (forceH_eq _ _).mpr ?_) | refine ACall.of_pure (by assumption) (by rfl) ?_ | ((with_reducible show Exists _); refine ⟨_, ACall.of_pure (by assumption) (by rfl) ⟨rfl, rfl⟩, ?_⟩) | ((with_reducible show _ ∧ _ ∧ _); refine ⟨by omega, by omega, ?_⟩) | fail) <;> conv => whnf))
        refine aDw [2, 3, 4, 5] d1 rfl rfl rfl ?_
        (conv => whnf); (repeat' ((first | (with_reducible first | refine Box.mk ?_ | refine And.intro (fun _ => ?_) (fun _ => ?_) | refine (forceH_eq _ _).mpr ?_) | refine ACall.of_pure (by assumption) (by rfl) ?_ | ((with_reducible show Exists _); refine ⟨_, ACall.of_pure (by assumption) (by rfl) ⟨rfl, rfl⟩, ?_⟩) | ((with_reducible show _ ∧ _ ∧ _); refine ⟨by omega, by omega, ?_⟩) | fail) <;> conv => whnf))
        refine ⟨[], by kernel_rfl, ?_⟩
        (conv => whnf); (repeat' ((first | (with_reducible first | refine Box.mk ?_ | refine And.intro (fun _ => ?_) (fun _ => ?_) | refine (forceH_eq _ _).mpr ?_) | refine ACall.of_pure (by assumption) (by rfl) ?_ | ((with_reducible show Exists _); refine ⟨_, ACall.of_pure (by assumption) (by rfl) ⟨rfl, rfl⟩, ?_⟩) | ((with_reducible show _ ∧ _ ∧ _); refine ⟨by omega, by omega, ?_⟩) | fail) <;> conv => whnf))
        refine ⟨by decide, by decide, ?_⟩
        (conv => whnf); (repeat' ((first | (with_reducible first | refine Box.mk ?_ | refine And.intro (fun _ => ?_) (fun _ => ?_) | refine (forceH_eq _ _).mpr ?_) | refine ACall.of_pure (by assumption) (by rfl) ?_ | ((with_reducible show Exists _); refine ⟨_, ACall.of_pure (by assumption) (by rfl) ⟨rfl, rfl⟩, ?_⟩) | ((with_reducible show _ ∧ _ ∧ _); refine ⟨by omega, by omega, ?_⟩) | fail) <;> conv => whnf))
        refine aDr [] d2 rfl rfl rfl rfl ?_
        (conv => whnf); (repeat' ((first | (with_reducible first | refine Box.mk ?_ | refine And.intro (fun _ => ?_) (fun _ => ?_) | refine (forceH_eq _ _).mpr ?_) | refine ACall.of_pure (by assumption) (by rfl) ?_ | ((with_reducible show Exists _); refine ⟨_, ACall.of_pure (by assumption) (by rfl) ⟨rfl, rfl⟩, ?_⟩) | ((with_reducible show _ ∧ _ ∧ _); refine ⟨by omega, by omega, ?_⟩) | fail) <;> conv => whnf))
        rotate_left
        · rename_i h; exact absurd rfl h
        exact ⟨(i + 1, T, B), ⟨hil, h24, x.p :: K, by rw [List.length_cons]; show _ + 1 ≤ i + 1; omega, hT, hB.more x.p⟩, by show l.length - (i + 1) < l.length - i; omega, weak_ren_to [(0, true), (1, true), (2, true), (3, true), (4, true), (5, true), (6, true), (7, true)] rfl rfl rfl ⟨rfl, rfl, rfl, rfl, rfl, wrap_nat (m := 1) (by omega), trivial⟩⟩
      · have d1 := mjoinS_ok s A hM.mi
        have d2 := rjoin_ok s A A hM.mi hM.mi (by omega) (by omega)
        have hT := hM.join hM (by omega) x.p
        generalize mjoinE A A = e at *
        generalize rjoinL A A = R at *
        generalize joinT A A = T at *
        obtain ⟨d2, d3⟩ := d2
        refine ⟨[(2006, [])], by kernel_rfl, ?_⟩
        (conv => whnf); (repeat' ((first | (with_reducible first | refine Box.mk ?_ | refine And.intro (fun _ => ?_) (fun _ => ?_) | refine (forceH_eq _ _).mpr ?_) | refine ACall.of_pure (by assumption) (by rfl) ?_ | ((with_reducible show Exists _); refine ⟨_, ACall.of_pure (by assumption) (by rfl) ⟨rfl, rfl⟩, ?_⟩) | ((with_reducible show _ ∧ _ ∧ _); refine ⟨by omega, by omega, ?_⟩) | fail) <;> conv => whnf))
        refine aDw [2, 3] d1 rfl rfl rfl ?_
        (conv => whnf); (repeat' ((first | (with_reducible first | refine Box.mk ?_ | refine And.intro (fun _ => ?_) (fun _ => ?_) | refine (forceH_eq _ _).mpr ?_) | refine ACall.of_pure (by assumption) (by rfl) ?_ | ((with_reducible show Exists _); refine ⟨_, ACall.of_pure (by assumption) (by rfl) ⟨rfl, rfl⟩, ?_⟩) | ((with_reducible show _ ∧ _ ∧ _); refine ⟨by omega, by omega, ?_⟩) | fail) <;> conv => whnf))
        refine ⟨[], by kernel_rfl, ?_⟩
        (conv => whnf); (repeat' ((first | (with_reducible first | refine Box.mk ?_ | refine And.intro (fun _ => ?_) (fun _ => ?_) | refine (forceH_eq _ _).mpr ?_) | refine ACall.of_pure (by assumption) (by rfl) ?_ | ((with_reducible show Exists _); refine ⟨_, ACall.of_pure (by assumption) (by rfl) ⟨rfl, rfl⟩, ?_⟩) | ((with_reducible show _ ∧ _ ∧ _); refine ⟨by omega, by omega, ?_⟩) | fail) <;> conv => whnf))
        refine aDr [] d2 rfl rfl rfl rfl ?_
        (conv => whnf); (repeat' ((first | (with_reducible first | refine Box.mk ?_ | refine And.intro (fun _ => ?_) (fun _ => ?_) | refine (forceH_eq _ _).mpr ?_) | refine ACall.of_pure (by assumption) (by rfl) ?_ | ((with_reducible show Exists _); refine ⟨_, ACall.of_pure (by assumption) (by rfl) ⟨rfl, rfl⟩, ?_⟩) | ((with_reducible show _ ∧ _ ∧ _); refine ⟨by omega, by omega, ?_⟩) | fail) <;> conv => whnf))
        rotate_left
        · rename_i h; exact absurd rfl h
        exact ⟨(i + 1, T, B), ⟨hil, h24, x.p :: K, by rw [List.length_cons]; show _ + 1 ≤ i + 1; omega, hT, hB.more x.p⟩, by show l.length - (i + 1) < l.length - i; omega, weak_ren_to [(0, true), (1, true), (2, true), (3, true), (4, true), (5, true), (6, true), (7, true)] rfl rfl rfl ⟨rfl, rfl, rfl, rfl, rfl, wrap_nat (m := 1) (by omega), trivial⟩⟩
      · have d3 := rstay_ok s A hM.mi (by omega)
        have hT := hM.more x.p
        obtain ⟨T, eT⟩ : ∃ T, T = A := ⟨_, rfl⟩
        (conv => whnf); (repeat' ((first | (with_reducible first | refine Box.mk ?_ | refine And.intro (fun _ => ?_) (fun _ => ?_) | refine (forceH_eq _ _).mpr ?_) | refine ACall.of_pure (by assumption) (by rfl) ?_ | ((with_reducible show Exists _); refine ⟨_, ACall.of_pure (by assumption) (by rfl) ⟨rfl, rfl⟩, ?_⟩) | ((with_reducible show _ ∧ _ ∧ _); refine ⟨by omega, by omega, ?_⟩) | fail) <;> conv => whnf))
        exact ⟨(i + 1, A, B), ⟨hil, h24, x.p :: K, by rw [List.length_cons]; show _ + 1 ≤ i + 1; omega, hA.more x.p, hB.more x.p⟩, by show l.length - (i + 1) < l.length - i; omega, weak_ren_to [(0, true), (1, true), (2, true), (3, true), (4, true), (5, true), (6, true), (7, true)] rfl rfl rfl ⟨rfl, rfl, rfl, rfl, rfl, wrap_nat (m := 1) (by omega), trivial⟩⟩
      · rename_i h; exact absurd rfl h
    · have hM := hB
      have hO := hA
      refine ⟨by omega, acs x, by rw [Int.toNat_natCast, acl_get, hx]; rfl, rfl, ?_⟩
      (conv => whnf); (repeat' ((first | (with_reducible first | refine Box.mk ?_ | refine And.intro (fun _ => ?_) (fun _ => ?_) | refine (forceH_eq _ _).mpr ?_) | refine ACall.of_pure (by assumption) (by rfl) ?_ | ((with_reducible show Exists _); refine ⟨_, ACall.of_pure (by assumption) (by rfl) ⟨rfl, rfl⟩, ?_⟩) | ((with_reducible show _ ∧ _ ∧ _); refine ⟨by omega, by omega, ?_⟩) | fail) <;> conv => whnf))
      refine ⟨by omega, acs x, by rw [Int.toNat_natCast, acl_get, hx]; rfl, rfl, ?_⟩
      (conv => whnf); (repeat' ((first | (with_reducible first | refine Box.mk ?_ | refine And.intro (fun _ => ?_) (fun _ => ?_) | refine (forceH_eq _ _).mpr ?_) | refine ACall.of_pure (by assumption) (by rfl) ?_ | ((with_reducible show Exists _); refine ⟨_, ACall.of_pure (by assumption) (by rfl) ⟨rfl, rfl⟩, ?_⟩) | ((with_reducible show _ ∧ _ ∧ _); refine ⟨by omega, by omega, ?_⟩) | fail) <;> conv => whnf))
      · have d1 := put_ok s B hM.mi x.p hxo x.w
        rw [show MH s B = MHat 0 s B from rfl] at d1
        have d2 := rput_ok s B hM.mi (by omega) x.p hxo x.w
        have hT := hM.put hxo x.w (by omega)
        generalize putE s B x.p x.w = e at *
        generalize rputL s (loadsM B) x.p x.w = R at *
        generalize putM s B x.p x.w = T at *
        obtain ⟨d2, d3⟩ := d2
        refine ⟨[(2015, [])], by kernel_rfl, ?_⟩
        (conv => whnf); (repeat' ((first | (with_reducible first | refine Box.mk ?_ | refine And.intro (fun _ => ?_) (fun _ => ?_) | refine (forceH_eq _ _).mpr ?_) | refine ACall.of_pure (by assumption) (by rfl) ?_ | ((with_reducible show Exists _); refine ⟨_, ACall.of_pure (by assumption) (by rfl) ⟨rfl, rfl⟩, ?_⟩) | ((with_reducible show _ ∧ _ ∧ _); refine ⟨by omega, by omega, ?_⟩) | fail) <;> conv => whnf))
        refine ⟨by omega, acs x, by rw [Int.toNat_natCast, acl_get, hx]; rfl, rfl, ?_⟩
        (conv => whnf); (repeat' ((first | (with_reducible first | refine Box.mk ?_ | refine And.intro (fun _ => ?_) (fun _ => ?_) | refine (forceH_eq _ _).mpr ?_) | refine ACall.of_pure (by assumption) (by rfl) ?_ | ((with_reducible show Exists _); refine ⟨_, ACall.of_pure (by assumption) (by rfl) ⟨rfl, rfl⟩, ?_⟩) | ((with_reducible show _ ∧ _ ∧ _); refine ⟨by omega, by omega, ?_⟩) | fail) <;> conv => whnf))
        refine ⟨by omega, acs x, by rw [Int.toNat_natCast, acl_get, hx]; rfl, rfl, ?_⟩
        (conv => whnf); (repeat' ((first | (with_reducible first | refine Box.mk ?_ | refine And.intro (fun _ => ?_) (fun _ => ?_) | refine (forceH_eq _ _).mpr ?_) | refine ACall.of_pure (by assumption) (by rfl) ?_ | ((with_reducible show Exists _); refine ⟨_, ACall.of_pure (by assumption) (by rfl) ⟨rfl, rfl⟩, ?_⟩) | ((with_reducible show _ ∧ _ ∧ _); refine ⟨by omega, by omega, ?_⟩) | fail) <;> conv => whnf))
        refine aDw [4, 5] d1 rfl rfl rfl ?_
        (conv => whnf); (repeat' ((first | (with_reducible first | refine Box.mk ?_ | refine And.intro (fun _ => ?_) (fun _ => ?_) | refine (forceH_eq _ _).mpr ?_) | refine ACall.of_pure (by assumption) (by rfl) ?_ | ((with_reducible show Exists _); refine ⟨_, ACall.of_pure (by assumption) (by rfl) ⟨rfl, rfl⟩, ?_⟩) | ((with_reducible show _ ∧ _ ∧ _); refine ⟨by omega, by omega, ?_⟩) | fail) <;> conv => whnf))
        refine ⟨[], by kernel_rfl, ?_⟩
        (conv => whnf); (repeat' ((first | (with_reducible first | refine Box.mk ?_ | refine And.intro (fun _ => ?_) (fun _ => ?_) | refine (forceH_eq _ _).mpr ?_) | refine ACall.of_pure (by assumption) (by rfl) ?_ | ((with_reducible show Exists _); refine ⟨_, ACall.of_pure (by assumption) (by rfl) ⟨rfl, rfl⟩, ?_⟩) | ((with_reducible show _ ∧ _ ∧ _); refine ⟨by omega, by omega, ?_⟩) | fail) <;> conv => whnf))
        refine ⟨by omega, acs x, by rw [Int.toNat_natCast, acl_get, hx]; rfl, rfl, ?_⟩
        (conv => whnf); (repeat' ((first | (with_reducible first | refine Box.mk ?_ | refine And.intro (fun _ => ?_) (fun _ => ?_) | refine (forceH_eq _ _).mpr ?_) | refine ACall.of_pure (by assumption) (by rfl) ?_ | ((with_reducible show Exists _); refine ⟨_, ACall.of_pure (by assumption) (by rfl) ⟨rfl, rfl⟩, ?_⟩) | ((with_reducible show _ ∧ _ ∧ _); refine ⟨by omega, by omega, ?_⟩) | fail) <;> conv => whnf))
        refine ⟨by omega, acs x, by rw [Int.toNat_natCast, acl_get, hx]; rfl, rfl, ?_⟩
        (conv => whnf); (repeat' ((first | (with_reducible first | refine Box.mk ?_ | refine And.intro (fun _ => ?_) (fun _ => ?_) | refine (forceH_eq _ _).mpr ?_) | refine ACall.of_pure (by assumption) (by rfl) ?_ | ((with_reducible show Exists _); refine ⟨_, ACall.of_pure (by assumption) (by rfl) ⟨rfl, rfl⟩, ?_⟩) | ((with_reducible show _ ∧ _ ∧ _); refine ⟨by omega, by omega, ?_⟩) | fail) <;> conv => whnf))
        refine aDr [] d2 rfl rfl rfl rfl ?_
        (conv => whnf); (repeat' ((first | (with_reducible first | refine Box.mk ?_ | refine And.intro (fun _ => ?_) (fun _ => ?_) | refine (forceH_eq _ _).mpr ?_) | refine ACall.of_pure (by assumption) (by rfl) ?_ | ((with_reducible show Exists _); refine ⟨_, ACall.of_pure (by assumption) (by rfl) ⟨rfl, rfl⟩, ?_⟩) | ((with_reducible show _ ∧ _ ∧ _); refine ⟨by omega, by omega, ?_⟩) | fail) <;> conv => whnf))
        rotate_left
        · rename_i h; exact absurd rfl h
        exact ⟨(i + 1, A, T), ⟨hil, h24, x.p :: K, by rw [List.length_cons]; show _ + 1 ≤ i + 1; omega, hA.more x.p, hT⟩, by show l.length - (i + 1) < l.length - i; omega, weak_ren_to [(0, true), (1, true), (2, true), (3, true), (4, true), (5, true), (6, true), (7, true)] rfl rfl rfl ⟨rfl, rfl, rfl, rfl, rfl, wrap_nat (m := 1) (by omega), trivial⟩⟩
      · have d1 := mjoin_ok s B A hM.mi hO.mi
        have d2 := rjoin_ok s B A hM.mi hO.mi (by omega) (by omega)
        have hT := hM.join hO (by omega) x.p
        generalize mjoinE B A = e at *
        generalize rjoinL B A = R at *
        generalize joinT B A = T at *
        obtain ⟨d2, d3⟩ := d2
        refine ⟨[(2007, [])], by kernel_rfl, ?_⟩
        (conv => whnf); (repeat' ((first | (with_reducible first | refine Box.mk ?_ | refine And.intro (fun _ => ?_) (fun _ => ?_) | refine (forceH_eq _ _).mpr ?_) | refine ACall.of_pure (by assumption) (by rfl) ?_ | ((with_reducible show Exists _); refine ⟨_, ACall.of_pure (by assumption) (by rfl) ⟨rfl, rfl⟩, ?_⟩) | ((with_reducible show _ ∧ _ ∧ _); refine ⟨by omega, by omega, ?_⟩) | fail) <;> conv => whnf))
        refine ⟨by decide, by decide, ?_⟩
        (conv => whnf); (repeat' ((first | (with_reducible first | refine Box.mk ?_ | refine And.intro (fun _ => ?_) (fun _ => ?_) | refine (forceH_eq _ _).mpr ?_) | refine ACall.of_pure (by assumption) (by rfl) ?_ | ((with_reducible show Exists _); refine ⟨_, ACall.of_pure (by assumption) (by rfl) ⟨rfl, rfl⟩, ?_⟩) | ((with_reducible show _ ∧ _ ∧ _); refine ⟨by omega, by omega, ?_⟩) | fail) <;> conv => whnf))
        refine aDw [4, 5, 2, 3] d1 rfl rfl rfl ?_
        (conv => whnf); (repeat' ((first | (with_reducible first | refine Box.mk ?_ | refine And.intro (fun _ => ?_) (fun _ => ?_) | refine (forceH_eq _ _).mpr ?_) | refine ACall.of_pure (by assumption) (by rfl) ?_ | ((with_reducible show Exists _); refine ⟨_, ACall.of_pure (by assumption) (by rfl) ⟨rfl, rfl⟩, ?_⟩) | ((with_reducible show _ ∧ _ ∧ _); refine ⟨by omega, by omega, ?_⟩) | fail) <;> conv => whnf))
        refine ⟨[], by kernel_rfl, ?_⟩
        (conv => whnf); (repeat' ((first | (with_reducible first | refine Box.mk ?_ | refine And.intro (fun _ => ?_) (fun _ => ?_) | refine (forceH_eq _ _).mpr ?_) | refine ACall.of_pure (by assumption) (by rfl) ?_ | ((with_reducible show Exists _); refine ⟨_, ACall.of_pure (by assumption) (by rfl) ⟨rfl, rfl⟩, ?_⟩) | ((with_reducible show _ ∧ _ ∧ _); refine ⟨by omega, by omega, ?_⟩) | fail) <;> conv => whnf))
        refine ⟨by decide, by decide, ?_⟩
        (conv => whnf); (repeat' ((first | (with_reducible first | refine Box.mk ?_ | refine And.intro (fun _ => ?_) (fun _ => ?_) | refine (forceH_eq _ _).mpr ?_) | refine ACall.of_pure (by assumption) (by rfl) ?_ | ((with_reducible show Exists _); refine ⟨_, ACall.of_pure (by assumption) (by rfl) ⟨rfl, rfl⟩, ?_⟩) | ((with_reducible show _ ∧ _ ∧ _); refine ⟨by omega, by omega, ?_⟩) | fail) <;> conv => whnf))
        refine aDr [] d2 rfl rfl rfl rfl ?_
        (conv => whnf); (repeat' ((first | (with_reducible first | refine Box.mk ?_ | refine And.intro (fun _ => ?_) (fun _ => ?_) | refine (forceH_eq _ _).mpr ?_) | refine ACall.of_pure (by assumption) (by rfl) ?_ | ((with_reducible show Exists _); refine ⟨_, ACall.of_pure (by assumption) (by rfl) ⟨rfl, rfl⟩, ?_⟩) | ((with_reducible show _ ∧ _ ∧ _); refine ⟨by omega, by omega, ?_⟩) | fail) <;> conv => whnf))
        rotate_left
        · rename_i h; exact absurd rfl h
        exact ⟨(i + 1, A, T), ⟨hil, h24, x.p :: K, by rw [List.length_cons]; show _ + 1 ≤ i + 1; omega, hA.more x.p, hT⟩, by show l.length - (i + 1) < l.length - i; omega, weak_ren_to [(0, true), (1, true), (2, true), (3, true), (4, true), (5, true), (6, true), (7, true)] rfl rfl rfl ⟨rfl, rfl, rfl, rfl, rfl, wrap_nat (m := 1) (by omega), trivial⟩⟩
      · have d1 := mjoinS_ok s B hM.mi
        have d2 := rjoin_ok s B B hM.mi hM.mi (by omega) (by omega)
        have hT := hM.join hM (by omega) x.p
        generalize mjoinE B B = e at *
        generalize rjoinL B B = R at *
        generalize joinT B B = T at *
        obtain ⟨d2, d3⟩ := d2
        refine ⟨[(2006, [])], by kernel_rfl, ?_⟩
        (conv => whnf); (repeat' ((first | (with_reducible first | refine Box.mk ?_ | refine And.intro (fun _ => ?_) (fun _ => ?_) | refine (forceH_eq _ _).mpr ?_) | refine ACall.of_pure (by assumption) (by rfl) ?_ | ((with_reducible show Exists _); refine ⟨_, ACall.of_pure (by assumption) (by rfl) ⟨rfl, rfl⟩, ?_⟩) | ((with_reducible show _ ∧ _ ∧ _); refine ⟨by omega, by omega, ?_⟩) | fail) <;> conv => whnf))
        refine aDw [4, 5] d1 rfl rfl rfl ?_
        (conv => whnf); (repeat' ((first | (with_reducible first | refine Box.mk ?_ | refine And.intro (fun _ => ?_) (fun _ => ?_) | refine (forceH_eq _ _).mpr ?_) | refine ACall.of_pure (by assumption) (by rfl) ?_ | ((with_reducible show Exists _); refine ⟨_, ACall.of_pure (by assumption) (by rfl) ⟨rfl, rfl⟩, ?_⟩) | ((with_reducible show _ ∧ _ ∧ _); refine ⟨by omega, by omega, ?_⟩) | fail) <;> conv => whnf))
        refine ⟨[], by kernel_rfl, ?_⟩
        (conv => whnf); (repeat' ((first | (with_reducible first | refine Box.mk ?_ | refine And.intro (fun _ => ?_) (fun _ => ?_) | refine (forceH_eq _ _).mpr ?_) | refine ACall.of_pure (by assumption) (by rfl) ?_ | ((with_reducible show Exists _); refine ⟨_, ACall.of_pure (by assumption) (by rfl) ⟨rfl, rfl⟩, ?_⟩) | ((with_reducible show _ ∧ _ ∧ _); refine ⟨by omega, by omega, ?_⟩) | fail) <;> conv => whnf))
        refine aDr [] d2 rfl rfl rfl rfl ?_
        (conv => whnf); (repeat' ((first | (with_reducible first | refine Box.mk ?_ | refine And.intro (fun _ => ?_) (fun _ => ?_) | refine (forceH_eq _ _).mpr ?_) | refine ACall.of_pure (by assumption) (by rfl) ?_ | ((with_reducible show Exists _); refine ⟨_, ACall.of_pure (by assumption) (by rfl) ⟨rfl, rfl⟩, ?_⟩) | ((with_reducible show _ ∧ _ ∧ _); refine ⟨by omega, by omega, ?_⟩) | fail) <;> conv => whnf))
        rotate_left
        · rename_i h; exact absurd rfl h
        exact ⟨(i + 1, A, T), ⟨hil, h24, x.p :: K, by rw [List.length_cons]; show _ + 1 ≤ i + 1; omega, hA.more x.p, hT⟩, by show l.length - (i + 1) < l.length - i; omega, weak_ren_to [(0, true), (1, true), (2, true), (3, true), (4, true), (5, true), (6, true), (7, true)] rfl rfl rfl ⟨rfl, rfl, rfl, rfl, rfl, wrap_nat (m := 1) (by omega), trivial⟩⟩
      · have d3 := rstay_ok s B hM.mi (by omega)
        have hT := hM.more x.p
        obtain ⟨T, eT⟩ : ∃ T, T = B := ⟨_, rfl⟩
        (conv => whnf); (repeat' ((first | (with_reducible first | refine Box.mk ?_ | refine And.intro (fun _ => ?_) (fun _ => ?_) | refine (forceH_eq _ _).mpr ?_) | refine ACall.of_pure (by assumption) (by rfl) ?_ | ((with_reducible show Exists _); refine ⟨_, ACall.of_pure (by assumption) (by rfl) ⟨rfl, rfl⟩, ?_⟩) | ((with_reducible show _ ∧ _ ∧ _); refine ⟨by omega, by omega, ?_⟩) | fail) <;> conv => whnf))
        exact ⟨(i + 1, A, B), ⟨hil, h24, x.p :: K, by rw [List.length_cons]; show _ + 1 ≤ i + 1; omega, hA.more x.p, hB.more x.p⟩, by show l.length - (i + 1) < l.length - i; omega, weak_ren_to [(0, true), (1, true), (2, true), (3, true), (4, true), (5, true), (6, true), (7, true)] rfl rfl rfl ⟨rfl, rfl, rfl, rfl, rfl, wrap_nat (m := 1) (by omega), trivial⟩⟩
      · rename_i h; exact absurd rfl h
  all_goals (
    refine aW [2, 3] a1 rfl rfl rfl ?_
    (conv => whnf); (repeat' ((first | (with_reducible first | refine Box.mk ?_ | refine And.intro (fun _ => ?_) (fun _ => ?_) | refine (forceH_eq _ _).mpr ?_) | refine ACall.of_pure (by assumption) (by rfl) ?_ | ((with_reducible show Exists _); refine ⟨_, ACall.of_pure (by assumption) (by rfl) ⟨rfl, rfl⟩, ?_⟩) | ((with_reducible show _ ∧ _ ∧ _); refine ⟨by omega, by omega, ?_⟩) | fail) <;> conv => whnf))
    refine aW [4, 5] a2 rfl rfl rfl ?_
    (conv => whnf); (repeat' ((first | (with_reducible first | refine Box.mk ?_ | refine And.intro (fun _ => ?_) (fun _ => ?_) | refine (forceH_eq _ _).mpr ?_) | refine ACall.of_pure (by assumption) (by rfl) ?_ | ((with_reducible show Exists _); refine ⟨_, ACall.of_pure (by assumption) (by rfl) ⟨rfl, rfl⟩, ?_⟩) | ((with_reducible show _ ∧ _ ∧ _); refine ⟨by omega, by omega, ?_⟩) | fail) <;> conv => whnf))
    rfl)
end Go.Proofs.YtgaohmfmomeflaaGreatDoor
end

section
/- model: any deeds, of any arguments. -/
namespace Go.Proofs.YtgaohmfmomeflaaGreatDoor
open Go.Ve

theorem act_wf {xs : List AV} (h : Wf ty 1048576 48 xs) : ∃ x : Ac, xs = acs x ∧ POk x.p := by
  have h0 := h.struct_inv rfl
  obtain ⟨x1, r1, rfl, g1, h1⟩ := h0.cons_inv
  obtain ⟨x2, r2, rfl, g2, h2⟩ := h1.cons_inv
  obtain ⟨x3, r3, rfl, g3, h3⟩ := h2.cons_inv
  obtain rfl := h3.nil_inv
  obtain ⟨k, rfl, _⟩ := g1.int_inv rfl
  obtain ⟨a, rfl, _⟩ := g2.int_inv rfl
  obtain ⟨y, rfl, hy⟩ := load_wf g3
  exact ⟨⟨k, a, y.1, y.2⟩, rfl, hy⟩
theorem acts_inv0 : ∀ (es : List (List AV)), (∀ c ∈ es, Wf ty 1048576 48 c) → ∃ l : List Ac, es = acl l ∧ ∀ x ∈ l, POk x.p
  | [], _ => ⟨[], rfl, fun p hp => by cases hp⟩
  | c :: r, h => by
    obtain ⟨l, rfl, hl⟩ := acts_inv0 r fun c hc => h c (List.mem_cons_of_mem _ hc)
    obtain ⟨p, rfl, hp⟩ := act_wf (h c List.mem_cons_self)
    exact ⟨p :: l, rfl, fun q hq => by
      rcases List.mem_cons.1 hq with rfl | hq
      · exact hp
      · exact hl q hq⟩
theorem acts_inv {x : AV} (h : WfV ty 1048576 27 x) : ∃ l : List Ac, mpA nlN x = .sl (acl l) ∧ ∀ x ∈ l, POk x.p := by
  rcases h.slice_inv rfl with rfl | ⟨es, rfl, hl, he⟩
  · exact ⟨[], rfl, fun p hp => (by cases hp)⟩
  · obtain ⟨l, rfl, ho⟩ := acts_inv0 es he
    exact ⟨l, rfl, ho⟩
theorem ModelTells_args (xs : List AV) (h : WfA ty 1048576 [26, 27, 34] xs) : PCall P 3 xs (.bool true) := by
  obtain ⟨y1, r1, rfl, g1, h1⟩ := h.cons_inv
  obtain ⟨y2, r2, rfl, g2, h2⟩ := h1.cons_inv
  obtain ⟨y3, r3, rfl, g3, h3⟩ := h2.cons_inv
  obtain rfl := h3.nil_inv
  obtain ⟨s, rfl⟩ := space_inv g1
  obtain ⟨l, el, ho⟩ := acts_inv g2
  obtain ⟨p, rfl, hp⟩ := prefix_inv g3
  refine PCall.nils ?_
  show PCall P _ [spv s, mpA nlN y2, pxv p] _
  rw [el]
  exact ModelTells_ok s l ho p hp
end Go.Proofs.YtgaohmfmomeflaaGreatDoor
end
