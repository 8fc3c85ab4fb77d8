/- The program's contracts: texts joined into one: Grid2 Grid3 Ref9b Ref9c Grid4 Grid5 Grid6 Mdl MdlSort Mdl2 Mdl3 MdlSort2 Mdl4 ArgsPre ArgsMdl TellLaw Mdl5 Mdl6 Mdl7 Ref9d Ref23 Ref35 LawPre LawPre2. -/
import Derived.Test.YtgaohmfmomeflaaGreatDoorXla
import Derived.Test.YtgaohmfmomeflaaGreatDoorXvc
import Derived.Test.YtgaohmfmomeflaaGreatDoorXSort
import Derived.Lib.QuietBelow

section
/- grid: the nodes as lists; the document's answer for these. -/
namespace Go.Proofs.YtgaohmfmomeflaaGreatDoor
open Go.Ve

/-- The nodes gone through; the heap of the caller by what has come. -/
theorem walk_iterH (s : Sp) (hs : soundS s = true) (id : Nat) (H0 : Hp) (Hs : List (Nat × Nat) → Hp → Hp) (K : Hp → Prop) (h0 : Hs [] H0 = H0)
    (hstep : ∀ pre p, pre ++ [p] <+: nodesN (gA s) (gB s) → AYld P id [.int .i64 (pre.length : Int), .agg (ncs p)] (Hs pre H0) (fun r H' =>
      (r = .bool true ∧ ∃ L, okL H'.length L = true ∧ preL 0 H0.length L = true ∧ gOf L 0 id = some id ∧ heapOf (gOf L 0) H' L = Hs (pre ++ [p]) H0) ∨ (r = .bool false ∧ K H')))
    (hend : K (Hs (nodesN (gA s) (gB s)) H0)) : ACall P 110 [.own id, .cptr (scs s)] H0 (fun _ H' => K H') := by
  refine walk_iter s hs id H0 (fun pre H => H = Hs pre H0) K h0.symm (fun pre p H hp hI => ?_) (fun H hI => by rw [hI]; exact hend)
  rw [hI]
  refine (hstep pre p hp).mono fun r H' hr => ?_
  rcases hr with ⟨h1, L, h2, h3, h4, h5⟩ | hr
  · exact .inl ⟨h1, L, _, h2, h3, h4, h5, rfl⟩
  · exact .inr hr

def nv1 : List (Nat × Nat) → AV
  | [] => .nils
  | _ :: _ => .own 1
def nh1 : List (Nat × Nat) → Hp → Hp
  | [], H => H
  | x :: r, H => H ++ [.row 28 2 (ncl (x :: r))]
/-- The document's nodes. -/
theorem rNodes_ok (s : Sp) : PCall P 109 [spv s] (nvl (nds s)) := by
  have q1 := r9Sound_ok s
  have q2 := r8Depth_ok s.d0
  have q3 := r8Depth_ok s.d1
  cases hs : soundS s
  · rw [hs] at q1
    rw [nds_no hs]
    refine PCall.of_awp tok mixed fn109 (Nat.le_of_ble_eq_true rfl) ?_
    (conv => whnf); (repeat' ((first | with_reducible refine Box.mk ?_ | with_reducible refine And.intro (fun _ => ?_) (fun _ => ?_) | ((with_reducible show AYld _ _ _ _ _); refine AYld.of tok mixed ?_) | with_reducible refine (forceH_eq _ _).mpr ?_ | refine ACall.of_pure (by assumption) (by rfl) ?_ | ((with_reducible show Exists _); refine ⟨_, ACall.of_pure (by assumption) (by rfl) ⟨rfl, rfl⟩, ?_⟩) | ((with_reducible show ∃ L, drawR L _ = true ∧ _); refine ⟨[], by kernel_rfl, ?_⟩) | ((with_reducible show _ ∧ _ ∧ _); refine ⟨by omega, by omega, ?_⟩) | fail) <;> conv => whnf))
    all_goals first
      | contradiction
      | rfl
  · rw [hs] at q1
    rw [nds_yes hs]
    obtain ⟨g1, g2⟩ := g_le s
    have hN := nodesN_len g1 g2
    have ea : depthD s.d0 = (gA s : Int) := by
      have h0 := @depthD_le s.d0
      unfold gA; rw [hs, cond_true]; omega
    have eb : depthD s.d1 = (gB s : Int) := by
      have h0 := @depthD_le s.d1
      unfold gB; rw [hs, cond_true]; omega
    rw [ea] at q2
    rw [eb] at q3
    have hne := nodes_ne (gA s) (gB s)
    generalize gA s = a at *
    generalize gB s = b at *
    have e1 : IntKind.i64.wrap ((a : Int) + (b : Int)) = ((a + b : Nat) : Int) := by rw [wrap_i64 (by omega) (by omega)]; omega
    refine PCall.of_awp tok mixed fn109 (Nat.le_of_ble_eq_true rfl) ?_
    (conv => whnf); (repeat' ((first | with_reducible refine Box.mk ?_ | with_reducible refine And.intro (fun _ => ?_) (fun _ => ?_) | ((with_reducible show AYld _ _ _ _ _); refine AYld.of tok mixed ?_) | with_reducible refine (forceH_eq _ _).mpr ?_ | refine ACall.of_pure (by assumption) (by rfl) ?_ | ((with_reducible show Exists _); refine ⟨_, ACall.of_pure (by assumption) (by rfl) ⟨rfl, rfl⟩, ?_⟩) | ((with_reducible show ∃ L, drawR L _ = true ∧ _); refine ⟨[], by kernel_rfl, ?_⟩) | ((with_reducible show _ ∧ _ ∧ _); refine ⟨by omega, by omega, ?_⟩) | fail) <;> conv => whnf))
    all_goals try contradiction
    refine aloopH (fun x : Nat × List (Nat × Nat) => x.1 ≤ a + b + 1 ∧ x.2 = uptoN a b x.1) (fun x => [(1, .ptr 0 0), (3, nv1 x.2), (4, .int .i64 a), (5, .int .i64 b), (6, .int .i64 (x.1 : Int))]) (fun x => nh1 x.2) (fun x => a + b + 1 - x.1) (0, [])
      ⟨Nat.zero_le _, rfl⟩ (weak_to ⟨rfl, rfl, rfl, rfl, rfl, trivial⟩ rfl) ?_
    rintro ⟨h, l0⟩ ⟨hh, hl0⟩
    have hh : h ≤ a + b + 1 := hh
    have hl0 : l0 = uptoN a b h := hl0
    have hlen0 : (uptoN a b h).length ≤ 33153 := by
      have := (uptoN_pre (a := a) (b := b) hh).length_le
      unfold nodesN at hN; omega
    (conv => whnf); (repeat' ((first | with_reducible refine Box.mk ?_ | with_reducible refine And.intro (fun _ => ?_) (fun _ => ?_) | ((with_reducible show AYld _ _ _ _ _); refine AYld.of tok mixed ?_) | with_reducible refine (forceH_eq _ _).mpr ?_ | refine ACall.of_pure (by assumption) (by rfl) ?_ | ((with_reducible show Exists _); refine ⟨_, ACall.of_pure (by assumption) (by rfl) ⟨rfl, rfl⟩, ?_⟩) | ((with_reducible show ∃ L, drawR L _ = true ∧ _); refine ⟨[], by kernel_rfl, ?_⟩) | ((with_reducible show _ ∧ _ ∧ _); refine ⟨by omega, by omega, ?_⟩) | fail) <;> conv => whnf))
    · rename_i hle
      rw [e1] at hle
      have hlt : h < a + b + 1 := by omega
      refine aloop (fun y : Nat × List (Nat × Nat) => y.1 ≤ a + 1 ∧ y.2 = uptoN a b h ++ (rowN a b h).take (min y.1 (min h a + 1) - (h - b)))
        (fun y => ⟨envL [(1, .ptr 0 0), (3, nv1 y.2), (4, .int .i64 a), (5, .int .i64 b), (6, .int .i64 (h : Int)), (7, .int .i64 (y.1 : Int))], nh1 y.2 [.box 26 (scs s)]⟩) (fun y => a + 1 - y.1) (0, l0)
        ⟨Nat.zero_le _, by show l0 = _; rw [show min 0 (min h a + 1) - (h - b) = 0 by omega, List.take_zero, List.append_nil]; exact hl0⟩ (weak_to ⟨rfl, rfl, rfl, rfl, rfl, rfl, trivial⟩ rfl) ?_
      rintro ⟨i, l⟩ ⟨hi, hl⟩
      have hi : i ≤ a + 1 := hi
      have hl : l = uptoN a b h ++ (rowN a b h).take (min i (min h a + 1) - (h - b)) := hl
      have hll : l.length ≤ 33153 + 129 := by
        rw [hl, List.length_append, List.length_take]; omega
      have hnl := ncl_len l
      have e2 : IntKind.i64.wrap ((h : Int) - (i : Int)) = (h : Int) - i := wrap_i64 (by omega) (by omega)
      have e3 : IntKind.i64.wrap ((i : Int) + 1) = ((i + 1 : Nat) : Int) := by rw [wrap_i64 (by omega) (by omega)]; omega
      have hskip : ¬ (h - b ≤ i ∧ i ≤ h) → i ≤ a → l = uptoN a b h ++ (rowN a b h).take (min (i + 1) (min h a + 1) - (h - b)) := fun h1 h2 => by
        rw [hl]; congr 2; omega
      have hadd : (h - b ≤ i ∧ i ≤ h) → i ≤ a → l ++ [(i, h - i)] = uptoN a b h ++ (rowN a b h).take (min (i + 1) (min h a + 1) - (h - b)) := fun h1 h2 => by
        have hcd : cntN a b h = min h a + 1 - (h - b) := rfl
        have := rowN_take (a := a) (b := b) (h := h) (t := i - (h - b)) (by omega)
        rw [hl, List.append_assoc, show min i (min h a + 1) - (h - b) = i - (h - b) by omega, show min (i + 1) (min h a + 1) - (h - b) = i - (h - b) + 1 by omega, this, show h - b + (i - (h - b)) = i by omega]
      have hfull : a < i → l = uptoN a b (h + 1) := fun h1 => by
        rw [hl, show min i (min h a + 1) - (h - b) = cntN a b h by unfold cntN; omega, ← rowN_len, List.take_length, uptoN_succ]
      have e4 : h - b ≤ i ∧ i ≤ h → IntKind.i64.wrap ((h : Int) - (i : Int)) = ((h - i : Nat) : Int) := fun h => by rw [e2]; omega
      have e5 : (h : Int) - i = IntKind.i64.wrap ((h : Int) - (i : Int)) := e2.symm
      (conv => whnf); (repeat' ((first | with_reducible refine Box.mk ?_ | with_reducible refine And.intro (fun _ => ?_) (fun _ => ?_) | ((with_reducible show AYld _ _ _ _ _); refine AYld.of tok mixed ?_) | with_reducible refine (forceH_eq _ _).mpr ?_ | refine ACall.of_pure (by assumption) (by rfl) ?_ | ((with_reducible show Exists _); refine ⟨_, ACall.of_pure (by assumption) (by rfl) ⟨rfl, rfl⟩, ?_⟩) | ((with_reducible show ∃ L, drawR L _ = true ∧ _); refine ⟨[], by kernel_rfl, ?_⟩) | ((with_reducible show _ ∧ _ ∧ _); refine ⟨by omega, by omega, ?_⟩) | fail) <;> conv => whnf))
      · rename_i h1 h2 h3
        have h1 : (i : Int) ≤ a := h1
        have h2 : 0 ≤ IntKind.i64.wrap ((h : Int) - (i : Int)) := h2
        have h3 : IntKind.i64.wrap ((h : Int) - (i : Int)) ≤ b := h3
        have hr : h - b ≤ i ∧ i ≤ h := by omega
        have had := hadd hr (by omega)
        have e4' := e4 hr
        cases l with
        | nil =>
          (conv => whnf); (repeat' ((first | with_reducible refine Box.mk ?_ | with_reducible refine And.intro (fun _ => ?_) (fun _ => ?_) | ((with_reducible show AYld _ _ _ _ _); refine AYld.of tok mixed ?_) | with_reducible refine (forceH_eq _ _).mpr ?_ | refine ACall.of_pure (by assumption) (by rfl) ?_ | ((with_reducible show Exists _); refine ⟨_, ACall.of_pure (by assumption) (by rfl) ⟨rfl, rfl⟩, ?_⟩) | ((with_reducible show ∃ L, drawR L _ = true ∧ _); refine ⟨[], by kernel_rfl, ?_⟩) | ((with_reducible show _ ∧ _ ∧ _); refine ⟨by omega, by omega, ?_⟩) | fail) <;> conv => whnf))
          refine ⟨fun c hc => by rw [List.mem_singleton.1 hc]; exact ⟨rfl, rfl⟩, fun h => (by cases h), fun _ => ⟨Nat.le_of_ble_eq_true rfl, Nat.le_of_ble_eq_true rfl, ?_⟩⟩
          (conv => whnf); (repeat' ((first | with_reducible refine Box.mk ?_ | with_reducible refine And.intro (fun _ => ?_) (fun _ => ?_) | ((with_reducible show AYld _ _ _ _ _); refine AYld.of tok mixed ?_) | with_reducible refine (forceH_eq _ _).mpr ?_ | refine ACall.of_pure (by assumption) (by rfl) ?_ | ((with_reducible show Exists _); refine ⟨_, ACall.of_pure (by assumption) (by rfl) ⟨rfl, rfl⟩, ?_⟩) | ((with_reducible show ∃ L, drawR L _ = true ∧ _); refine ⟨[], by kernel_rfl, ?_⟩) | ((with_reducible show _ ∧ _ ∧ _); refine ⟨by omega, by omega, ?_⟩) | fail) <;> conv => whnf))
          refine ⟨(i + 1, [(i, h - i)]), ⟨by show i + 1 ≤ a + 1; omega, had⟩, by show a + 1 - (i + 1) < a + 1 - i; omega, weak_ren_to [(0, true), (2, true)] rfl rfl ?_ ⟨rfl, rfl, rfl, rfl, rfl, congrArg (AV.int .i64) e3, trivial⟩⟩
          show [_, Ob.row _ _ [[_, AV.int _ (IntKind.i64.wrap ((h : Int) - (i : Int)))]]] = [_, Ob.row _ _ (ncl [(i, h - i)])]
          rw [e4']; rfl
        | cons x r =>
          (conv => whnf); (repeat' ((first | with_reducible refine Box.mk ?_ | with_reducible refine And.intro (fun _ => ?_) (fun _ => ?_) | ((with_reducible show AYld _ _ _ _ _); refine AYld.of tok mixed ?_) | with_reducible refine (forceH_eq _ _).mpr ?_ | refine ACall.of_pure (by assumption) (by rfl) ?_ | ((with_reducible show Exists _); refine ⟨_, ACall.of_pure (by assumption) (by rfl) ⟨rfl, rfl⟩, ?_⟩) | ((with_reducible show ∃ L, drawR L _ = true ∧ _); refine ⟨[], by kernel_rfl, ?_⟩) | ((with_reducible show _ ∧ _ ∧ _); refine ⟨by omega, by omega, ?_⟩) | fail) <;> conv => whnf))
          refine ⟨fun c hc => by rw [List.mem_singleton.1 hc]; exact ⟨rfl, rfl⟩, by rw [hnl]; show (_ + 1) * 16 ≤ _; omega, by rw [hnl]; show _ + 1 ≤ _; omega, ?_⟩
          (conv => whnf); (repeat' ((first | with_reducible refine Box.mk ?_ | with_reducible refine And.intro (fun _ => ?_) (fun _ => ?_) | ((with_reducible show AYld _ _ _ _ _); refine AYld.of tok mixed ?_) | with_reducible refine (forceH_eq _ _).mpr ?_ | refine ACall.of_pure (by assumption) (by rfl) ?_ | ((with_reducible show Exists _); refine ⟨_, ACall.of_pure (by assumption) (by rfl) ⟨rfl, rfl⟩, ?_⟩) | ((with_reducible show ∃ L, drawR L _ = true ∧ _); refine ⟨[], by kernel_rfl, ?_⟩) | ((with_reducible show _ ∧ _ ∧ _); refine ⟨by omega, by omega, ?_⟩) | fail) <;> conv => whnf))
          refine ⟨(i + 1, x :: r ++ [(i, h - i)]), ⟨by show i + 1 ≤ a + 1; omega, had⟩, by show a + 1 - (i + 1) < a + 1 - i; omega, weak_ren_to [(0, true), (3, true)] rfl rfl ?_ ⟨rfl, rfl, rfl, rfl, rfl, congrArg (AV.int .i64) e3, trivial⟩⟩
          show [_, Ob.row _ _ (ncl (x :: r) ++ [[_, AV.int _ (IntKind.i64.wrap ((h : Int) - (i : Int)))]])] = [_, Ob.row _ _ (ncl (x :: r ++ [(i, h - i)]))]
          rw [e4', ← ncl_snoc]; rfl
      · rename_i h1 h2 h3
        have h1 : (i : Int) ≤ a := h1
        have h2 : 0 ≤ IntKind.i64.wrap ((h : Int) - (i : Int)) := h2
        have h3 : ¬ IntKind.i64.wrap ((h : Int) - (i : Int)) ≤ b := h3
        exact ⟨(i + 1, l), ⟨by show i + 1 ≤ a + 1; omega, hskip (by omega) (by omega)⟩, by show a + 1 - (i + 1) < a + 1 - i; omega, weak_to ⟨rfl, rfl, rfl, rfl, rfl, congrArg (AV.int .i64) e3, trivial⟩ rfl⟩
      · rename_i h1 h2
        have h1 : (i : Int) ≤ a := h1
        have h2 : ¬ 0 ≤ IntKind.i64.wrap ((h : Int) - (i : Int)) := h2
        exact ⟨(i + 1, l), ⟨by show i + 1 ≤ a + 1; omega, hskip (by omega) (by omega)⟩, by show a + 1 - (i + 1) < a + 1 - i; omega, weak_to ⟨rfl, rfl, rfl, rfl, rfl, congrArg (AV.int .i64) e3, trivial⟩ rfl⟩
      · rename_i h1
        have h1 : ¬ (i : Int) ≤ a := h1
        exact ⟨(h + 1, l), ⟨by show h + 1 ≤ a + b + 1; omega, hfull (by omega)⟩, by show a + b + 1 - (h + 1) < a + b + 1 - h; omega, weak_to ⟨rfl, rfl, rfl, rfl, congrArg (AV.int .i64) (by show IntKind.i64.wrap ((h : Int) + 1) = ((h + 1 : Nat) : Int); rw [wrap_i64 (by omega) (by omega)]; omega), trivial⟩ rfl⟩
    · rename_i hle
      rw [e1] at hle
      have : h = a + b + 1 := by omega
      subst this
      have hl0 : l0 = nodesN a b := hl0
      rw [← hl0] at hne ⊢
      cases l0 with
      | nil => exact absurd rfl hne
      | cons x r =>
        (conv => whnf); (repeat' ((first | with_reducible refine Box.mk ?_ | with_reducible refine And.intro (fun _ => ?_) (fun _ => ?_) | ((with_reducible show AYld _ _ _ _ _); refine AYld.of tok mixed ?_) | with_reducible refine (forceH_eq _ _).mpr ?_ | refine ACall.of_pure (by assumption) (by rfl) ?_ | ((with_reducible show Exists _); refine ⟨_, ACall.of_pure (by assumption) (by rfl) ⟨rfl, rfl⟩, ?_⟩) | ((with_reducible show ∃ L, drawR L _ = true ∧ _); refine ⟨[], by kernel_rfl, ?_⟩) | ((with_reducible show _ ∧ _ ∧ _); refine ⟨by omega, by omega, ?_⟩) | fail) <;> conv => whnf))
        rfl
end Go.Proofs.YtgaohmfmomeflaaGreatDoor
end

section
/- grid: places; the document's answers for heights and places; equal lists. -/
namespace Go.Proofs.YtgaohmfmomeflaaGreatDoor
open Go.Ve

end Go.Proofs.YtgaohmfmomeflaaGreatDoor
end

section
/- prefix, the document's answer: Over, Up; and the statements that they serve. -/
namespace Go.Proofs.YtgaohmfmomeflaaGreatDoor
open Go.Ve

theorem up_over {s : Sp} {p : Px} (i j : Int) : upP s p i j = bif overP s ⟨i, j, cutD s.d0 i p.k0, cutD s.d1 j p.k1⟩ p then ⟨i, j, cutD s.d0 i p.k0, cutD s.d1 j p.k1⟩ else zeroP := by
  cases h : overP s ⟨i, j, cutD s.d0 i p.k0, cutD s.d1 j p.k1⟩ p
  · rw [cond_false]
    by_cases hc : rightP s p = true ∧ p.a0 ≤ i ∧ p.a1 ≤ j
    · rw [up_eq hc.1 hc.2.1 hc.2.2]
      unfold orN
      cases hr : rightP s ⟨i, j, cutD s.d0 i p.k0, cutD s.d1 j p.k1⟩
      · rfl
      · exfalso
        have : overP s ⟨i, j, cutD s.d0 i p.k0, cutD s.d1 j p.k1⟩ p = true := by
          unfold overP
          rw [hr, hc.1, Bool.and_self, Bool.true_and]
          refine decide_eq_true ⟨hc.2.1, hc.2.2, ?_⟩
          show _ = upP s p i j
          rw [up_eq hc.1 hc.2.1 hc.2.2, orN, hr, cond_true]
        rw [h] at this; cases this
    · unfold upP
      have : (rightP s p && decide (p.a0 ≤ i ∧ p.a1 ≤ j)) = false := by
        cases hr : rightP s p
        · rfl
        · rw [Bool.true_and]; exact decide_eq_false fun h' => hc ⟨hr, h'⟩
      rw [this, cond_false]
  · rw [cond_true]
    have h' := h
    unfold overP at h'
    rw [Bool.and_eq_true, Bool.and_eq_true] at h'
    exact (of_decide_eq_true h'.2).2.2.symm
theorem over_dims {s : Sp} {p q : Px} (hp : POk p) (hq : POk q) (rp : rightP s p = true) (rq : rightP s q = true) :
    overP s p q = true ↔ (q.a0 ≤ p.a0 ∧ p.k0 = cutD s.d0 p.a0 q.k0) ∧ (s.n = 2 → q.a1 ≤ p.a1 ∧ p.k1 = cutD s.d1 p.a1 q.k1) := by
  rw [over_iffP hp hq]
  obtain ⟨s1, p0, p1⟩ := (rightP_iff hp).1 rp
  obtain ⟨_, q0, q1⟩ := (rightP_iff hq).1 rq
  refine ⟨fun ⟨_, h0, h1⟩ => ⟨⟨h0.2.2.1, h0.2.2.2⟩, fun hn => ?_⟩, fun ⟨h0, h1⟩ => ⟨s1, ⟨p0.1, q0.1, h0.1, h0.2⟩, ?_⟩⟩
  · unfold R1 at h1
    rw [if_neg (by omega)] at h1
    exact ⟨h1.2.2.1, h1.2.2.2⟩
  · unfold R1 at p1 q1 ⊢
    by_cases hn : s.n = 1
    · rw [if_pos hn] at p1 q1 ⊢
      exact ⟨p1.1, p1.2.1, q1.1, q1.2.1⟩
    · rw [if_neg hn] at p1 q1 ⊢
      have h2 := h1 (by have := sound_n s1; omega)
      exact ⟨p1.1, q1.1, h2.1, h2.2⟩
theorem r9Over_ok (s : Sp) (p q : Px) (hp : POk p) (hq : POk q) : PCall P 107 [spv s, pxv p, pxv q] (.bool (overP s p q)) := by
  have p0 := hp.p0
  have p1 := hp.p1
  have w0 := hq.p0
  have w1 := hq.p1
  have q1 := r9Right_ok s p hp
  have q2 := r9Right_ok s q hq
  have q3 := r8Cut_ok s.d0 p.a0 q.k0 hq.n0 (by omega)
  have q4 := r8Cut_ok s.d1 p.a1 q.k1 hq.n1 (by omega)
  cases rp : rightP s p
  · have e : overP s p q = false := by unfold overP; rw [rp]; rfl
    rw [e]
    rw [rp] at q1
    generalize rightP s q = rq at *
    cases rq
    all_goals (
      refine PCall.of_awp tok mixed fn107 (Nat.le_of_ble_eq_true rfl) ?_
      (conv => whnf); (repeat' ((first | (with_reducible first | refine Box.mk ?_ | refine And.intro (fun _ => ?_) (fun _ => ?_) | refine (forceH_eq _ _).mpr ?_) | refine ACall.of_pure (by assumption) (by rfl) ?_ | ((with_reducible show Exists _); refine ⟨_, ACall.of_pure (by assumption) (by rfl) ⟨rfl, rfl⟩, ?_⟩) | ((with_reducible show _ ∧ _ ∧ _); refine ⟨by omega, by omega, ?_⟩) | fail) <;> conv => whnf))
      all_goals first
        | contradiction
        | rfl)
  · cases rq : rightP s q
    · have e : overP s p q = false := by unfold overP; rw [rp, rq]; rfl
      rw [e]
      rw [rp] at q1
      rw [rq] at q2
      refine PCall.of_awp tok mixed fn107 (Nat.le_of_ble_eq_true rfl) ?_
      (conv => whnf); (repeat' ((first | (with_reducible first | refine Box.mk ?_ | refine And.intro (fun _ => ?_) (fun _ => ?_) | refine (forceH_eq _ _).mpr ?_) | refine ACall.of_pure (by assumption) (by rfl) ?_ | ((with_reducible show Exists _); refine ⟨_, ACall.of_pure (by assumption) (by rfl) ⟨rfl, rfl⟩, ?_⟩) | ((with_reducible show _ ∧ _ ∧ _); refine ⟨by omega, by omega, ?_⟩) | fail) <;> conv => whnf))
      all_goals first
        | contradiction
        | rfl
    · have hn : s.n = 1 ∨ s.n = 2 := sound_n ((rightP_iff hp).1 rp).1
      have ho := over_dims hp hq rp rq
      have no : ¬ ((q.a0 ≤ p.a0 ∧ p.k0 = cutD s.d0 p.a0 q.k0) ∧ (s.n = 2 → q.a1 ≤ p.a1 ∧ p.k1 = cutD s.d1 p.a1 q.k1)) → AV.bool false = AV.bool (overP s p q) := fun h => by
        cases h2 : overP s p q with
        | false => rfl
        | true => exact absurd (ho.1 h2) h
      have yes : ((q.a0 ≤ p.a0 ∧ p.k0 = cutD s.d0 p.a0 q.k0) ∧ (s.n = 2 → q.a1 ≤ p.a1 ∧ p.k1 = cutD s.d1 p.a1 q.k1)) → AV.bool true = AV.bool (overP s p q) := fun h => by rw [ho.2 h]
      rw [rp] at q1
      rw [rq] at q2
      clear ho
      generalize cutD s.d0 p.a0 q.k0 = x at *
      generalize cutD s.d1 p.a1 q.k1 = y at *
      refine PCall.of_awp tok mixed fn107 (Nat.le_of_ble_eq_true rfl) ?_
      (conv => whnf); (repeat' ((first | (with_reducible first | refine Box.mk ?_ | refine And.intro (fun _ => ?_) (fun _ => ?_) | refine (forceH_eq _ _).mpr ?_) | refine ACall.of_pure (by assumption) (by rfl) ?_ | ((with_reducible show Exists _); refine ⟨_, ACall.of_pure (by assumption) (by rfl) ⟨rfl, rfl⟩, ?_⟩) | ((with_reducible show ∃ L, drawR L _ = true ∧ _); refine ⟨[], by kernel_rfl, ?_⟩) | ((with_reducible show _ ∧ _ ∧ _); refine ⟨by omega, by omega, ?_⟩) | fail) <;> conv => whnf))
      all_goals try contradiction
      refine aloop (fun c : Nat => (c : Int) ≤ s.n ∧ (0 < c → q.a0 ≤ p.a0 ∧ p.k0 = x) ∧ (1 < c → q.a1 ≤ p.a1 ∧ p.k1 = y)) (fun c : Nat => ⟨envL [(3, .ptr 0 0), (4, .ptr 1 0), (5, .ptr 2 0), (6, .bool false), (7, .int .i64 c)], [.box 26 (scs s), .box 34 (pcs p), .box 34 (pcs q)]⟩)
        (fun c => 2 - c) 0 ⟨by omega, fun h => by omega, fun h => by omega⟩ (weak_to ⟨rfl, rfl, rfl, rfl, rfl, trivial⟩ rfl) ?_
      rintro c ⟨hc, g0, g1⟩
      have hc2 : c = 0 ∨ c = 1 ∨ c = 2 := by omega
      rcases hc2 with rfl | rfl | rfl
      · (conv => whnf); (repeat' ((first | (with_reducible first | refine Box.mk ?_ | refine And.intro (fun _ => ?_) (fun _ => ?_) | refine (forceH_eq _ _).mpr ?_) | refine ACall.of_pure (by assumption) (by rfl) ?_ | ((with_reducible show Exists _); refine ⟨_, ACall.of_pure (by assumption) (by rfl) ⟨rfl, rfl⟩, ?_⟩) | ((with_reducible show ∃ L, drawR L _ = true ∧ _); refine ⟨[], by kernel_rfl, ?_⟩) | ((with_reducible show _ ∧ _ ∧ _); refine ⟨by omega, by omega, ?_⟩) | fail) <;> conv => whnf))
        all_goals try contradiction
        all_goals try (exfalso; omega)
        all_goals first
          | exact no fun h => by omega
          | exact no fun h => absurd (kv_eq.2 h.1.2) (by assumption)
          | exact ⟨1, ⟨by omega, fun _ => ⟨by omega, kv_eq.1 (by assumption)⟩, fun h => by omega⟩, by decide, weak_to ⟨rfl, rfl, rfl, rfl, rfl, trivial⟩ rfl⟩
      · have k0 := g0 (by omega)
        (conv => whnf); (repeat' ((first | (with_reducible first | refine Box.mk ?_ | refine And.intro (fun _ => ?_) (fun _ => ?_) | refine (forceH_eq _ _).mpr ?_) | refine ACall.of_pure (by assumption) (by rfl) ?_ | ((with_reducible show Exists _); refine ⟨_, ACall.of_pure (by assumption) (by rfl) ⟨rfl, rfl⟩, ?_⟩) | ((with_reducible show ∃ L, drawR L _ = true ∧ _); refine ⟨[], by kernel_rfl, ?_⟩) | ((with_reducible show _ ∧ _ ∧ _); refine ⟨by omega, by omega, ?_⟩) | fail) <;> conv => whnf))
        all_goals try contradiction
        all_goals first
          | exact no fun h => by have := h.2 (by omega); omega
          | exact no fun h => absurd (kv_eq.2 (h.2 (by omega)).2) (by assumption)
          | exact ⟨2, ⟨by omega, fun _ => k0, fun _ => ⟨by omega, kv_eq.1 (by assumption)⟩⟩, by decide, weak_to ⟨rfl, rfl, rfl, rfl, rfl, trivial⟩ rfl⟩
          | exact yes ⟨k0, fun h => by omega⟩
      · have k0 := g0 (by omega)
        have k1 := g1 (by omega)
        (conv => whnf); (repeat' ((first | (with_reducible first | refine Box.mk ?_ | refine And.intro (fun _ => ?_) (fun _ => ?_) | refine (forceH_eq _ _).mpr ?_) | refine ACall.of_pure (by assumption) (by rfl) ?_ | ((with_reducible show Exists _); refine ⟨_, ACall.of_pure (by assumption) (by rfl) ⟨rfl, rfl⟩, ?_⟩) | ((with_reducible show ∃ L, drawR L _ = true ∧ _); refine ⟨[], by kernel_rfl, ?_⟩) | ((with_reducible show _ ∧ _ ∧ _); refine ⟨by omega, by omega, ?_⟩) | fail) <;> conv => whnf))
        all_goals try contradiction
        all_goals try (exfalso; omega)
        all_goals exact yes ⟨k0, fun _ => k1⟩
end Go.Proofs.YtgaohmfmomeflaaGreatDoor
end

section
/- prefix, the document's answer: Up. -/
namespace Go.Proofs.YtgaohmfmomeflaaGreatDoor
open Go.Ve

theorem r9Up_ok (s : Sp) (p : Px) (i j : Int) (hp : POk p) : PCall P 133 [spv s, pxv p, .agg [.int .i64 i, .int .i64 j]] (pxv (upP s p i j)) := by
  have p0 := hp.p0
  have p1 := hp.p1
  have q2 := r8Cut_ok s.d0 i p.k0 hp.n0 (by omega)
  have q3 := r8Cut_ok s.d1 j p.k1 hp.n1 (by omega)
  have q4 := r9Over_ok s _ p (hp.cut s.d0 s.d1 i j) hp
  rw [up_over]
  generalize cutD s.d0 i p.k0 = x at *
  generalize cutD s.d1 j p.k1 = y at *
  generalize overP s ⟨i, j, x, y⟩ p = o at *
  refine PCall.of_awp tok mixed fn133 (Nat.le_of_ble_eq_true rfl) ?_
  (conv => whnf); (repeat' ((first | (with_reducible first | refine Box.mk ?_ | refine And.intro (fun _ => ?_) (fun _ => ?_) | refine (forceH_eq _ _).mpr ?_) | refine ACall.of_pure (by assumption) (by rfl) ?_ | ((with_reducible show Exists _); refine ⟨_, ACall.of_pure (by assumption) (by rfl) ⟨rfl, rfl⟩, ?_⟩) | ((with_reducible show ∃ L, drawR L _ = true ∧ _); refine ⟨[], by kernel_rfl, ?_⟩) | ((with_reducible show _ ∧ _ ∧ _); refine ⟨by omega, by omega, ?_⟩) | fail) <;> conv => whnf))
  refine aloop (fun c => c ≤ 2) (fun c : Nat => ⟨envL [(3, .ptr 0 0), (4, .ptr 1 0), (5, .ptr 2 0), (6, .ptr 3 0), (7, .ptr 4 0), (8, .int .i64 c)], upH s p i j x y c⟩)
    (fun c => 2 - c) 0 (by omega) (weak_to ⟨rfl, rfl, rfl, rfl, rfl, rfl, trivial⟩ rfl) ?_
  intro c hc
  have hc : c = 0 ∨ c = 1 ∨ c = 2 := by omega
  rcases hc with rfl | rfl | rfl
  · (conv => whnf); (repeat' ((first | (with_reducible first | refine Box.mk ?_ | refine And.intro (fun _ => ?_) (fun _ => ?_) | refine (forceH_eq _ _).mpr ?_) | refine ACall.of_pure (by assumption) (by rfl) ?_ | ((with_reducible show Exists _); refine ⟨_, ACall.of_pure (by assumption) (by rfl) ⟨rfl, rfl⟩, ?_⟩) | ((with_reducible show ∃ L, drawR L _ = true ∧ _); refine ⟨[], by kernel_rfl, ?_⟩) | ((with_reducible show _ ∧ _ ∧ _); refine ⟨by omega, by omega, ?_⟩) | fail) <;> conv => whnf))
    all_goals try contradiction
    all_goals first
      | exact ⟨1, by omega, by decide, weak_to ⟨rfl, rfl, rfl, rfl, rfl, rfl, trivial⟩ rfl⟩
      | (exfalso; omega)
  · (conv => whnf); (repeat' ((first | (with_reducible first | refine Box.mk ?_ | refine And.intro (fun _ => ?_) (fun _ => ?_) | refine (forceH_eq _ _).mpr ?_) | refine ACall.of_pure (by assumption) (by rfl) ?_ | ((with_reducible show Exists _); refine ⟨_, ACall.of_pure (by assumption) (by rfl) ⟨rfl, rfl⟩, ?_⟩) | ((with_reducible show ∃ L, drawR L _ = true ∧ _); refine ⟨[], by kernel_rfl, ?_⟩) | ((with_reducible show _ ∧ _ ∧ _); refine ⟨by omega, by omega, ?_⟩) | fail) <;> conv => whnf))
    all_goals try contradiction
    all_goals first
      | exact ⟨2, by omega, by decide, weak_to ⟨rfl, rfl, rfl, rfl, rfl, rfl, trivial⟩ rfl⟩
      | (exfalso; omega)
  · cases o
    · rw [cond_false, pxv_zero]
      (conv => whnf); (repeat' ((first | (with_reducible first | refine Box.mk ?_ | refine And.intro (fun _ => ?_) (fun _ => ?_) | refine (forceH_eq _ _).mpr ?_) | refine ACall.of_pure (by assumption) (by rfl) ?_ | ((with_reducible show Exists _); refine ⟨_, ACall.of_pure (by assumption) (by rfl) ⟨rfl, rfl⟩, ?_⟩) | ((with_reducible show ∃ L, drawR L _ = true ∧ _); refine ⟨[], by kernel_rfl, ?_⟩) | ((with_reducible show _ ∧ _ ∧ _); refine ⟨by omega, by omega, ?_⟩) | fail) <;> conv => whnf))
      all_goals try contradiction
      all_goals first
        | rfl
        | (exfalso; omega)
    · rw [cond_true]
      (conv => whnf); (repeat' ((first | (with_reducible first | refine Box.mk ?_ | refine And.intro (fun _ => ?_) (fun _ => ?_) | refine (forceH_eq _ _).mpr ?_) | refine ACall.of_pure (by assumption) (by rfl) ?_ | ((with_reducible show Exists _); refine ⟨_, ACall.of_pure (by assumption) (by rfl) ⟨rfl, rfl⟩, ?_⟩) | ((with_reducible show ∃ L, drawR L _ = true ∧ _); refine ⟨[], by kernel_rfl, ?_⟩) | ((with_reducible show _ ∧ _ ∧ _); refine ⟨by omega, by omega, ?_⟩) | fail) <;> conv => whnf))
      all_goals try contradiction
      all_goals first
        | rfl
        | (exfalso; omega)
end Go.Proofs.YtgaohmfmomeflaaGreatDoor
end

section
/- grid: All; the document's answer for it; equal lists of prefixes. -/
namespace Go.Proofs.YtgaohmfmomeflaaGreatDoor
open Go.Ve

theorem keysOver0_ok (s : Sp) (p : Px) (hp : POk p) : PCall P 79 [spv s, pxv p, .int .i64 0] (.sl (kcl (kov s.d0 p.k0))) := by
  have p0 := hp.p0
  have q1 := dDepth_ok s.d0
  have q2 := fun l => dCut_ok s.d0 l p.k0 hp.n0 (by omega)
  have hd := @depthD_le s.d0
  rw [kov_fill]
  generalize hn : (depthD s.d0).toNat = n at *
  have e1 : IntKind.i64.wrap (depthD s.d0 + 1) = ((n + 1 : Nat) : Int) := by rw [wrap_i64 (by omega) (by omega)]; omega
  have hfl := fun i f => fillR_len (n + 1) i f kzs
  obtain ⟨f, hf⟩ : ∃ f : Nat → List AV, f = fun i => kcs (cutD s.d0 (i : Nat) p.k0) := ⟨_, rfl⟩
  rw [← hf, ← fillR_all (n + 1) f kzs]
  refine PCall.of_awp tok mixed fn79 (Nat.le_of_ble_eq_true rfl) ?_
  (conv => whnf); (repeat' ((first | with_reducible refine Box.mk ?_ | with_reducible refine And.intro (fun _ => ?_) (fun _ => ?_) | ((with_reducible show AYld _ _ _ _ _); refine AYld.of tok mixed ?_) | with_reducible refine (forceH_eq _ _).mpr ?_ | refine ACall.of_pure (by assumption) (by rfl) ?_ | ((with_reducible show Exists _); refine ⟨_, ACall.of_pure (by assumption) (by rfl) ⟨rfl, rfl⟩, ?_⟩) | ((with_reducible show ∃ L, drawR L _ = true ∧ _); refine ⟨[], by kernel_rfl, ?_⟩) | ((with_reducible show _ ∧ _ ∧ _); refine ⟨by omega, by omega, ?_⟩) | fail) <;> conv => whnf))
  rw [e1]
  refine ⟨by show ((n + 1 : Nat) : Int) * 48 ≤ _; omega, by omega, ?_⟩
  (conv => whnf); (repeat' ((first | with_reducible refine Box.mk ?_ | with_reducible refine And.intro (fun _ => ?_) (fun _ => ?_) | ((with_reducible show AYld _ _ _ _ _); refine AYld.of tok mixed ?_) | with_reducible refine (forceH_eq _ _).mpr ?_ | refine ACall.of_pure (by assumption) (by rfl) ?_ | ((with_reducible show Exists _); refine ⟨_, ACall.of_pure (by assumption) (by rfl) ⟨rfl, rfl⟩, ?_⟩) | ((with_reducible show ∃ L, drawR L _ = true ∧ _); refine ⟨[], by kernel_rfl, ?_⟩) | ((with_reducible show _ ∧ _ ∧ _); refine ⟨by omega, by omega, ?_⟩) | fail) <;> conv => whnf))
  refine aloopH (fun i : Nat => i ≤ n + 1) (fun i : Nat => [(2, .int .i64 0), (3, .ptr 0 0), (4, .ptr 1 0), (7, .ptr 2 0), (8, .own 3), (19, .int .i64 ((n + 1 : Nat) : Int)), (20, .int .i64 i)]) (fun i H => H.set 3 (.row 31 5 (fillR (n + 1) i f kzs))) (fun i => n + 1 - i) 0 (Nat.zero_le _)
    (weak_to ⟨rfl, rfl, rfl, rfl, rfl, congrArg (AV.int .i64) (by rw [List.length_replicate]; rfl), rfl, trivial⟩ (by rw [fillR_zero]; rfl)) ?_
  intro i hi
  have q3 := q2 (i : Int)
  (conv => whnf); (repeat' ((first | with_reducible refine Box.mk ?_ | with_reducible refine And.intro (fun _ => ?_) (fun _ => ?_) | ((with_reducible show AYld _ _ _ _ _); refine AYld.of tok mixed ?_) | with_reducible refine (forceH_eq _ _).mpr ?_ | refine ACall.of_pure (by assumption) (by rfl) ?_ | ((with_reducible show Exists _); refine ⟨_, ACall.of_pure (by assumption) (by rfl) ⟨rfl, rfl⟩, ?_⟩) | ((with_reducible show ∃ L, drawR L _ = true ∧ _); refine ⟨[], by kernel_rfl, ?_⟩) | ((with_reducible show _ ∧ _ ∧ _); refine ⟨by omega, by omega, ?_⟩) | fail) <;> conv => whnf))
  · rename_i h
    have hlt : i < n + 1 := by omega
    refine ⟨by omega, by rw [hfl]; show (i : Int).toNat < n + 1; omega, ?_⟩
    (conv => whnf); (repeat' ((first | with_reducible refine Box.mk ?_ | with_reducible refine And.intro (fun _ => ?_) (fun _ => ?_) | ((with_reducible show AYld _ _ _ _ _); refine AYld.of tok mixed ?_) | with_reducible refine (forceH_eq _ _).mpr ?_ | refine ACall.of_pure (by assumption) (by rfl) ?_ | ((with_reducible show Exists _); refine ⟨_, ACall.of_pure (by assumption) (by rfl) ⟨rfl, rfl⟩, ?_⟩) | ((with_reducible show ∃ L, drawR L _ = true ∧ _); refine ⟨[], by kernel_rfl, ?_⟩) | ((with_reducible show _ ∧ _ ∧ _); refine ⟨by omega, by omega, ?_⟩) | fail) <;> conv => whnf))
    refine ⟨_, fillR_get (by show (i : Int).toNat < n + 1; omega), ?_⟩
    (conv => whnf); (repeat' ((first | with_reducible refine Box.mk ?_ | with_reducible refine And.intro (fun _ => ?_) (fun _ => ?_) | ((with_reducible show AYld _ _ _ _ _); refine AYld.of tok mixed ?_) | with_reducible refine (forceH_eq _ _).mpr ?_ | refine ACall.of_pure (by assumption) (by rfl) ?_ | ((with_reducible show Exists _); refine ⟨_, ACall.of_pure (by assumption) (by rfl) ⟨rfl, rfl⟩, ?_⟩) | ((with_reducible show ∃ L, drawR L _ = true ∧ _); refine ⟨[], by kernel_rfl, ?_⟩) | ((with_reducible show _ ∧ _ ∧ _); refine ⟨by omega, by omega, ?_⟩) | fail) <;> conv => whnf))
    refine ⟨i + 1, hlt, by omega, weak_to ⟨rfl, rfl, rfl, rfl, rfl, rfl, wrap_nat (m := 1) (by omega), trivial⟩ ?_⟩
    show [_, _, _, Ob.row _ _ ((fillR (n + 1) i f kzs).set i (kcs (cutD s.d0 (i : Nat) p.k0)))] = [_, _, _, Ob.row _ _ (fillR (n + 1) (i + 1) f kzs)]
    rw [← fillR_set, hf]
  · rename_i h
    have : i = n + 1 := by omega
    subst this
    rfl
theorem keysOver1_ok (s : Sp) (p : Px) (hp : POk p) : PCall P 79 [spv s, pxv p, .int .i64 1] (.sl (kcl (kov s.d1 p.k1))) := by
  have p0 := hp.p1
  have q1 := dDepth_ok s.d1
  have q2 := fun l => dCut_ok s.d1 l p.k1 hp.n1 (by omega)
  have hd := @depthD_le s.d1
  rw [kov_fill]
  generalize hn : (depthD s.d1).toNat = n at *
  have e1 : IntKind.i64.wrap (depthD s.d1 + 1) = ((n + 1 : Nat) : Int) := by rw [wrap_i64 (by omega) (by omega)]; omega
  have hfl := fun i f => fillR_len (n + 1) i f kzs
  obtain ⟨f, hf⟩ : ∃ f : Nat → List AV, f = fun i => kcs (cutD s.d1 (i : Nat) p.k1) := ⟨_, rfl⟩
  rw [← hf, ← fillR_all (n + 1) f kzs]
  refine PCall.of_awp tok mixed fn79 (Nat.le_of_ble_eq_true rfl) ?_
  (conv => whnf); (repeat' ((first | with_reducible refine Box.mk ?_ | with_reducible refine And.intro (fun _ => ?_) (fun _ => ?_) | ((with_reducible show AYld _ _ _ _ _); refine AYld.of tok mixed ?_) | with_reducible refine (forceH_eq _ _).mpr ?_ | refine ACall.of_pure (by assumption) (by rfl) ?_ | ((with_reducible show Exists _); refine ⟨_, ACall.of_pure (by assumption) (by rfl) ⟨rfl, rfl⟩, ?_⟩) | ((with_reducible show ∃ L, drawR L _ = true ∧ _); refine ⟨[], by kernel_rfl, ?_⟩) | ((with_reducible show _ ∧ _ ∧ _); refine ⟨by omega, by omega, ?_⟩) | fail) <;> conv => whnf))
  rw [e1]
  refine ⟨by show ((n + 1 : Nat) : Int) * 48 ≤ _; omega, by omega, ?_⟩
  (conv => whnf); (repeat' ((first | with_reducible refine Box.mk ?_ | with_reducible refine And.intro (fun _ => ?_) (fun _ => ?_) | ((with_reducible show AYld _ _ _ _ _); refine AYld.of tok mixed ?_) | with_reducible refine (forceH_eq _ _).mpr ?_ | refine ACall.of_pure (by assumption) (by rfl) ?_ | ((with_reducible show Exists _); refine ⟨_, ACall.of_pure (by assumption) (by rfl) ⟨rfl, rfl⟩, ?_⟩) | ((with_reducible show ∃ L, drawR L _ = true ∧ _); refine ⟨[], by kernel_rfl, ?_⟩) | ((with_reducible show _ ∧ _ ∧ _); refine ⟨by omega, by omega, ?_⟩) | fail) <;> conv => whnf))
  refine aloopH (fun i : Nat => i ≤ n + 1) (fun i : Nat => [(2, .int .i64 1), (3, .ptr 0 0), (4, .ptr 1 0), (7, .ptr 2 0), (8, .own 3), (19, .int .i64 ((n + 1 : Nat) : Int)), (20, .int .i64 i)]) (fun i H => H.set 3 (.row 31 5 (fillR (n + 1) i f kzs))) (fun i => n + 1 - i) 0 (Nat.zero_le _)
    (weak_to ⟨rfl, rfl, rfl, rfl, rfl, congrArg (AV.int .i64) (by rw [List.length_replicate]; rfl), rfl, trivial⟩ (by rw [fillR_zero]; rfl)) ?_
  intro i hi
  have q3 := q2 (i : Int)
  (conv => whnf); (repeat' ((first | with_reducible refine Box.mk ?_ | with_reducible refine And.intro (fun _ => ?_) (fun _ => ?_) | ((with_reducible show AYld _ _ _ _ _); refine AYld.of tok mixed ?_) | with_reducible refine (forceH_eq _ _).mpr ?_ | refine ACall.of_pure (by assumption) (by rfl) ?_ | ((with_reducible show Exists _); refine ⟨_, ACall.of_pure (by assumption) (by rfl) ⟨rfl, rfl⟩, ?_⟩) | ((with_reducible show ∃ L, drawR L _ = true ∧ _); refine ⟨[], by kernel_rfl, ?_⟩) | ((with_reducible show _ ∧ _ ∧ _); refine ⟨by omega, by omega, ?_⟩) | fail) <;> conv => whnf))
  · rename_i h
    have hlt : i < n + 1 := by omega
    refine ⟨by omega, by rw [hfl]; show (i : Int).toNat < n + 1; omega, ?_⟩
    (conv => whnf); (repeat' ((first | with_reducible refine Box.mk ?_ | with_reducible refine And.intro (fun _ => ?_) (fun _ => ?_) | ((with_reducible show AYld _ _ _ _ _); refine AYld.of tok mixed ?_) | with_reducible refine (forceH_eq _ _).mpr ?_ | refine ACall.of_pure (by assumption) (by rfl) ?_ | ((with_reducible show Exists _); refine ⟨_, ACall.of_pure (by assumption) (by rfl) ⟨rfl, rfl⟩, ?_⟩) | ((with_reducible show ∃ L, drawR L _ = true ∧ _); refine ⟨[], by kernel_rfl, ?_⟩) | ((with_reducible show _ ∧ _ ∧ _); refine ⟨by omega, by omega, ?_⟩) | fail) <;> conv => whnf))
    refine ⟨_, fillR_get (by show (i : Int).toNat < n + 1; omega), ?_⟩
    (conv => whnf); (repeat' ((first | with_reducible refine Box.mk ?_ | with_reducible refine And.intro (fun _ => ?_) (fun _ => ?_) | ((with_reducible show AYld _ _ _ _ _); refine AYld.of tok mixed ?_) | with_reducible refine (forceH_eq _ _).mpr ?_ | refine ACall.of_pure (by assumption) (by rfl) ?_ | ((with_reducible show Exists _); refine ⟨_, ACall.of_pure (by assumption) (by rfl) ⟨rfl, rfl⟩, ?_⟩) | ((with_reducible show ∃ L, drawR L _ = true ∧ _); refine ⟨[], by kernel_rfl, ?_⟩) | ((with_reducible show _ ∧ _ ∧ _); refine ⟨by omega, by omega, ?_⟩) | fail) <;> conv => whnf))
    refine ⟨i + 1, hlt, by omega, weak_to ⟨rfl, rfl, rfl, rfl, rfl, rfl, wrap_nat (m := 1) (by omega), trivial⟩ ?_⟩
    show [_, _, _, Ob.row _ _ ((fillR (n + 1) i f kzs).set i (kcs (cutD s.d1 (i : Nat) p.k1)))] = [_, _, _, Ob.row _ _ (fillR (n + 1) (i + 1) f kzs)]
    rw [← fillR_set, hf]
  · rename_i h
    have : i = n + 1 := by omega
    subst this
    rfl
def allH : List Px → Hp → Hp
  | [], H => H
  | x :: r, H => H.set 3 (.box 60 [.own 5]) ++ [.row 34 12 (pcl (x :: r))]
theorem allH_snoc (l : List Px) (x : Px) (H : Hp) : allH (l ++ [x]) H = H.set 3 (.box 60 [.own 5]) ++ [.row 34 12 (pcl l ++ [pcs x])] := by
  rw [pcl_snoc]
  cases l with
  | nil => rfl
  | cons y r => rfl
theorem gAll_ok (s : Sp) (p : Px) (hp : POk p) : PCall P 50 [spv s, pxv p] (pvl (allP s p)) := by
  have q1 := pRight_ok s p hp
  have q2 := keysOver0_ok s p hp
  have q3 := keysOver1_ok s p hp
  have q4 := gWalk_ok s
  cases hr : rightP s p
  · rw [hr] at q1
    have e : allP s p = [] := by unfold allP; rw [hr, cond_false]
    rw [e]
    refine PCall.of_awp tok mixed fn50 (Nat.le_of_ble_eq_true rfl) ?_
    (conv => whnf); (repeat' ((first | with_reducible refine Box.mk ?_ | with_reducible refine And.intro (fun _ => ?_) (fun _ => ?_) | ((with_reducible show AYld _ _ _ _ _); refine AYld.of tok mixed ?_) | with_reducible refine (forceH_eq _ _).mpr ?_ | refine ACall.of_pure (by assumption) (by rfl) ?_ | ((with_reducible show Exists _); refine ⟨_, ACall.of_pure (by assumption) (by rfl) ⟨rfl, rfl⟩, ?_⟩) | ((with_reducible show ∃ L, drawR L _ = true ∧ _); refine ⟨[], by kernel_rfl, ?_⟩) | ((with_reducible show _ ∧ _ ∧ _); refine ⟨by omega, by omega, ?_⟩) | fail) <;> conv => whnf))
    all_goals first
      | contradiction
      | rfl
  · rw [hr] at q1
    have hs := right_sound hr
    have e : allP s p = accA s p (nodesN (gA s) (gB s)) := by unfold allP; rw [hr, cond_true, nds_yes hs]
    rw [e]
    obtain ⟨g1, g2⟩ := g_le s
    have hN := nodesN_len g1 g2
    have ea : (gA s : Int) ≤ depthD s.d0 := by
      have h0 := @depthD_le s.d0
      unfold gA; rw [hs, cond_true]; omega
    have eb : (gB s : Int) ≤ depthD s.d1 := by
      have h0 := @depthD_le s.d1
      unfold gB; rw [hs, cond_true]; omega
    refine PCall.of_awp tok mixed fn50 (Nat.le_of_ble_eq_true rfl) ?_
    (conv => whnf); (repeat' ((first | with_reducible refine Box.mk ?_ | with_reducible refine And.intro (fun _ => ?_) (fun _ => ?_) | ((with_reducible show AYld _ _ _ _ _); refine AYld.of tok mixed ?_) | with_reducible refine (forceH_eq _ _).mpr ?_ | refine ACall.of_pure (by assumption) (by rfl) ?_ | ((with_reducible show Exists _); refine ⟨_, ACall.of_pure (by assumption) (by rfl) ⟨rfl, rfl⟩, ?_⟩) | ((with_reducible show _ ∧ _ ∧ _); refine ⟨by omega, by omega, ?_⟩) | fail) <;> conv => whnf))
    all_goals try contradiction
    refine ⟨[(7, [0, 1, 2, 3, 4, 5])], by kernel_rfl, ?_⟩
    (conv => whnf); (repeat' ((first | with_reducible refine Box.mk ?_ | with_reducible refine And.intro (fun _ => ?_) (fun _ => ?_) | ((with_reducible show AYld _ _ _ _ _); refine AYld.of tok mixed ?_) | with_reducible refine (forceH_eq _ _).mpr ?_ | refine ACall.of_pure (by assumption) (by rfl) ?_ | ((with_reducible show Exists _); refine ⟨_, ACall.of_pure (by assumption) (by rfl) ⟨rfl, rfl⟩, ?_⟩) | ((with_reducible show _ ∧ _ ∧ _); refine ⟨by omega, by omega, ?_⟩) | fail) <;> conv => whnf))
    (refine And.intro ?_ ?_); (focus ((conv => whnf); (repeat' first | exact trivial | ((refine And.intro ?_ ?_); (focus ((conv => whnf); (first | exact ⟨rfl, rfl⟩ | exact ⟨by decide, by decide, rfl, rfl⟩ | exact ⟨by omega, by omega, rfl, rfl⟩ | exact ⟨by (simp only [List.length_drop, List.length_take]; omega), rfl, rfl⟩ | exact ⟨_, rfl, rfl, rfl⟩ | exact ⟨by omega, _, by assumption, rfl, rfl, rfl⟩ | ((refine ACall.of_pure (by assumption) (by rfl) ?_); (refine And.intro ?_ ?_ <;> rfl))))); (conv => whnf)))))
    (conv => whnf); (repeat' ((first | with_reducible refine Box.mk ?_ | with_reducible refine And.intro (fun _ => ?_) (fun _ => ?_) | ((with_reducible show AYld _ _ _ _ _); refine AYld.of tok mixed ?_) | with_reducible refine (forceH_eq _ _).mpr ?_ | refine ACall.of_pure (by assumption) (by rfl) ?_ | ((with_reducible show Exists _); refine ⟨_, ACall.of_pure (by assumption) (by rfl) ⟨rfl, rfl⟩, ?_⟩) | ((with_reducible show _ ∧ _ ∧ _); refine ⟨by omega, by omega, ?_⟩) | fail) <;> conv => whnf))
    refine arange [(2, .ptr 0 0), (3, .ptr 1 0), (5, .ptr 2 0), (6, .ptr 3 0)] ⟨rfl, rfl, rfl, rfl, trivial⟩ rfl trivial ?_
    refine walk_iterH s hs _ _ (fun pre => allH (accA s p pre)) _ rfl (fun pre q hq => ?_) ?_
    · have hle := hq.length_le
      rw [List.length_append, List.length_singleton] at hle
      have hqm : q ∈ nodesN (gA s) (gB s) := hq.subset (by simp)
      obtain ⟨j, hj⟩ := List.getElem?_of_mem hqm
      obtain ⟨b1, b2, _⟩ := node_get hj
      have k0 := kov_get (d := s.d0) (k := p.k0) (i := q.1) (by omega)
      have k1 := kov_get (d := s.d1) (k := p.k1) (i := q.2) (by omega)
      have hal := accA_len s p pre
      have hpl := pcl_len (accA s p pre)
      by_cases hov : overN p q = true
      · have hd := of_decide_eq_true hov
        show AYld _ _ _ _ (fun r H' => (r = .bool true ∧ ∃ L, okL H'.length L = true ∧ _ ∧ _ ∧ heapOf (gOf L 0) H' L = allH (accA s p (pre ++ [q])) _) ∨ _)
        rw [accA_snoc_yes hov, allH_snoc]
        generalize accA s p pre = acc at *
        cases acc with
        | nil =>
          (conv => whnf); (repeat' ((first | with_reducible refine Box.mk ?_ | with_reducible refine And.intro (fun _ => ?_) (fun _ => ?_) | ((with_reducible show AYld _ _ _ _ _); refine AYld.of tok mixed ?_) | with_reducible refine (forceH_eq _ _).mpr ?_ | refine ACall.of_pure (by assumption) (by rfl) ?_ | ((with_reducible show Exists _); refine ⟨_, ACall.of_pure (by assumption) (by rfl) ⟨rfl, rfl⟩, ?_⟩) | ((with_reducible show _ ∧ _ ∧ _); refine ⟨by omega, by omega, ?_⟩) | fail) <;> conv => whnf))
          all_goals try (exfalso; omega)
          refine ⟨[(16, [0])], by kernel_rfl, ?_⟩
          (conv => whnf); (repeat' ((first | with_reducible refine Box.mk ?_ | with_reducible refine And.intro (fun _ => ?_) (fun _ => ?_) | ((with_reducible show AYld _ _ _ _ _); refine AYld.of tok mixed ?_) | with_reducible refine (forceH_eq _ _).mpr ?_ | refine ACall.of_pure (by assumption) (by rfl) ?_ | ((with_reducible show Exists _); refine ⟨_, ACall.of_pure (by assumption) (by rfl) ⟨rfl, rfl⟩, ?_⟩) | ((with_reducible show _ ∧ _ ∧ _); refine ⟨by omega, by omega, ?_⟩) | fail) <;> conv => whnf))
          refine ⟨by omega, _, k0, rfl, ?_⟩
          (conv => whnf); (repeat' ((first | with_reducible refine Box.mk ?_ | with_reducible refine And.intro (fun _ => ?_) (fun _ => ?_) | ((with_reducible show AYld _ _ _ _ _); refine AYld.of tok mixed ?_) | with_reducible refine (forceH_eq _ _).mpr ?_ | refine ACall.of_pure (by assumption) (by rfl) ?_ | ((with_reducible show Exists _); refine ⟨_, ACall.of_pure (by assumption) (by rfl) ⟨rfl, rfl⟩, ?_⟩) | ((with_reducible show _ ∧ _ ∧ _); refine ⟨by omega, by omega, ?_⟩) | fail) <;> conv => whnf))
          refine ⟨by omega, _, k1, rfl, ?_⟩
          (conv => whnf); (repeat' ((first | with_reducible refine Box.mk ?_ | with_reducible refine And.intro (fun _ => ?_) (fun _ => ?_) | ((with_reducible show AYld _ _ _ _ _); refine AYld.of tok mixed ?_) | with_reducible refine (forceH_eq _ _).mpr ?_ | refine ACall.of_pure (by assumption) (by rfl) ?_ | ((with_reducible show Exists _); refine ⟨_, ACall.of_pure (by assumption) (by rfl) ⟨rfl, rfl⟩, ?_⟩) | ((with_reducible show _ ∧ _ ∧ _); refine ⟨by omega, by omega, ?_⟩) | fail) <;> conv => whnf))
          (refine And.intro ?_ ?_); (focus ((conv => whnf); (repeat' first | exact trivial | ((refine And.intro ?_ ?_); (focus ((conv => whnf); (first | exact ⟨rfl, rfl⟩ | exact ⟨by decide, by decide, rfl, rfl⟩ | exact ⟨by omega, by omega, rfl, rfl⟩ | exact ⟨by (simp only [List.length_drop, List.length_take]; omega), rfl, rfl⟩ | exact ⟨_, rfl, rfl, rfl⟩ | exact ⟨by omega, _, by assumption, rfl, rfl, rfl⟩ | ((refine ACall.of_pure (by assumption) (by rfl) ?_); (refine And.intro ?_ ?_ <;> rfl))))); (conv => whnf)))))
          (conv => whnf); (repeat' ((first | with_reducible refine Box.mk ?_ | with_reducible refine And.intro (fun _ => ?_) (fun _ => ?_) | ((with_reducible show AYld _ _ _ _ _); refine AYld.of tok mixed ?_) | with_reducible refine (forceH_eq _ _).mpr ?_ | refine ACall.of_pure (by assumption) (by rfl) ?_ | ((with_reducible show Exists _); refine ⟨_, ACall.of_pure (by assumption) (by rfl) ⟨rfl, rfl⟩, ?_⟩) | ((with_reducible show _ ∧ _ ∧ _); refine ⟨by omega, by omega, ?_⟩) | fail) <;> conv => whnf))
          refine ⟨fun c hc => by rw [List.mem_singleton.1 hc]; exact ⟨rfl, rfl⟩, fun h => (by cases h), fun _ => ⟨Nat.le_of_ble_eq_true rfl, Nat.le_of_ble_eq_true rfl, ?_⟩⟩
          (conv => whnf); (repeat' ((first | with_reducible refine Box.mk ?_ | with_reducible refine And.intro (fun _ => ?_) (fun _ => ?_) | ((with_reducible show AYld _ _ _ _ _); refine AYld.of tok mixed ?_) | with_reducible refine (forceH_eq _ _).mpr ?_ | refine ACall.of_pure (by assumption) (by rfl) ?_ | ((with_reducible show Exists _); refine ⟨_, ACall.of_pure (by assumption) (by rfl) ⟨rfl, rfl⟩, ?_⟩) | ((with_reducible show _ ∧ _ ∧ _); refine ⟨by omega, by omega, ?_⟩) | fail) <;> conv => whnf))
          exact .inl ⟨rfl, [(0, true), (1, true), (2, true), (3, true), (4, true), (7, true)], rfl, rfl, rfl, rfl⟩
        | cons x r =>
          (conv => whnf); (repeat' ((first | with_reducible refine Box.mk ?_ | with_reducible refine And.intro (fun _ => ?_) (fun _ => ?_) | ((with_reducible show AYld _ _ _ _ _); refine AYld.of tok mixed ?_) | with_reducible refine (forceH_eq _ _).mpr ?_ | refine ACall.of_pure (by assumption) (by rfl) ?_ | ((with_reducible show Exists _); refine ⟨_, ACall.of_pure (by assumption) (by rfl) ⟨rfl, rfl⟩, ?_⟩) | ((with_reducible show _ ∧ _ ∧ _); refine ⟨by omega, by omega, ?_⟩) | fail) <;> conv => whnf))
          all_goals try (exfalso; omega)
          refine ⟨[(16, [0])], by kernel_rfl, ?_⟩
          (conv => whnf); (repeat' ((first | with_reducible refine Box.mk ?_ | with_reducible refine And.intro (fun _ => ?_) (fun _ => ?_) | ((with_reducible show AYld _ _ _ _ _); refine AYld.of tok mixed ?_) | with_reducible refine (forceH_eq _ _).mpr ?_ | refine ACall.of_pure (by assumption) (by rfl) ?_ | ((with_reducible show Exists _); refine ⟨_, ACall.of_pure (by assumption) (by rfl) ⟨rfl, rfl⟩, ?_⟩) | ((with_reducible show _ ∧ _ ∧ _); refine ⟨by omega, by omega, ?_⟩) | fail) <;> conv => whnf))
          refine ⟨by omega, _, k0, rfl, ?_⟩
          (conv => whnf); (repeat' ((first | with_reducible refine Box.mk ?_ | with_reducible refine And.intro (fun _ => ?_) (fun _ => ?_) | ((with_reducible show AYld _ _ _ _ _); refine AYld.of tok mixed ?_) | with_reducible refine (forceH_eq _ _).mpr ?_ | refine ACall.of_pure (by assumption) (by rfl) ?_ | ((with_reducible show Exists _); refine ⟨_, ACall.of_pure (by assumption) (by rfl) ⟨rfl, rfl⟩, ?_⟩) | ((with_reducible show _ ∧ _ ∧ _); refine ⟨by omega, by omega, ?_⟩) | fail) <;> conv => whnf))
          refine ⟨by omega, _, k1, rfl, ?_⟩
          (conv => whnf); (repeat' ((first | with_reducible refine Box.mk ?_ | with_reducible refine And.intro (fun _ => ?_) (fun _ => ?_) | ((with_reducible show AYld _ _ _ _ _); refine AYld.of tok mixed ?_) | with_reducible refine (forceH_eq _ _).mpr ?_ | refine ACall.of_pure (by assumption) (by rfl) ?_ | ((with_reducible show Exists _); refine ⟨_, ACall.of_pure (by assumption) (by rfl) ⟨rfl, rfl⟩, ?_⟩) | ((with_reducible show _ ∧ _ ∧ _); refine ⟨by omega, by omega, ?_⟩) | fail) <;> conv => whnf))
          (refine And.intro ?_ ?_); (focus ((conv => whnf); (repeat' first | exact trivial | ((refine And.intro ?_ ?_); (focus ((conv => whnf); (first | exact ⟨rfl, rfl⟩ | exact ⟨by decide, by decide, rfl, rfl⟩ | exact ⟨by omega, by omega, rfl, rfl⟩ | exact ⟨by (simp only [List.length_drop, List.length_take]; omega), rfl, rfl⟩ | exact ⟨_, rfl, rfl, rfl⟩ | exact ⟨by omega, _, by assumption, rfl, rfl, rfl⟩ | ((refine ACall.of_pure (by assumption) (by rfl) ?_); (refine And.intro ?_ ?_ <;> rfl))))); (conv => whnf)))))
          (conv => whnf); (repeat' ((first | with_reducible refine Box.mk ?_ | with_reducible refine And.intro (fun _ => ?_) (fun _ => ?_) | ((with_reducible show AYld _ _ _ _ _); refine AYld.of tok mixed ?_) | with_reducible refine (forceH_eq _ _).mpr ?_ | refine ACall.of_pure (by assumption) (by rfl) ?_ | ((with_reducible show Exists _); refine ⟨_, ACall.of_pure (by assumption) (by rfl) ⟨rfl, rfl⟩, ?_⟩) | ((with_reducible show _ ∧ _ ∧ _); refine ⟨by omega, by omega, ?_⟩) | fail) <;> conv => whnf))
          refine ⟨fun c hc => by rw [List.mem_singleton.1 hc]; exact ⟨rfl, rfl⟩, by rw [hpl]; show (_ + 1) * 112 ≤ _; omega, by rw [hpl]; show _ + 1 ≤ _; omega, ?_⟩
          (conv => whnf); (repeat' ((first | with_reducible refine Box.mk ?_ | with_reducible refine And.intro (fun _ => ?_) (fun _ => ?_) | ((with_reducible show AYld _ _ _ _ _); refine AYld.of tok mixed ?_) | with_reducible refine (forceH_eq _ _).mpr ?_ | refine ACall.of_pure (by assumption) (by rfl) ?_ | ((with_reducible show Exists _); refine ⟨_, ACall.of_pure (by assumption) (by rfl) ⟨rfl, rfl⟩, ?_⟩) | ((with_reducible show _ ∧ _ ∧ _); refine ⟨by omega, by omega, ?_⟩) | fail) <;> conv => whnf))
          exact .inl ⟨rfl, [(0, true), (1, true), (2, true), (3, true), (4, true), (8, true)], rfl, rfl, rfl, rfl⟩
      · have hno : overN p q = false := by cases h : overN p q with
          | false => rfl
          | true => exact absurd h hov
        have hd := of_decide_eq_false hno
        show AYld _ _ _ _ (fun r H' => (r = .bool true ∧ ∃ L, okL H'.length L = true ∧ _ ∧ _ ∧ heapOf (gOf L 0) H' L = allH (accA s p (pre ++ [q])) _) ∨ _)
        rw [accA_snoc_no hno]
        generalize accA s p pre = acc at *
        cases acc with
        | nil =>
          (conv => whnf); (repeat' ((first | with_reducible refine Box.mk ?_ | with_reducible refine And.intro (fun _ => ?_) (fun _ => ?_) | ((with_reducible show AYld _ _ _ _ _); refine AYld.of tok mixed ?_) | with_reducible refine (forceH_eq _ _).mpr ?_ | refine ACall.of_pure (by assumption) (by rfl) ?_ | ((with_reducible show Exists _); refine ⟨_, ACall.of_pure (by assumption) (by rfl) ⟨rfl, rfl⟩, ?_⟩) | ((with_reducible show _ ∧ _ ∧ _); refine ⟨by omega, by omega, ?_⟩) | fail) <;> conv => whnf))
          all_goals try (exfalso; omega)
          all_goals exact .inl ⟨rfl, [(0, true), (1, true), (2, true), (3, true), (4, true)], rfl, rfl, rfl, rfl⟩
        | cons x r =>
          (conv => whnf); (repeat' ((first | with_reducible refine Box.mk ?_ | with_reducible refine And.intro (fun _ => ?_) (fun _ => ?_) | ((with_reducible show AYld _ _ _ _ _); refine AYld.of tok mixed ?_) | with_reducible refine (forceH_eq _ _).mpr ?_ | refine ACall.of_pure (by assumption) (by rfl) ?_ | ((with_reducible show Exists _); refine ⟨_, ACall.of_pure (by assumption) (by rfl) ⟨rfl, rfl⟩, ?_⟩) | ((with_reducible show _ ∧ _ ∧ _); refine ⟨by omega, by omega, ?_⟩) | fail) <;> conv => whnf))
          all_goals try (exfalso; omega)
          all_goals exact .inl ⟨rfl, [(0, true), (1, true), (2, true), (3, true), (4, true), (5, true)], rfl, rfl, rfl, rfl⟩
    · show rangeK _ _ _ (allH (accA s p (nodesN (gA s) (gB s))) _)
      generalize accA s p (nodesN (gA s) (gB s)) = acc
      cases acc with
      | nil =>
        (conv => whnf); (repeat' ((first | with_reducible refine Box.mk ?_ | with_reducible refine And.intro (fun _ => ?_) (fun _ => ?_) | ((with_reducible show AYld _ _ _ _ _); refine AYld.of tok mixed ?_) | with_reducible refine (forceH_eq _ _).mpr ?_ | refine ACall.of_pure (by assumption) (by rfl) ?_ | ((with_reducible show Exists _); refine ⟨_, ACall.of_pure (by assumption) (by rfl) ⟨rfl, rfl⟩, ?_⟩) | ((with_reducible show _ ∧ _ ∧ _); refine ⟨by omega, by omega, ?_⟩) | fail) <;> conv => whnf))
        rfl
      | cons x r =>
        (conv => whnf); (repeat' ((first | with_reducible refine Box.mk ?_ | with_reducible refine And.intro (fun _ => ?_) (fun _ => ?_) | ((with_reducible show AYld _ _ _ _ _); refine AYld.of tok mixed ?_) | with_reducible refine (forceH_eq _ _).mpr ?_ | refine ACall.of_pure (by assumption) (by rfl) ?_ | ((with_reducible show Exists _); refine ⟨_, ACall.of_pure (by assumption) (by rfl) ⟨rfl, rfl⟩, ?_⟩) | ((with_reducible show _ ∧ _ ∧ _); refine ⟨by omega, by omega, ?_⟩) | fail) <;> conv => whnf))
        rfl
end Go.Proofs.YtgaohmfmomeflaaGreatDoor
end

section
/- grid: the document's All; equal lists; parents. -/
namespace Go.Proofs.YtgaohmfmomeflaaGreatDoor
open Go.Ve

def pv1 : List Px → AV
  | [] => .nils
  | _ :: _ => .own 2
def ph1 : List Px → Hp → Hp
  | [], H => H
  | x :: r, H => H ++ [.row 34 12 (pcl (x :: r))]
theorem rAll_ok (s : Sp) (p : Px) (hp : POk p) : PCall P 108 [spv s, pxv p] (pvl (allP s p)) := by
  have q1 := rNodes_ok s
  have q2 := fun i j => r9Up_ok s p i j hp
  have q3 := fun i j => r9Right_ok s (upP s p i j) (upP_ok hp i j)
  have hN := nds_len s
  have hyes := fun q (hq : q ∈ nds s) (h : rightP s p = true ∧ overN p q = true) => upAt_yes hp h.1 hq h.2
  have hno := fun q h => upAt_no (s := s) (p := p) (q := q) h
  have hall : allP s p = bif rightP s p then accA s p (nds s) else [] := rfl
  rw [hall]
  obtain ⟨acc, hacc⟩ : ∃ acc : List (Nat × Nat) → List Px, acc = fun l => bif rightP s p then accA s p l else [] := ⟨_, rfl⟩
  have hs1 : ∀ l q, (rightP s p = true ∧ overN p q = true) → acc (l ++ [q]) = acc l ++ [upAt s p q] := fun l q h => by
    rw [hacc]; simp only [h.1, cond_true]; exact accA_snoc_yes h.2
  have hs2 : ∀ l q, ¬ (rightP s p = true ∧ overN p q = true) → acc (l ++ [q]) = acc l := fun l q h => by
    rw [hacc]
    cases hr : rightP s p
    · rfl
    · simp only [cond_true]
      cases ho : overN p q
      · exact accA_snoc_no ho
      · exact absurd ⟨hr, ho⟩ h
  have hlen : ∀ l, (acc l).length ≤ l.length := fun l => by
    rw [hacc]
    cases rightP s p
    · exact Nat.zero_le _
    · exact accA_len _ _ _
  have hnil : acc [] = [] := by rw [hacc]; cases rightP s p <;> rfl
  rw [show (bif rightP s p then accA s p (nds s) else []) = acc (nds s) by rw [hacc]]
  clear hall hacc
  generalize hl0 : nds s = l at *
  have hnl := ncl_len l
  refine PCall.of_awp tok mixed fn108 (Nat.le_of_ble_eq_true rfl) ?_
  cases hl1 : l with
  | nil =>
    subst hl1
    rw [hnil]
    (conv => whnf); (repeat' ((first | (with_reducible first | refine Box.mk ?_ | refine And.intro (fun _ => ?_) (fun _ => ?_) | refine (forceH_eq _ _).mpr ?_) | refine ACall.of_pure (by assumption) (by rfl) ?_ | ((with_reducible show Exists _); refine ⟨_, ACall.of_pure (by assumption) (by rfl) ⟨rfl, rfl⟩, ?_⟩) | ((with_reducible show _ ∧ _ ∧ _); refine ⟨by omega, by omega, ?_⟩) | fail) <;> conv => whnf))
    refine aloopH (fun _ => True) (fun _ : Unit => [(2, .ptr 0 0), (3, .ptr 1 0), (5, .nils), (6, .nils), (7, .int .i64 0)]) (fun _ H => H) (fun _ => 0) () trivial (weak_to ⟨rfl, rfl, rfl, rfl, rfl, trivial⟩ rfl) ?_
    intro _ _
    (conv => whnf); (repeat' ((first | (with_reducible first | refine Box.mk ?_ | refine And.intro (fun _ => ?_) (fun _ => ?_) | refine (forceH_eq _ _).mpr ?_) | refine ACall.of_pure (by assumption) (by rfl) ?_ | ((with_reducible show Exists _); refine ⟨_, ACall.of_pure (by assumption) (by rfl) ⟨rfl, rfl⟩, ?_⟩) | ((with_reducible show _ ∧ _ ∧ _); refine ⟨by omega, by omega, ?_⟩) | fail) <;> conv => whnf))
    all_goals first
      | rfl
      | (exfalso; omega)
  | cons x0 r0 =>
    have q1' := pEq q1 (nvl_sl (by rw [hl1]; simp))
    rw [← hl1]
    clear q1
    (conv => whnf); (repeat' ((first | (with_reducible first | refine Box.mk ?_ | refine And.intro (fun _ => ?_) (fun _ => ?_) | refine (forceH_eq _ _).mpr ?_) | refine ACall.of_pure (by assumption) (by rfl) ?_ | ((with_reducible show Exists _); refine ⟨_, ACall.of_pure (by assumption) (by rfl) ⟨rfl, rfl⟩, ?_⟩) | ((with_reducible show _ ∧ _ ∧ _); refine ⟨by omega, by omega, ?_⟩) | fail) <;> conv => whnf))
    refine aloopH (fun x : Nat × List Px => x.1 ≤ l.length ∧ x.2 = acc (l.take x.1)) (fun x => [(2, .ptr 0 0), (3, .ptr 1 0), (5, pv1 x.2), (6, .sl (ncl l)), (7, .int .i64 (x.1 : Int))]) (fun x => ph1 x.2) (fun x => l.length - x.1) (0, [])
      ⟨Nat.zero_le _, by rw [List.take_zero]; exact hnil.symm⟩ (weak_to ⟨rfl, rfl, rfl, rfl, rfl, trivial⟩ rfl) ?_
    rintro ⟨i, m⟩ ⟨hi, hm⟩
    have hi : i ≤ l.length := hi
    have hm : m = acc (l.take i) := hm
    have hml : m.length ≤ 33153 := by
      have := hlen (l.take i)
      rw [List.length_take, ← hm] at this; omega
    have hpm := pcl_len m
    have e1 : IntKind.i64.wrap ((i : Int) + 1) = ((i + 1 : Nat) : Int) := by rw [wrap_i64 (by omega) (by omega)]; omega
    by_cases hlt0 : i < l.length
    · have hg : (ncl l)[(i : Int).toNat]? = some (ncs l[i]) := by rw [ncl_get, Int.toNat_natCast, List.getElem?_eq_getElem hlt0]; rfl
      have hmem : l[i] ∈ l := List.getElem_mem hlt0
      have htk : l.take (i + 1) = l.take i ++ [l[i]] := by rw [List.take_add_one, List.getElem?_eq_getElem hlt0]; rfl
      generalize l[i] = q at *
      have q4 := q2 q.1 q.2
      have q5 := q3 q.1 q.2
      by_cases hc : rightP s p = true ∧ overN p q = true
      · obtain ⟨h1, h2⟩ := hyes q hmem hc
        rw [h1] at q4 q5
        rw [(over_right h2).1] at q5
        have hf : acc (l.take (i + 1)) = m ++ [upAt s p q] := by rw [htk, hs1 _ _ hc, hm]
        generalize upAt s p q = x at *
        cases m with
        | nil =>
          (conv => whnf); (repeat' ((first | (with_reducible first | refine Box.mk ?_ | refine And.intro (fun _ => ?_) (fun _ => ?_) | refine (forceH_eq _ _).mpr ?_) | refine ACall.of_pure (by assumption) (by rfl) ?_ | ((with_reducible show Exists _); refine ⟨_, ACall.of_pure (by assumption) (by rfl) ⟨rfl, rfl⟩, ?_⟩) | ((with_reducible show _ ∧ _ ∧ _); refine ⟨by omega, by omega, ?_⟩) | fail) <;> conv => whnf))
          · refine ⟨[(7, [0, 1, 4, 5, 6])], by kernel_rfl, ?_⟩
            (conv => whnf); (repeat' ((first | (with_reducible first | refine Box.mk ?_ | refine And.intro (fun _ => ?_) (fun _ => ?_) | refine (forceH_eq _ _).mpr ?_) | refine ACall.of_pure (by assumption) (by rfl) ?_ | ((with_reducible show Exists _); refine ⟨_, ACall.of_pure (by assumption) (by rfl) ⟨rfl, rfl⟩, ?_⟩) | ((with_reducible show _ ∧ _ ∧ _); refine ⟨by omega, by omega, ?_⟩) | fail) <;> conv => whnf))
            refine ⟨by show (0 : Int) ≤ (i : Int); omega, _, hg, rfl, ?_⟩
            (conv => whnf); (repeat' ((first | (with_reducible first | refine Box.mk ?_ | refine And.intro (fun _ => ?_) (fun _ => ?_) | refine (forceH_eq _ _).mpr ?_) | refine ACall.of_pure (by assumption) (by rfl) ?_ | ((with_reducible show Exists _); refine ⟨_, ACall.of_pure (by assumption) (by rfl) ⟨rfl, rfl⟩, ?_⟩) | ((with_reducible show _ ∧ _ ∧ _); refine ⟨by omega, by omega, ?_⟩) | fail) <;> conv => whnf))
            (refine And.intro ?_ ?_); (focus ((conv => whnf); (repeat' first | exact trivial | ((refine And.intro ?_ ?_); (focus ((conv => whnf); (first | exact ⟨rfl, rfl⟩ | exact ⟨by decide, by decide, rfl, rfl⟩ | ((refine ACall.of_pure (by assumption) (by rfl) ?_); (refine And.intro ?_ ?_ <;> rfl)) | exact ⟨by show (0 : Int) ≤ (i : Int); omega, _, hg, rfl, rfl, rfl⟩))); (conv => whnf)))))
            (conv => whnf); (repeat' ((first | (with_reducible first | refine Box.mk ?_ | refine And.intro (fun _ => ?_) (fun _ => ?_) | refine (forceH_eq _ _).mpr ?_) | refine ACall.of_pure (by assumption) (by rfl) ?_ | ((with_reducible show Exists _); refine ⟨_, ACall.of_pure (by assumption) (by rfl) ⟨rfl, rfl⟩, ?_⟩) | ((with_reducible show _ ∧ _ ∧ _); refine ⟨by omega, by omega, ?_⟩) | fail) <;> conv => whnf))
            refine ⟨fun c hc => by rw [List.mem_singleton.1 hc]; exact ⟨rfl, rfl⟩, fun h => (by cases h), fun _ => ⟨Nat.le_of_ble_eq_true rfl, Nat.le_of_ble_eq_true rfl, ?_⟩⟩
            (conv => whnf); (repeat' ((first | (with_reducible first | refine Box.mk ?_ | refine And.intro (fun _ => ?_) (fun _ => ?_) | refine (forceH_eq _ _).mpr ?_) | refine ACall.of_pure (by assumption) (by rfl) ?_ | ((with_reducible show Exists _); refine ⟨_, ACall.of_pure (by assumption) (by rfl) ⟨rfl, rfl⟩, ?_⟩) | ((with_reducible show _ ∧ _ ∧ _); refine ⟨by omega, by omega, ?_⟩) | fail) <;> conv => whnf))
            exact ⟨(i + 1, [x]), ⟨hlt0, hf.symm⟩, by show l.length - (i + 1) < l.length - i; omega, weak_ren_to [(0, true), (1, true), (4, true)] rfl rfl rfl ⟨rfl, rfl, rfl, rfl, congrArg (AV.int .i64) e1, trivial⟩⟩
          · rename_i hbad
            have hbad : ¬ (i : Int) < ((ncl l).length : Int) := hbad
            exfalso; omega
        | cons y r =>
          (conv => whnf); (repeat' ((first | (with_reducible first | refine Box.mk ?_ | refine And.intro (fun _ => ?_) (fun _ => ?_) | refine (forceH_eq _ _).mpr ?_) | refine ACall.of_pure (by assumption) (by rfl) ?_ | ((with_reducible show Exists _); refine ⟨_, ACall.of_pure (by assumption) (by rfl) ⟨rfl, rfl⟩, ?_⟩) | ((with_reducible show _ ∧ _ ∧ _); refine ⟨by omega, by omega, ?_⟩) | fail) <;> conv => whnf))
          · refine ⟨[(7, [0, 1, 4, 5, 6])], by kernel_rfl, ?_⟩
            (conv => whnf); (repeat' ((first | (with_reducible first | refine Box.mk ?_ | refine And.intro (fun _ => ?_) (fun _ => ?_) | refine (forceH_eq _ _).mpr ?_) | refine ACall.of_pure (by assumption) (by rfl) ?_ | ((with_reducible show Exists _); refine ⟨_, ACall.of_pure (by assumption) (by rfl) ⟨rfl, rfl⟩, ?_⟩) | ((with_reducible show _ ∧ _ ∧ _); refine ⟨by omega, by omega, ?_⟩) | fail) <;> conv => whnf))
            refine ⟨by show (0 : Int) ≤ (i : Int); omega, _, hg, rfl, ?_⟩
            (conv => whnf); (repeat' ((first | (with_reducible first | refine Box.mk ?_ | refine And.intro (fun _ => ?_) (fun _ => ?_) | refine (forceH_eq _ _).mpr ?_) | refine ACall.of_pure (by assumption) (by rfl) ?_ | ((with_reducible show Exists _); refine ⟨_, ACall.of_pure (by assumption) (by rfl) ⟨rfl, rfl⟩, ?_⟩) | ((with_reducible show _ ∧ _ ∧ _); refine ⟨by omega, by omega, ?_⟩) | fail) <;> conv => whnf))
            (refine And.intro ?_ ?_); (focus ((conv => whnf); (repeat' first | exact trivial | ((refine And.intro ?_ ?_); (focus ((conv => whnf); (first | exact ⟨rfl, rfl⟩ | exact ⟨by decide, by decide, rfl, rfl⟩ | ((refine ACall.of_pure (by assumption) (by rfl) ?_); (refine And.intro ?_ ?_ <;> rfl)) | exact ⟨by show (0 : Int) ≤ (i : Int); omega, _, hg, rfl, rfl, rfl⟩))); (conv => whnf)))))
            (conv => whnf); (repeat' ((first | (with_reducible first | refine Box.mk ?_ | refine And.intro (fun _ => ?_) (fun _ => ?_) | refine (forceH_eq _ _).mpr ?_) | refine ACall.of_pure (by assumption) (by rfl) ?_ | ((with_reducible show Exists _); refine ⟨_, ACall.of_pure (by assumption) (by rfl) ⟨rfl, rfl⟩, ?_⟩) | ((with_reducible show _ ∧ _ ∧ _); refine ⟨by omega, by omega, ?_⟩) | fail) <;> conv => whnf))
            refine ⟨fun c hc => by rw [List.mem_singleton.1 hc]; exact ⟨rfl, rfl⟩, by rw [hpm]; show (_ + 1) * 112 ≤ _; omega, by rw [hpm]; show _ + 1 ≤ _; omega, ?_⟩
            (conv => whnf); (repeat' ((first | (with_reducible first | refine Box.mk ?_ | refine And.intro (fun _ => ?_) (fun _ => ?_) | refine (forceH_eq _ _).mpr ?_) | refine ACall.of_pure (by assumption) (by rfl) ?_ | ((with_reducible show Exists _); refine ⟨_, ACall.of_pure (by assumption) (by rfl) ⟨rfl, rfl⟩, ?_⟩) | ((with_reducible show _ ∧ _ ∧ _); refine ⟨by omega, by omega, ?_⟩) | fail) <;> conv => whnf))
            refine ⟨(i + 1, y :: r ++ [x]), ⟨hlt0, hf.symm⟩, by show l.length - (i + 1) < l.length - i; omega, weak_ren_to [(0, true), (1, true), (5, true)] rfl rfl ?_ ⟨rfl, rfl, rfl, rfl, congrArg (AV.int .i64) e1, trivial⟩⟩
            show [_, _, Ob.row _ _ (pcl (y :: r) ++ [pcs x])] = [_, _, Ob.row _ _ (pcl (y :: r ++ [x]))]
            rw [pcl_snoc]; rfl
          · rename_i hbad
            have hbad : ¬ (i : Int) < ((ncl l).length : Int) := hbad
            exfalso; omega
      · rw [hno q hc] at q5
        have hf : acc (l.take (i + 1)) = m := by rw [htk, hs2 _ _ hc, hm]
        generalize upP s p q.1 q.2 = x at *
        cases m with
        | nil =>
          (conv => whnf); (repeat' ((first | (with_reducible first | refine Box.mk ?_ | refine And.intro (fun _ => ?_) (fun _ => ?_) | refine (forceH_eq _ _).mpr ?_) | refine ACall.of_pure (by assumption) (by rfl) ?_ | ((with_reducible show Exists _); refine ⟨_, ACall.of_pure (by assumption) (by rfl) ⟨rfl, rfl⟩, ?_⟩) | ((with_reducible show _ ∧ _ ∧ _); refine ⟨by omega, by omega, ?_⟩) | fail) <;> conv => whnf))
          · refine ⟨[(7, [0, 1, 4, 5, 6])], by kernel_rfl, ?_⟩
            (conv => whnf); (repeat' ((first | (with_reducible first | refine Box.mk ?_ | refine And.intro (fun _ => ?_) (fun _ => ?_) | refine (forceH_eq _ _).mpr ?_) | refine ACall.of_pure (by assumption) (by rfl) ?_ | ((with_reducible show Exists _); refine ⟨_, ACall.of_pure (by assumption) (by rfl) ⟨rfl, rfl⟩, ?_⟩) | ((with_reducible show _ ∧ _ ∧ _); refine ⟨by omega, by omega, ?_⟩) | fail) <;> conv => whnf))
            refine ⟨by show (0 : Int) ≤ (i : Int); omega, _, hg, rfl, ?_⟩
            (conv => whnf); (repeat' ((first | (with_reducible first | refine Box.mk ?_ | refine And.intro (fun _ => ?_) (fun _ => ?_) | refine (forceH_eq _ _).mpr ?_) | refine ACall.of_pure (by assumption) (by rfl) ?_ | ((with_reducible show Exists _); refine ⟨_, ACall.of_pure (by assumption) (by rfl) ⟨rfl, rfl⟩, ?_⟩) | ((with_reducible show _ ∧ _ ∧ _); refine ⟨by omega, by omega, ?_⟩) | fail) <;> conv => whnf))
            (refine And.intro ?_ ?_); (focus ((conv => whnf); (repeat' first | exact trivial | ((refine And.intro ?_ ?_); (focus ((conv => whnf); (first | exact ⟨rfl, rfl⟩ | exact ⟨by decide, by decide, rfl, rfl⟩ | ((refine ACall.of_pure (by assumption) (by rfl) ?_); (refine And.intro ?_ ?_ <;> rfl)) | exact ⟨by show (0 : Int) ≤ (i : Int); omega, _, hg, rfl, rfl, rfl⟩))); (conv => whnf)))))
            (conv => whnf); (repeat' ((first | (with_reducible first | refine Box.mk ?_ | refine And.intro (fun _ => ?_) (fun _ => ?_) | refine (forceH_eq _ _).mpr ?_) | refine ACall.of_pure (by assumption) (by rfl) ?_ | ((with_reducible show Exists _); refine ⟨_, ACall.of_pure (by assumption) (by rfl) ⟨rfl, rfl⟩, ?_⟩) | ((with_reducible show _ ∧ _ ∧ _); refine ⟨by omega, by omega, ?_⟩) | fail) <;> conv => whnf))
            exact ⟨(i + 1, []), ⟨hlt0, hf.symm⟩, by show l.length - (i + 1) < l.length - i; omega, weak_ren_to [(0, true), (1, true)] rfl rfl rfl ⟨rfl, rfl, rfl, rfl, congrArg (AV.int .i64) e1, trivial⟩⟩
          · rename_i hbad
            have hbad : ¬ (i : Int) < ((ncl l).length : Int) := hbad
            exfalso; omega
        | cons y r =>
          (conv => whnf); (repeat' ((first | (with_reducible first | refine Box.mk ?_ | refine And.intro (fun _ => ?_) (fun _ => ?_) | refine (forceH_eq _ _).mpr ?_) | refine ACall.of_pure (by assumption) (by rfl) ?_ | ((with_reducible show Exists _); refine ⟨_, ACall.of_pure (by assumption) (by rfl) ⟨rfl, rfl⟩, ?_⟩) | ((with_reducible show _ ∧ _ ∧ _); refine ⟨by omega, by omega, ?_⟩) | fail) <;> conv => whnf))
          · refine ⟨[(7, [0, 1, 4, 5, 6])], by kernel_rfl, ?_⟩
            (conv => whnf); (repeat' ((first | (with_reducible first | refine Box.mk ?_ | refine And.intro (fun _ => ?_) (fun _ => ?_) | refine (forceH_eq _ _).mpr ?_) | refine ACall.of_pure (by assumption) (by rfl) ?_ | ((with_reducible show Exists _); refine ⟨_, ACall.of_pure (by assumption) (by rfl) ⟨rfl, rfl⟩, ?_⟩) | ((with_reducible show _ ∧ _ ∧ _); refine ⟨by omega, by omega, ?_⟩) | fail) <;> conv => whnf))
            refine ⟨by show (0 : Int) ≤ (i : Int); omega, _, hg, rfl, ?_⟩
            (conv => whnf); (repeat' ((first | (with_reducible first | refine Box.mk ?_ | refine And.intro (fun _ => ?_) (fun _ => ?_) | refine (forceH_eq _ _).mpr ?_) | refine ACall.of_pure (by assumption) (by rfl) ?_ | ((with_reducible show Exists _); refine ⟨_, ACall.of_pure (by assumption) (by rfl) ⟨rfl, rfl⟩, ?_⟩) | ((with_reducible show _ ∧ _ ∧ _); refine ⟨by omega, by omega, ?_⟩) | fail) <;> conv => whnf))
            (refine And.intro ?_ ?_); (focus ((conv => whnf); (repeat' first | exact trivial | ((refine And.intro ?_ ?_); (focus ((conv => whnf); (first | exact ⟨rfl, rfl⟩ | exact ⟨by decide, by decide, rfl, rfl⟩ | ((refine ACall.of_pure (by assumption) (by rfl) ?_); (refine And.intro ?_ ?_ <;> rfl)) | exact ⟨by show (0 : Int) ≤ (i : Int); omega, _, hg, rfl, rfl, rfl⟩))); (conv => whnf)))))
            (conv => whnf); (repeat' ((first | (with_reducible first | refine Box.mk ?_ | refine And.intro (fun _ => ?_) (fun _ => ?_) | refine (forceH_eq _ _).mpr ?_) | refine ACall.of_pure (by assumption) (by rfl) ?_ | ((with_reducible show Exists _); refine ⟨_, ACall.of_pure (by assumption) (by rfl) ⟨rfl, rfl⟩, ?_⟩) | ((with_reducible show _ ∧ _ ∧ _); refine ⟨by omega, by omega, ?_⟩) | fail) <;> conv => whnf))
            exact ⟨(i + 1, y :: r), ⟨hlt0, hf.symm⟩, by show l.length - (i + 1) < l.length - i; omega, weak_ren_to [(0, true), (1, true), (2, true)] rfl rfl rfl ⟨rfl, rfl, rfl, rfl, congrArg (AV.int .i64) e1, trivial⟩⟩
          · rename_i hbad
            have hbad : ¬ (i : Int) < ((ncl l).length : Int) := hbad
            exfalso; omega
    · have hil : l.take i = l := List.take_of_length_le (by omega)
      rw [hil] at hm
      rw [← hm]
      cases m with
      | nil =>
        (conv => whnf); (repeat' ((first | (with_reducible first | refine Box.mk ?_ | refine And.intro (fun _ => ?_) (fun _ => ?_) | refine (forceH_eq _ _).mpr ?_) | refine ACall.of_pure (by assumption) (by rfl) ?_ | ((with_reducible show Exists _); refine ⟨_, ACall.of_pure (by assumption) (by rfl) ⟨rfl, rfl⟩, ?_⟩) | ((with_reducible show _ ∧ _ ∧ _); refine ⟨by omega, by omega, ?_⟩) | fail) <;> conv => whnf))
        all_goals first
          | rfl
          | (rename_i hbad; have hbad : (i : Int) < ((ncl l).length : Int) := hbad; exfalso; omega)
      | cons x r =>
        (conv => whnf); (repeat' ((first | (with_reducible first | refine Box.mk ?_ | refine And.intro (fun _ => ?_) (fun _ => ?_) | refine (forceH_eq _ _).mpr ?_) | refine ACall.of_pure (by assumption) (by rfl) ?_ | ((with_reducible show Exists _); refine ⟨_, ACall.of_pure (by assumption) (by rfl) ⟨rfl, rfl⟩, ?_⟩) | ((with_reducible show _ ∧ _ ∧ _); refine ⟨by omega, by omega, ?_⟩) | fail) <;> conv => whnf))
        all_goals first
          | rfl
          | (rename_i hbad; have hbad : (i : Int) < ((ncl l).length : Int) := hbad; exfalso; omega)
end Go.Proofs.YtgaohmfmomeflaaGreatDoor
end

section
/- grid: equal lists of prefixes; parents. -/
namespace Go.Proofs.YtgaohmfmomeflaaGreatDoor
open Go.Ve

end Go.Proofs.YtgaohmfmomeflaaGreatDoor
end

section
/- model: what its methods do to its map: Put, Weight, Total, Space. -/
namespace Go.Proofs.YtgaohmfmomeflaaGreatDoor
open Go.Ve

/-! ### a model as objects -/
/-- The entries of a map whose keys were put in this order. -/
def mes (v : Nat → AV) : Nat → Ml → List (List AV × AV × Nat)
  | _, [] => []
  | k, x :: r => (pcs x.1, v x.2, k) :: mes v (k + 1) r
def u64V (w : Nat) : AV := .int .u64 (w : Int)
def i64V (w : Nat) : AV := .int .i64 (w : Int)
def pks : List LK := [.int .i64, .int .i64, .int .i64, .int .i64, .int .u64, .int .u64, .str, .int .i64, .int .i64, .int .u64, .int .u64, .str]
theorem mes_get (v : Nat → AV) : ∀ (l : Ml) (k i : Nat), (mes v k l)[i]? = (l[i]?).map fun x => (pcs x.1, v x.2, k + i)
  | [], _, _ => rfl
  | x :: r, k, 0 => rfl
  | x :: r, k, i + 1 => by
    rw [mes, List.getElem?_cons_succ, List.getElem?_cons_succ, mes_get v r (k + 1) i]
    cases r[i]? with
    | none => rfl
    | some y => simp only [Option.map_some]; rw [Nat.add_assoc, Nat.add_comm 1 i]
theorem mes_snoc (v : Nat → AV) (x : Px × Nat) : ∀ (l : Ml) (k : Nat), mes v k (l ++ [x]) = mes v k l ++ [(pcs x.1, v x.2, k + l.length)]
  | [], _ => rfl
  | y :: r, k => by
    rw [List.cons_append, mes, mes, mes_snoc v x r (k + 1), List.cons_append, List.length_cons, Nat.add_assoc, Nat.add_comm 1 r.length]
theorem pcs_inj {p q : Px} (h : pcs p = pcs q) : p = q := by
  unfold pcs at h
  simp only [List.cons.injEq, AV.int.injEq, AV.str.injEq, true_and, and_true] at h
  exact px_eq.1 h
theorem mes_keys (v : Nat → AV) : ∀ (l : Ml) (k : Nat), (mes v k l).map (·.1) = (keysM l).map pcs
  | [], _ => rfl
  | x :: r, k => by rw [mes, List.map_cons, mes_keys v r (k + 1)]; rfl
theorem mes_stamps (v : Nat → AV) : ∀ (l : Ml) (k : Nat), (mes v k l).map (·.2.2) = List.range' k l.length
  | [], _ => rfl
  | x :: r, k => by rw [mes, List.map_cons, mes_stamps v r (k + 1)]; rfl
theorem mes_ok {v : Nat → AV} {l : Ml} (hn : (keysM l).Nodup) : ((mes v 0 l).map (·.1)).Nodup ∧ ((mes v 0 l).map (·.2.2)).Nodup := by
  rw [mes_keys, mes_stamps]
  refine ⟨?_, List.nodup_range'⟩
  rw [List.Nodup, List.pairwise_map]
  exact hn.imp fun h e => h (pcs_inj e)
theorem mes_at {v : Nat → AV} {l : Ml} {j : Nat} {e : List AV × AV × Nat} (h : (mes v 0 l)[j]? = some e) : ∃ x, l[j]? = some x ∧ e = (pcs x.1, v x.2, j) := by
  rw [mes_get, Option.map_eq_some_iff] at h
  obtain ⟨x, h1, h2⟩ := h
  exact ⟨x, h1, by rw [← h2, Nat.zero_add]⟩
theorem mes_lt {v : Nat → AV} {l : Ml} : ∀ e ∈ mes v 0 l, e.2.2 < l.length := fun e he => by
  obtain ⟨j, hj⟩ := List.getElem?_of_mem he
  obtain ⟨x, h1, rfl⟩ := mes_at hj
  exact (List.getElem?_eq_some_iff.1 h1).1
theorem key_at {l : Ml} (hn : (keysM l).Nodup) {i j : Nat} {x y : Px × Nat} (h1 : l[i]? = some x) (h2 : l[j]? = some y) (h : x.1 = y.1) : i = j :=
  nodup_at hn (x := x.1) (by rw [keysM, List.getElem?_map, h1]; rfl) (by rw [keysM, List.getElem?_map, h2, h]; rfl)
/-- At a key that is there. -/
theorem at_yes {v : Nat → AV} {ks ks' : List LK} {l : Ml} {i : Nat} {x : Px × Nat} {cs : List AV} {Y : Nat → (List AV × AV × Nat) → Prop} {N : Prop} (hk : ks = ks') (hn : (keysM l).Nodup) (hx : l[i]? = some x) (hc : pcs x.1 = cs) (h : Y i (pcs x.1, v x.2, i)) :
    ks = ks' ∧ (∀ (j : Nat) (e : List AV × AV × Nat), (mes v 0 l)[j]? = some e → e.1 = cs → Y j e) ∧ ((∀ e ∈ mes v 0 l, e.1 ≠ cs) → N) := by
  refine ⟨hk, fun j e hj he => ?_, fun hno => ?_⟩
  · obtain ⟨y, h1, rfl⟩ := mes_at hj
    have := key_at hn hx h1 (pcs_inj (hc.trans he.symm))
    subst this
    rw [hx] at h1; cases h1
    exact h
  · refine absurd hc (hno _ (List.mem_of_getElem? (i := i) (by rw [mes_get, hx]; rfl)))
/-- At a key that is not. -/
theorem at_no {v : Nat → AV} {ks ks' : List LK} {l : Ml} {p : Px} {cs : List AV} {Y : Nat → (List AV × AV × Nat) → Prop} {N : Prop} (hk : ks = ks') (hp : p ∉ keysM l) (hc : pcs p = cs) (h : N) :
    ks = ks' ∧ (∀ (j : Nat) (e : List AV × AV × Nat), (mes v 0 l)[j]? = some e → e.1 = cs → Y j e) ∧ ((∀ e ∈ mes v 0 l, e.1 ≠ cs) → N) := by
  refine ⟨hk, fun j e hj he => ?_, fun _ => h⟩
  obtain ⟨y, h1, rfl⟩ := mes_at hj
  exact absurd (List.mem_map.2 ⟨y, List.mem_of_getElem? h1, pcs_inj (he.trans hc.symm)⟩) hp
/-- At a stamp. -/
theorem at_stamp {v : Nat → AV} {l : Ml} {i : Nat} {x : Px × Nat} {n : Int} {Y : Nat → (List AV × AV × Nat) → Prop} (hx : l[i]? = some x) (hi : ((i : Nat) : Int) = n) (h : Y i (pcs x.1, v x.2, i)) :
    (∃ e ∈ mes v 0 l, ((e.2.2 : Nat) : Int) = n) ∧ ∀ (j : Nat) (e : List AV × AV × Nat), (mes v 0 l)[j]? = some e → ((e.2.2 : Nat) : Int) = n → Y j e := by
  have h0 : (mes v 0 l)[i]? = some (pcs x.1, v x.2, i) := by rw [mes_get, hx, Option.map_some, Nat.zero_add]
  refine ⟨⟨_, List.mem_of_getElem? h0, hi⟩, fun j e hj he => ?_⟩
  obtain ⟨y, h1, rfl⟩ := mes_at hj
  have e2 : ((j : Nat) : Int) = n := he
  have : i = j := by omega
  subst this
  rw [hx] at h1; cases h1
  exact h

/-- The same, where the entries are told otherwise. -/
theorem at_yes' {v : Nat → AV} {ks ks' : List LK} {l : Ml} {i : Nat} {x : Px × Nat} {cs : List AV} {es : List (List AV × AV × Nat)} {Y : Nat → (List AV × AV × Nat) → Prop} {N : Prop} (he : mes v 0 l = es) (hk : ks = ks') (hn : (keysM l).Nodup) (hx : l[i]? = some x) (hc : pcs x.1 = cs) (h : Y i (pcs x.1, v x.2, i)) :
    ks = ks' ∧ (∀ (j : Nat) (e : List AV × AV × Nat), es[j]? = some e → e.1 = cs → Y j e) ∧ ((∀ e ∈ es, e.1 ≠ cs) → N) := by subst he; exact at_yes hk hn hx hc h
theorem at_stamp' {v : Nat → AV} {l : Ml} {i : Nat} {x : Px × Nat} {n : Int} {es : List (List AV × AV × Nat)} {Y : Nat → (List AV × AV × Nat) → Prop} (he : mes v 0 l = es) (hx : l[i]? = some x) (hi : ((i : Nat) : Int) = n) (h : Y i (pcs x.1, v x.2, i)) :
    (∃ e ∈ es, ((e.2.2 : Nat) : Int) = n) ∧ ∀ (j : Nat) (e : List AV × AV × Nat), es[j]? = some e → ((e.2.2 : Nat) : Int) = n → Y j e := by subst he; exact at_stamp hx hi h
theorem mes_ok' {v : Nat → AV} {l : Ml} {es : List (List AV × AV × Nat)} (he : mes v 0 l = es) (hn : (keysM l).Nodup) : (es.map (·.1)).Nodup ∧ (es.map (·.2.2)).Nodup := by subst he; exact mes_ok hn
/-- A model: its space, its total, its map. -/
def MH (s : Sp) (l : Ml) : Hp := [.box 94 [.int .i64 s.n, .int .i64 s.d0.kind, .int .i64 s.d0.side, .int .i64 s.d0.step, .int .i64 s.d1.kind, .int .i64 s.d1.side, .int .i64 s.d1.step, .int .u64 (totM l : Int), .own 1], .map pks (mes u64V 0 l) l.length]
def leafR (s : Sp) (p : Px) : Bool := rightP s p && decide (heightP s p ≤ 0)
structure MI (s : Sp) (l : Ml) : Prop where
  sound : soundS s = true
  nodup : (keysM l).Nodup
  tot : totM l ≤ 4611686018427387904
  ok : MOk l
  len : l.length ≤ 65536
  leaf : ∀ p ∈ keysM l, leafR s p = true
theorem MI.nil {s : Sp} (h : soundS s = true) : MI s [] := ⟨h, List.nodup_nil, Nat.zero_le _, fun p hp => (by cases hp), Nat.zero_le _, fun p hp => (by cases hp)⟩
theorem made_ok (s : Sp) (l : Ml) : DCall P 42 [.ptr 0 0] (MH s l) (.bool true) (MH s l) := by
  refine DCall.of_awp tok mixed fn42 (Nat.le_of_ble_eq_true rfl) ?_
  (conv => whnf); (repeat' ((first | (with_reducible first | refine Box.mk ?_ | refine And.intro (fun _ => ?_) (fun _ => ?_) | refine (forceH_eq _ _).mpr ?_) | refine ACall.of_pure (by assumption) (by rfl) ?_ | ((with_reducible show Exists _); refine ⟨_, ACall.of_pure (by assumption) (by rfl) ⟨rfl, rfl⟩, ?_⟩) | ((with_reducible show ∃ L, drawR L _ = true ∧ _); refine ⟨[], by kernel_rfl, ?_⟩) | ((with_reducible show _ ∧ _ ∧ _); refine ⟨by omega, by omega, ?_⟩) | fail) <;> conv => whnf))
  all_goals first
    | contradiction
    | exact weak_to ⟨rfl, trivial⟩ rfl
theorem made_nil : PCall P 42 [.nilp] (.bool false) := by
  refine PCall.of_awp tok mixed fn42 (Nat.le_of_ble_eq_true rfl) ?_
  (conv => whnf); (repeat' ((first | (with_reducible first | refine Box.mk ?_ | refine And.intro (fun _ => ?_) (fun _ => ?_) | refine (forceH_eq _ _).mpr ?_) | refine ACall.of_pure (by assumption) (by rfl) ?_ | ((with_reducible show Exists _); refine ⟨_, ACall.of_pure (by assumption) (by rfl) ⟨rfl, rfl⟩, ?_⟩) | ((with_reducible show ∃ L, drawR L _ = true ∧ _); refine ⟨[], by kernel_rfl, ?_⟩) | ((with_reducible show _ ∧ _ ∧ _); refine ⟨by omega, by omega, ?_⟩) | fail) <;> conv => whnf))
  all_goals first
    | (rename_i h; exact absurd trivial h)
    | rfl
theorem new_ok (s : Sp) (hs : soundS s = true) : DCall P 10 [spv s] [] (.ptr 0 0) (MH s []) := by
  have q1 := sound_ok s
  rw [hs] at q1
  refine DCall.of_awp tok mixed fn10 (Nat.le_of_ble_eq_true rfl) ?_
  (conv => whnf); (repeat' ((first | (with_reducible first | refine Box.mk ?_ | refine And.intro (fun _ => ?_) (fun _ => ?_) | refine (forceH_eq _ _).mpr ?_) | refine ACall.of_pure (by assumption) (by rfl) ?_ | ((with_reducible show Exists _); refine ⟨_, ACall.of_pure (by assumption) (by rfl) ⟨rfl, rfl⟩, ?_⟩) | ((with_reducible show ∃ L, drawR L _ = true ∧ _); refine ⟨[], by kernel_rfl, ?_⟩) | ((with_reducible show _ ∧ _ ∧ _); refine ⟨by omega, by omega, ?_⟩) | fail) <;> conv => whnf))
  exact weak_ren_to [(2, true), (1, true)] rfl rfl rfl ⟨rfl, trivial⟩
theorem new_nil (s : Sp) (hs : soundS s = false) : PCall P 10 [spv s] .nilp := by
  have q1 := sound_ok s
  rw [hs] at q1
  refine PCall.of_awp tok mixed fn10 (Nat.le_of_ble_eq_true rfl) ?_
  (conv => whnf); (repeat' ((first | (with_reducible first | refine Box.mk ?_ | refine And.intro (fun _ => ?_) (fun _ => ?_) | refine (forceH_eq _ _).mpr ?_) | refine ACall.of_pure (by assumption) (by rfl) ?_ | ((with_reducible show Exists _); refine ⟨_, ACall.of_pure (by assumption) (by rfl) ⟨rfl, rfl⟩, ?_⟩) | ((with_reducible show ∃ L, drawR L _ = true ∧ _); refine ⟨[], by kernel_rfl, ?_⟩) | ((with_reducible show _ ∧ _ ∧ _); refine ⟨by omega, by omega, ?_⟩) | fail) <;> conv => whnf))
  rfl
theorem total_ok (s : Sp) (l : Ml) : DCall P 27 [.ptr 0 0] (MH s l) (.int .u64 (totM l : Int)) (MH s l) := by
  have q1 := made_ok s l
  refine DCall.of_awp tok mixed fn27 (Nat.le_of_ble_eq_true rfl) ?_
  (conv => whnf); (repeat' ((first | (with_reducible first | refine Box.mk ?_ | refine And.intro (fun _ => ?_) (fun _ => ?_) | refine (forceH_eq _ _).mpr ?_) | refine ACall.of_pure (by assumption) (by rfl) ?_ | ((with_reducible show Exists _); refine ⟨_, ACall.of_pure (by assumption) (by rfl) ⟨rfl, rfl⟩, ?_⟩) | ((with_reducible show ∃ L, drawR L _ = true ∧ _); refine ⟨[], by kernel_rfl, ?_⟩) | ((with_reducible show _ ∧ _ ∧ _); refine ⟨by omega, by omega, ?_⟩) | fail) <;> conv => whnf))
  refine aW [0, 1] q1 rfl rfl rfl ?_
  (conv => whnf); (repeat' ((first | (with_reducible first | refine Box.mk ?_ | refine And.intro (fun _ => ?_) (fun _ => ?_) | refine (forceH_eq _ _).mpr ?_) | refine ACall.of_pure (by assumption) (by rfl) ?_ | ((with_reducible show Exists _); refine ⟨_, ACall.of_pure (by assumption) (by rfl) ⟨rfl, rfl⟩, ?_⟩) | ((with_reducible show ∃ L, drawR L _ = true ∧ _); refine ⟨[], by kernel_rfl, ?_⟩) | ((with_reducible show _ ∧ _ ∧ _); refine ⟨by omega, by omega, ?_⟩) | fail) <;> conv => whnf))
  exact weak_to ⟨rfl, trivial⟩ rfl
end Go.Proofs.YtgaohmfmomeflaaGreatDoor
end

section
/- model: slices.SortFunc at prefixes, told over the call's own row. -/
namespace Go.Proofs.YtgaohmfmomeflaaGreatDoor
open Go.Ve

instance : Inhabited Px := ⟨zeroP⟩
/-- That no draw is taken back is told. -/
abbrev told : Dr := ⟨⟨True⟩⟩
def encP (p : Px) : List Value := [.int .i64 p.a0, .int .i64 p.a1, .int .i64 p.k0.kind, .int .i64 p.k0.len, .int .u64 ((p.k0.n / H64 : Nat) : Int), .int .u64 ((p.k0.n % H64 : Nat) : Int), .string ⟨p.k0.path.toArray⟩,
  .int .i64 p.k1.kind, .int .i64 p.k1.len, .int .u64 ((p.k1.n / H64 : Nat) : Int), .int .u64 ((p.k1.n % H64 : Nat) : Int), .string ⟨p.k1.path.toArray⟩]
theorem encP_len (p : Px) : (encP p).length = 12 := rfl
theorem encP_one (p : Px) : ∀ v ∈ encP p, v.oneCell' = true := by
  intro v hv
  simp only [encP, List.mem_cons, List.not_mem_nil, or_false] at hv
  rcases hv with rfl | rfl | rfl | rfl | rfl | rfl | rfl | rfl | rfl | rfl | rfl | rfl <;> rfl
theorem enc_rv {K : Addr → Value → Prop} {σ : List Value} (p : Px) : ∀ (j : Nat) (x : AV), (pcs p)[j]? = some x → Rv K σ x ((encP p)[j]!)
  | 0, _, h | 1, _, h | 2, _, h | 3, _, h | 4, _, h | 5, _, h | 7, _, h | 8, _, h | 9, _, h | 10, _, h => by
    simp only [pcs, List.getElem?_cons_zero, List.getElem?_cons_succ, Option.some.injEq] at h
    subst h; exact .int _ _ _
  | 6, _, h | 11, _, h => by
    simp only [pcs, List.getElem?_cons_zero, List.getElem?_cons_succ, Option.some.injEq] at h
    subst h; exact .str _ _
  | j + 12, _, h => by simp [pcs] at h
theorem rv_enc {K : Addr → Value → Prop} {σ : List Value} (p : Px) : ∀ (j : Nat) (x : AV) (v : Value), (pcs p)[j]? = some x → Rv K σ x v → v = (encP p)[j]!
  | 0, _, _, h, k | 1, _, _, h, k | 2, _, _, h, k | 3, _, _, h, k | 4, _, _, h, k | 5, _, _, h, k | 7, _, _, h, k | 8, _, _, h, k | 9, _, _, h, k | 10, _, _, h, k => by
    simp only [pcs, List.getElem?_cons_zero, List.getElem?_cons_succ, Option.some.injEq] at h
    subst h; rw [k.int_inv]; rfl
  | 6, _, _, h, k | 11, _, _, h, k => by
    simp only [pcs, List.getElem?_cons_zero, List.getElem?_cons_succ, Option.some.injEq] at h
    subst h; rw [k.str_inv]; rfl
  | j + 12, _, _, h, _ => by simp [pcs] at h
theorem agg_enc {K : Addr → Value → Prop} {σ : List Value} (p : Px) : Rv K σ (pxv p) (.agg (encP p).toArray) := by
  refine .agg _ _ _ rfl rfl fun j x hx => ?_
  have hj : j < 12 := (List.getElem?_eq_some_iff.1 hx).1
  have := enc_rv (K := K) (σ := σ) p j x hx
  have e : (encP p).toArray.getD j undef = (encP p)[j]! := by
    have h1 : j < (encP p).length := hj
    rw [Array.getD_eq_getD_getElem?, List.getElem?_toArray, List.getElem?_eq_getElem h1, getElem!_pos (encP p) j h1]; rfl
  rw [e]; exact this

/-- A comparison's contract, in the sort's worlds. -/
theorem cmp_lays {c : Px → Px → Int} {g : FuncId} (hc : ∀ x y, @PCall told P g [pxv x, pxv y] (.int .i64 (c x y))) {w : World} {blk off size : Nat} (hblk : blk < w.heap.size) (hg : ∀ b, gblk = some b → b ≠ blk ∧ ∃ m, w.cell? ⟨b, 0, none⟩ = some (.int .i64 m)) :
    CmpLays P g #[] encP 12 c blk off size w := by
  intro m os dk hs x y
  have h := hc x y
  unfold PCall at h
  have hsz : (sortWorldK encP 12 w blk off m dk os).heap.size = w.heap.size + os.size := by
    unfold sortWorldK Go.Sort.putRowK
    rw [Go.Sort.size_grow, Go.Sort.size_putRow]; rfl
  have hcall := h.2 (fun b => b = blk) (sortWorldK encP 12 w blk off m dk os) [.agg (encP x).toArray, .agg (encP y).toArray] (fun b hb => by rw [hsz]; rw [show b = blk from hb]; omega) (fun b hb => by
    obtain ⟨h1, k, hk⟩ := hg b hb
    refine ⟨k, fun e => h1 e, ?_⟩
    unfold sortWorldK Go.Sort.putRowK
    rw [Go.Sort.cell?_grow _ _ _ (by rw [Go.Sort.size_putRow]; exact World.block_lt_of_cell? w _ hk), Go.Sort.cell?_putRow_other _ _ _ _ _ _ (.inl h1)]
    exact hk) ⟨rfl, fun i a ha => by
      match i with
      | 0 => simp only [List.getElem?_cons_zero, Option.some.injEq] at ha; subst ha; exact agg_enc x
      | 1 => simp only [List.getElem?_cons_succ, List.getElem?_cons_zero, Option.some.injEq] at ha; subst ha; exact agg_enc y
      | i + 2 => simp at ha⟩
  have eargs : (#[Value.agg (encP x).toArray, .agg (encP y).toArray] ++ #[] : Array Value) = [Value.agg (encP x).toArray, .agg (encP y).toArray].toArray := Array.append_empty
  rw [eargs]
  refine Calls.mono hcall ?_
  rintro e w' ⟨v, rfl, hb, hv⟩
  have hvi : v = .int .i64 (c x y) := Rv.int_inv hv
  refine ⟨congrArg Ending.returned hvi, ?_⟩
  have hd := @Tp.d told _ _ (@Below.tape told _ _ _ hb) True.intro
  obtain ⟨p, hp⟩ := regrown_of_below (@Below.base told _ _ _ hb)
  have hpd : w'.drawn = p.d := by rw [hp]; rfl
  refine ⟨p.d - (sortWorldK encP 12 w blk off m dk os).drawn, p.os, ?_⟩
  rw [hp]
  unfold redrawn World.drewN
  congr 2
  omega
theorem srt_unique {c : Px → Px → Int} (hT : TO c) (h0 : ∀ x y, c x y = 0 → x = y) {d d' : Array Px} (h1 : Go.Sort.PermIn 0 d.size d d') (h2 : Go.Sort.SortedIn (ltOf c) 0 d.size d') : d'.toList = srt c d.toList := by
  have hS : Go.Sort.SWO (ltOf c) := ⟨fun x => by unfold ltOf; rw [hT.self]; rfl, fun x y z h1 h2 => by
      unfold ltOf at *
      exact decide_eq_true (hT.strict (of_decide_eq_true h1) (by have := of_decide_eq_true h2; omega)), fun x y z h1 h2 => by
      unfold ltOf at *
      have k1 := of_decide_eq_false h1
      have k2 := of_decide_eq_false h2
      refine decide_eq_false fun hx => ?_
      have n1 := hT.neg x y
      have n2 := hT.neg y z
      have n3 := hT.neg x z
      have := hT.tr z y x (by omega) (by omega)
      omega⟩
  have := Go.Sort.sorted_unique_holds hS (fun x y k1 k2 => h0 x y (by
    unfold ltOf at k1 k2
    have k1 := of_decide_eq_false k1
    have k2 := of_decide_eq_false k2
    have := hT.neg x y
    omega)) d d' h1 h2
  rw [this]
  unfold srt
  congr 1
  funext x y
  unfold ltOf
  have := hT.neg x y
  by_cases h : c x y ≤ 0
  · rw [decide_eq_true h, decide_eq_false (by omega)]; rfl
  · rw [decide_eq_false h, decide_eq_true (by omega)]; rfl
/-- The sort, over a row of the call's own. -/
theorem sortF_own {c : Px → Px → Int} {g : FuncId} (hc : ∀ x y, @PCall told P g [pxv x, pxv y] (.int .i64 (c x y))) (hT : TO c) (h0 : ∀ x y, c x y = 0 → x = y) (l : List Px) (hl : l.length < 4611686018427387904) (hne : l ≠ []) :
    DCall P 82 [.own 0, .fn g []] [.row 34 12 (pcl l)] (.tup []) [.row 34 12 (pcl (srt c l))] := by
  have hC := hc zeroP zeroP
  unfold PCall at hC
  show ACall _ _ _ _ _
  unfold ACall
  refine ⟨fn82.callable, fun M0 σ w vs hs hv => ?_⟩
  obtain ⟨hvl, hv⟩ := hv
  obtain ⟨v0, v1, rfl⟩ : ∃ v0 v1, vs = [v0, v1] := by
    match vs, hvl with
    | [a, b], _ => exact ⟨a, b, rfl⟩
  have r0 : σ[0]? = some v0 := (hv 0 _ rfl).own_inv
  obtain ⟨fs, e1, f1, _⟩ := (hv 1 _ rfl).fn_inv
  have e1 : v1 = .func (.func g) #[] fs := e1
  have ef : fs = #[] := Array.eq_empty_of_size_eq_zero f1
  subst ef
  subst e1
  obtain ⟨_, hr⟩ := hs.ok 0 _ v0 rfl r0
  rcases hr with ⟨e, _⟩ | ⟨gb, cap, cur, rfl, hg, k1, k2, k3, k4⟩
  · exact absurd (by simpa [pcl] using e) hne
  have hlt : gb < w.heap.size := (Array.getElem?_eq_some_iff.1 hg).1
  have hmb : Mb [Ob.row 34 12 (pcl l)] σ gb := ⟨0, _, _, rfl, rfl, r0, rfl⟩
  rw [pcl_len] at k1
  have hcur : ∀ i x j, l[i]? = some x → j < 12 → cur[i * 12 + j]? = some ((encP x)[j]!) := fun i x j hx hj => by
    have hi := (List.getElem?_eq_some_iff.1 hx).1
    obtain ⟨_, _, h3⟩ := k4 i (pcs x) (by rw [pcl_get, hx]; rfl)
    have hj2 : j < (pcs x).length := hj
    have := rv_enc x j _ _ (List.getElem?_eq_getElem hj2) (h3 j _ (List.getElem?_eq_getElem hj2))
    have hb : i * 12 + j < cur.size := by omega
    rw [Array.getElem?_eq_getElem hb]
    rw [Array.getD_eq_getD_getElem?, Array.getElem?_eq_getElem hb] at this
    exact congrArg some this
  have hH : Go.Sort.HoldsK encP 12 w gb 0 l.toArray := by
    intro t ht
    rw [Go.Sort.size_flatK, List.size_toArray] at ht
    have hq : t / 12 < l.length := by omega
    refine ⟨?_, ?_⟩
    · rw [Go.Sort.get_flatK _ _ _ _ (by simpa using ht)]
      have e2 := hcur (t / 12) l[t / 12] (t % 12) (List.getElem?_eq_getElem hq) (Nat.mod_lt _ (by decide))
      rw [show t / 12 * 12 + t % 12 = t by omega] at e2
      rw [show (0 : Nat) + t = t by omega]
      unfold World.cell?
      rw [hg]
      show cur[t]? = _
      rw [e2, getElem!_pos l.toArray (t / 12) (by simpa using hq)]
      rfl
    · unfold World.frozen?
      rw [hg]
      simp
  have hcm := cmp_lays hc (w := w) (blk := gb) (off := 0) (size := l.toArray.size) hlt (fun b hb => by
    obtain ⟨m, h1, h2⟩ := hs.glob b hb
    exact ⟨fun e => h1 (.inr (by rw [show b = gb from e]; exact hmb)), m, h2⟩)
  have hS : Go.Sort.SWO (ltOf c) := ⟨fun x => by unfold ltOf; rw [hT.self]; rfl, fun x y z h1 h2 => by
      unfold ltOf at *
      exact decide_eq_true (hT.strict (of_decide_eq_true h1) (by have := of_decide_eq_true h2; omega)), fun x y z h1 h2 => by
      unfold ltOf at *
      have k1 := of_decide_eq_false h1
      have k2 := of_decide_eq_false h2
      refine decide_eq_false fun hx => ?_
      have n1 := hT.neg x y
      have n2 := hT.neg y z
      have n3 := hT.neg x z
      have := hT.tr z y x (by omega) (by omega)
      omega⟩
  have hcon := AnyQ.slices_SortFunc Tryz.sortP 12 Tryz.isAgg34 Tryz.sizeOf34 encP encP_len encP_one c hS g #[] gb 0 cap l.toArray w hC.1 hcm hH hlt (by simpa using hl)
  rw [List.size_toArray] at hcon
  have elen : (pcl l).length = l.length := pcl_len l
  rw [elen] at r0 ⊢
  refine Calls.mono hcon ?_
  rintro e w' ⟨rfl, d', n, os, hp, hso, rfl⟩
  have hd' := srt_unique hT h0 (d := l.toArray) (by simpa using hp) (by simpa using hso)
  have hd'' : d'.toList = srt c l := hd'
  have hdl : d'.size = l.length := by rw [← Array.length_toList, hd'', srt_len]
  obtain ⟨s1, x1⟩ := hs.write (w' := Go.Sort.putRowK encP 12 (Go.Sort.ahead w n) gb 0 d') (b := gb) (id := 0) rfl (by rw [r0]) rfl rfl (o' := .row 34 12 (pcl (srt c l)))
    rfl ⟨rfl, fun _ => Nat.le_add_right _ _⟩ rfl (by rw [Go.Sort.putRowK, Go.Sort.size_putRow]; rfl) (fun b hb => by
      unfold Go.Sort.putRowK Go.Sort.putRow Go.Sort.mapBlock
      simp [Array.getElem?_modify, Ne.symm hb]) (fun hx => by
      refine ⟨by decide, .inr ⟨gb, cap, Go.Sort.putCells id 0 (Go.Sort.flatK encP 12 d') cur, by rw [pcl_len, srt_len], ?_, by rw [pcl_len, srt_len]; exact k1, k2, ?_, fun i cs hcs => ?_⟩⟩
      · unfold Go.Sort.putRowK Go.Sort.putRow Go.Sort.mapBlock
        simp [Array.getElem?_modify, hg, Go.Sort.onCells]
      · unfold Go.Sort.putCells; rw [Array.size_mapIdx]; exact k3
      · rw [pcl_get, Option.map_eq_some_iff] at hcs
        obtain ⟨x, hx, rfl⟩ := hcs
        refine ⟨rfl, rfl, fun j y hy => ?_⟩
        have hi : i < l.length := by rw [← srt_len (c := c)]; exact (List.getElem?_eq_some_iff.1 hx).1
        have hj : j < 12 := (List.getElem?_eq_some_iff.1 hy).1
        have hdx : d'[i]! = x := by
          have : d'.toList[i]? = some x := by rw [hd'']; exact hx
          rw [Array.getElem?_toList] at this
          rw [getElem!_pos d' i (by omega)]
          rw [Array.getElem?_eq_getElem (by omega)] at this
          exact Option.some.inj this
        have e3 : (Go.Sort.putCells id 0 (Go.Sort.flatK encP 12 d') cur).getD (i * 12 + j) undef = (encP x)[j]! := by
          rw [Array.getD_eq_getD_getElem?]
          unfold Go.Sort.putCells
          rw [Array.getElem?_mapIdx, Array.getElem?_eq_getElem (show i * 12 + j < cur.size by omega), Option.map_some, if_pos ⟨Nat.zero_le _, by rw [Go.Sort.size_flatK]; omega⟩, Option.getD_some]
          show (Go.Sort.flatK encP 12 d')[i * 12 + j - 0]! = _
          rw [Nat.sub_zero, Go.Sort.get_flatK _ _ _ _ (by omega), show (i * 12 + j) / 12 = i by omega, show (i * 12 + j) % 12 = j by omega, hdx]
        rw [e3]
        exact enc_rv x j y hy)
  have hB : Below (Go.Sort.putRowK encP 12 (Go.Sort.ahead w n) gb 0 d').heap.size (Go.Sort.putRowK encP 12 (Go.Sort.ahead w n) gb 0 d') (sortWorldK encP 12 w gb 0 n d' os) :=
    ⟨rfl, ⟨rfl, fun _ => Nat.le_refl _⟩, rfl, by unfold sortWorldK; rw [Go.Sort.size_grow]; omega, fun k hk => by unfold sortWorldK; exact Go.Sort.heap_grow_old _ _ hk⟩
  refine ⟨_, .tup [], _, σ, rfl, s1.below hB, x1.trans (Ext.of_below hB), .tup _ _ _ rfl fun j y hy => by simp at hy, rfl, rfl⟩
end Go.Proofs.YtgaohmfmomeflaaGreatDoor
end

section
/- model: Space, Put, Weight. -/
namespace Go.Proofs.YtgaohmfmomeflaaGreatDoor
open Go.Ve

theorem space_ok (s : Sp) (l : Ml) : DCall P 41 [.ptr 0 0] (MH s l) (spv s) (MH s l) := by
  have q1 := made_ok s l
  refine DCall.of_awp tok mixed fn41 (Nat.le_of_ble_eq_true rfl) ?_
  (conv => whnf); (repeat' ((first | (with_reducible first | refine Box.mk ?_ | refine And.intro (fun _ => ?_) (fun _ => ?_) | refine (forceH_eq _ _).mpr ?_) | refine ACall.of_pure (by assumption) (by rfl) ?_ | ((with_reducible show Exists _); refine ⟨_, ACall.of_pure (by assumption) (by rfl) ⟨rfl, rfl⟩, ?_⟩) | ((with_reducible show ∃ L, drawR L _ = true ∧ _); refine ⟨[], by kernel_rfl, ?_⟩) | ((with_reducible show _ ∧ _ ∧ _); refine ⟨by omega, by omega, ?_⟩) | fail) <;> conv => whnf))
  refine aW [0, 1] q1 rfl rfl rfl ?_
  (conv => whnf); (repeat' ((first | (with_reducible first | refine Box.mk ?_ | refine And.intro (fun _ => ?_) (fun _ => ?_) | refine (forceH_eq _ _).mpr ?_) | refine ACall.of_pure (by assumption) (by rfl) ?_ | ((with_reducible show Exists _); refine ⟨_, ACall.of_pure (by assumption) (by rfl) ⟨rfl, rfl⟩, ?_⟩) | ((with_reducible show ∃ L, drawR L _ = true ∧ _); refine ⟨[], by kernel_rfl, ?_⟩) | ((with_reducible show _ ∧ _ ∧ _); refine ⟨by omega, by omega, ?_⟩) | fail) <;> conv => whnf))
  exact weak_ren_to [(0, true), (1, true)] rfl rfl rfl ⟨rfl, trivial⟩
def zeroS : Sp := ⟨0, zeroD, zeroD⟩
def putE (s : Sp) (l : Ml) (p : Px) (w : Nat) : Int := bif leafR s p then (if 4611686018427387904 - totM l < w then 13 else 0) else 1
def putM (s : Sp) (l : Ml) (p : Px) (w : Nat) : Ml := if putE s l p w = 0 then addM l p w else l
theorem put_nil (p : Px) (w : Nat) : PCall P 14 [.nilp, pxv p, .int .u64 (w : Int)] (.int .i64 6) := by
  have q1 := made_nil
  refine PCall.of_awp tok mixed fn14 (Nat.le_of_ble_eq_true rfl) ?_
  (conv => whnf); (repeat' ((first | (with_reducible first | refine Box.mk ?_ | refine And.intro (fun _ => ?_) (fun _ => ?_) | refine (forceH_eq _ _).mpr ?_) | refine ACall.of_pure (by assumption) (by rfl) ?_ | ((with_reducible show Exists _); refine ⟨_, ACall.of_pure (by assumption) (by rfl) ⟨rfl, rfl⟩, ?_⟩) | ((with_reducible show ∃ L, drawR L _ = true ∧ _); refine ⟨[], by kernel_rfl, ?_⟩) | ((with_reducible show _ ∧ _ ∧ _); refine ⟨by omega, by omega, ?_⟩) | fail) <;> conv => whnf))
  rfl
theorem look_le {l : Ml} (p : Px) : look l p ≤ totM l := by
  by_cases h : p ∈ keysM l
  · induction l with
    | nil => exact Nat.zero_le _
    | cons x l ih =>
      rw [look, totM, sumF_cons, cond_true]
      split
      · omega
      · rename_i hne
        rcases List.mem_cons.1 (show p ∈ x.1 :: keysM l from h) with e | e
        · exact absurd e.symm hne
        · have : look l p ≤ sumF (fun _ => true) l := ih e
          omega
  · rw [look_none h]; exact Nat.zero_le _
/-- What a map holds where a weight is put at a key that is there. -/
theorem addM_set {v : Nat → AV} : ∀ {l : Ml} {i k : Nat} {x : Px × Nat} (w : Nat), (keysM l).Nodup → l[i]? = some x → (mes v k l).set i (pcs x.1, v (x.2 + w), k + i) = mes v k (addM l x.1 w)
  | [], _, _, _, _, _, h => by simp at h
  | y :: l, 0, k, x, w, _, h => by
    simp only [List.getElem?_cons_zero, Option.some.injEq] at h
    subst h
    rw [addM, if_pos rfl]; rfl
  | y :: l, i + 1, k, x, w, hn, h => by
    rw [List.getElem?_cons_succ] at h
    have hn' := List.nodup_cons.1 (show (y.1 :: keysM l).Nodup from hn)
    rw [addM, if_neg (fun e => hn'.1 (by rw [e]; exact List.mem_map.2 ⟨x, List.mem_of_getElem? h, rfl⟩)), mes, mes, List.set_cons_succ, show k + (i + 1) = k + 1 + i by omega, addM_set w hn'.2 h]
theorem addM_new {l : Ml} {p : Px} (w : Nat) (h : p ∉ keysM l) : addM l p w = l ++ [(p, w)] := by
  induction l with
  | nil => rfl
  | cons x l ih =>
    have h : p ∉ x.1 :: keysM l := h
    rw [List.mem_cons, not_or] at h
    rw [addM, if_neg (fun e => h.1 e.symm), ih h.2]; rfl
theorem addM_len_in {l : Ml} {p : Px} (w : Nat) (h : p ∈ keysM l) : (addM l p w).length = l.length := by
  have := keys_addM p w l
  rw [if_pos h] at this
  have e := congrArg List.length this
  unfold keysM at e
  simpa using e
theorem tot_addM (l : Ml) (p : Px) (w : Nat) : totM (addM l p w) = totM l + w := sumF_addM _ p w l
theorem put_bad (s : Sp) (l : Ml) (p : Px) (hp : POk p) (w : Nat) (hr : leafR s p = false) : DCall P 14 [.ptr 0 0, pxv p, .int .u64 (w : Int)] (MH s l) (.int .i64 1) (MH s l) := by
  have q1 := made_ok s l
  have q2 := pRight_ok s p hp
  have q3 := height_ok s p hp
  unfold leafR at hr
  generalize rightP s p = r at *
  generalize heightP s p = h at *
  cases r
  · refine DCall.of_awp tok mixed fn14 (Nat.le_of_ble_eq_true rfl) ?_
    (conv => whnf); (repeat' ((first | (with_reducible first | refine Box.mk ?_ | refine And.intro (fun _ => ?_) (fun _ => ?_) | refine (forceH_eq _ _).mpr ?_) | refine ACall.of_pure (by assumption) (by rfl) ?_ | ((with_reducible show Exists _); refine ⟨_, ACall.of_pure (by assumption) (by rfl) ⟨rfl, rfl⟩, ?_⟩) | ((with_reducible show ∃ L, drawR L _ = true ∧ _); refine ⟨[], by kernel_rfl, ?_⟩) | ((with_reducible show _ ∧ _ ∧ _); refine ⟨by omega, by omega, ?_⟩) | fail) <;> conv => whnf))
    refine aW [0, 1] q1 rfl rfl rfl ?_
    (conv => whnf); (repeat' ((first | (with_reducible first | refine Box.mk ?_ | refine And.intro (fun _ => ?_) (fun _ => ?_) | refine (forceH_eq _ _).mpr ?_) | refine ACall.of_pure (by assumption) (by rfl) ?_ | ((with_reducible show Exists _); refine ⟨_, ACall.of_pure (by assumption) (by rfl) ⟨rfl, rfl⟩, ?_⟩) | ((with_reducible show ∃ L, drawR L _ = true ∧ _); refine ⟨[], by kernel_rfl, ?_⟩) | ((with_reducible show _ ∧ _ ∧ _); refine ⟨by omega, by omega, ?_⟩) | fail) <;> conv => whnf))
    exact weak_ren_to [(0, true), (1, true)] rfl rfl rfl ⟨rfl, trivial⟩
  · have hh : 0 < h := by
      have := of_decide_eq_false (show decide (h ≤ 0) = false from hr)
      omega
    refine DCall.of_awp tok mixed fn14 (Nat.le_of_ble_eq_true rfl) ?_
    (conv => whnf); (repeat' ((first | (with_reducible first | refine Box.mk ?_ | refine And.intro (fun _ => ?_) (fun _ => ?_) | refine (forceH_eq _ _).mpr ?_) | refine ACall.of_pure (by assumption) (by rfl) ?_ | ((with_reducible show Exists _); refine ⟨_, ACall.of_pure (by assumption) (by rfl) ⟨rfl, rfl⟩, ?_⟩) | ((with_reducible show _ ∧ _ ∧ _); refine ⟨by omega, by omega, ?_⟩) | fail) <;> conv => whnf))
    refine aW [0, 1] q1 rfl rfl rfl ?_
    (conv => whnf); (repeat' ((first | (with_reducible first | refine Box.mk ?_ | refine And.intro (fun _ => ?_) (fun _ => ?_) | refine (forceH_eq _ _).mpr ?_) | refine ACall.of_pure (by assumption) (by rfl) ?_ | ((with_reducible show Exists _); refine ⟨_, ACall.of_pure (by assumption) (by rfl) ⟨rfl, rfl⟩, ?_⟩) | ((with_reducible show _ ∧ _ ∧ _); refine ⟨by omega, by omega, ?_⟩) | fail) <;> conv => whnf))
    refine ⟨[], by kernel_rfl, ?_⟩
    (conv => whnf); (repeat' ((first | (with_reducible first | refine Box.mk ?_ | refine And.intro (fun _ => ?_) (fun _ => ?_) | refine (forceH_eq _ _).mpr ?_) | refine ACall.of_pure (by assumption) (by rfl) ?_ | ((with_reducible show Exists _); refine ⟨_, ACall.of_pure (by assumption) (by rfl) ⟨rfl, rfl⟩, ?_⟩) | ((with_reducible show _ ∧ _ ∧ _); refine ⟨by omega, by omega, ?_⟩) | fail) <;> conv => whnf))
    all_goals first
      | (exfalso; omega)
      | exact weak_ren_to [(0, true), (1, true)] rfl rfl rfl ⟨rfl, trivial⟩
theorem put_over (s : Sp) (l : Ml) (p : Px) (hp : POk p) (w : Nat) (ht : totM l ≤ 4611686018427387904) (hr : leafR s p = true) (ho : 4611686018427387904 - totM l < w) :
    DCall P 14 [.ptr 0 0, pxv p, .int .u64 (w : Int)] (MH s l) (.int .i64 13) (MH s l) := by
  have q1 := made_ok s l
  have q2 := pRight_ok s p hp
  have q3 := height_ok s p hp
  have e1 : IntKind.u64.wrap (4611686018427387904 - (totM l : Int)) = ((4611686018427387904 - totM l : Nat) : Int) := by rw [wrap_u64 (by omega) (by omega)]; omega
  unfold leafR at hr
  rw [Bool.and_eq_true] at hr
  have hh := of_decide_eq_true hr.2
  rw [hr.1] at q2
  generalize heightP s p = h at *
  refine DCall.of_awp tok mixed fn14 (Nat.le_of_ble_eq_true rfl) ?_
  (conv => whnf); (repeat' ((first | (with_reducible first | refine Box.mk ?_ | refine And.intro (fun _ => ?_) (fun _ => ?_) | refine (forceH_eq _ _).mpr ?_) | refine ACall.of_pure (by assumption) (by rfl) ?_ | ((with_reducible show Exists _); refine ⟨_, ACall.of_pure (by assumption) (by rfl) ⟨rfl, rfl⟩, ?_⟩) | ((with_reducible show _ ∧ _ ∧ _); refine ⟨by omega, by omega, ?_⟩) | fail) <;> conv => whnf))
  refine aW [0, 1] q1 rfl rfl rfl ?_
  (conv => whnf); (repeat' ((first | (with_reducible first | refine Box.mk ?_ | refine And.intro (fun _ => ?_) (fun _ => ?_) | refine (forceH_eq _ _).mpr ?_) | refine ACall.of_pure (by assumption) (by rfl) ?_ | ((with_reducible show Exists _); refine ⟨_, ACall.of_pure (by assumption) (by rfl) ⟨rfl, rfl⟩, ?_⟩) | ((with_reducible show _ ∧ _ ∧ _); refine ⟨by omega, by omega, ?_⟩) | fail) <;> conv => whnf))
  refine ⟨[], by kernel_rfl, ?_⟩
  (conv => whnf); (repeat' ((first | (with_reducible first | refine Box.mk ?_ | refine And.intro (fun _ => ?_) (fun _ => ?_) | refine (forceH_eq _ _).mpr ?_) | refine ACall.of_pure (by assumption) (by rfl) ?_ | ((with_reducible show Exists _); refine ⟨_, ACall.of_pure (by assumption) (by rfl) ⟨rfl, rfl⟩, ?_⟩) | ((with_reducible show _ ∧ _ ∧ _); refine ⟨by omega, by omega, ?_⟩) | fail) <;> conv => whnf))
  all_goals first
    | (exfalso; omega)
    | exact weak_ren_to [(0, true), (1, true)] rfl rfl rfl ⟨rfl, trivial⟩
theorem put_good (s : Sp) (l : Ml) (hn : (keysM l).Nodup) (p : Px) (hp : POk p) (w : Nat) (ht : totM l ≤ 4611686018427387904) (hr : leafR s p = true) (ho : w ≤ 4611686018427387904 - totM l) :
    DCall P 14 [.ptr 0 0, pxv p, .int .u64 (w : Int)] (MH s l) (.int .i64 0) (MH s (addM l p w)) := by
  have q1 := made_ok s l
  have q2 := pRight_ok s p hp
  have q3 := height_ok s p hp
  have hlk := look_le (l := l) p
  have e1 : IntKind.u64.wrap (4611686018427387904 - (totM l : Int)) = ((4611686018427387904 - totM l : Nat) : Int) := by rw [wrap_u64 (by omega) (by omega)]; omega
  have e2 : IntKind.u64.wrap ((totM l : Int) + (w : Int)) = ((totM (addM l p w) : Nat) : Int) := by rw [wrap_u64 (by omega) (by omega), tot_addM]; omega
  unfold leafR at hr
  rw [Bool.and_eq_true] at hr
  have hh := of_decide_eq_true hr.2
  rw [hr.1] at q2
  generalize heightP s p = h at *
  refine DCall.of_awp tok mixed fn14 (Nat.le_of_ble_eq_true rfl) ?_
  (conv => whnf); (repeat' ((first | (with_reducible first | refine Box.mk ?_ | refine And.intro (fun _ => ?_) (fun _ => ?_) | refine (forceH_eq _ _).mpr ?_) | refine ACall.of_pure (by assumption) (by rfl) ?_ | ((with_reducible show Exists _); refine ⟨_, ACall.of_pure (by assumption) (by rfl) ⟨rfl, rfl⟩, ?_⟩) | ((with_reducible show _ ∧ _ ∧ _); refine ⟨by omega, by omega, ?_⟩) | fail) <;> conv => whnf))
  refine aW [0, 1] q1 rfl rfl rfl ?_
  (conv => whnf); (repeat' ((first | (with_reducible first | refine Box.mk ?_ | refine And.intro (fun _ => ?_) (fun _ => ?_) | refine (forceH_eq _ _).mpr ?_) | refine ACall.of_pure (by assumption) (by rfl) ?_ | ((with_reducible show Exists _); refine ⟨_, ACall.of_pure (by assumption) (by rfl) ⟨rfl, rfl⟩, ?_⟩) | ((with_reducible show _ ∧ _ ∧ _); refine ⟨by omega, by omega, ?_⟩) | fail) <;> conv => whnf))
  refine ⟨[], by kernel_rfl, ?_⟩
  (conv => whnf); (repeat' ((first | (with_reducible first | refine Box.mk ?_ | refine And.intro (fun _ => ?_) (fun _ => ?_) | refine (forceH_eq _ _).mpr ?_) | refine ACall.of_pure (by assumption) (by rfl) ?_ | ((with_reducible show Exists _); refine ⟨_, ACall.of_pure (by assumption) (by rfl) ⟨rfl, rfl⟩, ?_⟩) | ((with_reducible show _ ∧ _ ∧ _); refine ⟨by omega, by omega, ?_⟩) | fail) <;> conv => whnf))
  all_goals try (exfalso; omega)
  refine ⟨[(8, [5])], by kernel_rfl, ?_⟩
  (conv => whnf); (repeat' ((first | (with_reducible first | refine Box.mk ?_ | refine And.intro (fun _ => ?_) (fun _ => ?_) | refine (forceH_eq _ _).mpr ?_) | refine ACall.of_pure (by assumption) (by rfl) ?_ | ((with_reducible show Exists _); refine ⟨_, ACall.of_pure (by assumption) (by rfl) ⟨rfl, rfl⟩, ?_⟩) | ((with_reducible show _ ∧ _ ∧ _); refine ⟨by omega, by omega, ?_⟩) | fail) <;> conv => whnf))
  by_cases hin : p ∈ keysM l
  · obtain ⟨x, hx, hxp⟩ := List.mem_map.1 hin
    obtain ⟨i, hi⟩ := List.getElem?_of_mem hx
    have hlx : look l p = x.2 := by rw [← hxp]; exact look_mem hn hx
    have e3 : IntKind.u64.wrap ((x.2 : Int) + (w : Int)) = ((x.2 + w : Nat) : Int) := by rw [wrap_u64 (by omega) (by omega)]; omega
    refine ⟨mes_ok hn, at_yes rfl hn hi (by rw [hxp]; rfl) ?_⟩
    (conv => whnf); (repeat' ((first | (with_reducible first | refine Box.mk ?_ | refine And.intro (fun _ => ?_) (fun _ => ?_) | refine (forceH_eq _ _).mpr ?_) | refine ACall.of_pure (by assumption) (by rfl) ?_ | ((with_reducible show Exists _); refine ⟨_, ACall.of_pure (by assumption) (by rfl) ⟨rfl, rfl⟩, ?_⟩) | ((with_reducible show _ ∧ _ ∧ _); refine ⟨by omega, by omega, ?_⟩) | fail) <;> conv => whnf))
    refine ⟨mes_ok hn, at_yes rfl hn hi (by rw [hxp]; rfl) ?_⟩
    (conv => whnf); (repeat' ((first | (with_reducible first | refine Box.mk ?_ | refine And.intro (fun _ => ?_) (fun _ => ?_) | refine (forceH_eq _ _).mpr ?_) | refine ACall.of_pure (by assumption) (by rfl) ?_ | ((with_reducible show Exists _); refine ⟨_, ACall.of_pure (by assumption) (by rfl) ⟨rfl, rfl⟩, ?_⟩) | ((with_reducible show _ ∧ _ ∧ _); refine ⟨by omega, by omega, ?_⟩) | fail) <;> conv => whnf))
    refine ⟨⟨⟨mes_ok hn, at_yes rfl hn hi (by rw [hxp]; rfl) ⟨rfl, rfl⟩⟩, trivial⟩, ?_⟩
    (conv => whnf); (repeat' ((first | (with_reducible first | refine Box.mk ?_ | refine And.intro (fun _ => ?_) (fun _ => ?_) | refine (forceH_eq _ _).mpr ?_) | refine ACall.of_pure (by assumption) (by rfl) ?_ | ((with_reducible show Exists _); refine ⟨_, ACall.of_pure (by assumption) (by rfl) ⟨rfl, rfl⟩, ?_⟩) | ((with_reducible show _ ∧ _ ∧ _); refine ⟨by omega, by omega, ?_⟩) | fail) <;> conv => whnf))
    refine ⟨mes_ok hn, at_stamp hi rfl ?_⟩
    (conv => whnf); (repeat' ((first | (with_reducible first | refine Box.mk ?_ | refine And.intro (fun _ => ?_) (fun _ => ?_) | refine (forceH_eq _ _).mpr ?_) | refine ACall.of_pure (by assumption) (by rfl) ?_ | ((with_reducible show Exists _); refine ⟨_, ACall.of_pure (by assumption) (by rfl) ⟨rfl, rfl⟩, ?_⟩) | ((with_reducible show _ ∧ _ ∧ _); refine ⟨by omega, by omega, ?_⟩) | fail) <;> conv => whnf))
    refine weak_ren_to [(0, true), (1, true)] rfl rfl ?_ ⟨rfl, trivial⟩
    show [Ob.box 94 [.int .i64 s.n, .int .i64 s.d0.kind, .int .i64 s.d0.side, .int .i64 s.d0.step, .int .i64 s.d1.kind, .int .i64 s.d1.side, .int .i64 s.d1.step, .int .u64 (IntKind.u64.wrap ((totM l : Int) + (w : Int))), .own 1], Ob.map pks ((mes u64V 0 l).set i (pcs x.1, .int .u64 (IntKind.u64.wrap ((x.2 : Int) + (w : Int))), i)) l.length] = MH s (addM l p w)
    have e4 := addM_set (v := u64V) (k := 0) w hn hi
    rw [Nat.zero_add, hxp] at e4
    rw [e2, e3, hxp]
    show [_, Ob.map pks ((mes u64V 0 l).set i (pcs p, u64V (x.2 + w), i)) l.length] = _
    rw [e4, ← addM_len_in w hin]
    rfl
  · have hlx : look l p = 0 := look_none hin
    have e3 : IntKind.u64.wrap (0 + (w : Int)) = (w : Int) := by rw [wrap_u64 (by omega) (by omega)]; omega
    have es : mes u64V 0 (l ++ [(p, 0)]) = mes u64V 0 l ++ [(pcs p, AV.int .u64 0, l.length)] := by rw [mes_snoc, Nat.zero_add]; rfl
    have hn2 : (keysM (l ++ [(p, 0)])).Nodup := by
      have := nodup_addM hn p 0
      rwa [addM_new 0 hin] at this
    have hi : (l ++ [(p, 0)])[l.length]? = some (p, 0) := by simp
    refine ⟨mes_ok hn, at_no rfl hin rfl ?_⟩
    (conv => whnf); (repeat' ((first | (with_reducible first | refine Box.mk ?_ | refine And.intro (fun _ => ?_) (fun _ => ?_) | refine (forceH_eq _ _).mpr ?_) | refine ACall.of_pure (by assumption) (by rfl) ?_ | ((with_reducible show Exists _); refine ⟨_, ACall.of_pure (by assumption) (by rfl) ⟨rfl, rfl⟩, ?_⟩) | ((with_reducible show _ ∧ _ ∧ _); refine ⟨by omega, by omega, ?_⟩) | fail) <;> conv => whnf))
    refine ⟨mes_ok hn, at_no rfl hin rfl ?_⟩
    (conv => whnf); (repeat' ((first | (with_reducible first | refine Box.mk ?_ | refine And.intro (fun _ => ?_) (fun _ => ?_) | refine (forceH_eq _ _).mpr ?_) | refine ACall.of_pure (by assumption) (by rfl) ?_ | ((with_reducible show Exists _); refine ⟨_, ACall.of_pure (by assumption) (by rfl) ⟨rfl, rfl⟩, ?_⟩) | ((with_reducible show _ ∧ _ ∧ _); refine ⟨by omega, by omega, ?_⟩) | fail) <;> conv => whnf))
    refine ⟨⟨⟨mes_ok' es hn2, at_yes' es rfl hn2 hi rfl ⟨rfl, rfl⟩⟩, trivial⟩, ?_⟩
    (conv => whnf); (repeat' ((first | (with_reducible first | refine Box.mk ?_ | refine And.intro (fun _ => ?_) (fun _ => ?_) | refine (forceH_eq _ _).mpr ?_) | refine ACall.of_pure (by assumption) (by rfl) ?_ | ((with_reducible show Exists _); refine ⟨_, ACall.of_pure (by assumption) (by rfl) ⟨rfl, rfl⟩, ?_⟩) | ((with_reducible show _ ∧ _ ∧ _); refine ⟨by omega, by omega, ?_⟩) | fail) <;> conv => whnf))
    refine ⟨mes_ok' es hn2, at_stamp' es hi rfl ?_⟩
    (conv => whnf); (repeat' ((first | (with_reducible first | refine Box.mk ?_ | refine And.intro (fun _ => ?_) (fun _ => ?_) | refine (forceH_eq _ _).mpr ?_) | refine ACall.of_pure (by assumption) (by rfl) ?_ | ((with_reducible show Exists _); refine ⟨_, ACall.of_pure (by assumption) (by rfl) ⟨rfl, rfl⟩, ?_⟩) | ((with_reducible show _ ∧ _ ∧ _); refine ⟨by omega, by omega, ?_⟩) | fail) <;> conv => whnf))
    refine weak_ren_to [(0, true), (1, true)] rfl rfl ?_ ⟨rfl, trivial⟩
    show [Ob.box 94 [.int .i64 s.n, .int .i64 s.d0.kind, .int .i64 s.d0.side, .int .i64 s.d0.step, .int .i64 s.d1.kind, .int .i64 s.d1.side, .int .i64 s.d1.step, .int .u64 (IntKind.u64.wrap ((totM l : Int) + (w : Int))), .own 1], Ob.map pks ((mes u64V 0 l ++ [(pcs p, AV.int .u64 0, l.length)]).set l.length (pcs p, .int .u64 (IntKind.u64.wrap (0 + (w : Int))), l.length)) (l.length + 1)] = MH s (addM l p w)
    have e4 := addM_set (v := u64V) (k := 0) w hn2 hi
    rw [Nat.zero_add, es, Nat.zero_add] at e4
    have e5 : addM (l ++ [(p, 0)]) p w = addM l p w := by
      have e6 := addM_new 0 hin
      have e7 : ∀ r : Ml, p ∉ keysM r → addM (r ++ [(p, 0)]) p w = r ++ [(p, w)] := by
        intro r hr
        induction r with
        | nil => show (if p = p then _ else _) = _; rw [if_pos rfl, Nat.zero_add]; rfl
        | cons y r ih =>
          have hr : p ∉ y.1 :: keysM r := hr
          rw [List.mem_cons, not_or] at hr
          rw [List.cons_append, addM, if_neg (fun e => hr.1 e.symm), ih hr.2]; rfl
      rw [e7 l hin, addM_new w hin]
    rw [e2, e3]
    show [_, Ob.map pks ((mes u64V 0 l ++ [(pcs p, AV.int .u64 0, l.length)]).set l.length (pcs p, u64V w, l.length)) (l.length + 1)] = _
    rw [e4, e5]
    have e8 : (addM l p w).length = l.length + 1 := by rw [addM_new w hin, List.length_append]; rfl
    rw [← e8]
    rfl
theorem put_ok (s : Sp) (l : Ml) (hI : MI s l) (p : Px) (hp : POk p) (w : Nat) :
    DCall P 14 [.ptr 0 0, pxv p, .int .u64 (w : Int)] (MH s l) (.int .i64 (putE s l p w)) (MH s (putM s l p w)) := by
  unfold putM putE
  cases hr : leafR s p
  · rw [cond_false, if_neg (by decide)]
    exact put_bad s l p hp w hr
  · rw [cond_true]
    by_cases ho : 4611686018427387904 - totM l < w
    · rw [if_pos ho, if_neg (by decide)]
      exact put_over s l p hp w hI.tot hr ho
    · rw [if_neg ho, if_pos rfl]
      exact put_good s l hI.nodup p hp w hI.tot hr (by omega)
end Go.Proofs.YtgaohmfmomeflaaGreatDoor
end

section
/- model: Weight. -/
namespace Go.Proofs.YtgaohmfmomeflaaGreatDoor
open Go.Ve

/-- What has been gone through of a list, by places. -/
def atL (l : Ml) (g : Px × Nat → Nat) (b : Nat) : Nat := match l[b]? with
  | some x => g x
  | none => 0
theorem seen_perm {seen : List Nat} {n : Nat} (h1 : seen.Nodup) (h2 : ∀ b ∈ seen, b < n) (h3 : ∀ b, b < n → b ∈ seen) : seen.Perm (List.range n) := by
  rw [List.perm_ext_iff_of_nodup h1 List.nodup_range]
  intro a
  rw [List.mem_range]
  exact ⟨h2 a, h3 a⟩
theorem seen_sub {seen : List Nat} {n : Nat} (h1 : seen.Nodup) (h2 : ∀ b ∈ seen, b < n) : ∃ t, (seen ++ t).Perm (List.range n) := by
  refine ⟨(List.range n).filter fun b => decide (b ∉ seen), seen_perm ?_ ?_ ?_⟩
  · rw [List.nodup_append]
    refine ⟨h1, List.Pairwise.filter _ List.nodup_range, fun a ha b hb e => ?_⟩
    have := of_decide_eq_true (List.mem_filter.1 hb).2
    exact this (e ▸ ha)
  · intro b hb
    rcases List.mem_append.1 hb with hb | hb
    · exact h2 b hb
    · exact List.mem_range.1 (List.mem_filter.1 hb).1
  · intro b hb
    rw [List.mem_append]
    by_cases h : b ∈ seen
    · exact .inl h
    · exact .inr (List.mem_filter.2 ⟨List.mem_range.2 hb, decide_eq_true h⟩)
theorem seen_len {seen : List Nat} {n : Nat} (h1 : seen.Nodup) (h2 : ∀ b ∈ seen, b < n) : seen.length ≤ n := by
  obtain ⟨t, ht⟩ := seen_sub h1 h2
  have := ht.length_eq
  rw [List.length_append, List.length_range] at this
  omega
theorem seen_more {seen : List Nat} {n b : Nat} (h1 : seen.Nodup) (h2 : ∀ b ∈ seen, b < n) (hb : b < n) (hs : b ∉ seen) : (seen ++ [b]).Nodup ∧ (∀ c ∈ seen ++ [b], c < n) ∧ seen.length < n := by
  have hx : (seen ++ [b]).Nodup := by
    rw [List.nodup_append]
    refine ⟨h1, by simp, fun a ha c hc e => hs ?_⟩
    rw [← List.mem_singleton.1 hc, ← e]; exact ha
  have hy : ∀ c ∈ seen ++ [b], c < n := fun c hc => by
    rcases List.mem_append.1 hc with hc | hc
    · exact h2 c hc
    · rw [List.mem_singleton.1 hc]; exact hb
  have := seen_len hx hy
  rw [List.length_append] at this
  exact ⟨hx, hy, by simp at this; omega⟩
theorem at_sum (l : Ml) (g : Px × Nat → Nat) : ((List.range l.length).map (atL l g)).sum = (l.map g).sum := by
  congr 1
  refine List.ext_getElem? fun i => ?_
  rw [List.getElem?_map, List.getElem?_map]
  rcases Nat.lt_or_ge i l.length with h | h
  · rw [List.getElem?_range h, Option.map_some, atL, List.getElem?_eq_getElem h]; rfl
  · rw [List.getElem?_eq_none (by simpa using h), List.getElem?_eq_none h]; rfl
theorem part_le {l : Ml} {g : Px × Nat → Nat} {seen : List Nat} (h1 : seen.Nodup) (h2 : ∀ b ∈ seen, b < l.length) : (seen.map (atL l g)).sum ≤ (l.map g).sum := by
  rw [← at_sum l g]
  obtain ⟨t, ht⟩ := seen_sub h1 h2
  rw [← (ht.map (atL l g)).sum_nat, List.map_append, List.sum_append]
  exact Nat.le_add_right _ _
def wsum (s : Sp) (l : Ml) (p : Px) (seen : List Nat) : Nat := (seen.map (atL l fun x => bif overP s p x.1 then x.2 else 0)).sum
theorem weight_nil (p : Px) : PCall P 23 [.nilp, pxv p] (.int .u64 0) := by
  have q1 := made_nil
  refine PCall.of_awp tok mixed fn23 (Nat.le_of_ble_eq_true rfl) ?_
  (conv => whnf); (repeat' ((first | (with_reducible first | refine Box.mk ?_ | refine And.intro (fun _ => ?_) (fun _ => ?_) | refine (forceH_eq _ _).mpr ?_) | refine ACall.of_pure (by assumption) (by rfl) ?_ | ((with_reducible show Exists _); refine ⟨_, ACall.of_pure (by assumption) (by rfl) ⟨rfl, rfl⟩, ?_⟩) | ((with_reducible show ∃ L, drawR L _ = true ∧ _); refine ⟨[], by kernel_rfl, ?_⟩) | ((with_reducible show _ ∧ _ ∧ _); refine ⟨by omega, by omega, ?_⟩) | fail) <;> conv => whnf))
  rfl
theorem weight_ok (s : Sp) (l : Ml) (hI : MI s l) (p : Px) (hp : POk p) : DCall P 23 [.ptr 0 0, pxv p] (MH s l) (.int .u64 (wgt s l p : Int)) (MH s l) := by
  have q1 := made_ok s l
  have ht := hI.tot
  have hw : wgt s l p ≤ totM l := sumF_le _ _
  refine DCall.of_awp tok mixed fn23 (Nat.le_of_ble_eq_true rfl) ?_
  (conv => whnf); (repeat' ((first | (with_reducible first | refine Box.mk ?_ | refine And.intro (fun _ => ?_) (fun _ => ?_) | refine (forceH_eq _ _).mpr ?_) | refine ACall.of_pure (by assumption) (by rfl) ?_ | ((with_reducible show Exists _); refine ⟨_, ACall.of_pure (by assumption) (by rfl) ⟨rfl, rfl⟩, ?_⟩) | ((with_reducible show ∃ L, drawR L _ = true ∧ _); refine ⟨[], by kernel_rfl, ?_⟩) | ((with_reducible show _ ∧ _ ∧ _); refine ⟨by omega, by omega, ?_⟩) | fail) <;> conv => whnf))
  refine aW [0, 1] q1 rfl rfl rfl ?_
  (conv => whnf); (repeat' ((first | (with_reducible first | refine Box.mk ?_ | refine And.intro (fun _ => ?_) (fun _ => ?_) | refine (forceH_eq _ _).mpr ?_) | refine ACall.of_pure (by assumption) (by rfl) ?_ | ((with_reducible show Exists _); refine ⟨_, ACall.of_pure (by assumption) (by rfl) ⟨rfl, rfl⟩, ?_⟩) | ((with_reducible show ∃ L, drawR L _ = true ∧ _); refine ⟨[], by kernel_rfl, ?_⟩) | ((with_reducible show _ ∧ _ ∧ _); refine ⟨by omega, by omega, ?_⟩) | fail) <;> conv => whnf))
  refine aloop (fun seen : List Nat => seen.Nodup ∧ ∀ b ∈ seen, b < l.length) (fun seen => ⟨envL [(0, .ptr 0 0), (3, .ptr 2 0), (5, .int .u64 (wsum s l p seen : Int)), (15, .own 3)], MH s l ++ [.box 34 (pcs p), .iter (some 1) l.length seen l.length]⟩) (fun seen => l.length - seen.length) []
    ⟨List.nodup_nil, fun b hb => by cases hb⟩ (weak_to ⟨rfl, rfl, rfl, rfl, trivial⟩ rfl) ?_
  rintro seen ⟨hn, hb⟩
  have hsl := seen_len hn hb
  (conv => whnf); (repeat' ((first | (with_reducible first | refine Box.mk ?_ | refine And.intro (fun _ => ?_) (fun _ => ?_) | refine (forceH_eq _ _).mpr ?_) | refine ACall.of_pure (by assumption) (by rfl) ?_ | ((with_reducible show Exists _); refine ⟨_, ACall.of_pure (by assumption) (by rfl) ⟨rfl, rfl⟩, ?_⟩) | ((with_reducible show ∃ L, drawR L _ = true ∧ _); refine ⟨[], by kernel_rfl, ?_⟩) | ((with_reducible show _ ∧ _ ∧ _); refine ⟨by omega, by omega, ?_⟩) | fail) <;> conv => whnf))
  refine ⟨Nat.le_refl _, mes_lt, fun e he hns => ?_, fun hall => ?_⟩
  · obtain ⟨j, hj⟩ := List.getElem?_of_mem he
    obtain ⟨x, hx, rfl⟩ := mes_at hj
    have hjl : j < l.length := (List.getElem?_eq_some_iff.1 hx).1
    obtain ⟨m1, m2, m3⟩ := seen_more hn hb hjl hns
    have hxo : POk x.1 := hI.ok.at (List.mem_of_getElem? hx)
    have q2 := pOver_ok s p x.1 hp hxo
    have hle := part_le (g := fun x => bif overP s p x.1 then x.2 else 0) m1 m2
    have hsn : wsum s l p (seen ++ [j]) = wsum s l p seen + (bif overP s p x.1 then x.2 else 0) := by
      unfold wsum
      rw [List.map_append, List.sum_append]
      simp [atL, hx]
    have hle2 : wsum s l p (seen ++ [j]) ≤ wgt s l p := hle
    (conv => whnf); (repeat' ((first | (with_reducible first | refine Box.mk ?_ | refine And.intro (fun _ => ?_) (fun _ => ?_) | refine (forceH_eq _ _).mpr ?_) | refine ACall.of_pure (by assumption) (by rfl) ?_ | ((with_reducible show Exists _); refine ⟨_, ACall.of_pure (by assumption) (by rfl) ⟨rfl, rfl⟩, ?_⟩) | ((with_reducible show ∃ L, drawR L _ = true ∧ _); refine ⟨[], by kernel_rfl, ?_⟩) | ((with_reducible show _ ∧ _ ∧ _); refine ⟨by omega, by omega, ?_⟩) | fail) <;> conv => whnf))
    refine ⟨rfl, _, he, by simp, ?_⟩
    generalize overP s p x.1 = ov at q2 hsn
    cases ov
    · (conv => whnf); (repeat' ((first | (with_reducible first | refine Box.mk ?_ | refine And.intro (fun _ => ?_) (fun _ => ?_) | refine (forceH_eq _ _).mpr ?_) | refine ACall.of_pure (by assumption) (by rfl) ?_ | ((with_reducible show Exists _); refine ⟨_, ACall.of_pure (by assumption) (by rfl) ⟨rfl, rfl⟩, ?_⟩) | ((with_reducible show ∃ L, drawR L _ = true ∧ _); refine ⟨[], by kernel_rfl, ?_⟩) | ((with_reducible show _ ∧ _ ∧ _); refine ⟨by omega, by omega, ?_⟩) | fail) <;> conv => whnf))
      refine ⟨seen ++ [j], ⟨m1, m2⟩, by simp; omega, weak_ren_to [(0, true), (1, true), (2, true), (3, true)] rfl rfl rfl ⟨rfl, rfl, congrArg (AV.int .u64) (by rw [hsn]; simp), rfl, trivial⟩⟩
    · (conv => whnf); (repeat' ((first | (with_reducible first | refine Box.mk ?_ | refine And.intro (fun _ => ?_) (fun _ => ?_) | refine (forceH_eq _ _).mpr ?_) | refine ACall.of_pure (by assumption) (by rfl) ?_ | ((with_reducible show Exists _); refine ⟨_, ACall.of_pure (by assumption) (by rfl) ⟨rfl, rfl⟩, ?_⟩) | ((with_reducible show ∃ L, drawR L _ = true ∧ _); refine ⟨[], by kernel_rfl, ?_⟩) | ((with_reducible show _ ∧ _ ∧ _); refine ⟨by omega, by omega, ?_⟩) | fail) <;> conv => whnf))
      refine ⟨seen ++ [j], ⟨m1, m2⟩, by simp; omega, weak_ren_to [(0, true), (1, true), (2, true), (3, true)] rfl rfl rfl ⟨rfl, rfl, congrArg (AV.int .u64) ?_, rfl, trivial⟩⟩
      rw [cond_true] at hsn
      show IntKind.u64.wrap ((wsum s l p seen : Int) + (x.2 : Int)) = (wsum s l p (seen ++ [j]) : Int)
      rw [wrap_u64 (by omega) (by omega), hsn]; omega
  · have hp2 := seen_perm hn hb fun b hbl => by
      have := hall _ (List.mem_of_getElem? (i := b) (by rw [mes_get, List.getElem?_eq_getElem hbl, Option.map_some]))
      rwa [Nat.zero_add] at this
    have hfin : wsum s l p seen = wgt s l p := by
      unfold wsum wgt sumF
      rw [← at_sum]
      exact (hp2.map _).sum_nat
    (conv => whnf); (repeat' ((first | (with_reducible first | refine Box.mk ?_ | refine And.intro (fun _ => ?_) (fun _ => ?_) | refine (forceH_eq _ _).mpr ?_) | refine ACall.of_pure (by assumption) (by rfl) ?_ | ((with_reducible show Exists _); refine ⟨_, ACall.of_pure (by assumption) (by rfl) ⟨rfl, rfl⟩, ?_⟩) | ((with_reducible show ∃ L, drawR L _ = true ∧ _); refine ⟨[], by kernel_rfl, ?_⟩) | ((with_reducible show _ ∧ _ ∧ _); refine ⟨by omega, by omega, ?_⟩) | fail) <;> conv => whnf))
    refine weak_ren_to [(0, true), (1, true)] rfl rfl rfl ⟨congrArg (AV.int .u64) ?_, trivial⟩
    rw [← hfin]
end Go.Proofs.YtgaohmfmomeflaaGreatDoor
end

section
/- model: the sort of an empty row; the orders; the keys of a map, gone through and put in order. -/
namespace Go.Proofs.YtgaohmfmomeflaaGreatDoor
open Go.Ve

theorem lib_Len (n : Nat) (hn : n < 4294967296) : PCall P 115 [.int .u64 (n : Int)] (.int .i64 (Lib.bitLen n : Nat)) := by
  unfold PCall
  refine ⟨fn115.callable, fun M0 w vs hM hG hv => ?_⟩
  obtain ⟨hl, hv⟩ := hv
  obtain ⟨v0, rfl⟩ : ∃ v0, vs = [v0] := by
    match vs, hl with
    | [a], _ => exact ⟨a, rfl⟩
  have e0 := (hv 0 _ rfl).int_inv
  simp at e0
  subst e0
  have h := Any.bits_Len (SlLaysF0.n15.bits (P := P) (ρ := Tryz.sortP_ren) { Tryz.sortP with }) (n : Int) w (by omega) (by omega)
  rw [Int.toNat_natCast] at h
  refine Calls.mono (show Calls P 115 _ w _ from h) ?_
  rintro e w' ⟨rfl, rfl⟩
  exact ⟨_, rfl, Below.refl _ _, .int _ _ _⟩
theorem insert_nil (g : FuncId) : DCall P 136 [.own 0, .int .i64 0, .int .i64 0, .fn g []] [.row 34 12 []] (.tup []) [.row 34 12 []] := by
  refine DCall.of_awp tok mixed fn136 (Nat.le_of_ble_eq_true rfl) ?_
  (conv => whnf); (repeat' ((first | with_reducible refine Box.mk ?_ | with_reducible refine And.intro (fun _ => ?_) (fun _ => ?_) | ((with_reducible show AYld _ _ _ _ _); refine AYld.of tok mixed ?_) | with_reducible refine (forceH_eq _ _).mpr ?_ | refine ACall.of_pure (by assumption) (by rfl) ?_ | ((with_reducible show Exists _); refine ⟨_, ACall.of_pure (by assumption) (by rfl) ⟨rfl, rfl⟩, ?_⟩) | ((with_reducible show _ ∧ _ ∧ _); refine ⟨by omega, by omega, ?_⟩) | fail) <;> conv => whnf))
  refine aloop (fun _ : Unit => True) (fun _ => ⟨envL [(2, .int .i64 0), (8, .int .i64 1)], [.row 34 12 []]⟩) (fun _ => 0) () trivial (weak_to ⟨rfl, rfl, trivial⟩ rfl) ?_
  rintro _ _
  (conv => whnf); (repeat' ((first | with_reducible refine Box.mk ?_ | with_reducible refine And.intro (fun _ => ?_) (fun _ => ?_) | ((with_reducible show AYld _ _ _ _ _); refine AYld.of tok mixed ?_) | with_reducible refine (forceH_eq _ _).mpr ?_ | refine ACall.of_pure (by assumption) (by rfl) ?_ | ((with_reducible show Exists _); refine ⟨_, ACall.of_pure (by assumption) (by rfl) ⟨rfl, rfl⟩, ?_⟩) | ((with_reducible show _ ∧ _ ∧ _); refine ⟨by omega, by omega, ?_⟩) | fail) <;> conv => whnf))
  · rename_i h; exact absurd h (by decide)
  · exact weak_to ⟨rfl, trivial⟩ rfl
theorem pdq_nil (g : FuncId) (k : Int) : DCall P 114 [.own 0, .int .i64 0, .int .i64 0, .int .i64 k, .fn g []] [.row 34 12 []] (.tup []) [.row 34 12 []] := by
  refine DCall.of_awp tok mixed fn114 (Nat.le_of_ble_eq_true rfl) ?_
  (conv => whnf); (repeat' ((first | with_reducible refine Box.mk ?_ | with_reducible refine And.intro (fun _ => ?_) (fun _ => ?_) | ((with_reducible show AYld _ _ _ _ _); refine AYld.of tok mixed ?_) | with_reducible refine (forceH_eq _ _).mpr ?_ | refine ACall.of_pure (by assumption) (by rfl) ?_ | ((with_reducible show Exists _); refine ⟨_, ACall.of_pure (by assumption) (by rfl) ⟨rfl, rfl⟩, ?_⟩) | ((with_reducible show _ ∧ _ ∧ _); refine ⟨by omega, by omega, ?_⟩) | fail) <;> conv => whnf))
  refine aloop (fun _ : Unit => True) (fun _ => ⟨envL [(0, .own 0), (1, .int .i64 0), (2, .int .i64 0), (3, .int .i64 k), (4, .fn g []), (10, .bool true), (11, .bool true)], [.row 34 12 []]⟩) (fun _ => 0) () trivial (weak_to ⟨rfl, rfl, rfl, rfl, rfl, rfl, rfl, trivial⟩ rfl) ?_
  rintro _ _
  (conv => whnf); (repeat' ((first | with_reducible refine Box.mk ?_ | with_reducible refine And.intro (fun _ => ?_) (fun _ => ?_) | ((with_reducible show AYld _ _ _ _ _); refine AYld.of tok mixed ?_) | with_reducible refine (forceH_eq _ _).mpr ?_ | refine ACall.of_pure (by assumption) (by rfl) ?_ | ((with_reducible show Exists _); refine ⟨_, ACall.of_pure (by assumption) (by rfl) ⟨rfl, rfl⟩, ?_⟩) | ((with_reducible show _ ∧ _ ∧ _); refine ⟨by omega, by omega, ?_⟩) | fail) <;> conv => whnf))
  · refine aW [0] (insert_nil g) rfl rfl rfl ?_
    (conv => whnf); (repeat' ((first | with_reducible refine Box.mk ?_ | with_reducible refine And.intro (fun _ => ?_) (fun _ => ?_) | ((with_reducible show AYld _ _ _ _ _); refine AYld.of tok mixed ?_) | with_reducible refine (forceH_eq _ _).mpr ?_ | refine ACall.of_pure (by assumption) (by rfl) ?_ | ((with_reducible show Exists _); refine ⟨_, ACall.of_pure (by assumption) (by rfl) ⟨rfl, rfl⟩, ?_⟩) | ((with_reducible show _ ∧ _ ∧ _); refine ⟨by omega, by omega, ?_⟩) | fail) <;> conv => whnf))
    exact weak_to ⟨rfl, trivial⟩ rfl
  all_goals (exfalso; rename_i h _; exact absurd (show IntKind.i64.wrap (0 - 0) ≤ 12 by decide) h)
theorem sortF_nil (g : FuncId) : DCall P 82 [.own 0, .fn g []] [.row 34 12 []] (.tup []) [.row 34 12 []] := by
  have q1 := lib_Len 0 (by decide)
  have e1 : IntKind.u64.wrap 0 = ((0 : Nat) : Int) := by decide
  refine DCall.of_awp tok mixed fn82 (Nat.le_of_ble_eq_true rfl) ?_
  (conv => whnf); (repeat' ((first | with_reducible refine Box.mk ?_ | with_reducible refine And.intro (fun _ => ?_) (fun _ => ?_) | ((with_reducible show AYld _ _ _ _ _); refine AYld.of tok mixed ?_) | with_reducible refine (forceH_eq _ _).mpr ?_ | refine ACall.of_pure (by assumption) (by rfl) ?_ | ((with_reducible show Exists _); refine ⟨_, ACall.of_pure (by assumption) (by rfl) ⟨rfl, rfl⟩, ?_⟩) | ((with_reducible show _ ∧ _ ∧ _); refine ⟨by omega, by omega, ?_⟩) | fail) <;> conv => whnf))
  refine aW [0] (pdq_nil g _) rfl rfl rfl ?_
  (conv => whnf); (repeat' ((first | with_reducible refine Box.mk ?_ | with_reducible refine And.intro (fun _ => ?_) (fun _ => ?_) | ((with_reducible show AYld _ _ _ _ _); refine AYld.of tok mixed ?_) | with_reducible refine (forceH_eq _ _).mpr ?_ | refine ACall.of_pure (by assumption) (by rfl) ?_ | ((with_reducible show Exists _); refine ⟨_, ACall.of_pure (by assumption) (by rfl) ⟨rfl, rfl⟩, ?_⟩) | ((with_reducible show _ ∧ _ ∧ _); refine ⟨by omega, by omega, ?_⟩) | fail) <;> conv => whnf))
  exact weak_to ⟨rfl, trivial⟩ rfl
/-- The sort, over a row of the call's own, empty or not. -/
theorem sortF_ok {c : Px → Px → Int} {g : FuncId} (hc : ∀ x y, @PCall told P g [pxv x, pxv y] (.int .i64 (c x y))) (hT : TO c) (h0 : ∀ x y, c x y = 0 → x = y) (l : List Px) (hl : l.length < 4611686018427387904) :
    DCall P 82 [.own 0, .fn g []] [.row 34 12 (pcl l)] (.tup []) [.row 34 12 (pcl (srt c l))] := by
  cases l with
  | nil =>
    have e : srt c [] = [] := List.length_eq_zero_iff.1 (by rw [srt_len]; rfl)
    rw [e]
    exact sortF_nil g
  | cons x r => exact sortF_own hc hT h0 (x :: r) hl (by simp)
theorem hgt_eq (p q : Px) : hgtP p q = orI [cmpI (IntKind.i64.wrap (p.a0 + p.a1)) (IntKind.i64.wrap (q.a0 + q.a1)), cmpP p q] := by rw [or2]; rfl
theorem byHeight_ok [Dr] (p q : Px) : PCall P 53 [pxv p, pxv q] (.int .i64 (hgtP p q)) := by
  have q1 := pCmp_ok p q
  have q2 := cmpI_ok (IntKind.i64.wrap (p.a0 + p.a1)) (IntKind.i64.wrap (q.a0 + q.a1))
  have q3 := or_ok [cmpI (IntKind.i64.wrap (p.a0 + p.a1)) (IntKind.i64.wrap (q.a0 + q.a1)), cmpP p q] (by simp)
  rw [hgt_eq]
  generalize cmpP p q = z at *
  generalize cmpI (IntKind.i64.wrap (p.a0 + p.a1)) (IntKind.i64.wrap (q.a0 + q.a1)) = y at *
  refine PCall.of_awp tok mixed fn53 (Nat.le_of_ble_eq_true rfl) ?_
  (conv => whnf); (repeat' ((first | with_reducible refine Box.mk ?_ | with_reducible refine And.intro (fun _ => ?_) (fun _ => ?_) | ((with_reducible show AYld _ _ _ _ _); refine AYld.of tok mixed ?_) | with_reducible refine (forceH_eq _ _).mpr ?_ | refine ACall.of_pure (by assumption) (by rfl) ?_ | ((with_reducible show Exists _); refine ⟨_, ACall.of_pure (by assumption) (by rfl) ⟨rfl, rfl⟩, ?_⟩) | ((with_reducible show ∃ L, drawR L _ = true ∧ _); refine ⟨[], by kernel_rfl, ?_⟩) | ((with_reducible show _ ∧ _ ∧ _); refine ⟨by omega, by omega, ?_⟩) | fail) <;> conv => whnf))
  refine ⟨_, ACall.of_view q3 rfl rfl ⟨rfl, rfl⟩, ?_⟩
  (conv => whnf); (repeat' ((first | with_reducible refine Box.mk ?_ | with_reducible refine And.intro (fun _ => ?_) (fun _ => ?_) | ((with_reducible show AYld _ _ _ _ _); refine AYld.of tok mixed ?_) | with_reducible refine (forceH_eq _ _).mpr ?_ | refine ACall.of_pure (by assumption) (by rfl) ?_ | ((with_reducible show Exists _); refine ⟨_, ACall.of_pure (by assumption) (by rfl) ⟨rfl, rfl⟩, ?_⟩) | ((with_reducible show ∃ L, drawR L _ = true ∧ _); refine ⟨[], by kernel_rfl, ?_⟩) | ((with_reducible show _ ∧ _ ∧ _); refine ⟨by omega, by omega, ?_⟩) | fail) <;> conv => whnf))
  rfl

/-! ### a map's keys, gone through -/
def keyAt (l : Ml) (b : Nat) : Px := match l[b]? with
  | some x => x.1
  | none => zeroP
def prS (l : Ml) (seen : List Nat) : List Px := seen.map (keyAt l)
theorem prS_all {l : Ml} {seen : List Nat} (h : seen.Perm (List.range l.length)) : (prS l seen).Perm (keysM l) := by
  have e : (List.range l.length).map (keyAt l) = keysM l := by
    refine List.ext_getElem? fun i => ?_
    unfold keysM
    rw [List.getElem?_map, List.getElem?_map]
    rcases Nat.lt_or_ge i l.length with h | h
    · rw [List.getElem?_range h, Option.map_some, keyAt, List.getElem?_eq_getElem h]; rfl
    · rw [List.getElem?_eq_none (by simpa using h), List.getElem?_eq_none h]; rfl
  rw [← e]
  exact h.map _
theorem srt_of_perm {c : Px → Px → Int} (hT : TO c) (h0 : ∀ x y, c x y = 0 → x = y) {l r : List Px} (hn : r.Nodup) (h : l.Perm r) : srt c l = srt c r :=
  (srt_ord hT h0 (h.nodup_iff.2 hn)).ext hT (srt_ord hT h0 hn) fun x => by rw [srt_mem, srt_mem, h.mem_iff]
/-- The keys' objects: the map, the variable that holds it. -/
def KH (v : Nat → AV) (tm : Nat) (l : Ml) : Hp := [.map pks (mes v 0 l) l.length, .box tm [.own 0]]
theorem keysI_fn (l : Ml) : DCall P 52 [.own 0] [.map pks (mes i64V 0 l) l.length] (.fn 83 [.ptr 1 0]) (KH i64V 106 l) := by
  refine DCall.of_awp tok mixed fn52 (Nat.le_of_ble_eq_true rfl) ?_
  (conv => whnf); (repeat' ((first | with_reducible refine Box.mk ?_ | with_reducible refine And.intro (fun _ => ?_) (fun _ => ?_) | ((with_reducible show AYld _ _ _ _ _); refine AYld.of tok mixed ?_) | with_reducible refine (forceH_eq _ _).mpr ?_ | refine ACall.of_pure (by assumption) (by rfl) ?_ | ((with_reducible show Exists _); refine ⟨_, ACall.of_pure (by assumption) (by rfl) ⟨rfl, rfl⟩, ?_⟩) | ((with_reducible show ∃ L, drawR L _ = true ∧ _); refine ⟨[], by kernel_rfl, ?_⟩) | ((with_reducible show _ ∧ _ ∧ _); refine ⟨by omega, by omega, ?_⟩) | fail) <;> conv => whnf))
  exact weak_to ⟨rfl, trivial⟩ rfl
theorem keysU_fn (l : Ml) : DCall P 58 [.own 0] [.map pks (mes u64V 0 l) l.length] (.fn 90 [.ptr 1 0]) (KH u64V 92 l) := by
  refine DCall.of_awp tok mixed fn58 (Nat.le_of_ble_eq_true rfl) ?_
  (conv => whnf); (repeat' ((first | with_reducible refine Box.mk ?_ | with_reducible refine And.intro (fun _ => ?_) (fun _ => ?_) | ((with_reducible show AYld _ _ _ _ _); refine AYld.of tok mixed ?_) | with_reducible refine (forceH_eq _ _).mpr ?_ | refine ACall.of_pure (by assumption) (by rfl) ?_ | ((with_reducible show Exists _); refine ⟨_, ACall.of_pure (by assumption) (by rfl) ⟨rfl, rfl⟩, ?_⟩) | ((with_reducible show ∃ L, drawR L _ = true ∧ _); refine ⟨[], by kernel_rfl, ?_⟩) | ((with_reducible show _ ∧ _ ∧ _); refine ⟨by omega, by omega, ?_⟩) | fail) <;> conv => whnf))
  exact weak_to ⟨rfl, trivial⟩ rfl
theorem seqI_ok (l : Ml) (hl : l.length ≤ 34359738368) : ACall P 113 [.nils, .fn 83 [.ptr 1 0]] (KH i64V 106 l) fun r H' =>
    ∃ k : List Px, k.Perm (keysM l) ∧ r = .own 2 ∧ H' = KH i64V 106 l ++ [.row 34 12 (pcl k)] := by
  refine ACall.of_awpW tok mixed fn113 (Nat.le_of_ble_eq_true rfl) ?_
  (conv => whnf); (repeat' ((first | with_reducible refine Box.mk ?_ | with_reducible refine And.intro (fun _ => ?_) (fun _ => ?_) | ((with_reducible show AYld _ _ _ _ _); refine AYld.of tok mixed ?_) | with_reducible refine (forceH_eq _ _).mpr ?_ | refine ACall.of_pure (by assumption) (by rfl) ?_ | ((with_reducible show Exists _); refine ⟨_, ACall.of_pure (by assumption) (by rfl) ⟨rfl, rfl⟩, ?_⟩) | ((with_reducible show ∃ L, drawR L _ = true ∧ _); refine ⟨[], by kernel_rfl, ?_⟩) | ((with_reducible show _ ∧ _ ∧ _); refine ⟨by omega, by omega, ?_⟩) | fail) <;> conv => whnf))
  refine arange [(2, .ptr 2 0)] ⟨rfl, trivial⟩ rfl trivial ?_
  refine ACall.of_awp tok mixed fn83 (Nat.le_of_ble_eq_true rfl) ?_
  (conv => whnf); (repeat' ((first | with_reducible refine Box.mk ?_ | with_reducible refine And.intro (fun _ => ?_) (fun _ => ?_) | ((with_reducible show AYld _ _ _ _ _); refine AYld.of tok mixed ?_) | with_reducible refine (forceH_eq _ _).mpr ?_ | refine ACall.of_pure (by assumption) (by rfl) ?_ | ((with_reducible show Exists _); refine ⟨_, ACall.of_pure (by assumption) (by rfl) ⟨rfl, rfl⟩, ?_⟩) | ((with_reducible show ∃ L, drawR L _ = true ∧ _); refine ⟨[], by kernel_rfl, ?_⟩) | ((with_reducible show _ ∧ _ ∧ _); refine ⟨by omega, by omega, ?_⟩) | fail) <;> conv => whnf))
  refine aloopH (fun seen : List Nat => seen.Nodup ∧ ∀ b ∈ seen, b < l.length) (fun _ => [(0, .own 3), (5, .own 4)])
    (fun seen H => (H.set 2 (.box 60 [.own 5])).set 4 (.iter (some 0) l.length seen l.length) ++ [.row 34 12 (pcl (prS l seen))]) (fun seen => l.length - seen.length) [] ⟨List.nodup_nil, fun b hb => by cases hb⟩
    (by exact weak_nilrow _ _ (by decide) ⟨.inl rfl, .inl rfl, trivial⟩ ⟨.inl rfl, .inl rfl, .inr ⟨rfl, .inr ⟨rfl, rfl⟩, trivial⟩, .inl rfl, .inl rfl, trivial⟩) ?_
  rintro seen ⟨hn2, hb⟩
  (conv => whnf); (repeat' ((first | with_reducible refine Box.mk ?_ | with_reducible refine And.intro (fun _ => ?_) (fun _ => ?_) | ((with_reducible show AYld _ _ _ _ _); refine AYld.of tok mixed ?_) | with_reducible refine (forceH_eq _ _).mpr ?_ | refine ACall.of_pure (by assumption) (by rfl) ?_ | ((with_reducible show Exists _); refine ⟨_, ACall.of_pure (by assumption) (by rfl) ⟨rfl, rfl⟩, ?_⟩) | ((with_reducible show ∃ L, drawR L _ = true ∧ _); refine ⟨[], by kernel_rfl, ?_⟩) | ((with_reducible show _ ∧ _ ∧ _); refine ⟨by omega, by omega, ?_⟩) | fail) <;> conv => whnf))
  refine ⟨Nat.le_refl _, mes_lt, fun e he hns => ?_, fun hall => ?_⟩
  · obtain ⟨j, hj⟩ := List.getElem?_of_mem he
    obtain ⟨x, hx, rfl⟩ := mes_at hj
    have hjl : j < l.length := (List.getElem?_eq_some_iff.1 hx).1
    obtain ⟨m1, m2, m3⟩ := seen_more hn2 hb hjl hns
    have hps : prS l (seen ++ [j]) = prS l seen ++ [x.1] := by
      unfold prS; rw [List.map_append]; simp [keyAt, hx]
    have hpl : (pcl (prS l seen)).length = seen.length := by rw [pcl_len]; simp [prS]
    (conv => whnf); (repeat' ((first | with_reducible refine Box.mk ?_ | with_reducible refine And.intro (fun _ => ?_) (fun _ => ?_) | ((with_reducible show AYld _ _ _ _ _); refine AYld.of tok mixed ?_) | with_reducible refine (forceH_eq _ _).mpr ?_ | refine ACall.of_pure (by assumption) (by rfl) ?_ | ((with_reducible show Exists _); refine ⟨_, ACall.of_pure (by assumption) (by rfl) ⟨rfl, rfl⟩, ?_⟩) | ((with_reducible show ∃ L, drawR L _ = true ∧ _); refine ⟨[], by kernel_rfl, ?_⟩) | ((with_reducible show _ ∧ _ ∧ _); refine ⟨by omega, by omega, ?_⟩) | fail) <;> conv => whnf))
    refine ⟨rfl, _, he, by simp, ?_⟩
    (conv => whnf); (repeat' ((first | with_reducible refine Box.mk ?_ | with_reducible refine And.intro (fun _ => ?_) (fun _ => ?_) | ((with_reducible show AYld _ _ _ _ _); refine AYld.of tok mixed ?_) | with_reducible refine (forceH_eq _ _).mpr ?_ | refine ACall.of_pure (by assumption) (by rfl) ?_ | ((with_reducible show Exists _); refine ⟨_, ACall.of_pure (by assumption) (by rfl) ⟨rfl, rfl⟩, ?_⟩) | ((with_reducible show ∃ L, drawR L _ = true ∧ _); refine ⟨[], by kernel_rfl, ?_⟩) | ((with_reducible show _ ∧ _ ∧ _); refine ⟨by omega, by omega, ?_⟩) | fail) <;> conv => whnf))
    refine ⟨fun c hc => by rw [List.mem_singleton.1 hc]; exact ⟨rfl, rfl⟩, by rw [hpl]; show (_ + 1) * 112 ≤ _; omega, by rw [hpl]; show _ + 1 ≤ _; omega, ?_⟩
    (conv => whnf); (repeat' ((first | with_reducible refine Box.mk ?_ | with_reducible refine And.intro (fun _ => ?_) (fun _ => ?_) | ((with_reducible show AYld _ _ _ _ _); refine AYld.of tok mixed ?_) | with_reducible refine (forceH_eq _ _).mpr ?_ | refine ACall.of_pure (by assumption) (by rfl) ?_ | ((with_reducible show Exists _); refine ⟨_, ACall.of_pure (by assumption) (by rfl) ⟨rfl, rfl⟩, ?_⟩) | ((with_reducible show ∃ L, drawR L _ = true ∧ _); refine ⟨[], by kernel_rfl, ?_⟩) | ((with_reducible show _ ∧ _ ∧ _); refine ⟨by omega, by omega, ?_⟩) | fail) <;> conv => whnf))
    refine ⟨seen ++ [j], ⟨m1, m2⟩, by simp; omega, weak_ren_to [(0, true), (1, true), (2, true), (3, true), (4, true), (9, true)] rfl rfl ?_ ⟨rfl, rfl, trivial⟩⟩
    rw [hps, ← pcl_snoc]
    rfl
  · have hp2 := seen_perm hn2 hb fun b hbl => by
      have := hall _ (List.mem_of_getElem? (i := b) (by rw [mes_get, List.getElem?_eq_getElem hbl, Option.map_some]))
      rwa [Nat.zero_add] at this
    (conv => whnf); (repeat' ((first | with_reducible refine Box.mk ?_ | with_reducible refine And.intro (fun _ => ?_) (fun _ => ?_) | ((with_reducible show AYld _ _ _ _ _); refine AYld.of tok mixed ?_) | with_reducible refine (forceH_eq _ _).mpr ?_ | refine ACall.of_pure (by assumption) (by rfl) ?_ | ((with_reducible show Exists _); refine ⟨_, ACall.of_pure (by assumption) (by rfl) ⟨rfl, rfl⟩, ?_⟩) | ((with_reducible show ∃ L, drawR L _ = true ∧ _); refine ⟨[], by kernel_rfl, ?_⟩) | ((with_reducible show _ ∧ _ ∧ _); refine ⟨by omega, by omega, ?_⟩) | fail) <;> conv => whnf))
    exact ⟨.own 2, _, weak_ren_to [(0, true), (1, true), (5, true)] rfl rfl rfl ⟨rfl, trivial⟩, prS l seen, prS_all hp2, rfl, rfl⟩
theorem seqU_ok (l : Ml) (hl : l.length ≤ 34359738368) : ACall P 113 [.nils, .fn 90 [.ptr 1 0]] (KH u64V 92 l) fun r H' =>
    ∃ k : List Px, k.Perm (keysM l) ∧ r = .own 2 ∧ H' = KH u64V 92 l ++ [.row 34 12 (pcl k)] := by
  refine ACall.of_awpW tok mixed fn113 (Nat.le_of_ble_eq_true rfl) ?_
  (conv => whnf); (repeat' ((first | with_reducible refine Box.mk ?_ | with_reducible refine And.intro (fun _ => ?_) (fun _ => ?_) | ((with_reducible show AYld _ _ _ _ _); refine AYld.of tok mixed ?_) | with_reducible refine (forceH_eq _ _).mpr ?_ | refine ACall.of_pure (by assumption) (by rfl) ?_ | ((with_reducible show Exists _); refine ⟨_, ACall.of_pure (by assumption) (by rfl) ⟨rfl, rfl⟩, ?_⟩) | ((with_reducible show ∃ L, drawR L _ = true ∧ _); refine ⟨[], by kernel_rfl, ?_⟩) | ((with_reducible show _ ∧ _ ∧ _); refine ⟨by omega, by omega, ?_⟩) | fail) <;> conv => whnf))
  refine arange [(2, .ptr 2 0)] ⟨rfl, trivial⟩ rfl trivial ?_
  refine ACall.of_awp tok mixed fn90 (Nat.le_of_ble_eq_true rfl) ?_
  (conv => whnf); (repeat' ((first | with_reducible refine Box.mk ?_ | with_reducible refine And.intro (fun _ => ?_) (fun _ => ?_) | ((with_reducible show AYld _ _ _ _ _); refine AYld.of tok mixed ?_) | with_reducible refine (forceH_eq _ _).mpr ?_ | refine ACall.of_pure (by assumption) (by rfl) ?_ | ((with_reducible show Exists _); refine ⟨_, ACall.of_pure (by assumption) (by rfl) ⟨rfl, rfl⟩, ?_⟩) | ((with_reducible show ∃ L, drawR L _ = true ∧ _); refine ⟨[], by kernel_rfl, ?_⟩) | ((with_reducible show _ ∧ _ ∧ _); refine ⟨by omega, by omega, ?_⟩) | fail) <;> conv => whnf))
  refine aloopH (fun seen : List Nat => seen.Nodup ∧ ∀ b ∈ seen, b < l.length) (fun _ => [(0, .own 3), (5, .own 4)])
    (fun seen H => (H.set 2 (.box 60 [.own 5])).set 4 (.iter (some 0) l.length seen l.length) ++ [.row 34 12 (pcl (prS l seen))]) (fun seen => l.length - seen.length) [] ⟨List.nodup_nil, fun b hb => by cases hb⟩
    (by exact weak_nilrow _ _ (by decide) ⟨.inl rfl, .inl rfl, trivial⟩ ⟨.inl rfl, .inl rfl, .inr ⟨rfl, .inr ⟨rfl, rfl⟩, trivial⟩, .inl rfl, .inl rfl, trivial⟩) ?_
  rintro seen ⟨hn2, hb⟩
  (conv => whnf); (repeat' ((first | with_reducible refine Box.mk ?_ | with_reducible refine And.intro (fun _ => ?_) (fun _ => ?_) | ((with_reducible show AYld _ _ _ _ _); refine AYld.of tok mixed ?_) | with_reducible refine (forceH_eq _ _).mpr ?_ | refine ACall.of_pure (by assumption) (by rfl) ?_ | ((with_reducible show Exists _); refine ⟨_, ACall.of_pure (by assumption) (by rfl) ⟨rfl, rfl⟩, ?_⟩) | ((with_reducible show ∃ L, drawR L _ = true ∧ _); refine ⟨[], by kernel_rfl, ?_⟩) | ((with_reducible show _ ∧ _ ∧ _); refine ⟨by omega, by omega, ?_⟩) | fail) <;> conv => whnf))
  refine ⟨Nat.le_refl _, mes_lt, fun e he hns => ?_, fun hall => ?_⟩
  · obtain ⟨j, hj⟩ := List.getElem?_of_mem he
    obtain ⟨x, hx, rfl⟩ := mes_at hj
    have hjl : j < l.length := (List.getElem?_eq_some_iff.1 hx).1
    obtain ⟨m1, m2, m3⟩ := seen_more hn2 hb hjl hns
    have hps : prS l (seen ++ [j]) = prS l seen ++ [x.1] := by
      unfold prS; rw [List.map_append]; simp [keyAt, hx]
    have hpl : (pcl (prS l seen)).length = seen.length := by rw [pcl_len]; simp [prS]
    (conv => whnf); (repeat' ((first | with_reducible refine Box.mk ?_ | with_reducible refine And.intro (fun _ => ?_) (fun _ => ?_) | ((with_reducible show AYld _ _ _ _ _); refine AYld.of tok mixed ?_) | with_reducible refine (forceH_eq _ _).mpr ?_ | refine ACall.of_pure (by assumption) (by rfl) ?_ | ((with_reducible show Exists _); refine ⟨_, ACall.of_pure (by assumption) (by rfl) ⟨rfl, rfl⟩, ?_⟩) | ((with_reducible show ∃ L, drawR L _ = true ∧ _); refine ⟨[], by kernel_rfl, ?_⟩) | ((with_reducible show _ ∧ _ ∧ _); refine ⟨by omega, by omega, ?_⟩) | fail) <;> conv => whnf))
    refine ⟨rfl, _, he, by simp, ?_⟩
    (conv => whnf); (repeat' ((first | with_reducible refine Box.mk ?_ | with_reducible refine And.intro (fun _ => ?_) (fun _ => ?_) | ((with_reducible show AYld _ _ _ _ _); refine AYld.of tok mixed ?_) | with_reducible refine (forceH_eq _ _).mpr ?_ | refine ACall.of_pure (by assumption) (by rfl) ?_ | ((with_reducible show Exists _); refine ⟨_, ACall.of_pure (by assumption) (by rfl) ⟨rfl, rfl⟩, ?_⟩) | ((with_reducible show ∃ L, drawR L _ = true ∧ _); refine ⟨[], by kernel_rfl, ?_⟩) | ((with_reducible show _ ∧ _ ∧ _); refine ⟨by omega, by omega, ?_⟩) | fail) <;> conv => whnf))
    refine ⟨fun c hc => by rw [List.mem_singleton.1 hc]; exact ⟨rfl, rfl⟩, by rw [hpl]; show (_ + 1) * 112 ≤ _; omega, by rw [hpl]; show _ + 1 ≤ _; omega, ?_⟩
    (conv => whnf); (repeat' ((first | with_reducible refine Box.mk ?_ | with_reducible refine And.intro (fun _ => ?_) (fun _ => ?_) | ((with_reducible show AYld _ _ _ _ _); refine AYld.of tok mixed ?_) | with_reducible refine (forceH_eq _ _).mpr ?_ | refine ACall.of_pure (by assumption) (by rfl) ?_ | ((with_reducible show Exists _); refine ⟨_, ACall.of_pure (by assumption) (by rfl) ⟨rfl, rfl⟩, ?_⟩) | ((with_reducible show ∃ L, drawR L _ = true ∧ _); refine ⟨[], by kernel_rfl, ?_⟩) | ((with_reducible show _ ∧ _ ∧ _); refine ⟨by omega, by omega, ?_⟩) | fail) <;> conv => whnf))
    refine ⟨seen ++ [j], ⟨m1, m2⟩, by simp; omega, weak_ren_to [(0, true), (1, true), (2, true), (3, true), (4, true), (9, true)] rfl rfl ?_ ⟨rfl, rfl, trivial⟩⟩
    rw [hps, ← pcl_snoc]
    rfl
  · have hp2 := seen_perm hn2 hb fun b hbl => by
      have := hall _ (List.mem_of_getElem? (i := b) (by rw [mes_get, List.getElem?_eq_getElem hbl, Option.map_some]))
      rwa [Nat.zero_add] at this
    (conv => whnf); (repeat' ((first | with_reducible refine Box.mk ?_ | with_reducible refine And.intro (fun _ => ?_) (fun _ => ?_) | ((with_reducible show AYld _ _ _ _ _); refine AYld.of tok mixed ?_) | with_reducible refine (forceH_eq _ _).mpr ?_ | refine ACall.of_pure (by assumption) (by rfl) ?_ | ((with_reducible show Exists _); refine ⟨_, ACall.of_pure (by assumption) (by rfl) ⟨rfl, rfl⟩, ?_⟩) | ((with_reducible show ∃ L, drawR L _ = true ∧ _); refine ⟨[], by kernel_rfl, ?_⟩) | ((with_reducible show _ ∧ _ ∧ _); refine ⟨by omega, by omega, ?_⟩) | fail) <;> conv => whnf))
    exact ⟨.own 2, _, weak_ren_to [(0, true), (1, true), (5, true)] rfl rfl rfl ⟨rfl, trivial⟩, prS l seen, prS_all hp2, rfl, rfl⟩
/-- The keys of a map, in order. -/
theorem sortedF_ok {c : Px → Px → Int} {g : FuncId} (hc : ∀ x y, @PCall told P g [pxv x, pxv y] (.int .i64 (c x y))) (hT : TO c) (h0 : ∀ x y, c x y = 0 → x = y) {v : Nat → AV} {tm k1 : Nat} {l : Ml} (hn : (keysM l).Nodup) (hl : l.length ≤ 34359738368)
    (hseq : ACall P 113 [.nils, .fn k1 [.ptr 1 0]] (KH v tm l) fun r H' => ∃ k : List Px, k.Perm (keysM l) ∧ r = .own 2 ∧ H' = KH v tm l ++ [.row 34 12 (pcl k)]) :
    DCall P 51 [.fn k1 [.ptr 1 0], .fn g []] (KH v tm l) (.sl (pcl (srt c (keysM l)))) (KH v tm l) := by
  have hcol : ACall P 81 [.fn k1 [.ptr 1 0]] (KH v tm l) fun r H' => ∃ k : List Px, k.Perm (keysM l) ∧ r = .own 2 ∧ H' = KH v tm l ++ [.row 34 12 (pcl k)] := by
    refine ACall.of_awp tok mixed fn81 (Nat.le_of_ble_eq_true rfl) ?_
    (conv => whnf); (repeat' ((first | with_reducible refine Box.mk ?_ | with_reducible refine And.intro (fun _ => ?_) (fun _ => ?_) | ((with_reducible show AYld _ _ _ _ _); refine AYld.of tok mixed ?_) | with_reducible refine (forceH_eq _ _).mpr ?_ | refine ACall.of_pure (by assumption) (by rfl) ?_ | ((with_reducible show Exists _); refine ⟨_, ACall.of_pure (by assumption) (by rfl) ⟨rfl, rfl⟩, ?_⟩) | ((with_reducible show ∃ L, drawR L _ = true ∧ _); refine ⟨[], by kernel_rfl, ?_⟩) | ((with_reducible show _ ∧ _ ∧ _); refine ⟨by omega, by omega, ?_⟩) | fail) <;> conv => whnf))
    refine hseq.mono ?_
    rintro r H' ⟨k, hk, rfl, rfl⟩
    (conv => whnf); (repeat' ((first | with_reducible refine Box.mk ?_ | with_reducible refine And.intro (fun _ => ?_) (fun _ => ?_) | ((with_reducible show AYld _ _ _ _ _); refine AYld.of tok mixed ?_) | with_reducible refine (forceH_eq _ _).mpr ?_ | refine ACall.of_pure (by assumption) (by rfl) ?_ | ((with_reducible show Exists _); refine ⟨_, ACall.of_pure (by assumption) (by rfl) ⟨rfl, rfl⟩, ?_⟩) | ((with_reducible show ∃ L, drawR L _ = true ∧ _); refine ⟨[], by kernel_rfl, ?_⟩) | ((with_reducible show _ ∧ _ ∧ _); refine ⟨by omega, by omega, ?_⟩) | fail) <;> conv => whnf))
    exact ⟨k, hk, rfl, rfl⟩
  refine DCall.of_awp tok mixed fn51 (Nat.le_of_ble_eq_true rfl) ?_
  (conv => whnf); (repeat' ((first | with_reducible refine Box.mk ?_ | with_reducible refine And.intro (fun _ => ?_) (fun _ => ?_) | ((with_reducible show AYld _ _ _ _ _); refine AYld.of tok mixed ?_) | with_reducible refine (forceH_eq _ _).mpr ?_ | refine ACall.of_pure (by assumption) (by rfl) ?_ | ((with_reducible show Exists _); refine ⟨_, ACall.of_pure (by assumption) (by rfl) ⟨rfl, rfl⟩, ?_⟩) | ((with_reducible show ∃ L, drawR L _ = true ∧ _); refine ⟨[], by kernel_rfl, ?_⟩) | ((with_reducible show _ ∧ _ ∧ _); refine ⟨by omega, by omega, ?_⟩) | fail) <;> conv => whnf))
  refine hcol.mono ?_
  rintro r H' ⟨k, hk, rfl, rfl⟩
  have e := srt_of_perm hT h0 hn hk
  have hkl : k.length = l.length := by rw [hk.length_eq, keysM, List.length_map]
  rw [← e]
  (conv => whnf); (repeat' ((first | with_reducible refine Box.mk ?_ | with_reducible refine And.intro (fun _ => ?_) (fun _ => ?_) | ((with_reducible show AYld _ _ _ _ _); refine AYld.of tok mixed ?_) | with_reducible refine (forceH_eq _ _).mpr ?_ | refine ACall.of_pure (by assumption) (by rfl) ?_ | ((with_reducible show Exists _); refine ⟨_, ACall.of_pure (by assumption) (by rfl) ⟨rfl, rfl⟩, ?_⟩) | ((with_reducible show ∃ L, drawR L _ = true ∧ _); refine ⟨[], by kernel_rfl, ?_⟩) | ((with_reducible show _ ∧ _ ∧ _); refine ⟨by omega, by omega, ?_⟩) | fail) <;> conv => whnf))
  refine aW [2] (sortF_ok hc hT h0 k (by omega)) rfl rfl rfl ?_
  (conv => whnf); (repeat' ((first | with_reducible refine Box.mk ?_ | with_reducible refine And.intro (fun _ => ?_) (fun _ => ?_) | ((with_reducible show AYld _ _ _ _ _); refine AYld.of tok mixed ?_) | with_reducible refine (forceH_eq _ _).mpr ?_ | refine ACall.of_pure (by assumption) (by rfl) ?_ | ((with_reducible show Exists _); refine ⟨_, ACall.of_pure (by assumption) (by rfl) ⟨rfl, rfl⟩, ?_⟩) | ((with_reducible show ∃ L, drawR L _ = true ∧ _); refine ⟨[], by kernel_rfl, ?_⟩) | ((with_reducible show _ ∧ _ ∧ _); refine ⟨by omega, by omega, ?_⟩) | fail) <;> conv => whnf))
  exact weak_cr 2 [(0, true), (1, true)] rfl rfl rfl rfl rfl
end Go.Proofs.YtgaohmfmomeflaaGreatDoor
end

section
/- model: Loads. -/
namespace Go.Proofs.YtgaohmfmomeflaaGreatDoor
open Go.Ve

def lcs (x : Px × Nat) : List AV := [.int .i64 x.1.a0, .int .i64 x.1.a1, .int .i64 x.1.k0.kind, .int .i64 x.1.k0.len, .int .u64 ((x.1.k0.n / H64 : Nat) : Int), .int .u64 ((x.1.k0.n % H64 : Nat) : Int), .str x.1.k0.path,
  .int .i64 x.1.k1.kind, .int .i64 x.1.k1.len, .int .u64 ((x.1.k1.n / H64 : Nat) : Int), .int .u64 ((x.1.k1.n % H64 : Nat) : Int), .str x.1.k1.path, .int .u64 (x.2 : Int)]
def lcl (l : Ml) : List (List AV) := l.map lcs
theorem lcl_len (l : Ml) : (lcl l).length = l.length := by simp [lcl]
theorem lcl_get (l : Ml) (i : Nat) : (lcl l)[i]? = (l[i]?).map lcs := by simp [lcl]
theorem lcl_snoc (l : Ml) (x : Px × Nat) : lcl l ++ [lcs x] = lcl (l ++ [x]) := by simp [lcl]
/-- What has been told, so far. -/
def accM (l : Ml) (k : List Px) (i : Nat) : Ml := ((k.take i).filter fun p => decide (0 < look l p)).map fun p => (p, look l p)
theorem accM_len (l : Ml) (k : List Px) (i : Nat) : (accM l k i).length ≤ i := by
  unfold accM
  rw [List.length_map]
  exact Nat.le_trans (List.length_filter_le _ _) (by rw [List.length_take]; omega)
theorem accM_step {l : Ml} {k : List Px} {i : Nat} {p : Px} (h : k[i]? = some p) : accM l k (i + 1) = accM l k i ++ (if 0 < look l p then [(p, look l p)] else []) := by
  unfold accM
  rw [List.take_add_one, h, List.filter_append, List.map_append]
  congr 1
  by_cases hp : 0 < look l p
  · rw [if_pos hp]; simp [hp]
  · rw [if_neg hp]; simp; omega
theorem loads_ok (s : Sp) (l : Ml) (hI : MI s l) : DCall P 29 [.ptr 0 0] (MH s l) (.sl (lcl (loadsM l))) (MH s l) := by
  have q1 := made_ok s l
  have ht := hI.tot
  have hl := hI.len
  have q3 := sortedF_ok (c := cmpP) (g := 59) (fun x y => @pCmp_ok told x y) to_cmpP (fun _ _ h => cmpP_zero.1 h) hI.nodup (by omega) (seqU_ok l (by omega))
  have hfull : accM l (srt cmpP (keysM l)) (srt cmpP (keysM l)).length = loadsM l := by
    unfold accM; rw [List.take_length]; rfl
  have hkl : (srt cmpP (keysM l)).length = l.length := by rw [srt_len, keysM, List.length_map]
  have hmem : ∀ p ∈ srt cmpP (keysM l), p ∈ keysM l := fun p hp => srt_mem.1 hp
  rw [← hfull]
  generalize srt cmpP (keysM l) = k at *
  have hkc := pcl_len k
  refine DCall.of_awp tok mixed fn29 (Nat.le_of_ble_eq_true rfl) ?_
  (conv => whnf); (repeat' ((first | (with_reducible first | refine Box.mk ?_ | refine And.intro (fun _ => ?_) (fun _ => ?_) | refine (forceH_eq _ _).mpr ?_) | refine ACall.of_pure (by assumption) (by rfl) ?_ | ((with_reducible show Exists _); refine ⟨_, ACall.of_pure (by assumption) (by rfl) ⟨rfl, rfl⟩, ?_⟩) | ((with_reducible show ∃ L, drawR L _ = true ∧ _); refine ⟨[], by kernel_rfl, ?_⟩) | ((with_reducible show _ ∧ _ ∧ _); refine ⟨by omega, by omega, ?_⟩) | fail) <;> conv => whnf))
  refine aW [0, 1] q1 rfl rfl rfl ?_
  (conv => whnf); (repeat' ((first | (with_reducible first | refine Box.mk ?_ | refine And.intro (fun _ => ?_) (fun _ => ?_) | refine (forceH_eq _ _).mpr ?_) | refine ACall.of_pure (by assumption) (by rfl) ?_ | ((with_reducible show Exists _); refine ⟨_, ACall.of_pure (by assumption) (by rfl) ⟨rfl, rfl⟩, ?_⟩) | ((with_reducible show ∃ L, drawR L _ = true ∧ _); refine ⟨[], by kernel_rfl, ?_⟩) | ((with_reducible show _ ∧ _ ∧ _); refine ⟨by omega, by omega, ?_⟩) | fail) <;> conv => whnf))
  refine aW [1] (keysU_fn l) rfl rfl rfl ?_
  (conv => whnf); (repeat' ((first | (with_reducible first | refine Box.mk ?_ | refine And.intro (fun _ => ?_) (fun _ => ?_) | refine (forceH_eq _ _).mpr ?_) | refine ACall.of_pure (by assumption) (by rfl) ?_ | ((with_reducible show Exists _); refine ⟨_, ACall.of_pure (by assumption) (by rfl) ⟨rfl, rfl⟩, ?_⟩) | ((with_reducible show ∃ L, drawR L _ = true ∧ _); refine ⟨[], by kernel_rfl, ?_⟩) | ((with_reducible show _ ∧ _ ∧ _); refine ⟨by omega, by omega, ?_⟩) | fail) <;> conv => whnf))
  refine aW [1, 2] q3 rfl rfl rfl ?_
  (conv => whnf); (repeat' ((first | (with_reducible first | refine Box.mk ?_ | refine And.intro (fun _ => ?_) (fun _ => ?_) | refine (forceH_eq _ _).mpr ?_) | refine ACall.of_pure (by assumption) (by rfl) ?_ | ((with_reducible show Exists _); refine ⟨_, ACall.of_pure (by assumption) (by rfl) ⟨rfl, rfl⟩, ?_⟩) | ((with_reducible show ∃ L, drawR L _ = true ∧ _); refine ⟨[], by kernel_rfl, ?_⟩) | ((with_reducible show _ ∧ _ ∧ _); refine ⟨by omega, by omega, ?_⟩) | fail) <;> conv => whnf))
  refine aloop (fun i : Nat => i ≤ k.length) (fun i => ⟨envL [(0, .ptr 0 0), (3, .own 3), (15, .sl (pcl k)), (16, .int .i64 ((pcl k).length : Int)), (17, .int .i64 (i : Int))], (MH s l ++ [Ob.box 92 [.own 1]]) ++ [.row 46 13 (lcl (accM l k i))]⟩) (fun i => k.length - i) 0 (Nat.zero_le _) ?_ ?_
  · exact (weak_to (l := [(0, .ptr 0 0), (3, .nils), (15, .sl (pcl k)), (16, .int .i64 ((pcl k).length : Int)), (17, .int .i64 0)]) (H := MH s l ++ [Ob.box 92 [.own 1]]) ⟨rfl, rfl, rfl, rfl, rfl, trivial⟩ rfl).trans (weak_nilrow (s := ⟨envL [(0, .ptr 0 0), (3, .nils), (15, .sl (pcl k)), (16, .int .i64 ((pcl k).length : Int)), (17, .int .i64 0)], MH s l ++ [Ob.box 92 [.own 1]]⟩) (l := [(0, .ptr 0 0), (3, .own 3), (15, .sl (pcl k)), (16, .int .i64 ((pcl k).length : Int)), (17, .int .i64 0)]) (H' := MH s l ++ [Ob.box 92 [.own 1]]) 46 13 (by decide) ⟨.inl rfl, .inr ⟨rfl, rfl⟩, .inl rfl, .inl rfl, .inl rfl, trivial⟩ ⟨.inl rfl, .inl rfl, .inl rfl, trivial⟩)
  intro i hi
  have hal := accM_len l k i
  have hll := lcl_len (accM l k i)
  (conv => whnf); (repeat' ((first | (with_reducible first | refine Box.mk ?_ | refine And.intro (fun _ => ?_) (fun _ => ?_) | refine (forceH_eq _ _).mpr ?_) | refine ACall.of_pure (by assumption) (by rfl) ?_ | ((with_reducible show Exists _); refine ⟨_, ACall.of_pure (by assumption) (by rfl) ⟨rfl, rfl⟩, ?_⟩) | ((with_reducible show ∃ L, drawR L _ = true ∧ _); refine ⟨[], by kernel_rfl, ?_⟩) | ((with_reducible show _ ∧ _ ∧ _); refine ⟨by omega, by omega, ?_⟩) | fail) <;> conv => whnf))
  · rename_i hlt
    have hlt : i < k.length := by rw [hkc] at hlt; omega
    have hp := List.getElem?_eq_getElem hlt
    have hst := accM_step (l := l) hp
    have hpm := hmem _ (List.mem_of_getElem? hp)
    generalize k[i] = p at *
    obtain ⟨x, hx, hxp⟩ := List.mem_map.1 hpm
    obtain ⟨j, hj⟩ := List.getElem?_of_mem hx
    have hlx : look l p = x.2 := by rw [← hxp]; exact look_mem hI.nodup hx
    refine ⟨by omega, pcs p, by rw [Int.toNat_natCast, pcl_get, hp]; rfl, rfl, ?_⟩
    (conv => whnf); (repeat' ((first | (with_reducible first | refine Box.mk ?_ | refine And.intro (fun _ => ?_) (fun _ => ?_) | refine (forceH_eq _ _).mpr ?_) | refine ACall.of_pure (by assumption) (by rfl) ?_ | ((with_reducible show Exists _); refine ⟨_, ACall.of_pure (by assumption) (by rfl) ⟨rfl, rfl⟩, ?_⟩) | ((with_reducible show ∃ L, drawR L _ = true ∧ _); refine ⟨[], by kernel_rfl, ?_⟩) | ((with_reducible show _ ∧ _ ∧ _); refine ⟨by omega, by omega, ?_⟩) | fail) <;> conv => whnf))
    refine ⟨mes_ok hI.nodup, at_yes rfl hI.nodup hj (by rw [hxp]; rfl) ?_⟩
    (conv => whnf); (repeat' ((first | (with_reducible first | refine Box.mk ?_ | refine And.intro (fun _ => ?_) (fun _ => ?_) | refine (forceH_eq _ _).mpr ?_) | refine ACall.of_pure (by assumption) (by rfl) ?_ | ((with_reducible show Exists _); refine ⟨_, ACall.of_pure (by assumption) (by rfl) ⟨rfl, rfl⟩, ?_⟩) | ((with_reducible show ∃ L, drawR L _ = true ∧ _); refine ⟨[], by kernel_rfl, ?_⟩) | ((with_reducible show _ ∧ _ ∧ _); refine ⟨by omega, by omega, ?_⟩) | fail) <;> conv => whnf))
    · rename_i hpos
      have hpos : 0 < look l p := by rw [hlx]; have : (0 : Int) < (x.2 : Int) := hpos; omega
      rw [if_pos hpos] at hst
      refine ⟨fun c hc => by rw [List.mem_singleton.1 hc]; exact ⟨rfl, rfl⟩, by rw [hll]; show (_ + 1) * 120 ≤ _; omega, by rw [hll]; show _ + 1 ≤ _; omega, ?_⟩
      (conv => whnf); (repeat' ((first | (with_reducible first | refine Box.mk ?_ | refine And.intro (fun _ => ?_) (fun _ => ?_) | refine (forceH_eq _ _).mpr ?_) | refine ACall.of_pure (by assumption) (by rfl) ?_ | ((with_reducible show Exists _); refine ⟨_, ACall.of_pure (by assumption) (by rfl) ⟨rfl, rfl⟩, ?_⟩) | ((with_reducible show ∃ L, drawR L _ = true ∧ _); refine ⟨[], by kernel_rfl, ?_⟩) | ((with_reducible show _ ∧ _ ∧ _); refine ⟨by omega, by omega, ?_⟩) | fail) <;> conv => whnf))
      refine ⟨i + 1, hlt, by omega, weak_ren_to [(0, true), (1, true), (2, true), (6, true)] rfl rfl ?_ ⟨rfl, rfl, rfl, rfl, wrap_nat (m := 1) (by omega), trivial⟩⟩
      rw [hst, ← lcl_snoc, hlx]
      rfl
    · rename_i hpos
      have hpos : ¬ 0 < look l p := by rw [hlx]; have : ¬ (0 : Int) < (x.2 : Int) := hpos; omega
      rw [if_neg hpos, List.append_nil] at hst
      refine ⟨i + 1, hlt, by omega, weak_ren_to [(0, true), (1, true), (2, true), (3, true)] rfl rfl ?_ ⟨rfl, rfl, rfl, rfl, wrap_nat (m := 1) (by omega), trivial⟩⟩
      rw [hst]
      rfl
  · rename_i hlt
    have : i = k.length := by rw [hkc] at hlt; omega
    subst this
    exact weak_cr 3 [(0, true), (1, true)] rfl rfl rfl rfl rfl
end Go.Proofs.YtgaohmfmomeflaaGreatDoor
end

section
/- prefix: arguments read as data. -/
namespace Go.Proofs.YtgaohmfmomeflaaGreatDoor
open Go.Ve

theorem dim_wf {B : Nat} {xs : List AV} (h : Wf ty B 23 xs) : ∃ d : Dm, xs = [.int .i64 d.kind, .int .i64 d.side, .int .i64 d.step] := by
  have h0 := h.struct_inv rfl
  obtain ⟨x1, r1, rfl, hk, h1⟩ := h0.cons_inv
  obtain ⟨x2, r2, rfl, hl, h2⟩ := h1.cons_inv
  obtain ⟨x3, r3, rfl, ha, h3⟩ := h2.cons_inv
  obtain rfl := h3.nil_inv
  obtain ⟨a, rfl, _⟩ := hk.int_inv rfl
  obtain ⟨b, rfl, _⟩ := hl.int_inv rfl
  obtain ⟨c, rfl, _⟩ := ha.int_inv rfl
  exact ⟨⟨a, b, c⟩, rfl⟩
theorem space_inv {B : Nat} {x : AV} (h : WfV ty B 26 x) : ∃ s : Sp, x = spv s := by
  obtain ⟨xs, rfl, h0⟩ := h.struct_inv rfl
  obtain ⟨x1, r1, rfl, hk, h1⟩ := h0.cons_inv
  obtain ⟨x2, r2, rfl, hl, h2⟩ := h1.cons_inv
  obtain rfl := h2.nil_inv
  obtain ⟨n, rfl, _⟩ := hk.int_inv rfl
  have h3 := hl.arr_inv (n := 2) rfl
  obtain ⟨y1, q1, rfl, g1, h4⟩ := h3.cons_inv
  obtain ⟨y2, q2, rfl, g2, h5⟩ := h4.cons_inv
  obtain rfl := h5.nil_inv
  obtain ⟨d0, rfl⟩ := dim_wf g1
  obtain ⟨d1, rfl⟩ := dim_wf g2
  exact ⟨⟨n, d0, d1⟩, rfl⟩
theorem prefix_inv {x : AV} (h : WfV ty 1048576 34 x) : ∃ p : Px, x = pxv p ∧ POk p := by
  obtain ⟨xs, rfl, h0⟩ := h.struct_inv rfl
  obtain ⟨x1, r1, rfl, hk, h1⟩ := h0.cons_inv
  obtain ⟨x2, r2, rfl, hl, h2⟩ := h1.cons_inv
  obtain rfl := h2.nil_inv
  have h3 := hk.arr_inv (n := 2) rfl
  obtain ⟨y1, q1, rfl, g1, h4⟩ := h3.cons_inv
  obtain ⟨y2, q2, rfl, g2, h5⟩ := h4.cons_inv
  obtain rfl := h5.nil_inv
  obtain ⟨a0, rfl, _⟩ := g1.int_inv rfl
  obtain ⟨a1, rfl, _⟩ := g2.int_inv rfl
  have h6 := hl.arr_inv (n := 2) rfl
  obtain ⟨z1, s1, rfl, k1, h7⟩ := h6.cons_inv
  obtain ⟨z2, s2, rfl, k2, h8⟩ := h7.cons_inv
  obtain rfl := h8.nil_inv
  obtain ⟨k0, rfl, m0⟩ := key_wf k1
  obtain ⟨k1, rfl, m1⟩ := key_wf k2
  exact ⟨⟨a0, a1, k0, k1⟩, rfl, m0.n, m1.n, m0.path, m1.path⟩
end Go.Proofs.YtgaohmfmomeflaaGreatDoor
end

section
/- model: arguments read as data. -/
namespace Go.Proofs.YtgaohmfmomeflaaGreatDoor
open Go.Ve

theorem prefix_wf {xs : List AV} (h : Wf ty 1048576 34 xs) : ∃ p : Px, xs = pcs p ∧ POk p := by
  have h0 := h.struct_inv rfl
  obtain ⟨x1, r1, rfl, hk, h1⟩ := h0.cons_inv
  obtain ⟨x2, r2, rfl, hl, h2⟩ := h1.cons_inv
  obtain rfl := h2.nil_inv
  have h3 := hk.arr_inv (n := 2) rfl
  obtain ⟨y1, q1, rfl, g1, h4⟩ := h3.cons_inv
  obtain ⟨y2, q2, rfl, g2, h5⟩ := h4.cons_inv
  obtain rfl := h5.nil_inv
  obtain ⟨a0, rfl, _⟩ := g1.int_inv rfl
  obtain ⟨a1, rfl, _⟩ := g2.int_inv rfl
  have h6 := hl.arr_inv (n := 2) rfl
  obtain ⟨z1, s1, rfl, k1, h7⟩ := h6.cons_inv
  obtain ⟨z2, s2, rfl, k2, h8⟩ := h7.cons_inv
  obtain rfl := h8.nil_inv
  obtain ⟨k0, rfl, m0⟩ := key_wf k1
  obtain ⟨k1, rfl, m1⟩ := key_wf k2
  exact ⟨⟨a0, a1, k0, k1⟩, rfl, m0.n, m1.n, m0.path, m1.path⟩
theorem load_wf {xs : List AV} (h : Wf ty 1048576 46 xs) : ∃ x : Px × Nat, xs = lcs x ∧ POk x.1 := by
  have h0 := h.struct_inv rfl
  obtain ⟨x1, r1, rfl, g1, h1⟩ := h0.cons_inv
  obtain ⟨x2, r2, rfl, g2, h2⟩ := h1.cons_inv
  obtain rfl := h2.nil_inv
  obtain ⟨p, rfl, hp⟩ := prefix_wf g1
  obtain ⟨n, rfl, hn⟩ := g2.int_inv rfl
  obtain ⟨m, rfl, _⟩ := u64_lit hn
  exact ⟨(p, m), rfl, hp⟩
end Go.Proofs.YtgaohmfmomeflaaGreatDoor
end

section
/- model, plain laws: a list that is kept in order. -/
namespace Go.Proofs.YtgaohmfmomeflaaGreatDoor
open Go.Ve

abbrev cmpL (x y : Px × Nat) : Int := cmpP x.1 y.1
theorem to_cmpL : TO cmpL := to_cmpP.comap Prod.fst
theorem loadsM_ord {l : Ml} (hn : (keysM l).Nodup) : Ord cmpL (loadsM l) := by
  unfold loadsM Ord
  rw [List.pairwise_map]
  exact heavyK_ord hn
/-- One more, in its place. -/
def insM : Ml → Px × Nat → Ml
  | [], x => [x]
  | y :: r, x => if cmpP y.1 x.1 < 0 then y :: insM r x else x :: y :: r
theorem insM_at : ∀ {l : Ml} {x : Px × Nat} {i : Nat}, i ≤ l.length → (∀ j y, j < i → l[j]? = some y → cmpP y.1 x.1 < 0) → (∀ y, l[i]? = some y → ¬ cmpP y.1 x.1 < 0) → l.take i ++ x :: l.drop i = insM l x
  | [], x, i, hi, _, _ => by simp [insM]
  | y :: r, x, 0, _, _, h2 => by
    rw [insM, if_neg (h2 y rfl)]; rfl
  | y :: r, x, i + 1, hi, h1, h2 => by
    rw [insM, if_pos (h1 0 y (Nat.succ_pos _) rfl), List.take_succ_cons, List.drop_succ_cons, List.cons_append]
    rw [insM_at (l := r) (x := x) (i := i) (by simpa using hi) (fun j z hj hz => h1 (j + 1) z (by omega) (by simpa using hz)) (fun z hz => h2 z (by simpa using hz))]
theorem insM_mem {y x : Px × Nat} : ∀ {l : Ml}, y ∈ insM l x ↔ y = x ∨ y ∈ l
  | [] => by simp [insM]
  | z :: r => by
    rw [insM]
    split
    · rw [List.mem_cons, insM_mem (l := r), List.mem_cons]
      constructor
      · rintro (h | h | h)
        · exact .inr (.inl h)
        · exact .inl h
        · exact .inr (.inr h)
      · rintro (h | h | h)
        · exact .inr (.inl h)
        · exact .inl h
        · exact .inr (.inr h)
    · rw [List.mem_cons]
theorem insM_ord {x : Px × Nat} : ∀ {l : Ml}, Ord cmpL l → (∀ y ∈ l, y.1 ≠ x.1) → Ord cmpL (insM l x)
  | [], _, _ => List.pairwise_singleton _ _
  | z :: r, ho, hne => by
    have h1 := List.pairwise_cons.1 ho
    rw [insM]
    split
    · rename_i hlt
      refine List.pairwise_cons.2 ⟨fun y hy => ?_, insM_ord (l := r) h1.2 fun y hy => hne y (List.mem_cons_of_mem _ hy)⟩
      rcases insM_mem.1 hy with rfl | hy
      · exact hlt
      · exact h1.1 y hy
    · rename_i hge
      have hz : cmpP x.1 z.1 < 0 := by
        have k1 := to_cmpP.neg x.1 z.1
        have k2 : cmpP z.1 x.1 ≠ 0 := fun e => hne z List.mem_cons_self (cmpP_zero.1 e)
        omega
      refine List.pairwise_cons.2 ⟨fun y hy => ?_, ho⟩
      rcases List.mem_cons.1 hy with rfl | hy
      · exact hz
      · have k3 : cmpP z.1 y.1 < 0 := h1.1 y hy
        have k4 := to_cmpP.tr x.1 z.1 y.1 (by omega) (by omega)
        have k5 : cmpP x.1 y.1 ≠ 0 := fun e => by
          have e1 := cmpP_zero.1 e
          have k1 := to_cmpP.neg x.1 z.1
          rw [e1] at k1 hz; omega
        show cmpP x.1 y.1 < 0
        omega
theorem loadsM_ne {m : Ml} {p : Px} (h : look m p = 0) : ∀ y ∈ loadsM m, y.1 ≠ p := fun y hy e => by
  have := loadsM_mem.1 hy
  rw [e, h] at this; omega
theorem add_new {m : Ml} (hn : (keysM m).Nodup) {p : Px} {w : Nat} (h : look m p = 0) (hw : 0 < w) : insM (loadsM m) (p, w) = loadsM (addM m p w) := by
  refine (insM_ord (loadsM_ord hn) (loadsM_ne h)).ext to_cmpL (loadsM_ord (nodup_addM hn _ _)) fun x => ?_
  rw [loadsM_mem, insM_mem, loadsM_mem, look_addM]
  obtain ⟨q, v⟩ := x
  by_cases e : p = q
  · subst e
    rw [if_pos rfl, h]
    constructor
    · rintro (e2 | ⟨e2, e3⟩)
      · rw [Prod.mk.injEq] at e2
        exact ⟨by simpa using e2.2, by rw [show (p, v).2 = v from rfl, e2.2]; exact hw⟩
      · have e2 : v = 0 := e2
        have e3 : 0 < v := e3
        omega
    · rintro ⟨e2, _⟩
      have e2 : v = 0 + w := e2
      rw [Nat.zero_add] at e2
      exact .inl (by rw [e2])
  · rw [if_neg e, Nat.add_zero]
    constructor
    · rintro (e2 | e2)
      · rw [Prod.mk.injEq] at e2; exact absurd e2.1.symm e
      · exact e2
    · exact .inr
theorem add_old {m : Ml} (hn : (keysM m).Nodup) {p : Px} {w i : Nat} (hi : (loadsM m)[i]? = some (p, look m p)) : insM ((loadsM m).eraseIdx i) (p, look m p + w) = loadsM (addM m p w) := by
  have ho := loadsM_ord hn
  have hp : 0 < look m p := (loadsM_mem.1 (List.mem_of_getElem? hi)).2
  have hm : ∀ y, y ∈ (loadsM m).eraseIdx i ↔ y ∈ loadsM m ∧ y.1 ≠ p := fun y => by
    rw [List.mem_eraseIdx_iff_getElem?]
    constructor
    · rintro ⟨j, hj, hy⟩
      refine ⟨List.mem_of_getElem? hy, fun e => ?_⟩
      have e2 : y = (p, look m p) := by
        have := (loadsM_mem.1 (List.mem_of_getElem? hy)).1
        rw [e] at this
        obtain ⟨q, v⟩ := y
        rw [Prod.mk.injEq]; exact ⟨e, this⟩
      rw [e2] at hy
      have hnd : (loadsM m).Nodup := ho.nodup to_cmpL
      have hjl := (List.getElem?_eq_some_iff.1 hy).1
      exact hj ((List.getElem?_inj hjl hnd).1 (hy.trans hi.symm))
    · rintro ⟨h1, h2⟩
      obtain ⟨j, hj⟩ := List.getElem?_of_mem h1
      refine ⟨j, fun e => h2 ?_, hj⟩
      rw [e, hi] at hj
      rw [← Option.some.inj hj]
  refine (insM_ord (ho.sublist (List.eraseIdx_sublist _ _)) fun y hy => ((hm y).1 hy).2).ext to_cmpL (loadsM_ord (nodup_addM hn _ _)) fun x => ?_
  rw [loadsM_mem, insM_mem, hm, loadsM_mem, look_addM]
  obtain ⟨q, v⟩ := x
  by_cases e : p = q
  · subst e
    rw [if_pos rfl]
    constructor
    · rintro (e2 | ⟨_, e2⟩)
      · rw [Prod.mk.injEq] at e2
        exact ⟨e2.2, by rw [show (p, v).2 = v from rfl, e2.2]; omega⟩
      · exact absurd rfl e2
    · rintro ⟨e2, _⟩
      exact .inl (by rw [Prod.mk.injEq]; exact ⟨rfl, e2⟩)
  · rw [if_neg e, Nat.add_zero]
    constructor
    · rintro (e2 | ⟨e2, _⟩)
      · rw [Prod.mk.injEq] at e2; exact absurd e2.1.symm e
      · exact e2
    · exact fun h => .inr ⟨h, fun e2 => e e2.symm⟩
/-! ### one left out -/
def er {α : Type} (l : List α) (i j : Nat) : List α := (l.take j).eraseIdx i
theorem er_step {α : Type} {l : List α} {i j : Nat} {x : α} (h : l[j]? = some x) : er l i (j + 1) = er l i j ++ if j = i then [] else [x] := by
  have hj := (List.getElem?_eq_some_iff.1 h).1
  have hl : (l.take j).length = j := by rw [List.length_take]; omega
  unfold er
  rw [List.take_add_one, h]
  rcases Nat.lt_trichotomy j i with h1 | h1 | h1
  · rw [if_neg (by omega), List.eraseIdx_append_of_length_le (by omega), List.eraseIdx_of_length_le (l := l.take j) (by omega)]
    rw [List.eraseIdx_of_length_le]; · rfl
    rw [hl]; simp; omega
  · subst h1
    rw [if_pos rfl, List.eraseIdx_append_of_length_le (by omega), hl, Nat.sub_self, List.eraseIdx_of_length_le (l := l.take j) (by omega)]; rfl
  · rw [if_neg (by omega), List.eraseIdx_append_of_lt_length (by omega)]; rfl
theorem er_full {α : Type} (l : List α) (i : Nat) : er l i l.length = l.eraseIdx i := by unfold er; rw [List.take_length]
theorem er_len {α : Type} (l : List α) (i j : Nat) : (er l i j).length ≤ l.length := by
  unfold er
  have h1 := List.length_eraseIdx_le (l.take j) i
  rw [List.length_take] at h1
  omega
end Go.Proofs.YtgaohmfmomeflaaGreatDoor
end

section
/- model: Over. -/
namespace Go.Proofs.YtgaohmfmomeflaaGreatDoor
open Go.Ve

theorem pNilSl {f : FuncId} {args : List AV} (h : PCall P f args .nils) : PCall P f args (.sl []) := by
  unfold PCall at *
  refine ⟨h.1, fun M0 w vs h1 h2 hv => Calls.mono (h.2 M0 w vs h1 h2 hv) ?_⟩
  rintro e w' ⟨v, rfl, hb, hr⟩
  exact ⟨v, rfl, hb, by rw [hr.nils_inv]; exact .sl0 _⟩
theorem gAll_sl (s : Sp) (p : Px) (hp : POk p) : PCall P 50 [spv s, pxv p] (.sl (pcl (allP s p))) := by
  have h := gAll_ok s p hp
  cases he : allP s p with
  | nil => rw [he] at h; exact pNilSl h
  | cons x r => rw [he] at h; rwa [pvl_sl (by simp)] at h
def ones (l : List Px) : Ml := l.map fun p => (p, 1)
theorem cntL_snoc (l : List Px) (p : Px) : cntL (l ++ [p]) = addM (cntL l) p 1 := by
  unfold cntL; rw [List.map_append]; exact putF_snoc _ _ _
theorem tot_cntL (l : List Px) : totM (cntL l) = l.length := by
  unfold cntL
  rw [totM, sumF_putAll]
  induction l with
  | nil => rfl
  | cons x l ih => rw [List.map_cons, sumF_cons, ih, cond_true, List.length_cons]; omega
theorem len_cntL (l : List Px) : (cntL l).length ≤ l.length := by
  have := putF_len (l.map fun p => (p, 1)) []
  rw [List.length_map] at this
  unfold cntL
  simpa using this
theorem addM_two {p : Px} {w : Nat} : ∀ {r : Ml}, p ∉ keysM r → addM (r ++ [(p, 0)]) p w = r ++ [(p, w)]
  | [], _ => by show (if p = p then _ else _) = _; rw [if_pos rfl, Nat.zero_add]; rfl
  | y :: r, hr => by
    have hr : p ∉ y.1 :: keysM r := hr
    rw [List.mem_cons, not_or] at hr
    rw [List.cons_append, addM, if_neg (fun e => hr.1 e.symm), addM_two hr.2]; rfl
theorem upsM_snoc (s : Sp) (l : Ml) (x : Px × Nat) : upsM s (l ++ [x]) = upsM s l ++ allP s x.1 := by simp [upsM]
theorem mOver_ok (s : Sp) (l : Ml) (hI : MI s l) : DCall P 22 [.ptr 0 0] (MH s l) (.sl (pcl (ovM s l))) (MH s l) := by
  have q1 := made_ok s l
  have q2 := loads_ok s l hI
  have hlen : (loadsM l).length ≤ 65536 := Nat.le_trans loadsM_len hI.len
  have hok := hI.ok.loads
  have huL := upsM_len s (loadsM l)
  unfold ovM
  generalize loadsM l = L at *
  have hLc := lcl_len L
  have q3 := sortedF_ok (c := hgtP) (g := 53) (fun x y => @byHeight_ok told x y) to_hgtP (fun _ _ h => hgtP_zero h) (l := cntL (upsM s L)) (nodup_putAll _) (by have := len_cntL (upsM s L); omega) (seqI_ok (cntL (upsM s L)) (by have := len_cntL (upsM s L); omega))
  refine DCall.of_awp tok mixed fn22 (Nat.le_of_ble_eq_true rfl) ?_
  (conv => whnf); (repeat' ((first | (with_reducible first | refine Box.mk ?_ | refine And.intro (fun _ => ?_) (fun _ => ?_) | refine (forceH_eq _ _).mpr ?_) | refine ACall.of_pure (by assumption) (by rfl) ?_ | ((with_reducible show Exists _); refine ⟨_, ACall.of_pure (by assumption) (by rfl) ⟨rfl, rfl⟩, ?_⟩) | ((with_reducible show ∃ L, drawR L _ = true ∧ _); refine ⟨[], by kernel_rfl, ?_⟩) | ((with_reducible show _ ∧ _ ∧ _); refine ⟨by omega, by omega, ?_⟩) | fail) <;> conv => whnf))
  refine aW [0, 1] q1 rfl rfl rfl ?_
  (conv => whnf); (repeat' ((first | (with_reducible first | refine Box.mk ?_ | refine And.intro (fun _ => ?_) (fun _ => ?_) | refine (forceH_eq _ _).mpr ?_) | refine ACall.of_pure (by assumption) (by rfl) ?_ | ((with_reducible show Exists _); refine ⟨_, ACall.of_pure (by assumption) (by rfl) ⟨rfl, rfl⟩, ?_⟩) | ((with_reducible show ∃ L, drawR L _ = true ∧ _); refine ⟨[], by kernel_rfl, ?_⟩) | ((with_reducible show _ ∧ _ ∧ _); refine ⟨by omega, by omega, ?_⟩) | fail) <;> conv => whnf))
  refine aW [0, 1] q2 rfl rfl rfl ?_
  (conv => whnf); (repeat' ((first | (with_reducible first | refine Box.mk ?_ | refine And.intro (fun _ => ?_) (fun _ => ?_) | refine (forceH_eq _ _).mpr ?_) | refine ACall.of_pure (by assumption) (by rfl) ?_ | ((with_reducible show Exists _); refine ⟨_, ACall.of_pure (by assumption) (by rfl) ⟨rfl, rfl⟩, ?_⟩) | ((with_reducible show ∃ L, drawR L _ = true ∧ _); refine ⟨[], by kernel_rfl, ?_⟩) | ((with_reducible show _ ∧ _ ∧ _); refine ⟨by omega, by omega, ?_⟩) | fail) <;> conv => whnf))
  refine aloop (fun i : Nat => i ≤ L.length) (fun i => ⟨envL [(0, .ptr 0 0), (3, .own 2), (13, .sl (lcl L)), (14, .int .i64 ((lcl L).length : Int)), (15, .int .i64 (i : Int))], MH s l ++ [Ob.map pks (mes i64V 0 (cntL (upsM s (L.take i)))) (cntL (upsM s (L.take i))).length]⟩) (fun i => L.length - i) 0 (Nat.zero_le _)
    (weak_to ⟨rfl, rfl, rfl, rfl, rfl, trivial⟩ rfl) ?_
  intro i hi
  (conv => whnf); (repeat' ((first | (with_reducible first | refine Box.mk ?_ | refine And.intro (fun _ => ?_) (fun _ => ?_) | refine (forceH_eq _ _).mpr ?_) | refine ACall.of_pure (by assumption) (by rfl) ?_ | ((with_reducible show Exists _); refine ⟨_, ACall.of_pure (by assumption) (by rfl) ⟨rfl, rfl⟩, ?_⟩) | ((with_reducible show ∃ L, drawR L _ = true ∧ _); refine ⟨[], by kernel_rfl, ?_⟩) | ((with_reducible show _ ∧ _ ∧ _); refine ⟨by omega, by omega, ?_⟩) | fail) <;> conv => whnf))
  · rename_i hlt
    have hlt : i < L.length := by rw [hLc] at hlt; omega
    have hx := List.getElem?_eq_getElem hlt
    have hst : upsM s (L.take (i + 1)) = upsM s (L.take i) ++ allP s L[i].1 := by
      rw [List.take_add_one, hx]; exact upsM_snoc _ _ _
    have hxo : POk L[i].1 := hok.at (List.mem_of_getElem? hx)
    have hul : (upsM s (L.take (i + 1))).length ≤ 65536 * 33153 := by
      refine Nat.le_trans (upsM_len s _) (Nat.mul_le_mul_right _ ?_)
      rw [List.length_take]; omega
    generalize L[i] = x at *
    have q4 := gAll_sl s x.1 hxo
    have hql := allP_len s x.1
    generalize allP s x.1 = q at *
    have hqc := pcl_len q
    refine ⟨by omega, lcs x, by rw [Int.toNat_natCast, lcl_get, hx]; rfl, rfl, ?_⟩
    (conv => whnf); (repeat' ((first | (with_reducible first | refine Box.mk ?_ | refine And.intro (fun _ => ?_) (fun _ => ?_) | refine (forceH_eq _ _).mpr ?_) | refine ACall.of_pure (by assumption) (by rfl) ?_ | ((with_reducible show Exists _); refine ⟨_, ACall.of_pure (by assumption) (by rfl) ⟨rfl, rfl⟩, ?_⟩) | ((with_reducible show ∃ L, drawR L _ = true ∧ _); refine ⟨[], by kernel_rfl, ?_⟩) | ((with_reducible show _ ∧ _ ∧ _); refine ⟨by omega, by omega, ?_⟩) | fail) <;> conv => whnf))
    refine aloop (fun j : Nat => j ≤ q.length) (fun j => ⟨envL [(0, .ptr 0 0), (3, .own 2), (13, .sl (lcl L)), (14, .int .i64 ((lcl L).length : Int)), (15, .int .i64 (i : Int)), (25, .sl (pcl q)), (26, .int .i64 ((pcl q).length : Int)), (27, .int .i64 (j : Int))], MH s l ++ [Ob.map pks (mes i64V 0 (cntL (upsM s (L.take i) ++ q.take j))) (cntL (upsM s (L.take i) ++ q.take j)).length]⟩) (fun j => q.length - j) 0 (Nat.zero_le _)
      (weak_ren_to [(0, true), (1, true), (2, true)] rfl rfl (by rw [List.take_zero, List.append_nil]; rfl) ⟨rfl, rfl, rfl, rfl, rfl, rfl, rfl, rfl, trivial⟩) ?_
    intro j hj
    (conv => whnf); (repeat' ((first | (with_reducible first | refine Box.mk ?_ | refine And.intro (fun _ => ?_) (fun _ => ?_) | refine (forceH_eq _ _).mpr ?_) | refine ACall.of_pure (by assumption) (by rfl) ?_ | ((with_reducible show Exists _); refine ⟨_, ACall.of_pure (by assumption) (by rfl) ⟨rfl, rfl⟩, ?_⟩) | ((with_reducible show _ ∧ _ ∧ _); refine ⟨by omega, by omega, ?_⟩) | fail) <;> conv => whnf))
    · rename_i hlt2
      have hlt2 : j < q.length := by rw [hqc] at hlt2; omega
      have hy := List.getElem?_eq_getElem hlt2
      have hcs : cntL (upsM s (L.take i) ++ q.take (j + 1)) = addM (cntL (upsM s (L.take i) ++ q.take j)) q[j] 1 := by
        rw [List.take_add_one, hy, ← List.append_assoc]; exact cntL_snoc _ _
      have htot : totM (cntL (upsM s (L.take i) ++ q.take j)) ≤ 65536 * 33153 := by
        rw [tot_cntL, List.length_append, List.length_take]
        rw [hst, List.length_append] at hul
        omega
      have hn : (keysM (cntL (upsM s (L.take i) ++ q.take j))).Nodup := nodup_putAll _
      generalize cntL (upsM s (L.take i) ++ q.take j) = c at *
      generalize q[j] = p at *
      have hlk := look_le (l := c) p
      refine ⟨by omega, pcs p, by rw [Int.toNat_natCast, pcl_get, hy]; rfl, rfl, ?_⟩
      (conv => whnf); (repeat' ((first | (with_reducible first | refine Box.mk ?_ | refine And.intro (fun _ => ?_) (fun _ => ?_) | refine (forceH_eq _ _).mpr ?_) | refine ACall.of_pure (by assumption) (by rfl) ?_ | ((with_reducible show Exists _); refine ⟨_, ACall.of_pure (by assumption) (by rfl) ⟨rfl, rfl⟩, ?_⟩) | ((with_reducible show _ ∧ _ ∧ _); refine ⟨by omega, by omega, ?_⟩) | fail) <;> conv => whnf))
      refine ⟨[(4, [2])], by kernel_rfl, ?_⟩
      (conv => whnf); (repeat' ((first | (with_reducible first | refine Box.mk ?_ | refine And.intro (fun _ => ?_) (fun _ => ?_) | refine (forceH_eq _ _).mpr ?_) | refine ACall.of_pure (by assumption) (by rfl) ?_ | ((with_reducible show Exists _); refine ⟨_, ACall.of_pure (by assumption) (by rfl) ⟨rfl, rfl⟩, ?_⟩) | ((with_reducible show _ ∧ _ ∧ _); refine ⟨by omega, by omega, ?_⟩) | fail) <;> conv => whnf))
      by_cases hin : p ∈ keysM c
      · obtain ⟨z, hz, hzp⟩ := List.mem_map.1 hin
        obtain ⟨k, hk⟩ := List.getElem?_of_mem hz
        have hlx : look c p = z.2 := by rw [← hzp]; exact look_mem hn hz
        have e3 : IntKind.i64.wrap ((z.2 : Int) + 1) = ((z.2 + 1 : Nat) : Int) := by rw [wrap_i64 (by omega) (by omega)]; omega
        refine ⟨mes_ok hn, at_yes rfl hn hk (by rw [hzp]; rfl) ?_⟩
        (conv => whnf); (repeat' ((first | (with_reducible first | refine Box.mk ?_ | refine And.intro (fun _ => ?_) (fun _ => ?_) | refine (forceH_eq _ _).mpr ?_) | refine ACall.of_pure (by assumption) (by rfl) ?_ | ((with_reducible show Exists _); refine ⟨_, ACall.of_pure (by assumption) (by rfl) ⟨rfl, rfl⟩, ?_⟩) | ((with_reducible show _ ∧ _ ∧ _); refine ⟨by omega, by omega, ?_⟩) | fail) <;> conv => whnf))
        refine ⟨mes_ok hn, at_yes rfl hn hk (by rw [hzp]; rfl) ?_⟩
        (conv => whnf); (repeat' ((first | (with_reducible first | refine Box.mk ?_ | refine And.intro (fun _ => ?_) (fun _ => ?_) | refine (forceH_eq _ _).mpr ?_) | refine ACall.of_pure (by assumption) (by rfl) ?_ | ((with_reducible show Exists _); refine ⟨_, ACall.of_pure (by assumption) (by rfl) ⟨rfl, rfl⟩, ?_⟩) | ((with_reducible show _ ∧ _ ∧ _); refine ⟨by omega, by omega, ?_⟩) | fail) <;> conv => whnf))
        refine ⟨⟨⟨mes_ok hn, at_yes rfl hn hk (by rw [hzp]; rfl) ⟨rfl, rfl⟩⟩, trivial⟩, ?_⟩
        (conv => whnf); (repeat' ((first | (with_reducible first | refine Box.mk ?_ | refine And.intro (fun _ => ?_) (fun _ => ?_) | refine (forceH_eq _ _).mpr ?_) | refine ACall.of_pure (by assumption) (by rfl) ?_ | ((with_reducible show Exists _); refine ⟨_, ACall.of_pure (by assumption) (by rfl) ⟨rfl, rfl⟩, ?_⟩) | ((with_reducible show _ ∧ _ ∧ _); refine ⟨by omega, by omega, ?_⟩) | fail) <;> conv => whnf))
        refine ⟨mes_ok hn, at_stamp hk rfl ?_⟩
        (conv => whnf); (repeat' ((first | (with_reducible first | refine Box.mk ?_ | refine And.intro (fun _ => ?_) (fun _ => ?_) | refine (forceH_eq _ _).mpr ?_) | refine ACall.of_pure (by assumption) (by rfl) ?_ | ((with_reducible show Exists _); refine ⟨_, ACall.of_pure (by assumption) (by rfl) ⟨rfl, rfl⟩, ?_⟩) | ((with_reducible show _ ∧ _ ∧ _); refine ⟨by omega, by omega, ?_⟩) | fail) <;> conv => whnf))
        refine ⟨j + 1, hlt2, by omega, weak_ren_to [(0, true), (1, true), (2, true)] rfl rfl ?_ ⟨rfl, rfl, rfl, rfl, rfl, rfl, rfl, wrap_nat (m := 1) (by omega), trivial⟩⟩
        show MH s l ++ [Ob.map pks ((mes i64V 0 c).set k (pcs z.1, AV.int .i64 (IntKind.i64.wrap ((z.2 : Int) + 1)), k)) c.length] = MH s l ++ [Ob.map pks (mes i64V 0 (cntL (upsM s (L.take i) ++ q.take (j + 1)))) (cntL (upsM s (L.take i) ++ q.take (j + 1))).length]
        have e4 := addM_set (v := i64V) (k := 0) 1 hn hk
        rw [Nat.zero_add, hzp] at e4
        rw [hcs, e3, hzp]
        show _ ++ [Ob.map pks ((mes i64V 0 c).set k (pcs p, i64V (z.2 + 1), k)) c.length] = _
        rw [e4, ← addM_len_in 1 hin]
      · have hlx : look c p = 0 := look_none hin
        have e3 : IntKind.i64.wrap (0 + 1) = ((1 : Nat) : Int) := by decide
        have es : mes i64V 0 (c ++ [(p, 0)]) = mes i64V 0 c ++ [(pcs p, AV.int .i64 0, c.length)] := by rw [mes_snoc, Nat.zero_add]; rfl
        have hn2 : (keysM (c ++ [(p, 0)])).Nodup := by
          have := nodup_addM hn p 0
          rwa [addM_new 0 hin] at this
        have hk : (c ++ [(p, 0)])[c.length]? = some (p, 0) := by simp
        refine ⟨mes_ok hn, at_no rfl hin rfl ?_⟩
        (conv => whnf); (repeat' ((first | (with_reducible first | refine Box.mk ?_ | refine And.intro (fun _ => ?_) (fun _ => ?_) | refine (forceH_eq _ _).mpr ?_) | refine ACall.of_pure (by assumption) (by rfl) ?_ | ((with_reducible show Exists _); refine ⟨_, ACall.of_pure (by assumption) (by rfl) ⟨rfl, rfl⟩, ?_⟩) | ((with_reducible show _ ∧ _ ∧ _); refine ⟨by omega, by omega, ?_⟩) | fail) <;> conv => whnf))
        refine ⟨mes_ok hn, at_no rfl hin rfl ?_⟩
        (conv => whnf); (repeat' ((first | (with_reducible first | refine Box.mk ?_ | refine And.intro (fun _ => ?_) (fun _ => ?_) | refine (forceH_eq _ _).mpr ?_) | refine ACall.of_pure (by assumption) (by rfl) ?_ | ((with_reducible show Exists _); refine ⟨_, ACall.of_pure (by assumption) (by rfl) ⟨rfl, rfl⟩, ?_⟩) | ((with_reducible show _ ∧ _ ∧ _); refine ⟨by omega, by omega, ?_⟩) | fail) <;> conv => whnf))
        refine ⟨⟨⟨mes_ok' es hn2, at_yes' es rfl hn2 hk rfl ⟨rfl, rfl⟩⟩, trivial⟩, ?_⟩
        (conv => whnf); (repeat' ((first | (with_reducible first | refine Box.mk ?_ | refine And.intro (fun _ => ?_) (fun _ => ?_) | refine (forceH_eq _ _).mpr ?_) | refine ACall.of_pure (by assumption) (by rfl) ?_ | ((with_reducible show Exists _); refine ⟨_, ACall.of_pure (by assumption) (by rfl) ⟨rfl, rfl⟩, ?_⟩) | ((with_reducible show _ ∧ _ ∧ _); refine ⟨by omega, by omega, ?_⟩) | fail) <;> conv => whnf))
        refine ⟨mes_ok' es hn2, at_stamp' es hk rfl ?_⟩
        (conv => whnf); (repeat' ((first | (with_reducible first | refine Box.mk ?_ | refine And.intro (fun _ => ?_) (fun _ => ?_) | refine (forceH_eq _ _).mpr ?_) | refine ACall.of_pure (by assumption) (by rfl) ?_ | ((with_reducible show Exists _); refine ⟨_, ACall.of_pure (by assumption) (by rfl) ⟨rfl, rfl⟩, ?_⟩) | ((with_reducible show _ ∧ _ ∧ _); refine ⟨by omega, by omega, ?_⟩) | fail) <;> conv => whnf))
        refine ⟨j + 1, hlt2, by omega, weak_ren_to [(0, true), (1, true), (2, true)] rfl rfl ?_ ⟨rfl, rfl, rfl, rfl, rfl, rfl, rfl, wrap_nat (m := 1) (by omega), trivial⟩⟩
        show MH s l ++ [Ob.map pks ((mes i64V 0 c ++ [(pcs p, AV.int .i64 0, c.length)]).set c.length (pcs p, AV.int .i64 (IntKind.i64.wrap (0 + 1)), c.length)) (c.length + 1)] = MH s l ++ [Ob.map pks (mes i64V 0 (cntL (upsM s (L.take i) ++ q.take (j + 1)))) (cntL (upsM s (L.take i) ++ q.take (j + 1))).length]
        have e4 := addM_set (v := i64V) (k := 0) 1 hn2 hk
        rw [Nat.zero_add, es, Nat.zero_add, addM_two hin, ← addM_new 1 hin] at e4
        rw [hcs, e3]
        show _ ++ [Ob.map pks ((mes i64V 0 c ++ [(pcs p, AV.int .i64 0, c.length)]).set c.length (pcs p, i64V 1, c.length)) (c.length + 1)] = _
        rw [e4]
        have e8 : (addM c p 1).length = c.length + 1 := by rw [addM_new 1 hin, List.length_append]; rfl
        rw [e8]
    · rename_i hlt2
      have : j = q.length := by rw [hqc] at hlt2; omega
      subst this
      refine ⟨i + 1, hlt, by omega, weak_to ⟨rfl, rfl, rfl, rfl, wrap_nat (m := 1) (by omega), trivial⟩ ?_⟩
      rw [hst, List.take_length]
      rfl
  · rename_i hlt
    have : i = L.length := by rw [hLc] at hlt; omega
    subst this
    rw [List.take_length] at *
    refine aW [2] (keysI_fn (cntL (upsM s L))) rfl rfl rfl ?_
    (conv => whnf); (repeat' ((first | (with_reducible first | refine Box.mk ?_ | refine And.intro (fun _ => ?_) (fun _ => ?_) | refine (forceH_eq _ _).mpr ?_) | refine ACall.of_pure (by assumption) (by rfl) ?_ | ((with_reducible show Exists _); refine ⟨_, ACall.of_pure (by assumption) (by rfl) ⟨rfl, rfl⟩, ?_⟩) | ((with_reducible show ∃ L, drawR L _ = true ∧ _); refine ⟨[], by kernel_rfl, ?_⟩) | ((with_reducible show _ ∧ _ ∧ _); refine ⟨by omega, by omega, ?_⟩) | fail) <;> conv => whnf))
    refine aW [2, 3] q3 rfl rfl rfl ?_
    (conv => whnf); (repeat' ((first | (with_reducible first | refine Box.mk ?_ | refine And.intro (fun _ => ?_) (fun _ => ?_) | refine (forceH_eq _ _).mpr ?_) | refine ACall.of_pure (by assumption) (by rfl) ?_ | ((with_reducible show Exists _); refine ⟨_, ACall.of_pure (by assumption) (by rfl) ⟨rfl, rfl⟩, ?_⟩) | ((with_reducible show ∃ L, drawR L _ = true ∧ _); refine ⟨[], by kernel_rfl, ?_⟩) | ((with_reducible show _ ∧ _ ∧ _); refine ⟨by omega, by omega, ?_⟩) | fail) <;> conv => whnf))
    exact weak_ren_to [(0, true), (1, true)] rfl rfl rfl ⟨rfl, trivial⟩
end Go.Proofs.YtgaohmfmomeflaaGreatDoor
end

section
/- model: Join; what is filled with all that can be put. -/
namespace Go.Proofs.YtgaohmfmomeflaaGreatDoor
open Go.Ve

/-- A model at these objects. -/
def MHat (k : Nat) (s : Sp) (l : Ml) : Hp := [.box 94 [.int .i64 s.n, .int .i64 s.d0.kind, .int .i64 s.d0.side, .int .i64 s.d0.step, .int .i64 s.d1.kind, .int .i64 s.d1.side, .int .i64 s.d1.step, .int .u64 (totM l : Int), .own (k + 1)], .map pks (mes u64V 0 l) l.length]
theorem sp_eq {s t : Sp} : (s.n = t.n ∧ s.d0.kind = t.d0.kind ∧ s.d0.side = t.d0.side ∧ s.d0.step = t.d0.step ∧ s.d1.kind = t.d1.kind ∧ s.d1.side = t.d1.side ∧ s.d1.step = t.d1.step) ↔ s = t := by
  refine ⟨fun ⟨h1, h2, h3, h4, h5, h6, h7⟩ => ?_, fun h => by rw [h]; exact ⟨rfl, rfl, rfl, rfl, rfl, rfl, rfl⟩⟩
  have e0 := dm_ext h2 h3 h4
  have e1 := dm_ext h5 h6 h7
  cases s; cases t
  simp only at h1 e0 e1
  rw [h1, e0, e1]
theorem tot_step {L : Ml} {i : Nat} {x : Px × Nat} (h : L[i]? = some x) : totM (L.take (i + 1)) = totM (L.take i) + x.2 := by
  rw [List.take_add_one, h]
  exact (sumF_app _ _ _).trans (by simp [sumF])
theorem tot_take_le (L : Ml) (i : Nat) : totM (L.take i) ≤ totM L := by
  have h : totM (L.take i ++ L.drop i) = _ := sumF_app _ _ _
  rw [List.take_append_drop] at h
  rw [h]; exact Nat.le_add_right _ _
theorem join_good (s : Sp) (l l' : Ml) (hI : MI s l) (hI' : MI s l') (ht : totM l + totM l' ≤ 4611686018427387904) :
    DCall P 16 [.ptr 0 0, .ptr 2 0] (MHat 0 s l ++ MHat 2 s l') (.int .i64 0) (MHat 0 s (putF l (loadsM l')) ++ MHat 2 s l') := by
  have q1 := made_ok s l
  have q1' := made_ok s l'
  have q2 := loads_ok s l' hI'
  have e1 : IntKind.u64.wrap (4611686018427387904 - (totM l' : Int)) = ((4611686018427387904 - totM l' : Nat) : Int) := by rw [wrap_u64 (by omega) (by omega)]; omega
  have hl' := hI'.len
  have hLl := loadsM_len (l := l')
  have hLt : totM (loadsM l') = totM l' := sumF_loadsM _ hI'.nodup
  have hLo := hI'.ok.loads
  have hLf : ∀ p ∈ keysM (loadsM l'), leafR s p = true := fun p hp => hI'.leaf p (by rw [keys_loadsM, heavyK_mem] at hp; exact look_key hp)
  generalize loadsM l' = L at *
  have hLc := lcl_len L
  refine DCall.of_awp tok mixed fn16 (Nat.le_of_ble_eq_true rfl) ?_
  (conv => whnf); (repeat' ((first | (with_reducible first | refine Box.mk ?_ | refine And.intro (fun _ => ?_) (fun _ => ?_) | refine (forceH_eq _ _).mpr ?_) | refine ACall.of_pure (by assumption) (by rfl) ?_ | ((with_reducible show Exists _); refine ⟨_, ACall.of_pure (by assumption) (by rfl) ⟨rfl, rfl⟩, ?_⟩) | ((with_reducible show _ ∧ _ ∧ _); refine ⟨by omega, by omega, ?_⟩) | fail) <;> conv => whnf))
  refine aW [0, 1] q1 rfl rfl rfl ?_
  (conv => whnf); (repeat' ((first | (with_reducible first | refine Box.mk ?_ | refine And.intro (fun _ => ?_) (fun _ => ?_) | refine (forceH_eq _ _).mpr ?_) | refine ACall.of_pure (by assumption) (by rfl) ?_ | ((with_reducible show Exists _); refine ⟨_, ACall.of_pure (by assumption) (by rfl) ⟨rfl, rfl⟩, ?_⟩) | ((with_reducible show _ ∧ _ ∧ _); refine ⟨by omega, by omega, ?_⟩) | fail) <;> conv => whnf))
  refine aW [2, 3] q1' rfl rfl rfl ?_
  (conv => whnf); (repeat' ((first | (with_reducible first | refine Box.mk ?_ | refine And.intro (fun _ => ?_) (fun _ => ?_) | refine (forceH_eq _ _).mpr ?_) | refine ACall.of_pure (by assumption) (by rfl) ?_ | ((with_reducible show Exists _); refine ⟨_, ACall.of_pure (by assumption) (by rfl) ⟨rfl, rfl⟩, ?_⟩) | ((with_reducible show _ ∧ _ ∧ _); refine ⟨by omega, by omega, ?_⟩) | fail) <;> conv => whnf))
  refine ⟨[], by kernel_rfl, ?_⟩
  (conv => whnf); (repeat' ((first | (with_reducible first | refine Box.mk ?_ | refine And.intro (fun _ => ?_) (fun _ => ?_) | refine (forceH_eq _ _).mpr ?_) | refine ACall.of_pure (by assumption) (by rfl) ?_ | ((with_reducible show Exists _); refine ⟨_, ACall.of_pure (by assumption) (by rfl) ⟨rfl, rfl⟩, ?_⟩) | ((with_reducible show _ ∧ _ ∧ _); refine ⟨by omega, by omega, ?_⟩) | fail) <;> conv => whnf))
  rotate_left
  · rename_i h; exact absurd (sp_eq.2 rfl) h
  refine ⟨[], by kernel_rfl, ?_⟩
  (conv => whnf); (repeat' ((first | (with_reducible first | refine Box.mk ?_ | refine And.intro (fun _ => ?_) (fun _ => ?_) | refine (forceH_eq _ _).mpr ?_) | refine ACall.of_pure (by assumption) (by rfl) ?_ | ((with_reducible show Exists _); refine ⟨_, ACall.of_pure (by assumption) (by rfl) ⟨rfl, rfl⟩, ?_⟩) | ((with_reducible show _ ∧ _ ∧ _); refine ⟨by omega, by omega, ?_⟩) | fail) <;> conv => whnf))
  all_goals try (exfalso; omega)
  refine aW [2, 3] q2 rfl rfl rfl ?_
  (conv => whnf); (repeat' ((first | (with_reducible first | refine Box.mk ?_ | refine And.intro (fun _ => ?_) (fun _ => ?_) | refine (forceH_eq _ _).mpr ?_) | refine ACall.of_pure (by assumption) (by rfl) ?_ | ((with_reducible show Exists _); refine ⟨_, ACall.of_pure (by assumption) (by rfl) ⟨rfl, rfl⟩, ?_⟩) | ((with_reducible show _ ∧ _ ∧ _); refine ⟨by omega, by omega, ?_⟩) | fail) <;> conv => whnf))
  refine aloop (fun i : Nat => i ≤ L.length) (fun i => ⟨envL [(0, .ptr 0 0), (38, .sl (lcl L)), (39, .int .i64 ((lcl L).length : Int)), (40, .int .i64 (i : Int))], MHat 0 s (putF l (L.take i)) ++ MHat 2 s l'⟩) (fun i => L.length - i) 0 (Nat.zero_le _)
    (weak_to ⟨rfl, rfl, rfl, rfl, trivial⟩ rfl) ?_
  intro i hi
  (conv => whnf); (repeat' ((first | (with_reducible first | refine Box.mk ?_ | refine And.intro (fun _ => ?_) (fun _ => ?_) | refine (forceH_eq _ _).mpr ?_) | refine ACall.of_pure (by assumption) (by rfl) ?_ | ((with_reducible show Exists _); refine ⟨_, ACall.of_pure (by assumption) (by rfl) ⟨rfl, rfl⟩, ?_⟩) | ((with_reducible show _ ∧ _ ∧ _); refine ⟨by omega, by omega, ?_⟩) | fail) <;> conv => whnf))
  · rename_i hlt
    have hlt : i < L.length := by rw [hLc] at hlt; omega
    have hx := List.getElem?_eq_getElem hlt
    have hst : putF l (L.take (i + 1)) = addM (putF l (L.take i)) L[i].1 L[i].2 := by
      rw [List.take_add_one, hx]; exact putF_snoc _ _ _
    have hxo : POk L[i].1 := hLo.at (List.mem_of_getElem? hx)
    have hxf := hLf L[i].1 (List.mem_map.2 ⟨_, List.mem_of_getElem? hx, rfl⟩)
    have hto : totM (L.take i) + L[i].2 ≤ totM L := by rw [← tot_step hx]; exact tot_take_le _ _
    have htp : totM (putF l (L.take i)) = totM l + totM (L.take i) := sumF_putF _ _ _
    have hnp : (keysM (putF l (L.take i))).Nodup := nodup_putF _ hI.nodup
    generalize L[i] = x at *
    have q3 := put_good s (putF l (L.take i)) hnp x.1 hxo x.2 (by omega) hxf (by omega)
    rw [← hst] at q3
    refine ⟨by omega, lcs x, by rw [Int.toNat_natCast, lcl_get, hx]; rfl, rfl, ?_⟩
    (conv => whnf); (repeat' ((first | (with_reducible first | refine Box.mk ?_ | refine And.intro (fun _ => ?_) (fun _ => ?_) | refine (forceH_eq _ _).mpr ?_) | refine ACall.of_pure (by assumption) (by rfl) ?_ | ((with_reducible show Exists _); refine ⟨_, ACall.of_pure (by assumption) (by rfl) ⟨rfl, rfl⟩, ?_⟩) | ((with_reducible show _ ∧ _ ∧ _); refine ⟨by omega, by omega, ?_⟩) | fail) <;> conv => whnf))
    refine aW [0, 1] q3 rfl rfl rfl ?_
    (conv => whnf); (repeat' ((first | (with_reducible first | refine Box.mk ?_ | refine And.intro (fun _ => ?_) (fun _ => ?_) | refine (forceH_eq _ _).mpr ?_) | refine ACall.of_pure (by assumption) (by rfl) ?_ | ((with_reducible show Exists _); refine ⟨_, ACall.of_pure (by assumption) (by rfl) ⟨rfl, rfl⟩, ?_⟩) | ((with_reducible show _ ∧ _ ∧ _); refine ⟨by omega, by omega, ?_⟩) | fail) <;> conv => whnf))
    exact ⟨i + 1, hlt, by omega, weak_ren_to [(0, true), (1, true), (2, true), (3, true)] rfl rfl rfl ⟨rfl, rfl, rfl, wrap_nat (m := 1) (by omega), trivial⟩⟩
  · rename_i hlt
    have : i = L.length := by rw [hLc] at hlt; omega
    subst this
    rw [List.take_length]
    exact weak_to ⟨rfl, trivial⟩ rfl
theorem join_self (s : Sp) (l : Ml) (hI : MI s l) (ht : totM l + totM l ≤ 4611686018427387904) :
    DCall P 16 [.ptr 0 0, .ptr 0 0] (MHat 0 s l) (.int .i64 0) (MHat 0 s (putF l (loadsM l))) := by
  have q1 := made_ok s l
  have q2 := loads_ok s l hI
  have e1 : IntKind.u64.wrap (4611686018427387904 - (totM l : Int)) = ((4611686018427387904 - totM l : Nat) : Int) := by rw [wrap_u64 (by omega) (by omega)]; omega
  have hl := hI.len
  have hLl := loadsM_len (l := l)
  have hLt : totM (loadsM l) = totM l := sumF_loadsM _ hI.nodup
  have hLo := hI.ok.loads
  have hLf : ∀ p ∈ keysM (loadsM l), leafR s p = true := fun p hp => hI.leaf p (by rw [keys_loadsM, heavyK_mem] at hp; exact look_key hp)
  generalize loadsM l = L at *
  have hLc := lcl_len L
  refine DCall.of_awp tok mixed fn16 (Nat.le_of_ble_eq_true rfl) ?_
  (conv => whnf); (repeat' ((first | (with_reducible first | refine Box.mk ?_ | refine And.intro (fun _ => ?_) (fun _ => ?_) | refine (forceH_eq _ _).mpr ?_) | refine ACall.of_pure (by assumption) (by rfl) ?_ | ((with_reducible show Exists _); refine ⟨_, ACall.of_pure (by assumption) (by rfl) ⟨rfl, rfl⟩, ?_⟩) | ((with_reducible show _ ∧ _ ∧ _); refine ⟨by omega, by omega, ?_⟩) | fail) <;> conv => whnf))
  refine aW [0, 1] q1 rfl rfl rfl ?_
  (conv => whnf); (repeat' ((first | (with_reducible first | refine Box.mk ?_ | refine And.intro (fun _ => ?_) (fun _ => ?_) | refine (forceH_eq _ _).mpr ?_) | refine ACall.of_pure (by assumption) (by rfl) ?_ | ((with_reducible show Exists _); refine ⟨_, ACall.of_pure (by assumption) (by rfl) ⟨rfl, rfl⟩, ?_⟩) | ((with_reducible show _ ∧ _ ∧ _); refine ⟨by omega, by omega, ?_⟩) | fail) <;> conv => whnf))
  refine aW [0, 1] q1 rfl rfl rfl ?_
  (conv => whnf); (repeat' ((first | (with_reducible first | refine Box.mk ?_ | refine And.intro (fun _ => ?_) (fun _ => ?_) | refine (forceH_eq _ _).mpr ?_) | refine ACall.of_pure (by assumption) (by rfl) ?_ | ((with_reducible show Exists _); refine ⟨_, ACall.of_pure (by assumption) (by rfl) ⟨rfl, rfl⟩, ?_⟩) | ((with_reducible show _ ∧ _ ∧ _); refine ⟨by omega, by omega, ?_⟩) | fail) <;> conv => whnf))
  refine ⟨[], by kernel_rfl, ?_⟩
  (conv => whnf); (repeat' ((first | (with_reducible first | refine Box.mk ?_ | refine And.intro (fun _ => ?_) (fun _ => ?_) | refine (forceH_eq _ _).mpr ?_) | refine ACall.of_pure (by assumption) (by rfl) ?_ | ((with_reducible show Exists _); refine ⟨_, ACall.of_pure (by assumption) (by rfl) ⟨rfl, rfl⟩, ?_⟩) | ((with_reducible show _ ∧ _ ∧ _); refine ⟨by omega, by omega, ?_⟩) | fail) <;> conv => whnf))
  rotate_left
  · rename_i h; exact absurd (sp_eq.2 rfl) h
  refine ⟨[], by kernel_rfl, ?_⟩
  (conv => whnf); (repeat' ((first | (with_reducible first | refine Box.mk ?_ | refine And.intro (fun _ => ?_) (fun _ => ?_) | refine (forceH_eq _ _).mpr ?_) | refine ACall.of_pure (by assumption) (by rfl) ?_ | ((with_reducible show Exists _); refine ⟨_, ACall.of_pure (by assumption) (by rfl) ⟨rfl, rfl⟩, ?_⟩) | ((with_reducible show _ ∧ _ ∧ _); refine ⟨by omega, by omega, ?_⟩) | fail) <;> conv => whnf))
  all_goals try (exfalso; omega)
  refine aW [0, 1] q2 rfl rfl rfl ?_
  (conv => whnf); (repeat' ((first | (with_reducible first | refine Box.mk ?_ | refine And.intro (fun _ => ?_) (fun _ => ?_) | refine (forceH_eq _ _).mpr ?_) | refine ACall.of_pure (by assumption) (by rfl) ?_ | ((with_reducible show Exists _); refine ⟨_, ACall.of_pure (by assumption) (by rfl) ⟨rfl, rfl⟩, ?_⟩) | ((with_reducible show _ ∧ _ ∧ _); refine ⟨by omega, by omega, ?_⟩) | fail) <;> conv => whnf))
  refine aloop (fun i : Nat => i ≤ L.length) (fun i => ⟨envL [(0, .ptr 0 0), (38, .sl (lcl L)), (39, .int .i64 ((lcl L).length : Int)), (40, .int .i64 (i : Int))], MHat 0 s (putF l (L.take i))⟩) (fun i => L.length - i) 0 (Nat.zero_le _)
    (weak_to ⟨rfl, rfl, rfl, rfl, trivial⟩ rfl) ?_
  intro i hi
  (conv => whnf); (repeat' ((first | (with_reducible first | refine Box.mk ?_ | refine And.intro (fun _ => ?_) (fun _ => ?_) | refine (forceH_eq _ _).mpr ?_) | refine ACall.of_pure (by assumption) (by rfl) ?_ | ((with_reducible show Exists _); refine ⟨_, ACall.of_pure (by assumption) (by rfl) ⟨rfl, rfl⟩, ?_⟩) | ((with_reducible show _ ∧ _ ∧ _); refine ⟨by omega, by omega, ?_⟩) | fail) <;> conv => whnf))
  · rename_i hlt
    have hlt : i < L.length := by rw [hLc] at hlt; omega
    have hx := List.getElem?_eq_getElem hlt
    have hst : putF l (L.take (i + 1)) = addM (putF l (L.take i)) L[i].1 L[i].2 := by
      rw [List.take_add_one, hx]; exact putF_snoc _ _ _
    have hxo : POk L[i].1 := hLo.at (List.mem_of_getElem? hx)
    have hxf := hLf L[i].1 (List.mem_map.2 ⟨_, List.mem_of_getElem? hx, rfl⟩)
    have hto : totM (L.take i) + L[i].2 ≤ totM L := by rw [← tot_step hx]; exact tot_take_le _ _
    have htp : totM (putF l (L.take i)) = totM l + totM (L.take i) := sumF_putF _ _ _
    have hnp : (keysM (putF l (L.take i))).Nodup := nodup_putF _ hI.nodup
    generalize L[i] = x at *
    have q3 := put_good s (putF l (L.take i)) hnp x.1 hxo x.2 (by omega) hxf (by omega)
    rw [← hst] at q3
    refine ⟨by omega, lcs x, by rw [Int.toNat_natCast, lcl_get, hx]; rfl, rfl, ?_⟩
    (conv => whnf); (repeat' ((first | (with_reducible first | refine Box.mk ?_ | refine And.intro (fun _ => ?_) (fun _ => ?_) | refine (forceH_eq _ _).mpr ?_) | refine ACall.of_pure (by assumption) (by rfl) ?_ | ((with_reducible show Exists _); refine ⟨_, ACall.of_pure (by assumption) (by rfl) ⟨rfl, rfl⟩, ?_⟩) | ((with_reducible show _ ∧ _ ∧ _); refine ⟨by omega, by omega, ?_⟩) | fail) <;> conv => whnf))
    refine aW [0, 1] q3 rfl rfl rfl ?_
    (conv => whnf); (repeat' ((first | (with_reducible first | refine Box.mk ?_ | refine And.intro (fun _ => ?_) (fun _ => ?_) | refine (forceH_eq _ _).mpr ?_) | refine ACall.of_pure (by assumption) (by rfl) ?_ | ((with_reducible show Exists _); refine ⟨_, ACall.of_pure (by assumption) (by rfl) ⟨rfl, rfl⟩, ?_⟩) | ((with_reducible show _ ∧ _ ∧ _); refine ⟨by omega, by omega, ?_⟩) | fail) <;> conv => whnf))
    exact ⟨i + 1, hlt, by omega, weak_ren_to [(0, true), (1, true)] rfl rfl rfl ⟨rfl, rfl, rfl, wrap_nat (m := 1) (by omega), trivial⟩⟩
  · rename_i hlt
    have : i = L.length := by rw [hLc] at hlt; omega
    subst this
    rw [List.take_length]
    exact weak_to ⟨rfl, trivial⟩ rfl
end Go.Proofs.YtgaohmfmomeflaaGreatDoor
end

section
/- model: Join that is refused; what is filled with all that can be put. -/
namespace Go.Proofs.YtgaohmfmomeflaaGreatDoor
open Go.Ve

theorem join_over (s : Sp) (l l' : Ml) (hI : MI s l) (hI' : MI s l') (ht : 4611686018427387904 < totM l + totM l') :
    DCall P 16 [.ptr 0 0, .ptr 2 0] (MHat 0 s l ++ MHat 2 s l') (.int .i64 13) (MHat 0 s l ++ MHat 2 s l') := by
  have q1 := made_ok s l
  have q1' := made_ok s l'
  have h1 := hI.tot
  have h2 := hI'.tot
  have e1 : IntKind.u64.wrap (4611686018427387904 - (totM l' : Int)) = ((4611686018427387904 - totM l' : Nat) : Int) := by rw [wrap_u64 (by omega) (by omega)]; omega
  refine DCall.of_awp tok mixed fn16 (Nat.le_of_ble_eq_true rfl) ?_
  (conv => whnf); (repeat' ((first | (with_reducible first | refine Box.mk ?_ | refine And.intro (fun _ => ?_) (fun _ => ?_) | refine (forceH_eq _ _).mpr ?_) | refine ACall.of_pure (by assumption) (by rfl) ?_ | ((with_reducible show Exists _); refine ⟨_, ACall.of_pure (by assumption) (by rfl) ⟨rfl, rfl⟩, ?_⟩) | ((with_reducible show _ ∧ _ ∧ _); refine ⟨by omega, by omega, ?_⟩) | fail) <;> conv => whnf))
  refine aW [0, 1] q1 rfl rfl rfl ?_
  (conv => whnf); (repeat' ((first | (with_reducible first | refine Box.mk ?_ | refine And.intro (fun _ => ?_) (fun _ => ?_) | refine (forceH_eq _ _).mpr ?_) | refine ACall.of_pure (by assumption) (by rfl) ?_ | ((with_reducible show Exists _); refine ⟨_, ACall.of_pure (by assumption) (by rfl) ⟨rfl, rfl⟩, ?_⟩) | ((with_reducible show _ ∧ _ ∧ _); refine ⟨by omega, by omega, ?_⟩) | fail) <;> conv => whnf))
  refine aW [2, 3] q1' rfl rfl rfl ?_
  (conv => whnf); (repeat' ((first | (with_reducible first | refine Box.mk ?_ | refine And.intro (fun _ => ?_) (fun _ => ?_) | refine (forceH_eq _ _).mpr ?_) | refine ACall.of_pure (by assumption) (by rfl) ?_ | ((with_reducible show Exists _); refine ⟨_, ACall.of_pure (by assumption) (by rfl) ⟨rfl, rfl⟩, ?_⟩) | ((with_reducible show _ ∧ _ ∧ _); refine ⟨by omega, by omega, ?_⟩) | fail) <;> conv => whnf))
  refine ⟨[], by kernel_rfl, ?_⟩
  (conv => whnf); (repeat' ((first | (with_reducible first | refine Box.mk ?_ | refine And.intro (fun _ => ?_) (fun _ => ?_) | refine (forceH_eq _ _).mpr ?_) | refine ACall.of_pure (by assumption) (by rfl) ?_ | ((with_reducible show Exists _); refine ⟨_, ACall.of_pure (by assumption) (by rfl) ⟨rfl, rfl⟩, ?_⟩) | ((with_reducible show _ ∧ _ ∧ _); refine ⟨by omega, by omega, ?_⟩) | fail) <;> conv => whnf))
  rotate_left
  · rename_i h; exact absurd (sp_eq.2 rfl) h
  refine ⟨[], by kernel_rfl, ?_⟩
  (conv => whnf); (repeat' ((first | (with_reducible first | refine Box.mk ?_ | refine And.intro (fun _ => ?_) (fun _ => ?_) | refine (forceH_eq _ _).mpr ?_) | refine ACall.of_pure (by assumption) (by rfl) ?_ | ((with_reducible show Exists _); refine ⟨_, ACall.of_pure (by assumption) (by rfl) ⟨rfl, rfl⟩, ?_⟩) | ((with_reducible show _ ∧ _ ∧ _); refine ⟨by omega, by omega, ?_⟩) | fail) <;> conv => whnf))
  · exact weak_to ⟨rfl, trivial⟩ rfl
  all_goals (exfalso; omega)
theorem join_self_over (s : Sp) (l : Ml) (hI : MI s l) (ht : 4611686018427387904 < totM l + totM l) :
    DCall P 16 [.ptr 0 0, .ptr 0 0] (MHat 0 s l) (.int .i64 13) (MHat 0 s l) := by
  have q1 := made_ok s l
  have h1 := hI.tot
  have e1 : IntKind.u64.wrap (4611686018427387904 - (totM l : Int)) = ((4611686018427387904 - totM l : Nat) : Int) := by rw [wrap_u64 (by omega) (by omega)]; omega
  refine DCall.of_awp tok mixed fn16 (Nat.le_of_ble_eq_true rfl) ?_
  (conv => whnf); (repeat' ((first | (with_reducible first | refine Box.mk ?_ | refine And.intro (fun _ => ?_) (fun _ => ?_) | refine (forceH_eq _ _).mpr ?_) | refine ACall.of_pure (by assumption) (by rfl) ?_ | ((with_reducible show Exists _); refine ⟨_, ACall.of_pure (by assumption) (by rfl) ⟨rfl, rfl⟩, ?_⟩) | ((with_reducible show _ ∧ _ ∧ _); refine ⟨by omega, by omega, ?_⟩) | fail) <;> conv => whnf))
  refine aW [0, 1] q1 rfl rfl rfl ?_
  (conv => whnf); (repeat' ((first | (with_reducible first | refine Box.mk ?_ | refine And.intro (fun _ => ?_) (fun _ => ?_) | refine (forceH_eq _ _).mpr ?_) | refine ACall.of_pure (by assumption) (by rfl) ?_ | ((with_reducible show Exists _); refine ⟨_, ACall.of_pure (by assumption) (by rfl) ⟨rfl, rfl⟩, ?_⟩) | ((with_reducible show _ ∧ _ ∧ _); refine ⟨by omega, by omega, ?_⟩) | fail) <;> conv => whnf))
  refine aW [0, 1] q1 rfl rfl rfl ?_
  (conv => whnf); (repeat' ((first | (with_reducible first | refine Box.mk ?_ | refine And.intro (fun _ => ?_) (fun _ => ?_) | refine (forceH_eq _ _).mpr ?_) | refine ACall.of_pure (by assumption) (by rfl) ?_ | ((with_reducible show Exists _); refine ⟨_, ACall.of_pure (by assumption) (by rfl) ⟨rfl, rfl⟩, ?_⟩) | ((with_reducible show _ ∧ _ ∧ _); refine ⟨by omega, by omega, ?_⟩) | fail) <;> conv => whnf))
  refine ⟨[], by kernel_rfl, ?_⟩
  (conv => whnf); (repeat' ((first | (with_reducible first | refine Box.mk ?_ | refine And.intro (fun _ => ?_) (fun _ => ?_) | refine (forceH_eq _ _).mpr ?_) | refine ACall.of_pure (by assumption) (by rfl) ?_ | ((with_reducible show Exists _); refine ⟨_, ACall.of_pure (by assumption) (by rfl) ⟨rfl, rfl⟩, ?_⟩) | ((with_reducible show _ ∧ _ ∧ _); refine ⟨by omega, by omega, ?_⟩) | fail) <;> conv => whnf))
  rotate_left
  · rename_i h; exact absurd (sp_eq.2 rfl) h
  refine ⟨[], by kernel_rfl, ?_⟩
  (conv => whnf); (repeat' ((first | (with_reducible first | refine Box.mk ?_ | refine And.intro (fun _ => ?_) (fun _ => ?_) | refine (forceH_eq _ _).mpr ?_) | refine ACall.of_pure (by assumption) (by rfl) ?_ | ((with_reducible show Exists _); refine ⟨_, ACall.of_pure (by assumption) (by rfl) ⟨rfl, rfl⟩, ?_⟩) | ((with_reducible show _ ∧ _ ∧ _); refine ⟨by omega, by omega, ?_⟩) | fail) <;> conv => whnf))
  · exact weak_to ⟨rfl, trivial⟩ rfl
  all_goals (exfalso; omega)
theorem join_nil (s : Sp) (l : Ml) : DCall P 16 [.nilp, .ptr 0 0] (MHat 0 s l) (.int .i64 6) (MHat 0 s l) := by
  have q1 := made_nil
  refine DCall.of_awp tok mixed fn16 (Nat.le_of_ble_eq_true rfl) ?_
  (conv => whnf); (repeat' ((first | (with_reducible first | refine Box.mk ?_ | refine And.intro (fun _ => ?_) (fun _ => ?_) | refine (forceH_eq _ _).mpr ?_) | refine ACall.of_pure (by assumption) (by rfl) ?_ | ((with_reducible show Exists _); refine ⟨_, ACall.of_pure (by assumption) (by rfl) ⟨rfl, rfl⟩, ?_⟩) | ((with_reducible show _ ∧ _ ∧ _); refine ⟨by omega, by omega, ?_⟩) | fail) <;> conv => whnf))
  exact weak_to ⟨rfl, trivial⟩ rfl

/-! ### filled -/
/-- What is taken of a list, one behind the other. -/
def takeP (s : Sp) (t : Ml) (x : Px × Nat) : Ml := if putE s (putAll t) x.1 x.2 = 0 then t ++ [x] else t
structure TI (s : Sp) (t : Ml) : Prop where
  mi : MI s (putAll t)
theorem putAll_snoc (t : Ml) (x : Px × Nat) : putAll (t ++ [x]) = addM (putAll t) x.1 x.2 := putF_snoc _ _ _
theorem MI.put {s : Sp} {l : Ml} (h : MI s l) {p : Px} {w : Nat} (hp : POk p) (hl : l.length < 65536) (he : putE s l p w = 0) : MI s (addM l p w) := by
  unfold putE at he
  cases hr : leafR s p with
  | false => rw [hr, cond_false] at he; cases he
  | true =>
    rw [hr, cond_true] at he
    by_cases ho : 4611686018427387904 - totM l < w
    · rw [if_pos ho] at he; cases he
    · refine ⟨h.sound, nodup_addM h.nodup _ _, ?_, fun q hq => ?_, ?_, fun q hq => ?_⟩
      · rw [tot_addM]; have := h.tot; omega
      · rcases mem_keys_addM.1 hq with hq | rfl
        · exact h.ok q hq
        · exact hp
      · have := addM_len p w l; omega
      · rcases mem_keys_addM.1 hq with hq | rfl
        · exact h.leaf q hq
        · exact hr
theorem putAll_len (t : Ml) : (putAll t).length ≤ t.length := by
  have := putF_len t []
  simpa using this
theorem TI.take {s : Sp} {t : Ml} (h : TI s t) {x : Px × Nat} (hx : POk x.1) (ht : t.length < 65536) : TI s (takeP s t x) := by
  unfold takeP
  by_cases he : putE s (putAll t) x.1 x.2 = 0
  · rw [if_pos he]
    refine ⟨?_⟩
    rw [putAll_snoc]
    exact h.mi.put hx (Nat.lt_of_le_of_lt (putAll_len t) ht) he
  · rw [if_neg he]; exact h
end Go.Proofs.YtgaohmfmomeflaaGreatDoor
end

section
/- prefix, the document's answer: Cmp. -/
namespace Go.Proofs.YtgaohmfmomeflaaGreatDoor
open Go.Ve

theorem r9less_ok (b : Bool) : PCall P 130 [.bool b] (.int .i64 (bif b then -1 else 1)) := by
  cases b
  all_goals (
    refine PCall.of_awp tok mixed fn130 (Nat.le_of_ble_eq_true rfl) ?_
    (conv => whnf); (repeat' ((first | (with_reducible first | refine Box.mk ?_ | refine And.intro (fun _ => ?_) (fun _ => ?_) | refine (forceH_eq _ _).mpr ?_) | refine ACall.of_pure (by assumption) (by rfl) ?_ | ((with_reducible show Exists _); refine ⟨_, ACall.of_pure (by assumption) (by rfl) ⟨rfl, rfl⟩, ?_⟩) | ((with_reducible show ∃ L, drawR L _ = true ∧ _); refine ⟨[], by kernel_rfl, ?_⟩) | ((with_reducible show _ ∧ _ ∧ _); refine ⟨by omega, by omega, ?_⟩) | fail) <;> conv => whnf))
    rfl)
theorem cmpI_one {a b : Int} (h : b < a) : cmpI a b = 1 := by unfold cmpI; rw [if_neg (by omega), if_pos h]
theorem cp1 {p q : Px} (h : p.a0 < q.a0) : cmpP p q = -1 := by rw [cmpP_lex, lexP, cmpI_neg h]; rfl
theorem cp2 {p q : Px} (h : q.a0 < p.a0) : cmpP p q = 1 := by rw [cmpP_lex, lexP, cmpI_one h]; rfl
theorem cp3 {p q : Px} (h0 : p.a0 = q.a0) (h : p.a1 < q.a1) : cmpP p q = -1 := by rw [cmpP_lex, lexP, cmpI_eq.2 h0, cmpI_neg h]; rfl
theorem cp4 {p q : Px} (h0 : p.a0 = q.a0) (h : q.a1 < p.a1) : cmpP p q = 1 := by rw [cmpP_lex, lexP, cmpI_eq.2 h0, cmpI_one h]; rfl
theorem cp5 {p q : Px} (h0 : p.a0 = q.a0) (h1 : p.a1 = q.a1) (h : p.k0 ≠ q.k0) : cmpP p q = cmpK p.k0 q.k0 := by
  rw [cmpP_lex, lexP, cmpI_eq.2 h0, cmpI_eq.2 h1, if_pos rfl, if_pos rfl, if_neg (fun e => h (cmpK_zero e))]
theorem cp6 {p q : Px} (h0 : p.a0 = q.a0) (h1 : p.a1 = q.a1) (h : p.k0 = q.k0) : cmpP p q = cmpK p.k1 q.k1 := by
  rw [cmpP_lex, lexP, cmpI_eq.2 h0, cmpI_eq.2 h1, if_pos rfl, if_pos rfl, h, cmpK_self, if_pos rfl]
theorem r9Cmp_ok (p q : Px) : PCall P 106 [pxv p, pxv q] (.int .i64 (cmpP p q)) := by
  have c1 := r9less_ok true
  have c2 := r9less_ok false
  have c3 := rCmp_ok p.k0 q.k0
  have c4 := rCmp_ok p.k1 q.k1
  refine PCall.of_awp tok mixed fn106 (Nat.le_of_ble_eq_true rfl) ?_
  (conv => whnf); (repeat' ((first | (with_reducible first | refine Box.mk ?_ | refine And.intro (fun _ => ?_) (fun _ => ?_) | refine (forceH_eq _ _).mpr ?_) | refine ACall.of_pure (by assumption) (by rfl) ?_ | ((with_reducible show Exists _); refine ⟨_, ACall.of_pure (by assumption) (by rfl) ⟨rfl, rfl⟩, ?_⟩) | ((with_reducible show ∃ L, drawR L _ = true ∧ _); refine ⟨[], by kernel_rfl, ?_⟩) | ((with_reducible show _ ∧ _ ∧ _); refine ⟨by omega, by omega, ?_⟩) | fail) <;> conv => whnf))
  all_goals first
    | (rw [cp1 (by omega)]; rfl)
    | (rw [cp2 (by omega)]; rfl)
    | (rw [cp3 (by omega) (by omega)]; rfl)
    | (rw [cp4 (by omega) (by omega)]; rfl)
    | (rw [cp5 (by omega) (by omega) (fun e => absurd (kv_eq.2 e) (by assumption))]; rfl)
    | (rw [cp6 (by omega) (by omega) (kv_eq.1 (by assumption))]; rfl)
end Go.Proofs.YtgaohmfmomeflaaGreatDoor
end

section
/- the document's lists of nodes: weights, places, one more, one less. -/
namespace Go.Proofs.YtgaohmfmomeflaaGreatDoor
open Go.Ve

def nod (x : Px × Nat) : List AV := [.int .i64 x.1.a0, .int .i64 x.1.a1, .int .i64 x.1.k0.kind, .int .i64 x.1.k0.len, .int .u64 ((x.1.k0.n / H64 : Nat) : Int), .int .u64 ((x.1.k0.n % H64 : Nat) : Int), .str x.1.k0.path,
  .int .i64 x.1.k1.kind, .int .i64 x.1.k1.len, .int .u64 ((x.1.k1.n / H64 : Nat) : Int), .int .u64 ((x.1.k1.n % H64 : Nat) : Int), .str x.1.k1.path, .int .u64 (x.2 : Int), .int .u64 0]
def nol (l : Ml) : List (List AV) := l.map nod
theorem nol_len (l : Ml) : (nol l).length = l.length := by simp [nol]
theorem nol_get (l : Ml) (i : Nat) : (nol l)[i]? = (l[i]?).map nod := by simp [nol]
theorem nol_snoc (l : Ml) (x : Px × Nat) : nol l ++ [nod x] = nol (l ++ [x]) := by simp [nol]
theorem nol_app (l r : Ml) : nol l ++ nol r = nol (l ++ r) := by simp [nol]
theorem nol_all (l : Ml) : allLen 14 (nol l) := fun c hc => by
  obtain ⟨x, _, rfl⟩ := List.mem_map.1 hc; rfl
theorem nol_cut (l : Ml) (i : Nat) : List.drop (i : Int).toNat (List.take (nol l).length (nol l)) = nol (l.drop i) := by
  rw [List.take_length, Int.toNat_natCast]; simp [nol, List.map_drop]
theorem nol_cells (l : Ml) : allCells 14 (nol l) := fun c hc => by
  obtain ⟨x, _, rfl⟩ := List.mem_map.1 hc; exact ⟨rfl, rfl⟩
theorem weak_nil1 {N0 : Nat} {s : AS} (L : List (Nat × Bool)) {H1 : Hp} {l1 l2 : List (Nat × AV)} (t sz : Nat) (h0 : 0 < sz) (hok : okL s.H.length L = true) (hpre : preL 0 N0 L = true) (hH : heapOf (gOf L 0) s.H L = H1)
    (h : EnvIs (fun i => renV (gOf L 0) (s.env i)) l1) (hl : NrE H1.length (envL l1) l2) (hh : NrH H1.length H1 H1) : Weak N0 s ⟨envL l2, H1 ++ [.row t sz []]⟩ :=
  (weak_ren_to L hok hpre hH h).trans (weak_nilrow (s := ⟨envL l1, H1⟩) t sz h0 hl hh)

theorem r29Total_ok (l : Ml) (ht : totM l ≤ 9223372036854775808) (hl : l.length ≤ 1000000000) : PCall P 45 [.sl (lcl l)] (.int .u64 (totM l : Int)) := by
  have hlc := lcl_len l
  refine PCall.of_awp tok mixed fn45 (Nat.le_of_ble_eq_true rfl) ?_
  (conv => whnf); (repeat' ((first | (with_reducible first | refine Box.mk ?_ | refine And.intro (fun _ => ?_) (fun _ => ?_) | refine (forceH_eq _ _).mpr ?_) | refine ACall.of_pure (by assumption) (by rfl) ?_ | ((with_reducible show Exists _); refine ⟨_, ACall.of_pure (by assumption) (by rfl) ⟨rfl, rfl⟩, ?_⟩) | ((with_reducible show ∃ L, drawR L _ = true ∧ _); refine ⟨[], by kernel_rfl, ?_⟩) | ((with_reducible show _ ∧ _ ∧ _); refine ⟨by omega, by omega, ?_⟩) | fail) <;> conv => whnf))
  refine aloopH (fun i : Nat => i ≤ l.length) (fun i : Nat => [(0, .sl (lcl l)), (3, .int .u64 (totM (l.take i) : Int)), (4, .int .i64 i)]) (fun _ H => H) (fun i => l.length - i) 0 (Nat.zero_le _) (weak_to ⟨rfl, rfl, rfl, trivial⟩ rfl) ?_
  intro i hi
  (conv => whnf); (repeat' ((first | (with_reducible first | refine Box.mk ?_ | refine And.intro (fun _ => ?_) (fun _ => ?_) | refine (forceH_eq _ _).mpr ?_) | refine ACall.of_pure (by assumption) (by rfl) ?_ | ((with_reducible show Exists _); refine ⟨_, ACall.of_pure (by assumption) (by rfl) ⟨rfl, rfl⟩, ?_⟩) | ((with_reducible show ∃ L, drawR L _ = true ∧ _); refine ⟨[], by kernel_rfl, ?_⟩) | ((with_reducible show _ ∧ _ ∧ _); refine ⟨by omega, by omega, ?_⟩) | fail) <;> conv => whnf))
  · rename_i hlt
    have hlt : i < l.length := by omega
    have hx := List.getElem?_eq_getElem hlt
    have e := tot_step hx
    have e2 := tot_take_le l (i + 1)
    generalize l[i] = x at *
    refine ⟨by omega, lcs x, by rw [Int.toNat_natCast, lcl_get, hx]; rfl, rfl, ?_⟩
    (conv => whnf); (repeat' ((first | (with_reducible first | refine Box.mk ?_ | refine And.intro (fun _ => ?_) (fun _ => ?_) | refine (forceH_eq _ _).mpr ?_) | refine ACall.of_pure (by assumption) (by rfl) ?_ | ((with_reducible show Exists _); refine ⟨_, ACall.of_pure (by assumption) (by rfl) ⟨rfl, rfl⟩, ?_⟩) | ((with_reducible show ∃ L, drawR L _ = true ∧ _); refine ⟨[], by kernel_rfl, ?_⟩) | ((with_reducible show _ ∧ _ ∧ _); refine ⟨by omega, by omega, ?_⟩) | fail) <;> conv => whnf))
    refine ⟨i + 1, hlt, by omega, weak_to ⟨rfl, congrArg (AV.int .u64) ?_, wrap_nat (m := 1) (by omega), trivial⟩ rfl⟩
    show IntKind.u64.wrap ((totM (l.take i) : Int) + (x.2 : Int)) = _
    rw [wrap_u64 (by omega) (by omega), e]; omega
  · have : i = l.length := by omega
    subst this
    rw [List.take_length]; rfl
theorem wgt_step {s : Sp} {p : Px} {L : Ml} {i : Nat} {x : Px × Nat} (h : L[i]? = some x) : wgt s (L.take (i + 1)) p = wgt s (L.take i) p + (bif overP s p x.1 then x.2 else 0) := by
  rw [List.take_add_one, h]
  exact (sumF_app _ _ _).trans (by simp [sumF])
theorem wgt_take_le (s : Sp) (L : Ml) (p : Px) (i : Nat) : wgt s (L.take i) p ≤ totM L := Nat.le_trans (sumF_le _ _) (tot_take_le L i)
theorem r23Weight_ok (s : Sp) (l : Ml) (p : Px) (hp : POk p) (ho : ∀ x ∈ l, POk x.1) (ht : totM l ≤ 9223372036854775808) (hl : l.length ≤ 1000000000) :
    PCall P 76 [spv s, .sl (lcl l), pxv p] (.int .u64 (wgt s l p : Int)) := by
  have hlc := lcl_len l
  refine PCall.of_awp tok mixed fn76 (Nat.le_of_ble_eq_true rfl) ?_
  (conv => whnf); (repeat' ((first | (with_reducible first | refine Box.mk ?_ | refine And.intro (fun _ => ?_) (fun _ => ?_) | refine (forceH_eq _ _).mpr ?_) | refine ACall.of_pure (by assumption) (by rfl) ?_ | ((with_reducible show Exists _); refine ⟨_, ACall.of_pure (by assumption) (by rfl) ⟨rfl, rfl⟩, ?_⟩) | ((with_reducible show ∃ L, drawR L _ = true ∧ _); refine ⟨[], by kernel_rfl, ?_⟩) | ((with_reducible show _ ∧ _ ∧ _); refine ⟨by omega, by omega, ?_⟩) | fail) <;> conv => whnf))
  refine aloopH (fun i : Nat => i ≤ l.length) (fun i : Nat => [(1, .sl (lcl l)), (3, .ptr 0 0), (5, .ptr 1 0), (7, .int .u64 (wgt s (l.take i) p : Int)), (8, .int .i64 i)]) (fun _ H => H) (fun i => l.length - i) 0 (Nat.zero_le _) (weak_to ⟨rfl, rfl, rfl, rfl, rfl, trivial⟩ rfl) ?_
  intro i hi
  (conv => whnf); (repeat' ((first | (with_reducible first | refine Box.mk ?_ | refine And.intro (fun _ => ?_) (fun _ => ?_) | refine (forceH_eq _ _).mpr ?_) | refine ACall.of_pure (by assumption) (by rfl) ?_ | ((with_reducible show Exists _); refine ⟨_, ACall.of_pure (by assumption) (by rfl) ⟨rfl, rfl⟩, ?_⟩) | ((with_reducible show ∃ L, drawR L _ = true ∧ _); refine ⟨[], by kernel_rfl, ?_⟩) | ((with_reducible show _ ∧ _ ∧ _); refine ⟨by omega, by omega, ?_⟩) | fail) <;> conv => whnf))
  · rename_i hlt
    have hlt : i < l.length := by omega
    have hx := List.getElem?_eq_getElem hlt
    have e := wgt_step (s := s) (p := p) hx
    have e2 := wgt_take_le s l p (i + 1)
    have hxo := ho _ (List.mem_of_getElem? hx)
    generalize l[i] = x at *
    have q := r9Over_ok s p x.1 hp hxo
    refine ⟨by omega, lcs x, by rw [Int.toNat_natCast, lcl_get, hx]; rfl, rfl, ?_⟩
    generalize overP s p x.1 = ov at *
    cases ov
    · (conv => whnf); (repeat' ((first | (with_reducible first | refine Box.mk ?_ | refine And.intro (fun _ => ?_) (fun _ => ?_) | refine (forceH_eq _ _).mpr ?_) | refine ACall.of_pure (by assumption) (by rfl) ?_ | ((with_reducible show Exists _); refine ⟨_, ACall.of_pure (by assumption) (by rfl) ⟨rfl, rfl⟩, ?_⟩) | ((with_reducible show ∃ L, drawR L _ = true ∧ _); refine ⟨[], by kernel_rfl, ?_⟩) | ((with_reducible show _ ∧ _ ∧ _); refine ⟨by omega, by omega, ?_⟩) | fail) <;> conv => whnf))
      refine ⟨i + 1, hlt, by omega, weak_ren_to [(0, true), (1, true)] rfl rfl rfl ⟨rfl, rfl, rfl, congrArg (AV.int .u64) ?_, wrap_nat (m := 1) (by omega), trivial⟩⟩
      rw [e]; rfl
    · (conv => whnf); (repeat' ((first | (with_reducible first | refine Box.mk ?_ | refine And.intro (fun _ => ?_) (fun _ => ?_) | refine (forceH_eq _ _).mpr ?_) | refine ACall.of_pure (by assumption) (by rfl) ?_ | ((with_reducible show Exists _); refine ⟨_, ACall.of_pure (by assumption) (by rfl) ⟨rfl, rfl⟩, ?_⟩) | ((with_reducible show ∃ L, drawR L _ = true ∧ _); refine ⟨[], by kernel_rfl, ?_⟩) | ((with_reducible show _ ∧ _ ∧ _); refine ⟨by omega, by omega, ?_⟩) | fail) <;> conv => whnf))
      refine ⟨by omega, lcs x, by rw [Int.toNat_natCast, lcl_get, hx]; rfl, rfl, ?_⟩
      (conv => whnf); (repeat' ((first | (with_reducible first | refine Box.mk ?_ | refine And.intro (fun _ => ?_) (fun _ => ?_) | refine (forceH_eq _ _).mpr ?_) | refine ACall.of_pure (by assumption) (by rfl) ?_ | ((with_reducible show Exists _); refine ⟨_, ACall.of_pure (by assumption) (by rfl) ⟨rfl, rfl⟩, ?_⟩) | ((with_reducible show ∃ L, drawR L _ = true ∧ _); refine ⟨[], by kernel_rfl, ?_⟩) | ((with_reducible show _ ∧ _ ∧ _); refine ⟨by omega, by omega, ?_⟩) | fail) <;> conv => whnf))
      refine ⟨i + 1, hlt, by omega, weak_ren_to [(0, true), (1, true)] rfl rfl rfl ⟨rfl, rfl, rfl, congrArg (AV.int .u64) ?_, wrap_nat (m := 1) (by omega), trivial⟩⟩
      show IntKind.u64.wrap ((wgt s (l.take i) p : Int) + (x.2 : Int)) = _
      rw [cond_true] at e
      rw [wrap_u64 (by omega) (by omega), e]; omega
  · have : i = l.length := by omega
    subst this
    rw [List.take_length]; rfl

/-! ### places -/
theorem r23Place_ok (l : Ml) (p : Px) (k : Nat) (hk : k ≤ l.length) (hb : ∀ j y, j < k → l[j]? = some y → y.1 ≠ p) (ha : ∀ y, l[k]? = some y → y.1 = p) (hl : l.length ≤ 1000000000) :
    PCall P 73 [.sl (nol l), pxv p] (.int .i64 (if k < l.length then (k : Int) else -1)) := by
  have hlc := nol_len l
  refine PCall.of_awp tok mixed fn73 (Nat.le_of_ble_eq_true rfl) ?_
  (conv => whnf); (repeat' ((first | (with_reducible first | refine Box.mk ?_ | refine And.intro (fun _ => ?_) (fun _ => ?_) | refine (forceH_eq _ _).mpr ?_) | refine ACall.of_pure (by assumption) (by rfl) ?_ | ((with_reducible show Exists _); refine ⟨_, ACall.of_pure (by assumption) (by rfl) ⟨rfl, rfl⟩, ?_⟩) | ((with_reducible show ∃ L, drawR L _ = true ∧ _); refine ⟨[], by kernel_rfl, ?_⟩) | ((with_reducible show _ ∧ _ ∧ _); refine ⟨by omega, by omega, ?_⟩) | fail) <;> conv => whnf))
  refine aloopH (fun i : Nat => i ≤ k) (fun i : Nat => [(0, .sl (nol l)), (3, .ptr 0 0), (5, .int .i64 i)]) (fun _ H => H) (fun i => k - i) 0 (Nat.zero_le _) (weak_to ⟨rfl, rfl, rfl, trivial⟩ rfl) ?_
  intro i hi
  (conv => whnf); (repeat' ((first | (with_reducible first | refine Box.mk ?_ | refine And.intro (fun _ => ?_) (fun _ => ?_) | refine (forceH_eq _ _).mpr ?_) | refine ACall.of_pure (by assumption) (by rfl) ?_ | ((with_reducible show Exists _); refine ⟨_, ACall.of_pure (by assumption) (by rfl) ⟨rfl, rfl⟩, ?_⟩) | ((with_reducible show ∃ L, drawR L _ = true ∧ _); refine ⟨[], by kernel_rfl, ?_⟩) | ((with_reducible show _ ∧ _ ∧ _); refine ⟨by omega, by omega, ?_⟩) | fail) <;> conv => whnf))
  · rename_i hlt
    have hlt : i < l.length := by omega
    have hx := List.getElem?_eq_getElem hlt
    have hbi := hb i l[i]
    have hai : i = k → l[i].1 = p := fun e => ha _ (by rw [← e]; exact hx)
    generalize l[i] = x at *
    refine ⟨by omega, nod x, by rw [Int.toNat_natCast, nol_get, hx]; rfl, rfl, ?_⟩
    (conv => whnf); (repeat' ((first | (with_reducible first | refine Box.mk ?_ | refine And.intro (fun _ => ?_) (fun _ => ?_) | refine (forceH_eq _ _).mpr ?_) | refine ACall.of_pure (by assumption) (by rfl) ?_ | ((with_reducible show Exists _); refine ⟨_, ACall.of_pure (by assumption) (by rfl) ⟨rfl, rfl⟩, ?_⟩) | ((with_reducible show ∃ L, drawR L _ = true ∧ _); refine ⟨[], by kernel_rfl, ?_⟩) | ((with_reducible show _ ∧ _ ∧ _); refine ⟨by omega, by omega, ?_⟩) | fail) <;> conv => whnf))
    · rename_i h
      have h2 := px_eq.1 h
      have : i = k := by
        rcases Nat.lt_or_ge i k with h3 | h3
        · exact absurd h2 (hbi h3 hx)
        · omega
      subst this
      rw [if_pos hlt]; rfl
    · rename_i h
      have h2 : x.1 ≠ p := fun e => h (px_eq.2 e)
      have : i < k := by
        rcases Nat.lt_or_ge i k with h3 | h3
        · exact h3
        · exact absurd (hai (by omega)) h2
      exact ⟨i + 1, by omega, by omega, weak_ren_to [(0, true)] rfl rfl rfl ⟨rfl, rfl, wrap_nat (m := 1) (by omega), trivial⟩⟩
  · rw [if_neg (by omega)]; rfl

/-! ### one more, one less -/
theorem insM_take {l : Ml} {x : Px × Nat} {i : Nat} (hi : i ≤ l.length) (h1 : ∀ j y, j < i → l[j]? = some y → cmpP y.1 x.1 < 0) (h2 : ∀ y, l[i]? = some y → ¬ cmpP y.1 x.1 < 0) : nol (l.take i) ++ [nod x] ++ nol (l.drop i) = nol (insM l x) := by
  rw [nol_snoc, nol_app, List.append_assoc]
  exact congrArg nol (insM_at hi h1 h2)
theorem nol_take1 {l : Ml} {i : Nat} {x : Px × Nat} (h : l[i]? = some x) : nol (l.take i) ++ [nod x] = nol (l.take (i + 1)) := by
  rw [List.take_add_one, h]; exact nol_snoc _ _
theorem r23With_ok (l : Ml) (x : Px × Nat) (hl : l.length ≤ 100000000) : PCall P 74 [.sl (nol l), .agg (nod x)] (.sl (nol (insM l x))) := by
  have hlc := nol_len l
  refine PCall.of_awp tok mixed fn74 (Nat.le_of_ble_eq_true rfl) ?_
  (conv => whnf); (repeat' ((first | (with_reducible first | refine Box.mk ?_ | refine And.intro (fun _ => ?_) (fun _ => ?_) | refine (forceH_eq _ _).mpr ?_) | refine ACall.of_pure (by assumption) (by rfl) ?_ | ((with_reducible show Exists _); refine ⟨_, ACall.of_pure (by assumption) (by rfl) ⟨rfl, rfl⟩, ?_⟩) | ((with_reducible show _ ∧ _ ∧ _); refine ⟨by omega, by omega, ?_⟩) | fail) <;> conv => whnf))
  refine aloop (fun i : Nat => i ≤ l.length ∧ ∀ j y, j < i → l[j]? = some y → cmpP y.1 x.1 < 0) (fun i => ⟨envL [(0, .sl (nol l)), (3, .ptr 0 0), (5, .own 1), (6, .int .i64 i)], [.box 103 (nod x)] ++ [Ob.row 103 14 (nol (l.take i))]⟩) (fun i => l.length - i) 0 ⟨Nat.zero_le _, fun j y h => absurd h (Nat.not_lt_zero _)⟩ ?_ ?_
  · exact weak_nil1 [(0, true)] (l1 := [(0, .sl (nol l)), (3, .ptr 0 0), (5, .nils), (6, .int .i64 0)]) (H1 := [.box 103 (nod x)]) 103 14 (by decide) rfl rfl rfl ⟨rfl, rfl, rfl, rfl, trivial⟩ ⟨.inl rfl, .inl rfl, .inr ⟨rfl, rfl⟩, .inl rfl, trivial⟩ ⟨.inl rfl, trivial⟩
  rintro i ⟨hi, hlo⟩
  have htl : (nol (l.take i)).length = i := by rw [nol_len, List.length_take]; omega
  by_cases hlt : i < l.length
  · have hx := List.getElem?_eq_getElem hlt
    have htk := nol_take1 hx
    have hlo2 : cmpP l[i].1 x.1 < 0 → ∀ j y, j < i + 1 → l[j]? = some y → cmpP y.1 x.1 < 0 := fun hc j y hj hy => by
      rcases Nat.lt_or_ge j i with h | h
      · exact hlo j y h hy
      · have : j = i := by omega
        subst this
        rw [hx] at hy
        rw [← Option.some.inj hy]; exact hc
    have hfin : ¬ cmpP l[i].1 x.1 < 0 → nol (l.take i) ++ [nod x] ++ nol (l.drop i) = nol (insM l x) := fun hc => insM_take hi hlo fun y hy => by
      rw [hx] at hy
      rw [← Option.some.inj hy]; exact hc
    generalize l[i] = y at *
    have q := r9Cmp_ok y.1 x.1
    generalize cmpP y.1 x.1 = cc at *
    (conv => whnf); (repeat' ((first | (with_reducible first | refine Box.mk ?_ | refine And.intro (fun _ => ?_) (fun _ => ?_) | refine (forceH_eq _ _).mpr ?_) | refine ACall.of_pure (by assumption) (by rfl) ?_ | ((with_reducible show Exists _); refine ⟨_, ACall.of_pure (by assumption) (by rfl) ⟨rfl, rfl⟩, ?_⟩) | ((with_reducible show _ ∧ _ ∧ _); refine ⟨by omega, by omega, ?_⟩) | fail) <;> conv => whnf))
    refine ⟨[], by kernel_rfl, ?_⟩
    (conv => whnf); (repeat' ((first | (with_reducible first | refine Box.mk ?_ | refine And.intro (fun _ => ?_) (fun _ => ?_) | refine (forceH_eq _ _).mpr ?_) | refine ACall.of_pure (by assumption) (by rfl) ?_ | ((with_reducible show Exists _); refine ⟨_, ACall.of_pure (by assumption) (by rfl) ⟨rfl, rfl⟩, ?_⟩) | ((with_reducible show _ ∧ _ ∧ _); refine ⟨by omega, by omega, ?_⟩) | fail) <;> conv => whnf))
    rotate_left
    · exfalso; rename_i h; have h : ¬ (i : Int) < ((nol l).length : Int) := h; omega
    refine ⟨by omega, nod y, by rw [Int.toNat_natCast, nol_get, hx]; rfl, rfl, ?_⟩
    (conv => whnf); (repeat' ((first | (with_reducible first | refine Box.mk ?_ | refine And.intro (fun _ => ?_) (fun _ => ?_) | refine (forceH_eq _ _).mpr ?_) | refine ACall.of_pure (by assumption) (by rfl) ?_ | ((with_reducible show Exists _); refine ⟨_, ACall.of_pure (by assumption) (by rfl) ⟨rfl, rfl⟩, ?_⟩) | ((with_reducible show _ ∧ _ ∧ _); refine ⟨by omega, by omega, ?_⟩) | fail) <;> conv => whnf))
    · rename_i hc
      refine ⟨by omega, nod y, by rw [Int.toNat_natCast, nol_get, hx]; rfl, rfl, ?_⟩
      (conv => whnf); (repeat' ((first | (with_reducible first | refine Box.mk ?_ | refine And.intro (fun _ => ?_) (fun _ => ?_) | refine (forceH_eq _ _).mpr ?_) | refine ACall.of_pure (by assumption) (by rfl) ?_ | ((with_reducible show Exists _); refine ⟨_, ACall.of_pure (by assumption) (by rfl) ⟨rfl, rfl⟩, ?_⟩) | ((with_reducible show _ ∧ _ ∧ _); refine ⟨by omega, by omega, ?_⟩) | fail) <;> conv => whnf))
      refine ⟨fun c hc => by rw [List.mem_singleton.1 hc]; exact ⟨rfl, rfl⟩, by rw [htl]; show (_ + 1) * 128 ≤ _; omega, by rw [htl]; show _ + 1 ≤ _; omega, ?_⟩
      (conv => whnf); (repeat' ((first | (with_reducible first | refine Box.mk ?_ | refine And.intro (fun _ => ?_) (fun _ => ?_) | refine (forceH_eq _ _).mpr ?_) | refine ACall.of_pure (by assumption) (by rfl) ?_ | ((with_reducible show Exists _); refine ⟨_, ACall.of_pure (by assumption) (by rfl) ⟨rfl, rfl⟩, ?_⟩) | ((with_reducible show _ ∧ _ ∧ _); refine ⟨by omega, by omega, ?_⟩) | fail) <;> conv => whnf))
      refine ⟨i + 1, ⟨hlt, hlo2 hc⟩, by omega, weak_ren_to [(0, true), (3, true)] rfl rfl ?_ ⟨rfl, rfl, rfl, wrap_nat (m := 1) (by omega), trivial⟩⟩
      rw [← htk]; rfl
    · rename_i hc
      refine ⟨fun c hc => by rw [List.mem_singleton.1 hc]; exact ⟨rfl, rfl⟩, by rw [htl]; show (_ + 1) * 128 ≤ _; omega, by rw [htl]; show _ + 1 ≤ _; omega, ?_⟩
      (conv => whnf); (repeat' ((first | (with_reducible first | refine Box.mk ?_ | refine And.intro (fun _ => ?_) (fun _ => ?_) | refine (forceH_eq _ _).mpr ?_) | refine ACall.of_pure (by assumption) (by rfl) ?_ | ((with_reducible show Exists _); refine ⟨_, ACall.of_pure (by assumption) (by rfl) ⟨rfl, rfl⟩, ?_⟩) | ((with_reducible show _ ∧ _ ∧ _); refine ⟨by omega, by omega, ?_⟩) | fail) <;> conv => whnf))
      refine ⟨nol_all l, ?_⟩
      (conv => whnf); (repeat' ((first | (with_reducible first | refine Box.mk ?_ | refine And.intro (fun _ => ?_) (fun _ => ?_) | refine (forceH_eq _ _).mpr ?_) | refine ACall.of_pure (by assumption) (by rfl) ?_ | ((with_reducible show Exists _); refine ⟨_, ACall.of_pure (by assumption) (by rfl) ⟨rfl, rfl⟩, ?_⟩) | ((with_reducible show _ ∧ _ ∧ _); refine ⟨by omega, by omega, ?_⟩) | fail) <;> conv => whnf))
      rw [nol_cut]
      refine ⟨nol_cells _, by rw [List.length_append, htl, nol_len, List.length_drop]; show (i + 1 + _) * 128 ≤ _; omega, by rw [List.length_append, htl, nol_len, List.length_drop]; show i + 1 + _ ≤ _; omega, ?_⟩
      (conv => whnf); (repeat' ((first | (with_reducible first | refine Box.mk ?_ | refine And.intro (fun _ => ?_) (fun _ => ?_) | refine (forceH_eq _ _).mpr ?_) | refine ACall.of_pure (by assumption) (by rfl) ?_ | ((with_reducible show Exists _); refine ⟨_, ACall.of_pure (by assumption) (by rfl) ⟨rfl, rfl⟩, ?_⟩) | ((with_reducible show _ ∧ _ ∧ _); refine ⟨by omega, by omega, ?_⟩) | fail) <;> conv => whnf))
      exact congrArg AV.sl (hfin hc)
  · have : i = l.length := by omega
    subst this
    have hfin : nol (l.take l.length) ++ [nod x] ++ nol (l.drop l.length) = nol (insM l x) := insM_take hi hlo fun y hy => by simp at hy
    (conv => whnf); (repeat' ((first | (with_reducible first | refine Box.mk ?_ | refine And.intro (fun _ => ?_) (fun _ => ?_) | refine (forceH_eq _ _).mpr ?_) | refine ACall.of_pure (by assumption) (by rfl) ?_ | ((with_reducible show Exists _); refine ⟨_, ACall.of_pure (by assumption) (by rfl) ⟨rfl, rfl⟩, ?_⟩) | ((with_reducible show _ ∧ _ ∧ _); refine ⟨by omega, by omega, ?_⟩) | fail) <;> conv => whnf))
    refine ⟨[], by kernel_rfl, ?_⟩
    (conv => whnf); (repeat' ((first | (with_reducible first | refine Box.mk ?_ | refine And.intro (fun _ => ?_) (fun _ => ?_) | refine (forceH_eq _ _).mpr ?_) | refine ACall.of_pure (by assumption) (by rfl) ?_ | ((with_reducible show Exists _); refine ⟨_, ACall.of_pure (by assumption) (by rfl) ⟨rfl, rfl⟩, ?_⟩) | ((with_reducible show _ ∧ _ ∧ _); refine ⟨by omega, by omega, ?_⟩) | fail) <;> conv => whnf))
    · exfalso; rename_i h; have h : ((l.length : Nat) : Int) < ((nol l).length : Int) := h; omega
    refine ⟨fun c hc => by rw [List.mem_singleton.1 hc]; exact ⟨rfl, rfl⟩, by rw [htl]; show (_ + 1) * 128 ≤ _; omega, by rw [htl]; show _ + 1 ≤ _; omega, ?_⟩
    (conv => whnf); (repeat' ((first | (with_reducible first | refine Box.mk ?_ | refine And.intro (fun _ => ?_) (fun _ => ?_) | refine (forceH_eq _ _).mpr ?_) | refine ACall.of_pure (by assumption) (by rfl) ?_ | ((with_reducible show Exists _); refine ⟨_, ACall.of_pure (by assumption) (by rfl) ⟨rfl, rfl⟩, ?_⟩) | ((with_reducible show _ ∧ _ ∧ _); refine ⟨by omega, by omega, ?_⟩) | fail) <;> conv => whnf))
    refine ⟨nol_all l, ?_⟩
    (conv => whnf); (repeat' ((first | (with_reducible first | refine Box.mk ?_ | refine And.intro (fun _ => ?_) (fun _ => ?_) | refine (forceH_eq _ _).mpr ?_) | refine ACall.of_pure (by assumption) (by rfl) ?_ | ((with_reducible show Exists _); refine ⟨_, ACall.of_pure (by assumption) (by rfl) ⟨rfl, rfl⟩, ?_⟩) | ((with_reducible show _ ∧ _ ∧ _); refine ⟨by omega, by omega, ?_⟩) | fail) <;> conv => whnf))
    rw [nol_cut]
    refine ⟨nol_cells _, by rw [List.length_append, htl, nol_len, List.length_drop]; show (l.length + 1 + _) * 128 ≤ _; omega, by rw [List.length_append, htl, nol_len, List.length_drop]; show l.length + 1 + _ ≤ _; omega, ?_⟩
    (conv => whnf); (repeat' ((first | (with_reducible first | refine Box.mk ?_ | refine And.intro (fun _ => ?_) (fun _ => ?_) | refine (forceH_eq _ _).mpr ?_) | refine ACall.of_pure (by assumption) (by rfl) ?_ | ((with_reducible show Exists _); refine ⟨_, ACall.of_pure (by assumption) (by rfl) ⟨rfl, rfl⟩, ?_⟩) | ((with_reducible show _ ∧ _ ∧ _); refine ⟨by omega, by omega, ?_⟩) | fail) <;> conv => whnf))
    exact congrArg AV.sl hfin
theorem r23Without_ok (l : Ml) (k : Nat) (hl : l.length ≤ 100000000) : PCall P 75 [.sl (nol l), .int .i64 (k : Int)] (.sl (nol (l.eraseIdx k))) := by
  have hlc := nol_len l
  refine PCall.of_awp tok mixed fn75 (Nat.le_of_ble_eq_true rfl) ?_
  (conv => whnf); (repeat' ((first | (with_reducible first | refine Box.mk ?_ | refine And.intro (fun _ => ?_) (fun _ => ?_) | refine (forceH_eq _ _).mpr ?_) | refine ACall.of_pure (by assumption) (by rfl) ?_ | ((with_reducible show Exists _); refine ⟨_, ACall.of_pure (by assumption) (by rfl) ⟨rfl, rfl⟩, ?_⟩) | ((with_reducible show _ ∧ _ ∧ _); refine ⟨by omega, by omega, ?_⟩) | fail) <;> conv => whnf))
  refine aloop (fun i : Nat => i ≤ l.length) (fun i => ⟨envL [(0, .sl (nol l)), (1, .int .i64 (k : Int)), (5, .own 0), (6, .int .i64 i)], [] ++ [Ob.row 103 14 (nol (er l k i))]⟩) (fun i => l.length - i) 0 (Nat.zero_le _) ?_ ?_
  · exact weak_nil1 [] (l1 := [(0, .sl (nol l)), (1, .int .i64 (k : Int)), (5, .nils), (6, .int .i64 0)]) (H1 := []) 103 14 (by decide) rfl rfl rfl ⟨rfl, rfl, rfl, rfl, trivial⟩ ⟨.inl rfl, .inl rfl, .inr ⟨rfl, rfl⟩, .inl rfl, trivial⟩ trivial
  intro i hi
  have htl : (nol (er l k i)).length ≤ l.length := by rw [nol_len]; exact er_len _ _ _
  (conv => whnf); (repeat' ((first | (with_reducible first | refine Box.mk ?_ | refine And.intro (fun _ => ?_) (fun _ => ?_) | refine (forceH_eq _ _).mpr ?_) | refine ACall.of_pure (by assumption) (by rfl) ?_ | ((with_reducible show Exists _); refine ⟨_, ACall.of_pure (by assumption) (by rfl) ⟨rfl, rfl⟩, ?_⟩) | ((with_reducible show _ ∧ _ ∧ _); refine ⟨by omega, by omega, ?_⟩) | fail) <;> conv => whnf))
  · rename_i hlt heq
    have hlt : i < l.length := by omega
    have heq : i = k := by have heq : (i : Int) = (k : Int) := heq; omega
    have hst := er_step (i := k) (List.getElem?_eq_getElem hlt)
    rw [if_pos heq, List.append_nil] at hst
    refine ⟨i + 1, hlt, by omega, weak_ren_to [(0, true)] rfl rfl ?_ ⟨rfl, rfl, rfl, wrap_nat (m := 1) (by omega), trivial⟩⟩
    rw [hst]; rfl
  · rename_i hlt hne
    have hlt : i < l.length := by omega
    have hne : ¬ i = k := fun e => hne (by rw [e])
    have hx := List.getElem?_eq_getElem hlt
    have hst := er_step (i := k) hx
    generalize l[i] = y at *
    rw [if_neg hne] at hst
    refine ⟨by omega, nod y, by rw [Int.toNat_natCast, nol_get, hx]; rfl, rfl, ?_⟩
    (conv => whnf); (repeat' ((first | (with_reducible first | refine Box.mk ?_ | refine And.intro (fun _ => ?_) (fun _ => ?_) | refine (forceH_eq _ _).mpr ?_) | refine ACall.of_pure (by assumption) (by rfl) ?_ | ((with_reducible show Exists _); refine ⟨_, ACall.of_pure (by assumption) (by rfl) ⟨rfl, rfl⟩, ?_⟩) | ((with_reducible show _ ∧ _ ∧ _); refine ⟨by omega, by omega, ?_⟩) | fail) <;> conv => whnf))
    refine ⟨fun c hc => by rw [List.mem_singleton.1 hc]; exact ⟨rfl, rfl⟩, by show (_ + 1) * 128 ≤ _; omega, by show _ + 1 ≤ _; omega, ?_⟩
    (conv => whnf); (repeat' ((first | (with_reducible first | refine Box.mk ?_ | refine And.intro (fun _ => ?_) (fun _ => ?_) | refine (forceH_eq _ _).mpr ?_) | refine ACall.of_pure (by assumption) (by rfl) ?_ | ((with_reducible show Exists _); refine ⟨_, ACall.of_pure (by assumption) (by rfl) ⟨rfl, rfl⟩, ?_⟩) | ((with_reducible show _ ∧ _ ∧ _); refine ⟨by omega, by omega, ?_⟩) | fail) <;> conv => whnf))
    refine ⟨i + 1, hlt, by omega, weak_ren_to [(2, true)] rfl rfl ?_ ⟨rfl, rfl, rfl, wrap_nat (m := 1) (by omega), trivial⟩⟩
    rw [hst, ← nol_snoc]; rfl
  · have : i = l.length := by omega
    subst this
    rw [er_full]; rfl
/-! ### added -/
/-- Where a prefix stands that weighs something. -/
theorem loadsM_at {m : Ml} {p : Px} (h : 0 < look m p) : ∃ i : Nat, (loadsM m)[i]? = some (p, look m p) :=
  List.getElem?_of_mem ((loadsM_mem (x := (p, look m p))).2 ⟨rfl, h⟩)
theorem r23Add_ok (m : Ml) (hn : (keysM m).Nodup) (p : Px) (w : Nat) (hw : 0 < w) (ht : look m p + w < 18446744073709551616) (hl : m.length ≤ 10000000) :
    PCall P 46 [.sl (nol (loadsM m)), pxv p, .int .u64 (w : Int), .int .u64 0] (.sl (nol (loadsM (addM m p w)))) := by
  have hll := loadsM_len (l := m)
  have hlc := nol_len (loadsM m)
  by_cases h0 : look m p = 0
  · have q1 := r23Place_ok (loadsM m) p (loadsM m).length (Nat.le_refl _) (fun j y _ hy => loadsM_ne h0 y (List.mem_of_getElem? hy)) (fun y hy => by simp at hy) (by omega)
    rw [if_neg (Nat.lt_irrefl _)] at q1
    have q2 := r23With_ok (loadsM m) (p, w) (by omega)
    rw [add_new hn h0 hw] at q2
    refine PCall.of_awp tok mixed fn46 (Nat.le_of_ble_eq_true rfl) ?_
    (conv => whnf); (repeat' ((first | (with_reducible first | refine Box.mk ?_ | refine And.intro (fun _ => ?_) (fun _ => ?_) | refine (forceH_eq _ _).mpr ?_) | refine ACall.of_pure (by assumption) (by rfl) ?_ | ((with_reducible show Exists _); refine ⟨_, ACall.of_pure (by assumption) (by rfl) ⟨rfl, rfl⟩, ?_⟩) | ((with_reducible show _ ∧ _ ∧ _); refine ⟨by omega, by omega, ?_⟩) | fail) <;> conv => whnf))
    · rfl
    all_goals (exfalso; rename_i h; exact h (by decide))
  · have h1 : 0 < look m p := by omega
    obtain ⟨i, hi⟩ := loadsM_at h1
    have hil := (List.getElem?_eq_some_iff.1 hi).1
    have ho := (loadsM_ord hn).nodup to_cmpL
    have q1 := r23Place_ok (loadsM m) p i (by omega) (fun j y hj hy e => by
      have e2 : y = (p, look m p) := by
        have := (loadsM_mem.1 (List.mem_of_getElem? hy)).1
        rw [e] at this
        obtain ⟨q, v⟩ := y
        rw [Prod.mk.injEq]; exact ⟨e, this⟩
      rw [e2] at hy
      have := (List.getElem?_inj (by omega) ho).1 (hy.trans hi.symm)
      omega) (fun y hy => by rw [hi] at hy; rw [← Option.some.inj hy]) (by omega)
    rw [if_pos hil] at q1
    have q2 := r23Without_ok (loadsM m) i (by omega)
    have q3 := r23With_ok ((loadsM m).eraseIdx i) (p, look m p + w) (by have := List.length_eraseIdx_le (loadsM m) i; omega)
    rw [add_old hn hi] at q3
    have e1 : IntKind.u64.wrap ((look m p : Int) + (w : Int)) = ((look m p + w : Nat) : Int) := by rw [wrap_u64 (by omega) (by omega)]; omega
    unfold nod at q3
    dsimp only at q3
    rw [← e1] at q3
    refine PCall.of_awp tok mixed fn46 (Nat.le_of_ble_eq_true rfl) ?_
    (conv => whnf); (repeat' ((first | (with_reducible first | refine Box.mk ?_ | refine And.intro (fun _ => ?_) (fun _ => ?_) | refine (forceH_eq _ _).mpr ?_) | refine ACall.of_pure (by assumption) (by rfl) ?_ | ((with_reducible show Exists _); refine ⟨_, ACall.of_pure (by assumption) (by rfl) ⟨rfl, rfl⟩, ?_⟩) | ((with_reducible show _ ∧ _ ∧ _); refine ⟨by omega, by omega, ?_⟩) | fail) <;> conv => whnf))
    · exfalso; rename_i h; have h : (i : Int) < 0 := h; omega
    refine ⟨by omega, nod (p, look m p), by rw [Int.toNat_natCast, nol_get, hi]; rfl, rfl, ?_⟩
    (conv => whnf); (repeat' ((first | (with_reducible first | refine Box.mk ?_ | refine And.intro (fun _ => ?_) (fun _ => ?_) | refine (forceH_eq _ _).mpr ?_) | refine ACall.of_pure (by assumption) (by rfl) ?_ | ((with_reducible show Exists _); refine ⟨_, ACall.of_pure (by assumption) (by rfl) ⟨rfl, rfl⟩, ?_⟩) | ((with_reducible show _ ∧ _ ∧ _); refine ⟨by omega, by omega, ?_⟩) | fail) <;> conv => whnf))
    refine ⟨[], by kernel_rfl, ?_⟩
    (conv => whnf); (repeat' ((first | (with_reducible first | refine Box.mk ?_ | refine And.intro (fun _ => ?_) (fun _ => ?_) | refine (forceH_eq _ _).mpr ?_) | refine ACall.of_pure (by assumption) (by rfl) ?_ | ((with_reducible show Exists _); refine ⟨_, ACall.of_pure (by assumption) (by rfl) ⟨rfl, rfl⟩, ?_⟩) | ((with_reducible show _ ∧ _ ∧ _); refine ⟨by omega, by omega, ?_⟩) | fail) <;> conv => whnf))
    rfl
end Go.Proofs.YtgaohmfmomeflaaGreatDoor
end

section
/- model, the document's answer: Put, Join, Weight. -/
namespace Go.Proofs.YtgaohmfmomeflaaGreatDoor
open Go.Ve

/-- The document's model. -/
def rmv (s : Sp) (L : Ml) : AV := .agg [.int .i64 s.n, .int .i64 s.d0.kind, .int .i64 s.d0.side, .int .i64 s.d0.step, .int .i64 s.d1.kind, .int .i64 s.d1.side, .int .i64 s.d1.step, .sl (lcl L)]
def rputL (s : Sp) (L : Ml) (p : Px) (w : Nat) : Ml := if putE s L p w = 0 then L ++ [(p, w)] else L
theorem leafR_iff {s : Sp} {p : Px} (h : rightP s p = true) : leafR s p = decide (p.a0 = 0 ∧ p.a1 = 0) := by
  have hb := right_bounds h
  unfold leafR heightP
  rw [h, cond_true, Bool.true_and]
  exact decide_eq_decide.2 (by omega)
theorem lcl_all (l : Ml) : allCells 13 (lcl l) := fun c hc => by
  obtain ⟨x, _, rfl⟩ := List.mem_map.1 hc; exact ⟨rfl, rfl⟩
theorem r35Put_bad (s : Sp) (L : Ml) (p : Px) (w : Nat) (hp : POk p) (h : leafR s p = false) :
    PCall P 15 [rmv s L, pxv p, .int .u64 (w : Int)] (.tup [rmv s L, .int .i64 1]) := by
  have q1 := r9Right_ok s p hp
  cases hr : rightP s p
  · rw [hr] at q1
    refine PCall.of_awp tok mixed fn15 (Nat.le_of_ble_eq_true rfl) ?_
    (conv => whnf); (repeat' ((first | (with_reducible first | refine Box.mk ?_ | refine And.intro (fun _ => ?_) (fun _ => ?_) | refine (forceH_eq _ _).mpr ?_) | refine ACall.of_pure (by assumption) (by rfl) ?_ | ((with_reducible show Exists _); refine ⟨_, ACall.of_pure (by assumption) (by rfl) ⟨rfl, rfl⟩, ?_⟩) | ((with_reducible show ∃ L, drawR L _ = true ∧ _); refine ⟨[], by kernel_rfl, ?_⟩) | ((with_reducible show _ ∧ _ ∧ _); refine ⟨by omega, by omega, ?_⟩) | fail) <;> conv => whnf))
    rfl
  · rw [hr] at q1
    rw [leafR_iff hr] at h
    have h := of_decide_eq_false h
    refine PCall.of_awp tok mixed fn15 (Nat.le_of_ble_eq_true rfl) ?_
    (conv => whnf); (repeat' ((first | (with_reducible first | refine Box.mk ?_ | refine And.intro (fun _ => ?_) (fun _ => ?_) | refine (forceH_eq _ _).mpr ?_) | refine ACall.of_pure (by assumption) (by rfl) ?_ | ((with_reducible show Exists _); refine ⟨_, ACall.of_pure (by assumption) (by rfl) ⟨rfl, rfl⟩, ?_⟩) | ((with_reducible show _ ∧ _ ∧ _); refine ⟨by omega, by omega, ?_⟩) | fail) <;> conv => whnf))
    all_goals first
      | rfl
      | (exfalso; rename_i h0; exact h h0)
theorem r35Put_over (s : Sp) (L : Ml) (p : Px) (w : Nat) (hp : POk p) (h : leafR s p = true) (ht : totM L ≤ 4611686018427387904) (hl : L.length ≤ 1000000) (hw : 4611686018427387904 - totM L < w) :
    PCall P 15 [rmv s L, pxv p, .int .u64 (w : Int)] (.tup [rmv s L, .int .i64 13]) := by
  have hr : rightP s p = true := by unfold leafR at h; rw [Bool.and_eq_true] at h; exact h.1
  have q1 := r9Right_ok s p hp
  have q2 := r29Total_ok L (by omega) (by omega)
  rw [leafR_iff hr] at h
  have h := of_decide_eq_true h
  rw [hr] at q1
  have e1 : IntKind.u64.wrap (4611686018427387904 - (totM L : Int)) = ((4611686018427387904 - totM L : Nat) : Int) := by rw [wrap_u64 (by omega) (by omega)]; omega
  refine PCall.of_awp tok mixed fn15 (Nat.le_of_ble_eq_true rfl) ?_
  (conv => whnf); (repeat' ((first | (with_reducible first | refine Box.mk ?_ | refine And.intro (fun _ => ?_) (fun _ => ?_) | refine (forceH_eq _ _).mpr ?_) | refine ACall.of_pure (by assumption) (by rfl) ?_ | ((with_reducible show Exists _); refine ⟨_, ACall.of_pure (by assumption) (by rfl) ⟨rfl, rfl⟩, ?_⟩) | ((with_reducible show _ ∧ _ ∧ _); refine ⟨by omega, by omega, ?_⟩) | fail) <;> conv => whnf))
  all_goals first
    | rfl
    | (exfalso; omega)
theorem r35Put_good (s : Sp) (L : Ml) (p : Px) (w : Nat) (hp : POk p) (h : leafR s p = true) (ht : totM L ≤ 4611686018427387904) (hl : L.length ≤ 1000000) (hw : w ≤ 4611686018427387904 - totM L) :
    DCall P 15 [rmv s L, pxv p, .int .u64 (w : Int)] [] (.tup [rmv s (L ++ [(p, w)]), .int .i64 0]) [] := by
  have hr : rightP s p = true := by unfold leafR at h; rw [Bool.and_eq_true] at h; exact h.1
  have q1 := r9Right_ok s p hp
  have q2 := r29Total_ok L (by omega) (by omega)
  rw [leafR_iff hr] at h
  have h := of_decide_eq_true h
  rw [hr] at q1
  have e1 : IntKind.u64.wrap (4611686018427387904 - (totM L : Int)) = ((4611686018427387904 - totM L : Nat) : Int) := by rw [wrap_u64 (by omega) (by omega)]; omega
  have hlc := lcl_len L
  refine DCall.of_awp tok mixed fn15 (Nat.le_of_ble_eq_true rfl) ?_
  (conv => whnf); (repeat' ((first | (with_reducible first | refine Box.mk ?_ | refine And.intro (fun _ => ?_) (fun _ => ?_) | refine (forceH_eq _ _).mpr ?_) | refine ACall.of_pure (by assumption) (by rfl) ?_ | ((with_reducible show Exists _); refine ⟨_, ACall.of_pure (by assumption) (by rfl) ⟨rfl, rfl⟩, ?_⟩) | ((with_reducible show _ ∧ _ ∧ _); refine ⟨by omega, by omega, ?_⟩) | fail) <;> conv => whnf))
  all_goals try (exfalso; omega)
  refine ⟨[(2007, []), (3002, [0]), (3004, [0, 3])], by kernel_rfl, ?_⟩
  (conv => whnf); (repeat' ((first | (with_reducible first | refine Box.mk ?_ | refine And.intro (fun _ => ?_) (fun _ => ?_) | refine (forceH_eq _ _).mpr ?_) | refine ACall.of_pure (by assumption) (by rfl) ?_ | ((with_reducible show Exists _); refine ⟨_, ACall.of_pure (by assumption) (by rfl) ⟨rfl, rfl⟩, ?_⟩) | ((with_reducible show _ ∧ _ ∧ _); refine ⟨by omega, by omega, ?_⟩) | fail) <;> conv => whnf))
  (refine And.intro ?_ ?_); (focus ((conv => whnf); (repeat' first | exact trivial | ((refine And.intro ?_ ?_); (focus ((conv => whnf); (first | exact ⟨rfl, rfl⟩ | exact ⟨by decide, by decide, rfl, rfl⟩ | exact ⟨by omega, by omega, rfl, rfl⟩ | exact ⟨by (simp only [List.length_drop, List.length_take]; omega), rfl, rfl⟩ | exact ⟨_, rfl, rfl, rfl⟩ | exact ⟨by omega, _, by assumption, rfl, rfl, rfl⟩ | ((refine ACall.of_pure (by assumption) (by rfl) ?_); (refine And.intro ?_ ?_ <;> rfl))))); (conv => whnf)))))
  (conv => whnf); (repeat' ((first | (with_reducible first | refine Box.mk ?_ | refine And.intro (fun _ => ?_) (fun _ => ?_) | refine (forceH_eq _ _).mpr ?_) | refine ACall.of_pure (by assumption) (by rfl) ?_ | ((with_reducible show Exists _); refine ⟨_, ACall.of_pure (by assumption) (by rfl) ⟨rfl, rfl⟩, ?_⟩) | ((with_reducible show _ ∧ _ ∧ _); refine ⟨by omega, by omega, ?_⟩) | fail) <;> conv => whnf))
  refine ⟨lcl_all L, by show (0 + (lcl L).length) * 120 ≤ _; omega, by show 0 + (lcl L).length ≤ _; omega, ?_⟩
  (conv => whnf); (repeat' ((first | (with_reducible first | refine Box.mk ?_ | refine And.intro (fun _ => ?_) (fun _ => ?_) | refine (forceH_eq _ _).mpr ?_) | refine ACall.of_pure (by assumption) (by rfl) ?_ | ((with_reducible show Exists _); refine ⟨_, ACall.of_pure (by assumption) (by rfl) ⟨rfl, rfl⟩, ?_⟩) | ((with_reducible show _ ∧ _ ∧ _); refine ⟨by omega, by omega, ?_⟩) | fail) <;> conv => whnf))
  (refine And.intro ?_ ?_); (focus ((conv => whnf); (repeat' first | exact trivial | ((refine And.intro ?_ ?_); (focus ((conv => whnf); (first | exact ⟨rfl, rfl⟩ | exact ⟨by decide, by decide, rfl, rfl⟩ | exact ⟨by omega, by omega, rfl, rfl⟩ | exact ⟨by (simp only [List.length_drop, List.length_take]; omega), rfl, rfl⟩ | exact ⟨_, rfl, rfl, rfl⟩ | exact ⟨by omega, _, by assumption, rfl, rfl, rfl⟩ | ((refine ACall.of_pure (by assumption) (by rfl) ?_); (refine And.intro ?_ ?_ <;> rfl))))); (conv => whnf)))))
  (conv => whnf); (repeat' ((first | (with_reducible first | refine Box.mk ?_ | refine And.intro (fun _ => ?_) (fun _ => ?_) | refine (forceH_eq _ _).mpr ?_) | refine ACall.of_pure (by assumption) (by rfl) ?_ | ((with_reducible show Exists _); refine ⟨_, ACall.of_pure (by assumption) (by rfl) ⟨rfl, rfl⟩, ?_⟩) | ((with_reducible show _ ∧ _ ∧ _); refine ⟨by omega, by omega, ?_⟩) | fail) <;> conv => whnf))
  refine ⟨fun c hc => by rw [List.mem_singleton.1 hc]; exact ⟨rfl, rfl⟩, by show ((lcl L).length + 1) * 120 ≤ _; omega, by show (lcl L).length + 1 ≤ _; omega, ?_⟩
  (conv => whnf); (repeat' ((first | (with_reducible first | refine Box.mk ?_ | refine And.intro (fun _ => ?_) (fun _ => ?_) | refine (forceH_eq _ _).mpr ?_) | refine ACall.of_pure (by assumption) (by rfl) ?_ | ((with_reducible show Exists _); refine ⟨_, ACall.of_pure (by assumption) (by rfl) ⟨rfl, rfl⟩, ?_⟩) | ((with_reducible show _ ∧ _ ∧ _); refine ⟨by omega, by omega, ?_⟩) | fail) <;> conv => whnf))
  unfold rmv
  rw [← lcl_snoc]
  exact weak_cr 5 [] rfl rfl rfl rfl rfl
theorem DCall.pure {f : FuncId} {args : List AV} {r : AV} (h : PCall P f args r) (hc : args.all closedA = true) : DCall P f args [] r [] := ACall.of_pure h hc ⟨rfl, rfl⟩
theorem r35Put_ok (s : Sp) (L : Ml) (p : Px) (w : Nat) (hp : POk p) (ht : totM L ≤ 4611686018427387904) (hl : L.length ≤ 1000000) :
    DCall P 15 [rmv s L, pxv p, .int .u64 (w : Int)] [] (.tup [rmv s (rputL s L p w), .int .i64 (putE s L p w)]) [] := by
  unfold rputL putE
  cases hr : leafR s p
  · rw [cond_false, if_neg (by decide)]
    exact DCall.pure (r35Put_bad s L p w hp hr) rfl
  · rw [cond_true]
    by_cases ho : 4611686018427387904 - totM L < w
    · rw [if_pos ho, if_neg (by decide)]
      exact DCall.pure (r35Put_over s L p w hp hr ht hl ho) rfl
    · rw [if_neg ho, if_pos rfl]
      exact r35Put_good s L p w hp hr ht hl (by omega)
/-! ### Join -/
theorem r35Join_ok (s : Sp) (L L' : Ml) (ht : totM L ≤ 4611686018427387904) (hl : L.length ≤ 1000000) (ht' : totM L' ≤ 4611686018427387904) (hl' : L'.length ≤ 1000000) :
    DCall P 17 [rmv s L, rmv s L'] [] (.tup [rmv s (if totM L + totM L' ≤ 4611686018427387904 then L ++ L' else L), .int .i64 (if totM L + totM L' ≤ 4611686018427387904 then 0 else 13)]) [] := by
  have q1 := r29Total_ok L (by omega) (by omega)
  have q2 := r29Total_ok L' (by omega) (by omega)
  have e1 : IntKind.u64.wrap ((totM L : Int) + (totM L' : Int)) = ((totM L + totM L' : Nat) : Int) := by rw [wrap_u64 (by omega) (by omega)]; omega
  have hlc := lcl_len L
  have hlc' := lcl_len L'
  by_cases ho : totM L + totM L' ≤ 4611686018427387904
  · rw [if_pos ho, if_pos ho]
    refine DCall.of_awp tok mixed fn17 (Nat.le_of_ble_eq_true rfl) ?_
    (conv => whnf); (repeat' ((first | (with_reducible first | refine Box.mk ?_ | refine And.intro (fun _ => ?_) (fun _ => ?_) | refine (forceH_eq _ _).mpr ?_) | refine ACall.of_pure (by assumption) (by rfl) ?_ | ((with_reducible show Exists _); refine ⟨_, ACall.of_pure (by assumption) (by rfl) ⟨rfl, rfl⟩, ?_⟩) | ((with_reducible show _ ∧ _ ∧ _); refine ⟨by omega, by omega, ?_⟩) | fail) <;> conv => whnf))
    all_goals try (exfalso; rename_i h; exact h ⟨rfl, rfl, rfl, rfl, rfl, rfl, rfl⟩)
    refine ⟨[], by kernel_rfl, ?_⟩
    (conv => whnf); (repeat' ((first | (with_reducible first | refine Box.mk ?_ | refine And.intro (fun _ => ?_) (fun _ => ?_) | refine (forceH_eq _ _).mpr ?_) | refine ACall.of_pure (by assumption) (by rfl) ?_ | ((with_reducible show Exists _); refine ⟨_, ACall.of_pure (by assumption) (by rfl) ⟨rfl, rfl⟩, ?_⟩) | ((with_reducible show _ ∧ _ ∧ _); refine ⟨by omega, by omega, ?_⟩) | fail) <;> conv => whnf))
    · exfalso; omega
    refine ⟨[(3002, [0]), (3005, [0, 3])], by kernel_rfl, ?_⟩
    (conv => whnf); (repeat' ((first | (with_reducible first | refine Box.mk ?_ | refine And.intro (fun _ => ?_) (fun _ => ?_) | refine (forceH_eq _ _).mpr ?_) | refine ACall.of_pure (by assumption) (by rfl) ?_ | ((with_reducible show Exists _); refine ⟨_, ACall.of_pure (by assumption) (by rfl) ⟨rfl, rfl⟩, ?_⟩) | ((with_reducible show _ ∧ _ ∧ _); refine ⟨by omega, by omega, ?_⟩) | fail) <;> conv => whnf))
    (refine And.intro ?_ ?_); (focus ((conv => whnf); (repeat' first | exact trivial | ((refine And.intro ?_ ?_); (focus ((conv => whnf); (first | exact ⟨rfl, rfl⟩ | exact ⟨by decide, by decide, rfl, rfl⟩ | exact ⟨by omega, by omega, rfl, rfl⟩ | exact ⟨by (simp only [List.length_drop, List.length_take]; omega), rfl, rfl⟩ | exact ⟨_, rfl, rfl, rfl⟩ | exact ⟨by omega, _, by assumption, rfl, rfl, rfl⟩ | ((refine ACall.of_pure (by assumption) (by rfl) ?_); (refine And.intro ?_ ?_ <;> rfl))))); (conv => whnf)))))
    (conv => whnf); (repeat' ((first | (with_reducible first | refine Box.mk ?_ | refine And.intro (fun _ => ?_) (fun _ => ?_) | refine (forceH_eq _ _).mpr ?_) | refine ACall.of_pure (by assumption) (by rfl) ?_ | ((with_reducible show Exists _); refine ⟨_, ACall.of_pure (by assumption) (by rfl) ⟨rfl, rfl⟩, ?_⟩) | ((with_reducible show _ ∧ _ ∧ _); refine ⟨by omega, by omega, ?_⟩) | fail) <;> conv => whnf))
    refine ⟨lcl_all L, by show (0 + (lcl L).length) * 120 ≤ _; omega, by show 0 + (lcl L).length ≤ _; omega, ?_⟩
    (conv => whnf); (repeat' ((first | (with_reducible first | refine Box.mk ?_ | refine And.intro (fun _ => ?_) (fun _ => ?_) | refine (forceH_eq _ _).mpr ?_) | refine ACall.of_pure (by assumption) (by rfl) ?_ | ((with_reducible show Exists _); refine ⟨_, ACall.of_pure (by assumption) (by rfl) ⟨rfl, rfl⟩, ?_⟩) | ((with_reducible show _ ∧ _ ∧ _); refine ⟨by omega, by omega, ?_⟩) | fail) <;> conv => whnf))
    (refine And.intro ?_ ?_); (focus ((conv => whnf); (repeat' first | exact trivial | ((refine And.intro ?_ ?_); (focus ((conv => whnf); (first | exact ⟨rfl, rfl⟩ | exact ⟨by decide, by decide, rfl, rfl⟩ | exact ⟨by omega, by omega, rfl, rfl⟩ | exact ⟨by (simp only [List.length_drop, List.length_take]; omega), rfl, rfl⟩ | exact ⟨_, rfl, rfl, rfl⟩ | exact ⟨by omega, _, by assumption, rfl, rfl, rfl⟩ | ((refine ACall.of_pure (by assumption) (by rfl) ?_); (refine And.intro ?_ ?_ <;> rfl))))); (conv => whnf)))))
    (conv => whnf); (repeat' ((first | (with_reducible first | refine Box.mk ?_ | refine And.intro (fun _ => ?_) (fun _ => ?_) | refine (forceH_eq _ _).mpr ?_) | refine ACall.of_pure (by assumption) (by rfl) ?_ | ((with_reducible show Exists _); refine ⟨_, ACall.of_pure (by assumption) (by rfl) ⟨rfl, rfl⟩, ?_⟩) | ((with_reducible show _ ∧ _ ∧ _); refine ⟨by omega, by omega, ?_⟩) | fail) <;> conv => whnf))
    refine ⟨lcl_all L', by show ((lcl L).length + (lcl L').length) * 120 ≤ _; omega, by show (lcl L).length + (lcl L').length ≤ _; omega, ?_⟩
    (conv => whnf); (repeat' ((first | (with_reducible first | refine Box.mk ?_ | refine And.intro (fun _ => ?_) (fun _ => ?_) | refine (forceH_eq _ _).mpr ?_) | refine ACall.of_pure (by assumption) (by rfl) ?_ | ((with_reducible show Exists _); refine ⟨_, ACall.of_pure (by assumption) (by rfl) ⟨rfl, rfl⟩, ?_⟩) | ((with_reducible show _ ∧ _ ∧ _); refine ⟨by omega, by omega, ?_⟩) | fail) <;> conv => whnf))
    unfold rmv
    rw [show lcl (L ++ L') = lcl L ++ lcl L' from List.map_append]
    exact weak_cr 5 [] rfl rfl rfl rfl rfl
  · rw [if_neg ho, if_neg ho]
    refine DCall.pure ?_ rfl
    refine PCall.of_awp tok mixed fn17 (Nat.le_of_ble_eq_true rfl) ?_
    (conv => whnf); (repeat' ((first | (with_reducible first | refine Box.mk ?_ | refine And.intro (fun _ => ?_) (fun _ => ?_) | refine (forceH_eq _ _).mpr ?_) | refine ACall.of_pure (by assumption) (by rfl) ?_ | ((with_reducible show Exists _); refine ⟨_, ACall.of_pure (by assumption) (by rfl) ⟨rfl, rfl⟩, ?_⟩) | ((with_reducible show _ ∧ _ ∧ _); refine ⟨by omega, by omega, ?_⟩) | fail) <;> conv => whnf))
    all_goals try (exfalso; rename_i h; exact h ⟨rfl, rfl, rfl, rfl, rfl, rfl, rfl⟩)
    refine ⟨[], by kernel_rfl, ?_⟩
    (conv => whnf); (repeat' ((first | (with_reducible first | refine Box.mk ?_ | refine And.intro (fun _ => ?_) (fun _ => ?_) | refine (forceH_eq _ _).mpr ?_) | refine ACall.of_pure (by assumption) (by rfl) ?_ | ((with_reducible show Exists _); refine ⟨_, ACall.of_pure (by assumption) (by rfl) ⟨rfl, rfl⟩, ?_⟩) | ((with_reducible show _ ∧ _ ∧ _); refine ⟨by omega, by omega, ?_⟩) | fail) <;> conv => whnf))
    · rfl
    all_goals (exfalso; omega)
theorem r35Weight_ok (s : Sp) (L : Ml) (p : Px) (hp : POk p) (ho : ∀ x ∈ L, POk x.1) (ht : totM L ≤ 9223372036854775808) (hl : L.length ≤ 1000000000) :
    PCall P 47 [rmv s L, pxv p] (.int .u64 (wgt s L p : Int)) := by
  have q1 := r23Weight_ok s L p hp ho ht hl
  refine PCall.of_awp tok mixed fn47 (Nat.le_of_ble_eq_true rfl) ?_
  (conv => whnf); (repeat' ((first | (with_reducible first | refine Box.mk ?_ | refine And.intro (fun _ => ?_) (fun _ => ?_) | refine (forceH_eq _ _).mpr ?_) | refine ACall.of_pure (by assumption) (by rfl) ?_ | ((with_reducible show Exists _); refine ⟨_, ACall.of_pure (by assumption) (by rfl) ⟨rfl, rfl⟩, ?_⟩) | ((with_reducible show ∃ L, drawR L _ = true ∧ _); refine ⟨[], by kernel_rfl, ?_⟩) | ((with_reducible show _ ∧ _ ∧ _); refine ⟨by omega, by omega, ?_⟩) | fail) <;> conv => whnf))
  rfl
/-! ### Loads -/
theorem putAll_step {L : Ml} {i : Nat} {x : Px × Nat} (h : L[i]? = some x) : putAll (L.take (i + 1)) = addM (putAll (L.take i)) x.1 x.2 := by
  rw [List.take_add_one, h]; exact putF_snoc _ _ _
theorem loadsM_nil : loadsM [] = [] := List.eq_nil_of_length_eq_zero (Nat.le_zero.1 (loadsM_len (l := [])))
theorem loadsM_zero {m : Ml} (hn : (keysM m).Nodup) (p : Px) : loadsM (addM m p 0) = loadsM m := loadsM_ext (nodup_addM hn _ _) hn fun q => by
  rw [look_addM, ite_self, Nat.add_zero]
theorem r35Loads_ok (s : Sp) (L : Ml) (ht : totM L ≤ 9223372036854775808) (hl : L.length ≤ 1000000) :
    PCall P 18 [rmv s L] (.sl (lcl (loadsM (putAll L)))) := by
  have hlc := lcl_len L
  refine PCall.of_awp tok mixed fn18 (Nat.le_of_ble_eq_true rfl) ?_
  (conv => whnf); (repeat' ((first | (with_reducible first | refine Box.mk ?_ | refine And.intro (fun _ => ?_) (fun _ => ?_) | refine (forceH_eq _ _).mpr ?_) | refine ACall.of_pure (by assumption) (by rfl) ?_ | ((with_reducible show Exists _); refine ⟨_, ACall.of_pure (by assumption) (by rfl) ⟨rfl, rfl⟩, ?_⟩) | ((with_reducible show _ ∧ _ ∧ _); refine ⟨by omega, by omega, ?_⟩) | fail) <;> conv => whnf))
  refine aloop (fun i : Nat => i ≤ L.length) (fun i => ⟨envL [(1, .ptr 0 0), (3, .sl (nol (loadsM (putAll (L.take i))))), (4, .int .i64 i)], [.box 42 [.int .i64 s.n, .int .i64 s.d0.kind, .int .i64 s.d0.side, .int .i64 s.d0.step, .int .i64 s.d1.kind, .int .i64 s.d1.side, .int .i64 s.d1.step, .sl (lcl L)]]⟩) (fun i => L.length - i) 0 (Nat.zero_le _) (weak_le ⟨.inl rfl, .inr ⟨rfl, by rw [List.take_zero, show loadsM (putAll []) = [] from loadsM_nil]; rfl⟩, .inl rfl, trivial⟩ rfl) ?_
  intro i hi
  (conv => whnf); (repeat' ((first | (with_reducible first | refine Box.mk ?_ | refine And.intro (fun _ => ?_) (fun _ => ?_) | refine (forceH_eq _ _).mpr ?_) | refine ACall.of_pure (by assumption) (by rfl) ?_ | ((with_reducible show Exists _); refine ⟨_, ACall.of_pure (by assumption) (by rfl) ⟨rfl, rfl⟩, ?_⟩) | ((with_reducible show _ ∧ _ ∧ _); refine ⟨by omega, by omega, ?_⟩) | fail) <;> conv => whnf))
  · rename_i hlt
    have hlt : i < L.length := by omega
    have hx := List.getElem?_eq_getElem hlt
    have hst := putAll_step hx
    have e := tot_step hx
    have e2 := tot_take_le L (i + 1)
    have hlk : look (putAll (L.take i)) L[i].1 ≤ totM (putAll (L.take i)) := look_le _
    have hta : totM (putAll (L.take i)) = totM (L.take i) := sumF_putAll _ _
    have hpl := putAll_len (L.take i)
    rw [List.length_take] at hpl
    generalize L[i] = x at *
    refine ⟨by omega, lcs x, by rw [Int.toNat_natCast, lcl_get, hx]; rfl, rfl, ?_⟩
    (conv => whnf); (repeat' ((first | (with_reducible first | refine Box.mk ?_ | refine And.intro (fun _ => ?_) (fun _ => ?_) | refine (forceH_eq _ _).mpr ?_) | refine ACall.of_pure (by assumption) (by rfl) ?_ | ((with_reducible show Exists _); refine ⟨_, ACall.of_pure (by assumption) (by rfl) ⟨rfl, rfl⟩, ?_⟩) | ((with_reducible show _ ∧ _ ∧ _); refine ⟨by omega, by omega, ?_⟩) | fail) <;> conv => whnf))
    rotate_left
    · rename_i h
      have h : x.2 = 0 := by have h : ¬ (0 : Int) < (x.2 : Int) := h; omega
      rw [h] at hst
      exact ⟨i + 1, hlt, by omega, weak_to ⟨rfl, by rw [hst, loadsM_zero (nodup_putAll _)]; rfl, wrap_nat (m := 1) (by omega), trivial⟩ rfl⟩
    rename_i hxw
    have hxw : 0 < x.2 := by have hxw : (0 : Int) < (x.2 : Int) := hxw; omega
    have q := r23Add_ok (putAll (L.take i)) (nodup_putAll _) x.1 x.2 hxw (by omega) (by omega)
    rw [← hst] at q
    refine ⟨[], by kernel_rfl, ?_⟩
    (conv => whnf); (repeat' ((first | (with_reducible first | refine Box.mk ?_ | refine And.intro (fun _ => ?_) (fun _ => ?_) | refine (forceH_eq _ _).mpr ?_) | refine ACall.of_pure (by assumption) (by rfl) ?_ | ((with_reducible show Exists _); refine ⟨_, ACall.of_pure (by assumption) (by rfl) ⟨rfl, rfl⟩, ?_⟩) | ((with_reducible show _ ∧ _ ∧ _); refine ⟨by omega, by omega, ?_⟩) | fail) <;> conv => whnf))
    refine ⟨by omega, lcs x, by rw [Int.toNat_natCast, lcl_get, hx]; rfl, rfl, ?_⟩
    (conv => whnf); (repeat' ((first | (with_reducible first | refine Box.mk ?_ | refine And.intro (fun _ => ?_) (fun _ => ?_) | refine (forceH_eq _ _).mpr ?_) | refine ACall.of_pure (by assumption) (by rfl) ?_ | ((with_reducible show Exists _); refine ⟨_, ACall.of_pure (by assumption) (by rfl) ⟨rfl, rfl⟩, ?_⟩) | ((with_reducible show _ ∧ _ ∧ _); refine ⟨by omega, by omega, ?_⟩) | fail) <;> conv => whnf))
    refine ⟨by omega, lcs x, by rw [Int.toNat_natCast, lcl_get, hx]; rfl, rfl, ?_⟩
    (conv => whnf); (repeat' ((first | (with_reducible first | refine Box.mk ?_ | refine And.intro (fun _ => ?_) (fun _ => ?_) | refine (forceH_eq _ _).mpr ?_) | refine ACall.of_pure (by assumption) (by rfl) ?_ | ((with_reducible show Exists _); refine ⟨_, ACall.of_pure (by assumption) (by rfl) ⟨rfl, rfl⟩, ?_⟩) | ((with_reducible show _ ∧ _ ∧ _); refine ⟨by omega, by omega, ?_⟩) | fail) <;> conv => whnf))
    exact ⟨i + 1, hlt, by omega, weak_to ⟨rfl, rfl, wrap_nat (m := 1) (by omega), trivial⟩ rfl⟩
  · rename_i hlt
    have : i = L.length := by omega
    subst this
    rw [List.take_length]
    have hWl := loadsM_len (l := putAll L)
    have hpl := putAll_len L
    generalize loadsM (putAll L) = W at *
    have hnl := nol_len W
    (conv => whnf); (repeat' ((first | (with_reducible first | refine Box.mk ?_ | refine And.intro (fun _ => ?_) (fun _ => ?_) | refine (forceH_eq _ _).mpr ?_) | refine ACall.of_pure (by assumption) (by rfl) ?_ | ((with_reducible show Exists _); refine ⟨_, ACall.of_pure (by assumption) (by rfl) ⟨rfl, rfl⟩, ?_⟩) | ((with_reducible show _ ∧ _ ∧ _); refine ⟨by omega, by omega, ?_⟩) | fail) <;> conv => whnf))
    refine aloop (fun k : Nat => k ≤ W.length) (fun k => ⟨envL [(3, .sl (nol W)), (5, .own 0), (6, .int .i64 k)], [] ++ [Ob.row 46 13 (lcl (W.take k))]⟩) (fun k => W.length - k) 0 (Nat.zero_le _) ?_ ?_
    · exact weak_nil1 [] (l1 := [(3, .sl (nol W)), (5, .nils), (6, .int .i64 0)]) (H1 := []) 46 13 (by decide) rfl rfl rfl ⟨rfl, rfl, rfl, trivial⟩ ⟨.inl rfl, .inr ⟨rfl, rfl⟩, .inl rfl, trivial⟩ trivial
    intro k hk
    have htl : (lcl (W.take k)).length = k := by rw [lcl_len, List.length_take]; omega
    (conv => whnf); (repeat' ((first | (with_reducible first | refine Box.mk ?_ | refine And.intro (fun _ => ?_) (fun _ => ?_) | refine (forceH_eq _ _).mpr ?_) | refine ACall.of_pure (by assumption) (by rfl) ?_ | ((with_reducible show Exists _); refine ⟨_, ACall.of_pure (by assumption) (by rfl) ⟨rfl, rfl⟩, ?_⟩) | ((with_reducible show _ ∧ _ ∧ _); refine ⟨by omega, by omega, ?_⟩) | fail) <;> conv => whnf))
    · rename_i hlt
      have hlt : k < W.length := by omega
      have hx := List.getElem?_eq_getElem hlt
      have hst : lcl (W.take (k + 1)) = lcl (W.take k) ++ [lcs W[k]] := by rw [List.take_add_one, hx]; exact (lcl_snoc _ _).symm
      generalize W[k] = x at *
      refine ⟨[], by kernel_rfl, ?_⟩
      (conv => whnf); (repeat' ((first | (with_reducible first | refine Box.mk ?_ | refine And.intro (fun _ => ?_) (fun _ => ?_) | refine (forceH_eq _ _).mpr ?_) | refine ACall.of_pure (by assumption) (by rfl) ?_ | ((with_reducible show Exists _); refine ⟨_, ACall.of_pure (by assumption) (by rfl) ⟨rfl, rfl⟩, ?_⟩) | ((with_reducible show _ ∧ _ ∧ _); refine ⟨by omega, by omega, ?_⟩) | fail) <;> conv => whnf))
      refine ⟨by omega, nod x, by rw [Int.toNat_natCast, nol_get, hx]; rfl, rfl, ?_⟩
      (conv => whnf); (repeat' ((first | (with_reducible first | refine Box.mk ?_ | refine And.intro (fun _ => ?_) (fun _ => ?_) | refine (forceH_eq _ _).mpr ?_) | refine ACall.of_pure (by assumption) (by rfl) ?_ | ((with_reducible show Exists _); refine ⟨_, ACall.of_pure (by assumption) (by rfl) ⟨rfl, rfl⟩, ?_⟩) | ((with_reducible show _ ∧ _ ∧ _); refine ⟨by omega, by omega, ?_⟩) | fail) <;> conv => whnf))
      refine ⟨by omega, nod x, by rw [Int.toNat_natCast, nol_get, hx]; rfl, rfl, ?_⟩
      (conv => whnf); (repeat' ((first | (with_reducible first | refine Box.mk ?_ | refine And.intro (fun _ => ?_) (fun _ => ?_) | refine (forceH_eq _ _).mpr ?_) | refine ACall.of_pure (by assumption) (by rfl) ?_ | ((with_reducible show Exists _); refine ⟨_, ACall.of_pure (by assumption) (by rfl) ⟨rfl, rfl⟩, ?_⟩) | ((with_reducible show _ ∧ _ ∧ _); refine ⟨by omega, by omega, ?_⟩) | fail) <;> conv => whnf))
      refine ⟨fun c hc => by rw [List.mem_singleton.1 hc]; exact ⟨rfl, rfl⟩, by rw [htl]; show (_ + 1) * 120 ≤ _; omega, by rw [htl]; show _ + 1 ≤ _; omega, ?_⟩
      (conv => whnf); (repeat' ((first | (with_reducible first | refine Box.mk ?_ | refine And.intro (fun _ => ?_) (fun _ => ?_) | refine (forceH_eq _ _).mpr ?_) | refine ACall.of_pure (by assumption) (by rfl) ?_ | ((with_reducible show Exists _); refine ⟨_, ACall.of_pure (by assumption) (by rfl) ⟨rfl, rfl⟩, ?_⟩) | ((with_reducible show _ ∧ _ ∧ _); refine ⟨by omega, by omega, ?_⟩) | fail) <;> conv => whnf))
      refine ⟨k + 1, hlt, by omega, weak_ren_to [(2, true)] rfl rfl ?_ ⟨rfl, rfl, wrap_nat (m := 1) (by omega), trivial⟩⟩
      rw [hst]; rfl
    · rename_i hlt
      have : k = W.length := by omega
      subst this
      rw [List.take_length]; rfl
end Go.Proofs.YtgaohmfmomeflaaGreatDoor
end

section
/- prefix: what must come of fixed calls. -/
namespace Go.Proofs.YtgaohmfmomeflaaGreatDoor
open Go.Ve

end Go.Proofs.YtgaohmfmomeflaaGreatDoor
end

section
/- prefix: the outright statements' walks. -/
namespace Go.Proofs.YtgaohmfmomeflaaGreatDoor
open Go.Ve

theorem zero_ok : POk zeroP := ⟨Nat.two_pow_pos 128, Nat.two_pow_pos 128, Nat.zero_le _, Nat.zero_le _⟩
end Go.Proofs.YtgaohmfmomeflaaGreatDoor
end
