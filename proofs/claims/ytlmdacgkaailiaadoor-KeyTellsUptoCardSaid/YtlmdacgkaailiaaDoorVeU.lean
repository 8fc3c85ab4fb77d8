/- An abstract weakest precondition: the test for drawn regions, with the waits as masks. -/
import Derived.Test.YtlmdacgkaailiaaDoorVeT
namespace Go.Ve

def testB (m j : Nat) : Bool := Nat.beq (Nat.land (Nat.shiftRight m j) 1) 1
theorem testB_eq (m j : Nat) : testB m j = m.testBit j := by
  have h : Nat.land (Nat.shiftRight m j) 1 = m / 2 ^ j % 2 := by
    show (m >>> j) &&& 1 = _
    rw [Nat.and_one_is_mod, Nat.shiftRight_eq_div_pow]
  unfold testB
  rw [h, Nat.testBit_eq_decide_div_mod_eq]
  rcases Nat.mod_two_eq_zero_or_one (m / 2 ^ j) with h | h <;> rw [h] <;> rfl

def waitsM (ops : List Oper) : List Nat :=
  ops.foldl (fun acc o => acc ++ [(o.after.toList.filter (Region.binds .any)).foldl (fun m e => Nat.lor (Nat.shiftLeft 1 e.on) (Nat.lor ((acc[e.on]?).getD 0) m)) 0]) []

def MaskOf (l : List Nat) (m : Nat) : Prop := ∀ j, l.contains j = m.testBit j
theorem mask_edge {acc : List (List Nat)} {accM : List Nat} (h : ∀ i : Nat, MaskOf ((acc[i]?).getD []) ((accM[i]?).getD 0)) : ∀ (es : List Edge) (l : List Nat) (m : Nat), MaskOf l m →
    MaskOf (es.foldl (fun l e => e.on :: ((acc[e.on]?).getD [] ++ l)) l) (es.foldl (fun m e => Nat.lor (Nat.shiftLeft 1 e.on) (Nat.lor ((accM[e.on]?).getD 0) m)) m)
  | [], _, _, hl => hl
  | e :: es, l, m, hl => by
    refine mask_edge h es _ _ fun j => ?_
    show (e.on :: ((acc[e.on]?).getD [] ++ l)).contains j = ((1 <<< e.on) ||| (((accM[e.on]?).getD 0) ||| m)).testBit j
    rw [Nat.testBit_or, Nat.testBit_or, ← h e.on j, ← hl j, Nat.one_shiftLeft, Nat.testBit_two_pow]
    rw [Bool.eq_iff_iff, List.contains_iff_mem, List.mem_cons, List.mem_append, Bool.or_eq_true, Bool.or_eq_true, List.contains_iff_mem, List.contains_iff_mem, decide_eq_true_iff]
    exact ⟨fun h => h.imp_left Eq.symm, fun h => h.imp_left Eq.symm⟩
theorem mask_go : ∀ (rest : List Oper) (acc : List (List Nat)) (accM : List Nat), acc.length = accM.length → (∀ i : Nat, MaskOf ((acc[i]?).getD []) ((accM[i]?).getD 0)) →
    ∀ i : Nat, MaskOf (((rest.foldl (fun acc o => acc ++ [(o.after.toList.filter (Region.binds .any)).foldl (fun l e => e.on :: ((acc[e.on]?).getD [] ++ l)) []]) acc)[i]?).getD [])
      (((rest.foldl (fun acc o => acc ++ [(o.after.toList.filter (Region.binds .any)).foldl (fun m e => Nat.lor (Nat.shiftLeft 1 e.on) (Nat.lor ((acc[e.on]?).getD 0) m)) 0]) accM)[i]?).getD 0)
  | [], _, _, _, h => h
  | o :: rest, acc, accM, hl, h => by
    refine mask_go rest _ _ (by simp [hl]) fun i => ?_
    by_cases hi : i < acc.length
    · rw [List.getElem?_append_left hi, List.getElem?_append_left (by omega)]; exact h i
    · rw [List.getElem?_append_right (by omega), List.getElem?_append_right (by omega)]
      by_cases hi' : i = acc.length
      · rw [← hl, hi', Nat.sub_self]
        exact mask_edge h _ [] 0 (fun j => by simp)
      · rw [List.getElem?_eq_none (by simp; omega), List.getElem?_eq_none (by simp; omega)]
        exact fun j => by simp
theorem waits_mask (ops : List Oper) (i : Nat) : MaskOf (((waits ops)[i]?).getD []) (((waitsM ops)[i]?).getD 0) :=
  mask_go ops [] [] rfl (fun i j => by simp) i

def drawG (V : Nat → Nat → Bool) (ops : List Oper) : Bool :=
  let ix := (List.range ops.length).zip ops
  ix.all fun (i, o) =>
    (o.after.toList.all fun e => !Region.binds .any e || Nat.blt e.on i) &&
    ix.all fun (j, p) =>
      (Nat.beq i j ||
        ((match p.dst with
          | some d => (!(looks ops o).contains d || (Nat.blt j i && V i j)) && (o.dst != some d)
          | none => true) &&
        (!(Nat.blt j i) || !((Nat.beq (heapUse o.op) 2 && !Nat.beq (heapUse p.op) 0) || (Nat.beq (heapUse p.op) 2 && !Nat.beq (heapUse o.op) 0)) || V i j)))
def drawM (ops : List Oper) : Bool := drawG (fun i j => testB (((waitsM ops)[i]?).getD 0) j) ops
/-- The same test, with masks: small for the kernel. -/
theorem drawOk_of {ops : List Oper} (h : drawM ops = true) : drawOk ops = true := by
  have e : (fun i j : Nat => testB (((waitsM ops)[i]?).getD 0) j) = fun i j : Nat => (((waits ops)[i]?).getD []).contains j := by
    funext i j; rw [testB_eq, waits_mask ops i j]
  unfold drawM at h
  rw [e] at h
  exact h
end Go.Ve
