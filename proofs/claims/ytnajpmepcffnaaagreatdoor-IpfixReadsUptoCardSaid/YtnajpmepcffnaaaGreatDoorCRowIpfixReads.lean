/- The statement IpfixReads: the row and its card. -/
import Derived.Test.YtnajpmepcffnaaaGreatDoorXlc
import Derived.Test.YtnajpmepcffnaaaGreatDoorXWit
import Derived.Test.YtnajpmepcffnaaaGreatDoorXUpto
import Derived.Test.YtnajpmepcffnaaaGreatDoorCards
import Derived.SevenTiedAt
namespace Go.Proofs.YtnajpmepcffnaaaGreatDoor.ipfixReadsUpto
open Go.ChangeShapes Go.WideShapes Go.ChangeAt Go.RowKit Go.Ve

abbrev F : FuncId := 3
theorem witness_row (os : Os) {H : Type} (enc : TypeId × Value → H) :
    (Rows.OpenSpec.upto Rows.ipfixReadsSpec).preRow enc Tryz.prog Tryz.f3 Rows.ipfixReadsUptoRow.domain false Rows.ipfixReadsUptoRow.laid ((laidWorld os).forCall (fun _ _ => 0) ⟨#[], #[.slice none 0 0], []⟩).memory #[.slice none 0 0] := by
  have hw : (DataW.whole enc Tryz.prog ((laidWorld os).forCall (fun _ _ => 0) ⟨#[], #[.slice none 0 0], []⟩).memory Tryz.f3.params.toList Rows.ipfixReadsSpec.vars false #[(.slice none 0 0 : Value)].toList 8).map (fun x => (x.1, x.2.1)) =
      some ([.nil], []) := by kernel_rfl
  obtain ⟨⟨x1, x2, x3⟩, hx, hx1⟩ := Option.map_eq_some_iff.1 hw
  simp only [Prod.mk.injEq] at hx1
  obtain ⟨rfl, rfl⟩ := hx1
  exact OpenSpec.preRow_of_cond 8 hx (by kernel_rfl) (fun k hk => by cases hk; kernel_rfl) (by kernel_rfl) (laid_met os _)

set_option maxRecDepth 100000 in
set_option maxHeartbeats 2000000 in
theorem lifted (os : Os) (started : os.Started) (H : Type) (enc : TypeId × Value → H) (Fi : Stop.Interp) :
    ReturnsInHanded {} Tryz.checked os F .any ((Rows.OpenSpec.upto Rows.ipfixReadsSpec).preRow enc Tryz.prog Tryz.f3 Rows.ipfixReadsUptoRow.domain false Rows.ipfixReadsUptoRow.laid) (((Rows.OpenSpec.upto Rows.ipfixReadsSpec).at Fi).post enc Tryz.prog Tryz.f3 false true false false) := by
  refine returnsInHanded_of_row (C := Tryz.checked) (s := Rows.OpenSpec.upto Rows.ipfixReadsSpec) own started (by kernel_rfl) Tryz.func3
    (witness_row_atRef (enc := enc) (C := Tryz.checked) false (laidWorld os) #[.slice none 0 0] rfl (by kernel_rfl) (by kernel_rfl) (by kernel_rfl) (witness_row os enc)) ?_
  intro W base args ds gs before hval hW _ hcond _ _ hsh _
  exact law_contract (d := 6) (ts := #[22]) (tb := 4) tok okUpto laidOut Tryz.params3 rfl Tryz.underlying4 rfl (by kernel_rfl) rfl (fun ds h => by
      match ds, h with
      | [d0], _ => rfl) IpfixReads_args (fun b hb => by
    obtain ⟨m, hm⟩ := maxLen_cell W hsh
    cases hb
    exact ⟨m, hm⟩) hval hW (ok_of_small (hcond _ rfl))

theorem said : Rows.IpfixReadsUptoSaid :=
  OpenClaim.holds_of_cond F Tryz.f3 rfl rfl rfl rfl rfl rfl rfl ⟨rfl, rfl, rfl, rfl, rfl⟩ rfl rfl rfl rfl rfl (by kernel_rfl) Tryz.func3 (by kernel_rfl)
    (of_decide_eq_true (by kernel_rfl)) (by unfold Func.isWrapper; rw [if_neg (of_decide_eq_false (by kernel_rfl))]; exact ⟨rfl, rfl⟩)
    (fun os started H enc _ Fi => by rw [OpenClaim.pre_eq_preRow]; exact lifted os started H enc Fi)

theorem plain (f : FuncId) (fn : Func) (hf : Tryz.pinned.checked.prog.funcNamed "cribble/cribblelaw17.IpfixReads" = some f) (hfn : Tryz.pinned.checked.prog.funcs[f]? = some fn) :
    false = Tryz.pinned.checked.prog.looks [] ∧ ∀ (j : Nat) t, fn.params[j]? = some t → Tryz.pinned.checked.prog.wantsStandIn t = false := by
  obtain rfl : f = F := Option.some.inj ((show Tryz.prog.funcNamed "cribble/cribblelaw17.IpfixReads" = some F by kernel_rfl).symm.trans hf) |>.symm
  obtain rfl : fn = Tryz.f3 := (Option.some.inj (Tryz.func3.symm.trans hfn)).symm
  refine ⟨by kernel_rfl, fun j t ht => ?_⟩
  rw [Tryz.params3] at ht
  have hm := Array.mem_of_getElem? ht
  have hall : (#[22].all fun t => Tryz.prog.wantsStandIn t == false) = true := by kernel_rfl
  have := Array.all_eq_true_iff_forall_mem.1 hall t hm
  exact (show Tryz.prog.wantsStandIn t = false by simpa using this)

theorem card : Rows.IpfixReadsUptoCardSaid :=
  Claim7.holds_tied_plain_at .later [] _ _ _ _ said (fun _ h => by cases h) (by kernel_rfl) (fun _ h => by cases h) ipfixReadsUpto_row_tie rfl ⟨rfl, rfl⟩ (by kernel_rfl) rfl plain (by kernel_rfl)
end Go.Proofs.YtnajpmepcffnaaaGreatDoor.ipfixReadsUpto
