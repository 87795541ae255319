/- The law IdentSorted holds for every input: it returns true and leaves its arguments as they were. -/
import Derived.Test.YtallacbjeajpoaaDoorRows
import Derived.Test.YtallacbjeajpoaaDoorRow
import Derived.Test.YtallacbjeajpoaaDoorTie
import Derived.Test.YtallacbjeajpoaaDoorCards
import Derived.Test.YtallacbjeajpoaaDoorWkD
import Derived.WalkKit
import Derived.ProofKit
import Derived.OpenShut
import Derived.ShutString
import Derived.ChangeOld
import Derived.Below
import Derived.SizedLaws
import Derived.Carry
import Derived.SevenTiedAt
import Derived.Test.YtallacbjeajpoaaDoorWSized
import Derived.Test.YtallacbjeajpoaaDoorRead
namespace Go.Proofs.YtallacbjeajpoaaDoor.identSorted
open Go.ChangeShapes Go.WideShapes Go.ChangeAt Go.RowKit Go.Proofs.YtallacbjeajpoaaDoor.Ext
open Go.ChangeMaps (open_string shut_string)
set_option maxRecDepth 100000
theorem lawLaid (os : Os) (args : Array Value) : laidMetH Tryd.prog Rows.identSortedRow.laid ((World.laidAll Tryd.prog os Rows.identSortedRow.laid).forCall (fun _ _ => 0) ⟨#[], args, []⟩).memory :=
  laidMet_laidAll args (by kernel_rfl) (by kernel_rfl)
theorem lifted (os : Os) (started : os.Started) (H : Type) (enc : TypeId × Value → H) :
    ReturnsInHanded {} Tryd.checked os 7 .any (fun w args => (Rows.identSortedSpec.pre enc Tryd.prog Tryd.f7 [] false w args ∧ laidMetH Tryd.prog Rows.identSortedRow.laid w) ∧ sizedMet enc Tryd.prog Tryd.f7 (OpenSpec.ofChange Rows.identSortedSpec) false w args) (Rows.identSortedSpec.post enc Tryd.prog Tryd.f7 false true false false) := by
  refine lifted_both (C := Tryd.checked) (X := fun w _ => laidMetH Tryd.prog Rows.identSortedRow.laid w) (fun _ _ _ hh h => h.of_heap hh) ownKnob_none started (by kernel_rfl) Tryd.func7
    (ChangeSpec.witness_at (enc := enc) (C := Tryd.checked) (os := os) (X := fun w _ => laidMetH Tryd.prog Rows.identSortedRow.laid w) false (World.laidAll Tryd.prog os Rows.identSortedRow.laid) #[.slice none 0 0] 12 (World.laidAll_os _ _ _) (by kernel_rfl) (by kernel_rfl) (by kernel_rfl) (by kernel_rfl) (by kernel_rfl) (lawLaid os _)) ?_
  intro W base args ds gs before hval0 hW hsz0 hsh0 _
  have hsz : (DataW.weightsEach Tryd.prog (Tryd.f7.params.toList ++ Rows.identSortedSpec.plain.varTypes Tryd.prog) (ds ++ gs)).all (· ≤ reachBytes) = true := hsz0
  have hval : ∀ (j : Nat) t v, Tryd.f7.params[j]? = some t → args[j]? = some v → Value.okWide Tryd.prog W .any base t v := hval0
  have hW' := hW
  obtain ⟨p, q, hA0, hV, rfl, hfz, hnd⟩ := hW
  have hA : DataW.TrodAll enc Tryd.prog W 0 (fun _ => true) true Tryd.f7.params.toList args.toList ds p := hA0
  rw [Tryd.params7] at hA hval hsz
  obtain ⟨v0, vs0, d0, ds0, p0, q0, hargs, rfl, rfl, h0, r0⟩ := trodAll_cons hA
  obtain ⟨rfl, rfl, rfl⟩ := trodAll_nil r0
  obtain rfl : args = #[v0] := by cases args; simp_all
  obtain ⟨rfl, rfl⟩ := trodVars_none hV
  have hsh : Sh W := sh_of_shaped hsh0
  have k0 := h0
  have lt0 : ∀ x ∈ p0, x.block < W.heap.size := by obtain ⟨m, hm⟩ := k0; exact DataW.trod_lt m _ _ _ hm
  obtain ⟨A0, c0, l0, rfl, cl0, rc0⟩ := strings_read Tryd.underlying25 Tryd.underlying9 (by kernel_rfl) (hval 0 25 v0 rfl rfl) h0
  clear hA0 hval0 hsz0 hsz
  refine (IdentSorted_walk W A0 c0 l0 rc0 cl0 hsh).mono fun e W' ⟨he, bel⟩ => ?_
  subst he
  exact ⟨_, rfl, _, _, _, [], _, [], hW', trodAll_mk1 (shut_bool Tryd.underlying4 _), (trodAll_cons_mk (Below.trod laidOutOk (by kernel_rfl) (of_decide_eq_true (by kernel_rfl)) k0 bel lt0) trodAll_mk0), rfl, bel.frame _, fun h => by cases h⟩
theorem over : Rows.IdentSortedSaid :=
  OpenClaim.holds_of_wide 7 Tryd.f7 rfl rfl rfl rfl rfl rfl rfl ⟨rfl, rfl, rfl, rfl, rfl⟩ rfl rfl rfl rfl rfl (by kernel_rfl) Tryd.func7 (by kernel_rfl)
    (of_decide_eq_true (by kernel_rfl)) (by unfold Func.isWrapper; rw [if_neg (of_decide_eq_false (by kernel_rfl))]; exact ⟨rfl, rfl⟩)
    (fun os started H enc _ => lifted os started H enc)
end Go.Proofs.YtallacbjeajpoaaDoor.identSorted
namespace Go.Proofs.YtallacbjeajpoaaDoor
set_option maxRecDepth 100000
theorem identSorted_card : Rows.IdentSortedCardSaid :=
  Claim7.holds_tied_plain_at .later [] [.data, .pinned] true (true, "9d31489c8e31cae2d4db894ad80949852d2dac325a427f08f7697643815e960b") false
    identSorted.over (fun _ h => by cases h) (by kernel_rfl) (fun _ h => by cases h) identSorted_row_tie rfl ⟨rfl, rfl⟩ (by kernel_rfl) rfl
    (fun f fn hf hfn => by
      obtain rfl : f = 7 := Option.some.inj ((show Tryd.prog.funcNamed "dancestudio/dancestudiolaw05.IdentSorted" = some 7 by kernel_rfl).symm.trans hf) |>.symm
      obtain rfl : fn = Tryd.f7 := (Option.some.inj (Tryd.func7.symm.trans hfn)).symm
      exact ⟨by kernel_rfl, fun j t ht => by
        rw [Tryd.params7] at ht
        have hall : ([25] : List Nat).all (fun t => Tryd.prog.wantsStandIn t == false) = true := by kernel_rfl
        have hm : t ∈ ([25] : List Nat) := by
          have := List.mem_of_getElem? (l := [25]) (i := j) (by simpa using ht)
          exact this
        exact beq_iff_eq.1 (List.all_eq_true.1 hall t hm)⟩)
    (by kernel_rfl)
#print axioms identSorted_card
end Go.Proofs.YtallacbjeajpoaaDoor
