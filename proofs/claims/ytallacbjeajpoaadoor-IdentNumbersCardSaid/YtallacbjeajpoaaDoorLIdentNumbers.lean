/- The law IdentNumbers holds for every input: it returns true and leaves its arguments as they were. -/
import Derived.Test.YtallacbjeajpoaaDoorRows
import Derived.Test.YtallacbjeajpoaaDoorRow
import Derived.Test.YtallacbjeajpoaaDoorTie
import Derived.Test.YtallacbjeajpoaaDoorCards
import Derived.Test.YtallacbjeajpoaaDoorWkF
import Derived.WalkKit
import Derived.ProofKit
import Derived.OpenShut
import Derived.ShutString
import Derived.ChangeOld
import Derived.Below
import Derived.SizedLaws
import Derived.Carry
import Derived.SevenTiedAt
import Derived.MakeChecks
namespace Go.Proofs.YtallacbjeajpoaaDoor.identNumbers
open Go.ChangeShapes Go.WideShapes Go.ChangeAt Go.RowKit Go.Proofs.YtallacbjeajpoaaDoor.Ext
open Go.ChangeMaps (open_string shut_string)
set_option maxRecDepth 100000
theorem lawLaid (os : Os) (args : Array Value) : laidMetH Tryd.prog Rows.identNumbersRow.laid ((World.laidAll Tryd.prog os Rows.identNumbersRow.laid).forCall (fun _ _ => 0) ⟨#[], args, []⟩).memory :=
  laidMet_laidAll args (by kernel_rfl) (by kernel_rfl)
theorem lifted (os : Os) (started : os.Started) (H : Type) (enc : TypeId × Value → H) :
    ReturnsInHanded {} Tryd.checked os 9 .any (fun w args => (Rows.identNumbersSpec.pre enc Tryd.prog Tryd.f9 [] false w args ∧ laidMetH Tryd.prog Rows.identNumbersRow.laid w) ∧ sizedMet enc Tryd.prog Tryd.f9 (OpenSpec.ofChange Rows.identNumbersSpec) false w args) (Rows.identNumbersSpec.post enc Tryd.prog Tryd.f9 false true false false) := by
  refine lifted_both (C := Tryd.checked) (X := fun w _ => laidMetH Tryd.prog Rows.identNumbersRow.laid w) (fun _ _ _ hh h => h.of_heap hh) ownKnob_none started (by kernel_rfl) Tryd.func9
    (ChangeSpec.witness_at (enc := enc) (C := Tryd.checked) (os := os) (X := fun w _ => laidMetH Tryd.prog Rows.identNumbersRow.laid w) false (World.laidAll Tryd.prog os Rows.identNumbersRow.laid) #[.int .u32 0, .int .u32 0, .int .u8 0] 12 (World.laidAll_os _ _ _) (by kernel_rfl) (by kernel_rfl) (by kernel_rfl) (by kernel_rfl) (by kernel_rfl) (lawLaid os _)) ?_
  intro W base args ds gs before hval0 hW hsz0 hsh0 hX
  have hsz : (DataW.weightsEach Tryd.prog (Tryd.f9.params.toList ++ Rows.identNumbersSpec.plain.varTypes Tryd.prog) (ds ++ gs)).all (· ≤ reachBytes) = true := hsz0
  have hval : ∀ (j : Nat) t v, Tryd.f9.params[j]? = some t → args[j]? = some v → Value.okWide Tryd.prog W .any base t v := hval0
  have hW' := hW
  obtain ⟨p, q, hA0, hV, rfl, hfz, hnd⟩ := hW
  have hA : DataW.TrodAll enc Tryd.prog W 0 (fun _ => true) true Tryd.f9.params.toList args.toList ds p := hA0
  rw [Tryd.params9] at hA hval hsz
  obtain ⟨v0, vs0, d0, ds0, p0, q0, hargs, rfl, rfl, h0, r0⟩ := trodAll_cons hA
  obtain ⟨v1, vs1, d1, ds1, p1, q1, rfl, rfl, rfl, h1, r1⟩ := trodAll_cons r0
  obtain ⟨v2, vs2, d2, ds2, p2, q2, rfl, rfl, rfl, h2, r2⟩ := trodAll_cons r1
  obtain ⟨rfl, rfl, rfl⟩ := trodAll_nil r2
  obtain rfl : args = #[v0, v1, v2] := by cases args; simp_all
  obtain ⟨rfl, rfl⟩ := trodVars_none hV
  have hsh : Sh W := sh_of_shaped hsh0
  rw [MakeChecks.laidMetH_plain _ _ _ (by kernel_rfl)] at hX
  have htb := tb_laid hX
  obtain ⟨a0, rfl, rfl, rfl, w0⟩ := open_int Tryd.underlying44 (hval 0 44 v0 rfl rfl) h0
  obtain ⟨a1, rfl, rfl, rfl, w1⟩ := open_int Tryd.underlying44 (hval 1 44 v1 rfl rfl) h1
  obtain ⟨a2, rfl, rfl, rfl, w2⟩ := open_int Tryd.underlying5 (hval 2 5 v2 rfl rfl) h2
  clear hA0 hval0 hsz0 hsz
  refine (IdentNumbers_walk a0 w0 a1 w1 a2 w2 W hsh htb).mono fun e W' ⟨he, bel⟩ => ?_
  subst he
  exact ⟨_, rfl, _, _, _, [], _, [], hW', trodAll_mk1 (shut_bool Tryd.underlying4 _), (trodAll_cons_mk (shut_int Tryd.underlying44 w0) (trodAll_cons_mk (shut_int Tryd.underlying44 w1) (trodAll_cons_mk (shut_int Tryd.underlying5 w2) trodAll_mk0))), rfl, bel.frame _, fun h => by cases h⟩
theorem over : Rows.IdentNumbersSaid :=
  OpenClaim.holds_of_wide 9 Tryd.f9 rfl rfl rfl rfl rfl rfl rfl ⟨rfl, rfl, rfl, rfl, rfl⟩ rfl rfl rfl rfl rfl (by kernel_rfl) Tryd.func9 (by kernel_rfl)
    (of_decide_eq_true (by kernel_rfl)) (by unfold Func.isWrapper; rw [if_neg (of_decide_eq_false (by kernel_rfl))]; exact ⟨rfl, rfl⟩)
    (fun os started H enc _ => lifted os started H enc)
end Go.Proofs.YtallacbjeajpoaaDoor.identNumbers
namespace Go.Proofs.YtallacbjeajpoaaDoor
set_option maxRecDepth 100000
theorem identNumbers_card : Rows.IdentNumbersCardSaid :=
  Claim7.holds_tied_plain_at .later [] [.data, .data, .data, .data, .pinned] true (true, "9d31489c8e31cae2d4db894ad80949852d2dac325a427f08f7697643815e960b") false
    identNumbers.over (fun _ h => by cases h) (by kernel_rfl) (fun _ h => by cases h) identNumbers_row_tie rfl ⟨rfl, rfl⟩ (by kernel_rfl) rfl
    (fun f fn hf hfn => by
      obtain rfl : f = 9 := Option.some.inj ((show Tryd.prog.funcNamed "dancestudio/dancestudiolaw05.IdentNumbers" = some 9 by kernel_rfl).symm.trans hf) |>.symm
      obtain rfl : fn = Tryd.f9 := (Option.some.inj (Tryd.func9.symm.trans hfn)).symm
      exact ⟨by kernel_rfl, fun j t ht => by
        rw [Tryd.params9] at ht
        have hall : ([44, 44, 5] : List Nat).all (fun t => Tryd.prog.wantsStandIn t == false) = true := by kernel_rfl
        have hm : t ∈ ([44, 44, 5] : List Nat) := by
          have := List.mem_of_getElem? (l := [44, 44, 5]) (i := j) (by simpa using ht)
          exact this
        exact beq_iff_eq.1 (List.all_eq_true.1 hall t hm)⟩)
    (by kernel_rfl)
#print axioms identNumbers_card
end Go.Proofs.YtallacbjeajpoaaDoor
