/- The law IdentFull holds for every input: it returns true and leaves its arguments as they were. -/
import Derived.Test.YtallacbjeajpoaaDoorRows
import Derived.Test.YtallacbjeajpoaaDoorRow
import Derived.Test.YtallacbjeajpoaaDoorTie
import Derived.Test.YtallacbjeajpoaaDoorCards
import Derived.Test.YtallacbjeajpoaaDoorWkG
import Derived.WalkKit
import Derived.ProofKit
import Derived.OpenShut
import Derived.ShutString
import Derived.ChangeOld
import Derived.Below
import Derived.SizedLaws
import Derived.Carry
import Derived.SevenTiedAt
import Derived.MakeChecks
namespace Go.Proofs.YtallacbjeajpoaaDoor.identFull
open Go.ChangeShapes Go.WideShapes Go.ChangeAt Go.RowKit Go.Proofs.YtallacbjeajpoaaDoor.Ext
open Go.ChangeMaps (open_string shut_string)
set_option maxRecDepth 100000
theorem lawLaid (os : Os) (args : Array Value) : laidMetH Tryd.prog Rows.identFullRow.laid ((World.laidAll Tryd.prog os Rows.identFullRow.laid).forCall (fun _ _ => 0) ⟨#[], args, []⟩).memory :=
  laidMet_laidAll args (by kernel_rfl) (by kernel_rfl)
theorem lifted (os : Os) (started : os.Started) (H : Type) (enc : TypeId × Value → H) :
    ReturnsInHanded {} Tryd.checked os 10 .any (fun w args => (Rows.identFullSpec.pre enc Tryd.prog Tryd.f10 [] false w args ∧ laidMetH Tryd.prog Rows.identFullRow.laid w) ∧ sizedMet enc Tryd.prog Tryd.f10 (OpenSpec.ofChange Rows.identFullSpec) false w args) (Rows.identFullSpec.post enc Tryd.prog Tryd.f10 false true false false) := by
  refine lifted_both (C := Tryd.checked) (X := fun w _ => laidMetH Tryd.prog Rows.identFullRow.laid w) (fun _ _ _ hh h => h.of_heap hh) ownKnob_none started (by kernel_rfl) Tryd.func10
    (ChangeSpec.witness_at (enc := enc) (C := Tryd.checked) (os := os) (X := fun w _ => laidMetH Tryd.prog Rows.identFullRow.laid w) false (World.laidAll Tryd.prog os Rows.identFullRow.laid) #[.int .u8 0, .string ByteArray.empty] 12 (World.laidAll_os _ _ _) (by kernel_rfl) (by kernel_rfl) (by kernel_rfl) (by kernel_rfl) (by kernel_rfl) (lawLaid os _)) ?_
  intro W base args ds gs before hval0 hW hsz0 hsh0 hX
  have hsz : (DataW.weightsEach Tryd.prog (Tryd.f10.params.toList ++ Rows.identFullSpec.plain.varTypes Tryd.prog) (ds ++ gs)).all (· ≤ reachBytes) = true := hsz0
  have hval : ∀ (j : Nat) t v, Tryd.f10.params[j]? = some t → args[j]? = some v → Value.okWide Tryd.prog W .any base t v := hval0
  have hW' := hW
  obtain ⟨p, q, hA0, hV, rfl, hfz, hnd⟩ := hW
  have hA : DataW.TrodAll enc Tryd.prog W 0 (fun _ => true) true Tryd.f10.params.toList args.toList ds p := hA0
  rw [Tryd.params10] at hA hval hsz
  obtain ⟨v0, vs0, d0, ds0, p0, q0, hargs, rfl, rfl, h0, r0⟩ := trodAll_cons hA
  obtain ⟨v1, vs1, d1, ds1, p1, q1, rfl, rfl, rfl, h1, r1⟩ := trodAll_cons r0
  obtain ⟨rfl, rfl, rfl⟩ := trodAll_nil r1
  obtain rfl : args = #[v0, v1] := by cases args; simp_all
  obtain ⟨rfl, rfl⟩ := trodVars_none hV
  have hsh : Sh W := sh_of_shaped hsh0
  rw [MakeChecks.laidMetH_plain _ _ _ (by kernel_rfl)] at hX
  have htb := tb_laid hX
  obtain ⟨a0, rfl, rfl, rfl, w0⟩ := open_int Tryd.underlying5 (hval 0 5 v0 rfl rfl) h0
  obtain ⟨a1, rfl, rfl, rfl, y1⟩ := open_string Tryd.underlying9 (hval 1 9 v1 rfl rfl) h1
  have w1 : a1.size ≤ 140737488351232 := by
    have z := sized_string hsz (j := 1) (t := 9) rfl rfl
    rw [Array.length_toList] at z
    exact z
  clear hA0 hval0 hsz0 hsz
  refine (IdentFull_walk a0 w0 a1 w1 W hsh htb).mono fun e W' ⟨he, bel⟩ => ?_
  subst he
  exact ⟨_, rfl, _, _, _, [], _, [], hW', trodAll_mk1 (shut_bool Tryd.underlying4 _), (trodAll_cons_mk (shut_int Tryd.underlying5 w0) (trodAll_cons_mk (shut_string Tryd.underlying9 y1) trodAll_mk0)), rfl, bel.frame _, fun h => by cases h⟩
theorem over : Rows.IdentFullSaid :=
  OpenClaim.holds_of_wide 10 Tryd.f10 rfl rfl rfl rfl rfl rfl rfl ⟨rfl, rfl, rfl, rfl, rfl⟩ rfl rfl rfl rfl rfl (by kernel_rfl) Tryd.func10 (by kernel_rfl)
    (of_decide_eq_true (by kernel_rfl)) (by unfold Func.isWrapper; rw [if_neg (of_decide_eq_false (by kernel_rfl))]; exact ⟨rfl, rfl⟩)
    (fun os started H enc _ => lifted os started H enc)
end Go.Proofs.YtallacbjeajpoaaDoor.identFull
namespace Go.Proofs.YtallacbjeajpoaaDoor
set_option maxRecDepth 100000
theorem identFull_card : Rows.IdentFullCardSaid :=
  Claim7.holds_tied_plain_at .later [] [.data, .data, .data, .data, .pinned] true (true, "9d31489c8e31cae2d4db894ad80949852d2dac325a427f08f7697643815e960b") false
    identFull.over (fun _ h => by cases h) (by kernel_rfl) (fun _ h => by cases h) identFull_row_tie rfl ⟨rfl, rfl⟩ (by kernel_rfl) rfl
    (fun f fn hf hfn => by
      obtain rfl : f = 10 := Option.some.inj ((show Tryd.prog.funcNamed "dancestudio/dancestudiolaw05.IdentFull" = some 10 by kernel_rfl).symm.trans hf) |>.symm
      obtain rfl : fn = Tryd.f10 := (Option.some.inj (Tryd.func10.symm.trans hfn)).symm
      exact ⟨by kernel_rfl, fun j t ht => by
        rw [Tryd.params10] at ht
        have hall : ([5, 9] : List Nat).all (fun t => Tryd.prog.wantsStandIn t == false) = true := by kernel_rfl
        have hm : t ∈ ([5, 9] : List Nat) := by
          have := List.mem_of_getElem? (l := [5, 9]) (i := j) (by simpa using ht)
          exact this
        exact beq_iff_eq.1 (List.all_eq_true.1 hall t hm)⟩)
    (by kernel_rfl)
#print axioms identFull_card
end Go.Proofs.YtallacbjeajpoaaDoor
