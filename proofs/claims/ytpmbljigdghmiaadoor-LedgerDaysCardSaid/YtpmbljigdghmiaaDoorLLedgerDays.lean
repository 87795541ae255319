/- The law LedgerDays holds for every input: it returns true and leaves its arguments as they were. -/
import Derived.Test.YtpmbljigdghmiaaDoorRows
import Derived.Test.YtpmbljigdghmiaaDoorRow
import Derived.Test.YtpmbljigdghmiaaDoorTie
import Derived.Test.YtpmbljigdghmiaaDoorCards
import Derived.Test.YtpmbljigdghmiaaDoorLW7
import Derived.WalkKit
import Derived.ProofKit
import Derived.OpenShut
import Derived.ShutString
import Derived.ChangeOld
import Derived.Below
import Derived.SizedLaws
import Derived.Carry
import Derived.SevenTiedAt
import Derived.Test.YtpmbljigdghmiaaDoorWSized
import Derived.Test.YtpmbljigdghmiaaDoorLRead
namespace Go.Proofs.YtpmbljigdghmiaaDoor.ledgerDays
open Go.ChangeShapes Go.WideShapes Go.ChangeAt Go.RowKit Go.Proofs.YtpmbljigdghmiaaDoor.Ext
open Go.ChangeMaps (open_string shut_string)
set_option maxRecDepth 100000
theorem lawLaid (os : Os) (args : Array Value) : laidMetH Tryd.prog Rows.ledgerDaysRow.laid ((World.laidAll Tryd.prog os Rows.ledgerDaysRow.laid).forCall (fun _ _ => 0) ⟨#[], args, []⟩).memory :=
  laidMet_laidAll args (by kernel_rfl) (by kernel_rfl)
theorem lifted (os : Os) (started : os.Started) (H : Type) (enc : TypeId × Value → H) :
    ReturnsInHanded {} Tryd.checked os 6 .any (fun w args => (Rows.ledgerDaysSpec.pre enc Tryd.prog Tryd.f6 [] false w args ∧ laidMetH Tryd.prog Rows.ledgerDaysRow.laid w) ∧ sizedMet enc Tryd.prog Tryd.f6 (OpenSpec.ofChange Rows.ledgerDaysSpec) false w args) (Rows.ledgerDaysSpec.post enc Tryd.prog Tryd.f6 false true false false) := by
  refine lifted_both (C := Tryd.checked) (X := fun w _ => laidMetH Tryd.prog Rows.ledgerDaysRow.laid w) (fun _ _ _ hh h => h.of_heap hh) ownKnob_none started (by kernel_rfl) Tryd.func6
    (ChangeSpec.witness_at (enc := enc) (C := Tryd.checked) (os := os) (X := fun w _ => laidMetH Tryd.prog Rows.ledgerDaysRow.laid w) false (World.laidAll Tryd.prog os Rows.ledgerDaysRow.laid) #[.slice none 0 0, .string ByteArray.empty, .int .i64 0] 12 (World.laidAll_os _ _ _) (by kernel_rfl) (by kernel_rfl) (by kernel_rfl) (by kernel_rfl) (by kernel_rfl) (lawLaid os _)) ?_
  intro W base args ds gs before hval0 hW hsz0 hsh0 hX
  have hsz : (DataW.weightsEach Tryd.prog (Tryd.f6.params.toList ++ Rows.ledgerDaysSpec.plain.varTypes Tryd.prog) (ds ++ gs)).all (· ≤ reachBytes) = true := hsz0
  have hval : ∀ (j : Nat) t v, Tryd.f6.params[j]? = some t → args[j]? = some v → Value.okWide Tryd.prog W .any base t v := hval0
  have hW' := hW
  obtain ⟨p, q, hA0, hV, rfl, hfz, hnd⟩ := hW
  have hA : DataW.TrodAll enc Tryd.prog W 0 (fun _ => true) true Tryd.f6.params.toList args.toList ds p := hA0
  rw [Tryd.params6] at hA hval hsz
  obtain ⟨v0, vs0, d0, ds0, p0, q0, hargs, rfl, rfl, h0, r0⟩ := trodAll_cons hA
  obtain ⟨v1, vs1, d1, ds1, p1, q1, rfl, rfl, rfl, h1, r1⟩ := trodAll_cons r0
  obtain ⟨v2, vs2, d2, ds2, p2, q2, rfl, rfl, rfl, h2, r2⟩ := trodAll_cons r1
  obtain ⟨rfl, rfl, rfl⟩ := trodAll_nil r2
  obtain rfl : args = #[v0, v1, v2] := by cases args; simp_all
  obtain ⟨rfl, rfl⟩ := trodVars_none hV
  have hsh : Sh W := sh_of_shaped hsh0
  have k0 := h0
  have lt0 : ∀ x ∈ p0, x.block < W.heap.size := by obtain ⟨m, hm⟩ := k0; exact DataW.trod_lt m _ _ _ hm
  obtain ⟨A0, c0, l0, rfl, cl0, rc0⟩ := Rd.postings_arg (hval 0 26 v0 rfl rfl) h0
  obtain ⟨a1, rfl, rfl, rfl, y1⟩ := open_string Tryd.underlying9 (hval 1 9 v1 rfl rfl) h1
  have w1 : a1.size ≤ 140737488351232 := by
    have z := sized_string hsz (j := 1) (t := 9) rfl rfl
    rw [Array.length_toList] at z
    exact z
  obtain ⟨a2, rfl, rfl, rfl, w2⟩ := open_int Tryd.underlying3 (hval 2 3 v2 rfl rfl) h2
  clear hA0 hval0 hsz0 hsz
  refine (Led.LedgerDays_row W A0 c0 l0 rc0 cl0 a1 w1 a2 w2 hsh).mono fun e W' ⟨he, bel⟩ => ?_
  subst he
  exact ⟨_, rfl, _, _, _, [], _, [], hW', trodAll_mk1 (shut_bool Tryd.underlying4 _), (trodAll_cons_mk (Below.trod laidOutOk (by kernel_rfl) (of_decide_eq_true (by kernel_rfl)) k0 bel lt0) (trodAll_cons_mk (shut_string Tryd.underlying9 y1) (trodAll_cons_mk (shut_int Tryd.underlying3 w2) trodAll_mk0))), rfl, bel.frame _, fun h => by cases h⟩
theorem over : Rows.LedgerDaysSaid :=
  OpenClaim.holds_of_wide 6 Tryd.f6 rfl rfl rfl rfl rfl rfl rfl ⟨rfl, rfl, rfl, rfl, rfl⟩ rfl rfl rfl rfl rfl (by kernel_rfl) Tryd.func6 (by kernel_rfl)
    (of_decide_eq_true (by kernel_rfl)) (by unfold Func.isWrapper; rw [if_neg (of_decide_eq_false (by kernel_rfl))]; exact ⟨rfl, rfl⟩)
    (fun os started H enc _ => lifted os started H enc)
end Go.Proofs.YtpmbljigdghmiaaDoor.ledgerDays
namespace Go.Proofs.YtpmbljigdghmiaaDoor
set_option maxRecDepth 100000
theorem ledgerDays_card : Rows.LedgerDaysCardSaid :=
  Claim7.holds_tied_plain_at .later [] [.data, .pinned] true (true, "7a7a24e3a45cdf0a94bd8540daac16ef169ce5022c4e511570db158a34c44b54") false
    ledgerDays.over (fun _ h => by cases h) (by kernel_rfl) (fun _ h => by cases h) ledgerDays_row_tie rfl ⟨rfl, rfl⟩ (by kernel_rfl) rfl
    (fun f fn hf hfn => by
      obtain rfl : f = 6 := Option.some.inj ((show Tryd.prog.funcNamed "dancestudio/dancestudiolaw55.LedgerDays" = some 6 by kernel_rfl).symm.trans hf) |>.symm
      obtain rfl : fn = Tryd.f6 := (Option.some.inj (Tryd.func6.symm.trans hfn)).symm
      exact ⟨by kernel_rfl, fun j t ht => by
        rw [Tryd.params6] at ht
        have hall : ([26, 9, 3] : List Nat).all (fun t => Tryd.prog.wantsStandIn t == false) = true := by kernel_rfl
        have hm : t ∈ ([26, 9, 3] : List Nat) := by
          have := List.mem_of_getElem? (l := [26, 9, 3]) (i := j) (by simpa using ht)
          exact this
        exact beq_iff_eq.1 (List.all_eq_true.1 hall t hm)⟩)
    (by kernel_rfl)
#print axioms ledgerDays_card
end Go.Proofs.YtpmbljigdghmiaaDoor
