/- The laws on one or two names: their walks. -/
import Derived.Test.YtallacbjeajpoaaDoorPx3
import Derived.Test.YtallacbjeajpoaaDoorAwk
namespace Go.Proofs.YtallacbjeajpoaaDoor
open Go.RowKit Go.Proofs.YtallacbjeajpoaaDoor.Ext Go.Proofs.YtallacbjeajpoaaDoor.P Go.Proofs.YtallacbjeajpoaaDoor.Idp Go.Proofs.YtallacbjeajpoaaDoor.Tab Go.Proofs.YtallacbjeajpoaaDoor.Awk Go.Proofs.YtallacbjeajpoaaDoorW.PrintWords Go.Proofs.YtallacbjeajpoaaDoorW.PrintLast Go.Proofs.YtallacbjeajpoaaDoorW.PrintMore
theorem IdentValid_walk (a0 : ByteArray) (_ : a0.size ≤ 140737488351232) (W : World) (hsh : Sh W) :
    Calls Tryd.prog 3 #[.string a0] W fun e w' => e = .returned (.bool true) ∧ Below W.heap.size W w' := by
  refine dancestudiolaw05_IdentValid.calls 60 a0 true W ?_ hsh
  unfold dancestudiolaw05_IdentValid.f
  rw [valid_all a0 60 (by decide)]
  simp only [Option.bind_some]
  rw [rvalid_all a0 60 (by decide)]
  simp [dancestudiolaw05_awake.f]
theorem IdentLess_walk (a0 : ByteArray) (_ : a0.size ≤ 140737488351232) (a1 : ByteArray) (_ : a1.size ≤ 140737488351232) (W : World) (hsh : Sh W) :
    Calls Tryd.prog 4 #[.string a0, .string a1] W fun e w' => e = .returned (.bool true) ∧ Below W.heap.size W w' := by
  refine dancestudiolaw05_IdentLess.calls 300 a0 a1 true W ?_ hsh
  unfold dancestudiolaw05_IdentLess.f
  rw [less_all a0 a1 300 (by decide)]
  simp only [Option.bind_some]
  rw [rless_all a0 a1 300 (by decide)]
  simp [dancestudiolaw05_awake.f]
end Go.Proofs.YtallacbjeajpoaaDoor
