/- The contracts of library functions that names are checked by, and the world's fact that they ask. -/
import Derived.Test.YtpmbljigdghmiaaDoorProg
import Derived.Test.YtpmbljigdghmiaaDoorWWords
import Derived.Test.YtpmbljigdghmiaaDoorWMore
import Derived.Test.YtpmbljigdghmiaaDoorShelf
import Derived.Lib.IndexMore
namespace Go.Proofs.YtpmbljigdghmiaaDoor.Ext
open Go.RowKit Go.Proofs.YtpmbljigdghmiaaDoorW.PrintWords Go.Proofs.YtpmbljigdghmiaaDoorW.PrintLast Go.Proofs.YtpmbljigdghmiaaDoorW.PrintMore
/-- What the walks ask of the world: the library's variable lies there. -/
structure Sh (w : World) : Prop where mk :: (out : ∃ m : Int, w.cell? ⟨0, 0, none⟩ = some (.int .i64 m))
theorem Sh.below {w w1 : World} (h : Sh w) (hb : Below w.heap.size w w1) : Sh w1 := by
  obtain ⟨m, hm⟩ := h.out
  exact ⟨m, pw_cell_below hb hm⟩
theorem Sh.of_below {w w1 : World} (h : Sh w) (hb : Aside0 (Below w.heap.size w w1)) : Sh w1 := h.below hb.out
theorem Sh.alloc {w : World} {o : Obj} (h : Sh w) : Sh (w.alloc o) := h.below (below_alloc (Below.refl _ _) o)
theorem Sh.drew {w : World} (h : Sh w) : Sh w.drew := h.below (below_drew (Below.refl _ _))
theorem Sh.drewN {w : World} {n : Nat} (h : Sh w) : Sh (w.drewN n) := h.below (pw_below_drewN (Below.refl _ _) n)
theorem Sh.drawn {w w1 : World} (h : Sh w) (hd : Drawn0 w w1) : Sh w1 := h.below hd.below
theorem Sh.set {w w1 : World} {b o : Nat} {v : Value} (hge : Aside0 (w.heap.size ≤ b)) (h0 : Sh w) (h : Sh w1) : Sh (w1.setCell ⟨b, o, none⟩ v) := by
  obtain ⟨m, hm⟩ := h.out
  obtain ⟨m0, hm0⟩ := h0.out
  have hl := World.block_lt_of_cell? w _ hm0
  have hg := hge.out
  refine ⟨m, ?_⟩
  rw [World.cell?_setCell_other]
  · exact hm
  · intro e
    have := congrArg Addr.block e
    simp only at hl this
    omega
theorem ne_isEmpty (l : List UInt8) : (l != []) = !l.isEmpty := by cases l <;> rfl
theorem drawn_eq {w w1 : World} (h : w1 = w) : Drawn0 w w1 := by subst h; exact Drawn0.refl _

def strings_Contains.f (a0 a1 : ByteArray) : Option Bool := if a0.size < 4294967281 then some (Lib.contains a0.data.toList a1.data.toList) else none
theorem strings_Contains.calls (a0 a1 : ByteArray) (r : Bool) (w : World) (h : strings_Contains.f a0 a1 = some r) (hsh : Sh w := by repeat (first | assumption | exact Sh.of_below (by assumption) (by assumption) | apply Sh.drewN | apply Sh.drew | apply Sh.alloc | refine Sh.set (by assumption) (by assumption) ?_)) :
    Calls Tryd.prog 47 #[.string a0, .string a1] w fun e w' => e = .returned (.bool r) ∧ Drawn0 w w' := by
  unfold strings_Contains.f at h
  split at h
  · rename_i hs
    obtain rfl := Option.some.inj h
    obtain ⟨m, hm⟩ := hsh.out
    exact (Tryd.strings_Contains a0 a1 m w hs hm).mono fun e w1 ⟨he, hw⟩ => ⟨he, drawn_eq hw⟩
  · cases h
def strings_TrimLeft.f (a0 a1 : ByteArray) : Option ByteArray := if a1 = ⟨#[48]⟩ then some ⟨(Lib.trimLeftB a0.data.toList 48).toArray⟩ else none
theorem strings_TrimLeft.calls (a0 a1 : ByteArray) (r : ByteArray) (w : World) (h : strings_TrimLeft.f a0 a1 = some r) :
    Calls Tryd.prog 81 #[.string a0, .string a1] w fun e w' => e = .returned (.string r) ∧ Drawn0 w w' := by
  unfold strings_TrimLeft.f at h
  split at h
  · rename_i hs
    subst hs
    obtain rfl := Option.some.inj h
    exact (Tryd.strings_TrimLeft_one a0 48 (by decide) w).mono fun e w1 ⟨he, hw⟩ => ⟨he, drawn_eq hw⟩
  · cases h
def strings_Compare.f (a0 a1 : ByteArray) : Option Int := some (Lib.compareBytes a0.data.toList a1.data.toList)
theorem strings_Compare.calls (a0 a1 : ByteArray) (r : Int) (w : World) (h : strings_Compare.f a0 a1 = some r) :
    Calls Tryd.prog 83 #[.string a0, .string a1] w fun e w' => e = .returned (.int .i64 r) ∧ Drawn0 w w' := by
  obtain rfl := Option.some.inj h
  exact (Tryd.strings_Compare a0 a1 w).mono fun e w1 ⟨he, hw⟩ => ⟨he, drawn_eq hw⟩
end Go.Proofs.YtpmbljigdghmiaaDoor.Ext
namespace Go.Proofs.YtpmbljigdghmiaaDoor.Awk
theorem here : True := trivial
end Go.Proofs.YtpmbljigdghmiaaDoor.Awk
