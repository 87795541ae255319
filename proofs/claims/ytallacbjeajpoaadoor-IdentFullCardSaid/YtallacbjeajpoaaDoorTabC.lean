/- Tables of names: Index, Name, Sorted. -/
import Derived.Test.YtallacbjeajpoaaDoorTabB
import Derived.Test.YtallacbjeajpoaaDoorLays
import Derived.Test.YtallacbjeajpoaaDoorShelf2
import Derived.Lib.OwnBridge
import Derived.Shelf.SlSortCmp.NoneTotal
namespace Go.Proofs.YtallacbjeajpoaaDoor.Tab
open Go.RowKit Go.Maps Go.WideMaps Go.Sort Go.Lib Go.Proofs Go.Proofs.YtallacbjeajpoaaDoor.Ext Go.Proofs.YtallacbjeajpoaaDoor.P Go.Proofs.YtallacbjeajpoaaDoor.Idp Go.Proofs.YtallacbjeajpoaaDoorW.PrintWords Go.Proofs.YtallacbjeajpoaaDoorW.PrintLast Go.Proofs.YtallacbjeajpoaaDoorW.PrintMore
theorem order_cmp (blk off n : Nat) (w : World) : CmpLays1 Tryd.prog 34 #[] encN ordN blk off n w := by
  intro m os dk _ x y
  have h := ident_order.lays 300 x.1 y.1 _ (sortWorld encN w blk off m dk os) (order_eq x.1 y.1 (by have := x.2; omega) (by have := y.2; omega) 300 (by have := x.2; have := y.2; omega))
  exact h.mono fun e w1 ⟨he, hl⟩ => ⟨he, hl.out⟩
/-- A row of short names of the call's own, sorted by 'order'. -/
theorem sortF_calls (w0 w : World) (v : Value) (l : List ByteArray) (hl : ∀ s ∈ l, s.size ≤ 24) (hR : Kd.R Kd.string 9 w w0.heap.size (fun _ => True) v l) (hb : Below w0.heap.size w0 w) (hbig : l.length < 4611686018427387904) :
    Calls Tryd.prog 38 #[v, .func (.func 34) #[] #[]] w fun e w' =>
      e = .returned (.tuple #[]) ∧ Kd.R Kd.string 9 w' w0.heap.size (fun _ => True) v (sortN l) ∧ Below w0.heap.size w0 w' := by
  rcases Nat.eq_zero_or_pos l.length with h0 | h0
  · have hn := List.eq_nil_of_length_eq_zero h0
    subst hn
    obtain ⟨A, c, rfl⟩ := Kd.R_slice hR
    refine (Tryd.slices_SortFunc_none (α := Nm) A c _ w).mono fun e w1 ⟨he, hw⟩ => ?_
    subst hw
    exact ⟨he, by simpa [sortN] using hR, hb⟩
  · obtain ⟨d, hd⟩ := names_of l hl
    have ho := Kd.own_of_R hR
    have hmap : encs Value.string l = d.map encN := by rw [← hd]; simp [encs, encN]
    rw [hmap] at ho
    have hv : v ≠ .slice none 0 0 := by
      rintro rfl
      obtain ⟨g, cap, e, _⟩ := Kd.R_form hR h0
      cases e
    obtain ⟨g, cap, rfl, hg, hlt, _, _, hlen, hH⟩ := holds_of_ownsRow ho hv
    have hsz : d.toArray.size = l.length := by simpa using hlen
    have eg : ∀ args w, (callFunc 34 args).run Tryd.prog w = .ok (.enter 34 args) w := enters_of Tryd.func34 (by kernel_rfl) rfl
    have hS := Tryd.slices_SortFunc_total encN (fun _ => rfl) ordN swoN 34 #[] g 0 cap d.toArray w eg (order_cmp g 0 _ w) hH hlt (by rw [hsz]; exact hbig) totN
    rw [hsz] at hS
    refine hS.mono fun e w1 ⟨he, n, os, hw⟩ => ⟨he, ?_⟩
    subst hw
    have hys : (d.mergeSort fun x y => !(ltOf ordN) y x).length = l.length := by rw [List.length_mergeSort]; exact hlen
    have hrow := ownsRow_putRow (q := n) (k := l.length) ho hys (Nat.le_refl _)
    rw [List.take_of_length_le (by rw [hys]; exact Nat.le_refl _)] at hrow
    have hsort : (d.mergeSort fun x y => !(ltOf ordN) y x).map encN = encs Value.string (sortN l) := by
      unfold sortN encs
      rw [← hd, ← List.map_mergeSort (r := fun x y => !(ltOf ordN) y x) (f := fun x : Nm => x.1)]
      · simp [encN]
      · intro a _ b _; rfl
    rw [hsort] at hrow
    have hln : l.length = (sortN l).length := by unfold sortN; rw [List.length_mergeSort]
    refine ⟨?_, ?_⟩
    · have h1 : Kd.R Kd.string 9 (putRow encN (Sort.ahead w n) g 0 (d.mergeSort fun x y => !(ltOf ordN) y x).toArray) w0.heap.size (fun _ => True) (.slice (some ⟨g, 0, none⟩) l.length cap) (sortN l) := Kd.R_of_own (by rw [← hln]; exact hrow) (fun _ _ => trivial)
      exact Kd.R_below h1 (grow_below1 _ os)
    · exact grow_below (below_putRow hb hg) (by
        have := hb.size
        simp [putRow, mapBlock, Sort.ahead]; omega) os
end Go.Proofs.YtallacbjeajpoaaDoor.Tab
