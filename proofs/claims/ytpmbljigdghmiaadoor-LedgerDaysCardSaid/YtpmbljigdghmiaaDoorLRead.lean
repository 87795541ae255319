/- What the rows' arguments say to the walks: postings, slices of postings. -/
import Derived.Test.YtpmbljigdghmiaaDoorRow
import Derived.Test.YtpmbljigdghmiaaDoorPx0
import Derived.Deep.Slices
import Derived.Deep.Strs
import Derived.Lib.SmallJoins
import Derived.SliceStrings
import Derived.ProofKit
import Derived.WalkKit
import Derived.SizedLaws
namespace Go.Proofs.YtpmbljigdghmiaaDoor.Rd
open Go Go.Deep Go.ChangeShapes Go.WideShapes Go.RowKit Go.Proofs.YtpmbljigdghmiaaDoor.P Go.Proofs.YtpmbljigdghmiaaDoorW.PrintWords
set_option maxRecDepth 100000
section
variable {H : Type} {enc : TypeId × Value → H} {w : World} {base : Nat} {spare : Nat → Bool} {held : Bool}
theorem slice_read {α : Type} (dd : α) (d : Kd α) {P : Program} {t e : TypeId} {fuel : Nat} {cs : List Value} {x : DataW H × List MemPlace} (ht : P.underlying t = some (.slice e)) (hc : P.cellsOf e = d.sz)
    (hel : ∀ n cs y, DataW.trod enc P w base spare held n e cs = some y → ∃ x, d.K w x cs) (h : DataW.trod enc P w base spare held fuel t cs = some x) :
    ∃ (A : Option Addr) (c : Nat) (l : List α), cs = [.slice A l.length c] ∧ l.length ≤ c ∧ Kd.C d w A l.length l := by
  rcases open_slice ht h with ⟨rfl, _⟩ | ⟨a, len, cap, m, n, D, Pl, rfl, hb, hl, hm, hmm, _, hi⟩
  · exact ⟨none, 0, [], rfl, Nat.le_refl _, rfl, by simp, fun h => absurd h (by simp)⟩
  · have hle : len ≤ m := by rw [hmm]; split <;> omega
    have key : ∀ i, i < len → ∃ x : α, ∃ c : List Value, c.length = d.sz ∧ d.K w x c ∧ ∀ j u, c[j]? = some u → w.cell? (a.add (i * d.sz + j)) = some u := by
      intro i hil
      obtain ⟨cs', h1, h2⟩ := hi i (by omega)
      obtain ⟨x, hx⟩ := hel _ _ _ h2
      obtain ⟨_, hlen, hcell⟩ := World.cells?_some h1
      rw [hc] at hlen hcell
      refine ⟨x, cs', hlen, hx, fun j u hu => ?_⟩
      have hj : j < d.sz := by rw [← hlen]; exact (List.getElem?_eq_some_iff.1 hu).1
      rw [← Deep.add_add]
      exact (hcell j hj).trans hu
    classical
    let f : Nat → α := fun i => if h : i < len then (key i h).choose else dd
    refine ⟨some a, cap, (List.range len).map f, by simp, by simpa using hl, ?_⟩
    refine ⟨rfl, by simp; unfold maxLen at hm; omega, fun _ => ⟨a, rfl, fun j p hj => ?_⟩⟩
    rw [List.getElem?_map] at hj
    obtain ⟨j', hj', rfl⟩ := Option.map_eq_some_iff.1 hj
    have hjl : j < len := by
      have := (List.getElem?_eq_some_iff.1 hj').1
      simpa using this
    have e : j' = j := by
      rw [List.getElem?_range hjl] at hj'
      exact (Option.some.inj hj').symm
    subst e
    have hf : f j' = (key j' hjl).choose := by simp only [f, dif_pos hjl]
    rw [hf]
    exact (key j' hjl).choose_spec
theorem it_read {n : Nat} {cs : List Value} {y : DataW H × List MemPlace} (h : DataW.trod enc Tryd.prog w base spare held n 38 cs = some y) : ∃ x : S38, k38.K w x cs := by
  obtain ⟨y0, y1, n', _, hl, h0, h1⟩ := trod_struct2 Tryd.underlying38 h
  rw [show Tryd.prog.cellsOf 38 = 2 by kernel_rfl] at hl
  match cs, hl with
  | [c0, c1], _ =>
    obtain ⟨s, e0, _⟩ := DataW.trod_string Tryd.underlying9 h0
    obtain ⟨i, e1, _⟩ := DataW.trod_int Tryd.underlying3 h1
    rw [show Tryd.prog.cellsOf 9 = 1 by kernel_rfl] at e0
    rw [show Tryd.prog.cellsOf 3 = 1 by kernel_rfl] at e1
    simp at e0 e1
    subst e0 e1
    exact ⟨⟨s, i⟩, k38_mk w _⟩
theorem po_read {n : Nat} {cs : List Value} {y : DataW H × List MemPlace} (h : DataW.trod enc Tryd.prog w base spare held n 24 cs = some y) :
    ∃ (x : S24) (A : Option Addr) (c : Nat), cs = [.int .i64 x.f0, .int .i64 x.f1, .slice A x.f2.length c] ∧ x.f2.length ≤ c ∧ Kd.C k38 w A x.f2.length x.f2 := by
  obtain ⟨y0, y1, y2, n', _, hl, h0, h1, h2⟩ := trod_struct3 Tryd.underlying24 h
  rw [show Tryd.prog.cellsOf 24 = 3 by kernel_rfl] at hl
  match cs, hl with
  | [c0, c1, c2], _ =>
    obtain ⟨i, e0, _⟩ := DataW.trod_int Tryd.underlying3 h0
    obtain ⟨j, e1, _⟩ := DataW.trod_int Tryd.underlying3 h1
    obtain ⟨A, c, l, e2, hl, hC⟩ := slice_read (⟨ByteArray.empty, 0⟩ : S38) k38 Tryd.underlying22 (by kernel_rfl) (fun _ _ _ h => it_read h) h2
    rw [show Tryd.prog.cellsOf 3 = 1 by kernel_rfl] at e0 e1
    rw [show Tryd.prog.cellsOf 22 = 1 by kernel_rfl] at e2
    simp at e0 e1 e2
    subst e0 e1 e2
    exact ⟨⟨i, j, l⟩, A, c, rfl, hl, hC⟩
theorem po_K {n : Nat} {cs : List Value} {y : DataW H × List MemPlace} (h : DataW.trod enc Tryd.prog w base spare held n 24 cs = some y) : ∃ x : S24, k24.K w x cs := by
  obtain ⟨x, A, c, rfl, hl, hC⟩ := po_read h
  exact ⟨x, k24_mk w x hl hC⟩
theorem posting_arg {r : Reach} {b0 : Nat} {v : Value} {d : DataW H} {p : List MemPlace} (hv : Value.okWide Tryd.prog w r b0 24 v) (h : DataW.Trod enc Tryd.prog w base spare held 24 v d p) :
    ∃ (x : S24) (A : Option Addr) (c : Nat), v = .agg #[.int .i64 x.f0, .int .i64 x.f1, .slice A x.f2.length c] ∧ x.f2.length ≤ c ∧ Kd.C k38 w A x.f2.length x.f2 := by
  obtain ⟨cs, rfl, hsz⟩ := okWide_struct Tryd.underlying24 hv
  obtain ⟨fuel, hf⟩ := h
  obtain ⟨x, A, c, e, hl, hC⟩ := po_read hf
  refine ⟨x, A, c, ?_, hl, hC⟩
  have e' : cs.toList = [.int .i64 x.f0, .int .i64 x.f1, .slice A x.f2.length c] := e
  have : cs = #[.int .i64 x.f0, .int .i64 x.f1, .slice A x.f2.length c] := by
    apply Array.toList_inj.1
    exact e'
  rw [this]
theorem postings_arg {r : Reach} {b0 : Nat} {v : Value} {d : DataW H} {p : List MemPlace} (hv : Value.okWide Tryd.prog w r b0 26 v) (h : DataW.Trod enc Tryd.prog w base spare held 26 v d p) :
    ∃ (A : Option Addr) (c : Nat) (l : List S24), v = .slice A l.length c ∧ l.length ≤ c ∧ Kd.C k24 w A l.length l := by
  obtain ⟨A, len, cap, rfl⟩ := okWide_slice Tryd.underlying26 hv
  obtain ⟨fuel, hf⟩ := h
  obtain ⟨A', c, l, e, hl, hC⟩ := slice_read (⟨0, 0, []⟩ : S24) k24 Tryd.underlying26 (by kernel_rfl) (fun _ _ _ h => po_K h) hf
  simp [Value.cells] at e
  obtain ⟨rfl, rfl, rfl⟩ := e
  exact ⟨A, cap, l, rfl, hl, hC⟩
end
end Go.Proofs.YtpmbljigdghmiaaDoor.Rd
