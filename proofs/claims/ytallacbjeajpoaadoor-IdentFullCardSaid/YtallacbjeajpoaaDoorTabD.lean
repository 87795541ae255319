/- Tables of names: Index, Name, Sorted, Add. -/
import Derived.Test.YtallacbjeajpoaaDoorTabC
import Derived.Deep.QuietTactic
import Derived.BigQuiet
namespace Go.Proofs.YtallacbjeajpoaaDoor.Tab
open Go.RowKit Go.Maps Go.WideMaps Go.Sort Go.Lib Go.Proofs Go.Proofs.YtallacbjeajpoaaDoor.Ext Go.Proofs.YtallacbjeajpoaaDoor.P Go.Proofs.YtallacbjeajpoaaDoor.Idp Go.Proofs.YtallacbjeajpoaaDoorW.PrintWords Go.Proofs.YtallacbjeajpoaaDoorW.PrintLast Go.Proofs.YtallacbjeajpoaaDoorW.PrintMore
theorem IsT.below {w0 w w1 : World} {g : Nat} {l : List ByteArray} (h : IsT w0 w g l) (hb : Below w.heap.size w w1) : IsT w0 w1 g l := by
  obtain ⟨v, b, h1, h2, h3, h4, h5, h6⟩ := h.out
  have hlt : g < w.heap.size := (Array.getElem?_eq_some_iff.1 h1).1
  exact ⟨v, b, (hb.block g hlt).trans h1, h2, h3, h4, Kd.R_below h5 hb, h6.kept (grown_of_below hb none) (by simp)⟩
instance memDec (s : ByteArray) (l : List ByteArray) : Decidable (s ∈ l) := decidable_of_iff (l.any (fun x => decide (x = s)) = true) (by simp)
/-- Where a name stands. -/
def posN (l : List ByteArray) (s : ByteArray) : Nat := l.findIdx fun x => decide (x = s)
theorem posN_get {l : List ByteArray} {s : ByteArray} (h : s ∈ l) : l[posN l s]? = some s := by
  have hlt : posN l s < l.length := List.findIdx_lt_length_of_exists ⟨s, h, by simp⟩
  rw [List.getElem?_eq_getElem hlt]
  have := List.findIdx_getElem (p := fun x => decide (x = s)) (xs := l) (w := hlt)
  simp only [decide_eq_true_eq] at this
  unfold posN
  rw [this]
def idxN (l : List ByteArray) (s : ByteArray) : Int := if s ∈ l then (posN l s : Nat) else 0
theorem datum_idx (l : List ByteArray) (hd : l.Nodup) (s : ByteArray) {c : Int} (h : (datum l).atKey (kl s) (.lit (.int .i64 0)) = .lit (.int .i64 c)) : c = idxN l s := by
  unfold idxN
  by_cases hs : s ∈ l
  · rw [datum_at l hd s (posN l s) (posN_get hs)] at h
    rw [if_pos hs]
    injection h with h; injection h with _ h
    exact h.symm
  · rw [datum_not l s hs] at h
    rw [if_neg hs]
    injection h with h; injection h with _ h
    exact h.symm
theorem datum_hasD (l : List ByteArray) (s : ByteArray) : Maps.has (datum l) (kl s) = decide (s ∈ l) := by
  rw [Bool.eq_iff_iff, datum_has, decide_eq_true_iff]
set_option maxHeartbeats 1000000 in
theorem Index_calls (w0 w : World) (g : Nat) (l : List ByteArray) (s : ByteArray) (hT : IsT w0 w g l) (hd : l.Nodup) (hs : s.size ≤ maxLen) :
    Calls Tryd.prog 18 #[.pointer (some ⟨g, 0, none⟩), .string s] w fun e w' => e = .returned (.tuple #[.int .i64 (idxN l s), .bool (decide (s ∈ l))]) ∧ Drawn0 w w' := by
  obtain ⟨v, b, h1, h2, h3, h4, h5, h6⟩ := hT.out
  have hc1 : w.cell? ⟨g, 1, none⟩ = some (.map (some b)) := by simp [World.cell?, h1]
  have HO := Aside0.mk h6
  have HD := Aside0.mk hd
  have hkey := keyOf_string_mk (P := Tryd.prog) Tryd.underlying9 hs
  have HH := Aside0.mk (datum_hasD l s)
  clear h1 h2 h3 h4 h5 h6 hT hd
  go_enter Tryd.func18, Tryd.ntmps18
  go_wp2_with (at_lookup; refine wpList_lookup_own_ok_int _ rfl _ _ 50 rfl 9 3 .i64 (string_keyed Tryd.underlying9) Tryd.underlying50 Tryd.underlying3 (zeroInt _) _ _ _ rfl HO.out _ _ rfl hkey ?_; intro c hat hwc)
  go_ret2
  refine ⟨?_, Drawn0.refl _⟩
  have hc := datum_idx l HD.out s hat
  subst hc
  have hh : Maps.has (datum l) (.string s.data.toList) = decide (s ∈ l) := HH.out
  rw [hh]
  rfl
theorem Index_nil (s : ByteArray) (w : World) :
    Calls Tryd.prog 18 #[.pointer none, .string s] w fun e w' => e = .returned (.tuple #[.int .i64 0, .bool false]) ∧ Drawn0 w w' := by
  go_enter Tryd.func18, Tryd.ntmps18
  go_wp2
  go_ret2
  exact ⟨rfl, Drawn0.refl _⟩
def NamePost (w : World) (l : List ByteArray) (i : Int) (e : Ending) (w' : World) : Prop :=
  e = .returned (.tuple #[.string (if 0 ≤ i ∧ i < l.length then rdOf ByteArray.empty l i else ByteArray.empty), .int .i64 (if 0 ≤ i ∧ i < l.length then 0 else 6)]) ∧ Below w.heap.size w w'
set_option maxHeartbeats 1000000 in
theorem Name_calls (w0 w : World) (g : Nat) (l : List ByteArray) (i : Int) (hT : IsT w0 w g l) :
    Calls Tryd.prog 17 #[.pointer (some ⟨g, 0, none⟩), .int .i64 i] w (NamePost w l i) := by
  obtain ⟨v, b, h1, h2, h3, h4, h5, h6⟩ := hT.out
  obtain ⟨A, c, rfl⟩ := Kd.R_slice h5
  have hc0 : w.cell? ⟨g, 0, none⟩ = some (.slice A l.length c) := by simp [World.cell?, h1]
  obtain ⟨_, _, hC⟩ := Kd.R_reads' h5
  have HC := Aside0.mk hC
  clear h1 h2 h3 h4 h5 h6 hT hC
  by_cases hneg : i < 0
  · have hn1 : decide (i < 0) = true := decide_eq_true hneg
    have hfin : NamePost w l i (.returned (.tuple #[.string ByteArray.empty, .int .i64 6])) w := ⟨by rw [if_neg (by omega), if_neg (by omega)], Below.refl _ _⟩
    go_enter Tryd.func17, Tryd.ntmps17
    go_wp2
    go_ret2
    exact hfin
  · by_cases hge : (l.length : Int) ≤ i
    · have hn1 : decide (i < 0) = false := decide_eq_false hneg
      have hfin : ∀ n, NamePost w l i (.returned (.tuple #[.string ByteArray.empty, .int .i64 6])) (w.drewN n) := fun n => ⟨by rw [if_neg (by omega), if_neg (by omega)], pw_below_drewN (Below.refl _ _) n⟩
      have HF := Aside0.mk hfin
      clear hfin
      go_enter Tryd.func17, Tryd.ntmps17
      go_wp2
      go_ret2
      first | exact HF.out 0 | exact HF.out _
    · have hn1 : decide (i < 0) = false := decide_eq_false hneg
      have hg1 : ¬ (l.length : Int) ≤ i := hge
      obtain ⟨ad, e, hx⟩ := Kd.at_string HC.out i (by omega) (by omega)
      cases e
      have hfin : ∀ n, NamePost w l i (.returned (.tuple #[.string (rdOf ByteArray.empty l i), .int .i64 0])) (w.drewN n) := fun n => ⟨by rw [if_pos (by omega), if_pos (by omega)], pw_below_drewN (Below.refl _ _) n⟩
      have HF := Aside0.mk hfin
      have p1 : (0 : Int) ≤ i := by omega
      have q1 : i < (l.length : Int) := by omega
      clear hfin
      go_enter Tryd.func17, Tryd.ntmps17
      go_wp2
      go_ret2
      first | exact HF.out 0 | exact HF.out _
theorem Name_nil (i : Int) (w : World) :
    Calls Tryd.prog 17 #[.pointer none, .int .i64 i] w fun e w' => e = .returned (.tuple #[.string ByteArray.empty, .int .i64 10]) ∧ Drawn0 w w' := by
  go_enter Tryd.func17, Tryd.ntmps17
  go_wp2
  go_ret2
  exact ⟨rfl, Drawn0.refl _⟩
theorem sortN_length (l : List ByteArray) : (sortN l).length = l.length := by unfold sortN; rw [List.length_mergeSort]
set_option maxHeartbeats 1000000 in
theorem Sorted_calls (w0 w : World) (g : Nat) (l : List ByteArray) (hT : IsT w0 w g l) (hl : ∀ s ∈ l, s.size ≤ 24) (hbig : l.length ≤ 100000) :
    Calls Tryd.prog 22 #[.pointer (some ⟨g, 0, none⟩)] w fun e w' => ∃ v0_, e = .returned v0_ ∧ Kd.R Kd.string 9 w' w.heap.size (fun _ => True) v0_ (sortN l) ∧ Below w.heap.size w w' := by
  obtain ⟨v, b, h1, h2, h3, h4, h5, h6⟩ := hT.out
  obtain ⟨A, c, rfl⟩ := Kd.R_slice h5
  have hc0 : w.cell? ⟨g, 0, none⟩ = some (.slice A l.length c) := by simp [World.cell?, h1]
  obtain ⟨_, _, hC⟩ := Kd.R_reads' h5
  have HC := Aside0.mk (Clone_calls A c l w hC (by omega))
  have HL := Aside0.mk hl
  have HS := fun (w2 : World) (v : Value) => sortF_calls w w2 v l HL.out
  have HS' := Aside0.mk HS
  clear h1 h2 h3 h4 h5 h6 hT hC hl HS
  go_enter Tryd.func22, Tryd.ntmps22
  go_wp2_with fail
  refine HC.out.mono ?_
  rintro e w1 ⟨v1, rfl, hR, hb⟩
  have HR := Aside0.mk hR
  have HB := Aside0.mk hb
  clear hR hb
  go_wp2_with fail
  refine (HS'.out w1 v1 HR.out HB.out (by omega)).mono ?_
  rintro e w2 ⟨rfl, hR2, hb2⟩
  have HR2 := Aside0.mk hR2
  have HB2 := Aside0.mk hb2
  clear hR2 hb2
  go_wp2
  go_ret
  exact ⟨_, rfl, HR2.out, HB2.out⟩
theorem Sorted_nil (w : World) :
    Calls Tryd.prog 22 #[.pointer none] w fun e w' => e = .returned (.slice none 0 0) ∧ Drawn0 w w' := by
  go_enter Tryd.func22, Tryd.ntmps22
  go_wp2
  go_ret
  exact ⟨rfl, Drawn0.refl _⟩
end Go.Proofs.YtallacbjeajpoaaDoor.Tab
