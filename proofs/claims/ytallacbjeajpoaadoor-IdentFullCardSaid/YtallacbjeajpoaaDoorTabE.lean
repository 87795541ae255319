/- The reference's tables of names: find, Index, Name, Sorted. -/
import Derived.Test.YtallacbjeajpoaaDoorTabD
import Derived.Test.YtallacbjeajpoaaDoorPx2
namespace Go.Proofs.YtallacbjeajpoaaDoor.Tab
open Go.RowKit Go.Maps Go.WideMaps Go.Sort Go.Lib Go.Proofs Go.Proofs.YtallacbjeajpoaaDoor.Ext Go.Proofs.YtallacbjeajpoaaDoor.P Go.Proofs.YtallacbjeajpoaaDoor.Idp Go.Proofs.YtallacbjeajpoaaDoorW.PrintWords Go.Proofs.YtallacbjeajpoaaDoorW.PrintLast Go.Proofs.YtallacbjeajpoaaDoorW.PrintMore
def fndN (l : List ByteArray) (s : ByteArray) : Int := if s ∈ l then (posN l s : Nat) else -1
theorem toList_same {a b : ByteArray} : a.toList = b.toList ↔ a = b := ⟨fun h => data_inj (by rwa [Lib.toList_data, Lib.toList_data] at h), fun h => by rw [h]⟩
theorem rd_get (l : List ByteArray) (i : Nat) (h : i < l.length) : rdOf ByteArray.empty l (i : Int) = l[i] := by
  unfold rdOf
  simp [List.getD_eq_getElem?_getD, h]
theorem find_l0 (l : List ByteArray) (s : ByteArray) (hl : l.length ≤ 9223372036854775807) : ∀ d k (i : Nat), i ≤ l.length → l.length - i = d → d < k → (∀ (j : Nat) (hj : j < l.length), j < i → l[j] ≠ s) → dancestudioref05_find.l0 k l s i = some (fndN l s) := by
  intro d
  induction d with
  | zero =>
    intro k i h1 h2 h3 hn
    obtain ⟨k, rfl⟩ : ∃ m, k = m + 1 := ⟨k - 1, by omega⟩
    unfold dancestudioref05_find.l0 fndN
    rw [if_neg (by omega), if_neg]
    intro hm
    obtain ⟨j, hj, e⟩ := List.mem_iff_getElem.1 hm
    exact hn j hj (by omega) e
  | succ d ih =>
    intro k i h1 h2 h3 hn
    obtain ⟨k, rfl⟩ : ∃ m, k = m + 1 := ⟨k - 1, by omega⟩
    have hi : i < l.length := by omega
    unfold dancestudioref05_find.l0
    rw [if_pos (by omega), if_pos (by omega), rd_get l i hi]
    by_cases he : l[i] = s
    · rw [if_pos (toList_same.2 he)]
      have hm : s ∈ l := he ▸ List.getElem_mem hi
      unfold fndN
      rw [if_pos hm]
      have : posN l s = i := (List.findIdx_eq hi).2 ⟨by simp [he], fun j hj => by simpa using hn j (by omega) hj⟩
      rw [this]
    · rw [if_neg (fun h => he (toList_same.1 h)), show wrap64 ((i : Int) + 1) = ((i + 1 : Nat) : Int) by rw [Int.natCast_add]; exact wrap_in (by omega) (by omega)]
      exact ih k (i + 1) (by omega) (by omega) (by omega) (fun j hj h => by
        by_cases e : j = i
        · subst e; exact he
        · exact hn j hj (by omega))
theorem find_spec (l : List ByteArray) (s : ByteArray) (hl : l.length ≤ 9223372036854775807) : dancestudioref05_find.f (l.length + 1) l s = some (fndN l s) := by
  unfold dancestudioref05_find.f
  exact find_l0 l s hl l.length (l.length + 1) 0 (by omega) (by omega) (by omega) (fun j _ h => by omega)
theorem Find_calls (A : Option Addr) (c : Nat) (l : List ByteArray) (s : ByteArray) (w : World) (hC : Kd.C Kd.string w A l.length l) (hc : l.length ≤ c) (hl : l.length ≤ 9223372036854775807) :
    Calls Tryd.prog 37 #[.slice A l.length c, .string s] w fun e w' => e = .returned (.int .i64 (fndN l s)) ∧ Drawn0 w w' :=
  dancestudioref05_find.calls (l.length + 1) A c l s (fndN l s) w hC hc (find_spec l s hl)
/-- The reference's table's memory: block g, made since w0. -/
structure IsU (w0 w : World) (g : Nat) (l : List ByteArray) : Prop where mk ::
  (out : ∃ v : Value, w.heap[g]? = some (.cells #[v] 55 (0, 0)) ∧ w0.heap.size ≤ g ∧ Kd.R Kd.string 9 w w0.heap.size (fun k => k ≠ g) v l)
theorem IsU.below {w0 w w1 : World} {g : Nat} {l : List ByteArray} (h : IsU w0 w g l) (hb : Below w.heap.size w w1) : IsU w0 w1 g l := by
  obtain ⟨v, h1, h2, h3⟩ := h.out
  have hlt : g < w.heap.size := (Array.getElem?_eq_some_iff.1 h1).1
  exact ⟨v, (hb.block g hlt).trans h1, h2, Kd.R_below h3 hb⟩
theorem fnd_pos {l : List ByteArray} {s : ByteArray} (h : s ∈ l) : fndN l s = (posN l s : Nat) := by unfold fndN; rw [if_pos h]
theorem fnd_neg {l : List ByteArray} {s : ByteArray} (h : s ∉ l) : fndN l s = -1 := by unfold fndN; rw [if_neg h]
theorem idx_pos {l : List ByteArray} {s : ByteArray} (h : s ∈ l) : idxN l s = (posN l s : Nat) := by unfold idxN; rw [if_pos h]
theorem idx_neg {l : List ByteArray} {s : ByteArray} (h : s ∉ l) : idxN l s = 0 := by unfold idxN; rw [if_neg h]
set_option maxHeartbeats 1000000 in
theorem RIndex_calls (w0 w : World) (g : Nat) (l : List ByteArray) (s : ByteArray) (hU : IsU w0 w g l) (hl : l.length ≤ 9223372036854775807) :
    Calls Tryd.prog 20 #[.pointer (some ⟨g, 0, none⟩), .string s] w fun e w' => e = .returned (.tuple #[.int .i64 (idxN l s), .bool (decide (s ∈ l))]) ∧ Drawn0 w w' := by
  obtain ⟨v, h1, h2, h3⟩ := hU.out
  obtain ⟨A, c, rfl⟩ := Kd.R_slice h3
  have hc0 : w.cell? ⟨g, 0, none⟩ = some (.slice A l.length c) := by simp [World.cell?, h1]
  obtain ⟨_, hlc, hC⟩ := Kd.R_reads' h3
  have HF := Aside0.mk (Find_calls A c l s w hC hlc hl)
  have hd : ∃ n : Int, n = fndN l s ∧ ((s ∈ l ∧ 0 ≤ n ∧ idxN l s = n) ∨ (s ∉ l ∧ n < 0 ∧ idxN l s = 0)) := by
    refine ⟨_, rfl, ?_⟩
    by_cases hs : s ∈ l
    · exact .inl ⟨hs, by rw [fnd_pos hs]; omega, by rw [fnd_pos hs, idx_pos hs]⟩
    · exact .inr ⟨hs, by rw [fnd_neg hs]; omega, idx_neg hs⟩
  clear h1 h2 h3 hC hU
  obtain ⟨n, hn, hd⟩ := hd
  rw [← hn] at HF
  clear hn
  rcases hd with ⟨hs, h0, hi⟩ | ⟨hs, h0, hi⟩
  · have h00 : ¬ n < 0 := by omega
    have hs' : decide (s ∈ l) = true := decide_eq_true hs
    rw [hi, hs']
    clear hi hs hs'
    go_enter Tryd.func20, Tryd.ntmps20
    go_wp2_with fail
    refine HF.out.mono ?_
    rintro e w1 ⟨rfl, ⟨m, rfl⟩⟩
    go_wp2
    go_ret2
    exact ⟨rfl, ⟨_, rfl⟩⟩
  · have hs' : decide (s ∈ l) = false := decide_eq_false hs
    rw [hi, hs']
    clear hi hs hs'
    go_enter Tryd.func20, Tryd.ntmps20
    go_wp2_with fail
    refine HF.out.mono ?_
    rintro e w1 ⟨rfl, ⟨m, rfl⟩⟩
    go_wp2
    go_ret2
    exact ⟨rfl, ⟨_, rfl⟩⟩
set_option maxHeartbeats 1000000 in
theorem RName_calls (w0 w : World) (g : Nat) (l : List ByteArray) (i : Int) (hU : IsU w0 w g l) :
    Calls Tryd.prog 21 #[.pointer (some ⟨g, 0, none⟩), .int .i64 i] w (NamePost w l i) := by
  obtain ⟨v, h1, h2, h3⟩ := hU.out
  obtain ⟨A, c, rfl⟩ := Kd.R_slice h3
  have hc0 : w.cell? ⟨g, 0, none⟩ = some (.slice A l.length c) := by simp [World.cell?, h1]
  obtain ⟨_, _, hC⟩ := Kd.R_reads' h3
  have HC := Aside0.mk hC
  clear h1 h2 h3 hU hC
  by_cases hneg : i < 0
  · have hn1 : decide (i < 0) = true := decide_eq_true hneg
    have hfin : NamePost w l i (.returned (.tuple #[.string ByteArray.empty, .int .i64 6])) w := ⟨by rw [if_neg (by omega), if_neg (by omega)], Below.refl _ _⟩
    go_enter Tryd.func21, Tryd.ntmps21
    go_wp2
    go_ret2
    exact hfin
  · by_cases hge : (l.length : Int) ≤ i
    · have hn1 : decide (i < 0) = false := decide_eq_false hneg
      have hfin : ∀ n, NamePost w l i (.returned (.tuple #[.string ByteArray.empty, .int .i64 6])) (w.drewN n) := fun n => ⟨by rw [if_neg (by omega), if_neg (by omega)], pw_below_drewN (Below.refl _ _) n⟩
      have HF := Aside0.mk hfin
      clear hfin
      go_enter Tryd.func21, Tryd.ntmps21
      go_wp2
      go_ret2
      first | exact HF.out 0 | exact HF.out _
    · have hn1 : decide (i < 0) = false := decide_eq_false hneg
      have hg1 : ¬ (l.length : Int) ≤ i := hge
      obtain ⟨ad, e, hx⟩ := Kd.at_string HC.out i (by omega) (by omega)
      cases e
      have hfin : ∀ n, NamePost w l i (.returned (.tuple #[.string (rdOf ByteArray.empty l i), .int .i64 0])) (w.drewN n) := fun n => ⟨by rw [if_pos (by omega), if_pos (by omega)], pw_below_drewN (Below.refl _ _) n⟩
      have HF := Aside0.mk hfin
      have p1 : (0 : Int) ≤ i := by omega
      have q1 : i < (l.length : Int) := by omega
      clear hfin
      go_enter Tryd.func21, Tryd.ntmps21
      go_wp2
      go_ret2
      first | exact HF.out 0 | exact HF.out _
end Go.Proofs.YtallacbjeajpoaaDoor.Tab
