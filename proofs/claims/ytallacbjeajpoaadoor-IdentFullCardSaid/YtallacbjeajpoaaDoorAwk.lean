/- The examples of the chapter on names hold, whatever the memory. -/
import Derived.Test.YtallacbjeajpoaaDoorTabD
import Derived.Deep.RegionHeld3
namespace Go.Proofs.YtallacbjeajpoaaDoor.Awk
open Go.RowKit Go.Maps Go.WideMaps Go.Sort Go.Lib Go.Proofs Go.Proofs.YtallacbjeajpoaaDoor.Ext Go.Proofs.YtallacbjeajpoaaDoor.P Go.Proofs.YtallacbjeajpoaaDoor.Idp Go.Proofs.YtallacbjeajpoaaDoor.Tab Go.Proofs.YtallacbjeajpoaaDoorW.PrintWords Go.Proofs.YtallacbjeajpoaaDoorW.PrintLast Go.Proofs.YtallacbjeajpoaaDoorW.PrintMore
def keyF : Nat → List UInt8 → List Nat
  | 0, _ => []
  | _ + 1, [] => []
  | n + 1, c :: l => if isDb c then 0 :: (numKey (c :: l.takeWhile isDb) ++ keyF n (l.dropWhile isDb)) else (1 + c.toNat) :: keyF n l
theorem key_eq : ∀ n l, l.length ≤ n → key l = keyF n l
  | 0, l => fun h => by
    have : l = [] := List.eq_nil_of_length_eq_zero (by omega)
    subst this; rw [key_nil]; rfl
  | n + 1, [] => fun _ => by rw [key_nil]; rfl
  | n + 1, c :: l => fun h => by
    simp only [List.length_cons] at h
    unfold keyF
    cases hc : isDb c with
    | true =>
      have := (List.dropWhile_suffix isDb (l := l)).length_le
      rw [key_digit hc, key_eq n _ (by omega)]; rfl
    | false => rw [key_other hc, key_eq n l (by omega)]; rfl
def ordF (a b : ByteArray) : Int := cmpI (keyF 24 a.data.toList) (keyF 24 b.data.toList)
theorem ord_eqF (a b : ByteArray) (ha : a.size ≤ 24) (hb : b.size ≤ 24) : ord a b = ordF a b := by
  unfold ord ordF
  rw [key_eq 24 _ (by rw [← Idp.size_eq]; exact ha), key_eq 24 _ (by rw [← Idp.size_eq]; exact hb)]
def lessF (a b : ByteArray) : Bool := vld a && vld b && decide (ordF a b < 0)
theorem less_eqF (a b : ByteArray) : less a b = lessF a b := by
  unfold less lessF
  cases ha : vld a with
  | false => rfl
  | true =>
    cases hb : vld b with
    | false => rfl
    | true => rw [ord_eqF a b (vld_size ha) (vld_size hb)]
def L9 : List ByteArray := [⟨#[97]⟩, ⟨#[97, 55]⟩, ⟨#[97, 48, 55]⟩, ⟨#[97, 48, 48, 55]⟩, ⟨#[97, 56]⟩, ⟨#[97, 49, 48]⟩, ⟨#[97, 45, 98]⟩, ⟨#[97, 98]⟩, ⟨#[98]⟩]
theorem tab9 : ∀ i, i < 9 → ∀ k, k < 9 → lessF (L9.getD i ByteArray.empty) (L9.getD k ByteArray.empty) = decide (i < k) := by decide +kernel
theorem less9 (i k : Int) (h1 : 0 ≤ i) (h2 : i < 9) (h3 : 0 ≤ k) (h4 : k < 9) : less (rdOf ByteArray.empty L9 i) (rdOf ByteArray.empty L9 k) = decide (i < k) := by
  rw [less_eqF]
  have := tab9 i.toNat (by omega) k.toNat (by omega)
  unfold rdOf
  rw [this, Bool.eq_iff_iff, decide_eq_true_iff, decide_eq_true_iff]
  omega
theorem v1 : vld ⟨#[112, 97, 115, 45, 100, 101, 45, 50]⟩ = true := by decide +kernel
theorem v2 : vld ⟨#[97, 98, 99, 100, 101, 102, 103, 104, 105, 106, 107, 108, 109, 110, 111, 112, 113, 114, 115, 116, 117, 118, 119, 120]⟩ = true := by decide +kernel
theorem v3 : vld ⟨#[97, 98, 99, 100, 101, 102, 103, 104, 105, 106, 107, 108, 109, 110, 111, 112, 113, 114, 115, 116, 117, 118, 119, 120, 121]⟩ = false := by decide +kernel
theorem v4 : vld ⟨#[50, 45, 115, 116, 101, 112]⟩ = false := by decide +kernel
theorem v5 : vld ⟨#[97, 45, 45, 98]⟩ = false := by decide +kernel
theorem v6 : vld ⟨#[97, 45]⟩ = false := by decide +kernel
theorem v7 : vld ⟨#[]⟩ = false := by decide +kernel
theorem lAb : less ⟨#[65]⟩ ⟨#[98]⟩ = false := by rw [less_eqF]; decide +kernel
def P3 : List ByteArray := [⟨#[112, 49, 48]⟩, ⟨#[113]⟩, ⟨#[112, 57]⟩]
theorem newP3 : newE P3 = 0 := by decide +kernel
theorem sortP3 : sortN P3 = [⟨#[112, 57]⟩, ⟨#[112, 49, 48]⟩, ⟨#[113]⟩] := by
  apply sortN_eq
  · decide
  · have o1 : ord ⟨#[112, 57]⟩ ⟨#[112, 49, 48]⟩ ≤ 0 := by rw [ord_eqF _ _ (by decide) (by decide)]; decide +kernel
    have o2 : ord ⟨#[112, 57]⟩ ⟨#[113]⟩ ≤ 0 := by rw [ord_eqF _ _ (by decide) (by decide)]; decide +kernel
    have o3 : ord ⟨#[112, 49, 48]⟩ ⟨#[113]⟩ ≤ 0 := by rw [ord_eqF _ _ (by decide) (by decide)]; decide +kernel
    simp [o1, o2, o3]
def dancestudiolaw05_awake.f : Option Bool := some true
/-- A literal of strings, read. -/
theorem lit_C (W : World) (l : List ByteArray) (h : l.length ≤ 1000) (t : TypeId) : Kd.C Kd.string (W.alloc (.cells (l.map Value.string).toArray t)) (some ⟨W.heap.size, 0, none⟩) l.length l := by
  apply Kd.C_of_reads (d := ByteArray.empty)
  refine ⟨rfl, by omega, fun _ => ⟨_, rfl, fun j hj => ?_⟩⟩
  rw [addr_add]
  unfold World.alloc World.cell?
  simp [hj, List.getD_eq_getElem?_getD]
theorem name2 {w w' : World} {e : Ending} (h : NamePost w P3 2 e w') : e = .returned (.tuple #[.string ⟨#[112, 57]⟩, .int .i64 0]) ∧ Below w.heap.size w w' := ⟨h.1.trans (by simp [P3, rdOf]), h.2⟩
theorem name3 {w w' : World} {e : Ending} (h : NamePost w P3 3 e w') : e = .returned (.tuple #[.string ByteArray.empty, .int .i64 6]) ∧ Below w.heap.size w w' := ⟨h.1.trans (by simp [P3]), h.2⟩
/-- What the loops over the nine names keep. -/
structure LW (w wr : World) : Prop where
  below : Below w.heap.size w wr
  row : wr.heap[w.heap.size]? = some (.cells (L9.map Value.string).toArray 9 (0, 0))
theorem LW.step {w wr w1 : World} (h : LW w wr) (hb : Below wr.heap.size wr w1) : LW w w1 :=
  ⟨below_then h.below h.below.size hb, (hb.block _ (Array.getElem?_eq_some_iff.1 h.row).1).trans h.row⟩
theorem LW.cell {w wr : World} (h : LW w wr) (i : Int) (h0 : 0 ≤ i) (h1 : i < 9) : wr.cell? ⟨w.heap.size, i.toNat, none⟩ = some (.string (rdOf ByteArray.empty L9 i)) := by
  have hl : i.toNat < L9.length := by show i.toNat < 9; omega
  unfold World.cell?
  rw [h.row]
  simp [rdOf, hl, List.getD_eq_getElem?_getD]
set_option maxHeartbeats 4000000 in
set_option maxRecDepth 100000 in
theorem dancestudiolaw05_awake.calls (r : Bool) (w : World) (h : dancestudiolaw05_awake.f = some r) (hsh : Sh w := by repeat (first | assumption | exact Sh.of_below (by assumption) (by assumption) | apply Sh.drewN | apply Sh.drew | apply Sh.alloc | refine Sh.set (by assumption) (by assumption) ?_)) :
    Calls Tryd.prog 13 #[] w fun e w' => e = .returned (.bool r) ∧ Below w.heap.size w w' := by
  obtain rfl := Option.some.inj h
  clear h
  have a1 := v1
  have a2 := v2
  have a3 := v3
  have a4 := v4
  have a5 := v5
  have a6 := v6
  have a7 := v7
  go_enter Tryd.func13, Tryd.ntmps13
  go_wp2_with (go_at_call 11; refine (ident_Valid.calls 60 _ _ _ (valid_all _ 60 (by decide))).mono ?_; rintro e w' ⟨rfl, ⟨nd, rfl⟩⟩)
  have hl0 : LW w ((w.drewN 0).alloc (.cells (L9.map Value.string).toArray 9)) := ⟨below_alloc (pw_below_drewN (Below.refl _ _) _) _, by unfold World.alloc; simp⟩
  go_loopw [2] (fun i wr => ∃ x : Int, i = .int .i64 x ∧ 0 ≤ x ∧ x ≤ 9 ∧ Aside0 (LW w wr)) (fun i _ => 9 - (intOf i).toNat)
  case atStart => exact ⟨0, rfl, by omega, by omega, ⟨⟨below_alloc (pw_below_drewN (Below.refl _ _) _) _, by unfold World.alloc; simp [L9]⟩⟩⟩
  case round =>
    obtain ⟨x, rfl, hx0, hx1, HL⟩ := hrel
    obtain ⟨wo, rfl⟩ : ∃ wo : World, wo = wr := ⟨_, rfl⟩
    by_cases hx9 : x < 9
    · go_wp2
      go_loopw [3] (fun i wr => ∃ y : Int, i = .int .i64 y ∧ 0 ≤ y ∧ y ≤ 9 ∧ Aside0 (LW w wr)) (fun i _ => 9 - (intOf i).toNat)
      case atStart => exact ⟨0, rfl, by omega, by omega, HL⟩
      case round =>
        clear HL
        obtain ⟨y, rfl, hy0, hy1, HL⟩ := hrel
        by_cases hy9 : y < 9
        · have hs2 : Sh wr := hsh.below HL.out.below
          have hcx := HL.out.cell x hx0 hx9
          have hcy := HL.out.cell y hy0 hy9
          have hls := less9 x y hx0 hx9 hy0 hy9
          have hxi : x < 9 := hx9
          have hyi : y < 9 := hy9
          have hlt : w.heap.size < wr.heap.size := (Array.getElem?_eq_some_iff.1 HL.out.row).1
          go_wp2_with fail
          go_region_held3 (fun W => W.cell? ⟨w.heap.size, x.toNat, none⟩ = some (.string (rdOf ByteArray.empty L9 x)) ∧ W.cell? ⟨w.heap.size, y.toNat, none⟩ = some (.string (rdOf ByteArray.empty L9 y)))
            (first | exact ⟨hc1, hc2⟩ | exact ⟨hcx, hcy⟩)
            (first | (go_at_call 14; refine (ident_Less.calls 300 _ _ _ _ (less_all _ _ 300 (by decide))).mono ?_; rintro e w2 ⟨rfl, hb⟩; have hc1 := (hb.cell (p := ⟨w.heap.size, x.toNat, none⟩) (by simp; exact hlt)).trans hcx; have hc2 := (hb.cell (p := ⟨w.heap.size, y.toNat, none⟩) (by simp; exact hlt)).trans hcy; have HB := Aside0.mk hb; clear hb))
          all_goals
            have hL2 : LW w w2 := HL.out.step ((below_drew (Below.refl _ _)).trans (HB.out.mono (by simp)))
            have HL2 := Aside0.mk hL2
            clear hL2 HB hc1 hc2 hcx hcy
            go_wp2
            go_roundw
            case rel => exact ⟨y + 1, by go_num, by omega, by omega, by first | exact HL2 | exact ⟨HL2.out.step (pw_below_drewN (Below.refl _ _) _)⟩⟩
            case measure => simp [intOf]; omega
        · have : y = 9 := by omega
          subst this
          go_wp2
          go_roundw
          case rel => exact ⟨x + 1, by go_num, by omega, by omega, HL⟩
          case measure => simp [intOf]; omega
    · have : x = 9 := by omega
      subst this
      have hs2 : Sh wo := hsh.below HL.out.below
      have hAb := lAb
      go_wp2_with fail
      refine (ident_Less.calls 300 _ _ _ _ (less_all _ _ 300 (by decide))).mono ?_
      rintro e w2 ⟨rfl, hb⟩
      have hs3 : Sh w2 := hs2.below hb
      have HB2 := Aside0.mk (below_then HL.out.below HL.out.below.size hb)
      clear hs2 hb HL
      go_wp2_with fail
      have hN := New_calls (some ⟨w2.heap.size, 0, none⟩) 3 P3 (w2.alloc (.cells (P3.map Value.string).toArray 9)) (lit_C w2 P3 (by decide) _) hs3.alloc
      refine hN.mono ?_
      rintro e w3 ⟨hb3, hp⟩
      rcases hp with ⟨g, _, rfl, hT⟩ | ⟨hp, _⟩
      case inr => exact absurd newP3 hp
      have HB3 := Aside0.mk (below_then (below_alloc HB2.out _) (by have := HB2.out.size; simp; omega) hb3)
      have HT := Aside0.mk hT
      clear hN hb3 hT HB2 hs3
      go_wp2_with fail
      refine (Sorted_calls _ w3 g P3 HT.out (by decide) (by decide)).mono ?_
      rintro e w4 ⟨v, rfl, hR, hb4⟩
      rw [sortP3] at hR
      obtain ⟨gr, cap, rfl, _⟩ := Kd.R_form hR (by decide)
      have k0 := (Kd.R_cell ByteArray.empty hR 0 (by decide) (by decide)).1
      have k1 := (Kd.R_cell ByteArray.empty hR 1 (by decide) (by decide)).1
      have k2 := (Kd.R_cell ByteArray.empty hR 2 (by decide) (by decide)).1
      simp [rdOf] at k0 k1 k2
      have HT4 := Aside0.mk (HT.out.below hb4)
      have HB4 := Aside0.mk (below_then HB3.out HB3.out.size hb4)
      clear hR hb4 HT HB3
      go_wp2_with fail
      refine (Index_calls _ w4 g P3 ⟨#[113]⟩ HT4.out (by decide) (by decide)).mono ?_
      rintro e w5 ⟨rfl, ⟨n5, rfl⟩⟩
      have i1 : idxN P3 ⟨#[113]⟩ = 1 := by decide +kernel
      have i2 : decide ((⟨#[113]⟩ : ByteArray) ∈ P3) = true := by decide +kernel
      go_wp2_with fail
      refine (Name_calls _ _ g P3 2 (HT4.out.below (pw_below_drewN (Below.refl _ _) _))).mono ?_
      intro e w6 hp6
      obtain ⟨rfl, hb6⟩ := name2 hp6
      clear hp6
      have HT6 := Aside0.mk ((HT4.out.below (pw_below_drewN (Below.refl _ _) n5)).below hb6)
      have HB6 := Aside0.mk (below_then (pw_below_drewN HB4.out n5) (by have := HB4.out.size; simpa using this) hb6)
      clear hb6 HT4 HB4
      go_wp2_with fail
      refine (Name_calls _ _ g P3 3 HT6.out).mono ?_
      intro e w7 hp7
      obtain ⟨rfl, hb7⟩ := name3 hp7
      clear hp7
      have HB7 := Aside0.mk (below_then HB6.out HB6.out.size hb7)
      clear hb7 HB6 HT6
      go_wp2
      go_ret
      exact ⟨rfl, HB7.out⟩
end Go.Proofs.YtallacbjeajpoaaDoor.Awk
