/- The law on the order of names: its walk. -/
import Derived.Test.YtallacbjeajpoaaDoorWkD
import Derived.IntWalk
namespace Go.Proofs.YtallacbjeajpoaaDoor
open Go.RowKit Go.Maps Go.WideMaps Go.Sort Go.Lib Go.Proofs Go.Proofs.YtallacbjeajpoaaDoor.Ext Go.Proofs.YtallacbjeajpoaaDoor.P Go.Proofs.YtallacbjeajpoaaDoor.Idp Go.Proofs.YtallacbjeajpoaaDoor.Tab Go.Proofs.YtallacbjeajpoaaDoor.Awk Go.Proofs.YtallacbjeajpoaaDoorW.PrintWords Go.Proofs.YtallacbjeajpoaaDoorW.PrintLast Go.Proofs.YtallacbjeajpoaaDoorW.PrintMore
/-- The literal of the three texts, and what stands beside it. -/
structure Tri (W w : World) (b : Nat) (l : List ByteArray) : Prop where
  below : Below W.heap.size W w
  row : w.heap[b]? = some (.cells (l.map Value.string).toArray 9 (0, 0))
theorem Tri.stay {W w w1 : World} {b : Nat} {l : List ByteArray} (h : Tri W w b l) (hb : Below w.heap.size w w1) : Tri W w1 b l :=
  ⟨below_then h.below h.below.size hb, (hb.block b (Array.getElem?_eq_some_iff.1 h.row).1).trans h.row⟩
theorem Tri.lt {W w : World} {b : Nat} {l : List ByteArray} (h : Tri W w b l) : b < w.heap.size := (Array.getElem?_eq_some_iff.1 h.row).1
theorem Tri.cell {W w : World} {b : Nat} {l : List ByteArray} (h : Tri W w b l) (i : Nat) (hi : i < l.length) : w.cell? ⟨b, i, none⟩ = some (.string (l.getD i ByteArray.empty)) := by
  unfold World.cell?
  rw [h.row]
  simp [hi, List.getD_eq_getElem?_getD]
theorem Tri.C {W w : World} {b : Nat} {l : List ByteArray} (h : Tri W w b l) (hl : l.length ≤ 1000) : Kd.C Kd.string w (some ⟨b, 0, none⟩) l.length l := by
  apply Kd.C_of_reads (d := ByteArray.empty)
  refine ⟨rfl, by omega, fun _ => ⟨_, rfl, fun j hj => ?_⟩⟩
  rw [addr_add, Nat.zero_add]
  exact h.cell j hj
theorem less_not {a b : ByteArray} (h : vld a = false) : less a b = false ∧ less b a = false := by
  unfold less
  rw [h]
  simp
def allV (l : List ByteArray) (i : Nat) : Bool := (l.take i).all vld
theorem tri_less (a b : ByteArray) (ha : vld a = true) (hb : vld b = true) : (ord a b < 0 ∧ less a b = true ∧ less b a = false ∧ a ≠ b) ∨ (a = b ∧ less a b = false ∧ less b a = false) ∨ (less a b = false ∧ less b a = true ∧ a ≠ b) := by
  have h1 := ord_neg a b
  have h2 := ord_range a b
  unfold less
  rw [ha, hb]
  rcases h2 with h2 | h2 | h2
  · refine .inl ⟨by omega, by simp; omega, by simp; omega, fun e => ?_⟩
    rw [ord_zero.2 e] at h2; cases h2
  · exact .inr (.inl ⟨ord_zero.1 h2, by simp; omega, by simp; omega⟩)
  · refine .inr (.inr ⟨by simp; omega, by simp; omega, fun e => ?_⟩)
    rw [ord_zero.2 e] at h2; cases h2
theorem less_tran {a b c : ByteArray} (h1 : less a b = true) (h2 : less b c = true) : less a c = true := by
  unfold less at *
  simp only [Bool.and_eq_true, decide_eq_true_eq] at *
  exact ⟨⟨h1.1.1, h2.1.2⟩, ord_trans h1.2 h2.2⟩
theorem allV3 (a b c : ByteArray) : allV [a, b, c] 3 = (vld a && vld b && vld c) := by
  unfold allV; simp [Bool.and_assoc]
theorem newE3_bad {a b c : ByteArray} (h : (vld a && vld b && vld c) = false) : newE [a, b, c] = 8 := by
  unfold newE
  rw [if_neg]
  simp only [List.all_cons, List.all_nil, Bool.and_true, ← Bool.and_assoc]
  rw [h]; decide
theorem newE3_dup {a b c : ByteArray} (h : (vld a && vld b && vld c) = true) (hd : a = b ∨ a = c ∨ b = c) : newE [a, b, c] = 7 := by
  unfold newE
  rw [if_pos, if_neg]
  · rintro hn
    simp only [List.nodup_cons, List.mem_cons, List.not_mem_nil, or_false, not_or] at hn
    rcases hd with rfl | rfl | rfl
    · exact hn.1.1 rfl
    · exact hn.1.2 rfl
    · exact hn.2.1 rfl
  · simp only [List.all_cons, List.all_nil, Bool.and_true, ← Bool.and_assoc]; exact h
theorem newE3_ok {a b c : ByteArray} (h : (vld a && vld b && vld c) = true) (h1 : a ≠ b) (h2 : a ≠ c) (h3 : b ≠ c) : newE [a, b, c] = 0 := by
  unfold newE
  rw [if_pos, if_pos, if_pos]
  · simp
  · simp [h1, h2, h3]
  · simp only [List.all_cons, List.all_nil, Bool.and_true, ← Bool.and_assoc]; exact h
theorem idx_rd {l : List ByteArray} (hd : l.Nodup) {k : Int} (h0 : 0 ≤ k) (h1 : k < l.length) : rdOf ByteArray.empty l k ∈ l ∧ idxN l (rdOf ByteArray.empty l k) = k := by
  have hk : rdOf ByteArray.empty l k = l[k.toNat]'(by omega) := by
    have := rd_get l k.toNat (by omega)
    rwa [show ((k.toNat : Nat) : Int) = k by omega] at this
  have hm : rdOf ByteArray.empty l k ∈ l := by rw [hk]; exact List.getElem_mem _
  obtain ⟨hp1, hp2⟩ := pos_at hm
  refine ⟨hm, ?_⟩
  rw [idx_pos hm]
  generalize posN l (rdOf ByteArray.empty l k) = p at *
  rw [rd_get l _ hp1, hk] at hp2
  have hne : p = k.toNat := by
    rcases Nat.lt_trichotomy p k.toNat with h | h | h
    · exact absurd hp2 (List.pairwise_iff_getElem.1 hd _ _ hp1 (by omega) h)
    · exact h
    · exact absurd hp2.symm (List.pairwise_iff_getElem.1 hd _ _ (by omega) hp1 h)
  omega
theorem name_in {w w' : World} {l : List ByteArray} {k : Int} {e : Ending} (h : NamePost w l k e w') (h0 : 0 ≤ k) (h1 : k < l.length) : e = .returned (.tuple #[.string (rdOf ByteArray.empty l k), .int .i64 0]) ∧ Below w.heap.size w w' := by
  obtain ⟨h2, h3⟩ := h
  rw [if_pos ⟨h0, h1⟩, if_pos ⟨h0, h1⟩] at h2
  exact ⟨h2, h3⟩
theorem less_eq0 {a b : ByteArray} (h : a = b) : less a b = false := by
  unfold less
  rw [ord_zero.2 h]; simp
theorem str_eq (a : ByteArray) : (a.toList == a.toList) = true := by simp
theorem str_ne {a b : ByteArray} (h : a ≠ b) : (a.toList == b.toList) = false := by
  rw [beq_eq_false_iff_ne]
  intro e
  rw [Lib.toList_data, Lib.toList_data] at e
  exact h (data_inj e)
set_option maxHeartbeats 4000000 in
set_option maxRecDepth 100000 in
theorem IdentOrder_walk (a : ByteArray) (wa : a.size ≤ 140737488351232) (b : ByteArray) (wb : b.size ≤ 140737488351232) (c : ByteArray) (wc : c.size ≤ 140737488351232) (W : World) (hsh : Sh W) :
    Calls Tryd.prog 5 #[.string a, .string b, .string c] W fun e w' => e = .returned (.bool true) ∧ Below W.heap.size W w' := by
  go_enter Tryd.func5, Tryd.ntmps5
  go_wp2_with fail
  have hT : Tri W (W.alloc (.cells #[.string a, .string b, .string c] 9 (0, 0))) W.heap.size [a, b, c] := ⟨below_alloc (Below.refl _ _) _, by unfold World.alloc; simp⟩
  have HT := Aside0.mk hT
  clear hT
  go_loopw [8, 9] (fun va vi wr => ∃ k : Int, 0 ≤ k ∧ k ≤ 3 ∧ va = .bool (allV [a, b, c] k.toNat) ∧ vi = .int .i64 k ∧ Aside0 (Tri W wr W.heap.size [a, b, c])) (fun _ i _ => 3 - (intOf i).toNat)
  case atStart => exact ⟨0, by omega, by omega, rfl, rfl, HT⟩
  case round =>
    clear HT
    obtain ⟨k, hk0, hk1, rfl, rfl, HT⟩ := hrel
    by_cases hlt : k < 3
    · obtain ⟨j, hj⟩ : ∃ j : Int, (k + 1) % 3 = j := ⟨_, rfl⟩
      have hjr : 0 ≤ j ∧ j < 3 := by
        omega
      obtain ⟨hj0, hj1⟩ := hjr
      obtain ⟨x, hx⟩ : ∃ x, x = [a, b, c].getD k.toNat ByteArray.empty := ⟨_, rfl⟩
      obtain ⟨y, hy⟩ : ∃ y, y = [a, b, c].getD j.toNat ByteArray.empty := ⟨_, rfl⟩
      have hcx : wr.cell? ⟨W.heap.size, k.toNat, none⟩ = some (.string x) := by rw [hx]; exact HT.out.cell k.toNat (by simp; omega)
      have hcy : wr.cell? ⟨W.heap.size, j.toNat, none⟩ = some (.string y) := by rw [hy]; exact HT.out.cell j.toNat (by simp; omega)
      have hnext : allV [a, b, c] (k + 1).toNat = (allV [a, b, c] k.toNat && vld x) := by
        unfold allV
        rw [show (k + 1).toNat = k.toNat + 1 by omega, take_snoc' _ k.toNat (by simp; omega), List.all_append, ← hx]
        simp
      have HN := Aside0.mk hnext
      have HSh : Sh wr := hsh.below HT.out.below
      have hW : W.heap.size < wr.heap.size := HT.out.lt
      clear hx hy hnext
      generalize allV [a, b, c] k.toNat = al at *
      cases hv : vld x with
      | true =>
        go_wp2_with (go_at_call 11; refine (ident_Valid.calls 60 _ _ _ (valid_all _ 60 (by decide))).mono ?_; rintro e w' ⟨rfl, ⟨nd, rfl⟩⟩)
        go_roundw
        case rel => exact ⟨k + 1, by omega, by omega, by rw [HN.out, hv, Bool.and_true], by go_num, ⟨HT.out.stay (pw_below_drewN (Below.refl _ _) nd)⟩⟩
        case measure => simp [intOf]; omega
      | false =>
        obtain ⟨hl1, hl2⟩ := less_not (b := y) hv
        have hf1 : ident_Less.f 300 x y = some false := by rw [less_all _ _ 300 (by decide), hl1]
        have hf2 : ident_Less.f 300 y x = some false := by rw [less_all _ _ 300 (by decide), hl2]
        have HF1 := Aside0.mk hf1
        have HF2 := Aside0.mk hf2
        have hw1 : IntKind.i64.wrap (k + 1) = k + 1 := Go.IntWalk.i64_in _ (by omega)
        have hw2 : IntKind.i64.wrap j = j := Go.IntWalk.i64_in _ (by omega)
        have hjt : (k + 1).tmod 3 = j := by rw [← hj]; exact Int.tmod_eq_emod_of_nonneg (by omega)
        have hk3 : (0 : Int) ≤ k + 1 := by omega
        clear hf1 hf2 hl1 hl2
        go_wp2_with (go_at_call 11; refine (ident_Valid.calls 60 _ _ _ (valid_all _ 60 (by decide))).mono ?_; rintro e w' ⟨rfl, ⟨nd, rfl⟩⟩)
        go_region_held3 (fun W' => W'.cell? ⟨W.heap.size, k.toNat, none⟩ = some (.string x) ∧ W'.cell? ⟨W.heap.size, j.toNat, none⟩ = some (.string y))
          (first | exact ⟨hd1, hd2⟩ | exact ⟨hc1, hc2⟩ | exact ⟨hcx, hcy⟩)
          (first
            | (go_at_call 14; ((with_reducible refine (ident_Less.calls 300 _ _ _ _ HF1.out).mono ?_)); rintro e w2 ⟨rfl, hb⟩; have hc1 := (hb.cell (p := ⟨W.heap.size, k.toNat, none⟩) (by simp; exact hW)).trans hcx; have hc2 := (hb.cell (p := ⟨W.heap.size, j.toNat, none⟩) (by simp; exact hW)).trans hcy; have hs2 : Sh w2 := (by first | exact HSh.below hb | exact (Sh.drew HSh).below hb | exact (Sh.drewN HSh).below hb); have HB := Aside0.mk hb; clear hb)
            | (go_at_call 14; ((with_reducible refine (ident_Less.calls 300 _ _ _ _ HF2.out).mono ?_)); rintro e w3 ⟨rfl, hb⟩; have hd1 := (hb.cell (p := ⟨W.heap.size, k.toNat, none⟩) (by simp; exact Nat.lt_of_lt_of_le hW HB.out.size)).trans hc1; have hd2 := (hb.cell (p := ⟨W.heap.size, j.toNat, none⟩) (by simp; exact Nat.lt_of_lt_of_le hW HB.out.size)).trans hc2; have HC := Aside0.mk hb; clear hb))
        have HT3 := Aside0.mk ((HT.out.stay ((pw_below_drewN (Below.refl _ _) (nd + 1)).trans (HB.out.mono (by simp)))).stay HC.out)
        clear hc1 hc2 hd1 hd2 hcx hcy hj hw1 hw2 hjt hk3 HT HB HC
        go_wp2
        go_roundw
        case rel => exact ⟨k + 1, by omega, by omega, by rw [HN.out, hv, Bool.and_false], by go_num, HT3⟩
        case measure => simp [intOf]; omega
    · have hk3 : k = 3 := by omega
      subst hk3
      have HSh : Sh wr := hsh.below HT.out.below
      have HC3 := Aside0.mk (HT.out.C (by simp))
      have hal : allV [a, b, c] (3 : Int).toNat = (vld a && vld b && vld c) := allV3 a b c
      rw [hal]
      clear hal
      cases hall : (vld a && vld b && vld c) with
      | false =>
        have hE := newE3_bad hall
        clear hall
        go_wp2_with fail
        refine (New_calls (some ⟨W.heap.size, 0, none⟩) 3 [a, b, c] wr HC3.out HSh).mono ?_
        rintro e w1 ⟨hb1, hp1⟩
        rcases hp1 with ⟨g, h0, rfl, hT⟩ | ⟨h0, rfl⟩
        · rw [hE] at h0; cases h0
        rw [hE]
        have HB1 := Aside0.mk (below_then HT.out.below HT.out.below.size hb1)
        have hsh1 := HSh.below hb1
        clear hE h0 hb1
        go_wp2_with fail
        refine (awake_calls _ hsh1).mono ?_
        rintro e w' ⟨rfl, hb⟩
        have HB2 := Aside0.mk (below_then HB1.out HB1.out.size hb)
        clear hb
        go_wp2
        go_ret
        exact ⟨rfl, HB2.out⟩
      | true =>
        have hvs : vld a = true ∧ vld b = true ∧ vld c = true := by
          simp only [Bool.and_eq_true] at hall
          exact ⟨hall.1.1, hall.1.2, hall.2⟩
        obtain ⟨hva, hvb, hvc⟩ := hvs
        by_cases e1 : a = b
        · subst e1
          have hE := newE3_dup hall (.inl rfl)
          have l0 := less_eq0 (a := a) rfl
          clear hall hva hvb hvc
          go_wp2_with fail
          refine (New_calls (some ⟨W.heap.size, 0, none⟩) 3 _ wr HC3.out HSh).mono ?_
          rintro e w1 ⟨hb1, hp1⟩
          rcases hp1 with ⟨g, h0, rfl, hT⟩ | ⟨h0, rfl⟩
          · rw [hE] at h0; cases h0
          rw [hE]
          have HB1 := Aside0.mk (below_then HT.out.below HT.out.below.size hb1)
          have hsh1 := HSh.below hb1
          have HB := Aside0.mk (Below.refl w1.heap.size w1)
          clear hE h0 hb1 HT HC3 HSh
          go_wp2_with (first
            | (go_at_call 14; refine (ident_Less.calls 300 _ _ _ _ (less_all _ _ 300 (by decide))).mono ?_; rintro e w' ⟨rfl, hb⟩; have n0_ := Aside0.mk (below_then HB.out HB.out.size hb); clear HB; have HB := n0_; clear n0_ hb)
            | (go_at_call 13; refine (awake_calls _ (Sh.of_below hsh1 HB)).mono ?_; rintro e w' ⟨rfl, hb⟩; have n0_ := Aside0.mk (below_then HB.out HB.out.size hb); clear HB; have HB := n0_; clear n0_ hb))
          go_ret
          exact ⟨rfl, below_then HB1.out HB1.out.size HB.out⟩
        by_cases e2 : a = c
        · subst e2
          have hE := newE3_dup hall (.inr (.inl rfl))
          have s1 := str_ne e1
          have s2 := str_ne (Ne.symm e1)
          rcases tri_less a b hva hvb with ⟨_, l1, l2, _⟩ | ⟨he, _⟩ | ⟨l1, l2, _⟩
          rotate_left
          · exact absurd he e1
          all_goals clear hall hva hvb hvc
          all_goals
            go_wp2_with fail
            refine (New_calls (some ⟨W.heap.size, 0, none⟩) 3 _ wr HC3.out HSh).mono ?_
            rintro e w1 ⟨hb1, hp1⟩
            rcases hp1 with ⟨g, h0, rfl, hT⟩ | ⟨h0, rfl⟩
            · rw [hE] at h0; cases h0
            rw [hE]
            have HB1 := Aside0.mk (below_then HT.out.below HT.out.below.size hb1)
            have hsh1 := HSh.below hb1
            have HB := Aside0.mk (Below.refl w1.heap.size w1)
            clear hE h0 hb1 HT HC3 HSh
            go_wp2_with (first
              | (go_at_call 14; refine (ident_Less.calls 300 _ _ _ _ (less_all _ _ 300 (by decide))).mono ?_; rintro e w' ⟨rfl, hb⟩; have n0_ := Aside0.mk (below_then HB.out HB.out.size hb); clear HB; have HB := n0_; clear n0_ hb)
              | (go_at_call 13; refine (awake_calls _ (Sh.of_below hsh1 HB)).mono ?_; rintro e w' ⟨rfl, hb⟩; have n0_ := Aside0.mk (below_then HB.out HB.out.size hb); clear HB; have HB := n0_; clear n0_ hb))
            go_ret
            exact ⟨rfl, below_then HB1.out HB1.out.size HB.out⟩
        by_cases e3 : b = c
        · subst e3
          have hE := newE3_dup hall (.inr (.inr rfl))
          have s1 := str_ne e1
          have s2 := str_ne (Ne.symm e1)
          have l0 := less_eq0 (a := b) rfl
          rcases tri_less a b hva hvb with ⟨_, l1, l2, _⟩ | ⟨he, _⟩ | ⟨l1, l2, _⟩
          rotate_left
          · exact absurd he e1
          all_goals clear hall hva hvb hvc
          all_goals
            go_wp2_with fail
            refine (New_calls (some ⟨W.heap.size, 0, none⟩) 3 _ wr HC3.out HSh).mono ?_
            rintro e w1 ⟨hb1, hp1⟩
            rcases hp1 with ⟨g, h0, rfl, hT⟩ | ⟨h0, rfl⟩
            · rw [hE] at h0; cases h0
            rw [hE]
            have HB1 := Aside0.mk (below_then HT.out.below HT.out.below.size hb1)
            have hsh1 := HSh.below hb1
            have HB := Aside0.mk (Below.refl w1.heap.size w1)
            clear hE h0 hb1 HT HC3 HSh
            go_wp2_with (first
              | (go_at_call 14; refine (ident_Less.calls 300 _ _ _ _ (less_all _ _ 300 (by decide))).mono ?_; rintro e w' ⟨rfl, hb⟩; have n0_ := Aside0.mk (below_then HB.out HB.out.size hb); clear HB; have HB := n0_; clear n0_ hb)
              | (go_at_call 13; refine (awake_calls _ (Sh.of_below hsh1 HB)).mono ?_; rintro e w' ⟨rfl, hb⟩; have n0_ := Aside0.mk (below_then HB.out HB.out.size hb); clear HB; have HB := n0_; clear n0_ hb))
            go_ret
            exact ⟨rfl, below_then HB1.out HB1.out.size HB.out⟩
        have hE := newE3_ok hall e1 e2 e3
        have hnd : [a, b, c].Nodup := by simp [e1, e2, e3]
        have s1 := str_ne e1
        have s2 := str_ne e2
        have s3 := str_ne e3
        have HND := Aside0.mk hnd
        have HSZ : Aside0 (∀ s ∈ [a, b, c], s.size ≤ maxLen) := ⟨fun s hs => by
          simp only [List.mem_cons, List.not_mem_nil, or_false] at hs
          have hva := vld_size hva
          have hvb := vld_size hvb
          have hvc := vld_size hvc
          unfold maxLen
          rcases hs with rfl | rfl | rfl <;> omega⟩
        have hways : (less a b = true ∧ less b a = false ∧ less b c = true ∧ less a c = true) ∨ (less a b = true ∧ less b a = false ∧ less b c = false) ∨ (less a b = false ∧ less b a = true) := by
          rcases tri_less a b hva hvb with ⟨_, l1, l2, _⟩ | ⟨he, _⟩ | ⟨l1, l2, _⟩
          · cases l3 : less b c with
            | true => exact .inl ⟨l1, l2, rfl, less_tran l1 l3⟩
            | false => exact .inr (.inl ⟨l1, l2, rfl⟩)
          · exact absurd he e1
          · exact .inr (.inr ⟨l1, l2⟩)
        clear hnd hall hva hvb hvc
        rcases hways with ⟨l1, l2, l3, l4⟩ | ⟨l1, l2, l3⟩ | ⟨l1, l2⟩
        all_goals
          go_wp2_with fail
          refine (New_calls (some ⟨W.heap.size, 0, none⟩) 3 _ wr HC3.out HSh).mono ?_
          rintro e w1 ⟨hb1, hp1⟩
          rcases hp1 with ⟨g, h0, rfl, hT⟩ | ⟨h0, rfl⟩
          case inr => exact absurd hE h0
          have HT1 := Aside0.mk hT
          have HL1 := Aside0.mk (HT.out.stay hb1)
          have hsh1 := HSh.below hb1
          have HB := Aside0.mk (Below.refl w1.heap.size w1)
          clear hE h0 hb1 HT HC3 HSh hT
          go_wp2_with (go_at_call 14; refine (ident_Less.calls 300 _ _ _ _ (less_all _ _ 300 (by decide))).mono ?_; rintro e w' ⟨rfl, hb⟩; have n0_ := Aside0.mk (below_then HB.out HB.out.size hb); clear HB; have HB := n0_; clear n0_ hb)
          go_loopw [14] (fun vi wr => ∃ k : Int, vi = .int .i64 k ∧ 0 ≤ k ∧ k ≤ 3 ∧ Aside0 (Below w1.heap.size w1 wr)) (fun i _ => 3 - (intOf i).toNat)
          case atStart => exact ⟨0, rfl, by omega, by omega, HB⟩
          case round =>
            clear HB
            obtain ⟨k, rfl, hk0, hk1, HB⟩ := hrel
            by_cases hlt : k < 3
            · obtain ⟨hm, hix⟩ := idx_rd HND.out hk0 (show k < ([a, b, c].length : Int) by simpa using hlt)
              have HN := Aside0.mk fun (w : World) e w' (h : NamePost w [a, b, c] k e w') => name_in h hk0 (by simpa using hlt)
              have hcx0 := HL1.out.cell k.toNat (by simp; omega)
              have hsz := HSZ.out _ hm
              have hlx := HL1.out.lt
              have hcx : wr.cell? ⟨W.heap.size, k.toNat, none⟩ = some (.string (rdOf ByteArray.empty [a, b, c] k)) := (HB.out.cell (p := ⟨W.heap.size, k.toNat, none⟩) hlx).trans hcx0
              have hde : decide (rdOf ByteArray.empty [a, b, c] k ∈ [a, b, c]) = true := decide_eq_true hm
              have HI := Aside0.mk fun (v w : World) (h : IsT v w g [a, b, c]) => Index_calls v w g [a, b, c] (rdOf ByteArray.empty [a, b, c] k) h HND.out hsz
              rw [hix, hde] at HI
              generalize rdOf ByteArray.empty [a, b, c] k = x at *
              have hwr : W.heap.size < wr.heap.size := Nat.lt_of_lt_of_le hlx HB.out.size
              clear hm hix hde hcx0 hsz
              go_wp2_with fail
              refine (Name_calls _ wr g [a, b, c] k (HT1.out.below HB.out)).mono ?_
              intro e w4 hp4
              obtain ⟨rfl, hb4⟩ := HN.out _ _ _ hp4
              have hcx4 : w4.cell? ⟨W.heap.size, k.toNat, none⟩ = some (.string x) := (hb4.cell (p := ⟨W.heap.size, k.toNat, none⟩) hwr).trans hcx
              have HB4 := Aside0.mk (below_then HB.out HB.out.size hb4)
              clear hp4 hb4 HB hcx hwr
              go_wp2_with fail
              refine (HI.out _ w4 (HT1.out.below HB4.out)).mono ?_
              rintro e w5 ⟨rfl, ⟨n5, rfl⟩⟩
              go_wp2
              go_roundw
              case rel => exact ⟨k + 1, by go_num, by omega, by omega, ⟨pw_below_drewN HB4.out _⟩⟩
              case measure => simp [intOf]; omega
            · have hk3 : k = 3 := by omega
              subst hk3
              go_wp2_with fail
              refine (awake_calls _ (Sh.of_below hsh1 HB)).mono ?_
              rintro e w' ⟨rfl, hb⟩
              have HB5 := Aside0.mk (below_then HB.out HB.out.size hb)
              clear hb
              go_wp2
              go_ret
              exact ⟨rfl, below_then HL1.out.below HL1.out.below.size HB5.out⟩
end Go.Proofs.YtallacbjeajpoaaDoor
