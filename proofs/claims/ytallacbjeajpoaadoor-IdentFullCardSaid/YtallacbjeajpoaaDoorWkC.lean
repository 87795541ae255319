/- The law on adding names: its walk. -/
import Derived.Test.YtallacbjeajpoaaDoorWkB
namespace Go.Proofs.YtallacbjeajpoaaDoor
open Go.RowKit Go.Maps Go.WideMaps Go.Sort Go.Lib Go.Proofs Go.Proofs.YtallacbjeajpoaaDoor.Ext Go.Proofs.YtallacbjeajpoaaDoor.P Go.Proofs.YtallacbjeajpoaaDoor.Idp Go.Proofs.YtallacbjeajpoaaDoor.Tab Go.Proofs.YtallacbjeajpoaaDoor.Awk Go.Proofs.YtallacbjeajpoaaDoorW.PrintWords Go.Proofs.YtallacbjeajpoaaDoorW.PrintLast Go.Proofs.YtallacbjeajpoaaDoorW.PrintMore
theorem same_l0 (l : List ByteArray) (hl : l.length ≤ 9223372036854775807) : ∀ d k (i : Nat), i ≤ l.length → l.length - i = d → d < k → dancestudiolaw05_same.l0 k l l i = some true := by
  intro d
  induction d with
  | zero =>
    intro k i h1 h2 h3
    obtain ⟨k, rfl⟩ : ∃ m, k = m + 1 := ⟨k - 1, by omega⟩
    unfold dancestudiolaw05_same.l0
    rw [if_neg (by omega)]
  | succ d ih =>
    intro k i h1 h2 h3
    obtain ⟨k, rfl⟩ : ∃ m, k = m + 1 := ⟨k - 1, by omega⟩
    unfold dancestudiolaw05_same.l0
    rw [if_pos (by omega), if_pos (by omega), if_pos (by omega), if_pos rfl, show wrap64 ((i : Int) + 1) = ((i + 1 : Nat) : Int) by rw [Int.natCast_add]; exact wrap_in (by omega) (by omega)]
    exact ih k (i + 1) (by omega) (by omega) (by omega)
theorem same_refl (l : List ByteArray) (hl : l.length ≤ 9223372036854775807) : dancestudiolaw05_same.f (l.length + 1) l l = some true := by
  unfold dancestudiolaw05_same.f
  rw [if_pos rfl]
  exact same_l0 l hl l.length (l.length + 1) 0 (by omega) (by omega) (by omega)
theorem IsUf.lower {F : Nat → Prop} {w0 w1 w : World} {g : Nat} {l : List ByteArray} (h : IsUf F w1 w g l) (hb : w0.heap.size ≤ w1.heap.size) : IsUf F w0 w g l := by
  obtain ⟨v, h1, h2, h3, h4⟩ := h.out
  exact ⟨v, h1, Nat.le_trans hb h2, Kd.R_lower h3 hb, h4⟩
theorem fram_below {w w1 : World} (h : Below w.heap.size w w1) : Fram (fun _ => False) w w1 := ⟨h.size, fun k hk _ => h.block k hk⟩
theorem addL_valid {l : List ByteArray} {s : ByteArray} (h : ∀ x ∈ l, vld x = true) : ∀ x ∈ addL l s, vld x = true := by
  unfold addL
  split
  · rename_i e
    intro x hx
    rcases List.mem_append.1 hx with hx | hx
    · exact h x hx
    · simp at hx
      subst hx
      cases hv : vld x with
      | true => rfl
      | false => rw [addE_8 hv] at e; cases e
  · exact h
theorem addL_nodup {l : List ByteArray} {s : ByteArray} (h : l.Nodup) : (addL l s).Nodup := by
  unfold addL
  split
  · rename_i e
    rw [List.nodup_append]
    refine ⟨h, by simp, fun a ha b hb => ?_⟩
    simp at hb
    subst hb
    intro e2
    subst e2
    unfold addE at e
    cases hv : vld a with
    | true => rw [if_pos hv, if_pos ha] at e; cases e
    | false => rw [if_neg (by rw [hv]; decide)] at e; cases e
  · exact h
theorem addL_length (l : List ByteArray) (s : ByteArray) : (addL l s).length ≤ l.length + 1 := by
  unfold addL
  split <;> simp
/-- What the loop over the texts keeps. -/
structure Both (W w : World) (g u : Nat) (l : List ByteArray) (n : Nat) : Prop where
  below : Below W.heap.size W w
  tabs : ∃ F G, IsTf F W w g l ∧ IsUf G W w u l ∧ ∀ k, F k → ¬ G k
  valid : ∀ x ∈ l, vld x = true
  dup : l.Nodup
  len : l.length ≤ n
theorem Both.stay {W w w1 : World} {g u : Nat} {l : List ByteArray} {n : Nat} (h : Both W w g u l n) (hb : Below w.heap.size w w1) : Both W w1 g u l n := by
  obtain ⟨F, G, h1, h2, h3⟩ := h.tabs
  exact ⟨below_then h.below h.below.size hb, ⟨F, G, h1.kept (fram_below hb) (fun _ _ h => h), h2.kept (fram_below hb) (fun _ _ h => h), h3⟩, h.valid, h.dup, h.len⟩
/-- Between the two calls of Add. -/
structure Half (W w : World) (g u : Nat) (l : List ByteArray) (s : ByteArray) (n : Nat) : Prop where
  below : Below W.heap.size W w
  tabs : ∃ F G, IsTf F W w g (addL l s) ∧ IsUf G W w u l ∧ ∀ k, F k → ¬ G k
  valid : ∀ x ∈ l, vld x = true
  dup : l.Nodup
  len : l.length ≤ n
theorem Half.drewN {W w : World} {g u : Nat} {l : List ByteArray} {s : ByteArray} {n : Nat} (h : Half W w g u l s n) (m : Nat) : Half W (w.drewN m) g u l s n := by
  obtain ⟨F, G, h1, h2, h3⟩ := h.tabs
  exact ⟨pw_below_drewN h.below m, ⟨F, G, h1.kept (Fram.drewN (fun _ => False) w m) (fun _ _ h => h), h2.kept (Fram.drewN (fun _ => False) w m) (fun _ _ h => h), h3⟩, h.valid, h.dup, h.len⟩
theorem both_add {W w w1 : World} {g u : Nat} {l : List ByteArray} {s : ByteArray} {n : Nat} {e : Ending} {F G : Nat → Prop} (h : Both W w g u l n) (_ : IsTf F W w g l) (h2 : IsUf G W w u l) (h3 : ∀ k, F k → ¬ G k) (hp : AddPost IsTf F W w g l s e w1) : Half W w1 g u l s n := by
  obtain ⟨_, ⟨F', ht, hF, hf⟩, hb⟩ := hp
  refine ⟨h.below.trans hb, ⟨F', G, ht, h2.kept hf (fun k hg hk => h3 k hk hg), fun k hk hg => ?_⟩, h.valid, h.dup, h.len⟩
  rcases hF k hk with hk | hk
  · exact h3 k hk hg
  · have := (h2.lt k hg).2; omega
theorem half_add {W w w1 : World} {g u : Nat} {l : List ByteArray} {s : ByteArray} {n : Nat} {e : Ending} {F G : Nat → Prop} (h : Half W w g u l s n) (h1 : IsTf F W w g (addL l s)) (_ : IsUf G W w u l) (h3 : ∀ k, F k → ¬ G k) (hp : AddPost IsUf G W w u l s e w1) : Both W w1 g u (addL l s) (n + 1) := by
  obtain ⟨_, ⟨G', ht, hG, hf⟩, hb⟩ := hp
  refine ⟨h.below.trans hb, ⟨F, G', h1.kept hf h3, ht, fun k hk hg => ?_⟩, addL_valid h.valid, addL_nodup h.dup, Nat.le_trans (addL_length _ _) (by have := h.len; omega)⟩
  rcases hG k hg with hg | hg
  · exact h3 k hk hg
  · have := (h1.lt k hk).2; omega
theorem nil_C (w : World) : Kd.C Kd.string w none ([] : List ByteArray).length [] := Kd.C_of_reads (d := ByteArray.empty) ⟨rfl, by decide, fun h => absurd h (by decide)⟩
theorem newE_nil : newE [] = 0 := by decide
set_option maxHeartbeats 4000000 in
set_option maxRecDepth 100000 in
theorem IdentAdd_walk (W : World) (A0 : Option Addr) (c0 : Nat) (l0 : List ByteArray) (hr0 : Kd.C Kd.string W A0 l0.length l0) (_ : l0.length ≤ c0) (hsh : Sh W) :
    Calls Tryd.prog 8 #[.slice A0 l0.length c0] W fun e w' => e = .returned (.bool true) ∧ Below W.heap.size W w' := by
  have HR0 := Aside0.mk hr0
  have hm2 := hr0.2.1
  clear hr0
  by_cases hlen : (40 : Int) < l0.length
  · go_enter Tryd.func8, Tryd.ntmps8
    go_wp2_with fail
    refine (awake_calls _ hsh).mono ?_
    rintro e w' ⟨rfl, hb⟩
    go_wp2
    go_ret
    exact ⟨rfl, hb⟩
  · go_enter Tryd.func8, Tryd.ntmps8
    go_wp2_with fail
    refine (New_calls none 0 [] W (nil_C W) hsh).mono ?_
    rintro e w1 ⟨hb1, hp1⟩
    rcases hp1 with ⟨g, _, rfl, hT⟩ | ⟨h0, rfl⟩
    case inr => exact absurd newE_nil h0
    have HC1 := Aside0.mk (RNew_calls none 0 [] w1 (nil_C w1) (by decide))
    go_wp2_with fail
    refine HC1.out.mono ?_
    rintro e w2 ⟨hb2, hp2⟩
    rcases hp2 with ⟨u, _, rfl, hU⟩ | ⟨h0', _⟩
    case inr => exact absurd newE_nil h0'
    have hB : Both W w2 g u [] 0 := by
      obtain ⟨F, hF⟩ := (hT.below hb2).foot
      obtain ⟨G, hG⟩ := hU.foot
      obtain ⟨F1, hF1⟩ := hT.foot
      refine ⟨below_then hb1 hb1.size hb2, ⟨F1, G, hF1.kept (fram_below hb2) (fun _ _ h => h), IsUf.lower hG hb1.size, fun k hk hg => ?_⟩, by simp, List.nodup_nil, Nat.le_refl _⟩
      have := (hF1.lt k hk).2
      have := (hG.lt k hg).1
      omega
    have HB := Aside0.mk hB
    clear hB hT hU hb1 hb2 HC1
    go_wp2
    go_loopw [7] (fun i wr => ∃ (k : Int) (cur : List ByteArray), i = .int .i64 k ∧ 0 ≤ k ∧ k ≤ l0.length ∧ Aside0 (Both W wr g u cur k.toNat)) (fun i _ => l0.length - (intOf i).toNat)
    case atStart => exact ⟨0, [], rfl, by omega, by omega, HB⟩
    case round =>
      clear HB
      obtain ⟨k, cur, rfl, hk0, hk1, HB⟩ := hrel
      by_cases hlt : k < (l0.length : Int)
      · obtain ⟨ad, e, hx⟩ := Kd.at_string HR0.out k hk0 hlt
        cases e
        generalize rdOf ByteArray.empty l0 k = s at hx
        have hxlt := World.block_lt_of_cell? W _ hx
        have hxr := (HB.out.below.cell hxlt).trans hx
        have HX := Aside0.mk hx
        have HXL := Aside0.mk hxlt
        obtain ⟨F, G, ht, hu, hd⟩ := HB.out.tabs
        have hshr : Sh wr := hsh.below HB.out.below
        have hcl := HB.out.len
        have HC := Aside0.mk (Add_calls W wr g cur s F ht HB.out.below.size (by omega) hshr)
        have HD := Aside0.mk (fun e w1 hp => both_add (e := e) (w1 := w1) (s := s) HB.out ht hu hd hp)
        clear hx hxlt ht hu hd hshr hcl
        go_wp2_with fail
        refine HC.out.mono ?_
        rintro e w1 hp
        have HH := Aside0.mk (HD.out e w1 hp)
        obtain ⟨rfl, _⟩ := hp
        have hx1 := (HH.out.below.cell HXL.out).trans HX.out
        obtain ⟨F1, G1, ht, hu, hd⟩ := HH.out.tabs
        have hcl := HH.out.len
        have HC1 := Aside0.mk (RAdd_calls W w1 u cur s G1 hu HH.out.below.size (by omega))
        have HD1 := Aside0.mk (fun e w2 hp => half_add (e := e) (w1 := w2) (s := s) HH.out ht hu hd hp)
        clear ht hu hd hcl HC HD HB hxr
        go_wp2_with fail
        refine HC1.out.mono ?_
        rintro e w2 hp
        have HB := Aside0.mk (HD1.out e w2 hp)
        obtain ⟨rfl, _⟩ := hp
        clear HC1 HD1 HH
        generalize addK cur s = kk
        generalize addE cur s = ee
        generalize addL cur s = cu at *
        clear hx1
        obtain ⟨F2, G2, ht, hu, hd⟩ := HB.out.tabs
        have hcl := HB.out.len
        have HC2 := Aside0.mk (Sorted_calls W w2 g cu ht.tab (fun x hx => vld_size (HB.out.valid x hx)) (by omega))
        clear ht hu hd hcl
        go_wp2_with fail
        refine HC2.out.mono ?_
        rintro e w3 ⟨v3, rfl, hR3, hb3⟩
        obtain ⟨A3, c3, rfl⟩ := Kd.R_slice hR3
        have HB3 := Aside0.mk (HB.out.stay hb3)
        obtain ⟨_, hc3, hC3⟩ := Kd.R_reads' hR3
        have HC3 := Aside0.mk hC3
        have HL3 := Aside0.mk hc3
        obtain ⟨F3, G3, ht, hu, hd⟩ := HB3.out.tabs
        have hcl := HB3.out.len
        have HC4 := Aside0.mk (RSorted_calls W w3 u cu hu.tab HB3.out.valid (by omega))
        clear ht hu hd hcl hR3 hb3 hC3 hc3 HC2
        go_wp2_with fail
        refine HC4.out.mono ?_
        rintro e w4 ⟨v4, rfl, hR4, hb4⟩
        obtain ⟨A4, c4, rfl⟩ := Kd.R_slice hR4
        have HB4 := Aside0.mk (HB3.out.stay hb4)
        obtain ⟨_, hc4, hC4⟩ := Kd.R_reads' hR4
        have hcl := HB4.out.len
        have hsl : (sortN cu).length = cu.length := sortN_length cu
        have HC5 := Aside0.mk (dancestudiolaw05_same.calls ((sortN cu).length + 1) A3 c3 (sortN cu) A4 c4 (sortN cu) true w4 (Kd.C_below HC3.out hb4) HL3.out hC4 hc4 (same_refl _ (by omega)))
        clear hcl hsl hR4 hb4 hC4 hc4 HC4 HC3 HL3 HB3
        go_wp2_with fail
        refine HC5.out.mono ?_
        rintro e w5 ⟨rfl, ⟨m5, rfl⟩⟩
        go_wp2
        go_roundw
        case rel => exact ⟨k + 1, cu, by go_num, by omega, by omega, ⟨by rw [show (k + 1).toNat = k.toNat + 1 by omega]; exact HB4.out.stay (pw_below_drewN (Below.refl _ _) _)⟩⟩
        case measure => simp [intOf]; omega
      · have hshr : Sh wr := hsh.below HB.out.below
        go_wp2_with fail
        refine (awake_calls _ hshr).mono ?_
        rintro e w' ⟨rfl, hb⟩
        have HB3 := below_then HB.out.below HB.out.below.size hb
        go_wp2
        go_ret
        exact ⟨rfl, HB3⟩
end Go.Proofs.YtallacbjeajpoaaDoor
