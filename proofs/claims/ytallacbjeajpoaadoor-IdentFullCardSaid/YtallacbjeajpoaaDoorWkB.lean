/- The laws on tables of names: their walks. -/
import Derived.Test.YtallacbjeajpoaaDoorWkA
import Derived.Test.YtallacbjeajpoaaDoorTabG
namespace Go.Proofs.YtallacbjeajpoaaDoor
open Go.RowKit Go.Maps Go.WideMaps Go.Sort Go.Lib Go.Proofs.YtallacbjeajpoaaDoor.Ext Go.Proofs.YtallacbjeajpoaaDoor.P Go.Proofs.YtallacbjeajpoaaDoor.Idp Go.Proofs.YtallacbjeajpoaaDoor.Tab Go.Proofs.YtallacbjeajpoaaDoor.Awk Go.Proofs.YtallacbjeajpoaaDoorW.PrintWords Go.Proofs.YtallacbjeajpoaaDoorW.PrintLast Go.Proofs.YtallacbjeajpoaaDoorW.PrintMore
theorem awake_calls (w : World) (hsh : Sh w) : Calls Tryd.prog 13 #[] w fun e w' => e = .returned (.bool true) ∧ Below w.heap.size w w' :=
  dancestudiolaw05_awake.calls true w rfl hsh
theorem RSorted_calls (w0 w : World) (g : Nat) (l : List ByteArray) (hU : IsU w0 w g l) (hv : ∀ s ∈ l, vld s = true) (hl : l.length ≤ 1000000) :
    Calls Tryd.prog 26 #[.pointer (some ⟨g, 0, none⟩)] w fun e w' => ∃ v0_, e = .returned v0_ ∧ Kd.R Kd.string 9 w' w.heap.size (fun _ => True) v0_ (sortN l) ∧ Below w.heap.size w w' := by
  obtain ⟨v, h1, h2, h3⟩ := hU.out
  obtain ⟨A, c, rfl⟩ := Kd.R_slice h3
  have hc0 : w.cell? ⟨g, 0, none⟩ = some (.slice A l.length c) := by simp [World.cell?, h1]
  obtain ⟨_, hlc, hC⟩ := Kd.R_reads' h3
  have HS := Aside0.mk (dancestudioref05_Sort.calls _ A c l (sortN l) w hC hlc (sort_spec l hl hv))
  clear h1 h2 h3 hC hlc hU
  go_enter Tryd.func26, Tryd.ntmps26
  go_wp2_with fail
  refine HS.out.mono ?_
  rintro e w1 ⟨v1, rfl, hR, hb⟩
  have HR := Aside0.mk hR
  have HB := Aside0.mk hb
  clear hR hb
  go_wp2
  go_ret
  exact ⟨_, rfl, HR.out, HB.out⟩
theorem newE_valid {l : List ByteArray} (h : newE l = 0) : (∀ s ∈ l, vld s = true) ∧ l.Nodup := by
  unfold newE at h
  by_cases hv : l.all vld = true
  · rw [if_pos hv] at h
    by_cases hn : l.Nodup
    · exact ⟨fun s hs => List.all_eq_true.1 hv s hs, hn⟩
    · rw [if_neg hn] at h; cases h
  · rw [if_neg hv] at h; cases h
set_option maxHeartbeats 4000000 in
set_option maxRecDepth 100000 in
theorem IdentTable_walk (W : World) (A0 : Option Addr) (c0 : Nat) (l0 : List ByteArray) (hr0 : Kd.C Kd.string W A0 l0.length l0) (_ : l0.length ≤ c0) (a1 : ByteArray) (hs1 : a1.size ≤ 140737488351232) (a2 : Int) (_ : (Lit.int .i64 a2).wf = true) (hsh : Sh W) :
    Calls Tryd.prog 6 #[.slice A0 l0.length c0, .string a1, .int .i64 a2] W fun e w' => e = .returned (.bool true) ∧ Below W.heap.size W w' := by
  have HR0 := Aside0.mk hr0
  have hm2 := hr0.2.1
  clear hr0
  by_cases hlen : (40 : Int) < l0.length
  · go_enter Tryd.func6, Tryd.ntmps6
    go_wp2_with fail
    refine (awake_calls _ hsh).mono ?_
    rintro e w' ⟨rfl, hb⟩
    go_wp2
    go_ret
    exact ⟨rfl, hb⟩
  · go_enter Tryd.func6, Tryd.ntmps6
    go_wp2_with fail
    refine (New_calls A0 c0 l0 W HR0.out hsh).mono ?_
    rintro e w1 ⟨hb1, hp1⟩
    have HB1 := Aside0.mk hb1
    have HC1 := Aside0.mk (RNew_calls A0 c0 l0 w1 (Kd.C_below HR0.out hb1) (by omega))
    have hsh1 : Sh w1 := hsh.below hb1
    clear hb1
    rcases hp1 with ⟨g, h0, rfl, hT⟩ | ⟨h0, rfl⟩
    · have HT := Aside0.mk hT
      clear hT
      go_wp2_with fail
      refine HC1.out.mono ?_
      rintro e w2 ⟨hb2, hp2⟩
      rcases hp2 with ⟨u, _, rfl, hU⟩ | ⟨h0', _⟩
      case inr => exact absurd h0 h0'
      have HU := Aside0.mk hU
      have HT2 := Aside0.mk (HT.out.below hb2)
      have HB2 := Aside0.mk (below_then HB1.out HB1.out.size hb2)
      have hsh2 : Sh w2 := hsh1.below hb2
      have HV := Aside0.mk (newE_valid h0)
      clear hU hb2 HT HB1 HC1 h0 hsh1
      go_wp2_with fail
      refine (Index_calls W w2 g l0 a1 HT2.out HV.out.2 (by unfold maxLen; omega)).mono ?_
      rintro e w3 ⟨rfl, ⟨n3, rfl⟩⟩
      go_wp2_with fail
      refine (RIndex_calls _ _ u l0 a1 (HU.out.below (pw_below_drewN (Below.refl _ _) n3)) (by omega)).mono ?_
      rintro e w4 ⟨rfl, ⟨n4, rfl⟩⟩
      go_wp2_with fail
      refine (Name_calls W _ g l0 a2 (HT2.out.below (pw_below_drewN (Below.refl _ _) (n3 + n4)))).mono ?_
      rintro e w5 ⟨rfl, hb5⟩
      obtain ⟨x1, hx1⟩ : ∃ x : ByteArray, x = (if 0 ≤ a2 ∧ a2 < (l0.length : Int) then rdOf ByteArray.empty l0 a2 else ByteArray.empty) := ⟨_, rfl⟩
      obtain ⟨x2, hx2⟩ : ∃ x : Int, x = (if 0 ≤ a2 ∧ a2 < (l0.length : Int) then (0 : Int) else 6) := ⟨_, rfl⟩
      rw [← hx1, ← hx2]
      have HX1 := Aside0.mk hx1
      have HX2 := Aside0.mk hx2
      clear hx1 hx2
      have HU5 := Aside0.mk ((HU.out.below (pw_below_drewN (Below.refl _ _) (n3 + n4))).below hb5)
      have HB5 := Aside0.mk (below_then (pw_below_drewN HB2.out (n3 + n4)) (by have := HB2.out.size; simpa using this) hb5)
      have hsh5 : Sh w5 := hsh.below HB5.out
      clear hb5 hsh2
      go_wp2_with fail
      refine (RName_calls _ _ u l0 a2 HU5.out).mono ?_
      rintro e w6 ⟨rfl, hb6⟩
      have HB6 := Aside0.mk (below_then HB5.out HB5.out.size hb6)
      have hsh6 : Sh w6 := hsh.below HB6.out
      clear hb6 hsh5
      rw [← HX1.out, ← HX2.out]
      go_wp2_with fail
      refine (awake_calls _ hsh6).mono ?_
      rintro e w' ⟨rfl, hb⟩
      have HB7 := below_then HB6.out HB6.out.size hb
      go_wp2
      go_ret
      exact ⟨rfl, HB7⟩
    · have hn : newE l0 ≠ 0 := h0
      go_wp2_with fail
      refine HC1.out.mono ?_
      rintro e w2 ⟨hb2, hp2⟩
      rcases hp2 with ⟨u, h0', _⟩ | ⟨_, rfl⟩
      · exact absurd h0' hn
      have HB2 := Aside0.mk (below_then HB1.out HB1.out.size hb2)
      have hsh2 : Sh w2 := hsh1.below hb2
      clear hn h0 HC1 hb2 HB1
      generalize newE l0 = n0
      go_wp2_with fail
      refine (awake_calls _ hsh2).mono ?_
      rintro e w' ⟨rfl, hb⟩
      have HB3 := below_then HB2.out HB2.out.size hb
      go_wp2
      go_ret
      exact ⟨rfl, HB3⟩
end Go.Proofs.YtallacbjeajpoaaDoor
