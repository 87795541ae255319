/- The law on names in order: its walk. -/
import Derived.Test.YtallacbjeajpoaaDoorWkC
namespace Go.Proofs.YtallacbjeajpoaaDoor
open Go.RowKit Go.Maps Go.WideMaps Go.Sort Go.Lib Go.Proofs Go.Proofs.YtallacbjeajpoaaDoor.Ext Go.Proofs.YtallacbjeajpoaaDoor.P Go.Proofs.YtallacbjeajpoaaDoor.Idp Go.Proofs.YtallacbjeajpoaaDoor.Tab Go.Proofs.YtallacbjeajpoaaDoor.Awk Go.Proofs.YtallacbjeajpoaaDoorW.PrintWords Go.Proofs.YtallacbjeajpoaaDoorW.PrintLast Go.Proofs.YtallacbjeajpoaaDoorW.PrintMore
/-- What the loops keep: the table, and a row of the call's own beside it. -/
structure Srt (W w : World) (g : Nat) (l : List ByteArray) (A : Option Addr) (n c : Nat) (xs : List ByteArray) : Prop where
  below : Below W.heap.size W w
  tab : ∃ F, IsTf F W w g l ∧ ∀ k, (Value.slice A n c).ownBlock = some k → ¬ F k
  row : Kd.R Kd.string 9 w W.heap.size (fun _ => True) (.slice A n c) xs
  len : xs.length = n
theorem Srt.stay {W w w1 : World} {g : Nat} {l : List ByteArray} {A : Option Addr} {n c : Nat} {xs : List ByteArray} (h : Srt W w g l A n c xs) (hb : Below w.heap.size w w1) : Srt W w1 g l A n c xs := by
  obtain ⟨F, h1, h2⟩ := h.tab
  exact ⟨below_then h.below h.below.size hb, ⟨F, h1.kept (fram_below hb) (fun _ _ h => h), h2⟩, Kd.R_below h.row hb, h.len⟩
theorem Srt.put {W w : World} {g : Nat} {l : List ByteArray} {b n c : Nat} {xs : List ByteArray} (h : Srt W w g l (some ⟨b, 0, none⟩) n c xs) (i : Int) (s : ByteArray) (hb : W.heap.size ≤ b) : Srt W (w.setCell ⟨b, i.toNat, none⟩ (.string s)) g l (some ⟨b, 0, none⟩) n c (xs.set i.toNat s) := by
  obtain ⟨F, h1, h2⟩ := h.tab
  refine ⟨h.below.setCell (p := ⟨b, i.toNat, none⟩) hb _, ⟨F, h1.kept (G := fun k => k = b) ⟨by rw [setCell_size]; exact Nat.le_refl _, fun k _ hk => setCell_block hk _⟩ (fun k hk e => ?_), h2⟩, ?_, by rw [List.length_set]; exact h.len⟩
  · subst e; exact h2 k rfl hk
  · exact Kd.R_putn h.row i s
theorem sort_mem {l : List ByteArray} {i : Int} (h0 : 0 ≤ i) (h1 : i < (sortN l).length) : rdOf ByteArray.empty (sortN l) i ∈ l := by
  have : rdOf ByteArray.empty (sortN l) i = (sortN l)[i.toNat]'(by omega) := by
    unfold rdOf
    simp [List.getD_eq_getElem?_getD, show i.toNat < (sortN l).length by omega]
  rw [this]
  exact (sortN_perm l).mem_iff.1 (List.getElem_mem _)
theorem pos_at {l : List ByteArray} {s : ByteArray} (h : s ∈ l) : posN l s < l.length ∧ rdOf ByteArray.empty l (posN l s : Nat) = s := by
  have h1 := posN_get h
  obtain ⟨h2, h3⟩ := List.getElem?_eq_some_iff.1 h1
  exact ⟨h2, by rw [rd_get l _ h2]; exact h3⟩
theorem sort_less {l : List ByteArray} (hv : ∀ s ∈ l, vld s = true) (hd : l.Nodup) {i : Int} (h0 : 0 < i) (h1 : i < (sortN l).length) : less (rdOf ByteArray.empty (sortN l) (i - 1)) (rdOf ByteArray.empty (sortN l) i) = true := by
  have hm1 := sort_mem (l := l) (i := i - 1) (by omega) (by omega)
  have hm2 := sort_mem (l := l) (i := i) (by omega) h1
  have e1 : rdOf ByteArray.empty (sortN l) (i - 1) = (sortN l)[i.toNat - 1]'(by omega) := by
    unfold rdOf
    rw [show (i - 1).toNat = i.toNat - 1 by omega]
    simp [List.getD_eq_getElem?_getD, show i.toNat - 1 < (sortN l).length by omega]
  have e2 : rdOf ByteArray.empty (sortN l) i = (sortN l)[i.toNat]'(by omega) := by
    unfold rdOf
    simp [List.getD_eq_getElem?_getD, show i.toNat < (sortN l).length by omega]
  have hle := List.pairwise_iff_getElem.1 (sortN_sorted l) (i.toNat - 1) i.toNat (by omega) (by omega) (by omega)
  have hnd : (sortN l).Nodup := (sortN_perm l).nodup_iff.2 hd
  have hne := List.pairwise_iff_getElem.1 hnd (i.toNat - 1) i.toNat (by omega) (by omega) (by omega)
  unfold less
  rw [hv _ hm1, hv _ hm2, e1, e2]
  simp only [Bool.and_self, Bool.true_and, decide_eq_true_eq]
  rcases Int.lt_or_eq_of_le hle with h | h
  · exact h
  · exact absurd (ord_zero.1 h) hne
theorem newE_big {l : List ByteArray} (h : newE l = 0) : l.length ≤ 512 := by
  unfold newE at h
  by_cases hv : l.all vld = true
  · rw [if_pos hv] at h
    by_cases hn : l.Nodup
    · rw [if_pos hn] at h
      by_cases hl : l.length ≤ 512
      · exact hl
      · rw [if_neg hl] at h; cases h
    · rw [if_neg hn] at h; cases h
  · rw [if_neg hv] at h; cases h
set_option maxHeartbeats 4000000 in
set_option maxRecDepth 100000 in
theorem IdentSorted_walk (W : World) (A0 : Option Addr) (c0 : Nat) (l0 : List ByteArray) (hr0 : Kd.C Kd.string W A0 l0.length l0) (_ : l0.length ≤ c0) (hsh : Sh W) :
    Calls Tryd.prog 7 #[.slice A0 l0.length c0] W fun e w' => e = .returned (.bool true) ∧ Below W.heap.size W w' := by
  have HR0 := Aside0.mk hr0
  have hm2 := hr0.2.1
  clear hr0
  by_cases hlen : (40 : Int) < l0.length
  · go_enter Tryd.func7, Tryd.ntmps7
    go_wp2_with fail
    refine (awake_calls _ hsh).mono ?_
    rintro e w' ⟨rfl, hb⟩
    go_wp2
    go_ret
    exact ⟨rfl, hb⟩
  · go_enter Tryd.func7, Tryd.ntmps7
    go_wp2_with fail
    refine (New_calls A0 c0 l0 W HR0.out hsh).mono ?_
    rintro e w1 ⟨hb1, hp1⟩
    rcases hp1 with ⟨g, h0, rfl, hT⟩ | ⟨h0, rfl⟩
    case inr =>
      have HB1 := Aside0.mk hb1
      have hsh1 : Sh w1 := hsh.below hb1
      clear hb1
      generalize newE l0 = n0 at *
      go_wp2_with fail
      refine (awake_calls _ hsh1).mono ?_
      rintro e w' ⟨rfl, hb⟩
      have HB3 := below_then HB1.out HB1.out.size hb
      go_wp2
      go_ret
      exact ⟨rfl, HB3⟩
    have HV := Aside0.mk (newE_valid h0)
    have hbig := newE_big h0
    have HC := Aside0.mk (Sorted_calls W w1 g l0 hT (fun x hx => vld_size (HV.out.1 x hx)) (by omega))
    have HB1 := Aside0.mk hb1
    have HT1 := Aside0.mk hT
    clear h0 hb1 hT
    go_wp2_with fail
    refine HC.out.mono ?_
    rintro e w2 ⟨v, rfl, hR, hb2⟩
    obtain ⟨A, c, rfl⟩ := Kd.R_slice hR
    obtain ⟨n, hn⟩ : ∃ n, n = (sortN l0).length := ⟨_, rfl⟩
    have hnl : n = l0.length := by rw [hn]; exact sortN_length l0
    have hS : Srt W w2 g l0 A n c (sortN l0) := by
      obtain ⟨F, hF⟩ := HT1.out.foot
      refine ⟨below_then HB1.out HB1.out.size hb2, ⟨F, hF.kept (fram_below hb2) (fun _ _ h => h), fun k hk hf => ?_⟩, by rw [hn]; exact Kd.R_lower hR HB1.out.size, hn.symm⟩
      have h1 := (hF.lt k hf).2
      have h2 := Kd.R_base hR k (by rw [← hn]; exact hk)
      omega
    have HS := Aside0.mk hS
    rw [← hn]
    have HN := Aside0.mk hn
    subst hnl
    clear hS hn HC hR hb2 HT1 HB1
    go_wp2
    go_loopw [6] (fun i wr => ∃ k : Int, i = .int .i64 k ∧ 0 ≤ k ∧ k ≤ l0.length ∧ Aside0 (Srt W wr g l0 A l0.length c (sortN l0))) (fun i _ => l0.length - (intOf i).toNat)
    case atStart => exact ⟨0, rfl, by omega, by omega, HS⟩
    case round =>
      clear HS
      obtain ⟨k, rfl, hk0, hk1, HS⟩ := hrel
      by_cases hlt : k < (l0.length : Int)
      · obtain ⟨gs, cap, e, hgs, hgl, _⟩ := Kd.R_form HS.out.row (by rw [← HN.out]; omega)
        injection e with e1 e2 e3
        subst e1
        subst e3
        clear e2
        have hsi : wr.cell? ⟨gs, k.toNat, none⟩ = some (.string (rdOf ByteArray.empty (sortN l0) k)) := (Kd.R_celln ByteArray.empty HS.out.row k hk0 hlt).1
        have hsm : rdOf ByteArray.empty (sortN l0) k ∈ l0 := sort_mem hk0 (by rw [← HN.out]; omega)
        obtain ⟨hp1, hp2⟩ := pos_at hsm
        have hidx := idx_pos hsm
        have HTab := Aside0.mk (by obtain ⟨F, hF, _⟩ := HS.out.tab; exact hF.tab : IsT W wr g l0)
        have HC := Aside0.mk (Index_calls W wr g l0 (rdOf ByteArray.empty (sortN l0) k) HTab.out HV.out.2 (by have := vld_size (HV.out.1 _ hsm); unfold maxLen; omega))
        rw [hidx, decide_eq_true hsm] at HC
        generalize posN l0 (rdOf ByteArray.empty (sortN l0) k) = qn at hp1 hp2 HC
        obtain ⟨q, hq⟩ : ∃ q : Int, q = (qn : Int) := ⟨_, rfl⟩
        rw [← hq] at hp2 HC
        have hq0 : (0 : Int) ≤ q := by omega
        have hq1 : q < (l0.length : Int) := by omega
        clear hidx hsm HTab hq hp1
        obtain ⟨ad, e, hx⟩ := Kd.at_string HR0.out q hq0 hq1
        cases e
        rw [hp2] at hx
        have hxlt := World.block_lt_of_cell? W _ hx
        have hx1 := (HS.out.below.cell hxlt).trans hx
        have HXL := Aside0.mk (Nat.lt_of_lt_of_le hxlt HS.out.below.size)
        clear hp2 hx hxlt
        have hb1 : decide (q < 0) = false := decide_eq_false (by omega)
        have hb2 : decide ((l0.length : Int) ≤ q) = false := decide_eq_false (by omega)
        have HGL := Aside0.mk hgl
        by_cases hk : 0 < k
        · have hsj : wr.cell? ⟨gs, (k - 1).toNat, none⟩ = some (.string (rdOf ByteArray.empty (sortN l0) (k - 1))) := (Kd.R_celln ByteArray.empty HS.out.row (k - 1) (by omega) (by omega)).1
          have hb3 : decide (0 < k) = true := decide_eq_true hk
          have hls := sort_less HV.out.1 HV.out.2 hk (by rw [← HN.out]; omega)
          have hshr : Sh wr := hsh.below HS.out.below
          generalize rdOf ByteArray.empty (sortN l0) k = s at *
          generalize rdOf ByteArray.empty (sortN l0) (k - 1) = s1 at *
          obtain ⟨j, hj⟩ : ∃ j : Int, j = k - 1 := ⟨_, rfl⟩
          rw [← hj] at hsj
          have hw1 : IntKind.i64.wrap (k - 1) = j := by rw [hj]; exact Go.IntWalk.i64_in _ (by omega)
          have hj0 : (0 : Int) ≤ j := by omega
          have hj1 : j < (l0.length : Int) := by omega
          clear hj
          go_wp2_with fail
          refine HC.out.mono ?_
          rintro e w3 ⟨rfl, ⟨m3, rfl⟩⟩
          go_wp2_with fail
          have hlf : ident_Less.f 300 s1 s = some true := by rw [less_all _ _ 300 (by decide), hls]
          have hgl : gs < wr.heap.size := HGL.out
          go_region_held3 (fun W' => W'.cell? ⟨gs, k.toNat, none⟩ = some (.string s) ∧ W'.cell? ⟨gs, j.toNat, none⟩ = some (.string s1) ∧ W'.cell? (ad.add q.toNat) = some (.string s))
            (first | exact ⟨hc1, hc2, hc3⟩ | exact ⟨hsi, hsj, hx1⟩)
            (first | (go_at_call 14; refine (ident_Less.calls 300 _ _ _ _ hlf).mono ?_; rintro e w2 ⟨rfl, hb⟩; have hc1 := (hb.cell (p := ⟨gs, k.toNat, none⟩) (by simp; exact hgl)).trans hsi; have hc2 := (hb.cell (p := ⟨gs, j.toNat, none⟩) (by simp; exact hgl)).trans hsj; have hc3 := (hb.cell (p := ad.add q.toNat) (by simp; exact HXL.out)).trans hx1; have HB := Aside0.mk hb; clear hb))
          all_goals
            have hS2 : Srt W w2 g l0 (some ⟨gs, 0, none⟩) l0.length c (sortN l0) := HS.out.stay ((pw_below_drewN (Below.refl _ _) (m3 + 1)).trans (HB.out.mono (by simp)))
            have HS2 := Aside0.mk hS2
            clear hS2 HB hc1 hc2 hc3 hsi hsj hx1 hw1 hj0 hj1
            go_wp2
            go_roundw
            case rel => exact ⟨k + 1, by go_num, by omega, by omega, by first | exact HS2 | exact ⟨HS2.out.stay (pw_below_drewN (Below.refl _ _) _)⟩⟩
            case measure => simp [intOf]; omega
        · have hk2 : k = 0 := by omega
          subst hk2
          generalize rdOf ByteArray.empty (sortN l0) 0 = s at *
          replace hsi : wr.cell? ⟨gs, 0, none⟩ = some (.string s) := hsi
          go_wp2_with fail
          refine HC.out.mono ?_
          rintro e w3 ⟨rfl, ⟨m3, rfl⟩⟩
          go_wp2_with fail
          go_quiet (fail)
          go_wp2
          go_roundw
          case rel => exact ⟨0 + 1, by go_num, by omega, by omega, ⟨HS.out.stay (pw_below_drewN (Below.refl _ _) _)⟩⟩
          case measure => simp [intOf]; omega
      · have hkl : k = l0.length := by omega
        subst hkl
        have hxs : (sortN l0).length = l0.length := HN.out.symm
        go_wp2
        go_loopw [9] (fun i wr => ∃ (k : Int) (xs : List ByteArray), i = .int .i64 k ∧ 0 ≤ k ∧ k ≤ l0.length ∧ Aside0 (Srt W wr g l0 A l0.length c xs)) (fun i _ => l0.length - (intOf i).toNat)
        case atStart => exact ⟨0, _, rfl, by omega, by omega, HS⟩
        case round =>
          clear HS
          obtain ⟨k, xs, rfl, hk0, hk1, HS⟩ := hrel
          by_cases hlt : k < (l0.length : Int)
          · obtain ⟨gs, cap, e, hgs, hgl, _⟩ := Kd.R_form HS.out.row (by rw [HS.out.len]; omega)
            injection e with e1 e2 e3
            subst e1
            subst e3
            clear e2
            have hsi := Kd.R_celln ByteArray.empty HS.out.row k hk0 hlt
            obtain ⟨hsi, hsf⟩ := hsi
            have HGS := Aside0.mk hgs
            clear hgs hgl
            go_wp2
            exact ⟨⟨k + 1, _, rfl, by omega, by omega, ⟨HS.out.put k ⟨#[120]⟩ HGS.out⟩⟩, by simp [intOf]; omega⟩
          · have hkl : k = l0.length := by omega
            subst hkl
            have HB := Aside0.mk HS.out.below
            have HTab := Aside0.mk (by obtain ⟨F, hF, _⟩ := HS.out.tab; exact hF.tab : IsT W wr g l0)
            have HC := Aside0.mk (Sorted_calls W wr g l0 HTab.out (fun x hx => vld_size (HV.out.1 x hx)) (by omega))
            clear HS
            go_wp2_with fail
            refine HC.out.mono ?_
            rintro e w3 ⟨v3, rfl, hR3, hb3⟩
            obtain ⟨A3, c3, rfl⟩ := Kd.R_slice hR3
            have HS3 : Aside0 (Srt W w3 g l0 A3 l0.length c3 (sortN l0)) := ⟨by
              obtain ⟨F, hF⟩ := HTab.out.foot
              refine ⟨below_then HB.out HB.out.size hb3, ⟨F, hF.kept (fram_below hb3) (fun _ _ h => h), fun k hk hf => ?_⟩, by rw [HN.out]; exact Kd.R_lower hR3 HB.out.size, HN.out.symm⟩
              have h1 := (hF.lt k hf).2
              have h2 := Kd.R_base hR3 k (by rw [← HN.out]; exact hk)
              omega⟩
            rw [← HN.out]
            clear hR3 hb3 HC HTab HB
            go_wp2
            go_loopw [11] (fun i wr => ∃ (k : Int), i = .int .i64 k ∧ 0 ≤ k ∧ k ≤ l0.length ∧ Aside0 (Srt W wr g l0 A3 l0.length c3 (sortN l0))) (fun i _ => l0.length - (intOf i).toNat)
            case atStart => exact ⟨0, rfl, by omega, by omega, HS3⟩
            case round =>
              clear HS3
              obtain ⟨k, rfl, hk0, hk1, HS⟩ := hrel
              by_cases hlt : k < (l0.length : Int)
              · obtain ⟨gs, cap, e, hgs, hgl, _⟩ := Kd.R_form HS.out.row (by rw [HS.out.len]; omega)
                injection e with e1 e2 e3
                subst e1
                subst e3
                clear e2 hgs hgl
                have hsi : wr.cell? ⟨gs, k.toNat, none⟩ = some (.string (rdOf ByteArray.empty (sortN l0) k)) := (Kd.R_celln ByteArray.empty HS.out.row k hk0 hlt).1
                have hsm : rdOf ByteArray.empty (sortN l0) k ∈ l0 := sort_mem hk0 (by rw [← HN.out]; omega)
                have HTab := Aside0.mk (by obtain ⟨F, hF, _⟩ := HS.out.tab; exact hF.tab : IsT W wr g l0)
                have HC := Aside0.mk (Index_calls W wr g l0 (rdOf ByteArray.empty (sortN l0) k) HTab.out HV.out.2 (by have := vld_size (HV.out.1 _ hsm); unfold maxLen; omega))
                rw [decide_eq_true hsm] at HC
                generalize idxN l0 (rdOf ByteArray.empty (sortN l0) k) = q at HC
                generalize rdOf ByteArray.empty (sortN l0) k = s at *
                clear hsm HTab
                go_wp2_with fail
                refine HC.out.mono ?_
                rintro e w4 ⟨rfl, ⟨m4, rfl⟩⟩
                go_wp2
                go_roundw
                case rel => exact ⟨k + 1, by go_num, by omega, by omega, ⟨HS.out.stay (pw_below_drewN (Below.refl _ _) _)⟩⟩
                case measure => simp [intOf]; omega
              · have hkl : k = l0.length := by omega
                subst hkl
                have hshr : Sh wr := hsh.below HS.out.below
                go_wp2_with fail
                refine (awake_calls _ hshr).mono ?_
                rintro e w' ⟨rfl, hb⟩
                have HB3 := below_then HS.out.below HS.out.below.size hb
                go_wp2
                go_ret
                exact ⟨rfl, HB3⟩
end Go.Proofs.YtallacbjeajpoaaDoor
