/- The law on full tables and nil tables: its walk. -/
import Derived.Test.YtallacbjeajpoaaDoorWkF
import Derived.Test.YtallacbjeajpoaaDoorWkD
namespace Go.Proofs.YtallacbjeajpoaaDoor
open Go.RowKit Go.Maps Go.WideMaps Go.Sort Go.Lib Go.Proofs Go.Proofs.YtallacbjeajpoaaDoor.Ext Go.Proofs.YtallacbjeajpoaaDoor.P Go.Proofs.YtallacbjeajpoaaDoor.Idp Go.Proofs.YtallacbjeajpoaaDoor.Tab Go.Proofs.YtallacbjeajpoaaDoor.Awk Go.Proofs.YtallacbjeajpoaaDoorW.PrintWords Go.Proofs.YtallacbjeajpoaaDoorW.PrintLast Go.Proofs.YtallacbjeajpoaaDoorW.PrintMore
theorem below_then2 {W a b c : World} (h : Below W.heap.size W a) (k : Below a.heap.size a b) (l : Below a.heap.size b c) : Below W.heap.size W c := h.trans ((k.trans l).mono h.size)
theorem AddNil_calls (s : ByteArray) (w : World) : Calls Tryd.prog 23 #[.pointer none, .string s] w fun e w' => e = .returned (.tuple #[.int .i64 0, .int .i64 10]) ∧ w = w' := by
  go_enter Tryd.func23, Tryd.ntmps23
  go_wp2
  go_ret2
  exact ⟨rfl, rfl⟩
theorem IndexNil_calls (s : ByteArray) (w : World) : Calls Tryd.prog 18 #[.pointer none, .string s] w fun e w' => e = .returned (.tuple #[.int .i64 0, .bool false]) ∧ w = w' := by
  go_enter Tryd.func18, Tryd.ntmps18
  go_wp2
  go_ret2
  exact ⟨rfl, rfl⟩
theorem NameNil_calls (i : Int) (w : World) : Calls Tryd.prog 17 #[.pointer none, .int .i64 i] w fun e w' => e = .returned (.tuple #[.string ⟨#[]⟩, .int .i64 10]) ∧ w = w' := by
  go_enter Tryd.func17, Tryd.ntmps17
  go_wp2
  go_ret2
  exact ⟨rfl, rfl⟩
theorem SortedNil_calls (w : World) : Calls Tryd.prog 22 #[.pointer none] w fun e w' => e = .returned (.slice none 0 0) ∧ w = w' := by
  go_enter Tryd.func22, Tryd.ntmps22
  go_wp2
  go_ret
  exact ⟨rfl, rfl⟩
/-- The names n0, n1, .. -/
def nms (k : Nat) : List ByteArray := (List.range k).map fun i => nm 0 i []
theorem nms_length (k : Nat) : (nms k).length = k := by simp [nms]
theorem nms_succ (k : Nat) : nms (k + 1) = nms k ++ [nm 0 k []] := by simp [nms, List.range_succ]
theorem nm_v (i : Nat) (h : i < 1000) : vld (nm 0 i []) = true := nm_vld 0 i [] (by decide) (by have := dec_len 2 i (by omega); simp; omega)
theorem nms_valid (k : Nat) (h : k ≤ 1000) : ∀ s ∈ nms k, vld s = true := by
  intro s hs
  obtain ⟨i, hi, rfl⟩ := List.mem_map.1 hs
  exact nm_v i (by have := List.mem_range.1 hi; omega)
theorem nm_inj {i j : Nat} (h : nm 0 i [] = nm 0 j []) : i = j := by
  rcases Nat.lt_trichotomy i j with h1 | h1 | h1
  · have := nm_ord_lt 0 0 i j [] [] (by simp) (by simp) (numKey_lt 0 0 i j h1)
    rw [ord_zero.2 h] at this; cases this
  · exact h1
  · have := nm_ord_lt 0 0 j i [] [] (by simp) (by simp) (numKey_lt 0 0 j i h1)
    rw [ord_zero.2 h.symm] at this; cases this
theorem nms_nodup (k : Nat) : (nms k).Nodup := by
  unfold nms
  rw [List.nodup_iff_pairwise_ne, List.pairwise_map]
  exact (List.nodup_iff_pairwise_ne.1 List.nodup_range).imp fun h e => h (nm_inj e)
theorem z_not (k : Nat) : (⟨#[122]⟩ : ByteArray) ∉ nms k := by
  intro h
  obtain ⟨i, _, hi⟩ := List.mem_map.1 h
  have := congrArg (fun s : ByteArray => s.data.toList.head?) hi
  simp [nm] at this
theorem newE_nms (k : Nat) (h : k ≤ 1000) : newE (nms k) = if k ≤ 512 then 0 else 3 := by
  unfold newE
  rw [if_pos (List.all_eq_true.2 (nms_valid k h)), if_pos (nms_nodup k), nms_length]
theorem addE_nms (k : Nat) : addE (nms k) ⟨#[122]⟩ = if 512 ≤ k then 3 else 0 := by
  unfold addE
  rw [if_pos (by decide +kernel), if_neg (z_not k), nms_length]
set_option maxHeartbeats 4000000 in
set_option maxRecDepth 100000 in
theorem IdentFull_walk (n : Int) (wn : (Lit.int .u8 n).wf = true) (s : ByteArray) (_ : s.size ≤ 140737488351232) (W : World) (hsh : Sh W) (htb : Tb W) :
    Calls Tryd.prog 10 #[.int .u8 n, .string s] W fun e w' => e = .returned (.bool true) ∧ Below W.heap.size W w' := by
  obtain ⟨hn0, hn1⟩ : 0 ≤ n ∧ n ≤ 255 := by
    have h : IntKind.u8.min ≤ n ∧ n ≤ IntKind.u8.max := by simpa [Lit.wf] using wn
    exact h
  obtain ⟨m, hm⟩ : ∃ m : Int, n % 5 = m := ⟨_, rfl⟩
  have hm0 : 0 ≤ m ∧ m ≤ 4 := by omega
  have hmt : n.tmod 5 = m := by rw [← hm]; exact Int.tmod_eq_emod_of_nonneg hn0
  obtain ⟨hm0, hm4⟩ := hm0
  clear wn
  go_enter Tryd.func10, Tryd.ntmps10
  go_wp2_with fail
  go_loopw [5, 6] (fun vl vi wr => ∃ k : Int, vi = .int .i64 k ∧ 0 ≤ k ∧ k ≤ 510 + m ∧ Aside0 (Below W.heap.size W wr ∧ Kd.R Kd.string 9 wr W.heap.size (fun _ => True) vl (nms k.toNat))) (fun _ i _ => (510 + m).toNat - (intOf i).toNat)
  case atStart => exact ⟨0, rfl, by omega, by omega, ⟨Below.refl _ _, Kd.R_nil _ _ _ _ _⟩⟩
  case round =>
    obtain ⟨k, rfl, hk0, hk1, HK⟩ := hrel
    obtain ⟨A, c, hAc⟩ := Kd.R_slice HK.out.2
    rw [nms_length] at hAc
    subst hAc
    by_cases hlt : k < 510 + m
    · obtain ⟨sx, hsx⟩ : ∃ s : ByteArray, s = ⟨(Lib.decDigits k.toNat).toArray⟩ := ⟨_, rfl⟩
      have lx := dec_len 2 k.toNat (by omega)
      have zx : sx.size ≤ 10 := by rw [hsx, Idp.size_eq]; simp; omega
      have HIx := Aside0.mk (Itoa_calls k hk0 (by omega) wr (htb.below HK.out.1))
      rw [← hsx] at HIx
      have HN : Aside0 (nms (k + 1).toNat = nms k.toNat ++ [⟨#[110]⟩ ++ sx]) := ⟨by
        rw [show (k + 1).toNat = k.toNat + 1 by omega, nms_succ, hsx]
        exact congrArg (fun x => nms k.toNat ++ [x]) (nm_cat 0 k.toNat).symm⟩
      clear lx hsx
      go_wp2_with fail
      refine HIx.out.mono ?_
      rintro e w1 ⟨rfl, hb1⟩
      have HB1 := Aside0.mk (below_then HK.out.1 HK.out.1.size hb1)
      have HR1 := Aside0.mk (Kd.R_below HK.out.2 hb1)
      clear hb1 HIx HK
      generalize hs1 : (⟨#[110]⟩ : ByteArray) ++ sx = s1 at *
      have hkn : k.toNat + 1 ≤ 1000 := by omega
      go_wp2_with ((with_reducible refine gate_builtin (b := .append) (xs := #[.tmp 26, .tmp 30]) rfl ?_)
                   at_builtin
                   refine Kd.R_append Kd.string (w0 := W) W.heap.size rfl (.tmp 26) (.tmp 30) 25 9 (.string ⟨#[]⟩) 16 rfl Tryd.underlying25 info9 rfl (by decide) (by omega) (.slice A k.toNat c) (nms k.toNat) s1 [.string s1] (fun _ => True) (fun _ => False) rfl rfl ?aP (fun _ hk => hk.elim) ?aF ?aO ?aB ?aS ?aL ?_
                   case aP => exact rfl
                   case aF => exact (fun _ _ => trivial)
                   case aO => exact HR1.out
                   case aB => exact HB1.out
                   case aS => exact HB1.out.size
                   case aL => (rw [nms_length]; omega)
                   intro v1 w2 ho hb hg hat
                   obtain ⟨A1, c1, rfl⟩ := Kd.R_slice ho
                   rw [List.length_append, List.length_singleton] at ho
                   have HO := Aside0.mk ho
                   have HB2 := Aside0.mk hb
                   clear ho hb hg hat)
      exact ⟨⟨k + 1, rfl, by omega, by omega, ⟨HB2.out, by rw [HN.out]; exact HO.out⟩⟩, by simp [intOf]; omega⟩
    · have hkm : 510 + m = k := by omega
      obtain ⟨hx0, hlc, hC⟩ := Kd.R_reads' HK.out.2
      have hshr := hsh.below HK.out.1
      have HN0 : Calls Tryd.prog 16 #[.slice A k.toNat c] wr (NewPost wr (nms k.toNat)) := by
        have h := New_calls A c (nms k.toNat) wr (by rw [nms_length] at hC ⊢; exact hC) hshr
        rw [nms_length] at h; exact h
      have HN := Aside0.mk HN0
      have hE := newE_nms k.toNat (by omega)
      have HBr := Aside0.mk HK.out.1
      have hdec : decide (k < 510 + m) = false := decide_eq_false hlt
      have hk2 : k ≤ 514 := by omega
      clear hx0 hC hlc HK hkm HN0 hlt hk1
      by_cases hbig : 512 < k
      · rw [if_neg (by omega)] at hE
        have HE := Aside0.mk hE
        clear hE
        go_wp2_with fail
        have hE := HE.out
        refine HN.out.mono ?_
        rintro e w1 ⟨hb1, hp1⟩
        rcases hp1 with ⟨g, h0, rfl, hT⟩ | ⟨h0, rfl⟩
        · rw [hE] at h0; cases h0
        rw [hE]
        have hsh1 := hshr.below hb1
        have HB1 := Aside0.mk (below_then HBr.out HBr.out.size hb1)
        have HB := Aside0.mk (Below.refl w1.heap.size w1)
        have hk1' : (512 : Int) < (k.toNat : Int) := by omega
        clear hE HE h0 hb1 HN HBr hshr
        go_wp2_with (first
          | (go_at_call 23; (with_reducible refine (AddNil_calls s _).mono ?_); rintro e w' ⟨rfl, rfl⟩)
          | (go_at_call 18; (with_reducible refine (IndexNil_calls s _).mono ?_); rintro e w' ⟨rfl, rfl⟩)
          | (go_at_call 17; (with_reducible refine (NameNil_calls 0 _).mono ?_); rintro e w' ⟨rfl, rfl⟩)
          | (go_at_call 22; (with_reducible refine (SortedNil_calls _).mono ?_); rintro e w' ⟨rfl, rfl⟩)
          | (go_at_call 13; refine (awake_calls _ (Sh.of_below hsh1 HB)).mono ?_; rintro e w' ⟨rfl, hb⟩; have n0_ := Aside0.mk (below_then HB.out HB.out.size hb); clear HB; have HB := n0_; clear n0_ hb))
        go_ret
        exact ⟨rfl, below_then HB1.out HB1.out.size HB.out⟩
      · rw [if_pos (by omega)] at hE
        have HE := Aside0.mk hE
        clear hE
        go_wp2_with fail
        have hE := HE.out
        refine HN.out.mono ?_
        rintro e w1 ⟨hb1, hp1⟩
        rcases hp1 with ⟨g, h0, rfl, hT⟩ | ⟨h0, rfl⟩
        case inr => exact absurd hE h0
        obtain ⟨F, hF⟩ := hT.foot
        have HA := Aside0.mk (Add_calls wr w1 g (nms k.toNat) ⟨#[122]⟩ F hF hb1.size (by rw [nms_length]; omega) (hshr.below hb1))
        have hsh1 := hshr.below hb1
        have hsz1 := hb1.size
        have HB1 := Aside0.mk (below_then HBr.out HBr.out.size hb1)
        have HBw := Aside0.mk hb1
        have hlen := nms_length k.toNat
        have hAE := addE_nms k.toNat
        clear hE HE h0 hb1 HN hshr hT hF
        by_cases hfull : k = 512
        · subst hfull
          rw [if_pos (by omega)] at hAE
          go_wp2_with fail
          refine HA.out.mono ?_
          rintro e w2 ⟨rfl, _, hb2⟩
          rw [addK, hAE, if_neg (by decide)]
          have HB2 := Aside0.mk (below_then2 HBr.out HBw.out hb2)
          have hsh2 : Sh w2 := hsh.below HB2.out
          have HB := Aside0.mk (Below.refl w2.heap.size w2)
          have hk5 : (decide (((512 : Int).toNat : Int) = 512) : Bool) = true := by decide
          clear hb2 HB1 HBr HBw hsh1 HA
          go_wp2_with (first
            | (go_at_call 23; (with_reducible refine (AddNil_calls s _).mono ?_); rintro e w' ⟨rfl, rfl⟩)
            | (go_at_call 18; (with_reducible refine (IndexNil_calls s _).mono ?_); rintro e w' ⟨rfl, rfl⟩)
            | (go_at_call 17; (with_reducible refine (NameNil_calls 0 _).mono ?_); rintro e w' ⟨rfl, rfl⟩)
            | (go_at_call 22; (with_reducible refine (SortedNil_calls _).mono ?_); rintro e w' ⟨rfl, rfl⟩)
            | (go_at_call 13; refine (awake_calls _ (Sh.of_below hsh2 HB)).mono ?_; rintro e w' ⟨rfl, hb⟩; have n0_ := Aside0.mk (below_then HB.out HB.out.size hb); clear HB; have HB := n0_; clear n0_ hb))
          go_ret
          exact ⟨rfl, below_then HB2.out HB2.out.size HB.out⟩
        · rw [if_neg (by omega)] at hAE
          go_wp2_with fail
          refine HA.out.mono ?_
          rintro e w2 ⟨rfl, _, hb2⟩
          rw [addK, hAE, if_pos rfl]
          have HB2 := Aside0.mk (below_then2 HBr.out HBw.out hb2)
          have hsh2 : Sh w2 := hsh.below HB2.out
          have HB := Aside0.mk (Below.refl w2.heap.size w2)
          have hk5 : (decide ((k.toNat : Int) = 512) : Bool) = false := decide_eq_false (by omega)
          clear hb2 HB1 HBr HBw hsh1 HA
          go_wp2_with (first
            | (go_at_call 23; (with_reducible refine (AddNil_calls s _).mono ?_); rintro e w' ⟨rfl, rfl⟩)
            | (go_at_call 18; (with_reducible refine (IndexNil_calls s _).mono ?_); rintro e w' ⟨rfl, rfl⟩)
            | (go_at_call 17; (with_reducible refine (NameNil_calls 0 _).mono ?_); rintro e w' ⟨rfl, rfl⟩)
            | (go_at_call 22; (with_reducible refine (SortedNil_calls _).mono ?_); rintro e w' ⟨rfl, rfl⟩)
            | (go_at_call 13; refine (awake_calls _ (Sh.of_below hsh2 HB)).mono ?_; rintro e w' ⟨rfl, hb⟩; have n0_ := Aside0.mk (below_then HB.out HB.out.size hb); clear HB; have HB := n0_; clear n0_ hb))
          go_ret
          exact ⟨rfl, below_then HB2.out HB2.out.size HB.out⟩
end Go.Proofs.YtallacbjeajpoaaDoor
