/- Ledgers: all methods after each posting. -/
import Derived.Test.YtpmbljigdghmiaaDoorLd8
namespace Go.Proofs.YtpmbljigdghmiaaDoor.Led
open Go.RowKit Go.Shelf Go.WideShapes Go.Proofs.YtpmbljigdghmiaaDoor.Ext Go.Proofs.YtpmbljigdghmiaaDoor.P Go.Proofs.YtpmbljigdghmiaaDoor.Idp Go.Proofs.YtpmbljigdghmiaaDoorW.PrintWords Go.Proofs.YtpmbljigdghmiaaDoorW.PrintLast Go.Proofs.YtpmbljigdghmiaaDoorW.PrintMore
theorem Long_calls (l : List Po) (A : Option Addr) (c : Nat) (w W : World) (hb : Below w.heap.size w W) (hC : Kd.C kPo w A l.length l) (hc : l.length ≤ c) :
    Calls Tryd.prog 14 #[.slice A l.length c] W fun e W' => e = .returned (.bool (decide ((l.length : Int) ≤ 520) && small l 4)) ∧ Below w.heap.size w W' :=
  (dancestudioref55_Long.calls _ A c l _ W (Kd.C_below hC hb) hc (long_f l hC.2.1)).mono (by
    rintro e W' ⟨rfl, ⟨n, rfl⟩⟩
    exact ⟨rfl, pw_below_drewN hb _⟩)
/-- Both ledgers hold the same. -/
structure PoS (w W : World) (ga gb : Nat) (qs : List Po) : Prop where mk :: (two : Two tL tU w W ga gb qs qs)
theorem PoS.below {w W W' : World} {ga gb : Nat} {qs : List Po} (h : PoS w W ga gb qs) (hb : Below W.heap.size W W') : PoS w W' ga gb qs := ⟨h.two.below hb⟩
theorem PoS.bel {w W : World} {ga gb : Nat} {qs : List Po} (h : PoS w W ga gb qs) : Below w.heap.size w W := h.two.bel
set_option maxHeartbeats 8000000 in
set_option maxRecDepth 100000 in
theorem LedgerPosts_walk (l : List Po) (A : Option Addr) (c : Nat) (acct : ByteArray) (day : Int) (w : World) (hc : l.length ≤ c) (hC : Kd.C kPo w A l.length l) (hsh : Sh w) :
    Calls Tryd.prog 4 #[.slice A l.length c, .string acct, .int .i64 day] w fun e W => e = .returned (.bool true) ∧ Below w.heap.size w W := by
  obtain ⟨bL, hbL⟩ : ∃ b, b = (decide ((l.length : Int) ≤ 40) && small l 20) := ⟨_, rfl⟩
  obtain ⟨bG, hbG⟩ : ∃ b, b = (decide ((l.length : Int) ≤ 520) && small l 4) := ⟨_, rfl⟩
  have HLi := Aside0.mk (Light_calls l A c w hC hc)
  have HLo := Aside0.mk (fun W hb => Long_calls l A c w W hb hC hc)
  rw [← hbL] at HLi
  simp only [← hbG] at HLo
  have HBL := Aside0.mk hbL
  have HBG := Aside0.mk hbG
  have HSh := Aside0.mk hsh
  have H3 := Aside0.mk hC
  have hu1 := Tryd.underlying24
  have hu2 := Tryd.underlying38
  clear hC hsh hbL hbG
  go_enter Tryd.func4, Tryd.ntmps4
  go_upto_region 1 with (fail)
  go_cut [19] (fun v wx => v = .bool (!bL && !bG) ∧ Aside0 (Below w.heap.size w wx))
  case first =>
    cases bL with
    | true =>
      go_wp2_with fail
      refine HLi.out.mono ?_
      rintro e w1 ⟨rfl, hb⟩
      have HB := Aside0.mk hb
      clear hb
      go_wp2_with fail
      go_meet
      exact ⟨rfl, HB⟩
    | false =>
      go_wp2_with fail
      refine HLi.out.mono ?_
      rintro e w1 ⟨rfl, hb⟩
      have HLo1 := Aside0.mk (HLo.out w1 hb)
      clear hb
      go_wp2_with fail
      refine HLo1.out.mono ?_
      rintro e w2 ⟨rfl, hb⟩
      have HB := Aside0.mk hb
      clear hb
      go_wp2_with fail
      go_meet
      exact ⟨by simp, HB⟩
  case rest =>
    obtain ⟨rfl, HB1⟩ := hcut
    clear HLi HLo
    cases hb : (!bL && !bG) with
    | true =>
      clear hb
      go_wp2_with fail
      refine (awake_calls _ (HSh.out.below HB1.out)).mono ?_
      rintro e w2 ⟨rfl, hb⟩
      have HB2 := Aside0.mk (HB1.out.trans (hb.mono HB1.out.size))
      clear hb
      go_wp2
      go_ret
      exact ⟨rfl, HB2.out⟩
    | false =>
      have h520 : l.length ≤ 520 := by
        have h1 := HBL.out
        have h2 := HBG.out
        cases bL with
        | true =>
          have := of_decide_eq_true (Bool.and_eq_true_iff.1 h1.symm).1
          omega
        | false =>
          cases bG with
          | true =>
            have := of_decide_eq_true (Bool.and_eq_true_iff.1 h2.symm).1
            omega
          | false => simp at hb
      clear hb
      go_wp2_with fail
      refine (New_calls _).mono ?_
      rintro e w2 ⟨ga, Fa, rfl, hI, hb⟩
      have HI := Aside0.mk hI
      have HB2 := Aside0.mk (HB1.out.trans (hb.mono HB1.out.size))
      have HIa := Aside0.mk (hI.lower (w0 := w) HB1.out.size)
      clear hI hb HI
      go_wp2_with fail
      refine (RNew_calls w2).mono ?_
      rintro e w3 ⟨gb, Fb, rfl, hI, hb⟩
      have HT := Aside0.mk (PoS.mk (Two.of HIa.out HB2.out hI hb))
      clear hI hb HIa HB2 HB1
      go_wp2
      go_loopw [9] (fun vi wr => ∃ k : Int, vi = .int .i64 k ∧ 0 ≤ k ∧ k ≤ l.length ∧ Aside0 (PoS w wr ga gb (PS (l.take k.toNat)))) (fun i _ => l.length - (intOf i).toNat)
      case atStart => exact ⟨0, rfl, by omega, by omega, HT⟩
      case round =>
        clear HT
        obtain ⟨k, rfl, hk0, hk1, HK⟩ := hrel
        obtain ⟨wo, rfl⟩ : ∃ wo : World, wo = wr := ⟨_, rfl⟩
        by_cases hlt : k < l.length
        · obtain ⟨ad, A2, c2, rfl, d0, d1, d2, el, eC⟩ := at_T24 H3.out k hk0 hlt
          obtain ⟨p, hp⟩ : ∃ p, p = rP l k := ⟨_, rfl⟩
          rw [show rd_T24 l k = p from hp.symm] at d0 d1 d2 el eC
          obtain ⟨qs, hqs⟩ : ∃ qs, qs = PS (l.take k.toNat) := ⟨_, rfl⟩
          rw [← hqs] at HK
          have hGq : Good qs := by rw [hqs]; exact PS_good _
          obtain ⟨rs, hrs⟩ : ∃ rs, rs = postS qs p := ⟨_, rfl⟩
          have HRs : Aside0 (rs = PS (l.take (k + 1).toNat)) := ⟨by rw [hrs, hqs, hp, take_rP l k hk0 hlt, PS_snoc]⟩
          have HGr : Aside0 (Good rs) := ⟨by rw [HRs.out]; exact PS_good _⟩
          obtain ⟨n, hn⟩ : ∃ n, n = postE qs p := ⟨_, rfl⟩
          have three : Aside0 (∀ W', Below w.heap.size w W' → W'.cell? (ad.add (k.toNat * 3)) = some (.int .i64 p.f0) ∧ W'.cell? ⟨(ad.add (k.toNat * 3)).block, (ad.add (k.toNat * 3)).off + 1, none⟩ = some (.int .i64 p.f1) ∧ W'.cell? ⟨(ad.add (k.toNat * 3)).block, (ad.add (k.toNat * 3)).off + 2, none⟩ = some (.slice A2 p.f2.length c2)) :=
            ⟨fun W' hb => ⟨pw_cell_below hb d0, pw_cell_below hb d1, pw_cell_below hb d2⟩⟩
          have HItC := Aside0.mk eC
          have hPa : Aside0 (Calls Tryd.prog 17 #[.pointer (some ⟨ga, 0, none⟩), .agg #[.int .i64 p.f0, .int .i64 p.f1, .slice A2 p.f2.length c2]] wo.drew fun e W' => e = .returned (.int .i64 n) ∧ Aside0 (Two tL tU w W' ga gb rs qs) ∧ Below w.heap.size w W') :=
            ⟨((HK.out.two.below (below_drew1 (Below.refl _ _))).postL p A2 c2 hGq.len (Kd.C_below eC (below_drew1 HK.out.bel)) el HSh.out).mono (by
              rintro e W' ⟨rfl, h⟩
              exact ⟨by rw [hn], ⟨by rw [hrs]; exact h⟩, h.bel⟩)⟩
          have hPb : Aside0 (∀ W, Aside0 (Two tL tU w W ga gb rs qs) → Calls Tryd.prog 18 #[.pointer (some ⟨gb, 0, none⟩), .agg #[.int .i64 p.f0, .int .i64 p.f1, .slice A2 p.f2.length c2]] W fun e W' => e = .returned (.int .i64 n) ∧ Aside0 (Two tL tU w W' ga gb rs rs) ∧ Below w.heap.size w W') :=
            ⟨fun W hT => (hT.out.swap.postU p A2 c2 hGq.len (Kd.C_below eC hT.out.bel) el).mono (by
              rintro e W' ⟨rfl, h⟩
              exact ⟨by rw [hn], ⟨by have h' := h.swap; rwa [← hrs] at h'⟩, h.bel⟩)⟩
          have hBo : Below w.heap.size w wo := HK.out.bel
          obtain ⟨o0, o1, o2⟩ := three.out wo hBo
          have HBo := Aside0.mk hBo
          clear hp hqs hGq hrs hn d0 d1 d2 hBo
          go_upto_region 9 with (fail)
          go_cut [43] (fun v wx => v = .bool false ∧ Aside0 (Two tL tU w wx ga gb rs rs))
          case first =>
            go_region_held3 (fun W' => W'.cell? (ad.add (k.toNat * 3)) = some (.int .i64 p.f0) ∧ W'.cell? ⟨(ad.add (k.toNat * 3)).block, (ad.add (k.toNat * 3)).off + 1, none⟩ = some (.int .i64 p.f1) ∧ W'.cell? ⟨(ad.add (k.toNat * 3)).block, (ad.add (k.toNat * 3)).off + 2, none⟩ = some (.slice A2 p.f2.length c2))
              ((exact three.out _ (by repeat (first | (with_reducible first | exact hBX | exact HBo.out | exact Below.refl _ _ | apply below_alloc | apply below_drew1) | exact Below.refl _ _))))
              (first
                | (go_at_call 17; have h_ := hPa.out; (with_reducible refine h_.mono ?_); clear h_; rintro e v1 ⟨rfl, hT1, hBX⟩)
                | (go_at_call 18; have h_ := hPb.out v1 hT1; (with_reducible refine h_.mono ?_); clear h_; rintro e v2 ⟨rfl, hT2, hBX⟩))
            all_goals
              go_wp2_with fail
              go_meet
              exact ⟨by simp, hT2⟩
          case rest =>
            obtain ⟨rfl, HT⟩ := hcut
            have HP9 := Aside0.mk (PoS.mk HT.out)
            clear HT o0 o1 o2 hPa hPb HK HBo
            obtain ⟨bc, hbc⟩ : ∃ b, b = (decide (40 < l.length) && decide (k + 3 < (l.length : Int))) := ⟨_, rfl⟩
            go_upto_region 11 with (fail)
            go_cut [53] (fun v wx => v = .bool bc ∧ Aside0 (PoS w wx ga gb rs))
            case first =>
              by_cases h1 : 40 < l.length
              · by_cases h2 : k + 3 < (l.length : Int)
                · rw [decide_eq_true h1, decide_eq_true h2] at hbc
                  subst hbc
                  go_wp2_with fail
                  go_meet
                  exact ⟨by simp, HP9⟩
                · rw [decide_eq_true h1, decide_eq_false h2] at hbc
                  subst hbc
                  go_wp2_with fail
                  go_meet
                  exact ⟨by simp, HP9⟩
              · rw [decide_eq_false h1] at hbc
                subst hbc
                go_wp2_with fail
                go_meet
                exact ⟨by simp, HP9⟩
            case rest =>
              obtain ⟨rfl, HP0⟩ := hcut
              clear HP9 hbc
              cases bc with
              | true =>
                go_wp2
                go_roundw
                case rel => exact ⟨k + 1, by go_num, by omega, by omega, ⟨by rw [← HRs.out]; exact HP0.out⟩⟩
                case measure => simp [intOf]; omega
              | false =>
                obtain ⟨n1, hn1⟩ : ∃ n, n = tot rs acct 65536 := ⟨_, rfl⟩
                have HB1 := Aside0.mk (Bal_calls _ ga rs acct HP0.out.two.readA)
                rw [← hn1] at HB1
                go_wp2_with fail
                refine HB1.out.mono ?_
                rintro e w5 ⟨rfl, hb⟩
                have HP5 := Aside0.mk (HP0.out.below hb)
                have HB2 := Aside0.mk (RBal_calls w5 gb rs acct HP5.out.two.readB)
                rw [← hn1] at HB2
                clear hb HB1 HP0 hn1
                go_wp2_with fail
                refine HB2.out.mono ?_
                rintro e w' ⟨rfl, rfl⟩
                obtain ⟨n2, hn2⟩ : ∃ n, n = tot rs acct day := ⟨_, rfl⟩
                have HB3 := Aside0.mk (On_calls w5 ga rs acct day HP5.out.two.readA)
                rw [← hn2] at HB3
                clear HB2
                go_wp2_with fail
                refine HB3.out.mono ?_
                rintro e w6 ⟨rfl, hb⟩
                have HP6 := Aside0.mk (HP5.out.below hb)
                have HB4 := Aside0.mk (ROn_calls w6 gb rs acct day HP6.out.two.readB)
                rw [← hn2] at HB4
                clear hb HB3 HP5 hn2
                go_wp2_with fail
                refine HB4.out.mono ?_
                rintro e w' ⟨rfl, rfl⟩
                clear HB4
                go_wp2
                go_loopw [10] (fun vj wr => ∃ j : Int, vj = .int .i64 j ∧ 0 ≤ j ∧ j ≤ p.f2.length ∧ Aside0 (PoS w wr ga gb rs)) (fun vj _ => p.f2.length - (intOf vj).toNat)
                case atStart => exact ⟨0, rfl, by omega, by omega, HP6⟩
                case round =>
                  clear HP6
                  obtain ⟨j, rfl, hj0, hj1, HJ⟩ := hrel
                  obtain ⟨wp, rfl⟩ : ∃ x : World, x = wr := ⟨_, rfl⟩
                  obtain ⟨o0, o1, o2⟩ := three.out wp HJ.out.bel
                  have hmi := HItC.out.2.1
                  by_cases hlj : j < p.f2.length
                  · obtain ⟨ai, rfl, x0, -⟩ := at_T38 (Kd.C_below HItC.out HJ.out.bel) j hj0 hlj
                    obtain ⟨x, hx⟩ : ∃ x, x = rI p.f2 j := ⟨_, rfl⟩
                    rw [show rd_T38 p.f2 j = x from hx.symm] at x0
                    obtain ⟨s, hs⟩ : ∃ s, s = x.f0 := ⟨_, rfl⟩
                    rw [← hs] at x0
                    obtain ⟨n1, hn1⟩ : ∃ n, n = tot rs s 65536 := ⟨_, rfl⟩
                    obtain ⟨n2, hn2⟩ : ∃ n, n = tot rs s day := ⟨_, rfl⟩
                    obtain ⟨d, hd⟩ : ∃ d, d = p.f1 := ⟨_, rfl⟩
                    obtain ⟨n3, hn3⟩ : ∃ n, n = tot rs s d := ⟨_, rfl⟩
                    rw [← hd] at o1
                    have one : Aside0 (∀ W', Below wp.heap.size wp W' → W'.cell? ⟨(ad.add (k.toNat * 3)).block, (ad.add (k.toNat * 3)).off + 1, none⟩ = some (.int .i64 d)) := ⟨fun W' hb => pw_cell_below hb o1⟩
                    have hc1 : Aside0 (∀ W, Below wp.heap.size wp W → Calls Tryd.prog 19 #[.pointer (some ⟨ga, 0, none⟩), .string s] W fun e W' => e = .returned (.int .i64 n1) ∧ Below wp.heap.size wp W') := ⟨fun W hb => (Bal_calls W ga rs s (HJ.out.below hb).two.readA).mono (by
                      rintro e W' ⟨rfl, h⟩
                      exact ⟨by rw [hn1], hb.trans (h.mono hb.size)⟩)⟩
                    have hc2 : Aside0 (∀ W, Below wp.heap.size wp W → Calls Tryd.prog 20 #[.pointer (some ⟨gb, 0, none⟩), .string s] W fun e W' => e = .returned (.int .i64 n1) ∧ Below wp.heap.size wp W') := ⟨fun W hb => (RBal_calls W gb rs s (HJ.out.below hb).two.readB).mono (by
                      rintro e W' ⟨rfl, rfl⟩
                      exact ⟨by rw [hn1], hb⟩)⟩
                    have hc3 : Aside0 (∀ W, Below wp.heap.size wp W → Calls Tryd.prog 21 #[.pointer (some ⟨ga, 0, none⟩), .string s, .int .i64 day] W fun e W' => e = .returned (.int .i64 n2) ∧ Below wp.heap.size wp W') := ⟨fun W hb => (On_calls W ga rs s day (HJ.out.below hb).two.readA).mono (by
                      rintro e W' ⟨rfl, h⟩
                      exact ⟨by rw [hn2], hb.trans (h.mono hb.size)⟩)⟩
                    have hc4 : Aside0 (∀ W, Below wp.heap.size wp W → Calls Tryd.prog 22 #[.pointer (some ⟨gb, 0, none⟩), .string s, .int .i64 day] W fun e W' => e = .returned (.int .i64 n2) ∧ Below wp.heap.size wp W') := ⟨fun W hb => (ROn_calls W gb rs s day (HJ.out.below hb).two.readB).mono (by
                      rintro e W' ⟨rfl, rfl⟩
                      exact ⟨by rw [hn2], hb⟩)⟩
                    have hc5 : Aside0 (∀ W, Below wp.heap.size wp W → Calls Tryd.prog 21 #[.pointer (some ⟨ga, 0, none⟩), .string s, .int .i64 d] W fun e W' => e = .returned (.int .i64 n3) ∧ Below wp.heap.size wp W') := ⟨fun W hb => (On_calls W ga rs s d (HJ.out.below hb).two.readA).mono (by
                      rintro e W' ⟨rfl, h⟩
                      exact ⟨by rw [hn3], hb.trans (h.mono hb.size)⟩)⟩
                    have hc6 : Aside0 (∀ W, Below wp.heap.size wp W → Calls Tryd.prog 22 #[.pointer (some ⟨gb, 0, none⟩), .string s, .int .i64 d] W fun e W' => e = .returned (.int .i64 n3) ∧ Below wp.heap.size wp W') := ⟨fun W hb => (ROn_calls W gb rs s d (HJ.out.below hb).two.readB).mono (by
                      rintro e W' ⟨rfl, rfl⟩
                      exact ⟨by rw [hn3], hb⟩)⟩
                    clear hx hs hn1 hn2 hn3 hd
                    go_upto_region 18 with (fail)
                    go_cut [127] (fun v wx => v = .bool false ∧ Aside0 (Below wp.heap.size wp wx))
                    case first =>
                      go_region_held3 (fun W' => W'.cell? ⟨(ad.add (k.toNat * 3)).block, (ad.add (k.toNat * 3)).off + 1, none⟩ = some (.int .i64 d))
                        ((exact one.out _ (by repeat (first | (with_reducible first | exact hBX | exact Below.refl _ _ | apply below_alloc | apply below_drew1) | exact Below.refl _ _))))
                        (first
                          | (go_at_call 19; have h_ := hc1.out wp.drew (below_drew1 (Below.refl _ _)); (with_reducible refine h_.mono ?_); clear h_; rintro e v1 ⟨rfl, hBX⟩)
                          | (go_at_call 20; have h_ := hc2.out v1 hBX; (with_reducible refine h_.mono ?_); clear h_; rintro e v2 ⟨rfl, hBX⟩)
                          | (go_at_call 21; have h_ := hc3.out v2 hBX; (with_reducible refine h_.mono ?_); clear h_; rintro e v3 ⟨rfl, hBX⟩)
                          | (go_at_call 22; have h_ := hc4.out v3 hBX; (with_reducible refine h_.mono ?_); clear h_; rintro e v4 ⟨rfl, hBX⟩)
                          | (go_at_call 21; have h_ := hc5.out v4 hBX; (with_reducible refine h_.mono ?_); clear h_; rintro e v5 ⟨rfl, hBX⟩)
                          | (go_at_call 22; have h_ := hc6.out v5 hBX; (with_reducible refine h_.mono ?_); clear h_; rintro e v6 ⟨rfl, hBX⟩))
                      all_goals
                        go_wp2_with fail
                        go_meet
                        exact ⟨by simp, ⟨hBX⟩⟩
                    case rest =>
                      obtain ⟨rfl, HBx⟩ := hcut
                      clear hc1 hc2 hc3 hc4 hc5 hc6 o0 o1 o2 x0
                      go_wp2
                      go_roundw
                      case rel => exact ⟨j + 1, by go_num, by omega, by omega, ⟨HJ.out.below HBx.out⟩⟩
                      case measure => simp [intOf]; omega
                  · have hjl : j = p.f2.length := by omega
                    subst hjl
                    have HA := Aside0.mk (Accounts_calls wp ga rs HJ.out.two.readA (HGr.out.evs 65536) (HGr.out.size 65536) (HSh.out.below HJ.out.bel))
                    go_wp2_with fail
                    refine HA.out.mono ?_
                    rintro e w7 ⟨vn, ns, rfl, ha, hR, hb⟩
                    obtain ⟨An, cn, rfl, hcn, hCn⟩ := Kd.R_reads hR
                    have HJ7 := Aside0.mk (HJ.out.below hb)
                    have HCn := Aside0.mk hCn
                    have HAcc := Aside0.mk ha
                    have HA2 := Aside0.mk (RAccounts_calls w7 gb rs HJ7.out.two.readB HGr.out.days_le (HGr.out.evs 65536) (HGr.out.size 65536))
                    clear ha hR hb hCn HA HJ o0 o1 o2
                    go_wp2_with fail
                    refine HA2.out.mono ?_
                    rintro e w8 ⟨vm, ms, rfl, ha, hR, hb⟩
                    obtain rfl : ms = ns := ha.unique HAcc.out
                    obtain ⟨Am, cm, rfl, hcm, hCm⟩ := Kd.R_reads hR
                    have HJ8 := Aside0.mk (HJ7.out.below hb)
                    have HNm := Aside0.mk (Names_calls ms An cn Am cm w8 (Kd.C_below HCn.out hb) hcn hCm hcm)
                    clear ha hR hb hCm HA2 HJ7 HCn
                    go_wp2_with fail
                    refine HNm.out.mono ?_
                    rintro e w9 ⟨rfl, hb⟩
                    have HJ9 := Aside0.mk (HJ8.out.below hb)
                    have HPp := Aside0.mk (Postings_calls w9 ga rs HJ9.out.two.readA HGr.out.sz)
                    clear hb HNm HJ8
                    go_wp2_with fail
                    refine HPp.out.mono ?_
                    rintro e w10 ⟨vp, rfl, hR, hb⟩
                    obtain ⟨Ap, cp, rfl, hcp, hCp⟩ := Kd.R_reads hR
                    have HJ10 := Aside0.mk (HJ9.out.below hb)
                    have HCp := Aside0.mk hCp
                    have HPq := Aside0.mk (RPostings_calls w10 gb rs HJ10.out.two.readB HGr.out.sz)
                    clear hb hR hCp HPp HJ9
                    go_wp2_with fail
                    refine HPq.out.mono ?_
                    rintro e w11 ⟨vq, rfl, hR, hb⟩
                    obtain ⟨Aq, cq, rfl, hcq, hCq⟩ := Kd.R_reads hR
                    have HJ11 := Aside0.mk (HJ10.out.below hb)
                    have HSm := Aside0.mk (Same_calls rs Ap cp Aq cq w11 (Kd.C_below HCp.out hb) hcp hCq hcq HGr.out.sz)
                    clear hb hR hCq HPq HJ10 HCp
                    go_wp2_with fail
                    refine HSm.out.mono ?_
                    rintro e w12 ⟨rfl, hb⟩
                    have HJ12 := Aside0.mk (HJ11.out.below hb)
                    clear hb HSm HJ11
                    go_wp2
                    go_roundw
                    case rel => exact ⟨k + 1, by go_num, by omega, by omega, ⟨by rw [← HRs.out]; exact HJ12.out⟩⟩
                    case measure => simp [intOf]; omega
        · have hkl : k = l.length := by omega
          subst hkl
          go_wp2_with fail
          refine (awake_calls _ (HSh.out.below HK.out.bel)).mono ?_
          rintro e w4 ⟨rfl, hb⟩
          have HB4 := Aside0.mk (HK.out.below hb).bel
          clear hb
          go_wp2
          go_ret
          exact ⟨rfl, HB4.out⟩
theorem LedgerPosts_row (w : World) (A : Option Addr) (c : Nat) (l : List Po) (hC : Kd.C kPo w A l.length l) (hc : l.length ≤ c) (acct : ByteArray) (_ : acct.size ≤ 140737488351232) (day : Int) {Pr : Prop} (_ : Pr) (hsh : Sh w) :
    Calls Tryd.prog 4 #[.slice A l.length c, .string acct, .int .i64 day] w fun e W => e = .returned (.bool true) ∧ Below w.heap.size w W :=
  LedgerPosts_walk l A c acct day w hc hC hsh
end Go.Proofs.YtpmbljigdghmiaaDoor.Led
