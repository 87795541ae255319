/- Ledgers: postings posted again. -/
import Derived.Test.YtpmbljigdghmiaaDoorLd8
namespace Go.Proofs.YtpmbljigdghmiaaDoor.Led
open Go.RowKit Go.Shelf Go.WideShapes Go.Proofs.YtpmbljigdghmiaaDoor.Ext Go.Proofs.YtpmbljigdghmiaaDoor.P Go.Proofs.YtpmbljigdghmiaaDoor.Idp Go.Proofs.YtpmbljigdghmiaaDoorW.PrintWords Go.Proofs.YtpmbljigdghmiaaDoorW.PrintLast Go.Proofs.YtpmbljigdghmiaaDoorW.PrintMore
theorem took_at {ps : List Po} (h : Took ps) (k : Int) (h0 : 0 ≤ k) (h1 : k < ps.length) : postE (ps.take k.toNat) (rP ps k) = 0 := by
  refine h k.toNat (rP ps k) ?_
  unfold rP rd_T24
  rw [List.getD_eq_getElem?_getD, List.getElem?_eq_getElem (by omega)]
  rfl
/-- Two ledgers of the call's own that hold the same, with names. -/
structure AgS (w w1 W : World) (ga gb : Nat) (ps : List Po) (v : Value) (An : Option Addr) (ns : List ByteArray) : Prop where mk ::
  (a : LR tL w1 ga ps) (b : St (ZR w1.heap.size v ps) w1 W gb ps) (bel : Below w.heap.size w w1) (names : Kd.C Kd.string W An ns.length ns)
theorem AgS.below {w w1 W W' : World} {ga gb : Nat} {ps : List Po} {v : Value} {An : Option Addr} {ns : List ByteArray} (h : AgS w w1 W ga gb ps v An ns) (hb : Below W.heap.size W W') : AgS w w1 W' ga gb ps v An ns :=
  ⟨h.a, h.b.below (stp_ZR _ _ _) hb, h.bel, Kd.C_below h.names hb⟩
theorem AgS.ra {w w1 W : World} {ga gb : Nat} {ps : List Po} {v : Value} {An : Option Addr} {ns : List ByteArray} (h : AgS w w1 W ga gb ps v An ns) : LR tL W ga ps := h.a.below h.b.bel
theorem AgS.all {w w1 W : World} {ga gb : Nat} {ps : List Po} {v : Value} {An : Option Addr} {ns : List ByteArray} (h : AgS w w1 W ga gb ps v An ns) : Below w.heap.size w W := h.bel.trans (h.b.bel.mono h.bel.size)
set_option maxHeartbeats 4000000 in
set_option maxRecDepth 100000 in
theorem LedgerAgain_walk (l : List Po) (A : Option Addr) (c : Nat) (w : World) (hc : l.length ≤ c) (hC : Kd.C kPo w A l.length l) (hsh : Sh w) :
    Calls Tryd.prog 8 #[.slice A l.length c] w fun e W => e = .returned (.bool true) ∧ Below w.heap.size w W := by
  have HLi := Aside0.mk (Light_calls l A c w hC hc)
  have HSh := Aside0.mk hsh
  have H3 := Aside0.mk hC
  have hu1 := Tryd.underlying24
  have hu2 := Tryd.underlying38
  clear hC hsh
  go_enter Tryd.func8, Tryd.ntmps8
  cases hs : decide ((l.length : Int) ≤ 40) && small l 20 with
  | false =>
    rw [hs] at HLi
    clear hs
    go_wp2_with fail
    refine HLi.out.mono ?_
    rintro e w1 ⟨rfl, hb⟩
    have HB1 := Aside0.mk hb
    clear hb
    go_wp2_with fail
    refine (awake_calls w1 (HSh.out.below HB1.out)).mono ?_
    rintro e w2 ⟨rfl, hb⟩
    have HB2 := Aside0.mk (HB1.out.trans (hb.mono HB1.out.size))
    clear hb
    go_wp2
    go_ret
    exact ⟨rfl, HB2.out⟩
  | true =>
    rw [hs] at HLi
    have h40 : l.length ≤ 40 := by
      rw [Bool.and_eq_true] at hs
      have := of_decide_eq_true hs.1
      omega
    clear hs
    obtain ⟨ps, hps⟩ : ∃ ps, ps = PS l := ⟨_, rfl⟩
    have HG := Aside0.mk (show Good ps by rw [hps]; exact PS_good l)
    have HTk := Aside0.mk (show Took ps by rw [hps]; exact PS_took l)
    have hpl : ps.length ≤ 512 := HG.out.len
    have HPs := Aside0.mk hps
    clear hps
    obtain ⟨ns, hns⟩ : ∃ ns, ns = accN (evs ps 65536) := ⟨_, rfl⟩
    have HN := Aside0.mk hns
    have hnl : ns.length ≤ 10000000 := by rw [hns]; exact Nat.le_trans (accN_len _) (HG.out.size 65536)
    clear hns
    go_wp2_with fail
    refine HLi.out.mono ?_
    rintro e w1 ⟨rfl, hb⟩
    have HPo := Aside0.mk (posted_own w w1 l A c hb H3.out (by omega) HSh.out)
    clear hb HLi
    go_wp2_with fail
    refine HPo.out.mono ?_
    rintro e w2 ⟨ga, rfl, hO⟩
    rw [← HPs.out] at hO
    have HO := Aside0.mk hO
    clear hO HPo
    go_wp2_with fail
    refine (New_calls w2).mono ?_
    rintro e w3 ⟨gb, Fb, rfl, hI, hb⟩
    have HI := Aside0.mk hI
    have HB3 := Aside0.mk hb
    have HPp := Aside0.mk (Postings_calls w3 ga ps (HO.out.read.below hb) HG.out.sz)
    clear hI hb
    go_wp2_with fail
    refine HPp.out.mono ?_
    rintro e w4 ⟨v, rfl, hR, hb⟩
    have HS0 := Aside0.mk (St.of HI.out HB3.out hR hb)
    obtain ⟨Ap, cp, rfl⟩ := Kd.R_slice hR
    clear hR hb HPp HI HB3
    go_wp2
    go_loopw [6] (fun vi wr => ∃ k : Int, vi = .int .i64 k ∧ 0 ≤ k ∧ k ≤ ps.length ∧ Aside0 (St (ZR w2.heap.size (.slice Ap ps.length cp) ps) w2 wr gb (ps.take k.toNat))) (fun i _ => ps.length - (intOf i).toNat)
    case atStart => exact ⟨0, rfl, by omega, by omega, HS0⟩
    case round =>
      clear HS0
      obtain ⟨k, rfl, hk0, hk1, HK⟩ := hrel
      obtain ⟨Ap', cp', he, hcp, hCp⟩ := HK.out.row
      obtain ⟨rfl, rfl⟩ : Ap = Ap' ∧ cp = cp' := by injection he with h1 h2 h3; exact ⟨h1, h3⟩
      clear he
      by_cases hlt : k < ps.length
      · obtain ⟨ad, A2, c2, rfl, d0, d1, d2, el, eC⟩ := at_T24 hCp k hk0 hlt
        have HSt := Aside0.mk (take_rP ps k hk0 hlt)
        have hz := took_at HTk.out k hk0 hlt
        obtain ⟨p, hp⟩ : ∃ p, p = rP ps k := ⟨_, rfl⟩
        rw [← hp] at HSt hz
        rw [show rd_T24 ps k = p from hp.symm] at d0 d1 d2 el eC
        have HZ := Aside0.mk hz
        have HP := Aside0.mk (HK.out.post (stp_ZR _ _ _) p A2 c2 (by rw [List.length_take]; omega) eC el ((HSh.out.below HO.out.bel).below HK.out.bel))
        rw [hz] at HP
        clear hp hz el eC HK hCp
        go_wp2_with fail
        refine HP.out.mono ?_
        rintro e w5 ⟨rfl, hS⟩
        have HS5 := Aside0.mk hS
        clear hS HP d0 d1 d2
        go_wp2
        go_roundw
        case rel => exact ⟨k + 1, by go_num, by omega, by omega, ⟨by rw [HSt.out]; have h := HS5.out; unfold postS at h; rwa [if_pos HZ.out] at h⟩⟩
        case measure => simp [intOf]; omega
      · have hkl : k = ps.length := by omega
        subst hkl
        clear hCp
        have hS := HK.out
        rw [show ps.take ((ps.length : Nat) : Int).toNat = ps by simp] at hS
        have HS := Aside0.mk hS
        obtain ⟨wq, rfl⟩ : ∃ x : World, x = wr := ⟨_, rfl⟩
        have HLa := Aside0.mk (HO.out.read.below HS.out.bel)
        have HA := Aside0.mk (Accounts_calls wq ga ps HLa.out (HG.out.evs 65536) (HG.out.size 65536) ((HSh.out.below HO.out.bel).below HS.out.bel))
        clear hS HK
        go_wp2_with fail
        refine HA.out.mono ?_
        rintro e w6 ⟨vn, l6, rfl, ha, hR, hb⟩
        obtain rfl : l6 = ns := by rw [HN.out]; exact ha.unique (accN_ok _ (HG.out.evs 65536))
        obtain ⟨An, cn, rfl, hcn, hCn⟩ := Kd.R_reads hR
        have HAg := Aside0.mk (AgS.mk HO.out.read (HS.out.below (stp_ZR _ _ _) hb) HO.out.bel hCn)
        clear ha hR hb hCn HA HS HLa
        go_wp2
        go_loopw [8] (fun vi wr => ∃ k : Int, vi = .int .i64 k ∧ 0 ≤ k ∧ k ≤ l6.length ∧ Aside0 (AgS w w2 wr ga gb ps (.slice Ap ps.length cp) An l6)) (fun i _ => l6.length - (intOf i).toNat)
        case atStart => exact ⟨0, rfl, by omega, by omega, HAg⟩
        case round =>
          clear HAg
          obtain ⟨k, rfl, hk0, hk1, HK⟩ := hrel
          by_cases hlt : k < l6.length
          · obtain ⟨ad, rfl, d0⟩ := str_at HK.out.names k hk0 hlt
            obtain ⟨s, hs⟩ : ∃ s, s = rdOf ByteArray.empty l6 k := ⟨_, rfl⟩
            rw [← hs] at d0
            obtain ⟨n, hn⟩ : ∃ n, n = tot ps s 65536 := ⟨_, rfl⟩
            have one : Aside0 (∀ W', Below wr.heap.size wr W' → W'.cell? (ad.add k.toNat) = some (.string s)) := ⟨fun W' hb => pw_cell_below hb d0⟩
            have hBa : Aside0 (∀ W, Below wr.heap.size wr W → Calls Tryd.prog 19 #[.pointer (some ⟨ga, 0, none⟩), .string s] W fun e W' => e = .returned (.int .i64 n) ∧ Below wr.heap.size wr W') := ⟨fun W hb => (Bal_calls W ga ps s (HK.out.ra.below hb)).mono (by
              rintro e W' ⟨rfl, h⟩
              exact ⟨by rw [hn], hb.trans (h.mono hb.size)⟩)⟩
            have hBb : Aside0 (∀ W, Below wr.heap.size wr W → Calls Tryd.prog 19 #[.pointer (some ⟨gb, 0, none⟩), .string s] W fun e W' => e = .returned (.int .i64 n) ∧ Below wr.heap.size wr W') := ⟨fun W hb => (Bal_calls W gb ps s (HK.out.b.read.below hb)).mono (by
              rintro e W' ⟨rfl, h⟩
              exact ⟨by rw [hn], hb.trans (h.mono hb.size)⟩)⟩
            clear hs hn
            go_wp2_with fail
            go_region_held3 (fun W' => W'.cell? (ad.add k.toNat) = some (.string s))
              ((exact one.out _ (by repeat (first | (with_reducible first | exact hBX | exact Below.refl _ _ | apply below_alloc | apply below_drew1) | exact Below.refl _ _))))
              (first
                | (go_at_call 19; have h_ := hBa.out wr.drew (below_drew1 (Below.refl _ _)); (with_reducible refine h_.mono ?_); clear h_; rintro e v1 ⟨rfl, hBX⟩)
                | (go_at_call 19; have h_ := hBb.out v1 hBX; (with_reducible refine h_.mono ?_); clear h_; rintro e v2 ⟨rfl, hBX⟩))
            all_goals
              have HK2 := Aside0.mk (HK.out.below hBX)
              clear hBX
              go_wp2
              go_roundw
              case rel => exact ⟨k + 1, by go_num, by omega, by omega, HK2⟩
              case measure => simp [intOf]; omega
          · have hkl : k = l6.length := by omega
            subst hkl
            have HA := Aside0.mk (Accounts_calls wr gb ps HK.out.b.read (HG.out.evs 65536) (HG.out.size 65536) (HSh.out.below HK.out.all))
            go_wp2_with fail
            refine HA.out.mono ?_
            rintro e w7 ⟨vn, l7, rfl, ha, hR, hb⟩
            have e7 : l7 = l6 := by rw [HN.out]; exact ha.unique (accN_ok _ (HG.out.evs 65536))
            subst e7
            obtain ⟨Am, cm, rfl, hcm, hCm⟩ := Kd.R_reads hR
            have HK7 := Aside0.mk (HK.out.below hb)
            have HNm := Aside0.mk (Names_calls l7 An cn Am cm w7 HK7.out.names hcn hCm hcm)
            clear ha hR hb hCm HA HK
            go_wp2_with fail
            refine HNm.out.mono ?_
            rintro e w8 ⟨rfl, hb⟩
            have HK8 := Aside0.mk (HK7.out.below hb)
            have HPp := Aside0.mk (Postings_calls w8 gb ps HK8.out.b.read HG.out.sz)
            clear hb HK7 HNm
            go_wp2_with fail
            refine HPp.out.mono ?_
            rintro e w9 ⟨v9, rfl, hR, hb⟩
            obtain ⟨Aq, cq, rfl, hcq, hCq⟩ := Kd.R_reads hR
            have HK9 := Aside0.mk (HK8.out.below hb)
            obtain ⟨Ap', cp', he, hcp, hCp⟩ := HK9.out.b.row
            obtain ⟨rfl, rfl⟩ : Ap = Ap' ∧ cp = cp' := by injection he with h1 h2 h3; exact ⟨h1, h3⟩
            clear he
            have HSm := Aside0.mk (Same_calls ps Ap cp Aq cq w9 hCp hcp hCq hcq HG.out.sz)
            clear hb HK8 HPp hR hCq hCp
            go_wp2_with fail
            refine HSm.out.mono ?_
            rintro e w10 ⟨rfl, hb⟩
            have HB := Aside0.mk (HK9.out.below hb).all
            clear hb HSm HK9
            go_wp2_with fail
            refine (awake_calls w10 (HSh.out.below HB.out)).mono ?_
            rintro e w11 ⟨rfl, hb⟩
            have HB2 := Aside0.mk (HB.out.trans (hb.mono HB.out.size))
            clear hb
            go_wp2
            go_ret
            exact ⟨rfl, HB2.out⟩
theorem LedgerAgain_row (w : World) (A : Option Addr) (c : Nat) (l : List Po) (hC : Kd.C kPo w A l.length l) (hc : l.length ≤ c) (hsh : Sh w) :
    Calls Tryd.prog 8 #[.slice A l.length c] w fun e W => e = .returned (.bool true) ∧ Below w.heap.size w W :=
  LedgerAgain_walk l A c w hc hC hsh
end Go.Proofs.YtpmbljigdghmiaaDoor.Led
