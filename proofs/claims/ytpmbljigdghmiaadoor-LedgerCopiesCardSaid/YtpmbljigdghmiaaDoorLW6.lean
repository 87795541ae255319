/- Ledgers: copies. -/
import Derived.Test.YtpmbljigdghmiaaDoorLd8
import Derived.Lib.SliceRun
namespace Go.Proofs.YtpmbljigdghmiaaDoor.Led
open Go.RowKit Go.Shelf Go.WideShapes Go.Proofs.YtpmbljigdghmiaaDoor.Ext Go.Proofs.YtpmbljigdghmiaaDoor.P Go.Proofs.YtpmbljigdghmiaaDoor.Idp Go.Proofs.YtpmbljigdghmiaaDoorW.PrintWords Go.Proofs.YtpmbljigdghmiaaDoorW.PrintLast Go.Proofs.YtpmbljigdghmiaaDoorW.PrintMore
/-- The ledger that is copied, all of them, and the copy with what was there. -/
structure CpS (w W2 W : World) (ga gl gb : Nat) (pa pl qs : List Po) (v : Value) : Prop where mk ::
  (a : Own w W2 ga pa) (l : LR tL W2 gl pl) (b : St (ZR W2.heap.size v pa) W2 W gb qs)
theorem CpS.below {w W2 W W' : World} {ga gl gb : Nat} {pa pl qs : List Po} {v : Value} (h : CpS w W2 W ga gl gb pa pl qs v) (hb : Below W.heap.size W W') : CpS w W2 W' ga gl gb pa pl qs v := ⟨h.a, h.l, h.b.below (stp_ZR _ _ _) hb⟩
theorem CpS.ra {w W2 W : World} {ga gl gb : Nat} {pa pl qs : List Po} {v : Value} (h : CpS w W2 W ga gl gb pa pl qs v) : LR tL W ga pa := h.a.read.below h.b.bel
theorem CpS.rl {w W2 W : World} {ga gl gb : Nat} {pa pl qs : List Po} {v : Value} (h : CpS w W2 W ga gl gb pa pl qs v) : LR tL W gl pl := h.l.below h.b.bel
theorem CpS.bel {w W2 W : World} {ga gl gb : Nat} {pa pl qs : List Po} {v : Value} (h : CpS w W2 W ga gl gb pa pl qs v) : Below w.heap.size w W := h.a.bel.trans (h.b.bel.mono h.a.bel.size)
theorem CpS.post {w W2 W : World} {ga gl gb : Nat} {pa pl qs : List Po} {v : Value} (h : CpS w W2 W ga gl gb pa pl qs v) (p : Po) (A : Option Addr) (c : Nat) (hps : qs.length ≤ 512) (hC : Kd.C kIt W A p.f2.length p.f2) (hc : p.f2.length ≤ c) (hsh : Sh W) :
    Calls Tryd.prog 17 #[.pointer (some ⟨gb, 0, none⟩), .agg #[.int .i64 p.f0, .int .i64 p.f1, .slice A p.f2.length c]] W fun e W' => e = .returned (.int .i64 (postE qs p)) ∧ CpS w W2 W' ga gl gb pa pl (postS qs p) v :=
  (h.b.post (stp_ZR _ _ _) p A c hps hC hc hsh).mono fun _ _ hp => ⟨hp.1, h.a, h.l, hp.2⟩
/-- The copy, and a row, beside the ledger that was copied. -/
def ZB (w : World) (gb : Nat) (qs : List Po) (v : Value) (W : World) (F : Nat → Prop) : Prop := ZL w gb qs W F ∧ ZR w.heap.size v qs W F
theorem stp_ZB (w : World) (gb : Nat) (qs : List Po) (v : Value) : Stp (ZB w gb qs v) := stp_and (stp_ZL _ _ _) (stp_ZR _ _ _)
theorem CpS.turn {w W2 W W' : World} {ga gl gb : Nat} {pa pl qs : List Po} {v v' : Value} (h : CpS w W2 W ga gl gb pa pl qs v) (hR : Kd.R kPo 24 W' W.heap.size (fun _ => True) v' qs) (hb : Below W.heap.size W W') : St (ZB w gb qs v') w W' ga pa := by
  obtain ⟨Fa, a1, a2⟩ := h.a
  obtain ⟨Fb, b1, _⟩ := h.b.out
  have hbel := h.bel
  refine ⟨⟨Fa, (a1.below h.b.bel).below hb, ⟨Fb, (b1.below hb).lower a2.size, fun k hk ha => ?_⟩, ?_⟩, hbel.trans (hb.mono hbel.size)⟩
  · have := (a1.lt k ha).2; have := (b1.lt k hk).1; omega
  · exact Kd.R_lower (Kd.R_mono (Kd.R_bound hR) fun k hk => ⟨hk.2.2.1, fun hF => by have := (a1.lt k hF).2; have := hk.2.1; have := h.b.bel.size; omega⟩) hbel.size
theorem St.rb {w W : World} {ga gb : Nat} {ps qs : List Po} {v : Value} (h : St (ZB w gb qs v) w W ga ps) : LR tL W gb qs := by
  obtain ⟨F, _, ⟨Fb, h1, _⟩, _⟩ := h.out
  exact h1.read
theorem St.rv {w W : World} {ga gb : Nat} {ps qs : List Po} {v : Value} (h : St (ZB w gb qs v) w W ga ps) : ∃ A c, v = .slice A qs.length c ∧ qs.length ≤ c ∧ Kd.C kPo W A qs.length qs := by
  obtain ⟨F, _, _, h2⟩ := h.out
  exact Kd.R_reads h2
theorem take_len (l : List Po) (k : Nat) (h : k ≤ l.length) : (l.take k).length = k := by rw [List.length_take]; omega
theorem posted_take (w W : World) (l : List Po) (A : Option Addr) (c k : Nat) (hk : k ≤ l.length) (hb : Below w.heap.size w W) (hC : Kd.C kPo w A l.length l) (hl : l.length ≤ 512) (hsh : Sh w) :
    Calls Tryd.prog 29 #[.slice A k c] W fun e W' => ∃ g, e = .returned (.pointer (some ⟨g, 0, none⟩)) ∧ Own w W' g (PS (l.take k)) := by
  have h := posted_own w W (l.take k) A c hb (Kd.C_take hC hk) (by rw [take_len l k hk]; omega) hsh
  rwa [take_len l k hk] at h
set_option maxHeartbeats 8000000 in
set_option maxRecDepth 100000 in
theorem LedgerCopies_walk (l : List Po) (A : Option Addr) (c : Nat) (n : Int) (hn0 : 0 ≤ n) (hn1 : n ≤ 255) (w : World) (hc : l.length ≤ c) (hC : Kd.C kPo w A l.length l) (hsh : Sh w) :
    Calls Tryd.prog 7 #[.slice A l.length c, .int .u8 n] w fun e W => e = .returned (.bool true) ∧ Below w.heap.size w W := by
  have HLi := Aside0.mk (Light_calls l A c w hC hc)
  have HSh := Aside0.mk hsh
  have H3 := Aside0.mk hC
  have hu1 := Tryd.underlying24
  have hu2 := Tryd.underlying38
  clear hC hsh
  go_enter Tryd.func7, Tryd.ntmps7
  cases hs : decide ((l.length : Int) ≤ 40) && small l 20 with
  | false =>
    rw [hs] at HLi
    clear hs
    go_wp2_with fail
    refine HLi.out.mono ?_
    rintro e w1 ⟨rfl, hb⟩
    have HB1 := Aside0.mk hb
    clear hb
    go_wp2_with fail
    refine (awake_calls w1 (HSh.out.below HB1.out)).mono ?_
    rintro e w2 ⟨rfl, hb⟩
    have HB2 := Aside0.mk (HB1.out.trans (hb.mono HB1.out.size))
    clear hb
    go_wp2
    go_ret
    exact ⟨rfl, HB2.out⟩
  | true =>
    rw [hs] at HLi
    have h40 : l.length ≤ 40 := by
      rw [Bool.and_eq_true] at hs
      have := of_decide_eq_true hs.1
      omega
    clear hs
    obtain ⟨k, hk⟩ : ∃ k : Nat, (k : Int) = min n (l.length : Int) := ⟨(min n (l.length : Int)).toNat, by omega⟩
    have hkl : k ≤ l.length := by omega
    obtain ⟨pa, hpa⟩ : ∃ pa, pa = PS (l.take k) := ⟨_, rfl⟩
    obtain ⟨pl, hpl⟩ : ∃ pl, pl = PS l := ⟨_, rfl⟩
    have HGa := Aside0.mk (show Good pa by rw [hpa]; exact PS_good _)
    have HGl := Aside0.mk (show Good pl by rw [hpl]; exact PS_good _)
    have HPa := Aside0.mk hpa
    have HPl := Aside0.mk hpl
    have HMn : Aside0 (min n (l.length : Int) = (k : Int)) := ⟨hk.symm⟩
    have hk0 : (0 : Int) ≤ (k : Int) := by omega
    have hk9 : (k : Int) ≤ (l.length : Int) := by omega
    clear hpa hpl hk
    go_wp2_with fail
    refine HLi.out.mono ?_
    rintro e w1 ⟨rfl, hb⟩
    have HB1 := Aside0.mk hb
    have HPo := Aside0.mk (posted_take w w1 l A c k hkl hb H3.out (by omega) HSh.out)
    clear hb HLi
    go_wp2_with fail
    rw [HMn.out, Int.toNat_natCast]
    refine HPo.out.mono ?_
    rintro e w2 ⟨ga, rfl, hO⟩
    rw [← HPa.out] at hO
    have HOa := Aside0.mk hO
    have HPo2 := Aside0.mk (posted_calls w2 l A c (Kd.C_below H3.out hO.bel) (by omega) (HSh.out.below hO.bel))
    clear hO HPo HB1
    go_wp2_with fail
    refine HPo2.out.mono ?_
    rintro e w3 ⟨gl, Fl, rfl, hI, hb⟩
    rw [← HPl.out] at hI
    have HIl := Aside0.mk hI.read
    have HOa3 := Aside0.mk (HOa.out.below hb)
    have HCp := Aside0.mk (Copy_calls w3 ga pa HOa3.out.read HGa.out.sz)
    clear hI hb HPo2 HOa
    go_wp2_with fail
    refine HCp.out.mono ?_
    rintro e w4 ⟨gb, Fb, rfl, hI, hb⟩
    have HIb := Aside0.mk hI
    have HB4 := Aside0.mk hb
    have HP1 := Aside0.mk (Postings_calls w4 ga pa (HOa3.out.read.below hb) HGa.out.sz)
    clear hI hb HCp
    go_wp2_with fail
    refine HP1.out.mono ?_
    rintro e w5 ⟨v5, rfl, hR, hb⟩
    obtain ⟨A5, c5, rfl, hc5, hC5⟩ := Kd.R_reads hR
    have HIb5 := Aside0.mk (HIb.out.below hb)
    have HB5 := Aside0.mk (HB4.out.trans (hb.mono HB4.out.size))
    have HC5 := Aside0.mk hC5
    have HP2 := Aside0.mk (Postings_calls w5 gb pa HIb5.out.read HGa.out.sz)
    clear hR hb hC5 HP1 HIb HB4
    go_wp2_with fail
    refine HP2.out.mono ?_
    rintro e w6 ⟨v6, rfl, hR, hb⟩
    obtain ⟨A6, c6, rfl, hc6, hC6⟩ := Kd.R_reads hR
    have HIb6 := Aside0.mk (HIb5.out.below hb)
    have HB6 := Aside0.mk (HB5.out.trans (hb.mono HB5.out.size))
    have HSm := Aside0.mk (Same_calls pa A5 c5 A6 c6 w6 (Kd.C_below HC5.out hb) hc5 hC6 hc6 HGa.out.sz)
    clear hR hb hC6 HP2 HIb5 HB5 HC5
    go_wp2_with fail
    refine HSm.out.mono ?_
    rintro e w7 ⟨rfl, hb⟩
    have HIb7 := Aside0.mk (HIb6.out.below hb)
    have HB7 := Aside0.mk (HB6.out.trans (hb.mono HB6.out.size))
    have HP3 := Aside0.mk (Postings_calls w7 ga pa (HOa3.out.read.below HB7.out) HGa.out.sz)
    clear hb HSm HIb6 HB6
    go_wp2_with fail
    refine HP3.out.mono ?_
    rintro e w8 ⟨v8, rfl, hR, hb⟩
    have HS8 := Aside0.mk (CpS.mk HOa3.out HIl.out (St.of HIb7.out HB7.out hR hb))
    obtain ⟨A8, c8, rfl⟩ := Kd.R_slice hR
    clear hR hb HP3 HIb7 HB7
    go_wp2
    go_loopw [10] (fun vi wr => ∃ j : Int, vi = .int .i64 j ∧ (k : Int) ≤ j ∧ j ≤ l.length ∧ Aside0 (CpS w w3 wr ga gl gb pa pl (PS (l.take j.toNat)) (.slice A8 pa.length c8))) (fun i _ => l.length - (intOf i).toNat)
    case atStart => exact ⟨k, rfl, by omega, by omega, ⟨by rw [Int.toNat_natCast, ← HPa.out]; exact HS8.out⟩⟩
    case round =>
      clear HS8
      obtain ⟨j, rfl, hj0, hj1, HK⟩ := hrel
      by_cases hlt : j < l.length
      · obtain ⟨ad, A2, c2, rfl, d0, d1, d2, el, eC⟩ := at_T24 H3.out j (by omega) hlt
        have HSt := Aside0.mk (take_rP l j (by omega) hlt)
        obtain ⟨p, hp⟩ : ∃ p, p = rP l j := ⟨_, rfl⟩
        rw [← hp] at HSt
        rw [show rd_T24 l j = p from hp.symm] at d0 d1 d2 el eC
        have hb := HK.out.bel
        have e0 := (hb.cell (World.block_lt_of_cell? w _ d0)).trans d0
        have e1 := (hb.cell (World.block_lt_of_cell? w _ d1)).trans d1
        have e2 := (hb.cell (World.block_lt_of_cell? w _ d2)).trans d2
        have hlen : (PS (l.take j.toNat)).length ≤ 512 := (PS_good _).len
        have HP := Aside0.mk (HK.out.post p A2 c2 hlen (Kd.C_below eC hb) el (HSh.out.below hb))
        have hj : 0 ≤ j := by omega
        clear hp hb d0 d1 d2 el eC hlen HK
        go_wp2_with fail
        refine HP.out.mono ?_
        rintro e w9 ⟨rfl, hO⟩
        have HO2 := Aside0.mk hO
        clear hO HP e0 e1 e2
        go_wp2
        go_roundw
        case rel => exact ⟨j + 1, by go_num, by omega, by omega, ⟨by rw [HSt.out, PS_snoc]; exact HO2.out⟩⟩
        case measure => simp [intOf]; omega
      · have hjl : j = l.length := by omega
        subst hjl
        have hS := HK.out
        rw [show l.take ((l.length : Nat) : Int).toNat = l by simp, ← HPl.out] at hS
        have HS := Aside0.mk hS
        obtain ⟨w9, rfl⟩ : ∃ x : World, x = wr := ⟨_, rfl⟩
        have HP4 := Aside0.mk (Postings_calls w9 ga pa HS.out.ra HGa.out.sz)
        clear hS HK
        go_wp2_with fail
        refine HP4.out.mono ?_
        rintro e w10 ⟨v10, rfl, hR, hb⟩
        obtain ⟨A10, c10, rfl, hc10, hC10⟩ := Kd.R_reads hR
        have HS10 := Aside0.mk (HS.out.below hb)
        obtain ⟨A8', c8', he, hc8, hC8⟩ := HS10.out.b.row
        obtain ⟨rfl, rfl⟩ : A8 = A8' ∧ c8 = c8' := by injection he with h1 h2 h3; exact ⟨h1, h3⟩
        have HSm2 := Aside0.mk (Same_calls pa A10 c10 A8 c8 w10 hC10 hc10 hC8 hc8 HGa.out.sz)
        clear hR hb hC10 hC8 he HP4 HS
        go_wp2_with fail
        refine HSm2.out.mono ?_
        rintro e w11 ⟨rfl, hb⟩
        have HS11 := Aside0.mk (HS10.out.below hb)
        have HP5 := Aside0.mk (Postings_calls w11 gb pl HS11.out.b.read HGl.out.sz)
        clear hb HSm2 HS10
        go_wp2_with fail
        refine HP5.out.mono ?_
        rintro e w12 ⟨v12, rfl, hR, hb⟩
        obtain ⟨A12, c12, rfl, hc12, hC12⟩ := Kd.R_reads hR
        have HS12 := Aside0.mk (HS11.out.below hb)
        have HC12 := Aside0.mk hC12
        have HP6 := Aside0.mk (Postings_calls w12 gl pl HS12.out.rl HGl.out.sz)
        clear hR hb hC12 HP5 HS11
        go_wp2_with fail
        refine HP6.out.mono ?_
        rintro e w13 ⟨v13, rfl, hR, hb⟩
        obtain ⟨A13, c13, rfl, hc13, hC13⟩ := Kd.R_reads hR
        have HS13 := Aside0.mk (HS12.out.below hb)
        have HSm3 := Aside0.mk (Same_calls pl A12 c12 A13 c13 w13 (Kd.C_below HC12.out hb) hc12 hC13 hc13 HGl.out.sz)
        clear hR hb hC13 HP6 HS12 HC12
        go_wp2_with fail
        refine HSm3.out.mono ?_
        rintro e w14 ⟨rfl, hb⟩
        have HS14 := Aside0.mk (HS13.out.below hb)
        have HP7 := Aside0.mk (Postings_calls w14 gb pl HS14.out.b.read HGl.out.sz)
        clear hb HSm3 HS13
        go_wp2_with fail
        refine HP7.out.mono ?_
        rintro e w15 ⟨v15, rfl, hR, hb⟩
        have HT15 := Aside0.mk (HS14.out.turn hR hb)
        obtain ⟨A15, c15, rfl⟩ := Kd.R_slice hR
        clear hR hb HP7 HS14
        go_wp2
        go_loopw [12] (fun vi wr => ∃ j : Int, vi = .int .i64 j ∧ (k : Int) ≤ j ∧ j ≤ l.length ∧ Aside0 (St (ZB w gb pl (.slice A15 pl.length c15)) w wr ga (PS (l.take j.toNat)))) (fun i _ => l.length - (intOf i).toNat)
        case atStart => exact ⟨k, rfl, by omega, by omega, ⟨by rw [Int.toNat_natCast, ← HPa.out]; exact HT15.out⟩⟩
        case round =>
          clear HT15
          obtain ⟨j, rfl, hj0, hj1, HK⟩ := hrel
          by_cases hlt : j < l.length
          · obtain ⟨ad, A2, c2, rfl, d0, d1, d2, el, eC⟩ := at_T24 H3.out j (by omega) hlt
            have HSt := Aside0.mk (take_rP l j (by omega) hlt)
            obtain ⟨p, hp⟩ : ∃ p, p = rP l j := ⟨_, rfl⟩
            rw [← hp] at HSt
            rw [show rd_T24 l j = p from hp.symm] at d0 d1 d2 el eC
            have hb := HK.out.bel
            have e0 := (hb.cell (World.block_lt_of_cell? w _ d0)).trans d0
            have e1 := (hb.cell (World.block_lt_of_cell? w _ d1)).trans d1
            have e2 := (hb.cell (World.block_lt_of_cell? w _ d2)).trans d2
            have hlen : (PS (l.take j.toNat)).length ≤ 512 := (PS_good _).len
            have HP := Aside0.mk (HK.out.post (stp_ZB _ _ _ _) p A2 c2 hlen (Kd.C_below eC hb) el (HSh.out.below hb))
            have hj : 0 ≤ j := by omega
            clear hp hb d0 d1 d2 el eC hlen HK
            go_wp2_with fail
            refine HP.out.mono ?_
            rintro e w16 ⟨rfl, hO⟩
            have HO2 := Aside0.mk hO
            clear hO HP e0 e1 e2
            go_wp2
            go_roundw
            case rel => exact ⟨j + 1, by go_num, by omega, by omega, ⟨by rw [HSt.out, PS_snoc]; exact HO2.out⟩⟩
            case measure => simp [intOf]; omega
          · have hjl : j = l.length := by omega
            subst hjl
            have hS := HK.out
            rw [show l.take ((l.length : Nat) : Int).toNat = l by simp, ← HPl.out] at hS
            have HS := Aside0.mk hS
            obtain ⟨w16, rfl⟩ : ∃ x : World, x = wr := ⟨_, rfl⟩
            have HP8 := Aside0.mk (Postings_calls w16 ga pl HS.out.read HGl.out.sz)
            clear hS HK
            go_wp2_with fail
            refine HP8.out.mono ?_
            rintro e w17 ⟨v17, rfl, hR, hb⟩
            obtain ⟨A17, c17, rfl, hc17, hC17⟩ := Kd.R_reads hR
            have HS17 := Aside0.mk (HS.out.below (stp_ZB _ _ _ _) hb)
            obtain ⟨A15', c15', he, hc15, hC15⟩ := HS17.out.rv
            obtain ⟨rfl, rfl⟩ : A15 = A15' ∧ c15 = c15' := by injection he with h1 h2 h3; exact ⟨h1, h3⟩
            have HSm4 := Aside0.mk (Same_calls pl A17 c17 A15 c15 w17 hC17 hc17 hC15 hc15 HGl.out.sz)
            clear hR hb hC17 hC15 he HP8 HS
            go_wp2_with fail
            refine HSm4.out.mono ?_
            rintro e w18 ⟨rfl, hb⟩
            have HS18 := Aside0.mk (HS17.out.below (stp_ZB _ _ _ _) hb)
            have HP9 := Aside0.mk (Postings_calls w18 gb pl HS18.out.rb HGl.out.sz)
            clear hb HSm4 HS17
            go_wp2_with fail
            refine HP9.out.mono ?_
            rintro e w19 ⟨v19, rfl, hR, hb⟩
            obtain ⟨A19, c19, rfl, hc19, hC19⟩ := Kd.R_reads hR
            have HS19 := Aside0.mk (HS18.out.below (stp_ZB _ _ _ _) hb)
            obtain ⟨A15', c15', he, hc15, hC15⟩ := HS19.out.rv
            obtain ⟨rfl, rfl⟩ : A15 = A15' ∧ c15 = c15' := by injection he with h1 h2 h3; exact ⟨h1, h3⟩
            have HSm5 := Aside0.mk (Same_calls pl A19 c19 A15 c15 w19 hC19 hc19 hC15 hc15 HGl.out.sz)
            clear hR hb hC19 hC15 he HP9 HS18
            go_wp2_with fail
            refine HSm5.out.mono ?_
            rintro e w20 ⟨rfl, hb⟩
            have HB20 := Aside0.mk (HS19.out.below (stp_ZB _ _ _ _) hb).bel
            clear hb HSm5 HS19
            go_wp2_with fail
            refine (awake_calls w20 (HSh.out.below HB20.out)).mono ?_
            rintro e w21 ⟨rfl, hb⟩
            have HB21 := Aside0.mk (HB20.out.trans (hb.mono HB20.out.size))
            clear hb
            go_wp2
            go_ret
            exact ⟨rfl, HB21.out⟩
theorem LedgerCopies_row (w : World) (A : Option Addr) (c : Nat) (l : List Po) (hC : Kd.C kPo w A l.length l) (hc : l.length ≤ c) (n : Int) (hn : (Lit.int .u8 n).wf = true) (hsh : Sh w) :
    Calls Tryd.prog 7 #[.slice A l.length c, .int .u8 n] w fun e W => e = .returned (.bool true) ∧ Below w.heap.size w W := by
  have h2 : (decide (IntKind.u8.min ≤ n) && decide (n ≤ IntKind.u8.max)) = true := hn
  obtain ⟨ha, hb⟩ := Bool.and_eq_true_iff.1 h2
  have h : (0 : Int) ≤ n ∧ n ≤ 255 := ⟨of_decide_eq_true ha, of_decide_eq_true hb⟩
  exact LedgerCopies_walk l A c n h.1 h.2 w hc hC hsh
end Go.Proofs.YtpmbljigdghmiaaDoor.Led
