/- Ledgers: balances are sums of items up to a day. -/
import Derived.Test.YtpmbljigdghmiaaDoorLd8
namespace Go.Proofs.YtpmbljigdghmiaaDoor.Led
open Go.RowKit Go.Shelf Go.WideShapes Go.Proofs.YtpmbljigdghmiaaDoor.Ext Go.Proofs.YtpmbljigdghmiaaDoor.P Go.Proofs.YtpmbljigdghmiaaDoor.Idp Go.Proofs.YtpmbljigdghmiaaDoorW.PrintWords Go.Proofs.YtpmbljigdghmiaaDoorW.PrintLast Go.Proofs.YtpmbljigdghmiaaDoorW.PrintMore
/-- A ledger and its postings. -/
structure DyS (w W : World) (g : Nat) (ps : List Po) (Ap : Option Addr) : Prop where mk ::
  (own : Own w W g ps) (rows : Kd.C kPo W Ap ps.length ps)
theorem DyS.below {w W W' : World} {g : Nat} {ps : List Po} {Ap : Option Addr} (h : DyS w W g ps Ap) (hb : Below W.heap.size W W') : DyS w W' g ps Ap := ⟨h.own.below hb, Kd.C_below h.rows hb⟩
theorem Good.id_ne {ps : List Po} (h : Good ps) (k i : Int) (h0 : 0 ≤ k) (h1 : k < i) (h2 : i < ps.length) : (rP ps k).f0 ≠ (rP ps i).f0 := by
  have e : ∀ j : Int, 0 ≤ j → (hj : j < ps.length) → rP ps j = ps[j.toNat]'(by omega) := fun j _ hj => by
    unfold rP rd_T24
    rw [List.getD_eq_getElem?_getD, List.getElem?_eq_getElem (by omega)]; rfl
  rw [e k h0 (by omega), e i (by omega) h2]
  exact List.pairwise_iff_getElem.1 h.ids k.toNat i.toNat (by omega) (by omega) (by omega)
theorem Good.day_le {ps : List Po} (h : Good ps) (k i : Int) (h0 : 0 ≤ k) (h1 : k < i) (h2 : i < ps.length) : (rP ps k).f1 ≤ (rP ps i).f1 := by
  have e : ∀ j : Int, 0 ≤ j → (hj : j < ps.length) → rP ps j = ps[j.toNat]'(by omega) := fun j _ hj => by
    unfold rP rd_T24
    rw [List.getD_eq_getElem?_getD, List.getElem?_eq_getElem (by omega)]; rfl
  rw [e k h0 (by omega), e i (by omega) h2]
  exact List.pairwise_iff_getElem.1 h.days k.toNat i.toNat (by omega) (by omega) (by omega)
set_option maxHeartbeats 8000000 in
set_option maxRecDepth 100000 in
theorem LedgerDays_walk (l : List Po) (A : Option Addr) (c : Nat) (acct : ByteArray) (day : Int) (w : World) (hc : l.length ≤ c) (hC : Kd.C kPo w A l.length l) (hsh : Sh w) :
    Calls Tryd.prog 6 #[.slice A l.length c, .string acct, .int .i64 day] w fun e W => e = .returned (.bool true) ∧ Below w.heap.size w W := by
  have HLi := Aside0.mk (Light_calls l A c w hC hc)
  have HSh := Aside0.mk hsh
  have H3 := Aside0.mk hC
  have hu1 := Tryd.underlying24
  have hu2 := Tryd.underlying38
  clear hC hsh
  go_enter Tryd.func6, Tryd.ntmps6
  cases hs : decide ((l.length : Int) ≤ 40) && small l 20 with
  | false =>
    rw [hs] at HLi
    clear hs
    go_wp2_with fail
    refine HLi.out.mono ?_
    rintro e w1 ⟨rfl, hb⟩
    have HB1 := Aside0.mk hb
    clear hb
    go_wp2_with fail
    refine (awake_calls w1 (HSh.out.below HB1.out)).mono ?_
    rintro e w2 ⟨rfl, hb⟩
    have HB2 := Aside0.mk (HB1.out.trans (hb.mono HB1.out.size))
    clear hb
    go_wp2
    go_ret
    exact ⟨rfl, HB2.out⟩
  | true =>
    rw [hs] at HLi
    have h40 : l.length ≤ 40 := by
      rw [Bool.and_eq_true] at hs
      have := of_decide_eq_true hs.1
      omega
    clear hs
    obtain ⟨ps, hps⟩ : ∃ ps, ps = PS l := ⟨_, rfl⟩
    have HG := Aside0.mk (show Good ps by rw [hps]; exact PS_good l)
    have hpl : ps.length ≤ 512 := HG.out.len
    have HPs := Aside0.mk hps
    clear hps
    go_wp2_with fail
    refine HLi.out.mono ?_
    rintro e w1 ⟨rfl, hb⟩
    have HPo := Aside0.mk (posted_own w w1 l A c hb H3.out (by omega) HSh.out)
    clear hb HLi
    go_wp2_with fail
    refine HPo.out.mono ?_
    rintro e w2 ⟨g, rfl, hO⟩
    rw [← HPs.out] at hO
    have HO := Aside0.mk hO
    have HPp := Aside0.mk (Postings_calls w2 g ps HO.out.read HG.out.sz)
    clear hO HPo
    go_wp2_with fail
    refine HPp.out.mono ?_
    rintro e w3 ⟨v, rfl, hR, hb⟩
    obtain ⟨Ap, cp, rfl, hcp, hCp⟩ := Kd.R_reads hR
    have HD := Aside0.mk (DyS.mk (HO.out.below hb) hCp)
    clear hR hb hCp HPp HO
    go_wp2
    go_loopw [9, 10, 11] (fun vs vt vi wr => ∃ k : Int, vi = .int .i64 k ∧ 0 ≤ k ∧ k ≤ ps.length ∧ vs = .int .i64 (tot (ps.take k.toNat) acct 65536) ∧ vt = .int .i64 (tot (ps.take k.toNat) acct day) ∧ Aside0 (DyS w wr g ps Ap)) (fun _ _ i _ => ps.length - (intOf i).toNat)
    case atStart => exact ⟨0, rfl, by omega, by omega, rfl, rfl, HD⟩
    case round =>
      clear HD
      obtain ⟨k, rfl, hk0, hk1, rfl, rfl, HK⟩ := hrel
      obtain ⟨wo, rfl⟩ : ∃ wo : World, wo = wr := ⟨_, rfl⟩
      by_cases hlt : k < ps.length
      · obtain ⟨ad, A2, c2, rfl, d0, d1, d2, el, eC⟩ := at_T24 HK.out.rows k hk0 hlt
        have hyes := evs_yes ps 65536 k hk0 hlt
        have hye2 := evs_yes ps day k hk0 hlt
        have hno2 := evs_no ps day k hk0 hlt
        have hchk := HG.out.chk (rP ps k) (rP_mem ps k hk0 hlt)
        have hdm := HG.out.days_le (rP ps k) (rP_mem ps k hk0 hlt)
        obtain ⟨p, hp⟩ : ∃ p, p = rP ps k := ⟨_, rfl⟩
        rw [show rd_T24 ps k = p from hp.symm] at d0 d1 d2 el eC
        rw [← hp] at hyes hye2 hno2 hchk hdm
        have HP := Aside0.mk hp
        have HYes := Aside0.mk (hyes (by omega))
        have HYe2 := Aside0.mk hye2
        have HNo2 := Aside0.mk hno2
        have HC := Aside0.mk eC
        have HCk : Aside0 (∀ W, Below wo.heap.size wo W → Calls Tryd.prog 11 #[.agg #[.int .i64 p.f0, .int .i64 p.f1, .slice A2 p.f2.length c2]] W fun e W' => e = .returned (.int .i64 0) ∧ Below wo.heap.size wo W') := ⟨fun W hb => (Check_calls p A2 c2 W (Kd.C_below eC hb) el (((HSh.out.below HK.out.own.bel)).below hb)).mono (by
          rintro e W' ⟨rfl, h⟩
          exact ⟨by rw [hchk], hb.trans (h.mono hb.size)⟩)⟩
        clear hp hyes hye2 hno2 hchk eC
        go_upto_region 11 with (fail)
        go_cut [53] (fun v wx => v = .bool false ∧ Aside0 (Below wo.heap.size wo wx))
        case first =>
          by_cases hz : 0 < k
          · obtain ⟨m, hm⟩ : ∃ m : Int, m = k - 1 := ⟨_, rfl⟩
            have hdl := HG.out.day_le m k (by omega) (by omega) hlt
            have hw1 : IntKind.i64.wrap (k - 1) = m := by rw [hm]; exact Go.IntWalk.i64_in _ (by omega)
            have hm0 : 0 ≤ m := by omega
            have hm1 : m < ps.length := by omega
            have hz1 : decide (0 < k) = true := decide_eq_true hz
            obtain ⟨ad', A3, c3, had, -, f1, -, -, -⟩ := at_T24 HK.out.rows m hm0 hm1
            obtain rfl := Option.some.inj had
            rw [← HP.out] at hdl
            obtain ⟨q1, hq1⟩ : ∃ q1, q1 = (rP ps m).f1 := ⟨_, rfl⟩
            rw [show (rd_T24 ps m).f1 = q1 from hq1.symm] at f1
            rw [← hq1] at hdl
            have hlq : decide (p.f1 < q1) = false := decide_eq_false (by omega)
            have five : Aside0 (∀ W', Below wo.heap.size wo W' → W'.cell? (ad.add (k.toNat * 3)) = some (.int .i64 p.f0) ∧ W'.cell? ⟨(ad.add (k.toNat * 3)).block, (ad.add (k.toNat * 3)).off + 1, none⟩ = some (.int .i64 p.f1) ∧ W'.cell? ⟨(ad.add (k.toNat * 3)).block, (ad.add (k.toNat * 3)).off + 2, none⟩ = some (.slice A2 p.f2.length c2) ∧ W'.cell? ⟨(ad.add (m.toNat * 3)).block, (ad.add (m.toNat * 3)).off + 1, none⟩ = some (.int .i64 q1)) :=
              ⟨fun W' hb => ⟨pw_cell_below hb d0, pw_cell_below hb d1, pw_cell_below hb d2, pw_cell_below hb f1⟩⟩
            clear hq1 hdl hm hz
            go_region_held3 (fun W' => W'.cell? (ad.add (k.toNat * 3)) = some (.int .i64 p.f0) ∧ W'.cell? ⟨(ad.add (k.toNat * 3)).block, (ad.add (k.toNat * 3)).off + 1, none⟩ = some (.int .i64 p.f1) ∧ W'.cell? ⟨(ad.add (k.toNat * 3)).block, (ad.add (k.toNat * 3)).off + 2, none⟩ = some (.slice A2 p.f2.length c2) ∧ W'.cell? ⟨(ad.add (m.toNat * 3)).block, (ad.add (m.toNat * 3)).off + 1, none⟩ = some (.int .i64 q1))
              ((exact five.out _ (by repeat (first | (with_reducible first | exact hBX | exact Below.refl _ _ | apply below_alloc | apply below_drew1) | exact Below.refl _ _))))
              (first
                | (go_at_call 11; have h_ := HCk.out wo.drew (below_drew1 (Below.refl _ _)); (with_reducible refine h_.mono ?_); clear h_; rintro e v1 ⟨rfl, hBX⟩))
            all_goals
              go_wp2_with fail
              go_meet
              exact ⟨rfl, ⟨hBX⟩⟩
          · have hz1 : decide (0 < k) = false := decide_eq_false hz
            have three : Aside0 (∀ W', Below wo.heap.size wo W' → W'.cell? (ad.add (k.toNat * 3)) = some (.int .i64 p.f0) ∧ W'.cell? ⟨(ad.add (k.toNat * 3)).block, (ad.add (k.toNat * 3)).off + 1, none⟩ = some (.int .i64 p.f1) ∧ W'.cell? ⟨(ad.add (k.toNat * 3)).block, (ad.add (k.toNat * 3)).off + 2, none⟩ = some (.slice A2 p.f2.length c2)) := ⟨fun W' hb => ⟨pw_cell_below hb d0, pw_cell_below hb d1, pw_cell_below hb d2⟩⟩
            clear hz
            refine wp_region_held_drew (S := fun W' => W'.cell? (ad.add (k.toNat * 3)) = some (.int .i64 p.f0) ∧ W'.cell? ⟨(ad.add (k.toNat * 3)).block, (ad.add (k.toNat * 3)).off + 1, none⟩ = some (.int .i64 p.f1) ∧ W'.cell? ⟨(ad.add (k.toNat * 3)).block, (ad.add (k.toNat * 3)).off + 2, none⟩ = some (.slice A2 p.f2.length c2)) (by kernel_rfl) (three.out _ (below_drew1 (Below.refl _ _))) (fun hHeld => ?_)
            refine wpAnyH_take (i := 0) (oi := { dst := some 30, op := Op.move (Operand.tmp 11), type := 3, pos := "law.go:111", after := #[], guard := none }) (v := .int .i64 k) rfl (by kernel_rfl) (by kernel_rfl) (by kernel_rfl) (fun _ _ _ h => h) (Or.inl ⟨by rfl, ?_⟩) (by assumption) ?_
            · (intro w hSw; (try dsimp only at hSw); go_simp) <;> with_reducible rfl
            simp only [Act.put, List.setIfInBounds_toArray, List.set_cons_zero, List.set_cons_succ]
            refine wpAnyH_take (i := 1) (oi := { dst := some 31, op := Op.binOp BinOp.gtr 3 (Operand.tmp 30) (Operand.const (Value.int IntKind.i64 0)) 3, type := 4, pos := "law.go:111", after := #[{ on := 0, ground := Ground.data }], guard := none }) (v := .bool false) rfl (by kernel_rfl) (by kernel_rfl) (by kernel_rfl) (fun _ _ _ h => h) (Or.inl ⟨by rfl, ?_⟩) (by assumption) ?_
            · (intro w hSw; (try dsimp only at hSw); go_simp) <;> with_reducible rfl
            simp only [Act.put, List.setIfInBounds_toArray, List.set_cons_zero, List.set_cons_succ]
            refine wpAnyH_take (i := 2) (oi := { dst := some 32, op := Op.move (Operand.tmp 31), type := 4, pos := "law.go:111", after := #[{ on := 1, ground := Ground.data }], guard := none }) (v := .bool false) rfl (by kernel_rfl) (by kernel_rfl) (by kernel_rfl) (fun _ _ _ h => h) (Or.inl ⟨by rfl, ?_⟩) (by assumption) ?_
            · (intro w hSw; (try dsimp only at hSw); go_simp) <;> with_reducible rfl
            simp only [Act.put, List.setIfInBounds_toArray, List.set_cons_zero, List.set_cons_succ]
            refine wpAnyH_take (i := 3) (oi := { dst := some 33, op := Op.move (Operand.tmp 8), type := 26, pos := "law.go:111", after := #[{ on := 2, ground := Ground.guard }], guard := some (2, true) }) (v := undef) rfl (by kernel_rfl) (by kernel_rfl) (by kernel_rfl) (fun _ _ _ h => h) (Or.inr ⟨by rfl, rfl⟩) (by assumption) ?_
            simp only [Act.put, List.setIfInBounds_toArray, List.set_cons_zero, List.set_cons_succ]
            refine wpAnyH_take (i := 4) (oi := { dst := some 34, op := Op.move (Operand.tmp 11), type := 3, pos := "law.go:111", after := #[{ on := 2, ground := Ground.guard }], guard := some (2, true) }) (v := undef) rfl (by kernel_rfl) (by kernel_rfl) (by kernel_rfl) (fun _ _ _ h => h) (Or.inr ⟨by rfl, rfl⟩) (by assumption) ?_
            simp only [Act.put, List.setIfInBounds_toArray, List.set_cons_zero, List.set_cons_succ]
            refine wpAnyH_take (i := 5) (oi := { dst := some 35, op := Op.indexAddr 26 (Operand.tmp 33) (Operand.tmp 34), type := 0, pos := "law.go:111", after := #[{ on := 3, ground := Ground.data }, { on := 4, ground := Ground.data }, { on := 2, ground := Ground.guard }], guard := some (2, true) }) (v := undef) rfl (by kernel_rfl) (by kernel_rfl) (by kernel_rfl) (fun _ _ _ h => h) (Or.inr ⟨by rfl, rfl⟩) (by assumption) ?_
            simp only [Act.put, List.setIfInBounds_toArray, List.set_cons_zero, List.set_cons_succ]
            refine wpAnyH_take (i := 6) (oi := { dst := some 36, op := Op.fieldAddr 24 (Operand.tmp 35) 1, type := 0, pos := "law.go:111", after := #[{ on := 5, ground := Ground.data }, { on := 2, ground := Ground.guard }], guard := some (2, true) }) (v := undef) rfl (by kernel_rfl) (by kernel_rfl) (by kernel_rfl) (fun _ _ _ h => h) (Or.inr ⟨by rfl, rfl⟩) (by assumption) ?_
            simp only [Act.put, List.setIfInBounds_toArray, List.set_cons_zero, List.set_cons_succ]
            refine wpAnyH_take (i := 7) (oi := { dst := some 37, op := Op.load 3 (Operand.tmp 36), type := 3, pos := "law.go:111", after := #[{ on := 6, ground := Ground.data }, { on := 2, ground := Ground.guard }], guard := some (2, true) }) (v := undef) rfl (by kernel_rfl) (by kernel_rfl) (by kernel_rfl) (fun _ _ _ h => h) (Or.inr ⟨by rfl, rfl⟩) (by assumption) ?_
            simp only [Act.put, List.setIfInBounds_toArray, List.set_cons_zero, List.set_cons_succ]
            refine wpAnyH_take (i := 8) (oi := { dst := some 38, op := Op.move (Operand.tmp 8), type := 26, pos := "law.go:111", after := #[{ on := 2, ground := Ground.guard }], guard := some (2, true) }) (v := undef) rfl (by kernel_rfl) (by kernel_rfl) (by kernel_rfl) (fun _ _ _ h => h) (Or.inr ⟨by rfl, rfl⟩) (by assumption) ?_
            simp only [Act.put, List.setIfInBounds_toArray, List.set_cons_zero, List.set_cons_succ]
            refine wpAnyH_take (i := 9) (oi := { dst := some 39, op := Op.move (Operand.tmp 11), type := 3, pos := "law.go:111", after := #[{ on := 2, ground := Ground.guard }], guard := some (2, true) }) (v := undef) rfl (by kernel_rfl) (by kernel_rfl) (by kernel_rfl) (fun _ _ _ h => h) (Or.inr ⟨by rfl, rfl⟩) (by assumption) ?_
            simp only [Act.put, List.setIfInBounds_toArray, List.set_cons_zero, List.set_cons_succ]
            refine wpAnyH_take (i := 10) (oi := { dst := some 40, op := Op.binOp BinOp.sub 3 (Operand.tmp 39) (Operand.const (Value.int IntKind.i64 1)) 3, type := 3, pos := "law.go:111", after := #[{ on := 9, ground := Ground.data }, { on := 2, ground := Ground.guard }], guard := some (2, true) }) (v := undef) rfl (by kernel_rfl) (by kernel_rfl) (by kernel_rfl) (fun _ _ _ h => h) (Or.inr ⟨by rfl, rfl⟩) (by assumption) ?_
            simp only [Act.put, List.setIfInBounds_toArray, List.set_cons_zero, List.set_cons_succ]
            refine wpAnyH_take (i := 11) (oi := { dst := some 41, op := Op.indexAddr 26 (Operand.tmp 38) (Operand.tmp 40), type := 0, pos := "law.go:111", after := #[{ on := 8, ground := Ground.data }, { on := 10, ground := Ground.data }, { on := 2, ground := Ground.guard }], guard := some (2, true) }) (v := undef) rfl (by kernel_rfl) (by kernel_rfl) (by kernel_rfl) (fun _ _ _ h => h) (Or.inr ⟨by rfl, rfl⟩) (by assumption) ?_
            simp only [Act.put, List.setIfInBounds_toArray, List.set_cons_zero, List.set_cons_succ]
            refine wpAnyH_take (i := 12) (oi := { dst := some 42, op := Op.fieldAddr 24 (Operand.tmp 41) 1, type := 0, pos := "law.go:111", after := #[{ on := 11, ground := Ground.data }, { on := 2, ground := Ground.guard }], guard := some (2, true) }) (v := undef) rfl (by kernel_rfl) (by kernel_rfl) (by kernel_rfl) (fun _ _ _ h => h) (Or.inr ⟨by rfl, rfl⟩) (by assumption) ?_
            simp only [Act.put, List.setIfInBounds_toArray, List.set_cons_zero, List.set_cons_succ]
            refine wpAnyH_take (i := 13) (oi := { dst := some 43, op := Op.load 3 (Operand.tmp 42), type := 3, pos := "law.go:111", after := #[{ on := 12, ground := Ground.data }, { on := 2, ground := Ground.guard }], guard := some (2, true) }) (v := undef) rfl (by kernel_rfl) (by kernel_rfl) (by kernel_rfl) (fun _ _ _ h => h) (Or.inr ⟨by rfl, rfl⟩) (by assumption) ?_
            simp only [Act.put, List.setIfInBounds_toArray, List.set_cons_zero, List.set_cons_succ]
            refine wpAnyH_take (i := 14) (oi := { dst := some 44, op := Op.binOp BinOp.lss 3 (Operand.tmp 37) (Operand.tmp 43) 3, type := 4, pos := "law.go:111", after := #[{ on := 7, ground := Ground.data }, { on := 13, ground := Ground.data }, { on := 2, ground := Ground.guard }], guard := some (2, true) }) (v := undef) rfl (by kernel_rfl) (by kernel_rfl) (by kernel_rfl) (fun _ _ _ h => h) (Or.inr ⟨by rfl, rfl⟩) (by assumption) ?_
            simp only [Act.put, List.setIfInBounds_toArray, List.set_cons_zero, List.set_cons_succ]
            refine wpAnyH_take (i := 15) (oi := { dst := some 45, op := Op.pick (Operand.tmp 32) (Operand.tmp 44) (Operand.const (Value.bool false)), type := 4, pos := "law.go:111", after := #[{ on := 2, ground := Ground.data }, { on := 14, ground := Ground.data }], guard := none }) (v := .bool false) rfl (by kernel_rfl) (by kernel_rfl) (by kernel_rfl) (fun _ _ _ h => h) (Or.inl ⟨by rfl, ?_⟩) (by assumption) ?_
            · (intro w hSw; (try dsimp only at hSw); go_simp) <;> with_reducible rfl
            simp only [Act.put, List.setIfInBounds_toArray, List.set_cons_zero, List.set_cons_succ]
            refine wpAnyH_take (i := 16) (oi := { dst := some 46, op := Op.move (Operand.tmp 45), type := 4, pos := "law.go:111", after := #[{ on := 15, ground := Ground.data }, { on := 2, ground := Ground.chain }], guard := none }) (v := .bool false) rfl (by kernel_rfl) (by kernel_rfl) (by kernel_rfl) (fun _ _ _ h => h) (Or.inl ⟨by rfl, ?_⟩) (by assumption) ?_
            · (intro w hSw; (try dsimp only at hSw); go_simp) <;> with_reducible rfl
            simp only [Act.put, List.setIfInBounds_toArray, List.set_cons_zero, List.set_cons_succ]
            refine wpAnyH_take (i := 17) (oi := { dst := some 47, op := Op.move (Operand.tmp 8), type := 26, pos := "law.go:111", after := #[{ on := 16, ground := Ground.guard }], guard := some (16, false) }) (v := .slice (some ad) ps.length cp) rfl (by kernel_rfl) (by kernel_rfl) (by kernel_rfl) (fun _ _ _ h => h) (Or.inl ⟨by rfl, ?_⟩) (by assumption) ?_
            · (intro w hSw; (try dsimp only at hSw); go_simp) <;> with_reducible rfl
            simp only [Act.put, List.setIfInBounds_toArray, List.set_cons_zero, List.set_cons_succ]
            refine wpAnyH_take (i := 18) (oi := { dst := some 48, op := Op.move (Operand.tmp 11), type := 3, pos := "law.go:111", after := #[{ on := 16, ground := Ground.guard }], guard := some (16, false) }) (v := .int .i64 k) rfl (by kernel_rfl) (by kernel_rfl) (by kernel_rfl) (fun _ _ _ h => h) (Or.inl ⟨by rfl, ?_⟩) (by assumption) ?_
            · (intro w hSw; (try dsimp only at hSw); go_simp) <;> with_reducible rfl
            simp only [Act.put, List.setIfInBounds_toArray, List.set_cons_zero, List.set_cons_succ]
            refine wpAnyH_take (i := 19) (oi := { dst := some 49, op := Op.indexAddr 26 (Operand.tmp 47) (Operand.tmp 48), type := 0, pos := "law.go:111", after := #[{ on := 17, ground := Ground.data }, { on := 18, ground := Ground.data }, { on := 16, ground := Ground.guard }], guard := some (16, false) }) (v := .pointer (some (ad.add (k.toNat * 3)))) rfl (by kernel_rfl) (by kernel_rfl) (by kernel_rfl) (fun _ _ _ h => h) (Or.inl ⟨by rfl, ?_⟩) (by assumption) ?_
            · (intro w hSw; (try dsimp only at hSw); go_simp) <;> with_reducible rfl
            simp only [Act.put, List.setIfInBounds_toArray, List.set_cons_zero, List.set_cons_succ]
            refine wpAnyH_take (i := 20) (oi := { dst := some 50, op := Op.load 24 (Operand.tmp 49), type := 24, pos := "law.go:111", after := #[{ on := 19, ground := Ground.data }, { on := 16, ground := Ground.guard }], guard := some (16, false) }) (v := .agg #[.int .i64 p.f0, .int .i64 p.f1, .slice A2 p.f2.length c2]) rfl (by kernel_rfl) (by kernel_rfl) (by kernel_rfl) (fun _ _ _ h => h) (Or.inl ⟨by rfl, ?_⟩) (by assumption) ?_
            · (intro w hSw; (try dsimp only at hSw); go_simp) <;> with_reducible rfl
            simp only [Act.put, List.setIfInBounds_toArray, List.set_cons_zero, List.set_cons_succ]
            refine wpAnyH_ready (rs := [21]) (by kernel_rfl) (by simp) ?_
            refine AllReadyH.cons (o := { dst := some 51, op := Op.call { callee := Callee.value (Operand.func 11), args := #[Operand.tmp 50], argTypes := #[24] }, type := 27, pos := "law.go:111", after := #[{ on := 20, ground := Ground.data }, { on := 16, ground := Ground.chain }, { on := 16, ground := Ground.guard }], guard := some (16, false) }) rfl (fun K hK => ?_) AllReadyH.nil
            go_simp
            go_at_call 11
            refine (HCk.out wo.drew (below_drew1 (Below.refl _ _))).mono ?_
            rintro e v1 ⟨rfl, hBX⟩
            refine hK.out _ _ (three.out _ hBX) (fun hHeld => ?_)
            clear hK K
            try simp only [Act.put, List.setIfInBounds_toArray, List.set_cons_zero, List.set_cons_succ]
            refine wpAnyH_take (i := 22) (oi := { dst := some 52, op := Op.binOp BinOp.neq 27 (Operand.tmp 51) (Operand.const (Value.int IntKind.i64 0)) 27, type := 4, pos := "law.go:111", after := #[{ on := 21, ground := Ground.data }, { on := 16, ground := Ground.guard }], guard := some (16, false) }) (v := .bool false) rfl (by kernel_rfl) (by kernel_rfl) (by kernel_rfl) (fun _ _ _ h => h) (Or.inl ⟨by rfl, ?_⟩) (by assumption) ?_
            · (intro w hSw; (try dsimp only at hSw); go_simp) <;> with_reducible rfl
            simp only [Act.put, List.setIfInBounds_toArray, List.set_cons_zero, List.set_cons_succ]
            refine wpAnyH_take (i := 23) (oi := { dst := some 53, op := Op.pick (Operand.tmp 46) (Operand.const (Value.bool true)) (Operand.tmp 52), type := 4, pos := "law.go:111", after := #[{ on := 16, ground := Ground.data }, { on := 22, ground := Ground.data }], guard := none }) (v := .bool false) rfl (by kernel_rfl) (by kernel_rfl) (by kernel_rfl) (fun _ _ _ h => h) (Or.inl ⟨by rfl, ?_⟩) (by assumption) ?_
            · (intro w hSw; (try dsimp only at hSw); go_simp) <;> with_reducible rfl
            simp only [Act.put, List.setIfInBounds_toArray, List.set_cons_zero, List.set_cons_succ]
            refine wpAnyH_done (by kernel_rfl) ?_ _
            go_wp2_with fail
            go_meet
            exact ⟨rfl, ⟨hBX⟩⟩
        case rest =>
          obtain ⟨rfl, HBx⟩ := hcut
          have HK5 := Aside0.mk (HK.out.below HBx.out)
          clear d0 d1 d2 HBx
          go_wp2
          go_loopw [12] (fun vj wr => ∃ j : Int, vj = .int .i64 j ∧ 0 ≤ j ∧ j ≤ k ∧ Aside0 (DyS w wr g ps (some ad))) (fun vj _ => k.toNat - (intOf vj).toNat)
          case atStart => exact ⟨0, rfl, by omega, by omega, HK5⟩
          case round =>
            clear HK5
            obtain ⟨j, rfl, hj0, hj1, HJ⟩ := hrel
            by_cases hlj : j < k
            · obtain ⟨ad', A4, c4, had, f0, -⟩ := at_T24 HJ.out.rows j hj0 (by omega)
              obtain rfl := Option.some.inj had
              obtain ⟨ad'', A5, c5, had, g0, -⟩ := at_T24 HJ.out.rows k hk0 hlt
              obtain rfl := Option.some.inj had
              have hne := HG.out.id_ne j k hj0 hlj hlt
              rw [← HP.out] at hne
              rw [show rd_T24 ps k = p from HP.out.symm] at g0
              obtain ⟨q, hq⟩ : ∃ q, q = rP ps j := ⟨_, rfl⟩
              rw [← hq] at hne
              rw [show rd_T24 ps j = q from hq.symm] at f0
              have hqp : (q.f0 == p.f0) = false := beq_eq_false_iff_ne.mpr hne
              clear hne hq had
              go_wp2_with fail
              go_quiet (fail)
              go_wp2
              go_roundw
              case rel => exact ⟨j + 1, by go_num, by omega, by omega, ⟨HJ.out.below (pw_below_drewN (Below.refl _ _) _)⟩⟩
              case measure => simp [intOf]; omega
            · obtain rfl : j = k := by omega
              obtain ⟨ad', A6, c6, had, -, g1, g2, gl, gC⟩ := at_T24 HJ.out.rows j hk0 hlt
              obtain rfl := Option.some.inj had
              rw [show rd_T24 ps j = p from HP.out.symm] at g1 g2 gl gC
              have HgC := Aside0.mk gC
              have hmi := gC.2.1
              obtain ⟨E1, hE1⟩ : ∃ E1, evs (ps.take j.toNat) 65536 = E1 := ⟨_, rfl⟩
              obtain ⟨E2, hE2⟩ : ∃ E2, evs (ps.take j.toNat) day = E2 := ⟨_, rfl⟩
              have HE1 := Aside0.mk hE1
              have HE2 := Aside0.mk hE2
              clear gC had hE1 hE2
              by_cases hd : p.f1 ≤ day
              · have hd2 : decide (p.f1 ≤ day) = true := decide_eq_true hd
                have HD := Aside0.mk hd
                clear hd
                go_wp2
                go_loop [9, 10, 13] (fun vs vt vj => ∃ i : Int, vj = .int .i64 i ∧ 0 ≤ i ∧ i ≤ p.f2.length ∧ vs = .int .i64 ((E1 ++ p.f2.take i.toNat).foldl (add1 acct) 0) ∧ vt = .int .i64 ((E2 ++ p.f2.take i.toNat).foldl (add1 acct) 0)) (fun _ _ vj => p.f2.length - (intOf vj).toNat)
                case atStart => exact ⟨0, rfl, by omega, by omega, by rw [show (0 : Int).toNat = 0 from rfl, List.take_zero, List.append_nil, ← HE1.out]; rfl, by rw [show (0 : Int).toNat = 0 from rfl, List.take_zero, List.append_nil, ← HE2.out]; rfl⟩
                case round =>
                  obtain ⟨i, rfl, hi0, hi1, rfl, rfl⟩ := hrel
                  by_cases hli : i < p.f2.length
                  · obtain ⟨ai, rfl, x0, x1⟩ := at_T38 HgC.out i hi0 hli
                    have HSt := Aside0.mk (take_rI p.f2 i hi0 hli)
                    obtain ⟨x, hx⟩ : ∃ x, x = rI p.f2 i := ⟨_, rfl⟩
                    rw [show rd_T38 p.f2 i = x from hx.symm] at x0 x1
                    rw [← hx] at HSt
                    clear hx
                    by_cases hn : x.f0 = acct
                    · have hn' : (x.f0.toList == acct.toList) = true := by rw [hn]; simp
                      have HN := Aside0.mk hn
                      clear hn
                      go_wp2
                      go_round
                      case rel => exact ⟨i + 1, by go_num, by omega, by omega, by rw [HSt.out, ← List.append_assoc, List.foldl_append (l' := [x])]; simp [add1, HN.out], by rw [HSt.out, ← List.append_assoc, List.foldl_append (l' := [x])]; simp [add1, HN.out]⟩
                      case measure => simp [intOf]; omega
                    · have hn' := bytes_ne hn
                      have HN := Aside0.mk hn
                      clear hn
                      go_wp2
                      go_round
                      case rel => exact ⟨i + 1, by go_num, by omega, by omega, by rw [HSt.out, ← List.append_assoc, List.foldl_append (l' := [x])]; simp [add1, HN.out], by rw [HSt.out, ← List.append_assoc, List.foldl_append (l' := [x])]; simp [add1, HN.out]⟩
                      case measure => simp [intOf]; omega
                  · have hil : i = p.f2.length := by omega
                    subst hil
                    go_wp2
                    go_roundw
                    case rel =>
                      refine ⟨j + 1, by go_num, by omega, by omega, ?_, ?_, HJ⟩
                      · rw [tot, HYes.out, HE1.out]; simp
                      · rw [tot, HYe2.out (by have := HD.out; omega), HE2.out]; simp
                    case measure => simp [intOf]; omega
              · have hd2 : decide (p.f1 ≤ day) = false := decide_eq_false hd
                have HD := Aside0.mk hd
                clear hd
                go_wp2
                go_loop [9, 10, 13] (fun vs vt vj => ∃ i : Int, vj = .int .i64 i ∧ 0 ≤ i ∧ i ≤ p.f2.length ∧ vs = .int .i64 ((E1 ++ p.f2.take i.toNat).foldl (add1 acct) 0) ∧ vt = .int .i64 (E2.foldl (add1 acct) 0)) (fun _ _ vj => p.f2.length - (intOf vj).toNat)
                case atStart => exact ⟨0, rfl, by omega, by omega, by rw [show (0 : Int).toNat = 0 from rfl, List.take_zero, List.append_nil, ← HE1.out]; rfl, by rw [← HE2.out]; rfl⟩
                case round =>
                  obtain ⟨i, rfl, hi0, hi1, rfl, rfl⟩ := hrel
                  by_cases hli : i < p.f2.length
                  · obtain ⟨ai, rfl, x0, x1⟩ := at_T38 HgC.out i hi0 hli
                    have HSt := Aside0.mk (take_rI p.f2 i hi0 hli)
                    obtain ⟨x, hx⟩ : ∃ x, x = rI p.f2 i := ⟨_, rfl⟩
                    rw [show rd_T38 p.f2 i = x from hx.symm] at x0 x1
                    rw [← hx] at HSt
                    clear hx
                    by_cases hn : x.f0 = acct
                    · have hn' : (x.f0.toList == acct.toList) = true := by rw [hn]; simp
                      have HN := Aside0.mk hn
                      clear hn
                      go_wp2
                      go_round
                      case rel => exact ⟨i + 1, by go_num, by omega, by omega, by rw [HSt.out, ← List.append_assoc, List.foldl_append (l' := [x])]; simp [add1, HN.out], rfl⟩
                      case measure => simp [intOf]; omega
                    · have hn' := bytes_ne hn
                      have HN := Aside0.mk hn
                      clear hn
                      go_wp2
                      go_round
                      case rel => exact ⟨i + 1, by go_num, by omega, by omega, by rw [HSt.out, ← List.append_assoc, List.foldl_append (l' := [x])]; simp [add1, HN.out], rfl⟩
                      case measure => simp [intOf]; omega
                  · have hil : i = p.f2.length := by omega
                    subst hil
                    go_wp2
                    go_roundw
                    case rel =>
                      refine ⟨j + 1, by go_num, by omega, by omega, ?_, ?_, HJ⟩
                      · rw [tot, HYes.out, HE1.out]; simp
                      · rw [tot, HNo2.out (by have := HD.out; omega), HE2.out]
                    case measure => simp [intOf]; omega
      · have hkl : k = ps.length := by omega
        subst hkl
        rw [show ps.take ((ps.length : Nat) : Int).toNat = ps by simp]
        have HB1 := Aside0.mk (Bal_calls wo g ps acct HK.out.own.read)
        go_wp2_with fail
        refine HB1.out.mono ?_
        rintro e w4 ⟨rfl, hb⟩
        have HK4 := Aside0.mk (HK.out.below hb)
        have HB2 := Aside0.mk (On_calls w4 g ps acct day HK4.out.own.read)
        clear hb HB1 HK
        go_wp2_with fail
        refine HB2.out.mono ?_
        rintro e w5 ⟨rfl, hb⟩
        have HK5 := Aside0.mk (HK4.out.below hb)
        have HB3 := Aside0.mk (On_calls w5 g ps acct 65536 HK5.out.own.read)
        clear hb HB2 HK4
        go_wp2_with fail
        refine HB3.out.mono ?_
        rintro e w6 ⟨rfl, hb⟩
        have HK6 := Aside0.mk (HK5.out.below hb)
        have hz : tot ps acct (-1) = 0 := by unfold tot; rw [evs_before HG.out (-1) (by omega)]; rfl
        have HB4 := Aside0.mk (On_calls w6 g ps acct (-1) HK6.out.own.read)
        rw [hz] at HB4
        clear hb HB3 HK5 hz
        go_wp2_with fail
        refine HB4.out.mono ?_
        rintro e w7 ⟨rfl, hb⟩
        have HK7 := Aside0.mk (HK6.out.below hb)
        clear hb HB4 HK6
        go_wp2_with fail
        refine (awake_calls w7 (HSh.out.below HK7.out.own.bel)).mono ?_
        rintro e w8 ⟨rfl, hb⟩
        have HB8 := Aside0.mk (HK7.out.below hb).own.bel
        clear hb
        go_wp2
        go_ret
        exact ⟨rfl, HB8.out⟩
theorem LedgerDays_row (w : World) (A : Option Addr) (c : Nat) (l : List Po) (hC : Kd.C kPo w A l.length l) (hc : l.length ≤ c) (acct : ByteArray) (_ : acct.size ≤ 140737488351232) (day : Int) {Pr : Prop} (_ : Pr) (hsh : Sh w) :
    Calls Tryd.prog 6 #[.slice A l.length c, .string acct, .int .i64 day] w fun e W => e = .returned (.bool true) ∧ Below w.heap.size w W :=
  LedgerDays_walk l A c acct day w hc hC hsh
end Go.Proofs.YtpmbljigdghmiaaDoor.Led
