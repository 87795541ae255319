/- Ledgers: LedD, LedE, LedF in one text. -/
import Derived.Test.YtpmbljigdghmiaaDoorLd1
namespace Go.Proofs.YtpmbljigdghmiaaDoor.Led
open Go.RowKit Go.Shelf Go.WideShapes Go.Proofs.YtpmbljigdghmiaaDoor.Ext Go.Proofs.YtpmbljigdghmiaaDoor.P Go.Proofs.YtpmbljigdghmiaaDoorW.PrintWords Go.Proofs.YtpmbljigdghmiaaDoorW.PrintLast Go.Proofs.YtpmbljigdghmiaaDoorW.PrintMore
/-- A ledger of type T at block g reads as these postings. -/
structure LR (T : Nat) (w : World) (g : Nat) (ps : List Po) : Prop where mk ::
  (out : ∃ (A : Option Addr) (c : Nat), w.heap[g]? = some (.cells #[.slice A ps.length c] T (0, 0)) ∧ ps.length ≤ c ∧ Kd.C kPo w A ps.length ps)
theorem LR.below {T : Nat} {w w1 : World} {g : Nat} {ps : List Po} (h : LR T w g ps) (hb : Below w.heap.size w w1) : LR T w1 g ps := by
  obtain ⟨A, c, h1, h2, h3⟩ := h.out
  exact ⟨A, c, blk_below h1 hb, h2, Kd.C_below h3 hb⟩
abbrev tL : Nat := 52
abbrev tU : Nat := 54
theorem On_calls (w : World) (g : Nat) (ps : List Po) (acct : ByteArray) (day : Int) (h : LR tL w g ps) :
    Calls Tryd.prog 21 #[.pointer (some ⟨g, 0, none⟩), .string acct, .int .i64 day] w fun e w' => e = .returned (.int .i64 (tot ps acct day)) ∧ Below w.heap.size w w' := by
  obtain ⟨A, c, h1, h2, h3⟩ := h.out
  have c0 : w.cell? ⟨g, 0, none⟩ = some (.slice A ps.length c) := (blk_cell h1 0).trans rfl
  have H3 := Aside0.mk h3
  clear h h1 h2 h3
  go_enter Tryd.func21, Tryd.ntmps21
  go_wp2_with fail
  refine (sum_calls A c ps acct day w H3.out).mono ?_
  rintro e w' ⟨rfl, hb⟩
  go_wp2
  go_ret
  exact ⟨rfl, hb⟩
theorem OnNil_calls (w : World) (acct : ByteArray) (day : Int) :
    Calls Tryd.prog 21 #[.pointer none, .string acct, .int .i64 day] w fun e w' => e = .returned (.int .i64 0) ∧ w = w' := by
  go_enter Tryd.func21, Tryd.ntmps21
  go_wp2
  go_ret
  exact ⟨rfl, rfl⟩
theorem Bal_calls (w : World) (g : Nat) (ps : List Po) (acct : ByteArray) (h : LR tL w g ps) :
    Calls Tryd.prog 19 #[.pointer (some ⟨g, 0, none⟩), .string acct] w fun e w' => e = .returned (.int .i64 (tot ps acct 65536)) ∧ Below w.heap.size w w' := by
  go_enter Tryd.func19, Tryd.ntmps19
  go_wp2_with fail
  refine (On_calls w g ps acct 65536 h).mono ?_
  rintro e w' ⟨rfl, hb⟩
  go_wp2
  go_ret
  exact ⟨rfl, hb⟩
theorem BalNil_calls (w : World) (acct : ByteArray) :
    Calls Tryd.prog 19 #[.pointer none, .string acct] w fun e w' => e = .returned (.int .i64 0) ∧ w = w' := by
  go_enter Tryd.func19, Tryd.ntmps19
  go_wp2_with fail
  refine (OnNil_calls w acct 65536).mono ?_
  rintro e w' ⟨rfl, rfl⟩
  go_wp2
  go_ret
  exact ⟨rfl, rfl⟩
set_option maxHeartbeats 2000000 in
set_option maxRecDepth 100000 in
theorem ROn_calls (w : World) (g : Nat) (ps : List Po) (acct : ByteArray) (day : Int) (h : LR tU w g ps) :
    Calls Tryd.prog 22 #[.pointer (some ⟨g, 0, none⟩), .string acct, .int .i64 day] w fun e w' => e = .returned (.int .i64 (tot ps acct day)) ∧ w = w' := by
  obtain ⟨A, c, h1, h2, h3⟩ := h.out
  have c0 : w.cell? ⟨g, 0, none⟩ = some (.slice A ps.length c) := (blk_cell h1 0).trans rfl
  have H3 := Aside0.mk h3
  have hm := h3.2.1
  have hu1 := Tryd.underlying24
  have hu2 := Tryd.underlying38
  clear h h1 h2 h3
  go_enter Tryd.func22, Tryd.ntmps22
  go_wp2
  go_loop [7, 8] (fun vn vi => ∃ k : Int, vi = .int .i64 k ∧ 0 ≤ k ∧ k ≤ ps.length ∧ vn = .int .i64 ((evs (ps.take k.toNat) day).foldl (add1 acct) 0)) (fun _ i => ps.length - (intOf i).toNat)
  case atStart => exact ⟨0, rfl, by omega, by omega, rfl⟩
  case round =>
    obtain ⟨k, rfl, hk0, hk1, rfl⟩ := hrel
    by_cases hlt : k < ps.length
    · obtain ⟨ad, A2, c2, rfl, d0, d1, d2, el, eC⟩ := at_T24 H3.out k hk0 hlt
      obtain ⟨p, hp⟩ : ∃ p, p = rP ps k := ⟨_, rfl⟩
      rw [show rd_T24 ps k = p from hp.symm] at d0 d1 d2 el eC
      have hyes := evs_yes ps day k hk0 hlt
      have hno := evs_no ps day k hk0 hlt
      rw [← hp] at hyes hno
      have HYes := Aside0.mk hyes
      have HNo := Aside0.mk hno
      have HeC := Aside0.mk eC
      have hm2 := eC.2.1
      clear hp hyes hno eC el
      generalize hE : evs (ps.take k.toNat) day = E at *
      have HE := Aside0.mk hE
      clear hE
      go_wp2
      go_loop [7, 9] (fun vn vj => ∃ j : Int, vj = .int .i64 j ∧ 0 ≤ j ∧ j ≤ p.f2.length ∧ Aside0 (day < p.f1 → j = 0) ∧ vn = .int .i64 ((E ++ p.f2.take j.toNat).foldl (add1 acct) 0)) (fun _ j => p.f2.length - (intOf j).toNat)
      case atStart => exact ⟨0, rfl, by omega, by omega, ⟨fun _ => rfl⟩, by rw [show (0 : Int).toNat = 0 from rfl, List.take_zero, List.append_nil]⟩
      case round =>
        obtain ⟨j, rfl, hj0, hj1, HJ, rfl⟩ := hrel
        by_cases hlj : j < p.f2.length
        · by_cases hd : day < p.f1
          · have hj := HJ.out hd
            subst hj
            have HD := Aside0.mk hd
            have hd2 : decide (p.f1 ≤ day) = false := decide_eq_false (by omega)
            clear hd
            go_wp2
            go_round
            case rel => exact ⟨k + 1, by go_num, by omega, by omega, by rw [HNo.out HD.out]⟩
            case measure => simp [intOf]; omega
          · obtain ⟨ad2, rfl, x0, x1⟩ := at_T38 HeC.out j hj0 hlj
            have hst := take_rI p.f2 j hj0 hlj
            have HSt := Aside0.mk hst
            obtain ⟨x, hx⟩ : ∃ x, x = rI p.f2 j := ⟨_, rfl⟩
            rw [show rd_T38 p.f2 j = x from hx.symm] at x0 x1
            rw [← hx] at HSt
            have hd2 : decide (p.f1 ≤ day) = true := decide_eq_true (by omega)
            have HD := Aside0.mk hd
            clear hst hx hd
            by_cases hn : x.f0 = acct
            · have hn' : (x.f0.toList == acct.toList) = true := by rw [hn]; simp
              have HN := Aside0.mk hn
              clear hn
              go_wp2
              go_round
              case rel => exact ⟨j + 1, by go_num, by omega, by omega, ⟨fun h => absurd h HD.out⟩, by rw [HSt.out, ← List.append_assoc, List.foldl_append (l' := [x])]; simp [add1, HN.out]⟩
              case measure => simp [intOf]; omega
            · have hn' := bytes_ne hn
              have HN := Aside0.mk hn
              clear hn
              go_wp2
              go_round
              case rel => exact ⟨j + 1, by go_num, by omega, by omega, ⟨fun h => absurd h HD.out⟩, by rw [HSt.out, ← List.append_assoc, List.foldl_append (l' := [x])]; simp [add1, HN.out]⟩
              case measure => simp [intOf]; omega
        · have hjl : j = p.f2.length := by omega
          subst hjl
          go_wp2
          go_round
          case rel =>
            refine ⟨k + 1, by go_num, by omega, by omega, ?_⟩
            by_cases hd : day < p.f1
            · have h0 := HJ.out hd
              rw [HNo.out hd, show ((p.f2.length : Nat) : Int).toNat = 0 by omega]; simp
            · rw [HYes.out (by omega)]; simp
          case measure => simp [intOf]; omega
    · have hkl : k = ps.length := by omega
      subst hkl
      go_wp2
      go_ret
      exact ⟨by simp [tot], rfl⟩
theorem RBal_calls (w : World) (g : Nat) (ps : List Po) (acct : ByteArray) (h : LR tU w g ps) :
    Calls Tryd.prog 20 #[.pointer (some ⟨g, 0, none⟩), .string acct] w fun e w' => e = .returned (.int .i64 (tot ps acct 65536)) ∧ w = w' := by
  go_enter Tryd.func20, Tryd.ntmps20
  go_wp2_with fail
  refine (ROn_calls w g ps acct 65536 h).mono ?_
  rintro e w' ⟨rfl, rfl⟩
  go_wp2
  go_ret
  exact ⟨rfl, rfl⟩
end Go.Proofs.YtpmbljigdghmiaaDoor.Led

namespace Go.Proofs.YtpmbljigdghmiaaDoor.Led
open Go.RowKit Go.Shelf Go.WideShapes Go.Proofs.YtpmbljigdghmiaaDoor.Ext Go.Proofs.YtpmbljigdghmiaaDoor.P Go.Proofs.YtpmbljigdghmiaaDoorW.PrintWords Go.Proofs.YtpmbljigdghmiaaDoorW.PrintLast Go.Proofs.YtpmbljigdghmiaaDoorW.PrintMore
theorem infoPo : (Tryd.prog.info? 24).map (fun i => (i.zero, i.size, i.bytes)) = some (some (.agg #[(.int .i64 0), (.int .i64 0), .slice none 0 0]), 3, 40) := by kernel_rfl
/-- Postings that a ledger may hold are of some size. -/
structure Sz (ps : List Po) : Prop where mk :: (len : ps.length ≤ 100000) (its : ∀ p ∈ ps, p.f2.length ≤ 1000000)
theorem Sz.at {ps : List Po} (h : Sz ps) (k : Int) (h0 : 0 ≤ k) (h1 : k < ps.length) : (rP ps k).f2.length ≤ 1000000 := by
  refine h.its _ ?_
  unfold rP rd_T24
  rw [List.getD_eq_getElem?_getD, List.getElem?_eq_getElem (by omega)]
  exact List.getElem_mem _
/-- A posting made anew is an element for a row beside which its items lie. -/
theorem po_M {w w1 : World} {base : Nat} {p : Po} {v : Value} (hb : base ≤ w.heap.size) (h : Kd.R kIt 38 w1 w.heap.size (fun _ => True) v p.f2) : kPo.M w1 base (fun k => w.heap.size ≤ k) p [.int .i64 p.f0, .int .i64 p.f1, v] :=
  k24_mkM w1 base _ p (Kd.R_lower (Kd.R_mono (Kd.R_bound h) (fun _ hk => hk.2.1)) hb)
def PsPost (w : World) (ps : List Po) (e : Ending) (w' : World) : Prop := ∃ v : Value, e = .returned v ∧ Kd.R kPo 24 w' w.heap.size (fun _ => True) v ps ∧ Below w.heap.size w w'
set_option maxHeartbeats 2000000 in
set_option maxRecDepth 100000 in
theorem Postings_calls (w : World) (g : Nat) (ps : List Po) (h : LR tL w g ps) (hz : Sz ps) :
    Calls Tryd.prog 27 #[.pointer (some ⟨g, 0, none⟩)] w (PsPost w ps) := by
  obtain ⟨A, c, h1, h2, h3⟩ := h.out
  have c0 : w.cell? ⟨g, 0, none⟩ = some (.slice A ps.length c) := (blk_cell h1 0).trans rfl
  have H3 := Aside0.mk h3
  have hm := h3.2.1
  have hl := hz.len
  have HZ := Aside0.mk hz
  have hu1 := Tryd.underlying24
  have hu2 := Tryd.underlying38
  clear h h1 h2 h3 hz
  go_enter Tryd.func27, Tryd.ntmps27
  go_wp2
  go_loopw [3, 13] (fun vo vi wr => ∃ k : Int, vi = .int .i64 k ∧ 0 ≤ k ∧ k ≤ ps.length ∧ Aside0 (Below w.heap.size w wr ∧ Kd.R kPo 24 wr w.heap.size (fun _ => True) vo (ps.take k.toNat))) (fun _ i _ => ps.length - (intOf i).toNat)
  case atStart => exact ⟨0, rfl, by omega, by omega, ⟨Below.refl _ _, Kd.R_nil _ _ _ _ _⟩⟩
  case round =>
    obtain ⟨k, rfl, hk0, hk1, HK⟩ := hrel
    obtain ⟨Ao, co, hAo⟩ := Kd.R_slice HK.out.2
    rw [List.length_take] at hAo
    obtain ⟨no, hno⟩ : ∃ no, no = min k.toNat ps.length := ⟨_, rfl⟩
    rw [← hno] at hAo
    subst hAo
    have hno' : no = k.toNat := by omega
    subst hno'
    clear hno
    by_cases hlt : k < ps.length
    · obtain ⟨ad, A2, c2, rfl, d0, d1, d2, el, eC⟩ := at_T24 H3.out k hk0 hlt
      have hsz := HZ.out.at k hk0 hlt
      have hst := take_rP ps k hk0 hlt
      obtain ⟨p, hp⟩ : ∃ p, p = rP ps k := ⟨_, rfl⟩
      rw [← hp] at hst hsz
      rw [show rd_T24 ps k = p from hp.symm] at d0 d1 d2 el eC
      have HSt := Aside0.mk hst
      have e0 := (HK.out.1.cell (World.block_lt_of_cell? w _ d0)).trans d0
      have e1 := (HK.out.1.cell (World.block_lt_of_cell? w _ d1)).trans d1
      have e2 := (HK.out.1.cell (World.block_lt_of_cell? w _ d2)).trans d2
      have HC := Aside0.mk fun (w' : World) (hb : Below wr.heap.size wr w') => copied_calls p.f0 p.f1 A2 c2 p.f2 w' (Kd.C_below (Kd.C_below eC HK.out.1) hb) hsz
      clear hp hst d0 d1 d2 el eC
      go_wp2_with fail
      refine (HC.out _ (below_alloc (Below.refl _ _) _)).mono ?_
      rintro e w1 ⟨v, rfl, hR, hb⟩
      obtain ⟨A1, c1, rfl⟩ := Kd.R_slice hR
      have hB : Below w.heap.size w w1 := (below_alloc HK.out.1 _).trans (hb.mono (by have := HK.out.1.size; simp; omega))
      have HM := Aside0.mk (po_M (base := w.heap.size) (by have := HK.out.1.size; simp; omega) hR)
      have HO := Aside0.mk (Kd.R_below (Kd.R_below HK.out.2 (below_alloc (Below.refl _ _) _)) hb)
      have HLt := Aside0.mk (Kd.R_lt HK.out.2)
      have HB := Aside0.mk hB
      have hsw : wr.heap.size ≤ w1.heap.size := by have := hb.size; simp at this; omega
      clear hR hb hB e0 e1 e2 HC HK
      go_wp2_with ((with_reducible refine gate_builtin (b := .append) (xs := #[.tmp 17, .tmp 20]) rfl ?_)
                   at_builtin
                   refine Kd.R_append kPo (w0 := w) w.heap.size rfl (.tmp 17) (.tmp 20) 26 24 (.agg #[(.int .i64 0), (.int .i64 0), .slice none 0 0]) 40 rfl Tryd.underlying26 infoPo rfl (by decide) (by omega) (.slice Ao k.toNat co) (ps.take k.toNat) p [.int .i64 p.f0, .int .i64 p.f1, .slice A1 p.f2.length c1] (fun _ => True) _ rfl rfl HM.out ?aP (fun _ _ => trivial) ?aO ?aB ?aS ?aL ?_
                   case aP => exact (fun j hj => ⟨trivial, fun e => by have h1 := HLt.out j e.symm; have h2 : wr.heap.size + 1 ≤ j := (by simpa using hj); omega⟩)
                   case aO => exact HO.out
                   case aB => exact HB.out
                   case aS => exact HB.out.size
                   case aL => (rw [List.length_take]; omega)
                   intro v2 w2 ho hb hg hat
                   obtain ⟨A3, c3, rfl⟩ := Kd.R_slice ho
                   rw [show (ps.take k.toNat ++ [p]).length = k.toNat + 1 by simp; omega] at ho
                   have HO2 := Aside0.mk ho
                   have HB2 := Aside0.mk hb
                   clear ho hb hg hat)
      exact ⟨⟨k + 1, by go_num, by omega, by omega, ⟨HB2.out, by rw [HSt.out]; exact HO2.out⟩⟩, by simp [intOf]; omega⟩
    · have hkl : k = ps.length := by omega
      subst hkl
      go_wp2
      go_ret
      exact ⟨_, rfl, by simpa using HK.out.2, HK.out.1⟩
theorem rcopied_f (id day : Int) (xs : List It) (hl : xs.length ≤ 1000000) : dancestudioref55_copied.f id day xs = some (id, day, xs) := by
  unfold dancestudioref55_copied.f
  rw [Option.bind_some, if_pos (by simp; omega)]
  rfl
set_option maxHeartbeats 2000000 in
set_option maxRecDepth 100000 in
theorem RPostings_calls (w : World) (g : Nat) (ps : List Po) (h : LR tU w g ps) (hz : Sz ps) :
    Calls Tryd.prog 28 #[.pointer (some ⟨g, 0, none⟩)] w (PsPost w ps) := by
  obtain ⟨A, c, h1, h2, h3⟩ := h.out
  have c0 : w.cell? ⟨g, 0, none⟩ = some (.slice A ps.length c) := (blk_cell h1 0).trans rfl
  have hgl := blk_lt h1
  have H3 := Aside0.mk h3
  have hm := h3.2.1
  have hl := hz.len
  have HZ := Aside0.mk hz
  have hu1 := Tryd.underlying24
  have hu2 := Tryd.underlying38
  clear h h1 h2 h3 hz
  go_enter Tryd.func28, Tryd.ntmps28
  go_wp2
  go_loopw [3, 4] (fun vo vi wr => ∃ k : Int, vi = .int .i64 k ∧ 0 ≤ k ∧ k ≤ ps.length ∧ Aside0 (Below w.heap.size w wr ∧ Kd.R kPo 24 wr w.heap.size (fun _ => True) vo (ps.take k.toNat))) (fun _ i _ => ps.length - (intOf i).toNat)
  case atStart => exact ⟨0, rfl, by omega, by omega, ⟨Below.refl _ _, Kd.R_nil _ _ _ _ _⟩⟩
  case round =>
    obtain ⟨k, rfl, hk0, hk1, HK⟩ := hrel
    obtain ⟨Ao, co, hAo⟩ := Kd.R_slice HK.out.2
    rw [List.length_take] at hAo
    obtain ⟨no, hno⟩ : ∃ no, no = min k.toNat ps.length := ⟨_, rfl⟩
    rw [← hno] at hAo
    subst hAo
    have hno' : no = k.toNat := by omega
    subst hno'
    clear hno
    have c1 : wr.cell? ⟨g, 0, none⟩ = some (.slice A ps.length c) := (HK.out.1.cell (p := ⟨g, 0, none⟩) hgl).trans c0
    by_cases hlt : k < ps.length
    · obtain ⟨ad, A2, c2, rfl, d0, d1, d2, el, eC⟩ := at_T24 H3.out k hk0 hlt
      have hsz := HZ.out.at k hk0 hlt
      have hst := take_rP ps k hk0 hlt
      obtain ⟨p, hp⟩ : ∃ p, p = rP ps k := ⟨_, rfl⟩
      rw [← hp] at hst hsz
      rw [show rd_T24 ps k = p from hp.symm] at d0 d1 d2 el eC
      have HSt := Aside0.mk hst
      have e0 := (HK.out.1.cell (World.block_lt_of_cell? w _ d0)).trans d0
      have e1 := (HK.out.1.cell (World.block_lt_of_cell? w _ d1)).trans d1
      have e2 := (HK.out.1.cell (World.block_lt_of_cell? w _ d2)).trans d2
      have HC := Aside0.mk (dancestudioref55_copied.calls p.f0 p.f1 A2 c2 p.f2 _ _ _ wr (Kd.C_below eC HK.out.1) el (rcopied_f p.f0 p.f1 p.f2 hsz))
      clear hp hst d0 d1 d2 el eC
      go_wp2_with fail
      refine HC.out.mono ?_
      rintro e w1 ⟨v, rfl, hR, hb⟩
      obtain ⟨A1, c1, rfl⟩ := Kd.R_slice hR
      have hB : Below w.heap.size w w1 := HK.out.1.trans (hb.mono HK.out.1.size)
      have HM := Aside0.mk (po_M (base := w.heap.size) HK.out.1.size hR)
      have HO := Aside0.mk (Kd.R_below HK.out.2 hb)
      have HLt := Aside0.mk (Kd.R_lt HK.out.2)
      have HB := Aside0.mk hB
      clear hR hb hB e0 e1 e2 HC HK
      go_wp2_with ((with_reducible refine gate_builtin (b := .append) (xs := #[.tmp 14, .tmp 23]) rfl ?_)
                   at_builtin
                   refine Kd.R_append kPo (w0 := w) w.heap.size rfl (.tmp 14) (.tmp 23) 26 24 (.agg #[(.int .i64 0), (.int .i64 0), .slice none 0 0]) 40 rfl Tryd.underlying26 infoPo rfl (by decide) (by omega) (.slice Ao k.toNat co) (ps.take k.toNat) p [.int .i64 p.f0, .int .i64 p.f1, .slice A1 p.f2.length c1] (fun _ => True) _ rfl rfl HM.out ?aP (fun _ _ => trivial) ?aO ?aB ?aS ?aL ?_
                   case aP => exact (fun j hj => ⟨trivial, fun e => by have h1 := HLt.out j e.symm; have h2 : wr.heap.size ≤ j := hj; omega⟩)
                   case aO => exact HO.out
                   case aB => exact HB.out
                   case aS => exact HB.out.size
                   case aL => (rw [List.length_take]; omega)
                   intro v2 w2 ho hb hg hat
                   obtain ⟨A3, c3, rfl⟩ := Kd.R_slice ho
                   rw [show (ps.take k.toNat ++ [p]).length = k.toNat + 1 by simp; omega] at ho
                   have HO2 := Aside0.mk ho
                   have HB2 := Aside0.mk hb
                   clear ho hb hg hat)
      exact ⟨⟨k + 1, by go_num, by omega, by omega, ⟨HB2.out, by rw [HSt.out]; exact HO2.out⟩⟩, by simp [intOf]; omega⟩
    · have hkl : k = ps.length := by omega
      subst hkl
      go_wp2
      go_ret
      exact ⟨_, rfl, by simpa using HK.out.2, HK.out.1⟩
theorem PostingsNil_calls (w : World) :
    Calls Tryd.prog 27 #[.pointer none] w fun e w' => e = .returned (.slice none 0 0) ∧ w = w' := by
  go_enter Tryd.func27, Tryd.ntmps27
  go_wp2
  go_ret
  exact ⟨rfl, rfl⟩
theorem CopyNil_calls (w : World) :
    Calls Tryd.prog 30 #[.pointer none] w fun e w' => e = .returned (.pointer none) ∧ w = w' := by
  go_enter Tryd.func30, Tryd.ntmps30
  go_wp2
  go_ret
  exact ⟨rfl, rfl⟩
end Go.Proofs.YtpmbljigdghmiaaDoor.Led

namespace Go.Proofs.YtpmbljigdghmiaaDoor.Led
open Go.RowKit Go.Shelf Go.WideShapes Go.Proofs.YtpmbljigdghmiaaDoor.Ext Go.Proofs.YtpmbljigdghmiaaDoor.P Go.Proofs.YtpmbljigdghmiaaDoorW.PrintWords Go.Proofs.YtpmbljigdghmiaaDoorW.PrintLast Go.Proofs.YtpmbljigdghmiaaDoorW.PrintMore
/-- Outside G nothing of the memory has turned. -/
def Fram (G : Nat → Prop) (w w' : World) : Prop := w.heap.size ≤ w'.heap.size ∧ ∀ k : Nat, k < w.heap.size → ¬ G k → w'.heap[k]? = w.heap[k]?
theorem fram_below {w w1 : World} (h : Below w.heap.size w w1) (G : Nat → Prop) : Fram G w w1 := ⟨h.size, fun k hk _ => h.block k hk⟩
theorem Fram.trans {F G : Nat → Prop} {a b c : World} (h : Fram F a b) (k : Fram G b c) (hG : ∀ i, G i → F i ∨ a.heap.size ≤ i) : Fram F a c :=
  ⟨Nat.le_trans h.1 k.1, fun i hi hf => (k.2 i (Nat.lt_of_lt_of_le hi h.1) (fun hg => by rcases hG i hg with h1 | h1; exact hf h1; omega)).trans (h.2 i hi hf)⟩
/-- A ledger of type T at block g, made of the blocks F of the call's own, holds these postings. -/
structure IsL (T : Nat) (F : Nat → Prop) (w0 w : World) (g : Nat) (ps : List Po) : Prop where mk ::
  (out : ∃ v : Value, w.heap[g]? = some (.cells #[v] T (0, 0)) ∧ F g ∧ (∀ k, F k → w0.heap.size ≤ k ∧ k < w.heap.size) ∧ Kd.R kPo 24 w w0.heap.size (fun k => k ≠ g ∧ F k) v ps)
theorem IsL.read {T : Nat} {F : Nat → Prop} {w0 w : World} {g : Nat} {ps : List Po} (h : IsL T F w0 w g ps) : LR T w g ps := by
  obtain ⟨v, h1, h2, h3, h4⟩ := h.out
  obtain ⟨A, c, rfl, hl, hC⟩ := Kd.R_reads h4
  exact ⟨A, c, h1, hl, hC⟩
theorem IsL.lt {T : Nat} {F : Nat → Prop} {w0 w : World} {g : Nat} {ps : List Po} (h : IsL T F w0 w g ps) : ∀ k, F k → w0.heap.size ≤ k ∧ k < w.heap.size := by
  obtain ⟨v, h1, h2, h3, h4⟩ := h.out
  exact h3
theorem IsL.kept {T : Nat} {F G : Nat → Prop} {w0 w w1 : World} {g : Nat} {ps : List Po} (h : IsL T F w0 w g ps) (hf : Fram G w w1) (hd : ∀ k, F k → ¬ G k) : IsL T F w0 w1 g ps := by
  obtain ⟨v, h1, h2, h3, h4⟩ := h.out
  exact ⟨v, (hf.2 g (blk_lt h1) (hd g h2)).trans h1, h2, fun k hk => ⟨(h3 k hk).1, Nat.lt_of_lt_of_le (h3 k hk).2 hf.1⟩, Kd.R_step h4 (fun k ho hk => hf.2 k hk (hd k ho.2))⟩
theorem IsL.below {T : Nat} {F : Nat → Prop} {w0 w w1 : World} {g : Nat} {ps : List Po} (h : IsL T F w0 w g ps) (hb : Below w.heap.size w w1) : IsL T F w0 w1 g ps := h.kept (G := fun _ => False) (fram_below hb _) (fun _ _ h => h)
theorem IsL.lower {T : Nat} {F : Nat → Prop} {w0 w1 w : World} {g : Nat} {ps : List Po} (h : IsL T F w1 w g ps) (hb : w0.heap.size ≤ w1.heap.size) : IsL T F w0 w g ps := by
  obtain ⟨v, h1, h2, h3, h4⟩ := h.out
  exact ⟨v, h1, h2, fun k hk => ⟨Nat.le_trans hb (h3 k hk).1, (h3 k hk).2⟩, Kd.R_lower h4 hb⟩
/-- What makes a ledger. -/
def MkPost (T : Nat) (w : World) (ps : List Po) (e : Ending) (w' : World) : Prop := ∃ (g : Nat) (F : Nat → Prop), e = .returned (.pointer (some ⟨g, 0, none⟩)) ∧ IsL T F w w' g ps ∧ Below w.heap.size w w'
theorem mk_post {T : Nat} {w w1 : World} {v : Value} {ps : List Po} (hR : Kd.R kPo 24 w1 w.heap.size (fun _ => True) v ps) (hb : Below w.heap.size w w1) :
    MkPost T w ps (.returned (.pointer (some ⟨w1.heap.size, 0, none⟩))) (w1.alloc (.cells #[v] T (0, 0))) := by
  refine ⟨_, fun k => w.heap.size ≤ k ∧ k < w1.heap.size + 1, rfl, ⟨v, blk_new _ _, ⟨hb.size, by omega⟩, fun k hk => ⟨hk.1, by simp; exact hk.2⟩, ?_⟩, below_alloc hb _⟩
  exact Kd.R_mono (Kd.R_bound (Kd.R_below (Kd.R_mono (Kd.R_bound hR) (fun k hk => hk.2)) (below_alloc (Below.refl _ _) _))) (fun k hk => ⟨by have := hk.1.2.1; omega, hk.1.1, by have := hk.1.2.1; omega⟩)
theorem New_calls (w : World) : Calls Tryd.prog 15 #[] w (MkPost tL w []) := by
  go_enter Tryd.func15, Tryd.ntmps15
  go_wp2
  go_ret
  exact mk_post (Kd.R_nil _ _ _ _ _) (Below.refl _ _)
theorem RNew_calls (w : World) : Calls Tryd.prog 16 #[] w (MkPost tU w []) := by
  go_enter Tryd.func16, Tryd.ntmps16
  go_wp2
  go_ret
  exact mk_post (Kd.R_nil _ _ _ _ _) (Below.refl _ _)
theorem Copy_calls (w : World) (g : Nat) (ps : List Po) (h : LR tL w g ps) (hz : Sz ps) :
    Calls Tryd.prog 30 #[.pointer (some ⟨g, 0, none⟩)] w (MkPost tL w ps) := by
  have HC := Aside0.mk (Postings_calls w g ps h hz)
  clear h hz
  go_enter Tryd.func30, Tryd.ntmps30
  go_wp2_with fail
  refine HC.out.mono ?_
  rintro e w1 ⟨v, rfl, hR, hb⟩
  obtain ⟨A, c, rfl⟩ := Kd.R_slice hR
  have HR := Aside0.mk hR
  have HB := Aside0.mk hb
  clear hR hb HC
  go_wp2
  go_ret
  exact mk_post HR.out HB.out
theorem cells_eq (w : World) (cs : Array Value) (t : TypeId) : w.alloc (.cells cs t) = w.alloc (.cells cs t (0, 0)) := rfl
end Go.Proofs.YtpmbljigdghmiaaDoor.Led
