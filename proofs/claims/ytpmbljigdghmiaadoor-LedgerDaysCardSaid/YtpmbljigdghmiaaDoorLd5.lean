/- Ledgers: LedN in one text. -/
import Derived.Test.YtpmbljigdghmiaaDoorLd4
import Derived.Deep.RegionHeld3
import Derived.Deep.RegionLaw
import Derived.Deep.DeepCutAuto
namespace Go.Proofs.YtpmbljigdghmiaaDoor.Led
open Go.RowKit Go.Shelf Go.WideShapes Go.Proofs.YtpmbljigdghmiaaDoor.Ext Go.Proofs.YtpmbljigdghmiaaDoor.P Go.Proofs.YtpmbljigdghmiaaDoor.Idp Go.Proofs.YtpmbljigdghmiaaDoorW.PrintWords Go.Proofs.YtpmbljigdghmiaaDoorW.PrintLast Go.Proofs.YtpmbljigdghmiaaDoorW.PrintMore
def ovN (n : Int) : Bool := decide (n < -1099511627776) || decide (1099511627776 < n)
def ov (ps : List Po) (p : Po) (x : It) : Bool := ovN (wrap64 (tot ps x.f0 65536 + tot [p] x.f0 65536))
def ldy (ps : List Po) (p : Po) : Bool := decide (0 < (ps.length : Int)) && decide (p.f1 < (rP ps (ps.length - 1)).f1)
def postE (ps : List Po) (p : Po) : Int :=
  if chk p = 0 then if (ps.any fun q => q.f0 == p.f0) = true then 7 else if ldy ps p = true then 39
    else if p.f2.any (ov ps p) = true then 12 else if 512 ≤ ps.length then 3 else 0 else chk p
def postS (ps : List Po) (p : Po) : List Po := if postE ps p = 0 then ps ++ [p] else ps
/-- Behind the box of a posting. -/
structure Pst (w W : World) (p : Po) (A : Option Addr) (c : Nat) : Prop where mk ::
  (below : Below w.heap.size w W) (box : W.heap[w.heap.size]? = some (.cells #[.int .i64 p.f0, .int .i64 p.f1, .slice A p.f2.length c] 24 (0, 0)))
theorem Pst.step {w W W' : World} {p : Po} {A : Option Addr} {c : Nat} (h : Pst w W p A c) (hb : Below W.heap.size W W') : Pst w W' p A c :=
  ⟨h.below.trans (hb.mono h.below.size), blk_below h.box hb⟩
theorem Pst.start (w : World) (p : Po) (A : Option Addr) (c : Nat) : Pst w (w.alloc (.cells #[.int .i64 p.f0, .int .i64 p.f1, .slice A p.f2.length c] 24 (0, 0))) p A c :=
  ⟨below_alloc (Below.refl _ _) _, blk_new _ _⟩
theorem Pst.cells {w W : World} {p : Po} {A : Option Addr} {c : Nat} (h : Pst w W p A c) : W.cell? ⟨w.heap.size, 0, none⟩ = some (.int .i64 p.f0) ∧ W.cell? ⟨w.heap.size, 1, none⟩ = some (.int .i64 p.f1) ∧ W.cell? ⟨w.heap.size, 2, none⟩ = some (.slice A p.f2.length c) :=
  ⟨(blk_cell h.box 0).trans rfl, (blk_cell h.box 1).trans rfl, (blk_cell h.box 2).trans rfl⟩
theorem any_snoc (xs : List It) (f : It → Bool) (k : Int) (h0 : 0 ≤ k) (h : k < xs.length) : (xs.take (k + 1).toNat).any f = ((xs.take k.toNat).any f || f (rI xs k)) := by
  rw [take_rI xs k h0 h, List.any_append]; simp
theorem one_C (w : World) (p : Po) (A : Option Addr) (c : Nat) (hc : p.f2.length ≤ c) (hC : Kd.C kIt w A p.f2.length p.f2) :
    Kd.C kPo (w.alloc (.cells #[.int .i64 p.f0, .int .i64 p.f1, .slice A p.f2.length c] 24 (0, 0))) (some ⟨w.heap.size, 0, none⟩) [p].length [p] := by
  refine ⟨rfl, by simp, fun _ => ⟨_, rfl, fun j q hj => ?_⟩⟩
  obtain ⟨rfl, rfl⟩ : j = 0 ∧ p = q := by
    cases j with
    | zero => exact ⟨rfl, by simpa using hj⟩
    | succ j => simp at hj
  refine ⟨[.int .i64 p.f0, .int .i64 p.f1, .slice A p.f2.length c], rfl, k24_mk _ p hc (Kd.C_below hC (below_alloc (Below.refl _ _) _)), fun i u hu => ?_⟩
  rw [Nat.zero_mul, Nat.zero_add]
  refine Eq.trans ?_ hu
  have h := blk_cell (blk_new w (.cells #[.int .i64 p.f0, .int .i64 p.f1, .slice A p.f2.length c] 24 (0, 0))) i
  rw [Addr.add_lit, Nat.zero_add]
  exact h.trans (by simp)
theorem sum1_calls (w : World) (p : Po) (A : Option Addr) (c : Nat) (acct : ByteArray) (day : Int) (hc : p.f2.length ≤ c) (hC : Kd.C kIt w A p.f2.length p.f2) :
    Calls Tryd.prog 37 #[.slice (some ⟨w.heap.size, 0, none⟩) 1 1, .string acct, .int .i64 day] (w.alloc (.cells #[.int .i64 p.f0, .int .i64 p.f1, .slice A p.f2.length c] 24 (0, 0))) fun e W' => e = .returned (.int .i64 (tot [p] acct day)) ∧ Below w.heap.size w W' :=
  (sum_calls _ 1 [p] acct day _ (one_C w p A c hc hC)).mono (by
    rintro e W' ⟨he, hb⟩
    exact ⟨he, (below_alloc (Below.refl _ _) _).trans (hb.mono (by simp))⟩)
theorem sumA_calls (W1 W : World) (A : Option Addr) (c : Nat) (ps : List Po) (acct : ByteArray) (day : Int) (hC : Kd.C kPo W1 A ps.length ps) (hb : Below W1.heap.size W1 W) :
    Calls Tryd.prog 37 #[.slice A ps.length c, .string acct, .int .i64 day] W fun e W' => e = .returned (.int .i64 (tot ps acct day)) ∧ Below W1.heap.size W1 W' :=
  (sum_calls A c ps acct day W (Kd.C_below hC hb)).mono (by
    rintro e W' ⟨he, hb'⟩
    exact ⟨he, hb.trans (hb'.mono hb.size)⟩)
theorem sumB_calls (W1 : World) (p : Po) (A2 : Option Addr) (c2 : Nat) (A : Option Addr) (c : Nat) (ps : List Po) (acct : ByteArray) (day : Int) (hC : Kd.C kPo W1 A ps.length ps) (hc : p.f2.length ≤ c2) (hC2 : Kd.C kIt W1 A2 p.f2.length p.f2) :
    Calls Tryd.prog 37 #[.slice A ps.length c, .string acct, .int .i64 day] (W1.alloc (.cells #[.int .i64 p.f0, .int .i64 p.f1, .slice A2 p.f2.length c2] 24 (0, 0))).drew fun e W' => e = .returned (.int .i64 (tot ps acct day)) ∧ Below W1.heap.size W1 W' ∧ Kd.C kPo W' (some ⟨W1.heap.size, 0, none⟩) [p].length [p] :=
  (sum_calls A c ps acct day _ (Kd.C_below hC (below_drew1 (below_alloc (Below.refl _ _) _)))).mono (by
    rintro e W' ⟨he, hb'⟩
    exact ⟨he, (below_drew1 (below_alloc (Below.refl _ _) _)).trans (hb'.mono (by simp [World.drew])), Kd.C_below (one_C W1 p A2 c2 hc hC2) ((below_drew1 (Below.refl _ _)).trans hb')⟩)
theorem sumC_calls (W1 W : World) (b : Nat) (p : Po) (acct : ByteArray) (day : Int) (hC : Kd.C kPo W (some ⟨b, 0, none⟩) [p].length [p]) (hb : Below W1.heap.size W1 W) :
    Calls Tryd.prog 37 #[.slice (some ⟨b, 0, none⟩) 1 1, .string acct, .int .i64 day] W fun e W' => e = .returned (.int .i64 (tot [p] acct day)) ∧ Below W1.heap.size W1 W' :=
  (sum_calls (some ⟨b, 0, none⟩) 1 [p] acct day W hC).mono (by
    rintro e W' ⟨he, hb'⟩
    exact ⟨he, hb.trans (hb'.mono hb.size)⟩)
theorem rI_mem (xs : List It) (k : Int) (h0 : 0 ≤ k) (h1 : k < xs.length) : rI xs k ∈ xs := by
  unfold rI rd_T38
  rw [List.getD_eq_getElem?_getD, List.getElem?_eq_getElem (by omega)]
  exact List.getElem_mem _
/-- What Post leaves. -/
def PPost (T : Nat) (w0 w : World) (F : Nat → Prop) (g : Nat) (ps : List Po) (p : Po) (e : Ending) (w' : World) : Prop :=
  e = .returned (.int .i64 (postE ps p)) ∧ ∃ F' : Nat → Prop, IsL T F' w0 w' g (postS ps p) ∧ (∀ k, F' k → F k ∨ w.heap.size ≤ k) ∧ Fram F w w' ∧ Below w0.heap.size w0 w'
theorem PPost.bad {T : Nat} {w0 w w' : World} {F : Nat → Prop} {g : Nat} {ps : List Po} {p : Po} {n : Int} (hL : IsL T F w0 w g ps) (h0 : Below w0.heap.size w0 w) (hn : postE ps p = n) (hz : n ≠ 0) (hb : Below w.heap.size w w') : PPost T w0 w F g ps p (.returned (.int .i64 n)) w' :=
  ⟨by rw [hn], F, by unfold postS; rw [if_neg (by rw [hn]; exact hz)]; exact hL.below hb, fun k hk => .inl hk, fram_below hb _, h0.trans (hb.mono h0.size)⟩
/-- Behind the append, and the store of the row. -/
theorem post_done {T : Nat} {w0 w W w1 : World} {F : Nat → Prop} {g : Nat} {ps : List Po} {p : Po} {v0 v1 : Value} (k1 : w.heap[g]? = some (.cells #[v0] T (0, 0))) (k2 : F g) (k3 : ∀ k, F k → w0.heap.size ≤ k ∧ k < w.heap.size)
    (hv : ∀ k, v0.ownBlock = some k → k ≠ g ∧ F k) (h0 : w0.heap.size ≤ w.heap.size) (hW : Below w.heap.size w W) (hg : W.grownBy w1 v0.ownBlock) (hb : Below w0.heap.size w0 w1) (hp : postE ps p = 0)
    (ho : Kd.R kPo 24 w1 w0.heap.size (fun k => k ≠ g ∧ (F k ∨ w.heap.size ≤ k)) v1 (ps ++ [p])) :
    PPost T w0 w F g ps p (.returned (.int .i64 0)) (w1.setCell ⟨g, 0, none⟩ v1) := by
  have hgl := blk_lt k1
  have h1 : w1.heap[g]? = some (.cells #[v0] T (0, 0)) := (hg.block g (Nat.lt_of_lt_of_le hgl hW.size) (fun e => (hv g e.symm).1 rfl)).trans (blk_below k1 hW)
  have hsz : w.heap.size ≤ w1.heap.size := Nat.le_trans hW.size hg.size
  have hss : (w1.setCell ⟨g, 0, none⟩ v1).heap.size = w1.heap.size := by simp [World.setCell]
  refine ⟨by rw [hp], fun k => F k ∨ (w.heap.size ≤ k ∧ k < w1.heap.size), ?_, fun k hk => hk.elim .inl (fun h => .inr h.1), ⟨by rw [hss]; exact hsz, fun k hk hf => ?_⟩, ?_⟩
  · unfold postS
    rw [if_pos hp]
    refine ⟨v1, by simpa using blk_set h1 0 v1, .inl k2, fun k hk => ?_, ?_⟩
    · rw [hss]
      rcases hk with hk | hk
      · have := k3 k hk; omega
      · omega
    · refine Kd.R_mono (Kd.R_bound (Kd.R_far (p := ⟨g, 0, none⟩) ho (fun k hk => hk.1) v1)) (fun k hk => ⟨hk.1.1, hk.1.2.elim .inl (fun h => .inr ⟨h, ?_⟩)⟩)
      have := hk.2.2.1
      rwa [hss] at this
  · have hkg : k ≠ g := fun e => hf (e ▸ k2)
    have hko : some k ≠ v0.ownBlock := fun e => hf (hv k e.symm).2
    exact (Below.heap_setCell w1 ⟨g, 0, none⟩ v1 k hkg).trans ((hg.block k (Nat.lt_of_lt_of_le hk hW.size) hko).trans (hW.block k hk))
  · exact hb.setCell (p := ⟨g, 0, none⟩) (k3 g k2).1 v1
set_option maxHeartbeats 4000000 in
set_option maxRecDepth 100000 in
theorem Post_calls (w0 w : World) (F : Nat → Prop) (g : Nat) (ps : List Po) (p : Po) (A : Option Addr) (c : Nat) (hL : IsL tL F w0 w g ps) (h0 : Below w0.heap.size w0 w) (hps : ps.length ≤ 512)
    (hC : Kd.C kIt w A p.f2.length p.f2) (hc : p.f2.length ≤ c) (hsh : Sh w) :
    Calls Tryd.prog 17 #[.pointer (some ⟨g, 0, none⟩), .agg #[.int .i64 p.f0, .int .i64 p.f1, .slice A p.f2.length c]] w (PPost tL w0 w F g ps p) := by
  obtain ⟨v, k1, k2, k3, k4⟩ := hL.out
  obtain ⟨A1, c1, rfl, hl1, hC1⟩ := Kd.R_reads k4
  have hgl := blk_lt k1
  have c0 : w.cell? ⟨g, 0, none⟩ = some (.slice A1 ps.length c1) := (blk_cell k1 0).trans rfl
  have H3 := Aside0.mk hC1
  have HI := Aside0.mk hC
  have HL := Aside0.mk hL
  have H0 := Aside0.mk h0
  have HR := Aside0.mk k4
  have HF := Aside0.mk k3
  have HK1 := Aside0.mk k1
  have HK2 := Aside0.mk k2
  have HCk := Aside0.mk (Check_calls p A c _ (Kd.C_below hC (Pst.start w p A c).below) hc (hsh.below (Pst.start w p A c).below))
  have HP := Aside0.mk (Pst.start w p A c)
  have hmI := hC.2.1
  have hu1 := Tryd.underlying24
  have hu2 := Tryd.underlying38
  clear hL h0 hC k1 k2 k3 k4 hC1 hsh
  go_enter Tryd.func17, Tryd.ntmps17
  go_wp2_with fail
  refine HCk.out.mono ?_
  rintro e w2 ⟨rfl, hb⟩
  have HP2 := Aside0.mk (HP.out.step hb)
  clear hb HCk HP
  by_cases hz : chk p = 0
  · rw [hz]
    have HZ := Aside0.mk hz
    clear hz
    have d0 : w2.cell? ⟨g, 0, none⟩ = some (.slice A1 ps.length c1) := (HP2.out.below.cell (p := ⟨g, 0, none⟩) hgl).trans c0
    have HCo := Aside0.mk (Contains_calls A1 c1 ps w.heap.size p.f0 w2 (Kd.C_below H3.out HP2.out.below) HP2.out.cells.1)
    go_wp2_with fail
    refine HCo.out.mono ?_
    rintro e w3 ⟨rfl, hb⟩
    have HP3 := Aside0.mk (HP2.out.step hb)
    clear hb HCo d0 HP2
    by_cases hin : (ps.any fun q => q.f0 == p.f0) = true
    · rw [hin]
      have HIn := Aside0.mk hin
      clear hin
      go_wp2
      go_ret
      exact PPost.bad HL.out H0.out (by unfold postE; rw [if_pos HZ.out, if_pos HIn.out]) (by decide) HP3.out.below
    · rw [Bool.not_eq_true] at hin
      rw [hin]
      have HIn := Aside0.mk hin
      clear hin
      have d0 : w3.cell? ⟨g, 0, none⟩ = some (.slice A1 ps.length c1) := (HP3.out.below.cell (p := ⟨g, 0, none⟩) hgl).trans c0
      obtain ⟨b0, b1, b2⟩ := HP3.out.cells
      go_upto_region 9 with (fail)
      go_cut [43] (fun s43 wx => s43 = .bool (ldy ps p) ∧ Aside0 (Pst w wx p A c))
      case first =>
        by_cases hn : 0 < (ps.length : Int)
        · have hn1 : decide (0 < ps.length) = true := decide_eq_true (by omega)
          obtain ⟨m, hm⟩ : ∃ m : Int, m = ps.length - 1 := ⟨_, rfl⟩
          have HM := Aside0.mk hm
          have hw1 : IntKind.i64.wrap ((ps.length : Int) - 1) = m := by rw [hm]; exact Go.IntWalk.i64_in _ (by omega)
          have hm0 : 0 ≤ m := by omega
          have hm1 : m < ps.length := by omega
          clear hm hn
          obtain ⟨ad, A2, c2, rfl, -, e1, -, -, -⟩ := at_T24 H3.out m hm0 hm1
          have e1' := (HP3.out.below.cell (World.block_lt_of_cell? w _ e1)).trans e1
          clear e1
          go_quiet (fail)
          go_wp2_with fail
          go_meet
          exact ⟨by unfold ldy; rw [decide_eq_true (show 0 < (ps.length : Int) by omega), ← HM.out]; rfl, ⟨HP3.out.step (pw_below_drewN (Below.refl _ _) _)⟩⟩
        · have hn1 : decide (0 < ps.length) = false := decide_eq_false (by omega)
          go_quiet (fail)
          go_wp2_with fail
          go_meet
          exact ⟨by unfold ldy; rw [decide_eq_false (show ¬ 0 < (ps.length : Int) by omega)]; rfl, ⟨HP3.out.step (pw_below_drewN (Below.refl _ _) _)⟩⟩
      case rest =>
        obtain ⟨rfl, HP⟩ := hcut
        clear HP3 d0 b0 b1 b2
        cases hld : ldy ps p with
        | true =>
          have HLd := Aside0.mk hld
          clear hld
          go_wp2
          go_ret
          exact PPost.bad HL.out H0.out (by unfold postE; rw [if_pos HZ.out, HIn.out, if_neg (by decide), if_pos HLd.out]) (by decide) HP.out.below
        | false =>
          have HLd := Aside0.mk hld
          clear hld
          obtain ⟨b0, b1, b2⟩ := HP.out.cells
          go_wp2
          go_loopw [47] (fun vi wr => ∃ k : Int, vi = .int .i64 k ∧ 0 ≤ k ∧ k ≤ p.f2.length ∧ Aside0 (Pst w wr p A c ∧ (p.f2.take k.toNat).any (ov ps p) = false)) (fun i _ => p.f2.length - (intOf i).toNat)
          case atStart => exact ⟨0, rfl, by omega, by omega, ⟨HP.out, rfl⟩⟩
          case round =>
            clear b0 b1 b2 HP
            obtain ⟨k, rfl, hk0, hk1, HK⟩ := hrel
            have d0 : wr.cell? ⟨g, 0, none⟩ = some (.slice A1 ps.length c1) := (HK.out.1.below.cell (p := ⟨g, 0, none⟩) hgl).trans c0
            by_cases hlt : k < p.f2.length
            · obtain ⟨ad2, rfl, x0, x1⟩ := at_T38 HI.out k hk0 hlt
              have HAny := Aside0.mk (any_snoc p.f2 (ov ps p) k hk0 hlt)
              obtain ⟨x, hx⟩ : ∃ x, x = rI p.f2 k := ⟨_, rfl⟩
              have HXm : Aside0 (x ∈ p.f2) := ⟨by rw [hx]; exact rI_mem p.f2 k hk0 hlt⟩
              rw [← hx] at HAny
              rw [show rd_T38 p.f2 k = x from hx.symm] at x0 x1
              have y0 := (HK.out.1.below.cell (World.block_lt_of_cell? w _ x0)).trans x0
              have y1 := (HK.out.1.below.cell (World.block_lt_of_cell? w _ x1)).trans x1
              obtain ⟨b0, b1, b2⟩ := HK.out.1.cells
              clear hx x0 x1
              obtain ⟨W1, hW1⟩ : ∃ W1, W1 = wr.alloc (.cells #[.string x.f0, .int .i64 x.f1] 38 (0, 0)) := ⟨_, rfl⟩
              have HW1 : Aside0 (Pst w W1 p (some ad2) c) := ⟨by rw [hW1]; exact HK.out.1.step (below_alloc (Below.refl _ _) _)⟩
              have nx : W1.cell? ⟨wr.heap.size, 0, none⟩ = some (.string x.f0) := by rw [hW1]; exact (blk_cell (blk_new _ _) 0).trans rfl
              have five : Aside0 (∀ W', Below W1.heap.size W1 W' → W'.cell? ⟨g, 0, none⟩ = some (.slice A1 ps.length c1) ∧ W'.cell? ⟨wr.heap.size, 0, none⟩ = some (.string x.f0) ∧ W'.cell? ⟨w.heap.size, 0, none⟩ = some (.int .i64 p.f0) ∧ W'.cell? ⟨w.heap.size, 1, none⟩ = some (.int .i64 p.f1) ∧ W'.cell? ⟨w.heap.size, 2, none⟩ = some (.slice (some ad2) p.f2.length c)) := ⟨fun W' hb =>
                ⟨((HW1.out.step hb).below.cell (p := ⟨g, 0, none⟩) hgl).trans c0, (hb.cell (World.block_lt_of_cell? _ _ nx)).trans nx, (HW1.out.step hb).cells⟩⟩
              go_upto_region 14 with (fail)
              rw [cells_eq, ← hW1]
              have hcA := Aside0.mk (sumA_calls W1 W1.drew A1 c1 ps x.f0 65536 (Kd.C_below H3.out HW1.out.below) (below_drew1 (Below.refl _ _)))
              have hcB := Aside0.mk (sumB_calls W1 p (some ad2) c A1 c1 ps x.f0 65536 (Kd.C_below H3.out HW1.out.below) hc (Kd.C_below HI.out HW1.out.below))
              clear hW1 nx d0 b0 b1 b2 y0 y1
              go_cut [9] (fun s9 wx => s9 = .int .i64 (wrap64 (tot ps x.f0 65536 + tot [p] x.f0 65536)) ∧ Aside0 (Pst w wx p (some ad2) c))
              case first =>
                go_region_held3 (fun W' => W'.cell? ⟨g, 0, none⟩ = some (.slice A1 ps.length c1) ∧ W'.cell? ⟨wr.heap.size, 0, none⟩ = some (.string x.f0) ∧ W'.cell? ⟨w.heap.size, 0, none⟩ = some (.int .i64 p.f0) ∧ W'.cell? ⟨w.heap.size, 1, none⟩ = some (.int .i64 p.f1) ∧ W'.cell? ⟨w.heap.size, 2, none⟩ = some (.slice (some ad2) p.f2.length c))
                ((exact five.out _ (by repeat (first | (with_reducible first | exact Below.refl _ _ | exact hv2 | exact hv1 | exact hv4 | exact hv3 | apply below_alloc | apply below_drew1 | apply pw_below_drewN) | exact Below.refl _ _))))
                (first
                  | (go_at_call 37; (with_reducible refine hcA.out.mono ?_); rintro e v1 ⟨rfl, hv1⟩)
                  | (go_at_call 37; (with_reducible refine hcB.out.mono ?_); rintro e v3 ⟨rfl, hv3, hC3⟩)
                  | (go_at_call 37; have hc2_ := sum1_calls v1 p (some ad2) c x.f0 65536 hc (Kd.C_below HI.out (HW1.out.step hv1).below); (with_reducible refine hc2_.mono ?_); clear hc2_; rintro e v2 ⟨rfl, hb2⟩; have hv2 : Below W1.heap.size W1 v2 := hv1.trans (hb2.mono hv1.size); clear hb2)
                  | (go_at_call 37; have hc4_ := sumC_calls W1 v3 W1.heap.size p x.f0 65536 hC3 hv3; (with_reducible refine hc4_.mono ?_); clear hc4_; rintro e v4 ⟨rfl, hv4⟩))
                all_goals
                  go_wp2_with fail
                  go_meet
                  exact ⟨by rw [IntKind.wrap_i64]; unfold wrap64; rfl, ⟨HW1.out.step (by first | exact hv2 | exact hv4)⟩⟩
              case rest =>
                obtain ⟨rfl, HP⟩ := hcut
                obtain ⟨n, hn⟩ : ∃ n, n = wrap64 (tot ps x.f0 65536 + tot [p] x.f0 65536) := ⟨_, rfl⟩
                have HN : Aside0 (ov ps p x = ovN n) := ⟨by unfold ov; rw [← hn]⟩
                rw [← hn]
                clear hn five HW1
                by_cases h1 : n < -1099511627776
                · have h1' : decide (n < -1099511627776) = true := decide_eq_true h1
                  have HX := Aside0.mk h1
                  clear h1
                  go_wp2
                  go_ret
                  exact PPost.bad HL.out H0.out (by unfold postE; rw [if_pos HZ.out, HIn.out, if_neg (by decide), HLd.out, if_neg (by decide), if_pos (List.any_eq_true.2 ⟨x, HXm.out, by rw [HN.out]; unfold ovN; rw [h1']; rfl⟩)]) (by decide) HP.out.below
                · have h1' : decide (n < -1099511627776) = false := decide_eq_false h1
                  have HX := Aside0.mk h1
                  clear h1
                  by_cases h2 : 1099511627776 < n
                  · have h2' : decide (1099511627776 < n) = true := decide_eq_true h2
                    have HY := Aside0.mk h2
                    clear h2
                    go_wp2
                    go_ret
                    exact PPost.bad HL.out H0.out (by unfold postE; rw [if_pos HZ.out, HIn.out, if_neg (by decide), HLd.out, if_neg (by decide), if_pos (List.any_eq_true.2 ⟨x, HXm.out, by rw [HN.out]; unfold ovN; rw [h2', Bool.or_true]⟩)]) (by decide) HP.out.below
                  · have h2' : decide (1099511627776 < n) = false := decide_eq_false h2
                    have HY := Aside0.mk h2
                    clear h2
                    go_wp2
                    go_roundw
                    case rel => exact ⟨k + 1, by go_num, by omega, by omega, ⟨HP.out, by rw [HAny.out, HK.out.2, HN.out]; unfold ovN; rw [h1', h2']; rfl⟩⟩
                    case measure => simp [intOf]; omega
            · have hkl : k = p.f2.length := by omega
              subst hkl
              have HAny : Aside0 (p.f2.any (ov ps p) = false) := ⟨by have h := HK.out.2; rwa [show p.f2.take ((p.f2.length : Nat) : Int).toNat = p.f2 by simp] at h⟩
              obtain ⟨b0, b1, b2⟩ := HK.out.1.cells
              by_cases hf : 512 ≤ ps.length
              · have hf' : decide ((512 : Int) ≤ (ps.length : Int)) = true := decide_eq_true (by omega)
                have HFu := Aside0.mk hf
                clear hf
                go_wp2
                go_ret
                exact PPost.bad HL.out H0.out (by unfold postE; rw [if_pos HZ.out, HIn.out, if_neg (by decide), HLd.out, if_neg (by decide), HAny.out, if_neg (by decide), if_pos HFu.out]) (by decide) HK.out.1.below
              · have hf' : decide ((512 : Int) ≤ (ps.length : Int)) = false := decide_eq_false (by omega)
                have HFu := Aside0.mk hf
                clear hf
                go_wp2_with fail
                have HE : Aside0 (postE ps p = 0) := ⟨by unfold postE; rw [if_pos HZ.out, HIn.out, if_neg (by decide), HLd.out, if_neg (by decide), HAny.out, if_neg (by decide), if_neg HFu.out]⟩
                have hsz16 : p.f2.length ≤ 1000000 := by have := (chk_fine p HZ.out).len; omega
                have HCo := Aside0.mk fun (W : World) (hb : Below wr.heap.size wr W) => copied_calls p.f0 p.f1 A c p.f2 W (Kd.C_below (Kd.C_below HI.out HK.out.1.below) hb) hsz16
                have HPl := Aside0.mk hps
                have hszw : w.heap.size ≤ wr.heap.size := HK.out.1.below.size
                have hszr : w0.heap.size ≤ wr.heap.size := Nat.le_trans H0.out.size hszw
                clear hf' hsz16 b0 b1 b2
                obtain ⟨b0, b1, b2⟩ := HK.out.1.cells
                go_region_law (first
                  | (refine Kd.R_append_step kPo (w0 := w0) w0.heap.size rfl _ _ 26 24 (.agg #[(.int .i64 0), (.int .i64 0), .slice none 0 0]) 40 rfl Tryd.underlying26 infoPo rfl (by decide) (by omega) (.slice A1 ps.length c1) ps p [.int .i64 p.f0, .int .i64 p.f1, vq] (fun k => k ≠ g ∧ (F k ∨ w.heap.size ≤ k)) (fun k => wr.heap.size ≤ k) rfl rfl ?aP ?aK ?aF ?aO ?aB ?aS ?aL ?_
                     case aP => exact po_M (base := w0.heap.size) (w := wr.drew) hszr hRq
                     case aK => exact (fun k hk => ⟨⟨by have h_ : wr.heap.size ≤ k := hk; omega, .inr (by have h_ : wr.heap.size ≤ k := hk; omega)⟩, fun e => by have h_ : wr.heap.size ≤ k := hk; have h1 := (HF.out k (HR.out.1 k e.symm).2).2; omega⟩)
                     case aF => exact (fun k hk => ⟨by have h_ : wq.heap.size ≤ k := hk; omega, .inr (by have h_ : wq.heap.size ≤ k := hk; omega)⟩)
                     case aO => exact Kd.R_below (Kd.R_mono HR.out (fun k hk => ⟨hk.1, .inl hk.2⟩)) hBq.out
                     case aB => exact H0.out.trans (hBq.out.mono H0.out.size)
                     case aS => exact (H0.out.trans (hBq.out.mono H0.out.size)).size
                     case aL => have := HPl.out; omega
                     intro v1 w1 ho hb hg hat
                     obtain ⟨A2, c2, rfl⟩ := Kd.R_slice ho
                     rw [show (ps ++ [p]).length = ps.length + 1 by simp] at ho
                     have h1 : w1.heap[g]? = some (.cells #[.slice A1 ps.length c1] tL (0, 0)) := (hg.block g (by omega) (fun e => (HR.out.1 g e.symm).1 rfl)).trans (blk_below HK1.out hBq.out)
                     have hc1 : w1.cell? ⟨g, 0, none⟩ = some (.slice A1 ps.length c1) := (blk_cell h1 0).trans rfl
                     have hf1 : w1.frozen? ⟨g, 0, none⟩ = false := blk_frozen h1 0
                     have HDone := Aside0.mk (post_done HK1.out HK2.out HF.out HR.out.1 H0.out.size hBq.out hg hb HE.out ho)
                     clear h1 ho hb hg hat)
                  | (go_simp; go_at_call 38; refine (HCo.out _ (by repeat (first | (with_reducible first | exact Below.refl _ _ | apply below_drew1 | apply pw_below_drewN) | exact Below.refl _ _))).mono ?_; rintro e wq ⟨vq, rfl, hRq, hbq⟩; have hBq : Aside0 (Below w.heap.size w wq) := ⟨HK.out.1.below.trans (((below_drew1 (Below.refl _ _)).trans hbq).mono HK.out.1.below.size)⟩; have hsq : wr.heap.size ≤ wq.heap.size := hbq.size; have dq : wq.cell? ⟨g, 0, none⟩ = some (.slice A1 ps.length c1) := (hBq.out.cell (p := ⟨g, 0, none⟩) hgl).trans c0; have dq2 := cell_alloc_l (.cells #[.int .i64 p.f0, .int .i64 p.f1, vq] 24 (0, 0)) dq; clear hbq))
                all_goals
                  go_wp2
                  go_ret
                  exact HDone.out
  · have HZ := Aside0.mk hz
    have hz' : (chk p != 0) = true := by simpa using hz
    clear hz
    go_wp2
    go_ret
    exact PPost.bad HL.out H0.out (by unfold postE; rw [if_neg HZ.out]) HZ.out HP2.out.below
end Go.Proofs.YtpmbljigdghmiaaDoor.Led
