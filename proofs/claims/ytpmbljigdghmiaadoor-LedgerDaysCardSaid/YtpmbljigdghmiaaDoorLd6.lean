/- Ledgers: LedO, LedP in one text. -/
import Derived.Test.YtpmbljigdghmiaaDoorLd5
namespace Go.Proofs.YtpmbljigdghmiaaDoor.Led
open Go.RowKit Go.Shelf Go.WideShapes Go.Proofs.YtpmbljigdghmiaaDoor.Ext Go.Proofs.YtpmbljigdghmiaaDoor.P Go.Proofs.YtpmbljigdghmiaaDoor.Idp Go.Proofs.YtpmbljigdghmiaaDoorW.PrintWords Go.Proofs.YtpmbljigdghmiaaDoorW.PrintLast Go.Proofs.YtpmbljigdghmiaaDoorW.PrintMore
theorem add1_fix (a : ByteArray) : ∀ (xs : List It) (n : Int), wrap64 n = n → wrap64 (xs.foldl (add1 a) n) = xs.foldl (add1 a) n
  | [], n, h => h
  | x :: xs, n, h => by
    rw [List.foldl_cons]
    refine add1_fix a xs _ ?_
    unfold add1
    split
    · unfold wrap64; omega
    · exact h
theorem add1_shift (a : ByteArray) (xs : List It) (n : Int) (h : wrap64 n = n) : xs.foldl (add1 a) n = wrap64 (n + xs.foldl (add1 a) 0) := by
  induction xs using snoc_ind with
  | h0 => simp [h]
  | h1 l x ih =>
    simp only [List.foldl_append, List.foldl_cons, List.foldl_nil]
    rw [ih]
    unfold add1
    split
    · unfold wrap64; omega
    · rfl
theorem tot_fix (ps : List Po) (a : ByteArray) (d : Int) : wrap64 (tot ps a d) = tot ps a d := add1_fix a _ 0 (by unfold wrap64; omega)
theorem tot_app (ps qs : List Po) (a : ByteArray) (d : Int) : tot (ps ++ qs) a d = wrap64 (tot ps a d + tot qs a d) := by
  unfold tot
  rw [evs_append, List.foldl_append]
  exact add1_shift a _ _ (tot_fix ps a d)
/-- A row of nothing, made anew. -/
theorem lit0 {w0 W : World} (h : w0.heap.size ≤ W.heap.size) (ok : Nat → Prop) (hok : ok W.heap.size) : Kd.R kPo 24 (W.alloc (.cells #[] 24)) w0.heap.size ok (.slice (some ⟨W.heap.size, 0, none⟩) 0 0) [] := by
  refine ⟨fun k hk => ?_, [], ?_, ?_⟩
  · have : W.heap.size = k := by simpa [Value.ownBlock] using hk
    subst this
    exact hok
  · have h2 := World.ownsRow_lit (base := w0.heap.size) (e := 24) (size := kPo.sz) W #[] 0 h (by decide) (by simp)
    simpa using h2
  · exact Reps.none _ _
theorem rows_of {W : World} {base : Nat} {ok : Nat → Prop} {A : Option Addr} {n c : Nat} {ps : List Po} (h : Kd.R kPo 24 W base ok (.slice A n c) ps) :
    n = ps.length ∧ ReadsRow (kPo.M W base ok) kPo.sz W A ps.length ps := by
  obtain ⟨_, inner, ho, hr⟩ := h
  obtain ⟨A', c', e, hR⟩ := own_reads_row ho hr rfl
  injection e with e1 e2 e3
  subst e1 e2 e3
  exact ⟨rfl, hR.1, hR.2.1, fun hn => by
    obtain ⟨ad, e, hc⟩ := hR.2.2 hn
    refine ⟨ad, e, fun j q hj => ?_⟩
    obtain ⟨cs, h1, h2, h3⟩ := hc j q hj
    exact ⟨cs, h1, kPo.M_mono (fun k hk => hk.1) h2, h3⟩⟩
/-- The empty row, made within the region. -/
structure AF (w0 wc W : World) (ba : Nat) : Prop where mk ::
  (R : Kd.R kPo 24 W w0.heap.size (fun k => wc.heap.size ≤ k) (.slice (some ⟨ba, 0, none⟩) 0 0) []) (blk : W.heap[ba]? = some (.cells #[] 24 (0, 0)))
theorem AF.new {w0 wc W : World} (h : w0.heap.size ≤ wc.heap.size) (hB : Below wc.heap.size wc W) : AF w0 wc (W.alloc (.cells #[] 24)) W.heap.size :=
  ⟨lit0 (Nat.le_trans h hB.size) _ hB.size, blk_new _ _⟩
theorem AF.below {w0 wc W W' : World} {ba : Nat} (h : AF w0 wc W ba) (hb : Below W.heap.size W W') : AF w0 wc W' ba := ⟨Kd.R_below h.R hb, blk_below h.blk hb⟩
/-- The copied items. -/
structure QF (w0 wc W : World) (vq : Value) (xs : List It) : Prop where mk ::
  (R : Kd.R kIt 38 W w0.heap.size (fun k => wc.heap.size ≤ k) vq xs)
theorem QF.below {w0 wc W W' : World} {vq : Value} {xs : List It} (h : QF w0 wc W vq xs) (hb : Below W.heap.size W W') : QF w0 wc W' vq xs := ⟨Kd.R_below h.R hb⟩
theorem QF.typed {w0 wc W : World} {vq : Value} {xs : List It} (h : QF w0 wc W vq xs) : Kd.R kIt 38 W w0.heap.size (fun k => wc.heap.size ≤ k ∧ ∃ cells, W.heap[k]? = some (.cells cells 38 (0, 0))) vq xs :=
  Kd.R_mono (Kd.R_bound h.R) (fun k hk => ⟨hk.1, by
    obtain ⟨_, _, _, q, hq, cells, hc⟩ := hk
    have hq' : q = 38 := by simpa [kIt, k38, Kd.E, Kd.iso, Kd.pair, Kd.string, Kd.int, Kd.scalar] using hq
    subst hq'
    exact ⟨cells, hc⟩⟩)
theorem QF.grown {w0 wc W W' : World} {ba : Nat} {vq : Value} {xs : List It} (h : QF w0 wc W vq xs) (ha : AF w0 wc W ba) (hg : W.grownBy W' (some ba)) : QF w0 wc W' vq xs :=
  ⟨Kd.R_mono (Kd.R_grown h.typed hg (fun k hk e => by
    obtain ⟨_, cells, hc⟩ := hk
    have e' : k = ba := Option.some.inj e
    subst e'
    have h2 := ha.blk
    rw [hc] at h2
    cases h2)) (fun k hk => hk.1)⟩
/-- The copied posting's row. -/
structure DF (W : World) (p : Po) (bd : Nat) (vq : Value) : Prop where mk ::
  (blk : W.heap[bd]? = some (.cells #[.int .i64 p.f0, .int .i64 p.f1, vq] 24 (0, 0)))
theorem DF.new (W : World) (p : Po) (vq : Value) : DF (W.alloc (.cells #[.int .i64 p.f0, .int .i64 p.f1, vq] 24)) p W.heap.size vq := ⟨blk_new _ _⟩
theorem DF.below {W W' : World} {p : Po} {bd : Nat} {vq : Value} (h : DF W p bd vq) (hb : Below W.heap.size W W') : DF W' p bd vq := ⟨blk_below h.blk hb⟩
theorem DF.grown {w0 wc W W' : World} {p : Po} {ba bd : Nat} {vq : Value} (h : DF W p bd vq) (ha : AF w0 wc W ba) (hg : W.grownBy W' (some ba)) : DF W' p bd vq :=
  ⟨blk_grown h.blk hg (fun e => by
    have e' : bd = ba := Option.some.inj e
    subst e'
    have h2 := ha.blk
    rw [h.blk] at h2
    cases h2)⟩
/-- The rows so far, copied. -/
structure RB (w0 wc W : World) (F : Nat → Prop) (g : Nat) (ps : List Po) (vb : Value) : Prop where mk ::
  (R : Kd.R kPo 24 W w0.heap.size (fun k => k ≠ g ∧ (F k ∨ wc.heap.size ≤ k)) vb ps) (below : Below wc.heap.size wc W) (own : ∀ k, vb.ownBlock = some k → wc.heap.size ≤ k)
theorem RB.step {w0 wc W W' : World} {F : Nat → Prop} {g : Nat} {ps : List Po} {vb : Value} (h : RB w0 wc W F g ps vb) (hb : Below W.heap.size W W') : RB w0 wc W' F g ps vb :=
  ⟨Kd.R_below h.R hb, h.below.trans (hb.mono h.below.size), h.own⟩
/-- What stands ahead of the region. -/
structure XX (w0 wc : World) (F : Nat → Prop) (g : Nat) (ps : List Po) (A : Option Addr) (c : Nat) : Prop where mk ::
  (R : Kd.R kPo 24 wc w0.heap.size (fun k => k ≠ g ∧ F k) (.slice A ps.length c) ps) (lt : ∀ k, F k → k < wc.heap.size) (gl : g < wc.heap.size) (b0 : Below w0.heap.size w0 wc) (len : ps.length ≤ 512)
section
variable {ops : Array Oper} {o : Oper} {a : Act} {Q : Exit → Act → World → Prop} {Kc : Act → World → Prop}
theorem stepB {w0 wc W : World} {F : Nat → Prop} {g : Nat} {ps : List Po} {A : Option Addr} {c ba : Nat} (hw : Region.wanted o (yielded ops a.tmps) = true) (s x : Operand)
    (ho : o.op = .call { callee := .builtin .append, args := #[s, x], argTypes := #[26, 26] }) (hs : a.eval s = .slice (some ⟨ba, 0, none⟩) 0 0) (hx : a.eval x = .slice A ps.length c)
    (HX : XX w0 wc F g ps A c) (hA : AF w0 wc W ba) (hB : Below wc.heap.size wc W)
    (h : ∀ vb wb, RB w0 wc wb F g ps vb → W.grownBy wb (some ba) → Kc (a.put o.dst vb) wb) :
    if Region.wanted o (yielded ops a.tmps) = true then Oper.wp Tryd.prog o a W Kc Q else Kc (a.put o.dst undef) W := by
  have hba : wc.heap.size ≤ ba := hA.R.1 ba rfl
  have HR := rows_of (Kd.R_below HX.R hB)
  refine Kd.R_append_rows_step kPo (w0 := w0) w0.heap.size hw s x 26 24 (.agg #[(.int .i64 0), (.int .i64 0), .slice none 0 0]) 40 ho Tryd.underlying26 infoPo rfl (by decide) (by omega) (.slice (some ⟨ba, 0, none⟩) 0 0) [] ps A ps.length c (fun k => k ≠ g ∧ (F k ∨ wc.heap.size ≤ k)) (fun k => k ≠ g ∧ F k) hs hx ?_ HR.2 (fun _ _ h => h) ?_ ?_ ?_ ?_ ?_ ?_
  · exact Kd.R_mono hA.R (fun k hk => ⟨by have := HX.gl; omega, .inr hk⟩)
  · intro k hk
    refine ⟨⟨hk.1, .inl hk.2⟩, fun e => ?_⟩
    have e' : k = ba := Option.some.inj e
    have := HX.lt k hk.2
    omega
  · intro k hk
    have h1 := hB.size
    have h2 := HX.gl
    exact ⟨by omega, .inr (by omega)⟩
  · exact HX.b0.trans (hB.mono HX.b0.size)
  · exact Nat.le_trans HX.b0.size hB.size
  · have := HX.len
    simp; omega
  · intro v1 w1 h1 h2 h3 h4
    refine h v1 w1 ⟨h1, (hB.grown h3 hB.size (fun k e => by have e' : ba = k := Option.some.inj e; omega)), fun k hk => ?_⟩ h3
    rcases h4 with h4 | ⟨b, h4, h5⟩
    · rw [h4] at hk
      have e' : ba = k := Option.some.inj hk
      omega
    · rw [h4] at hk
      have e' : b = k := Option.some.inj hk
      have := hB.size
      omega
theorem stepE {w0 wc W : World} {F : Nat → Prop} {g : Nat} {ps : List Po} {p : Po} {A : Option Addr} {c bd : Nat} {vb vq : Value} (hw : Region.wanted o (yielded ops a.tmps) = true) (s x : Operand)
    (ho : o.op = .call { callee := .builtin .append, args := #[s, x], argTypes := #[26, 26] }) (hs : a.eval s = vb) (hx : a.eval x = .slice (some ⟨bd, 0, none⟩) 1 1)
    (HX : XX w0 wc F g ps A c) (hR : RB w0 wc W F g ps vb) (hD : DF W p bd vq) (hQ : QF w0 wc W vq p.f2)
    (h : ∀ v1 w1, RB w0 wc w1 F g (ps ++ [p]) v1 → Kc (a.put o.dst v1) w1) :
    if Region.wanted o (yielded ops a.tmps) = true then Oper.wp Tryd.prog o a W Kc Q else Kc (a.put o.dst undef) W := by
  have hrow : ReadsRow (kPo.M W w0.heap.size (fun k => wc.heap.size ≤ k ∧ ∃ cells, W.heap[k]? = some (.cells cells 38 (0, 0)))) kPo.sz W (some ⟨bd, 0, none⟩) 1 [p] := by
    refine ⟨rfl, by decide, fun _ => ⟨_, rfl, fun j q hj => ?_⟩⟩
    obtain ⟨rfl, rfl⟩ : j = 0 ∧ p = q := by
      cases j with
      | zero => exact ⟨rfl, by simpa using hj⟩
      | succ j => simp at hj
    refine ⟨[.int .i64 p.f0, .int .i64 p.f1, vq], rfl, k24_mkM W _ _ p hQ.typed, fun i u hu => ?_⟩
    rw [Nat.zero_mul, Nat.zero_add]
    refine Eq.trans ?_ hu
    have h := blk_cell hD.blk i
    rw [Addr.add_lit, Nat.zero_add]
    exact h.trans (by simp)
  refine Kd.R_append_rows_step kPo (w0 := w0) w0.heap.size hw s x 26 24 (.agg #[(.int .i64 0), (.int .i64 0), .slice none 0 0]) 40 ho Tryd.underlying26 infoPo rfl (by decide) (by omega) vb ps [p] (some ⟨bd, 0, none⟩) 1 1 (fun k => k ≠ g ∧ (F k ∨ wc.heap.size ≤ k)) _ hs hx hR.R hrow (fun _ _ h => h) ?_ ?_ ?_ ?_ ?_ ?_
  · intro k hk
    have h2 := HX.gl
    refine ⟨⟨by omega, .inr hk.1⟩, fun e => ?_⟩
    obtain ⟨_, cells, hc⟩ := hk
    obtain ⟨_, inner, ho, _⟩ := hR.R
    obtain ⟨cells', hc'⟩ := own_typed ho k e.symm
    rw [hc] at hc'
    cases hc'
  · intro k hk
    have h1 := hR.below.size
    have h2 := HX.gl
    exact ⟨by omega, .inr (by omega)⟩
  · exact HX.b0.trans (hR.below.mono HX.b0.size)
  · exact Nat.le_trans HX.b0.size hR.below.size
  · have := HX.len
    omega
  · intro v1 w1 h1 h2 h3 h4
    refine h v1 w1 ⟨h1, hR.below.grown h3 hR.below.size (fun k e => hR.own k e), fun k hk => ?_⟩
    rcases h4 with h4 | ⟨b, h4, h5⟩
    · exact hR.own k (h4 ▸ hk)
    · rw [h4] at hk
      have e' : b = k := Option.some.inj hk
      have := hR.below.size
      omega
end
end Go.Proofs.YtpmbljigdghmiaaDoor.Led

namespace Go.Proofs.YtpmbljigdghmiaaDoor.Led
open Go.RowKit Go.Shelf Go.WideShapes Go.Proofs.YtpmbljigdghmiaaDoor.Ext Go.Proofs.YtpmbljigdghmiaaDoor.P Go.Proofs.YtpmbljigdghmiaaDoor.Idp Go.Proofs.YtpmbljigdghmiaaDoorW.PrintWords Go.Proofs.YtpmbljigdghmiaaDoorW.PrintLast Go.Proofs.YtpmbljigdghmiaaDoorW.PrintMore
theorem RPost_done {T : Nat} {w0 w W : World} {F : Nat → Prop} {g : Nat} {ps : List Po} {p : Po} {v0 v1 : Value} (k1 : w.heap[g]? = some (.cells #[v0] T (0, 0))) (k2 : F g) (k3 : ∀ k, F k → w0.heap.size ≤ k ∧ k < w.heap.size)
    (h0 : Below w0.heap.size w0 w) (hW : Below w.heap.size w W) (hp : postE ps p = 0)
    (ho : Kd.R kPo 24 W w0.heap.size (fun k => k ≠ g ∧ (F k ∨ w.heap.size ≤ k)) v1 (ps ++ [p])) :
    PPost T w0 w F g ps p (.returned (.int .i64 0)) (W.setCell ⟨g, 0, none⟩ v1) := by
  have hss : (W.setCell ⟨g, 0, none⟩ v1).heap.size = W.heap.size := by simp [World.setCell]
  refine ⟨by rw [hp], fun k => F k ∨ (w.heap.size ≤ k ∧ k < W.heap.size), ?_, fun k hk => hk.elim .inl (fun h => .inr h.1), ⟨by rw [hss]; exact hW.size, fun k hk hf => ?_⟩, ?_⟩
  · unfold postS
    rw [if_pos hp]
    refine ⟨v1, by simpa using blk_set (blk_below k1 hW) 0 v1, .inl k2, fun k hk => ?_, ?_⟩
    · rw [hss]
      have := hW.size
      rcases hk with hk | hk
      · have := k3 k hk; omega
      · have := h0.size; omega
    · refine Kd.R_mono (Kd.R_bound (Kd.R_far (p := ⟨g, 0, none⟩) ho (fun k hk => hk.1) v1)) (fun k hk => ⟨hk.1.1, hk.1.2.elim .inl (fun h => .inr ⟨h, ?_⟩)⟩)
      have := hk.2.2.1
      rwa [hss] at this
  · have hkg : k ≠ g := fun e => hf (e ▸ k2)
    exact (Below.heap_setCell W ⟨g, 0, none⟩ v1 k hkg).trans (hW.block k hk)
  · exact (h0.trans (hW.mono h0.size)).setCell (p := ⟨g, 0, none⟩) (k3 g k2).1 v1
/-- Behind the region that makes the longer ledger. -/
structure Mr (w0 w W : World) (F : Nat → Prop) (g : Nat) (ps : List Po) (p : Po) (A : Option Addr) (c gm : Nat) (A2 : Option Addr) (c2 : Nat) : Prop where mk ::
  (pst : Pst w W p A c) (blk : W.heap[gm]? = some (.cells #[.slice A2 (ps.length + 1) c2] tU (0, 0))) (R : Kd.R kPo 24 W w0.heap.size (fun k => k ≠ g ∧ (F k ∨ w.heap.size ≤ k)) (.slice A2 (ps.length + 1) c2) (ps ++ [p]))
theorem Mr.led {w0 w W : World} {F : Nat → Prop} {g : Nat} {ps : List Po} {p : Po} {A : Option Addr} {c gm : Nat} {A2 : Option Addr} {c2 : Nat} (h : Mr w0 w W F g ps p A c gm A2 c2) : LR tU W gm (ps ++ [p]) := by
  obtain ⟨A', c', e, hl, hC⟩ := Kd.R_reads h.R
  injection e with e1 e2 e3
  subst e1 e3
  exact ⟨A2, c2, by rw [List.length_append]; exact h.blk, hl, hC⟩
theorem Mr.of {w0 w wc W : World} {F : Nat → Prop} {g : Nat} {ps : List Po} {p : Po} {A : Option Addr} {c : Nat} {A2 : Option Addr} {c2 : Nat} (hP : Pst w wc p A c) (hE : RB w0 wc W F g (ps ++ [p]) (.slice A2 (ps.length + 1) c2)) :
    Mr w0 w (W.alloc (.cells #[.slice A2 (ps.length + 1) c2] tU (0, 0))) F g ps p A c W.heap.size A2 c2 :=
  ⟨hP.step (below_alloc hE.below _), blk_new _ _, Kd.R_below (Kd.R_mono hE.R (fun _ hk => ⟨hk.1, hk.2.elim .inl (fun h => .inr (Nat.le_trans hP.below.size h))⟩)) (below_alloc (Below.refl _ _) _)⟩
theorem QF.of {w0 wc W wq : World} {v : Value} {xs : List It} (hb : w0.heap.size ≤ wc.heap.size) (hW : wc.heap.size ≤ W.heap.size) (h : Kd.R kIt 38 wq W.heap.size (fun _ => True) v xs) : QF w0 wc wq v xs :=
  ⟨Kd.R_lower (Kd.R_mono (Kd.R_bound h) (fun _ hk => Nat.le_trans hW hk.2.1)) (Nat.le_trans hb hW)⟩
theorem RB.slice {w0 wc W : World} {F : Nat → Prop} {g : Nat} {ps : List Po} {p : Po} {v : Value} (h : RB w0 wc W F g (ps ++ [p]) v) : ∃ A2 c2, v = .slice A2 (ps.length + 1) c2 := by
  obtain ⟨A2, c2, e⟩ := Kd.R_slice h.R
  exact ⟨A2, c2, by rw [e, List.length_append]; rfl⟩
set_option maxHeartbeats 4000000 in
set_option maxRecDepth 100000 in
theorem RPost_calls (w0 w : World) (F : Nat → Prop) (g : Nat) (ps : List Po) (p : Po) (A : Option Addr) (c : Nat) (hL : IsL tU F w0 w g ps) (h0 : Below w0.heap.size w0 w) (hps : ps.length ≤ 512)
    (hC : Kd.C kIt w A p.f2.length p.f2) (hc : p.f2.length ≤ c) :
    Calls Tryd.prog 18 #[.pointer (some ⟨g, 0, none⟩), .agg #[.int .i64 p.f0, .int .i64 p.f1, .slice A p.f2.length c]] w (PPost tU w0 w F g ps p) := by
  obtain ⟨v, k1, k2, k3, k4⟩ := hL.out
  obtain ⟨A1, c1, rfl, hl1, hC1⟩ := Kd.R_reads k4
  have hgl := blk_lt k1
  have c0 : w.cell? ⟨g, 0, none⟩ = some (.slice A1 ps.length c1) := (blk_cell k1 0).trans rfl
  have H3 := Aside0.mk hC1
  have HI := Aside0.mk hC
  have HL := Aside0.mk hL
  have H0 := Aside0.mk h0
  have HR := Aside0.mk k4
  have HF := Aside0.mk k3
  have HK1 := Aside0.mk k1
  have HK2 := Aside0.mk k2
  have HCk := Aside0.mk (RCheck_calls p A c _ (Kd.C_below hC (Pst.start w p A c).below) hc)
  have HP := Aside0.mk (Pst.start w p A c)
  have hmI := hC.2.1
  have hu1 := Tryd.underlying24
  have hu2 := Tryd.underlying38
  clear hL h0 hC k1 k2 k3 k4 hC1
  go_enter Tryd.func18, Tryd.ntmps18
  go_wp2_with fail
  refine HCk.out.mono ?_
  rintro e w2 ⟨rfl, hb⟩
  have HP2 := Aside0.mk (HP.out.step hb)
  clear hb HCk HP
  by_cases hz : chk p = 0
  · rw [hz]
    have HZ := Aside0.mk hz
    clear hz
    go_wp2
    go_loopw [6] (fun vi wr => ∃ k : Int, vi = .int .i64 k ∧ 0 ≤ k ∧ k ≤ ps.length ∧ Aside0 (Pst w wr p A c ∧ ((ps.take k.toNat).any fun q => q.f0 == p.f0) = false)) (fun i _ => ps.length - (intOf i).toNat)
    case atStart => exact ⟨0, rfl, by omega, by omega, ⟨HP2.out, rfl⟩⟩
    case round =>
      clear HP2
      obtain ⟨k, rfl, hk0, hk1, HK⟩ := hrel
      have d0 : wr.cell? ⟨g, 0, none⟩ = some (.slice A1 ps.length c1) := (HK.out.1.below.cell (p := ⟨g, 0, none⟩) hgl).trans c0
      by_cases hlt : k < ps.length
      · obtain ⟨ad, A2, c2, rfl, e0, -, -, -, -⟩ := at_T24 H3.out k hk0 hlt
        have HAny := Aside0.mk (any_take ps p.f0 k hk0 hlt)
        have HMem := Aside0.mk (rP_mem ps k hk0 hlt)
        obtain ⟨q, hq⟩ : ∃ q, q = rP ps k := ⟨_, rfl⟩
        rw [← hq] at HAny HMem
        rw [show rd_T24 ps k = q from hq.symm] at e0
        have e0' := (HK.out.1.below.cell (World.block_lt_of_cell? w _ e0)).trans e0
        obtain ⟨b0, b1, b2⟩ := HK.out.1.cells
        have hm1 := H3.out.2.1
        clear hq e0
        by_cases hqp : q.f0 = p.f0
        · have hqp' : (q.f0 == p.f0) = true := beq_iff_eq.mpr hqp
          have HIn : Aside0 ((ps.any fun q => q.f0 == p.f0) = true) := ⟨List.any_eq_true.2 ⟨q, HMem.out, by simpa using hqp⟩⟩
          have HQP := Aside0.mk hqp
          clear hqp
          go_wp2_with fail
          go_quiet (fail)
          go_wp2
          go_ret
          exact PPost.bad HL.out H0.out (by unfold postE; rw [if_pos HZ.out, if_pos HIn.out]) (by decide) (HK.out.1.step (pw_below_drewN (Below.refl _ _) _)).below
        · have hqp' : (q.f0 == p.f0) = false := beq_eq_false_iff_ne.mpr hqp
          have HQP := Aside0.mk hqp
          clear hqp
          go_wp2_with fail
          go_quiet (fail)
          go_wp2
          go_roundw
          case rel => exact ⟨k + 1, by go_num, by omega, by omega, ⟨HK.out.1.step (pw_below_drewN (Below.refl _ _) _), by rw [HAny.out, HK.out.2]; simpa using HQP.out⟩⟩
          case measure => simp [intOf]; omega
      · have hkl : k = ps.length := by omega
        subst hkl
        have HIn : Aside0 ((ps.any fun q => q.f0 == p.f0) = false) := ⟨by have h := HK.out.2; rwa [show ps.take ((ps.length : Nat) : Int).toNat = ps by simp] at h⟩
        obtain ⟨b0, b1, b2⟩ := HK.out.1.cells
        have hm1 := H3.out.2.1
        go_upto_region 9 with (fail)
        go_cut [58] (fun s58 wx => s58 = .bool (ldy ps p) ∧ Aside0 (Pst w wx p A c))
        case first =>
          by_cases hn : 0 < (ps.length : Int)
          · have hn1 : decide (0 < ps.length) = true := decide_eq_true (by omega)
            obtain ⟨m, hm⟩ : ∃ m : Int, m = ps.length - 1 := ⟨_, rfl⟩
            have HM := Aside0.mk hm
            have hw1 : IntKind.i64.wrap ((ps.length : Int) - 1) = m := by rw [hm]; exact Go.IntWalk.i64_in _ (by omega)
            have hm0 : 0 ≤ m := by omega
            have hm1 : m < ps.length := by omega
            clear hm hn
            obtain ⟨ad, A2, c2, rfl, -, e1, -, -, -⟩ := at_T24 H3.out m hm0 hm1
            have e1' := (HK.out.1.below.cell (World.block_lt_of_cell? w _ e1)).trans e1
            clear e1
            go_quiet (fail)
            go_wp2_with fail
            go_meet
            exact ⟨by unfold ldy; rw [decide_eq_true (show 0 < (ps.length : Int) by omega), ← HM.out]; rfl, ⟨HK.out.1.step (pw_below_drewN (Below.refl _ _) _)⟩⟩
          · have hn1 : decide (0 < ps.length) = false := decide_eq_false (by omega)
            go_quiet (fail)
            go_wp2_with fail
            go_meet
            exact ⟨by unfold ldy; rw [decide_eq_false (show ¬ 0 < (ps.length : Int) by omega)]; rfl, ⟨HK.out.1.step (pw_below_drewN (Below.refl _ _) _)⟩⟩
        case rest =>
          obtain ⟨rfl, HP⟩ := hcut
          clear HK d0 b0 b1 b2
          cases hld : ldy ps p with
          | true =>
            have HLd := Aside0.mk hld
            clear hld
            go_wp2
            go_ret
            exact PPost.bad HL.out H0.out (by unfold postE; rw [if_pos HZ.out, HIn.out, if_neg (by decide), if_pos HLd.out]) (by decide) HP.out.below
          | false =>
            have HLd := Aside0.mk hld
            clear hld
            obtain ⟨b0, b1, b2⟩ := HP.out.cells
            go_wp2_with fail
            have HX : Aside0 (XX w0 wc F g ps A1 c1) := ⟨Kd.R_below HR.out HP.out.below, fun k hk => Nat.lt_of_lt_of_le (HF.out k hk).2 HP.out.below.size, Nat.lt_of_lt_of_le hgl HP.out.below.size, H0.out.trans (HP.out.below.mono H0.out.size), hps⟩
            have hsz16 : p.f2.length ≤ 1000000 := by have := (chk_fine p HZ.out).len; omega
            have HCo : Aside0 (∀ W, Below wc.heap.size wc W → Calls Tryd.prog 39 #[.agg #[.int .i64 p.f0, .int .i64 p.f1, .slice A p.f2.length c]] W fun e wq => ∃ vq : Value, e = .returned (.agg #[.int .i64 p.f0, .int .i64 p.f1, vq]) ∧ QF w0 wc wq vq p.f2 ∧ Below wc.heap.size wc wq ∧ Below W.heap.size W wq) := ⟨fun W hB =>
              (dancestudioref55_copied.calls p.f0 p.f1 A c p.f2 p.f0 p.f1 p.f2 W (Kd.C_below (Kd.C_below HI.out HP.out.below) hB) hc (rcopied_f p.f0 p.f1 p.f2 hsz16)).mono (by
                rintro e wq ⟨vq, rfl, hR, hb⟩
                exact ⟨vq, rfl, QF.of HX.out.b0.size hB.size hR, hB.trans (hb.mono hB.size), hb⟩)⟩
            have four : Aside0 (∀ W', Below wc.heap.size wc W' → W'.cell? ⟨g, 0, none⟩ = some (.slice A1 ps.length c1) ∧ W'.cell? ⟨w.heap.size, 0, none⟩ = some (.int .i64 p.f0) ∧ W'.cell? ⟨w.heap.size, 1, none⟩ = some (.int .i64 p.f1) ∧ W'.cell? ⟨w.heap.size, 2, none⟩ = some (.slice A p.f2.length c)) := ⟨fun W' hb =>
              ⟨((HP.out.step hb).below.cell (p := ⟨g, 0, none⟩) hgl).trans c0, (HP.out.step hb).cells⟩⟩
            have hB0 : Below wc.heap.size wc (wc.alloc (.cells #[] 24)).drew := below_drew1 (below_alloc (Below.refl _ _) _)
            have HA0 : Aside0 (AF w0 wc (wc.alloc (.cells #[] 24)).drew wc.heap.size) := ⟨(AF.new HX.out.b0.size (Below.refl _ _)).below (below_drew1 (Below.refl _ _))⟩
            have hc1 := Aside0.mk (HCo.out wc.drew (below_drew1 (Below.refl _ _)))
            have hc2 := Aside0.mk (HCo.out _ hB0)
            clear hsz16 b0 b1 b2
            go_cut [7] (fun s7 wx => ∃ (gm : Nat) (A2 : Option Addr) (c2 : Nat), s7 = .pointer (some ⟨gm, 0, none⟩) ∧ Aside0 (Mr w0 w wx F g ps p A c gm A2 c2))
            case first =>
              go_region_held3 (fun W' => W'.cell? ⟨g, 0, none⟩ = some (.slice A1 ps.length c1) ∧ W'.cell? ⟨w.heap.size, 0, none⟩ = some (.int .i64 p.f0) ∧ W'.cell? ⟨w.heap.size, 1, none⟩ = some (.int .i64 p.f1) ∧ W'.cell? ⟨w.heap.size, 2, none⟩ = some (.slice A p.f2.length c))
                ((exact four.out _ (by repeat (first | (with_reducible first | exact hBX | exact Below.refl _ _ | apply below_alloc | apply below_drew1) | exact Below.refl _ _))))
                (first
                  | (go_at_call 39; (with_reducible refine hc1.out.mono ?_); rintro e q1 ⟨v1q, rfl, hQ1, hBX, hb1⟩)
                  | (go_at_call 39; (with_reducible refine hc2.out.mono ?_); rintro e q2 ⟨v2q, rfl, hQ2, hBX, hb2⟩; have hA2 := HA0.out.below hb2)
                  | (go_at_call 39; have hc3_ := HCo.out wb1 hR1.below; (with_reducible refine hc3_.mono ?_); clear hc3_; rintro e q3 ⟨v3q, rfl, hQ3, hBX, hb3⟩; have hR3 := hR1.step hb3)
                  | (refine stepB (W := (wc.alloc (.cells #[] 24)).drew) rfl _ _ rfl rfl rfl HX.out HA0.out hB0 ?_; intro vb1 wb1 hR1 hg1; have hBX := hR1.below)
                  | (refine stepB (W := q2) rfl _ _ rfl rfl rfl HX.out hA2 hBX ?_; intro vb2 wb2 hR2 hg2; have hQb2 := hQ2.grown hA2 hg2; have hBX := hR2.below)
                  | (refine stepB (W := q2.alloc (.cells #[.int .i64 p.f0, .int .i64 p.f1, v2q] 24)) rfl _ _ rfl rfl rfl HX.out (hA2.below (below_alloc (Below.refl _ _) (.cells #[.int .i64 p.f0, .int .i64 p.f1, v2q] 24))) (below_alloc hBX _) ?_; intro vb3 wb3 hR3b hg3; have hQb3 := (hQ2.below (below_alloc (Below.refl _ _) _)).grown (hA2.below (below_alloc (Below.refl _ _) (.cells #[.int .i64 p.f0, .int .i64 p.f1, v2q] 24))) hg3; have hDb3 := (DF.new q2 p v2q).grown (hA2.below (below_alloc (Below.refl _ _) (.cells #[.int .i64 p.f0, .int .i64 p.f1, v2q] 24))) hg3; have hBX := hR3b.below)
                  | (refine stepB (W := q1.alloc (.cells #[] 24)) rfl _ _ rfl rfl rfl HX.out (AF.new (W := q1) HX.out.b0.size hBX) (below_alloc hBX _) ?_; intro vb4 wb4 hR4 hg4; have hQb4 := (hQ1.below (below_alloc (Below.refl _ _) _)).grown (AF.new (W := q1) HX.out.b0.size hBX) hg4; have hBX := hR4.below)
                  | (refine stepB (W := (q1.alloc (.cells #[] 24)).alloc (.cells #[.int .i64 p.f0, .int .i64 p.f1, v1q] 24)) rfl _ _ rfl rfl rfl HX.out (AF.below (AF.new (W := q1) HX.out.b0.size hBX) (below_alloc (Below.refl _ _) (.cells #[.int .i64 p.f0, .int .i64 p.f1, v1q] 24))) (below_alloc (below_alloc hBX _) _) ?_; intro vb5 wb5 hR5 hg5; have hQb5 := ((hQ1.below (below_alloc (Below.refl _ _) (.cells #[] 24))).below (below_alloc (Below.refl _ _) _)).grown (AF.below (AF.new (W := q1) HX.out.b0.size hBX) (below_alloc (Below.refl _ _) (.cells #[.int .i64 p.f0, .int .i64 p.f1, v1q] 24))) hg5; have hDb5 := (DF.new (q1.alloc (.cells #[] 24)) p v1q).grown (AF.below (AF.new (W := q1) HX.out.b0.size hBX) (below_alloc (Below.refl _ _) (.cells #[.int .i64 p.f0, .int .i64 p.f1, v1q] 24))) hg5; have hBX := hR5.below)
                  | (refine stepB (W := (q1.alloc (.cells #[.int .i64 p.f0, .int .i64 p.f1, v1q] 24)).alloc (.cells #[] 24)) rfl _ _ rfl rfl rfl HX.out (AF.new (W := q1.alloc (.cells #[.int .i64 p.f0, .int .i64 p.f1, v1q] 24)) HX.out.b0.size (below_alloc hBX _)) (below_alloc (below_alloc hBX _) _) ?_; intro vb6 wb6 hR6 hg6; have hQb6 := ((hQ1.below (below_alloc (Below.refl _ _) (.cells #[.int .i64 p.f0, .int .i64 p.f1, v1q] 24))).below (below_alloc (Below.refl _ _) _)).grown (AF.new (W := q1.alloc (.cells #[.int .i64 p.f0, .int .i64 p.f1, v1q] 24)) HX.out.b0.size (below_alloc hBX _)) hg6; have hDb6 := ((DF.new q1 p v1q).below (below_alloc (Below.refl _ _) _)).grown (AF.new (W := q1.alloc (.cells #[.int .i64 p.f0, .int .i64 p.f1, v1q] 24)) HX.out.b0.size (below_alloc hBX _)) hg6; have hBX := hR6.below)
                  | (refine stepE (W := q3.alloc (.cells #[.int .i64 p.f0, .int .i64 p.f1, v3q] 24)) rfl _ _ rfl rfl rfl HX.out (hR3.step (below_alloc (Below.refl _ _) _)) (DF.new q3 p v3q) (hQ3.below (below_alloc (Below.refl _ _) _)) ?_; intro ve we hE; obtain ⟨A2, c2, rfl⟩ := hE.slice; have hBX := hE.below; have HDone := Aside0.mk (Mr.of HP.out hE))
                  | (refine stepE (W := wb2.alloc (.cells #[.int .i64 p.f0, .int .i64 p.f1, v2q] 24)) rfl _ _ rfl rfl rfl HX.out (hR2.step (below_alloc (Below.refl _ _) _)) (DF.new wb2 p v2q) (hQb2.below (below_alloc (Below.refl _ _) _)) ?_; intro ve we hE; obtain ⟨A2, c2, rfl⟩ := hE.slice; have hBX := hE.below; have HDone := Aside0.mk (Mr.of HP.out hE))
                  | (refine stepE (W := wb3) rfl _ _ rfl rfl rfl HX.out hR3b hDb3 hQb3 ?_; intro ve we hE; obtain ⟨A2, c2, rfl⟩ := hE.slice; have hBX := hE.below; have HDone := Aside0.mk (Mr.of HP.out hE))
                  | (refine stepE (W := wb4.alloc (.cells #[.int .i64 p.f0, .int .i64 p.f1, v1q] 24)) rfl _ _ rfl rfl rfl HX.out (hR4.step (below_alloc (Below.refl _ _) _)) (DF.new wb4 p v1q) (hQb4.below (below_alloc (Below.refl _ _) _)) ?_; intro ve we hE; obtain ⟨A2, c2, rfl⟩ := hE.slice; have hBX := hE.below; have HDone := Aside0.mk (Mr.of HP.out hE))
                  | (refine stepE (W := wb5) rfl _ _ rfl rfl rfl HX.out hR5 hDb5 hQb5 ?_; intro ve we hE; obtain ⟨A2, c2, rfl⟩ := hE.slice; have hBX := hE.below; have HDone := Aside0.mk (Mr.of HP.out hE))
                  | (refine stepE (W := wb6) rfl _ _ rfl rfl rfl HX.out hR6 hDb6 hQb6 ?_; intro ve we hE; obtain ⟨A2, c2, rfl⟩ := hE.slice; have hBX := hE.below; have HDone := Aside0.mk (Mr.of HP.out hE)))
              all_goals
                go_wp2_with fail
                go_meet
                exact ⟨_, _, _, rfl, HDone⟩
            case rest =>
              obtain ⟨gm, A2, c2, rfl, HM⟩ := hcut
              clear HX HCo four hB0 HA0 hc1 hc2
              obtain ⟨b0, b1, b2⟩ := HM.out.pst.cells
              go_wp2
              go_loopw [8] (fun vi wr => ∃ k : Int, vi = .int .i64 k ∧ 0 ≤ k ∧ k ≤ p.f2.length ∧ Aside0 (Mr w0 w wr F g ps p A c gm A2 c2 ∧ (p.f2.take k.toNat).any (ov ps p) = false)) (fun i _ => p.f2.length - (intOf i).toNat)
              case atStart => exact ⟨0, rfl, by omega, by omega, ⟨HM.out, rfl⟩⟩
              case round =>
                clear b0 b1 b2 HM
                obtain ⟨k, rfl, hk0, hk1, HK⟩ := hrel
                obtain ⟨b0, b1, b2⟩ := HK.out.1.pst.cells
                by_cases hlt : k < p.f2.length
                · obtain ⟨ad2, rfl, x0, x1⟩ := at_T38 HI.out k hk0 hlt
                  have HAny := Aside0.mk (any_snoc p.f2 (ov ps p) k hk0 hlt)
                  obtain ⟨x, hx⟩ : ∃ x, x = rI p.f2 k := ⟨_, rfl⟩
                  have HXm : Aside0 (x ∈ p.f2) := ⟨by rw [hx]; exact rI_mem p.f2 k hk0 hlt⟩
                  rw [← hx] at HAny
                  rw [show rd_T38 p.f2 k = x from hx.symm] at x0 x1
                  have y0 := (HK.out.1.pst.below.cell (World.block_lt_of_cell? w _ x0)).trans x0
                  have HBa := Aside0.mk (RBal_calls wr gm (ps ++ [p]) x.f0 HK.out.1.led)
                  clear hx x0 x1
                  go_wp2_with fail
                  refine HBa.out.mono ?_
                  rintro e w' ⟨rfl, rfl⟩
                  obtain ⟨n, hn⟩ : ∃ n, n = tot (ps ++ [p]) x.f0 65536 := ⟨_, rfl⟩
                  have HN : Aside0 (ov ps p x = ovN n) := ⟨by unfold ov; rw [hn, tot_app]⟩
                  rw [← hn]
                  clear hn HBa
                  by_cases h1 : n < -1099511627776
                  · have h1' : decide (n < -1099511627776) = true := decide_eq_true h1
                    have HX := Aside0.mk h1
                    clear h1
                    go_wp2
                    go_ret
                    exact PPost.bad HL.out H0.out (by unfold postE; rw [if_pos HZ.out, HIn.out, if_neg (by decide), HLd.out, if_neg (by decide), if_pos (List.any_eq_true.2 ⟨x, HXm.out, by rw [HN.out]; unfold ovN; rw [h1']; rfl⟩)]) (by decide) HK.out.1.pst.below
                  · have h1' : decide (n < -1099511627776) = false := decide_eq_false h1
                    have HX := Aside0.mk h1
                    clear h1
                    by_cases h2 : 1099511627776 < n
                    · have h2' : decide (1099511627776 < n) = true := decide_eq_true h2
                      have HY := Aside0.mk h2
                      clear h2
                      go_wp2
                      go_ret
                      exact PPost.bad HL.out H0.out (by unfold postE; rw [if_pos HZ.out, HIn.out, if_neg (by decide), HLd.out, if_neg (by decide), if_pos (List.any_eq_true.2 ⟨x, HXm.out, by rw [HN.out]; unfold ovN; rw [h2', Bool.or_true]⟩)]) (by decide) HK.out.1.pst.below
                    · have h2' : decide (1099511627776 < n) = false := decide_eq_false h2
                      have HY := Aside0.mk h2
                      clear h2
                      go_wp2
                      go_roundw
                      case rel => exact ⟨k + 1, by go_num, by omega, by omega, ⟨HK.out.1, by rw [HAny.out, HK.out.2, HN.out]; unfold ovN; rw [h1', h2']; rfl⟩⟩
                      case measure => simp [intOf]; omega
                · have hkl : k = p.f2.length := by omega
                  subst hkl
                  have HAny : Aside0 (p.f2.any (ov ps p) = false) := ⟨by have h := HK.out.2; rwa [show p.f2.take ((p.f2.length : Nat) : Int).toNat = p.f2 by simp] at h⟩
                  have d0 : wr.cell? ⟨g, 0, none⟩ = some (.slice A1 ps.length c1) := (HK.out.1.pst.below.cell (p := ⟨g, 0, none⟩) hgl).trans c0
                  have d1 : wr.frozen? ⟨g, 0, none⟩ = false := blk_frozen (blk_below HK1.out HK.out.1.pst.below) 0
                  have m0 : wr.cell? ⟨gm, 0, none⟩ = some (.slice A2 (ps.length + 1) c2) := (blk_cell HK.out.1.blk 0).trans rfl
                  by_cases hf : (ps.length : Int) = 512
                  · have hf' : ((ps.length : Int) == 512) = true := beq_iff_eq.mpr hf
                    have HFu : Aside0 (512 ≤ ps.length) := ⟨by omega⟩
                    clear hf
                    go_wp2
                    go_ret
                    exact PPost.bad HL.out H0.out (by unfold postE; rw [if_pos HZ.out, HIn.out, if_neg (by decide), HLd.out, if_neg (by decide), HAny.out, if_neg (by decide), if_pos HFu.out]) (by decide) HK.out.1.pst.below
                  · have hf' : ((ps.length : Int) == 512) = false := beq_eq_false_iff_ne.mpr hf
                    have HFu : Aside0 (¬ 512 ≤ ps.length) := ⟨by omega⟩
                    clear hf
                    go_wp2
                    go_ret
                    exact RPost_done HK1.out HK2.out HF.out H0.out HK.out.1.pst.below (by unfold postE; rw [if_pos HZ.out, HIn.out, if_neg (by decide), HLd.out, if_neg (by decide), HAny.out, if_neg (by decide), if_neg HFu.out]) HK.out.1.R
  · have HZ := Aside0.mk hz
    have hz' : (chk p != 0) = true := by simpa using hz
    clear hz
    go_wp2
    go_ret
    exact PPost.bad HL.out H0.out (by unfold postE; rw [if_neg HZ.out]) HZ.out HP2.out.below
end Go.Proofs.YtpmbljigdghmiaaDoor.Led
