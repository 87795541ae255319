/- Ledgers: LedQ, LedR, LW1, LW2, LW3 in one text. -/
import Derived.Test.YtpmbljigdghmiaaDoorLd6
namespace Go.Proofs.YtpmbljigdghmiaaDoor.Led
open Go.RowKit Go.Shelf Go.WideShapes Go.Proofs.YtpmbljigdghmiaaDoor.Ext Go.Proofs.YtpmbljigdghmiaaDoor.P Go.Proofs.YtpmbljigdghmiaaDoor.Idp Go.Proofs.YtpmbljigdghmiaaDoorW.PrintWords Go.Proofs.YtpmbljigdghmiaaDoorW.PrintLast Go.Proofs.YtpmbljigdghmiaaDoorW.PrintMore
def keyF : Nat → List UInt8 → List Nat
  | 0, _ => []
  | _ + 1, [] => []
  | n + 1, c :: l => if isDb c then 0 :: (numKey (c :: l.takeWhile isDb) ++ keyF n (l.dropWhile isDb)) else (1 + c.toNat) :: keyF n l
theorem key_eq : ∀ n l, l.length ≤ n → key l = keyF n l
  | 0, l => fun h => by
    have : l = [] := List.eq_nil_of_length_eq_zero (by omega)
    subst this; rw [key_nil]; rfl
  | n + 1, [] => fun _ => by rw [key_nil]; rfl
  | n + 1, c :: l => fun h => by
    simp only [List.length_cons] at h
    unfold keyF
    cases hc : isDb c with
    | true =>
      have := (List.dropWhile_suffix isDb (l := l)).length_le
      rw [key_digit hc, key_eq n _ (by omega)]; rfl
    | false => rw [key_other hc, key_eq n l (by omega)]; rfl
def ordF (a b : ByteArray) : Int := cmpI (keyF 24 a.data.toList) (keyF 24 b.data.toList)
theorem ord_eqF (a b : ByteArray) (ha : a.size ≤ 24) (hb : b.size ≤ 24) : ord a b = ordF a b := by
  unfold ord ordF
  rw [key_eq 24 _ (by rw [← Idp.size_eq]; exact ha), key_eq 24 _ (by rw [← Idp.size_eq]; exact hb)]
abbrev bx : ByteArray := ⟨#[98, 111, 120]⟩
abbrev ev : ByteArray := ⟨#[101, 118, 97]⟩
abbrev ki : ByteArray := ⟨#[107, 105, 109]⟩
abbrev lo : ByteArray := ⟨#[108, 111, 117]⟩
def I1 : List It := [⟨bx, -500⟩, ⟨ev, 300⟩, ⟨ki, 200⟩]
def P1 : Po := ⟨1, 3, I1⟩
def P2 : Po := ⟨2, 2, I1⟩
def I3 : List It := [⟨lo, 5⟩, ⟨lo, -5⟩]
def P3 : Po := ⟨2, 3, I3⟩
def I4 : List It := [⟨bx, 5⟩, ⟨ev, -4⟩]
def P4 : Po := ⟨3, 3, I4⟩
theorem vbx : vld bx = true := by decide +kernel
theorem vev : vld ev = true := by decide +kernel
theorem vki : vld ki = true := by decide +kernel
theorem vlo : vld lo = true := by decide +kernel
theorem e1 : postE [] P1 = 0 := by decide +kernel
theorem e2 : postE [P1] P1 = 7 := by decide +kernel
theorem e3 : postE [P1] P2 = 39 := by decide +kernel
theorem e4 : postE [P1] P3 = 0 := by decide +kernel
theorem e5 : postE [P1, P3] P4 = 2 := by decide +kernel
theorem t1 : tot [P1] bx 65536 = -500 := by decide +kernel
theorem t2 : tot [P1] ev 65536 = 300 := by decide +kernel
theorem t3 : tot [P1] ev 2 = 0 := by decide +kernel
theorem t4 : tot [P1] ev 3 = 300 := by decide +kernel
theorem ord3 : ord bx ev ≤ 0 ∧ ord bx ki ≤ 0 ∧ ord bx lo ≤ 0 ∧ ord ev ki ≤ 0 ∧ ord ev lo ≤ 0 ∧ ord ki lo ≤ 0 := by
  refine ⟨?_, ?_, ?_, ?_, ?_, ?_⟩ <;> (rw [ord_eqF _ _ (by decide) (by decide)]; decide +kernel)
theorem acc3 : Accs (evs [P1] 65536) [bx, ev, ki] := by
  obtain ⟨h1, h2, h3, h4, h5, h6⟩ := ord3
  refine ⟨by decide, fun s => ?_, by simp [h1, h2, h4]⟩
  simp [evs, P1, I1, names]
theorem acc4 : Accs (evs [P1, P3] 65536) [bx, ev, ki, lo] := by
  obtain ⟨h1, h2, h3, h4, h5, h6⟩ := ord3
  refine ⟨by decide, fun s => ?_, by simp [h1, h2, h3, h4, h5, h6]⟩
  simp [evs, P1, I1, P3, I3, names]
theorem vac3 : ∀ x ∈ evs [P1] 65536, vld x.f0 = true := by
  intro x hx
  simp [evs, P1, I1] at hx
  rcases hx with rfl | rfl | rfl
  · exact vbx
  · exact vev
  · exact vki
theorem vac4 : ∀ x ∈ evs [P1, P3] 65536, vld x.f0 = true := by
  intro x hx
  simp [evs, P1, I1, P3, I3] at hx
  rcases hx with rfl | rfl | rfl | rfl | rfl
  · exact vbx
  · exact vev
  · exact vki
  · exact vlo
  · exact vlo
/-- A row of items, written out. -/
def flat (xs : List It) : List Value := xs.flatMap fun x => [.string x.f0, .int .i64 x.f1]
theorem flat_get : ∀ (xs : List It) (j : Nat) (x : It) (i : Nat) (u : Value), xs[j]? = some x → ([Value.string x.f0, .int .i64 x.f1] : List Value)[i]? = some u → (flat xs)[j * 2 + i]? = some u
  | [], j, x, i, u, h, _ => by simp at h
  | y :: ys, 0, x, i, u, h, hu => by
    have e : y = x := by simpa using h
    subst e
    have hi : i < 2 := by
      rcases Nat.lt_or_ge i 2 with h | h
      · exact h
      · rw [List.getElem?_eq_none (by simpa using h)] at hu; cases hu
    show ([Value.string y.f0, .int .i64 y.f1] ++ flat ys)[0 * 2 + i]? = some u
    rw [Nat.zero_mul, Nat.zero_add, List.getElem?_append_left (by simpa using hi)]
    exact hu
  | y :: ys, j + 1, x, i, u, h, hu => by
    have ih := flat_get ys j x i u (by simpa using h) hu
    show ([Value.string y.f0, .int .i64 y.f1] ++ flat ys)[(j + 1) * 2 + i]? = some u
    rw [List.getElem?_append_right (by simp; omega)]
    rw [show (j + 1) * 2 + i - ([Value.string y.f0, .int .i64 y.f1] : List Value).length = j * 2 + i by simp; omega]
    exact ih
theorem lit_C (W : World) (xs : List It) (hl : xs.length ≤ 1000) : Kd.C kIt (W.alloc (.cells (flat xs).toArray 38 (0, 0))) (some ⟨W.heap.size, 0, none⟩) xs.length xs := by
  refine ⟨rfl, by omega, fun _ => ⟨_, rfl, fun j x hj => ?_⟩⟩
  refine ⟨[.string x.f0, .int .i64 x.f1], rfl, k38_mk _ x, fun i u hu => ?_⟩
  rw [Addr.add_lit, Nat.zero_add]
  refine (blk_cell (blk_new W (.cells (flat xs).toArray 38 (0, 0))) _).trans ?_
  rw [List.getElem?_toArray]
  exact flat_get xs j x i u hj hu
/-- A ledger of the call's own. -/
def Own (w W : World) (g : Nat) (ps : List Po) : Prop := ∃ F : Nat → Prop, IsL tL F w W g ps ∧ Below w.heap.size w W
theorem Own.read {w W : World} {g : Nat} {ps : List Po} (h : Own w W g ps) : LR tL W g ps := by obtain ⟨F, h1, _⟩ := h; exact h1.read
theorem Own.below {w W W' : World} {g : Nat} {ps : List Po} (h : Own w W g ps) (hb : Below W.heap.size W W') : Own w W' g ps := by
  obtain ⟨F, h1, h2⟩ := h
  exact ⟨F, h1.below hb, h2.trans (hb.mono h2.size)⟩
theorem Own.bel {w W : World} {g : Nat} {ps : List Po} (h : Own w W g ps) : Below w.heap.size w W := by obtain ⟨F, _, h2⟩ := h; exact h2
theorem Own.post {w W : World} {g : Nat} {ps : List Po} (h : Own w W g ps) (p : Po) (A : Option Addr) (c : Nat) (hps : ps.length ≤ 512) (hC : Kd.C kIt W A p.f2.length p.f2) (hc : p.f2.length ≤ c) (hsh : Sh w) :
    Calls Tryd.prog 17 #[.pointer (some ⟨g, 0, none⟩), .agg #[.int .i64 p.f0, .int .i64 p.f1, .slice A p.f2.length c]] W fun e W' => e = .returned (.int .i64 (postE ps p)) ∧ Own w W' g (postS ps p) := by
  obtain ⟨F, h1, h2⟩ := h
  refine (Post_calls w W F g ps p A c h1 h2 hps hC hc (hsh.below h2)).mono ?_
  rintro e W' ⟨rfl, F', h3, _, _, h4⟩
  exact ⟨rfl, F', h3, h4⟩
theorem New_own (w : World) : Calls Tryd.prog 15 #[] w fun e W => ∃ g, e = .returned (.pointer (some ⟨g, 0, none⟩)) ∧ Own w W g [] :=
  (New_calls w).mono (by
    rintro e W ⟨g, F, rfl, h1, h2⟩
    exact ⟨g, rfl, F, h1, h2⟩)
end Go.Proofs.YtpmbljigdghmiaaDoor.Led

namespace Go.Proofs.YtpmbljigdghmiaaDoor.Led
open Go.RowKit Go.Shelf Go.WideShapes Go.Proofs.YtpmbljigdghmiaaDoor.Ext Go.Proofs.YtpmbljigdghmiaaDoor.P Go.Proofs.YtpmbljigdghmiaaDoor.Idp Go.Proofs.YtpmbljigdghmiaaDoorW.PrintWords Go.Proofs.YtpmbljigdghmiaaDoorW.PrintLast Go.Proofs.YtpmbljigdghmiaaDoorW.PrintMore
theorem names_l0 (l : List ByteArray) : ∀ (n i k : Nat), i + n = l.length → n + 2 ≤ k → l.length ≤ 9223372036854775807 → dancestudioref55_Names.l0 k l l (i : Int) = some true
  | 0, i, k, hi, hk, hl => by
    obtain ⟨k1, rfl⟩ : ∃ k1, k = k1 + 1 := ⟨k - 1, by omega⟩
    simp only [dancestudioref55_Names.l0]
    rw [if_neg (by omega)]
  | n + 1, i, k, hi, hk, hl => by
    obtain ⟨k1, rfl⟩ : ∃ k1, k = k1 + 1 := ⟨k - 1, by omega⟩
    have hw : wrap64 ((i : Int) + 1) = ((i + 1 : Nat) : Int) := by unfold wrap64; omega
    have ih := names_l0 l n (i + 1) k1 (by omega) (by omega) hl
    simp only [dancestudioref55_Names.l0]
    rw [if_pos (by omega), if_pos (by omega), if_pos (by omega), hw, ih]
    simp
theorem names_f (l : List ByteArray) (hl : l.length ≤ 9223372036854775807) : dancestudioref55_Names.f (l.length + 2) l l = some true := by
  unfold dancestudioref55_Names.f
  have h := names_l0 l l.length 0 (l.length + 2) (by omega) (by omega) hl
  simpa using h
set_option maxHeartbeats 2000000 in
theorem first_calls (w : World) : Calls Tryd.prog 34 #[] w fun e W => ∃ b : Nat, e = .returned (.agg #[.int .i64 1, .int .i64 3, .slice (some ⟨b, 0, none⟩) 3 3]) ∧ Kd.C kIt W (some ⟨b, 0, none⟩) I1.length I1 ∧ Below w.heap.size w W := by
  go_enter Tryd.func34, Tryd.ntmps34
  go_wp2
  refine bodyPost_ret (results_cell_row rfl _ _ w.heap.size 24 #[.int .i64 1, .int .i64 3, .slice (some ⟨w.heap.size + 1, 0, none⟩) 3 3] (0, 0) _ rfl ?blk Tryd.underlying24 rfl (by kernel_rfl)) rfl ?_
  case blk => exact blk_alloc (blk_new w _) _
  refine ⟨w.heap.size + 1, rfl, ?_, below_alloc (below_alloc (Below.refl _ _) _) _⟩
  have h := lit_C (w.alloc (.cells #[.int .i64 1, .int .i64 3, .slice (some ⟨w.heap.size + 1, 0, none⟩) 3 3] 24 (0, 0))) I1 (by decide)
  rw [World.size_alloc] at h
  exact h
theorem E1 (w : World) (g : Nat) (W : World) (h : Own w W g []) (b : Nat) (hC : Kd.C kIt W (some ⟨b, 0, none⟩) I1.length I1) (hsh : Sh w) :
    Calls Tryd.prog 17 #[.pointer (some ⟨g, 0, none⟩), .agg #[.int .i64 1, .int .i64 3, .slice (some ⟨b, 0, none⟩) 3 3]] W fun e W' => e = .returned (.int .i64 0) ∧ Own w W' g [P1] :=
  (h.post P1 (some ⟨b, 0, none⟩) 3 (by decide) hC (by decide) hsh).mono (by
    rintro e W' ⟨rfl, h2⟩
    exact ⟨by rw [e1], by unfold postS at h2; rwa [if_pos e1] at h2⟩)
theorem E2 (w : World) (g : Nat) (W : World) (h : Own w W g [P1]) (b : Nat) (hC : Kd.C kIt W (some ⟨b, 0, none⟩) I1.length I1) (hsh : Sh w) :
    Calls Tryd.prog 17 #[.pointer (some ⟨g, 0, none⟩), .agg #[.int .i64 1, .int .i64 3, .slice (some ⟨b, 0, none⟩) 3 3]] W fun e W' => e = .returned (.int .i64 7) ∧ Own w W' g [P1] :=
  (h.post P1 (some ⟨b, 0, none⟩) 3 (by decide) hC (by decide) hsh).mono (by
    rintro e W' ⟨rfl, h2⟩
    exact ⟨by rw [e2], by unfold postS at h2; rwa [if_neg (by rw [e2]; decide)] at h2⟩)
theorem E3 (w : World) (g : Nat) (W : World) (h : Own w W g [P1]) (b : Nat) (hC : Kd.C kIt W (some ⟨b, 0, none⟩) I1.length I1) (hsh : Sh w) :
    Calls Tryd.prog 17 #[.pointer (some ⟨g, 0, none⟩), .agg #[.int .i64 2, .int .i64 2, .slice (some ⟨b, 0, none⟩) 3 3]] W fun e W' => e = .returned (.int .i64 39) ∧ Own w W' g [P1] :=
  (h.post P2 (some ⟨b, 0, none⟩) 3 (by decide) hC (by decide) hsh).mono (by
    rintro e W' ⟨rfl, h2⟩
    exact ⟨by rw [e3], by unfold postS at h2; rwa [if_neg (by rw [e3]; decide)] at h2⟩)
theorem E4 (w : World) (g : Nat) (W : World) (h : Own w W g [P1]) (b : Nat) (hC : Kd.C kIt W (some ⟨b, 0, none⟩) I3.length I3) (hsh : Sh w) :
    Calls Tryd.prog 17 #[.pointer (some ⟨g, 0, none⟩), .agg #[.int .i64 2, .int .i64 3, .slice (some ⟨b, 0, none⟩) 2 2]] W fun e W' => e = .returned (.int .i64 0) ∧ Own w W' g [P1, P3] :=
  (h.post P3 (some ⟨b, 0, none⟩) 2 (by decide) hC (by decide) hsh).mono (by
    rintro e W' ⟨rfl, h2⟩
    exact ⟨by rw [e4], by unfold postS at h2; rwa [if_pos e4] at h2⟩)
theorem E5 (w : World) (g : Nat) (W : World) (h : Own w W g [P1, P3]) (b : Nat) (hC : Kd.C kIt W (some ⟨b, 0, none⟩) I4.length I4) (hsh : Sh w) :
    Calls Tryd.prog 17 #[.pointer (some ⟨g, 0, none⟩), .agg #[.int .i64 3, .int .i64 3, .slice (some ⟨b, 0, none⟩) 2 2]] W fun e W' => e = .returned (.int .i64 2) ∧ Own w W' g [P1, P3] :=
  (h.post P4 (some ⟨b, 0, none⟩) 2 (by decide) hC (by decide) hsh).mono (by
    rintro e W' ⟨rfl, h2⟩
    exact ⟨by rw [e5], by unfold postS at h2; rwa [if_neg (by rw [e5]; decide)] at h2⟩)
theorem A3_calls (w : World) (g : Nat) (W : World) (h : Own w W g [P1]) (hsh : Sh w) :
    Calls Tryd.prog 24 #[.pointer (some ⟨g, 0, none⟩)] W fun e W' => ∃ A c, e = .returned (.slice A 3 c) ∧ Kd.C Kd.string W' A 3 [bx, ev, ki] ∧ 3 ≤ c ∧ Own w W' g [P1] :=
  (Accounts_calls W g [P1] h.read vac3 (by decide) (hsh.below h.bel)).mono (by
    rintro e W' ⟨v, l, rfl, ha, hR, hb⟩
    have e : l = [bx, ev, ki] := ha.unique acc3
    subst e
    obtain ⟨A, c, rfl, h1, h2⟩ := Kd.R_reads hR
    exact ⟨A, c, rfl, h2, h1, h.below hb⟩)
theorem A4_calls (w : World) (g : Nat) (W : World) (h : Own w W g [P1, P3]) (hsh : Sh w) :
    Calls Tryd.prog 24 #[.pointer (some ⟨g, 0, none⟩)] W fun e W' => ∃ A c, e = .returned (.slice A 4 c) ∧ Own w W' g [P1, P3] :=
  (Accounts_calls W g [P1, P3] h.read vac4 (by decide) (hsh.below h.bel)).mono (by
    rintro e W' ⟨v, l, rfl, ha, hR, hb⟩
    have e : l = [bx, ev, ki, lo] := ha.unique acc4
    subst e
    obtain ⟨A, c, rfl, h1, h2⟩ := Kd.R_reads hR
    exact ⟨A, c, rfl, h.below hb⟩)
theorem slit_C (W : World) (xs : List ByteArray) (hl : xs.length ≤ 1000) : Kd.C Kd.string (W.alloc (.cells (xs.map Value.string).toArray 9 (0, 0))) (some ⟨W.heap.size, 0, none⟩) xs.length xs := by
  refine ⟨rfl, by omega, fun _ => ⟨_, rfl, fun j x hj => ?_⟩⟩
  refine ⟨[.string x], rfl, rfl, fun i u hu => ?_⟩
  have hi : i = 0 := by
    cases i with
    | zero => rfl
    | succ i => simp at hu
  subst hi
  rw [Addr.add_lit, Nat.zero_add]
  refine (blk_cell (blk_new W (.cells (xs.map Value.string).toArray 9 (0, 0))) _).trans ?_
  rw [List.getElem?_toArray, show j * Kd.string.sz + 0 = j from Nat.mul_one j, List.getElem?_map, hj]
  exact hu
theorem field2 (w : World) (a b : Value) (A : Option Addr) (n c : Nat) : Sem.run Tryd.prog (Instr.field 24 (.agg #[a, b, .slice A n c]) 2) w = .ok (.slice A n c) w := by
  unfold Instr.field
  simp [Sem.run_bind, run_underlying Tryd.underlying24, part, asAgg, isAgg, run_underlying Tryd.underlying22]
set_option maxHeartbeats 4000000 in
set_option maxRecDepth 100000 in
theorem awake_calls (w : World) (hsh : Sh w) : Calls Tryd.prog 13 #[] w fun e W => e = .returned (.bool true) ∧ Below w.heap.size w W := by
  have HSh := Aside0.mk hsh
  have hu1 := Tryd.underlying24
  have hu2 := Tryd.underlying38
  clear hsh
  go_enter Tryd.func13, Tryd.ntmps13
  go_wp2_with fail
  refine (New_own w).mono ?_
  rintro e w1 ⟨g, rfl, hO⟩
  have HO1 := Aside0.mk hO
  clear hO
  go_wp2_with fail
  refine (first_calls w1).mono ?_
  rintro e w2 ⟨b1, rfl, hC, hb⟩
  have HE := Aside0.mk (E1 w g w2 (HO1.out.below hb) b1 hC HSh.out)
  clear hC hb HO1
  go_wp2_with fail
  refine HE.out.mono ?_
  rintro e w3 ⟨rfl, hO⟩
  have HO3 := Aside0.mk hO
  clear hO HE
  go_wp2_with fail
  refine (first_calls w3).mono ?_
  rintro e w4 ⟨b2, rfl, hC, hb⟩
  have HE := Aside0.mk (E2 w g w4 (HO3.out.below hb) b2 hC HSh.out)
  clear hC hb HO3
  go_wp2_with fail
  refine HE.out.mono ?_
  rintro e w5 ⟨rfl, hO⟩
  have HO5 := Aside0.mk hO
  have HB := Aside0.mk (Bal_calls w5 g [P1] bx hO.read)
  clear hO HE
  go_wp2_with fail
  refine HB.out.mono ?_
  rintro e w6 ⟨rfl, hb⟩
  rw [t1]
  have HO6 := Aside0.mk (HO5.out.below hb)
  have HB2 := Aside0.mk (Bal_calls w6 g [P1] ev HO6.out.read)
  clear hb HB HO5
  go_wp2_with fail
  refine HB2.out.mono ?_
  rintro e w7 ⟨rfl, hb⟩
  rw [t2]
  have HO7 := Aside0.mk (HO6.out.below hb)
  have HB3 := Aside0.mk (On_calls w7 g [P1] ev 2 HO7.out.read)
  clear hb HB2 HO6
  go_wp2_with fail
  refine HB3.out.mono ?_
  rintro e w8 ⟨rfl, hb⟩
  rw [t3]
  have HO8 := Aside0.mk (HO7.out.below hb)
  have HB4 := Aside0.mk (On_calls w8 g [P1] ev 3 HO8.out.read)
  clear hb HB3 HO7
  go_wp2_with fail
  refine HB4.out.mono ?_
  rintro e w9 ⟨rfl, hb⟩
  rw [t4]
  have HO9 := Aside0.mk (HO8.out.below hb)
  have HA := Aside0.mk (A3_calls w g w9 HO9.out HSh.out)
  clear hb HB4 HO8
  go_wp2_with fail
  refine HA.out.mono ?_
  rintro e w10 ⟨A, c, rfl, hC, hc, hO⟩
  have HO10 := Aside0.mk hO
  have HN := Aside0.mk (dancestudioref55_Names.calls 5 A c [bx, ev, ki] (some ⟨w10.heap.size, 0, none⟩) 3 [bx, ev, ki] true _ (Kd.C_below hC (below_alloc (Below.refl _ _) _)) hc (slit_C w10 [bx, ev, ki] (by decide)) (by decide) (names_f [bx, ev, ki] (by decide)))
  clear hO hC hc HA HO9
  go_wp2_with fail
  refine HN.out.mono ?_
  rintro e w11 ⟨rfl, ⟨nd, rfl⟩⟩
  have HO11 := Aside0.mk (HO10.out.below (pw_below_drewN (below_alloc (Below.refl _ _) (.cells #[.string bx, .string ev, .string ki] 9 (0, 0))) nd))
  clear HN HO10
  go_wp2_with fail
  refine (first_calls _).mono ?_
  rintro e w12 ⟨b3, rfl, hC, hb⟩
  have hfl := field2 w12 (.int .i64 1) (.int .i64 3) (some ⟨b3, 0, none⟩) 3 3
  have HE := Aside0.mk (E3 w g w12 (HO11.out.below hb) b3 hC HSh.out)
  clear hC hb HO11
  go_wp2_with fail
  refine HE.out.mono ?_
  rintro e w13 ⟨rfl, hO⟩
  have HO13 := Aside0.mk hO
  have hL3 : Kd.C kIt (w13.alloc (.cells #[.string lo, .int .i64 5, .string lo, .int .i64 (-5)] 38 (0, 0))) (some ⟨w13.heap.size, 0, none⟩) I3.length I3 := lit_C w13 I3 (by decide)
  have HE4 := Aside0.mk (E4 w g _ (HO13.out.below (below_alloc (Below.refl _ _) _)) w13.heap.size hL3 HSh.out)
  clear hO HE HO13 hL3
  go_wp2_with fail
  refine HE4.out.mono ?_
  rintro e w14 ⟨rfl, hO⟩
  have HO14 := Aside0.mk hO
  have hL4 : Kd.C kIt (w14.alloc (.cells #[.string bx, .int .i64 5, .string ev, .int .i64 (-4)] 38 (0, 0))) (some ⟨w14.heap.size, 0, none⟩) I4.length I4 := lit_C w14 I4 (by decide)
  have HE5 := Aside0.mk (E5 w g _ (HO14.out.below (below_alloc (below_alloc (Below.refl _ _) _) (.cells #[.int .i64 3, .int .i64 3, .slice (some ⟨w14.heap.size, 0, none⟩) 2 2] 24 (0, 0)))) w14.heap.size (Kd.C_below hL4 (below_alloc (Below.refl _ _) _)) HSh.out)
  clear hO HE4 hL4 HO14
  go_wp2_with fail
  refine HE5.out.mono ?_
  rintro e w15 ⟨rfl, hO⟩
  have HO15 := Aside0.mk hO
  have HA4 := Aside0.mk (A4_calls w g w15 HO15.out HSh.out)
  clear hO HE5
  go_wp2_with fail
  refine HA4.out.mono ?_
  rintro e w16 ⟨A4, c4, rfl, hO⟩
  have HO16 := Aside0.mk hO
  have HPs := Aside0.mk (Postings_calls w16 g [P1, P3] HO16.out.read ⟨by decide, by decide⟩)
  clear hO HA4 HO15
  go_wp2_with fail
  refine HPs.out.mono ?_
  rintro e w17 ⟨v17, rfl, hR, hb⟩
  obtain ⟨A5, c5, rfl⟩ := Kd.R_slice hR
  rw [show ([P1, P3] : List Po).length = 2 from rfl]
  have HO17 := Aside0.mk (HO16.out.below hb)
  have HCp := Aside0.mk (Copy_calls w17 g [P1, P3] HO17.out.read ⟨by decide, by decide⟩)
  clear hR hb HPs HO16
  go_wp2_with fail
  refine HCp.out.mono ?_
  rintro e w18 ⟨g2, F2, rfl, hI, hb⟩
  have HO18 := Aside0.mk (HO17.out.below hb)
  clear hI hb HCp HO17
  go_wp2
  go_ret
  exact ⟨rfl, HO18.out.bel⟩
end Go.Proofs.YtpmbljigdghmiaaDoor.Led

namespace Go.Proofs.YtpmbljigdghmiaaDoor.Led
open Go.RowKit Go.Shelf Go.WideShapes Go.Proofs.YtpmbljigdghmiaaDoor.Ext Go.Proofs.YtpmbljigdghmiaaDoor.P Go.Proofs.YtpmbljigdghmiaaDoor.Idp Go.Proofs.YtpmbljigdghmiaaDoorW.PrintWords Go.Proofs.YtpmbljigdghmiaaDoorW.PrintLast Go.Proofs.YtpmbljigdghmiaaDoorW.PrintMore
/-- A list is small: as the reference says it. -/
def smallP (p : Po) (most : Int) : Bool := decide (¬ ((p.f2.length : Int) > most)) && p.f2.all fun x => decide (¬ ((x.f0.size : Int) > 60))
def small (l : List Po) (most : Int) : Bool := l.all fun p => smallP p most
theorem small_in (l : List Po) (most : Int) (i : Nat) (p : Po) (hi0 : (i : Int) < (l.length : Int)) (hp : rP l (i : Int) = p) (hpl : p.f2.length ≤ 1000) (hw : wrap64 ((i : Int) + 1) = ((i + 1 : Nat) : Int)) (b : Bool) (K : Nat)
    (hr : ∀ k, K ≤ k → dancestudioref55_small.l0 k l most ((i + 1 : Nat) : Int) = some b) :
    ∀ (m j k2 : Nat), j + m = p.f2.length → K + 2 + m ≤ k2 → dancestudioref55_small.l1 k2 l most (i : Int) (j : Int) = some ((p.f2.drop j).all (fun x => decide (¬ ((x.f0.size : Int) > 60))) && b)
  | 0, j, k2, hj, hk2 => by
    obtain ⟨k3, rfl⟩ : ∃ k3, k2 = k3 + 1 := ⟨k2 - 1, by omega⟩
    have e : p.f2.drop j = [] := List.drop_of_length_le (by omega)
    have h0 : (0 : Int) ≤ (i : Int) := by omega
    have h1 : ¬ (j : Int) < (p.f2.length : Int) := by omega
    have h2 := hr k3 (by omega)
    simp only [dancestudioref55_small.l1]
    rw [if_pos h0, if_pos hi0]
    show (if (j : Int) < ((rP l (i : Int)).f2.length : Int) then _ else _) = _
    rw [hp, if_neg h1, hw, h2, e]
    rfl
  | m + 1, j, k2, hj, hk2 => by
    obtain ⟨k3, rfl⟩ : ∃ k3, k2 = k3 + 1 := ⟨k2 - 1, by omega⟩
    have hw2 : wrap64 ((j : Int) + 1) = ((j + 1 : Nat) : Int) := by unfold wrap64; omega
    have ih := small_in l most i p hi0 hp hpl hw b K hr m (j + 1) k3 (by omega) (by omega)
    have h0 : (0 : Int) ≤ (i : Int) := by omega
    have h1 : (j : Int) < (p.f2.length : Int) := by omega
    have h2 : (0 : Int) ≤ (j : Int) := by omega
    have hd := drop_rI p.f2 j (by omega)
    simp only [dancestudioref55_small.l1]
    rw [if_pos h0, if_pos hi0]
    show (if (j : Int) < ((rP l (i : Int)).f2.length : Int) then (if 0 ≤ (j : Int) then (if ((rI (rP l (i : Int)).f2 (j : Int)).f0.size : Int) > 60 then _ else _) else _) else _) = _
    rw [hp, if_pos h1, if_pos h2, hd, hw2, ih, List.all_cons]
    by_cases h60 : ((rI p.f2 (j : Int)).f0.size : Int) > 60
    · rw [if_pos h60, decide_eq_false (not_not_intro h60)]; rfl
    · rw [if_neg h60, decide_eq_true h60, Bool.true_and]
theorem small_run (l : List Po) (most : Int) (hl : l.length ≤ 9223372036854775807) (hm : most ≤ 1000) (B : Nat) (hB : B = 1010) :
    ∀ (n i k : Nat), i + n = l.length → n * B + 5 ≤ k → dancestudioref55_small.l0 k l most (i : Int) = some (small (l.drop i) most)
  | 0, i, k, hi, hk => by
    obtain ⟨k1, rfl⟩ : ∃ k1, k = k1 + 1 := ⟨k - 1, by omega⟩
    simp only [dancestudioref55_small.l0]
    rw [if_neg (by omega), List.drop_of_length_le (by omega)]
    rfl
  | n + 1, i, k, hi, hk => by
    obtain ⟨k1, rfl⟩ : ∃ k1, k = k1 + 1 := ⟨k - 1, by omega⟩
    have ih : ∀ k2, n * B + 5 ≤ k2 → dancestudioref55_small.l0 k2 l most ((i + 1 : Nat) : Int) = some (small (l.drop (i + 1)) most) := fun k2 h => small_run l most hl hm B hB n (i + 1) k2 (by omega) h
    have hd : l.drop i = rP l (i : Int) :: l.drop (i + 1) := by
      rw [List.drop_eq_getElem_cons (by omega)]
      have h : i < l.length := by omega
      simp [rP, rd_T24, List.getD_eq_getElem?_getD, h]
    have hw : wrap64 ((i : Int) + 1) = ((i + 1 : Nat) : Int) := by unfold wrap64; omega
    have hi0 : (i : Int) < (l.length : Int) := by omega
    have hi1 : (0 : Int) ≤ (i : Int) := by omega
    simp only [dancestudioref55_small.l0]
    rw [if_pos hi0, if_pos hi1, hd]
    show (if ((rP l (i : Int)).f2.length : Int) > most then some false else _) = _
    obtain ⟨p, hp⟩ : ∃ p, rP l (i : Int) = p := ⟨_, rfl⟩
    rw [hp]
    unfold small
    rw [List.all_cons]
    by_cases hlen : (p.f2.length : Int) > most
    · have e : smallP p most = false := by unfold smallP; rw [decide_eq_false (not_not_intro hlen)]; rfl
      rw [if_pos hlen, e]; rfl
    · have e : smallP p most = p.f2.all fun x => decide (¬ ((x.f0.size : Int) > 60)) := by unfold smallP; rw [decide_eq_true hlen, Bool.true_and]
      have hpl : p.f2.length ≤ 1000 := by omega
      have hk' : n * B + 5 + 2 + p.f2.length ≤ k1 := by
        rw [Nat.add_mul] at hk
        omega
      have h := small_in l most i p hi0 hp hpl hw _ _ ih p.f2.length 0 k1 (by omega) hk'
      rw [List.drop_zero] at h
      rw [if_neg hlen, e]
      exact h
theorem light_f (l : List Po) (hl : l.length ≤ 9223372036854775807) : dancestudioref55_Light.f (l.length * 1010 + 5) l = some (decide ((l.length : Int) ≤ 40) && small l 20) := by
  unfold dancestudioref55_Light.f dancestudioref55_small.f
  have h := small_run l 20 hl (by decide) 1010 rfl l.length 0 _ (by omega) (Nat.le_refl _)
  rw [List.drop_zero] at h
  by_cases h40 : (l.length : Int) ≤ 40
  · rw [if_pos h40, decide_eq_true h40, Bool.true_and]; exact (congrArg (fun o => o.bind fun t => some t) h).trans rfl
  · rw [if_neg h40, decide_eq_false h40]; rfl
theorem long_f (l : List Po) (hl : l.length ≤ 9223372036854775807) : dancestudioref55_Long.f (l.length * 1010 + 5) l = some (decide ((l.length : Int) ≤ 520) && small l 4) := by
  unfold dancestudioref55_Long.f dancestudioref55_small.f
  have h := small_run l 4 hl (by decide) 1010 rfl l.length 0 _ (by omega) (Nat.le_refl _)
  rw [List.drop_zero] at h
  by_cases h40 : (l.length : Int) ≤ 520
  · rw [if_pos h40, decide_eq_true h40, Bool.true_and]; exact (congrArg (fun o => o.bind fun t => some t) h).trans rfl
  · rw [if_neg h40, decide_eq_false h40]; rfl
end Go.Proofs.YtpmbljigdghmiaaDoor.Led

namespace Go.Proofs.YtpmbljigdghmiaaDoor.Led
open Go.RowKit Go.Shelf Go.WideShapes Go.Proofs.YtpmbljigdghmiaaDoor.Ext Go.Proofs.YtpmbljigdghmiaaDoor.P Go.Proofs.YtpmbljigdghmiaaDoor.Idp Go.Proofs.YtpmbljigdghmiaaDoorW.PrintWords Go.Proofs.YtpmbljigdghmiaaDoorW.PrintLast Go.Proofs.YtpmbljigdghmiaaDoorW.PrintMore
theorem PostNil_calls (w : World) (a b : Value) (A : Option Addr) (n c : Nat) : Calls Tryd.prog 17 #[.pointer none, .agg #[a, b, .slice A n c]] w fun e W => e = .returned (.int .i64 10) ∧ Below w.heap.size w W := by
  go_enter Tryd.func17, Tryd.ntmps17
  go_wp2
  go_ret
  exact ⟨rfl, below_alloc (Below.refl _ _) _⟩
theorem Light_calls (l : List Po) (A : Option Addr) (c : Nat) (w : World) (hC : Kd.C kPo w A l.length l) (hc : l.length ≤ c) :
    Calls Tryd.prog 10 #[.slice A l.length c] w fun e W => e = .returned (.bool (decide ((l.length : Int) ≤ 40) && small l 20)) ∧ Below w.heap.size w W :=
  (dancestudioref55_Light.calls _ A c l _ w hC hc (light_f l hC.2.1)).mono (by
    rintro e W ⟨rfl, ⟨n, rfl⟩⟩
    exact ⟨rfl, pw_below_drewN (Below.refl _ _) _⟩)
theorem Light1_calls (w W0 : World) (p : Po) (A : Option Addr) (c : Nat) (hc : p.f2.length ≤ c) (hC : Kd.C kIt w A p.f2.length p.f2) (hb : Below w.heap.size w W0) :
    Calls Tryd.prog 10 #[.slice (some ⟨W0.heap.size, 0, none⟩) 1 1] (W0.alloc (.cells #[.int .i64 p.f0, .int .i64 p.f1, .slice A p.f2.length c] 24 (0, 0))) fun e W => e = .returned (.bool (small [p] 20)) ∧ Below w.heap.size w W :=
  (Light_calls [p] (some ⟨W0.heap.size, 0, none⟩) 1 _ (one_C W0 p A c hc (Kd.C_below hC hb)) (by simp)).mono (by
    rintro e W ⟨rfl, h⟩
    exact ⟨by simp, (below_alloc hb _).trans (h.mono (by simp; exact Nat.le_succ_of_le hb.size))⟩)
set_option maxHeartbeats 2000000 in
set_option maxRecDepth 100000 in
theorem LedgerNobody_walk (p : Po) (A : Option Addr) (c : Nat) (acct : ByteArray) (day : Int) (w : World) (hc : p.f2.length ≤ c) (hC : Kd.C kIt w A p.f2.length p.f2) (hsh : Sh w) :
    Calls Tryd.prog 9 #[.agg #[.int .i64 p.f0, .int .i64 p.f1, .slice A p.f2.length c], .string acct, .int .i64 day] w fun e W => e = .returned (.bool true) ∧ Below w.heap.size w W := by
  have HP := Aside0.mk (Pst.start w p A c)
  have HLi := Aside0.mk (Light1_calls _ _ p A c hc (Kd.C_below hC (Pst.start w p A c).below) (Below.refl _ _))
  have HSh := Aside0.mk hsh
  have hu1 := Tryd.underlying24
  clear hC hsh
  go_enter Tryd.func9, Tryd.ntmps9
  have hli := HLi.out
  rw [World.size_alloc] at hli
  have HLj := Aside0.mk hli
  clear hli HLi
  go_wp2_with fail
  refine HLj.out.mono ?_
  rintro e w1 ⟨rfl, hb⟩
  have HP1 := Aside0.mk (HP.out.step (by rw [World.size_alloc]; exact hb))
  have HB1 := Aside0.mk HP1.out.below
  clear hb HLj
  cases hs : small [p] 20 with
  | false =>
    clear hs
    go_wp2_with fail
    refine (awake_calls w1 (HSh.out.below HB1.out)).mono ?_
    rintro e w2 ⟨rfl, hb⟩
    have HB2 := Aside0.mk (HB1.out.trans (hb.mono HB1.out.size))
    clear hb
    go_wp2
    go_ret
    exact ⟨rfl, HB2.out⟩
  | true =>
    clear hs
    obtain ⟨b0, b1, b2⟩ := HP1.out.cells
    go_wp2_with fail
    refine (PostNil_calls w1 _ _ _ _ _).mono ?_
    rintro e w2 ⟨rfl, hb⟩
    have HB2 := Aside0.mk (HB1.out.trans (hb.mono HB1.out.size))
    clear hb b0 b1 b2
    go_wp2_with fail
    refine (BalNil_calls w2 acct).mono ?_
    rintro e w' ⟨rfl, rfl⟩
    go_wp2_with fail
    refine (OnNil_calls w2 acct day).mono ?_
    rintro e w' ⟨rfl, rfl⟩
    go_wp2_with fail
    refine (AccNil_calls w2).mono ?_
    rintro e w' ⟨rfl, rfl⟩
    go_wp2_with fail
    refine (PostingsNil_calls w2).mono ?_
    rintro e w' ⟨rfl, rfl⟩
    go_wp2_with fail
    refine (CopyNil_calls w2).mono ?_
    rintro e w' ⟨rfl, rfl⟩
    go_wp2_with fail
    refine (awake_calls w2 (HSh.out.below HB2.out)).mono ?_
    rintro e w3 ⟨rfl, hb⟩
    have HB3 := Aside0.mk (HB2.out.trans (hb.mono HB2.out.size))
    clear hb
    go_wp2
    go_ret
    exact ⟨rfl, HB3.out⟩
theorem LedgerNobody_row (w : World) (p : Po) (A : Option Addr) (c : Nat) (hC : Kd.C kIt w A p.f2.length p.f2) (hc : p.f2.length ≤ c) (acct : ByteArray) (_ : acct.size ≤ 140737488351232) (day : Int) {Pr : Prop} (_ : Pr) (hsh : Sh w) :
    Calls Tryd.prog 9 #[.agg #[.int .i64 p.f0, .int .i64 p.f1, .slice A p.f2.length c], .string acct, .int .i64 day] w fun e W => e = .returned (.bool true) ∧ Below w.heap.size w W :=
  LedgerNobody_walk p A c acct day w hc hC hsh
end Go.Proofs.YtpmbljigdghmiaaDoor.Led

namespace Go.Proofs.YtpmbljigdghmiaaDoor.Led
open Go.RowKit Go.Shelf Go.WideShapes Go.Proofs.YtpmbljigdghmiaaDoor.Ext Go.Proofs.YtpmbljigdghmiaaDoor.P Go.Proofs.YtpmbljigdghmiaaDoor.Idp Go.Proofs.YtpmbljigdghmiaaDoorW.PrintWords Go.Proofs.YtpmbljigdghmiaaDoorW.PrintLast Go.Proofs.YtpmbljigdghmiaaDoorW.PrintMore
theorem Light2_calls (wb : World) (p : Po) (A : Option Addr) (c : Nat) (b : Bool) (hs : small [p] 20 = b) (hc : p.f2.length ≤ c) (hC : Kd.C kIt wb A p.f2.length p.f2) :
    Calls Tryd.prog 10 #[.slice (some ⟨wb.heap.size, 0, none⟩) 1 1] (wb.alloc (.cells #[.int .i64 p.f0, .int .i64 p.f1, .slice A p.f2.length c] 24 (0, 0))).drew fun e W => e = .returned (.bool b) ∧ Below wb.heap.size wb W :=
  (Light_calls [p] (some ⟨wb.heap.size, 0, none⟩) 1 _ (Kd.C_below (one_C wb p A c hc hC) (below_drew1 (Below.refl _ _))) (by simp)).mono (by
    rintro e W ⟨rfl, h⟩
    exact ⟨by rw [hs]; simp, (below_drew1 (below_alloc (Below.refl _ _) _)).trans (h.mono (by simp [World.drew]))⟩)
set_option maxHeartbeats 4000000 in
set_option maxRecDepth 100000 in
theorem LedgerChecks_walk (p : Po) (A : Option Addr) (c : Nat) (w : World) (hc : p.f2.length ≤ c) (hC : Kd.C kIt w A p.f2.length p.f2) (hsh : Sh w) :
    Calls Tryd.prog 3 #[.agg #[.int .i64 p.f0, .int .i64 p.f1, .slice A p.f2.length c]] w fun e W => e = .returned (.bool true) ∧ Below w.heap.size w W := by
  obtain ⟨wb, hwb⟩ : ∃ wb, wb = w.alloc (.cells #[.int .i64 p.f0, .int .i64 p.f1, .slice A p.f2.length c] 24 (0, 0)) := ⟨_, rfl⟩
  have HP : Aside0 (Pst w wb p A c) := ⟨by rw [hwb]; exact Pst.start w p A c⟩
  have HI : Aside0 (Kd.C kIt wb A p.f2.length p.f2) := ⟨Kd.C_below hC HP.out.below⟩
  have HSh : Aside0 (Sh wb) := ⟨hsh.below HP.out.below⟩
  have HWb := Aside0.mk hwb
  have hu1 := Tryd.underlying24
  clear hC hsh hwb
  go_enter Tryd.func3, Tryd.ntmps3
  go_upto_region 1 with (fail)
  rw [cells_eq, ← HWb.out]
  have three : Aside0 (∀ W', Below wb.heap.size wb W' → W'.cell? ⟨w.heap.size, 0, none⟩ = some (.int .i64 p.f0) ∧ W'.cell? ⟨w.heap.size, 1, none⟩ = some (.int .i64 p.f1) ∧ W'.cell? ⟨w.heap.size, 2, none⟩ = some (.slice A p.f2.length c)) := ⟨fun W' hb => (HP.out.step hb).cells⟩
  have hAw : Aside0 (∀ W, Below wb.heap.size wb W → Calls Tryd.prog 13 #[] W fun e W' => e = .returned (.bool true) ∧ Below wb.heap.size wb W') := ⟨fun W hb => (awake_calls W (HSh.out.below hb)).mono (by
    rintro e W' ⟨rfl, h⟩
    exact ⟨rfl, hb.trans (h.mono hb.size)⟩)⟩
  have hCk : Aside0 (∀ W, Below wb.heap.size wb W → Calls Tryd.prog 11 #[.agg #[.int .i64 p.f0, .int .i64 p.f1, .slice A p.f2.length c]] W fun e W' => e = .returned (.int .i64 (chk p)) ∧ Below wb.heap.size wb W') := ⟨fun W hb => (Check_calls p A c W (Kd.C_below HI.out hb) hc (HSh.out.below hb)).mono (by
    rintro e W' ⟨rfl, h⟩
    exact ⟨rfl, hb.trans (h.mono hb.size)⟩)⟩
  have hRk : Aside0 (∀ W, Below wb.heap.size wb W → Calls Tryd.prog 12 #[.agg #[.int .i64 p.f0, .int .i64 p.f1, .slice A p.f2.length c]] W fun e W' => e = .returned (.int .i64 (chk p)) ∧ Below wb.heap.size wb W') := ⟨fun W hb => (RCheck_calls p A c W (Kd.C_below HI.out hb) hc).mono (by
    rintro e W' ⟨rfl, h⟩
    exact ⟨rfl, hb.trans (h.mono hb.size)⟩)⟩
  cases hs : small [p] 20 with
  | false =>
    have hLi := Aside0.mk (Light2_calls wb p A c false hs hc HI.out)
    clear hs
    obtain ⟨b0, b1, b2⟩ := HP.out.cells
    go_region_law (first
      | (go_simp; go_at_call 10; (with_reducible refine hLi.out.mono ?_); rintro e v1 ⟨rfl, hBX⟩)
      | (go_simp; go_at_call 13; have h_ := hAw.out v1 hBX; (with_reducible refine h_.mono ?_); clear h_; rintro e v4 ⟨rfl, hBX⟩))
    all_goals
      go_wp2
      go_ret
      exact ⟨rfl, HP.out.below.trans (hBX.mono HP.out.below.size)⟩
  | true =>
    have hLi := Aside0.mk (Light2_calls wb p A c true hs hc HI.out)
    clear hs
    go_region_held3 (fun W' => W'.cell? ⟨w.heap.size, 0, none⟩ = some (.int .i64 p.f0) ∧ W'.cell? ⟨w.heap.size, 1, none⟩ = some (.int .i64 p.f1) ∧ W'.cell? ⟨w.heap.size, 2, none⟩ = some (.slice A p.f2.length c))
      ((exact three.out _ (by repeat (first | (with_reducible first | exact hBX | exact Below.refl _ _ | apply below_alloc | apply below_drew1) | exact Below.refl _ _))))
      (first
        | (go_at_call 10; (with_reducible refine hLi.out.mono ?_); rintro e v1 ⟨rfl, hBX⟩)
        | (go_at_call 11; have h_ := hCk.out v1 hBX; (with_reducible refine h_.mono ?_); clear h_; rintro e v2 ⟨rfl, hBX⟩)
        | (go_at_call 12; have h_ := hRk.out v2 hBX; (with_reducible refine h_.mono ?_); clear h_; rintro e v3 ⟨rfl, hBX⟩)
        | (go_at_call 13; have h_ := hAw.out v3 hBX; (with_reducible refine h_.mono ?_); clear h_; rintro e v4 ⟨rfl, hBX⟩))
    all_goals
      go_wp2
      go_ret
      exact ⟨rfl, HP.out.below.trans (hBX.mono HP.out.below.size)⟩
theorem LedgerChecks_row (w : World) (p : Po) (A : Option Addr) (c : Nat) (hC : Kd.C kIt w A p.f2.length p.f2) (hc : p.f2.length ≤ c) (hsh : Sh w) :
    Calls Tryd.prog 3 #[.agg #[.int .i64 p.f0, .int .i64 p.f1, .slice A p.f2.length c]] w fun e W => e = .returned (.bool true) ∧ Below w.heap.size w W :=
  LedgerChecks_walk p A c w hc hC hsh
end Go.Proofs.YtpmbljigdghmiaaDoor.Led
