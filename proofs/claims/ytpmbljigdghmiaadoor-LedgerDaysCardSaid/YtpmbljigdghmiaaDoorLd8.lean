/- Ledgers: LedS, LedT, LedU, LW4 in one text. -/
import Derived.Test.YtpmbljigdghmiaaDoorLd7
namespace Go.Proofs.YtpmbljigdghmiaaDoor.Led
open Go.RowKit Go.Proofs.YtpmbljigdghmiaaDoor.Ext Go.Proofs.YtpmbljigdghmiaaDoor.P Go.Proofs.YtpmbljigdghmiaaDoor.Idp Go.Proofs.YtpmbljigdghmiaaDoorW.PrintWords Go.Proofs.YtpmbljigdghmiaaDoorW.PrintLast Go.Proofs.YtpmbljigdghmiaaDoorW.PrintMore
def PS (l : List Po) : List Po := l.foldl postS []
theorem PS_snoc (l : List Po) (p : Po) : PS (l ++ [p]) = postS (PS l) p := by unfold PS; rw [List.foldl_append]; rfl
/-- Postings that a ledger took one after the other. -/
def Took (ps : List Po) : Prop := ∀ (k : Nat) (p : Po), ps[k]? = some p → postE (ps.take k) p = 0
theorem took_nil : Took [] := fun k p h => by simp at h
theorem Took.init {ps : List Po} {p : Po} (h : Took (ps ++ [p])) : Took ps := fun k q hk => by
  have hlt : k < ps.length := (List.getElem?_eq_some_iff.1 hk).1
  have := h k q (by rw [List.getElem?_append_left hlt]; exact hk)
  rwa [List.take_append_of_le_length (by omega)] at this
theorem Took.last {ps : List Po} {p : Po} (h : Took (ps ++ [p])) : postE ps p = 0 := by
  have := h ps.length p (by simp)
  rwa [List.take_left'] at this
  rfl
theorem Took.snoc {ps : List Po} {p : Po} (h : Took ps) (hp : postE ps p = 0) : Took (ps ++ [p]) := fun k q hk => by
  rcases Nat.lt_or_ge k ps.length with hlt | hge
  · rw [List.getElem?_append_left hlt] at hk
    rw [List.take_append_of_le_length (by omega)]
    exact h k q hk
  · have hkl : k < (ps ++ [p]).length := (List.getElem?_eq_some_iff.1 hk).1
    have e : k = ps.length := by simp at hkl; omega
    subst e
    rw [List.getElem?_concat_length] at hk
    cases hk
    rw [List.take_left' rfl]
    exact hp
theorem Took.post {ps : List Po} (h : Took ps) (p : Po) : Took (postS ps p) := by
  unfold postS
  split
  · exact h.snoc (by assumption)
  · exact h
theorem PS_took (l : List Po) : Took (PS l) := by
  induction l using snoc_ind with
  | h0 => exact took_nil
  | h1 l x ih => rw [PS_snoc]; exact ih.post x
theorem postS_len (ps : List Po) (p : Po) : (postS ps p).length ≤ ps.length + 1 := by unfold postS; split <;> simp
theorem PS_len (l : List Po) : (PS l).length ≤ l.length := by
  induction l using snoc_ind with
  | h0 => exact Nat.le_refl _
  | h1 l x ih => rw [PS_snoc]; have := postS_len (PS l) x; simp; omega
theorem postE_zero {ps : List Po} {p : Po} (h : postE ps p = 0) : chk p = 0 ∧ (ps.any fun q => q.f0 == p.f0) = false ∧ ldy ps p = false ∧ p.f2.any (ov ps p) = false ∧ ps.length < 512 := by
  unfold postE at h
  split at h
  · rename_i hc
    split at h
    · simp at h
    · rename_i ha
      split at h
      · simp at h
      · rename_i hl
        split at h
        · simp at h
        · rename_i ho
          split at h
          · simp at h
          · exact ⟨hc, by simpa using ha, by simpa using hl, by simpa using ho, by omega⟩
  · rename_i hc; exact absurd h hc
/-- What such postings are. -/
structure Good (ps : List Po) : Prop where mk ::
  (chk : ∀ p ∈ ps, chk p = 0) (ids : ps.Pairwise fun a b => a.f0 ≠ b.f0) (days : ps.Pairwise fun a b => a.f1 ≤ b.f1)
  (bal : ∀ a, -1099511627776 ≤ tot ps a 65536 ∧ tot ps a 65536 ≤ 1099511627776) (len : ps.length ≤ 512)
theorem Good.fine {ps : List Po} (h : Good ps) (p : Po) (hp : p ∈ ps) : Fine p := chk_fine p (h.chk p hp)
theorem add1_none (a : ByteArray) : ∀ (xs : List It) (n : Int), (∀ x ∈ xs, x.f0 ≠ a) → xs.foldl (add1 a) n = n
  | [], _, _ => rfl
  | x :: xs, n, h => by
    rw [List.foldl_cons, show add1 a n x = n by unfold add1; rw [if_neg (h x (by simp))]]
    exact add1_none a xs n fun y hy => h y (by simp [hy])
theorem rP_last (ps : List Po) (p : Po) : rP (ps ++ [p]) (((ps ++ [p]).length : Int) - 1) = p := by
  unfold rP rd_T24
  rw [List.getD_eq_getElem?_getD, show ((((ps ++ [p]).length : Nat) : Int) - 1).toNat = ps.length by simp, List.getElem?_concat_length]
  rfl
theorem Took.good {ps : List Po} (h : Took ps) : Good ps := by
  induction ps using snoc_ind with
  | h0 => exact ⟨by simp, by simp, by simp, fun a => by unfold tot evs; simp, by simp⟩
  | h1 ps p ih =>
    have g := ih h.init
    obtain ⟨h1, h2, h3, h4, h5⟩ := postE_zero h.last
    have hf := chk_fine p h1
    refine ⟨?_, ?_, ?_, ?_, by simp; omega⟩
    · intro q hq
      rcases List.mem_append.1 hq with hq | hq
      · exact g.chk q hq
      · rw [List.mem_singleton] at hq; rw [hq]; exact h1
    · rw [List.pairwise_append]
      refine ⟨g.ids, List.pairwise_singleton _ _, fun a ha b hb => ?_⟩
      rw [List.mem_singleton] at hb; subst hb
      intro e
      have := List.any_eq_false.1 h2 a ha
      simp [e] at this
    · rw [List.pairwise_append]
      refine ⟨g.days, List.pairwise_singleton _ _, fun a ha b hb => ?_⟩
      rw [List.mem_singleton] at hb; subst hb
      have hd := g.days
      clear ih h g h2 h4
      induction ps using snoc_ind with
      | h0 => simp at ha
      | h1 qs q _ =>
        unfold ldy at h3
        rw [rP_last] at h3
        have hlt : ¬ b.f1 < q.f1 := by
          intro hlt
          rw [decide_eq_true hlt, decide_eq_true (by simp)] at h3
          cases h3
        rw [List.pairwise_append] at hd
        rcases List.mem_append.1 ha with ha | ha
        · have := hd.2.2 a ha q (by simp); omega
        · rw [List.mem_singleton] at ha; subst ha; omega
    · intro a
      rw [tot_app]
      by_cases hx : ∃ x ∈ p.f2, x.f0 = a
      · obtain ⟨x, hx, rfl⟩ := hx
        have := List.any_eq_false.1 h4 x hx
        unfold ov ovN at this
        simp at this
        omega
      · have e : tot [p] a 65536 = 0 := by
          unfold tot
          rw [evs_one, if_pos hf.day.2]
          exact add1_none a _ 0 fun x hxm e => hx ⟨x, hxm, e⟩
        rw [e, Int.add_zero, tot_fix]
        exact g.bal a
theorem PS_good (l : List Po) : Good (PS l) := (PS_took l).good
theorem Good.evs {ps : List Po} (h : Good ps) (d : Int) (x : It) (hx : x ∈ evs ps d) : vld x.f0 = true := by
  unfold Led.evs at hx
  obtain ⟨p, hp, hx⟩ := List.mem_flatMap.1 hx
  exact ((h.fine p (List.mem_filter.1 hp).1).its x hx).1
theorem Good.evs_len {ps : List Po} (h : Good ps) (d : Int) : (Led.evs ps d).length ≤ ps.length * 16 := by
  have hl : ∀ (l : List Po), (∀ p ∈ l, p.f2.length ≤ 16) → (l.flatMap (·.f2)).length ≤ l.length * 16 := by
    intro l
    induction l with
    | nil => simp
    | cons p l ih =>
      intro hp
      have h1 := hp p (by simp)
      have h2 := ih fun q hq => hp q (by simp [hq])
      rw [List.flatMap_cons, List.length_append, List.length_cons]
      omega
  unfold Led.evs
  refine Nat.le_trans (hl _ fun p hp => (h.fine p (List.mem_filter.1 hp).1).len.2) ?_
  exact Nat.mul_le_mul_right _ (List.length_filter_le _ _)
theorem Good.size {ps : List Po} (h : Good ps) (d : Int) : (Led.evs ps d).length ≤ 10000000 := by have := h.evs_len d; have := h.len; omega
theorem Good.sz {ps : List Po} (h : Good ps) : Sz ps := ⟨by have := h.len; omega, fun p hp => by have := (h.fine p hp).len; omega⟩
theorem Good.days_le {ps : List Po} (h : Good ps) (p : Po) (hp : p ∈ ps) : p.f1 ≤ 65536 := (h.fine p hp).day.2
/-! sums -/
def tS (a : ByteArray) : List It → Int
  | [] => 0
  | x :: xs => (if x.f0 = a then x.f1 else 0) + tS a xs
def tA : List It → Int
  | [] => 0
  | x :: xs => x.f1 + tA xs
theorem wrap_zero : wrap64 0 = 0 := by unfold wrap64; omega
theorem tS_cons (a : ByteArray) (x : It) (xs : List It) : tS a (x :: xs) = (if x.f0 = a then x.f1 else 0) + tS a xs := rfl
theorem tA_cons (x : It) (xs : List It) : tA (x :: xs) = x.f1 + tA xs := rfl
theorem wrap_add (a b : Int) : wrap64 (wrap64 a + b) = wrap64 (a + b) := by unfold wrap64; omega
theorem wrap_add' (a b : Int) : wrap64 (a + wrap64 b) = wrap64 (a + b) := by unfold wrap64; omega
theorem add1_tS (a : ByteArray) : ∀ (xs : List It) (n : Int), wrap64 n = n → xs.foldl (add1 a) n = wrap64 (n + tS a xs)
  | [], n, h => by simp [tS, h]
  | x :: xs, n, h => by
    rw [List.foldl_cons, tS_cons]
    by_cases e : x.f0 = a
    · rw [show add1 a n x = wrap64 (n + x.f1) by unfold add1; rw [if_pos e], add1_tS a xs _ (by unfold wrap64; omega), wrap_add, Int.add_assoc, if_pos e]
    · rw [show add1 a n x = n by unfold add1; rw [if_neg e], add1_tS a xs n h, if_neg e, Int.zero_add]
theorem sum_tA : ∀ (xs : List It) (n : Int), wrap64 n = n → xs.foldl (fun s x => wrap64 (s + x.f1)) n = wrap64 (n + tA xs)
  | [], n, h => by simp [tA, h]
  | x :: xs, n, h => by
    rw [List.foldl_cons, sum_tA xs _ (by unfold wrap64; omega), wrap_add, tA_cons, Int.add_assoc]
theorem tA_append : ∀ xs ys : List It, tA (xs ++ ys) = tA xs + tA ys
  | [], ys => by simp [tA]
  | x :: xs, ys => by rw [List.cons_append, tA_cons, tA_cons, tA_append xs ys]; omega
theorem tA_evs {ps : List Po} (h : Good ps) (d : Int) : wrap64 (tA (evs ps d)) = 0 := by
  have hl : ∀ (l : List Po), (∀ p ∈ l, Fine p) → wrap64 (tA (l.flatMap (·.f2))) = 0 := by
    intro l
    induction l with
    | nil => intro _; exact wrap_zero
    | cons p l ih =>
      intro hp
      have h1 := (hp p (by simp)).sum
      have h2 := ih fun q hq => hp q (by simp [hq])
      rw [sum_tA _ _ wrap_zero, Int.zero_add] at h1
      rw [List.flatMap_cons, tA_append]
      generalize tA p.f2 = u at *
      generalize tA (l.flatMap (·.f2)) = v at *
      unfold wrap64 at *
      omega
  exact hl _ fun p hp => h.fine p (List.mem_filter.1 hp).1
def sT (xs : List It) : List ByteArray → Int
  | [] => 0
  | a :: l => tS a xs + sT xs l
theorem sT_nil : ∀ l, sT [] l = 0
  | [] => rfl
  | a :: l => by unfold sT tS; rw [sT_nil l]; rfl
theorem sT_cons (x : It) (xs : List It) : ∀ l : List ByteArray, x.f0 ∉ l → sT (x :: xs) l = sT xs l
  | [], _ => rfl
  | a :: l, h => by
    unfold sT
    rw [sT_cons x xs l (fun h' => h (by simp [h']))]
    conv => lhs; unfold tS
    rw [if_neg (fun e => h (by simp [e])), Int.zero_add]
theorem sT_in (x : It) (xs : List It) : ∀ l : List ByteArray, l.Nodup → x.f0 ∈ l → sT (x :: xs) l = x.f1 + sT xs l
  | [], _, h => by simp at h
  | a :: l, hn, h => by
    obtain ⟨h1, h2⟩ := List.nodup_cons.1 hn
    unfold sT
    conv => lhs; unfold tS
    by_cases e : x.f0 = a
    · rw [if_pos e, sT_cons x xs l (by rw [e]; exact h1)]; omega
    · have hm : x.f0 ∈ l := by
        rcases List.mem_cons.1 h with h | h
        · exact absurd h e
        · exact h
      rw [if_neg e, sT_in x xs l h2 hm]; omega
theorem sT_all (l : List ByteArray) (hn : l.Nodup) : ∀ xs : List It, (∀ x ∈ xs, x.f0 ∈ l) → sT xs l = tA xs
  | [], _ => sT_nil l
  | x :: xs, h => by
    rw [sT_in x xs l hn (h x (by simp)), sT_all l hn xs fun y hy => h y (by simp [hy])]
    rfl
/-- The sum of the balances of names, as a loop reckons it. -/
def sumN (ps : List Po) (d : Int) (l : List ByteArray) : Int := l.foldl (fun s a => wrap64 (s + tot ps a d)) 0
theorem sumN_snoc (ps : List Po) (d : Int) (l : List ByteArray) (a : ByteArray) : sumN ps d (l ++ [a]) = wrap64 (sumN ps d l + tot ps a d) := by unfold sumN; rw [List.foldl_append]; rfl
theorem sumN_sT (ps : List Po) (d : Int) : ∀ (l : List ByteArray) (n : Int), wrap64 n = n → l.foldl (fun s a => wrap64 (s + tot ps a d)) n = wrap64 (n + sT (evs ps d) l)
  | [], n, h => by simp [sT, h]
  | a :: l, n, h => by
    rw [List.foldl_cons, sumN_sT ps d l _ (by unfold wrap64; omega), wrap_add]
    conv => rhs; unfold sT
    unfold tot
    rw [add1_tS a _ 0 wrap_zero, Int.zero_add]
    unfold wrap64
    omega
theorem evs_sub {ps : List Po} (h : Good ps) (d : Int) (x : It) (hx : x ∈ evs ps d) : x ∈ evs ps 65536 := by
  unfold Led.evs at *
  obtain ⟨p, hp, hx⟩ := List.mem_flatMap.1 hx
  have hm := (List.mem_filter.1 hp).1
  exact List.mem_flatMap.2 ⟨p, List.mem_filter.2 ⟨hm, decide_eq_true (h.days_le p hm)⟩, hx⟩
theorem sumN_zero {ps : List Po} (h : Good ps) (d : Int) {l : List ByteArray} (hl : Accs (evs ps 65536) l) : sumN ps d l = 0 := by
  unfold sumN
  rw [sumN_sT ps d l 0 wrap_zero, Int.zero_add, sT_all l hl.nodup _ fun x hx => (hl.mem _).2 (List.mem_map.2 ⟨x, evs_sub h d x hx, rfl⟩)]
  exact tA_evs h d
theorem evs_before {ps : List Po} (h : Good ps) (d : Int) (hd : d < 0) : evs ps d = [] := by
  have e : (ps.filter fun p => decide (p.f1 ≤ d)) = [] := List.filter_eq_nil_iff.2 fun p hp => by have := (h.fine p hp).day.1; simp; omega
  unfold Led.evs
  rw [e]; rfl
end Go.Proofs.YtpmbljigdghmiaaDoor.Led

namespace Go.Proofs.YtpmbljigdghmiaaDoor.Led
open Go.RowKit Go.Shelf Go.WideShapes Go.Proofs.YtpmbljigdghmiaaDoor.Ext Go.Proofs.YtpmbljigdghmiaaDoor.P Go.Proofs.YtpmbljigdghmiaaDoor.Idp Go.Proofs.YtpmbljigdghmiaaDoorW.PrintWords Go.Proofs.YtpmbljigdghmiaaDoorW.PrintLast Go.Proofs.YtpmbljigdghmiaaDoorW.PrintMore
theorem same_in (l : List Po) (i : Nat) (p : Po) (hi0 : (i : Int) < (l.length : Int)) (hp : rd_T24 l (i : Int) = p) (hpl : p.f2.length ≤ 1000000) (hw : wrap64 ((i : Int) + 1) = ((i + 1 : Nat) : Int)) (K : Nat)
    (hr : ∀ k, K ≤ k → dancestudioref55_Same.l0 k l l ((i + 1 : Nat) : Int) = some true) : ∀ (m j k2 : Nat), j + m = p.f2.length → m + K + 1 ≤ k2 → dancestudioref55_Same.l1 k2 l l (i : Int) (j : Int) = some true
  | 0, j, k2, hj, hk2 => by
    obtain ⟨k3, rfl⟩ : ∃ k3, k2 = k3 + 1 := ⟨k2 - 1, by omega⟩
    have h0 : (0 : Int) ≤ (i : Int) := by omega
    have h1 : ¬ (j : Int) < (p.f2.length : Int) := by omega
    simp only [dancestudioref55_Same.l1, hp]
    rw [if_pos h0, if_pos hi0, if_neg h1, hw, hr k3 (by omega)]
  | m + 1, j, k2, hj, hk2 => by
    obtain ⟨k3, rfl⟩ : ∃ k3, k2 = k3 + 1 := ⟨k2 - 1, by omega⟩
    have hw2 : wrap64 ((j : Int) + 1) = ((j + 1 : Nat) : Int) := by unfold wrap64; omega
    have ih := same_in l i p hi0 hp hpl hw K hr m (j + 1) k3 (by omega) (by omega)
    have h0 : (0 : Int) ≤ (i : Int) := by omega
    have h1 : (j : Int) < (p.f2.length : Int) := by omega
    have h2 : (0 : Int) ≤ (j : Int) := by omega
    simp only [dancestudioref55_Same.l1, hp]
    rw [if_pos h0, if_pos hi0, if_pos h1, if_pos h2, if_pos hi0, if_pos h1, if_neg (by simp), hw2, ih]
theorem same_run (l : List Po) (hl : l.length ≤ 100000) (hs : ∀ p ∈ l, p.f2.length ≤ 1000000) (B : Nat) (hB : B = 1000010) :
    ∀ (n i k : Nat), i + n = l.length → n * B + 5 ≤ k → dancestudioref55_Same.l0 k l l (i : Int) = some true
  | 0, i, k, hi, hk => by
    obtain ⟨k1, rfl⟩ : ∃ k1, k = k1 + 1 := ⟨k - 1, by omega⟩
    simp only [dancestudioref55_Same.l0]
    rw [if_neg (by omega)]
  | n + 1, i, k, hi, hk => by
    have hk' := hk
    rw [Nat.add_mul] at hk'
    obtain ⟨k1, rfl⟩ : ∃ k1, k = k1 + 1 + 1 := ⟨k - 2, by omega⟩
    have ih : ∀ k2, n * B + 5 ≤ k2 → dancestudioref55_Same.l0 k2 l l ((i + 1 : Nat) : Int) = some true := fun k2 h => same_run l hl hs B hB n (i + 1) k2 (by omega) h
    have hw : wrap64 ((i : Int) + 1) = ((i + 1 : Nat) : Int) := by unfold wrap64; omega
    have hi0 : (i : Int) < (l.length : Int) := by omega
    have hi1 : (0 : Int) ≤ (i : Int) := by omega
    obtain ⟨p, hp⟩ : ∃ p, rd_T24 l (i : Int) = p := ⟨_, rfl⟩
    have hpl : p.f2.length ≤ 1000000 := by rw [← hp]; exact hs _ (rP_mem l (i : Int) hi1 hi0)
    simp only [dancestudioref55_Same.l0, dancestudioref55_Same.j1, hp]
    rw [if_pos hi0, if_pos hi1, if_pos hi0, if_pos trivial, if_pos trivial, if_neg (by simp)]
    exact same_in l i p hi0 hp hpl hw _ ih p.f2.length 0 k1 (by omega) (by omega)
theorem same_f (l : List Po) (hz : Sz l) : dancestudioref55_Same.f (l.length * 1000010 + 5) l l = some true := by
  unfold dancestudioref55_Same.f
  rw [if_pos rfl]
  exact same_run l hz.len hz.its 1000010 rfl l.length 0 _ (by omega) (Nat.le_refl _)
theorem Same_calls (l : List Po) (A0 : Option Addr) (c0 : Nat) (A1 : Option Addr) (c1 : Nat) (w : World) (h0 : Kd.C kPo w A0 l.length l) (hc0 : l.length ≤ c0) (h1 : Kd.C kPo w A1 l.length l) (hc1 : l.length ≤ c1) (hz : Sz l) :
    Calls Tryd.prog 26 #[.slice A0 l.length c0, .slice A1 l.length c1] w fun e W => e = .returned (.bool true) ∧ Below w.heap.size w W :=
  (dancestudioref55_Same.calls _ A0 c0 l A1 c1 l true w h0 hc0 h1 hc1 (same_f l hz)).mono (by
    rintro e W ⟨rfl, ⟨n, rfl⟩⟩
    exact ⟨rfl, pw_below_drewN (Below.refl _ _) _⟩)
theorem Names_calls (l : List ByteArray) (A0 : Option Addr) (c0 : Nat) (A1 : Option Addr) (c1 : Nat) (w : World) (h0 : Kd.C Kd.string w A0 l.length l) (hc0 : l.length ≤ c0) (h1 : Kd.C Kd.string w A1 l.length l) (hc1 : l.length ≤ c1) :
    Calls Tryd.prog 23 #[.slice A0 l.length c0, .slice A1 l.length c1] w fun e W => e = .returned (.bool true) ∧ Below w.heap.size w W :=
  (dancestudioref55_Names.calls _ A0 c0 l A1 c1 l true w h0 hc0 h1 hc1 (names_f l h0.2.1)).mono (by
    rintro e W ⟨rfl, ⟨n, rfl⟩⟩
    exact ⟨rfl, pw_below_drewN (Below.refl _ _) _⟩)
theorem Own.mk' {w W : World} {g : Nat} {ps : List Po} (h : Own w W g ps) : MkPost tL w ps (.returned (.pointer (some ⟨g, 0, none⟩))) W := by
  obtain ⟨F, h1, h2⟩ := h
  exact ⟨g, F, rfl, h1, h2⟩
set_option maxHeartbeats 2000000 in
set_option maxRecDepth 100000 in
theorem posted_calls (w : World) (l : List Po) (A : Option Addr) (c : Nat) (hC : Kd.C kPo w A l.length l) (hl : l.length ≤ 512) (hsh : Sh w) :
    Calls Tryd.prog 29 #[.slice A l.length c] w (MkPost tL w (PS l)) := by
  have H3 := Aside0.mk hC
  have HSh := Aside0.mk hsh
  have hm := hC.2.1
  have hu1 := Tryd.underlying24
  have hu2 := Tryd.underlying38
  clear hC hsh
  go_enter Tryd.func29, Tryd.ntmps29
  go_wp2_with fail
  refine (New_own w).mono ?_
  rintro e w1 ⟨g, rfl, hO⟩
  have HO1 := Aside0.mk hO
  clear hO
  go_wp2
  go_loopw [4] (fun vi wr => ∃ k : Int, vi = .int .i64 k ∧ 0 ≤ k ∧ k ≤ l.length ∧ Aside0 (Own w wr g (PS (l.take k.toNat)))) (fun i _ => l.length - (intOf i).toNat)
  case atStart => exact ⟨0, rfl, by omega, by omega, HO1⟩
  case round =>
    clear HO1
    obtain ⟨k, rfl, hk0, hk1, HK⟩ := hrel
    by_cases hlt : k < l.length
    · obtain ⟨ad, A2, c2, rfl, d0, d1, d2, el, eC⟩ := at_T24 H3.out k hk0 hlt
      have HSt := Aside0.mk (take_rP l k hk0 hlt)
      obtain ⟨p, hp⟩ : ∃ p, p = rP l k := ⟨_, rfl⟩
      rw [← hp] at HSt
      rw [show rd_T24 l k = p from hp.symm] at d0 d1 d2 el eC
      have hb := HK.out.bel
      have e0 := (hb.cell (World.block_lt_of_cell? w _ d0)).trans d0
      have e1 := (hb.cell (World.block_lt_of_cell? w _ d1)).trans d1
      have e2 := (hb.cell (World.block_lt_of_cell? w _ d2)).trans d2
      have hlen : (PS (l.take k.toNat)).length ≤ 512 := Nat.le_trans (PS_len _) (by rw [List.length_take]; omega)
      have HP := Aside0.mk (HK.out.post p A2 c2 hlen (Kd.C_below eC hb) el HSh.out)
      clear hp hb d0 d1 d2 el eC hlen HK
      go_wp2_with fail
      refine HP.out.mono ?_
      rintro e w2 ⟨rfl, hO⟩
      have HO2 := Aside0.mk hO
      clear hO HP e0 e1 e2
      go_wp2
      go_roundw
      case rel => exact ⟨k + 1, by go_num, by omega, by omega, ⟨by rw [HSt.out, PS_snoc]; exact HO2.out⟩⟩
      case measure => simp [intOf]; omega
    · have hkl : k = l.length := by omega
      subst hkl
      go_wp2
      go_ret
      have h := HK.out
      rw [show l.take ((l.length : Nat) : Int).toNat = l by simp] at h
      exact h.mk'
end Go.Proofs.YtpmbljigdghmiaaDoor.Led

namespace Go.Proofs.YtpmbljigdghmiaaDoor.Led
open Go.RowKit Go.Shelf Go.WideShapes Go.Proofs.YtpmbljigdghmiaaDoor.Ext Go.Proofs.YtpmbljigdghmiaaDoor.P Go.Proofs.YtpmbljigdghmiaaDoor.Idp Go.Proofs.YtpmbljigdghmiaaDoorW.PrintWords Go.Proofs.YtpmbljigdghmiaaDoorW.PrintLast Go.Proofs.YtpmbljigdghmiaaDoorW.PrintMore
/-- Two ledgers, of types Ta and Tb, that share nothing. -/
structure Two (Ta Tb : Nat) (w W : World) (ga gb : Nat) (pa pb : List Po) : Prop where mk ::
  (out : ∃ Fa Fb : Nat → Prop, IsL Ta Fa w W ga pa ∧ IsL Tb Fb w W gb pb ∧ (∀ k, Fa k → ¬ Fb k)) (bel : Below w.heap.size w W)
theorem Two.swap {Ta Tb : Nat} {w W : World} {ga gb : Nat} {pa pb : List Po} (h : Two Ta Tb w W ga gb pa pb) : Two Tb Ta w W gb ga pb pa := by
  obtain ⟨Fa, Fb, h1, h2, h3⟩ := h.out
  exact ⟨⟨Fb, Fa, h2, h1, fun k hb ha => h3 k ha hb⟩, h.bel⟩
theorem Two.below {Ta Tb : Nat} {w W W' : World} {ga gb : Nat} {pa pb : List Po} (h : Two Ta Tb w W ga gb pa pb) (hb : Below W.heap.size W W') : Two Ta Tb w W' ga gb pa pb := by
  obtain ⟨Fa, Fb, h1, h2, h3⟩ := h.out
  exact ⟨⟨Fa, Fb, h1.below hb, h2.below hb, h3⟩, h.bel.trans (hb.mono h.bel.size)⟩
theorem Two.readA {Ta Tb : Nat} {w W : World} {ga gb : Nat} {pa pb : List Po} (h : Two Ta Tb w W ga gb pa pb) : LR Ta W ga pa := by
  obtain ⟨Fa, Fb, h1, h2, h3⟩ := h.out
  exact h1.read
theorem Two.readB {Ta Tb : Nat} {w W : World} {ga gb : Nat} {pa pb : List Po} (h : Two Ta Tb w W ga gb pa pb) : LR Tb W gb pb := h.swap.readA
theorem Two.done {Ta Tb : Nat} {w W W' : World} {ga gb : Nat} {pa pb : List Po} {p : Po} {Fa Fb : Nat → Prop} {e : Ending} (_ : IsL Ta Fa w W ga pa) (h2 : IsL Tb Fb w W gb pb) (h3 : ∀ k, Fa k → ¬ Fb k)
    (h : PPost Ta w W Fa ga pa p e W') : e = .returned (.int .i64 (postE pa p)) ∧ Two Ta Tb w W' ga gb (postS pa p) pb := by
  obtain ⟨rfl, F', k1, k2, k3, k4⟩ := h
  refine ⟨rfl, ⟨F', Fb, k1, h2.kept k3 (fun k hb ha => h3 k ha hb), fun k hk hb => ?_⟩, k4⟩
  rcases k2 k hk with h | h
  · exact h3 k h hb
  · have := (h2.lt k hb).2; omega
theorem Two.postL {Tb : Nat} {w W : World} {ga gb : Nat} {pa pb : List Po} (h : Two tL Tb w W ga gb pa pb) (p : Po) (A : Option Addr) (c : Nat) (hps : pa.length ≤ 512) (hC : Kd.C kIt W A p.f2.length p.f2) (hc : p.f2.length ≤ c) (hsh : Sh w) :
    Calls Tryd.prog 17 #[.pointer (some ⟨ga, 0, none⟩), .agg #[.int .i64 p.f0, .int .i64 p.f1, .slice A p.f2.length c]] W fun e W' => e = .returned (.int .i64 (postE pa p)) ∧ Two tL Tb w W' ga gb (postS pa p) pb := by
  obtain ⟨Fa, Fb, h1, h2, h3⟩ := h.out
  exact (Post_calls w W Fa ga pa p A c h1 h.bel hps hC hc (hsh.below h.bel)).mono fun e W' hp => Two.done h1 h2 h3 hp
theorem Two.postU {Tb : Nat} {w W : World} {ga gb : Nat} {pa pb : List Po} (h : Two tU Tb w W ga gb pa pb) (p : Po) (A : Option Addr) (c : Nat) (hps : pa.length ≤ 512) (hC : Kd.C kIt W A p.f2.length p.f2) (hc : p.f2.length ≤ c) :
    Calls Tryd.prog 18 #[.pointer (some ⟨ga, 0, none⟩), .agg #[.int .i64 p.f0, .int .i64 p.f1, .slice A p.f2.length c]] W fun e W' => e = .returned (.int .i64 (postE pa p)) ∧ Two tU Tb w W' ga gb (postS pa p) pb := by
  obtain ⟨Fa, Fb, h1, h2, h3⟩ := h.out
  exact (RPost_calls w W Fa ga pa p A c h1 h.bel hps hC hc).mono fun e W' hp => Two.done h1 h2 h3 hp
/-- A ledger, and one made after it. -/
theorem Two.of {Ta Tb : Nat} {w W W' : World} {ga gb : Nat} {pa pb : List Po} {F G : Nat → Prop} (h1 : IsL Ta F w W ga pa) (hb1 : Below w.heap.size w W) (h2 : IsL Tb G W W' gb pb) (hb2 : Below W.heap.size W W') : Two Ta Tb w W' ga gb pa pb :=
  ⟨⟨F, G, h1.below hb2, h2.lower hb1.size, fun k ha hb => by have := (h1.lt k ha).2; have := (h2.lt k hb).1; omega⟩, hb1.trans (hb2.mono hb1.size)⟩
theorem Two.ownA {Tb : Nat} {w W : World} {ga gb : Nat} {pa pb : List Po} (h : Two tL Tb w W ga gb pa pb) : Own w W ga pa := by
  obtain ⟨Fa, Fb, h1, h2, h3⟩ := h.out
  exact ⟨Fa, h1, h.bel⟩
/-- What stands beside a ledger made of F: Z at a world and F. -/
def Stp (Z : World → (Nat → Prop) → Prop) : Prop := ∀ W W' F F', Z W F → Fram F W W' → (∀ k, F' k → F k ∨ W.heap.size ≤ k) → Z W' F'
structure St (Z : World → (Nat → Prop) → Prop) (w W : World) (g : Nat) (ps : List Po) : Prop where mk ::
  (out : ∃ F : Nat → Prop, IsL tL F w W g ps ∧ Z W F) (bel : Below w.heap.size w W)
theorem St.read {Z : World → (Nat → Prop) → Prop} {w W : World} {g : Nat} {ps : List Po} (h : St Z w W g ps) : LR tL W g ps := by
  obtain ⟨F, h1, _⟩ := h.out
  exact h1.read
theorem St.below {Z : World → (Nat → Prop) → Prop} (hZ : Stp Z) {w W W' : World} {g : Nat} {ps : List Po} (h : St Z w W g ps) (hb : Below W.heap.size W W') : St Z w W' g ps := by
  obtain ⟨F, h1, h2⟩ := h.out
  exact ⟨⟨F, h1.below hb, hZ _ _ _ _ h2 (fram_below hb F) fun k hk => .inl hk⟩, h.bel.trans (hb.mono h.bel.size)⟩
theorem St.post {Z : World → (Nat → Prop) → Prop} (hZ : Stp Z) {w W : World} {g : Nat} {ps : List Po} (h : St Z w W g ps) (p : Po) (A : Option Addr) (c : Nat) (hps : ps.length ≤ 512) (hC : Kd.C kIt W A p.f2.length p.f2) (hc : p.f2.length ≤ c) (hsh : Sh W) :
    Calls Tryd.prog 17 #[.pointer (some ⟨g, 0, none⟩), .agg #[.int .i64 p.f0, .int .i64 p.f1, .slice A p.f2.length c]] W fun e W' => e = .returned (.int .i64 (postE ps p)) ∧ St Z w W' g (postS ps p) := by
  obtain ⟨F, h1, h2⟩ := h.out
  refine (Post_calls w W F g ps p A c h1 h.bel hps hC hc hsh).mono ?_
  rintro e W' ⟨rfl, F', k1, k2, k3, k4⟩
  exact ⟨rfl, ⟨F', k1, hZ _ _ _ _ h2 k3 k2⟩, k4⟩
/-- A row of postings beside it. -/
def ZR (n0 : Nat) (v : Value) (ps : List Po) (W : World) (F : Nat → Prop) : Prop := Kd.R kPo 24 W n0 (fun k => k < W.heap.size ∧ ¬ F k) v ps
theorem stp_ZR (n0 : Nat) (v : Value) (ps : List Po) : Stp (ZR n0 v ps) := fun W W' F F' h hf hF =>
  Kd.R_mono (Kd.R_step h fun k hk hlt => hf.2 k hlt hk.2) fun k hk => ⟨Nat.lt_of_lt_of_le hk.1 hf.1, fun hk' => by rcases hF k hk' with h | h; exact hk.2 h; have := hk.1; omega⟩
/-- Another ledger beside it. -/
def ZL (w0 : World) (g : Nat) (ps : List Po) (W : World) (F : Nat → Prop) : Prop := ∃ Fb : Nat → Prop, IsL tL Fb w0 W g ps ∧ ∀ k, Fb k → ¬ F k
theorem stp_ZL (w0 : World) (g : Nat) (ps : List Po) : Stp (ZL w0 g ps) := fun W W' F F' ⟨Fb, h1, h2⟩ hf hF =>
  ⟨Fb, h1.kept hf h2, fun k hk hk' => by rcases hF k hk' with h | h; exact h2 k hk h; have := (h1.lt k hk).2; omega⟩
theorem stp_and {Z Z' : World → (Nat → Prop) → Prop} (h : Stp Z) (h' : Stp Z') : Stp (fun W F => Z W F ∧ Z' W F) := fun W W' F F' hz hf hF => ⟨h W W' F F' hz.1 hf hF, h' W W' F F' hz.2 hf hF⟩
theorem St.row {n0 : Nat} {v : Value} {qs : List Po} {w W : World} {g : Nat} {ps : List Po} (h : St (ZR n0 v qs) w W g ps) : ∃ A c, v = .slice A qs.length c ∧ qs.length ≤ c ∧ Kd.C kPo W A qs.length qs := by
  obtain ⟨F, h1, h2⟩ := h.out
  exact Kd.R_reads h2
/-- A row made behind a ledger stands beside it. -/
theorem St.of {w W W' : World} {g : Nat} {ps qs : List Po} {F : Nat → Prop} {v : Value} (h : IsL tL F w W g ps) (hb : Below w.heap.size w W) (hR : Kd.R kPo 24 W' W.heap.size (fun _ => True) v qs) (hb2 : Below W.heap.size W W') : St (ZR w.heap.size v qs) w W' g ps :=
  ⟨⟨F, h.below hb2, Kd.R_lower (Kd.R_mono (Kd.R_bound hR) fun k hk => ⟨hk.2.2.1, fun hF => by have := (h.lt k hF).2; have := hk.2.1; omega⟩) hb.size⟩, hb.trans (hb2.mono hb.size)⟩
end Go.Proofs.YtpmbljigdghmiaaDoor.Led

namespace Go.Proofs.YtpmbljigdghmiaaDoor.Led
open Go.RowKit Go.Shelf Go.WideShapes Go.Proofs.YtpmbljigdghmiaaDoor.Ext Go.Proofs.YtpmbljigdghmiaaDoor.P Go.Proofs.YtpmbljigdghmiaaDoor.Idp Go.Proofs.YtpmbljigdghmiaaDoorW.PrintWords Go.Proofs.YtpmbljigdghmiaaDoorW.PrintLast Go.Proofs.YtpmbljigdghmiaaDoorW.PrintMore
/-- Names beside a ledger of the call's own. -/
structure NmS (w W : World) (g : Nat) (ps : List Po) (An : Option Addr) (l : List ByteArray) : Prop where mk ::
  (own : Own w W g ps) (names : Kd.C Kd.string W An l.length l)
theorem NmS.below {w W W' : World} {g : Nat} {ps : List Po} {An : Option Addr} {l : List ByteArray} (h : NmS w W g ps An l) (hb : Below W.heap.size W W') : NmS w W' g ps An l :=
  ⟨h.own.below hb, Kd.C_below h.names hb⟩
theorem Acc_own (w : World) (g : Nat) (W : World) (ps : List Po) (hg : Good ps) (h : Own w W g ps) (hsh : Sh w) :
    Calls Tryd.prog 24 #[.pointer (some ⟨g, 0, none⟩)] W fun e W' => ∃ A c, e = .returned (.slice A (accN (evs ps 65536)).length c) ∧ (accN (evs ps 65536)).length ≤ c ∧ NmS w W' g ps A (accN (evs ps 65536)) :=
  (Accounts_calls W g ps h.read (hg.evs 65536) (hg.size 65536) (hsh.below h.bel)).mono (by
    rintro e W' ⟨v, l, rfl, ha, hR, hb⟩
    have e : l = accN (evs ps 65536) := ha.unique (accN_ok _ (hg.evs 65536))
    subst e
    obtain ⟨A, c, rfl, h1, h2⟩ := Kd.R_reads hR
    exact ⟨A, c, rfl, h1, h.below hb, h2⟩)
theorem str_at {W : World} {A : Option Addr} {l : List ByteArray} (h : Kd.C Kd.string W A l.length l) (k : Int) (h0 : 0 ≤ k) (h1 : k < l.length) :
    ∃ ad, A = some ad ∧ W.cell? (ad.add k.toNat) = some (.string (rdOf ByteArray.empty l k)) := (Kd.reads_of_C (d := ByteArray.empty) h).at_ k h0 h1
theorem posted_own (w W : World) (l : List Po) (A : Option Addr) (c : Nat) (hb : Below w.heap.size w W) (hC : Kd.C kPo w A l.length l) (hl : l.length ≤ 512) (hsh : Sh w) :
    Calls Tryd.prog 29 #[.slice A l.length c] W fun e W' => ∃ g, e = .returned (.pointer (some ⟨g, 0, none⟩)) ∧ Own w W' g (PS l) :=
  (posted_calls W l A c (Kd.C_below hC hb) hl (hsh.below hb)).mono (by
    rintro e W' ⟨g, F, rfl, h1, h2⟩
    exact ⟨g, rfl, F, h1.lower hb.size, hb.trans (h2.mono hb.size)⟩)
set_option maxHeartbeats 4000000 in
set_option maxRecDepth 100000 in
theorem LedgerZero_walk (l : List Po) (A : Option Addr) (c : Nat) (day : Int) (w : World) (hc : l.length ≤ c) (hC : Kd.C kPo w A l.length l) (hsh : Sh w) :
    Calls Tryd.prog 5 #[.slice A l.length c, .int .i64 day] w fun e W => e = .returned (.bool true) ∧ Below w.heap.size w W := by
  have HLi := Aside0.mk (Light_calls l A c w hC hc)
  have HSh := Aside0.mk hsh
  have H3 := Aside0.mk hC
  clear hC hsh
  go_enter Tryd.func5, Tryd.ntmps5
  cases hs : decide ((l.length : Int) ≤ 40) && small l 20 with
  | false =>
    rw [hs] at HLi
    clear hs
    go_wp2_with fail
    refine HLi.out.mono ?_
    rintro e w1 ⟨rfl, hb⟩
    have HB1 := Aside0.mk hb
    clear hb
    go_wp2_with fail
    refine (awake_calls w1 (HSh.out.below HB1.out)).mono ?_
    rintro e w2 ⟨rfl, hb⟩
    have HB2 := Aside0.mk (HB1.out.trans (hb.mono HB1.out.size))
    clear hb
    go_wp2
    go_ret
    exact ⟨rfl, HB2.out⟩
  | true =>
    rw [hs] at HLi
    have h40 : l.length ≤ 40 := by
      rw [Bool.and_eq_true] at hs
      have := of_decide_eq_true hs.1
      omega
    clear hs
    obtain ⟨ps, hps⟩ : ∃ ps, ps = PS l := ⟨_, rfl⟩
    have HG := Aside0.mk (show Good ps by rw [hps]; exact PS_good l)
    have HPs := Aside0.mk hps
    clear hps
    obtain ⟨ns, hns⟩ : ∃ ns, ns = accN (evs ps 65536) := ⟨_, rfl⟩
    have HN := Aside0.mk hns
    have hnl : ns.length ≤ 10000000 := by rw [hns]; exact Nat.le_trans (accN_len _) (HG.out.size 65536)
    have HZ := Aside0.mk (show sumN ps 65536 ns = 0 by rw [hns]; exact sumN_zero HG.out 65536 (accN_ok _ (HG.out.evs 65536)))
    have HZd := Aside0.mk (show sumN ps day ns = 0 by rw [hns]; exact sumN_zero HG.out day (accN_ok _ (HG.out.evs 65536)))
    clear hns
    go_wp2_with fail
    refine HLi.out.mono ?_
    rintro e w1 ⟨rfl, hb⟩
    have HPo := Aside0.mk (posted_own w w1 l A c hb H3.out (by omega) HSh.out)
    clear hb HLi
    go_wp2_with fail
    refine HPo.out.mono ?_
    rintro e w2 ⟨g, rfl, hO⟩
    have HA := Aside0.mk (Acc_own w g w2 ps HG.out (by rw [HPs.out]; exact hO) HSh.out)
    rw [← HN.out] at HA
    clear hO HPo
    go_wp2_with fail
    refine HA.out.mono ?_
    rintro e w3 ⟨An, cn, rfl, hcn, hNm⟩
    have HNm := Aside0.mk hNm
    clear hNm HA
    go_wp2
    go_loopw [7, 8, 9] (fun vs vt vi wr => ∃ k : Int, vi = .int .i64 k ∧ 0 ≤ k ∧ k ≤ ns.length ∧ vs = .int .i64 (sumN ps 65536 (ns.take k.toNat)) ∧ vt = .int .i64 (sumN ps day (ns.take k.toNat)) ∧ Aside0 (NmS w wr g ps An ns)) (fun _ _ i _ => ns.length - (intOf i).toNat)
    case atStart => exact ⟨0, rfl, by omega, by omega, rfl, rfl, HNm⟩
    case round =>
      clear HNm
      obtain ⟨k, rfl, hk0, hk1, rfl, rfl, HK⟩ := hrel
      by_cases hlt : k < ns.length
      · obtain ⟨ad, rfl, d0⟩ := str_at HK.out.names k hk0 hlt
        have HSt := Aside0.mk (take_snoc'' ns k hk0 hlt)
        obtain ⟨s, hs⟩ : ∃ s, s = rdOf ByteArray.empty ns k := ⟨_, rfl⟩
        rw [← hs] at HSt d0
        have hbal := HG.out.bal s
        have HBa := Aside0.mk (Bal_calls wr g ps s HK.out.own.read)
        obtain ⟨n, hn⟩ : ∃ n, n = tot ps s 65536 := ⟨_, rfl⟩
        rw [← hn] at hbal HBa
        have HNn := Aside0.mk hn
        obtain ⟨hb1, hb2⟩ := hbal
        clear hs hn
        go_wp2_with fail
        refine HBa.out.mono ?_
        rintro e w4 ⟨rfl, hb⟩
        have HK4 := Aside0.mk (HK.out.below hb)
        have d4 := (pw_cell_below hb d0)
        have hn1 : ¬ n < -1099511627776 := by omega
        have hn2 : ¬ 1099511627776 < n := by omega
        have HOn := Aside0.mk (On_calls w4 g ps s day HK4.out.own.read)
        clear hb HBa HK d0
        go_wp2_with fail
        refine HOn.out.mono ?_
        rintro e w5 ⟨rfl, hb⟩
        have HK5 := Aside0.mk (HK4.out.below hb)
        clear hb HOn HK4 d4
        go_wp2
        go_roundw
        case rel => exact ⟨k + 1, by go_num, by omega, by omega, by rw [HSt.out, sumN_snoc, ← HNn.out], by rw [HSt.out, sumN_snoc], HK5⟩
        case measure => simp [intOf]; omega
      · have hkl : k = ns.length := by omega
        subst hkl
        rw [show ns.take ((ns.length : Nat) : Int).toNat = ns by simp, HZ.out, HZd.out]
        have HAw := Aside0.mk (awake_calls wr (HSh.out.below HK.out.own.bel))
        go_wp2_with fail
        refine HAw.out.mono ?_
        rintro e w4 ⟨rfl, hb⟩
        have HB4 := Aside0.mk (HK.out.own.below hb).bel
        clear hb HAw
        go_wp2
        go_ret
        exact ⟨rfl, HB4.out⟩
theorem LedgerZero_row (w : World) (A : Option Addr) (c : Nat) (l : List Po) (hC : Kd.C kPo w A l.length l) (hc : l.length ≤ c) (day : Int) {Pr : Prop} (_ : Pr) (hsh : Sh w) :
    Calls Tryd.prog 5 #[.slice A l.length c, .int .i64 day] w fun e W => e = .returned (.bool true) ∧ Below w.heap.size w W :=
  LedgerZero_walk l A c day w hc hC hsh
end Go.Proofs.YtpmbljigdghmiaaDoor.Led
