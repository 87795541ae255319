/- The pure law of names that end with numbers. -/
import Derived.Test.YtallacbjeajpoaaDoorIdpC
import Derived.Lib.ItoaMem
namespace Go.Proofs.YtallacbjeajpoaaDoor.Idp
open Go.RowKit Go.Proofs.YtallacbjeajpoaaDoor.Ext Go.Proofs.YtallacbjeajpoaaDoor.P Go.Proofs.YtallacbjeajpoaaDoorW.PrintWords Go.Proofs.YtallacbjeajpoaaDoorW.PrintLast Go.Proofs.YtallacbjeajpoaaDoorW.PrintMore

theorem dec_small {u : Nat} (h : u < 10) : Lib.decDigits u = [UInt8.ofNat (48 + u)] := by rw [Lib.decDigits, dif_pos h]
theorem dec_big {u : Nat} (h : ¬ u < 10) : Lib.decDigits u = Lib.decDigits (u / 10) ++ [UInt8.ofNat (48 + u % 10)] := by rw [Lib.decDigits, dif_neg h]
theorem dig_nat {k : Nat} (h : k < 10) : (UInt8.ofNat (48 + k)).toNat = 48 + k := by
  rw [UInt8.toNat_ofNat']; omega
theorem dig_isDb {k : Nat} (h : k < 10) : isDb (UInt8.ofNat (48 + k)) = true := by
  rw [isDb_iff, dig_nat h]; unfold isD; omega
theorem dec_all (u : Nat) : ∀ c ∈ Lib.decDigits u, isDb c = true := by
  induction u using Nat.strongRecOn with
  | _ u ih =>
    by_cases h : u < 10
    · rw [dec_small h]; intro c hc; rw [List.mem_singleton.1 hc]; exact dig_isDb h
    · rw [dec_big h]; intro c hc
      rcases List.mem_append.1 hc with hc | hc
      · exact ih _ (by omega) c hc
      · rw [List.mem_singleton.1 hc]; exact dig_isDb (by omega)
theorem dec_head (u : Nat) : ∃ c l, Lib.decDigits u = c :: l ∧ (u ≠ 0 → (c == 48) = false) ∧ (u = 0 → c = 48 ∧ l = []) := by
  induction u using Nat.strongRecOn with
  | _ u ih =>
    by_cases h : u < 10
    · refine ⟨_, _, dec_small h, fun h0 => ?_, fun h0 => ?_⟩
      · rw [beq_eq_false_iff_ne]; intro e
        have := congrArg UInt8.toNat e
        rw [dig_nat h] at this
        simp at this; omega
      · subst h0; exact ⟨rfl, rfl⟩
    · obtain ⟨c, l, h1, h2, _⟩ := ih (u / 10) (by omega)
      refine ⟨c, l ++ [UInt8.ofNat (48 + u % 10)], by rw [dec_big h, h1]; rfl, fun _ => h2 (by omega), fun h0 => by omega⟩
theorem trim0_dec {u : Nat} (h : u ≠ 0) : trim0 (Lib.decDigits u) = Lib.decDigits u := by
  obtain ⟨c, l, h1, h2, _⟩ := dec_head u
  rw [h1]; unfold trim0; rw [List.dropWhile_cons, h2 h]; rfl
theorem trim0_dec0 : trim0 (Lib.decDigits 0) = [] := by rw [dec_small (by decide)]; decide
theorem trim0_rep (z : Nat) (l : List UInt8) : trim0 (List.replicate z 48 ++ l) = trim0 l := by
  induction z with
  | zero => rfl
  | succ z ih => rw [List.replicate_succ, List.cons_append]; unfold trim0 at *; rw [List.dropWhile_cons]; simp
theorem dec_pos (u : Nat) : 1 ≤ (Lib.decDigits u).length := by
  obtain ⟨c, l, h1, _⟩ := dec_head u
  rw [h1]; simp
theorem dec_lt : ∀ v u : Nat, u < v → (Lib.decDigits u).length < (Lib.decDigits v).length ∨ ((Lib.decDigits u).length = (Lib.decDigits v).length ∧ cmpI ((Lib.decDigits u).map UInt8.toNat) ((Lib.decDigits v).map UInt8.toNat) = -1) := by
  intro v
  induction v using Nat.strongRecOn with
  | _ v ih =>
    intro u huv
    by_cases hv : v < 10
    · right
      rw [dec_small hv, dec_small (show u < 10 by omega)]
      refine ⟨rfl, ?_⟩
      simp only [List.map_cons, List.map_nil, cmpI, dig_nat hv, dig_nat (show u < 10 by omega)]
      rw [if_pos (by omega)]
    · by_cases hu : u < 10
      · left
        rw [dec_small hu, dec_big hv]
        have := dec_pos (v / 10)
        simp; omega
      · rw [dec_big hv, dec_big hu]
        by_cases hq : u / 10 < v / 10
        · rcases ih (v / 10) (by omega) (u / 10) hq with h | ⟨h1, h2⟩
          · left; simp; omega
          · right
            refine ⟨by simp [h1], ?_⟩
            rw [List.map_append, List.map_append, cmpI_append _ _ _ _ (by simpa using h1), h2]
            rfl
        · have e : u / 10 = v / 10 := by omega
          right
          rw [e]
          refine ⟨by simp, ?_⟩
          rw [List.map_append, List.map_append, cmpI_append _ _ _ _ rfl, cmpI_self, if_pos rfl]
          simp only [List.map_cons, List.map_nil, cmpI, dig_nat (show u % 10 < 10 by omega), dig_nat (show v % 10 < 10 by omega)]
          rw [if_pos (by omega)]
/-- A row of digits with zeros ahead. -/
def zd (z u : Nat) : List UInt8 := List.replicate z 48 ++ Lib.decDigits u
theorem zd_all (z u : Nat) : ∀ c ∈ zd z u, isDb c = true := by
  intro c hc
  rcases List.mem_append.1 hc with hc | hc
  · rw [(List.mem_replicate.1 hc).2]; decide
  · exact dec_all u c hc
theorem zd_pos (z u : Nat) : 1 ≤ (zd z u).length := by
  have := dec_pos u
  unfold zd; simp; omega
theorem zd_trim (z u : Nat) : trim0 (zd z u) = trim0 (Lib.decDigits u) := trim0_rep _ _
theorem numKey_lt (z y u v : Nat) (h : u < v) : cmpI (numKey (zd z u)) (numKey (zd y v)) = -1 := by
  unfold numKey
  rw [zd_trim, zd_trim, trim0_dec (show v ≠ 0 by omega)]
  by_cases h0 : u = 0
  · subst h0
    rw [trim0_dec0]
    have := dec_pos v
    simp only [cmpI, List.length_nil]
    rw [if_pos (by omega)]
  · rw [trim0_dec h0]
    rcases dec_lt v u h with h1 | ⟨h1, h2⟩
    · simp only [cmpI]; rw [if_pos h1]
    · simp only [cmpI]
      rw [if_neg (by omega), if_neg (by omega), cmpI_append _ _ _ _ (by simpa using h1), h2]
      rfl
theorem numKey_zeros (z y u : Nat) (h : z < y) : cmpI (numKey (zd z u)) (numKey (zd y u)) = -1 := by
  unfold numKey
  rw [zd_trim, zd_trim]
  simp only [cmpI]
  rw [if_neg (by omega), if_neg (by omega), cmpI_append _ _ _ _ rfl, cmpI_self, if_pos rfl]
  simp only [cmpI]
  rw [if_pos (by unfold zd; simp; omega)]
theorem numKey_cmp_gt {d e : List UInt8} (h : cmpI (numKey d) (numKey e) = -1) : cmpI (numKey e) (numKey d) = 1 := by rw [cmpI_neg, h]; rfl
/-- The name: an n, zeros, a number, and more. -/
def nm (z u : Nat) (t : List UInt8) : ByteArray := ⟨(110 :: (zd z u ++ t)).toArray⟩
theorem take_all {p : UInt8 → Bool} : ∀ (l t : List UInt8), (∀ c ∈ l, p c = true) → (∀ c r, t = c :: r → p c = false) → (l ++ t).takeWhile p = l ∧ (l ++ t).dropWhile p = t
  | [], t, _, h => by
    cases t with
    | nil => exact ⟨rfl, rfl⟩
    | cons c r =>
      have := h c r rfl
      rw [List.nil_append, List.takeWhile_cons, List.dropWhile_cons, this]
      exact ⟨rfl, rfl⟩
  | c :: l, t, h1, h2 => by
    obtain ⟨e1, e2⟩ := take_all l t (fun x hx => h1 x (List.mem_cons_of_mem _ hx)) h2
    have hc := h1 c (List.mem_cons_self ..)
    rw [List.cons_append, List.takeWhile_cons, List.dropWhile_cons, hc]
    simp only [if_true, e1, e2, and_self]
theorem nm_key (z u : Nat) (t : List UInt8) (ht : ∀ c r, t = c :: r → isDb c = false) : key (nm z u t).data.toList = 111 :: 0 :: (numKey (zd z u) ++ key t) := by
  obtain ⟨c, l, hcl⟩ : ∃ c l, zd z u = c :: l := by
    have := zd_pos z u
    cases h : zd z u with
    | nil => rw [h] at this; simp at this
    | cons c l => exact ⟨c, l, rfl⟩
  have ha := zd_all z u
  rw [hcl] at ha
  obtain ⟨e1, e2⟩ := take_all l t (fun x hx => ha x (List.mem_cons_of_mem _ hx)) ht
  show key (110 :: (zd z u ++ t)) = _
  rw [key_other (by decide), hcl, List.cons_append, key_digit (ha c (List.mem_cons_self ..)), e1, e2]
  rfl
theorem nm_ord_lt (z y u v : Nat) (s t : List UInt8) (hs : ∀ c r, s = c :: r → isDb c = false) (ht : ∀ c r, t = c :: r → isDb c = false) (h : cmpI (numKey (zd z u)) (numKey (zd y v)) = -1) : ord (nm z u s) (nm y v t) = -1 := by
  unfold ord
  rw [nm_key _ _ _ hs, nm_key _ _ _ ht]
  have e : ∀ p q : List Nat, cmpI (111 :: p) (111 :: q) = cmpI p q := fun p q => by simp [cmpI]
  rw [e, cmp_numKey, h]
  rfl
theorem nm_ord_tail (z u : Nat) (s t : List UInt8) (hs : ∀ c r, s = c :: r → isDb c = false) (ht : ∀ c r, t = c :: r → isDb c = false) : ord (nm z u s) (nm z u t) = cmpI (key s) (key t) := by
  unfold ord
  rw [nm_key _ _ _ hs, nm_key _ _ _ ht]
  have e : ∀ p q : List Nat, cmpI (111 :: p) (111 :: q) = cmpI p q := fun p q => by simp [cmpI]
  rw [e, cmp_numKey, cmpI_self, if_pos rfl]
def tl (t : List UInt8) : Bool := t == [] || t == [45, 49] || t == [97]
theorem nm_vld (z u : Nat) (t : List UInt8) (ht : tl t = true) (hl : z + (Lib.decDigits u).length + t.length ≤ 23) : vld (nm z u t) = true := by
  rw [vld_iff]
  have hn : (nm z u t).data.toList = 110 :: (zd z u ++ t) := by simp [nm]
  have hsz : (nm z u t).size = 1 + (zd z u ++ t).length := by rw [size_eq, hn]; simp; omega
  have hzl : (zd z u).length = z + (Lib.decDigits u).length := by unfold zd; simp
  have hp := zd_pos z u
  have hl2 : (zd z u ++ t).length = (zd z u).length + t.length := by simp
  have hat : ∀ i : Nat, i < (nm z u t).size → ∃ c : UInt8, (110 :: (zd z u ++ t))[i]? = some c ∧ bt (nm z u t) (i : Int) = (c.toNat : Int) := by
    intro i hi
    refine ⟨(nm z u t).data[i]'hi, ?_, bt_lt _ _ hi⟩
    rw [← hn]; exact data_get _ _ hi
  have hdig : ∀ i : Nat, i < (zd z u).length → isD (bt (nm z u t) ((1 + i : Nat) : Int)) := by
    intro i hi
    obtain ⟨c, hc, he⟩ := hat (1 + i) (by omega)
    rw [he]
    rw [Nat.add_comm, List.getElem?_cons_succ, List.getElem?_append_left hi] at hc
    exact (isDb_iff c).1 (zd_all z u c (List.mem_of_getElem? hc))
  have htl : ∀ i : Nat, i < t.length → ∀ c, t[i]? = some c → bt (nm z u t) ((1 + (zd z u).length + i : Nat) : Int) = (c.toNat : Int) := by
    intro i hi c hc
    obtain ⟨c', hc', he⟩ := hat (1 + (zd z u).length + i) (by omega)
    rw [he]
    rw [show 1 + (zd z u).length + i = ((zd z u).length + i) + 1 by omega, List.getElem?_cons_succ, List.getElem?_append_right (by omega), show (zd z u).length + i - (zd z u).length = i by omega, hc] at hc'
    cases hc'; rfl
  have h0 : bt (nm z u t) ((0 : Nat) : Int) = 110 := by
    obtain ⟨c, hc, he⟩ := hat 0 (by omega)
    rw [he]; cases hc; rfl
  have hD : ∀ c, isD c → okc c ∧ c ≠ 45 := fun c h => ⟨.inr (.inl h), by unfold isD at h; omega⟩
  have hnot : ∀ i : Nat, i < 1 + (zd z u).length → okc (bt (nm z u t) (i : Int)) ∧ bt (nm z u t) (i : Int) ≠ 45 := by
    intro i hi
    by_cases e : i = 0
    · subst e; rw [h0]; exact ⟨by decide, by decide⟩
    · have := hdig (i - 1) (by omega)
      rw [show 1 + (i - 1) = i by omega] at this
      exact hD _ this
  unfold tl at ht
  simp only [Bool.or_eq_true, beq_iff_eq] at ht
  rcases ht with (rfl | rfl) | rfl
  · simp only [List.length_nil] at hl2 hl
    refine ⟨by omega, by omega, by rw [show (0 : Int) = ((0 : Nat) : Int) from rfl, h0]; decide, fun i hi => (hnot i (by omega)).1, fun i hi _ h => (hnot i (by omega)).2 h.1, (hnot _ (by omega)).2⟩
  · simp only [List.length_cons, List.length_nil] at hl2 hl htl
    have t0 := htl 0 (by omega) 45 rfl
    have t1 := htl 1 (by omega) 49 rfl
    refine ⟨by omega, by omega, by rw [show (0 : Int) = ((0 : Nat) : Int) from rfl, h0]; decide, fun i hi => ?_, fun i hi hi2 h => ?_, ?_⟩
    · by_cases e : i < 1 + (zd z u).length
      · exact (hnot i e).1
      · by_cases e2 : i = 1 + (zd z u).length
        · subst e2; rw [show ((1 + (zd z u).length : Nat) : Int) = ((1 + (zd z u).length + 0 : Nat) : Int) from rfl, t0]; decide
        · rw [show i = 1 + (zd z u).length + 1 by omega, t1]; decide
    · by_cases e : i < 1 + (zd z u).length
      · exact (hnot i e).2 h.1
      · rw [show i + 1 = 1 + (zd z u).length + 1 by omega, t1] at h
        exact absurd h.2 (by decide)
    · rw [show (nm z u [45, 49]).size - 1 = 1 + (zd z u).length + 1 by omega, t1]; decide
  · simp only [List.length_cons, List.length_nil] at hl2 hl htl
    have t0 := htl 0 (by omega) 97 rfl
    refine ⟨by omega, by omega, by rw [show (0 : Int) = ((0 : Nat) : Int) from rfl, h0]; decide, fun i hi => ?_, fun i hi hi2 h => ?_, ?_⟩
    · by_cases e : i < 1 + (zd z u).length
      · exact (hnot i e).1
      · rw [show i = 1 + (zd z u).length + 0 by omega, t0]; decide
    · exact (hnot i (by omega)).2 h.1
    · rw [show (nm z u [97]).size - 1 = 1 + (zd z u).length + 0 by omega, t0]; decide
end Go.Proofs.YtallacbjeajpoaaDoor.Idp
