/- The pure law of names: the reference's order is that of the keys, too. -/
import Derived.Test.YtpmbljigdghmiaaDoorIdpB
namespace Go.Proofs.YtpmbljigdghmiaaDoor.Idp
open Go.RowKit Go.Proofs.YtpmbljigdghmiaaDoor.Ext Go.Proofs.YtpmbljigdghmiaaDoor.P Go.Proofs.YtpmbljigdghmiaaDoorW.PrintWords Go.Proofs.YtpmbljigdghmiaaDoorW.PrintLast Go.Proofs.YtpmbljigdghmiaaDoorW.PrintMore

theorem wrap_nat (i : Nat) (h : i ≤ 140737488351232) : wrap64 ((i : Int) + 1) = ((i + 1 : Nat) : Int) := by rw [wrap_in (by omega) (by omega)]; omega
theorem end_l0 (s : ByteArray) (hs : s.size ≤ 140737488351232) : ∀ d k (i : Nat), i ≤ s.size → s.size - i = d → d < k →
    dancestudioref05_end.l0 k s i = some ((i + ((s.data.toList.drop i).takeWhile isDb).length : Nat) : Int) := by
  intro d
  induction d with
  | zero =>
    intro k i hi hd hk
    obtain ⟨k, rfl⟩ : ∃ m, k = m + 1 := ⟨k - 1, by omega⟩
    simp only [dancestudioref05_end.l0]
    rw [if_neg (by omega), List.drop_eq_nil_of_le (by rw [← size_eq]; omega)]
    simp
  | succ d ih =>
    intro k i hi hd hk
    obtain ⟨k, rfl⟩ : ∃ m, k = m + 1 := ⟨k - 1, by omega⟩
    have hw : wrap64 ((i : Int) + 1) = ((i + 1 : Nat) : Int) := by rw [wrap_in (by omega) (by omega)]; omega
    simp only [dancestudioref05_end.l0]
    rw [if_pos (by omega), if_pos (by omega), rdigit_eq]
    simp only [Option.bind_some, decide_eq_true_eq]
    cases hl : s.data.toList.drop i with
    | nil =>
      have := congrArg List.length hl
      rw [List.length_drop, ← size_eq] at this
      simp at this; omega
    | cons c l =>
      obtain ⟨_, h2, h3⟩ := bt_drop s i c l hl
      rw [h2, hw]
      by_cases hc : isDb c = true
      · rw [if_pos ((isDb_iff c).1 hc), ih k (i + 1) (by omega) (by omega) (by omega), h3, List.takeWhile_cons_of_pos hc]
        simp; omega
      · rw [if_neg (fun h => hc ((isDb_iff c).2 h)), List.takeWhile_cons_of_neg hc]
        simp
theorem end_eq (s : ByteArray) (hs : s.size ≤ 140737488351232) (k : Nat) (i : Nat) (hi : i ≤ s.size) (hk : s.size < k) : dancestudioref05_end.f k s i = some ((i + ((s.data.toList.drop i).takeWhile isDb).length : Nat) : Int) := by
  unfold dancestudioref05_end.f
  exact end_l0 s hs (s.size - i) k i hi rfl (by omega)
theorem bare_l0 : ∀ d k (s : ByteArray), s.size = d → d < k → ∃ r, dancestudioref05_bare.l0 k s = some r ∧ r.data.toList = trim0 s.data.toList := by
  intro d
  induction d with
  | zero =>
    intro k s hd hk
    obtain ⟨k, rfl⟩ : ∃ m, k = m + 1 := ⟨k - 1, by omega⟩
    refine ⟨s, ?_, ?_⟩
    · simp only [dancestudioref05_bare.l0]; rw [if_neg (by omega)]
    · have : s.data.toList = [] := by rw [List.eq_nil_iff_length_eq_zero, ← size_eq]; exact hd
      rw [this]; rfl
  | succ d ih =>
    intro k s hd hk
    obtain ⟨k, rfl⟩ : ∃ m, k = m + 1 := ⟨k - 1, by omega⟩
    simp only [dancestudioref05_bare.l0]
    rw [if_pos (by omega), if_pos (by omega)]
    cases hl : s.data.toList with
    | nil => rw [size_eq, hl] at hd; simp at hd
    | cons c l =>
      have h2 := (bt_head s c l hl).2
      rw [h2, show ((48 : Int)) = ((48 : Nat) : Int) from rfl]
      by_cases hc : c = 48
      · rw [if_pos ((u8_eq c 48 (by omega)).2 hc), if_pos (by omega)]
        have e3 : (s.extract 1 s.size).data.toList = l := by
          rw [Lib.extract_data, hl, List.take_of_length_le (by rw [List.length_drop, ← hl, ← size_eq]; omega)]; rfl
        have hz : s.size = l.length + 1 := by rw [size_eq, hl]; rfl
        obtain ⟨r, hr, hr'⟩ := ih k (s.extract 1 s.size) (by rw [size_eq (s.extract 1 s.size), e3]; omega) (by omega)
        refine ⟨r, hr, ?_⟩
        rw [hr', e3]
        unfold trim0
        rw [List.dropWhile_cons_of_pos (by simp [hc])]
      · rw [if_neg (fun h => hc ((u8_eq c 48 (by omega)).1 h))]
        refine ⟨s, rfl, ?_⟩
        unfold trim0
        rw [hl, List.dropWhile_cons_of_neg (by simp [hc])]
theorem less_bytes : ∀ x y : List UInt8, x.length = y.length → x ≠ y → cmpI (x.map UInt8.toNat) (y.map UInt8.toNat) = if Op.bytesLess x y = true then -1 else 1
  | [], [] => by simp
  | [], _ :: _ => by simp
  | _ :: _, [] => by simp
  | a :: x, b :: y => by
    intro hl hne
    have ih := less_bytes x y (by simpa using hl)
    rw [show Op.bytesLess (a :: x) (b :: y) = (decide (a < b) || (a == b && Op.bytesLess x y)) from rfl]
    simp only [List.map_cons, cmpI]
    by_cases h1 : a.toNat < b.toNat
    · have : a < b := by rw [UInt8.lt_iff_toNat_lt]; exact h1
      rw [if_pos h1, if_pos (by simp [this])]
    · have n1 : ¬ a < b := by rw [UInt8.lt_iff_toNat_lt]; exact h1
      rw [if_neg h1]
      by_cases h2 : b.toNat < a.toNat
      · have n2 : ¬ a = b := fun e => by rw [e] at h2; omega
        rw [if_pos h2, if_neg (by simp [n1, n2])]
      · have e : a = b := UInt8.toNat_inj.1 (by omega)
        subst e
        have hxy : x ≠ y := fun e => hne (by rw [e])
        rw [if_neg h2, ih hxy]
        simp [n1]
theorem number_eq (a b : ByteArray) (k : Nat) (ha : a.size < k) (hb : b.size < k) : dancestudioref05_number.f k a b = some (cmpI (numKey a.data.toList) (numKey b.data.toList)) := by
  unfold dancestudioref05_number.f dancestudioref05_bare.f
  obtain ⟨r, hr, er⟩ := bare_l0 a.size k a rfl ha
  obtain ⟨q, hq, eq'⟩ := bare_l0 b.size k b rfl hb
  rw [hr]
  simp only [Option.bind_some]
  rw [hq]
  simp only [Option.bind_some]
  rw [Lib.toList_data, Lib.toList_data, size_eq r, size_eq q, er, eq', size_eq a, size_eq b]
  rw [← numKey_cmp]
  by_cases h1 : (trim0 a.data.toList).length = (trim0 b.data.toList).length
  · have s0 : sgn (trim0 a.data.toList).length (trim0 b.data.toList).length = 0 := by simp [sgn, h1]
    have c1 : ((trim0 a.data.toList).length : Int) = (trim0 b.data.toList).length := by omega
    rw [if_pos c1, s0, if_pos (show (0 : Int) = 0 from rfl)]
    by_cases h2 : trim0 a.data.toList = trim0 b.data.toList
    · rw [if_pos h2, h2, cmp_bytes, cmpI_self, if_pos (show (0 : Int) = 0 from rfl)]
      unfold sgn
      (repeat' split) <;> first | rfl | (exfalso; omega)
    · rw [if_neg h2, cmp_bytes, less_bytes _ _ h1 h2]
      by_cases h3 : Op.bytesLess (trim0 a.data.toList) (trim0 b.data.toList) = true
      · rw [if_pos h3, if_pos h3]; rfl
      · rw [if_neg h3, if_neg h3]; rfl
  · rw [if_neg (by omega)]
    unfold sgn
    (repeat' split) <;> first | rfl | (exfalso; omega)
theorem drop_cons (s : ByteArray) (i : Nat) (hi : i < s.size) : ∃ c l, s.data.toList.drop i = c :: l := by
  cases hl : s.data.toList.drop i with
  | nil =>
    have := congrArg List.length hl
    rw [List.length_drop, ← size_eq] at this
    simp at this; omega
  | cons c l => exact ⟨c, l, rfl⟩
theorem drop_len (s : ByteArray) (i : Nat) (c : UInt8) (l : List UInt8) (h : s.data.toList.drop i = c :: l) : s.size = i + l.length + 1 := by
  have hi := (bt_drop s i c l h).1
  have := congrArg List.length h
  rw [List.length_drop, ← size_eq] at this
  simp at this; omega
theorem rorder_l0 (a b : ByteArray) (ha : a.size ≤ 140737488351232) (hb : b.size ≤ 140737488351232) : ∀ n k (i j : Nat), (a.size - i) + (b.size - j) ≤ n → i ≤ a.size → j ≤ b.size → 4 * n + a.size + b.size + 10 ≤ k →
    dancestudioref05_order.l0 k a b i j = some (cmpI (key (a.data.toList.drop i)) (key (b.data.toList.drop j))) := by
  intro n
  induction n using Nat.strongRecOn with
  | ind n ih =>
    intro k i j hn hi hj hk
    obtain ⟨k, rfl⟩ : ∃ m, k = m + 3 := ⟨k - 3, by omega⟩
    simp only [dancestudioref05_order.l0]
    by_cases hia : i = a.size
    · rw [if_neg (by omega)]
      simp only [dancestudioref05_order.j1]
      rw [if_neg (by simp), if_neg (by omega), List.drop_eq_nil_of_le (by rw [← size_eq]; omega), key_nil]
      by_cases hjb : j = b.size
      · rw [if_neg (by omega), List.drop_eq_nil_of_le (by rw [← size_eq]; omega), key_nil]; rfl
      · obtain ⟨c, l, hl⟩ := drop_cons b j (by omega)
        obtain ⟨x, t, e⟩ := key_cons c l
        rw [if_pos (by omega), hl, e]; rfl
    obtain ⟨ca, la, hA⟩ := drop_cons a i (by omega)
    have za := drop_len a i ca la hA
    rw [if_pos (by omega)]
    by_cases hjb : j = b.size
    · rw [decide_eq_false (by omega)]
      simp only [dancestudioref05_order.j1]
      obtain ⟨x, t, e⟩ := key_cons ca la
      rw [if_neg (by simp), if_pos (by omega), hA, e, List.drop_eq_nil_of_le (by rw [← size_eq]; omega), key_nil]; rfl
    obtain ⟨cb, lb, hB⟩ := drop_cons b j (by omega)
    have zb := drop_len b j cb lb hB
    rw [decide_eq_true (by omega)]
    simp only [dancestudioref05_order.j1]
    obtain ⟨_, b1, d1⟩ := bt_drop a i ca la hA
    obtain ⟨_, b2, d2⟩ := bt_drop b j cb lb hB
    rw [if_pos (by first | exact True.intro | rfl), if_pos (by omega), if_pos (by omega), rdigit_eq]
    simp only [Option.bind_some]
    rw [if_pos (by omega), if_pos (by omega), rdigit_eq]
    simp only [Option.bind_some]
    have da : decide (isD (bt a i)) = isDb ca := by rw [b1, Bool.eq_iff_iff, decide_eq_true_eq, isDb_iff]
    have db : decide (isD (bt b j)) = isDb cb := by rw [b2, Bool.eq_iff_iff, decide_eq_true_eq, isDb_iff]
    rw [da, db, hA, hB]
    cases hca : isDb ca with
    | true =>
      rw [if_pos (by first | exact True.intro | rfl)]
      cases hcb : isDb cb with
      | true =>
        simp only [dancestudioref05_order.j2]
        rw [if_pos (by first | exact True.intro | rfl), end_eq a ha k i hi (by omega)]
        simp only [Option.bind_some]
        rw [end_eq b hb k j hj (by omega)]
        simp only [Option.bind_some]
        rw [hA, hB, List.takeWhile_cons_of_pos hca, List.takeWhile_cons_of_pos hcb]
        have la' := (List.takeWhile_prefix isDb (l := la)).length_le
        have lb' := (List.takeWhile_prefix isDb (l := lb)).length_le
        have ea : (ca :: la.takeWhile isDb).length = (la.takeWhile isDb).length + 1 := rfl
        have eb : (cb :: lb.takeWhile isDb).length = (lb.takeWhile isDb).length + 1 := rfl
        have ta := take_while_len (ca :: la)
        have tb := take_while_len (cb :: lb)
        rw [List.takeWhile_cons_of_pos hca] at ta
        rw [List.takeWhile_cons_of_pos hcb] at tb
        rw [if_pos (by omega), if_pos (by omega), if_pos (by omega), if_pos (by omega), if_pos (by omega), if_pos (by omega)]
        simp only [Int.toNat_natCast]
        have e1 : (a.extract i (i + (ca :: la.takeWhile isDb).length)).data.toList = ca :: la.takeWhile isDb := by
          rw [Lib.extract_data, hA, Nat.add_sub_cancel_left]; exact ta.1
        have e2 : (b.extract j (j + (cb :: lb.takeWhile isDb).length)).data.toList = cb :: lb.takeWhile isDb := by
          rw [Lib.extract_data, hB, Nat.add_sub_cancel_left]; exact tb.1
        have e3 : a.data.toList.drop (i + (ca :: la.takeWhile isDb).length) = la.dropWhile isDb := by
          rw [← List.drop_drop, hA, ta.2, List.dropWhile_cons_of_pos hca]
        have e4 : b.data.toList.drop (j + (cb :: lb.takeWhile isDb).length) = lb.dropWhile isDb := by
          rw [← List.drop_drop, hB, tb.2, List.dropWhile_cons_of_pos hcb]
        rw [number_eq _ _ k (by rw [size_eq, e1]; omega) (by rw [size_eq, e2]; omega)]
        simp only [Option.bind_some]
        rw [e1, e2, key_digit hca, key_digit hcb, cmp_numKey]
        by_cases hz : cmpI (numKey (ca :: la.takeWhile isDb)) (numKey (cb :: lb.takeWhile isDb)) = 0
        · rw [if_pos hz, if_pos hz, ih (n - 2) (by omega) k _ _ (by omega) (by omega) (by omega) (by omega), e3, e4]
        · rw [if_neg hz, if_neg hz]
      | false =>
        simp only [dancestudioref05_order.j2]
        rw [if_neg (by simp), if_pos (by first | exact True.intro | rfl), key_digit hca, key_other hcb]
        simp [cmpI]
    | false =>
      rw [if_neg (by simp)]
      simp only [dancestudioref05_order.j2]
      rw [if_neg (by simp), if_neg (by simp)]
      cases hcb : isDb cb with
      | true =>
        rw [if_pos (by first | exact True.intro | rfl), key_other hca, key_digit hcb]
        simp [cmpI]
      | false =>
        rw [if_neg (by simp), if_pos (by omega), if_pos (by omega), if_pos (by omega), if_pos (by omega), b1, b2, key_other hca, key_other hcb, wrap_nat i (by omega), wrap_nat j (by omega)]
        simp only [cmpI]
        by_cases h1 : ca.toNat = cb.toNat
        · rw [if_pos (by omega), if_neg (by omega), if_neg (by omega), ih (n - 2) (by omega) k _ _ (by omega) (by omega) (by omega) (by omega), d1, d2]
        · rw [if_neg (by omega)]
          by_cases h2 : ca.toNat < cb.toNat
          · rw [if_pos (by omega), if_pos (by omega)]
          · rw [if_neg (by omega), if_neg (by omega), if_pos (by omega)]
theorem rorder_eq (a b : ByteArray) (ha : a.size ≤ 140737488351232) (hb : b.size ≤ 140737488351232) (k : Nat) (hk : 5 * (a.size + b.size) + 10 ≤ k) : dancestudioref05_order.f k a b = some (ord a b) := by
  unfold dancestudioref05_order.f ord
  have := rorder_l0 a b ha hb (a.size + b.size) k 0 0 (by omega) (by omega) (by omega) (by omega)
  simpa using this
theorem rless_spec (a b : ByteArray) (ha : a.size ≤ 140737488351232) (hb : b.size ≤ 140737488351232) (k : Nat) (hk : 5 * (a.size + b.size) + 10 ≤ k) : dancestudioref05_Less.f k a b = some (less a b) := by
  unfold dancestudioref05_Less.f less
  rw [rvalid_spec a ha k (by omega)]
  simp only [Option.bind_some]
  rw [rvalid_spec b hb k (by omega)]
  simp only [Option.bind_some]
  rw [rorder_eq a b ha hb k hk]
  cases vld a <;> cases vld b <;> simp
end Go.Proofs.YtpmbljigdghmiaaDoor.Idp
