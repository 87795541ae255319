/- The pure law of names: the order of two names is that of their keys. -/
import Derived.Test.YtpmbljigdghmiaaDoorIdpA
import Derived.Lib.Bytealg
namespace Go.Proofs.YtpmbljigdghmiaaDoor.Idp
open Go.RowKit Go.Proofs.YtpmbljigdghmiaaDoor.Ext Go.Proofs.YtpmbljigdghmiaaDoor.P Go.Proofs.YtpmbljigdghmiaaDoorW.PrintWords Go.Proofs.YtpmbljigdghmiaaDoorW.PrintLast Go.Proofs.YtpmbljigdghmiaaDoorW.PrintMore

def cmpI : List Nat → List Nat → Int
  | [], [] => 0
  | [], _ :: _ => -1
  | _ :: _, [] => 1
  | a :: ta0, b :: tb0 => if a < b then -1 else if b < a then 1 else cmpI ta0 tb0
theorem cmpI_range : ∀ x y, cmpI x y = -1 ∨ cmpI x y = 0 ∨ cmpI x y = 1
  | [], [] => by simp [cmpI]
  | [], _ :: _ => by simp [cmpI]
  | _ :: _, [] => by simp [cmpI]
  | a :: ta0, b :: tb0 => by
    have := cmpI_range ta0 tb0
    simp only [cmpI]
    split
    · simp
    · split
      · simp
      · exact this
theorem cmpI_zero : ∀ x y, cmpI x y = 0 ↔ x = y
  | [], [] => by simp [cmpI]
  | [], _ :: _ => by simp [cmpI]
  | _ :: _, [] => by simp [cmpI]
  | a :: ta0, b :: tb0 => by
    have := cmpI_zero ta0 tb0
    simp only [cmpI]
    split
    · rename_i h; simp; omega
    · split
      · rename_i h; simp; omega
      · rename_i h1 h2; rw [this]; simp; omega
theorem cmpI_neg : ∀ x y, cmpI y x = - cmpI x y
  | [], [] => by simp [cmpI]
  | [], _ :: _ => by simp [cmpI]
  | _ :: _, [] => by simp [cmpI]
  | a :: ta0, b :: tb0 => by
    have := cmpI_neg ta0 tb0
    simp only [cmpI]
    by_cases h1 : a < b
    · rw [if_neg (by omega), if_pos h1, if_pos h1]; rfl
    · by_cases h2 : b < a
      · rw [if_pos h2, if_neg h1, if_pos h2]
      · rw [if_neg h2, if_neg h1, if_neg h1, if_neg h2]; exact this
theorem cmpI_trans : ∀ x y z, cmpI x y = -1 → cmpI y z = -1 → cmpI x z = -1
  | [], [], z => by simp [cmpI]
  | [], _ :: _, [] => by simp [cmpI]
  | [], _ :: _, _ :: _ => by simp [cmpI]
  | _ :: _, [], z => by simp [cmpI]
  | _ :: _, _ :: _, [] => by simp [cmpI]
  | a :: ta0, b :: tb0, c :: tc0 => by
    have ih := cmpI_trans ta0 tb0 tc0
    simp only [cmpI]
    intro h1 h2
    by_cases e1 : a < b
    · by_cases e2 : b < c
      · rw [if_pos (by omega)]
      · by_cases e3 : c < b
        · rw [if_neg e2, if_pos e3] at h2; omega
        · rw [if_pos (by omega)]
    · by_cases e4 : b < a
      · rw [if_neg e1, if_pos e4] at h1; omega
      · rw [if_neg e1, if_neg e4] at h1
        by_cases e2 : b < c
        · rw [if_pos (by omega)]
        · by_cases e3 : c < b
          · rw [if_neg e2, if_pos e3] at h2; omega
          · rw [if_neg e2, if_neg e3] at h2
            rw [if_neg (by omega), if_neg (by omega)]
            exact ih h1 h2
theorem cmpI_append : ∀ p q u v : List Nat, p.length = q.length → cmpI (p ++ u) (q ++ v) = if cmpI p q = 0 then cmpI u v else cmpI p q
  | [], [], u, v => by simp [cmpI]
  | a :: ta0, b :: tb0, u, v => by
    intro h
    have ih := cmpI_append ta0 tb0 u v (by simpa using h)
    by_cases h1 : a < b
    · simp [cmpI, h1]
    · by_cases h2 : b < a
      · simp [cmpI, h1, h2]
      · have e : ∀ x y : List Nat, cmpI (a :: x) (b :: y) = cmpI x y := fun x y => by simp [cmpI, h1, h2]
        rw [List.cons_append, List.cons_append, e, e]; exact ih
  | [], _ :: _, u, v => by simp
  | _ :: _, [], u, v => by simp
theorem cmpI_self (x : List Nat) : cmpI x x = 0 := (cmpI_zero x x).2 rfl

def isDb (c : UInt8) : Bool := 48 ≤ c && c ≤ 57
theorem isDb_iff (c : UInt8) : isDb c = true ↔ isD (c.toNat : Int) := by
  unfold isDb isD
  rw [Bool.and_eq_true, decide_eq_true_eq, decide_eq_true_eq, UInt8.le_iff_toNat_le, UInt8.le_iff_toNat_le]
  simp
  omega
def trim0 (d : List UInt8) : List UInt8 := d.dropWhile (· == 48)
def numKey (d : List UInt8) : List Nat := (trim0 d).length :: ((trim0 d).map UInt8.toNat ++ [d.length])
def key : List UInt8 → List Nat
  | [] => []
  | c :: l => if isDb c then 0 :: (numKey (c :: l.takeWhile isDb) ++ key (l.dropWhile isDb)) else (1 + c.toNat) :: key l
  termination_by l => l.length
  decreasing_by
  · have := (List.dropWhile_suffix isDb (l := l)).length_le
    simp; omega
  · simp
theorem key_nil : key [] = [] := by rw [key]
theorem key_digit {c : UInt8} {l : List UInt8} (h : isDb c = true) : key (c :: l) = 0 :: (numKey (c :: l.takeWhile isDb) ++ key (l.dropWhile isDb)) := by rw [key, if_pos h]
theorem key_other {c : UInt8} {l : List UInt8} (h : isDb c = false) : key (c :: l) = (1 + c.toNat) :: key l := by rw [key, if_neg (by simp [h])]
theorem key_cons (c : UInt8) (l : List UInt8) : ∃ x t, key (c :: l) = x :: t := by
  cases h : isDb c with
  | true => exact ⟨_, _, key_digit h⟩
  | false => exact ⟨_, _, key_other h⟩
theorem cmp_numKey (d e : List UInt8) (u v : List Nat) : cmpI (0 :: (numKey d ++ u)) (0 :: (numKey e ++ v)) = if cmpI (numKey d) (numKey e) = 0 then cmpI u v else cmpI (numKey d) (numKey e) := by
  have e0 : ∀ p q : List Nat, cmpI (0 :: p) (0 :: q) = cmpI p q := fun p q => by simp [cmpI]
  rw [e0]
  by_cases h : (trim0 d).length = (trim0 e).length
  · exact cmpI_append _ _ _ _ (by simp [numKey, h])
  · unfold numKey
    simp only [List.cons_append, cmpI]
    by_cases h1 : (trim0 d).length < (trim0 e).length
    · simp [h1]
    · have h2 : (trim0 e).length < (trim0 d).length := by omega
      simp [h1, h2]
theorem cmp_bytes : ∀ x y : List UInt8, Lib.compareBytes x y = cmpI (x.map UInt8.toNat) (y.map UInt8.toNat)
  | [], [] => rfl
  | [], _ :: _ => rfl
  | _ :: _, [] => rfl
  | a :: ta0, b :: tb0 => by
    simp only [Lib.compareBytes, List.map_cons, cmpI, UInt8.lt_iff_toNat_lt]
    rw [cmp_bytes ta0 tb0]

def sgn (x y : Int) : Int := if x < y then -1 else if x > y then 1 else 0
theorem compare_int_eq (x y : Int) : cmp_Compare_int.f x y = some (sgn x y) := by
  unfold cmp_Compare_int.f cmp_isNaN_int.f sgn
  simp only [Option.bind_some, bne_self_eq_false, Bool.false_eq_true, if_false]
  split
  · rfl
  · split <;> rfl
theorem compare_byte_eq (x y : Int) : cmp_Compare_byte.f x y = some (sgn x y) := by
  unfold cmp_Compare_byte.f cmp_isNaN_byte.f sgn
  simp only [Option.bind_some, bne_self_eq_false, Bool.false_eq_true, if_false]
  split
  · rfl
  · split <;> rfl
theorem or_int_eq (k : Nat) (hk : 4 ≤ k) (a b c : Int) : cmp_Or_int.f k [a, b, c] = some (if a = 0 then if b = 0 then c else b else a) := by
  obtain ⟨k, rfl⟩ : ∃ m, k = m + 4 := ⟨k - 4, by omega⟩
  unfold cmp_Or_int.f
  have w1 : wrap64 1 = 1 := by unfold wrap64; omega
  have w2 : wrap64 2 = 2 := by unfold wrap64; omega
  have w3 : wrap64 3 = 3 := by unfold wrap64; omega
  simp only [cmp_Or_int.l0, List.length_cons, List.length_nil, rd]
  simp [w1, w2, w3]
  by_cases ha : a = 0
  · by_cases hb : b = 0
    · by_cases hc : c = 0 <;> simp [ha, hb, hc]
    · simp [ha, hb]
  · simp [ha]
theorem numKey_cmp (d e : List UInt8) : (if sgn (trim0 d).length (trim0 e).length = 0 then if Lib.compareBytes (trim0 d) (trim0 e) = 0 then sgn d.length e.length else Lib.compareBytes (trim0 d) (trim0 e) else sgn (trim0 d).length (trim0 e).length) = cmpI (numKey d) (numKey e) := by
  unfold numKey sgn
  simp only [cmpI]
  by_cases h1 : (trim0 d).length < (trim0 e).length
  · simp [h1]
  · by_cases h2 : (trim0 e).length < (trim0 d).length
    · simp [h1, h2]
    · have h : (trim0 d).length = (trim0 e).length := by omega
      rw [cmp_bytes, cmpI_append _ _ _ _ (by simp [h])]
      simp only [h, Nat.lt_irrefl, if_false, Int.lt_irrefl, gt_iff_lt, if_true]
      by_cases hz : cmpI ((trim0 d).map UInt8.toNat) ((trim0 e).map UInt8.toNat) = 0
      · rw [if_pos hz, if_pos hz]
        simp only [cmpI]
        by_cases g1 : d.length < e.length
        · simp [g1]
        · by_cases g2 : e.length < d.length
          · simp [g1, g2]
          · simp [g1, g2]
      · rw [if_neg hz, if_neg hz]

theorem size_eq (s : ByteArray) : s.size = s.data.toList.length := (data_length s).symm
theorem bt_drop (s : ByteArray) (i : Nat) (c : UInt8) (l : List UInt8) (h : s.data.toList.drop i = c :: l) : i < s.size ∧ bt s i = (c.toNat : Int) ∧ s.data.toList.drop (i + 1) = l := by
  have hi : i < s.size := by
    rw [size_eq]
    rcases Nat.lt_or_ge i s.data.toList.length with h' | h'
    · exact h'
    · rw [List.drop_eq_nil_of_le h'] at h; cases h
  have h0 := data_get s i hi
  have h1 : (s.data.toList.drop i)[0]? = some c := by rw [h]; rfl
  rw [List.getElem?_drop, Nat.add_zero, h0] at h1
  refine ⟨hi, ?_, ?_⟩
  · rw [bt_lt s i hi, Option.some.inj h1]
  · rw [← List.drop_drop, h]; rfl
theorem bt_head (s : ByteArray) (c : UInt8) (l : List UInt8) (h : s.data.toList = c :: l) : 0 < s.size ∧ bt s 0 = (c.toNat : Int) := by
  have := bt_drop s 0 c l h
  exact ⟨this.1, this.2.1⟩
theorem take_while_len (l : List UInt8) : l.take (l.takeWhile isDb).length = l.takeWhile isDb ∧ l.drop (l.takeWhile isDb).length = l.dropWhile isDb := by
  have h1 : (l.takeWhile isDb ++ l.dropWhile isDb).take (l.takeWhile isDb).length = l.takeWhile isDb := List.take_left' rfl
  have h2 : (l.takeWhile isDb ++ l.dropWhile isDb).drop (l.takeWhile isDb).length = l.dropWhile isDb := List.drop_left' rfl
  rw [List.takeWhile_append_dropWhile] at h1 h2
  exact ⟨h1, h2⟩
theorem row_l0 (s : ByteArray) (hs : s.size ≤ 140737488351232) : ∀ d k (i : Nat), i ≤ s.size → s.size - i = d → d < k →
    ident_row.l0 k s i = some ((i + ((s.data.toList.drop i).takeWhile isDb).length : Nat) : Int) := by
  intro d
  induction d with
  | zero =>
    intro k i hi hd hk
    obtain ⟨k, rfl⟩ : ∃ m, k = m + 1 := ⟨k - 1, by omega⟩
    simp only [ident_row.l0]
    rw [if_neg (by omega), List.drop_eq_nil_of_le (by rw [← size_eq]; omega)]
    simp
  | succ d ih =>
    intro k i hi hd hk
    obtain ⟨k, rfl⟩ : ∃ m, k = m + 1 := ⟨k - 1, by omega⟩
    have hw : wrap64 ((i : Int) + 1) = ((i + 1 : Nat) : Int) := by rw [wrap_in (by omega) (by omega)]; omega
    simp only [ident_row.l0]
    rw [if_pos (by omega), if_pos (by omega), digit_eq]
    simp only [Option.bind_some, decide_eq_true_eq]
    cases hl : s.data.toList.drop i with
    | nil =>
      have := congrArg List.length hl
      rw [List.length_drop, ← size_eq] at this
      simp at this; omega
    | cons c l =>
      obtain ⟨_, h2, h3⟩ := bt_drop s i c l hl
      rw [h2, hw]
      by_cases hc : isDb c = true
      · rw [if_pos ((isDb_iff c).1 hc), ih k (i + 1) (by omega) (by omega) (by omega), h3, List.takeWhile_cons_of_pos hc]
        simp; omega
      · rw [if_neg (fun h => hc ((isDb_iff c).2 h)), List.takeWhile_cons_of_neg hc]
        simp
theorem row_eq (s : ByteArray) (hs : s.size ≤ 140737488351232) (k : Nat) (hk : s.size < k) : ident_row.f k s = some (((s.data.toList.takeWhile isDb).length : Nat) : Int) := by
  unfold ident_row.f
  have := row_l0 s hs s.size k 0 (by omega) (by omega) hk
  simpa using this
theorem numbers_eq (a b : ByteArray) (k : Nat) (hk : 4 ≤ k) : ident_numbers.f k a b = some (cmpI (numKey a.data.toList) (numKey b.data.toList)) := by
  unfold ident_numbers.f strings_TrimLeft.f strings_Compare.f
  simp only [if_true, Option.bind_some, compare_int_eq]
  rw [or_int_eq k hk]
  simp only [Option.bind_some]
  rw [← numKey_cmp]
  rfl
theorem extract_size_le (s : ByteArray) (i j : Nat) : (s.extract i j).size ≤ s.size := by
  rw [size_eq, Lib.extract_data, List.length_take, List.length_drop, ← size_eq]; omega
theorem order_l0 : ∀ n k (a b : ByteArray), a.size + b.size ≤ n → n ≤ 281474976702464 → a.size ≤ 140737488351232 → b.size ≤ 140737488351232 → 4 * n + 10 ≤ k →
    ident_order.l0 k a b = some (cmpI (key a.data.toList) (key b.data.toList)) := by
  intro n
  induction n using Nat.strongRecOn with
  | ind n ih =>
    intro k a b hn hm ha hb hk
    obtain ⟨k, rfl⟩ : ∃ m, k = m + 3 := ⟨k - 3, by omega⟩
    have jf : ∀ r, sgn a.size b.size = r → ident_order.j1 (k + 2) a b false = some r := by
      intro r hr
      simp only [ident_order.j1]
      rw [if_neg (by simp), compare_int_eq]
      simp [hr]
    simp only [ident_order.l0]
    rw [Lib.toList_data, Lib.toList_data]
    cases hA : a.data.toList with
    | nil =>
      have za : a.size = 0 := by rw [size_eq, hA]; rfl
      rw [if_pos rfl, key_nil]
      cases hB : b.data.toList with
      | nil =>
        have zb : b.size = 0 := by rw [size_eq, hB]; rfl
        rw [jf 0 (by simp [sgn, za, zb]), key_nil]; rfl
      | cons cb lb =>
        have zb : b.size = lb.length + 1 := by rw [size_eq, hB]; rfl
        obtain ⟨x, t, e⟩ := key_cons cb lb
        rw [jf (-1) (by unfold sgn; rw [if_pos (by omega)]), e]; rfl
    | cons ca la =>
      have za : a.size = la.length + 1 := by rw [size_eq, hA]; rfl
      rw [if_neg (by simp)]
      cases hB : b.data.toList with
      | nil =>
        have zb : b.size = 0 := by rw [size_eq, hB]; rfl
        obtain ⟨x, t, e⟩ := key_cons ca la
        rw [show ((([] : List UInt8)) != []) = false from rfl, jf 1 (by unfold sgn; rw [if_neg (by omega), if_pos (by omega)]), e, key_nil]; rfl
      | cons cb lb =>
        have zb : b.size = lb.length + 1 := by rw [size_eq, hB]; rfl
        rw [show ((cb :: lb) != []) = true from rfl]
        simp only [ident_order.j1]
        rw [if_pos trivial, row_eq a ha (k + 1) (by omega)]
        simp only [Option.bind_some]
        rw [row_eq b hb (k + 1) (by omega)]
        simp only [Option.bind_some]
        rw [hA, hB]
        have b1 := (bt_head a ca la hA).2
        have b2 := (bt_head b cb lb hB).2
        cases hca : isDb ca with
        | true =>
          rw [List.takeWhile_cons_of_pos hca, if_pos (by simp)]
          cases hcb : isDb cb with
          | true =>
            rw [List.takeWhile_cons_of_pos hcb, decide_eq_true (by simp)]
            simp only [ident_order.j2]
            have la' := (List.takeWhile_prefix isDb (l := la)).length_le
            have lb' := (List.takeWhile_prefix isDb (l := lb)).length_le
            have na : (((ca :: la.takeWhile isDb).length : Nat) : Int) ≤ a.size := by simp; omega
            have nb : (((cb :: lb.takeWhile isDb).length : Nat) : Int) ≤ b.size := by simp; omega
            rw [if_pos trivial, if_pos (by omega), if_pos na, if_pos (by omega), if_pos nb, numbers_eq _ _ _ (by omega)]
            simp only [Option.bind_some, Int.toNat_natCast]
            have ta := take_while_len (ca :: la)
            have tb := take_while_len (cb :: lb)
            rw [List.takeWhile_cons_of_pos hca] at ta
            rw [List.takeWhile_cons_of_pos hcb] at tb
            have e1 : (a.extract 0 (ca :: la.takeWhile isDb).length).data.toList = ca :: la.takeWhile isDb := by
              rw [Lib.extract_data, hA, List.drop_zero, Nat.sub_zero]; exact ta.1
            have e2 : (b.extract 0 (cb :: lb.takeWhile isDb).length).data.toList = cb :: lb.takeWhile isDb := by
              rw [Lib.extract_data, hB, List.drop_zero, Nat.sub_zero]; exact tb.1
            have e3 : (a.extract (ca :: la.takeWhile isDb).length a.size).data.toList = la.dropWhile isDb := by
              rw [Lib.extract_data, hA, List.take_of_length_le (by rw [List.length_drop]; simp; omega), ta.2, List.dropWhile_cons_of_pos hca]
            have e4 : (b.extract (cb :: lb.takeWhile isDb).length b.size).data.toList = lb.dropWhile isDb := by
              rw [Lib.extract_data, hB, List.take_of_length_le (by rw [List.length_drop]; simp; omega), tb.2, List.dropWhile_cons_of_pos hcb]
            have s3 : (a.extract (ca :: la.takeWhile isDb).length a.size).size ≤ la.length := by
              rw [size_eq, e3]; exact (List.dropWhile_suffix isDb (l := la)).length_le
            have s4 : (b.extract (cb :: lb.takeWhile isDb).length b.size).size ≤ lb.length := by
              rw [size_eq, e4]; exact (List.dropWhile_suffix isDb (l := lb)).length_le
            rw [e1, e2, key_digit hca, key_digit hcb, cmp_numKey]
            by_cases hz : cmpI (numKey (ca :: la.takeWhile isDb)) (numKey (cb :: lb.takeWhile isDb)) = 0
            · rw [if_pos hz, if_pos hz, ih (n - 2) (by omega) k _ _ (by omega) (by omega) (by omega) (by omega) (by omega), e3, e4]
            · rw [if_neg hz, if_neg hz]
          | false =>
            rw [List.takeWhile_cons_of_neg (by simp [hcb]), decide_eq_false (by simp)]
            simp only [ident_order.j2]
            rw [if_neg (by simp), if_pos (by simp), key_digit hca, key_other hcb]
            simp [cmpI]
        | false =>
          rw [List.takeWhile_cons_of_neg (by simp [hca]), if_neg (by simp)]
          simp only [ident_order.j2]
          rw [if_neg (by simp), if_neg (by simp)]
          cases hcb : isDb cb with
          | true =>
            rw [List.takeWhile_cons_of_pos hcb, if_pos (by simp), key_other hca, key_digit hcb]
            simp [cmpI]
          | false =>
            rw [List.takeWhile_cons_of_neg (by simp [hcb]), if_neg (by simp), if_pos (by omega), if_pos (by omega), compare_byte_eq]
            simp only [Option.bind_some]
            rw [b1, b2, key_other hca, key_other hcb]
            simp only [cmpI]
            by_cases h1 : ca.toNat < cb.toNat
            · rw [show sgn ca.toNat cb.toNat = -1 by unfold sgn; rw [if_pos (by omega)], if_neg (by omega), if_pos (by omega)]
            · by_cases h2 : cb.toNat < ca.toNat
              · rw [show sgn ca.toNat cb.toNat = 1 by unfold sgn; rw [if_neg (by omega), if_pos (by omega)], if_neg (by omega), if_neg (by omega), if_pos (by omega)]
              · rw [show sgn ca.toNat cb.toNat = 0 by unfold sgn; rw [if_neg (by omega), if_neg (by omega)], if_pos rfl, if_pos (by omega), if_pos (by omega), if_neg (by omega), if_neg (by omega)]
                have e3 : (a.extract 1 a.size).data.toList = la := by
                  rw [Lib.extract_data, hA, List.take_of_length_le (by rw [List.length_drop]; simp; omega)]; rfl
                have e4 : (b.extract 1 b.size).data.toList = lb := by
                  rw [Lib.extract_data, hB, List.take_of_length_le (by rw [List.length_drop]; simp; omega)]; rfl
                have s3 : (a.extract 1 a.size).size = la.length := by rw [size_eq, e3]
                have s4 : (b.extract 1 b.size).size = lb.length := by rw [size_eq, e4]
                rw [ih (n - 2) (by omega) k _ _ (by omega) (by omega) (by omega) (by omega) (by omega), e3, e4]
/-- The order of two names. -/
def ord (a b : ByteArray) : Int := cmpI (key a.data.toList) (key b.data.toList)
theorem order_eq (a b : ByteArray) (ha : a.size ≤ 140737488351232) (hb : b.size ≤ 140737488351232) (k : Nat) (hk : 4 * (a.size + b.size) + 10 ≤ k) : ident_order.f k a b = some (ord a b) := by
  unfold ident_order.f ord
  exact order_l0 (a.size + b.size) k a b (Nat.le_refl _) (by omega) ha hb hk
def less (a b : ByteArray) : Bool := vld a && vld b && decide (ord a b < 0)
theorem less_spec (a b : ByteArray) (ha : a.size ≤ 140737488351232) (hb : b.size ≤ 140737488351232) (k : Nat) (hk : 4 * (a.size + b.size) + 10 ≤ k) : ident_Less.f k a b = some (less a b) := by
  unfold ident_Less.f less
  rw [valid_spec a ha k (by omega)]
  simp only [Option.bind_some]
  rw [valid_spec b hb k (by omega)]
  simp only [Option.bind_some]
  rw [order_eq a b ha hb k hk]
  cases vld a <;> cases vld b <;> simp
end Go.Proofs.YtpmbljigdghmiaaDoor.Idp
