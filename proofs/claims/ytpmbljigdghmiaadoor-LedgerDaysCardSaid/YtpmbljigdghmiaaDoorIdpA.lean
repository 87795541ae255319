/- The pure law of names: what both texts' Valid say. -/
import Derived.Test.YtpmbljigdghmiaaDoorPa
import Derived.Lib.Strings
import Derived.Lib.IndexMore
namespace Go.Proofs.YtpmbljigdghmiaaDoor.Idp
open Go.RowKit Go.Proofs.YtpmbljigdghmiaaDoor.Ext Go.Proofs.YtpmbljigdghmiaaDoor.P Go.Proofs.YtpmbljigdghmiaaDoorW.PrintWords Go.Proofs.YtpmbljigdghmiaaDoorW.PrintLast Go.Proofs.YtpmbljigdghmiaaDoorW.PrintMore

def isL (c : Int) : Prop := 97 ≤ c ∧ c ≤ 122
def isD (c : Int) : Prop := 48 ≤ c ∧ c ≤ 57
def okc (c : Int) : Prop := isL c ∨ isD c ∨ c = 45
instance (c : Int) : Decidable (isL c) := by unfold isL; infer_instance
instance (c : Int) : Decidable (isD c) := by unfold isD; infer_instance
instance (c : Int) : Decidable (okc c) := by unfold okc; infer_instance
/-- A name, byte by byte. -/
def Vld (s : ByteArray) : Prop :=
  1 ≤ s.size ∧ s.size ≤ 24 ∧ isL (bt s 0) ∧ (∀ i : Nat, i < s.size → okc (bt s i)) ∧ (∀ i : Nat, i < s.size → i + 1 < s.size → ¬ (bt s i = 45 ∧ bt s (i + 1 : Nat) = 45)) ∧ bt s (s.size - 1 : Nat) ≠ 45
instance (s : ByteArray) : Decidable (Vld s) := by unfold Vld; infer_instance
def vld (s : ByteArray) : Bool := decide (Vld s)
theorem vld_iff (s : ByteArray) : vld s = true ↔ Vld s := by simp [vld]

theorem small_eq (c : Int) : ident_small.f c = some (decide (isL c)) := by
  unfold ident_small.f isL
  by_cases h : 97 ≤ c <;> simp [h]
theorem digit_eq (c : Int) : ident_digit.f c = some (decide (isD c)) := by
  unfold ident_digit.f isD
  by_cases h : 48 ≤ c <;> simp [h]
theorem rletter_eq (c : Int) : dancestudioref05_letter.f c = some (decide (isL c)) := by
  unfold dancestudioref05_letter.f isL
  by_cases h : 97 ≤ c <;> simp [h]
theorem rdigit_eq (c : Int) : dancestudioref05_digit.f c = some (decide (isD c)) := by
  unfold dancestudioref05_digit.f isD
  by_cases h : 48 ≤ c <;> simp [h]

theorem bt_lt (s : ByteArray) (i : Nat) (h : i < s.size) : bt s (i : Int) = ((s.data[i]'h).toNat : Int) := by
  unfold bt
  have h' : ((i : Int).toNat) < s.size := by omega
  rw [dif_pos h']
  rfl
theorem data_get (s : ByteArray) (i : Nat) (h : i < s.size) : s.data.toList[i]? = some (s.data[i]'h) := by
  rw [List.getElem?_eq_getElem (by rw [data_length]; exact h)]
  simp
theorem u8_eq (c : UInt8) (n : Nat) (hn : n < 256) : ((c.toNat : Int) = (n : Int)) ↔ c = UInt8.ofNat n := by
  constructor
  · intro h
    have h' : c.toNat = n := by omega
    apply UInt8.toNat_inj.1
    rw [h']
    simp [UInt8.toNat_ofNat']
    omega
  · rintro rfl
    simp [UInt8.toNat_ofNat']
    omega
theorem wrap_in {x : Int} (h : -9223372036854775808 ≤ x) (h' : x ≤ 9223372036854775807) : wrap64 x = x := by
  unfold wrap64
  omega

theorem contains_iff (s : ByteArray) : Lib.contains s.data.toList [45, 45] = true ↔ ∃ i : Nat, i + 1 < s.size ∧ bt s i = 45 ∧ bt s (i + 1 : Nat) = 45 := by
  have key : ∀ i : Nat, i + 1 < s.size → (Lib.occAt s.data.toList [45, 45] i = true ↔ bt s i = 45 ∧ bt s (i + 1 : Nat) = 45) := by
    intro i hi
    rw [Lib.occAt_iff_take _ _ _ (by rw [data_length]; simp; omega), beq_iff_eq]
    have e1 := data_get s i (by omega)
    have e2 := data_get s (i + 1) hi
    have h1 : (s.data.toList.drop i).take [(45 : UInt8), 45].length = [s.data[i]'(by have : s.data.size = s.size := rfl; omega), s.data[i + 1]'(by have : s.data.size = s.size := rfl; omega)] := by
      apply List.ext_getElem?
      intro j
      rw [List.getElem?_take, List.getElem?_drop]
      match j with
      | 0 => simp
      | 1 => simp
      | j + 2 => rw [if_neg (by simp)]; simp
    rw [h1, bt_lt s i (by omega), bt_lt s (i + 1) hi, show ((45 : Int)) = ((45 : Nat) : Int) from rfl, u8_eq _ 45 (by omega), u8_eq _ 45 (by omega)]
    simp
  unfold Lib.contains
  rw [decide_eq_true_eq]
  rcases Lib.index_spec s.data.toList [45, 45] with ⟨h1, h2⟩ | ⟨i, h1, h2, h3, _⟩
  · rw [h1]
    constructor
    · intro h; omega
    · rintro ⟨i, hi, h⟩
      have := h2 i (by rw [data_length]; omega)
      rw [(key i hi).2 h] at this
      cases this
  · rw [h1]
    refine ⟨fun _ => ?_, fun _ => by omega⟩
    rcases Lib.occAt_room h3 with hr | hr
    · rw [data_length] at hr
      have hr' : i + 1 < s.size := by simp at hr; omega
      exact ⟨i, hr', (key i hr').1 h3⟩
    · cases hr

theorem valid_l0 (s : ByteArray) (hs : s.size ≤ 140737488351232) : ∀ d k (i : Nat), i ≤ s.size → s.size - i = d → d < k →
    ∃ b, ident_Valid.l0 k s s.size i = some b ∧ (b = true ↔ ∀ j : Nat, i ≤ j → j < s.size → okc (bt s j)) := by
  intro d
  induction d with
  | zero =>
    intro k i hi hd hk
    obtain ⟨k, rfl⟩ : ∃ m, k = m + 1 := ⟨k - 1, by omega⟩
    refine ⟨true, ?_, ?_⟩
    · simp only [ident_Valid.l0]; rw [if_neg (by omega)]
    · exact ⟨fun _ j h1 h2 => by omega, fun _ => rfl⟩
  | succ d ih =>
    intro k i hi hd hk
    obtain ⟨k, rfl⟩ : ∃ m, k = m + 1 := ⟨k - 1, by omega⟩
    have hw : wrap64 ((i : Int) + 1) = ((i + 1 : Nat) : Int) := by rw [wrap_in (by omega) (by omega)]; omega
    simp only [ident_Valid.l0]
    rw [if_pos (by omega), if_pos (by omega), if_pos (by omega), small_eq]
    simp only [Option.bind_some]
    rw [digit_eq]
    simp only [Option.bind_some, decide_eq_true_eq]
    rw [hw]
    obtain ⟨b, hb, hb'⟩ := ih k (i + 1) (by omega) (by omega) (by omega)
    by_cases hok : okc (bt s i)
    · refine ⟨b, ?_, ?_⟩
      · rcases hok with h | h | h
        · rw [if_pos h]; exact hb
        · by_cases hl : isL (bt s i)
          · rw [if_pos hl]; exact hb
          · rw [if_neg hl, if_pos h]; exact hb
        · rw [if_pos h]
          have h1 : ¬ isL (bt s i) := by rw [h]; decide
          have h2 : ¬ isD (bt s i) := by rw [h]; decide
          rw [if_neg h1, if_neg h2]; exact hb
      · rw [hb']
        constructor
        · intro h j h1 h2
          by_cases e : j = i
          · subst e; exact hok
          · exact h j (by omega) h2
        · intro h j h1 h2; exact h j (by omega) h2
    · refine ⟨false, ?_, ?_⟩
      · have h1 : ¬ isL (bt s i) := fun h => hok (.inl h)
        have h2 : ¬ isD (bt s i) := fun h => hok (.inr (.inl h))
        have h3 : ¬ (bt s i = 45) := fun h => hok (.inr (.inr h))
        rw [if_neg h1, if_neg h2, if_neg h3]
      · refine ⟨fun h => (by cases h), fun h => absurd (h i (by omega) (by omega)) hok⟩

theorem suffix_iff (s : ByteArray) (h1 : 1 ≤ s.size) (h2 : s.size ≤ 24) : strings_HasSuffix.f s (⟨#[45]⟩ : ByteArray) = some (decide (bt s (s.size - 1 : Nat) = 45)) := by
  unfold strings_HasSuffix.f stringslite_HasSuffix.f
  have e1 : ((⟨#[45]⟩ : ByteArray).size : Int) = 1 := rfl
  rw [e1, wrap_in (by omega) (by omega), if_pos (by omega), if_pos (by omega), if_pos (by omega)]
  simp only [Option.bind_some]
  have e2 : ((s.size : Int) - 1).toNat = s.size - 1 := by omega
  rw [e2]
  congr 1
  have hlt : s.size - 1 < s.size := by omega
  have e3 : (s.extract (s.size - 1) s.size).toList = [s.data[s.size - 1]'hlt] := by
    rw [Lib.extract_toList]
    apply List.ext_getElem?
    intro j
    rw [List.getElem?_take, List.getElem?_drop]
    match j with
    | 0 => rw [if_pos (by omega)]; simp
    | j + 1 => rw [if_neg (by omega)]; simp
  have e4 : (⟨#[45]⟩ : ByteArray).toList = [45] := by rw [Lib.toList_data]
  rw [e3, e4, bt_lt s _ hlt, show ((45 : Int)) = ((45 : Nat) : Int) from rfl]
  simp only [u8_eq _ 45 (show 45 < 256 by omega)]
  rw [Bool.eq_iff_iff]
  simp

theorem empty_iff (s : ByteArray) : s.toList = ([] : List UInt8) ↔ s.size = 0 := by
  rw [Lib.toList_data, List.eq_nil_iff_length_eq_zero, data_length]

theorem valid_spec (s : ByteArray) (hs : s.size ≤ 140737488351232) (k : Nat) (hk : s.size + 3 ≤ k) : ident_Valid.f k s = some (vld s) := by
  obtain ⟨k, rfl⟩ : ∃ m, k = m + 1 := ⟨k - 1, by omega⟩
  have jt : ident_Valid.j0 (k + 1) s true = some false := by simp only [ident_Valid.j0]; rw [if_pos trivial]
  have hf : ¬ Vld s → some false = some (vld s) := fun h => by rw [show vld s = false by simp [vld, h]]
  unfold ident_Valid.f
  by_cases h0 : s.size = 0
  · rw [if_pos ((empty_iff s).2 h0), jt]
    exact hf fun h => by have := h.1; omega
  rw [if_neg (fun h => h0 ((empty_iff s).1 h))]
  by_cases h24 : (s.size : Int) > 24
  · rw [if_pos h24, jt]
    exact hf fun h => by have := h.2.1; omega
  rw [if_neg h24, if_pos (by omega), small_eq]
  simp only [Option.bind_some, decide_eq_true_eq]
  by_cases hl : isL (bt s 0)
  case neg =>
    rw [if_neg hl, jt]
    exact hf fun h => hl h.2.2.1
  rw [if_pos hl, suffix_iff s (by omega) (by omega)]
  simp only [Option.bind_some, decide_eq_true_eq]
  by_cases hd : bt s (s.size - 1 : Nat) = 45
  · rw [if_pos hd, jt]
    exact hf fun h => h.2.2.2.2.2 hd
  rw [if_neg hd]
  unfold strings_Contains.f
  rw [if_pos (by omega)]
  simp only [Option.bind_some]
  by_cases hc : Lib.contains s.data.toList [45, 45] = true
  · rw [hc, jt]
    refine hf fun h => ?_
    obtain ⟨i, hi, h2⟩ := (contains_iff s).1 hc
    exact h.2.2.2.2.1 i (by omega) hi h2
  rw [Bool.not_eq_true] at hc
  rw [hc]
  simp only [ident_Valid.j0]
  rw [if_neg (by simp)]
  obtain ⟨b, hb, hb'⟩ := valid_l0 s hs s.size k 0 (by omega) (by omega) (by omega)
  have hb0 : ident_Valid.l0 k s s.size 0 = some b := hb
  rw [hb0]
  congr 1
  rw [Bool.eq_iff_iff, hb', vld_iff]
  constructor
  · intro h
    refine ⟨by omega, by omega, hl, fun i hi => h i (by omega) hi, fun i _ hi h2 => ?_, hd⟩
    rw [(contains_iff s).2 ⟨i, hi, h2⟩] at hc
    cases hc
  · intro h j _ hj
    exact h.2.2.2.1 j hj

theorem rvalid_l0 (s : ByteArray) (hs : s.size ≤ 140737488351232) : ∀ d k (i : Nat), i ≤ s.size → s.size - i = d → 2 * d < k →
    ∃ b, dancestudioref05_Valid.l0 k s i = some b ∧ (b = true ↔ ∀ j : Nat, i ≤ j → j < s.size → okc (bt s j) ∧ ¬ (bt s j = 45 ∧ (j = s.size - 1 ∨ bt s (j + 1 : Nat) = 45))) := by
  intro d
  induction d with
  | zero =>
    intro k i hi hd hk
    obtain ⟨k, rfl⟩ : ∃ m, k = m + 1 := ⟨k - 1, by omega⟩
    refine ⟨true, ?_, ?_⟩
    · simp only [dancestudioref05_Valid.l0]; rw [if_neg (by omega)]
    · exact ⟨fun _ j h1 h2 => by omega, fun _ => rfl⟩
  | succ d ih =>
    intro k i hi hd hk
    obtain ⟨k, rfl⟩ : ∃ m, k = m + 2 := ⟨k - 2, by omega⟩
    have hw : wrap64 ((i : Int) + 1) = ((i + 1 : Nat) : Int) := by rw [wrap_in (by omega) (by omega)]; omega
    have hw2 : wrap64 ((s.size : Int) - 1) = ((s.size - 1 : Nat) : Int) := by rw [wrap_in (by omega) (by omega)]; omega
    obtain ⟨b, hb, hb'⟩ := ih k (i + 1) (by omega) (by omega) (by omega)
    have step : ∀ b', (b' = true ↔ (okc (bt s i) ∧ ¬ (bt s i = 45 ∧ (i = s.size - 1 ∨ bt s (i + 1 : Nat) = 45))) ∧ b = true) → (b' = true ↔ ∀ j : Nat, i ≤ j → j < s.size → okc (bt s j) ∧ ¬ (bt s j = 45 ∧ (j = s.size - 1 ∨ bt s (j + 1 : Nat) = 45))) := by
      intro b' h
      rw [h, hb']
      constructor
      · rintro ⟨h1, h2⟩ j hj hj'
        by_cases e : j = i
        · subst e; exact h1
        · exact h2 j (by omega) hj'
      · intro h; exact ⟨h i (by omega) (by omega), fun j hj hj' => h j (by omega) hj'⟩
    simp only [dancestudioref05_Valid.l0]
    rw [if_pos (by omega), if_pos (by omega), rletter_eq]
    simp only [Option.bind_some]
    rw [rdigit_eq]
    simp only [Option.bind_some, decide_eq_true_eq, dancestudioref05_Valid.j2]
    by_cases h45 : bt s i = 45
    · have h1 : ¬ isL (bt s i) := by rw [h45]; decide
      have h2 : ¬ isD (bt s i) := by rw [h45]; decide
      rw [if_neg h1, if_neg h2, if_neg (by rw [h45]; decide), if_pos h45, hw2, hw]
      by_cases hlast : i = s.size - 1
      · rw [if_pos (by omega)]
        exact ⟨false, rfl, step _ ⟨fun h => (by cases h), fun h => absurd ⟨h45, .inl hlast⟩ h.1.2⟩⟩
      rw [if_neg (by omega), if_pos (by omega), if_pos (by omega)]
      by_cases hn : bt s (i + 1 : Nat) = 45
      · rw [if_pos hn]
        exact ⟨false, rfl, step _ ⟨fun h => (by cases h), fun h => absurd ⟨h45, .inr hn⟩ h.1.2⟩⟩
      rw [if_neg hn]
      refine ⟨b, hb, step _ ⟨fun h => ⟨⟨.inr (.inr h45), fun h2 => ?_⟩, h⟩, fun h => h.2⟩⟩
      rcases h2.2 with h3 | h3
      · exact hlast h3
      · exact hn h3
    · by_cases hok : okc (bt s i)
      · refine ⟨b, ?_, step _ ⟨fun h => ⟨⟨hok, fun h2 => h45 h2.1⟩, h⟩, fun h => h.2⟩⟩
        have hf : (if (false : Bool) = true then some false else if bt s i = 45 then if (i : Int) = wrap64 ((s.size : Int) - 1) then some false else if 0 ≤ wrap64 ((i : Int) + 1) then if wrap64 ((i : Int) + 1) < (s.size : Int) then if bt s (wrap64 ((i : Int) + 1)) = 45 then some false else dancestudioref05_Valid.l0 k s (wrap64 ((i : Int) + 1)) else none else none else dancestudioref05_Valid.l0 k s (wrap64 ((i : Int) + 1))) = some b := by
          rw [if_neg (by simp), if_neg h45, hw]; exact hb
        rcases hok with h | h | h
        · rw [if_pos h]; exact hf
        · by_cases hl : isL (bt s i)
          · rw [if_pos hl]; exact hf
          · rw [if_neg hl, if_pos h]; exact hf
        · exact absurd h h45
      · refine ⟨false, ?_, step _ ⟨fun h => (by cases h), fun h => absurd h.1.1 hok⟩⟩
        have h1 : ¬ isL (bt s i) := fun h => hok (.inl h)
        have h2 : ¬ isD (bt s i) := fun h => hok (.inr (.inl h))
        rw [if_neg h1, if_neg h2, if_pos (bne_iff_ne.2 h45)]

theorem rvalid_spec (s : ByteArray) (hs : s.size ≤ 140737488351232) (k : Nat) (hk : 2 * s.size + 3 ≤ k) : dancestudioref05_Valid.f k s = some (vld s) := by
  obtain ⟨k, rfl⟩ : ∃ m, k = m + 1 := ⟨k - 1, by omega⟩
  have jt : dancestudioref05_Valid.j0 (k + 1) s true = some false := by simp only [dancestudioref05_Valid.j0]; rw [if_pos trivial]
  have hf : ¬ Vld s → some false = some (vld s) := fun h => by rw [show vld s = false by simp [vld, h]]
  unfold dancestudioref05_Valid.f
  by_cases h0 : s.size = 0
  · rw [if_pos (by omega), jt]
    exact hf fun h => by have := h.1; omega
  rw [if_neg (by omega)]
  by_cases h24 : (s.size : Int) > 24
  · rw [if_pos h24, jt]
    exact hf fun h => by have := h.2.1; omega
  rw [if_neg h24, if_pos (by omega), rletter_eq]
  simp only [Option.bind_some]
  by_cases hl : isL (bt s 0)
  case neg =>
    rw [decide_eq_false hl, Bool.not_false, jt]
    exact hf fun h => hl h.2.2.1
  rw [decide_eq_true hl, Bool.not_true]
  simp only [dancestudioref05_Valid.j0]
  rw [if_neg (by simp)]
  obtain ⟨b, hb, hb'⟩ := rvalid_l0 s hs (s.size - 1) k 1 (by omega) (by omega) (by omega)
  have hb0 : dancestudioref05_Valid.l0 k s 1 = some b := hb
  rw [hb0]
  congr 1
  rw [Bool.eq_iff_iff, hb', vld_iff]
  have hz : ¬ (bt s 0 = 45) := fun e => by rw [e] at hl; exact absurd hl (by decide)
  constructor
  · intro h
    refine ⟨by omega, by omega, hl, fun i hi => ?_, fun i hi hi2 h2 => ?_, fun h2 => ?_⟩
    · by_cases e : i = 0
      · subst e; exact .inl hl
      · exact (h i (by omega) hi).1
    · by_cases e : i = 0
      · subst e; exact hz h2.1
      · exact (h i (by omega) hi).2 ⟨h2.1, .inr h2.2⟩
    · by_cases e : s.size - 1 = 0
      · rw [e] at h2; exact hz h2
      · exact (h (s.size - 1) (by omega) (by omega)).2 ⟨h2, .inl rfl⟩
  · intro h j hj hj'
    refine ⟨h.2.2.2.1 j hj', fun h2 => ?_⟩
    rcases h2.2 with h3 | h3
    · subst h3; exact h.2.2.2.2.2 h2.1
    · by_cases e : j + 1 < s.size
      · exact h.2.2.2.2.1 j hj' e ⟨h2.1, h3⟩
      · have : j = s.size - 1 := by omega
        subst this
        exact h.2.2.2.2.2 h2.1
end Go.Proofs.YtpmbljigdghmiaaDoor.Idp
