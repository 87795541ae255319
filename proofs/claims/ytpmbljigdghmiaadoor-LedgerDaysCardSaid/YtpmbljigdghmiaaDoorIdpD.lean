/- Names: the checks at every text; the order is total; names in order. -/
import Derived.Test.YtpmbljigdghmiaaDoorIdpC
import Derived.Shelf.SlSortCmp.NoneTotal
import Derived.Lib.OwnBridge
namespace Go.Proofs.YtpmbljigdghmiaaDoor.Idp
open Go.RowKit Go.Sort Go.Proofs Go.Proofs.YtpmbljigdghmiaaDoor.Ext Go.Proofs.YtpmbljigdghmiaaDoor.P Go.Proofs.YtpmbljigdghmiaaDoorW.PrintWords Go.Proofs.YtpmbljigdghmiaaDoorW.PrintLast Go.Proofs.YtpmbljigdghmiaaDoorW.PrintMore
theorem data_inj {a b : ByteArray} (h : a.data.toList = b.data.toList) : a = b := by
  cases a; cases b
  simp only [ByteArray.mk.injEq]
  exact Array.toList_inj.1 h
theorem snoc_ind {α : Type} {Q : List α → Prop} (h0 : Q []) (h1 : ∀ l x, Q l → Q (l ++ [x])) (l : List α) : Q l := by
  rw [← List.reverse_reverse l]
  induction l.reverse with
  | nil => exact h0
  | cons x r ih => rw [List.reverse_cons]; exact h1 _ _ ih
theorem valid_all (s : ByteArray) (k : Nat) (hk : 60 ≤ k) : ident_Valid.f k s = some (vld s) := by
  by_cases h : s.size ≤ 24
  · exact valid_spec s (by omega) k (by omega)
  · obtain ⟨k, rfl⟩ : ∃ m, k = m + 1 := ⟨k - 1, by omega⟩
    unfold ident_Valid.f
    have hv : vld s = false := by simp only [vld, decide_eq_false_iff_not]; intro h2; exact h h2.2.1
    rw [if_neg (fun h0 => h (by rw [(empty_iff s).1 h0]; omega)), if_pos (by omega), hv]
    simp only [ident_Valid.j0]
    rw [if_pos (by first | exact True.intro | rfl)]
theorem rvalid_all (s : ByteArray) (k : Nat) (hk : 60 ≤ k) : dancestudioref05_Valid.f k s = some (vld s) := by
  by_cases h : s.size ≤ 24
  · exact rvalid_spec s (by omega) k (by omega)
  · obtain ⟨k, rfl⟩ : ∃ m, k = m + 1 := ⟨k - 1, by omega⟩
    unfold dancestudioref05_Valid.f
    have hv : vld s = false := by simp only [vld, decide_eq_false_iff_not]; intro h2; exact h h2.2.1
    rw [if_neg (by omega), if_pos (by omega), hv]
    simp only [dancestudioref05_Valid.j0]
    rw [if_pos (by first | exact True.intro | rfl)]
theorem vld_size {s : ByteArray} (h : vld s = true) : s.size ≤ 24 := ((vld_iff s).1 h).2.1
theorem less_all (a b : ByteArray) (k : Nat) (hk : 300 ≤ k) : ident_Less.f k a b = some (less a b) := by
  unfold ident_Less.f less
  rw [valid_all a k (by omega)]
  simp only [Option.bind_some]
  cases ha : vld a with
  | false => simp
  | true =>
    rw [if_pos rfl, valid_all b k (by omega)]
    simp only [Option.bind_some]
    cases hb : vld b with
    | false => simp
    | true =>
      have := vld_size ha
      have := vld_size hb
      rw [if_pos rfl, order_eq a b (by omega) (by omega) k (by omega)]
      simp
theorem rless_all (a b : ByteArray) (k : Nat) (hk : 300 ≤ k) : dancestudioref05_Less.f k a b = some (less a b) := by
  unfold dancestudioref05_Less.f less
  rw [rvalid_all a k (by omega)]
  simp only [Option.bind_some]
  cases ha : vld a with
  | false => simp
  | true =>
    rw [if_pos rfl, rvalid_all b k (by omega)]
    simp only [Option.bind_some]
    cases hb : vld b with
    | false => simp
    | true =>
      have := vld_size ha
      have := vld_size hb
      rw [if_pos rfl, rorder_eq a b (by omega) (by omega) k (by omega)]
      simp

theorem numKey_inj {d e : List UInt8} {u v : List Nat} (h : numKey d ++ u = numKey e ++ v) : (trim0 d = trim0 e ∧ d.length = e.length) ∧ u = v := by
  unfold numKey at h
  simp only [List.cons_append, List.cons.injEq] at h
  obtain ⟨h1, h2⟩ := h
  rw [List.append_assoc, List.append_assoc] at h2
  obtain ⟨h3, h4⟩ := List.append_inj h2 (by simp [h1])
  obtain ⟨h5, h6⟩ := List.append_inj h4 (by simp)
  refine ⟨⟨?_, by simpa using h5⟩, h6⟩
  exact List.map_inj_right (fun a b hab => UInt8.toNat_inj.1 hab) |>.1 h3
theorem trim0_len : ∀ d : List UInt8, d = List.replicate (d.length - (trim0 d).length) 48 ++ trim0 d
  | [] => rfl
  | c :: d => by
    unfold trim0
    by_cases hc : c = 48
    · subst hc
      rw [List.dropWhile_cons_of_pos (by simp)]
      have ih := trim0_len d
      unfold trim0 at ih
      have hle : (d.dropWhile (· == 48)).length ≤ d.length := (List.dropWhile_suffix _).length_le
      rw [show (48 :: d).length - (d.dropWhile (· == 48)).length = (d.length - (d.dropWhile (· == 48)).length) + 1 by simp; omega, List.replicate_succ, List.cons_append, ← ih]
    · rw [List.dropWhile_cons_of_neg (by simp [hc])]; simp
theorem trim0_inj {d e : List UInt8} (h : trim0 d = trim0 e) (hl : d.length = e.length) : d = e := by
  rw [trim0_len d, trim0_len e, h, hl]
theorem key_inj : ∀ n (a b : List UInt8), a.length + b.length ≤ n → key a = key b → a = b := by
  intro n
  induction n using Nat.strongRecOn with
  | ind n ih =>
    intro a b hn h
    cases a with
    | nil =>
      cases b with
      | nil => rfl
      | cons cb lb => obtain ⟨x, t, e⟩ := key_cons cb lb; rw [e, key_nil] at h; cases h
    | cons ca la =>
      cases b with
      | nil => obtain ⟨x, t, e⟩ := key_cons ca la; rw [e, key_nil] at h; cases h
      | cons cb lb =>
        simp only [List.length_cons] at hn
        cases hca : isDb ca with
        | true =>
          cases hcb : isDb cb with
          | true =>
            rw [key_digit hca, key_digit hcb] at h
            have h' := (List.cons.inj h).2
            obtain ⟨⟨h1, h2⟩, h3⟩ := numKey_inj h'
            have e1 := trim0_inj h1 h2
            have l1 := (List.dropWhile_suffix isDb (l := la)).length_le
            have l2 := (List.dropWhile_suffix isDb (l := lb)).length_le
            have e2 := ih (n - 2) (by omega) _ _ (by omega) h3
            rw [← List.takeWhile_append_dropWhile (p := isDb) (l := la), ← List.takeWhile_append_dropWhile (p := isDb) (l := lb), e2, ← List.cons_append, ← List.cons_append, e1]
          | false =>
            rw [key_digit hca, key_other hcb] at h
            have := (List.cons.inj h).1; omega
        | false =>
          cases hcb : isDb cb with
          | true =>
            rw [key_other hca, key_digit hcb] at h
            have := (List.cons.inj h).1; omega
          | false =>
            rw [key_other hca, key_other hcb] at h
            obtain ⟨h1, h2⟩ := List.cons.inj h
            have e1 : ca = cb := UInt8.toNat_inj.1 (by omega)
            rw [e1, ih (n - 2) (by omega) _ _ (by omega) h2]
theorem ord_zero {a b : ByteArray} : ord a b = 0 ↔ a = b := by
  unfold ord
  rw [cmpI_zero]
  exact ⟨fun h => data_inj (key_inj _ _ _ (Nat.le_refl _) h), fun h => by rw [h]⟩
theorem ord_neg (a b : ByteArray) : ord b a = - ord a b := cmpI_neg _ _
theorem ord_range (a b : ByteArray) : ord a b = -1 ∨ ord a b = 0 ∨ ord a b = 1 := cmpI_range _ _
theorem ord_trans {a b c : ByteArray} (h1 : ord a b < 0) (h2 : ord b c < 0) : ord a c < 0 := by
  have r1 := ord_range a b
  have r2 := ord_range b c
  have e1 : ord a b = -1 := by omega
  have e2 : ord b c = -1 := by omega
  have h : ord a c = -1 := cmpI_trans _ _ _ e1 e2
  omega
theorem ord_trans' {a b c : ByteArray} (h1 : ord a b ≤ 0) (h2 : ord b c ≤ 0) : ord a c ≤ 0 := by
  rcases Int.lt_or_eq_of_le h1 with h1 | h1
  · rcases Int.lt_or_eq_of_le h2 with h2 | h2
    · exact Int.le_of_lt (ord_trans h1 h2)
    · rw [ord_zero] at h2; subst h2; omega
  · rw [ord_zero] at h1; subst h1; exact h2
/-- Strings that are short: what is sorted. -/
structure Nm where mk :: (val : ByteArray) (prop : val.size ≤ 24)
theorem Nm.same {x y : Nm} (h : x.val = y.val) : x = y := by cases x; cases y; cases h; rfl
instance : Inhabited Nm := ⟨⟨⟨#[]⟩, by decide⟩⟩
def encN (x : Nm) : Value := .string x.1
def ordN (x y : Nm) : Int := ord x.1 y.1
theorem ltN (x y : Nm) : (ltOf ordN) x y = true ↔ ord x.1 y.1 < 0 := by unfold ltOf ordN; rw [decide_eq_true_iff]
theorem ltN' (x y : Nm) : (ltOf ordN) x y = false ↔ ¬ ord x.1 y.1 < 0 := by unfold ltOf ordN; rw [decide_eq_false_iff_not]
theorem swoN : SWO (ltOf ordN) where
  irrefl x := by rw [ltN', ord_zero.2 rfl]; omega
  trans x y z h1 h2 := by
    rw [ltN] at *
    exact ord_trans h1 h2
  ntrans x y z h1 h2 := by
    rw [ltN'] at *
    have a1 := ord_neg x.1 y.1
    have a2 := ord_neg y.1 z.1
    have a3 := ord_neg x.1 z.1
    have := ord_trans' (a := z.1) (b := y.1) (c := x.1) (by omega) (by omega)
    omega
theorem totN (x y : Nm) (h1 : (ltOf ordN) x y = false) (h2 : (ltOf ordN) y x = false) : x = y := by
  rw [ltN'] at *
  have a1 := ord_neg x.1 y.1
  exact Nm.same (ord_zero.1 (by omega))
/-- Names in order. -/
def sortN (l : List ByteArray) : List ByteArray := l.mergeSort fun x y => !(decide (ord y x < 0))
theorem sortN_perm (l : List ByteArray) : (sortN l).Perm l := List.mergeSort_perm _ _
theorem sortN_sorted (l : List ByteArray) : (sortN l).Pairwise fun x y => ord x y ≤ 0 := by
  have h := List.pairwise_mergeSort (le := fun x y : ByteArray => !(decide (ord y x < 0))) (fun a b c h1 h2 => by
    simp only [Bool.not_eq_true', decide_eq_false_iff_not] at *
    have a1 := ord_neg a b
    have a2 := ord_neg b c
    have a3 := ord_neg a c
    have := ord_trans' (a := a) (b := b) (c := c) (by omega) (by omega)
    omega) (fun a b => by
    have a1 := ord_neg a b
    simp only [Bool.or_eq_true, Bool.not_eq_true', decide_eq_false_iff_not]
    omega) l
  refine h.imp (fun {a b} h2 => ?_)
  simp only [Bool.not_eq_true', decide_eq_false_iff_not] at h2
  have a1 := ord_neg a b
  omega
theorem sortN_eq {l s : List ByteArray} (hp : s.Perm l) (hs : s.Pairwise fun x y => ord x y ≤ 0) : sortN l = s :=
  List.Perm.eq_of_pairwise (fun a b _ _ h1 h2 => ord_zero.1 (by have := ord_neg a b; omega)) (sortN_sorted l) hs ((sortN_perm l).trans hp.symm)
theorem names_of (l : List ByteArray) (h : ∀ s ∈ l, s.size ≤ 24) : ∃ d : List Nm, d.map (·.1) = l := by
  induction l with
  | nil => exact ⟨[], rfl⟩
  | cons s l ih =>
    obtain ⟨d, hd⟩ := ih (fun x hx => h x (by simp [hx]))
    exact ⟨⟨s, h s (by simp)⟩ :: d, by simp [hd]⟩
theorem grow_below {B : Nat} {w w1 : World} (h : Below B w w1) (hB : B ≤ w1.heap.size) (os : Array Obj) : Below B w (grow w1 os) :=
  ⟨h.os, h.tape, h.output, Nat.le_trans h.size (by simp [grow]), fun k hk => by
    rw [← h.block k hk]
    simp only [grow]
    rw [Array.getElem?_append_left (by omega)]⟩
theorem grow_below1 (w : World) (os : Array Obj) : Below w.heap.size w (grow w os) := grow_below (Below.refl _ _) (Nat.le_refl _) os
end Go.Proofs.YtpmbljigdghmiaaDoor.Idp
