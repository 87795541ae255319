/- Tables of names: Index, Name, Sorted. -/
import Derived.Test.YtallacbjeajpoaaDoorTabB
import Derived.Test.YtallacbjeajpoaaDoorLays
import Derived.Lib.OwnBridge
import Derived.Shelf.SlSortCmp.NoneTotal
namespace Go.Proofs.YtallacbjeajpoaaDoor.Tab
open Go.RowKit Go.Maps Go.WideMaps Go.Sort Go.Lib Go.Proofs Go.Proofs.YtallacbjeajpoaaDoor.Ext Go.Proofs.YtallacbjeajpoaaDoor.P Go.Proofs.YtallacbjeajpoaaDoor.Idp Go.Proofs.YtallacbjeajpoaaDoorW.PrintWords Go.Proofs.YtallacbjeajpoaaDoorW.PrintLast Go.Proofs.YtallacbjeajpoaaDoorW.PrintMore
theorem numKey_inj {d e : List UInt8} {u v : List Nat} (h : numKey d ++ u = numKey e ++ v) : (trim0 d = trim0 e ∧ d.length = e.length) ∧ u = v := by
  unfold numKey at h
  simp only [List.cons_append, List.cons.injEq] at h
  obtain ⟨h1, h2⟩ := h
  rw [List.append_assoc, List.append_assoc] at h2
  obtain ⟨h3, h4⟩ := List.append_inj h2 (by simp [h1])
  obtain ⟨h5, h6⟩ := List.append_inj h4 (by simp)
  refine ⟨⟨?_, by simpa using h5⟩, h6⟩
  exact List.map_inj_right (fun a b hab => UInt8.toNat_inj.1 hab) |>.1 h3
theorem trim0_len : ∀ d : List UInt8, d = List.replicate (d.length - (trim0 d).length) 48 ++ trim0 d
  | [] => rfl
  | c :: d => by
    unfold trim0
    by_cases hc : c = 48
    · subst hc
      rw [List.dropWhile_cons_of_pos (by simp)]
      have ih := trim0_len d
      unfold trim0 at ih
      have hle : (d.dropWhile (· == 48)).length ≤ d.length := (List.dropWhile_suffix _).length_le
      rw [show (48 :: d).length - (d.dropWhile (· == 48)).length = (d.length - (d.dropWhile (· == 48)).length) + 1 by simp; omega, List.replicate_succ, List.cons_append, ← ih]
    · rw [List.dropWhile_cons_of_neg (by simp [hc])]; simp
theorem trim0_inj {d e : List UInt8} (h : trim0 d = trim0 e) (hl : d.length = e.length) : d = e := by
  rw [trim0_len d, trim0_len e, h, hl]
theorem key_inj : ∀ n (a b : List UInt8), a.length + b.length ≤ n → key a = key b → a = b := by
  intro n
  induction n using Nat.strongRecOn with
  | ind n ih =>
    intro a b hn h
    cases a with
    | nil =>
      cases b with
      | nil => rfl
      | cons cb lb => obtain ⟨x, t, e⟩ := key_cons cb lb; rw [e, key_nil] at h; cases h
    | cons ca la =>
      cases b with
      | nil => obtain ⟨x, t, e⟩ := key_cons ca la; rw [e, key_nil] at h; cases h
      | cons cb lb =>
        simp only [List.length_cons] at hn
        cases hca : isDb ca with
        | true =>
          cases hcb : isDb cb with
          | true =>
            rw [key_digit hca, key_digit hcb] at h
            have h' := (List.cons.inj h).2
            obtain ⟨⟨h1, h2⟩, h3⟩ := numKey_inj h'
            have e1 := trim0_inj h1 h2
            have l1 := (List.dropWhile_suffix isDb (l := la)).length_le
            have l2 := (List.dropWhile_suffix isDb (l := lb)).length_le
            have e2 := ih (n - 2) (by omega) _ _ (by omega) h3
            rw [← List.takeWhile_append_dropWhile (p := isDb) (l := la), ← List.takeWhile_append_dropWhile (p := isDb) (l := lb), e2, ← List.cons_append, ← List.cons_append, e1]
          | false =>
            rw [key_digit hca, key_other hcb] at h
            have := (List.cons.inj h).1; omega
        | false =>
          cases hcb : isDb cb with
          | true =>
            rw [key_other hca, key_digit hcb] at h
            have := (List.cons.inj h).1; omega
          | false =>
            rw [key_other hca, key_other hcb] at h
            obtain ⟨h1, h2⟩ := List.cons.inj h
            have e1 : ca = cb := UInt8.toNat_inj.1 (by omega)
            rw [e1, ih (n - 2) (by omega) _ _ (by omega) h2]
theorem ord_zero {a b : ByteArray} : ord a b = 0 ↔ a = b := by
  unfold ord
  rw [cmpI_zero]
  exact ⟨fun h => data_inj (key_inj _ _ _ (Nat.le_refl _) h), fun h => by rw [h]⟩
theorem ord_neg (a b : ByteArray) : ord b a = - ord a b := cmpI_neg _ _
theorem ord_range (a b : ByteArray) : ord a b = -1 ∨ ord a b = 0 ∨ ord a b = 1 := cmpI_range _ _
theorem ord_trans {a b c : ByteArray} (h1 : ord a b < 0) (h2 : ord b c < 0) : ord a c < 0 := by
  have r1 := ord_range a b
  have r2 := ord_range b c
  have e1 : ord a b = -1 := by omega
  have e2 : ord b c = -1 := by omega
  have h : ord a c = -1 := cmpI_trans _ _ _ e1 e2
  omega
theorem ord_trans' {a b c : ByteArray} (h1 : ord a b ≤ 0) (h2 : ord b c ≤ 0) : ord a c ≤ 0 := by
  rcases Int.lt_or_eq_of_le h1 with h1 | h1
  · rcases Int.lt_or_eq_of_le h2 with h2 | h2
    · exact Int.le_of_lt (ord_trans h1 h2)
    · rw [ord_zero] at h2; subst h2; omega
  · rw [ord_zero] at h1; subst h1; exact h2
/-- Strings that are short: what is sorted. -/
structure Nm where mk :: (val : ByteArray) (prop : val.size ≤ 24)
theorem Nm.same {x y : Nm} (h : x.val = y.val) : x = y := by cases x; cases y; cases h; rfl
instance : Inhabited Nm := ⟨⟨⟨#[]⟩, by decide⟩⟩
def encN (x : Nm) : Value := .string x.1
def ordN (x y : Nm) : Int := ord x.1 y.1
theorem ltN (x y : Nm) : (ltOf ordN) x y = true ↔ ord x.1 y.1 < 0 := by unfold ltOf ordN; rw [decide_eq_true_iff]
theorem ltN' (x y : Nm) : (ltOf ordN) x y = false ↔ ¬ ord x.1 y.1 < 0 := by unfold ltOf ordN; rw [decide_eq_false_iff_not]
theorem swoN : SWO (ltOf ordN) where
  irrefl x := by rw [ltN', ord_zero.2 rfl]; omega
  trans x y z h1 h2 := by
    rw [ltN] at *
    exact ord_trans h1 h2
  ntrans x y z h1 h2 := by
    rw [ltN'] at *
    have a1 := ord_neg x.1 y.1
    have a2 := ord_neg y.1 z.1
    have a3 := ord_neg x.1 z.1
    have := ord_trans' (a := z.1) (b := y.1) (c := x.1) (by omega) (by omega)
    omega
theorem totN (x y : Nm) (h1 : (ltOf ordN) x y = false) (h2 : (ltOf ordN) y x = false) : x = y := by
  rw [ltN'] at *
  have a1 := ord_neg x.1 y.1
  exact Nm.same (ord_zero.1 (by omega))
/-- Names in order. -/
def sortN (l : List ByteArray) : List ByteArray := l.mergeSort fun x y => !(decide (ord y x < 0))
theorem sortN_perm (l : List ByteArray) : (sortN l).Perm l := List.mergeSort_perm _ _
theorem sortN_sorted (l : List ByteArray) : (sortN l).Pairwise fun x y => ord x y ≤ 0 := by
  have h := List.pairwise_mergeSort (le := fun x y : ByteArray => !(decide (ord y x < 0))) (fun a b c h1 h2 => by
    simp only [Bool.not_eq_true', decide_eq_false_iff_not] at *
    have a1 := ord_neg a b
    have a2 := ord_neg b c
    have a3 := ord_neg a c
    have := ord_trans' (a := a) (b := b) (c := c) (by omega) (by omega)
    omega) (fun a b => by
    have a1 := ord_neg a b
    simp only [Bool.or_eq_true, Bool.not_eq_true', decide_eq_false_iff_not]
    omega) l
  refine h.imp (fun {a b} h2 => ?_)
  simp only [Bool.not_eq_true', decide_eq_false_iff_not] at h2
  have a1 := ord_neg a b
  omega
theorem sortN_eq {l s : List ByteArray} (hp : s.Perm l) (hs : s.Pairwise fun x y => ord x y ≤ 0) : sortN l = s :=
  List.Perm.eq_of_pairwise (fun a b _ _ h1 h2 => ord_zero.1 (by have := ord_neg a b; omega)) (sortN_sorted l) hs ((sortN_perm l).trans hp.symm)
theorem order_cmp (blk off n : Nat) (w : World) : CmpLays1 Tryd.prog 34 #[] encN ordN blk off n w := by
  intro m os dk _ x y
  have h := ident_order.lays 300 x.1 y.1 _ (sortWorld encN w blk off m dk os) (order_eq x.1 y.1 (by have := x.2; omega) (by have := y.2; omega) 300 (by have := x.2; have := y.2; omega))
  exact h.mono fun e w1 ⟨he, hl⟩ => ⟨he, hl.out⟩
theorem names_of (l : List ByteArray) (h : ∀ s ∈ l, s.size ≤ 24) : ∃ d : List Nm, d.map (·.1) = l := by
  induction l with
  | nil => exact ⟨[], rfl⟩
  | cons s l ih =>
    obtain ⟨d, hd⟩ := ih (fun x hx => h x (by simp [hx]))
    exact ⟨⟨s, h s (by simp)⟩ :: d, by simp [hd]⟩
theorem grow_below {B : Nat} {w w1 : World} (h : Below B w w1) (hB : B ≤ w1.heap.size) (os : Array Obj) : Below B w (grow w1 os) :=
  ⟨h.os, h.tape, h.output, Nat.le_trans h.size (by simp [grow]), fun k hk => by
    rw [← h.block k hk]
    simp only [grow]
    rw [Array.getElem?_append_left (by omega)]⟩
theorem grow_below1 (w : World) (os : Array Obj) : Below w.heap.size w (grow w os) := grow_below (Below.refl _ _) (Nat.le_refl _) os
/-- A row of short names of the call's own, sorted by 'order'. -/
theorem sortF_calls (w0 w : World) (v : Value) (l : List ByteArray) (hl : ∀ s ∈ l, s.size ≤ 24) (hR : Kd.R Kd.string 9 w w0.heap.size (fun _ => True) v l) (hb : Below w0.heap.size w0 w) (hbig : l.length < 4611686018427387904) :
    Calls Tryd.prog 38 #[v, .func (.func 34) #[] #[]] w fun e w' =>
      e = .returned (.tuple #[]) ∧ Kd.R Kd.string 9 w' w0.heap.size (fun _ => True) v (sortN l) ∧ Below w0.heap.size w0 w' := by
  rcases Nat.eq_zero_or_pos l.length with h0 | h0
  · have hn := List.eq_nil_of_length_eq_zero h0
    subst hn
    obtain ⟨A, c, rfl⟩ := Kd.R_slice hR
    refine (Tryd.slices_SortFunc_none (α := Nm) A c _ w).mono fun e w1 ⟨he, hw⟩ => ?_
    subst hw
    exact ⟨he, by simpa [sortN] using hR, hb⟩
  · obtain ⟨d, hd⟩ := names_of l hl
    have ho := Kd.own_of_R hR
    have hmap : encs Value.string l = d.map encN := by rw [← hd]; simp [encs, encN]
    rw [hmap] at ho
    have hv : v ≠ .slice none 0 0 := by
      rintro rfl
      obtain ⟨g, cap, e, _⟩ := Kd.R_form hR h0
      cases e
    obtain ⟨g, cap, rfl, hg, hlt, _, _, hlen, hH⟩ := holds_of_ownsRow ho hv
    have hsz : d.toArray.size = l.length := by simpa using hlen
    have eg : ∀ args w, (callFunc 34 args).run Tryd.prog w = .ok (.enter 34 args) w := enters_of Tryd.func34 (by kernel_rfl) rfl
    have hS := Tryd.slices_SortFunc_total encN (fun _ => rfl) ordN swoN 34 #[] g 0 cap d.toArray w eg (order_cmp g 0 _ w) hH hlt (by rw [hsz]; exact hbig) totN
    rw [hsz] at hS
    refine hS.mono fun e w1 ⟨he, n, os, hw⟩ => ⟨he, ?_⟩
    subst hw
    have hys : (d.mergeSort fun x y => !(ltOf ordN) y x).length = l.length := by rw [List.length_mergeSort]; exact hlen
    have hrow := ownsRow_putRow (q := n) (k := l.length) ho hys (Nat.le_refl _)
    rw [List.take_of_length_le (by rw [hys]; exact Nat.le_refl _)] at hrow
    have hsort : (d.mergeSort fun x y => !(ltOf ordN) y x).map encN = encs Value.string (sortN l) := by
      unfold sortN encs
      rw [← hd, ← List.map_mergeSort (r := fun x y => !(ltOf ordN) y x) (f := fun x : Nm => x.1)]
      · simp [encN]
      · intro a _ b _; rfl
    rw [hsort] at hrow
    have hln : l.length = (sortN l).length := by unfold sortN; rw [List.length_mergeSort]
    refine ⟨?_, ?_⟩
    · have h1 : Kd.R Kd.string 9 (putRow encN (Sort.ahead w n) g 0 (d.mergeSort fun x y => !(ltOf ordN) y x).toArray) w0.heap.size (fun _ => True) (.slice (some ⟨g, 0, none⟩) l.length cap) (sortN l) := Kd.R_of_own (by rw [← hln]; exact hrow) (fun _ _ => trivial)
      exact Kd.R_below h1 (grow_below1 _ os)
    · exact grow_below (below_putRow hb hg) (by
        have := hb.size
        simp [putRow, mapBlock, Sort.ahead]; omega) os
end Go.Proofs.YtallacbjeajpoaaDoor.Tab
