/- The reference's sort of names gives the names in order. -/
import Derived.Test.YtallacbjeajpoaaDoorIdpD
import Derived.Test.YtallacbjeajpoaaDoorPx2
namespace Go.Proofs.YtallacbjeajpoaaDoor.Idp
open Go.RowKit Go.Proofs.YtallacbjeajpoaaDoor.Ext Go.Proofs.YtallacbjeajpoaaDoor.P Go.Proofs.YtallacbjeajpoaaDoorW.PrintWords Go.Proofs.YtallacbjeajpoaaDoorW.PrintLast Go.Proofs.YtallacbjeajpoaaDoorW.PrintMore
theorem rd_at (l : List ByteArray) (i : Nat) (h : i < l.length) : rdOf ByteArray.empty l (i : Int) = l[i] := by
  unfold rdOf
  simp [List.getD_eq_getElem?_getD, h]
def ordS (l : List ByteArray) : Prop := l.Pairwise fun x y => ord x y ≤ 0
theorem wrap_up (n : Nat) (h : n < 4611686018427387904) : wrap64 ((n : Int) + 1) = ((n + 1 : Nat) : Int) := by rw [Int.natCast_add]; exact wrap_in (by omega) (by omega)
theorem wrap_dn (n : Nat) (h : n < 4611686018427387904) : wrap64 (((n + 1 : Nat) : Int) - 1) = (n : Int) := by
  rw [show ((n + 1 : Nat) : Int) - 1 = (n : Int) by omega]
  exact wrap_in (by omega) (by omega)
theorem set_two (pre post : List ByteArray) (p x : ByteArray) : ((pre ++ p :: x :: post).set (pre.length + 1) p).set pre.length x = pre ++ x :: p :: post := by
  rw [List.set_append_right _ _ (by omega), show pre.length + 1 - pre.length = 1 by omega]
  simp only [List.set_cons_succ, List.set_cons_zero]
  rw [List.set_append_right _ _ (by omega), Nat.sub_self]
  rfl
section
variable (x0 : List ByteArray) (hN : x0.length ≤ 1000000) (hv : ∀ s ∈ x0, vld s = true)
include hN hv
theorem sort_l1 (i : Nat) (hi : i < x0.length) (ih : ∀ k out, (x0.length - (i + 1)) * (x0.length + 2) + 301 ≤ k → ordS out → out.Perm (x0.take (i + 1)) → dancestudioref05_Sort.l0 k x0 out ((i + 1 : Nat) : Int) = some (sortN x0)) :
    ∀ (j : Nat) (k : Nat) (pre post : List ByteArray) (x : ByteArray), pre.length = j → j + 1 + (x0.length - (i + 1)) * (x0.length + 2) + 301 ≤ k → ordS (pre ++ post) → (∀ y ∈ post, ord x y ≤ 0) → (pre ++ x :: post).Perm (x0.take (i + 1)) →
      dancestudioref05_Sort.l1 k x0 (pre ++ x :: post) i j = some (sortN x0) := by
  intro j
  induction j with
  | zero =>
    intro k pre post x hp hk hs hx hperm
    have : pre = [] := List.eq_nil_of_length_eq_zero hp
    subst this
    obtain ⟨k, rfl⟩ : ∃ m, k = m + 1 := ⟨k - 1, by omega⟩
    unfold dancestudioref05_Sort.l1
    rw [if_neg (by omega), wrap_up i (by omega)]
    exact ih k _ (by omega) (List.pairwise_cons.2 ⟨hx, hs⟩) hperm
  | succ j IH =>
    intro k pre post x hp hk hs hx hperm
    obtain ⟨pre', p, rfl⟩ : ∃ l' p, pre = l' ++ [p] := ⟨pre.dropLast, pre.getLast (by intro e; rw [e] at hp; cases hp), (List.dropLast_concat_getLast _).symm⟩
    have hp' : pre'.length = j := by simp at hp; omega
    subst hp'
    obtain ⟨k, rfl⟩ : ∃ m, k = m + 1 := ⟨k - 1, by omega⟩
    have hlen : (pre' ++ [p] ++ x :: post).length = i + 1 := by rw [hperm.length_eq, List.length_take]; omega
    have hle : pre'.length + 1 < (pre' ++ [p] ++ x :: post).length := by simp
    have e1 : rdOf ByteArray.empty (pre' ++ [p] ++ x :: post) ((pre'.length + 1 : Nat) : Int) = x := by rw [rd_at _ _ hle]; simp
    have e2 : rdOf ByteArray.empty (pre' ++ [p] ++ x :: post) (pre'.length : Int) = p := by rw [rd_at _ _ (by omega)]; simp
    have hmem : ∀ y ∈ pre' ++ [p] ++ x :: post, vld y = true := fun y hy => hv y (List.mem_of_mem_take (hperm.mem_iff.1 hy))
    have hvx : vld x = true := hmem x (by simp)
    have hvp : vld p = true := hmem p (by simp)
    unfold dancestudioref05_Sort.l1
    rw [if_pos (by omega), if_pos (by omega), if_pos (by omega), wrap_dn _ (by omega), if_pos (by omega), if_pos (by omega), e1, e2, rless_all x p k (by omega)]
    simp only [Option.bind_some]
    by_cases hl : less x p = true
    · rw [if_pos hl]
      have hox : ord x p < 0 := by unfold less at hl; simpa [hvx, hvp] using hl
      rw [Int.toNat_natCast, Int.toNat_natCast, List.append_assoc, List.singleton_append, set_two]
      refine IH k pre' (p :: post) x rfl (by omega) (by simpa using hs) ?_ ?_
      · intro y hy
        rcases List.mem_cons.1 hy with rfl | hy
        · omega
        · exact hx y hy
      · refine List.Perm.trans ?_ hperm
        rw [List.append_assoc, List.singleton_append]
        exact List.Perm.append_left _ (List.Perm.swap _ _ _)
    · rw [if_neg hl, wrap_up i (by omega)]
      have hox : ord p x ≤ 0 := by
        unfold less at hl
        simp [hvx, hvp] at hl
        have := ord_neg x p
        omega
      refine ih k _ (by omega) ?_ hperm
      unfold ordS at hs ⊢
      rw [List.pairwise_append] at hs ⊢
      refine ⟨hs.1, List.pairwise_cons.2 ⟨hx, hs.2.1⟩, fun a ha b hb => ?_⟩
      rcases List.mem_cons.1 hb with rfl | hb
      · rcases List.mem_append.1 ha with ha | ha
        · have h1 := hs.1
          rw [List.pairwise_append] at h1
          exact ord_trans' (h1.2.2 a ha p (by simp)) hox
        · simp at ha; subst ha; exact hox
      · exact hs.2.2 a ha b hb
theorem sort_l0 : ∀ d (i : Nat) k out, i ≤ x0.length → x0.length - i = d → (x0.length - i) * (x0.length + 2) + 301 ≤ k → ordS out → out.Perm (x0.take i) → dancestudioref05_Sort.l0 k x0 out (i : Int) = some (sortN x0) := by
  intro d
  induction d with
  | zero =>
    intro i k out h1 h2 hk hs hp
    obtain ⟨k, rfl⟩ : ∃ m, k = m + 1 := ⟨k - 1, by omega⟩
    unfold dancestudioref05_Sort.l0
    rw [if_neg (by omega)]
    rw [List.take_of_length_le (by omega)] at hp
    rw [sortN_eq hp hs]
  | succ d IH =>
    intro i k out h1 h2 hk hs hp
    have hi : i < x0.length := by omega
    have hm : (x0.length - i) * (x0.length + 2) = (x0.length - (i + 1)) * (x0.length + 2) + (x0.length + 2) := by
      rw [show x0.length - i = (x0.length - (i + 1)) + 1 by omega, Nat.add_mul, Nat.one_mul]
    obtain ⟨k, rfl⟩ : ∃ m, k = m + 1 := ⟨k - 1, by omega⟩
    have hlen : out.length = i := by rw [hp.length_eq, List.length_take]; omega
    unfold dancestudioref05_Sort.l0
    rw [if_pos (by omega), if_pos (by omega), if_pos (by omega)]
    simp only [Option.bind_some]
    rw [rd_at _ _ hi, List.length_append, List.length_singleton, hlen, wrap_dn i (by omega)]
    have hperm : (out ++ x0[i] :: []).Perm (x0.take (i + 1)) := by
      rw [List.take_succ_eq_append_getElem hi]
      exact List.Perm.append_right _ hp
    exact sort_l1 x0 hN hv i hi (fun k' out' hk' hs' hp' => IH (i + 1) k' out' (by omega) (by omega) hk' hs' hp') i k out [] x0[i] hlen (by omega) (by simpa using hs) (by simp) hperm
theorem sort_spec : dancestudioref05_Sort.f (x0.length * (x0.length + 2) + 301) x0 = some (sortN x0) := by
  unfold dancestudioref05_Sort.f
  exact sort_l0 x0 hN hv x0.length 0 _ [] (by omega) (by omega) (by rw [Nat.sub_zero]; exact Nat.le_refl _) List.Pairwise.nil (by simp)
end
end Go.Proofs.YtallacbjeajpoaaDoor.Idp
