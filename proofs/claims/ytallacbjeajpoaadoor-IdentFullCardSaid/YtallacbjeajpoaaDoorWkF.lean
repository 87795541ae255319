/- The law on names that end with numbers: its walk. -/
import Derived.Test.YtallacbjeajpoaaDoorWkC
import Derived.Test.YtallacbjeajpoaaDoorNum
import Derived.Test.YtallacbjeajpoaaDoorShelf3
import Derived.Lib.LaidTab
import Derived.Stop.LaidErr
import Derived.MakeChecks
namespace Go.Proofs.YtallacbjeajpoaaDoor
open Go.RowKit Go.Maps Go.WideMaps Go.Sort Go.Lib Go.Proofs Go.Proofs.YtallacbjeajpoaaDoor.Ext Go.Proofs.YtallacbjeajpoaaDoor.P Go.Proofs.YtallacbjeajpoaaDoor.Idp Go.Proofs.YtallacbjeajpoaaDoor.Tab Go.Proofs.YtallacbjeajpoaaDoor.Awk Go.Proofs.YtallacbjeajpoaaDoorW.PrintWords Go.Proofs.YtallacbjeajpoaaDoorW.PrintLast Go.Proofs.YtallacbjeajpoaaDoorW.PrintMore
/-- The library's table of powers lies there, whatever is laid beside it. -/
structure Tb (w : World) : Prop where mk :: (out : ∀ w' : World, Below w.heap.size w w' → Lib.TabIs Tryd.prog w' "internal/strconv.uint64pow10" .u64 Lib.pow10Tab)
theorem Tb.below {w w1 : World} (h : Tb w) (hb : Below w.heap.size w w1) : Tb w1 := ⟨fun w' h' => h.out w' (hb.trans (h'.mono hb.size))⟩
theorem tb_of {w : World} (h : Lib.TabIs Tryd.prog w "internal/strconv.uint64pow10" .u64 Lib.pow10Tab) : Tb w := ⟨fun w' hb => by
  unfold Lib.TabIs World.var? at *
  cases hg : Tryd.prog.globalNamed "internal/strconv.uint64pow10" with
  | none => rw [hg] at h; cases h
  | some g =>
    rw [hg] at h
    simp only [Option.bind_some] at h ⊢
    cases hh : w.heap[g]? with
    | none => rw [hh] at h; cases h
    | some o =>
      have hl := (Array.getElem?_eq_some_iff.1 hh).1
      rw [hb.block g hl]; exact h⟩
theorem tb_laid {W : World} {x y : String × DataW Unit} {r : List (String × DataW Unit)} (h : laidMet Tryd.prog (x :: y :: ("internal/strconv.uint64pow10", Lib.tabData .u64 Lib.pow10Tab) :: r) W) : Tb W :=
  tb_of (Lib.tabIs_of_head (g := 1) (t := 102) (e := 79) (n := 20) (by kernel_rfl) (by kernel_rfl) Tryd.underlying102 Tryd.underlying79 (by kernel_rfl) (by kernel_rfl) h.tail.tail)
theorem Itoa_calls (u : Int) (h0 : 0 ≤ u) (h1 : u < 4294967296) (w : World) (ht : Tb w) :
    Calls Tryd.prog 27 #[.int .i64 u] w fun e w' => e = .returned (.string ⟨(Lib.decDigits u.toNat).toArray⟩) ∧ Below w.heap.size w w' := by
  refine (Tryd.strconv_Itoa u (by omega) (by omega) w (ht.out w (Below.refl _ _))).mono ?_
  rintro e w' ⟨rfl, k, os, rfl⟩
  refine ⟨?_, grow_below (pw_below_drewN (Below.refl _ _) k) (by simp) os⟩
  obtain ⟨n, rfl⟩ : ∃ n : Nat, u = n := ⟨u.toNat, by omega⟩
  rw [Lib.itoa_nonneg]
  simp
theorem dec_len : ∀ (k u : Nat), u < 10 ^ (k + 1) → (Lib.decDigits u).length ≤ k + 1
  | 0, u, h => by rw [dec_small (by omega)]; simp
  | k + 1, u, h => by
    by_cases hu : u < 10
    · rw [dec_small hu]; simp
    · rw [dec_big hu, List.length_append, List.length_singleton]
      have := dec_len k (u / 10) (by rw [Nat.pow_succ] at h; omega)
      omega
theorem cat (a b : List UInt8) : (⟨a.toArray⟩ : ByteArray) ++ ⟨b.toArray⟩ = ⟨(a ++ b).toArray⟩ := data_inj (by rw [ByteArray.data_append]; simp)
theorem nm_cat (z u : Nat) : (⟨(110 :: List.replicate z 48).toArray⟩ : ByteArray) ++ ⟨(Lib.decDigits u).toArray⟩ = nm z u [] := by
  rw [cat]; unfold nm zd; simp
theorem nm_tail (z u : Nat) (t : List UInt8) : nm z u [] ++ ⟨t.toArray⟩ = nm z u t := by
  unfold nm; rw [cat]; simp
theorem z_cat (z : Nat) : (⟨(110 :: List.replicate z 48).toArray⟩ : ByteArray) ++ ⟨#[48]⟩ = ⟨(110 :: List.replicate (z + 1) 48).toArray⟩ := by
  have := cat (110 :: List.replicate z 48) [48]
  rw [show (⟨#[48]⟩ : ByteArray) = ⟨[(48 : UInt8)].toArray⟩ from rfl, this, List.replicate_succ']
  simp
theorem less_lt {a b : ByteArray} (ha : vld a = true) (hb : vld b = true) (h : ord a b = -1) : less a b = true ∧ less b a = false := by
  have h2 := ord_neg a b
  unfold less
  rw [ha, hb]
  constructor <;> simp <;> omega
theorem less_eq0 {a b : ByteArray} (h : a = b) : less a b = false := by
  unfold less
  rw [ord_zero.2 h]; simp
/-- What a walk over numbers in names asks. -/
theorem nm_less (z y u v : Nat) (hu : vld (nm z u []) = true) (hv : vld (nm y v []) = true) (hne : u ≠ v) : less (nm z u []) (nm y v []) = decide (u < v) := by
  rcases Nat.lt_or_gt_of_ne hne with h | h
  · rw [(less_lt hu hv (nm_ord_lt z y u v [] [] (by simp) (by simp) (numKey_lt z y u v h))).1, decide_eq_true h]
  · rw [(less_lt hv hu (nm_ord_lt y z v u [] [] (by simp) (by simp) (numKey_lt y z v u h))).2, decide_eq_false (by omega)]
def cz (k : Int) : ByteArray := ⟨(110 :: List.replicate k.toNat 48).toArray⟩
theorem cz_size (k : Int) (_ : 0 ≤ k) (h : k ≤ 9) : (cz k).size ≤ 10 := by
  rw [Idp.size_eq]; unfold cz; simp; omega
theorem cz_step (k : Int) (h0 : 0 ≤ k) : cz k ++ ⟨#[48]⟩ = cz (k + 1) := by
  unfold cz; rw [z_cat, show (k + 1).toNat = k.toNat + 1 by omega]
set_option maxHeartbeats 4000000 in
set_option maxRecDepth 100000 in
theorem IdentNumbers_walk (x : Int) (wx : (Lit.int .u32 x).wf = true) (y : Int) (wy : (Lit.int .u32 y).wf = true) (z : Int) (wz : (Lit.int .u8 z).wf = true) (W : World) (hsh : Sh W) (htb : Tb W) :
    Calls Tryd.prog 9 #[.int .u32 x, .int .u32 y, .int .u8 z] W fun e w' => e = .returned (.bool true) ∧ Below W.heap.size W w' := by
  obtain ⟨hx0, hx1⟩ : 0 ≤ x ∧ x ≤ 4294967295 := by
    have h : IntKind.u32.min ≤ x ∧ x ≤ IntKind.u32.max := by simpa [Lit.wf] using wx
    exact h
  obtain ⟨hy0, hy1⟩ : 0 ≤ y ∧ y ≤ 4294967295 := by
    have h : IntKind.u32.min ≤ y ∧ y ≤ IntKind.u32.max := by simpa [Lit.wf] using wy
    exact h
  obtain ⟨hz0, hz1⟩ : 0 ≤ z ∧ z ≤ 255 := by
    have h : IntKind.u8.min ≤ z ∧ z ≤ IntKind.u8.max := by simpa [Lit.wf] using wz
    exact h
  clear wx wy wz
  have lx := dec_len 9 x.toNat (by omega)
  have ly := dec_len 9 y.toNat (by omega)
  obtain ⟨m, hm⟩ : ∃ m : Int, m = z % 10 := ⟨_, rfl⟩
  have hm0 : 0 ≤ m ∧ m ≤ 9 := by omega
  obtain ⟨sx, hsx⟩ : ∃ s : ByteArray, s = ⟨(Lib.decDigits x.toNat).toArray⟩ := ⟨_, rfl⟩
  obtain ⟨sy, hsy⟩ : ∃ s : ByteArray, s = ⟨(Lib.decDigits y.toNat).toArray⟩ := ⟨_, rfl⟩
  have zx : sx.size ≤ 10 := by rw [hsx, Idp.size_eq]; simpa using lx
  have zy : sy.size ≤ 10 := by rw [hsy, Idp.size_eq]; simpa using ly
  have HIx := Aside0.mk fun w => Itoa_calls x hx0 (by omega) w
  have HIy := Aside0.mk fun w => Itoa_calls y hy0 (by omega) w
  rw [← hsx] at HIx
  rw [← hsy] at HIy
  have ea : (⟨#[110]⟩ : ByteArray) ++ sx = nm 0 x.toNat [] := by rw [hsx]; exact nm_cat 0 x.toNat
  have eb : (⟨#[110]⟩ : ByteArray) ++ sy = nm 0 y.toNat [] := by rw [hsy]; exact nm_cat 0 y.toNat
  have ec : cz m ++ sy = nm m.toNat y.toNat [] := by rw [hsy]; exact nm_cat m.toNat y.toNat
  have et : ∀ t : List UInt8, (⟨#[110]⟩ : ByteArray) ++ sx ++ ⟨t.toArray⟩ = nm 0 x.toNat t := fun t => by rw [ea]; exact nm_tail _ _ _
  have va : vld (⟨#[110]⟩ ++ sx) = true := by rw [ea]; exact nm_vld _ _ _ (by decide) (by simp; omega)
  have vb : vld (⟨#[110]⟩ ++ sy) = true := by rw [eb]; exact nm_vld _ _ _ (by decide) (by simp; omega)
  have vc : vld (cz m ++ sy) = true := by rw [ec]; exact nm_vld _ _ _ (by decide) (by simp; omega)
  obtain ⟨B, hB⟩ : ∃ B, B = decide (x < y) := ⟨_, rfl⟩
  have l1 : ident_Less.f 300 (⟨#[110]⟩ ++ sx) (⟨#[110]⟩ ++ sy) = some B := by
    rw [less_all _ _ 300 (by decide), hB]
    by_cases h : x = y
    · subst h
      rw [less_eq0 (by rw [ea, eb]), decide_eq_false (by omega)]
    · rw [ea, eb] at *
      rw [nm_less _ _ _ _ va vb (by omega)]
      congr 1
      rw [decide_eq_decide]; omega
  have l2 : x ≠ y → ident_Less.f 300 (⟨#[110]⟩ ++ sx) (cz m ++ sy) = some B := by
    intro h
    rw [less_all _ _ 300 (by decide), hB]
    rw [ea, ec] at *
    rw [nm_less _ _ _ _ va vc (by omega)]
    congr 1
    rw [decide_eq_decide]; omega
  have l3 : 0 < m → less (⟨#[110]⟩ ++ sy) (cz m ++ sy) = true ∧ less (cz m ++ sy) (⟨#[110]⟩ ++ sy) = false := by
    intro h
    rw [eb, ec] at *
    exact less_lt vb vc (nm_ord_lt _ _ _ _ _ _ (by simp) (by simp) (numKey_zeros _ _ _ (by omega)))
  have v4 : vld (⟨#[110]⟩ ++ sx ++ ⟨#[45, 49]⟩) = true := by
    rw [show (⟨#[45, 49]⟩ : ByteArray) = ⟨[(45 : UInt8), 49].toArray⟩ from rfl, et]; exact nm_vld _ _ _ (by decide) (by simp; omega)
  have v5 : vld (⟨#[110]⟩ ++ sx ++ ⟨#[97]⟩) = true := by
    rw [show (⟨#[97]⟩ : ByteArray) = ⟨[(97 : UInt8)].toArray⟩ from rfl, et]; exact nm_vld _ _ _ (by decide) (by simp; omega)
  have l4 : ident_Less.f 300 (⟨#[110]⟩ ++ sx) (⟨#[110]⟩ ++ sx ++ ⟨#[45, 49]⟩) = some true := by
    rw [less_all _ _ 300 (by decide)]
    refine congrArg some (less_lt va v4 ?_).1
    rw [show (⟨#[45, 49]⟩ : ByteArray) = ⟨[(45 : UInt8), 49].toArray⟩ from rfl, et, ea, nm_ord_tail _ _ _ _ (by simp) (by intro c r h; cases h; decide)]
    rw [key_nil, key_other (by decide)]; rfl
  have l5 : ident_Less.f 300 (⟨#[110]⟩ ++ sx ++ ⟨#[45, 49]⟩) (⟨#[110]⟩ ++ sx ++ ⟨#[97]⟩) = some true := by
    rw [less_all _ _ 300 (by decide)]
    refine congrArg some (less_lt v4 v5 ?_).1
    rw [show (⟨#[45, 49]⟩ : ByteArray) = ⟨[(45 : UInt8), 49].toArray⟩ from rfl, et, show (⟨#[97]⟩ : ByteArray) = ⟨[(97 : UInt8)].toArray⟩ from rfl, et, nm_ord_tail _ _ _ _ (by intro c r h; cases h; decide) (by intro c r h; cases h; decide)]
    rw [key_other (c := 45) (by decide), key_other (c := 97) (by decide)]
    simp [cmpI]
  have L1 := Aside0.mk l1
  have L2 := Aside0.mk l2
  have L3 := Aside0.mk l3
  have L4 := Aside0.mk l4
  have L5 := Aside0.mk l5
  have VA : Aside0 (ident_Valid.f 60 (⟨#[110]⟩ ++ sx) = some true) := ⟨by rw [valid_all _ 60 (by decide), va]⟩
  have hB' : decide (x < y) = B := hB.symm
  clear l1 l2 l3 l4 l5 va vb vc v4 v5 ea eb ec et hsx hsy lx ly hB
  go_enter Tryd.func9, Tryd.ntmps9
  go_wp2_with fail
  refine (HIx.out _ htb).mono ?_
  rintro e w1 ⟨rfl, hb1⟩
  have HB1 := Aside0.mk hb1
  have htb1 := htb.below hb1
  have hsh1 := hsh.below hb1
  clear hb1 HIx htb hsh
  go_wp2_with fail
  refine (HIy.out _ htb1).mono ?_
  rintro e w2 ⟨rfl, hb2⟩
  have HB2 := Aside0.mk (below_then HB1.out HB1.out.size hb2)
  have htb2 := htb1.below hb2
  have hsh2 := hsh1.below hb2
  clear hb2 HB1 htb1 hsh1
  go_wp2_with fail
  refine (ident_Valid.calls 60 _ true _ VA.out).mono ?_
  rintro e w' ⟨rfl, ⟨nd, rfl⟩⟩
  go_wp2_with fail
  refine (ident_Less.calls 300 _ _ _ _ L1.out).mono ?_
  rintro e w3 ⟨rfl, hb3⟩
  have HB3 := Aside0.mk (below_then HB2.out HB2.out.size (below_then (pw_below_drewN (Below.refl _ _) nd) (by simp) hb3))
  have hsh3 : Sh w3 := hsh2.below (below_then (pw_below_drewN (Below.refl _ _) nd) (by simp) hb3)
  have htb3 : Tb w3 := htb2.below (below_then (pw_below_drewN (Below.refl _ _) nd) (by simp) hb3)
  clear hb3 HB2 hsh2 htb2
  have hm' : z % 10 = m := hm.symm
  have hmt : z.tmod 10 = m := by rw [hm]; exact Int.tmod_eq_emod_of_nonneg hz0
  clear hm
  obtain ⟨hm0, hm9⟩ := hm0
  go_wp2_with fail
  go_loopw [9, 10] (fun vc vi wr => ∃ k : Int, vc = .string (cz k) ∧ vi = .int .i64 k ∧ 0 ≤ k ∧ k ≤ m ∧ Aside0 (Below W.heap.size W wr ∧ Sh wr ∧ Tb wr)) (fun _ i _ => m.toNat - (intOf i).toNat)
  case atStart => exact ⟨0, rfl, rfl, by omega, by omega, ⟨HB3.out, hsh3, htb3⟩⟩
  case round =>
    clear HB3 hsh3 htb3
    obtain ⟨k, rfl, rfl, hk0, hk1, HK⟩ := hrel
    have hcs := cz_size k hk0 (by omega)
    by_cases hlt : k < m
    · go_wp2
      go_roundw
      case rel => exact ⟨k + 1, by rw [cz_step k hk0], by go_num, by omega, by omega, HK⟩
      case measure => simp [intOf]; omega
    · have hkm : k = m := by omega
      subst hkm
      obtain ⟨hb3, hsh3, htb3⟩ := HK.out
      have HB3 := Aside0.mk hb3
      clear hb3 HK
      go_wp2_with fail
      refine (HIy.out _ htb3).mono ?_
      rintro e w4 ⟨rfl, hb4⟩
      have HB4 := Aside0.mk (below_then HB3.out HB3.out.size hb4)
      have hsh4 := hsh3.below hb4
      have HB := Aside0.mk (Below.refl w4.heap.size w4)
      clear hb4 HB3 hsh3 htb3 HIy
      have L6 : Aside0 (x ≠ y → ident_Less.f 300 (⟨#[110]⟩ ++ sx) (cz k ++ sy) = some B) := L2
      have L7 : Aside0 (0 < k → ident_Less.f 300 (⟨#[110]⟩ ++ sy) (cz k ++ sy) = some true) := ⟨fun h => by rw [less_all _ _ 300 (by decide), (L3.out h).1]⟩
      have L8 : Aside0 (0 < k → ident_Less.f 300 (cz k ++ sy) (⟨#[110]⟩ ++ sy) = some false) := ⟨fun h => by rw [less_all _ _ 300 (by decide), (L3.out h).2]⟩
      clear L2 L3
      by_cases hxy : x = y
      all_goals by_cases hk : 0 < k
      all_goals
        go_wp2_with (first
          | (go_at_call 14; first | ((with_reducible refine (ident_Less.calls 300 _ _ _ _ L4.out).mono ?_); rintro e w' ⟨rfl, hb⟩; have n0_ := Aside0.mk (below_then HB.out HB.out.size hb); clear HB; have HB := n0_; clear n0_ hb) | ((with_reducible refine (ident_Less.calls 300 _ _ _ _ L5.out).mono ?_); rintro e w' ⟨rfl, hb⟩; have n0_ := Aside0.mk (below_then HB.out HB.out.size hb); clear HB; have HB := n0_; clear n0_ hb) | ((with_reducible refine (ident_Less.calls 300 _ _ _ _ (L6.out hxy)).mono ?_); rintro e w' ⟨rfl, hb⟩; have n0_ := Aside0.mk (below_then HB.out HB.out.size hb); clear HB; have HB := n0_; clear n0_ hb) | ((with_reducible refine (ident_Less.calls 300 _ _ _ _ (L7.out hk)).mono ?_); rintro e w' ⟨rfl, hb⟩; have n0_ := Aside0.mk (below_then HB.out HB.out.size hb); clear HB; have HB := n0_; clear n0_ hb) | ((with_reducible refine (ident_Less.calls 300 _ _ _ _ (L8.out hk)).mono ?_); rintro e w' ⟨rfl, hb⟩; have n0_ := Aside0.mk (below_then HB.out HB.out.size hb); clear HB; have HB := n0_; clear n0_ hb))
          | (go_at_call 13; refine (awake_calls _ (Sh.of_below hsh4 HB)).mono ?_; rintro e w' ⟨rfl, hb⟩; have n0_ := Aside0.mk (below_then HB.out HB.out.size hb); clear HB; have HB := n0_; clear n0_ hb))
        go_ret
        exact ⟨rfl, below_then HB4.out HB4.out.size HB.out⟩
end Go.Proofs.YtallacbjeajpoaaDoor
