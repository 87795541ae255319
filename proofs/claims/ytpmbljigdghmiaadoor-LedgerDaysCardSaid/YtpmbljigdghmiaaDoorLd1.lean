/- Ledgers: LedA, LedB, LedC in one text. -/
import Derived.RangeFuncNested
import Derived.RangeFuncBound
import Derived.RangeFuncCalls
import Derived.RangeFuncLeaves
import Derived.RangeFuncFrom
import Derived.Shelf.Abstract
import Derived.Shelf.RegionOpen
import Derived.WalkKit
import Derived.OwnWalkIn
import Derived.TacticsInMore
import Derived.LoopNIn
import Derived.LoopIn
import Derived.Test.YtpmbljigdghmiaaDoorPx0
import Derived.Test.YtpmbljigdghmiaaDoorIdpC
import Derived.WideShapes
import Derived.Test.YtpmbljigdghmiaaDoorPa
import Derived.Lib.SliceRun
namespace Go.Proofs.YtpmbljigdghmiaaDoor.Led
open Go.RowKit Go.Shelf Go.Proofs.YtpmbljigdghmiaaDoor.Ext Go.Proofs.YtpmbljigdghmiaaDoor.P Go.Proofs.YtpmbljigdghmiaaDoorW.PrintWords Go.Proofs.YtpmbljigdghmiaaDoorW.PrintLast Go.Proofs.YtpmbljigdghmiaaDoorW.PrintMore
attribute [local go_sem] Oper.semAt_some

abbrev Po := S24
abbrev It := S38
abbrev kPo : Kd Po := k24
abbrev kIt : Kd It := k38
abbrev rP (ps : List Po) (i : Int) : Po := rd_T24 ps i
abbrev rI (xs : List It) (i : Int) : It := rd_T38 xs i
/-- The items of a day and earlier ones, in their order. -/
def evs (ps : List Po) (day : Int) : List It := (ps.filter fun p => decide (p.f1 ≤ day)).flatMap (·.f2)
theorem take_rP (ps : List Po) (k : Int) (h0 : 0 ≤ k) (h : k < ps.length) : ps.take (k + 1).toNat = ps.take k.toNat ++ [rP ps k] := by
  have h' : k.toNat < ps.length := by omega
  rw [show (k + 1).toNat = k.toNat + 1 by omega, List.take_succ_eq_append_getElem h']
  simp [rP, rd_T24, List.getD_eq_getElem?_getD, h']
theorem take_rI (xs : List It) (k : Int) (h0 : 0 ≤ k) (h : k < xs.length) : xs.take (k + 1).toNat = xs.take k.toNat ++ [rI xs k] := by
  have h' : k.toNat < xs.length := by omega
  rw [show (k + 1).toNat = k.toNat + 1 by omega, List.take_succ_eq_append_getElem h']
  simp [rI, rd_T38, List.getD_eq_getElem?_getD, h']
theorem evs_append (ps qs : List Po) (day : Int) : evs (ps ++ qs) day = evs ps day ++ evs qs day := by simp [evs]
theorem evs_one (p : Po) (day : Int) : evs [p] day = if p.f1 ≤ day then p.f2 else [] := by
  by_cases h : p.f1 ≤ day <;> simp [evs, h]
theorem evs_yes (ps : List Po) (day : Int) (k : Int) (h0 : 0 ≤ k) (h : k < ps.length) (hd : ¬ day < (rP ps k).f1) : evs (ps.take (k + 1).toNat) day = evs (ps.take k.toNat) day ++ (rP ps k).f2 := by
  rw [take_rP ps k h0 h, evs_append, evs_one, if_pos (by omega)]
theorem evs_no (ps : List Po) (day : Int) (k : Int) (h0 : 0 ≤ k) (h : k < ps.length) (hd : day < (rP ps k).f1) : evs (ps.take (k + 1).toNat) day = evs (ps.take k.toNat) day := by
  rw [take_rP ps k h0 h, evs_append, evs_one, if_neg (by omega), List.append_nil]
theorem evs_pre (ps : List Po) (day : Int) (i : Nat) : evs (ps.take i) day <+: evs ps day := by
  conv => rhs; rw [← List.take_append_drop i ps]
  rw [evs_append]; exact List.prefix_append _ _
theorem evs_mid (ps : List Po) (day : Int) (k : Int) (h0 : 0 ≤ k) (h : k < ps.length) (hd : ¬ day < (rP ps k).f1) (j : Nat) : evs (ps.take k.toNat) day ++ (rP ps k).f2.take j <+: evs ps day := by
  refine List.IsPrefix.trans ?_ (evs_pre ps day (k + 1).toNat)
  rw [evs_yes ps day k h0 h hd]
  exact (List.prefix_append_right_inj _).2 (List.take_prefix _ _)
/-- What a round that goes on keeps. -/
structure Kp (n₀ Bd : Nat) (W W' : World) : Prop where
  below : Below n₀ W W'
  day : W'.cell? ⟨Bd, 0, none⟩ = W.cell? ⟨Bd, 0, none⟩
theorem Kp.trans {n₀ Bd : Nat} {A B C : World} (h : Kp n₀ Bd A B) (k : Kp n₀ Bd B C) : Kp n₀ Bd A C := ⟨h.below.trans k.below, k.day.trans h.day⟩
theorem Kp.alloc {n₀ Bd : Nat} {A B : World} (h : Kp n₀ Bd A B) (hn : n₀ ≤ B.heap.size) (hB : Bd < B.heap.size) (o : Obj) : Kp n₀ Bd A (B.alloc o) :=
  ⟨h.below.alloc hn o, ((below_alloc (Below.refl B.heap.size B) o).cell (p := ⟨Bd, 0, none⟩) hB).trans h.day⟩
set_option maxRecDepth 100000 in
set_option maxHeartbeats 4000000 in
theorem items1_in (F : Fence) (n : Nat) (hf : F.fn 53) (hro : F.round = none) (hn : 1 ≤ n) (l Bs Bd : Nat) (w0 : World) (A : Option Addr) (c : Nat) (ps : List Po) (day : Int) (hC : Kd.C kPo w0 A ps.length ps) (J Jx : List It → World → Prop)
    (W : World) (hJ : AbidesFrom W.heap.size J) (hbW : Below w0.heap.size w0 W) (_ : Bd < W.heap.size)
    (hY : ∀ pre x W, J pre W → pre ++ [x] <+: evs ps day → YieldAt F (n - 1) Tryd.prog l #[.string x.f0, .int .i64 x.f1] W fun e W' =>
      (e = .returned (.bool true) ∧ J (pre ++ [x]) W' ∧ Kp w0.heap.size Bd W W') ∨ (e = .returned (.bool false) ∧ Jx (pre ++ [x]) W'))
    (hBs : W.cell? ⟨Bs, 0, none⟩ = some (.slice A ps.length c)) (hBd : W.cell? ⟨Bd, 0, none⟩ = some (.int .i64 day)) (h0 : J [] W) :
    CallsIn F n Tryd.prog 53 #[.func (.yield l) #[] #[], .pointer (some ⟨Bs, 0, none⟩), .pointer (some ⟨Bd, 0, none⟩)] W fun e W' => (∃ v, e = .returned v) ∧
      ((∃ ys, ys = evs ps day ∧ J ys W') ∨ (∃ pre, pre <+: evs ps day ∧ Jx pre W')) := by
  refine callsIn_of_wp Tryd.func53 rfl hf ?_ hro
  simp only [Tryd.ntmps53, List.size_toArray, List.length_cons, List.length_nil, Nat.reduceAdd, Nat.reduceSub, Array.replicate_succ, Array.replicate_zero, List.push_toArray, List.append_toArray, List.nil_append, List.cons_append]
  have HC := Aside0.mk hC
  have hu1 := Tryd.underlying24
  have hu2 := Tryd.underlying38
  have hm := hC.2.1
  clear hC
  gi_wp2
  gi_loopw [10] (fun i wr => ∃ k : Int, i = .int .i64 k ∧ 0 ≤ k ∧ k ≤ ps.length ∧ J (evs (ps.take k.toNat) day) wr ∧ Aside0 (Below w0.heap.size w0 wr ∧ Kp w0.heap.size Bd W wr)) (fun i _ => ps.length - (intOf i).toNat)
  case atStart => exact ⟨0, rfl, by omega, by omega, h0, ⟨hbW, Below.refl _ _, rfl⟩⟩
  case round =>
    obtain ⟨k, rfl, hk0, hk1, hJs, HB⟩ := hrel
    by_cases hlt : k < ps.length
    · obtain ⟨ad, A2, c2, rfl, d0, d1, d2, el, eC⟩ := at_T24 HC.out k hk0 hlt
      obtain ⟨p, hp⟩ : ∃ p, p = rP ps k := ⟨_, rfl⟩
      rw [show rd_T24 ps k = p from hp.symm] at d0 d1 d2 el eC
      have hyes := evs_yes ps day k hk0 hlt
      have hno := evs_no ps day k hk0 hlt
      have hmid := evs_mid ps day k hk0 hlt
      rw [← hp] at hyes hno hmid
      have HYes := Aside0.mk hyes
      have HNo := Aside0.mk hno
      have HMid := Aside0.mk hmid
      clear hp hyes hno hmid
      have e0 := (HB.out.1.cell (World.block_lt_of_cell? w0 _ d0)).trans d0
      have e1 := (HB.out.1.cell (World.block_lt_of_cell? w0 _ d1)).trans d1
      have e2 := (HB.out.1.cell (World.block_lt_of_cell? w0 _ d2)).trans d2
      have HeC := Aside0.mk eC
      have hm2 := eC.2.1
      clear d0 d1 d2 el eC
      have hsz := HB.out.1.size
      have hBr : Bd < wr.heap.size := by
        have h1 := HB.out.2.day.trans hBd
        exact World.block_lt_of_cell? wr ⟨Bd, 0, none⟩ h1
      have hday : ∀ o, (wr.alloc o).cell? ⟨Bd, 0, none⟩ = some (.int .i64 day) := fun o => ((below_alloc (Below.refl wr.heap.size wr) o).cell (p := ⟨Bd, 0, none⟩) hBr).trans (HB.out.2.day.trans hBd)
      have HJ1 := Aside0.mk fun o : Obj => hJ _ wr (wr.alloc o) none hJs (World.grownBy_alloc wr o none) (fun r e => by cases e)
      have HB1 := Aside0.mk fun o : Obj => And.intro (HB.out.1.alloc hsz o) (HB.out.2.alloc hsz hBr o)
      have HBr := Aside0.mk hBr
      have Hsz := Aside0.mk hsz
      clear hsz hBr hJs
      by_cases hd : day < p.f1
      · gi_wp2
        go_roundw
        case rel => exact ⟨k + 1, by go_num, by omega, by omega, by rw [HNo.out hd]; exact HJ1.out _, ⟨HB1.out _⟩⟩
        case measure => simp [intOf]; omega
      · have HD := Aside0.mk hd
        have hd' : p.f1 ≤ day := by omega
        gi_wp2
        gi_loopw [21] (fun i wr => ∃ j : Int, i = .int .i64 j ∧ 0 ≤ j ∧ j ≤ p.f2.length ∧ J (evs (ps.take k.toNat) day ++ p.f2.take j.toNat) wr ∧ Aside0 (Below w0.heap.size w0 wr ∧ Kp w0.heap.size Bd W wr)) (fun i _ => p.f2.length - (intOf i).toNat)
        case atStart => exact ⟨0, rfl, by omega, by omega, by simpa using HJ1.out _, ⟨HB1.out _⟩⟩
        case round =>
          clear e0 e1 e2 hday
          obtain ⟨j, rfl, hj0, hj1, hJi, HBi⟩ := hrel
          by_cases hlti : j < p.f2.length
          · obtain ⟨ad2, rfl, x0, x1⟩ := at_T38 (Kd.C_below HeC.out HBi.out.1) j hj0 hlti
            have hJ2 := hJ _ wr (wr.alloc (.cells #[.string (rI p.f2 j).f0, .int .i64 (rI p.f2 j).f1] 38)) none hJi (World.grownBy_alloc wr _ none) (fun r e => by cases e)
            have hlen : evs (ps.take k.toNat) day ++ p.f2.take j.toNat ++ [rI p.f2 j] <+: evs ps day := by
              have h1 := HMid.out (by have := HD.out; omega) (j + 1).toNat
              rwa [take_rI _ j hj0 hlti, ← List.append_assoc] at h1
            obtain ⟨fn, tmps, assign, body, hy, hR⟩ := hY _ (rI p.f2 j) _ hJ2 hlen
            have HBj : Aside0 (Below w0.heap.size w0 (wr.alloc (.cells #[.string (rI p.f2 j).f0, .int .i64 (rI p.f2 j).f1] 38)) ∧ Kp w0.heap.size Bd W (wr.alloc (.cells #[.string (rI p.f2 j).f0, .int .i64 (rI p.f2 j).f1] 38))) := by
              have h1 := HBi.out.1.size
              have h2 := World.block_lt_of_cell? wr ⟨Bd, 0, none⟩ (HBi.out.2.day.trans hBd)
              exact ⟨HBi.out.1.alloc h1 _, HBi.out.2.alloc h1 h2 _⟩
            clear hJi hJ2 HBi hlen
            gi_wp2
            refine hR.mono ?_
            rintro e W3 (⟨rfl, hJ3, hk3⟩ | ⟨rfl, hJx3⟩)
            · have HK3 := Aside0.mk hk3
              clear hk3
              gi_wp2
              go_roundw
              case rel => exact ⟨j + 1, by go_num, by omega, by omega, by rw [take_rI _ j hj0 hlti, ← List.append_assoc]; exact hJ3, ⟨HBj.out.1.trans HK3.out.below, HBj.out.2.trans HK3.out⟩⟩
              case measure => simp [intOf]; omega
            · gi_wp2
              refine bodyPost_ret (results_none rfl _ _ _) rfl ?_
              refine ⟨⟨_, rfl⟩, .inr ⟨_, ?_, hJx3⟩⟩
              rw [List.append_assoc, ← take_rI _ j hj0 hlti]
              exact HMid.out (by have := HD.out; omega) _
          · have hjl : j = p.f2.length := by omega
            subst hjl
            gi_wp2
            go_roundw
            case rel => exact ⟨k + 1, by go_num, by omega, by omega, by rw [HYes.out (by have := HD.out; omega)]; simpa using hJi, HBi⟩
            case measure => simp [intOf]; omega
    · have hkl : k = ps.length := by omega
      subst hkl
      gi_wp2
      go_end0
      exact ⟨⟨_, rfl⟩, .inl (by simpa using hJs)⟩
end Go.Proofs.YtpmbljigdghmiaaDoor.Led

namespace Go.Proofs.YtpmbljigdghmiaaDoor.Led
open Go.RowKit Go.Shelf Go.WideShapes Go.Proofs.YtpmbljigdghmiaaDoor.Ext Go.Proofs.YtpmbljigdghmiaaDoor.P Go.Proofs.YtpmbljigdghmiaaDoorW.PrintWords Go.Proofs.YtpmbljigdghmiaaDoorW.PrintLast Go.Proofs.YtpmbljigdghmiaaDoorW.PrintMore
attribute [local go_sem] Oper.semAt_some
theorem cell_of_box_l {W : World} {B : Nat} {v : Value} {t : TypeId} (h : W.heap[B]? = some (.cells #[v] t (0, 0))) : W.cell? ⟨B, 0, none⟩ = some v ∧ W.frozen? ⟨B, 0, none⟩ = false := by
  constructor <;> simp [World.cell?, World.frozen?, h]
theorem set_ne {W : World} {b b' o o' : Nat} {v : Value} (h : b ≠ b') : (W.setCell ⟨b, o, none⟩ v).cell? ⟨b', o', none⟩ = W.cell? ⟨b', o', none⟩ := by
  rw [World.cell?_setCell_other]
  intro e
  exact h (congrArg Addr.block e)
theorem cell_new_l (W : World) (v : Value) (t : TypeId) : (W.alloc (.cells #[v] t)).cell? ⟨W.heap.size, 0, none⟩ = some v ∧ (W.alloc (.cells #[v] t)).frozen? ⟨W.heap.size, 0, none⟩ = false :=
  cell_of_box_l (World.alloc_heap_new W _)
theorem cell_alloc_l {W : World} {a : Addr} {v : Value} (o : Obj) (h : W.cell? a = some v) : (W.alloc o).cell? a = some v := cell_kept h (World.grownBy_alloc W o none) (fun r e => by cases e)
theorem frozen_alloc_l {W : World} {a : Addr} {v : Value} (o : Obj) (h : W.cell? a = some v) (hf : W.frozen? a = false) : (W.alloc o).frozen? a = false := (frozen_kept h (World.grownBy_alloc W o none) (fun r e => by cases e)).trans hf
def add1 (acct : ByteArray) (n : Int) (x : It) : Int := if x.f0 = acct then wrap64 (n + x.f1) else n
theorem bytes_ne {a b : ByteArray} (h : a ≠ b) : (a.toList == b.toList) = false := by
  rw [beq_eq_false_iff_ne]
  intro e
  rw [Lib.toList_data, Lib.toList_data] at e
  exact h (bytes_inj e)
def tot (ps : List Po) (acct : ByteArray) (day : Int) : Int := (evs ps day).foldl (add1 acct) 0
set_option maxHeartbeats 1000000 in
theorem items_in (F : Fence) (n : Nat) (hf : F.fn 40) (hro : F.round = none) (A : Option Addr) (len c : Nat) (day : Int) (w : World) :
    CallsIn F n Tryd.prog 40 #[.slice A len c, .int .i64 day] w fun e w' => e = .returned (.func (.func 53) #[] #[.pointer (some ⟨w.heap.size, 0, none⟩), .pointer (some ⟨w.heap.size + 1, 0, none⟩)]) ∧ w' = (w.alloc (.cells #[.slice A len c] 26)).alloc (.cells #[.int .i64 day] 3) := by
  refine callsIn_of_wp Tryd.func40 rfl hf ?_ hro
  simp only [Tryd.ntmps40, List.size_toArray, List.length_cons, List.length_nil, Nat.reduceAdd, Nat.reduceSub, Array.replicate_succ, Array.replicate_zero, List.push_toArray, List.append_toArray, List.nil_append, List.cons_append]
  gi_wp2
  go_ret
  exact ⟨rfl, rfl⟩
abbrev encIt (x : It) : Array Value := #[.string x.f0, .int .i64 x.f1]
theorem items_stops (F : Fence) (n : Nat) (hf : F.fn 53) (hro : F.round = none) (hn : 1 ≤ n) (Bs Bd : Nat) (w0 : World) (A : Option Addr) (c : Nat) (ps : List Po) (day : Int) (hC : Kd.C kPo w0 A ps.length ps) (w : World) (hb : Below w0.heap.size w0 w)
    (hBs : w.cell? ⟨Bs, 0, none⟩ = some (.slice A ps.length c)) (hBd : w.cell? ⟨Bd, 0, none⟩ = some (.int .i64 day)) :
    SeqStopsK F n Tryd.prog 53 #[.pointer (some ⟨Bs, 0, none⟩), .pointer (some ⟨Bd, 0, none⟩)] encIt (Kp w0.heap.size Bd) (fun ys => ys = evs ps day) (fun pre => pre <+: evs ps day) (evs ps day).length w := fun l J Jx W hW hJ _ hY h0 => by
  have h1 := World.block_lt_of_cell? w _ hBs
  have h2 := World.block_lt_of_cell? w _ hBd
  exact items1_in F n hf hro hn l Bs Bd w0 A c ps day hC J Jx W hJ (hb.trans (hW.mono hb.size)) (Nat.lt_of_lt_of_le h2 hW.size) (fun pre x W hj hp => hY pre x W hj (by have := hp.length_le; simp at this; omega)) ((hW.cell (p := ⟨Bs, 0, none⟩) h1).trans hBs) ((hW.cell (p := ⟨Bd, 0, none⟩) h2).trans hBd) h0
theorem Kp.t {n₀ Bd : Nat} {A B C : World} (h : Kp n₀ Bd A B) (k : Kp n₀ Bd B C) : Kp n₀ Bd A C := h.trans k
theorem Kp.b {n₀ Bd : Nat} {w : World} (hn : n₀ ≤ w.heap.size) (hB : Bd < w.heap.size) (W : World) (l : Nat) (o o' : Obj) (hl : w.heap.size ≤ l) (h : W.heap[l]? = some o) (h1 : o.isCells = false) (h2 : o.isWalk = false) : Kp n₀ Bd W (W.putObj l o') :=
  ⟨belowK_b hn W l o o' hl h h1 h2, by
    have hb := belowK_b (n₀ := Bd + 1) (w := w) (by omega) W l o o' hl h h1 h2
    exact hb.cell (p := ⟨Bd, 0, none⟩) (by simp)⟩
set_option maxRecDepth 100000 in
set_option maxHeartbeats 2000000 in
theorem sum_in (F : Fence) (n : Nat) (h1 : F.fn 37) (h2 : F.fn 40) (h3 : F.fn 53) (hro : F.round = none) (hn : 3 ≤ n) (A : Option Addr) (c : Nat) (ps : List Po) (acct : ByteArray) (day : Int) (w : World) (hC : Kd.C kPo w A ps.length ps) :
    CallsIn F n Tryd.prog 37 #[.slice A ps.length c, .string acct, .int .i64 day] w fun e W' => e = .returned (.int .i64 (tot ps acct day)) ∧ Below w.heap.size w W' := by
  have hn1 : 1 ≤ n := by omega
  refine callsIn_of_wp_marks Tryd.func37 rfl h1 ?_ hro
  simp only [Tryd.ntmps37, List.size_toArray, List.length_cons, List.length_nil, Nat.reduceAdd, Nat.reduceSub, Array.replicate_succ, Array.replicate_zero, List.push_toArray, List.append_toArray, List.nil_append, List.cons_append]
  gi_wp2_with (gi_at_call 40; refine (items_in F (n - 1) h2 hro _ _ _ _ _).mono ?_; rintro e w' ⟨rfl, rfl⟩)
  obtain ⟨W0, hW0⟩ : ∃ W0, ((((w.alloc (Obj.cells #[Value.string acct] 9)).alloc (Obj.cells #[Value.int IntKind.i64 0] 3)).alloc (Obj.cells #[Value.slice A ps.length c] 26)).alloc (Obj.cells #[Value.int IntKind.i64 day] 3)) = W0 := ⟨_, rfl⟩
  have n0 := cell_new_l w (.string acct) 9
  have n1 := cell_new_l (w.alloc (.cells #[.string acct] 9)) (.int .i64 0) 3
  have n2 := cell_new_l ((w.alloc (.cells #[.string acct] 9)).alloc (.cells #[.int .i64 0] 3)) (.slice A ps.length c) 26
  have n3 := cell_new_l (((w.alloc (.cells #[.string acct] 9)).alloc (.cells #[.int .i64 0] 3)).alloc (.cells #[.slice A ps.length c] 26)) (.int .i64 day) 3
  simp only [World.size_alloc] at n1 n2 n3
  have c0 : W0.cell? ⟨w.heap.size, 0, none⟩ = some (.string acct) := by rw [← hW0]; exact cell_alloc_l _ (cell_alloc_l _ (cell_alloc_l _ n0.1))
  have c1 : W0.cell? ⟨w.heap.size + 1, 0, none⟩ = some (.int .i64 0) := by rw [← hW0]; exact cell_alloc_l _ (cell_alloc_l _ n1.1)
  have f1 : W0.frozen? ⟨w.heap.size + 1, 0, none⟩ = false := by rw [← hW0]; exact frozen_alloc_l _ (cell_alloc_l _ n1.1) (frozen_alloc_l _ n1.1 n1.2)
  have c2 : W0.cell? ⟨w.heap.size + 1 + 1, 0, none⟩ = some (.slice A ps.length c) := by rw [← hW0]; exact cell_alloc_l _ n2.1
  have c3 : W0.cell? ⟨w.heap.size + 1 + 1 + 1, 0, none⟩ = some (.int .i64 day) := by rw [← hW0]; exact n3.1
  clear n0 n1 n2 n3
  have hB0 : Below w.heap.size w W0 := by
    rw [← hW0]
    exact below_alloc (below_alloc (below_alloc (below_alloc (Below.refl _ _) _) _) _) _
  have hsz : W0.heap.size = w.heap.size + 4 := by rw [← hW0]; simp
  rw [hW0]
  clear hW0
  refine wpIn_rangeFunc_ownF hro hn1 (gf := 53) (lb := #[.pointer (some ⟨w.heap.size + 1 + 1, 0, none⟩), .pointer (some ⟨w.heap.size + 1 + 1 + 1, 0, none⟩)]) rfl h3 (enters_of Tryd.func53 (by kernel_rfl) rfl)
    (items_stops F (n - 1) h3 hro (by omega) _ _ w A c ps day hC W0 hB0 c2 c3) Kp.t (Kp.b (by omega) (by omega)) (Below.refl _ _) (fun _ => rfl)
    (fun pre W => (W.cell? ⟨w.heap.size, 0, none⟩ = some (.string acct) ∧ W.cell? ⟨w.heap.size + 1, 0, none⟩ = some (.int .i64 (pre.foldl (add1 acct) 0)) ∧ W.frozen? ⟨w.heap.size + 1, 0, none⟩ = false) ∧ Below w.heap.size w W)
    (fun _ _ _ => False)
    (OwnFrom.and (Own.from (fun s A B row hs hg hr => ⟨cell_kept hs.1 hg hr, cell_kept hs.2.1 hg hr, (frozen_kept hs.2.1 hg hr).trans hs.2.2⟩) _) (ownFrom_below (Nat.le_refl _) (by omega)))
    (fun _ _ _ _ _ hs _ _ => hs)
    ⟨⟨c0, c1, f1⟩, hB0⟩
    (fun x => { tmps := #[.slice A ps.length c, .string acct, .int .i64 day, undef, .pointer (some ⟨w.heap.size, 0, none⟩), undef, .int .i64 0, .pointer (some ⟨w.heap.size + 1, 0, none⟩), .string x.f0, .int .i64 x.f1, .slice A ps.length c, .int .i64 day, .func (.func 53) #[] #[.pointer (some ⟨w.heap.size + 1 + 1, 0, none⟩), .pointer (some ⟨w.heap.size + 1 + 1 + 1, 0, none⟩)], .string x.f0, .int .i64 x.f1, undef, undef, undef, undef, undef, undef, undef], defers := [] }) ?assign ?body ?done ?stop
  case assign =>
    intro l x W K hK
    gi_wp2
    exact hK
  case body =>
    rintro l pre x W ⟨⟨hc0, hc1, hf1⟩, hB⟩ _
    have HB := Aside0.mk hB
    clear hB
    by_cases hx : x.f0 = acct
    · have hx' : (x.f0.toList == acct.toList) = true := by rw [hx]; simp
      have HX := Aside0.mk hx
      clear hx
      gi_wp2
      refine ⟨KeepsOthers.setCell _ _ _, ⟨(Below.refl w.heap.size W).setCell (p := ⟨w.heap.size + 1, 0, none⟩) (by simp) _, ?_⟩, ⟨?_, ?_, by rw [World.frozen?_setCell]; exact hf1⟩, HB.out.setCell (p := ⟨w.heap.size + 1, 0, none⟩) (by simp) _⟩
      · exact set_ne (by omega)
      · rw [set_ne (by omega)]; exact hc0
      · rw [List.foldl_append]
        refine (World.cell?_setCell_same' _ _ _ (by rw [hc1]; rfl)).trans ?_
        simp [add1, HX.out]
    · have hx' : (x.f0.toList == acct.toList) = false := bytes_ne hx
      have HX := Aside0.mk hx
      clear hx
      gi_wp2
      refine ⟨KeepsOthers.refl _, ⟨Below.refl _ _, rfl⟩, ⟨hc0, ?_, hf1⟩, HB.out⟩
      rw [List.foldl_append, hc1]
      simp [add1, HX.out]
  case done =>
    rintro D ys W hD rfl ⟨⟨_, hc1, hf1⟩, hB⟩ hK
    have HB := Aside0.mk hB
    clear hB
    gi_wp2
    refine ⟨by simp, .inl ⟨_, _, rfl, run_takeDeferred hK, ?_⟩⟩
    exact ⟨_, results_tmp rfl _ _ _, rfl, HB.out.trans (belowK_b (w := w) (Nat.le_refl _) W D _ _ (by omega) hK rfl rfl)⟩
  case stop =>
    rintro D c pre W _ _ h _
    exact h.elim
theorem sum_calls (A : Option Addr) (c : Nat) (ps : List Po) (acct : ByteArray) (day : Int) (w : World) (hC : Kd.C kPo w A ps.length ps) :
    Calls Tryd.prog 37 #[.slice A ps.length c, .string acct, .int .i64 day] w fun e W' => e = .returned (.int .i64 (tot ps acct day)) ∧ Below w.heap.size w W' :=
  callsIn_wide.1 (sum_in _ 3 trivial trivial trivial rfl (by omega) A c ps acct day w hC)
end Go.Proofs.YtpmbljigdghmiaaDoor.Led

namespace Go.Proofs.YtpmbljigdghmiaaDoor.Led
open Go.RowKit Go.Shelf Go.WideShapes Go.Proofs.YtpmbljigdghmiaaDoor.Ext Go.Proofs.YtpmbljigdghmiaaDoor.P Go.Proofs.YtpmbljigdghmiaaDoorW.PrintWords Go.Proofs.YtpmbljigdghmiaaDoorW.PrintLast Go.Proofs.YtpmbljigdghmiaaDoorW.PrintMore
theorem it_KM {W : World} {base : Nat} {ok : Nat → Prop} (x : It) (cs : List Value) (h : kIt.K W x cs) : kIt.M W base ok x cs := by
  rw [k38_open h]
  exact k38_mkM W base ok x
set_option maxHeartbeats 1000000 in
theorem CloneIt_calls (A : Option Addr) (c : Nat) (xs : List It) (w : World) (hC : Kd.C kIt w A xs.length xs) (hl : xs.length ≤ 1000000) :
    Calls Tryd.prog 52 #[.slice A xs.length c] w fun e w' => ∃ v : Value, e = .returned v ∧ Kd.R kIt 38 w' w.heap.size (fun _ => True) v xs ∧ Below w.heap.size w w' := by
  have hq : ∀ (w : World) (a : Option Addr) (n c n' c' : Nat), (binOp .eql 22 (.slice a n c) (.slice none n' c')).run Tryd.prog w = .ok (.bool a.isNone) w := fun w a n c n' c' => Lib.run_eql_slice_nil w _ _ a n c n' c' Tryd.underlying22
  have HC := Aside0.mk hC
  cases A with
  | none =>
    have h0 : xs = [] := by
      rcases Nat.eq_zero_or_pos xs.length with h | h
      · exact List.eq_nil_of_length_eq_zero h
      · obtain ⟨ad, e, _⟩ := hC.2.2 h; cases e
    clear hC
    subst h0
    go_enter Tryd.func52, Tryd.ntmps52
    go_wp2
    go_ret
    exact ⟨_, rfl, Kd.R_nil _ _ _ _ _, Below.refl _ _⟩
  | some ad =>
    clear hC
    go_enter Tryd.func52, Tryd.ntmps52
    go_wp2_with ((with_reducible refine gate_builtin (b := .append) (xs := #[.tmp 5, .tmp 6]) rfl ?_)
                 at_builtin
                 refine Kd.R_append_rows kIt (Rr := kIt.K (w.alloc (.cells #[] 38))) (w0 := w) w.heap.size rfl (.tmp 5) (.tmp 6) 22 38 (.agg #[(.string ⟨#[]⟩), (.int .i64 0)]) 24 rfl Tryd.underlying22 info38 rfl (by decide) (by omega) _ [] xs (some ad) xs.length c (fun _ => True) (fun _ => False) rfl rfl ?aO ?aR ?aK (fun _ hk => hk.elim) (fun _ _ => trivial) ?aB ?aS ?aL ?_
                 case aO => exact ⟨fun _ _ => trivial, [], World.ownsRow_made w #[] 0 (Nat.le_refl _) (Nat.zero_le _) (by simp), Reps.none _ _⟩
                 case aR => exact (Kd.C_below HC.out (below_alloc (Below.refl _ _) _))
                 case aK => exact (fun x cs h => it_KM x cs h)
                 case aB => exact below_alloc (Below.refl _ _) _
                 case aS => simp
                 case aL => (simp; omega)
                 intro v1 w1 ho hb hg hat
                 have HO := Aside0.mk ho
                 have HB1 := Aside0.mk hb
                 clear ho hb hg hat)
    go_ret
    exact ⟨_, rfl, by simpa using HO.out, HB1.out⟩
set_option maxHeartbeats 2000000 in
set_option maxRecDepth 100000 in
theorem copied_calls (id day : Int) (A : Option Addr) (c : Nat) (xs : List It) (w : World) (hC : Kd.C kIt w A xs.length xs) (hl : xs.length ≤ 1000000) :
    Calls Tryd.prog 38 #[.agg #[.int .i64 id, .int .i64 day, .slice A xs.length c]] w fun e w' => ∃ v : Value, e = .returned (.agg #[.int .i64 id, .int .i64 day, v]) ∧ Kd.R kIt 38 w' w.heap.size (fun _ => True) v xs ∧ Below w.heap.size w w' := by
  have hu1 := Tryd.underlying24
  have HCl := Aside0.mk fun (w' : World) (hb : Below w.heap.size w w') => CloneIt_calls A c xs w' (Kd.C_below hC hb) hl
  clear hC
  go_enter Tryd.func38, Tryd.ntmps38
  go_wp2_with fail
  refine (HCl.out _ (below_alloc (below_alloc (Below.refl _ _) _) _)).mono ?_
  rintro e w1 ⟨v, rfl, hR, hb⟩
  obtain ⟨A1, c1, rfl⟩ := Kd.R_slice hR
  have b1 : w1.heap[w.heap.size]? = some (.cells #[.int .i64 id, .int .i64 day, .slice A xs.length c] 24 (0, 0)) := (hb.block _ (by simp; omega)).trans (blk_alloc (blk_new w _) _)
  have b2 : w1.heap[w.heap.size + 1]? = some (.cells #[.int .i64 0, .int .i64 0, .slice none 0 0] 24 (0, 0)) := by
    have h := blk_new (w.alloc (.cells #[.int .i64 id, .int .i64 day, .slice A xs.length c] 24 (0, 0))) (.cells #[.int .i64 0, .int .i64 0, .slice none 0 0] 24 (0, 0))
    rw [World.size_alloc] at h
    exact (hb.block _ (by simp)).trans h
  have HR : Aside0 (Kd.R kIt 38 w1 w.heap.size (fun k => k ≠ w.heap.size ∧ k ≠ w.heap.size + 1) (.slice A1 xs.length c1) xs) := ⟨by
    refine Kd.R_lower (Kd.R_mono (Kd.R_bound hR) (fun k hk => ?_)) (by simp; omega)
    have := hk.2.1
    simp at this
    omega⟩
  have HB := Aside0.mk ((below_alloc (below_alloc (Below.refl w.heap.size w) _) _).trans (hb.mono (by simp; omega)))
  have c0 : w1.cell? ⟨w.heap.size, 0, none⟩ = some (.int .i64 id) := (blk_cell b1 0).trans rfl
  have c1' : w1.cell? ⟨w.heap.size, 1, none⟩ = some (.int .i64 day) := (blk_cell b1 1).trans rfl
  have c2 : w1.cell? ⟨w.heap.size, 2, none⟩ = some (.slice A xs.length c) := (blk_cell b1 2).trans rfl
  have f0 := blk_frozen b1 0
  have f1 := blk_frozen b1 1
  have f2 := blk_frozen b1 2
  have d0 : w1.cell? ⟨w.heap.size + 1, 0, none⟩ = some (.int .i64 0) := (blk_cell b2 0).trans rfl
  have d1 : w1.cell? ⟨w.heap.size + 1, 1, none⟩ = some (.int .i64 0) := (blk_cell b2 1).trans rfl
  have d2 : w1.cell? ⟨w.heap.size + 1, 2, none⟩ = some (.slice none 0 0) := (blk_cell b2 2).trans rfl
  have g0 := blk_frozen b2 0
  have g1 := blk_frozen b2 1
  have g2 := blk_frozen b2 2
  have B2 := Aside0.mk b2
  clear hR hb b1 b2 HCl
  go_wp2_with fail
  refine bodyPost_ret (results_cell_row rfl _ _ (w.heap.size + 1) 24 #[.int .i64 id, .int .i64 day, .slice A1 xs.length c1] (0, 0) _ rfl ?blk Tryd.underlying24 rfl (by kernel_rfl)) rfl ?_
  case blk =>
    refine blk_put (cs := #[.int .i64 id, .int .i64 day, .slice none 0 0]) (blk_put (cs := #[.int .i64 id, .int .i64 0, .slice none 0 0]) (blk_put (cs := #[.int .i64 0, .int .i64 0, .slice none 0 0]) (blk_far B2.out (by simp) _) 0 _ rfl) 1 _ rfl) 2 _ rfl
  · refine ⟨_, rfl, ?_, ?_⟩
    · refine Kd.R_mono (Kd.R_far (Kd.R_far (Kd.R_far (Kd.R_far HR.out (fun k hk => hk.1) _) (fun k hk => hk.2) _) (fun k hk => hk.2) _) (fun k hk => hk.2) _) (fun _ _ => trivial)
    · exact (((HB.out.setCell (p := ⟨w.heap.size, 2, none⟩) (by simp) _).setCell (p := ⟨w.heap.size + 1, 0, none⟩) (by simp) _).setCell (p := ⟨w.heap.size + 1, 1, none⟩) (by simp) _).setCell (p := ⟨w.heap.size + 1, 2, none⟩) (by simp) _
end Go.Proofs.YtpmbljigdghmiaaDoor.Led
