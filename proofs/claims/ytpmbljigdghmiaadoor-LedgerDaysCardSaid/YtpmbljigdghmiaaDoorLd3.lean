/- Ledgers: LedG, LedH, LedI in one text. -/
import Derived.Test.YtpmbljigdghmiaaDoorLd2
import Derived.Test.YtpmbljigdghmiaaDoorIdpD
import Derived.Test.YtpmbljigdghmiaaDoorLays
import Derived.Test.YtpmbljigdghmiaaDoorShelf2
import Derived.Lib.OwnBridge
import Derived.Shelf.SlSortCmp.NoneTotal
import Derived.RangeFuncWrites
import Derived.Maps.OwnIn
import Derived.Maps.OwnSet
import Derived.Maps.Keyed
import Derived.Maps.Views
import Derived.StringKeys
import Derived.Sort.MapsRangeIn
import Derived.Sort.KeysCollected
import Derived.Sort.OwnSorted
import Derived.Maps.AppendAt
namespace Go.Proofs.YtpmbljigdghmiaaDoor.Led
open Go.RowKit Go.Maps Go.Sort Go.Lib Go.Proofs Go.Shelf Go.WideShapes Go.Proofs.YtpmbljigdghmiaaDoor.Ext Go.Proofs.YtpmbljigdghmiaaDoor.P Go.Proofs.YtpmbljigdghmiaaDoor.Idp Go.Proofs.YtpmbljigdghmiaaDoorW.PrintWords Go.Proofs.YtpmbljigdghmiaaDoorW.PrintLast Go.Proofs.YtpmbljigdghmiaaDoorW.PrintMore
/-- Names that are valid: what is sorted. -/
structure Vn where mk :: (val : ByteArray) (prop : vld val = true)
theorem Vn.same {x y : Vn} (h : x.val = y.val) : x = y := by cases x; cases y; cases h; rfl
instance : Inhabited Vn := ⟨⟨⟨#[97]⟩, by decide +kernel⟩⟩
def encV (x : Vn) : Value := .string x.1
def ordV (x y : Vn) : Int := ord x.1 y.1
theorem ltV (x y : Vn) : (ltOf ordV) x y = true ↔ ord x.1 y.1 < 0 := by unfold ltOf ordV; rw [decide_eq_true_iff]
theorem ltV' (x y : Vn) : (ltOf ordV) x y = false ↔ ¬ ord x.1 y.1 < 0 := by unfold ltOf ordV; rw [decide_eq_false_iff_not]
theorem swoV : SWO (ltOf ordV) where
  irrefl x := by rw [ltV', ord_zero.2 rfl]; omega
  trans x y z h1 h2 := by
    rw [ltV] at *
    exact ord_trans h1 h2
  ntrans x y z h1 h2 := by
    rw [ltV'] at *
    have a1 := ord_neg x.1 y.1
    have a2 := ord_neg y.1 z.1
    have a3 := ord_neg x.1 z.1
    have := ord_trans' (a := z.1) (b := y.1) (c := x.1) (by omega) (by omega)
    omega
theorem totV (x y : Vn) (h1 : (ltOf ordV) x y = false) (h2 : (ltOf ordV) y x = false) : x = y := by
  rw [ltV'] at *
  have a1 := ord_neg x.1 y.1
  exact Vn.same (ord_zero.1 (by omega))
theorem vnames_of (l : List ByteArray) (h : ∀ s ∈ l, vld s = true) : ∃ d : List Vn, d.map (·.1) = l := by
  induction l with
  | nil => exact ⟨[], rfl⟩
  | cons s l ih =>
    obtain ⟨d, hd⟩ := ih (fun x hx => h x (by simp [hx]))
    exact ⟨⟨s, h s (by simp)⟩ :: d, by simp [hd]⟩
theorem less_v {a b : ByteArray} (ha : vld a = true) (hb : vld b = true) : less a b = decide (ord a b < 0) := by unfold less; rw [ha, hb]; simp
set_option maxHeartbeats 1000000 in
theorem cmp_lays (a b : ByteArray) (ha : vld a = true) (hb : vld b = true) (w : World) (hsh : Sh w) :
    Calls Tryd.prog 42 #[.string a, .string b] w fun e w' => e = .returned (.int .i64 (ord a b)) ∧ Laid w w' := by
  have hr := ord_range a b
  have hn := ord_neg a b
  have h1 : ident_Less.f 300 a b = some (decide (ord a b < 0)) := by rw [less_all _ _ 300 (by decide), less_v ha hb]
  have h2 : ident_Less.f 300 b a = some (decide (ord b a < 0)) := by rw [less_all _ _ 300 (by decide), less_v hb ha]
  rcases hr with hr | hr | hr
  · rw [hr] at h1 ⊢
    rw [show decide ((-1 : Int) < 0) = true from rfl] at h1
    have H1 := Aside0.mk h1
    clear h1 h2 hn hr
    go_enter Tryd.func42, Tryd.ntmps42
    go_wp2_with fail
    refine (ident_Less.lays 300 _ _ _ _ H1.out).mono ?_
    rintro e w' ⟨rfl, hl⟩
    have HL := Aside0.mk hl
    clear hl
    go_wp2
    go_ret
    exact ⟨rfl, HL.out⟩
  · rw [hn, hr] at h2
    rw [hr] at h1 ⊢
    rw [show decide ((0 : Int) < 0) = false from rfl] at h1
    rw [show decide (-(0 : Int) < 0) = false from rfl] at h2
    have H1 := Aside0.mk h1
    have H2 := Aside0.mk h2
    clear h1 h2 hn hr
    go_enter Tryd.func42, Tryd.ntmps42
    go_wp2_with fail
    refine (ident_Less.lays 300 _ _ _ _ H1.out).mono ?_
    rintro e w1 ⟨rfl, hl⟩
    have HL := Aside0.mk hl
    have hsh1 := hsh.below hl.below
    clear hl
    go_wp2_with fail
    refine (ident_Less.lays 300 _ _ _ _ H2.out).mono ?_
    rintro e w2 ⟨rfl, hl⟩
    have HL2 := Aside0.mk (HL.out.step hl)
    clear hl
    go_wp2
    go_ret
    exact ⟨rfl, HL2.out⟩
  · rw [hn, hr] at h2
    rw [hr] at h1 ⊢
    rw [show decide ((1 : Int) < 0) = false from rfl] at h1
    rw [show decide (-(1 : Int) < 0) = true from rfl] at h2
    have H1 := Aside0.mk h1
    have H2 := Aside0.mk h2
    clear h1 h2 hn hr
    go_enter Tryd.func42, Tryd.ntmps42
    go_wp2_with fail
    refine (ident_Less.lays 300 _ _ _ _ H1.out).mono ?_
    rintro e w1 ⟨rfl, hl⟩
    have HL := Aside0.mk hl
    have hsh1 := hsh.below hl.below
    clear hl
    go_wp2_with fail
    refine (ident_Less.lays 300 _ _ _ _ H2.out).mono ?_
    rintro e w2 ⟨rfl, hl⟩
    have HL2 := Aside0.mk (HL.out.step hl)
    clear hl
    go_wp2
    go_ret
    exact ⟨rfl, HL2.out⟩
theorem sortV_calls (w0 w : World) (v : Value) (l : List ByteArray) (hl : ∀ s ∈ l, vld s = true) (hR : Kd.R Kd.string 9 w w0.heap.size (fun _ => True) v l) (hb : Below w0.heap.size w0 w) (hbig : l.length < 4611686018427387904) (hsh : Sh w0) :
    Calls Tryd.prog 41 #[v, .func (.func 42) #[] #[]] w fun e w' =>
      e = .returned (.tuple #[]) ∧ Kd.R Kd.string 9 w' w0.heap.size (fun _ => True) v (sortN l) ∧ Below w0.heap.size w0 w' ∧ w.grownBy w' v.ownBlock := by
  rcases Nat.eq_zero_or_pos l.length with h0 | h0
  · have hn := List.eq_nil_of_length_eq_zero h0
    subst hn
    obtain ⟨A, c, rfl⟩ := Kd.R_slice hR
    refine (Tryd.slices_SortFunc_none (α := Vn) A c _ w).mono fun e w1 ⟨he, hw⟩ => ?_
    subst hw
    exact ⟨he, by simpa [sortN] using hR, hb, ⟨rfl, rfl, rfl, Nat.le_refl _, fun _ _ _ => rfl⟩⟩
  · obtain ⟨d, hd⟩ := vnames_of l hl
    have ho := Kd.own_of_R hR
    have hmap : encs Value.string l = d.map encV := by rw [← hd]; simp [encs, encV]
    rw [hmap] at ho
    have hv : v ≠ .slice none 0 0 := by
      rintro rfl
      obtain ⟨g, cap, e, _⟩ := Kd.R_form hR h0
      cases e
    obtain ⟨g, cap, rfl, hg, hlt, _, _, hlen, hH⟩ := holds_of_ownsRow ho hv
    have hsz : d.toArray.size = l.length := by simpa using hlen
    have eg : ∀ args w, (callFunc 42 args).run Tryd.prog w = .ok (.enter 42 args) w := enters_of Tryd.func42 (by kernel_rfl) rfl
    have hS := Tryd.slices_SortFunc_total encV (fun _ => rfl) ordV swoV 42 #[] g 0 cap d.toArray w eg (fun m os dk _ x y => (cmp_lays x.1 y.1 x.2 y.2 (sortWorld encV w g 0 m dk os) (hsh.below (grow_below (below_putRow hb hg) (by have := hb.size; simp [putRow, mapBlock, Sort.ahead]; omega) os))).mono fun e w1 ⟨he, hl⟩ => ⟨he, hl.out⟩) hH hlt (by rw [hsz]; exact hbig) totV
    rw [hsz] at hS
    refine hS.mono fun e w1 ⟨he, n, os, hw⟩ => ⟨he, ?_⟩
    subst hw
    have hys : (d.mergeSort fun x y => !(ltOf ordV) y x).length = l.length := by rw [List.length_mergeSort]; exact hlen
    have hrow := ownsRow_putRow (q := n) (k := l.length) ho hys (Nat.le_refl _)
    rw [List.take_of_length_le (by rw [hys]; exact Nat.le_refl _)] at hrow
    have hsort : (d.mergeSort fun x y => !(ltOf ordV) y x).map encV = encs Value.string (sortN l) := by
      unfold sortN encs
      rw [← hd, ← List.map_mergeSort (r := fun x y => !(ltOf ordV) y x) (f := fun x : Vn => x.1)]
      · simp [encV]
      · intro a _ b _; rfl
    rw [hsort] at hrow
    have hln : l.length = (sortN l).length := by unfold sortN; rw [List.length_mergeSort]
    refine ⟨?_, ?_, ?_⟩
    · have h1 : Kd.R Kd.string 9 (putRow encV (Sort.ahead w n) g 0 (d.mergeSort fun x y => !(ltOf ordV) y x).toArray) w0.heap.size (fun _ => True) (.slice (some ⟨g, 0, none⟩) l.length cap) (sortN l) := Kd.R_of_own (by rw [← hln]; exact hrow) (fun _ _ => trivial)
      exact Kd.R_below h1 (grow_below1 _ os)
    · exact grow_below (below_putRow hb hg) (by
        have := hb.size
        simp [putRow, mapBlock, Sort.ahead]; omega) os
    · unfold sortWorld
      refine ⟨rfl, rfl, rfl, by simp [grow, putRow, mapBlock, Sort.ahead], fun k hk hne => ?_⟩
      rw [heap_grow_old _ _ (by simpa [putRow, mapBlock, Sort.ahead] using hk)]
      have : g ≠ k := fun e => hne (by rw [e]; rfl)
      simp [putRow, mapBlock, Sort.ahead, Array.getElem?_modify, this]
end Go.Proofs.YtpmbljigdghmiaaDoor.Led

namespace Go.Proofs.YtpmbljigdghmiaaDoor.Led
open Go.RowKit Go.Maps Go.WideMaps Go.Sort Go.Lib Go.Proofs Go.Shelf Go.WideShapes Go.Proofs.YtpmbljigdghmiaaDoor.Ext Go.Proofs.YtpmbljigdghmiaaDoor.P Go.Proofs.YtpmbljigdghmiaaDoor.Idp Go.Proofs.YtpmbljigdghmiaaDoorW.PrintWords Go.Proofs.YtpmbljigdghmiaaDoorW.PrintLast Go.Proofs.YtpmbljigdghmiaaDoorW.PrintMore
attribute [local go_sem] Oper.semAt_some
/-- An item whose account is a name. -/
structure Iv where mk :: (val : It) (prop : vld val.f0 = true)
abbrev encIv (x : Iv) : Array Value := #[.string x.1.f0, .int .i64 x.1.f1]
theorem iv_of {l : List It} (h : ∀ x ∈ l, vld x.f0 = true) : ∃ d : List Iv, d.map (·.1) = l := by
  induction l with
  | nil => exact ⟨[], rfl⟩
  | cons s l ih =>
    obtain ⟨d, hd⟩ := ih (fun x hx => h x (by simp [hx]))
    exact ⟨⟨s, h s (by simp)⟩ :: d, by simp [hd]⟩
theorem items_stopsV (F : Fence) (n : Nat) (hf : F.fn 53) (hro : F.round = none) (hn : 1 ≤ n) (Bs Bd : Nat) (w0 : World) (A : Option Addr) (c : Nat) (ps : List Po) (day : Int) (hv : ∀ x ∈ evs ps day, vld x.f0 = true) (hC : Kd.C kPo w0 A ps.length ps) (w : World) (hb : Below w0.heap.size w0 w)
    (hBs : w.cell? ⟨Bs, 0, none⟩ = some (.slice A ps.length c)) (hBd : w.cell? ⟨Bd, 0, none⟩ = some (.int .i64 day)) :
    SeqStopsK F n Tryd.prog 53 #[.pointer (some ⟨Bs, 0, none⟩), .pointer (some ⟨Bd, 0, none⟩)] encIv (Kp w0.heap.size Bd) (fun ys => ys.map (·.1) = evs ps day) (fun pre => pre.map (·.1) <+: evs ps day) (evs ps day).length w := fun l J Jx W hW hJ _ hY h0 => by
  have h1 := World.block_lt_of_cell? w _ hBs
  have h2 := World.block_lt_of_cell? w _ hBd
  refine (items1_in F n hf hro hn l Bs Bd w0 A c ps day hC (fun pre W => ∃ d : List Iv, d.map (·.1) = pre ∧ J d W) (fun pre W => ∃ d : List Iv, d.map (·.1) = pre ∧ Jx d W) W ?_ (hb.trans (hW.mono hb.size)) (Nat.lt_of_lt_of_le h2 hW.size) ?_ ((hW.cell (p := ⟨Bs, 0, none⟩) h1).trans hBs) ((hW.cell (p := ⟨Bd, 0, none⟩) h2).trans hBd) ⟨[], rfl, h0⟩).mono ?_
  · rintro s A B row ⟨d, hd, hj⟩ hg hr
    exact ⟨d, hd, hJ d A B row hj hg hr⟩
  · rintro pre x W1 ⟨d, rfl, hj⟩ hp
    have hm : x ∈ evs ps day := hp.subset (by simp)
    refine (hY d ⟨x, hv x hm⟩ W1 hj (by have := hp.length_le; simp at this; omega)).mono ?_
    rintro e W' (⟨he, hj', hk⟩ | ⟨he, hj'⟩)
    · exact .inl ⟨he, ⟨_, by simp, hj'⟩, hk⟩
    · exact .inr ⟨he, ⟨_, by simp, hj'⟩⟩
  · rintro e W' ⟨he, ⟨ys, rfl, d, hd, hj⟩ | ⟨pre, hp, d, rfl, hj⟩⟩
    · exact ⟨he, .inl ⟨d, hd, hj⟩⟩
    · exact ⟨he, .inr ⟨d, hp, hj⟩⟩
/-- What the map of known accounts says. -/
def kl (s : ByteArray) : Lit := .string s.data.toList
def know (l : List Iv) : DataW Unit := l.foldl (fun m x => m.put (kl x.1.f0) (.lit (.bool true))) (.map [])
theorem know_snoc (l : List Iv) (x : Iv) : know (l ++ [x]) = (know l).put (kl x.1.f0) (.lit (.bool true)) := by
  unfold know; rw [List.foldl_append]; rfl
theorem know_isMap (l : List Iv) : IsMap (know l) := by
  unfold know
  suffices h : ∀ (q : List Iv) (m : DataW Unit), IsMap m → IsMap (q.foldl (fun m x => m.put (kl x.1.f0) (.lit (.bool true))) m) from h _ _ isMap_empty
  intro q
  induction q with
  | nil => intro m h; exact h
  | cons p q ih => intro m h; exact ih _ (h.put _ _)
theorem kl_key (s : ByteArray) : WideAt.IsKeyLit (kl s) := by unfold kl; simp [WideAt.IsKeyLit]
theorem kl_inj {a b : ByteArray} (h : kl a = kl b) : a = b := by
  unfold kl at h
  injection h with h
  exact data_inj h
theorem know_has (l : List Iv) (s : ByteArray) : Maps.has (know l) (kl s) = true ↔ ∃ x ∈ l, x.1.f0 = s := by
  induction l using snoc_ind with
  | h0 => simp [know, Maps.has]
  | h1 l x ih =>
    rw [know_snoc]
    by_cases e : s = x.1.f0
    · subst e; rw [has_put_same (know_isMap l) (kl_key _)]; simp
    · rw [has_put_other (fun h => e (kl_inj h)), ih]
      constructor
      · rintro ⟨y, hy, rfl⟩; exact ⟨y, by simp [hy], rfl⟩
      · rintro ⟨y, hy, rfl⟩
        rcases List.mem_append.1 hy with hy | hy
        · exact ⟨y, hy, rfl⟩
        · rw [List.mem_singleton.1 hy] at e; exact absurd rfl e
/-- The accounts of these postings, in their order. -/
def names (xs : List It) : List ByteArray := xs.map (·.f0)
structure Accs (xs : List It) (l : List ByteArray) : Prop where mk :: (nodup : l.Nodup) (mem : ∀ s, s ∈ l ↔ s ∈ names xs) (sorted : l.Pairwise fun x y => ord x y ≤ 0)
theorem Accs.unique {xs : List It} {l l' : List ByteArray} (h : Accs xs l) (h' : Accs xs l') : l = l' := by
  have hp : l.Perm l' := (List.perm_ext_iff_of_nodup h.nodup h'.nodup).2 (fun s => (h.mem s).trans (h'.mem s).symm)
  rw [← sortN_eq (List.Perm.refl l) h.sorted, sortN_eq hp.symm h'.sorted]
end Go.Proofs.YtpmbljigdghmiaaDoor.Led

namespace Go.Proofs.YtpmbljigdghmiaaDoor.Led
open Go.RowKit Go.Maps Go.WideMaps Go.Sort Go.Lib Go.Proofs Go.Shelf Go.WideShapes Go.Proofs.YtpmbljigdghmiaaDoor.Ext Go.Proofs.YtpmbljigdghmiaaDoor.P Go.Proofs.YtpmbljigdghmiaaDoor.Idp Go.Proofs.YtpmbljigdghmiaaDoorW.PrintWords Go.Proofs.YtpmbljigdghmiaaDoorW.PrintLast Go.Proofs.YtpmbljigdghmiaaDoorW.PrintMore
attribute [local go_sem] Oper.semAt_some
def AccPost (w : World) (xs : List It) (e : Ending) (w' : World) : Prop := ∃ (v : Value) (l : List ByteArray), e = .returned v ∧ Accs xs l ∧ Kd.R Kd.string 9 w' w.heap.size (fun _ => True) v l ∧ Below w.heap.size w w'
theorem AccNil_calls (w : World) :
    Calls Tryd.prog 24 #[.pointer none] w fun e w' => e = .returned (.slice none 0 0) ∧ w = w' := by
  go_enter Tryd.func24, Tryd.ntmps24
  go_wp2
  go_ret
  exact ⟨rfl, rfl⟩
theorem bool_inv {P : Program} {e : TypeId} (he : P.underlying e = some .bool) {v : Value} {z : DataW Unit × List MemPlace} (h : plainElem P e v = some z) : ∃ a, v = .bool a := by
  unfold plainElem at h
  rw [he] at h
  cases v <;> simp at h
  exact ⟨_, rfl⟩
/-- What the loop over the known accounts keeps. -/
structure Rg (W : World) (D mb r : Nat) (n : Nat) (D0 : DataW Unit) (left : Lit → Bool) (cnt : Nat) (ss : List (List UInt8)) (v : Value) (wr : World) : Prop where
  rg : wr.ranges Tryd.prog 9 (plainElem Tryd.prog 4) mb r n D0 left cnt
  few : ss.length + cnt ≤ Maps.size D0
  row : wr.ownsRow W.heap.size 9 1 v ss.length (ss.map encStr)
  col : Collected D0 left ss
  below : Below W.heap.size W wr
  def_ : wr.heap[D]? = some (.deferred (some []))
theorem infoS : (Tryd.prog.info? 9).map (fun i => (i.zero, i.size, i.bytes)) = some (some (.string ⟨#[]⟩), 1, 16) := by kernel_rfl
structure Bx where mk :: (val : Bool)
def encBx (b : Bx) : Value := .bool b.1
theorem know_tidy (l : List Iv) : Tidy (know l) := by
  induction l using snoc_ind with
  | h0 => exact ⟨[], rfl, by simp⟩
  | h1 l x ih => rw [know_snoc]; exact ih.put (kl_key _) _
theorem know_size (l : List Iv) : Maps.size (know l) ≤ l.length := by
  induction l using snoc_ind with
  | h0 => simp [know, Maps.size]
  | h1 l x ih =>
    rw [know_snoc, List.length_append, List.length_singleton]
    have h := size_put (k := kl x.1.f0) (know_tidy l) (.lit (.bool true))
    rw [h]
    split <;> omega
def toB (ss : List (List UInt8)) : List ByteArray := ss.map fun l => ⟨l.toArray⟩
theorem row_R {wr : World} {base : Nat} {v : Value} {ss : List (List UInt8)} (h : wr.ownsRow base 9 1 v ss.length (ss.map encStr)) : Kd.R Kd.string 9 wr base (fun _ => True) v (toB ss) := by
  refine Kd.R_of_own ?_ (fun _ _ => trivial)
  have e1 : (toB ss).length = ss.length := by unfold toB; rw [List.length_map]
  have e2 : encs Value.string (toB ss) = ss.map encStr := by unfold encs toB encStr; rw [List.map_map]; rfl
  rw [e1, e2]; exact h
theorem row_ne_map {wr : World} {base mb e n size m : Nat} {v : Value} {xs : List Value} {P : Program} {k : TypeId} {R : Value → Option (DataW Unit × List MemPlace)} {D : DataW Unit} (h : wr.ownsRow base e size v n xs) (hd : wr.ownsMap P k R mb m D) : some mb ≠ v.ownBlock := by
  obtain ⟨es, clock, hm, _⟩ := hd
  rcases h.2 with ⟨rfl, _⟩ | ⟨g, cap, cur, rfl, _, hb, _⟩
  · intro h; cases h
  · intro h
    have : mb = g := Option.some.inj h
    subst this
    rw [hb] at hm; cases hm
theorem row_ne_def {wr : World} {base D e n size : Nat} {v : Value} {xs : List Value} {x : Option (List Deferred)} (h : wr.ownsRow base e size v n xs) (hd : wr.heap[D]? = some (.deferred x)) : some D ≠ v.ownBlock := by
  rcases h.2 with ⟨rfl, _⟩ | ⟨g, cap, cur, rfl, _, hb, _⟩
  · intro h; cases h
  · intro h
    have : D = g := Option.some.inj h
    subst this
    rw [hb] at hd; cases hd
theorem R_def {w4 : World} {base D : Nat} {v : Value} {l : List ByteArray} {x : Option (List Deferred)} (h : Kd.R Kd.string 9 w4 base (fun _ => True) v l) (hd : w4.heap[D]? = some (.deferred x)) (o : Obj) : Kd.R Kd.string 9 (w4.putObj D o) base (fun _ => True) v l := by
  refine Kd.R_mono (Kd.R_step (Kd.R_bound h) (fun k hk hlt => (grownBy_putObj' w4 D o).block k hlt ?_)) (fun _ _ => trivial)
  intro e
  have : k = D := Option.some.inj e
  subst this
  obtain ⟨_, _, _, q, _, cells, hc⟩ := hk
  rw [hc] at hd; cases hd
theorem accs_of {ys : List Iv} {xs : List It} (hx : ys.map (·.1) = xs) {left : Lit → Bool} {ss : List (List UInt8)} (hc : Collected (know ys) left ss) (hl : ∀ kl, left kl = false) : Accs xs (sortN (toB ss)) ∧ ∀ s ∈ toB ss, vld s = true := by
  have hm : ∀ s : ByteArray, s ∈ toB ss ↔ s.data.toList ∈ ss := by
    intro s
    unfold toB
    rw [List.mem_map]
    constructor
    · rintro ⟨l, hl, rfl⟩; simpa using hl
    · intro h; exact ⟨_, h, by cases s; simp⟩
  have hk : ∀ s : ByteArray, s ∈ toB ss ↔ ∃ y ∈ ys, y.1.f0 = s := by
    intro s
    rw [hm, hc.2, ← know_has]
    unfold kl
    simp [hl]
  refine ⟨⟨?_, ?_, sortN_sorted _⟩, ?_⟩
  · rw [(sortN_perm _).nodup_iff]
    unfold toB
    rw [List.nodup_iff_pairwise_ne, List.pairwise_map]
    exact (List.nodup_iff_pairwise_ne.1 hc.1).imp fun h e => h (by simpa using congrArg (fun s : ByteArray => s.data.toList) e)
  · intro s
    rw [(sortN_perm _).mem_iff, hk, ← hx]
    unfold names
    simp
  · intro s hs
    obtain ⟨y, _, rfl⟩ := (hk s).1 hs
    exact y.2
set_option maxRecDepth 100000 in
set_option maxHeartbeats 4000000 in
theorem Accounts_in (F : Fence) (n : Nat) (h1 : F.fn 24) (h2 : F.fn 40) (h3 : F.fn 53) (hro : F.round = none) (hn : 3 ≤ n)
    (h5 : F.fn 41) (h4 : ∀ (args : Array Value) (w : World) (R : Ending → World → Prop), Calls Tryd.prog 41 args w R → CallsIn F (n - 1) Tryd.prog 41 args w R)
    (w : World) (g : Nat) (ps : List Po) (h : LR tL w g ps) (hv : ∀ x ∈ evs ps 65536, vld x.f0 = true) (hl : (evs ps 65536).length ≤ 10000000) (hsh : Sh w) :
    CallsIn F n Tryd.prog 24 #[.pointer (some ⟨g, 0, none⟩)] w (AccPost w (evs ps 65536)) := by
  obtain ⟨A, c, g1, g2, g3⟩ := h.out
  have c0 : w.cell? ⟨g, 0, none⟩ = some (.slice A ps.length c) := (blk_cell g1 0).trans rfl
  have hgl := blk_lt g1
  have H3 := Aside0.mk g3
  have HV := Aside0.mk hv
  clear h g1 g2 g3 hv
  have hn1 : 1 ≤ n := by omega
  have hmm := @run_makeMap Tryd.prog
  refine callsIn_of_wp_marks Tryd.func24 rfl h1 ?_ hro
  simp only [Tryd.ntmps24, List.size_toArray, List.length_cons, List.length_nil, Nat.reduceAdd, Nat.reduceSub, Array.replicate_succ, Array.replicate_zero, List.push_toArray, List.append_toArray, List.nil_append, List.cons_append]
  gi_wp2_with (gi_at_call 40; refine (items_in F (n - 1) h2 hro _ _ _ _ _).mono ?_; rintro e w' ⟨rfl, rfl⟩)
  obtain ⟨W0, hW0⟩ : ∃ W0, ((((w.alloc (Obj.map #[] 0)).alloc (Obj.cells #[Value.map (some w.heap.size)] 58)).alloc (Obj.cells #[Value.slice A ps.length c] 26)).alloc (Obj.cells #[Value.int IntKind.i64 65536] 3)) = W0 := ⟨_, rfl⟩
  have hm0 := World.ownsMap_made w Tryd.prog 9 (plainElem (H := Unit) Tryd.prog 4)
  have n1 := cell_new_l (w.alloc (.map #[] 0)) (.map (some w.heap.size)) 58
  have n2 := cell_new_l ((w.alloc (.map #[] 0)).alloc (.cells #[.map (some w.heap.size)] 58)) (.slice A ps.length c) 26
  have n3 := cell_new_l (((w.alloc (.map #[] 0)).alloc (.cells #[.map (some w.heap.size)] 58)).alloc (.cells #[.slice A ps.length c] 26)) (.int .i64 65536) 3
  simp only [World.size_alloc] at n1 n2 n3
  have m0 : W0.ownsMap Tryd.prog 9 (plainElem (H := Unit) Tryd.prog 4) w.heap.size 0 (know []) := by rw [← hW0]; exact ((hm0.alloc _).alloc _).alloc _
  have c1 : W0.cell? ⟨w.heap.size + 1, 0, none⟩ = some (.map (some w.heap.size)) := by rw [← hW0]; exact cell_alloc_l _ (cell_alloc_l _ n1.1)
  have c2 : W0.cell? ⟨w.heap.size + 1 + 1, 0, none⟩ = some (.slice A ps.length c) := by rw [← hW0]; exact cell_alloc_l _ n2.1
  have c3 : W0.cell? ⟨w.heap.size + 1 + 1 + 1, 0, none⟩ = some (.int .i64 65536) := by rw [← hW0]; exact n3.1
  have hB0 : Below w.heap.size w W0 := by
    rw [← hW0]
    exact below_alloc (below_alloc (below_alloc (below_alloc (Below.refl _ _) _) _) _) _
  have hsz : W0.heap.size = w.heap.size + 4 := by rw [← hW0]; simp
  rw [hW0]
  clear hW0 n1 n2 n3 hm0
  refine wpIn_rangeFunc_ownG hro hn1 (gf := 53) (lb := #[.pointer (some ⟨w.heap.size + 1 + 1, 0, none⟩), .pointer (some ⟨w.heap.size + 1 + 1 + 1, 0, none⟩)]) rfl h3 (enters_of Tryd.func53 (by kernel_rfl) rfl)
    (items_stopsV F (n - 1) h3 hro (by omega) _ _ w A c ps 65536 HV.out H3.out W0 hB0 c2 c3) Kp.t (Kp.b (by omega) (by omega)) (Below.refl _ _) (fun _ => rfl)
    (fun pre W => (W.cell? ⟨w.heap.size + 1, 0, none⟩ = some (.map (some w.heap.size)) ∧ W.cell? ⟨w.heap.size + 1 + 1 + 1, 0, none⟩ = some (.int .i64 65536) ∧ W.ownsMap Tryd.prog 9 (plainElem (H := Unit) Tryd.prog 4) w.heap.size pre.length (know pre)) ∧ Below w.heap.size w W)
    (fun _ _ _ => False)
    (OwnFrom.and (fun s A B row hs hg hr => ⟨cell_kept hs.1 hg (fun r e => (hr r e).2), cell_kept hs.2.1 hg (fun r e => (hr r e).2), hs.2.2.kept hg (fun e => by have := (hr _ e.symm).1; omega)⟩) (ownFrom_below (Nat.le_refl _) (by omega)))
    (fun _ _ _ _ _ hs _ _ => hs)
    ⟨⟨c1, c3, m0⟩, hB0⟩
    (fun x => { tmps := #[.pointer (some ⟨g, 0, none⟩), undef, .slice none 0 0, .pointer (some ⟨w.heap.size + 1, 0, none⟩), .string x.1.f0, undef, undef, .pointer (some ⟨g, 0, none⟩), .bool false, .map (some w.heap.size), .pointer (some ⟨g, 0, none⟩), .pointer (some ⟨g, 0, none⟩), .pointer (some ⟨g, 0, none⟩), .slice A ps.length c, .func (.func 53) #[] #[.pointer (some ⟨w.heap.size + 1 + 1, 0, none⟩), .pointer (some ⟨w.heap.size + 1 + 1 + 1, 0, none⟩)], .string x.1.f0, .int .i64 x.1.f1, undef, undef, undef, undef, undef, undef, undef, undef, undef, undef, undef, undef, undef, undef, undef], defers := [] }) ?assign ?body ?done ?stop
  case assign =>
    intro l x W K hK
    gi_wp2
    exact hK
  case body =>
    rintro l pre x W ⟨⟨hc, hday, hown⟩, hB⟩ hlt
    have hkey := keyOf_string_mk (P := Tryd.prog) Tryd.underlying9 (s := x.1.f0) (by have := vld_size x.2; unfold maxLen; omega)
    have HB := Aside0.mk hB
    have HO := Aside0.mk hown
    have hlm : pre.length < maxLen := by unfold maxLen; omega
    clear hB hown
    gi_wp2_with (gi_at_mapUpdate; refine wpListIn_mapUpdate_own _ rfl _ _ _ 58 rfl 9 4 (string_keyed Tryd.underlying9) Tryd.underlying58 _ w.heap.size pre.length _ rfl HO.out hlm _ _ _ rfl rfl hkey _ [] (plainElem_bool Tryd.underlying4 true) ?_; intro w1 hown1 hgrow1)
    obtain ⟨es, ck, hh, _⟩ := HO.out
    refine ⟨KeepsFrom.of_grownBy hgrow1 (fun j e => by cases e; omega), ⟨(Below.refl _ W).grown hgrow1 HB.out.size (fun k e => by cases e; exact Nat.le_refl _), (cell_kept hday hgrow1 (fun r e => by cases e; exact ⟨_, hh, rfl⟩)).trans hday.symm⟩,
      ⟨cell_kept hc hgrow1 (fun r e => by cases e; exact ⟨_, hh, rfl⟩), cell_kept hday hgrow1 (fun r e => by cases e; exact ⟨_, hh, rfl⟩), by rw [know_snoc, List.length_append]; exact hown1⟩, HB.out.grown hgrow1 HB.out.size (fun k e => by cases e; exact Nat.le_refl _)⟩
  case done =>
    rintro D ys W hD hys ⟨⟨hc, hday, hown⟩, hB⟩ hK
    have HB := Aside0.mk hB
    have HO := Aside0.mk hown
    have HK := Aside0.mk hK
    have HY := Aside0.mk hys
    clear hB hown hK hys hday
    obtain ⟨W1, hW1⟩ : ∃ W1, W1 = W := ⟨_, rfl⟩
    have hwf : ys.length ≤ 10000000 := by have := congrArg List.length HY.out; simp at this; omega
    have hinv : ∀ key kl, keyOf Tryd.prog 9 key = some kl → ∃ x, key = encStr x := fun key kl hk => by obtain ⟨x, hx, _⟩ := Maps.keyOf_str Tryd.underlying9 hk; exact ⟨x, hx⟩
    have hmsz : Maps.size (know ys) ≤ 10000000 := Nat.le_trans (know_size ys) hwf
    have hDl : D < W.heap.size := (Array.getElem?_eq_some_iff.1 HK.out).1
    gi_wp2_with (gi_at_range; refine wpListIn_range_own _ rfl _ 58 rfl 9 4 (string_keyed Tryd.underlying9) Tryd.underlying58 _ w.heap.size ys.length _ rfl HO.out ?_; intro w0 hrg0 hg0 hs0; have HR0 := Aside0.mk hrg0; have HG0 := Aside0.mk hg0; clear hrg0 hg0 hs0)
    go_frame
    gi_loopw [5] (fun v wr => ∃ (left : Lit → Bool) (cnt : Nat) (ss : List (List UInt8)), Aside0 (Rg w D w.heap.size W.heap.size ys.length (know ys) left cnt ss v wr)) (fun _ wr => wr.rangeLeft w.heap.size W.heap.size)
    case atStart =>
      exact ⟨_, _, [], ⟨⟨HR0.out, by simp, World.ownsRow_nil _ _ _ _, Collected.start _, HB.out.grown HG0.out HB.out.size (fun j hj => by cases hj), (HG0.out.block D hDl (by simp)).trans HK.out⟩⟩⟩
    case round =>
      obtain ⟨left, cnt, ss, HRg⟩ := hrel
      obtain ⟨i0, hi, hz0, hz1, hz2⟩ := info_parts infoS
      gi_wp2_with (first
        | (gi_at_next; refine wpListIn_next_ranges _ rfl _ rfl 9 (string_keyed Tryd.underlying9) (plainElem Tryd.prog 4) encStr encBx hinv (fun v y hv => by obtain ⟨b, rfl⟩ := bool_inv Tryd.underlying4 hv; exact ⟨⟨b⟩, rfl⟩) w.heap.size W.heap.size ys.length _ _ _ rfl HRg.out.rg ?_ ?_)
        | gi_in)
      · intro hc0 hl0
        have hacc := accs_of HY.out HRg.out.col hl0
        have hR := row_R HRg.out.row
        have hbig : (toB ss).length < 4611686018427387904 := by
          have h1 := HRg.out.few
          unfold toB; rw [List.length_map]; omega
        have hne := row_ne_def HRg.out.row HRg.out.def_
        have hDw : D < wr.heap.size := (Array.getElem?_eq_some_iff.1 HRg.out.def_).1
        have HSo := Aside0.mk (sortV_calls w wr _ (toB ss) hacc.2 hR HRg.out.below hbig hsh)
        have HAcc := Aside0.mk hacc
        obtain ⟨Av, cv, rfl⟩ := Kd.R_slice hR
        rw [show (toB ss).length = ss.length by unfold toB; rw [List.length_map]] at *
        clear hacc hR hbig
        gi_wp2_with fail
        gi_at_call 41
        refine (h4 _ _ _ HSo.out).mono ?_
        rintro e w4 ⟨rfl, hR4, hB4, hG4⟩
        have HR4 := Aside0.mk hR4
        have HB4 := Aside0.mk hB4
        have HD4 := Aside0.mk ((hG4.block D hDw hne).trans HRg.out.def_)
        clear hR4 hB4 hG4
        gi_wp2
        refine ⟨by simp, .inl ⟨_, _, rfl, run_takeDeferred HD4.out, ?_⟩⟩
        refine ⟨_, results_tmp rfl _ _ _, _, _, rfl, HAcc.out.1, ?_, ?_⟩
        · exact R_def HR4.out HD4.out _
        · exact HB4.out.trans (belowK_b (w := w) (Nat.le_refl _) w4 D _ _ (by omega) HD4.out rfl rfl)
      · intro x c kl yd yp w2 cnt2 hkey hlk hv hat hrg2 hlt hg2 hs2 hen
        obtain ⟨x', ex, rfl, _⟩ := Maps.keyOf_str Tryd.underlying9 hkey
        obtain rfl : x = x' := encStr_inj ex
        have hrow2 := HRg.out.row.kept hg2 (Or.inr (row_ne_iter HRg.out.row HRg.out.rg).symm)
        have hsw := HRg.out.below.size
        have hgs := hg2.size
        have hB2 := HRg.out.below.grown hg2 HRg.out.below.size (fun j hj => by cases hj; exact HB.out.size)
        have hD2 : w2.heap[D]? = some (.deferred (some [])) := (hg2.block D (Array.getElem?_eq_some_iff.1 HRg.out.def_).1 (fun e => by have := Option.some.inj e; omega)).trans HRg.out.def_
        have hnd := row_ne_def hrow2 hD2
        have hDl2 : D < w2.heap.size := (Array.getElem?_eq_some_iff.1 hD2).1
        have HS := Aside0.mk (HRg.out.col.step hlk hat)
        have hfew := HRg.out.few
        have hlt0 := HRg.out.rg
        have HX := Aside0.mk hrg2
        have HRow2 := Aside0.mk hrow2
        have HB2 := Aside0.mk hB2
        have HD2 := Aside0.mk hD2
        have HG2 := Aside0.mk hg2
        have hmb : w.heap.size < w2.heap.size := by omega
        clear hs2 hkey hlk hv hat hB2 hD2 hlt0 hrg2 hrow2 hg2
        gi_wp2_with (first
          | (gi_at_builtin; refine wpListIn_append_own _ rfl _ _ 40 rfl w.heap.size 9 i0 (.string ⟨#[]⟩) 1 16 Tryd.underlying40 hi hz0 hz1 hz2 rfl (by decide) _ _ _ rfl (HRow2.out.alloc _) ⟨w2.heap.size, 0, none⟩ 1 1 [encStr x] rfl rfl (cell_one_new _ _ _) (by simp [Value.oneCell', encStr]) (by unfold maxLen at *; omega) (by omega) (by simp; omega) ?_; intro v' w3 hown' hg3 hnil3; have HO3 := Aside0.mk hown'; have HG3 := Aside0.mk hg3; clear hown' hg3 hnil3; go_frame)
          | gi_in)
        have hrg3 := (HX.out.alloc _).kept HG3.out (row_ne_map (HRow2.out) HX.out.owns) (row_ne_iter HRow2.out HX.out)
        refine ⟨⟨_, cnt2, ss ++ [x], ⟨⟨hrg3, by simp; omega, by simpa using HO3.out, HS.out, ?_, ?_⟩⟩⟩, ?_⟩
        · exact (HB2.out.alloc (by omega) _).grown HG3.out (by simp; omega) (fun j hj => (HRow2.out.lt j hj).1)
        · exact (HG3.out.block D (by simp; omega) hnd).trans ((Below.heap_alloc w2 _ D hDl2).trans HD2.out)
        · rw [hrg3.left_eq, HRg.out.rg.left_eq]; exact hlt
  case stop =>
    rintro D c pre W _ _ h _
    exact h.elim
theorem Accounts_calls (w : World) (g : Nat) (ps : List Po) (h : LR tL w g ps) (hv : ∀ x ∈ evs ps 65536, vld x.f0 = true) (hl : (evs ps 65536).length ≤ 10000000) (hsh : Sh w) :
    Calls Tryd.prog 24 #[.pointer (some ⟨g, 0, none⟩)] w (AccPost w (evs ps 65536)) :=
  callsIn_wide.1 (Accounts_in _ 3 trivial trivial trivial rfl (by omega) trivial (fun _ _ _ h => callsIn_wide.2 h) w g ps h hv hl hsh)
end Go.Proofs.YtpmbljigdghmiaaDoor.Led
