/- Ledgers: LedJ, LedK, LedL, LedM in one text. -/
import Derived.Test.YtpmbljigdghmiaaDoorLd3
import Derived.Test.YtpmbljigdghmiaaDoorPx5
namespace Go.Proofs.YtpmbljigdghmiaaDoor.Led
open Go.RowKit Go.Maps Go.WideMaps Go.Sort Go.Lib Go.Proofs Go.Shelf Go.WideShapes Go.Proofs.YtpmbljigdghmiaaDoor.Ext Go.Proofs.YtpmbljigdghmiaaDoor.P Go.Proofs.YtpmbljigdghmiaaDoor.Idp Go.Proofs.YtpmbljigdghmiaaDoorW.PrintWords Go.Proofs.YtpmbljigdghmiaaDoorW.PrintLast Go.Proofs.YtpmbljigdghmiaaDoorW.PrintMore
instance memDec (s : ByteArray) (l : List ByteArray) : Decidable (s ∈ l) := decidable_of_iff (l.any (fun x => decide (x = s)) = true) (by simp)
def putS (s : ByteArray) (o : List ByteArray × Bool) (x : ByteArray) : List ByteArray × Bool := if !o.2 && less s x then (o.1 ++ [s, x], true) else (o.1 ++ [x], o.2)
def putO (l : List ByteArray) (s : ByteArray) : List ByteArray × Bool := l.foldl (putS s) ([], false)
def putN (l : List ByteArray) (s : ByteArray) : List ByteArray := if s ∈ l then l else if (putO l s).2 then (putO l s).1 else (putO l s).1 ++ [s]
def ins (s : ByteArray) : List ByteArray → List ByteArray
  | [] => [s]
  | x :: l => if less s x then s :: x :: l else x :: ins s l
theorem putS_true (s : ByteArray) : ∀ (l acc : List ByteArray), l.foldl (putS s) (acc, true) = (acc ++ l, true)
  | [], acc => by simp
  | x :: l, acc => by
    rw [List.foldl_cons]
    have h : putS s (acc, true) x = (acc ++ [x], true) := by simp [putS]
    rw [h, putS_true s l]; simp
theorem putS_ins (s : ByteArray) : ∀ (l acc : List ByteArray), (let o := l.foldl (putS s) (acc, false); if o.2 then o.1 else o.1 ++ [s]) = acc ++ ins s l
  | [], acc => by simp [ins]
  | x :: l, acc => by
    rw [List.foldl_cons]
    by_cases h : less s x = true
    · have h1 : putS s (acc, false) x = (acc ++ [s, x], true) := by simp [putS, h]
      rw [h1, putS_true]; simp [ins, h]
    · have h1 : putS s (acc, false) x = (acc ++ [x], false) := by simp [putS, h]
      rw [h1, putS_ins s l]; simp [ins, h]
theorem putN_eq (l : List ByteArray) (s : ByteArray) (h : s ∉ l) : putN l s = ins s l := by
  unfold putN putO
  rw [if_neg h]
  simpa using putS_ins s l []
theorem ins_mem (s x : ByteArray) : ∀ l, x ∈ ins s l ↔ x = s ∨ x ∈ l
  | [] => by simp [ins]
  | y :: l => by
    unfold ins
    split
    · simp
    · simp only [List.mem_cons, ins_mem s x l]
      constructor
      · rintro (h | h | h) <;> simp [h]
      · rintro (h | h | h) <;> simp [h]
theorem ins_sorted {s : ByteArray} (hs : vld s = true) : ∀ l : List ByteArray, (∀ x ∈ l, vld x = true) → (l.Pairwise fun x y => ord x y ≤ 0) → (ins s l).Pairwise fun x y => ord x y ≤ 0
  | [], _, _ => by simp [ins]
  | y :: l, hv, hp => by
    have hy := hv y (by simp)
    have hl := less_v hs hy
    obtain ⟨h1, h2⟩ := List.pairwise_cons.1 hp
    unfold ins
    split
    · rename_i h
      rw [hl] at h
      have h3 : ord s y < 0 := by simpa using h
      refine List.pairwise_cons.2 ⟨fun x hx => ?_, hp⟩
      rcases List.mem_cons.1 hx with rfl | hx
      · omega
      · exact ord_trans' (by omega) (h1 x hx)
    · rename_i h
      rw [hl] at h
      have h3 : ¬ ord s y < 0 := by simpa using h
      refine List.pairwise_cons.2 ⟨fun x hx => ?_, ins_sorted hs l (fun x hx => hv x (by simp [hx])) h2⟩
      rcases (ins_mem s x l).1 hx with rfl | hx
      · have := ord_neg y x; omega
      · exact h1 x hx
theorem ins_nodup {s : ByteArray} : ∀ l : List ByteArray, l.Nodup → s ∉ l → (ins s l).Nodup
  | [], _, _ => by simp [ins]
  | y :: l, hn, hs => by
    obtain ⟨h1, h2⟩ := List.nodup_cons.1 hn
    unfold ins
    split
    · exact List.nodup_cons.2 ⟨hs, hn⟩
    · refine List.nodup_cons.2 ⟨fun h => ?_, ins_nodup l h2 (fun h => hs (by simp [h]))⟩
      rcases (ins_mem s y l).1 h with rfl | h
      · exact hs (by simp)
      · exact h1 h
def accN (xs : List It) : List ByteArray := xs.foldl (fun l x => putN l x.f0) []
theorem accN_snoc (xs : List It) (x : It) : accN (xs ++ [x]) = putN (accN xs) x.f0 := by unfold accN; rw [List.foldl_append]; rfl
theorem accN_ok (xs : List It) (hv : ∀ x ∈ xs, vld x.f0 = true) : Accs xs (accN xs) := by
  induction xs using snoc_ind with
  | h0 => exact ⟨by simp [accN], fun s => by simp [accN, names], by simp [accN]⟩
  | h1 l x ih =>
    have h := ih (fun y hy => hv y (by simp [hy]))
    have hx := hv x (by simp)
    have hnm : ∀ s, s ∈ names (l ++ [x]) ↔ s ∈ names l ∨ s = x.f0 := fun s => by simp [names]
    rw [accN_snoc]
    by_cases hin : x.f0 ∈ accN l
    · have e : putN (accN l) x.f0 = accN l := by unfold putN; rw [if_pos hin]
      rw [e]
      refine ⟨h.nodup, fun s => ?_, h.sorted⟩
      rw [hnm, ← h.mem]
      constructor
      · exact .inl
      · rintro (h1 | rfl)
        · exact h1
        · exact hin
    · rw [putN_eq _ _ hin]
      refine ⟨ins_nodup _ h.nodup hin, fun s => ?_, ins_sorted hx _ (fun y hy => ?_) h.sorted⟩
      · rw [hnm, ins_mem, h.mem]; exact Or.comm
      · have := (h.mem y).1 hy
        obtain ⟨z, hz, rfl⟩ := List.mem_map.1 this
        exact hv z (by simp [hz])
theorem take_snoc'' (l : List ByteArray) (k : Int) (h0 : 0 ≤ k) (h : k < l.length) : l.take (k + 1).toNat = l.take k.toNat ++ [rdOf ByteArray.empty l k] := by
  have h' : k.toNat < l.length := by omega
  rw [show (k + 1).toNat = k.toNat + 1 by omega, List.take_succ_eq_append_getElem h']
  simp [rdOf, List.getD_eq_getElem?_getD, h']
theorem putO_snoc (l : List ByteArray) (s x : ByteArray) : putO (l ++ [x]) s = putS s (putO l s) x := by unfold putO; rw [List.foldl_append]; rfl
theorem putO_len (l : List ByteArray) (s : ByteArray) : (putO l s).1.length ≤ l.length + (if (putO l s).2 then 1 else 0) := by
  induction l using snoc_ind with
  | h0 => simp [putO]
  | h1 l x ih =>
    rw [putO_snoc]
    unfold putS
    cases hb : (putO l s).2 with
    | true => rw [hb] at ih; simp at ih ⊢; omega
    | false =>
      rw [hb] at ih
      by_cases h : less s x = true
      · simp [h] at ih ⊢; omega
      · simp [h] at ih ⊢; omega
theorem putN_len (l : List ByteArray) (s : ByteArray) : (putN l s).length ≤ l.length + 1 := by
  have h := putO_len l s
  unfold putN
  split
  · omega
  · split
    · rename_i h2; rw [h2] at h; simpa using h
    · rename_i h2; simp only [Bool.not_eq_true] at h2; rw [h2] at h; simp at h ⊢; exact h
theorem put_l0 (l : List ByteArray) (s : ByteArray) (hl : l.length ≤ 100000000) : ∀ (n i k : Nat), i + n = l.length → n + 302 ≤ k → s ∉ l.take i → dancestudioref55_put.l0 k l s (putO (l.take i) s).1 (putO (l.take i) s).2 (i : Int) = some (putN l s)
  | 0, i, k, hi, hk, hs => by
    obtain ⟨k1, rfl⟩ : ∃ k1, k = k1 + 1 := ⟨k - 1, by omega⟩
    have e : l.take i = l := List.take_of_length_le (by omega)
    rw [e] at hs ⊢
    have hlen := putO_len l s
    simp only [dancestudioref55_put.l0]
    rw [if_neg (by omega)]
    unfold putN
    rw [if_neg hs]
    cases hb : (putO l s).2 with
    | true => simp
    | false =>
      rw [hb] at hlen
      simp at hlen
      simp; omega
  | n + 1, i, k, hi, hk, hs => by
    obtain ⟨k1, rfl⟩ : ∃ k1, k = k1 + 1 := ⟨k - 1, by omega⟩
    have hst := take_snoc'' l (i : Int) (by omega) (by omega)
    rw [show ((i : Int) + 1).toNat = i + 1 by omega, show ((i : Int)).toNat = i by omega] at hst
    have hlen := putO_len (l.take i) s
    rw [List.length_take] at hlen
    have hlen' : (putO (l.take i) s).1.length ≤ 100000001 := by split at hlen <;> omega
    have hw : wrap64 ((i : Int) + 1) = ((i + 1 : Nat) : Int) := by unfold wrap64; omega
    simp only [dancestudioref55_put.l0]
    rw [if_pos (by omega), if_pos (by omega)]
    generalize hx : rdOf ByteArray.empty l (i : Int) = x at *
    by_cases hxs : x = s
    · subst hxs
      rw [if_pos rfl]
      have hin : x ∈ l := by
        have : x ∈ l.take (i + 1) := by rw [hst]; simp
        exact List.mem_of_mem_take this
      unfold putN
      rw [if_pos hin]
    · rw [if_neg (beq_eq_false_iff_ne.1 (bytes_ne hxs))]
      have hs' : s ∉ l.take (i + 1) := by
        rw [hst]
        intro h
        rcases List.mem_append.1 h with h | h
        · exact hs h
        · exact hxs (List.mem_singleton.1 h).symm
      have ih := put_l0 l s hl n (i + 1) k1 (by omega) (by omega) hs'
      rw [hst, putO_snoc] at ih
      cases hd : (putO (l.take i) s).2 with
      | true =>
        have e : putS s (putO (l.take i) s) x = ((putO (l.take i) s).1 ++ [x], true) := by unfold putS; rw [hd]; simp
        rw [e] at ih
        rw [if_pos rfl, if_pos (by omega), hw]
        exact ih
      | false =>
        rw [if_neg (by decide), rless_all _ _ k1 (by omega), Option.bind_some]
        cases hls : less s x with
        | true =>
          have e : putS s (putO (l.take i) s) x = ((putO (l.take i) s).1 ++ [s] ++ [x], true) := by unfold putS; rw [hd, hls]; simp
          rw [e] at ih
          rw [if_pos rfl, if_pos (by omega), Option.bind_some, if_pos (by simp; omega), hw]
          exact ih
        | false =>
          have e : putS s (putO (l.take i) s) x = ((putO (l.take i) s).1 ++ [x], false) := by unfold putS; rw [hd, hls]; simp
          rw [e] at ih
          rw [if_neg (by decide), if_pos (by omega), hw]
          exact ih
theorem put_f (l : List ByteArray) (s : ByteArray) (hl : l.length ≤ 100000000) : dancestudioref55_put.f (l.length + 302) l s = some (putN l s) := by
  unfold dancestudioref55_put.f
  have h := put_l0 l s hl l.length 0 (l.length + 302) (by omega) (by omega) (by simp)
  simpa [putO] using h
theorem put_calls (w0 w : World) (v : Value) (l : List ByteArray) (s : ByteArray) (hR : Kd.R Kd.string 9 w w0.heap.size (fun _ => True) v l) (hB : Below w0.heap.size w0 w) (hl : l.length ≤ 100000000) :
    Calls Tryd.prog 44 #[v, .string s] w fun e w' => ∃ v' : Value, e = .returned v' ∧ Kd.R Kd.string 9 w' w0.heap.size (fun _ => True) v' (putN l s) ∧ Below w0.heap.size w0 w' :=
  (dancestudioref55_put.calls (l.length + 302) (fun _ => True) v l s (putN l s) w0 w hB hR (put_f l s hl)).mono (by
    rintro e w' ⟨v0, rfl, h1, h2, _⟩
    exact ⟨v0, rfl, Kd.R_mono h1 (fun _ _ => trivial), h2⟩)
end Go.Proofs.YtpmbljigdghmiaaDoor.Led

namespace Go.Proofs.YtpmbljigdghmiaaDoor.Led
open Go.RowKit Go.Maps Go.WideMaps Go.Sort Go.Lib Go.Proofs Go.Shelf Go.WideShapes Go.Proofs.YtpmbljigdghmiaaDoor.Ext Go.Proofs.YtpmbljigdghmiaaDoor.P Go.Proofs.YtpmbljigdghmiaaDoor.Idp Go.Proofs.YtpmbljigdghmiaaDoorW.PrintWords Go.Proofs.YtpmbljigdghmiaaDoorW.PrintLast Go.Proofs.YtpmbljigdghmiaaDoorW.PrintMore
theorem rP_mem (ps : List Po) (k : Int) (h0 : 0 ≤ k) (h1 : k < ps.length) : rP ps k ∈ ps := by
  unfold rP rd_T24
  rw [List.getD_eq_getElem?_getD, List.getElem?_eq_getElem (by omega)]
  exact List.getElem_mem _
theorem accN_len (xs : List It) : (accN xs).length ≤ xs.length := by
  induction xs using snoc_ind with
  | h0 => simp [accN]
  | h1 l x ih =>
    rw [accN_snoc]
    have := putN_len (accN l) x.f0
    simp; omega
theorem pre_len {α : Type} {a b : List α} (h : a <+: b) : a.length ≤ b.length := h.length_le
set_option maxHeartbeats 4000000 in
set_option maxRecDepth 100000 in
theorem RAccounts_calls (w : World) (g : Nat) (ps : List Po) (h : LR tU w g ps) (hdy : ∀ p ∈ ps, p.f1 ≤ 65536) (hv : ∀ x ∈ evs ps 65536, vld x.f0 = true) (hl : (evs ps 65536).length ≤ 10000000) :
    Calls Tryd.prog 25 #[.pointer (some ⟨g, 0, none⟩)] w (AccPost w (evs ps 65536)) := by
  obtain ⟨A, c, h1, h2, h3⟩ := h.out
  have c0 : w.cell? ⟨g, 0, none⟩ = some (.slice A ps.length c) := (blk_cell h1 0).trans rfl
  have hgl := blk_lt h1
  have H3 := Aside0.mk h3
  have hm := h3.2.1
  have HDy := Aside0.mk hdy
  have HV := Aside0.mk hv
  have HL := Aside0.mk hl
  have hu1 := Tryd.underlying24
  have hu2 := Tryd.underlying38
  clear h h1 h2 h3 hdy hv hl
  go_enter Tryd.func25, Tryd.ntmps25
  go_wp2
  go_loopw [3, 4] (fun vo vi wr => ∃ k : Int, vi = .int .i64 k ∧ 0 ≤ k ∧ k ≤ ps.length ∧ Aside0 (Below w.heap.size w wr ∧ Kd.R Kd.string 9 wr w.heap.size (fun _ => True) vo (accN (evs (ps.take k.toNat) 65536)))) (fun _ i _ => ps.length - (intOf i).toNat)
  case atStart => exact ⟨0, rfl, by omega, by omega, ⟨Below.refl _ _, Kd.R_nil _ _ _ _ _⟩⟩
  case round =>
    obtain ⟨k, rfl, hk0, hk1, HK⟩ := hrel
    have c1 : wr.cell? ⟨g, 0, none⟩ = some (.slice A ps.length c) := (HK.out.1.cell (p := ⟨g, 0, none⟩) hgl).trans c0
    by_cases hlt : k < ps.length
    · obtain ⟨ad, A2, c2, rfl, d0, d1, d2, el, eC⟩ := at_T24 H3.out k hk0 hlt
      have HYes := Aside0.mk (evs_yes ps 65536 k hk0 hlt (by have := HDy.out _ (rP_mem ps k hk0 hlt); omega))
      have HMid := Aside0.mk (evs_mid ps 65536 k hk0 hlt (by have := HDy.out _ (rP_mem ps k hk0 hlt); omega))
      obtain ⟨p, hp⟩ : ∃ p, p = rP ps k := ⟨_, rfl⟩
      rw [← hp] at HYes HMid
      rw [show rd_T24 ps k = p from hp.symm] at d0 d1 d2 el eC
      have HeC := Aside0.mk eC
      have hm2 := eC.2.1
      clear hp eC el d0 d1
      generalize evs (ps.take k.toNat) 65536 = E at *
      have e2 := (HK.out.1.cell (World.block_lt_of_cell? w _ d2)).trans d2
      go_wp2
      go_loopw [3, 5] (fun vo vj wr => ∃ j : Int, vj = .int .i64 j ∧ 0 ≤ j ∧ j ≤ p.f2.length ∧ Aside0 (Below w.heap.size w wr ∧ Kd.R Kd.string 9 wr w.heap.size (fun _ => True) vo (accN (E ++ p.f2.take j.toNat)))) (fun _ j _ => p.f2.length - (intOf j).toNat)
      case atStart => exact ⟨0, rfl, by omega, by omega, ⟨HK.out.1, by rw [show (0 : Int).toNat = 0 from rfl, List.take_zero, List.append_nil]; exact HK.out.2⟩⟩
      case round =>
        clear c1 e2 HK
        obtain ⟨j, rfl, hj0, hj1, HJ⟩ := hrel
        have c1 : wr.cell? ⟨g, 0, none⟩ = some (.slice (some ad) ps.length c) := (HJ.out.1.cell (p := ⟨g, 0, none⟩) hgl).trans c0
        have e2 := (HJ.out.1.cell (World.block_lt_of_cell? w _ d2)).trans d2
        by_cases hlj : j < p.f2.length
        · obtain ⟨ad2, rfl, x0, x1⟩ := at_T38 HeC.out j hj0 hlj
          have HSt := Aside0.mk (take_rI p.f2 j hj0 hlj)
          obtain ⟨x, hx⟩ : ∃ x, x = rI p.f2 j := ⟨_, rfl⟩
          rw [show rd_T38 p.f2 j = x from hx.symm] at x0 x1
          rw [← hx] at HSt
          have y0 := (HJ.out.1.cell (World.block_lt_of_cell? w _ x0)).trans x0
          have HP := Aside0.mk (put_calls w wr _ _ x.f0 HJ.out.2 HJ.out.1 (by
            have h1 := accN_len (E ++ p.f2.take j.toNat)
            have h2 := pre_len (HMid.out j.toNat)
            have h3 := HL.out
            omega))
          clear hx x0 x1
          go_wp2_with fail
          refine HP.out.mono ?_
          rintro e w' ⟨v', rfl, hR, hB⟩
          have HR := Aside0.mk hR
          have HB := Aside0.mk hB
          clear hR hB HP
          go_wp2
          go_roundw
          case rel => exact ⟨j + 1, by go_num, by omega, by omega, ⟨HB.out, by rw [HSt.out, ← List.append_assoc, accN_snoc]; exact HR.out⟩⟩
          case measure => simp [intOf]; omega
        · have hjl : j = p.f2.length := by omega
          subst hjl
          go_wp2
          go_roundw
          case rel => exact ⟨k + 1, by go_num, by omega, by omega, ⟨HJ.out.1, by rw [HYes.out]; have := HJ.out.2; simpa using this⟩⟩
          case measure => simp [intOf]; omega
    · have hkl : k = ps.length := by omega
      subst hkl
      go_wp2
      go_ret
      have e : evs (ps.take ((ps.length : Nat) : Int).toNat) 65536 = evs ps 65536 := by simp
      refine ⟨_, _, rfl, accN_ok _ HV.out, ?_, HK.out.1⟩
      rw [← e]; exact HK.out.2
end Go.Proofs.YtpmbljigdghmiaaDoor.Led

namespace Go.Proofs.YtpmbljigdghmiaaDoor.Led
open Go.RowKit Go.Proofs.YtpmbljigdghmiaaDoor.Ext Go.Proofs.YtpmbljigdghmiaaDoor.P Go.Proofs.YtpmbljigdghmiaaDoor.Idp Go.Proofs.YtpmbljigdghmiaaDoorW.PrintWords Go.Proofs.YtpmbljigdghmiaaDoorW.PrintLast Go.Proofs.YtpmbljigdghmiaaDoorW.PrintMore
def chkI : Int → List It → Int
  | s, [] => if s = 0 then 0 else 2
  | s, x :: xs => if vld x.f0 = true then (if x.f1 = 0 then 1 else if x.f1 < -1099511627776 then 1 else if x.f1 > 1099511627776 then 1 else chkI (wrap64 (s + x.f1)) xs) else 8
def chk (p : Po) : Int := if p.f0 < 1 ∨ p.f0 > 1000000 then 1 else if p.f1 < 0 ∨ p.f1 > 65536 then 39 else if (p.f2.length : Int) < 2 then 4 else if (p.f2.length : Int) > 16 then 3 else chkI 0 p.f2
theorem drop_rI (xs : List It) (i : Nat) (h : i < xs.length) : xs.drop i = rI xs (i : Int) :: xs.drop (i + 1) := by
  rw [List.drop_eq_getElem_cons h]
  simp [rI, rd_T38, List.getD_eq_getElem?_getD, h]
theorem chk_l0 (xs : List It) (hl : xs.length ≤ 16) : ∀ (n i k : Nat) (s : Int), i + n = xs.length → n + 62 ≤ k → ledger_Check.l0 k s xs (xs.length : Int) (i : Int) = some (chkI s (xs.drop i))
  | 0, i, k, s, hi, hk => by
    obtain ⟨k1, rfl⟩ : ∃ k1, k = k1 + 1 := ⟨k - 1, by omega⟩
    simp only [ledger_Check.l0]
    rw [if_neg (by omega), List.drop_of_length_le (by omega)]
    unfold chkI
    split <;> rfl
  | n + 1, i, k, s, hi, hk => by
    obtain ⟨k1, rfl⟩ : ∃ k1, k = k1 + 1 := ⟨k - 1, by omega⟩
    have hw : wrap64 ((i : Int) + 1) = ((i + 1 : Nat) : Int) := by unfold wrap64; omega
    have ih := chk_l0 xs hl n (i + 1) k1 (wrap64 (s + (rI xs (i : Int)).f1)) (by omega) (by omega)
    simp only [ledger_Check.l0]
    rw [if_pos (by omega), if_pos (by omega), if_pos (by omega), drop_rI xs i (by omega), hw, valid_all _ k1 (by omega), Option.bind_some]
    unfold chkI
    show (if vld (rI xs (i : Int)).f0 = true then (if (rI xs (i : Int)).f1 = 0 then _ else _) else _) = _
    split
    · split
      · rfl
      · split
        · rfl
        · split
          · rfl
          · exact ih
    · rfl
theorem rchk_l0 (a b : Int) (xs : List It) (hl : xs.length ≤ 16) : ∀ (n i k : Nat) (s : Int), i + n = xs.length → n + 62 ≤ k → dancestudioref55_Check.l0 k s (i : Int) a b xs = some (chkI s (xs.drop i))
  | 0, i, k, s, hi, hk => by
    obtain ⟨k1, rfl⟩ : ∃ k1, k = k1 + 1 := ⟨k - 1, by omega⟩
    simp only [dancestudioref55_Check.l0]
    rw [if_neg (by omega), List.drop_of_length_le (by omega)]
    unfold chkI
    split <;> rfl
  | n + 1, i, k, s, hi, hk => by
    obtain ⟨k1, rfl⟩ : ∃ k1, k = k1 + 1 := ⟨k - 1, by omega⟩
    have hw : wrap64 ((i : Int) + 1) = ((i + 1 : Nat) : Int) := by unfold wrap64; omega
    have ih := rchk_l0 a b xs hl n (i + 1) k1 (wrap64 (s + (rI xs (i : Int)).f1)) (by omega) (by omega)
    simp only [dancestudioref55_Check.l0]
    rw [if_pos (by omega), if_pos (by omega), drop_rI xs i (by omega), hw, rvalid_all _ k1 (by omega), Option.bind_some]
    unfold chkI
    show (if vld (rI xs (i : Int)).f0 = true then (if (rI xs (i : Int)).f1 = 0 then _ else _) else _) = _
    split
    · split
      · rfl
      · split
        · rfl
        · split
          · rfl
          · exact ih
    · rfl
theorem chk_g (p : Po) (k : Nat) (hk : 80 ≤ k) : ledger_Check.f (k + 1 + 1) p.f0 p.f1 p.f2 = some (chk p) := by
  have h := fun hl : p.f2.length ≤ 16 => chk_l0 p.f2 hl p.f2.length 0 k 0 (by omega) (by omega)
  unfold ledger_Check.f chk
  simp only [ledger_Check.j0, ledger_Check.j1]
  by_cases h1 : p.f0 < 1
  · simp [h1]
  by_cases h2 : p.f0 > 1000000
  · simp [h1, h2]
  by_cases h3 : p.f1 < 0
  · simp [h1, h2, h3]
  by_cases h4 : p.f1 > 65536
  · simp [h1, h2, h3, h4]
  by_cases h5 : (p.f2.length : Int) < 2
  · simp [h1, h2, h3, h4, h5]
  by_cases h6 : (p.f2.length : Int) > 16
  · simp [h1, h2, h3, h4, h5, h6]
  rw [if_neg h1, if_neg (by simp [h2]), if_neg h3, if_neg (by simp [h4]), if_neg h5, if_neg h6, if_neg (by omega), if_neg (by omega), if_neg h5, if_neg h6]
  exact h (by omega)
theorem rchk_g (p : Po) (k : Nat) (hk : 80 ≤ k) : dancestudioref55_Check.f (k + 1 + 1) p.f0 p.f1 p.f2 = some (chk p) := by
  have h := fun hl : p.f2.length ≤ 16 => rchk_l0 p.f0 p.f1 p.f2 hl p.f2.length 0 k 0 (by omega) (by omega)
  unfold dancestudioref55_Check.f chk
  simp only [dancestudioref55_Check.j0, dancestudioref55_Check.j1]
  by_cases h1 : p.f0 < 1
  · simp [h1]
  by_cases h2 : p.f0 > 1000000
  · simp [h1, h2]
  by_cases h3 : p.f1 < 0
  · simp [h1, h2, h3]
  by_cases h4 : p.f1 > 65536
  · simp [h1, h2, h3, h4]
  by_cases h5 : (p.f2.length : Int) < 2
  · simp [h1, h2, h3, h4, h5]
  by_cases h6 : (p.f2.length : Int) > 16
  · simp [h1, h2, h3, h4, h5, h6]
  rw [if_neg h1, if_neg (by simp [h2]), if_neg h3, if_neg (by simp [h4]), if_neg h5, if_neg h6, if_neg (by omega), if_neg (by omega), if_neg h5, if_neg h6]
  exact h (by omega)
theorem chk_f (p : Po) : ledger_Check.f 100 p.f0 p.f1 p.f2 = some (chk p) := chk_g p 98 (by decide)
theorem rchk_f (p : Po) : dancestudioref55_Check.f 100 p.f0 p.f1 p.f2 = some (chk p) := rchk_g p 98 (by decide)
/-- What a posting that passes is. -/
structure Fine (p : Po) : Prop where mk ::
  (id : 1 ≤ p.f0 ∧ p.f0 ≤ 1000000) (day : 0 ≤ p.f1 ∧ p.f1 ≤ 65536) (len : 2 ≤ p.f2.length ∧ p.f2.length ≤ 16)
  (its : ∀ x ∈ p.f2, vld x.f0 = true ∧ -1099511627776 ≤ x.f1 ∧ x.f1 ≤ 1099511627776 ∧ x.f1 ≠ 0)
  (sum : p.f2.foldl (fun s x => wrap64 (s + x.f1)) 0 = 0)
theorem chkI_zero : ∀ (xs : List It) (s : Int), chkI s xs = 0 → (∀ x ∈ xs, vld x.f0 = true ∧ -1099511627776 ≤ x.f1 ∧ x.f1 ≤ 1099511627776 ∧ x.f1 ≠ 0) ∧ xs.foldl (fun s x => wrap64 (s + x.f1)) s = 0
  | [], s, h => by
    unfold chkI at h
    split at h
    · rename_i h0; exact ⟨by simp, h0⟩
    · simp at h
  | x :: xs, s, h => by
    unfold chkI at h
    split at h
    · rename_i hv
      split at h
      · simp at h
      · split at h
        · simp at h
        · split at h
          · simp at h
          · obtain ⟨h1, h2⟩ := chkI_zero xs _ h
            refine ⟨fun y hy => ?_, h2⟩
            rcases List.mem_cons.1 hy with rfl | hy
            · exact ⟨hv, by omega, by omega, by assumption⟩
            · exact h1 y hy
    · simp at h
theorem chk_fine (p : Po) (h : chk p = 0) : Fine p := by
  unfold chk at h
  split at h
  · simp at h
  split at h
  · simp at h
  split at h
  · simp at h
  split at h
  · simp at h
  obtain ⟨h1, h2⟩ := chkI_zero _ _ h
  exact ⟨by omega, by omega, by omega, h1, h2⟩
theorem Check_calls (p : Po) (A : Option Addr) (c : Nat) (w : World) (hC : Kd.C kIt w A p.f2.length p.f2) (hc : p.f2.length ≤ c) (hsh : Sh w) :
    Calls Tryd.prog 11 #[.agg #[.int .i64 p.f0, .int .i64 p.f1, .slice A p.f2.length c]] w fun e w' => e = .returned (.int .i64 (chk p)) ∧ Below w.heap.size w w' :=
  ledger_Check.calls 100 p.f0 p.f1 A c p.f2 (chk p) w hC hc (chk_f p) hsh
theorem RCheck_calls (p : Po) (A : Option Addr) (c : Nat) (w : World) (hC : Kd.C kIt w A p.f2.length p.f2) (hc : p.f2.length ≤ c) :
    Calls Tryd.prog 12 #[.agg #[.int .i64 p.f0, .int .i64 p.f1, .slice A p.f2.length c]] w fun e w' => e = .returned (.int .i64 (chk p)) ∧ Below w.heap.size w w' :=
  dancestudioref55_Check.calls 100 p.f0 p.f1 A c p.f2 (chk p) w hC hc (rchk_f p)
end Go.Proofs.YtpmbljigdghmiaaDoor.Led

namespace Go.Proofs.YtpmbljigdghmiaaDoor.Led
open Go.RowKit Go.Shelf Go.WideShapes Go.Proofs.YtpmbljigdghmiaaDoor.Ext Go.Proofs.YtpmbljigdghmiaaDoor.P Go.Proofs.YtpmbljigdghmiaaDoor.Idp Go.Proofs.YtpmbljigdghmiaaDoorW.PrintWords Go.Proofs.YtpmbljigdghmiaaDoorW.PrintLast Go.Proofs.YtpmbljigdghmiaaDoorW.PrintMore
theorem PostC_calls (B : Nat) (id a b : Int) (v : Value) (w : World) (hB : w.cell? ⟨B, 0, none⟩ = some (.int .i64 id)) :
    Calls Tryd.prog 36 #[.agg #[.int .i64 a, .int .i64 b, v], .pointer (some ⟨B, 0, none⟩)] w fun e w' => e = .returned (.bool (a == id)) ∧ Below w.heap.size w w' := by
  have hlt := World.block_lt_of_cell? w _ hB
  go_enter Tryd.func36, Tryd.ntmps36
  have hB1 := cell_alloc_l (.cells #[.int .i64 a, .int .i64 b, v] 24) hB
  go_wp2
  go_ret
  exact ⟨rfl, Below.alloc (Below.refl _ _) (Nat.le_refl _) _⟩
theorem any_take (ps : List Po) (id : Int) (k : Int) (h0 : 0 ≤ k) (h : k < ps.length) : ((ps.take (k + 1).toNat).any fun q => q.f0 == id) = (((ps.take k.toNat).any fun q => q.f0 == id) || ((rP ps k).f0 == id)) := by
  rw [take_rP ps k h0 h, List.any_append]; simp
set_option maxHeartbeats 2000000 in
set_option maxRecDepth 100000 in
theorem Index_calls (A : Option Addr) (c : Nat) (ps : List Po) (B : Nat) (id : Int) (w : World) (hC : Kd.C kPo w A ps.length ps) (hB : w.cell? ⟨B, 0, none⟩ = some (.int .i64 id)) :
    Calls Tryd.prog 51 #[.slice A ps.length c, .func (.func 36) #[] #[.pointer (some ⟨B, 0, none⟩)]] w fun e w' => ∃ i : Int, e = .returned (.int .i64 i) ∧ decide (0 ≤ i) = (ps.any fun q => q.f0 == id) ∧ Below w.heap.size w w' := by
  have H3 := Aside0.mk hC
  have hm := hC.2.1
  have HB0 := Aside0.mk hB
  have hBlt := World.block_lt_of_cell? w _ hB
  have hu1 := Tryd.underlying24
  clear hC hB
  go_enter Tryd.func51, Tryd.ntmps51
  go_wp2
  go_loopw [8] (fun vi wr => ∃ k : Int, vi = .int .i64 k ∧ 0 ≤ k ∧ k ≤ ps.length ∧ Aside0 (Below w.heap.size w wr ∧ ((ps.take k.toNat).any fun q => q.f0 == id) = false)) (fun i _ => ps.length - (intOf i).toNat)
  case atStart => exact ⟨0, rfl, by omega, by omega, ⟨Below.refl _ _, rfl⟩⟩
  case round =>
    obtain ⟨k, rfl, hk0, hk1, HK⟩ := hrel
    by_cases hlt : k < ps.length
    · obtain ⟨ad, A2, c2, rfl, d0, d1, d2, el, eC⟩ := at_T24 H3.out k hk0 hlt
      have HAny := Aside0.mk (any_take ps id k hk0 hlt)
      have HMem := Aside0.mk (rP_mem ps k hk0 hlt)
      obtain ⟨p, hp⟩ : ∃ p, p = rP ps k := ⟨_, rfl⟩
      rw [← hp] at HAny HMem
      rw [show rd_T24 ps k = p from hp.symm] at d0 d1 d2 el eC
      have e0 := (HK.out.1.cell (World.block_lt_of_cell? w _ d0)).trans d0
      have e1 := (HK.out.1.cell (World.block_lt_of_cell? w _ d1)).trans d1
      have e2 := (HK.out.1.cell (World.block_lt_of_cell? w _ d2)).trans d2
      have HC := Aside0.mk (PostC_calls B id p.f0 p.f1 (.slice A2 p.f2.length c2) wr ((HK.out.1.cell (p := ⟨B, 0, none⟩) hBlt).trans HB0.out))
      clear hp d0 d1 d2 el eC
      go_wp2_with fail
      refine HC.out.mono ?_
      rintro e w' ⟨rfl, hb⟩
      have HB := Aside0.mk (HK.out.1.trans (hb.mono HK.out.1.size))
      clear hb HC
      by_cases hq : p.f0 = id
      · have hq' : (p.f0 == id) = true := by simpa using hq
        have HQ := Aside0.mk hq'
        have hall : (ps.any fun q => q.f0 == id) = true := List.any_eq_true.2 ⟨p, HMem.out, hq'⟩
        have HA := Aside0.mk hall
        clear hall hq
        go_wp2
        go_ret
        exact ⟨k, rfl, by rw [HA.out]; simpa using hk0, HB.out⟩
      · have hq' : (p.f0 == id) = false := by simpa using hq
        have HQ := Aside0.mk hq'
        clear hq
        go_wp2
        go_roundw
        case rel => exact ⟨k + 1, by go_num, by omega, by omega, ⟨HB.out, by rw [HAny.out, HK.out.2, HQ.out]; rfl⟩⟩
        case measure => simp [intOf]; omega
    · have hkl : k = ps.length := by omega
      subst hkl
      have e : (ps.take ((ps.length : Nat) : Int).toNat) = ps := by simp
      go_wp2
      go_ret
      exact ⟨-1, rfl, by have := HK.out.2; rw [e] at this; rw [this]; rfl, HK.out.1⟩
theorem Contains_calls (A : Option Addr) (c : Nat) (ps : List Po) (B : Nat) (id : Int) (w : World) (hC : Kd.C kPo w A ps.length ps) (hB : w.cell? ⟨B, 0, none⟩ = some (.int .i64 id)) :
    Calls Tryd.prog 35 #[.slice A ps.length c, .func (.func 36) #[] #[.pointer (some ⟨B, 0, none⟩)]] w fun e w' => e = .returned (.bool (ps.any fun q => q.f0 == id)) ∧ Below w.heap.size w w' := by
  have HI := Aside0.mk (Index_calls A c ps B id w hC hB)
  clear hC hB
  go_enter Tryd.func35, Tryd.ntmps35
  go_wp2_with fail
  refine HI.out.mono ?_
  rintro e w' ⟨i, rfl, hi, hb⟩
  have HE := Aside0.mk hi
  clear hi
  go_wp2
  go_ret
  exact ⟨by rw [← HE.out]; rfl, hb⟩
end Go.Proofs.YtpmbljigdghmiaaDoor.Led
