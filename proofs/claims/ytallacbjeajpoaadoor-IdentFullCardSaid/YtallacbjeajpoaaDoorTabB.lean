/- New: the walk. -/
import Derived.Test.YtallacbjeajpoaaDoorTabA
import Derived.Outline
import Derived.DataShut
import Derived.Shelf.Slices.Clone
import Derived.Deep.DeepFit
namespace Go.Proofs.YtallacbjeajpoaaDoor.Tab
open Go.RowKit Go.Maps Go.WideMaps Go.Proofs.YtallacbjeajpoaaDoor.Ext Go.Proofs.YtallacbjeajpoaaDoor.P Go.Proofs.YtallacbjeajpoaaDoor.Idp Go.Proofs.YtallacbjeajpoaaDoorW.PrintWords Go.Proofs.YtallacbjeajpoaaDoorW.PrintLast Go.Proofs.YtallacbjeajpoaaDoorW.PrintMore
theorem addr_add (b off j : Nat) : (⟨b, off, none⟩ : Addr).add j = ⟨b, off + j, none⟩ := by unfold Addr.add; split <;> simp_all
theorem Clone_calls (A0 : Option Addr) (c0 : Nat) (l0 : List ByteArray) (w : World) (hr0 : Kd.C Kd.string w A0 l0.length l0) (hbig : l0.length * 16 ≤ 140737488355328) :
    Calls Tryd.prog 36 #[.slice A0 l0.length c0] w fun e w' => ∃ v0_ : Value, e = .returned v0_ ∧ Kd.R Kd.string 9 w' w.heap.size (fun _ => True) v0_ l0 ∧ Below w.heap.size w w' := by
  have hrd := Kd.reads_of_C (d := ByteArray.empty) hr0
  cases A0 with
  | none =>
    have h0 : l0 = [] := by
      rcases Nat.eq_zero_or_pos l0.length with h | h
      · exact List.eq_nil_of_length_eq_zero h
      · obtain ⟨ad, e, _⟩ := hr0.2.2 h; cases e
    subst h0
    refine (Tryd.slices_Clone_string_nil _ _ w).mono fun e w1 ⟨he, hw⟩ => ?_
    subst hw
    exact ⟨_, he, Kd.R_nil _ _ _ _ _, Below.refl _ _⟩
  | some ad =>
    rcases Nat.eq_zero_or_pos l0.length with h | h
    · have h0 := List.eq_nil_of_length_eq_zero h
      subst h0
      refine (Tryd.slices_Clone_string_zero ad _ w).mono fun e w1 ⟨v, he, ho, _, hb⟩ => ?_
      exact ⟨v, he, Kd.R_of_own ho (fun _ _ => trivial), hb⟩
    · obtain ⟨b, off, sp⟩ := ad
      obtain ⟨ad', e', hc⟩ := hrd.2.2 h
      cases e'
      have hsp : sp = none := by
        have := hc 0 h
        cases sp with
        | none => rfl
        | some s =>
          exfalso
          have h2 : ((⟨b, off, some s⟩ : Addr).add 0) = ⟨b, off, some s⟩ := by simp [Addr.add]
          rw [h2] at this
          unfold World.cell? at this
          split at this
          · simp at this
          · cases this
      subst hsp
      refine (Tryd.slices_Clone_string b off l0.length c0 l0 w (Nat.le_refl _) hbig (fun j hj => by rw [← addr_add]; exact hc j hj)).mono fun e w1 ⟨v, he, ho, _, hb⟩ => ?_
      rw [List.take_of_length_le (Nat.le_refl _)] at ho
      exact ⟨v, he, Kd.R_of_own ho (fun _ _ => trivial), hb⟩

theorem newE_bad (l : List ByteArray) (i : Nat) (hi : i < l.length) (h : vld (l.getD i ByteArray.empty) = false) : newE l = 8 := by
  unfold newE
  rw [if_neg]
  intro hall
  rw [List.all_eq_true] at hall
  rw [List.getD_eq_getElem?_getD, List.getElem?_eq_getElem hi] at h
  have := hall l[i] (List.getElem_mem hi)
  simp at h
  rw [h] at this
  cases this
theorem all_of (l : List ByteArray) (h : ∀ j : Nat, j < l.length → vld (l.getD j ByteArray.empty) = true) : l.all vld = true := by
  rw [List.all_eq_true]
  intro x hx
  obtain ⟨i, hi, rfl⟩ := List.mem_iff_getElem.1 hx
  have := h i hi
  rw [List.getD_eq_getElem?_getD, List.getElem?_eq_getElem hi] at this
  simpa using this
theorem take_snoc' (l : List ByteArray) (i : Nat) (hi : i < l.length) : l.take (i + 1) = l.take i ++ [l.getD i ByteArray.empty] := by
  rw [List.take_succ_eq_append_getElem hi, List.getD_eq_getElem?_getD, List.getElem?_eq_getElem hi]; rfl
theorem nodup_take (l : List ByteArray) (i : Nat) (hi : i < l.length) (h : (l.take i).Nodup) (hn : l.getD i ByteArray.empty ∉ l.take i) : (l.take (i + 1)).Nodup := by
  rw [take_snoc' l i hi, List.nodup_append]
  exact ⟨h, by simp, fun a ha b hb => by simp at hb; subst hb; intro e; subst e; exact hn ha⟩
theorem newE_twice (l : List ByteArray) (i : Nat) (hi : i < l.length) (h : l.all vld = true) (hn : l.getD i ByteArray.empty ∈ l.take i) : newE l = 7 := by
  unfold newE
  rw [if_pos h, if_neg]
  intro hd
  have h1 : (l.take (i + 1)).Nodup := (List.take_sublist _ _).nodup hd
  rw [take_snoc' l i hi, List.nodup_append] at h1
  exact h1.2.2 _ hn _ (by simp) rfl

def NewPost (w : World) (l0 : List ByteArray) (e : Ending) (w' : World) : Prop :=
  Below w.heap.size w w' ∧ ((∃ g, newE l0 = 0 ∧ e = .returned (.tuple #[.pointer (some ⟨g, 0, none⟩), .int .i64 0]) ∧ IsT w w' g l0) ∨ (newE l0 ≠ 0 ∧ e = .returned (.tuple #[.pointer none, .int .i64 (newE l0)])))
theorem newPost_bad {w w' : World} {l0 : List ByteArray} {c : Int} (h : newE l0 = c) (hc : c ≠ 0) (hb : Below w.heap.size w w') : NewPost w l0 (.returned (.tuple #[.pointer none, .int .i64 c])) w' :=
  ⟨hb, .inr ⟨by rw [h]; exact hc, by rw [h]⟩⟩
theorem zeroInt (w : World) : (zeroValue 3).run Tryd.prog w = .ok (.int .i64 0) w := by kernel_rfl
/-- What the second loop keeps. -/
structure Mid (w wr : World) (g b : Nat) (l : List ByteArray) : Prop where
  below : Below w.heap.size w wr
  cells : wr.heap[g]? = some (.cells #[.slice none 0 0, .map (some b)] 52 (0, 0))
  own : wr.ownsMap Tryd.prog 9 (plainElem (H := Unit) Tryd.prog 3) b l.length (datum l)
  hb : w.heap.size ≤ b
  hg : w.heap.size ≤ g
  ne : g ≠ b
  dup : l.Nodup
theorem mid_cell {w wr : World} {g b : Nat} {l : List ByteArray} (h : Mid w wr g b l) : wr.cell? ⟨g, 1, none⟩ = some (.map (some b)) := by
  simp [World.cell?, h.cells]
theorem heap_set {w : World} {g j : Nat} {cs : Array Value} {t : TypeId} (h : w.heap[g]? = some (.cells cs t (0, 0))) (v : Value) : (w.setCell ⟨g, j, none⟩ v).heap[g]? = some (.cells (cs.setIfInBounds j v) t (0, 0)) := by
  simp [World.setCell, Array.getElem?_modify, h]
theorem lit_wf {k : Int} (h0 : 0 ≤ k) (h1 : k ≤ 9223372036854775807) : (Lit.int .i64 k).wf = true := by
  exact (Lit.wf_int_iff .i64 k).2 ⟨Int.le_trans (by decide) h0, Int.le_trans h1 (by decide)⟩
theorem mid_step {w wr w1 : World} {g b : Nat} {l : List ByteArray} {s : ByteArray} {c : Int} (h : Mid w wr g b l) (hs : s ∉ l) (hc : c = l.length)
    (ho : w1.ownsMap Tryd.prog 9 (plainElem (H := Unit) Tryd.prog 3) b (l.length + 1) ((datum l).put (kl s) (.lit (.int .i64 c)))) (hg : wr.grownBy w1 (some b)) : Mid w w1 g b (l ++ [s]) := by
  subst hc
  refine ⟨h.below.grown hg h.below.size (fun k e => by cases e; exact h.hb), ?_, ?_, h.hb, h.hg, h.ne, ?_⟩
  · have hlt : g < wr.heap.size := (Array.getElem?_eq_some_iff.1 h.cells).1
    exact (hg.block g hlt (by intro e; cases e; exact h.ne rfl)).trans h.cells
  · rw [datum_snoc]; simpa using ho
  · rw [List.nodup_append]
    exact ⟨h.dup, by simp, fun a ha b' hb' => by simp at hb'; subst hb'; intro e; subst e; exact hs ha⟩
theorem newE_full (l : List ByteArray) (h : l.all vld = true) (hd : l.Nodup) : newE l = if l.length ≤ 512 then 0 else 3 := by
  unfold newE; rw [if_pos h, if_pos hd]
theorem made_isT {w wr w2 : World} {g b : Nat} {l : List ByteArray} {v : Value} (h : Mid w wr g b l) (hR : Kd.R Kd.string 9 w2 wr.heap.size (fun _ => True) v l) (hb : Below wr.heap.size wr w2) :
    w2.heap[g]? = some (.cells #[.slice none 0 0, .map (some b)] 52 (0, 0)) ∧ IsT w (w2.setCell ⟨g, 0, none⟩ v) g l ∧ Below w.heap.size w (w2.setCell ⟨g, 0, none⟩ v) := by
  have hlt : g < wr.heap.size := (Array.getElem?_eq_some_iff.1 h.cells).1
  have hblt : b < wr.heap.size := h.own.lt
  have hc : w2.heap[g]? = some (.cells #[.slice none 0 0, .map (some b)] 52 (0, 0)) := (hb.block g hlt).trans h.cells
  have hbase := fun k e => Kd.R_base hR k e
  refine ⟨hc, ⟨v, b, by rw [heap_set hc]; rfl, h.hg, h.hb, h.ne, ?_, ?_⟩, ?_⟩
  · refine Kd.R_far (Kd.R_lower (Kd.R_mono (Kd.R_bound hR) (fun k hk => ⟨?_, ?_⟩)) h.below.size) (fun k hk => hk.1) v
    · have := hk.2.1; omega
    · have := hk.2.1; omega
  · exact (h.own.kept (grown_of_below hb none) (by simp)).setCell (a := ⟨g, 0, none⟩) (Ne.symm h.ne) v
  · exact (h.below.trans (hb.mono h.below.size)).setCell (p := ⟨g, 0, none⟩) h.hg v
set_option maxHeartbeats 2000000 in
set_option maxRecDepth 100000 in
theorem New_calls (A0 : Option Addr) (c0 : Nat) (l0 : List ByteArray) (w : World) (hr0 : Kd.C Kd.string w A0 l0.length l0) (hsh : Sh w) :
    Calls Tryd.prog 16 #[.slice A0 l0.length c0] w fun e w' => NewPost w l0 e w' := by
  have HR0 := Aside0.mk hr0
  have hm2 := hr0.2.1
  have hmm := @run_makeMap Tryd.prog
  clear hr0
  go_enter Tryd.func16, Tryd.ntmps16
  go_wp2
  go_loopw [13] (fun i wr => ∃ k : Int, i = .int .i64 k ∧ 0 ≤ k ∧ k ≤ l0.length ∧ Aside0 (∀ j : Nat, j < k.toNat → vld (l0.getD j ByteArray.empty) = true) ∧ Drawn0 w wr) (fun i _ => l0.length - (intOf i).toNat)
  case atStart => exact ⟨0, rfl, by omega, by omega, ⟨fun j hj => by simp at hj⟩, Drawn0.refl _⟩
  case round =>
    obtain ⟨k, rfl, hk0, hk1, hall, ⟨m, rfl⟩⟩ := hrel
    by_cases hlt : k < (l0.length : Int)
    · obtain ⟨ad, e, hx⟩ := Kd.at_string HR0.out k hk0 hlt
      cases e
      cases hv : vld (rdOf ByteArray.empty l0 k) with
      | false =>
        go_wp2_with (go_at_call 11; refine (ident_Valid.calls 60 _ _ _ (valid_all _ 60 (by decide))).mono ?_; rintro e w' ⟨rfl, ⟨nd, rfl⟩⟩)
        go_ret2
        exact newPost_bad (newE_bad l0 k.toNat (by omega) hv) (by decide) (by first | exact pw_below_drewN (Below.refl _ _) _ | exact pw_below_drewN (pw_below_drewN (Below.refl _ _) _) _)
      | true =>
        go_wp2_with (go_at_call 11; refine (ident_Valid.calls 60 _ _ _ (valid_all _ 60 (by decide))).mono ?_; rintro e w' ⟨rfl, ⟨nd, rfl⟩⟩)
        go_roundw
        case rel =>
          refine ⟨k + 1, by go_num, by omega, by omega, ⟨fun j hj => ?_⟩, by repeat (first | exact Drawn0.refl _ | apply Drawn0.step)⟩
          by_cases e : j = k.toNat
          · subst e; exact hv
          · exact hall.out j (by omega)
        case measure => simp [intOf]; omega
    · have hkl : k = l0.length := by omega
      subst hkl
      have hva := all_of l0 (fun j hj => hall.out j (by omega))
      have HV := Aside0.mk hva
      clear hva hall
      go_wp2
      have hM : Mid w (((w.drewN m).alloc (.map #[] 0)).alloc (.cells #[.slice none 0 0, .map (some w.heap.size)] 52 (0, 0))) (w.heap.size + 1) w.heap.size [] := by
        refine ⟨below_alloc (below_alloc (pw_below_drewN (Below.refl _ _) m) _) _, ?_, ?_, Nat.le_refl _, by omega, by omega, List.nodup_nil⟩
        · simp [World.alloc, Array.getElem_push]
        · exact (World.ownsMap_made (w.drewN m) Tryd.prog _ _).alloc _
      have HM := Aside0.mk hM
      clear hM
      go_loopw [26] (fun i wr => ∃ k : Int, i = .int .i64 k ∧ 0 ≤ k ∧ k ≤ l0.length ∧ Aside0 (Mid w wr (w.heap.size + 1) w.heap.size (l0.take k.toNat))) (fun i _ => l0.length - (intOf i).toNat)
      case atStart => exact ⟨0, rfl, by omega, by omega, HM⟩
      case round =>
        clear HM
        obtain ⟨k, rfl, hk0, hk1, HM⟩ := hrel
        have hc1 := mid_cell HM.out
        by_cases hlt2 : k < (l0.length : Int)
        · obtain ⟨ad, e, hx⟩ := Kd.at_string HR0.out k hk0 hlt2
          cases e
          replace hx := (HM.out.below.cell (World.block_lt_of_cell? w _ hx)).trans hx
          have hget : rdOf ByteArray.empty l0 k = l0.getD k.toNat ByteArray.empty := rfl
          have hsz : (rdOf ByteArray.empty l0 k).size ≤ maxLen := by
            have hv2 : vld (rdOf ByteArray.empty l0 k) = true := by
              rw [hget, List.getD_eq_getElem?_getD, List.getElem?_eq_getElem (show k.toNat < l0.length by omega)]
              exact List.all_eq_true.1 HV.out _ (List.getElem_mem _)
            have := vld_size hv2
            unfold maxLen; omega
          have hkey := keyOf_string_mk (P := Tryd.prog) Tryd.underlying9 hsz
          have HG := Aside0.mk hget
          clear hget
          have hlen : (l0.take k.toNat).length = k.toNat := by rw [List.length_take]; omega
          have HL := Aside0.mk hlen
          clear hlen
          cases hin : Maps.has (datum (l0.take k.toNat)) (kl (rdOf ByteArray.empty l0 k)) with
          | true =>
            have hmem := (datum_has _ _).1 hin
            have HI := Aside0.mk hmem
            clear hmem
            unfold kl at hin
            go_wp2_with (first | (at_lookup; refine wpList_lookup_own_ok_int _ rfl _ _ 50 rfl 9 3 .i64 (string_keyed Tryd.underlying9) Tryd.underlying50 Tryd.underlying3 (zeroInt _) _ _ _ rfl HM.out.own _ _ rfl hkey ?_; intro c hat hwc))
            go_ret2
            exact newPost_bad (newE_twice l0 k.toNat (by omega) HV.out (by rw [← HG.out]; exact HI.out)) (by decide) HM.out.below
          | false =>
            have hmem : rdOf ByteArray.empty l0 k ∉ l0.take k.toNat := fun h => by rw [(datum_has _ _).2 h] at hin; cases hin
            have HI := Aside0.mk hmem
            clear hmem
            unfold kl at hin
            have hwf := lit_wf hk0 (show k ≤ 9223372036854775807 by omega)
            have hnm : (l0.take k.toNat).length < maxLen := by rw [HL.out]; unfold maxLen; omega
            go_wp2_with (first
              | (at_lookup; refine wpList_lookup_own_ok_int _ rfl _ _ 50 rfl 9 3 .i64 (string_keyed Tryd.underlying9) Tryd.underlying50 Tryd.underlying3 (zeroInt _) _ _ _ rfl HM.out.own _ _ rfl hkey ?_; intro c hat hwc)
              | (at_mapUpdate; refine wpList_mapUpdate_own _ rfl _ _ _ 50 rfl 9 3 (string_keyed Tryd.underlying9) Tryd.underlying50 _ _ _ _ rfl HM.out.own hnm _ _ _ rfl rfl hkey _ [] (plainElem_int Tryd.underlying3 hwf) ?_; intro w1 hown1 hgrow1))
            go_roundw
            case rel =>
              refine ⟨k + 1, by go_num, by omega, by omega, ⟨?_⟩⟩
              rw [show (k + 1).toNat = k.toNat + 1 by omega, take_snoc' l0 k.toNat (by omega), ← HG.out]
              exact mid_step HM.out HI.out (by rw [HL.out]; omega) hown1 hgrow1
            case measure => simp [intOf]; omega
        · have hkl : k = l0.length := by omega
          subst hkl
          have HM2 : Aside0 (Mid w _ (w.heap.size + 1) w.heap.size l0) := ⟨by have := HM.out; rwa [Int.toNat_natCast, List.take_of_length_le (Nat.le_refl _)] at this⟩
          clear HM
          have hE := newE_full l0 HV.out HM2.out.dup
          have HE := Aside0.mk hE
          clear hE
          by_cases h512 : (512 : Int) < l0.length
          · go_wp2
            go_ret2
            exact newPost_bad (by rw [HE.out, if_neg (by omega)]) (by decide) HM2.out.below
          · have hC := Clone_calls A0 c0 l0 _ (Kd.C_below HR0.out HM2.out.below) (by omega)
            have HC := Aside0.mk hC
            clear hC
            go_wp2_with (go_at_call 36; refine HC.out.mono ?_; rintro e w2 ⟨v, rfl, hR, hb⟩; obtain ⟨A2, c2, rfl⟩ := Kd.R_slice hR; obtain ⟨hc2, hT, hB⟩ := made_isT HM2.out hR hb; have HT := Aside0.mk hT; have HB := Aside0.mk hB; have HR := Aside0.mk hR; clear hT hB hR hb; have hcell : w2.cell? ⟨w.heap.size + 1, 0, none⟩ = some (.slice none 0 0) := (by simp [World.cell?, hc2]); have hfr : w2.frozen? ⟨w.heap.size + 1, 0, none⟩ = false := (by simp [World.frozen?, hc2]); clear hc2)
            go_ret2
            exact ⟨HB.out, .inl ⟨w.heap.size + 1, by rw [HE.out, if_pos (by omega)], rfl, HT.out⟩⟩
end Go.Proofs.YtallacbjeajpoaaDoor.Tab
