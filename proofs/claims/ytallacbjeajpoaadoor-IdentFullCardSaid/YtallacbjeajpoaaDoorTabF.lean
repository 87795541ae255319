/- The reference's tables of names: New, Add, Sorted. -/
import Derived.Test.YtallacbjeajpoaaDoorTabE
import Derived.Deep.RegionHeld3
namespace Go.Proofs.YtallacbjeajpoaaDoor.Tab
open Go.RowKit Go.Maps Go.WideMaps Go.Sort Go.Lib Go.Proofs Go.Proofs.YtallacbjeajpoaaDoor.Ext Go.Proofs.YtallacbjeajpoaaDoor.P Go.Proofs.YtallacbjeajpoaaDoor.Idp Go.Proofs.YtallacbjeajpoaaDoorW.PrintWords Go.Proofs.YtallacbjeajpoaaDoorW.PrintLast Go.Proofs.YtallacbjeajpoaaDoorW.PrintMore
def NewUPost (w : World) (l0 : List ByteArray) (e : Ending) (w' : World) : Prop :=
  Below w.heap.size w w' ∧ ((∃ g, newE l0 = 0 ∧ e = .returned (.tuple #[.pointer (some ⟨g, 0, none⟩), .int .i64 0]) ∧ IsU w w' g l0) ∨ (newE l0 ≠ 0 ∧ e = .returned (.tuple #[.pointer none, .int .i64 (newE l0)])))
theorem newUPost_bad {w w' : World} {l0 : List ByteArray} {c : Int} (h : newE l0 = c) (hc : c ≠ 0) (hb : Below w.heap.size w w') : NewUPost w l0 (.returned (.tuple #[.pointer none, .int .i64 c])) w' :=
  ⟨hb, .inr ⟨by rw [h]; exact hc, by rw [h]⟩⟩
/-- What the second loop keeps. -/
structure MidU (w wr : World) (g : Nat) (l : List ByteArray) : Prop where
  below : Below w.heap.size w wr
  tab : IsU w wr g l
  dup : l.Nodup
theorem MidU.drewN {w wr : World} {g : Nat} {l : List ByteArray} (h : MidU w wr g l) (n : Nat) : MidU w (wr.drewN n) g l :=
  ⟨pw_below_drewN h.below n, h.tab.below (pw_below_drewN (Below.refl _ _) n), h.dup⟩
theorem midU_step {w wr w1 : World} {g : Nat} {l : List ByteArray} {s : ByteArray} {v0 v1 : Value} (h : MidU w wr g l) (hs : s ∉ l) (hc : w1.heap[g]? = some (.cells #[v0] 55 (0, 0)))
    (hR : Kd.R Kd.string 9 w1 w.heap.size (fun k => k ≠ g) v1 (l ++ [s])) (hb : Below w.heap.size w w1) : MidU w (w1.setCell ⟨g, 0, none⟩ v1) g (l ++ [s]) := by
  obtain ⟨v, h1, h2, h3⟩ := h.tab.out
  refine ⟨hb.setCell (p := ⟨g, 0, none⟩) h2 v1, ⟨v1, by rw [heap_set hc]; rfl, h2, Kd.R_far hR (fun k hk => hk) v1⟩, ?_⟩
  rw [List.nodup_append]
  exact ⟨h.dup, by simp, fun a ha b hb' => by simp at hb'; subst hb'; intro e; subst e; exact hs ha⟩
set_option maxHeartbeats 2000000 in
set_option maxRecDepth 100000 in
theorem RNew_calls (A0 : Option Addr) (c0 : Nat) (l0 : List ByteArray) (w : World) (hr0 : Kd.C Kd.string w A0 l0.length l0) (hl0 : l0.length ≤ 100000) :
    Calls Tryd.prog 19 #[.slice A0 l0.length c0] w fun e w' => NewUPost w l0 e w' := by
  have HR0 := Aside0.mk hr0
  have hm2 := hr0.2.1
  clear hr0
  go_enter Tryd.func19, Tryd.ntmps19
  go_wp2
  go_loopw [4] (fun i wr => ∃ k : Int, i = .int .i64 k ∧ 0 ≤ k ∧ k ≤ l0.length ∧ Aside0 (∀ j : Nat, j < k.toNat → vld (l0.getD j ByteArray.empty) = true) ∧ Drawn0 w wr) (fun i _ => l0.length - (intOf i).toNat)
  case atStart => exact ⟨0, rfl, by omega, by omega, ⟨fun j hj => by simp at hj⟩, Drawn0.refl _⟩
  case round =>
    obtain ⟨k, rfl, hk0, hk1, hall, ⟨m, rfl⟩⟩ := hrel
    by_cases hlt : k < (l0.length : Int)
    · obtain ⟨ad, e, hx⟩ := Kd.at_string HR0.out k hk0 hlt
      cases e
      cases hv : vld (rdOf ByteArray.empty l0 k) with
      | false =>
        go_wp2_with (go_at_call 12; refine (dancestudioref05_Valid.calls 60 _ _ _ (rvalid_all _ 60 (by decide))).mono ?_; rintro e w' ⟨rfl, ⟨nd, rfl⟩⟩)
        go_ret2
        exact newUPost_bad (newE_bad l0 k.toNat (by omega) hv) (by decide) (by first | exact pw_below_drewN (Below.refl _ _) _ | exact pw_below_drewN (pw_below_drewN (Below.refl _ _) _) _)
      | true =>
        go_wp2_with (go_at_call 12; refine (dancestudioref05_Valid.calls 60 _ _ _ (rvalid_all _ 60 (by decide))).mono ?_; rintro e w' ⟨rfl, ⟨nd, rfl⟩⟩)
        go_roundw
        case rel =>
          refine ⟨k + 1, by go_num, by omega, by omega, ⟨fun j hj => ?_⟩, by repeat (first | exact Drawn0.refl _ | apply Drawn0.step)⟩
          by_cases e : j = k.toNat
          · subst e; exact hv
          · exact hall.out j (by omega)
        case measure => simp [intOf]; omega
    · have hkl : k = l0.length := by omega
      subst hkl
      have hva := all_of l0 (fun j hj => hall.out j (by omega))
      have HV := Aside0.mk hva
      clear hva hall
      go_wp2
      have hM : MidU w ((w.drewN m).alloc (.cells #[.slice none 0 0] 55 (0, 0))) w.heap.size [] := by
        refine ⟨below_alloc (pw_below_drewN (Below.refl _ _) m) _, ⟨.slice none 0 0, ?_, Nat.le_refl _, Kd.R_nil _ _ _ _ _⟩, List.nodup_nil⟩
        simp [World.alloc, Array.getElem_push]
      have HM := Aside0.mk hM
      clear hM
      go_loopw [6] (fun i wr => ∃ k : Int, i = .int .i64 k ∧ 0 ≤ k ∧ k ≤ l0.length ∧ Aside0 (MidU w wr w.heap.size (l0.take k.toNat))) (fun i _ => l0.length - (intOf i).toNat)
      case atStart => exact ⟨0, rfl, by omega, by omega, HM⟩
      case round =>
        clear HM
        obtain ⟨k, rfl, hk0, hk1, HM⟩ := hrel
        by_cases hlt2 : k < (l0.length : Int)
        · obtain ⟨ad, e, hx⟩ := Kd.at_string HR0.out k hk0 hlt2
          cases e
          replace hx := (HM.out.below.cell (World.block_lt_of_cell? w _ hx)).trans hx
          have hget : rdOf ByteArray.empty l0 k = l0.getD k.toNat ByteArray.empty := rfl
          have HG := Aside0.mk hget
          clear hget
          obtain ⟨lt, elt⟩ : ∃ x, x = l0.take k.toNat := ⟨_, rfl⟩
          rw [← elt] at HM
          have hlen : lt.length ≤ 9223372036854775807 := by rw [elt, List.length_take]; omega
          have HLT := Aside0.mk elt
          clear elt
          obtain ⟨v, h1, h2, h3⟩ := HM.out.tab.out
          obtain ⟨A, c, rfl⟩ := Kd.R_slice h3
          have hc0 : wr.cell? ⟨w.heap.size, 0, none⟩ = some (.slice A lt.length c) := by simp [World.cell?, h1]
          have hf0 : wr.frozen? ⟨w.heap.size, 0, none⟩ = false := by simp [World.frozen?, h1]
          obtain ⟨_, hlc, hC⟩ := Kd.R_reads' h3
          have HF := Aside0.mk fun (n : Nat) => Find_calls A c lt (rdOf ByteArray.empty l0 k) (wr.drewN n) (Kd.C_below hC (pw_below_drewN (Below.refl _ _) n)) hlc hlen
          have H3 := Aside0.mk h3
          have H1 := Aside0.mk h1
          have HLn := Aside0.mk hlen
          clear h1 h2 h3 hC hlen hlc
          by_cases hin : rdOf ByteArray.empty l0 k ∈ lt
          · rw [fnd_pos hin] at HF
            generalize hn : posN lt (rdOf ByteArray.empty l0 k) = n at HF
            clear hn
            have h0 : (0 : Int) ≤ n := by omega
            have HI := Aside0.mk hin
            clear hin
            have HB := Aside0.mk HM.out.below
            go_wp2
            go_quiet ((go_at_call 37; refine (HF.out _).mono ?_; rintro e w' ⟨rfl, ⟨nd, rfl⟩⟩; exact ⟨rfl, _, World.drewN_drewN _ _ _⟩))
            go_wp2
            go_ret2
            exact newUPost_bad (newE_twice l0 k.toNat (by omega) HV.out (by rw [← HG.out, ← HLT.out]; exact HI.out)) (by decide) (pw_below_drewN HB.out _)
          · rw [fnd_neg hin] at HF
            have HI := Aside0.mk hin
            clear hin
            go_wp2
            go_quiet ((go_at_call 37; refine (HF.out _).mono ?_; rintro e w' ⟨rfl, ⟨nd, rfl⟩⟩; exact ⟨rfl, _, World.drewN_drewN _ _ _⟩))
            go_wp2
            have HB := Aside0.mk HM.out.below
            have HG1 : Aside0 (w.heap.size < wr.heap.size) := ⟨(Array.getElem?_eq_some_iff.1 H1.out).1⟩
            have HA : Aside0 (lt.length ≤ 100000) := ⟨by rw [HLT.out, List.length_take]; omega⟩
            have hca : ∀ (n : Nat) (o : Obj), ((wr.drewN n).alloc o).cell? ⟨w.heap.size, 0, none⟩ = some (.slice A lt.length c) := fun n o => by
              have hh := (((pw_below_drewN (Below.refl wr.heap.size wr) n).alloc (Nat.le_refl _) o).block w.heap.size HG1.out).trans H1.out
              simp [World.cell?, hh]
            go_region_law (first
              | (refine Kd.R_append_step Kd.string (w0 := w) w.heap.size rfl _ _ 25 9 (.string ⟨#[]⟩) 16 rfl Tryd.underlying25 info9 rfl (by decide) (by omega) (.slice A lt.length c) lt (rdOf ByteArray.empty l0 k) [.string (rdOf ByteArray.empty l0 k)] (fun k => k ≠ w.heap.size) (fun _ => False) rfl rfl ?aP (fun _ hk => hk.elim) ?aF ?aO ?aB ?aS ?aL ?_
                 case aP => exact rfl
                 case aF => exact (fun j hj => by have := HG1.out; have h2 : wr.heap.size ≤ j := hj; omega)
                 case aO => exact Kd.R_below H3.out (pw_below_drewN (Below.refl _ _) _)
                 case aB => exact pw_below_drewN HB.out _
                 case aS => exact HB.out.size
                 case aL => have := HA.out; omega
                 intro v1 w1 ho hb hg hat
                 obtain ⟨A1, c1, rfl⟩ := Kd.R_slice ho
                 rw [List.length_append, List.length_singleton] at ho
                 have h1 : w1.heap[w.heap.size]? = some (.cells #[.slice A lt.length c] 55 (0, 0)) := (hg.block w.heap.size HG1.out (fun e => H3.out.1 _ e.symm rfl)).trans H1.out
                 have hc1 : w1.cell? ⟨w.heap.size, 0, none⟩ = some (.slice A lt.length c) := (by simp [World.cell?, h1])
                 have hf1 : w1.frozen? ⟨w.heap.size, 0, none⟩ = false := (by simp [World.frozen?, h1])
                 have H1 := Aside0.mk h1
                 have HO := Aside0.mk ho
                 have HB1 := Aside0.mk hb
                 clear h1 ho hb hg hat))
            all_goals
              go_wp2
              go_roundw
              case rel =>
                refine ⟨k + 1, by go_num, by omega, by omega, ⟨?_⟩⟩
                rw [show (k + 1).toNat = k.toNat + 1 by omega, take_snoc' l0 k.toNat (by omega), ← HG.out, ← HLT.out]
                exact midU_step HM.out HI.out H1.out HO.out HB1.out
              case measure => simp [intOf]; omega
        · have hkl : k = l0.length := by omega
          subst hkl
          have HM2 : Aside0 (MidU w wr w.heap.size l0) := ⟨by have := HM.out; rwa [Int.toNat_natCast, List.take_of_length_le (Nat.le_refl _)] at this⟩
          clear HM
          have hE := newE_full l0 HV.out HM2.out.dup
          have HE := Aside0.mk hE
          clear hE
          by_cases h512 : (512 : Int) < l0.length
          · go_wp2
            go_ret2
            exact newUPost_bad (by rw [HE.out, if_neg (by omega)]) (by decide) HM2.out.below
          · go_wp2
            go_ret2
            exact ⟨HM2.out.below, .inl ⟨w.heap.size, by rw [HE.out, if_pos (by omega)], rfl, HM2.out.tab⟩⟩
end Go.Proofs.YtallacbjeajpoaaDoor.Tab
