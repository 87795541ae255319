/- Tables of names: Add. -/
import Derived.Test.YtallacbjeajpoaaDoorTabF
import Derived.Test.YtallacbjeajpoaaDoorSortA
import Derived.WalkSpells
import Derived.StillTailTactics
namespace Go.Proofs.YtallacbjeajpoaaDoor.Tab
open Go.RowKit Go.Maps Go.WideMaps Go.Sort Go.Lib Go.Proofs Go.Proofs.YtallacbjeajpoaaDoor.Ext Go.Proofs.YtallacbjeajpoaaDoor.P Go.Proofs.YtallacbjeajpoaaDoor.Idp Go.Proofs.YtallacbjeajpoaaDoorW.PrintWords Go.Proofs.YtallacbjeajpoaaDoorW.PrintLast Go.Proofs.YtallacbjeajpoaaDoorW.PrintMore
/-- What Add answers, and the names then. -/
def addE (l : List ByteArray) (s : ByteArray) : Int := if vld s = true then if s ∈ l then 7 else if 512 ≤ l.length then 3 else 0 else 8
def addL (l : List ByteArray) (s : ByteArray) : List ByteArray := if addE l s = 0 then l ++ [s] else l
def addK (l : List ByteArray) (s : ByteArray) : Int := if addE l s = 0 then l.length else 0
theorem R_tight {e : Nat} {w : World} {base : Nat} {ok : Nat → Prop} {v : Value} {xs : List ByteArray} (h : Kd.R Kd.string e w base ok v xs) : Kd.R Kd.string e w base (fun k => ok k ∧ v.ownBlock = some k) v xs :=
  Kd.R_of_own (Kd.own_of_R h) (fun k hk => ⟨h.1 k hk, hk⟩)
/-- Outside F nothing of the memory has turned. -/
def Fram (F : Nat → Prop) (w w' : World) : Prop := w.heap.size ≤ w'.heap.size ∧ ∀ k : Nat, k < w.heap.size → ¬ F k → w'.heap[k]? = w.heap[k]?
theorem Fram.drewN (F : Nat → Prop) (w : World) (n : Nat) : Fram F w (w.drewN n) := ⟨Nat.le_refl _, fun _ _ _ => rfl⟩
/-- A reference's table with the blocks that it is made of. -/
structure IsUf (F : Nat → Prop) (w0 w : World) (g : Nat) (l : List ByteArray) : Prop where mk ::
  (out : ∃ v : Value, w.heap[g]? = some (.cells #[v] 55 (0, 0)) ∧ w0.heap.size ≤ g ∧ Kd.R Kd.string 9 w w0.heap.size (fun k => k ≠ g) v l ∧ F = fun k => k = g ∨ v.ownBlock = some k)
theorem IsUf.tab {F : Nat → Prop} {w0 w : World} {g : Nat} {l : List ByteArray} (h : IsUf F w0 w g l) : IsU w0 w g l := by
  obtain ⟨v, h1, h2, h3, _⟩ := h.out
  exact ⟨v, h1, h2, h3⟩
theorem IsU.foot {w0 w : World} {g : Nat} {l : List ByteArray} (h : IsU w0 w g l) : ∃ F, IsUf F w0 w g l := by
  obtain ⟨v, h1, h2, h3⟩ := h.out
  exact ⟨_, v, h1, h2, h3, rfl⟩
theorem IsUf.lt {F : Nat → Prop} {w0 w : World} {g : Nat} {l : List ByteArray} (h : IsUf F w0 w g l) (k : Nat) (hk : F k) : w0.heap.size ≤ k ∧ k < w.heap.size := by
  obtain ⟨v, h1, h2, h3, rfl⟩ := h.out
  rcases hk with rfl | hk
  · exact ⟨h2, (Array.getElem?_eq_some_iff.1 h1).1⟩
  · have hb := (Kd.R_bound h3).1 k hk
    exact ⟨hb.2.1, hb.2.2.1⟩
theorem IsUf.kept {F G : Nat → Prop} {w0 w w1 : World} {g : Nat} {l : List ByteArray} (h : IsUf F w0 w g l) (hf : Fram G w w1) (hd : ∀ k, F k → ¬ G k) : IsUf F w0 w1 g l := by
  have hlt := h.lt
  obtain ⟨v, h1, h2, h3, rfl⟩ := h.out
  have hgl := (hlt g (.inl rfl)).2
  refine ⟨v, (hf.2 g hgl (hd g (.inl rfl))).trans h1, h2, ?_, rfl⟩
  have h4 := Kd.R_mono (ok' := fun k => k ≠ g) (Kd.R_step (w1 := w1) (R_tight h3) (fun k ho hk => hf.2 k hk (hd k (.inr ho.2)))) (fun k hk => hk.1)
  exact h4
structure IsTf (F : Nat → Prop) (w0 w : World) (g : Nat) (l : List ByteArray) : Prop where mk ::
  (out : ∃ (v : Value) (b : Nat), w.heap[g]? = some (.cells #[v, .map (some b)] 52 (0, 0)) ∧ w0.heap.size ≤ g ∧ w0.heap.size ≤ b ∧ g ≠ b ∧
    Kd.R Kd.string 9 w w0.heap.size (fun k => k ≠ g ∧ k ≠ b) v l ∧ w.ownsMap Tryd.prog 9 (plainElem (H := Unit) Tryd.prog 3) b l.length (datum l) ∧ F = fun k => k = g ∨ k = b ∨ v.ownBlock = some k)
theorem IsTf.tab {F : Nat → Prop} {w0 w : World} {g : Nat} {l : List ByteArray} (h : IsTf F w0 w g l) : IsT w0 w g l := by
  obtain ⟨v, b, h1, h2, h3, h4, h5, h6, _⟩ := h.out
  exact ⟨v, b, h1, h2, h3, h4, h5, h6⟩
theorem IsT.foot {w0 w : World} {g : Nat} {l : List ByteArray} (h : IsT w0 w g l) : ∃ F, IsTf F w0 w g l := by
  obtain ⟨v, b, h1, h2, h3, h4, h5, h6⟩ := h.out
  exact ⟨_, v, b, h1, h2, h3, h4, h5, h6, rfl⟩
theorem IsTf.lt {F : Nat → Prop} {w0 w : World} {g : Nat} {l : List ByteArray} (h : IsTf F w0 w g l) (k : Nat) (hk : F k) : w0.heap.size ≤ k ∧ k < w.heap.size := by
  obtain ⟨v, b, h1, h2, h3, h4, h5, h6, rfl⟩ := h.out
  rcases hk with rfl | rfl | hk
  · exact ⟨h2, (Array.getElem?_eq_some_iff.1 h1).1⟩
  · exact ⟨h3, h6.lt⟩
  · have hb := (Kd.R_bound h5).1 k hk
    exact ⟨hb.2.1, hb.2.2.1⟩
theorem IsTf.kept {F G : Nat → Prop} {w0 w w1 : World} {g : Nat} {l : List ByteArray} (h : IsTf F w0 w g l) (hf : Fram G w w1) (hd : ∀ k, F k → ¬ G k) : IsTf F w0 w1 g l := by
  have hlt := h.lt
  obtain ⟨v, b, h1, h2, h3, h4, h5, h6, rfl⟩ := h.out
  have hgl := (hlt g (.inl rfl)).2
  have hbl := (hlt b (.inr (.inl rfl))).2
  refine ⟨v, b, (hf.2 g hgl (hd g (.inl rfl))).trans h1, h2, h3, h4, ?_, ?_, rfl⟩
  · exact Kd.R_mono (ok' := fun k => k ≠ g ∧ k ≠ b) (Kd.R_step (w1 := w1) (R_tight h5) (fun k ho hk => hf.2 k hk (hd k (.inr (.inr ho.2))))) (fun k hk => hk.1)
  · obtain ⟨es, clock, hb, r⟩ := h6
    exact ⟨es, clock, (hf.2 b hbl (hd b (.inr (.inl rfl)))).trans hb, r⟩
def AddPost (T : (Nat → Prop) → World → World → Nat → List ByteArray → Prop) (F : Nat → Prop) (w0 w : World) (g : Nat) (l : List ByteArray) (s : ByteArray) (e : Ending) (w' : World) : Prop :=
  e = .returned (.tuple #[.int .i64 (addK l s), .int .i64 (addE l s)]) ∧ (∃ F', T F' w0 w' g (addL l s) ∧ (∀ k, F' k → F k ∨ w.heap.size ≤ k) ∧ Fram F w w') ∧ Below w0.heap.size w w'
theorem addPost_bad {T : (Nat → Prop) → World → World → Nat → List ByteArray → Prop} {F : Nat → Prop} {w0 w : World} {n : Nat} {g : Nat} {l : List ByteArray} {s : ByteArray} {c : Int} (h : addE l s = c) (hc : c ≠ 0) (hT : T F w0 (w.drewN n) g l) (hb : Below w0.heap.size w (w.drewN n)) : AddPost T F w0 w g l s (.returned (.tuple #[.int .i64 0, .int .i64 c])) (w.drewN n) := by
  subst h
  exact ⟨by rw [addK, if_neg hc], ⟨F, by rw [addL, if_neg hc]; exact hT, fun _ h => .inl h, Fram.drewN _ _ _⟩, hb⟩
theorem addPost_ok {T : (Nat → Prop) → World → World → Nat → List ByteArray → Prop} {F : Nat → Prop} {w0 w w' : World} {g : Nat} {l : List ByteArray} {s : ByteArray} (h : addE l s = 0) (hT : ∃ F', T F' w0 w' g (l ++ [s]) ∧ (∀ k, F' k → F k ∨ w.heap.size ≤ k) ∧ Fram F w w') (hb : Below w0.heap.size w w') : AddPost T F w0 w g l s (.returned (.tuple #[.int .i64 l.length, .int .i64 0])) w' :=
  ⟨by rw [addK, if_pos h, h], by rw [addL, if_pos h]; exact hT, hb⟩
theorem addE_8 {l : List ByteArray} {s : ByteArray} (h : vld s = false) : addE l s = 8 := by rw [addE, if_neg (by rw [h]; decide)]
theorem addE_7 {l : List ByteArray} {s : ByteArray} (h : vld s = true) (hm : s ∈ l) : addE l s = 7 := by rw [addE, if_pos h, if_pos hm]
theorem addE_3 {l : List ByteArray} {s : ByteArray} (h : vld s = true) (hm : s ∉ l) (hl : 512 ≤ l.length) : addE l s = 3 := by rw [addE, if_pos h, if_neg hm, if_pos hl]
theorem addE_0 {l : List ByteArray} {s : ByteArray} (h : vld s = true) (hm : s ∉ l) (hl : ¬ 512 ≤ l.length) : addE l s = 0 := by rw [addE, if_pos h, if_neg hm, if_neg hl]
theorem setCell_block {w : World} {g j k : Nat} (h : k ≠ g) (v : Value) : (w.setCell ⟨g, j, none⟩ v).heap[k]? = w.heap[k]? := by
  simp [World.setCell, Array.getElem?_modify, Ne.symm h]
theorem setCell_size (w : World) (a : Addr) (v : Value) : (w.setCell a v).heap.size = w.heap.size := by simp [World.setCell]
theorem isU_put {w0 w w1 : World} {g : Nat} {l : List ByteArray} {v0 v1 v : Value} {F : Nat → Prop} (hF : F = fun k => k = g ∨ v.ownBlock = some k) (hg : w0.heap.size ≤ g) (hc : w1.heap[g]? = some (.cells #[v0] 55 (0, 0)))
    (hR : Kd.R Kd.string 9 w1 w0.heap.size (fun k => k ≠ g) v1 l) (hgr : w.grownBy w1 v.ownBlock) (hs : w.heap.size ≤ w1.heap.size) (hat : v1.ownBlock = v.ownBlock ∨ ∃ b, v1.ownBlock = some b ∧ w.heap.size ≤ b) :
    ∃ F', IsUf F' w0 (w1.setCell ⟨g, 0, none⟩ v1) g l ∧ (∀ k, F' k → F k ∨ w.heap.size ≤ k) ∧ Fram F w (w1.setCell ⟨g, 0, none⟩ v1) := by
  subst hF
  refine ⟨_, ⟨v1, by rw [heap_set hc]; rfl, hg, Kd.R_far hR (fun k hk => hk) v1, rfl⟩, ?_, ?_, ?_⟩
  · rintro k (rfl | hk)
    · exact .inl (.inl rfl)
    · rcases hat with hat | ⟨b, hb, hle⟩
      · exact .inl (.inr (hat ▸ hk))
      · rw [hb] at hk; cases hk; exact .inr hle
  · rw [setCell_size]; exact hs
  · intro k hk hn
    have h1 : k ≠ g := fun e => hn (.inl e)
    rw [setCell_block h1]
    exact hgr.block k hk (fun e => hn (.inr e.symm))
set_option maxHeartbeats 2000000 in
set_option maxRecDepth 100000 in
theorem RAdd_calls (w0 w : World) (g : Nat) (l : List ByteArray) (s : ByteArray) (F : Nat → Prop) (hU : IsUf F w0 w g l) (hb0 : w0.heap.size ≤ w.heap.size) (hl : l.length ≤ 100000) :
    Calls Tryd.prog 24 #[.pointer (some ⟨g, 0, none⟩), .string s] w (AddPost IsUf F w0 w g l s) := by
  obtain ⟨v, h1, h2, h3, hF⟩ := hU.out
  have HF0 := Aside0.mk hF
  clear hF
  obtain ⟨A, c, rfl⟩ := Kd.R_slice h3
  have hc0 : w.cell? ⟨g, 0, none⟩ = some (.slice A l.length c) := by simp [World.cell?, h1]
  obtain ⟨_, hlc, hC⟩ := Kd.R_reads' h3
  have HF := Aside0.mk fun (n : Nat) => Find_calls A c l s (w.drewN n) (Kd.C_below hC (pw_below_drewN (Below.refl _ _) n)) hlc (by omega)
  have HU := Aside0.mk fun (n : Nat) => hU.kept (Fram.drewN (fun _ => False) w n) (fun _ _ h => h)
  have HB := Aside0.mk fun (n : Nat) => (pw_below_drewN (Below.refl w.heap.size w) n).mono hb0
  have HG1 : Aside0 (g < w.heap.size) := ⟨(Array.getElem?_eq_some_iff.1 h1).1⟩
  have H1 := Aside0.mk h1
  have H2 := Aside0.mk h2
  have H3 := Aside0.mk h3
  have H0 := Aside0.mk hb0
  clear h1 h2 h3 hC hlc hU hb0
  cases hv : vld s with
  | false =>
    have HE := Aside0.mk (addE_8 (l := l) hv)
    go_enter Tryd.func24, Tryd.ntmps24
    go_wp2_with (go_at_call 12; refine (dancestudioref05_Valid.calls 60 _ _ _ (rvalid_all _ 60 (by decide))).mono ?_; rintro e w' ⟨rfl, ⟨nd, rfl⟩⟩)
    go_ret2
    exact addPost_bad HE.out (by decide) (HU.out _) (HB.out _)
  | true =>
    by_cases hin : s ∈ l
    · have HE := Aside0.mk (addE_7 hv hin)
      rw [fnd_pos hin] at HF
      generalize posN l s = n at HF
      have h0 : (0 : Int) ≤ n := by omega
      clear hin
      go_enter Tryd.func24, Tryd.ntmps24
      go_wp2_with (first | (go_at_call 12; refine (dancestudioref05_Valid.calls 60 _ _ _ (rvalid_all _ 60 (by decide))).mono ?_; rintro e w' ⟨rfl, ⟨nd, rfl⟩⟩) | (go_at_call 37; refine (HF.out _).mono ?_; rintro e w' ⟨rfl, ⟨md, rfl⟩⟩))
      go_ret2
      first | exact addPost_bad HE.out (by decide) (HU.out _) (HB.out _) | (rw [World.drewN_drewN]; exact addPost_bad HE.out (by decide) (HU.out _) (HB.out _))
    · rw [fnd_neg hin] at HF
      by_cases hf : 512 ≤ l.length
      · have HE := Aside0.mk (addE_3 hv hin hf)
        have hf1 : (512 : Int) ≤ l.length := by omega
        clear hin hf
        go_enter Tryd.func24, Tryd.ntmps24
        go_wp2_with (first | (go_at_call 12; refine (dancestudioref05_Valid.calls 60 _ _ _ (rvalid_all _ 60 (by decide))).mono ?_; rintro e w' ⟨rfl, ⟨nd, rfl⟩⟩) | (go_at_call 37; refine (HF.out _).mono ?_; rintro e w' ⟨rfl, ⟨md, rfl⟩⟩))
        go_ret2
        first | exact addPost_bad HE.out (by decide) (HU.out _) (HB.out _) | (rw [World.drewN_drewN]; exact addPost_bad HE.out (by decide) (HU.out _) (HB.out _))
      · have HE := Aside0.mk (addE_0 hv hin hf)
        have hf1 : ¬ (512 : Int) ≤ l.length := by omega
        clear hin hf
        go_enter Tryd.func24, Tryd.ntmps24
        go_wp2_with fail
        refine (dancestudioref05_Valid.calls 60 _ _ _ (rvalid_all _ 60 (by decide))).mono ?_
        rintro e w' ⟨rfl, ⟨nd, rfl⟩⟩
        go_wp2_with fail
        refine (HF.out _).mono ?_
        rintro e w' ⟨rfl, ⟨md, rfl⟩⟩
        go_wp2_with ((with_reducible refine gate_builtin (b := .append) (xs := #[.tmp 28, .tmp 30]) rfl ?_)
                     at_builtin
                     refine Kd.R_append Kd.string (w0 := w) w0.heap.size rfl (.tmp 28) (.tmp 30) 25 9 (.string ⟨#[]⟩) 16 rfl Tryd.underlying25 info9 rfl (by decide) (by omega) (.slice A l.length c) l s [.string s] (fun k => k ≠ g) (fun _ => False) rfl rfl ?aP (fun _ hk => hk.elim) ?aF ?aO ?aB ?aS ?aL ?_
                     case aP => exact rfl
                     case aF => exact (fun j hj => by have := HG1.out; have h2 : w.heap.size ≤ j := (by simpa using hj); omega)
                     case aO => (repeat (first | exact H3.out | refine Kd.R_below ?_ (pw_below_drewN (Below.refl _ _) _)))
                     case aB => (first | exact HB.out _ | (rw [World.drewN_drewN]; exact HB.out _))
                     case aS => (have := H0.out; simpa using this)
                     case aL => omega
                     intro v1 w1 ho hb hg hat
                     obtain ⟨A1, c1, rfl⟩ := Kd.R_slice ho
                     rw [List.length_append, List.length_singleton] at ho hat
                     have h1 : w1.heap[g]? = some (.cells #[.slice A l.length c] 55 (0, 0)) := (hg.block g HG1.out (fun e => H3.out.1 _ e.symm rfl)).trans H1.out
                     have hc1 : w1.cell? ⟨g, 0, none⟩ = some (.slice A l.length c) := (by simp [World.cell?, h1])
                     have hf1 : w1.frozen? ⟨g, 0, none⟩ = false := (by simp [World.frozen?, h1])
                     have HH1 := Aside0.mk h1
                     have HHO := Aside0.mk ho
                     have HHG := Aside0.mk hg
                     have HHA := Aside0.mk hat
                     have HB1 := Aside0.mk (hb.setCell (p := ⟨g, 0, none⟩) H2.out (.slice A1 (l.length + 1) c1))
                     clear h1 ho hb hg hat)
        go_ret2
        exact addPost_ok HE.out (isU_put (w := w) (v := .slice A l.length c) HF0.out H2.out HH1.out HHO.out ⟨HHG.out.os, HHG.out.tape, HHG.out.output, HHG.out.size, HHG.out.block⟩ HHG.out.size HHA.out) HB1.out
theorem isT_put {w0 w w1 w2 : World} {g b : Nat} {l : List ByteArray} {s : ByteArray} {v0 v1 v : Value} {F : Nat → Prop} (hF : F = fun k => k = g ∨ k = b ∨ v.ownBlock = some k) (h2 : w0.heap.size ≤ g) (h3 : w0.heap.size ≤ b) (h4 : g ≠ b)
    (hm : w1.ownsMap Tryd.prog 9 (plainElem (H := Unit) Tryd.prog 3) b (l.length + 1) ((datum l).put (kl s) (.lit (.int .i64 (l.length : Int))))) (hg1 : w.grownBy w1 (some b)) (hs1 : w.heap.size ≤ w1.heap.size) (hg : w1.grownBy w2 v.ownBlock) (hs2 : w1.heap.size ≤ w2.heap.size) (hrow : some b ≠ v.ownBlock)
    (hat : v1.ownBlock = v.ownBlock ∨ ∃ b, v1.ownBlock = some b ∧ w1.heap.size ≤ b)
    (hc : w2.heap[g]? = some (.cells #[v0, .map (some b)] 52 (0, 0)))
    (hR : Kd.R Kd.string 9 w2 w0.heap.size (fun k => k ≠ g ∧ k ≠ b) v1 (l ++ [s])) :
    ∃ F', IsTf F' w0 (w2.setCell ⟨g, 0, none⟩ v1) g (l ++ [s]) ∧ (∀ k, F' k → F k ∨ w.heap.size ≤ k) ∧ Fram F w (w2.setCell ⟨g, 0, none⟩ v1) := by
  subst hF
  refine ⟨_, ⟨v1, b, by rw [heap_set hc]; rfl, h2, h3, h4, Kd.R_far hR (fun k hk => hk.1) v1, ?_, rfl⟩, ?_, ?_, ?_⟩
  · rw [datum_snoc, List.length_append, List.length_singleton]
    exact (hm.kept hg hrow).setCell (a := ⟨g, 0, none⟩) (Ne.symm h4) v1
  · rintro k (rfl | rfl | hk)
    · exact .inl (.inl rfl)
    · exact .inl (.inr (.inl rfl))
    · rcases hat with hat | ⟨b', hb, hle⟩
      · exact .inl (.inr (.inr (hat ▸ hk)))
      · rw [hb] at hk; cases hk; exact .inr (Nat.le_trans hs1 hle)
  · rw [setCell_size]; exact Nat.le_trans hs1 hs2
  · intro k hk hn
    have e1 : k ≠ g := fun e => hn (.inl e)
    rw [setCell_block e1, hg.block k (Nat.lt_of_lt_of_le hk hs1) (fun e => hn (.inr (.inr e.symm)))]
    exact hg1.block k hk (fun e => hn (.inr (.inl (Option.some.inj e))))
set_option maxHeartbeats 4000000 in
set_option maxRecDepth 100000 in
theorem Add_calls (w0 w : World) (g : Nat) (l : List ByteArray) (s : ByteArray) (F : Nat → Prop) (hT : IsTf F w0 w g l) (hb0 : w0.heap.size ≤ w.heap.size) (hl : l.length ≤ 100000) (hsh : Sh w) :
    Calls Tryd.prog 23 #[.pointer (some ⟨g, 0, none⟩), .string s] w (AddPost IsTf F w0 w g l s) := by
  obtain ⟨v, b, h1, h2, h3, h4, h5, h6, hF⟩ := hT.out
  have HF0 := Aside0.mk hF
  clear hF
  obtain ⟨A, c, rfl⟩ := Kd.R_slice h5
  have hc0 : w.cell? ⟨g, 0, none⟩ = some (.slice A l.length c) := by simp [World.cell?, h1]
  have hc1 : w.cell? ⟨g, 1, none⟩ = some (.map (some b)) := by simp [World.cell?, h1]
  have HT := Aside0.mk fun (n : Nat) => hT.kept (Fram.drewN (fun _ => False) w n) (fun _ _ h => h)
  have HB := Aside0.mk fun (n : Nat) => (pw_below_drewN (Below.refl w.heap.size w) n).mono hb0
  have HG1 : Aside0 (g < w.heap.size) := ⟨(Array.getElem?_eq_some_iff.1 h1).1⟩
  have H1 := Aside0.mk h1
  have H2 := Aside0.mk h2
  have H3 := Aside0.mk h3
  have H4 := Aside0.mk h4
  have H5 := Aside0.mk h5
  have HO := Aside0.mk fun (n : Nat) => h6.kept (grown_of_below (pw_below_drewN (Below.refl w.heap.size w) n) none) (by simp)
  have H0 := Aside0.mk hb0
  have hmm := @run_makeMap Tryd.prog
  clear h1 h2 h3 h4 h5 h6 hT hb0
  cases hv : vld s with
  | false =>
    have HE := Aside0.mk (addE_8 (l := l) hv)
    go_enter Tryd.func23, Tryd.ntmps23
    go_wp2_with (go_at_call 11; refine (ident_Valid.calls 60 _ _ _ (valid_all _ 60 (by decide))).mono ?_; rintro e w' ⟨rfl, ⟨nd, rfl⟩⟩)
    go_ret2
    exact addPost_bad HE.out (by decide) (HT.out _) (HB.out _)
  | true =>
    have hsz : s.size ≤ maxLen := by
      have := vld_size hv
      unfold maxLen; omega
    have hkey := keyOf_string_mk (P := Tryd.prog) Tryd.underlying9 hsz
    clear hsz
    have hh := datum_hasD l s
    unfold kl at hh
    by_cases hin : s ∈ l
    · have HE := Aside0.mk (addE_7 hv hin)
      rw [decide_eq_true hin] at hh
      clear hin
      go_enter Tryd.func23, Tryd.ntmps23
      go_wp2_with fail
      refine (ident_Valid.calls 60 _ _ _ (valid_all _ 60 (by decide))).mono ?_
      rintro e w' ⟨rfl, ⟨nd, rfl⟩⟩
      go_wp2_with (at_lookup; refine wpList_lookup_own_ok_int _ rfl _ _ 50 rfl 9 3 .i64 (string_keyed Tryd.underlying9) Tryd.underlying50 Tryd.underlying3 (zeroInt _) _ _ _ rfl (HO.out _) _ _ rfl hkey ?_; intro c hat hwc)
      go_ret2
      exact addPost_bad HE.out (by decide) (HT.out _) (HB.out _)
    · rw [decide_eq_false hin] at hh
      by_cases hf : 512 ≤ l.length
      · have HE := Aside0.mk (addE_3 hv hin hf)
        have hf1 : (512 : Int) ≤ l.length := by omega
        clear hin hf
        go_enter Tryd.func23, Tryd.ntmps23
        go_wp2_with fail
        refine (ident_Valid.calls 60 _ _ _ (valid_all _ 60 (by decide))).mono ?_
        rintro e w' ⟨rfl, ⟨nd, rfl⟩⟩
        go_wp2_with (at_lookup; refine wpList_lookup_own_ok_int _ rfl _ _ 50 rfl 9 3 .i64 (string_keyed Tryd.underlying9) Tryd.underlying50 Tryd.underlying3 (zeroInt _) _ _ _ rfl (HO.out _) _ _ rfl hkey ?_; intro c hat hwc)
        go_ret2
        exact addPost_bad HE.out (by decide) (HT.out _) (HB.out _)
      · have HE := Aside0.mk (addE_0 hv hin hf)
        have hf1 : ¬ (512 : Int) ≤ l.length := by omega
        have hnm : l.length < maxLen := by unfold maxLen; omega
        have hwf := lit_wf (show (0 : Int) ≤ l.length by omega) (by omega)
        have hmn := fun w1 : World => run_eql_map_nil (P := Tryd.prog) w1 50 _ _ (some b) Tryd.underlying50
        clear hin hf
        go_enter Tryd.func23, Tryd.ntmps23
        go_wp2_with fail
        refine (ident_Valid.calls 60 _ _ _ (valid_all _ 60 (by decide))).mono ?_
        rintro e w' ⟨rfl, ⟨nd, rfl⟩⟩
        go_wp2_with (at_lookup; refine wpList_lookup_own_ok_int _ rfl _ _ 50 rfl 9 3 .i64 (string_keyed Tryd.underlying9) Tryd.underlying50 Tryd.underlying3 (zeroInt _) _ _ _ rfl (HO.out _) _ _ rfl hkey ?_; intro ci hat hwc)
        clear hat hwc
        obtain ⟨w2, hw2⟩ : ∃ w2, w2 = w.drewN nd := ⟨_, rfl⟩
        rw [← hw2]
        have hd0 : ({ w2 with drawn := w2.drawn + 1 } : World).cell? ⟨g, 0, none⟩ = some (.slice A l.length c) := by rw [hw2]; exact hc0
        have hd1 : ({ w2 with drawn := w2.drawn + 1 } : World).cell? ⟨g, 1, none⟩ = some (.map (some b)) := by rw [hw2]; exact hc1
        have he0 : w2.cell? ⟨g, 0, none⟩ = some (.slice A l.length c) := by rw [hw2]; exact hc0
        have he1 : w2.cell? ⟨g, 1, none⟩ = some (.map (some b)) := by rw [hw2]; exact hc1
        have hw3 : ({ w2 with drawn := w2.drawn + 1 } : World) = w.drewN (nd + 1) := by rw [hw2]; rfl
        have HW3 := Aside0.mk hw3
        clear hw2 hw3
        go_still_tail 10, (by kernel_rfl)
        rw [HW3.out]
        clear hd0 hd1 he0 he1
        go_wp2_with (first
          | (at_mapUpdate
             refine wpList_mapUpdate_own _ rfl _ _ _ 50 rfl 9 3 (string_keyed Tryd.underlying9) Tryd.underlying50 _ _ _ _ rfl (HO.out _) hnm _ _ _ rfl rfl hkey _ [] (plainElem_int Tryd.underlying3 hwf) ?_
             intro w1 hown1 hgrow1
             have HM1 := Aside0.mk hown1
             have h11 : w1.heap[g]? = some (.cells #[.slice A l.length c, .map (some b)] 52 (0, 0)) := (hgrow1.block g HG1.out (fun e => H4.out (Option.some.inj e))).trans H1.out
             have hc2 : w1.cell? ⟨g, 0, none⟩ = some (.slice A l.length c) := (by simp [World.cell?, h11])
             have H11 := Aside0.mk h11
             have HB2 := Aside0.mk ((HB.out (nd + 1)).grown hgrow1 (by have := H0.out; simpa using this) (fun k e => by cases e; exact H3.out))
             have H51 := Aside0.mk (Kd.R_grown (Kd.R_below H5.out (pw_below_drewN (Below.refl _ _) (nd + 1))) hgrow1 (fun k hk e => hk.2 (Option.some.inj e)))
             have HW1 : Aside0 (w.heap.size ≤ w1.heap.size) := ⟨by have := HB2.out.size; simpa using this⟩
             have HGR : Aside0 (w.grownBy w1 (some b)) := ⟨⟨hgrow1.os, hgrow1.tape, hgrow1.output, hgrow1.size, hgrow1.block⟩⟩
             clear hown1 hgrow1 h11)
          | ((with_reducible refine gate_builtin (b := .append) (xs := #[.tmp 54, .tmp 56]) rfl ?_)
             at_builtin
             refine Kd.R_append Kd.string (w0 := w) w0.heap.size rfl (.tmp 54) (.tmp 56) 25 9 (.string ⟨#[]⟩) 16 rfl Tryd.underlying25 info9 rfl (by decide) (by omega) (.slice A l.length c) l s [.string s] (fun k => k ≠ g ∧ k ≠ b) (fun _ => False) rfl rfl ?aP (fun _ hk => hk.elim) ?aF ?aO ?aB ?aS ?aL ?_
             case aP => exact rfl
             case aF => exact (fun j hj => (by have h1 := HG1.out; have h2 := HW1.out; have h3 := HM1.out.lt; constructor <;> omega))
             case aO => exact H51.out
             case aB => exact HB2.out
             case aS => exact Nat.le_trans H0.out HW1.out
             case aL => omega
             intro v1 w2 ho hb hg hat
             obtain ⟨A1, c1, rfl⟩ := Kd.R_slice ho
             rw [List.length_append, List.length_singleton] at ho hat
             have h1 : w2.heap[g]? = some (.cells #[.slice A l.length c, .map (some b)] 52 (0, 0)) := (hg.block g (Nat.lt_of_lt_of_le HG1.out HW1.out) (fun e => (H51.out.1 _ e.symm).1 rfl)).trans H11.out
             have hc3 : w2.cell? ⟨g, 0, none⟩ = some (.slice A l.length c) := (by simp [World.cell?, h1])
             have hf3 : w2.frozen? ⟨g, 0, none⟩ = false := (by simp [World.frozen?, h1])
             have HH1 := Aside0.mk h1
             have HHO := Aside0.mk ho
             have HHG := Aside0.mk hg
             have HHA := Aside0.mk hat
             have HB3 := Aside0.mk (hb.setCell (p := ⟨g, 0, none⟩) H2.out (.slice A1 (l.length + 1) c1))
             clear h1 ho hb hg hat))
        go_ret2
        exact addPost_ok HE.out (isT_put (w := w) (v := .slice A l.length c) HF0.out H2.out H3.out H4.out HM1.out HGR.out HW1.out HHG.out HHG.out.size (fun e => (H51.out.1 _ e.symm).2 rfl) HHA.out HH1.out HHO.out) HB3.out
end Go.Proofs.YtallacbjeajpoaaDoor.Tab
