/- Tables of names: what a table's memory says, and the pure words. -/
import Derived.Test.YtallacbjeajpoaaDoorIdpD
import Derived.Maps.Own
import Derived.Maps.OwnSet
import Derived.Maps.OwnOps
import Derived.Maps.Keyed
import Derived.Maps.Views
import Derived.StringKeys
namespace Go.Proofs.YtallacbjeajpoaaDoor.Tab
open Go.RowKit Go.Maps Go.Proofs.YtallacbjeajpoaaDoor.Ext Go.Proofs.YtallacbjeajpoaaDoor.P Go.Proofs.YtallacbjeajpoaaDoor.Idp Go.Proofs.YtallacbjeajpoaaDoorW.PrintWords Go.Proofs.YtallacbjeajpoaaDoorW.PrintLast Go.Proofs.YtallacbjeajpoaaDoorW.PrintMore

/-! ### what a map of names says -/
def kl (s : ByteArray) : Lit := .string s.data.toList
def put1 (m : DataW Unit) (p : ByteArray × Nat) : DataW Unit := m.put (kl p.1) (.lit (.int .i64 p.2))
def datum (l : List ByteArray) : DataW Unit := l.zipIdx.foldl put1 (.map [])
theorem datum_nil : datum [] = .map [] := rfl
theorem datum_snoc (l : List ByteArray) (s : ByteArray) : datum (l ++ [s]) = (datum l).put (kl s) (.lit (.int .i64 l.length)) := by
  unfold datum
  rw [List.zipIdx_append, List.foldl_append]
  simp [put1]
theorem datum_isMap (l : List ByteArray) : IsMap (datum l) := by
  unfold datum
  suffices h : ∀ (q : List (ByteArray × Nat)) (m : DataW Unit), IsMap m → IsMap (q.foldl put1 m) from h _ _ isMap_empty
  intro q
  induction q with
  | nil => intro m h; exact h
  | cons p q ih => intro m h; exact ih _ (h.put _ _)
theorem kl_key (s : ByteArray) : WideAt.IsKeyLit (kl s) := by unfold kl; simp [WideAt.IsKeyLit]
theorem kl_inj {a b : ByteArray} (h : kl a = kl b) : a = b := by
  unfold kl at h
  injection h with h
  exact data_inj h
theorem datum_has (l : List ByteArray) (s : ByteArray) : Maps.has (datum l) (kl s) = true ↔ s ∈ l := by
  induction l using snoc_ind with
  | h0 => simp [datum_nil, Maps.has]
  | h1 l x ih =>
    rw [datum_snoc]
    by_cases e : s = x
    · subst e; rw [has_put_same (datum_isMap l) (kl_key _)]; simp
    · rw [has_put_other (fun h => e (kl_inj h)), ih]; simp [e]
theorem datum_at (l : List ByteArray) (hd : l.Nodup) (s : ByteArray) (i : Nat) (hi : l[i]? = some s) (z : DataW Unit) : (datum l).atKey (kl s) z = .lit (.int .i64 i) := by
  induction l using snoc_ind with
  | h0 => simp at hi
  | h1 l x ih =>
    rw [datum_snoc]
    rw [List.nodup_append] at hd
    by_cases e : s = x
    · subst e
      rw [atKey_put_same (datum_isMap l) (kl_key _)]
      have : i = l.length := by
        rcases Nat.lt_or_ge i l.length with h | h
        · rw [List.getElem?_append_left h] at hi
          have := List.mem_of_getElem? hi
          exact absurd rfl (hd.2.2 s this s (by simp))
        · rw [List.getElem?_append_right h] at hi
          have : i - l.length < 1 := by
            have := (List.getElem?_eq_some_iff.1 hi).1
            simpa using this
          omega
      rw [this]
    · rw [atKey_put_other (fun h => e (kl_inj h))]
      have : i < l.length := by
        rcases Nat.lt_or_ge i l.length with h | h
        · exact h
        · rw [List.getElem?_append_right h] at hi
          have := List.mem_of_getElem? hi
          simp at this
          exact absurd this e
      rw [List.getElem?_append_left this] at hi
      exact ih hd.1 hi
theorem datum_not (l : List ByteArray) (s : ByteArray) (h : s ∉ l) (z : DataW Unit) : (datum l).atKey (kl s) z = z := by
  apply atKey_of_not_has
  cases e : Maps.has (datum l) (kl s) with
  | false => rfl
  | true => exact absurd ((datum_has l s).1 e) h

/-- A table's memory: block g, made since w0. -/
structure IsT (w0 w : World) (g : Nat) (l : List ByteArray) : Prop where mk ::
  (out : ∃ (v : Value) (b : Nat), w.heap[g]? = some (.cells #[v, .map (some b)] 52 (0, 0)) ∧ w0.heap.size ≤ g ∧ w0.heap.size ≤ b ∧ g ≠ b ∧
    Kd.R Kd.string 9 w w0.heap.size (fun k => k ≠ g ∧ k ≠ b) v l ∧ w.ownsMap Tryd.prog 9 (plainElem (H := Unit) Tryd.prog 3) b l.length (datum l))
/-- The error of a list of names. -/
def newE (l : List ByteArray) : Int := if l.all vld = true then if l.Nodup then if l.length ≤ 512 then 0 else 3 else 7 else 8
end Go.Proofs.YtallacbjeajpoaaDoor.Tab
