/- A slice among the arguments, opened as a list, whatever its elements are. -/
import Derived.Deep.Slices
import Derived.ChangeSame
import Derived.Deep.Strs
import Derived.SliceStrings
import Derived.Test.YtofacphhfgkemaaWWords
namespace Go.Proofs.Ytofacphhfgkemaa.Op
open Go.ChangeShapes Go.WideShapes Go.Deep Go.Proofs.YtofacphhfgkemaaW.PrintWords
section
variable {H : Type} {enc : TypeId × Value → H} {P : Program} {w : World} {base : Nat} {held : Bool} {α : Type}

/-- What an element's cells say: a value of the kind, and what is known of it. -/
def Elem (enc : TypeId × Value → H) (P : Program) (w : World) (base : Nat) (held : Bool) (d : Kd α) (ok : α → Prop) (e : TypeId) : Prop :=
  ∀ n cs y, DataW.trod enc P w base (fun _ => true) held n e cs = some y → ∃ x, d.K w x cs ∧ ok x

theorem open_C {d : Kd α} {ok : α → Prop} {t e : TypeId} (hel : Elem enc P w base held d ok e) (ht : P.underlying t = some (.slice e)) (hc : P.cellsOf e = d.sz) {A : Option Addr} {len cap : Nat} {D : DataW H} {p : List MemPlace}
    (h : DataW.Trod enc P w base (fun _ => true) held t (.slice A len cap) D p) : ∃ xs : List α, xs.length = len ∧ d.C w A xs.length xs ∧ xs.length ≤ cap ∧ cap ≤ maxLen ∧ ∀ x ∈ xs, ok x := by
  obtain ⟨fuel, hf⟩ := h
  rcases open_slice ht hf with ⟨hcs, _⟩ | ⟨a, l, c, m, n, DD, Pl, hcs, _, hl, hm, hmm, _, hx⟩
  · simp [Value.cells] at hcs
    obtain ⟨rfl, rfl, rfl⟩ := hcs
    exact ⟨[], rfl, Kd.C_nil d w, Nat.le_refl _, Nat.zero_le _, by simp⟩
  · simp [Value.cells] at hcs
    obtain ⟨rfl, rfl, rfl⟩ := hcs
    have each : ∀ i, i < len → ∃ q : α × List Value, d.K w q.1 q.2 ∧ ok q.1 ∧ (∀ j u, q.2[j]? = some u → w.cell? (a.add (i * d.sz + j)) = some u) := by
      intro i hi
      obtain ⟨cs', h1, h2⟩ := hx i (by rw [hmm, if_pos rfl]; omega)
      rw [hc] at h1
      obtain ⟨_, hlen, hcell⟩ := World.cells?_some h1
      obtain ⟨x, hk, ho⟩ := hel _ _ _ h2
      refine ⟨(x, cs'), hk, ho, fun j u hu => ?_⟩
      have hj : j < d.sz := by
        rcases Nat.lt_or_ge j cs'.length with h | h
        · omega
        · rw [List.getElem?_eq_none h] at hu
          cases hu
      have hh := hcell j hj
      rw [hu] at hh
      rw [← hh, Go.Proofs.YtofacphhfgkemaaW.PrintWords.add_add]
    rcases Nat.eq_zero_or_pos len with h0 | h0
    · subst h0
      refine ⟨[], rfl, ⟨rfl, by simp, fun h => absurd h (Nat.lt_irrefl _)⟩, Nat.zero_le _, hm, by simp⟩
    obtain ⟨x0, hx0⟩ := each 0 h0
    have : Inhabited (α × List Value) := ⟨x0⟩
    obtain ⟨q, hq⟩ := choose_lt each
    refine ⟨(List.range len).map fun i => (q i).1, by simp, ⟨rfl, by simp [maxLen] at hm ⊢; omega, fun _ => ⟨a, rfl, fun j x hj => ?_⟩⟩, by simpa using hl, hm, fun x hx => ?_⟩
    · simp only [List.getElem?_map] at hj
      have hjl : j < len := by
        rcases Nat.lt_or_ge j len with h | h
        · exact h
        · rw [List.getElem?_eq_none (by simpa using h)] at hj
          cases hj
      rw [List.getElem?_range hjl] at hj
      simp at hj
      subst hj
      exact ⟨(q j).2, d.K_len (hq j hjl).1, (hq j hjl).1, (hq j hjl).2.2⟩
    · simp only [List.mem_map, List.mem_range] at hx
      obtain ⟨i, hi, rfl⟩ := hx
      exact (hq i hi).2.1
theorem elem_string {e : TypeId} (he : P.underlying e = some .string) : Elem enc P w base held Kd.string (fun s => s.size ≤ maxLen) e := by
  intro n cs y h
  obtain ⟨s, rfl, _, hs⟩ := DataW.trod_string he h
  exact ⟨s, rfl, hs⟩
theorem elem_bool {e : TypeId} (he : P.underlying e = some .bool) : Elem enc P w base held Kd.bool (fun _ => True) e := by
  intro n cs y h
  obtain ⟨b, rfl, _⟩ := DataW.trod_bool he h
  exact ⟨b, rfl, trivial⟩
theorem elem_int {e : TypeId} {k : IntKind} (he : P.underlying e = some (.int k)) : Elem enc P w base held (Kd.int k) (fun n => (Lit.int k n).wf = true) e := by
  intro n cs y h
  obtain ⟨x, hcs, _, hw⟩ := DataW.trod_int he h
  exact ⟨x, hcs, hw⟩
end
end Go.Proofs.Ytofacphhfgkemaa.Op
