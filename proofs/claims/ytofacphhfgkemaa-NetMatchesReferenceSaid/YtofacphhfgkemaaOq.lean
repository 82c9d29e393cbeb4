/- A list of steps among the arguments, opened; few of them. -/
import Derived.Test.YtofacphhfgkemaaOp
import Derived.Test.YtofacphhfgkemaaPNetx1
namespace Go.Proofs.Ytofacphhfgkemaa.Op
open Go.RowKit (wrap64)
open Go.ChangeShapes Go.WideShapes Go.Deep Go.Proofs.YtofacphhfgkemaaW.PrintWords Go.Proofs.Ytofacphhfgkemaa.PNet
set_option linter.unusedVariables false
set_option linter.unusedSimpArgs false
theorem elem_46 {H : Type} {enc : TypeId × Value → H} {w : World} {base : Nat} {held : Bool} : Elem enc Try.prog w base held k46 (fun s => s.f4.size ≤ maxLen) 46 := by
  intro n cs y h
  obtain ⟨xs, m, _, _, hl, hlen, hf⟩ := DataW.trod_struct Try.underlying46 h
  have hc : Try.prog.cellsOf 46 = 7 := by kernel_rfl
  rw [hc] at hl
  match cs, hl with
  | [v0, v1, v2, v3, v4, v5, v6], _ =>
    have c3 : Try.prog.cellsOf 3 = 1 := by kernel_rfl
    have c9 : Try.prog.cellsOf 9 = 1 := by kernel_rfl
    have c4 : Try.prog.cellsOf 4 = 1 := by kernel_rfl
    match xs, hlen with
    | [y0, y1, y2, y3, y4, y5, y6], _ =>
      have g0 : DataW.trod enc Try.prog w base (fun _ => true) held m 3 (([v0, v1, v2, v3, v4, v5, v6].drop 0).take (Try.prog.cellsOf 3)) = some y0 := hf 0 _ rfl
      rw [c3] at g0
      have g1 : DataW.trod enc Try.prog w base (fun _ => true) held m 3 (([v0, v1, v2, v3, v4, v5, v6].drop 1).take (Try.prog.cellsOf 3)) = some y1 := hf 1 _ rfl
      rw [c3] at g1
      have g2 : DataW.trod enc Try.prog w base (fun _ => true) held m 3 (([v0, v1, v2, v3, v4, v5, v6].drop 2).take (Try.prog.cellsOf 3)) = some y2 := hf 2 _ rfl
      rw [c3] at g2
      have g3 : DataW.trod enc Try.prog w base (fun _ => true) held m 3 (([v0, v1, v2, v3, v4, v5, v6].drop 3).take (Try.prog.cellsOf 3)) = some y3 := hf 3 _ rfl
      rw [c3] at g3
      have g4 : DataW.trod enc Try.prog w base (fun _ => true) held m 9 (([v0, v1, v2, v3, v4, v5, v6].drop 4).take (Try.prog.cellsOf 9)) = some y4 := hf 4 _ rfl
      rw [c9] at g4
      have g5 : DataW.trod enc Try.prog w base (fun _ => true) held m 4 (([v0, v1, v2, v3, v4, v5, v6].drop 5).take (Try.prog.cellsOf 4)) = some y5 := hf 5 _ rfl
      rw [c4] at g5
      have g6 : DataW.trod enc Try.prog w base (fun _ => true) held m 4 (([v0, v1, v2, v3, v4, v5, v6].drop 6).take (Try.prog.cellsOf 4)) = some y6 := hf 6 _ rfl
      rw [c4] at g6
      simp only [List.drop_succ_cons, List.drop_zero, List.take_succ_cons, List.take_zero] at g0 g1 g2 g3 g4 g5 g6
      obtain ⟨a0, e0, _⟩ := DataW.trod_int Try.underlying3 g0
      obtain ⟨a1, e1, _⟩ := DataW.trod_int Try.underlying3 g1
      obtain ⟨a2, e2, _⟩ := DataW.trod_int Try.underlying3 g2
      obtain ⟨a3, e3, _⟩ := DataW.trod_int Try.underlying3 g3
      obtain ⟨a4, e4, _, hs⟩ := DataW.trod_string Try.underlying9 g4
      obtain ⟨a5, e5, _⟩ := DataW.trod_bool Try.underlying4 g5
      obtain ⟨a6, e6, _⟩ := DataW.trod_bool Try.underlying4 g6
      simp only [List.cons.injEq, and_true] at e0 e1 e2 e3 e4 e5 e6
      subst e0 e1 e2 e3 e4 e5 e6
      exact ⟨⟨a0, a1, a2, a3, a4, a5, a6⟩, k46_mk w _, hs⟩

def fewB (l : List S46) : Bool := decide (l.length ≤ 150) && l.all fun s => decide (s.f4.size ≤ 100)
theorem few_loop (l : List S46) (hl : l.length ≤ 150) (d : Nat) : ∀ k i : Nat, i ≤ l.length → l.length - i = d → 2 * d + 2 ≤ k → observatoryref54_Few.l0 k l (i : Int) = some ((l.drop i).all fun s => decide (s.f4.size ≤ 100)) := by
  induction d with
  | zero =>
    intro k i hi hd hk
    obtain ⟨k, rfl⟩ : ∃ m, k = m + 2 := ⟨k - 2, by omega⟩
    simp only [observatoryref54_Few.l0, observatoryref54_Few.j1]
    rw [if_neg (by omega), if_neg (by decide), List.drop_eq_nil_of_le (by omega)]
    simp; omega
  | succ d ih =>
    intro k i hi hd hk
    obtain ⟨k, rfl⟩ : ∃ m, k = m + 2 := ⟨k - 2, by omega⟩
    have hlt : i < l.length := by omega
    have hr : rd_T46 l (i : Int) = l[i] := by simp [rd_T46, List.getD_eq_getElem?_getD, List.getElem?_eq_getElem hlt]
    simp only [observatoryref54_Few.l0, observatoryref54_Few.j1]
    rw [if_pos (by omega), if_pos (by simp; omega), if_pos (by omega), if_pos (by omega), hr, List.drop_eq_getElem_cons hlt]
    simp only [List.all_cons]
    by_cases h : l[i].f4.size ≤ 100
    · rw [if_neg (by omega), show wrap64 ((i : Int) + 1) = ((i + 1 : Nat) : Int) by unfold wrap64; omega, ih k (i + 1) (by omega) (by omega) (by omega)]
      simp [h]
    · rw [if_pos (by omega)]
      simp [h]
theorem few_any (l : List S46) : ∃ k, observatorylaw54_few.f k l = some (fewB l) := by
  by_cases hl : l.length ≤ 150
  · refine ⟨2 * l.length + 2, ?_⟩
    unfold observatorylaw54_few.f observatoryref54_Few.f
    have := few_loop l hl l.length (2 * l.length + 2) 0 (Nat.zero_le _) (by omega) (by omega)
    rw [show (0 : Int) = ((0 : Nat) : Int) from rfl, this]
    simp [fewB, hl]
  · refine ⟨2, ?_⟩
    unfold observatorylaw54_few.f observatoryref54_Few.f
    simp only [observatoryref54_Few.l0, observatoryref54_Few.j1]
    rw [if_pos (by omega), if_neg (by simp; omega)]
    simp [fewB, hl]
    omega
theorem few_calls (A : Option Addr) (c : Nat) (l : List S46) (w : World) (hC : Kd.C k46 w A l.length l) (hc : l.length ≤ c) : Calls Try.prog 16 #[.slice A l.length c] w fun e w' => e = .returned (.bool (fewB l)) ∧ RowKit.Below w.heap.size w w' := by
  obtain ⟨k, hk⟩ := few_any l
  refine (observatorylaw54_few.calls k A c l (fewB l) w hC hc hk).mono ?_
  rintro e w' ⟨h1, h2⟩
  exact ⟨h1, h2.below⟩
theorem few_len {l : List S46} (h : fewB l = true) : l.length ≤ 150 ∧ ∀ i : Nat, i < l.length → (rd_T46 l (i : Int)).f4.size ≤ 100 := by
  simp only [fewB, Bool.and_eq_true, decide_eq_true_eq, List.all_eq_true] at h
  refine ⟨h.1, fun i hi => ?_⟩
  have hr : rd_T46 l (i : Int) = l[i] := by simp [rd_T46, List.getD_eq_getElem?_getD, List.getElem?_eq_getElem hi]
  rw [hr]
  exact h.2 _ (List.getElem_mem hi)
end Go.Proofs.Ytofacphhfgkemaa.Op
