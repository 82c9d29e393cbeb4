/- What charging does to the accounts, in plain terms. -/
import Derived.Test.YtkmfdkilimkbpaaQa
namespace Go.Proofs.Ytkmfdkilimkbpaa.Q
open Go.RowKit Go.Proofs.Ytkmfdkilimkbpaa.PAll Go.Proofs.YtkmfdkilimkbpaaW.PrintWords Go.Proofs.YtkmfdkilimkbpaaW.PrintLast
set_option linter.unusedVariables false

/-- When a charge is free of errors: what holds then. -/
structure Free (l0 l1 : List Int) (i n : Int) : Prop where
  ok : OK l0 l1
  i0 : 0 ≤ i
  i1 : i < l1.length
  n0 : 0 ≤ n
  n1 : n ≤ 1000000
  fit : rd l1 i + n ≤ 1000000
theorem OK.at1 {l0 l1 : List Int} (h : OK l0 l1) {i : Int} (h0 : 0 ≤ i) (h1 : i < l1.length) : 0 ≤ rd l1 i ∧ rd l1 i ≤ 1000000 := by
  have := h.parts h0 (by rw [← h.eq]; exact h1)
  omega
theorem charge_free {l0 l1 : List Int} {i n : Int} (h : Free l0 l1 i n) : G.chargeF l0 l1 i n = (l1.set i.toNat (rd l1 i + n), 0) := by
  have hv := (valid_iff l0 l1).2 h.ok
  have hb : G.bad 0 1000000 n = false := bad_false.2 ⟨h.n0, h.n1⟩
  have hp := h.ok.at1 h.i0 h.i1
  have := h.i0; have := h.i1; have := h.n0; have := h.fit
  unfold G.chargeF
  rw [if_neg (by rw [hv, hb]; simp; omega), w_in (by omega) (by omega), if_neg (by omega)]
theorem charge_zero {l0 l1 : List Int} {i n : Int} (h : (G.chargeF l0 l1 i n).2 = 0) : Free l0 l1 i n := by
  unfold G.chargeF at h
  split at h
  · simp at h
  · rename_i hc
    cases hv : G.validB l0 l1 with
    | false => exact absurd (.inl hv) hc
    | true =>
      have ok := (valid_iff l0 l1).1 hv
      by_cases h1 : i < 0
      · exact absurd (.inr (.inl h1)) hc
      by_cases h2 : (l1.length : Int) ≤ i
      · exact absurd (.inr (.inr (.inl h2))) hc
      cases h3 : G.bad 0 1000000 n with
      | true => exact absurd (.inr (.inr (.inr h3))) hc
      | false =>
        have h4 := bad_false.1 h3
        have hp := ok.at1 (i := i) (by omega) (by omega)
        split at h
        · simp at h
        · rename_i h5
          rw [w_in (by omega) (by omega)] at h5
          exact ⟨ok, by omega, by omega, by omega, by omega, by omega⟩
theorem charge_not {l0 l1 : List Int} {i n : Int} (h : ¬ Free l0 l1 i n) : (G.chargeF l0 l1 i n).1 = [] ∧ ((G.chargeF l0 l1 i n).2 = 1 ∨ (G.chargeF l0 l1 i n).2 = 9) := by
  have h0 : (G.chargeF l0 l1 i n).2 ≠ 0 := fun e => h (charge_zero e)
  revert h0
  unfold G.chargeF
  split
  · simp
  · split <;> simp

theorem rd_set (l : List Int) (i j : Int) (x : Int) (hi : 0 ≤ i) (hil : i < l.length) (hj : 0 ≤ j) (hjl : j < l.length) : rd (l.set i.toNat x) j = if i = j then x else rd l j := by
  obtain ⟨m, rfl⟩ := nat_of hi
  obtain ⟨n, rfl⟩ := nat_of hj
  rw [rd_nat _ n (by rw [List.length_set]; omega), rd_nat l n (by omega), List.getElem_set]
  by_cases h : m = n
  · rw [if_pos (by omega), if_pos (by omega)]
  · rw [if_neg (by omega), if_neg (by omega)]
theorem S_set (l : List Int) (x : Int) : ∀ (n : Nat), n < l.length → S (l.set n x) = S l + x - rd l n := by
  induction l with
  | nil => intro n h; simp at h
  | cons y l ih =>
    intro n h
    cases n with
    | zero => simp [S, rd]; omega
    | succ n =>
      have e : rd (y :: l) ((n + 1 : Nat) : Int) = rd l n := by simp [rd]
      have hn : n < l.length := by simpa using h
      rw [e]
      simp only [List.set_cons_succ, S]
      rw [ih n hn]
      omega
theorem S_set' (l : List Int) (x i : Int) (h0 : 0 ≤ i) (h1 : i < l.length) : S (l.set i.toNat x) = S l + x - rd l i := by
  obtain ⟨n, rfl⟩ := nat_of h0
  exact S_set l x n (by omega)
theorem Free.after {l0 l1 : List Int} {i n : Int} (h : Free l0 l1 i n) : OK l0 (l1.set i.toNat (rd l1 i + n)) := by
  refine ⟨h.ok.pos, h.ok.le, by rw [List.length_set]; exact h.ok.eq, h.ok.a, fun x hx => ?_⟩
  have hp := h.ok.at1 h.i0 h.i1
  rcases List.mem_or_eq_of_mem_set hx with hx | rfl
  · exact h.ok.b x hx
  · have := h.fit; have := h.n0; omega
theorem Free.balF {l0 l1 : List Int} (h : OK l0 l1) {i : Int} (h0 : 0 ≤ i) (h1 : i < l0.length) : balF l0 l1 i = (bal l0 l1 i, 0) := by
  unfold Q.balF; rw [if_pos ⟨(valid_iff l0 l1).2 h, h0, h1⟩]
theorem balF_out (l0 l1 : List Int) {i : Int} (h : i < 0 ∨ (l0.length : Int) ≤ i) : Q.balF l0 l1 i = (0, 1) := by
  unfold Q.balF; rw [if_neg (by omega)]
end Go.Proofs.Ytkmfdkilimkbpaa.Q
