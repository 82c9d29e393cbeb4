/- For every total and weights, the seats add up to the total; each party has at least its part, rounded down, and none if its weight is 0 (at most 30 weights). -/
import Derived.Test.YtogpaeebkdopiaaPAllx
import Derived.Test.YtogpaeebkdopiaaQb
import Derived.Test.YtogpaeebkdopiaaQc
namespace Go.Proofs.Ytogpaeebkdopiaa.Pure
open Go.RowKit Go.Proofs.Ytogpaeebkdopiaa.PAll Go.Proofs.Ytogpaeebkdopiaa.Q Go.Proofs.Ytogpaeebkdopiaa.G Go.Proofs.YtogpaeebkdopiaaW.PrintWords Go.Proofs.YtogpaeebkdopiaaW.PrintLast
set_option linter.unusedVariables false

theorem sum_l1 (T : Nat) (w o : List Int) (A : Alloc T w o) (hw : VW w) (hT : T ≤ 720) (hS : 1 ≤ S w) (hS2 : S w ≤ 30000000000) (d : Nat) : ∀ (k i : Nat), w.length - i = d → i ≤ w.length → d < k →
    observatorylaw28_ApportionSum.l1 k true (T : Int) w o (T : Int) (S w) (i : Int) = some true := by
  have hl := hw.l2
  induction d with
  | zero =>
    intro k i hd hi hk
    obtain ⟨k, rfl⟩ : ∃ q, k = q + 1 := ⟨k - 1, by omega⟩
    obtain rfl : i = w.length := by omega
    simp only [observatorylaw28_ApportionSum.l1]
    rw [if_neg (by omega), if_pos trivial]
    simp
  | succ d ih =>
    intro k i hd hi hk
    obtain ⟨k, rfl⟩ : ∃ q, k = q + 1 := ⟨k - 1, by omega⟩
    have hlt : i < w.length := by omega
    have hb := hw.bd i hlt
    have hm := mul_bound (a := (T : Int)) (b := rd w i) (m := 720) (n := 1000000000) (by omega) hb.1 (by omega) hb.2
    have hp := A.part hw.bd (by omega) i hlt
    have hq : Int.tdiv (T * rd w i) (S w) ≤ rd o i := by
      rw [Int.tdiv_eq_ediv_of_nonneg hm.1]
      have := Int.ediv_lt_of_lt_mul (by omega) hp
      omega
    have hq0 : 0 ≤ Int.tdiv (T * rd w i) (S w) := Int.tdiv_nonneg hm.1 (by omega)
    have hst := A.st i hlt
    have hs0 := A.s0 i hlt
    simp only [observatorylaw28_ApportionSum.l1]
    rw [if_pos (by omega), if_pos (by omega), if_pos (by rw [A.len]; omega), if_neg (by omega), w_in (n := T * rd w i) (by omega) (by omega), w_in (n := Int.tdiv (T * rd w i) (S w)) (by omega) (by omega), if_neg (by omega), if_neg (by omega), w_succ hlt (by omega), ih k (i + 1) (by omega) (by omega) (by omega)]
    by_cases hz : rd w i = 0
    · rw [if_pos hz, if_neg (fun h => by have := A.zero i hlt h; omega)]
    · rw [if_neg hz]
theorem sum_l0 (T : Nat) (w o : List Int) (A : Alloc T w o) (hw : VW w) (hT : T ≤ 720) (d : Nat) : ∀ (k i : Nat) (x y : Int), w.length - i = d → i ≤ w.length → 0 ≤ x → x ≤ 720 * i → 0 ≤ y → y ≤ 1000000000 * i →
    observatorylaw28_ApportionSum.l0 (d + 1 + k) true (T : Int) w o x y (i : Int) = observatorylaw28_ApportionSum.l1 k true (T : Int) w o (x + S (o.drop i)) (y + S (w.drop i)) 0 := by
  have hl := hw.l2
  induction d with
  | zero =>
    intro k i x y hd hi _ _ _ _
    obtain rfl : i = w.length := by omega
    rw [show 0 + 1 + k = k + 1 from by omega]
    simp only [observatorylaw28_ApportionSum.l0]
    rw [if_neg (by omega), List.drop_length, List.drop_of_length_le (by rw [A.len]; exact Nat.le_refl _)]
    simp [S]
  | succ d ih =>
    intro k i x y hd hi x0 x1 y0 y1
    have hlt : i < w.length := by omega
    have hb := hw.bd i hlt
    have hst := A.st i hlt
    have hs0 := A.s0 i hlt
    rw [show d + 1 + 1 + k = (d + 1 + k) + 1 from by omega]
    simp only [observatorylaw28_ApportionSum.l0]
    rw [if_pos (by omega), if_pos (by omega), if_pos (by rw [A.len]; omega), w_in (n := x + rd o i) (by omega) (by omega), w_in (n := y + rd w i) (by omega) (by omega), w_succ hlt (by omega), ih k (i + 1) _ _ (by omega) (by omega) (by omega) (by omega) (by omega) (by omega), drop_at w i hlt, drop_at o i (by rw [A.len]; exact hlt)]
    simp only [S, Int.add_assoc]
theorem S_bound (w : List Int) (h : ∀ i : Nat, i < w.length → 0 ≤ rd w i ∧ rd w i ≤ 1000000000) : 0 ≤ S w ∧ S w ≤ w.length * 1000000000 := by
  induction w with
  | nil => simp [S]
  | cons x l ih =>
    have h0 := h 0 (by simp)
    rw [rd_cons_zero] at h0
    have := ih (fun i hi => by
      have := h (i + 1) (by simpa using hi)
      rwa [rd_cons_succ] at this)
    simp only [S, List.length_cons]
    omega

theorem ApportionSum : observatorylaw28_ApportionSum.Pure := by
  intro a0 l1 ha _ _ hl1
  obtain ⟨T, w, hT, hw, hv⟩ := valid_f a0 l1 ha hl1
  obtain ⟨K, hK⟩ : ∃ K : Nat, K = 300 := ⟨_, rfl⟩
  obtain ⟨k, rfl⟩ : ∃ q, K = q + 1 := ⟨K - 1, by omega⟩
  refine ⟨k + 1, ?_⟩
  unfold observatorylaw28_ApportionSum.f observatorylaw28_head.f
  simp only [Option.bind_some]
  rw [hv _ (by omega)]
  unfold apportion_Share.f
  have hll := hw.l2
  simp only [Option.bind_some]
  rw [share_eq hw.wt (by omega) hT]
  simp only
  have A := seats_alloc hw.wt (T := T) (by omega)
  rw [if_pos trivial]
  have e : (((seats w T).length : Int) != (w.length : Int)) = false := by rw [A.len]; simp
  rw [e]
  simp only [observatorylaw28_ApportionSum.j0]
  rw [if_neg (by decide)]
  have hSb := S_bound w hw.bd
  have hS1 : 1 ≤ S w := by
    have := S_lt (List.replicate w.length 0) w (by simp) (fun i hi => by
      have hi' : i < w.length := by simpa using hi
      rw [rd_nat _ i hi]; simp
      exact (hw.bd i hi').1) ⟨0, by simp; have := hw.l1; omega, by rw [rd_nat _ 0 (by simp; have := hw.l1; omega)]; simp; have := hw.first; simp at this; omega⟩
    have z := S_zero (List.replicate w.length 0) (fun i hi => by rw [rd_nat _ i hi]; simp)
    omega
  obtain ⟨q, hq⟩ : ∃ q, k = w.length + 1 + q := ⟨k - 1 - w.length, by omega⟩
  have h0 := sum_l0 T w (seats w T) A hw hT w.length q 0 0 0 (by omega) (by omega) (by omega) (by omega) (by omega) (by omega)
  rw [← hq] at h0
  refine Eq.trans h0 ?_
  rw [List.drop_zero, List.drop_zero, A.sum, Int.zero_add, Int.zero_add]
  exact sum_l1 T w _ A hw hT hS1 (by omega) w.length q 0 (by omega) (by omega) (by omega)
end Go.Proofs.Ytogpaeebkdopiaa.Pure
