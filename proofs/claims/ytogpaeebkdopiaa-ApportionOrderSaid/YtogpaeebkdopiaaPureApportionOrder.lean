/- For every total and weights, of every two parties the one with the greater weight has at least as many seats, equal weights differ by at most one seat; the quotient for the next seat of a party is not greater than that of the last seat of another one, and if both are equal, the index of this one is less (at most 30 weights). -/
import Derived.Test.YtogpaeebkdopiaaPAllx
import Derived.Test.YtogpaeebkdopiaaQb
import Derived.Test.YtogpaeebkdopiaaQc
namespace Go.Proofs.Ytogpaeebkdopiaa.Pure
open Go.RowKit Go.Proofs.Ytogpaeebkdopiaa.PAll Go.Proofs.Ytogpaeebkdopiaa.Q Go.Proofs.Ytogpaeebkdopiaa.G Go.Proofs.YtogpaeebkdopiaaW.PrintWords Go.Proofs.YtogpaeebkdopiaaW.PrintLast
set_option linter.unusedVariables false

theorem ord_j3 (T : Nat) (w o : List Int) (A : Alloc T w o) (hw : VW w) (hT : T ≤ 720) (i j : Nat) (hi : i < w.length) (hj : j < w.length) (k : Nat) :
    observatorylaw28_ApportionOrder.j3 (k + 1) true w o (i : Int) (j : Int) false = observatorylaw28_ApportionOrder.l1 k true w o (i : Int) ((j + 1 : Nat) : Int) := by
  have hl := hw.l2
  have hbi := hw.bd i hi; have hbj := hw.bd j hj
  have hsi := A.s0 i hi; have hsj := A.s0 j hj; have hti := A.st i hi; have htj := A.st j hj
  have m1 := mul_bound (a := rd w i) (b := rd o j) (m := 1000000000) (n := 720) hbi.1 hsj hbi.2 (by omega)
  have m2 := mul_bound (a := rd w j) (b := rd o i + 1) (m := 1000000000) (n := 721) hbj.1 (by omega) hbj.2 (by omega)
  have lo := A.len
  simp only [observatorylaw28_ApportionOrder.j3]
  rw [if_neg (by decide), if_pos (by omega), if_pos (by omega), if_pos (by omega), if_pos (by omega), if_pos (by omega), if_pos (by omega), w_succ (i := j) (n := 31) (by omega) (by omega)]
  by_cases e : (i : Int) = j
  · rw [if_pos e]
  · rw [if_neg e]
    by_cases hp : rd o j > 0
    · rw [if_pos hp, w_in (n := rd w i * rd o j) (by omega) (by omega), w_in (n := rd o i + 1) (by omega) (by omega), w_in (n := rd w j * (rd o i + 1)) (by omega) (by omega)]
      have hlast := A.last i j hi hj (by omega) hp
      rcases hlast with h | ⟨h, h2⟩
      · rw [if_neg (by omega), if_neg (by omega)]
      · rw [if_neg (by omega), if_pos h, if_neg (by omega)]
    · rw [if_neg hp]
theorem ord_l1 (T : Nat) (w o : List Int) (A : Alloc T w o) (hw : VW w) (hT : T ≤ 720) (i : Nat) (hi : i < w.length) (d : Nat) : ∀ (k j : Nat), w.length - j = d → j ≤ w.length →
    observatorylaw28_ApportionOrder.l1 (2 * d + 1 + k) true w o (i : Int) (j : Int) = observatorylaw28_ApportionOrder.l0 k true w o ((i + 1 : Nat) : Int) := by
  have hl := hw.l2
  have lo := A.len
  induction d with
  | zero =>
    intro k j hd hj
    obtain rfl : j = w.length := by omega
    rw [show 2 * 0 + 1 + k = k + 1 from by omega]
    simp only [observatorylaw28_ApportionOrder.l1]
    rw [if_neg (by omega), w_succ hi (by omega)]
  | succ d ih =>
    intro k j hd hj
    have hlt : j < w.length := by omega
    have hih := ih k (j + 1) (by omega) (by omega)
    have hbj := hw.bd j hlt
    have hsj := A.s0 j hlt; have htj := A.st j hlt
    have h3 := ord_j3 T w o A hw hT i j hi hlt (2 * d + 1 + k)
    rw [show 2 * (d + 1) + 1 + k = (2 * d + 1 + k) + 1 + 1 from by omega]
    have e1 : decide (rd o i > wrap64 (rd o j + 1)) = false ∨ rd w i ≠ rd w j := by
      by_cases h : rd w i = rd w j
      · have := A.even i j hi hlt h
        exact .inl (decide_eq_false (by rw [w_in (by omega) (by omega)]; omega))
      · exact .inr h
    simp only [observatorylaw28_ApportionOrder.l1]
    rw [if_pos (by omega), if_pos (by omega), if_pos (by omega), if_pos (by omega)]
    by_cases g : rd w i > rd w j
    · have := A.more i j hi hlt g hbj.1
      rw [if_pos g, if_pos (by omega), if_pos (by omega), if_neg (by omega), if_neg (by omega), h3]; exact hih
    · rw [if_neg g]
      by_cases q : rd w i = rd w j
      · rw [if_pos q, if_pos (by omega), if_pos (by omega)]
        rcases e1 with e1 | e1
        · rw [e1, h3]; exact hih
        · exact absurd q e1
      · rw [if_neg q, h3]; exact hih
theorem ord_l0 (T : Nat) (w o : List Int) (A : Alloc T w o) (hw : VW w) (hT : T ≤ 720) (d : Nat) : ∀ (k i : Nat), w.length - i = d → i ≤ w.length →
    observatorylaw28_ApportionOrder.l0 ((2 * w.length + 2) * d + 1 + k) true w o (i : Int) = some true := by
  induction d with
  | zero =>
    intro k i hd hi
    obtain rfl : i = w.length := by omega
    rw [show (2 * w.length + 2) * 0 + 1 + k = k + 1 from by omega]
    simp only [observatorylaw28_ApportionOrder.l0]
    rw [if_neg (by omega)]
  | succ d ih =>
    intro k i hd hi
    have hlt : i < w.length := by omega
    rw [show (2 * w.length + 2) * (d + 1) + 1 + k = (2 * w.length + 1 + ((2 * w.length + 2) * d + 1 + k)) + 1 from by rw [Nat.mul_add]; omega]
    simp only [observatorylaw28_ApportionOrder.l0]
    rw [if_pos (by omega)]
    have := ord_l1 T w o A hw hT i hlt w.length ((2 * w.length + 2) * d + 1 + k) 0 (by omega) (by omega)
    refine Eq.trans this ?_
    exact ih k (i + 1) (by omega) (by omega)

theorem ApportionOrder : observatorylaw28_ApportionOrder.Pure := by
  intro a0 l1 ha _ _ hl1
  obtain ⟨T, w, hT, hw, hv⟩ := valid_f a0 l1 ha hl1
  obtain ⟨k, hk⟩ : ∃ k, k = (2 * w.length + 2) * w.length + 1 + 300 := ⟨_, rfl⟩
  refine ⟨k + 1, ?_⟩
  unfold observatorylaw28_ApportionOrder.f observatorylaw28_head.f
  simp only [Option.bind_some]
  rw [hv _ (by omega)]
  unfold apportion_Share.f
  have hll := hw.l2
  simp only [Option.bind_some]
  rw [share_eq hw.wt (by omega) hT]
  simp only
  have A := seats_alloc hw.wt (T := T) (by omega)
  rw [if_pos trivial]
  have e : (((seats w T).length : Int) != (w.length : Int)) = false := by rw [A.len]; simp
  rw [e]
  simp only [observatorylaw28_ApportionOrder.j0]
  rw [if_neg (by decide), hk]
  exact ord_l0 T w _ A hw hT w.length 300 0 (by omega) (by omega)
end Go.Proofs.Ytogpaeebkdopiaa.Pure
