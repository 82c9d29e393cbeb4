/- For every total but the greatest one and weights, with a further seat just one party has one more, and all others have as many (at most 30 weights). -/
import Derived.Test.YtogpaeebkdopiaaPAllx
import Derived.Test.YtogpaeebkdopiaaQb
import Derived.Test.YtogpaeebkdopiaaQc
namespace Go.Proofs.Ytogpaeebkdopiaa.Pure
open Go.RowKit Go.Proofs.Ytogpaeebkdopiaa.PAll Go.Proofs.Ytogpaeebkdopiaa.Q Go.Proofs.Ytogpaeebkdopiaa.G Go.Proofs.YtogpaeebkdopiaaW.PrintWords Go.Proofs.YtogpaeebkdopiaaW.PrintLast
set_option linter.unusedVariables false

theorem next_l0 (w a : List Int) (m : Nat) (hm : m < a.length) (hl : a.length = w.length) (hw : w.length ≤ 30) (hb : ∀ i : Nat, i < w.length → 0 ≤ rd a i ∧ rd a i ≤ 1000) (d : Nat) : ∀ (k i : Nat), w.length - i = d → i ≤ w.length → d < k →
    observatorylaw28_ApportionNext.l0 k true w a (a.set m (rd a m + 1)) (if i ≤ m then 0 else 1) (i : Int) = some true := by
  induction d with
  | zero =>
    intro k i hd hi hk
    obtain ⟨k, rfl⟩ : ∃ q, k = q + 1 := ⟨k - 1, by omega⟩
    obtain rfl : i = w.length := by omega
    simp only [observatorylaw28_ApportionNext.l0]
    rw [if_neg (by omega), if_pos trivial, if_neg (by omega)]
    rfl
  | succ d ih =>
    intro k i hd hi hk
    obtain ⟨k, rfl⟩ : ∃ q, k = q + 1 := ⟨k - 1, by omega⟩
    have hlt : i < w.length := by omega
    have hbi := hb i hlt
    have hih := ih k (i + 1) (by omega) (by omega) (by omega)
    simp only [observatorylaw28_ApportionNext.l0]
    rw [if_pos (by omega), if_pos (by omega), if_pos (by rw [List.length_set]; omega), if_pos (by omega), rd_set a _ m i hm, w_succ hlt (by omega)]
    by_cases e : i = m
    · subst e
      rw [if_neg (by omega)] at hih
      rw [if_pos rfl, if_neg (by omega), w_in (n := rd a i + 1) (by omega) (by omega), if_pos rfl, w_in (n := rd a i + 1 - rd a i) (by omega) (by omega), if_pos (Nat.le_refl _), show (0 : Int) + (rd a i + 1 - rd a i) = 1 from by omega, w_in (n := 1) (by omega) (by omega)]
      exact hih
    · rw [if_neg e, if_pos rfl, w_in (n := rd a i - rd a i) (by omega) (by omega)]
      by_cases e2 : i ≤ m
      · rw [if_pos (by omega)] at hih
        rw [if_pos e2, show (0 : Int) + (rd a i - rd a i) = 0 from by omega, w_in (n := 0) (by omega) (by omega)]
        exact hih
      · rw [if_neg (by omega)] at hih
        rw [if_neg e2, show (1 : Int) + (rd a i - rd a i) = 1 from by omega, w_in (n := 1) (by omega) (by omega)]
        exact hih

theorem ApportionNext : observatorylaw28_ApportionNext.Pure := by
  intro a0 l1 ha _ _ hl1
  obtain ⟨T, w, hT, hw, hv⟩ := valid_f a0 l1 ha hl1
  obtain ⟨K, hK⟩ : ∃ K : Nat, K = 300 := ⟨_, rfl⟩
  obtain ⟨k, rfl⟩ : ∃ q, K = q + 1 := ⟨K - 1, by omega⟩
  refine ⟨k + 1, ?_⟩
  unfold observatorylaw28_ApportionNext.f observatorylaw28_head.f
  simp only [Option.bind_some]
  rw [hv _ (by omega)]
  simp only [Option.bind_some]
  by_cases h : (T : Int) = 720
  · rw [if_pos h]
  · rw [if_neg h, w_succ (i := T) (n := 800) (by omega) (by omega)]
    unfold apportion_Share.f
    have hll := hw.l2
    rw [share_eq hw.wt (by omega) hT, share_eq hw.wt (by omega) (by omega)]
    simp only [Option.bind_some]
    have A := seats_alloc hw.wt (T := T) (by omega)
    have B := seats_alloc hw.wt (T := T + 1) (by omega)
    rw [if_pos trivial, if_pos trivial, if_pos (by rw [A.len])]
    have e : (((seats w (T + 1)).length : Int) != (w.length : Int)) = false := by rw [B.len]; simp
    rw [e]
    obtain ⟨hs, he⟩ := (inv_iter w hw.wt T (by omega)).step hw.wt (by omega)
    have hI := inv_iter w hw.wt T (by omega)
    have hbl := (hI.best_pos hw.wt (by omega)).2
    have hset : seats w (T + 1) = (seats w T).set (bestTo (iterL (partsTo w w.length) T) (iterL (partsTo w w.length) T).length) (rd (seats w T) ((bestTo (iterL (partsTo w w.length) T) (iterL (partsTo w w.length) T).length : Nat) : Int) + 1) := by
      show (iterL (partsTo w w.length) (T + 1)).map Prod.snd = _
      show (stepL (iterL (partsTo w w.length) T)).map Prod.snd = _
      rw [he, List.map_set]
      show _ = (seats w T).set _ _
      unfold seats
      rw [snd_at _ _ (Nat.lt_of_lt_of_eq hbl hI.len.symm)]
    rw [hset]
    simp only [observatorylaw28_ApportionNext.j0]
    rw [if_neg (by decide)]
    have := next_l0 w (seats w T) _ (by rw [A.len]; exact hbl) A.len hw.l2 (fun i hi => ⟨A.s0 i hi, by have := A.st i hi; omega⟩) w.length k 0 (by omega) (by omega) (by omega)
    rw [if_pos (Nat.zero_le _)] at this
    exact this
end Go.Proofs.Ytogpaeebkdopiaa.Pure
