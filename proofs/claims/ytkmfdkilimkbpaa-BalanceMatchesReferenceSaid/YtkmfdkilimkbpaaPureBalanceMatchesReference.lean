/- For every shares, accounts, partner and slots, the functions of package balance agree with the reference (at most 20 shares and accounts; else nothing is compared). -/
import Derived.Test.YtkmfdkilimkbpaaPAllx4
import Derived.Test.YtkmfdkilimkbpaaQa
namespace Go.Proofs.Ytkmfdkilimkbpaa.Pure
open Go.RowKit Go.Proofs.Ytkmfdkilimkbpaa.PAll Go.Proofs.Ytkmfdkilimkbpaa.Q Go.Proofs.YtkmfdkilimkbpaaW.PrintWords Go.Proofs.YtkmfdkilimkbpaaW.PrintLast

theorem chargeF_le (l0 l1 : List Int) (i n : Int) (h : l1.length ≤ 20) : (G.chargeF l0 l1 i n).1.length ≤ 20 := by
  unfold G.chargeF
  split
  · simp
  · split <;> simp <;> omega

theorem BalanceMatchesReference : observatorylaw26_BalanceMatchesReference.Pure := by
  intro l0 l1 i n _ _ _ _ _ _ _ _
  refine ⟨300, ?_⟩
  unfold observatorylaw26_BalanceMatchesReference.f observatorylaw26_head.f
  simp only [Option.bind_some]
  rw [few_f]
  simp only [Option.bind_some]
  by_cases h : l0.length ≤ 20 ∧ l1.length ≤ 20
  · rw [decide_eq_true h, if_pos rfl, balance_f _ _ _ _ (by omega), rbalance_f _ _ _ _ (by omega), rcharge_f _ _ _ _ _ (by omega), rvalid_f _ _ _ (by omega)]
    unfold balance_Charge.f balance_Valid.f
    simp only [Option.bind_some]
    rw [ints_f _ _ (by have := chargeF_le l0 l1 i n h.2; omega) _ (by omega)]
    simp
  · rw [decide_eq_false h]; simp
end Go.Proofs.Ytkmfdkilimkbpaa.Pure
