/- For every valid shares and factor from 0 to 1000, if each partner has used as many times its share as the factor says, all balances are 0 (at most 20 shares; else nothing is claimed). -/
import Derived.Test.YtkmfdkilimkbpaaPAllx5
import Derived.Test.YtkmfdkilimkbpaaQa
namespace Go.Proofs.Ytkmfdkilimkbpaa.Pure
open Go.RowKit Go.Proofs.Ytkmfdkilimkbpaa.PAll Go.Proofs.Ytkmfdkilimkbpaa.Q Go.Proofs.YtkmfdkilimkbpaaW.PrintWords Go.Proofs.YtkmfdkilimkbpaaW.PrintLast

theorem S_times (l : List Int) (c : Int) : S (l.map fun x => x * c) = S l * c := by
  induction l with
  | nil => simp [S]
  | cons x l ih => simp only [List.map_cons, S, ih, Int.add_mul]
theorem rd_times (l : List Int) (c : Int) (n : Nat) (h : n < l.length) : rd (l.map fun x => x * c) n = rd l n * c := by
  rw [rd_nat _ n (by simpa using h), rd_nat l n h]; simp
theorem times_plain {l : List Int} {c : Int} (h0 : 0 ≤ c) (h1 : c ≤ 1000) (h : ∀ x ∈ l, 1 ≤ x ∧ x ≤ 1000) : (l.map fun x => wrap64 (x * c)) = l.map fun x => x * c := by
  apply List.map_congr_left
  intro x hx
  have := h x hx
  have hb := mul_bound (a := x) (b := c) (m := 1000) (n := 1000) (by omega) h0 (by omega) h1
  exact w_in (by omega) (by omega)
theorem fair_l0 (l0 l : List Int) (hz : ∀ x ∈ l, x = 0) (hl : l.length ≤ 16) (he : l.length = l0.length) (d : Nat) : ∀ (k i : Nat), l.length - i = d → i ≤ l.length → d < k →
    observatorylaw26_BalanceFair.l0 k l0 true l true (i : Int) = some true := by
  induction d with
  | zero =>
    intro k i hd hi hk
    obtain ⟨k, rfl⟩ : ∃ m, k = m + 1 := ⟨k - 1, by omega⟩
    obtain rfl : i = l.length := by omega
    simp only [observatorylaw26_BalanceFair.l0]; rw [if_neg (by omega)]; simp [he]
  | succ d ih =>
    intro k i hd hi hk
    obtain ⟨k, rfl⟩ : ∃ m, k = m + 1 := ⟨k - 1, by omega⟩
    have hlt : i < l.length := by omega
    simp only [observatorylaw26_BalanceFair.l0]
    rw [if_pos (by omega), if_pos (by omega), if_pos (hz _ (rd_mem l i hlt)), w_succ hlt (by omega)]
    exact ih k (i + 1) (by omega) (by omega) (by omega)

theorem BalanceFair : observatorylaw26_BalanceFair.Pure := by
  intro l0 a _ _ _ hwa
  refine ⟨300, ?_⟩
  unfold observatorylaw26_BalanceFair.f observatorylaw26_head.f
  simp only [Option.bind_some]
  rw [few_f]
  simp only [Option.bind_some]
  have ha : 0 ≤ a ∧ a ≤ 65535 := by
    simp [Lit.wf, IntKind.min, IntKind.max, IntKind.signed, IntKind.bits] at hwa
    exact hwa
  have hc : ∃ c, Int.tmod (wrap64 a) 1001 = c ∧ 0 ≤ c ∧ c ≤ 1000 := by
    refine ⟨_, rfl, ?_⟩
    rw [w_in (by omega) (by omega), Int.tmod_eq_emod_of_nonneg (by omega)]
    omega
  obtain ⟨c, hcc, c0, c1⟩ := hc
  rw [hcc]
  by_cases h : l0.length ≤ 20 ∧ ([] : List Int).length ≤ 20
  · rw [decide_eq_true h, if_pos rfl, times_f _ _ (by omega) _ (by omega)]
    unfold balance_Valid.f
    simp only [Option.bind_some]
    cases hv : G.validB l0 (l0.map fun x => wrap64 (x * c)) with
    | true =>
      have ok := (valid_iff _ _).1 hv
      have := ok.le
      rw [all_ok _ _ hv _ (by omega)]
      simp only [Option.bind_some]
      rw [if_pos trivial]
      refine fair_l0 l0 _ (fun x hx => ?_) (by rw [bals_length]; omega) (bals_length _ _ _) l0.length 300 0 (by rw [bals_length]; omega) (by omega) (by omega)
      unfold bals at hx
      rw [List.mem_map] at hx
      obtain ⟨i, hi, rfl⟩ := hx
      have hi : i < l0.length := by simpa using hi
      rw [times_plain c0 c1 ok.a]
      unfold bal
      rw [rd_times l0 c i hi, S_times, ← Int.mul_assoc, Int.mul_right_comm (rd l0 i) c (S l0)]
      omega
    | false =>
      rw [all_no _ _ hv _ (by omega)]
      simp only [Option.bind_some]
      rw [if_neg (by decide), if_pos trivial]
      by_cases h0 : l0.length = 0
      · rw [decide_eq_true h0, if_pos rfl]; simp [h0]
      · rw [decide_eq_false h0, if_neg (by decide)]
  · rw [decide_eq_false h]; simp
end Go.Proofs.Ytkmfdkilimkbpaa.Pure
