/- For every shares and accounts that belong together, the balances of all partners exist and add up to 0 (at most 20 shares and accounts; else nothing is claimed). -/
import Derived.Test.YtkmfdkilimkbpaaPAllx4
import Derived.Test.YtkmfdkilimkbpaaQa
namespace Go.Proofs.Ytkmfdkilimkbpaa.Pure
open Go.RowKit Go.Proofs.Ytkmfdkilimkbpaa.PAll Go.Proofs.Ytkmfdkilimkbpaa.Q Go.Proofs.YtkmfdkilimkbpaaW.PrintWords Go.Proofs.YtkmfdkilimkbpaaW.PrintLast

theorem zs_l0 (l : List Int) (hb : ∀ x ∈ l, -16000000000 ≤ x ∧ x ≤ 16000000000) (hl : l.length ≤ 16) (d : Nat) : ∀ (k i : Nat) (x : Int), l.length - i = d → i ≤ l.length → d < k → -16000000000 * i ≤ x → x ≤ 16000000000 * i →
    observatorylaw26_BalanceZeroSum.l0 k true l true x (i : Int) = some (x + S (l.drop i) == 0) := by
  induction d with
  | zero =>
    intro k i x hd hi hk h0 h1
    obtain ⟨k, rfl⟩ : ∃ m, k = m + 1 := ⟨k - 1, by omega⟩
    obtain rfl : i = l.length := by omega
    simp only [observatorylaw26_BalanceZeroSum.l0]; rw [if_neg (by omega), List.drop_length]; simp [S]
  | succ d ih =>
    intro k i x hd hi hk h0 h1
    obtain ⟨k, rfl⟩ : ∃ m, k = m + 1 := ⟨k - 1, by omega⟩
    have hlt : i < l.length := by omega
    have hx := hb _ (rd_mem l i hlt)
    simp only [observatorylaw26_BalanceZeroSum.l0]
    rw [if_pos (by omega), if_pos (by omega), w_succ hlt (by omega), w_in (by omega) (by omega), ih k (i + 1) _ (by omega) (by omega) (by omega) (by omega) (by omega), drop_at l i hlt]
    simp only [S]; congr 2; omega
theorem S_append (a b : List Int) : S (a ++ b) = S a + S b := by
  induction a with
  | nil => simp [S]
  | cons x a ih => simp only [List.cons_append, S, ih]; omega
theorem S_take_succ (l : List Int) (n : Nat) (h : n < l.length) : S (l.take (n + 1)) = S (l.take n) + rd l n := by
  rw [List.take_succ_eq_append_getElem h, S_append, rd_nat l n h]; simp [S]
theorem S_bals (l0 l1 : List Int) (he : l1.length = l0.length) (n : Nat) (h : n ≤ l0.length) : S (bals l0 l1 n) = S (l0.take n) * S l1 - S (l1.take n) * S l0 := by
  induction n with
  | zero => simp [bals, S]
  | succ n ih =>
    rw [bals_succ, S_append, ih (by omega), S_take_succ l0 n (by omega), S_take_succ l1 n (by omega), Int.add_mul, Int.add_mul]
    simp only [S, bal]; omega
theorem mem_bals {l0 l1 : List Int} {n : Nat} {x : Int} (h : x ∈ bals l0 l1 n) : ∃ i : Nat, i < n ∧ x = bal l0 l1 i := by
  unfold bals at h
  rw [List.mem_map] at h
  obtain ⟨i, hi, rfl⟩ := h
  exact ⟨i, by simpa using hi, rfl⟩

theorem BalanceZeroSum : observatorylaw26_BalanceZeroSum.Pure := by
  intro l0 l1 _ _ _ _ _ _
  refine ⟨300, ?_⟩
  unfold observatorylaw26_BalanceZeroSum.f observatorylaw26_head.f
  simp only [Option.bind_some]
  rw [few_f]
  simp only [Option.bind_some]
  by_cases h : l0.length ≤ 20 ∧ l1.length ≤ 20
  · rw [decide_eq_true h, if_pos rfl]
    unfold balance_Valid.f
    cases hv : G.validB l0 l1 with
    | true =>
      have ok := (valid_iff l0 l1).1 hv
      have := ok.le
      rw [all_ok l0 l1 hv _ (by omega)]
      simp only [Option.bind_some]
      rw [if_pos trivial]
      have hz := zs_l0 (bals l0 l1 l0.length) (fun x hx => by
        obtain ⟨i, hi, rfl⟩ := mem_bals hx
        exact ok.bal_bound (by omega) (by omega)) (by rw [bals_length]; omega) l0.length 300 0 0 (by rw [bals_length]; omega) (by omega) (by omega) (by omega) (by omega)
      refine hz.trans ?_
      rw [List.drop_zero, S_bals l0 l1 ok.eq l0.length (Nat.le_refl _), List.take_length, ← ok.eq, List.take_length, Int.mul_comm]
      simp
    | false =>
      rw [all_no l0 l1 hv _ (by omega)]
      simp only [Option.bind_some]
      rw [if_neg (by decide), if_pos trivial]
      by_cases h0 : l0.length = 0
      · rw [decide_eq_true h0, if_pos rfl]; simp [h0]
      · rw [decide_eq_false h0, if_neg (by decide)]
  · rw [decide_eq_false h]; simp
end Go.Proofs.Ytkmfdkilimkbpaa.Pure
