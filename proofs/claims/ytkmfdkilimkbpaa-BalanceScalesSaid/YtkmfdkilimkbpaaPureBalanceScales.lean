/- For every shares, accounts and two factors from 1 to 8, if shares and accounts belong together when the shares are multiplied by the first, and the accounts by the second factor, all balances are multiplied by both (at most 20 shares and accounts that belong together; else nothing is claimed). -/
import Derived.Test.YtkmfdkilimkbpaaPAllx5
import Derived.Test.YtkmfdkilimkbpaaQb
namespace Go.Proofs.Ytkmfdkilimkbpaa.Pure
open Go.RowKit Go.Proofs.Ytkmfdkilimkbpaa.PAll Go.Proofs.Ytkmfdkilimkbpaa.Q Go.Proofs.YtkmfdkilimkbpaaW.PrintWords Go.Proofs.YtkmfdkilimkbpaaW.PrintLast

theorem S_times (l : List Int) (c : Int) : S (l.map fun x => x * c) = S l * c := by
  induction l with
  | nil => simp [S]
  | cons x l ih => simp only [List.map_cons, S, ih, Int.add_mul]
theorem rd_times (l : List Int) (c : Int) (n : Nat) (h : n < l.length) : rd (l.map fun x => x * c) n = rd l n * c := by
  rw [rd_nat _ n (by simpa using h), rd_nat l n h]; simp
theorem times_plain {l : List Int} {c : Int} (h0 : 0 ≤ c) (h1 : c ≤ 8) (h : ∀ x ∈ l, 0 ≤ x ∧ x ≤ 1000000) : (l.map fun x => wrap64 (x * c)) = l.map fun x => x * c := by
  apply List.map_congr_left
  intro x hx
  have := h x hx
  have hb := mul_bound (a := x) (b := c) (m := 1000000) (n := 8) (by omega) h0 (by omega) h1
  exact w_in (by omega) (by omega)
theorem bal_times (l0 l1 : List Int) (c m : Int) (i : Nat) (h0 : i < l0.length) (h1 : i < l1.length) : bal (l0.map fun x => x * c) (l1.map fun x => x * m) i = bal l0 l1 i * (c * m) := by
  unfold bal
  rw [rd_times l0 c i h0, rd_times l1 m i h1, S_times, S_times, Int.sub_mul]
  congr 1
  · rw [Int.mul_assoc, Int.mul_assoc, ← Int.mul_assoc c, Int.mul_comm c (S l1), Int.mul_assoc (S l1)]
  · rw [Int.mul_assoc, Int.mul_assoc, ← Int.mul_assoc m, Int.mul_comm m (S l0), Int.mul_assoc (S l0), Int.mul_comm m c]
theorem wrap_small {x q : Int} (h0 : -16000000000 ≤ x) (h1 : x ≤ 16000000000) (q0 : 0 ≤ q) (q1 : q ≤ 64) : wrap64 (x * q) = x * q := by
  have a := mul_bound (a := x + 16000000000) (b := q) (m := 32000000000) (n := 64) (by omega) q0 (by omega) q1
  rw [Int.add_mul] at a
  exact w_in (by omega) (by omega)
theorem factor {a : Int} (h : (Lit.int .u8 a).wf = true) : ∃ c, wrap64 (1 + Int.tmod (wrap64 a) 8) = c ∧ 1 ≤ c ∧ c ≤ 8 := by
  simp [Lit.wf, IntKind.min, IntKind.max, IntKind.signed, IntKind.bits] at h
  refine ⟨_, rfl, ?_⟩
  rw [w_in (n := a) (by omega) (by omega), Int.tmod_eq_emod_of_nonneg (by omega), w_in (by omega) (by omega)]
  omega

theorem BalanceScales : observatorylaw26_BalanceScales.Pure := by
  intro l0 l1 a b _ _ _ _ _ _ hwa hwb
  obtain ⟨K, hK⟩ : ∃ K : Nat, K = 300 := ⟨_, rfl⟩
  obtain ⟨k, rfl⟩ : ∃ q, K = q + 1 := ⟨K - 1, by omega⟩
  refine ⟨k + 1, ?_⟩
  unfold observatorylaw26_BalanceScales.f observatorylaw26_head.f
  simp only [Option.bind_some]
  rw [few_f]
  simp only [Option.bind_some]
  obtain ⟨c, hc, c0, c1⟩ := factor hwa
  obtain ⟨m, hm, m0, m1⟩ := factor hwb
  rw [hc, hm]
  have hj : observatorylaw26_BalanceScales.j0 (k + 1) l0 l1 true c m true = some true := by simp only [observatorylaw26_BalanceScales.j0]; rfl
  by_cases h : l0.length ≤ 20 ∧ l1.length ≤ 20
  · rw [decide_eq_true h, if_pos rfl, times_f _ _ (by omega) _ (by omega), times_f _ _ (by omega) _ (by omega)]
    unfold balance_Valid.f
    simp only [Option.bind_some]
    cases hv : G.validB l0 l1 with
    | false => rw [if_neg (by decide), hj]
    | true =>
      rw [if_pos rfl]
      have ok := (valid_iff _ _).1 hv
      have e0 := times_plain (c := c) (by omega) c1 (l := l0) (fun x hx => by have := ok.a x hx; omega)
      have e1 := times_plain (c := m) (by omega) m1 (l := l1) ok.b
      rw [e0, e1]
      cases hv2 : G.validB (l0.map fun x => x * c) (l1.map fun x => x * m) with
      | false => exact hj
      | true =>
        have ok2 := (valid_iff _ _).1 hv2
        have le := ok.le
        have eq := ok.eq
        have hcm := mul_bound (a := c) (b := m) (m := 8) (n := 8) (by omega) (by omega) c1 m1
        simp only [observatorylaw26_BalanceScales.j0]
        rw [if_neg (by decide), all_ok l0 l1 hv _ (by omega), times_f _ _ (by omega) _ (by omega), times_f _ _ (by omega) _ (by omega)]
        simp only [Option.bind_some]
        rw [e0, e1, all_ok _ _ hv2 _ (by omega)]
        simp only [Option.bind_some]
        rw [if_pos trivial, if_pos trivial, if_pos trivial, times_f _ _ (by rw [bals_length]; omega) _ (by omega)]
        simp only [Option.bind_some]
        rw [ints_f _ _ (by rw [bals_length]; simp; omega) _ (by omega), w_in (n := c * m) (by omega) (by omega)]
        simp only [Option.bind_some]
        have e : bals (l0.map fun x => x * c) (l1.map fun x => x * m) (l0.map fun x => x * c).length = (bals l0 l1 l0.length).map fun x => wrap64 (x * (c * m)) := by
          rw [List.length_map]
          unfold bals
          rw [List.map_map]
          apply List.map_congr_left
          intro i hi
          have hi : i < l0.length := by simpa using hi
          have hb := ok.bal_bound (i := i) (by omega) (by omega)
          rw [bal_times l0 l1 c m i hi (by omega)]
          exact (wrap_small hb.1 hb.2 hcm.1 (by omega)).symm
        rw [e, decide_eq_true rfl]
  · rw [decide_eq_false h, if_neg (by decide), hj]
end Go.Proofs.Ytkmfdkilimkbpaa.Pure
