/- For every shares, accounts, two partners and two numbers of slots, the order of two charges makes no difference if both orders have no error; two charges to one partner are one with the sum of the slots, or have an error exactly if this has one, if the sum is at most 1000000 (at most 20 shares and accounts, slots from 0 to 1000000; else nothing is claimed). -/
import Derived.Test.YtkmfdkilimkbpaaPAllx4
import Derived.Test.YtkmfdkilimkbpaaQb
namespace Go.Proofs.Ytkmfdkilimkbpaa.Pure
open Go.RowKit Go.Proofs.Ytkmfdkilimkbpaa.PAll Go.Proofs.Ytkmfdkilimkbpaa.Q Go.Proofs.YtkmfdkilimkbpaaW.PrintWords Go.Proofs.YtkmfdkilimkbpaaW.PrintLast

theorem charge_le (l0 l1 : List Int) (i n : Int) (h : l1.length ≤ 20) : (G.chargeF l0 l1 i n).1.length ≤ 20 := by
  unfold G.chargeF
  split
  · simp
  · split <;> simp <;> omega
/-- The error of a charge to valid accounts of a valid partner. -/
theorem charge_err {l0 l1 : List Int} {i n : Int} (ok : OK l0 l1) (h0 : 0 ≤ i) (h1 : i < l1.length) (n0 : 0 ≤ n) (n1 : n ≤ 1000000) (h : 1000000 < rd l1 i + n) : G.chargeF l0 l1 i n = ([], 9) := by
  have hv := (valid_iff l0 l1).2 ok
  have hb : G.bad 0 1000000 n = false := bad_false.2 ⟨n0, n1⟩
  have hp := ok.at1 h0 h1
  unfold G.chargeF
  rw [if_neg (by rw [hv, hb]; simp; omega), w_in (by omega) (by omega), if_pos (by omega)]
theorem set_two (l : List Int) (i j : Int) (x y : Int) (h0 : 0 ≤ i) (h1 : 0 ≤ j) (h : i ≠ j) : (l.set i.toNat x).set j.toNat y = (l.set j.toNat y).set i.toNat x :=
  List.set_comm _ _ (by omega)
/-- Both orders come to the same accounts. -/
theorem swap_eq {l0 l1 : List Int} {i j n m : Int} (hi : Free l0 l1 i n) (hj : Free l0 l1 j m) : G.chargeF l0 (G.chargeF l0 l1 i n).1 j m = G.chargeF l0 (G.chargeF l0 l1 j m).1 i n := by
  rw [charge_free hi, charge_free hj]
  simp only
  have i0 := hi.i0; have i1 := hi.i1; have j0 := hj.i0; have j1 := hj.i1
  have a1 := rd_set l1 i j (rd l1 i + n) i0 i1 j0 j1
  have a2 := rd_set l1 j i (rd l1 j + m) j0 j1 i0 i1
  by_cases e : i = j
  · subst e
    rw [if_pos rfl] at a1 a2
    by_cases hf : rd l1 i + n + m ≤ 1000000
    · have f1 : Free l0 (l1.set i.toNat (rd l1 i + n)) i m := ⟨hi.after, i0, by rw [List.length_set]; exact i1, hj.n0, hj.n1, by rw [a1]; omega⟩
      have f2 : Free l0 (l1.set i.toNat (rd l1 i + m)) i n := ⟨hj.after, i0, by rw [List.length_set]; exact i1, hi.n0, hi.n1, by rw [a2]; omega⟩
      rw [charge_free f1, charge_free f2, a1, a2, List.set_set, List.set_set]
      congr 2; omega
    · rw [charge_err hi.after i0 (by rw [List.length_set]; exact i1) hj.n0 hj.n1 (by rw [a1]; omega), charge_err hj.after i0 (by rw [List.length_set]; exact i1) hi.n0 hi.n1 (by rw [a2]; omega)]
  · rw [if_neg e] at a1
    rw [if_neg (fun h => e h.symm)] at a2
    have f1 : Free l0 (l1.set i.toNat (rd l1 i + n)) j m := ⟨hi.after, j0, by rw [List.length_set]; exact j1, hj.n0, hj.n1, by rw [a1]; exact hj.fit⟩
    have f2 : Free l0 (l1.set j.toNat (rd l1 j + m)) i n := ⟨hj.after, i0, by rw [List.length_set]; exact i1, hi.n0, hi.n1, by rw [a2]; exact hi.fit⟩
    rw [charge_free f1, charge_free f2, a1, a2, set_two l1 i j _ _ i0 j0 e]
/-- Two charges to one partner are one. -/
theorem both_eq {l0 l1 : List Int} {i n m : Int} (hi : Free l0 l1 i n) (m0 : 0 ≤ m) (hs : n + m ≤ 1000000) : G.chargeF l0 (G.chargeF l0 l1 i n).1 i m = G.chargeF l0 l1 i (n + m) := by
  rw [charge_free hi]
  simp only
  have i0 := hi.i0; have i1 := hi.i1; have n0 := hi.n0
  have a1 := rd_set l1 i i (rd l1 i + n) i0 i1 i0 i1
  rw [if_pos rfl] at a1
  by_cases hf : rd l1 i + n + m ≤ 1000000
  · have f1 : Free l0 (l1.set i.toNat (rd l1 i + n)) i m := ⟨hi.after, i0, by rw [List.length_set]; exact i1, m0, by omega, by rw [a1]; omega⟩
    have f2 : Free l0 l1 i (n + m) := ⟨hi.ok, i0, i1, by omega, hs, by omega⟩
    rw [charge_free f1, charge_free f2, a1, List.set_set]
    congr 2; omega
  · rw [charge_err hi.after i0 (by rw [List.length_set]; exact i1) m0 (by omega) (by rw [a1]; omega), charge_err hi.ok i0 i1 (by omega) hs (by omega)]

theorem steps_j1 (l0 l1 : List Int) (one two n m : Int) (b : List Int) (f : Int) (k : Nat) (hk : 210 < k) (hbl : b.length ≤ 20) (n0 : 0 ≤ n) (n1 : n ≤ 1000000) (m0 : 0 ≤ m) (m1 : m ≤ 1000000)
    (he : one = two → n + m ≤ 1000000 → (b, f) = G.chargeF l0 l1 one (n + m)) : observatorylaw26_BalanceSteps.j1 k l0 l1 one two n m true b f = some true := by
  obtain ⟨k, rfl⟩ : ∃ q, k = q + 2 := ⟨k - 2, by omega⟩
  have ht : observatorylaw26_BalanceSteps.j2 (k + 1) l0 l1 one n m true b f true = some true := by simp only [observatorylaw26_BalanceSteps.j2]; rfl
  simp only [observatorylaw26_BalanceSteps.j1]
  by_cases e : one = two
  · rw [if_pos e, w_in (by omega) (by omega)]
    by_cases h : n + m > 1000000
    · rw [decide_eq_true h, ht]
    · rw [decide_eq_false h]
      simp only [observatorylaw26_BalanceSteps.j2]
      rw [if_neg (by decide), w_in (by omega) (by omega)]
      unfold balance_Charge.f
      simp only [Option.bind_some]
      have hh := he e (by omega)
      rw [← hh]
      simp only
      rw [ints_f _ _ (by omega) _ (by omega)]
      simp
  · rw [if_neg e, ht]

theorem BalanceSteps : observatorylaw26_BalanceSteps.Pure := by
  intro l0 l1 one two n m _ _ _ _ _ _ _ _ _ _
  obtain ⟨K, hK⟩ : ∃ K : Nat, K = 300 := ⟨_, rfl⟩
  obtain ⟨k, rfl⟩ : ∃ q, K = q + 1 := ⟨K - 1, by omega⟩
  refine ⟨k + 1, ?_⟩
  unfold observatorylaw26_BalanceSteps.f observatorylaw26_head.f
  simp only [Option.bind_some]
  rw [few_f]
  simp only [Option.bind_some]
  have hj : observatorylaw26_BalanceSteps.j0 (k + 1) l0 l1 one two n m true true = some true := by simp only [observatorylaw26_BalanceSteps.j0]; rfl
  by_cases h : l0.length ≤ 20 ∧ l1.length ≤ 20
  · rw [decide_eq_true h, if_pos rfl]
    by_cases h1 : n < 0
    · rw [if_pos h1, hj]
    rw [if_neg h1]
    by_cases h2 : n > 1000000
    · rw [if_pos h2, hj]
    rw [if_neg h2]
    by_cases h3 : m < 0
    · rw [if_pos h3, hj]
    rw [if_neg h3]
    by_cases h4 : m > 1000000
    · rw [decide_eq_true h4, hj]
    rw [decide_eq_false h4]
    simp only [observatorylaw26_BalanceSteps.j0]
    rw [if_neg (by decide)]
    unfold balance_Charge.f
    simp only [Option.bind_some]
    by_cases hf : Free l0 l1 one n
    · rw [if_pos (by rw [charge_free hf])]
      have hle := charge_le l0 (G.chargeF l0 l1 one n).1 two m (charge_le l0 l1 one n h.2)
      have hj1 : observatorylaw26_BalanceSteps.j1 k l0 l1 one two n m true (G.chargeF l0 (G.chargeF l0 l1 one n).1 two m).1 (G.chargeF l0 (G.chargeF l0 l1 one n).1 two m).2 = some true :=
        steps_j1 l0 l1 one two n m _ _ k (by omega) hle (by omega) (by omega) (by omega) (by omega) (fun e hs => by subst e; exact both_eq hf (by omega) hs)
      by_cases hg : Free l0 l1 two m
      · rw [if_pos (by rw [charge_free hg]), ← swap_eq hf hg, if_pos rfl, ints_f _ _ (by omega) _ (by omega)]
        simp only [Option.bind_some]
        rw [decide_eq_true trivial, if_pos rfl, hj1]
      · obtain ⟨_, hc2⟩ := charge_not hg
        rw [if_neg (by rcases hc2 with h | h <;> rw [h] <;> decide), hj1]
    · obtain ⟨_, hc2⟩ := charge_not hf
      rw [if_neg (by rcases hc2 with h | h <;> rw [h] <;> decide)]
  · rw [decide_eq_false h, if_neg (by decide), hj]
end Go.Proofs.Ytkmfdkilimkbpaa.Pure
