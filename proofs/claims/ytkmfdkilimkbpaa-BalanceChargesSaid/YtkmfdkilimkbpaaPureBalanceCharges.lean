/- For every shares, accounts, two partners and slots without an error, charging the slots to the first partner lowers its balance by the slots times the sum of the other shares, and raises that of the second one, if it is another one, by the slots times its share (at most 20 shares and accounts; else nothing is claimed). -/
import Derived.Test.YtkmfdkilimkbpaaPAllx4
import Derived.Test.YtkmfdkilimkbpaaQb
namespace Go.Proofs.Ytkmfdkilimkbpaa.Pure
open Go.RowKit Go.Proofs.Ytkmfdkilimkbpaa.PAll Go.Proofs.Ytkmfdkilimkbpaa.Q Go.Proofs.YtkmfdkilimkbpaaW.PrintWords Go.Proofs.YtkmfdkilimkbpaaW.PrintLast

/-- The sum of the shares from i on, but for the one at 'one'. -/
def R (l : List Int) (one : Int) (i : Nat) : Int := S (l.drop i) - if (i : Int) ≤ one ∧ one < l.length then rd l one else 0
theorem R_at (l : List Int) (one : Int) (i : Nat) (h : i < l.length) : R l one i = (if (i : Int) = one then 0 else rd l i) + R l one (i + 1) := by
  unfold R
  rw [drop_at l i h]
  simp only [S]
  by_cases e : (i : Int) = one
  · rw [if_pos e, if_pos (by omega), if_neg (by omega), ← e]; omega
  · rw [if_neg e]
    by_cases e2 : (i : Int) ≤ one ∧ one < l.length
    · rw [if_pos e2, if_pos (by omega)]; omega
    · rw [if_neg e2, if_neg (by omega)]; omega
theorem ch_l0 (l0 l1 after : List Int) (one two n a b : Int) (hb : ∀ x ∈ l0, 1 ≤ x ∧ x ≤ 1000) (hl : l0.length ≤ 16) (d : Nat) : ∀ (k i : Nat) (x : Int), l0.length - i = d → i ≤ l0.length → 0 ≤ x → x ≤ 1000 * i →
    observatorylaw26_BalanceCharges.l0 (d + 1 + k) l0 l1 one two n true after a 0 b 0 x (i : Int) = observatorylaw26_BalanceCharges.j1 k l0 l1 one two n true after (b != wrap64 (a - wrap64 (n * (x + R l0 one i)))) := by
  induction d with
  | zero =>
    intro k i x hd hi h0 h1
    obtain rfl : i = l0.length := by omega
    have e : R l0 one l0.length = 0 := by unfold R; rw [List.drop_length, if_neg (by omega)]; rfl
    rw [show 0 + 1 + k = k + 1 from by omega, e, Int.add_zero]
    simp only [observatorylaw26_BalanceCharges.l0]
    rw [if_neg (by omega), if_pos trivial, if_pos trivial]
  | succ d ih =>
    intro k i x hd hi h0 h1
    have hlt : i < l0.length := by omega
    have hx := hb _ (rd_mem l0 i hlt)
    rw [show d + 1 + 1 + k = (d + 1 + k) + 1 from by omega, R_at l0 one i hlt]
    simp only [observatorylaw26_BalanceCharges.l0]
    rw [if_pos (by omega)]
    by_cases e : (i : Int) = one
    · rw [if_pos e, if_pos e, w_succ hlt (by omega), ih k (i + 1) x (by omega) (by omega) (by omega) (by omega), Int.zero_add]
    · rw [if_neg e, if_pos (by omega), if_neg e, w_succ hlt (by omega), w_in (by omega) (by omega), ih k (i + 1) _ (by omega) (by omega) (by omega) (by omega), Int.add_assoc]

theorem BalanceCharges : observatorylaw26_BalanceCharges.Pure := by
  intro l0 l1 one two n _ _ _ _ _ _ _ _ _
  obtain ⟨K, hK⟩ : ∃ K : Nat, K = 300 := ⟨_, rfl⟩
  refine ⟨K, ?_⟩
  unfold observatorylaw26_BalanceCharges.f observatorylaw26_head.f
  simp only [Option.bind_some]
  rw [few_f]
  simp only [Option.bind_some]
  by_cases h : l0.length ≤ 20 ∧ l1.length ≤ 20
  · rw [decide_eq_true h, if_pos rfl]
    unfold balance_Charge.f
    simp only [Option.bind_some]
    by_cases hf : Free l0 l1 one n
    · have hc := charge_free hf
      rw [hc]
      simp only
      have ok := hf.ok
      have ok2 := hf.after
      have i0 := hf.i0; have i1 := hf.i1; have n0 := hf.n0; have n1 := hf.n1
      have le := ok.le; have eq := ok.eq
      have i1' : one < l0.length := by omega
      rw [if_pos trivial, balance_f _ _ _ _ (by omega), balance_f _ _ _ _ (by omega), Free.balF ok i0 i1', Free.balF ok2 i0 i1']
      simp only [Option.bind_some]
      have hk : K = l0.length + 1 + (K - 1 - l0.length) := by omega
      have hl := ch_l0 l0 l1 (l1.set one.toNat (rd l1 one + n)) one two n (bal l0 l1 one) (bal l0 (l1.set one.toNat (rd l1 one + n)) one) ok.a le l0.length (K - 1 - l0.length) 0 0 (by omega) (by omega) (by omega) (by omega)
      rw [← hk] at hl
      refine Eq.trans hl ?_
      clear hl
      have hS : S (l1.set one.toNat (rd l1 one + n)) = S l1 + n := by rw [S_set' _ _ _ i0 i1]; omega
      have hR : R l0 one 0 = S l0 - rd l0 one := by unfold R; rw [if_pos (by omega)]; rfl
      have hp := ok.parts i0 i1'
      have hs := ok.sums
      have hRb : 0 ≤ S l0 - rd l0 one := by
        have : ∃ m : Nat, one = m := nat_of i0
        obtain ⟨m, rfl⟩ := this
        have := S_set l0 0 m (by omega)
        have hb := S_bound (l := l0.set m 0) (m := 1000) (by omega) (fun x hx => by
          rcases List.mem_or_eq_of_mem_set hx with hx | rfl
          · have := ok.a x hx; omega
          · omega)
        omega
      have hm := mul_bound (a := n) (b := S l0 - rd l0 one) (m := 1000000) (n := 16000) n0 hRb n1 (by omega)
      have hbb := ok.bal_bound i0 i1'
      have hb1 : bal l0 (l1.set one.toNat (rd l1 one + n)) one = bal l0 l1 one - n * (S l0 - rd l0 one) := by
        unfold bal
        rw [hS, rd_set l1 one one _ i0 i1 i0 i1, if_pos rfl, Int.mul_add, Int.add_mul, Int.mul_sub, Int.mul_comm (rd l0 one) n]
        omega
      have e1 : (bal l0 (l1.set one.toNat (rd l1 one + n)) one != wrap64 (bal l0 l1 one - wrap64 (n * (0 + R l0 one 0)))) = false := by
        rw [Int.zero_add, hR, w_in (n := n * (S l0 - rd l0 one)) (by omega) (by omega), w_in (by omega) (by omega), hb1]
        simp
      rw [e1]
      obtain ⟨k, hk⟩ : ∃ k, K - 1 - l0.length = k + 1 := ⟨K - 2 - l0.length, by omega⟩
      rw [hk]
      simp only [observatorylaw26_BalanceCharges.j1]
      rw [if_neg (by decide), balance_f _ _ _ _ (by omega), balance_f _ _ _ _ (by omega)]
      simp only [Option.bind_some]
      by_cases ht : 0 ≤ two ∧ two < l0.length
      · rw [Free.balF ok ht.1 ht.2, Free.balF ok2 ht.1 ht.2]
        simp only
        rw [if_pos trivial, if_pos trivial]
        by_cases e : one = two
        · rw [if_pos e, if_pos trivial]
        · rw [if_neg e, if_pos ht.1, if_pos ht.2]
          have hpt := ok.parts ht.1 ht.2
          have hbt := ok.bal_bound ht.1 ht.2
          have hmt := mul_bound (a := n) (b := rd l0 two) (m := 1000000) (n := 1000) n0 (by omega) n1 (by omega)
          have hb2 : bal l0 (l1.set one.toNat (rd l1 one + n)) two = bal l0 l1 two + n * rd l0 two := by
            unfold bal
            rw [hS, rd_set l1 one two _ i0 i1 ht.1 (by omega), if_neg e, Int.mul_add, Int.mul_comm (rd l0 two) n]
            omega
          rw [w_in (n := n * rd l0 two) (by omega) (by omega), w_in (by omega) (by omega), hb2]
          simp
      · have ho : two < 0 ∨ (l0.length : Int) ≤ two := by omega
        rw [balF_out l0 l1 ho, balF_out l0 _ ho]
        simp only
        rw [if_neg (by decide), if_pos trivial, if_pos trivial]
        by_cases e : two < 0
        · rw [if_pos e]
        · rw [if_neg e, decide_eq_true (by omega)]
    · obtain ⟨hc1, hc2⟩ := charge_not hf
      rw [if_neg (by rcases hc2 with h | h <;> rw [h] <;> decide), if_pos trivial, hc1]
      rfl
  · rw [decide_eq_false h]; simp
end Go.Proofs.Ytkmfdkilimkbpaa.Pure
