/- For every total, weights, index and number by which the weight with the index becomes greater, its party has at least as many seats, and each other one at most as many (at most 30 weights). -/
import Derived.Test.YtogpaeebkdopiaaPAllx
import Derived.Test.YtogpaeebkdopiaaQb
import Derived.Test.YtogpaeebkdopiaaQc
namespace Go.Proofs.Ytogpaeebkdopiaa.Pure
open Go.RowKit Go.Proofs.Ytogpaeebkdopiaa.PAll Go.Proofs.Ytogpaeebkdopiaa.Q Go.Proofs.Ytogpaeebkdopiaa.G Go.Proofs.YtogpaeebkdopiaaW.PrintWords Go.Proofs.YtogpaeebkdopiaaW.PrintLast
set_option linter.unusedVariables false

theorem grows_l0 (w a b : List Int) (m : Nat) (hw : w.length ≤ 30) (la : a.length = w.length) (lb : b.length = w.length) (hm : m < w.length → rd a m ≤ rd b m) (ho : ∀ i : Nat, i < w.length → i ≠ m → rd b i ≤ rd a i) (d : Nat) : ∀ (k i : Nat), w.length - i = d → i ≤ w.length → d < k →
    observatorylaw28_ApportionGrows.l0 k true w (m : Int) a b (i : Int) = some true := by
  induction d with
  | zero =>
    intro k i hd hi hk
    obtain ⟨k, rfl⟩ : ∃ q, k = q + 1 := ⟨k - 1, by omega⟩
    obtain rfl : i = w.length := by omega
    simp only [observatorylaw28_ApportionGrows.l0]
    rw [if_neg (by omega)]
  | succ d ih =>
    intro k i hd hi hk
    obtain ⟨k, rfl⟩ : ∃ q, k = q + 1 := ⟨k - 1, by omega⟩
    have hlt : i < w.length := by omega
    have hih := ih k (i + 1) (by omega) (by omega) (by omega)
    simp only [observatorylaw28_ApportionGrows.l0]
    rw [if_pos (by omega), w_succ hlt (by omega)]
    by_cases e : (i : Int) = m
    · have e' : i = m := by omega
      subst e'
      have := hm hlt
      rw [if_pos rfl, if_pos (by omega), if_pos (by omega), if_pos (by omega), if_neg (by omega)]; exact hih
    · have := ho i hlt (by omega)
      rw [if_neg e, if_pos (by omega), if_pos (by omega), if_pos (by omega), if_neg (by omega)]; exact hih

theorem ApportionGrows : observatorylaw28_ApportionGrows.Pure := by
  intro a0 l1 a2 a3 ha _ _ hl1 h2 h3
  obtain ⟨T, w, hT, hw, hv⟩ := valid_f a0 l1 ha hl1
  obtain ⟨K, hK⟩ : ∃ K : Nat, K = 300 := ⟨_, rfl⟩
  obtain ⟨k, rfl⟩ : ∃ q, K = q + 1 := ⟨K - 1, by omega⟩
  refine ⟨k + 1, ?_⟩
  simp [Lit.wf, IntKind.min, IntKind.max, IntKind.signed, IntKind.bits] at h2 h3
  unfold observatorylaw28_ApportionGrows.f observatorylaw28_head.f
  simp only [Option.bind_some]
  rw [hv _ (by omega)]
  have hll := hw.l2
  have hl1' := hw.l1
  simp only [Option.bind_some, List.nil_append]
  have ht := tmod_in (a := a2) (m := (w.length : Int)) (by omega) (by omega)
  obtain ⟨m, hm⟩ : ∃ m : Nat, Int.tmod (wrap64 a2) (w.length : Int) = m := ⟨(Int.tmod a2 w.length).toNat, by rw [w_in (n := a2) (by omega) (by omega)]; omega⟩
  have hml : m < w.length := by
    rw [w_in (n := a2) (by omega) (by omega)] at hm; omega
  rw [hm]
  have hbm := hw.bd m hml
  obtain ⟨c, hc⟩ : ∃ c, mn 1000000000 (wrap64 (rd w m + wrap64 a3)) = c := ⟨_, rfl⟩
  have hcb : rd w m ≤ c ∧ 0 ≤ c ∧ c ≤ 1000000000 := by
    rw [← hc, w_in (n := a3) (by omega) (by omega), w_in (by omega) (by omega)]
    unfold mn
    split <;> omega
  rw [if_neg (by omega), if_pos (by simp; omega), if_pos (by omega), if_pos (by omega), if_pos (by omega), hc, Int.toNat_natCast]
  have hw2 : VW (w.set m c) := ⟨by rw [List.length_set]; exact hw.l1, by rw [List.length_set]; exact hw.l2, by
    rw [rd_set _ _ _ _ hml]
    by_cases e : 0 = m
    · subst e; rw [if_pos rfl]; have := hw.first; omega
    · rw [if_neg e]; exact hw.first, fun i hi => by
    rw [List.length_set] at hi
    rw [rd_set _ _ _ _ hml]
    split
    · omega
    · exact hw.bd i hi⟩
  unfold apportion_Share.f
  rw [share_eq hw.wt (by omega) hT, share_eq hw2.wt (by rw [List.length_set]; omega) hT]
  simp only [Option.bind_some]
  have A := seats_alloc hw.wt (T := T) (by omega)
  have B := seats_alloc hw2.wt (T := T) (by omega)
  have lB : (seats (w.set m c) T).length = w.length := by rw [B.len, List.length_set]
  rw [if_pos trivial, if_pos trivial, if_pos (by rw [A.len])]
  have e : (((seats (w.set m c) T).length : Int) != (w.length : Int)) = false := by rw [lB]; simp
  rw [e]
  simp only [observatorylaw28_ApportionGrows.j0]
  rw [if_neg (by decide)]
  have hmm : ∀ i : Nat, i < w.length → i ≠ m → rd (w.set m c) i = rd w i := fun i _ hne => by rw [rd_set _ _ _ _ hml, if_neg hne]
  have hgg : m < w.length → rd w m ≤ rd (w.set m c) m := fun _ => by rw [rd_set _ _ _ _ hml, if_pos rfl]; exact hcb.1
  exact grows_l0 w _ _ m hw.l2 A.len lB (fun h => A.grow_own B (by rw [List.length_set]) m hmm hgg h) (fun i hi hne => A.grow B (by rw [List.length_set]) m hmm hgg i hi hne) w.length k 0 (by omega) (by omega) (by omega)
end Go.Proofs.Ytogpaeebkdopiaa.Pure
