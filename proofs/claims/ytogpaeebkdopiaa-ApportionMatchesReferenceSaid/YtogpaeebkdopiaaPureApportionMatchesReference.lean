/- For every total and weights, Share agrees with the reference implementation (at most 250 weights; else nothing is compared). -/
import Derived.Test.YtogpaeebkdopiaaPAllx
import Derived.Test.YtogpaeebkdopiaaQb
namespace Go.Proofs.Ytogpaeebkdopiaa.Pure
open Go.RowKit Go.Proofs.Ytogpaeebkdopiaa.PAll Go.Proofs.Ytogpaeebkdopiaa.Q Go.Proofs.Ytogpaeebkdopiaa.G Go.Proofs.YtogpaeebkdopiaaW.PrintWords Go.Proofs.YtogpaeebkdopiaaW.PrintLast
set_option linter.unusedVariables false

def okW (l : List Int) : Prop := ∀ i : Nat, i < l.length → 0 ≤ rd l i ∧ rd l i ≤ 1000000000
theorem rvalid_l0 (l : List Int) (hl : l.length ≤ 200) (d : Nat) : ∀ (k i : Nat), l.length - i = d → i ≤ l.length → d < k →
    observatoryref28_Valid.l0 k l (i : Int) = some (!((l.drop i).any bad)) := by
  induction d with
  | zero =>
    intro k i hd hi hk
    obtain ⟨k, rfl⟩ : ∃ q, k = q + 1 := ⟨k - 1, by omega⟩
    obtain rfl : i = l.length := by omega
    simp only [observatoryref28_Valid.l0]
    rw [if_neg (by omega), List.drop_length]; rfl
  | succ d ih =>
    intro k i hd hi hk
    obtain ⟨k, rfl⟩ : ∃ q, k = q + 1 := ⟨k - 1, by omega⟩
    have hlt : i < l.length := by omega
    simp only [observatoryref28_Valid.l0]
    rw [if_pos (by omega), if_pos (by omega), w_succ hlt (by omega), ih k (i + 1) (by omega) (by omega) (by omega), drop_at l i hlt]
    simp only [List.any_cons, bad]
    by_cases h1 : rd l i < 0
    · rw [if_pos h1]; simp [h1]
    rw [if_neg h1]
    by_cases h2 : rd l i > 1000000000
    · rw [if_pos h2]; simp [h2]
    rw [if_neg h2]
    simp [h1, h2]
theorem rvalid_f (l : List Int) (k : Nat) (hk : 300 < k) : observatoryref28_Valid.f k l = some (decide (1 ≤ l.length ∧ l.length ≤ 200) && !(l.any bad)) := by
  obtain ⟨k, rfl⟩ : ∃ q, k = q + 1 := ⟨k - 1, by omega⟩
  unfold observatoryref28_Valid.f
  have hj : observatoryref28_Valid.j0 (k + 1) l true = some false := by simp only [observatoryref28_Valid.j0]; rfl
  by_cases h1 : (l.length : Int) < 1
  · rw [if_pos h1, hj, decide_eq_false (by omega)]; rfl
  rw [if_neg h1]
  by_cases h2 : (l.length : Int) > 200
  · rw [decide_eq_true h2, hj, decide_eq_false (by omega)]; rfl
  rw [decide_eq_false h2, decide_eq_true (by omega)]
  simp only [observatoryref28_Valid.j0]
  rw [if_neg (by decide)]
  have := rvalid_l0 l (by omega) l.length k 0 (by omega) (by omega) (by omega)
  simpa using this
theorem ints_l0 (a b : List Int) (hab : a.length = b.length) (hl : a.length ≤ 1000) (d : Nat) : ∀ (k i : Nat), a.length - i = d → i ≤ a.length → d < k →
    observatoryref28_Ints.l0 k a b (i : Int) = some (decide (a.drop i = b.drop i)) := by
  induction d with
  | zero =>
    intro k i hd hi hk
    obtain ⟨k, rfl⟩ : ∃ m, k = m + 1 := ⟨k - 1, by omega⟩
    obtain rfl : i = a.length := by omega
    simp only [observatoryref28_Ints.l0]; rw [if_neg (by omega), List.drop_length, hab, List.drop_length]; rfl
  | succ d ih =>
    intro k i hd hi hk
    obtain ⟨k, rfl⟩ : ∃ m, k = m + 1 := ⟨k - 1, by omega⟩
    have hlt : i < a.length := by omega
    simp only [observatoryref28_Ints.l0]
    rw [if_pos (by omega), if_pos (by omega), if_pos (by omega), w_succ hlt (by omega), ih k (i + 1) (by omega) (by omega) (by omega), drop_at a i hlt, drop_at b i (by omega)]
    by_cases h : rd a i = rd b i
    · rw [if_pos h]; simp [h]
    · rw [if_neg h]; simp [h]
theorem ints_same (a : List Int) (hl : a.length ≤ 250) (k : Nat) (hk : 300 < k) : observatoryref28_Ints.f k a a = some true := by
  unfold observatoryref28_Ints.f
  rw [if_pos rfl]
  have := ints_l0 a a rfl (by omega) a.length k 0 (by omega) (by omega) (by omega)
  simpa using this

theorem best_succ (l : List (Int × Int)) (i : Nat) : bestTo l (i + 1) = if bef (pt l i) (pt l (bestTo l i)) = true then i else bestTo l i := rfl
/-- A round of the reference looks for the same party. -/
theorem ref_l1 (T : Int) (ws : List Int) (l : List (Int × Int)) (hl : l.length = ws.length) (h0 : 0 < ws.length) (hn : ws.length ≤ 200) (hw : ∀ i : Nat, i < ws.length → (pt l i).1 = rd ws i) (t : Int) (d : Nat) : ∀ (k i : Nat), ws.length - i = d → 1 ≤ i → i ≤ ws.length →
    observatoryref28_Share.l1 (d + 1 + k) T ws (l.map Prod.snd) t (bestTo l i : Nat) (i : Int) =
      if rd ws (bestTo l ws.length : Nat) = 0 then some (([] : List Int), 10) else observatoryref28_Share.l0 k T ws ((l.map Prod.snd).set (bestTo l ws.length) (wrap64 (rd (l.map Prod.snd) (bestTo l ws.length : Nat) + 1))) (wrap64 (t + 1)) := by
  have hll : (l.map Prod.snd).length = ws.length := by rw [List.length_map, hl]
  induction d with
  | zero =>
    intro k i hd h1 hi
    obtain rfl : i = ws.length := by omega
    have hb := bestTo_lt l (by omega) ws.length (by omega)
    rw [show 0 + 1 + k = k + 1 from by omega]
    simp only [observatoryref28_Share.l1, Int.toNat_natCast]
    rw [if_neg (by omega), if_pos (by omega), if_pos (by omega)]
    by_cases e : rd ws (bestTo l ws.length : Nat) = 0
    · rw [if_pos e, if_pos e]
    · rw [if_neg e, if_neg e, if_pos (by omega)]
  | succ d ih =>
    intro k i hd h1 hi
    have hlt : i < ws.length := by omega
    have hb := bestTo_lt l (by omega) i (by omega)
    have hih := ih k (i + 1) (by omega) (by omega) (by omega)
    rw [show d + 1 + 1 + k = (d + 1 + k) + 1 from by omega]
    simp only [observatoryref28_Share.l1]
    rw [if_pos (by omega), if_pos (by omega), if_pos (by omega), if_pos (by omega), if_pos (by omega), if_pos (by omega), w_succ hlt (by omega), snd_at l i (by omega), snd_at l _ hb, ← hw i hlt, ← hw _ (by omega)]
    rw [best_succ] at hih
    cases hc : bef (pt l i) (pt l (bestTo l i)) with
    | true =>
      have hc' := hc
      unfold bef at hc'
      rw [if_pos (of_decide_eq_true hc')]
      rw [hc, if_pos rfl] at hih
      exact hih
    | false =>
      have hc' := hc
      unfold bef at hc'
      rw [if_neg (of_decide_eq_false hc')]
      rw [hc, if_neg (by decide)] at hih
      exact hih
theorem best_one (l : List (Int × Int)) : bestTo l 1 = 0 := by
  unfold bestTo
  split <;> rfl
theorem ref_l0 (T : Nat) (ws : List Int) (hw : Wt ws) (hn : ws.length ≤ 200) (hT : T ≤ 720) (d : Nat) : ∀ (k t : Nat), T - t = d → t ≤ T →
    observatoryref28_Share.l0 ((ws.length + 1) * d + 1 + k) (T : Int) ws ((iterL (partsTo ws ws.length) t).map Prod.snd) (t : Int) = some (seats ws T, 0) := by
  have hl0 : 1 ≤ ws.length := by obtain ⟨j, hj, _⟩ := hw.some; omega
  induction d with
  | zero =>
    intro k t hd ht
    obtain rfl : t = T := by omega
    rw [show (ws.length + 1) * 0 + 1 + k = k + 1 from by omega]
    simp only [observatoryref28_Share.l0]
    rw [if_neg (by omega)]; rfl
  | succ d ih =>
    intro k t hd ht
    have hI := inv_iter ws hw t (by omega)
    obtain ⟨hs, he⟩ := hI.step hw (by omega)
    have hbp := hI.best_pos hw (by omega)
    have hih := ih k (t + 1) (by omega) (by omega)
    rw [show (ws.length + 1) * (d + 1) + 1 + k = ((ws.length - 1) + 1 + ((ws.length + 1) * d + 1 + k)) + 1 from by rw [Nat.mul_add]; omega]
    simp only [observatoryref28_Share.l0]
    rw [if_pos (by omega)]
    have h1 := ref_l1 T ws (iterL (partsTo ws ws.length) t) hI.len hl0 hn (fun i hi => hI.w i hi) t (ws.length - 1) ((ws.length + 1) * d + 1 + k) 1 (by omega) (by omega) (by omega)
    rw [best_one] at h1
    refine Eq.trans h1 ?_
    rw [hI.len] at hbp
    rw [if_neg (by omega), w_succ (i := t) (n := 1000) (by omega) (by omega)]
    have e : (iterL (partsTo ws ws.length) (t + 1)).map Prod.snd = ((iterL (partsTo ws ws.length) t).map Prod.snd).set (bestTo (iterL (partsTo ws ws.length) t) ws.length) (wrap64 (rd ((iterL (partsTo ws ws.length) t).map Prod.snd) (bestTo (iterL (partsTo ws ws.length) t) ws.length : Nat) + 1)) := by
      show (stepL (iterL (partsTo ws ws.length) t)).map Prod.snd = _
      unfold stepL
      rw [List.map_set, hI.len, snd_at _ _ (by rw [hI.len]; exact hbp.2)]
    rw [← e]
    exact hih
theorem zeros_eq (ws : List Int) : (partsTo ws ws.length).map Prod.snd = List.replicate ws.length 0 := by
  apply rd_ext (by simp [partsTo_length])
  intro i hi
  have hi' : i < ws.length := by simpa [partsTo_length] using hi
  rw [snd_at _ i (by rw [partsTo_length]; exact hi'), parts_at ws _ (Nat.le_refl _) i hi', if_pos hi']
  have : rd (List.replicate ws.length 0) (i : Int) = 0 := by rw [rd_nat _ i (by simpa using hi')]; simp
  rw [this]
/-- Where all weights are 0, the first round finds nobody. -/
theorem ref_none (T : Int) (ws : List Int) (hn : ws.length ≤ 200) (h0 : 0 < ws.length) (hT : 0 < T) (hz : ∀ i : Nat, i < ws.length → rd ws i = 0) (k : Nat) (hk : 250 < k) : observatoryref28_Share.l0 k T ws (List.replicate ws.length 0) 0 = some (([] : List Int), 10) := by
  obtain ⟨q, hq⟩ : ∃ q, k = ((ws.length - 1) + 1 + q) + 1 := ⟨k - 1 - ws.length, by omega⟩
  rw [hq]
  simp only [observatoryref28_Share.l0]
  rw [if_pos hT, ← zeros_eq]
  have hI := inv_zero ws
  have h1 := ref_l1 T ws (partsTo ws ws.length) hI.len h0 hn (fun i hi => hI.w i hi) 0 (ws.length - 1) q 1 (by omega) (by omega) (by omega)
  rw [best_one] at h1
  refine Eq.trans h1 ?_
  rw [if_pos (hz _ (by have := bestTo_lt (partsTo ws ws.length) (by rw [hI.len]; exact h0) ws.length (by rw [hI.len]; exact Nat.le_refl _); rw [hI.len] at this; exact this))]

theorem ApportionMatchesReference : observatorylaw28_ApportionMatchesReference.Pure := by
  intro T ws _ _ _ _
  obtain ⟨K, hK⟩ : ∃ K : Nat, K = (ws.length + 1) * T.toNat + 1 + 600 := ⟨_, rfl⟩
  refine ⟨K + 1, ?_⟩
  unfold observatorylaw28_ApportionMatchesReference.f observatorylaw28_head.f
  simp only [Option.bind_some]
  by_cases hl : (ws.length : Int) > 250
  · rw [if_pos hl]
  rw [if_neg hl]
  have key : observatoryref28_Share.f (K + 1) T ws = some (shareF T ws) ∧ (shareF T ws).1.length ≤ 250 := by
    unfold observatoryref28_Share.f
    rw [rvalid_f ws _ (by omega)]
    simp only [Option.bind_some]
    have hj : observatoryref28_Share.j0 (K + 1) T ws true = some ([], 1) := by simp only [observatoryref28_Share.j0]; rfl
    have hwrong : wrongB T ws = true → shareF T ws = ([], 1) := fun h => by unfold shareF; rw [if_pos h]
    have hwr : ¬ (1 ≤ ws.length ∧ ws.length ≤ 200 ∧ ws.any bad = false ∧ 0 ≤ T ∧ T ≤ 720) → wrongB T ws = true := fun h => by
      cases hc : wrongB T ws with
      | true => rfl
      | false => exact absurd (right_of hc) h
    by_cases hv : (decide (1 ≤ ws.length ∧ ws.length ≤ 200) && !(ws.any bad)) = true
    · have hv1 : (1 ≤ ws.length ∧ ws.length ≤ 200) ∧ ws.any bad = false := by simpa using hv
      rw [if_pos hv]
      by_cases h1 : T < 0
      · rw [if_pos h1, hj, hwrong (hwr (by omega))]; exact ⟨rfl, by simp⟩
      rw [if_neg h1]
      by_cases h2 : T > 720
      · rw [decide_eq_true h2, hj, hwrong (hwr (by omega))]; exact ⟨rfl, by simp⟩
      rw [decide_eq_false h2]
      have hright : wrongB T ws = false := by
        unfold wrongB
        rw [hv1.2, decide_eq_false (by omega), decide_eq_false (by omega)]; rfl
      obtain ⟨r1, r2, r3, r4, r5⟩ := right_iff.1 hright
      obtain ⟨N, rfl⟩ := Int.eq_ofNat_of_zero_le r4
      simp only [observatoryref28_Share.j0, Int.toNat_natCast]
      rw [if_neg (by decide), if_pos (by omega), if_pos (by omega)]
      rw [Int.toNat_natCast] at hK
      by_cases hm : maxL ws = 0
      · have hz : ∀ i : Nat, i < ws.length → rd ws i = 0 := fun i hi => by
          have := (max_spec ws (ws.length - 1)).1 i (by omega)
          unfold maxL at hm
          have := r3 i hi
          omega
        by_cases hT : (0 : Int) < N
        · have e : shareF N ws = ([], 10) := by
            unfold shareF; rw [if_neg (by rw [hright]; decide), if_pos ⟨hm, hT⟩]
          rw [e, ref_none N ws r2 r1 hT hz K (by omega)]
          exact ⟨rfl, by simp⟩
        · obtain rfl : N = 0 := by omega
          have e : shareF ((0 : Nat) : Int) ws = (List.replicate ws.length 0, 0) := by
            unfold shareF; rw [if_neg (by rw [hright]; decide), if_neg (fun h => hT h.2)]
            have e1 : (partsTo ws ws.length).length = ws.length := partsTo_length _ _
            have := out_eq (partsTo ws ws.length)
            rw [e1, zeros_eq] at this
            show (outTo (partsTo ws ws.length) ws.length, (0 : Int)) = _
            rw [this]
          obtain ⟨q, hq⟩ : ∃ q, K = q + 1 := ⟨K - 1, by omega⟩
          rw [e, hq]
          simp only [observatoryref28_Share.l0]
          rw [if_neg (by omega)]
          exact ⟨rfl, by simp; omega⟩
      · have hw := not_max r1 r3 hm
        have := ref_l0 N ws hw r2 (by omega) N 600 0 (by omega) (by omega)
        rw [← hK] at this
        rw [share_eq hw r2 (by omega), ← this]
        refine ⟨?_, by rw [(seats_alloc hw (T := N) (by omega)).len]; omega⟩
        show _ = observatoryref28_Share.l0 K N ws ((partsTo ws ws.length).map Prod.snd) 0
        rw [zeros_eq]
    · rw [if_neg hv, hj, hwrong (hwr (fun h => hv (by simp; exact ⟨⟨h.1, h.2.1⟩, by simpa using h.2.2.1⟩)))]
      exact ⟨rfl, by simp⟩
  unfold apportion_Share.f
  simp only [Option.bind_some]
  rw [key.1]
  simp only [Option.bind_some]
  rw [ints_same _ key.2 _ (by omega)]
  simp
end Go.Proofs.Ytogpaeebkdopiaa.Pure
