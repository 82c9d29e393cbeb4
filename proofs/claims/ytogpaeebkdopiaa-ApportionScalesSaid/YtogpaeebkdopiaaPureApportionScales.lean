/- For every total and weights of at most 1000000, with all weights multiplied by a factor from 1 to 1000, and with further parties with the weight 0 at the end, there are the same seats, and none for the further parties (at most 30 weights). -/
import Derived.Test.YtogpaeebkdopiaaPAllx
import Derived.Test.YtogpaeebkdopiaaQb
import Derived.Test.YtogpaeebkdopiaaQc
namespace Go.Proofs.Ytogpaeebkdopiaa.Pure
open Go.RowKit Go.Proofs.Ytogpaeebkdopiaa.PAll Go.Proofs.Ytogpaeebkdopiaa.Q Go.Proofs.Ytogpaeebkdopiaa.G Go.Proofs.YtogpaeebkdopiaaW.PrintWords Go.Proofs.YtogpaeebkdopiaaW.PrintLast
set_option linter.unusedVariables false

def low (w : List Int) : List Int := w.map fun x => mn x 1000000
theorem low_at (w : List Int) (i : Nat) (h : i < w.length) : rd (low w) i = mn (rd w i) 1000000 := by
  unfold low
  rw [rd_nat _ i (by simpa using h), rd_nat w i h]; simp
theorem mn_in {x : Int} (h : 0 ≤ x) : 0 ≤ mn x 1000000 ∧ mn x 1000000 ≤ 1000000 := by unfold mn; split <;> omega
theorem sc_l0 (w : List Int) (hw : VW w) (T a2 a3 c : Int) (hc : wrap64 (1 + Int.tmod (wrap64 a2) 1000) = c) (c0 : 1 ≤ c) (c1 : c ≤ 1000) (d : Nat) : ∀ (k i : Nat) (u : List Int), w.length - i = d → i ≤ w.length → u.length = w.length → (∀ j : Nat, j < w.length → rd u j = if j < i then mn (rd w j) 1000000 else rd w j) →
    observatorylaw28_ApportionScales.l0 (d + 1 + k) a2 a3 true T u (((low w).take i).map fun x => x * c) (i : Int) = observatorylaw28_ApportionScales.l1 k a3 true T (low w) ((low w).map fun x => x * c) 0 := by
  have hl := hw.l2
  have hlow : (low w).length = w.length := by simp [low]
  induction d with
  | zero =>
    intro k i u hd hi hu h
    obtain rfl : i = w.length := by omega
    have e : u = low w := rd_ext (by rw [hu, hlow]) (fun j hj => by
      rw [hu] at hj
      rw [h j hj, if_pos hj, low_at w j hj])
    rw [show 0 + 1 + k = k + 1 from by omega]
    simp only [observatorylaw28_ApportionScales.l0]
    rw [if_neg (by omega), e, List.take_of_length_le (by omega)]
  | succ d ih =>
    intro k i u hd hi hu h
    have hlt : i < w.length := by omega
    have hb := hw.bd i hlt
    have hm := mn_in hb.1
    have hui : rd u i = rd w i := by rw [h i hlt, if_neg (by omega)]
    have hp := mul_bound (a := mn (rd w i) 1000000) (b := c) (m := 1000000) (n := 1000) hm.1 (by omega) hm.2 c1
    have hih := ih k (i + 1) (u.set i (mn (rd w i) 1000000)) (by omega) (by omega) (by rw [List.length_set]; exact hu) (fun j hj => by
      rw [rd_set _ _ _ _ (by omega)]
      by_cases e : j = i
      · subst e; rw [if_pos rfl, if_pos (by omega)]
      · rw [if_neg e, h j hj]
        by_cases e2 : j < i
        · rw [if_pos e2, if_pos (by omega)]
        · rw [if_neg e2, if_neg (by omega)])
    rw [show d + 1 + 1 + k = (d + 1 + k) + 1 from by omega]
    simp only [observatorylaw28_ApportionScales.l0, Option.bind_some, Int.toNat_natCast]
    rw [if_pos (by omega), if_pos (by omega), if_pos (by simp; omega), hui, hc, rd_set _ _ _ _ (by omega), if_pos rfl, w_in (n := mn (rd w i) 1000000 * c) (by omega) (by omega), w_succ hlt (by omega)]
    have e : ((low w).take i).map (fun x => x * c) ++ [mn (rd w i) 1000000 * c] = ((low w).take (i + 1)).map fun x => x * c := by
      have hlt' : i < (low w).length := by omega
      rw [List.take_succ_eq_append_getElem hlt', List.map_append, ← low_at w i hlt, rd_nat _ i hlt']
      rfl
    rw [e]
    exact hih
theorem sc_l2 (a : List Int) (m : Nat) (ha : a.length ≤ 30) (hm : m ≤ 100) (d : Nat) : ∀ (k i : Nat), a.length + m - i = d → i ≤ a.length + m → d < k →
    observatorylaw28_ApportionScales.l2 k true a (a ++ List.replicate m 0) (i : Int) = some true := by
  have hl : (a ++ List.replicate m (0 : Int)).length = a.length + m := by simp
  induction d with
  | zero =>
    intro k i hd hi hk
    obtain ⟨k, rfl⟩ : ∃ q, k = q + 1 := ⟨k - 1, by omega⟩
    obtain rfl : i = a.length + m := by omega
    simp only [observatorylaw28_ApportionScales.l2]
    rw [if_neg (by omega)]
  | succ d ih =>
    intro k i hd hi hk
    obtain ⟨k, rfl⟩ : ∃ q, k = q + 1 := ⟨k - 1, by omega⟩
    have hih := ih k (i + 1) (by omega) (by omega) (by omega)
    simp only [observatorylaw28_ApportionScales.l2]
    rw [if_pos (by omega), w_succ (i := i) (n := 200) (by omega) (by omega)]
    by_cases e : i < a.length
    · rw [if_pos (by omega), if_pos (by omega), if_pos (rd_app_left _ _ i e).symm, if_neg (by omega)]; exact hih
    · rw [if_neg (by omega), if_pos (by omega), if_pos (by omega), if_pos (rd_app_zero a m i (by omega))]; exact hih
theorem sc_l1 (T : Nat) (hT : T ≤ 720) (w s : List Int) (hw : VW w) (hs : Wt s) (c : Int) (hc : 0 < c) (he : s = w.map fun x => x * c) (hbd : ∀ i : Nat, i < s.length → 0 ≤ rd s i ∧ rd s i ≤ 1000000000) (a3 : Int) (m : Nat) (hm : Int.tmod (wrap64 a3) 100 = m) (hm1 : m ≤ 99) (d : Nat) : ∀ (k j : Nat), m - j = d → j ≤ m → d + 300 < k →
    observatorylaw28_ApportionScales.l1 k a3 true (T : Int) w (s ++ List.replicate j 0) (j : Int) = some true := by
  have hsl : s.length = w.length := by rw [he]; simp
  have hl := hw.l2
  induction d with
  | zero =>
    intro k j hd hj hk
    obtain ⟨k, rfl⟩ : ∃ q, k = q + 2 := ⟨k - 2, by omega⟩
    obtain rfl : j = m := by omega
    have hs2 : Wt (s ++ List.replicate j 0) := ⟨fun i hi => by
      by_cases e : i < s.length
      · rw [rd_app_left _ _ i e]; exact hbd i e
      · rw [rd_app_zero _ _ i (by omega)]; omega, by
      obtain ⟨q, hq, hp⟩ := hs.some
      exact ⟨q, by simp; omega, by rw [rd_app_left _ _ q hq]; exact hp⟩⟩
    have hl2 : (s ++ List.replicate j (0 : Int)).length = w.length + j := by simp [hsl]
    simp only [observatorylaw28_ApportionScales.l1]
    unfold apportion_Share.f
    rw [hm, if_neg (by omega), share_eq hw.wt (by omega) hT, share_eq hs2 (by omega) hT]
    simp only [Option.bind_some]
    have A := seats_alloc hw.wt (T := T) (by omega)
    have B := seats_alloc hs2 (T := T) (by omega)
    have hAB := (A.scale c hc j)
    rw [← he] at hAB
    have e := hAB.unique B
    rw [if_pos trivial, if_pos trivial, if_pos (by rw [A.len]), ← e]
    have e2 : (((seats w T ++ List.replicate j (0 : Int)).length : Int) != ((s ++ List.replicate j (0 : Int)).length : Int)) = false := by rw [List.length_append, List.length_append, A.len, hsl]; simp
    rw [e2]
    simp only [observatorylaw28_ApportionScales.j2]
    rw [if_neg (by decide)]
    exact sc_l2 _ j (by rw [A.len]; omega) (by omega) (w.length + j) k 0 (by rw [A.len]; omega) (by omega) (by omega)
  | succ d ih =>
    intro k j hd hj hk
    obtain ⟨k, rfl⟩ : ∃ q, k = q + 1 := ⟨k - 1, by omega⟩
    simp only [observatorylaw28_ApportionScales.l1]
    rw [hm, if_pos (by omega), if_pos (by simp; omega), w_succ (i := j) (n := 200) (by omega) (by omega), List.append_assoc, ← List.replicate_succ']
    exact ih k (j + 1) (by omega) (by omega) (by omega)

theorem ApportionScales : observatorylaw28_ApportionScales.Pure := by
  intro a0 l1 a2 a3 ha _ _ hl1 h2 h3
  obtain ⟨T, w, hT, hw, hv⟩ := valid_f a0 l1 ha hl1
  simp [Lit.wf, IntKind.min, IntKind.max, IntKind.signed, IntKind.bits] at h2 h3
  have t2 := tmod_in (a := a2) (m := 1000) (by omega) (by omega)
  have t3 := tmod_in (a := a3) (m := 100) (by omega) (by omega)
  obtain ⟨c, hc, c0, c1⟩ : ∃ c, wrap64 (1 + Int.tmod (wrap64 a2) 1000) = c ∧ 1 ≤ c ∧ c ≤ 1000 := ⟨_, rfl, by rw [w_in (n := a2) (by omega) (by omega), w_in (by omega) (by omega)]; omega⟩
  obtain ⟨m, hm, m1⟩ : ∃ m : Nat, Int.tmod (wrap64 a3) 100 = m ∧ m ≤ 99 := ⟨(Int.tmod a3 100).toNat, by rw [w_in (n := a3) (by omega) (by omega)]; omega, by omega⟩
  obtain ⟨K, hK⟩ : ∃ K : Nat, K = w.length + 1 + 900 := ⟨_, rfl⟩
  refine ⟨K, ?_⟩
  unfold observatorylaw28_ApportionScales.f observatorylaw28_head.f
  simp only [Option.bind_some]
  rw [hv _ (by omega)]
  simp only [Option.bind_some]
  have hll := hw.l2
  have hlow : (low w).length = w.length := by simp [low]
  have h0 := sc_l0 w hw T a2 a3 c hc c0 c1 w.length 900 0 w (by omega) (by omega) rfl (fun j _ => by rw [if_neg (by omega)])
  rw [← hK] at h0
  refine Eq.trans h0 ?_
  have hwl : VW (low w) := ⟨by rw [hlow]; exact hw.l1, by rw [hlow]; exact hw.l2, by
    rw [low_at w 0 (by have := hw.l1; omega)]
    have := hw.first
    unfold mn; split <;> omega, fun i hi => by
    rw [hlow] at hi
    rw [low_at w i hi]
    have := mn_in (hw.bd i hi).1
    omega⟩
  have hbd : ∀ i : Nat, i < ((low w).map fun x => x * c).length → 0 ≤ rd ((low w).map fun x => x * c) i ∧ rd ((low w).map fun x => x * c) i ≤ 1000000000 := fun i hi => by
    have hi' : i < w.length := by simpa [hlow] using hi
    rw [rd_mul _ _ i (by rw [hlow]; exact hi'), low_at w i hi']
    have hmn := mn_in (hw.bd i hi').1
    have := mul_bound (a := mn (rd w i) 1000000) (b := c) (m := 1000000) (n := 1000) hmn.1 (by omega) hmn.2 c1
    omega
  have hs : Wt ((low w).map fun x => x * c) := ⟨hbd, 0, by simp [hlow]; have := hw.l1; omega, by
    rw [rd_mul _ _ 0 (by rw [hlow]; have := hw.l1; omega)]
    exact Int.mul_pos (by have := hwl.first; omega) (by omega)⟩
  have := sc_l1 T hT (low w) _ hwl hs c (by omega) rfl hbd a3 m hm m1 m 900 0 (by omega) (by omega) (by omega)
  rw [List.replicate_zero, List.append_nil] at this
  exact this
end Go.Proofs.Ytogpaeebkdopiaa.Pure
