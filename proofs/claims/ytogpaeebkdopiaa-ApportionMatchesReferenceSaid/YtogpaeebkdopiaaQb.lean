/- What the helpers of the statements about apportion come to. -/
import Derived.Test.YtogpaeebkdopiaaQa
import Derived.Test.YtogpaeebkdopiaaPAllx
namespace Go.Proofs.Ytogpaeebkdopiaa.Q
open Go.RowKit Go.Proofs.YtogpaeebkdopiaaW.PrintWords Go.Proofs.YtogpaeebkdopiaaW.PrintLast Go.Proofs.YtogpaeebkdopiaaW.PrintMore Go.Proofs.Ytogpaeebkdopiaa.G Go.Proofs.Ytogpaeebkdopiaa.PAll
set_option linter.unusedVariables false

/-- Weights as the statements make them. -/
structure VW (w : List Int) : Prop where
  l1 : 1 ≤ w.length
  l2 : w.length ≤ 30
  first : 1 ≤ rd w (0 : Nat)
  bd : ∀ i : Nat, i < w.length → 0 ≤ rd w i ∧ rd w i ≤ 1000000000
theorem VW.wt {w : List Int} (h : VW w) : Wt w := ⟨h.bd, 0, h.l1, by have := h.first; omega⟩
theorem rd_append (l : List Int) (x : Int) (i : Nat) : rd (l ++ [x]) i = if i < l.length then rd l i else if i = l.length then x else 0 := by
  by_cases h : i < l.length
  · rw [if_pos h, rd_nat _ i (by simp; omega), rd_nat _ i h, List.getElem_append_left h]
  · rw [if_neg h]
    by_cases h2 : i = l.length
    · subst h2; rw [if_pos rfl, rd_nat _ _ (by simp)]; simp
    · rw [if_neg h2, rd_out _ i (by simp; omega)]
theorem rd_set (l : List Int) (x : Int) (n i : Nat) (h : n < l.length) : rd (l.set n x) i = if i = n then x else rd l i := by
  unfold rd
  rw [Int.toNat_natCast, List.getD_eq_getElem?_getD, List.getD_eq_getElem?_getD, List.getElem?_set]
  by_cases e : n = i
  · subst e; rw [if_pos rfl, if_pos h, if_pos rfl]; rfl
  · rw [if_neg e, if_neg (fun h => e h.symm)]
theorem u32_at {l : List Int} (h : ∀ x ∈ l, (Lit.int .u32 x).wf = true) (i : Nat) (hi : i < l.length) : 0 ≤ rd l i ∧ rd l i ≤ 4294967295 := by
  have := h _ (rd_mem l i hi)
  simp [Lit.wf, IntKind.min, IntKind.max, IntKind.signed, IntKind.bits] at this
  exact this
theorem tmod_in {a m : Int} (h0 : 0 ≤ a) (hm : 0 < m) : 0 ≤ Int.tmod a m ∧ Int.tmod a m < m := by
  rw [Int.tmod_eq_emod_of_nonneg h0]
  exact ⟨Int.emod_nonneg _ (by omega), Int.emod_lt_of_pos _ hm⟩

theorem valid_j1_end (k : Nat) (a0 : Int) (l1 x : List Int) (i : Int) : observatorylaw28_valid.j1 (k + 1) a0 l1 x i false = some (Int.tmod (wrap64 a0) 721, x) := by
  simp only [observatorylaw28_valid.j1]; rfl
theorem valid_l0 (a0 : Int) (l1 : List Int) (hl : ∀ x ∈ l1, (Lit.int .u32 x).wf = true) (d : Nat) : ∀ (i : Nat) (x : List Int), i + d = 30 → VW x → x.length = max 1 i →
    ∃ w, VW w ∧ ∀ k, 2 * d + 2 ≤ k → observatorylaw28_valid.l0 k a0 l1 x (i : Int) = some (Int.tmod (wrap64 a0) 721, w) := by
  induction d with
  | zero =>
    intro i x hi hx hxl
    refine ⟨x, hx, fun k hk => ?_⟩
    obtain ⟨k, rfl⟩ : ∃ m, k = m + 2 := ⟨k - 2, by omega⟩
    have e : decide ((i : Int) < 30) = false := decide_eq_false (by omega)
    simp only [observatorylaw28_valid.l0]
    rw [e, valid_j1_end]; split <;> rfl
  | succ d ih =>
    intro i x hi hx hxl
    by_cases hlt : i < l1.length
    · have hb := u32_at hl i hlt
      by_cases h0 : i = 0
      · subst h0
        have ht := tmod_in (a := rd l1 ((0 : Nat) : Int)) (m := 1000000000) hb.1 (by omega)
        have hxl' : x.length = 1 := by omega
        have e : ∃ c, wrap64 (1 + Int.tmod (wrap64 (rd l1 0)) 1000000000) = c ∧ 1 ≤ c ∧ c ≤ 1000000000 := by
          refine ⟨_, rfl, ?_⟩
          have e1 : wrap64 (rd l1 0) = rd l1 ((0 : Nat) : Int) := w_in (by have := hb.1; simp at this ⊢; omega) (by have := hb.2; simp at this ⊢; omega)
          rw [e1, w_in (by omega) (by omega)]; omega
        obtain ⟨c, hc, c1, c2⟩ := e
        have hxs : VW (x.set 0 c) := ⟨by rw [List.length_set]; exact hx.l1, by rw [List.length_set]; exact hx.l2, by rw [rd_set _ _ _ _ (by omega), if_pos rfl]; exact c1, fun j hj => by
          rw [List.length_set] at hj
          rw [rd_set _ _ _ _ (by omega)]
          split
          · omega
          · exact hx.bd j hj⟩
        obtain ⟨w, hw, h⟩ := ih 1 (x.set 0 c) (by omega) hxs (by rw [List.length_set]; omega)
        refine ⟨w, hw, fun k hk => ?_⟩
        obtain ⟨k, rfl⟩ : ∃ m, k = m + 2 := ⟨k - 2, by omega⟩
        simp only [observatorylaw28_valid.l0, observatorylaw28_valid.j1]
        rw [if_pos (by omega), if_pos (by simp), if_pos (by simp), if_pos (by omega), if_pos (by omega), hc]
        have e1 : wrap64 (((0 : Nat) : Int) + 1) = ((1 : Nat) : Int) := w_succ (i := 0) (n := 31) (by omega) (by omega)
        rw [e1]
        exact h k (by omega)
      · have ht := tmod_in (a := rd l1 (i : Int)) (m := 1000000001) hb.1 (by omega)
        have e : ∃ c, Int.tmod (wrap64 (rd l1 i)) 1000000001 = c ∧ 0 ≤ c ∧ c ≤ 1000000000 := by
          refine ⟨_, rfl, ?_⟩
          rw [w_in (n := rd l1 i) (by omega) (by omega)]; omega
        obtain ⟨c, hc, c1, c2⟩ := e
        have hxs : VW (x ++ [c]) := ⟨by simp, by simp; omega, by rw [rd_append, if_pos (by omega)]; exact hx.first, fun j hj => by
          rw [rd_append]
          split
          · exact hx.bd j (by omega)
          · split <;> omega⟩
        obtain ⟨w, hw, h⟩ := ih (i + 1) (x ++ [c]) (by omega) hxs (by simp; omega)
        refine ⟨w, hw, fun k hk => ?_⟩
        obtain ⟨k, rfl⟩ : ∃ m, k = m + 2 := ⟨k - 2, by omega⟩
        simp only [observatorylaw28_valid.l0, observatorylaw28_valid.j1]
        rw [if_pos (by omega), if_pos (by simp; omega), if_neg (by omega), if_pos (by omega), if_pos (by omega), if_pos (by omega), hc, w_succ (i := i) (n := 31) (by omega) (by omega)]
        exact h k (by omega)
    · refine ⟨x, hx, fun k hk => ?_⟩
      obtain ⟨k, rfl⟩ : ∃ m, k = m + 2 := ⟨k - 2, by omega⟩
      simp only [observatorylaw28_valid.l0]
      rw [if_neg (by omega), valid_j1_end]
/-- The total and the weights of a statement. -/
theorem valid_f (a0 : Int) (l1 : List Int) (ha : (Lit.int .u16 a0).wf = true) (hl : ∀ x ∈ l1, (Lit.int .u32 x).wf = true) :
    ∃ (T : Nat) (w : List Int), T ≤ 720 ∧ VW w ∧ ∀ k, 100 ≤ k → observatorylaw28_valid.f k a0 l1 = some ((T : Int), w) := by
  simp [Lit.wf, IntKind.min, IntKind.max, IntKind.signed, IntKind.bits] at ha
  have ht := tmod_in (a := a0) (m := 721) (by omega) (by omega)
  obtain ⟨T, hT⟩ : ∃ T : Nat, Int.tmod (wrap64 a0) 721 = T := ⟨(Int.tmod a0 721).toNat, by rw [w_in (by omega) (by omega)]; omega⟩
  obtain ⟨w, hw, h⟩ := valid_l0 a0 l1 hl 30 0 [1] (by omega) ⟨by simp, by simp, by simp [rd], fun i hi => by
    have : i = 0 := by simpa using hi
    subst this; simp [rd]⟩ (by simp)
  have hTb : Int.tmod (wrap64 a0) 721 = Int.tmod a0 721 := by rw [w_in (by omega) (by omega)]
  refine ⟨T, w, by omega, hw, fun k hk => ?_⟩
  have := h k (by omega)
  rw [hT] at this
  exact this
end Go.Proofs.Ytogpaeebkdopiaa.Q
