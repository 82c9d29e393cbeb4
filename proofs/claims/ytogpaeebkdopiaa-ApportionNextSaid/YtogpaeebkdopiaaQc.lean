/- Seats by the method of greatest quotients: the plain laws. -/
import Derived.Test.YtogpaeebkdopiaaQa
namespace Go.Proofs.Ytogpaeebkdopiaa.Q
open Go.RowKit Go.Proofs.YtogpaeebkdopiaaW.PrintWords Go.Proofs.YtogpaeebkdopiaaW.PrintLast Go.Proofs.YtogpaeebkdopiaaW.PrintMore Go.Proofs.Ytogpaeebkdopiaa.G
set_option linter.unusedVariables false

theorem rd_cons_succ (x : Int) (l : List Int) (i : Nat) : rd (x :: l) ((i + 1 : Nat) : Int) = rd l i := by simp [rd]
theorem rd_cons_zero (x : Int) (l : List Int) : rd (x :: l) ((0 : Nat) : Int) = x := by simp [rd]
/-- Sums are compared part by part. -/
theorem S_le : ∀ (a b : List Int), a.length = b.length → (∀ i : Nat, i < a.length → rd a i ≤ rd b i) → S a ≤ S b
  | [], [], _, _ => Int.le_refl _
  | x :: a, y :: b, hl, h => by
    have h0 := h 0 (by simp)
    rw [rd_cons_zero, rd_cons_zero] at h0
    have := S_le a b (by simpa using hl) (fun i hi => by
      have := h (i + 1) (by simpa using hi)
      rwa [rd_cons_succ, rd_cons_succ] at this)
    simp only [S]; omega
  | [], y :: b, hl, _ => by simp at hl
  | x :: a, [], hl, _ => by simp at hl
theorem S_lt : ∀ (a b : List Int), a.length = b.length → (∀ i : Nat, i < a.length → rd a i ≤ rd b i) → (∃ i : Nat, i < a.length ∧ rd a i < rd b i) → S a < S b
  | [], [], _, _, he => by obtain ⟨i, hi, _⟩ := he; simp at hi
  | x :: a, y :: b, hl, h, he => by
    have h0 := h 0 (by simp)
    rw [rd_cons_zero, rd_cons_zero] at h0
    have hr : ∀ i : Nat, i < a.length → rd a i ≤ rd b i := fun i hi => by
      have := h (i + 1) (by simpa using hi)
      rwa [rd_cons_succ, rd_cons_succ] at this
    have hle := S_le a b (by simpa using hl) hr
    obtain ⟨i, hi, hlt⟩ := he
    cases i with
    | zero => rw [rd_cons_zero, rd_cons_zero] at hlt; simp only [S]; omega
    | succ i =>
      rw [rd_cons_succ, rd_cons_succ] at hlt
      have := S_lt a b (by simpa using hl) hr ⟨i, by simpa using hi, hlt⟩
      simp only [S]; omega
  | [], y :: b, hl, _, _ => by simp at hl
  | x :: a, [], hl, _, _ => by simp at hl
theorem S_mul (l : List Int) (c : Int) : S (l.map fun x => x * c) = S l * c := by
  induction l with
  | nil => simp [S]
  | cons x l ih => simp only [List.map_cons, S, ih, Int.add_mul]
theorem rd_mul (l : List Int) (c : Int) (i : Nat) (h : i < l.length) : rd (l.map fun x => x * c) i = rd l i * c := by
  rw [rd_nat _ i (by simpa using h), rd_nat l i h]; simp
theorem S_append (a b : List Int) : S (a ++ b) = S a + S b := by
  induction a with
  | nil => simp [S]
  | cons x a ih => simp only [List.cons_append, S, ih]; omega

/-- Each party has at least its part. -/
theorem Alloc.part {T : Int} {w o : List Int} (h : Alloc T w o) (hw : ∀ i : Nat, i < w.length → 0 ≤ rd w i ∧ rd w i ≤ 1000000000) (hW : 0 < S w) (i : Nat) (hi : i < w.length) : T * rd w i < (rd o i + 1) * S w := by
  by_cases hz : rd w i = 0
  · rw [hz, Int.mul_zero]
    exact Int.mul_pos (by have := h.s0 i hi; omega) hW
  · have hp : 0 < rd w i := by have := hw i hi; omega
    have hl : (o.map fun x => x * rd w i).length = (w.map fun x => x * (rd o i + 1)).length := by simp [h.len]
    have hlt := S_lt (o.map fun x => x * rd w i) (w.map fun x => x * (rd o i + 1)) hl (fun k hk => ?_) ⟨i, ?_, ?_⟩
    · rw [S_mul, S_mul, h.sum] at hlt
      rw [Int.mul_comm (rd o i + 1)]; exact hlt
    · have hk' : k < w.length := by simpa [h.len] using hk
      rw [rd_mul _ _ k (by rw [h.len]; exact hk'), rd_mul _ _ k hk']
      by_cases e : i = k
      · subst e
        rw [Int.mul_comm, Int.mul_add]
        omega
      · rcases Int.lt_or_le 0 (rd o k) with hs | hs
        · have := h.last i k hi hk' e hs
          rw [Int.mul_comm (rd o k)]
          rcases this with o1 | ⟨o1, _⟩ <;> omega
        · have e0 : rd o k = 0 := by have := h.s0 k hk'; omega
          rw [e0, Int.zero_mul]
          exact Int.mul_nonneg (hw k hk').1 (by have := h.s0 i hi; omega)
    · simpa [h.len] using hi
    · rw [rd_mul _ _ i (by rw [h.len]; exact hi), rd_mul _ _ i hi, Int.mul_comm, Int.mul_add]
      omega
/-- The greater weight has at least as many seats. -/
theorem Alloc.more {T : Int} {w o : List Int} (h : Alloc T w o) (i k : Nat) (hi : i < w.length) (hk : k < w.length) (hw : rd w k < rd w i) (h0 : 0 ≤ rd w k) : rd o k ≤ rd o i := by
  rcases Int.lt_or_le (rd o i) (rd o k) with hlt | hle
  · exfalso
    have hsi := h.s0 i hi
    have hne : i ≠ k := by rintro rfl; omega
    have hl := h.last i k hi hk hne (by omega)
    have e1 : rd w k * (rd o i + 1) ≤ rd w k * rd o k := Int.mul_le_mul_of_nonneg_left (by omega) h0
    have e2 : rd w k * rd o k < rd w i * rd o k := Int.mul_lt_mul_of_pos_right hw (by omega)
    rcases hl with o1 | ⟨o1, _⟩ <;> omega
  · exact hle
/-- Equal weights differ by at most one seat. -/
theorem Alloc.even {T : Int} {w o : List Int} (h : Alloc T w o) (i k : Nat) (hi : i < w.length) (hk : k < w.length) (hw : rd w i = rd w k) : rd o i ≤ rd o k + 1 := by
  rcases Int.lt_or_le (rd o k + 1) (rd o i) with hlt | hle
  · exfalso
    have hsk := h.s0 k hk
    have hne : k ≠ i := by rintro rfl; omega
    have hp := h.zero i hi (by omega)
    have hl := h.last k i hk hi hne (by omega)
    have e1 : rd w k * (rd o k + 1) < rd w k * rd o i := Int.mul_lt_mul_of_pos_left hlt (by omega)
    rw [hw] at hl
    rcases hl with o1 | ⟨o1, _⟩ <;> omega
  · exact hle
/-- Where the weight at m grows, and no other one, no other party gets more. -/
theorem Alloc.grow {T : Int} {w w' a b : List Int} (ha : Alloc T w a) (hb : Alloc T w' b) (hl : w'.length = w.length) (m : Nat) (hm : ∀ i : Nat, i < w.length → i ≠ m → rd w' i = rd w i) (hg : m < w.length → rd w m ≤ rd w' m)
    (i : Nat) (hi : i < w.length) (him : i ≠ m) : rd b i ≤ rd a i := by
  rcases Int.lt_or_le (rd a i) (rd b i) with hlt | hle
  · exfalso
    have hlab : a.length = b.length := by rw [ha.len, hb.len, hl]
    have hex : ∃ j : Nat, j < w.length ∧ rd b j < rd a j := by
      rcases Classical.em (∃ j : Nat, j < w.length ∧ rd b j < rd a j) with h | h
      · exact h
      · exfalso
        have := S_lt a b hlab (fun j hj => by
          rcases Int.lt_or_le (rd b j) (rd a j) with h1 | h1
          · exact absurd ⟨j, by rw [← ha.len]; exact hj, h1⟩ h
          · exact h1) ⟨i, by rw [ha.len]; exact hi, hlt⟩
        rw [ha.sum, hb.sum] at this
        omega
    obtain ⟨j, hj, hjl⟩ := hex
    have hij : i ≠ j := by rintro rfl; omega
    have sai := ha.s0 i hi
    have sbj := hb.s0 j (by rw [hl]; exact hj)
    have p1 := hb.last j i (by rw [hl]; exact hj) (by rw [hl]; exact hi) (fun e => hij e.symm) (by omega)
    have p2 := ha.last i j hi hj hij (by omega)
    have hwj : rd w j ≤ rd w' j := by
      by_cases e : j = m
      · subst e; exact hg hj
      · rw [hm j hj e]; exact Int.le_refl _
    have hwj0 : 0 < rd w j := ha.zero j hj (by omega)
    rw [hm i hi him] at p1
    have hwi0 : 0 < rd w i := by
      have := hb.zero i (by rw [hl]; exact hi) (by omega)
      rwa [hm i hi him] at this
    -- w_j (a_i + 1) ≤ w'_j b_i ≤ w_i (b_j + 1) ≤ w_i a_j ≤ w_j (a_i + 1)
    have e1 : rd w j * (rd a i + 1) ≤ rd w' j * (rd a i + 1) := Int.mul_le_mul_of_nonneg_right hwj (by omega)
    have e2 : rd w' j * (rd a i + 1) ≤ rd w' j * rd b i := Int.mul_le_mul_of_nonneg_left (by omega) (by omega)
    have e3 : rd w i * (rd b j + 1) ≤ rd w i * rd a j := Int.mul_le_mul_of_nonneg_left (by omega) (by omega)
    rcases p1 with q1 | ⟨q1, r1⟩ <;> rcases p2 with q2 | ⟨q2, r2⟩ <;> omega
  · exact hle
theorem Alloc.grow_own {T : Int} {w w' a b : List Int} (ha : Alloc T w a) (hb : Alloc T w' b) (hl : w'.length = w.length) (m : Nat) (hm : ∀ i : Nat, i < w.length → i ≠ m → rd w' i = rd w i) (hg : m < w.length → rd w m ≤ rd w' m)
    (hml : m < w.length) : rd a m ≤ rd b m := by
  rcases Int.lt_or_le (rd b m) (rd a m) with hlt | hle
  · exfalso
    have hlab : b.length = a.length := by rw [ha.len, hb.len, hl]
    have := S_lt b a hlab (fun j hj => by
      have hj' : j < w.length := by rw [← hl, ← hb.len]; exact hj
      by_cases e : j = m
      · subst e; omega
      · exact ha.grow hb hl m hm hg j hj' e) ⟨m, by rw [hb.len, hl]; exact hml, hlt⟩
    rw [ha.sum, hb.sum] at this
    omega
  · exact hle
/-- The seats are one. -/
theorem Alloc.unique {T : Int} {w a b : List Int} (ha : Alloc T w a) (hb : Alloc T w b) : a = b := by
  apply rd_ext (by rw [ha.len, hb.len])
  intro i hi
  have hi' : i < w.length := by rw [← ha.len]; exact hi
  have h1 := ha.grow hb rfl w.length (fun _ _ _ => rfl) (fun h => absurd h (by omega)) i hi' (by omega)
  have h2 := hb.grow ha rfl w.length (fun _ _ _ => rfl) (fun h => absurd h (by omega)) i hi' (by omega)
  omega
theorem rd_app_left (a b : List Int) (i : Nat) (h : i < a.length) : rd (a ++ b) i = rd a i := by
  rw [rd_nat _ i (by simp; omega), rd_nat a i h, List.getElem_append_left h]
theorem rd_app_zero (a : List Int) (m i : Nat) (h : a.length ≤ i) : rd (a ++ List.replicate m 0) i = 0 := by
  by_cases h2 : i < (a ++ List.replicate m (0 : Int)).length
  · rw [rd_nat _ i h2, List.getElem_append_right h]; simp
  · rw [rd_out _ i (by omega)]
/-- All weights times a factor, and further parties of the weight 0. -/
theorem Alloc.scale {T : Int} {w a : List Int} (h : Alloc T w a) (c : Int) (hc : 0 < c) (m : Nat) : Alloc T ((w.map fun x => x * c) ++ List.replicate m 0) (a ++ List.replicate m 0) := by
  have hl : (w.map fun x => x * c).length = w.length := by simp
  have wl : ∀ i : Nat, i < w.length → rd ((w.map fun x => x * c) ++ List.replicate m 0) i = rd w i * c := fun i hi => by rw [rd_app_left _ _ i (by rw [hl]; exact hi), rd_mul _ _ i hi]
  have wr : ∀ i : Nat, w.length ≤ i → rd ((w.map fun x => x * c) ++ List.replicate m 0) i = 0 := fun i hi => rd_app_zero _ m i (by rw [hl]; exact hi)
  have al : ∀ i : Nat, i < w.length → rd (a ++ List.replicate m 0) i = rd a i := fun i hi => rd_app_left _ _ i (by rw [h.len]; exact hi)
  have ar : ∀ i : Nat, w.length ≤ i → rd (a ++ List.replicate m 0) i = 0 := fun i hi => rd_app_zero _ m i (by rw [h.len]; exact hi)
  have hT : 0 ≤ T := by
    have := S_le (List.replicate a.length 0) a (by simp) (fun i hi => by
      have hi' : i < a.length := by simpa using hi
      rw [rd_nat _ i hi]; simp
      exact h.s0 i (by rw [← h.len]; exact hi'))
    have z := S_zero (List.replicate a.length 0) (fun i hi => by rw [rd_nat _ i hi]; simp)
    rw [h.sum] at this; omega
  refine ⟨by simp [h.len], fun i hi => ?_, fun i hi => ?_, ?_, fun i hi hp => ?_, fun i k hi hk hik hp => ?_⟩
  · rcases Nat.lt_or_ge i w.length with hlt | hge
    · rw [al i hlt]; exact h.s0 i hlt
    · rw [ar i hge]; exact Int.le_refl _
  · rcases Nat.lt_or_ge i w.length with hlt | hge
    · rw [al i hlt]; exact h.st i hlt
    · rw [ar i hge]; exact hT
  · rw [S_append, h.sum, S_zero (List.replicate m 0) (fun i hi => by rw [rd_nat _ i hi]; simp)]; omega
  · rcases Nat.lt_or_ge i w.length with hlt | hge
    · rw [al i hlt] at hp; rw [wl i hlt]; exact Int.mul_pos (h.zero i hlt hp) hc
    · rw [ar i hge] at hp; omega
  · rcases Nat.lt_or_ge k w.length with hlt | hge
    · rw [al k hlt] at hp ⊢
      rw [wl k hlt]
      rcases Nat.lt_or_ge i w.length with hli | hgi
      · rw [al i hli, wl i hli, Int.mul_right_comm, Int.mul_right_comm (rd w k)]
        rcases h.last i k hli hlt hik hp with o | ⟨o, o2⟩
        · exact .inl (Int.mul_lt_mul_of_pos_right o hc)
        · exact .inr ⟨by rw [o], o2⟩
      · rw [ar i hgi, wr i hgi, Int.zero_mul, Int.zero_add, Int.mul_one]
        exact .inl (Int.mul_pos (h.zero k hlt hp) hc)
    · rw [ar k hge] at hp; omega
end Go.Proofs.Ytogpaeebkdopiaa.Q
