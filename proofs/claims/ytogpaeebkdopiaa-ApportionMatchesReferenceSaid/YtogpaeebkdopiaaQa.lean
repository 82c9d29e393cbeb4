/- The method of greatest quotients in plain terms: what Share comes to. -/
import Derived.Test.YtogpaeebkdopiaaGd
import Derived.IntWalk
namespace Go.Proofs.Ytogpaeebkdopiaa.Q
open Go.RowKit Go.Proofs.YtogpaeebkdopiaaW.PrintWords Go.Proofs.YtogpaeebkdopiaaW.PrintLast Go.Proofs.YtogpaeebkdopiaaW.PrintMore Go.Proofs.Ytogpaeebkdopiaa.G
set_option linter.unusedVariables false

def S : List Int → Int
  | [] => 0
  | x :: l => x + S l
theorem w_in {n : Int} (h0 : -9223372036854775808 ≤ n) (h1 : n ≤ 9223372036854775807) : wrap64 n = n := by unfold wrap64; omega
theorem w_succ {i n : Nat} (h : i < n) (hn : n ≤ 1000000) : wrap64 ((i : Int) + 1) = ((i + 1 : Nat) : Int) := by unfold wrap64; omega
theorem rd_nat (l : List Int) (i : Nat) (h : i < l.length) : rd l (i : Int) = l[i] := by
  unfold rd; rw [Int.toNat_natCast, List.getD_eq_getElem?_getD, List.getElem?_eq_getElem h, Option.getD_some]
theorem rd_out (l : List Int) (i : Nat) (h : l.length ≤ i) : rd l (i : Int) = 0 := by
  unfold rd; rw [Int.toNat_natCast, List.getD_eq_getElem?_getD, List.getElem?_eq_none h, Option.getD_none]
theorem drop_at (l : List Int) (i : Nat) (h : i < l.length) : l.drop i = rd l i :: l.drop (i + 1) := by
  rw [rd_nat l i h]; exact List.drop_eq_getElem_cons h
theorem rd_mem (l : List Int) (i : Nat) (h : i < l.length) : rd l i ∈ l := by rw [rd_nat l i h]; exact List.getElem_mem h
theorem rd_ext {a b : List Int} (hl : a.length = b.length) (h : ∀ i : Nat, i < a.length → rd a i = rd b i) : a = b := by
  apply List.ext_getElem hl
  intro i h1 h2
  have := h i h1
  rwa [rd_nat a i h1, rd_nat b i h2] at this
theorem mul_bound {a b m n : Int} (ha : 0 ≤ a) (hb : 0 ≤ b) (ham : a ≤ m) (hbn : b ≤ n) : 0 ≤ a * b ∧ a * b ≤ m * n :=
  ⟨Int.mul_nonneg ha hb, Int.mul_le_mul ham hbn hb (by omega)⟩
theorem S_set (l : List Int) (x : Int) : ∀ (n : Nat), n < l.length → S (l.set n x) = S l + x - rd l n := by
  induction l with
  | nil => intro n h; simp at h
  | cons y l ih =>
    intro n h
    cases n with
    | zero => simp [S, rd]; omega
    | succ n =>
      have e : rd (y :: l) ((n + 1 : Nat) : Int) = rd l n := by simp [rd]
      have hn : n < l.length := by simpa using h
      rw [e]
      simp only [List.set_cons_succ, S]
      rw [ih n hn]
      omega
theorem S_zero (l : List Int) (h : ∀ i : Nat, i < l.length → rd l i = 0) : S l = 0 := by
  induction l with
  | nil => rfl
  | cons x l ih =>
    have h0 := h 0 (by simp)
    have : S l = 0 := ih (fun i hi => by
      have := h (i + 1) (by simpa using hi)
      have e : rd (x :: l) ((i + 1 : Nat) : Int) = rd l i := by simp [rd]
      rwa [e] at this)
    have e0 : rd (x :: l) ((0 : Nat) : Int) = x := by simp [rd]
    rw [e0] at h0
    simp only [S]; omega

/-! ### quotients -/
theorem trans_lt {a b c x y z : Int} (hx : 0 < x) (hy : 0 < y) (hz : 0 < z) (h1 : a * y ≤ b * x) (h2 : b * z < c * y) : a * z < c * x := by
  have e1 : a * y * z ≤ b * x * z := Int.mul_le_mul_of_nonneg_right h1 (by omega)
  have e2 : b * z * x < c * y * x := Int.mul_lt_mul_of_pos_right h2 hx
  have e3 : a * z * y < c * x * y := by
    have p1 : a * z * y = a * y * z := Int.mul_right_comm a z y
    have p2 : c * x * y = c * y * x := Int.mul_right_comm c x y
    have p3 : b * x * z = b * z * x := Int.mul_right_comm b x z
    omega
  exact Int.lt_of_mul_lt_mul_right e3 (by omega)
theorem trans_le {a b c x y z : Int} (hx : 0 < x) (hy : 0 < y) (hz : 0 < z) (h1 : a * y ≤ b * x) (h2 : b * z ≤ c * y) : a * z ≤ c * x := by
  have e1 : a * y * z ≤ b * x * z := Int.mul_le_mul_of_nonneg_right h1 (by omega)
  have e2 : b * z * x ≤ c * y * x := Int.mul_le_mul_of_nonneg_right h2 (by omega)
  have e3 : a * z * y ≤ c * x * y := by
    have p1 : a * z * y = a * y * z := Int.mul_right_comm a z y
    have p2 : c * x * y = c * y * x := Int.mul_right_comm c x y
    have p3 : b * x * z = b * z * x := Int.mul_right_comm b x z
    omega
  exact Int.le_of_mul_le_mul_right e3 hy

def Bd (l : List (Int × Int)) : Prop := ∀ i, i < l.length → 0 ≤ (pt l i).1 ∧ (pt l i).1 ≤ 1000000000 ∧ 0 ≤ (pt l i).2 ∧ (pt l i).2 ≤ 1000
theorem bef_iff {p q : Int × Int} (hp : 0 ≤ p.1 ∧ p.1 ≤ 1000000000 ∧ 0 ≤ p.2 ∧ p.2 ≤ 1000) (hq : 0 ≤ q.1 ∧ q.1 ≤ 1000000000 ∧ 0 ≤ q.2 ∧ q.2 ≤ 1000) : bef p q = true ↔ q.1 * (p.2 + 1) < p.1 * (q.2 + 1) := by
  have a := mul_bound (a := q.1) (b := p.2 + 1) (m := 1000000000) (n := 1001) (by omega) (by omega) (by omega) (by omega)
  have b := mul_bound (a := p.1) (b := q.2 + 1) (m := 1000000000) (n := 1001) (by omega) (by omega) (by omega) (by omega)
  unfold bef
  rw [w_in (n := p.2 + 1) (by omega) (by omega), w_in (n := q.2 + 1) (by omega) (by omega), w_in (by omega) (by omega), w_in (by omega) (by omega)]
  simp
/-- The best of the first i: none has a greater quotient, and none ahead of it has as great a one. -/
theorem best_spec (l : List (Int × Int)) (hb : Bd l) (hl : 0 < l.length) : ∀ i, i ≤ l.length →
    (∀ j, j < i → (pt l j).1 * ((pt l (bestTo l i)).2 + 1) ≤ (pt l (bestTo l i)).1 * ((pt l j).2 + 1)) ∧
    (∀ j, j < bestTo l i → (pt l j).1 * ((pt l (bestTo l i)).2 + 1) < (pt l (bestTo l i)).1 * ((pt l j).2 + 1)) ∧ bestTo l i ≤ i - 1
  | 0, _ => ⟨fun j hj => absurd hj (by omega), fun j hj => absurd hj (by simp [bestTo]), Nat.le_refl _⟩
  | i + 1, hi => by
    obtain ⟨h1, h2, h3⟩ := best_spec l hb hl i (by omega)
    have hbl := bestTo_lt l hl i (by omega)
    have hpi := hb i (by omega)
    have hpb := hb _ hbl
    cases hc : bef (pt l i) (pt l (bestTo l i)) with
    | true =>
      have e : bestTo l (i + 1) = i := by rw [bestTo, hc, if_pos rfl]
      have hc' := (bef_iff hpi hpb).1 hc
      rw [e]
      have hs : ∀ j, j < i → (pt l j).1 * ((pt l i).2 + 1) < (pt l i).1 * ((pt l j).2 + 1) := fun j hj => by
        have hpj := hb j (by omega)
        exact trans_lt (by omega) (by omega) (by omega) (h1 j hj) hc'
      refine ⟨fun j hj => ?_, hs, by omega⟩
      rcases Nat.lt_or_ge j i with h | h
      · exact Int.le_of_lt (hs j h)
      · obtain rfl : j = i := by omega
        exact Int.le_refl _
    | false =>
      have e : bestTo l (i + 1) = bestTo l i := by rw [bestTo, hc, if_neg (by decide)]
      have hc' : ¬ _ := fun h => by have := (bef_iff hpi hpb).2 h; rw [hc] at this; exact absurd this (by decide)
      rw [e]
      refine ⟨fun j hj => ?_, h2, by omega⟩
      rcases Nat.lt_or_ge j i with h | h
      · exact h1 j h
      · obtain rfl : j = i := by omega
        omega

/-! ### the rounds -/
theorem pt_set (l : List (Int × Int)) (b : Nat) (x : Int × Int) (hb : b < l.length) (i : Nat) : pt (l.set b x) i = if i = b then x else pt l i := by
  unfold pt
  rw [List.getD_eq_getElem?_getD, List.getD_eq_getElem?_getD, List.getElem?_set]
  by_cases h : b = i
  · subst h; rw [if_pos rfl, if_pos hb, if_pos rfl]; rfl
  · rw [if_neg h, if_neg (fun e => h e.symm)]
theorem snd_at (l : List (Int × Int)) (i : Nat) (h : i < l.length) : rd (l.map Prod.snd) i = (pt l i).2 := by
  rw [rd_nat _ i (by simpa using h)]
  simp [pt, List.getElem?_eq_getElem h, List.getD_eq_getElem?_getD]
/-- What holds after t rounds. -/
structure Inv (ws : List Int) (t : Nat) (l : List (Int × Int)) : Prop where
  len : l.length = ws.length
  w : ∀ i, i < ws.length → (pt l i).1 = rd ws i
  s0 : ∀ i, i < ws.length → 0 ≤ (pt l i).2
  st : ∀ i, i < ws.length → (pt l i).2 ≤ t
  sum : S (l.map Prod.snd) = t
  zero : ∀ i, i < ws.length → 0 < (pt l i).2 → 0 < rd ws i
  last : ∀ i k, i < ws.length → k < ws.length → i ≠ k → 0 < (pt l k).2 → rd ws i * (pt l k).2 < rd ws k * ((pt l i).2 + 1) ∨ rd ws i * (pt l k).2 = rd ws k * ((pt l i).2 + 1) ∧ k < i

theorem parts_at (ws : List Int) : ∀ k, k ≤ ws.length → ∀ i, i < ws.length → pt (partsTo ws k) i = if i < k then (rd ws i, 0) else (0, 0)
  | 0, _, i, hi => by
    rw [if_neg (by omega)]
    unfold partsTo pt
    rw [List.getD_eq_getElem?_getD, List.getElem?_replicate]
    split <;> rfl
  | k + 1, hk, i, hi => by
    unfold partsTo
    rw [pt_set _ k _ (by rw [partsTo_length]; omega), parts_at ws k (by omega) k (by omega), parts_at ws k (by omega) i hi]
    by_cases h : i = k
    · subst h; rw [if_pos rfl, if_neg (by omega), if_pos (by omega)]
    · rw [if_neg h]
      by_cases h2 : i < k
      · rw [if_pos h2, if_pos (by omega)]
      · rw [if_neg h2, if_neg (by omega)]
theorem inv_zero (ws : List Int) : Inv ws 0 (partsTo ws ws.length) := by
  have hp : ∀ i, i < ws.length → pt (partsTo ws ws.length) i = (rd ws i, 0) := fun i hi => by
    rw [parts_at ws _ (Nat.le_refl _) i hi, if_pos hi]
  refine ⟨partsTo_length _ _, fun i hi => by rw [hp i hi], fun i hi => by rw [hp i hi]; exact Int.le_refl _, fun i hi => by rw [hp i hi]; exact Int.le_refl _, S_zero _ (fun i hi => ?_), fun i hi h => ?_, fun i k hi hk _ h => ?_⟩
  · have hi' : i < (partsTo ws ws.length).length := by simpa using hi
    rw [snd_at _ i hi', hp i (by rw [partsTo_length] at hi'; exact hi')]
  · rw [hp i hi] at h; exact absurd h (by simp)
  · rw [hp k hk] at h; exact absurd h (by simp)
structure Wt (ws : List Int) : Prop where
  bd : ∀ i, i < ws.length → 0 ≤ rd ws i ∧ rd ws i ≤ 1000000000
  some : ∃ j, j < ws.length ∧ 0 < rd ws j
theorem Inv.bd {ws : List Int} {t : Nat} {l : List (Int × Int)} (h : Inv ws t l) (hw : ∀ i, i < ws.length → 0 ≤ rd ws i ∧ rd ws i ≤ 1000000000) (ht : t ≤ 1000) : Bd l := fun i hi => by
  have hi' : i < ws.length := by rw [← h.len]; exact hi
  have := hw i hi'; have := h.s0 i hi'; have := h.st i hi'
  rw [h.w i hi']
  omega
theorem Inv.best_pos {ws : List Int} {t : Nat} {l : List (Int × Int)} (h : Inv ws t l) (hw : Wt ws) (ht : t ≤ 1000) : 0 < rd ws (bestTo l l.length) ∧ bestTo l l.length < ws.length := by
  obtain ⟨j, hj, hp⟩ := hw.some
  have hl : 0 < l.length := by rw [h.len]; omega
  have hb := bestTo_lt l hl l.length (Nat.le_refl _)
  have hb' : bestTo l l.length < ws.length := by rw [← h.len]; exact hb
  have hs := (best_spec l (h.bd hw.bd ht) hl l.length (Nat.le_refl _)).1 j (by rw [h.len]; exact hj)
  rw [h.w j hj, h.w _ hb'] at hs
  have h1 := Int.mul_pos hp (show 0 < (pt l (bestTo l l.length)).2 + 1 by have := h.s0 _ hb'; omega)
  refine ⟨?_, hb'⟩
  rcases Int.lt_or_le 0 (rd ws (bestTo l l.length)) with h2 | h2
  · exact h2
  · have := Int.mul_nonpos_of_nonpos_of_nonneg h2 (show 0 ≤ (pt l j).2 + 1 by have := h.s0 j hj; omega)
    omega
theorem Inv.step {ws : List Int} {t : Nat} {l : List (Int × Int)} (h : Inv ws t l) (hw : Wt ws) (ht : t ≤ 900) : Inv ws (t + 1) (stepL l) ∧
    stepL l = l.set (bestTo l l.length) ((pt l (bestTo l l.length)).1, (pt l (bestTo l l.length)).2 + 1) := by
  obtain ⟨bp, hb'⟩ := h.best_pos hw (by omega)
  have hl : 0 < l.length := by rw [h.len]; omega
  have hb : bestTo l l.length < l.length := Nat.lt_of_lt_of_eq hb' h.len.symm
  obtain ⟨hs1, hs2, _⟩ := best_spec l (h.bd hw.bd (by omega)) hl l.length (Nat.le_refl _)
  have e : stepL l = l.set (bestTo l l.length) ((pt l (bestTo l l.length)).1, (pt l (bestTo l l.length)).2 + 1) := by
    unfold stepL
    have := h.s0 _ hb'; have := h.st _ hb'
    rw [w_in (by omega) (by omega)]
  refine ⟨?_, e⟩
  rw [e]
  generalize bestTo l l.length = b at *
  have hp := pt_set l b ((pt l b).1, (pt l b).2 + 1) hb
  refine ⟨by rw [List.length_set]; exact h.len, fun i hi => ?_, fun i hi => ?_, fun i hi => ?_, ?_, fun i hi hpos => ?_, fun i k hi hk hik hpos => ?_⟩
  · rw [hp i]; split
    · rename_i e1; subst e1; exact h.w i hi
    · exact h.w i hi
  · rw [hp i]; split
    · have := h.s0 b hb'; simp only; omega
    · exact h.s0 i hi
  · rw [hp i]; split
    · have := h.st b hb'; simp only; omega
    · have := h.st i hi; omega
  · rw [List.map_set, S_set _ _ b (by simpa using hb), snd_at l b hb, h.sum]
    simp only; omega
  · rw [hp i] at hpos
    by_cases e1 : i = b
    · subst e1; exact bp
    · rw [if_neg e1] at hpos; exact h.zero i hi hpos
  · rw [hp k] at hpos ⊢
    rw [hp i]
    by_cases e1 : k = b
    · subst e1
      rw [if_pos rfl, if_neg hik]
      simp only
      have a1 := hs1 i (by rw [h.len]; exact hi)
      rw [h.w i hi, h.w k hk] at a1
      rcases Nat.lt_or_ge k i with hki | hki
      · rcases Int.lt_or_eq_of_le a1 with a2 | a2
        · exact .inl a2
        · exact .inr ⟨a2, hki⟩
      · have a2 := hs2 i (by omega)
        rw [h.w i hi, h.w k hk] at a2
        exact .inl a2
    · rw [if_neg e1] at hpos ⊢
      have old := h.last i k hi hk hik hpos
      by_cases e2 : i = b
      · subst e2
        rw [if_pos rfl]
        simp only
        have wk := h.zero k hk hpos
        have : rd ws k * ((pt l i).2 + 1 + 1) = rd ws k * ((pt l i).2 + 1) + rd ws k := by rw [Int.mul_add, Int.mul_one]
        exact .inl (by rcases old with o | ⟨o, _⟩ <;> omega)
      · rw [if_neg e2]; exact old
theorem inv_iter (ws : List Int) (hw : Wt ws) : ∀ t, t ≤ 800 → Inv ws t (iterL (partsTo ws ws.length) t)
  | 0, _ => inv_zero ws
  | t + 1, ht => ((inv_iter ws hw t (by omega)).step hw (by omega)).1

/-! ### seats -/
theorem out_eq (l : List (Int × Int)) : outTo l l.length = l.map Prod.snd := by
  have h : ∀ k, k ≤ l.length → ∀ i : Nat, i < l.length → rd (outTo l k) i = if i < k then (pt l i).2 else 0 := by
    intro k
    induction k with
    | zero =>
      intro _ i hi
      rw [if_neg (by omega), rd_nat _ i (by rw [outTo_length]; exact hi)]
      simp [outTo]
    | succ k ih =>
      intro hk i hi
      rw [rd_nat _ i (by rw [outTo_length]; exact hi)]
      have := ih (by omega) i hi
      rw [rd_nat _ i (by rw [outTo_length]; exact hi)] at this
      simp only [outTo, List.getElem_set]
      by_cases e : k = i
      · subst e; rw [if_pos rfl, if_pos (by omega)]
      · rw [if_neg e, this]
        by_cases e2 : i < k
        · rw [if_pos e2, if_pos (by omega)]
        · rw [if_neg e2, if_neg (by omega)]
  apply rd_ext (by rw [outTo_length]; simp)
  intro i hi
  rw [outTo_length] at hi
  rw [h l.length (Nat.le_refl _) i hi, if_pos hi, snd_at l i hi]

theorem max_spec (ws : List Int) : ∀ i, (∀ j, j ≤ i → rd ws (j : Nat) ≤ maxTo ws i) ∧ ∃ j : Nat, j ≤ i ∧ maxTo ws i = rd ws j
  | 0 => ⟨fun j hj => by obtain rfl : j = 0 := by omega
                         exact Int.le_refl _, 0, Nat.le_refl _, rfl⟩
  | i + 1 => by
    obtain ⟨h1, j, hj, h2⟩ := max_spec ws i
    unfold maxTo mx
    by_cases h : maxTo ws i < rd ws ((i + 1 : Nat) : Int)
    · rw [if_pos h]
      refine ⟨fun k hk => ?_, i + 1, Nat.le_refl _, rfl⟩
      rcases Nat.lt_or_ge k (i + 1) with h3 | h3
      · have := h1 k (by omega); omega
      · obtain rfl : k = i + 1 := by omega
        exact Int.le_refl _
    · rw [if_neg h]
      refine ⟨fun k hk => ?_, j, by omega, h2⟩
      rcases Nat.lt_or_ge k (i + 1) with h3 | h3
      · exact h1 k (by omega)
      · obtain rfl : k = i + 1 := by omega
        omega
theorem max_pos {ws : List Int} (hw : Wt ws) : maxL ws ≠ 0 := by
  obtain ⟨j, hj, hp⟩ := hw.some
  have := (max_spec ws (ws.length - 1)).1 j (by omega)
  unfold maxL
  omega
theorem not_max {ws : List Int} (hl : 0 < ws.length) (hb : ∀ i, i < ws.length → 0 ≤ rd ws i ∧ rd ws i ≤ 1000000000) (h : maxL ws ≠ 0) : Wt ws := by
  obtain ⟨j, hj, e⟩ := (max_spec ws (ws.length - 1)).2
  refine ⟨hb, j, by omega, ?_⟩
  have := hb j (by omega)
  unfold maxL at h
  rw [e] at h
  omega

/-- Seats of parties with weights w, by the method of greatest quotients. -/
structure Alloc (T : Int) (w out : List Int) : Prop where
  len : out.length = w.length
  s0 : ∀ i : Nat, i < w.length → 0 ≤ rd out i
  st : ∀ i : Nat, i < w.length → rd out i ≤ T
  sum : S out = T
  zero : ∀ i : Nat, i < w.length → 0 < rd out i → 0 < rd w i
  last : ∀ i k : Nat, i < w.length → k < w.length → i ≠ k → 0 < rd out k → rd w i * rd out k < rd w k * (rd out i + 1) ∨ rd w i * rd out k = rd w k * (rd out i + 1) ∧ k < i
theorem Inv.alloc {ws : List Int} {t : Nat} {l : List (Int × Int)} (h : Inv ws t l) : Alloc t ws (l.map Prod.snd) := by
  have e : ∀ i : Nat, i < ws.length → rd (l.map Prod.snd) i = (pt l i).2 := fun i hi => snd_at l i (by rw [h.len]; exact hi)
  refine ⟨by rw [List.length_map]; exact h.len, fun i hi => by rw [e i hi]; exact h.s0 i hi, fun i hi => by rw [e i hi]; exact h.st i hi, h.sum, fun i hi hp => ?_, fun i k hi hk hik hp => ?_⟩
  · rw [e i hi] at hp; exact h.zero i hi hp
  · rw [e k hk] at hp ⊢; rw [e i hi]; exact h.last i k hi hk hik hp
theorem right_iff {T : Int} {ws : List Int} : wrongB T ws = false ↔ 1 ≤ ws.length ∧ ws.length ≤ 200 ∧ (∀ i : Nat, i < ws.length → 0 ≤ rd ws i ∧ rd ws i ≤ 1000000000) ∧ 0 ≤ T ∧ T ≤ 720 := by
  constructor
  · intro h
    obtain ⟨h1, h2, h3, h4, h5⟩ := right_of h
    refine ⟨h1, h2, fun i hi => ?_, h4, h5⟩
    rw [List.any_eq_false] at h3
    have := h3 _ (rd_mem ws i hi)
    unfold bad at this
    simp at this
    omega
  · rintro ⟨h1, h2, h3, h4, h5⟩
    unfold wrongB
    have : ws.any bad = false := by
      rw [List.any_eq_false]
      intro x hx
      obtain ⟨i, hi, rfl⟩ := List.getElem_of_mem hx
      have := h3 i hi
      rw [rd_nat ws i hi] at this
      unfold bad
      simp
      omega
    rw [this, decide_eq_false (by omega), decide_eq_false (by omega)]
    rfl
/-- The seats after T rounds. -/
def seats (ws : List Int) (T : Nat) : List Int := (iterL (partsTo ws ws.length) T).map Prod.snd
theorem share_eq {T : Nat} {ws : List Int} (hw : Wt ws) (hl : ws.length ≤ 200) (hT : T ≤ 720) : shareF T ws = (seats ws T, 0) := by
  have hl0 : 1 ≤ ws.length := by obtain ⟨j, hj, _⟩ := hw.some; omega
  unfold shareF seats
  rw [if_neg (by rw [right_iff.2 ⟨hl0, hl, hw.bd, by omega, by omega⟩]; decide), if_neg (fun h => max_pos hw h.1)]
  have e : (iterL (partsTo ws ws.length) T).length = ws.length := by rw [iterL_length, partsTo_length]
  have := out_eq (iterL (partsTo ws ws.length) T)
  rw [e] at this
  show (outTo (iterL (partsTo ws ws.length) ((T : Int)).toNat) ws.length, (0 : Int)) = _
  rw [Int.toNat_natCast, this]
theorem seats_alloc {T : Nat} {ws : List Int} (hw : Wt ws) (hT : T ≤ 721) : Alloc T ws (seats ws T) := (inv_iter ws hw T (by omega)).alloc
end Go.Proofs.Ytogpaeebkdopiaa.Q
