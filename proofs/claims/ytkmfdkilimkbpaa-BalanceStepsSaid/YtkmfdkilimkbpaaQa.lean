/- What the printed functions of balance and its reference come to, in plain terms. -/
import Derived.Test.YtkmfdkilimkbpaaPAllx
import Derived.IntWalk
namespace Go.Proofs.Ytkmfdkilimkbpaa.Q
open Go.RowKit Go.Proofs.Ytkmfdkilimkbpaa.PAll Go.Proofs.YtkmfdkilimkbpaaW.PrintWords Go.Proofs.YtkmfdkilimkbpaaW.PrintLast
set_option linter.unusedVariables false

def S : List Int → Int
  | [] => 0
  | x :: l => x + S l
theorem w_in {n : Int} (h0 : -9223372036854775808 ≤ n) (h1 : n ≤ 9223372036854775807) : wrap64 n = n := by unfold wrap64; omega
theorem w_succ {i n : Nat} (h : i < n) (hn : n ≤ 1000000) : wrap64 ((i : Int) + 1) = ((i + 1 : Nat) : Int) := by unfold wrap64; omega
theorem rd_nat (l : List Int) (i : Nat) (h : i < l.length) : rd l (i : Int) = l[i] := by
  unfold rd; rw [Int.toNat_natCast, List.getD_eq_getElem?_getD, List.getElem?_eq_getElem h, Option.getD_some]
theorem drop_at (l : List Int) (i : Nat) (h : i < l.length) : l.drop i = rd l i :: l.drop (i + 1) := by
  rw [rd_nat l i h]; exact List.drop_eq_getElem_cons h
theorem rd_mem (l : List Int) (i : Nat) (h : i < l.length) : rd l i ∈ l := by rw [rd_nat l i h]; exact List.getElem_mem h
theorem nat_of {i : Int} (h : 0 ≤ i) : ∃ n : Nat, i = n := ⟨i.toNat, by omega⟩

/-- Shares and accounts that belong together. -/
structure OK (l0 l1 : List Int) : Prop where
  pos : 1 ≤ l0.length
  le : l0.length ≤ 16
  eq : l1.length = l0.length
  a : ∀ x ∈ l0, 1 ≤ x ∧ x ≤ 1000
  b : ∀ x ∈ l1, 0 ≤ x ∧ x ≤ 1000000

theorem bad_false {lo hi x : Int} : G.bad lo hi x = false ↔ lo ≤ x ∧ x ≤ hi := by unfold G.bad; simp
theorem any_bad {lo hi : Int} {l : List Int} : l.any (G.bad lo hi) = false ↔ ∀ x ∈ l, lo ≤ x ∧ x ≤ hi := by
  rw [List.any_eq_false]
  constructor
  · intro h x hx; exact bad_false.1 (by simpa using h x hx)
  · intro h x hx; simpa using bad_false.2 (h x hx)
theorem valid_iff (l0 l1 : List Int) : G.validB l0 l1 = true ↔ OK l0 l1 := by
  unfold G.validB
  simp only [Bool.and_eq_true, Bool.not_eq_true', decide_eq_true_eq, any_bad]
  exact ⟨fun ⟨⟨⟨h1, h2, h3⟩, h4⟩, h5⟩ => ⟨h1, h2, h3, h4, h5⟩, fun h => ⟨⟨⟨h.pos, h.le, h.eq⟩, h.a⟩, h.b⟩⟩

theorem S_bound {l : List Int} {m : Int} (hm : 0 ≤ m) (h : ∀ x ∈ l, 0 ≤ x ∧ x ≤ m) : 0 ≤ S l ∧ S l ≤ l.length * m := by
  induction l with
  | nil => exact ⟨Int.le_refl _, by simp [S]⟩
  | cons x l ih =>
    have := ih (fun y hy => h y (List.mem_cons_of_mem _ hy))
    have hx := h x List.mem_cons_self
    have e : ((x :: l).length : Int) * m = l.length * m + m := by rw [List.length_cons]; push_cast; rw [Int.add_mul]; omega
    refine ⟨by simp only [S]; omega, by rw [e]; simp only [S]; omega⟩

/-! ### the sums -/
theorem sum_l0 (l : List Int) (h : ∀ x ∈ l, 0 ≤ x ∧ x ≤ 1000000) (hl : l.length ≤ 16) (d : Nat) : ∀ (k i : Nat) (x : Int), l.length - i = d → i ≤ l.length → d < k → 0 ≤ x → x ≤ 1000000 * i →
    balance_sum_int.l0 k x l (l.length : Int) (i : Int) = some (x + S (l.drop i)) := by
  induction d with
  | zero =>
    intro k i x hd hi hk h0 h1
    obtain ⟨k, rfl⟩ : ∃ m, k = m + 1 := ⟨k - 1, by omega⟩
    obtain rfl : i = l.length := by omega
    simp only [balance_sum_int.l0]; rw [if_neg (by omega), List.drop_length]; simp [S]
  | succ d ih =>
    intro k i x hd hi hk h0 h1
    obtain ⟨k, rfl⟩ : ∃ m, k = m + 1 := ⟨k - 1, by omega⟩
    have hlt : i < l.length := by omega
    have hb := h _ (rd_mem l i hlt)
    simp only [balance_sum_int.l0]
    rw [if_pos (by omega), if_pos (by omega), if_pos (by omega), w_succ hlt (by omega), w_in (by omega) (by omega), ih k (i + 1) _ (by omega) (by omega) (by omega) (by omega) (by omega), drop_at l i hlt]
    simp only [S]; congr 1; omega
theorem sum_f (l : List Int) (h : ∀ x ∈ l, 0 ≤ x ∧ x ≤ 1000000) (hl : l.length ≤ 16) (k : Nat) (hk : 16 < k) : balance_sum_int.f k l = some (S l) := by
  unfold balance_sum_int.f
  have := sum_l0 l h hl l.length k 0 0 (by omega) (by omega) (by omega) (by omega) (by omega)
  simpa using this
theorem rsum_l0 (l : List Int) (h : ∀ x ∈ l, 0 ≤ x ∧ x ≤ 1000000) (hl : l.length ≤ 16) (d : Nat) : ∀ (k i : Nat) (x : Int), l.length - i = d → i ≤ l.length → d < k → 0 ≤ x → x ≤ 1000000 * i →
    observatoryref26_sum.l0 k l x (i : Int) = some (x + S (l.drop i)) := by
  induction d with
  | zero =>
    intro k i x hd hi hk h0 h1
    obtain ⟨k, rfl⟩ : ∃ m, k = m + 1 := ⟨k - 1, by omega⟩
    obtain rfl : i = l.length := by omega
    simp only [observatoryref26_sum.l0]; rw [if_neg (by omega), List.drop_length]; simp [S]
  | succ d ih =>
    intro k i x hd hi hk h0 h1
    obtain ⟨k, rfl⟩ : ∃ m, k = m + 1 := ⟨k - 1, by omega⟩
    have hlt : i < l.length := by omega
    have hb := h _ (rd_mem l i hlt)
    simp only [observatoryref26_sum.l0]
    rw [if_pos (by omega), if_pos (by omega), w_succ hlt (by omega), w_in (by omega) (by omega), ih k (i + 1) _ (by omega) (by omega) (by omega) (by omega) (by omega), drop_at l i hlt]
    simp only [S]; congr 1; omega
theorem rsum_f (l : List Int) (h : ∀ x ∈ l, 0 ≤ x ∧ x ≤ 1000000) (hl : l.length ≤ 16) (k : Nat) (hk : 16 < k) : observatoryref26_sum.f k l = some (S l) := by
  unfold observatoryref26_sum.f
  have := rsum_l0 l h hl l.length k 0 0 (by omega) (by omega) (by omega) (by omega) (by omega)
  simpa using this

/-! ### Valid of the reference -/
theorem rvalid_l0 (l0 l1 : List Int) (he : l1.length = l0.length) (hl : l0.length ≤ 16) (d : Nat) : ∀ (k i : Nat), l0.length - i = d → i ≤ l0.length → d < k →
    observatoryref26_Valid.l0 k l0 l1 (i : Int) = some (!((l0.drop i).any (G.bad 1 1000)) && !((l1.drop i).any (G.bad 0 1000000))) := by
  induction d with
  | zero =>
    intro k i hd hi hk
    obtain ⟨k, rfl⟩ : ∃ m, k = m + 1 := ⟨k - 1, by omega⟩
    obtain rfl : i = l0.length := by omega
    simp only [observatoryref26_Valid.l0]; rw [if_neg (by omega), List.drop_length, ← he, List.drop_length]; rfl
  | succ d ih =>
    intro k i hd hi hk
    obtain ⟨k, rfl⟩ : ∃ m, k = m + 1 := ⟨k - 1, by omega⟩
    have hlt : i < l0.length := by omega
    simp only [observatoryref26_Valid.l0]
    rw [if_pos (by omega), if_pos (by omega), w_succ hlt (by omega), ih k (i + 1) (by omega) (by omega) (by omega), drop_at l0 i hlt, drop_at l1 i (by omega)]
    simp only [List.any_cons, G.bad]
    by_cases h1 : rd l0 i < 1
    · rw [if_pos h1]; simp [h1]
    rw [if_neg h1]
    by_cases h2 : rd l0 i > 1000
    · rw [if_pos h2]; simp [h2]
    rw [if_neg h2, if_pos (by omega)]
    by_cases h3 : rd l1 i < 0
    · rw [if_pos h3]; simp [h3]
    rw [if_neg h3]
    by_cases h4 : rd l1 i > 1000000
    · rw [if_pos h4]; simp [h4]
    rw [if_neg h4]
    simp [h1, h2, h3, h4]
theorem rvalid_f (l0 l1 : List Int) (k : Nat) (hk : 20 < k) : observatoryref26_Valid.f k l0 l1 = some (G.validB l0 l1) := by
  obtain ⟨k, rfl⟩ : ∃ m, k = m + 1 := ⟨k - 1, by omega⟩
  unfold observatoryref26_Valid.f G.validB
  have hj : observatoryref26_Valid.j0 (k + 1) l0 l1 true = some false := by simp only [observatoryref26_Valid.j0]; rfl
  by_cases h1 : (l0.length : Int) < 1
  · rw [if_pos h1, hj, decide_eq_false (by omega)]; rfl
  rw [if_neg h1]
  by_cases h2 : (l0.length : Int) > 16
  · rw [if_pos h2, hj, decide_eq_false (by omega)]; rfl
  rw [if_neg h2]
  by_cases h3 : l1.length = l0.length
  · have e : ((l1.length : Int) != (l0.length : Int)) = false := by simp [h3]
    rw [e, decide_eq_true (by omega)]
    simp only [observatoryref26_Valid.j0]
    rw [if_neg (by decide)]
    have := rvalid_l0 l0 l1 h3 (by omega) l0.length k 0 (by omega) (by omega) (by omega)
    simpa using this
  · have e : ((l1.length : Int) != (l0.length : Int)) = true := by simp; omega
    rw [e, hj, decide_eq_false (by omega)]; rfl

/-! ### Balance -/
def bal (l0 l1 : List Int) (i : Int) : Int := rd l0 i * S l1 - rd l1 i * S l0
def balF (l0 l1 : List Int) (i : Int) : Int × Int := if G.validB l0 l1 = true ∧ 0 ≤ i ∧ i < l0.length then (bal l0 l1 i, 0) else (0, 1)
theorem mul_bound {a b m n : Int} (ha : 0 ≤ a) (hb : 0 ≤ b) (ham : a ≤ m) (hbn : b ≤ n) : 0 ≤ a * b ∧ a * b ≤ m * n :=
  ⟨Int.mul_nonneg ha hb, Int.mul_le_mul ham hbn hb (by omega)⟩
theorem OK.sums {l0 l1 : List Int} (h : OK l0 l1) : 0 ≤ S l1 ∧ S l1 ≤ 16000000 ∧ 0 ≤ S l0 ∧ S l0 ≤ 16000 := by
  have h1 := S_bound (l := l1) (m := 1000000) (by omega) h.b
  have h2 := S_bound (l := l0) (m := 1000) (by omega) (fun x hx => by have := h.a x hx; omega)
  have := h.le; have := h.eq
  omega
theorem OK.parts {l0 l1 : List Int} (h : OK l0 l1) {i : Int} (h0 : 0 ≤ i) (h1 : i < l0.length) : 1 ≤ rd l0 i ∧ rd l0 i ≤ 1000 ∧ 0 ≤ rd l1 i ∧ rd l1 i ≤ 1000000 := by
  obtain ⟨n, rfl⟩ := nat_of h0
  have a := h.a _ (rd_mem l0 n (by omega))
  have b := h.b _ (rd_mem l1 n (by have := h.eq; omega))
  omega
theorem OK.prods {l0 l1 : List Int} (h : OK l0 l1) {i : Int} (h0 : 0 ≤ i) (h1 : i < l0.length) : 0 ≤ rd l0 i * S l1 ∧ rd l0 i * S l1 ≤ 16000000000 ∧ 0 ≤ rd l1 i * S l0 ∧ rd l1 i * S l0 ≤ 16000000000 := by
  have hs := h.sums
  have hp := h.parts h0 h1
  have a := mul_bound (a := rd l0 i) (b := S l1) (m := 1000) (n := 16000000) (by omega) (by omega) (by omega) (by omega)
  have b := mul_bound (a := rd l1 i) (b := S l0) (m := 1000000) (n := 16000) (by omega) (by omega) (by omega) (by omega)
  omega
theorem OK.bal_bound {l0 l1 : List Int} (h : OK l0 l1) {i : Int} (h0 : 0 ≤ i) (h1 : i < l0.length) : -16000000000 ≤ bal l0 l1 i ∧ bal l0 l1 i ≤ 16000000000 := by
  have := h.prods h0 h1
  unfold bal; omega

theorem balance_f (l0 l1 : List Int) (i : Int) (k : Nat) (hk : 30 < k) : balance_Balance.f k l0 l1 i = some (balF l0 l1 i) := by
  obtain ⟨k, rfl⟩ : ∃ m, k = m + 1 := ⟨k - 1, by omega⟩
  unfold balance_Balance.f balance_Valid.f balF
  simp only [Option.bind_some]
  have hj : balance_Balance.j0 (k + 1) l0 l1 i true = some (0, 1) := by simp only [balance_Balance.j0]; rfl
  by_cases hv : G.validB l0 l1 = true
  · rw [if_pos hv]
    have ok := (valid_iff l0 l1).1 hv
    by_cases h1 : i < 0
    · rw [if_pos h1, hj, if_neg (by omega)]
    rw [if_neg h1]
    by_cases h2 : i ≥ (l0.length : Int)
    · rw [decide_eq_true h2, hj, if_neg (by omega)]
    rw [decide_eq_false h2, if_pos ⟨hv, by omega, by omega⟩]
    have hp := ok.prods (i := i) (by omega) (by omega)
    simp only [balance_Balance.j0]
    rw [if_neg (by decide), if_pos (by omega), if_pos (by omega), sum_f l1 ok.b (by have := ok.le; have := ok.eq; omega) k (by omega)]
    simp only [Option.bind_some]
    rw [if_pos (by have := ok.eq; omega), sum_f l0 (fun x hx => by have := ok.a x hx; omega) ok.le k (by omega)]
    simp only [Option.bind_some]
    rw [w_in (n := rd l0 i * S l1) (by omega) (by omega), w_in (n := rd l1 i * S l0) (by omega) (by omega), w_in (by omega) (by omega)]
    rfl
  · rw [if_neg hv, hj, if_neg (fun h => hv h.1)]
theorem rbalance_f (l0 l1 : List Int) (i : Int) (k : Nat) (hk : 30 < k) : observatoryref26_Balance.f k l0 l1 i = some (balF l0 l1 i) := by
  obtain ⟨k, rfl⟩ : ∃ m, k = m + 1 := ⟨k - 1, by omega⟩
  unfold observatoryref26_Balance.f balF
  rw [rvalid_f l0 l1 _ (by omega)]
  simp only [Option.bind_some]
  have hj : observatoryref26_Balance.j0 (k + 1) l0 l1 i true = some (0, 1) := by simp only [observatoryref26_Balance.j0]; rfl
  by_cases hv : G.validB l0 l1 = true
  · rw [if_pos hv]
    have ok := (valid_iff l0 l1).1 hv
    by_cases h1 : i < 0
    · rw [if_pos h1, hj, if_neg (by omega)]
    rw [if_neg h1]
    by_cases h2 : i ≥ (l0.length : Int)
    · rw [decide_eq_true h2, hj, if_neg (by omega)]
    rw [decide_eq_false h2, if_pos ⟨hv, by omega, by omega⟩]
    have hp := ok.prods (i := i) (by omega) (by omega)
    simp only [observatoryref26_Balance.j0]
    rw [if_neg (by decide), if_pos (by omega), if_pos (by omega), rsum_f l1 ok.b (by have := ok.le; have := ok.eq; omega) k (by omega)]
    simp only [Option.bind_some]
    rw [if_pos (by have := ok.eq; omega), rsum_f l0 (fun x hx => by have := ok.a x hx; omega) ok.le k (by omega)]
    simp only [Option.bind_some]
    rw [w_in (n := rd l0 i * S l1) (by omega) (by omega), w_in (n := rd l1 i * S l0) (by omega) (by omega), w_in (by omega) (by omega)]
    rfl
  · rw [if_neg hv, hj, if_neg (fun h => hv h.1)]

/-! ### Charge of the reference -/
theorem rcharge_f (l0 l1 : List Int) (i n : Int) (k : Nat) (hk : 30 < k) : observatoryref26_Charge.f k l0 l1 i n = some (G.chargeF l0 l1 i n) := by
  obtain ⟨k, rfl⟩ : ∃ m, k = m + 1 := ⟨k - 1, by omega⟩
  unfold observatoryref26_Charge.f G.chargeF
  rw [rvalid_f l0 l1 _ (by omega)]
  simp only [Option.bind_some]
  have hj : observatoryref26_Charge.j0 (k + 1) l1 i n true = some ([], 1) := by simp only [observatoryref26_Charge.j0]; rfl
  by_cases hv : G.validB l0 l1 = true
  · rw [if_pos hv]
    have ok := (valid_iff l0 l1).1 hv
    have := ok.eq
    have := ok.le
    by_cases h1 : i < 0
    · rw [if_pos h1, hj, if_pos (.inr (.inl h1))]
    rw [if_neg h1]
    by_cases h2 : i ≥ (l0.length : Int)
    · rw [if_pos h2, hj, if_pos (.inr (.inr (.inl (by omega))))]
    rw [if_neg h2]
    by_cases h3 : n < 0
    · rw [if_pos h3, hj, if_pos (.inr (.inr (.inr (by simp [G.bad, h3]))))]
    rw [if_neg h3]
    by_cases h4 : n > 1000000
    · rw [decide_eq_true h4, hj, if_pos (.inr (.inr (.inr (by simp [G.bad, h4]))))]
    have h5 : G.bad 0 1000000 n = false := bad_false.2 (by omega)
    rw [decide_eq_false h4, if_neg (by rw [hv, h5]; simp; omega)]
    simp only [observatoryref26_Charge.j0, Option.bind_some, List.nil_append]
    rw [if_neg (by decide), if_pos (by omega), if_pos (by omega)]
    by_cases h6 : wrap64 (rd l1 i + n) > 1000000
    · rw [if_pos h6, if_pos h6]
    · rw [if_neg h6, if_neg h6, if_pos (by simp; omega), if_pos (by omega)]
  · have hv' : G.validB l0 l1 = false := by simpa using hv
    rw [if_neg hv, hj, if_pos (.inl hv')]

/-! ### Ints, times, all -/
theorem ints_l0 (a b : List Int) (hab : a.length = b.length) (hl : a.length ≤ 1000) (d : Nat) : ∀ (k i : Nat), a.length - i = d → i ≤ a.length → d < k →
    observatoryref26_Ints.l0 k a b (i : Int) = some (decide (a.drop i = b.drop i)) := by
  induction d with
  | zero =>
    intro k i hd hi hk
    obtain ⟨k, rfl⟩ : ∃ m, k = m + 1 := ⟨k - 1, by omega⟩
    obtain rfl : i = a.length := by omega
    simp only [observatoryref26_Ints.l0]; rw [if_neg (by omega), List.drop_length, hab, List.drop_length]; rfl
  | succ d ih =>
    intro k i hd hi hk
    obtain ⟨k, rfl⟩ : ∃ m, k = m + 1 := ⟨k - 1, by omega⟩
    have hlt : i < a.length := by omega
    simp only [observatoryref26_Ints.l0]
    rw [if_pos (by omega), if_pos (by omega), if_pos (by omega), w_succ hlt (by omega), ih k (i + 1) (by omega) (by omega) (by omega), drop_at a i hlt, drop_at b i (by omega)]
    by_cases h : rd a i = rd b i
    · rw [if_pos h]; simp [h]
    · rw [if_neg h]; simp [h]
theorem ints_f (a b : List Int) (hl : a.length ≤ 100) (k : Nat) (hk : 200 < k) : observatoryref26_Ints.f k a b = some (decide (a = b)) := by
  unfold observatoryref26_Ints.f
  by_cases h : a.length = b.length
  · rw [if_pos (by omega)]
    have := ints_l0 a b h (by omega) a.length k 0 (by omega) (by omega) (by omega)
    simpa using this
  · rw [if_neg (by omega)]
    have : ¬ a = b := fun e => h (by rw [e])
    simp [this]

theorem times_l0 (l : List Int) (c : Int) (hl : l.length ≤ 1000) (d : Nat) : ∀ (k i : Nat), l.length - i = d → i ≤ l.length → d < k →
    observatorylaw26_times.l0 k l c ((l.take i).map fun x => wrap64 (x * c)) (i : Int) = some (l.map fun x => wrap64 (x * c)) := by
  induction d with
  | zero =>
    intro k i hd hi hk
    obtain ⟨k, rfl⟩ : ∃ m, k = m + 1 := ⟨k - 1, by omega⟩
    obtain rfl : i = l.length := by omega
    simp only [observatorylaw26_times.l0]; rw [if_neg (by omega), List.take_length]
  | succ d ih =>
    intro k i hd hi hk
    obtain ⟨k, rfl⟩ : ∃ m, k = m + 1 := ⟨k - 1, by omega⟩
    have hlt : i < l.length := by omega
    have e : (l.take i).map (fun x => wrap64 (x * c)) ++ [wrap64 (rd l i * c)] = (l.take (i + 1)).map fun x => wrap64 (x * c) := by
      rw [List.take_succ_eq_append_getElem hlt, List.map_append, rd_nat l i hlt]; rfl
    simp only [observatorylaw26_times.l0]
    rw [if_pos (by omega), if_pos (by omega), if_pos (by simp; omega), w_succ hlt (by omega), e]
    exact ih k (i + 1) (by omega) (by omega) (by omega)
theorem times_f (l : List Int) (c : Int) (hl : l.length ≤ 100) (k : Nat) (hk : 200 < k) : observatorylaw26_times.f k l c = some (l.map fun x => wrap64 (x * c)) := by
  unfold observatorylaw26_times.f
  have := times_l0 l c (by omega) l.length k 0 (by omega) (by omega) (by omega)
  simpa using this

/-- The balances of all partners. -/
def bals (l0 l1 : List Int) (n : Nat) : List Int := (List.range n).map fun (i : Nat) => bal l0 l1 (i : Int)
theorem bals_length (l0 l1 : List Int) (n : Nat) : (bals l0 l1 n).length = n := by simp [bals]
theorem bals_succ (l0 l1 : List Int) (n : Nat) : bals l0 l1 (n + 1) = bals l0 l1 n ++ [bal l0 l1 n] := by simp [bals, List.range_succ]
theorem all_l0 (l0 l1 : List Int) (hv : G.validB l0 l1 = true) (d : Nat) : ∀ (k i : Nat), l0.length - i = d → i ≤ l0.length → d + 40 < k →
    observatorylaw26_all.l0 k l0 l1 (bals l0 l1 i) (i : Int) = some (bals l0 l1 l0.length, true) := by
  have ok := (valid_iff l0 l1).1 hv
  have := ok.le
  induction d with
  | zero =>
    intro k i hd hi hk
    obtain ⟨k, rfl⟩ : ∃ m, k = m + 1 := ⟨k - 1, by omega⟩
    obtain rfl : i = l0.length := by omega
    simp only [observatorylaw26_all.l0]; rw [if_neg (by omega)]
  | succ d ih =>
    intro k i hd hi hk
    obtain ⟨k, rfl⟩ : ∃ m, k = m + 1 := ⟨k - 1, by omega⟩
    have hlt : i < l0.length := by omega
    simp only [observatorylaw26_all.l0]
    have hb : balF l0 l1 i = (bal l0 l1 i, 0) := by unfold balF; rw [if_pos ⟨hv, by omega, by omega⟩]
    rw [if_pos (by omega), balance_f _ _ _ _ (by omega), hb]
    simp only [Option.bind_some]
    rw [if_pos trivial, if_pos (by rw [bals_length]; omega), w_succ hlt (by omega), ← bals_succ]
    exact ih k (i + 1) (by omega) (by omega) (by omega)
theorem all_ok (l0 l1 : List Int) (hv : G.validB l0 l1 = true) (k : Nat) (hk : 200 < k) : observatorylaw26_all.f k l0 l1 = some (bals l0 l1 l0.length, true) := by
  unfold observatorylaw26_all.f
  have := ((valid_iff l0 l1).1 hv).le
  exact all_l0 l0 l1 hv l0.length k 0 (by omega) (by omega) (by omega)
theorem all_no (l0 l1 : List Int) (hv : G.validB l0 l1 = false) (k : Nat) (hk : 200 < k) : observatorylaw26_all.f k l0 l1 = some ([], decide (l0.length = 0)) := by
  unfold observatorylaw26_all.f
  obtain ⟨k, rfl⟩ : ∃ m, k = m + 1 := ⟨k - 1, by omega⟩
  simp only [observatorylaw26_all.l0]
  by_cases h : l0.length = 0
  · rw [if_neg (by omega)]; simp [h]
  · have hb : balF l0 l1 0 = (0, 1) := by unfold balF; rw [if_neg (by rw [hv]; simp)]
    rw [if_pos (by omega), balance_f _ _ _ _ (by omega), hb]
    simp [h]
theorem few_f (l0 l1 : List Int) : observatoryref26_Few.f l0 l1 = some (decide (l0.length ≤ 20 ∧ l1.length ≤ 20)) := by
  unfold observatoryref26_Few.f
  by_cases h : l0.length ≤ 20
  · rw [if_pos (by omega)]; congr 1; rw [decide_eq_decide]; omega
  · rw [if_neg (by omega), decide_eq_false (by omega)]
end Go.Proofs.Ytkmfdkilimkbpaa.Q
