/- Plain laws for NetHonest: what has been delivered was sent, and not more. -/
import Derived.Test.YtofacphhfgkemaaQa
namespace Go.Proofs.Ytofacphhfgkemaa.G
open Go.RowKit Go.Proofs.YtofacphhfgkemaaW.PrintWords Go.Proofs.YtofacphhfgkemaaW.PrintLast Go.Proofs.YtofacphhfgkemaaW.PrintMore
open Go.Proofs.Ytofacphhfgkemaa.PNet
set_option linter.unusedVariables false
set_option linter.unusedSimpArgs false

/-- What a step answered. -/
structure S43 where
  f0 : Int
  f1 : ByteArray
  f2 : Bool
def z43 : S43 := ⟨0, noT, false⟩
def k43 : Kd S43 := Kd.iso (Kd.pair (Kd.int .i64) (Kd.pair Kd.string Kd.bool)) (fun x : S43 => (x.f0, x.f1, x.f2))
theorem k43_open {w : World} {x : S43} {cs : List Value} (h : k43.K w x cs) : cs = [.int .i64 x.f0, .string x.f1, .bool x.f2] := by
  obtain ⟨_, _, rfl, rfl, ⟨_, _, rfl, rfl, rfl⟩⟩ := h
  exact rfl
theorem k43_mkM (w : World) (base : Nat) (ok : Nat → Prop) (x : S43) : k43.M w base ok x [.int .i64 x.f0, .string x.f1, .bool x.f2] := ⟨[.int .i64 x.f0], [.string x.f1, .bool x.f2], rfl, rfl, ⟨[.string x.f1], [.bool x.f2], rfl, rfl, rfl⟩⟩
theorem k43_flat {w : World} {base : Nat} {ok1 ok2 : Nat → Prop} {x : S43} {cs : List Value} (h : k43.M w base ok1 x cs) : k43.M w base ok2 x cs := by
  obtain ⟨_, _, rfl, rfl, ⟨_, _, rfl, rfl, rfl⟩⟩ := h
  exact ⟨_, _, rfl, rfl, ⟨_, _, rfl, rfl, rfl⟩⟩
def rd43 (xs : List S43) (i : Int) : S43 := xs.getD i.toNat z43
theorem at43 {w : World} {A : Option Addr} {n : Nat} {xs : List S43} (h : Kd.C k43 w A n xs) (i : Int) (h0 : 0 ≤ i) (h1 : i < n) : ∃ ad , A = some ad ∧ w.cell? (ad.add (i.toNat * 3)) = some (.int .i64 (rd43 xs i).f0) ∧ w.cell? ⟨(ad.add (i.toNat * 3)).block, (ad.add (i.toNat * 3)).off + 1, none⟩ = some (.string (rd43 xs i).f1) ∧ w.cell? ⟨(ad.add (i.toNat * 3)).block, (ad.add (i.toNat * 3)).off + 2, none⟩ = some (.bool (rd43 xs i).f2) := by
  obtain ⟨ad, c, e, _, hK, hc0⟩ := Kd.C_get h z43 i h0 h1
  have hc : ∀ j u, c[j]? = some u → w.cell? (ad.add (i.toNat * 3 + j)) = some u := hc0
  obtain rfl := k43_open hK
  exact ⟨ad, e, hc 0 _ rfl, by rw [← add_field _ _ 1 (by omega)]; exact hc 1 _ rfl, by rw [← add_field _ _ 2 (by omega)]; exact hc 2 _ rfl⟩

/-- Step k is one from x to y. -/
def isAt (l : List S46) (x y : Int) (k : Nat) : Bool := decide ((rd_T46 l (k : Int)).f1 = x ∧ (rd_T46 l (k : Int)).f2 = y)
/-- Step k has sent a text from x to y. -/
def isSent (l : List S46) (rs : List S43) (x y : Int) (k : Nat) : Bool := isAt l x y k && decide ((rd_T46 l (k : Int)).f0 = 0 ∧ (rd43 rs (k : Int)).f0 = 0)
/-- Step k has delivered a text from x to y that does not wait on. -/
def isGot (l : List S46) (rs : List S43) (x y : Int) (k : Nat) : Bool := isAt l x y k && decide ((rd_T46 l (k : Int)).f0 = 1) && (rd43 rs (k : Int)).f2 && !(rd_T46 l (k : Int)).f6
def cS (l : List S46) (rs : List S43) (x y : Int) : Nat → Nat
  | 0 => 0
  | k + 1 => cS l rs x y k + if isSent l rs x y k then 1 else 0
def cG (l : List S46) (rs : List S43) (x y : Int) : Nat → Nat
  | 0 => 0
  | k + 1 => cG l rs x y k + if isGot l rs x y k then 1 else 0
def kn (l : List S46) (rs : List S43) (x y : Int) (t : ByteArray) : Nat → Bool
  | 0 => false
  | k + 1 => kn l rs x y t k || (isSent l rs x y k && (rd_T46 l (k : Int)).f4.toList == t.toList)
theorem cS_le (l : List S46) (rs : List S43) (x y : Int) : ∀ k, cS l rs x y k ≤ k
  | 0 => Nat.le_refl _
  | k + 1 => by
    have := cS_le l rs x y k
    simp only [cS]
    split <;> omega
theorem cG_le (l : List S46) (rs : List S43) (x y : Int) : ∀ k, cG l rs x y k ≤ k
  | 0 => Nat.le_refl _
  | k + 1 => by
    have := cG_le l rs x y k
    simp only [cG]
    split <;> omega
theorem rd43_app (rs : List S43) (r : S43) (j : Nat) (h : j < rs.length) : rd43 (rs ++ [r]) (j : Int) = rd43 rs (j : Int) := by
  simp [rd43, List.getD_eq_getElem?_getD, List.getElem?_append_left h]
theorem rd43_last (rs : List S43) (r : S43) : rd43 (rs ++ [r]) (rs.length : Int) = r := by
  simp [rd43, List.getD_eq_getElem?_getD]
theorem isSent_app (l : List S46) (rs : List S43) (r : S43) (x y : Int) (j : Nat) (h : j < rs.length) : isSent l (rs ++ [r]) x y j = isSent l rs x y j := by
  unfold isSent
  rw [rd43_app rs r j h]
theorem isGot_app (l : List S46) (rs : List S43) (r : S43) (x y : Int) (j : Nat) (h : j < rs.length) : isGot l (rs ++ [r]) x y j = isGot l rs x y j := by
  unfold isGot
  rw [rd43_app rs r j h]
theorem cS_app (l : List S46) (rs : List S43) (r : S43) (x y : Int) : ∀ k, k ≤ rs.length → cS l (rs ++ [r]) x y k = cS l rs x y k
  | 0, _ => rfl
  | k + 1, h => by
    simp only [cS]
    rw [cS_app l rs r x y k (by omega), isSent_app _ _ _ _ _ _ (by omega)]
theorem cG_app (l : List S46) (rs : List S43) (r : S43) (x y : Int) : ∀ k, k ≤ rs.length → cG l (rs ++ [r]) x y k = cG l rs x y k
  | 0, _ => rfl
  | k + 1, h => by
    simp only [cG]
    rw [cG_app l rs r x y k (by omega), isGot_app _ _ _ _ _ _ (by omega)]
theorem kn_of (l : List S46) (rs : List S43) (x y : Int) (t : ByteArray) (j : Nat) (h1 : isSent l rs x y j = true) (h2 : (rd_T46 l (j : Int)).f4 = t) : ∀ k, j < k → kn l rs x y t k = true
  | 0, h => absurd h (by omega)
  | k + 1, h => by
    simp only [kn]
    by_cases e : j < k
    · rw [kn_of l rs x y t j h1 h2 k e]; rfl
    · obtain rfl : j = k := by omega
      rw [h1, h2]
      simp

/-- What waits was sent; what was delivered and what waits are not more than what was sent. -/
structure Hist (l : List S46) (k : Nat) (rs : List S43) (q : Int → Int → List ByteArray) : Prop where
  len : rs.length = k
  sent : ∀ x y t, t ∈ q x y → ∃ j, j < k ∧ isSent l rs x y j = true ∧ (rd_T46 l (j : Int)).f4 = t
  count : ∀ x y, cG l rs x y k + (q x y).length ≤ cS l rs x y k
theorem Hist.zero (l : List S46) : Hist l 0 [] q0 := ⟨rfl, (fun x y t h => by cases h), (fun x y => by simp [cG, cS, q0])⟩

theorem bool4 : ∀ (d u v z : Bool), ¬ (u && (v || !z)) = true → (d && (u && !v) && !z) = false := by decide
section
variable {nodes : Int} {l : List S46} {k : Nat} {rs : List S43} {q : Int → Int → List ByteArray} {c : Int → Int → Bool} {s : S46}
def ansOf (nodes : Int) (q : Int → Int → List ByteArray) (c : Int → Int → Bool) (s : S46) : S43 := ⟨doE nodes q c s, doT nodes q s, doK nodes q s⟩
/-- A queue that only loses texts, or keeps them. -/
theorem hist_less (h : Hist l k rs q) (r : S43) {q' : Int → Int → List ByteArray} (hs : ∀ x y t, t ∈ q' x y → t ∈ q x y) (hl : ∀ x y, (if isGot l (rs ++ [r]) x y k then 1 else 0) + (q' x y).length ≤ (q x y).length) : Hist l (k + 1) (rs ++ [r]) q' := by
  have hk := h.len
  refine ⟨by rw [List.length_append, hk]; rfl, fun x y t ht => ?_, fun x y => ?_⟩
  · obtain ⟨j, h1, h2, h3⟩ := h.sent x y t (hs x y t ht)
    exact ⟨j, by omega, by rw [isSent_app _ _ _ _ _ _ (by omega)]; exact h2, h3⟩
  · simp only [cG, cS]
    rw [cG_app _ _ _ _ _ _ (by omega), cS_app _ _ _ _ _ _ (by omega)]
    have h1 := h.count x y
    have h2 := hl x y
    omega
theorem Hist.step (h : Hist l k rs q) (hs : rd_T46 l (k : Int) = s) : Hist l (k + 1) (rs ++ [ansOf nodes q c s]) (doQ nodes q c s) := by
  have hk := h.len
  have hlast : rd43 (rs ++ [ansOf nodes q c s]) (k : Int) = ansOf nodes q c s := by rw [← hk]; exact rd43_last _ _
  have hgot : ¬ s.f0 = 1 → ∀ x y, isGot l (rs ++ [ansOf nodes q c s]) x y k = false := fun h1 x y => by
    unfold isGot
    rw [hs]
    simp [h1]
  by_cases h0 : s.f0 = 0
  · have e1 : doE nodes q c s = sendE nodes q c s.f1 s.f2 s.f4 := by unfold doE; rw [if_pos h0]
    have e2 : doQ nodes q c s = sendQ nodes q c s.f1 s.f2 s.f4 := by unfold doQ; rw [if_pos h0]
    by_cases he : sendE nodes q c s.f1 s.f2 s.f4 = 0
    · have e3 : doQ nodes q c s = updQ q s.f1 s.f2 (q s.f1 s.f2 ++ [s.f4]) := by rw [e2, sendQ, if_pos he]
      have hsent : ∀ x y, isSent l (rs ++ [ansOf nodes q c s]) x y k = decide (s.f1 = x ∧ s.f2 = y) := fun x y => by
        unfold isSent isAt
        rw [hs, hlast]
        show (decide (s.f1 = x ∧ s.f2 = y) && decide (s.f0 = 0 ∧ doE nodes q c s = 0)) = _
        rw [e1, he]
        simp [h0]
      refine ⟨by rw [List.length_append, hk]; rfl, fun x y t ht => ?_, fun x y => ?_⟩
      · rw [e3] at ht
        unfold updQ at ht
        have hold : t ∈ q x y → ∃ j, j < k + 1 ∧ isSent l (rs ++ [ansOf nodes q c s]) x y j = true ∧ (rd_T46 l (j : Int)).f4 = t := fun ht => by
          obtain ⟨j, h1, h2, h3⟩ := h.sent x y t ht
          exact ⟨j, by omega, by rw [isSent_app _ _ _ _ _ _ (by omega)]; exact h2, h3⟩
        split at ht
        · rename_i e
          rcases List.mem_append.1 ht with h1 | h1
          · exact hold (by rw [e.1, e.2]; exact h1)
          · exact ⟨k, by omega, by rw [hsent]; simp [e.1, e.2], by rw [hs]; exact (List.mem_singleton.1 h1).symm⟩
        · exact hold ht
      · simp only [cG, cS]
        rw [cG_app _ _ _ _ _ _ (by omega), cS_app _ _ _ _ _ _ (by omega), hgot (by omega), hsent, e3]
        have h1 := h.count x y
        unfold updQ
        by_cases e : x = s.f1 ∧ y = s.f2
        · rw [if_pos e, if_neg (by simp), if_pos (by simp [e.1, e.2]), ← e.1, ← e.2, List.length_append, List.length_singleton]
          omega
        · rw [if_neg e, if_neg (by simp), if_neg (by simp; exact fun a b => e ⟨a.symm, b.symm⟩)]
          omega
    · have e3 : doQ nodes q c s = q := by rw [e2, sendQ, if_neg he]
      rw [e3]
      exact hist_less h _ (fun x y t ht => ht) (fun x y => by rw [hgot (by omega)]; simp)
  by_cases h1 : s.f0 = 1
  · have e2 : doQ nodes q c s = delQ nodes q s.f1 s.f2 s.f3 s.f5 s.f6 := by unfold doQ; rw [if_neg h0, if_pos h1]
    have eK : doK nodes q s = (delOk nodes q s.f1 s.f2 s.f3 && !s.f5) := by unfold doK; rw [if_pos h1]
    have hg : ∀ x y, isGot l (rs ++ [ansOf nodes q c s]) x y k = (decide (s.f1 = x ∧ s.f2 = y) && (delOk nodes q s.f1 s.f2 s.f3 && !s.f5) && !s.f6) := fun x y => by
      unfold isGot isAt
      rw [hs, hlast]
      show (decide (s.f1 = x ∧ s.f2 = y) && decide (s.f0 = 1) && doK nodes q s && !s.f6) = _
      rw [eK]
      simp [h1]
    have e3 : doQ nodes q c s = if delOk nodes q s.f1 s.f2 s.f3 && (s.f5 || !s.f6) then updQ q s.f1 s.f2 ((q s.f1 s.f2).eraseIdx s.f3.toNat) else q := e2
    by_cases hd : (delOk nodes q s.f1 s.f2 s.f3 && (s.f5 || !s.f6)) = true
    · rw [e3, if_pos hd]
      simp only [Bool.and_eq_true] at hd
      have hok : (0 : Int) ≤ s.f3 ∧ s.f3 < ((q s.f1 s.f2).length : Int) := by
        have := hd.1
        unfold delOk at this
        simp at this
        omega
      refine hist_less h _ (fun x y t ht => ?_) (fun x y => ?_)
      · unfold updQ at ht
        split at ht
        · rename_i e
          rw [e.1, e.2]
          exact List.mem_of_mem_eraseIdx ht
        · exact ht
      · unfold updQ
        by_cases e : x = s.f1 ∧ y = s.f2
        · rw [if_pos e, List.length_eraseIdx_of_lt (by omega), e.1, e.2]
          split <;> omega
        · rw [if_neg e, hg, if_neg (by simp; exact fun a b => absurd ⟨a.symm, b.symm⟩ e)]
          omega
    · rw [e3, if_neg hd]
      refine hist_less h _ (fun x y t ht => ht) (fun x y => ?_)
      have : isGot l (rs ++ [ansOf nodes q c s]) x y k = false := by
        rw [hg]
        exact bool4 _ _ _ _ hd
      rw [this]
      simp
  · have hless : ∀ b, Hist l (k + 1) (rs ++ [ansOf nodes q c s]) (turnQ nodes c q s.f1 s.f2 b) := fun b => by
      refine hist_less h _ (fun x y t ht => ?_) (fun x y => ?_)
      · unfold turnQ at ht
        split at ht
        · unfold qOf at ht
          split at ht
          · have ht2 : t ∈ updQ (updQ q s.f1 s.f2 []) s.f2 s.f1 [] x y := ht
            unfold updQ at ht2
            split at ht2
            · cases ht2
            · split at ht2
              · cases ht2
              · exact ht2
          · exact ht
        · exact ht
      · rw [hgot h1, if_neg (by simp)]
        unfold turnQ
        split
        · unfold qOf
          split
          · show 0 + (updQ (updQ q s.f1 s.f2 []) s.f2 s.f1 [] x y).length ≤ _
            unfold updQ
            split
            · simp
            · split
              · simp
              · simp
          · simp
        · simp
    unfold doQ
    rw [if_neg h0, if_neg h1]
    split
    · exact hless _
    · exact hless _
/-- What a delivery tells. -/
theorem Hist.tells (h : Hist l k rs q) (hs : rd_T46 l (k : Int) = s) (h1 : s.f0 = 1) (hK : doK nodes q s = true) :
    kn l (rs ++ [ansOf nodes q c s]) s.f1 s.f2 (doT nodes q s) (k + 1) = true ∧ cG l (rs ++ [ansOf nodes q c s]) s.f1 s.f2 (k + 1) ≤ cS l (rs ++ [ansOf nodes q c s]) s.f1 s.f2 (k + 1) := by
  have hk := h.len
  constructor
  · have e1 : doT nodes q s = delT nodes q s.f1 s.f2 s.f3 s.f5 := by unfold doT; rw [if_pos h1]
    have e2 : (delOk nodes q s.f1 s.f2 s.f3 && !s.f5) = true := by unfold doK at hK; rwa [if_pos h1] at hK
    have hmem : doT nodes q s ∈ q s.f1 s.f2 := by
      rw [e1]
      unfold delT
      rw [if_pos e2]
      simp only [Bool.and_eq_true] at e2
      have := e2.1
      unfold delOk at this
      simp at this
      have hlt : s.f3.toNat < (q s.f1 s.f2).length := by omega
      rw [List.getD_eq_getElem?_getD, List.getElem?_eq_getElem hlt]
      exact List.getElem_mem hlt
    obtain ⟨j, g1, g2, g3⟩ := h.sent _ _ _ hmem
    exact kn_of _ _ _ _ _ j (by rw [isSent_app _ _ _ _ _ _ (by omega)]; exact g2) g3 _ (by omega)
  · have := (h.step (nodes := nodes) (c := c) hs).count s.f1 s.f2
    omega
end
end Go.Proofs.Ytofacphhfgkemaa.G
