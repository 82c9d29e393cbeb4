/- Plain laws of a network's steps: what a step does to one pair's queue and line. -/
import Derived.Test.YtofacphhfgkemaaGm
namespace Go.Proofs.Ytofacphhfgkemaa.G
open Go.Proofs.Ytofacphhfgkemaa.PNet
set_option linter.unusedVariables false
set_option linter.unusedSimpArgs false

section
variable {nodes : Int} {q q2 : Int → Int → List ByteArray} {c c2 : Int → Int → Bool} {s : S46}
theorem doE_congr (hq : q s.f1 s.f2 = q2 s.f1 s.f2) (hc : c s.f1 s.f2 = c2 s.f1 s.f2) : doE nodes q c s = doE nodes q2 c2 s := by
  unfold doE sendE turnE
  rw [hq, hc]
theorem doT_congr (hq : q s.f1 s.f2 = q2 s.f1 s.f2) : doT nodes q s = doT nodes q2 s := by
  unfold doT delT delOk
  rw [hq]
theorem doK_congr (hq : q s.f1 s.f2 = q2 s.f1 s.f2) : doK nodes q s = doK nodes q2 s := by
  unfold doK delOk
  rw [hq]
theorem upd_at (x y u v : Int) (l l2 : List ByteArray) (h : l = l2) (hq : q u v = q2 u v) : updQ q x y l u v = updQ q2 x y l2 u v := by
  unfold updQ
  split
  · exact h
  · exact hq
theorem updC_at (x y u v : Int) (b : Bool) (hc : c u v = c2 u v) : updC c x y b u v = updC c2 x y b u v := by
  unfold updC
  split
  · rfl
  · exact hc
theorem doQ_congr (u v : Int) (hq : q s.f1 s.f2 = q2 s.f1 s.f2) (hc : c s.f1 s.f2 = c2 s.f1 s.f2) (huv : q u v = q2 u v) : doQ nodes q c s u v = doQ nodes q2 c2 s u v := by
  have e1 : sendE nodes q c s.f1 s.f2 s.f4 = sendE nodes q2 c2 s.f1 s.f2 s.f4 := by unfold sendE; rw [hq, hc]
  have e2 : ∀ b, turnE nodes c s.f1 s.f2 b = turnE nodes c2 s.f1 s.f2 b := fun b => by unfold turnE; rw [hc]
  have e3 : delOk nodes q s.f1 s.f2 s.f3 = delOk nodes q2 s.f1 s.f2 s.f3 := by unfold delOk; rw [hq]
  unfold doQ
  split
  · unfold sendQ
    rw [e1]
    split
    · exact upd_at _ _ _ _ _ _ (by rw [hq]) huv
    · exact huv
  split
  · unfold delQ
    rw [e3]
    split
    · exact upd_at _ _ _ _ _ _ (by rw [hq]) huv
    · exact huv
  have ht : ∀ b, turnQ nodes c q s.f1 s.f2 b u v = turnQ nodes c2 q2 s.f1 s.f2 b u v := fun b => by
    unfold turnQ
    rw [e2]
    split
    · unfold qOf
      split
      · exact upd_at _ _ _ _ _ _ rfl (upd_at _ _ _ _ _ _ rfl huv)
      · exact huv
    · exact huv
  split
  · exact ht _
  · exact ht _
theorem doC_congr (u v : Int) (hc : c s.f1 s.f2 = c2 s.f1 s.f2) (huv : c u v = c2 u v) : doC nodes c s u v = doC nodes c2 s u v := by
  have e2 : ∀ b, turnE nodes c s.f1 s.f2 b = turnE nodes c2 s.f1 s.f2 b := fun b => by unfold turnE; rw [hc]
  have ht : ∀ b, turnC nodes c s.f1 s.f2 b u v = turnC nodes c2 s.f1 s.f2 b u v := fun b => by
    unfold turnC
    rw [e2]
    split
    · unfold cutOf
      exact updC_at _ _ _ _ _ (updC_at _ _ _ _ _ huv)
    · exact huv
  unfold doC
  split
  · exact huv
  split
  · exact huv
  split
  · exact ht _
  · exact ht _
theorem doQ_far (u v : Int) (h1 : ¬ (u = s.f1 ∧ v = s.f2)) (h2 : ¬ (u = s.f2 ∧ v = s.f1)) : doQ nodes q c s u v = q u v := by
  have hu : ∀ (q : Int → Int → List ByteArray) l, updQ q s.f1 s.f2 l u v = q u v := fun q l => by unfold updQ; rw [if_neg h1]
  have hu2 : ∀ (q : Int → Int → List ByteArray) l, updQ q s.f2 s.f1 l u v = q u v := fun q l => by unfold updQ; rw [if_neg h2]
  have ht : ∀ b, turnQ nodes c q s.f1 s.f2 b u v = q u v := fun b => by
    unfold turnQ
    split
    · unfold qOf
      split
      · show updQ _ _ _ _ _ _ = _
        rw [hu2, hu]
      · rfl
    · rfl
  unfold doQ sendQ delQ
  split
  · split
    · exact hu _ _
    · rfl
  split
  · split
    · exact hu _ _
    · rfl
  split
  · exact ht _
  · exact ht _
theorem doC_far (u v : Int) (h1 : ¬ (u = s.f1 ∧ v = s.f2)) (h2 : ¬ (u = s.f2 ∧ v = s.f1)) : doC nodes c s u v = c u v := by
  have hu : ∀ (q : Int → Int → Bool) l, updC q s.f1 s.f2 l u v = q u v := fun q l => by unfold updC; rw [if_neg h1]
  have hu2 : ∀ (q : Int → Int → Bool) l, updC q s.f2 s.f1 l u v = q u v := fun q l => by unfold updC; rw [if_neg h2]
  have ht : ∀ b, turnC nodes c s.f1 s.f2 b u v = c u v := fun b => by
    unfold turnC
    split
    · show updC _ _ _ _ _ _ = _
      rw [hu2, hu]
    · rfl
  unfold doC
  split
  · rfl
  split
  · rfl
  split
  · exact ht _
  · exact ht _

/-- A line is cut in both directions, and nothing waits on it. -/
def Lined (q : Int → Int → List ByteArray) (c : Int → Int → Bool) : Prop := (∀ x y, c x y = c y x) ∧ ∀ x y, c x y = true → q x y = []
theorem lined_zero : Lined q0 c0 := ⟨fun _ _ => rfl, fun _ _ h => by cases h⟩
theorem turnE_zero {x y : Int} {b : Bool} (h : turnE nodes c x y b = 0) : knowsB nodes x y = true ∧ c x y = !b := by
  unfold turnE at h
  split at h
  · rename_i hk
    split at h
    · cases h
    · rename_i hb
      refine ⟨hk, ?_⟩
      cases b <;> cases h1 : c x y <;> simp_all
  · cases h
theorem lined_turn (h : Lined q c) (x y : Int) (b : Bool) : Lined (turnQ nodes c q x y b) (turnC nodes c x y b) := by
  unfold turnQ turnC
  split
  · rename_i he
    obtain ⟨hs, he2⟩ := h
    have hc2 : ∀ u v, cutOf c x y b 2 u v = if (u = x ∧ v = y) ∨ (u = y ∧ v = x) then b else c u v := fun u v => by
      show updC (updC c x y b) y x b u v = _
      unfold updC
      by_cases h1 : u = y ∧ v = x
      · rw [if_pos h1, if_pos (.inr h1)]
      · rw [if_neg h1]
        by_cases h2 : u = x ∧ v = y
        · rw [if_pos h2, if_pos (.inl h2)]
        · rw [if_neg h2, if_neg (fun h => h.elim h2 h1)]
    refine ⟨fun u v => ?_, fun u v hv => ?_⟩
    · rw [hc2, hc2]
      by_cases h1 : (u = x ∧ v = y) ∨ (u = y ∧ v = x)
      · rw [if_pos h1, if_pos (h1.elim (fun h => .inr ⟨h.2, h.1⟩) (fun h => .inl ⟨h.2, h.1⟩))]
      · rw [if_neg h1, if_neg (fun h => h1 (h.elim (fun h => .inr ⟨h.2, h.1⟩) (fun h => .inl ⟨h.2, h.1⟩))), hs]
    · rw [hc2] at hv
      cases b with
      | true =>
        show updQ (updQ q x y []) y x [] u v = []
        unfold updQ
        by_cases h1 : u = y ∧ v = x
        · rw [if_pos h1]
        · rw [if_neg h1]
          by_cases h2 : u = x ∧ v = y
          · rw [if_pos h2]
          · rw [if_neg h2]
            rw [if_neg (fun h => h.elim h2 h1)] at hv
            exact he2 u v hv
      | false =>
        show q u v = []
        split at hv
        · cases hv
        · exact he2 u v hv
  · exact h
theorem sendE_zero {x y : Int} {t : ByteArray} (h : sendE nodes q c x y t = 0) : knowsB nodes x y = true ∧ t.size ≤ 20000 ∧ c x y = false ∧ (q x y).length < 100 := by
  unfold sendE at h
  split at h
  · cases h
  · rename_i h1
    split at h
    · cases h
    · rename_i h2
      split at h
      · cases h
      · rename_i h3
        refine ⟨?_, by omega, by simpa using h2, by omega⟩
        cases hk : knowsB nodes x y
        · exact absurd (.inl hk) h1
        · rfl
theorem lined_do (h : Lined q c) (s : S46) : Lined (doQ nodes q c s) (doC nodes c s) := by
  unfold doQ doC
  split
  · unfold sendQ
    split
    · rename_i he
      refine ⟨h.1, fun u v hv => ?_⟩
      unfold updQ
      split
      · rename_i e
        have := (sendE_zero he).2.2.1
        rw [e.1, e.2, this] at hv
        cases hv
      · exact h.2 u v hv
    · exact h
  split
  · unfold delQ
    split
    · refine ⟨h.1, fun u v hv => ?_⟩
      unfold updQ
      split
      · rename_i e
        rw [e.1, e.2] at hv
        rw [h.2 _ _ hv]
        rfl
      · exact h.2 u v hv
    · exact h
  split
  · exact lined_turn h _ _ _
  · exact lined_turn h _ _ _
end
end Go.Proofs.Ytofacphhfgkemaa.G
