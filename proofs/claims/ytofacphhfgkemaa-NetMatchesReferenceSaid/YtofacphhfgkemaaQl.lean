/- Plain laws for NetLines: two networks that agree on a pair. -/
import Derived.Test.YtofacphhfgkemaaQa
namespace Go.Proofs.Ytofacphhfgkemaa.G
open Go.Proofs.Ytofacphhfgkemaa.PNet
set_option linter.unusedVariables false
set_option linter.unusedSimpArgs false

structure Lines (a b : Int) (q : Int → Int → List ByteArray) (c : Int → Int → Bool) (q2 : Int → Int → List ByteArray) (c2 : Int → Int → Bool) (fl : Bool) : Prop where
  qab : q a b = q2 a b
  qba : q b a = q2 b a
  cab : c a b = c2 a b
  cba : c b a = c2 b a
  lined : Lined q c
  flag : fl = true → c a b = true
theorem Lines.zero (a b : Int) : Lines a b q0 c0 q0 c0 false := ⟨rfl, rfl, rfl, rfl, lined_zero, fun h => by cases h⟩
def newFl (fl : Bool) (k e : Int) : Bool := if k = 2 ∧ e = 0 then true else if fl then (if k = 0 ∨ k = 1 ∨ k = 2 ∨ e ≠ 0 then true else false) else false
section
variable {nodes a b : Int} {q q2 : Int → Int → List ByteArray} {c c2 : Int → Int → Bool} {fl : Bool} {s : S46}
theorem turnC_hit {x y : Int} (h : turnE nodes c x y true = 0) : turnC nodes c x y true x y = true ∧ turnC nodes c x y true y x = true := by
  unfold turnC
  rw [if_pos h]
  show updC (updC c x y true) y x true x y = true ∧ updC (updC c x y true) y x true y x = true
  unfold updC
  constructor
  · split
    · rfl
    · simp
  · simp
theorem Lines.flag_do (h : Lines a b q c q2 c2 fl) (hs : (s.f1 = a ∧ s.f2 = b) ∨ (s.f1 = b ∧ s.f2 = a)) (hn : newFl fl s.f0 (doE nodes q c s) = true) : doC nodes c s a b = true := by
  unfold newFl at hn
  split at hn
  · rename_i hk
    have h0 : ¬ s.f0 = 0 := by omega
    have h1 : ¬ s.f0 = 1 := by omega
    have he := hk.2
    unfold doE at he
    rw [if_neg h0, if_neg h1, if_pos hk.1] at he
    unfold doC
    rw [if_neg h0, if_neg h1, if_pos hk.1]
    have ht := turnC_hit he
    rcases hs with e | e
    · have := ht.1
      rwa [e.1, e.2] at this ⊢
    · have := ht.2
      rwa [e.1, e.2] at this ⊢
  · rename_i hk
    split at hn
    · rename_i hf
      have hc := h.flag hf
      split at hn
      · rename_i hd
        unfold doC
        split
        · exact hc
        rename_i h0
        split
        · exact hc
        rename_i h1
        unfold doE at hk hd
        rw [if_neg h0, if_neg h1] at hk hd
        split
        · rename_i h2
          rw [if_pos h2] at hk
          unfold turnC
          rw [if_neg (fun h => hk ⟨h2, h⟩)]
          exact hc
        · rename_i h2
          rw [if_neg h2] at hd
          unfold turnC
          rw [if_neg (by omega)]
          exact hc
      · cases hn
    · cases hn
theorem Lines.step (h : Lines a b q c q2 c2 fl) (hs : (s.f1 = a ∧ s.f2 = b) ∨ (s.f1 = b ∧ s.f2 = a)) :
    (doE nodes q2 c2 s = doE nodes q c s ∧ doT nodes q2 s = doT nodes q s ∧ doK nodes q2 s = doK nodes q s) ∧ Lines a b (doQ nodes q c s) (doC nodes c s) (doQ nodes q2 c2 s) (doC nodes c2 s) (newFl fl s.f0 (doE nodes q c s)) := by
  have hq : q s.f1 s.f2 = q2 s.f1 s.f2 := by
    rcases hs with e | e
    · rw [e.1, e.2]; exact h.qab
    · rw [e.1, e.2]; exact h.qba
  have hc : c s.f1 s.f2 = c2 s.f1 s.f2 := by
    rcases hs with e | e
    · rw [e.1, e.2]; exact h.cab
    · rw [e.1, e.2]; exact h.cba
  exact ⟨⟨(doE_congr hq hc).symm, (doT_congr hq).symm, (doK_congr hq).symm⟩, doQ_congr _ _ hq hc h.qab, doQ_congr _ _ hq hc h.qba, doC_congr _ _ hc h.cab, doC_congr _ _ hc h.cba, lined_do h.lined s, h.flag_do hs⟩
theorem Lines.far (h : Lines a b q c q2 c2 fl) (h1 : ¬ (s.f1 = a ∧ s.f2 = b)) (h2 : ¬ (s.f1 = b ∧ s.f2 = a)) : Lines a b (doQ nodes q c s) (doC nodes c s) q2 c2 fl := by
  have e1 : ¬ (a = s.f1 ∧ b = s.f2) := fun e => h1 ⟨e.1.symm, e.2.symm⟩
  have e2 : ¬ (a = s.f2 ∧ b = s.f1) := fun e => h2 ⟨e.2.symm, e.1.symm⟩
  have e3 : ¬ (b = s.f1 ∧ a = s.f2) := fun e => h2 ⟨e.1.symm, e.2.symm⟩
  have e4 : ¬ (b = s.f2 ∧ a = s.f1) := fun e => h1 ⟨e.2.symm, e.1.symm⟩
  exact ⟨(doQ_far _ _ e1 e2).trans h.qab, (doQ_far _ _ e3 e4).trans h.qba, (doC_far _ _ e1 e2).trans h.cab, (doC_far _ _ e3 e4).trans h.cba, lined_do h.lined s, fun hf => (doC_far _ _ e1 e2).trans (h.flag hf)⟩
theorem Lines.none (h : Lines a b q c q2 c2 true) : q a b = [] ∧ q b a = [] := ⟨h.lined.2 _ _ (h.flag rfl), h.lined.2 _ _ ((h.lined.1 b a).trans (h.flag rfl))⟩
end
end Go.Proofs.Ytofacphhfgkemaa.G
