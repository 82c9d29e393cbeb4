/- Plain laws for NetMatchesReference: the network and the reference's stay alike. -/
import Derived.Test.YtofacphhfgkemaaQa
import Derived.Test.YtofacphhfgkemaaRf
namespace Go.Proofs.Ytofacphhfgkemaa.G
open Go.Proofs.Ytofacphhfgkemaa.PNet
set_option linter.unusedVariables false
set_option linter.unusedSimpArgs false

theorem cutIx_any (G : List (Int × Int)) (x y : Int) : decide (0 ≤ cutIx G x y) = G.any (lineB x y) := by
  unfold cutIx
  cases h : G.findIdx? (lineB x y) with
  | none =>
    rw [List.findIdx?_eq_none_iff] at h
    have e : G.any (lineB x y) = false := by rw [List.any_eq_false]; intro g hg; simp [h g hg]
    rw [e]; rfl
  | some i =>
    rw [List.findIdx?_eq_some_iff_getElem] at h
    obtain ⟨hi, h1, _⟩ := h
    have e : G.any (lineB x y) = true := by rw [List.any_eq_true]; exact ⟨_, List.getElem_mem hi, h1⟩
    rw [e]
    simp
theorem lineB_flip (u v : Int) (g : Int × Int) : lineB u v g = lineB g.1 g.2 (u, v) := by
  unfold lineB
  rw [Bool.eq_iff_iff]
  simp
  omega
/-- The network and the reference's: the same on every pair of nodes. -/
structure Sim (N : Int) (q : Int → Int → List ByteArray) (c : Int → Int → Bool) (L : List S69) (G : List (Int × Int)) : Prop where
  queue : ∀ x y, knowsB N x y = true → q x y = refT L x y
  line : ∀ x y, knowsB N x y = true → c x y = G.any (lineB x y)
  lined : Lined q c
  once : G.Pairwise (fun g h => lineB g.1 g.2 h = false)
theorem Sim.zero (N : Int) : Sim N q0 c0 [] [] := ⟨fun _ _ _ => rfl, fun _ _ _ => rfl, lined_zero, List.Pairwise.nil⟩
theorem knowsB_flip (N x y : Int) : knowsB N x y = knowsB N y x := by
  unfold knowsB
  rw [Bool.eq_iff_iff]
  simp
  omega

theorem atB_mk (x y u v : Int) (t : ByteArray) : atB u v ⟨x, y, t⟩ = decide (x = u ∧ y = v) := rfl
/-- What delIx tells. -/
theorem delIx_spec (x y : Int) : ∀ (L : List S69) (n : Int),
    (∀ i, delIx x y L n = some i → 0 ≤ n ∧ (refT L x y)[n.toNat]? = some (rd69 L (i : Int)).f2 ∧ i < L.length ∧ refT (L.eraseIdx i) x y = (refT L x y).eraseIdx n.toNat ∧ ∀ u v, ¬ (u = x ∧ v = y) → refT (L.eraseIdx i) u v = refT L u v) ∧
    (delIx x y L n = none → n < 0 ∨ ((refT L x y).length : Int) ≤ n)
  | [], n => by
    refine ⟨fun i h => by simp [delIx] at h, fun _ => ?_⟩
    simp [refT]
    omega
  | m :: t, n => by
    have hcons : ∀ u v, refT (m :: t) u v = if atB u v m then m.f2 :: refT t u v else refT t u v := fun u v => by
      unfold refT
      by_cases h : atB u v m
      · simp [h]
      · simp [h]
    have hrd : ∀ j : Nat, rd69 (m :: t) ((j + 1 : Nat) : Int) = rd69 t (j : Int) := fun j => by
      simp only [rd69, Int.toNat_natCast]; rfl
    by_cases ha : atB x y m
    · by_cases hn : n = 0
      · refine ⟨fun i h => ?_, fun h => ?_⟩
        · simp only [delIx, ha, if_true] at h
          rw [if_pos hn] at h
          cases h
          subst hn
          refine ⟨Int.le_refl _, ?_, by simp, ?_, fun u v huv => ?_⟩
          · rw [hcons, if_pos ha]; rfl
          · rw [hcons, if_pos ha]; rfl
          · rw [hcons, if_neg]
            · rfl
            · unfold atB at ha ⊢
              simp at ha ⊢
              intro e1 e2
              exact huv ⟨e1.symm.trans ha.1, e2.symm.trans ha.2⟩
        · simp only [delIx, ha, if_true] at h
          rw [if_pos hn] at h
          cases h
      · obtain ⟨h1, h2⟩ := delIx_spec x y t (n - 1)
        refine ⟨fun i h => ?_, fun h => ?_⟩
        · simp only [delIx, ha, if_true] at h
          rw [if_neg hn] at h
          obtain ⟨j, hj, rfl⟩ := Option.map_eq_some_iff.1 h
          obtain ⟨g0, g1, g2, g3, g4⟩ := h1 j hj
          obtain ⟨a, rfl⟩ : ∃ a : Nat, n = ((a + 1 : Nat) : Int) := ⟨(n - 1).toNat, by omega⟩
          have e1 : (((a + 1 : Nat) : Int) - 1).toNat = a := by omega
          rw [e1] at g1 g3
          refine ⟨by omega, ?_, by simp; omega, ?_, fun u v huv => ?_⟩
          · rw [hcons, if_pos ha, Int.toNat_natCast, List.getElem?_cons_succ, hrd]; exact g1
          · rw [Int.toNat_natCast, List.eraseIdx_cons_succ, hcons, if_pos ha, List.eraseIdx_cons_succ, ← g3]
            unfold refT
            simp [ha]
          · rw [List.eraseIdx_cons_succ]
            have hna : atB u v m = false := by
              unfold atB at ha ⊢
              simp at ha ⊢
              intro e1 e2
              exact huv ⟨e1.symm.trans ha.1, e2.symm.trans ha.2⟩
            rw [hcons, if_neg (by simp [hna]), ← g4 u v huv]
            unfold refT
            simp [hna]
        · simp only [delIx, ha, if_true] at h
          rw [if_neg hn] at h
          rw [Option.map_eq_none_iff] at h
          have := h2 h
          rw [hcons, if_pos ha, List.length_cons]
          omega
    · obtain ⟨h1, h2⟩ := delIx_spec x y t n
      refine ⟨fun i h => ?_, fun h => ?_⟩
      · simp only [delIx] at h
        rw [if_neg ha] at h
        obtain ⟨j, hj, rfl⟩ := Option.map_eq_some_iff.1 h
        obtain ⟨g0, g1, g2, g3, g4⟩ := h1 j hj
        refine ⟨g0, ?_, by simp; omega, ?_, fun u v huv => ?_⟩
        · rw [hcons, if_neg ha, hrd]; exact g1
        · rw [List.eraseIdx_cons_succ, hcons, if_neg ha, ← g3]
          unfold refT
          simp [ha]
        · rw [List.eraseIdx_cons_succ, hcons, ← g4 u v huv]
          unfold refT
          by_cases hb : atB u v m
          · simp [hb]
          · simp [hb]
      · simp only [delIx] at h
        rw [if_neg ha, Option.map_eq_none_iff] at h
        rw [hcons, if_neg ha]
        exact h2 h
theorem refT_kept (L : List S69) (G : List (Int × Int)) (u v : Int) : refT (L.filter (keptB G)) u v = if G.any (lineB u v) then [] else refT L u v := by
  unfold refT
  rw [List.filter_filter]
  have hk : ∀ m : S69, atB u v m = true → keptB G m = !G.any (lineB u v) := fun m hm => by
    unfold atB at hm
    simp at hm
    unfold keptB
    rw [hm.1, hm.2, ← cutIx_any]
    rw [Bool.eq_iff_iff]
    simp
  cases h : G.any (lineB u v) with
  | true =>
    rw [if_pos rfl]
    rw [List.filter_eq_nil_iff.2]
    · rfl
    · intro m _ hm
      simp only [Bool.and_eq_true] at hm
      have := hk m hm.1
      rw [hm.2, h] at this
      cases this
  | false =>
    rw [if_neg (by simp)]
    congr 1
    apply List.filter_congr
    intro m _
    cases ha : atB u v m with
    | false => rfl
    | true => rw [hk m ha, h]; rfl
section
variable {N : Int} {q : Int → Int → List ByteArray} {c : Int → Int → Bool} {L : List S69} {G : List (Int × Int)} {s : S46}
theorem sim_sendE (h : Sim N q c L G) (x y : Int) (t : ByteArray) : sendE N q c x y t = rsendE N L G x y t := by
  unfold sendE rsendE
  cases hk : knowsB N x y with
  | false => rw [if_pos (.inl rfl), if_pos (.inl rfl)]
  | true =>
    have e1 := h.line x y hk
    have e2 := h.queue x y hk
    by_cases ht : 20000 < t.size
    · rw [if_pos (.inr ht), if_pos (.inr ht)]
    · have hn : ¬ (true = false ∨ 20000 < t.size) := by simp; omega
      simp only [if_neg hn]
      rw [e1, e2]
      have e3 := cutIx_any G x y
      cases ha : G.any (lineB x y) with
      | true =>
        rw [ha] at e3
        rw [if_pos rfl, if_pos (by simpa using e3)]
      | false =>
        rw [ha] at e3
        have hc : ¬ 0 ≤ cutIx G x y := by simpa using e3
        rw [if_neg (show ¬ (false = true) by simp), if_neg hc]
theorem sim_send (h : Sim N q c L G) (x y : Int) (t : ByteArray) : Sim N (sendQ N q c x y t) c (rsendL N L G x y t) G := by
  unfold sendQ rsendL
  rw [← sim_sendE h]
  by_cases he : sendE N q c x y t = 0
  · rw [if_pos he, if_pos he]
    refine ⟨fun u v huv => ?_, h.line, ?_, h.once⟩
    · rw [refT_app, atB_mk, ← h.queue u v huv]
      unfold updQ
      by_cases e : u = x ∧ v = y
      · rw [if_pos e, if_pos (by simp [e.1, e.2]), e.1, e.2]
      · rw [if_neg e, if_neg (by simp; exact fun a b => e ⟨a.symm, b.symm⟩)]
    · have := lined_do (nodes := N) h.lined ⟨0, x, y, 0, t, false, false⟩
      unfold doQ doC at this
      rw [if_pos rfl, if_pos rfl] at this
      unfold sendQ at this
      rw [if_pos he] at this
      exact this
  · rw [if_neg he, if_neg he]
    exact h
theorem sim_del (h : Sim N q c L G) (x y n : Int) (lost again : Bool) :
    (delT N q x y n lost = rdelT N L x y n lost ∧ (delOk N q x y n && !lost) = rdelK N L x y n lost) ∧ Sim N (delQ N q x y n lost again) c (rdelL N L x y n lost again) G := by
  have hlined := lined_do (nodes := N) h.lined ⟨1, x, y, n, noT, lost, again⟩
  unfold doQ doC at hlined
  rw [if_neg (by simp), if_pos rfl, if_neg (by simp), if_pos rfl] at hlined
  cases hk : knowsB N x y with
  | false =>
    have e1 : delOk N q x y n = false := by unfold delOk; rw [hk]; rfl
    have e2 : rdel N L x y n = none := by unfold rdel; rw [hk]; rfl
    unfold delT rdelT rdelK delQ rdelL
    rw [e1, e2]
    exact ⟨⟨rfl, rfl⟩, h⟩
  | true =>
    have e2 : rdel N L x y n = delIx x y L n := by unfold rdel; rw [hk]; rfl
    obtain ⟨h1, h2⟩ := delIx_spec x y L n
    have hq := h.queue x y hk
    cases hd : delIx x y L n with
    | none =>
      have e1 : delOk N q x y n = false := by
        unfold delOk
        rw [hk, hq]
        rcases h2 hd with e | e
        · simp [e]
        · simp [e]
      unfold delT rdelT rdelK delQ rdelL
      rw [e1, e2, hd]
      exact ⟨⟨rfl, rfl⟩, h⟩
    | some i =>
      obtain ⟨g0, g1, g2, g3, g4⟩ := h1 i hd
      have hlt : n.toNat < (refT L x y).length := by
        rcases Nat.lt_or_ge n.toNat (refT L x y).length with e | e
        · exact e
        · rw [List.getElem?_eq_none e] at g1; cases g1
      have e1 : delOk N q x y n = true := by
        unfold delOk
        rw [hk, hq]
        simp
        omega
      unfold delQ at hlined
      unfold delT rdelT rdelK delQ rdelL
      rw [e1] at hlined
      rw [e1, e2, hd]
      refine ⟨⟨?_, rfl⟩, ?_⟩
      · cases lost
        · simp only [Bool.not_false, Bool.and_self, if_true]
          rw [hq, List.getD_eq_getElem?_getD, g1]; rfl
        · rfl
      · by_cases hc : (true && (lost || !again)) = true
        · rw [if_pos hc] at hlined ⊢
          have hc2 : (lost || !again) = true := by simpa using hc
          show Sim N _ c (if lost || !again then L.eraseIdx i else L) G
          rw [if_pos hc2]
          refine ⟨fun u v huv => ?_, h.line, hlined, h.once⟩
          unfold updQ
          by_cases e : u = x ∧ v = y
          · rw [if_pos e, e.1, e.2, g3, hq]
          · rw [if_neg e, g4 u v e]
            exact h.queue u v huv
        · rw [if_neg hc]
          have hc2 : ¬ (lost || !again) = true := by simpa using hc
          show Sim N _ c (if lost || !again then L.eraseIdx i else L) G
          rw [if_neg hc2]
          exact h
theorem cutOf_at (c : Int → Int → Bool) (x y : Int) (b : Bool) (u v : Int) : cutOf c x y b 2 u v = if (u = x ∧ v = y) ∨ (u = y ∧ v = x) then b else c u v := by
  show updC (updC c x y b) y x b u v = _
  unfold updC
  by_cases h1 : u = y ∧ v = x
  · rw [if_pos h1, if_pos (.inr h1)]
  · rw [if_neg h1]
    by_cases h2 : u = x ∧ v = y
    · rw [if_pos h2, if_pos (.inl h2)]
    · rw [if_neg h2, if_neg (fun h => h.elim h2 h1)]
theorem qOf_at (q : Int → Int → List ByteArray) (x y : Int) (u v : Int) : qOf q x y true 2 u v = if (u = x ∧ v = y) ∨ (u = y ∧ v = x) then [] else q u v := by
  show updQ (updQ q x y []) y x [] u v = _
  unfold updQ
  by_cases h1 : u = y ∧ v = x
  · rw [if_pos h1, if_pos (.inr h1)]
  · rw [if_neg h1]
    by_cases h2 : u = x ∧ v = y
    · rw [if_pos h2, if_pos (.inl h2)]
    · rw [if_neg h2, if_neg (fun h => h.elim h2 h1)]
theorem sim_cutE (h : Sim N q c L G) (x y : Int) : turnE N c x y true = rcutE N G x y := by
  unfold turnE rcutE
  cases hk : knowsB N x y with
  | false => rfl
  | true =>
    rw [if_pos rfl, if_pos rfl, h.line x y hk]
    have e3 := cutIx_any G x y
    cases ha : G.any (lineB x y) with
    | true => rw [ha] at e3; rw [if_pos (by rfl), if_pos (by simpa using e3)]
    | false => rw [ha] at e3; rw [if_neg (by decide), if_neg (by simpa using e3)]
theorem sim_healE (h : Sim N q c L G) (x y : Int) : turnE N c x y false = rhealE N G x y := by
  unfold turnE rhealE
  cases hk : knowsB N x y with
  | false => rfl
  | true =>
    rw [if_pos rfl, if_pos rfl, h.line x y hk]
    have e3 := cutIx_any G x y
    cases ha : G.any (lineB x y) with
    | true => rw [ha] at e3; rw [if_neg (by decide), if_neg (by have : 0 ≤ cutIx G x y := by simpa using e3
                                                                omega)]
    | false => rw [ha] at e3; rw [if_pos (by rfl), if_pos (by have : ¬ 0 ≤ cutIx G x y := by simpa using e3
                                                              omega)]
theorem sim_cut (h : Sim N q c L G) (x y : Int) : Sim N (turnQ N c q x y true) (turnC N c x y true) (rcutL N L G x y) (rcutG N G x y) := by
  have hlined := lined_turn (nodes := N) h.lined x y true
  unfold turnQ turnC at hlined ⊢
  unfold rcutL rcutG
  rw [← sim_cutE h]
  by_cases he : turnE N c x y true = 0
  · rw [if_pos he, if_pos he] at hlined
    rw [if_pos he, if_pos he, if_pos he, if_pos he]
    obtain ⟨hk, hc⟩ := turnE_zero he
    have hany : ∀ u v, (G ++ [(x, y)]).any (lineB u v) = (G.any (lineB u v) || decide ((x = u ∧ y = v) ∨ (x = v ∧ y = u))) := fun u v => by
      rw [List.any_append]
      simp [lineB]
    refine ⟨fun u v huv => ?_, fun u v huv => ?_, hlined, ?_⟩
    · rw [refT_kept, hany, qOf_at]
      by_cases e : (u = x ∧ v = y) ∨ (u = y ∧ v = x)
      · rw [if_pos e, if_pos]
        simp
        right
        omega
      · rw [if_neg e, h.queue u v huv]
        have e2 : decide ((x = u ∧ y = v) ∨ (x = v ∧ y = u)) = false := by simp; omega
        rw [e2, Bool.or_false]
        cases ha : G.any (lineB u v) with
        | false => rw [if_neg (by simp)]
        | true =>
          rw [if_pos rfl, ← h.queue u v huv]
          exact h.lined.2 u v ((h.line u v huv).trans ha)
    · rw [hany, cutOf_at]
      by_cases e : (u = x ∧ v = y) ∨ (u = y ∧ v = x)
      · rw [if_pos e]
        have e2 : decide ((x = u ∧ y = v) ∨ (x = v ∧ y = u)) = true := by simp; omega
        rw [e2, Bool.or_true]
      · rw [if_neg e]
        have e2 : decide ((x = u ∧ y = v) ∨ (x = v ∧ y = u)) = false := by simp; omega
        rw [e2, Bool.or_false]
        exact h.line u v huv
    · rw [List.pairwise_append]
      refine ⟨h.once, by simp, fun g hg g2 hg2 => ?_⟩
      rw [List.mem_singleton.1 hg2, ← lineB_flip]
      have ha : G.any (lineB x y) = false := by rw [← h.line x y hk]; simpa using hc
      rw [List.any_eq_false] at ha
      simpa using ha g hg
  · rw [if_neg he, if_neg he, if_neg he, if_neg he]
    exact h
theorem any_erase {p : Int × Int → Bool} (G : List (Int × Int)) (k : Nat) (hk : k < G.length) (hp : p G[k] = false) : (G.eraseIdx k).any p = G.any p := by
  rw [List.eraseIdx_eq_take_drop_succ]
  have e : G = G.take k ++ G[k] :: G.drop (k + 1) := by rw [← List.drop_eq_getElem_cons hk, List.take_append_drop]
  conv => rhs; rw [e]
  rw [List.any_append, List.any_append, List.any_cons, hp, Bool.false_or]
theorem any_erase_once (G : List (Int × Int)) (h : G.Pairwise (fun g h => lineB g.1 g.2 h = false)) (k : Nat) (hk : k < G.length) (u v : Int) (hp : lineB u v G[k] = true) : (G.eraseIdx k).any (lineB u v) = false := by
  rw [List.eraseIdx_eq_take_drop_succ]
  have e : G = G.take k ++ G[k] :: G.drop (k + 1) := by rw [← List.drop_eq_getElem_cons hk, List.take_append_drop]
  rw [e] at h
  rw [List.pairwise_append, List.pairwise_cons] at h
  obtain ⟨_, ⟨h2, _⟩, h3⟩ := h
  rw [List.any_eq_false]
  have key : ∀ g : Int × Int, lineB u v g = true → lineB G[k].1 G[k].2 g = true ∧ lineB g.1 g.2 G[k] = true := fun g hg => by
    unfold lineB at hg hp ⊢
    simp at hg hp ⊢
    omega
  intro g hg hgt
  rcases List.mem_append.1 hg with hm | hm
  · have := h3 g hm G[k] List.mem_cons_self
    rw [(key g hgt).2] at this
    cases this
  · have := h2 g hm
    rw [(key g hgt).1] at this
    cases this
theorem sim_heal (h : Sim N q c L G) (x y : Int) : Sim N (turnQ N c q x y false) (turnC N c x y false) L (rhealG N G x y) := by
  have hlined := lined_turn (nodes := N) h.lined x y false
  unfold turnQ turnC at hlined ⊢
  unfold rhealG
  rw [← sim_healE h]
  by_cases he : turnE N c x y false = 0
  · rw [if_pos he, if_pos he] at hlined
    rw [if_pos he, if_pos he, if_pos he]
    obtain ⟨hk, hc⟩ := turnE_zero he
    have ha : G.any (lineB x y) = true := by rw [← h.line x y hk]; simpa using hc
    have e3 := cutIx_any G x y
    rw [ha] at e3
    have e3 : 0 ≤ cutIx G x y := by simpa using e3
    obtain ⟨k, hkl, hcx, hline⟩ : ∃ k : Nat, ∃ hkl : k < G.length, cutIx G x y = k ∧ lineB x y G[k] = true := by
      unfold cutIx at e3 ⊢
      cases hf : G.findIdx? (lineB x y) with
      | none => rw [hf] at e3; exact absurd e3 (by decide)
      | some i =>
        rw [List.findIdx?_eq_some_iff_getElem] at hf
        obtain ⟨hi, h1, _⟩ := hf
        exact ⟨i, hi, rfl, h1⟩
    rw [hcx, Int.toNat_natCast]
    refine ⟨fun u v huv => ?_, fun u v huv => ?_, hlined, h.once.sublist (List.eraseIdx_sublist _ _)⟩
    · show q u v = _
      exact h.queue u v huv
    · rw [cutOf_at]
      by_cases e : (u = x ∧ v = y) ∨ (u = y ∧ v = x)
      · rw [if_pos e, any_erase_once G h.once k hkl u v]
        unfold lineB at hline ⊢
        simp at hline ⊢
        omega
      · rw [if_neg e, any_erase G k hkl]
        · exact h.line u v huv
        · unfold lineB at hline ⊢
          simp at hline ⊢
          omega
  · rw [if_neg he, if_neg he, if_neg he]
    exact h
theorem Sim.step (h : Sim N q c L G) (s : S46) : (doE N q c s = rdoE N L G s ∧ doT N q s = rdoT N L s ∧ doK N q s = rdoK N L s) ∧ Sim N (doQ N q c s) (doC N c s) (rdoL N L G s) (rdoG N G s) := by
  unfold doE doT doK rdoE rdoT rdoK doQ doC rdoL rdoG
  by_cases h0 : s.f0 = 0
  · have h1 : ¬ s.f0 = 1 := by omega
    simp only [if_pos h0, if_neg h1]
    exact ⟨⟨sim_sendE h _ _ _, by first | rfl | trivial, by first | rfl | trivial⟩, sim_send h _ _ _⟩
  by_cases h1 : s.f0 = 1
  · simp only [if_neg h0, if_pos h1]
    obtain ⟨⟨g1, g2⟩, g3⟩ := sim_del h s.f1 s.f2 s.f3 s.f5 s.f6
    exact ⟨⟨by first | rfl | trivial, g1, g2⟩, g3⟩
  by_cases h2 : s.f0 = 2
  · simp only [if_neg h0, if_neg h1, if_pos h2]
    exact ⟨⟨sim_cutE h _ _, by first | rfl | trivial, by first | rfl | trivial⟩, sim_cut h _ _⟩
  · simp only [if_neg h0, if_neg h1, if_neg h2]
    exact ⟨⟨sim_healE h _ _, by first | rfl | trivial, by first | rfl | trivial⟩, sim_heal h _ _⟩
theorem Sim.waits (h : Sim N q c L G) (x y : Int) : (if knowsB N x y then q x y else []) = refW N L x y := by
  unfold refW
  cases hk : knowsB N x y with
  | false => rfl
  | true => rw [if_pos rfl, if_pos rfl, h.queue x y hk]
theorem rdoL_len : (rdoL N L G s).length ≤ L.length + 1 := by
  unfold rdoL
  split
  · unfold rsendL
    split
    · simp
    · omega
  split
  · unfold rdelL
    split
    · split
      · have := List.length_eraseIdx_le L (by assumption : Nat)
        omega
      · omega
    · omega
  split
  · unfold rcutL
    split
    · have := List.length_filter_le (keptB (G ++ [(s.f1, s.f2)])) L
      omega
    · omega
  · omega
theorem rdoG_len : (rdoG N G s).length ≤ G.length + 1 := by
  unfold rdoG
  split
  · omega
  split
  · omega
  split
  · unfold rcutG
    split
    · simp
    · omega
  · unfold rhealG
    split
    · have := List.length_eraseIdx_le G (cutIx G s.f1 s.f2).toNat
      omega
    · omega
end
end Go.Proofs.Ytofacphhfgkemaa.G
