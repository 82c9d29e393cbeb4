-- Laid by a program of this session over given contracts (wip/tools/givenprint.py).
import Derived.Test.YtogpaeebkdopiaaPAllx0
import Derived.Test.YtogpaeebkdopiaaPAllx1
import Derived.Test.YtogpaeebkdopiaaPAllx2
namespace Go.Proofs.Ytogpaeebkdopiaa.PAll
open Go.RowKit Go.Proofs.YtogpaeebkdopiaaW.PrintWords Go.Proofs.YtogpaeebkdopiaaW.PrintLast Go.Proofs.YtogpaeebkdopiaaW.PrintMore
attribute [local go_sem] max2_int min2_int max_two min_two max_three min_three max_four min_four   -- for this text's walks alone
set_option linter.unusedVariables false
set_option linter.unusedSimpArgs false

/-! ### observatorylaw28_ApportionGrows: function 7 -/
mutual
def observatorylaw28_ApportionGrows.j0 : Nat → Bool → List Int → Int → List Int → List Int → Bool → Option (Bool)
  | 0, _, _, _, _, _, _ => none
  | k + 1, x9, x11, x12, x14, x16, x76 => if x76 = true then (some false) else (observatorylaw28_ApportionGrows.l0 k x9 x11 x12 x14 x16 0)
def observatorylaw28_ApportionGrows.l0 : Nat → Bool → List Int → Int → List Int → List Int → Int → Option (Bool)
  | 0, _, _, _, _, _, _ => none
  | k + 1, x9, x11, x12, x14, x16, x18 => if x18 < (x11.length : Int) then (if x18 = x12 then (if 0 ≤ x18 then (if x18 < (x16.length : Int) then (if x18 < (x14.length : Int) then (if (rd x16 x18) < (rd x14 x18) then (some false) else (observatorylaw28_ApportionGrows.l0 k x9 x11 x12 x14 x16 (wrap64 (x18 + 1)))) else (none)) else (none)) else (none)) else (if 0 ≤ x18 then (if x18 < (x16.length : Int) then (if x18 < (x14.length : Int) then (if (rd x16 x18) > (rd x14 x18) then (some false) else (observatorylaw28_ApportionGrows.l0 k x9 x11 x12 x14 x16 (wrap64 (x18 + 1)))) else (none)) else (none)) else (none))) else (some x9)
end
def observatorylaw28_ApportionGrows.f (k : Nat) (a0 : Int) (l1 : List Int) (a2 : Int) (a3 : Int) : Option (Bool) := (observatorylaw28_head.f).bind fun t198 => ((observatorylaw28_valid.f k a0 l1).bind fun bt199 => (if (bt199.2.length : Int) = 0 then (none) else ((some (([] : List Int) : List Int)).bind fun y203 => (if y203.length + bt199.2.length < 17592186044416 then ((some (y203 ++ bt199.2 : List Int)).bind fun y206 => (if 0 ≤ (Int.tmod (wrap64 (a2)) (bt199.2.length : Int)) then (if (Int.tmod (wrap64 (a2)) (bt199.2.length : Int)) < (bt199.2.length : Int) then (if (Int.tmod (wrap64 (a2)) (bt199.2.length : Int)) < (y206.length : Int) then ((apportion_Share.f bt199.1 bt199.2).bind fun bt211 => ((apportion_Share.f bt199.1 (y206.set ((Int.tmod (wrap64 (a2)) (bt199.2.length : Int)) : Int).toNat (mn 1000000000 (wrap64 ((rd bt199.2 (Int.tmod (wrap64 (a2)) (bt199.2.length : Int))) + (wrap64 (a3))))))).bind fun bt215 => (if bt211.2 = 0 then (if bt215.2 = 0 then (if (bt211.1.length : Int) = (bt199.2.length : Int) then (observatorylaw28_ApportionGrows.j0 k t198 bt199.2 (Int.tmod (wrap64 (a2)) (bt199.2.length : Int)) bt211.1 bt215.1 ((bt215.1.length : Int) != (bt199.2.length : Int))) else (observatorylaw28_ApportionGrows.j0 k t198 bt199.2 (Int.tmod (wrap64 (a2)) (bt199.2.length : Int)) bt211.1 bt215.1 true)) else (observatorylaw28_ApportionGrows.j0 k t198 bt199.2 (Int.tmod (wrap64 (a2)) (bt199.2.length : Int)) bt211.1 bt215.1 true)) else (observatorylaw28_ApportionGrows.j0 k t198 bt199.2 (Int.tmod (wrap64 (a2)) (bt199.2.length : Int)) bt211.1 bt215.1 true)))) else (none)) else (none)) else (none))) else (none)))))
theorem observatorylaw28_ApportionGrows.mono_l : ∀ k, (∀ y0 y1 y2 y3 y4 y5, LeO (observatorylaw28_ApportionGrows.j0 k y0 y1 y2 y3 y4 y5) (observatorylaw28_ApportionGrows.j0 (k + 1) y0 y1 y2 y3 y4 y5)) ∧ (∀ y0 y1 y2 y3 y4 y5, LeO (observatorylaw28_ApportionGrows.l0 k y0 y1 y2 y3 y4 y5) (observatorylaw28_ApportionGrows.l0 (k + 1) y0 y1 y2 y3 y4 y5))
  | 0 => ⟨fun _ _ _ _ _ _ r h => by simp [observatorylaw28_ApportionGrows.j0] at h, fun _ _ _ _ _ _ r h => by simp [observatorylaw28_ApportionGrows.l0] at h⟩
  | k + 1 => by
    obtain ⟨ih0, ih1⟩ := observatorylaw28_ApportionGrows.mono_l k
    refine ⟨?_, ?_⟩
    · intro y0 y1 y2 y3 y4 y5
      unfold observatorylaw28_ApportionGrows.j0
      repeat' first
      | (with_reducible exact ih0 _ _ _ _ _ _)
      | (with_reducible exact ih1 _ _ _ _ _ _)
      | (with_reducible exact observatorylaw28_valid.mono _ _ _)
      | (with_reducible exact LeO.refl _)
      | (with_reducible exact LeO.none _)
      | (with_reducible refine LeO.ite ?_ ?_)
      | (with_reducible refine LeO.bind ?_ (fun _ => ?_))
      | exact ih0 _ _ _ _ _ _
      | exact ih1 _ _ _ _ _ _
      | exact observatorylaw28_valid.mono _ _ _
      | exact LeO.none _
      | refine LeO.ite ?_ ?_
      | refine LeO.bind ?_ (fun _ => ?_)
    · intro y0 y1 y2 y3 y4 y5
      unfold observatorylaw28_ApportionGrows.l0
      repeat' first
      | (with_reducible exact ih0 _ _ _ _ _ _)
      | (with_reducible exact ih1 _ _ _ _ _ _)
      | (with_reducible exact observatorylaw28_valid.mono _ _ _)
      | (with_reducible exact LeO.refl _)
      | (with_reducible exact LeO.none _)
      | (with_reducible refine LeO.ite ?_ ?_)
      | (with_reducible refine LeO.bind ?_ (fun _ => ?_))
      | exact ih0 _ _ _ _ _ _
      | exact ih1 _ _ _ _ _ _
      | exact observatorylaw28_valid.mono _ _ _
      | exact LeO.none _
      | refine LeO.ite ?_ ?_
      | refine LeO.bind ?_ (fun _ => ?_)
theorem observatorylaw28_ApportionGrows.mono : ∀ a0 a1 a2 a3 k, LeO (observatorylaw28_ApportionGrows.f k a0 a1 a2 a3) (observatorylaw28_ApportionGrows.f (k + 1) a0 a1 a2 a3) := by
  intro a0 a1 a2 a3 k
  obtain ⟨ih0, ih1⟩ := observatorylaw28_ApportionGrows.mono_l k
  unfold observatorylaw28_ApportionGrows.f
  repeat' first
      | (with_reducible exact ih0 _ _ _ _ _ _)
      | (with_reducible exact ih1 _ _ _ _ _ _)
      | (with_reducible exact observatorylaw28_valid.mono _ _ _)
      | (with_reducible exact LeO.refl _)
      | (with_reducible exact LeO.none _)
      | (with_reducible refine LeO.ite ?_ ?_)
      | (with_reducible refine LeO.bind ?_ (fun _ => ?_))
      | exact ih0 _ _ _ _ _ _
      | exact ih1 _ _ _ _ _ _
      | exact observatorylaw28_valid.mono _ _ _
      | exact LeO.none _
      | refine LeO.ite ?_ ?_
      | refine LeO.bind ?_ (fun _ => ?_)
set_option maxHeartbeats 8000000 in
set_option maxRecDepth 100000 in
theorem observatorylaw28_ApportionGrows.calls (k : Nat) (a0 : Int) (A1 : Option Addr) (c1 : Nat) (l1 : List Int) (a2 : Int) (a3 : Int) (r : Bool) (w : World) (hr1 : Kd.C (Kd.int .u32) w A1 l1.length l1) (hc1 : l1.length ≤ c1) (h : observatorylaw28_ApportionGrows.f k a0 l1 a2 a3 = some r) :
    Calls Try.prog 7 #[.int .u16 a0, .slice A1 l1.length c1, .int .u8 a2, .int .u32 a3] w fun e w' => e = .returned (.bool r) ∧ Below w.heap.size w w' := by
  have HR1 := Aside0.mk hr1
  have HC1 := Aside0.mk hc1
  clear hr1 hc1
  have HB := Aside0.mk (Below.refl w.heap.size w)
  have H : ((observatorylaw28_head.f).bind fun t198 => ((observatorylaw28_valid.f k a0 l1).bind fun bt199 => (if (bt199.2.length : Int) = 0 then (none) else ((some (([] : List Int) : List Int)).bind fun y203 => (if y203.length + bt199.2.length < 17592186044416 then ((some (y203 ++ bt199.2 : List Int)).bind fun y206 => (if 0 ≤ (Int.tmod (wrap64 (a2)) (bt199.2.length : Int)) then (if (Int.tmod (wrap64 (a2)) (bt199.2.length : Int)) < (bt199.2.length : Int) then (if (Int.tmod (wrap64 (a2)) (bt199.2.length : Int)) < (y206.length : Int) then ((apportion_Share.f bt199.1 bt199.2).bind fun bt211 => ((apportion_Share.f bt199.1 (y206.set ((Int.tmod (wrap64 (a2)) (bt199.2.length : Int)) : Int).toNat (mn 1000000000 (wrap64 ((rd bt199.2 (Int.tmod (wrap64 (a2)) (bt199.2.length : Int))) + (wrap64 (a3))))))).bind fun bt215 => (if bt211.2 = 0 then (if bt215.2 = 0 then (if (bt211.1.length : Int) = (bt199.2.length : Int) then (observatorylaw28_ApportionGrows.j0 k t198 bt199.2 (Int.tmod (wrap64 (a2)) (bt199.2.length : Int)) bt211.1 bt215.1 ((bt215.1.length : Int) != (bt199.2.length : Int))) else (observatorylaw28_ApportionGrows.j0 k t198 bt199.2 (Int.tmod (wrap64 (a2)) (bt199.2.length : Int)) bt211.1 bt215.1 true)) else (observatorylaw28_ApportionGrows.j0 k t198 bt199.2 (Int.tmod (wrap64 (a2)) (bt199.2.length : Int)) bt211.1 bt215.1 true)) else (observatorylaw28_ApportionGrows.j0 k t198 bt199.2 (Int.tmod (wrap64 (a2)) (bt199.2.length : Int)) bt211.1 bt215.1 true)))) else (none)) else (none)) else (none))) else (none)))))) = some r := h
  clear h
  replace H := Option.bind_eq_some_iff.mp H
  obtain ⟨t198, A50, H⟩ := H
  replace H : ((observatorylaw28_valid.f k a0 l1).bind fun bt199 => (if (bt199.2.length : Int) = 0 then (none) else ((some (([] : List Int) : List Int)).bind fun y203 => (if y203.length + bt199.2.length < 17592186044416 then ((some (y203 ++ bt199.2 : List Int)).bind fun y206 => (if 0 ≤ (Int.tmod (wrap64 (a2)) (bt199.2.length : Int)) then (if (Int.tmod (wrap64 (a2)) (bt199.2.length : Int)) < (bt199.2.length : Int) then (if (Int.tmod (wrap64 (a2)) (bt199.2.length : Int)) < (y206.length : Int) then ((apportion_Share.f bt199.1 bt199.2).bind fun bt211 => ((apportion_Share.f bt199.1 (y206.set ((Int.tmod (wrap64 (a2)) (bt199.2.length : Int)) : Int).toNat (mn 1000000000 (wrap64 ((rd bt199.2 (Int.tmod (wrap64 (a2)) (bt199.2.length : Int))) + (wrap64 (a3))))))).bind fun bt215 => (if bt211.2 = 0 then (if bt215.2 = 0 then (if (bt211.1.length : Int) = (bt199.2.length : Int) then (observatorylaw28_ApportionGrows.j0 k t198 bt199.2 (Int.tmod (wrap64 (a2)) (bt199.2.length : Int)) bt211.1 bt215.1 ((bt215.1.length : Int) != (bt199.2.length : Int))) else (observatorylaw28_ApportionGrows.j0 k t198 bt199.2 (Int.tmod (wrap64 (a2)) (bt199.2.length : Int)) bt211.1 bt215.1 true)) else (observatorylaw28_ApportionGrows.j0 k t198 bt199.2 (Int.tmod (wrap64 (a2)) (bt199.2.length : Int)) bt211.1 bt215.1 true)) else (observatorylaw28_ApportionGrows.j0 k t198 bt199.2 (Int.tmod (wrap64 (a2)) (bt199.2.length : Int)) bt211.1 bt215.1 true)))) else (none)) else (none)) else (none))) else (none))))) = some r := H
  have A5 := Aside0.mk A50
  clear A50
  replace H := Option.bind_eq_some_iff.mp H
  obtain ⟨⟨t199, t200⟩, A60, H⟩ := H
  replace H : (if (t200.length : Int) = 0 then (none) else ((some (([] : List Int) : List Int)).bind fun y203 => (if y203.length + t200.length < 17592186044416 then ((some (y203 ++ t200 : List Int)).bind fun y206 => (if 0 ≤ (Int.tmod (wrap64 (a2)) (t200.length : Int)) then (if (Int.tmod (wrap64 (a2)) (t200.length : Int)) < (t200.length : Int) then (if (Int.tmod (wrap64 (a2)) (t200.length : Int)) < (y206.length : Int) then ((apportion_Share.f t199 t200).bind fun bt211 => ((apportion_Share.f t199 (y206.set ((Int.tmod (wrap64 (a2)) (t200.length : Int)) : Int).toNat (mn 1000000000 (wrap64 ((rd t200 (Int.tmod (wrap64 (a2)) (t200.length : Int))) + (wrap64 (a3))))))).bind fun bt215 => (if bt211.2 = 0 then (if bt215.2 = 0 then (if (bt211.1.length : Int) = (t200.length : Int) then (observatorylaw28_ApportionGrows.j0 k t198 t200 (Int.tmod (wrap64 (a2)) (t200.length : Int)) bt211.1 bt215.1 ((bt215.1.length : Int) != (t200.length : Int))) else (observatorylaw28_ApportionGrows.j0 k t198 t200 (Int.tmod (wrap64 (a2)) (t200.length : Int)) bt211.1 bt215.1 true)) else (observatorylaw28_ApportionGrows.j0 k t198 t200 (Int.tmod (wrap64 (a2)) (t200.length : Int)) bt211.1 bt215.1 true)) else (observatorylaw28_ApportionGrows.j0 k t198 t200 (Int.tmod (wrap64 (a2)) (t200.length : Int)) bt211.1 bt215.1 true)))) else (none)) else (none)) else (none))) else (none)))) = some r := H
  have A6 := Aside0.mk A60
  clear A60
  by_cases c7 : (t200.length : Int) = 0
  · rw [if_pos c7] at H
    exact absurd H (by simp)
  · rw [if_neg c7] at H
    have c7b0 : ((t200.length : Int) == 0) = false := beq_eq_false_iff_ne.mpr c7
    have c7b1 : ((t200.length : Int) != 0) = true := bne_iff_ne.mpr c7
    have c7b2 : ¬ (t200 = []) := fun h_ => c7 (by rw [h_]; rfl)
    obtain ⟨y203, hy203⟩ : ∃ y_ : List Int, y_ = (([] : List Int)) := ⟨_, rfl⟩
    replace H : (if y203.length + t200.length < 17592186044416 then ((some (y203 ++ t200 : List Int)).bind fun y206 => (if 0 ≤ (Int.tmod (wrap64 (a2)) (t200.length : Int)) then (if (Int.tmod (wrap64 (a2)) (t200.length : Int)) < (t200.length : Int) then (if (Int.tmod (wrap64 (a2)) (t200.length : Int)) < (y206.length : Int) then ((apportion_Share.f t199 t200).bind fun bt211 => ((apportion_Share.f t199 (y206.set ((Int.tmod (wrap64 (a2)) (t200.length : Int)) : Int).toNat (mn 1000000000 (wrap64 ((rd t200 (Int.tmod (wrap64 (a2)) (t200.length : Int))) + (wrap64 (a3))))))).bind fun bt215 => (if bt211.2 = 0 then (if bt215.2 = 0 then (if (bt211.1.length : Int) = (t200.length : Int) then (observatorylaw28_ApportionGrows.j0 k t198 t200 (Int.tmod (wrap64 (a2)) (t200.length : Int)) bt211.1 bt215.1 ((bt215.1.length : Int) != (t200.length : Int))) else (observatorylaw28_ApportionGrows.j0 k t198 t200 (Int.tmod (wrap64 (a2)) (t200.length : Int)) bt211.1 bt215.1 true)) else (observatorylaw28_ApportionGrows.j0 k t198 t200 (Int.tmod (wrap64 (a2)) (t200.length : Int)) bt211.1 bt215.1 true)) else (observatorylaw28_ApportionGrows.j0 k t198 t200 (Int.tmod (wrap64 (a2)) (t200.length : Int)) bt211.1 bt215.1 true)))) else (none)) else (none)) else (none))) else (none)) = some r := by first | (rw [hy203]; with_reducible exact H) | (have H2_ := (Option.bind_some _ _).symm.trans H; rw [hy203]; with_reducible exact H2_) | (have H2_ := (Option.bind_some _ _).symm.trans H; with_reducible exact H2_) | with_reducible exact H | (rw [hy203]; exact H) | exact H
    have Ny203 := Aside0.mk hy203
    clear hy203
    by_cases c8 : y203.length + t200.length < 17592186044416
    · rw [if_pos c8] at H
      have LMc8 := Aside0.mk c8
      clear c8
      obtain ⟨y206, hy206⟩ : ∃ y_ : List Int, y_ = (y203 ++ t200) := ⟨_, rfl⟩
      replace H : (if 0 ≤ (Int.tmod (wrap64 (a2)) (t200.length : Int)) then (if (Int.tmod (wrap64 (a2)) (t200.length : Int)) < (t200.length : Int) then (if (Int.tmod (wrap64 (a2)) (t200.length : Int)) < (y206.length : Int) then ((apportion_Share.f t199 t200).bind fun bt211 => ((apportion_Share.f t199 (y206.set ((Int.tmod (wrap64 (a2)) (t200.length : Int)) : Int).toNat (mn 1000000000 (wrap64 ((rd t200 (Int.tmod (wrap64 (a2)) (t200.length : Int))) + (wrap64 (a3))))))).bind fun bt215 => (if bt211.2 = 0 then (if bt215.2 = 0 then (if (bt211.1.length : Int) = (t200.length : Int) then (observatorylaw28_ApportionGrows.j0 k t198 t200 (Int.tmod (wrap64 (a2)) (t200.length : Int)) bt211.1 bt215.1 ((bt215.1.length : Int) != (t200.length : Int))) else (observatorylaw28_ApportionGrows.j0 k t198 t200 (Int.tmod (wrap64 (a2)) (t200.length : Int)) bt211.1 bt215.1 true)) else (observatorylaw28_ApportionGrows.j0 k t198 t200 (Int.tmod (wrap64 (a2)) (t200.length : Int)) bt211.1 bt215.1 true)) else (observatorylaw28_ApportionGrows.j0 k t198 t200 (Int.tmod (wrap64 (a2)) (t200.length : Int)) bt211.1 bt215.1 true)))) else (none)) else (none)) else (none)) = some r := by first | (rw [hy206]; with_reducible exact H) | (have H2_ := (Option.bind_some _ _).symm.trans H; rw [hy206]; with_reducible exact H2_) | (have H2_ := (Option.bind_some _ _).symm.trans H; with_reducible exact H2_) | with_reducible exact H | (rw [hy206]; exact H) | exact H
      have Ny206 := Aside0.mk hy206
      clear hy206
      obtain ⟨ji9, hji9⟩ : ∃ j_ : Int, (Int.tmod (wrap64 (a2)) (t200.length : Int)) = j_ := ⟨_, rfl⟩
      replace H : (if 0 ≤ (ji9) then (if (ji9) < (t200.length : Int) then (if (ji9) < (y206.length : Int) then ((apportion_Share.f t199 t200).bind fun bt211 => ((apportion_Share.f t199 (y206.set ((ji9) : Int).toNat (mn 1000000000 (wrap64 ((rd t200 (ji9)) + (wrap64 (a3))))))).bind fun bt215 => (if bt211.2 = 0 then (if bt215.2 = 0 then (if (bt211.1.length : Int) = (t200.length : Int) then (observatorylaw28_ApportionGrows.j0 k t198 t200 ji9 bt211.1 bt215.1 ((bt215.1.length : Int) != (t200.length : Int))) else (observatorylaw28_ApportionGrows.j0 k t198 t200 ji9 bt211.1 bt215.1 true)) else (observatorylaw28_ApportionGrows.j0 k t198 t200 ji9 bt211.1 bt215.1 true)) else (observatorylaw28_ApportionGrows.j0 k t198 t200 ji9 bt211.1 bt215.1 true)))) else (none)) else (none)) else (none)) = some r := by first | (rw [hji9] at H; exact H) | (simp only [hji9] at H ⊢; exact H)
      (try rw [hji9] at A5)
      (try rw [hji9] at A6)
      by_cases c10 : 0 ≤ (ji9)
      · rw [if_pos c10] at H
        have c10b0 : decide (0 ≤ (ji9)) = true := decide_eq_true c10
        clear c10
        by_cases c11 : (ji9) < (t200.length : Int)
        · rw [if_pos c11] at H
          have c11b0 : decide ((ji9) < (t200.length : Int)) = true := decide_eq_true c11
          clear c11
          obtain ⟨ji12, hji12⟩ : ∃ j_ : Int, (mn 1000000000 (wrap64 ((rd t200 (ji9)) + (wrap64 (a3))))) = j_ := ⟨_, rfl⟩
          replace H : (if (ji9) < (y206.length : Int) then ((apportion_Share.f t199 t200).bind fun bt211 => ((apportion_Share.f t199 (y206.set ((ji9) : Int).toNat (ji12))).bind fun bt215 => (if bt211.2 = 0 then (if bt215.2 = 0 then (if (bt211.1.length : Int) = (t200.length : Int) then (observatorylaw28_ApportionGrows.j0 k t198 t200 ji9 bt211.1 bt215.1 ((bt215.1.length : Int) != (t200.length : Int))) else (observatorylaw28_ApportionGrows.j0 k t198 t200 ji9 bt211.1 bt215.1 true)) else (observatorylaw28_ApportionGrows.j0 k t198 t200 ji9 bt211.1 bt215.1 true)) else (observatorylaw28_ApportionGrows.j0 k t198 t200 ji9 bt211.1 bt215.1 true)))) else (none)) = some r := by first | (rw [hji12] at H; exact H) | (simp only [hji12] at H ⊢; exact H)
          (try rw [hji12] at A5)
          (try rw [hji12] at A6)
          have hji12_ : (if (wrap64 ((rd t200 (ji9)) + (wrap64 (a3)))) < 1000000000 then (wrap64 ((rd t200 (ji9)) + (wrap64 (a3)))) else 1000000000) = ji12 := hji12
          by_cases c13 : (ji9) < (y206.length : Int)
          · rw [if_pos c13] at H
            have c13b0 : decide ((ji9) < (y206.length : Int)) = true := decide_eq_true c13
            clear c13
            obtain ⟨y210, hy210⟩ : ∃ y_ : List Int, y_ = (y206.set ((ji9) : Int).toNat (ji12)) := ⟨_, rfl⟩
            replace H : ((apportion_Share.f t199 t200).bind fun bt211 => ((apportion_Share.f t199 y210).bind fun bt215 => (if bt211.2 = 0 then (if bt215.2 = 0 then (if (bt211.1.length : Int) = (t200.length : Int) then (observatorylaw28_ApportionGrows.j0 k t198 t200 ji9 bt211.1 bt215.1 ((bt215.1.length : Int) != (t200.length : Int))) else (observatorylaw28_ApportionGrows.j0 k t198 t200 ji9 bt211.1 bt215.1 true)) else (observatorylaw28_ApportionGrows.j0 k t198 t200 ji9 bt211.1 bt215.1 true)) else (observatorylaw28_ApportionGrows.j0 k t198 t200 ji9 bt211.1 bt215.1 true)))) = some r := by first | (rw [hy210]; with_reducible exact H) | (have H2_ := (Option.bind_some _ _).symm.trans H; rw [hy210]; with_reducible exact H2_) | (have H2_ := (Option.bind_some _ _).symm.trans H; with_reducible exact H2_) | with_reducible exact H | (rw [hy210]; exact H) | exact H
            have Ny210 := Aside0.mk hy210
            clear hy210
            replace H := Option.bind_eq_some_iff.mp H
            obtain ⟨⟨t211, t212⟩, A150, H⟩ := H
            replace H : ((apportion_Share.f t199 y210).bind fun bt215 => (if t212 = 0 then (if bt215.2 = 0 then (if (t211.length : Int) = (t200.length : Int) then (observatorylaw28_ApportionGrows.j0 k t198 t200 ji9 t211 bt215.1 ((bt215.1.length : Int) != (t200.length : Int))) else (observatorylaw28_ApportionGrows.j0 k t198 t200 ji9 t211 bt215.1 true)) else (observatorylaw28_ApportionGrows.j0 k t198 t200 ji9 t211 bt215.1 true)) else (observatorylaw28_ApportionGrows.j0 k t198 t200 ji9 t211 bt215.1 true))) = some r := H
            have A15 := Aside0.mk A150
            clear A150
            replace H := Option.bind_eq_some_iff.mp H
            obtain ⟨⟨t215, t216⟩, A160, H⟩ := H
            replace H : (if t212 = 0 then (if t216 = 0 then (if (t211.length : Int) = (t200.length : Int) then (observatorylaw28_ApportionGrows.j0 k t198 t200 ji9 t211 t215 ((t215.length : Int) != (t200.length : Int))) else (observatorylaw28_ApportionGrows.j0 k t198 t200 ji9 t211 t215 true)) else (observatorylaw28_ApportionGrows.j0 k t198 t200 ji9 t211 t215 true)) else (observatorylaw28_ApportionGrows.j0 k t198 t200 ji9 t211 t215 true)) = some r := H
            have A16 := Aside0.mk A160
            clear A160
            have HC17 := Aside0.mk H
            clear H
            go_enter Try.func7, Try.ntmps7
            go_upto_region 8 with (first | (go_at_call 9; (with_reducible refine (observatorylaw28_head.calls  t198 _ A5.out).mono ?_); rintro e w18 ⟨rfl, hb⟩; have n0_ := Aside0.mk (below_step (by repeat (first | (with_reducible first | exact HB.out | apply below_alloc | apply pw_below_drewN | apply below_drew1) | exact HB.out)) hb); clear HB; have HB := n0_; clear n0_; (try clear hb); (try clear hb2); (try clear hk); (try clear hi)) | (go_at_call 13; (with_reducible refine (observatorylaw28_valid.calls k a0 _ _ l1 t199 t200 _ ?side1 ?side2 A6.out).mono ?_); (case side1 => repeat (first | exact (Kd.C_below HR1.out HB.out) | (with_reducible refine Kd.C_alloc ?_ _) | (with_reducible refine Kd.C_drewN ?_ _) | (with_reducible refine Kd.C_drew ?_))); (case side2 => exact HC1.out); rintro e w19 ⟨v201, rfl, ho0, hb⟩; have n0_ := Aside0.mk (Kd.R_lower ho0 (below_size (by repeat (first | (with_reducible first | exact HB.out | apply below_alloc | apply pw_below_drewN | apply below_drew1) | exact HB.out)))); have n1_ := Aside0.mk (below_step (by repeat (first | (with_reducible first | exact HB.out | apply below_alloc | apply pw_below_drewN | apply below_drew1) | exact HB.out)) hb); clear HB; have HO202 := n0_; have HB := n1_; clear n0_ n1_; (try clear hb); (try clear hb2); (try clear hk); (try clear hi); (try clear ho0); obtain ⟨Ao20, co20, eo20⟩ := Kd.R_slice HO202.out; subst eo20) | ((with_reducible refine gate_dst (N := 31) rfl ?_); (try (refine gate_guard (by rfl) ?_; dsimp only)); refine Kd.R_lit (Kd.int .i64) _ 3 ?hg (N := 31) ?hd (xs := ([] : List Int)) (inner := []) (ok := fun _ => True) (okp := fun _ => True) ?hr ?hp (fun _ hk => hk) trivial (Below.refl _ _) (Nat.le_refl _) (by simp) ?_; (case hd => rfl); (case hg => rfl); (case hr => first | (go_simp; done) | (go_simp; rfl)); (case hp => exact (Reps.none _ _)); intro v204 w21 ho22 hb hg_ hnew_; clear hg_ hnew_; (first | rw [← Ny203.out] at ho22 | (simp only [Int.reduceToNat] at ho22; rw [← Ny203.out] at ho22)); have n0_ := Aside0.mk (Kd.R_elder' (by (with_reducible repeat (first | apply Kd.R_alloc | apply Kd.R_drewN | apply Kd.R_drew)); exact HO202.out) (Kd.R_base ho22) hb); have n1_ := Aside0.mk (Kd.R_lower (Kd.R_new' ho22 (Kd.R_lt (by (with_reducible repeat (first | apply Kd.R_alloc | apply Kd.R_drewN | apply Kd.R_drew)); exact HO202.out))) (below_size (by repeat (first | (with_reducible first | exact HB.out | apply below_alloc | apply pw_below_drewN | apply below_drew1) | exact HB.out)))); have n2_ := Aside0.mk (below_step (by repeat (first | (with_reducible first | exact HB.out | apply below_alloc | apply pw_below_drewN | apply below_drew1) | exact HB.out)) hb); clear HO202; clear HB; have HO202 := n0_; have HO205 := n1_; have HB := n2_; clear n0_ n1_ n2_; clear hb ho22) | ((with_reducible refine gate_builtin (b := .append) (xs := #[.tmp 31, .tmp 32]) rfl ?_); (try (refine gate_guard (by rfl) ?_; dsimp only)); at_builtin; refine Kd.R_append_rows (Kd.int .i64) (w0 := w) w.heap.size rfl (.tmp 31) (.tmp 32) 22 3 (.int .i64 0) 8 rfl Try.underlying22 info3 rfl (by decide) (by omega) v204 y203 t200 _ _ _ (fun k_ => some k_ ≠ (.slice Ao20 t200.length co20 : Value).ownBlock) (fun _ => False) rfl rfl ?aO ?aR (fun _ _ h => h) (fun _ h => h.elim) ?aF ?aB ?aS ?aL ?_; (case aR => repeat (first | exact (Kd.R_reads' HO202.out).2.2 | (with_reducible refine Kd.C_alloc ?_ _) | (with_reducible refine Kd.C_drewN ?_ _) | (with_reducible refine Kd.C_drew ?_))); (case aB => exact (by repeat (first | (with_reducible first | exact HB.out | apply below_alloc | apply pw_below_drewN | apply below_drew1) | exact HB.out))); (case aF => exact (fun k_ hk => Kd.fresh' (Kd.R_lt (by (with_reducible repeat (first | apply Kd.R_alloc | apply Kd.R_drewN | apply Kd.R_drew)); exact HO202.out)) k_ hk)); (case aO => exact (by (with_reducible repeat (first | apply Kd.R_alloc | apply Kd.R_drewN | apply Kd.R_drew)); exact Kd.R_mono HO205.out (fun _ hk => hk.2))); (case aS => exact (below_size (by repeat (first | (with_reducible first | exact HB.out | apply below_alloc | apply pw_below_drewN | apply below_drew1) | exact HB.out)))); (case aL => have := LMc8.out; omega); intro v207 w23 ho hb hg hat; rw [← Ny206.out] at ho; have n0_ := Aside0.mk (Kd.R_after (ok := (fun _ => True)) (by (with_reducible repeat (first | apply Kd.R_alloc | apply Kd.R_drewN | apply Kd.R_drew)); exact HO202.out) hg hat); have n1_ := Aside0.mk (hb); have n2_ := Aside0.mk (ho); clear HO202; clear HB; clear HO205; have HO202 := n0_; have HB := n1_; have HO208 := n2_; clear n0_ n1_ n2_; clear ho hb hg hat; have p209 : 0 ≤ ((ji9) : Int) := of_decide_eq_true (by first | (with_reducible assumption) | assumption); have q209 : (ji9) < (t200.length : Int) := of_decide_eq_true (by first | (with_reducible assumption) | assumption); obtain ⟨ad209, e209, hx209_0⟩ := Kd.at_int (Kd.R_reads' HO202.out).2.2 (ji9) p209 q209; cases e209; replace p209 := eq_true p209; replace q209 := eq_true q209; have p14 : 0 ≤ ((ji9) : Int) := of_decide_eq_true (by first | (with_reducible assumption) | assumption); have q14 : ((ji9) : Int) < ((y206.length : Int) : Int) := of_decide_eq_true (by first | (with_reducible assumption) | assumption); obtain ⟨go14, co14, eo14, gb14, gl14, cl14, HG14⟩ := Kd.R_form HO208.out (by omega); (first | cases eo14 | (injection eo14 with ea_ en_ ec_; (first | subst ea_ | (injection ea_ with ea_; subst ea_)); subst ec_; clear en_)); have GB14 := Aside0.mk gb14; have GG14 := Aside0.mk HG14; clear gb14 gl14 HG14; obtain ⟨hx14_0, hf14_0⟩ := Kd.R_celln 0 HO208.out ((ji9) : Int) p14 q14; replace p14 := eq_true p14; replace q14 := eq_true q14; obtain ⟨hy24_, hz24_⟩ := Kd.R_celln 0 HO208.out ((ji9) : Int) (of_decide_eq_true (by first | (with_reducible assumption) | assumption)) (of_decide_eq_true (by first | (with_reducible assumption) | assumption)); have HP24 := Kd.R_putg HO208.out ((ji9) : Int) ji12) | ((with_reducible refine gate_store (t := 3) (p := 44) rfl ?_); (try (rw [drewN_self w23]; generalize hq_ : World.drewN w23 _ = w23; have n0_ := Aside0.mk (Kd.R_at hq_ HO202.out); have n1_ := Aside0.mk (Kd.R_at hq_ HO208.out); have n2_ := Aside0.mk (below_at hq_ HB.out); clear hq_ HO202 HO208 HB; have HO202 := n0_; have HO208 := n1_; have HB := n2_; clear n0_ n1_ n2_; (try (obtain ⟨hy24_, hz24_⟩ := Kd.R_celln 0 HO208.out ((ji9) : Int) (of_decide_eq_true (by first | (with_reducible assumption) | assumption)) (of_decide_eq_true (by first | (with_reducible assumption) | assumption)))); (try (have HP24 := Kd.R_putg HO208.out ((ji9) : Int) ji12)))); refine store_event (t := 3) (p := 44) (v := ?vo_w25) (w1 := (w23.setCell ⟨go14, ((ji9) : Int).toNat, none⟩ (.int .i64 ji12))) ?hg ?ho ?hn ?hr ?_; (case ho => rfl); (case hg => rfl); (case hn => rfl); (case hr => first | (go_simp; done) | (go_simp; rfl)); intro w25 hw; have hg : w23.grownBy w25 (some go14) := (by rw [hw]; exact HP24.2); have hp_ : Kd.R (Kd.int .i64) 3 w25 w.heap.size (fun k_ => some k_ ≠ (.slice (some ad209) t200.length co20 : Value).ownBlock) (.slice (some ⟨go14, 0, none⟩) y206.length co14) y210 := (by rw [hw, Ny210.out]; exact HP24.1); clear HP24; have n0_ := Aside0.mk (Kd.R_after (v := (.slice (some ⟨go14, 0, none⟩) y206.length co14)) (v1 := (.slice (some ⟨go14, 0, none⟩) y206.length co14)) (ok := (fun _ => True)) (by (with_reducible repeat (first | apply Kd.R_alloc | apply Kd.R_drewN | apply Kd.R_drew)); exact HO202.out) hg (.inl rfl)); have n1_ := Aside0.mk (hp_); have n2_ := Aside0.mk ((by rw [hw]; exact below_set (HB.out) GB14.out : Below w.heap.size w w25)); clear HO202; clear HO208; clear HB; have HO202 := n0_; have HO208 := n1_; have HB := n2_; clear n0_ n1_ n2_; clear hg hw hp_) | (go_at_call 10; (with_reducible refine (apportion_Share.calls t199 _ _ t200 t211 t212 _ ?side1 ?side2 A15.out).mono ?_); (case side1 => repeat (first | exact (Kd.R_reads' HO202.out).2.2 | (with_reducible refine Kd.C_alloc ?_ _) | (with_reducible refine Kd.C_drewN ?_ _) | (with_reducible refine Kd.C_drew ?_))); (case side2 => exact (Kd.R_reads' HO202.out).2.1); rintro e w26 ⟨v213, rfl, ho0, hb⟩; have n0_ := Aside0.mk (Kd.R_elder' (by (with_reducible repeat (first | apply Kd.R_alloc | apply Kd.R_drewN | apply Kd.R_drew)); exact HO202.out) (Kd.R_base ho0) hb); have n1_ := Aside0.mk (Kd.R_elder' (by (with_reducible repeat (first | apply Kd.R_alloc | apply Kd.R_drewN | apply Kd.R_drew)); exact HO208.out) (Kd.R_base ho0) hb); have n2_ := Aside0.mk (Kd.R_lower (Kd.R_new' (Kd.R_new' ho0 (Kd.R_lt (by (with_reducible repeat (first | apply Kd.R_alloc | apply Kd.R_drewN | apply Kd.R_drew)); exact HO202.out))) (Kd.R_lt (by (with_reducible repeat (first | apply Kd.R_alloc | apply Kd.R_drewN | apply Kd.R_drew)); exact HO208.out))) (below_size (by repeat (first | (with_reducible first | exact HB.out | apply below_alloc | apply pw_below_drewN | apply below_drew1) | exact HB.out)))); have n3_ := Aside0.mk (below_step (by repeat (first | (with_reducible first | exact HB.out | apply below_alloc | apply pw_below_drewN | apply below_drew1) | exact HB.out)) hb); clear HO202; clear HO208; clear HB; have HO202 := n0_; have HO208 := n1_; have HO214 := n2_; have HB := n3_; clear n0_ n1_ n2_ n3_; (try clear hb); (try clear hb2); (try clear hk); (try clear hi); (try clear ho0)) | (go_at_call 10; refine calls_of_args (args' := #[.int .i64 t199, .slice (some ⟨go14, 0, none⟩) y210.length co14]) (by first | (rw [show y210.length = y206.length from (Kd.R_reads' HO208.out).1.symm] <;> rfl) | rfl) ?_; (with_reducible refine (apportion_Share.calls t199 _ _ y210 t215 t216 _ ?side1 ?side2 A16.out).mono ?_); (case side1 => repeat (first | exact (Kd.R_reads' HO208.out).2.2 | (with_reducible refine Kd.C_alloc ?_ _) | (with_reducible refine Kd.C_drewN ?_ _) | (with_reducible refine Kd.C_drew ?_))); (case side2 => rw [show y210.length = y206.length from (Kd.R_reads' HO208.out).1.symm]; exact (Kd.R_reads' HO208.out).2.1); rintro e w27 ⟨v217, rfl, ho0, hb⟩; have n0_ := Aside0.mk (Kd.R_elder' (by (with_reducible repeat (first | apply Kd.R_alloc | apply Kd.R_drewN | apply Kd.R_drew)); exact HO202.out) (Kd.R_base ho0) hb); have n1_ := Aside0.mk (Kd.R_elder' (by (with_reducible repeat (first | apply Kd.R_alloc | apply Kd.R_drewN | apply Kd.R_drew)); exact HO208.out) (Kd.R_base ho0) hb); have n2_ := Aside0.mk (Kd.R_elder' (by (with_reducible repeat (first | apply Kd.R_alloc | apply Kd.R_drewN | apply Kd.R_drew)); exact HO214.out) (Kd.R_base ho0) hb); have n3_ := Aside0.mk (Kd.R_lower (Kd.R_new' (Kd.R_new' (Kd.R_new' ho0 (Kd.R_lt (by (with_reducible repeat (first | apply Kd.R_alloc | apply Kd.R_drewN | apply Kd.R_drew)); exact HO202.out))) (Kd.R_lt (by (with_reducible repeat (first | apply Kd.R_alloc | apply Kd.R_drewN | apply Kd.R_drew)); exact HO208.out))) (Kd.R_lt (by (with_reducible repeat (first | apply Kd.R_alloc | apply Kd.R_drewN | apply Kd.R_drew)); exact HO214.out))) (below_size (by repeat (first | (with_reducible first | exact HB.out | apply below_alloc | apply pw_below_drewN | apply below_drew1) | exact HB.out)))); have n4_ := Aside0.mk (below_step (by repeat (first | (with_reducible first | exact HB.out | apply below_alloc | apply pw_below_drewN | apply below_drew1) | exact HB.out)) hb); clear HO202; clear HO208; clear HO214; clear HB; have HO202 := n0_; have HO208 := n1_; have HO214 := n2_; have HO218 := n3_; have HB := n4_; clear n0_ n1_ n2_ n3_ n4_; (try clear hb); (try clear hb2); (try clear hk); (try clear hi); (try clear ho0)))
            repeat (go_quiet (first | (go_at_call 9; (with_reducible refine (observatorylaw28_head.calls  t198 _ A5.out).mono ?_); rintro e w18 ⟨rfl, hb⟩; have n0_ := Aside0.mk (below_step (by repeat (first | (with_reducible first | exact HB.out | apply below_alloc | apply pw_below_drewN | apply below_drew1) | exact HB.out)) hb); clear HB; have HB := n0_; clear n0_; (try clear hb); (try clear hb2); (try clear hk); (try clear hi)) | (go_at_call 13; (with_reducible refine (observatorylaw28_valid.calls k a0 _ _ l1 t199 t200 _ ?side1 ?side2 A6.out).mono ?_); (case side1 => repeat (first | exact (Kd.C_below HR1.out HB.out) | (with_reducible refine Kd.C_alloc ?_ _) | (with_reducible refine Kd.C_drewN ?_ _) | (with_reducible refine Kd.C_drew ?_))); (case side2 => exact HC1.out); rintro e w19 ⟨v201, rfl, ho0, hb⟩; have n0_ := Aside0.mk (Kd.R_lower ho0 (below_size (by repeat (first | (with_reducible first | exact HB.out | apply below_alloc | apply pw_below_drewN | apply below_drew1) | exact HB.out)))); have n1_ := Aside0.mk (below_step (by repeat (first | (with_reducible first | exact HB.out | apply below_alloc | apply pw_below_drewN | apply below_drew1) | exact HB.out)) hb); clear HB; have HO202 := n0_; have HB := n1_; clear n0_ n1_; (try clear hb); (try clear hb2); (try clear hk); (try clear hi); (try clear ho0); obtain ⟨Ao20, co20, eo20⟩ := Kd.R_slice HO202.out; subst eo20) | ((with_reducible refine gate_dst (N := 31) rfl ?_); (try (refine gate_guard (by rfl) ?_; dsimp only)); refine Kd.R_lit (Kd.int .i64) _ 3 ?hg (N := 31) ?hd (xs := ([] : List Int)) (inner := []) (ok := fun _ => True) (okp := fun _ => True) ?hr ?hp (fun _ hk => hk) trivial (Below.refl _ _) (Nat.le_refl _) (by simp) ?_; (case hd => rfl); (case hg => rfl); (case hr => first | (go_simp; done) | (go_simp; rfl)); (case hp => exact (Reps.none _ _)); intro v204 w21 ho22 hb hg_ hnew_; clear hg_ hnew_; (first | rw [← Ny203.out] at ho22 | (simp only [Int.reduceToNat] at ho22; rw [← Ny203.out] at ho22)); have n0_ := Aside0.mk (Kd.R_elder' (by (with_reducible repeat (first | apply Kd.R_alloc | apply Kd.R_drewN | apply Kd.R_drew)); exact HO202.out) (Kd.R_base ho22) hb); have n1_ := Aside0.mk (Kd.R_lower (Kd.R_new' ho22 (Kd.R_lt (by (with_reducible repeat (first | apply Kd.R_alloc | apply Kd.R_drewN | apply Kd.R_drew)); exact HO202.out))) (below_size (by repeat (first | (with_reducible first | exact HB.out | apply below_alloc | apply pw_below_drewN | apply below_drew1) | exact HB.out)))); have n2_ := Aside0.mk (below_step (by repeat (first | (with_reducible first | exact HB.out | apply below_alloc | apply pw_below_drewN | apply below_drew1) | exact HB.out)) hb); clear HO202; clear HB; have HO202 := n0_; have HO205 := n1_; have HB := n2_; clear n0_ n1_ n2_; clear hb ho22) | ((with_reducible refine gate_builtin (b := .append) (xs := #[.tmp 31, .tmp 32]) rfl ?_); (try (refine gate_guard (by rfl) ?_; dsimp only)); at_builtin; refine Kd.R_append_rows (Kd.int .i64) (w0 := w) w.heap.size rfl (.tmp 31) (.tmp 32) 22 3 (.int .i64 0) 8 rfl Try.underlying22 info3 rfl (by decide) (by omega) v204 y203 t200 _ _ _ (fun k_ => some k_ ≠ (.slice Ao20 t200.length co20 : Value).ownBlock) (fun _ => False) rfl rfl ?aO ?aR (fun _ _ h => h) (fun _ h => h.elim) ?aF ?aB ?aS ?aL ?_; (case aR => repeat (first | exact (Kd.R_reads' HO202.out).2.2 | (with_reducible refine Kd.C_alloc ?_ _) | (with_reducible refine Kd.C_drewN ?_ _) | (with_reducible refine Kd.C_drew ?_))); (case aB => exact (by repeat (first | (with_reducible first | exact HB.out | apply below_alloc | apply pw_below_drewN | apply below_drew1) | exact HB.out))); (case aF => exact (fun k_ hk => Kd.fresh' (Kd.R_lt (by (with_reducible repeat (first | apply Kd.R_alloc | apply Kd.R_drewN | apply Kd.R_drew)); exact HO202.out)) k_ hk)); (case aO => exact (by (with_reducible repeat (first | apply Kd.R_alloc | apply Kd.R_drewN | apply Kd.R_drew)); exact Kd.R_mono HO205.out (fun _ hk => hk.2))); (case aS => exact (below_size (by repeat (first | (with_reducible first | exact HB.out | apply below_alloc | apply pw_below_drewN | apply below_drew1) | exact HB.out)))); (case aL => have := LMc8.out; omega); intro v207 w23 ho hb hg hat; rw [← Ny206.out] at ho; have n0_ := Aside0.mk (Kd.R_after (ok := (fun _ => True)) (by (with_reducible repeat (first | apply Kd.R_alloc | apply Kd.R_drewN | apply Kd.R_drew)); exact HO202.out) hg hat); have n1_ := Aside0.mk (hb); have n2_ := Aside0.mk (ho); clear HO202; clear HB; clear HO205; have HO202 := n0_; have HB := n1_; have HO208 := n2_; clear n0_ n1_ n2_; clear ho hb hg hat; have p209 : 0 ≤ ((ji9) : Int) := of_decide_eq_true (by first | (with_reducible assumption) | assumption); have q209 : (ji9) < (t200.length : Int) := of_decide_eq_true (by first | (with_reducible assumption) | assumption); obtain ⟨ad209, e209, hx209_0⟩ := Kd.at_int (Kd.R_reads' HO202.out).2.2 (ji9) p209 q209; cases e209; replace p209 := eq_true p209; replace q209 := eq_true q209; have p14 : 0 ≤ ((ji9) : Int) := of_decide_eq_true (by first | (with_reducible assumption) | assumption); have q14 : ((ji9) : Int) < ((y206.length : Int) : Int) := of_decide_eq_true (by first | (with_reducible assumption) | assumption); obtain ⟨go14, co14, eo14, gb14, gl14, cl14, HG14⟩ := Kd.R_form HO208.out (by omega); (first | cases eo14 | (injection eo14 with ea_ en_ ec_; (first | subst ea_ | (injection ea_ with ea_; subst ea_)); subst ec_; clear en_)); have GB14 := Aside0.mk gb14; have GG14 := Aside0.mk HG14; clear gb14 gl14 HG14; obtain ⟨hx14_0, hf14_0⟩ := Kd.R_celln 0 HO208.out ((ji9) : Int) p14 q14; replace p14 := eq_true p14; replace q14 := eq_true q14; obtain ⟨hy24_, hz24_⟩ := Kd.R_celln 0 HO208.out ((ji9) : Int) (of_decide_eq_true (by first | (with_reducible assumption) | assumption)) (of_decide_eq_true (by first | (with_reducible assumption) | assumption)); have HP24 := Kd.R_putg HO208.out ((ji9) : Int) ji12) | ((with_reducible refine gate_store (t := 3) (p := 44) rfl ?_); (try (rw [drewN_self w23]; generalize hq_ : World.drewN w23 _ = w23; have n0_ := Aside0.mk (Kd.R_at hq_ HO202.out); have n1_ := Aside0.mk (Kd.R_at hq_ HO208.out); have n2_ := Aside0.mk (below_at hq_ HB.out); clear hq_ HO202 HO208 HB; have HO202 := n0_; have HO208 := n1_; have HB := n2_; clear n0_ n1_ n2_; (try (obtain ⟨hy24_, hz24_⟩ := Kd.R_celln 0 HO208.out ((ji9) : Int) (of_decide_eq_true (by first | (with_reducible assumption) | assumption)) (of_decide_eq_true (by first | (with_reducible assumption) | assumption)))); (try (have HP24 := Kd.R_putg HO208.out ((ji9) : Int) ji12)))); refine store_event (t := 3) (p := 44) (v := ?vo_w25) (w1 := (w23.setCell ⟨go14, ((ji9) : Int).toNat, none⟩ (.int .i64 ji12))) ?hg ?ho ?hn ?hr ?_; (case ho => rfl); (case hg => rfl); (case hn => rfl); (case hr => first | (go_simp; done) | (go_simp; rfl)); intro w25 hw; have hg : w23.grownBy w25 (some go14) := (by rw [hw]; exact HP24.2); have hp_ : Kd.R (Kd.int .i64) 3 w25 w.heap.size (fun k_ => some k_ ≠ (.slice (some ad209) t200.length co20 : Value).ownBlock) (.slice (some ⟨go14, 0, none⟩) y206.length co14) y210 := (by rw [hw, Ny210.out]; exact HP24.1); clear HP24; have n0_ := Aside0.mk (Kd.R_after (v := (.slice (some ⟨go14, 0, none⟩) y206.length co14)) (v1 := (.slice (some ⟨go14, 0, none⟩) y206.length co14)) (ok := (fun _ => True)) (by (with_reducible repeat (first | apply Kd.R_alloc | apply Kd.R_drewN | apply Kd.R_drew)); exact HO202.out) hg (.inl rfl)); have n1_ := Aside0.mk (hp_); have n2_ := Aside0.mk ((by rw [hw]; exact below_set (HB.out) GB14.out : Below w.heap.size w w25)); clear HO202; clear HO208; clear HB; have HO202 := n0_; have HO208 := n1_; have HB := n2_; clear n0_ n1_ n2_; clear hg hw hp_) | (go_at_call 10; (with_reducible refine (apportion_Share.calls t199 _ _ t200 t211 t212 _ ?side1 ?side2 A15.out).mono ?_); (case side1 => repeat (first | exact (Kd.R_reads' HO202.out).2.2 | (with_reducible refine Kd.C_alloc ?_ _) | (with_reducible refine Kd.C_drewN ?_ _) | (with_reducible refine Kd.C_drew ?_))); (case side2 => exact (Kd.R_reads' HO202.out).2.1); rintro e w26 ⟨v213, rfl, ho0, hb⟩; have n0_ := Aside0.mk (Kd.R_elder' (by (with_reducible repeat (first | apply Kd.R_alloc | apply Kd.R_drewN | apply Kd.R_drew)); exact HO202.out) (Kd.R_base ho0) hb); have n1_ := Aside0.mk (Kd.R_elder' (by (with_reducible repeat (first | apply Kd.R_alloc | apply Kd.R_drewN | apply Kd.R_drew)); exact HO208.out) (Kd.R_base ho0) hb); have n2_ := Aside0.mk (Kd.R_lower (Kd.R_new' (Kd.R_new' ho0 (Kd.R_lt (by (with_reducible repeat (first | apply Kd.R_alloc | apply Kd.R_drewN | apply Kd.R_drew)); exact HO202.out))) (Kd.R_lt (by (with_reducible repeat (first | apply Kd.R_alloc | apply Kd.R_drewN | apply Kd.R_drew)); exact HO208.out))) (below_size (by repeat (first | (with_reducible first | exact HB.out | apply below_alloc | apply pw_below_drewN | apply below_drew1) | exact HB.out)))); have n3_ := Aside0.mk (below_step (by repeat (first | (with_reducible first | exact HB.out | apply below_alloc | apply pw_below_drewN | apply below_drew1) | exact HB.out)) hb); clear HO202; clear HO208; clear HB; have HO202 := n0_; have HO208 := n1_; have HO214 := n2_; have HB := n3_; clear n0_ n1_ n2_ n3_; (try clear hb); (try clear hb2); (try clear hk); (try clear hi); (try clear ho0)) | (go_at_call 10; refine calls_of_args (args' := #[.int .i64 t199, .slice (some ⟨go14, 0, none⟩) y210.length co14]) (by first | (rw [show y210.length = y206.length from (Kd.R_reads' HO208.out).1.symm] <;> rfl) | rfl) ?_; (with_reducible refine (apportion_Share.calls t199 _ _ y210 t215 t216 _ ?side1 ?side2 A16.out).mono ?_); (case side1 => repeat (first | exact (Kd.R_reads' HO208.out).2.2 | (with_reducible refine Kd.C_alloc ?_ _) | (with_reducible refine Kd.C_drewN ?_ _) | (with_reducible refine Kd.C_drew ?_))); (case side2 => rw [show y210.length = y206.length from (Kd.R_reads' HO208.out).1.symm]; exact (Kd.R_reads' HO208.out).2.1); rintro e w27 ⟨v217, rfl, ho0, hb⟩; have n0_ := Aside0.mk (Kd.R_elder' (by (with_reducible repeat (first | apply Kd.R_alloc | apply Kd.R_drewN | apply Kd.R_drew)); exact HO202.out) (Kd.R_base ho0) hb); have n1_ := Aside0.mk (Kd.R_elder' (by (with_reducible repeat (first | apply Kd.R_alloc | apply Kd.R_drewN | apply Kd.R_drew)); exact HO208.out) (Kd.R_base ho0) hb); have n2_ := Aside0.mk (Kd.R_elder' (by (with_reducible repeat (first | apply Kd.R_alloc | apply Kd.R_drewN | apply Kd.R_drew)); exact HO214.out) (Kd.R_base ho0) hb); have n3_ := Aside0.mk (Kd.R_lower (Kd.R_new' (Kd.R_new' (Kd.R_new' ho0 (Kd.R_lt (by (with_reducible repeat (first | apply Kd.R_alloc | apply Kd.R_drewN | apply Kd.R_drew)); exact HO202.out))) (Kd.R_lt (by (with_reducible repeat (first | apply Kd.R_alloc | apply Kd.R_drewN | apply Kd.R_drew)); exact HO208.out))) (Kd.R_lt (by (with_reducible repeat (first | apply Kd.R_alloc | apply Kd.R_drewN | apply Kd.R_drew)); exact HO214.out))) (below_size (by repeat (first | (with_reducible first | exact HB.out | apply below_alloc | apply pw_below_drewN | apply below_drew1) | exact HB.out)))); have n4_ := Aside0.mk (below_step (by repeat (first | (with_reducible first | exact HB.out | apply below_alloc | apply pw_below_drewN | apply below_drew1) | exact HB.out)) hb); clear HO202; clear HO208; clear HO214; clear HB; have HO202 := n0_; have HO208 := n1_; have HO214 := n2_; have HO218 := n3_; have HB := n4_; clear n0_ n1_ n2_ n3_ n4_; (try clear hb); (try clear hb2); (try clear hk); (try clear hi); (try clear ho0))); go_upto_region 8 with (first | (go_at_call 9; (with_reducible refine (observatorylaw28_head.calls  t198 _ A5.out).mono ?_); rintro e w18 ⟨rfl, hb⟩; have n0_ := Aside0.mk (below_step (by repeat (first | (with_reducible first | exact HB.out | apply below_alloc | apply pw_below_drewN | apply below_drew1) | exact HB.out)) hb); clear HB; have HB := n0_; clear n0_; (try clear hb); (try clear hb2); (try clear hk); (try clear hi)) | (go_at_call 13; (with_reducible refine (observatorylaw28_valid.calls k a0 _ _ l1 t199 t200 _ ?side1 ?side2 A6.out).mono ?_); (case side1 => repeat (first | exact (Kd.C_below HR1.out HB.out) | (with_reducible refine Kd.C_alloc ?_ _) | (with_reducible refine Kd.C_drewN ?_ _) | (with_reducible refine Kd.C_drew ?_))); (case side2 => exact HC1.out); rintro e w19 ⟨v201, rfl, ho0, hb⟩; have n0_ := Aside0.mk (Kd.R_lower ho0 (below_size (by repeat (first | (with_reducible first | exact HB.out | apply below_alloc | apply pw_below_drewN | apply below_drew1) | exact HB.out)))); have n1_ := Aside0.mk (below_step (by repeat (first | (with_reducible first | exact HB.out | apply below_alloc | apply pw_below_drewN | apply below_drew1) | exact HB.out)) hb); clear HB; have HO202 := n0_; have HB := n1_; clear n0_ n1_; (try clear hb); (try clear hb2); (try clear hk); (try clear hi); (try clear ho0); obtain ⟨Ao20, co20, eo20⟩ := Kd.R_slice HO202.out; subst eo20) | ((with_reducible refine gate_dst (N := 31) rfl ?_); (try (refine gate_guard (by rfl) ?_; dsimp only)); refine Kd.R_lit (Kd.int .i64) _ 3 ?hg (N := 31) ?hd (xs := ([] : List Int)) (inner := []) (ok := fun _ => True) (okp := fun _ => True) ?hr ?hp (fun _ hk => hk) trivial (Below.refl _ _) (Nat.le_refl _) (by simp) ?_; (case hd => rfl); (case hg => rfl); (case hr => first | (go_simp; done) | (go_simp; rfl)); (case hp => exact (Reps.none _ _)); intro v204 w21 ho22 hb hg_ hnew_; clear hg_ hnew_; (first | rw [← Ny203.out] at ho22 | (simp only [Int.reduceToNat] at ho22; rw [← Ny203.out] at ho22)); have n0_ := Aside0.mk (Kd.R_elder' (by (with_reducible repeat (first | apply Kd.R_alloc | apply Kd.R_drewN | apply Kd.R_drew)); exact HO202.out) (Kd.R_base ho22) hb); have n1_ := Aside0.mk (Kd.R_lower (Kd.R_new' ho22 (Kd.R_lt (by (with_reducible repeat (first | apply Kd.R_alloc | apply Kd.R_drewN | apply Kd.R_drew)); exact HO202.out))) (below_size (by repeat (first | (with_reducible first | exact HB.out | apply below_alloc | apply pw_below_drewN | apply below_drew1) | exact HB.out)))); have n2_ := Aside0.mk (below_step (by repeat (first | (with_reducible first | exact HB.out | apply below_alloc | apply pw_below_drewN | apply below_drew1) | exact HB.out)) hb); clear HO202; clear HB; have HO202 := n0_; have HO205 := n1_; have HB := n2_; clear n0_ n1_ n2_; clear hb ho22) | ((with_reducible refine gate_builtin (b := .append) (xs := #[.tmp 31, .tmp 32]) rfl ?_); (try (refine gate_guard (by rfl) ?_; dsimp only)); at_builtin; refine Kd.R_append_rows (Kd.int .i64) (w0 := w) w.heap.size rfl (.tmp 31) (.tmp 32) 22 3 (.int .i64 0) 8 rfl Try.underlying22 info3 rfl (by decide) (by omega) v204 y203 t200 _ _ _ (fun k_ => some k_ ≠ (.slice Ao20 t200.length co20 : Value).ownBlock) (fun _ => False) rfl rfl ?aO ?aR (fun _ _ h => h) (fun _ h => h.elim) ?aF ?aB ?aS ?aL ?_; (case aR => repeat (first | exact (Kd.R_reads' HO202.out).2.2 | (with_reducible refine Kd.C_alloc ?_ _) | (with_reducible refine Kd.C_drewN ?_ _) | (with_reducible refine Kd.C_drew ?_))); (case aB => exact (by repeat (first | (with_reducible first | exact HB.out | apply below_alloc | apply pw_below_drewN | apply below_drew1) | exact HB.out))); (case aF => exact (fun k_ hk => Kd.fresh' (Kd.R_lt (by (with_reducible repeat (first | apply Kd.R_alloc | apply Kd.R_drewN | apply Kd.R_drew)); exact HO202.out)) k_ hk)); (case aO => exact (by (with_reducible repeat (first | apply Kd.R_alloc | apply Kd.R_drewN | apply Kd.R_drew)); exact Kd.R_mono HO205.out (fun _ hk => hk.2))); (case aS => exact (below_size (by repeat (first | (with_reducible first | exact HB.out | apply below_alloc | apply pw_below_drewN | apply below_drew1) | exact HB.out)))); (case aL => have := LMc8.out; omega); intro v207 w23 ho hb hg hat; rw [← Ny206.out] at ho; have n0_ := Aside0.mk (Kd.R_after (ok := (fun _ => True)) (by (with_reducible repeat (first | apply Kd.R_alloc | apply Kd.R_drewN | apply Kd.R_drew)); exact HO202.out) hg hat); have n1_ := Aside0.mk (hb); have n2_ := Aside0.mk (ho); clear HO202; clear HB; clear HO205; have HO202 := n0_; have HB := n1_; have HO208 := n2_; clear n0_ n1_ n2_; clear ho hb hg hat; have p209 : 0 ≤ ((ji9) : Int) := of_decide_eq_true (by first | (with_reducible assumption) | assumption); have q209 : (ji9) < (t200.length : Int) := of_decide_eq_true (by first | (with_reducible assumption) | assumption); obtain ⟨ad209, e209, hx209_0⟩ := Kd.at_int (Kd.R_reads' HO202.out).2.2 (ji9) p209 q209; cases e209; replace p209 := eq_true p209; replace q209 := eq_true q209; have p14 : 0 ≤ ((ji9) : Int) := of_decide_eq_true (by first | (with_reducible assumption) | assumption); have q14 : ((ji9) : Int) < ((y206.length : Int) : Int) := of_decide_eq_true (by first | (with_reducible assumption) | assumption); obtain ⟨go14, co14, eo14, gb14, gl14, cl14, HG14⟩ := Kd.R_form HO208.out (by omega); (first | cases eo14 | (injection eo14 with ea_ en_ ec_; (first | subst ea_ | (injection ea_ with ea_; subst ea_)); subst ec_; clear en_)); have GB14 := Aside0.mk gb14; have GG14 := Aside0.mk HG14; clear gb14 gl14 HG14; obtain ⟨hx14_0, hf14_0⟩ := Kd.R_celln 0 HO208.out ((ji9) : Int) p14 q14; replace p14 := eq_true p14; replace q14 := eq_true q14; obtain ⟨hy24_, hz24_⟩ := Kd.R_celln 0 HO208.out ((ji9) : Int) (of_decide_eq_true (by first | (with_reducible assumption) | assumption)) (of_decide_eq_true (by first | (with_reducible assumption) | assumption)); have HP24 := Kd.R_putg HO208.out ((ji9) : Int) ji12) | ((with_reducible refine gate_store (t := 3) (p := 44) rfl ?_); (try (rw [drewN_self w23]; generalize hq_ : World.drewN w23 _ = w23; have n0_ := Aside0.mk (Kd.R_at hq_ HO202.out); have n1_ := Aside0.mk (Kd.R_at hq_ HO208.out); have n2_ := Aside0.mk (below_at hq_ HB.out); clear hq_ HO202 HO208 HB; have HO202 := n0_; have HO208 := n1_; have HB := n2_; clear n0_ n1_ n2_; (try (obtain ⟨hy24_, hz24_⟩ := Kd.R_celln 0 HO208.out ((ji9) : Int) (of_decide_eq_true (by first | (with_reducible assumption) | assumption)) (of_decide_eq_true (by first | (with_reducible assumption) | assumption)))); (try (have HP24 := Kd.R_putg HO208.out ((ji9) : Int) ji12)))); refine store_event (t := 3) (p := 44) (v := ?vo_w25) (w1 := (w23.setCell ⟨go14, ((ji9) : Int).toNat, none⟩ (.int .i64 ji12))) ?hg ?ho ?hn ?hr ?_; (case ho => rfl); (case hg => rfl); (case hn => rfl); (case hr => first | (go_simp; done) | (go_simp; rfl)); intro w25 hw; have hg : w23.grownBy w25 (some go14) := (by rw [hw]; exact HP24.2); have hp_ : Kd.R (Kd.int .i64) 3 w25 w.heap.size (fun k_ => some k_ ≠ (.slice (some ad209) t200.length co20 : Value).ownBlock) (.slice (some ⟨go14, 0, none⟩) y206.length co14) y210 := (by rw [hw, Ny210.out]; exact HP24.1); clear HP24; have n0_ := Aside0.mk (Kd.R_after (v := (.slice (some ⟨go14, 0, none⟩) y206.length co14)) (v1 := (.slice (some ⟨go14, 0, none⟩) y206.length co14)) (ok := (fun _ => True)) (by (with_reducible repeat (first | apply Kd.R_alloc | apply Kd.R_drewN | apply Kd.R_drew)); exact HO202.out) hg (.inl rfl)); have n1_ := Aside0.mk (hp_); have n2_ := Aside0.mk ((by rw [hw]; exact below_set (HB.out) GB14.out : Below w.heap.size w w25)); clear HO202; clear HO208; clear HB; have HO202 := n0_; have HO208 := n1_; have HB := n2_; clear n0_ n1_ n2_; clear hg hw hp_) | (go_at_call 10; (with_reducible refine (apportion_Share.calls t199 _ _ t200 t211 t212 _ ?side1 ?side2 A15.out).mono ?_); (case side1 => repeat (first | exact (Kd.R_reads' HO202.out).2.2 | (with_reducible refine Kd.C_alloc ?_ _) | (with_reducible refine Kd.C_drewN ?_ _) | (with_reducible refine Kd.C_drew ?_))); (case side2 => exact (Kd.R_reads' HO202.out).2.1); rintro e w26 ⟨v213, rfl, ho0, hb⟩; have n0_ := Aside0.mk (Kd.R_elder' (by (with_reducible repeat (first | apply Kd.R_alloc | apply Kd.R_drewN | apply Kd.R_drew)); exact HO202.out) (Kd.R_base ho0) hb); have n1_ := Aside0.mk (Kd.R_elder' (by (with_reducible repeat (first | apply Kd.R_alloc | apply Kd.R_drewN | apply Kd.R_drew)); exact HO208.out) (Kd.R_base ho0) hb); have n2_ := Aside0.mk (Kd.R_lower (Kd.R_new' (Kd.R_new' ho0 (Kd.R_lt (by (with_reducible repeat (first | apply Kd.R_alloc | apply Kd.R_drewN | apply Kd.R_drew)); exact HO202.out))) (Kd.R_lt (by (with_reducible repeat (first | apply Kd.R_alloc | apply Kd.R_drewN | apply Kd.R_drew)); exact HO208.out))) (below_size (by repeat (first | (with_reducible first | exact HB.out | apply below_alloc | apply pw_below_drewN | apply below_drew1) | exact HB.out)))); have n3_ := Aside0.mk (below_step (by repeat (first | (with_reducible first | exact HB.out | apply below_alloc | apply pw_below_drewN | apply below_drew1) | exact HB.out)) hb); clear HO202; clear HO208; clear HB; have HO202 := n0_; have HO208 := n1_; have HO214 := n2_; have HB := n3_; clear n0_ n1_ n2_ n3_; (try clear hb); (try clear hb2); (try clear hk); (try clear hi); (try clear ho0)) | (go_at_call 10; refine calls_of_args (args' := #[.int .i64 t199, .slice (some ⟨go14, 0, none⟩) y210.length co14]) (by first | (rw [show y210.length = y206.length from (Kd.R_reads' HO208.out).1.symm] <;> rfl) | rfl) ?_; (with_reducible refine (apportion_Share.calls t199 _ _ y210 t215 t216 _ ?side1 ?side2 A16.out).mono ?_); (case side1 => repeat (first | exact (Kd.R_reads' HO208.out).2.2 | (with_reducible refine Kd.C_alloc ?_ _) | (with_reducible refine Kd.C_drewN ?_ _) | (with_reducible refine Kd.C_drew ?_))); (case side2 => rw [show y210.length = y206.length from (Kd.R_reads' HO208.out).1.symm]; exact (Kd.R_reads' HO208.out).2.1); rintro e w27 ⟨v217, rfl, ho0, hb⟩; have n0_ := Aside0.mk (Kd.R_elder' (by (with_reducible repeat (first | apply Kd.R_alloc | apply Kd.R_drewN | apply Kd.R_drew)); exact HO202.out) (Kd.R_base ho0) hb); have n1_ := Aside0.mk (Kd.R_elder' (by (with_reducible repeat (first | apply Kd.R_alloc | apply Kd.R_drewN | apply Kd.R_drew)); exact HO208.out) (Kd.R_base ho0) hb); have n2_ := Aside0.mk (Kd.R_elder' (by (with_reducible repeat (first | apply Kd.R_alloc | apply Kd.R_drewN | apply Kd.R_drew)); exact HO214.out) (Kd.R_base ho0) hb); have n3_ := Aside0.mk (Kd.R_lower (Kd.R_new' (Kd.R_new' (Kd.R_new' ho0 (Kd.R_lt (by (with_reducible repeat (first | apply Kd.R_alloc | apply Kd.R_drewN | apply Kd.R_drew)); exact HO202.out))) (Kd.R_lt (by (with_reducible repeat (first | apply Kd.R_alloc | apply Kd.R_drewN | apply Kd.R_drew)); exact HO208.out))) (Kd.R_lt (by (with_reducible repeat (first | apply Kd.R_alloc | apply Kd.R_drewN | apply Kd.R_drew)); exact HO214.out))) (below_size (by repeat (first | (with_reducible first | exact HB.out | apply below_alloc | apply pw_below_drewN | apply below_drew1) | exact HB.out)))); have n4_ := Aside0.mk (below_step (by repeat (first | (with_reducible first | exact HB.out | apply below_alloc | apply pw_below_drewN | apply below_drew1) | exact HB.out)) hb); clear HO202; clear HO208; clear HO214; clear HB; have HO202 := n0_; have HO208 := n1_; have HO214 := n2_; have HO218 := n3_; have HB := n4_; clear n0_ n1_ n2_ n3_ n4_; (try clear hb); (try clear hb2); (try clear hk); (try clear hi); (try clear ho0))))
            (try simp only [Act.put, List.setIfInBounds_toArray, List.set_cons_zero, List.set_cons_succ])
            go_cut [76] (fun v76 wc => ∃ (kq : Nat) (x76_16 : Bool), v76 = .bool x76_16 ∧ Aside0 (observatorylaw28_ApportionGrows.j0 kq t198 t200 ji9 t211 t215 x76_16 = some r) ∧ Aside0 (kq ≤ k) ∧ Aside0 (Kd.R (Kd.int .i64) 3 wc w.heap.size (fun k_ => some k_ ≠ (v213 : Value).ownBlock ∧ some k_ ≠ (v217 : Value).ownBlock) (.slice (some ad209) t200.length co20) t200) ∧ Aside0 (Kd.R (Kd.int .i64) 3 wc w.heap.size (fun k_ => some k_ ≠ ((.slice (some ad209) t200.length co20) : Value).ownBlock ∧ some k_ ≠ (v217 : Value).ownBlock) v213 t211) ∧ Aside0 (Kd.R (Kd.int .i64) 3 wc w.heap.size (fun k_ => some k_ ≠ ((.slice (some ad209) t200.length co20) : Value).ownBlock ∧ some k_ ≠ (v213 : Value).ownBlock) v217 t215) ∧ Aside0 (Below w.heap.size w wc))
            case first =>
              have H := HC17.out
              clear HC17
              by_cases c28 : t212 = 0
              · rw [if_pos c28] at H
                have c28b0 : (t212 == 0) = true := beq_iff_eq.mpr c28
                have c28b1 : (t212 != 0) = false := bne_eq_false_iff_eq.mpr c28
                clear c28
                (first | rw [c28b0] | (simp only [i64_w, i32_w]; rw [c28b0]) | skip)
                by_cases c29 : t216 = 0
                · rw [if_pos c29] at H
                  have c29b0 : (t216 == 0) = true := beq_iff_eq.mpr c29
                  have c29b1 : (t216 != 0) = false := bne_eq_false_iff_eq.mpr c29
                  clear c29
                  by_cases c30 : (t211.length : Int) = (t200.length : Int)
                  · rw [if_pos c30] at H
                    have c30b0 : ((t211.length : Int) == (t200.length : Int)) = true := beq_iff_eq.mpr c30
                    have c30b1 : ((t211.length : Int) != (t200.length : Int)) = false := bne_eq_false_iff_eq.mpr c30
                    have c30b2 : (t211.length == t200.length) = true := by first | simpa using c30 | (simp at c30 ⊢; omega)
                    clear c30
                    have H' := Aside0.mk H
                    clear H
                    obtain ⟨Ao31, co31, eo31⟩ := Kd.R_slice HO214.out
                    subst eo31
                    obtain ⟨Ao32, co32, eo32⟩ := Kd.R_slice HO218.out
                    subst eo32
                    go_wp2
                    repeat (go_quiet (fail); try go_wp2)
                    go_meet
                    case rel => exact ⟨_, (((t215.length : Int) != (t200.length : Int))), (by first | rfl | (simp [Go.IntWalk.i64_left]; done) | (simp; done) | (simp [*]; done)), H', ⟨by first | omega | exact Nat.le_refl _⟩, ⟨by (with_reducible repeat (first | apply Kd.R_alloc | apply Kd.R_drewN | apply Kd.R_drew)); exact Kd.R_mono HO202.out (fun _ hk => ⟨hk.1.2, hk.2⟩)⟩, ⟨by (with_reducible repeat (first | apply Kd.R_alloc | apply Kd.R_drewN | apply Kd.R_drew)); exact Kd.R_mono HO214.out (fun _ hk => ⟨hk.1.1.2, hk.2⟩)⟩, ⟨by (with_reducible repeat (first | apply Kd.R_alloc | apply Kd.R_drewN | apply Kd.R_drew)); exact Kd.R_mono HO218.out (fun _ hk => ⟨hk.1.1.2, hk.2⟩)⟩, ⟨by repeat (first | (with_reducible first | exact HB.out | apply below_alloc | apply pw_below_drewN | apply below_drew1) | exact HB.out)⟩⟩
                  · rw [if_neg c30] at H
                    have c30b0 : ((t211.length : Int) == (t200.length : Int)) = false := beq_eq_false_iff_ne.mpr c30
                    have c30b1 : ((t211.length : Int) != (t200.length : Int)) = true := bne_iff_ne.mpr c30
                    have c30b2 : (t211.length == t200.length) = false := by first | simpa using c30 | (simp at c30 ⊢; omega)
                    have H' := Aside0.mk H
                    clear H
                    obtain ⟨Ao33, co33, eo33⟩ := Kd.R_slice HO214.out
                    subst eo33
                    go_wp2
                    repeat (go_quiet (fail); try go_wp2)
                    go_meet
                    case rel => exact ⟨_, (true), (by first | rfl | (simp [Go.IntWalk.i64_left]; done) | (simp; done) | (simp [*]; done)), H', ⟨by first | omega | exact Nat.le_refl _⟩, ⟨by (with_reducible repeat (first | apply Kd.R_alloc | apply Kd.R_drewN | apply Kd.R_drew)); exact Kd.R_mono HO202.out (fun _ hk => ⟨hk.1.2, hk.2⟩)⟩, ⟨by (with_reducible repeat (first | apply Kd.R_alloc | apply Kd.R_drewN | apply Kd.R_drew)); exact Kd.R_mono HO214.out (fun _ hk => ⟨hk.1.1.2, hk.2⟩)⟩, ⟨by (with_reducible repeat (first | apply Kd.R_alloc | apply Kd.R_drewN | apply Kd.R_drew)); exact Kd.R_mono HO218.out (fun _ hk => ⟨hk.1.1.2, hk.2⟩)⟩, ⟨by repeat (first | (with_reducible first | exact HB.out | apply below_alloc | apply pw_below_drewN | apply below_drew1) | exact HB.out)⟩⟩
                · rw [if_neg c29] at H
                  have c29b0 : (t216 == 0) = false := beq_eq_false_iff_ne.mpr c29
                  have c29b1 : (t216 != 0) = true := bne_iff_ne.mpr c29
                  have H' := Aside0.mk H
                  clear H
                  go_wp2
                  repeat (go_quiet (fail); try go_wp2)
                  go_meet
                  case rel => exact ⟨_, (true), (by first | rfl | (simp [Go.IntWalk.i64_left]; done) | (simp; done) | (simp [*]; done)), H', ⟨by first | omega | exact Nat.le_refl _⟩, ⟨by (with_reducible repeat (first | apply Kd.R_alloc | apply Kd.R_drewN | apply Kd.R_drew)); exact Kd.R_mono HO202.out (fun _ hk => ⟨hk.1.2, hk.2⟩)⟩, ⟨by (with_reducible repeat (first | apply Kd.R_alloc | apply Kd.R_drewN | apply Kd.R_drew)); exact Kd.R_mono HO214.out (fun _ hk => ⟨hk.1.1.2, hk.2⟩)⟩, ⟨by (with_reducible repeat (first | apply Kd.R_alloc | apply Kd.R_drewN | apply Kd.R_drew)); exact Kd.R_mono HO218.out (fun _ hk => ⟨hk.1.1.2, hk.2⟩)⟩, ⟨by repeat (first | (with_reducible first | exact HB.out | apply below_alloc | apply pw_below_drewN | apply below_drew1) | exact HB.out)⟩⟩
              · rw [if_neg c28] at H
                have c28b0 : (t212 == 0) = false := beq_eq_false_iff_ne.mpr c28
                have c28b1 : (t212 != 0) = true := bne_iff_ne.mpr c28
                (first | rw [c28b0] | (simp only [i64_w, i32_w]; rw [c28b0]) | skip)
                have H' := Aside0.mk H
                clear H
                go_wp2
                repeat (go_quiet (fail); try go_wp2)
                go_meet
                case rel => exact ⟨_, (true), (by first | rfl | (simp [Go.IntWalk.i64_left]; done) | (simp; done) | (simp [*]; done)), H', ⟨by first | omega | exact Nat.le_refl _⟩, ⟨by (with_reducible repeat (first | apply Kd.R_alloc | apply Kd.R_drewN | apply Kd.R_drew)); exact Kd.R_mono HO202.out (fun _ hk => ⟨hk.1.2, hk.2⟩)⟩, ⟨by (with_reducible repeat (first | apply Kd.R_alloc | apply Kd.R_drewN | apply Kd.R_drew)); exact Kd.R_mono HO214.out (fun _ hk => ⟨hk.1.1.2, hk.2⟩)⟩, ⟨by (with_reducible repeat (first | apply Kd.R_alloc | apply Kd.R_drewN | apply Kd.R_drew)); exact Kd.R_mono HO218.out (fun _ hk => ⟨hk.1.1.2, hk.2⟩)⟩, ⟨by repeat (first | (with_reducible first | exact HB.out | apply below_alloc | apply pw_below_drewN | apply below_drew1) | exact HB.out)⟩⟩
            case rest =>
              clear HC17
              try clear c1
              try clear p1
              try clear q1
              try clear hx1
              try clear c2
              try clear p2
              try clear q2
              try clear hx2
              try clear c3
              try clear p6
              try clear c7
              try clear c7b0
              try clear c7b1
              try clear c7b2
              try clear c8
              try clear c10
              try clear c10b0
              try clear c11
              try clear c11b0
              try clear c13
              try clear c13b0
              try clear p14
              try clear q14
              try clear hx14
              try clear hf14
              try clear p20
              try clear q20
              try clear hx20
              try clear c28
              try clear c28b0
              try clear c28b1
              try clear c29
              try clear c29b0
              try clear c29b1
              try clear c30
              try clear c30b0
              try clear c30b1
              try clear c30b2
              try clear hx14_0
              try clear hx209_0
              try clear p14
              try clear p209
              try clear q14
              try clear q209
              obtain ⟨kq, x76_16, rfl, HA, HJ16, HO_11, HO_14, HO_16, HB⟩ := hcut
              cases kq with
              | zero => exact absurd HA.out (by simp [observatorylaw28_ApportionGrows.j0])
              | succ kj16 =>
                have H := HA.out
                clear HA
                simp only [observatorylaw28_ApportionGrows.j0] at H
                by_cases c34 : x76_16 = true
                · subst c34
                  have H1 : (some false) = some r := by rw [if_pos rfl] at H; exact H
                  clear H
                  have H := H1
                  clear H1
                  obtain rfl := Option.some.inj H
                  go_wp2
                  repeat (go_quiet (fail); try go_wp2)
                  go_ret
                  exact ⟨by first | rfl | (simp [Go.IntWalk.i64_left]; done) | (simp [errW_none, errW_some] <;> rfl) | (simp only [← hji9, ← hji12]; first | rfl | (simp [errW_none, errW_some] <;> rfl)) | (simp [*, errW_none, errW_some] <;> rfl), by repeat (first | (with_reducible first | exact HB.out | apply below_alloc | apply pw_below_drewN | apply below_drew1) | exact HB.out)⟩
                · replace c34 := Bool.eq_false_iff.mpr c34
                  subst c34
                  have H1 : (observatorylaw28_ApportionGrows.l0 kj16 t198 t200 ji9 t211 t215 0) = some r := by rw [if_neg (show ¬ (false = true) by decide)] at H; exact H
                  clear H
                  have H := H1
                  clear H1
                  have H' := Aside0.mk H
                  clear H
                  go_wp2
                  repeat (go_quiet (fail); try go_wp2)
                  go_loopg [18] kj16 (fun kq v18 w' => ∃ (x18_2 : Int), v18 = .int .i64 x18_2 ∧ Aside0 (observatorylaw28_ApportionGrows.l0 kq t198 t200 ji9 t211 t215 x18_2 = some r) ∧ Aside0 (kq ≤ kj16) ∧ Aside0 (Kd.R (Kd.int .i64) 3 w' w.heap.size (fun k_ => some k_ ≠ (v213 : Value).ownBlock ∧ some k_ ≠ (v217 : Value).ownBlock) (.slice (some ad209) t200.length co20) t200) ∧ Aside0 (Kd.R (Kd.int .i64) 3 w' w.heap.size (fun k_ => some k_ ≠ ((.slice (some ad209) t200.length co20) : Value).ownBlock ∧ some k_ ≠ (v217 : Value).ownBlock) v213 t211) ∧ Aside0 (Kd.R (Kd.int .i64) 3 w' w.heap.size (fun k_ => some k_ ≠ ((.slice (some ad209) t200.length co20) : Value).ownBlock ∧ some k_ ≠ (v213 : Value).ownBlock) v217 t215) ∧ Aside0 (Below w.heap.size w w'))
                  case atStart => exact ⟨(0), (by first | rfl | (simp [Go.IntWalk.i64_left]; done) | (simp; done) | (simp [*]; done)), H', ⟨Nat.le_refl _⟩, ⟨by (with_reducible repeat (first | apply Kd.R_alloc | apply Kd.R_drewN | apply Kd.R_drew)); exact HO_11.out⟩, ⟨by (with_reducible repeat (first | apply Kd.R_alloc | apply Kd.R_drewN | apply Kd.R_drew)); exact HO_14.out⟩, ⟨by (with_reducible repeat (first | apply Kd.R_alloc | apply Kd.R_drewN | apply Kd.R_drew)); exact HO_16.out⟩, ⟨by repeat (first | (with_reducible first | exact HB.out | apply below_alloc | apply pw_below_drewN | apply below_drew1) | exact HB.out)⟩⟩
                  case round =>
                    clear H'
                    try clear c1
                    try clear p1
                    try clear q1
                    try clear hx1
                    try clear c2
                    try clear p2
                    try clear q2
                    try clear hx2
                    try clear c3
                    try clear p6
                    try clear c7
                    try clear c7b0
                    try clear c7b1
                    try clear c7b2
                    try clear c8
                    try clear c10
                    try clear c10b0
                    try clear c11
                    try clear c11b0
                    try clear c13
                    try clear c13b0
                    try clear p14
                    try clear q14
                    try clear hx14
                    try clear hf14
                    try clear p20
                    try clear q20
                    try clear hx20
                    try clear c28
                    try clear c28b0
                    try clear c28b1
                    try clear c29
                    try clear c29b0
                    try clear c29b1
                    try clear c30
                    try clear c30b0
                    try clear c30b1
                    try clear c30b2
                    try clear c34
                    try clear hx14_0
                    try clear hx209_0
                    try clear p1
                    try clear p14
                    try clear p2
                    try clear p20
                    try clear p209
                    try clear p6
                    try clear q1
                    try clear q14
                    try clear q2
                    try clear q20
                    try clear q209
                    obtain ⟨x18_2, rfl, HA, HK2, HO_11, HO_14, HO_16, HB⟩ := hrel
                    cases gk with
                    | zero => exact absurd HA.out (by simp [observatorylaw28_ApportionGrows.l0])
                    | succ k2 =>
                      have H := HA.out
                      clear HA
                      simp only [observatorylaw28_ApportionGrows.l0] at H
                      by_cases c35 : x18_2 < (t200.length : Int)
                      · rw [if_pos c35] at H
                        have c35b0 : decide (x18_2 < (t200.length : Int)) = true := decide_eq_true c35
                        clear c35
                        by_cases c36 : x18_2 = ji9
                        · rw [if_pos c36] at H
                          have c36b0 : (x18_2 == ji9) = true := beq_iff_eq.mpr c36
                          have c36b1 : (x18_2 != ji9) = false := bne_eq_false_iff_eq.mpr c36
                          clear c36
                          by_cases c37 : 0 ≤ x18_2
                          · rw [if_pos c37] at H
                            have c37b0 : decide (0 ≤ x18_2) = true := decide_eq_true c37
                            clear c37
                            by_cases c38 : x18_2 < (t215.length : Int)
                            · rw [if_pos c38] at H
                              have c38b0 : decide (x18_2 < (t215.length : Int)) = true := decide_eq_true c38
                              clear c38
                              by_cases c39 : x18_2 < (t211.length : Int)
                              · rw [if_pos c39] at H
                                have c39b0 : decide (x18_2 < (t211.length : Int)) = true := decide_eq_true c39
                                clear c39
                                by_cases c40 : (rd t215 x18_2) < (rd t211 x18_2)
                                · rw [if_pos c40] at H
                                  have c40b0 : decide ((rd t215 x18_2) < (rd t211 x18_2)) = true := decide_eq_true c40
                                  clear c40
                                  obtain rfl := Option.some.inj H
                                  obtain ⟨Ao41, co41, eo41⟩ := Kd.R_slice HO_16.out
                                  subst eo41
                                  have p219 : 0 ≤ (x18_2 : Int) := of_decide_eq_true (by first | (with_reducible assumption) | assumption)
                                  have q219 : x18_2 < (t215.length : Int) := of_decide_eq_true (by first | (with_reducible assumption) | assumption)
                                  obtain ⟨ad219, e219, hx219_0⟩ := Kd.at_int (Kd.R_reads' HO_16.out).2.2 x18_2 p219 q219
                                  cases e219
                                  replace p219 := eq_true p219
                                  replace q219 := eq_true q219
                                  obtain ⟨Ao42, co42, eo42⟩ := Kd.R_slice HO_14.out
                                  subst eo42
                                  have p220 : 0 ≤ (x18_2 : Int) := of_decide_eq_true (by first | (with_reducible assumption) | assumption)
                                  have q220 : x18_2 < (t211.length : Int) := of_decide_eq_true (by first | (with_reducible assumption) | assumption)
                                  obtain ⟨ad220, e220, hx220_0⟩ := Kd.at_int (Kd.R_reads' HO_14.out).2.2 x18_2 p220 q220
                                  cases e220
                                  replace p220 := eq_true p220
                                  replace q220 := eq_true q220
                                  go_wp2
                                  repeat (go_quiet (fail); try go_wp2)
                                  go_ret
                                  exact ⟨by first | rfl | (simp [Go.IntWalk.i64_left]; done) | (simp [errW_none, errW_some] <;> rfl) | (simp only [← hji9, ← hji12]; first | rfl | (simp [errW_none, errW_some] <;> rfl)) | (simp [*, errW_none, errW_some] <;> rfl), by repeat (first | (with_reducible first | exact HB.out | apply below_alloc | apply pw_below_drewN | apply below_drew1) | exact HB.out)⟩
                                · rw [if_neg c40] at H
                                  have c40b0 : decide ((rd t215 x18_2) < (rd t211 x18_2)) = false := decide_eq_false c40
                                  clear c40
                                  have H' := Aside0.mk H
                                  clear H
                                  obtain ⟨Ao43, co43, eo43⟩ := Kd.R_slice HO_16.out
                                  subst eo43
                                  have p219 : 0 ≤ (x18_2 : Int) := of_decide_eq_true (by first | (with_reducible assumption) | assumption)
                                  have q219 : x18_2 < (t215.length : Int) := of_decide_eq_true (by first | (with_reducible assumption) | assumption)
                                  obtain ⟨ad219, e219, hx219_0⟩ := Kd.at_int (Kd.R_reads' HO_16.out).2.2 x18_2 p219 q219
                                  cases e219
                                  replace p219 := eq_true p219
                                  replace q219 := eq_true q219
                                  obtain ⟨Ao44, co44, eo44⟩ := Kd.R_slice HO_14.out
                                  subst eo44
                                  have p220 : 0 ≤ (x18_2 : Int) := of_decide_eq_true (by first | (with_reducible assumption) | assumption)
                                  have q220 : x18_2 < (t211.length : Int) := of_decide_eq_true (by first | (with_reducible assumption) | assumption)
                                  obtain ⟨ad220, e220, hx220_0⟩ := Kd.at_int (Kd.R_reads' HO_14.out).2.2 x18_2 p220 q220
                                  cases e220
                                  replace p220 := eq_true p220
                                  replace q220 := eq_true q220
                                  go_wp2
                                  repeat (go_quiet (fail); try go_wp2)
                                  go_roundg k2
                                  case measure => have := HJ16.out; have := HK2.out; omega
                                  case rel => exact ⟨(wrap64 (x18_2 + 1)), (by first | rfl | (simp [Go.IntWalk.i64_left]; done) | (simp; done) | (simp [*]; done)), H', ⟨by have := HJ16.out; have := HK2.out; omega⟩, ⟨by (with_reducible repeat (first | apply Kd.R_alloc | apply Kd.R_drewN | apply Kd.R_drew)); exact HO_11.out⟩, ⟨by (with_reducible repeat (first | apply Kd.R_alloc | apply Kd.R_drewN | apply Kd.R_drew)); exact HO_14.out⟩, ⟨by (with_reducible repeat (first | apply Kd.R_alloc | apply Kd.R_drewN | apply Kd.R_drew)); exact HO_16.out⟩, ⟨by repeat (first | (with_reducible first | exact HB.out | apply below_alloc | apply pw_below_drewN | apply below_drew1) | exact HB.out)⟩⟩
                              · rw [if_neg c39] at H
                                exact absurd H (by simp)
                            · rw [if_neg c38] at H
                              exact absurd H (by simp)
                          · rw [if_neg c37] at H
                            exact absurd H (by simp)
                        · rw [if_neg c36] at H
                          have c36b0 : (x18_2 == ji9) = false := beq_eq_false_iff_ne.mpr c36
                          have c36b1 : (x18_2 != ji9) = true := bne_iff_ne.mpr c36
                          by_cases c45 : 0 ≤ x18_2
                          · rw [if_pos c45] at H
                            have c45b0 : decide (0 ≤ x18_2) = true := decide_eq_true c45
                            clear c45
                            by_cases c46 : x18_2 < (t215.length : Int)
                            · rw [if_pos c46] at H
                              have c46b0 : decide (x18_2 < (t215.length : Int)) = true := decide_eq_true c46
                              clear c46
                              by_cases c47 : x18_2 < (t211.length : Int)
                              · rw [if_pos c47] at H
                                have c47b0 : decide (x18_2 < (t211.length : Int)) = true := decide_eq_true c47
                                clear c47
                                by_cases c48 : (rd t215 x18_2) > (rd t211 x18_2)
                                · rw [if_pos c48] at H
                                  have c48b0 : decide ((rd t211 x18_2) < (rd t215 x18_2)) = true := decide_eq_true c48
                                  clear c48
                                  obtain rfl := Option.some.inj H
                                  obtain ⟨Ao49, co49, eo49⟩ := Kd.R_slice HO_16.out
                                  subst eo49
                                  have p221 : 0 ≤ (x18_2 : Int) := of_decide_eq_true (by first | (with_reducible assumption) | assumption)
                                  have q221 : x18_2 < (t215.length : Int) := of_decide_eq_true (by first | (with_reducible assumption) | assumption)
                                  obtain ⟨ad221, e221, hx221_0⟩ := Kd.at_int (Kd.R_reads' HO_16.out).2.2 x18_2 p221 q221
                                  cases e221
                                  replace p221 := eq_true p221
                                  replace q221 := eq_true q221
                                  obtain ⟨Ao50, co50, eo50⟩ := Kd.R_slice HO_14.out
                                  subst eo50
                                  have p222 : 0 ≤ (x18_2 : Int) := of_decide_eq_true (by first | (with_reducible assumption) | assumption)
                                  have q222 : x18_2 < (t211.length : Int) := of_decide_eq_true (by first | (with_reducible assumption) | assumption)
                                  obtain ⟨ad222, e222, hx222_0⟩ := Kd.at_int (Kd.R_reads' HO_14.out).2.2 x18_2 p222 q222
                                  cases e222
                                  replace p222 := eq_true p222
                                  replace q222 := eq_true q222
                                  go_wp2
                                  repeat (go_quiet (fail); try go_wp2)
                                  go_ret
                                  exact ⟨by first | rfl | (simp [Go.IntWalk.i64_left]; done) | (simp [errW_none, errW_some] <;> rfl) | (simp only [← hji9, ← hji12]; first | rfl | (simp [errW_none, errW_some] <;> rfl)) | (simp [*, errW_none, errW_some] <;> rfl), by repeat (first | (with_reducible first | exact HB.out | apply below_alloc | apply pw_below_drewN | apply below_drew1) | exact HB.out)⟩
                                · rw [if_neg c48] at H
                                  have c48b0 : decide ((rd t211 x18_2) < (rd t215 x18_2)) = false := decide_eq_false c48
                                  clear c48
                                  have H' := Aside0.mk H
                                  clear H
                                  obtain ⟨Ao51, co51, eo51⟩ := Kd.R_slice HO_16.out
                                  subst eo51
                                  have p221 : 0 ≤ (x18_2 : Int) := of_decide_eq_true (by first | (with_reducible assumption) | assumption)
                                  have q221 : x18_2 < (t215.length : Int) := of_decide_eq_true (by first | (with_reducible assumption) | assumption)
                                  obtain ⟨ad221, e221, hx221_0⟩ := Kd.at_int (Kd.R_reads' HO_16.out).2.2 x18_2 p221 q221
                                  cases e221
                                  replace p221 := eq_true p221
                                  replace q221 := eq_true q221
                                  obtain ⟨Ao52, co52, eo52⟩ := Kd.R_slice HO_14.out
                                  subst eo52
                                  have p222 : 0 ≤ (x18_2 : Int) := of_decide_eq_true (by first | (with_reducible assumption) | assumption)
                                  have q222 : x18_2 < (t211.length : Int) := of_decide_eq_true (by first | (with_reducible assumption) | assumption)
                                  obtain ⟨ad222, e222, hx222_0⟩ := Kd.at_int (Kd.R_reads' HO_14.out).2.2 x18_2 p222 q222
                                  cases e222
                                  replace p222 := eq_true p222
                                  replace q222 := eq_true q222
                                  go_wp2
                                  repeat (go_quiet (fail); try go_wp2)
                                  go_roundg k2
                                  case measure => have := HJ16.out; have := HK2.out; omega
                                  case rel => exact ⟨(wrap64 (x18_2 + 1)), (by first | rfl | (simp [Go.IntWalk.i64_left]; done) | (simp; done) | (simp [*]; done)), H', ⟨by have := HJ16.out; have := HK2.out; omega⟩, ⟨by (with_reducible repeat (first | apply Kd.R_alloc | apply Kd.R_drewN | apply Kd.R_drew)); exact HO_11.out⟩, ⟨by (with_reducible repeat (first | apply Kd.R_alloc | apply Kd.R_drewN | apply Kd.R_drew)); exact HO_14.out⟩, ⟨by (with_reducible repeat (first | apply Kd.R_alloc | apply Kd.R_drewN | apply Kd.R_drew)); exact HO_16.out⟩, ⟨by repeat (first | (with_reducible first | exact HB.out | apply below_alloc | apply pw_below_drewN | apply below_drew1) | exact HB.out)⟩⟩
                              · rw [if_neg c47] at H
                                exact absurd H (by simp)
                            · rw [if_neg c46] at H
                              exact absurd H (by simp)
                          · rw [if_neg c45] at H
                            exact absurd H (by simp)
                      · rw [if_neg c35] at H
                        have c35b0 : decide (x18_2 < (t200.length : Int)) = false := decide_eq_false c35
                        clear c35
                        obtain rfl := Option.some.inj H
                        go_wp2
                        repeat (go_quiet (fail); try go_wp2)
                        go_ret
                        exact ⟨by first | rfl | (simp [Go.IntWalk.i64_left]; done) | (simp [errW_none, errW_some] <;> rfl) | (simp only [← hji9, ← hji12]; first | rfl | (simp [errW_none, errW_some] <;> rfl)) | (simp [*, errW_none, errW_some] <;> rfl), by repeat (first | (with_reducible first | exact HB.out | apply below_alloc | apply pw_below_drewN | apply below_drew1) | exact HB.out)⟩
          · rw [if_neg c13] at H
            exact absurd H (by simp)
        · rw [if_neg c11] at H
          exact absurd H (by simp)
      · rw [if_neg c10] at H
        exact absurd H (by simp)
    · rw [if_neg c8] at H
      exact absurd H (by simp)

/-- THE ONE PURE STATEMENT of observatorylaw28_ApportionGrows: yours. -/
def observatorylaw28_ApportionGrows.Pure : Prop := ∀ (a0 : Int) (l1 : List Int) (a2 : Int) (a3 : Int), (Lit.int .u16 a0).wf = true → l1.length ≤ maxLen → l1.length * 4 ≤ 140737488351232 → (∀ x ∈ l1, (Lit.int .u32 x).wf = true) → (Lit.int .u8 a2).wf = true → (Lit.int .u32 a3).wf = true → ∃ k, observatorylaw28_ApportionGrows.f k a0 l1 a2 a3 = some true
theorem observatorylaw28_ApportionGrows.walk (P : observatorylaw28_ApportionGrows.Pure) (a0 : Int) (a1 : Option Addr) (len1 cap1 : Nat) (z1 : List Int) (a2 : Int) (a3 : Int) (w : World) (w0 : (Lit.int .u16 a0).wf = true) (w1 : (a1 = none ∧ len1 = 0 ∧ cap1 = 0 ∧ z1 = []) ∨ ∃ x, a1 = some x ∧ len1 ≤ cap1 ∧ cap1 ≤ maxLen ∧ z1.length = cap1 ∧ (∀ i, i < z1.length → w.cell? (x.add i) = some (.int .u32 (z1.getD i 0))) ∧ ∀ n ∈ z1, (Lit.int .u32 n).wf = true) (y1 : len1 * 4 ≤ 140737488351232) (w2 : (Lit.int .u8 a2).wf = true) (w3 : (Lit.int .u32 a3).wf = true) :
    Calls Try.prog 7 #[.int .u16 a0, .slice a1 len1 cap1, .int .u8 a2, .int .u32 a3] w fun e w' => e = .returned (.bool true) ∧ Below w.heap.size w w' := by
  obtain ⟨l1, rfl, hr1, hm1, hw1, hc1⟩ := ReadsInt.ofRowC w1
  obtain ⟨k, h⟩ := P a0 l1 a2 a3 w0 hm1 y1 hw1 w2 w3
  refine (observatorylaw28_ApportionGrows.calls k a0 _ _ l1 a2 a3 true w (Kd.C_of_reads (d := (0 : Int)) (h1 := fun _ => rfl) hr1) hc1 h).mono ?_
  rintro e w' ⟨rfl, hd⟩
  exact ⟨rfl, hd⟩

end Go.Proofs.Ytogpaeebkdopiaa.PAll
