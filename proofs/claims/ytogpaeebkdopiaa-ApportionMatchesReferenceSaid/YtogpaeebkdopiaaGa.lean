/- Contracts of what package apportion hands a closure to, of slices.Max and of the comparison of two parties. -/
import Derived.Test.YtogpaeebkdopiaaProg
import Derived.Below
import Derived.Deep.Draws
import Derived.Deep.AppendLies
import Derived.Maps.AppendAt
import Derived.OwnWalk
import Derived.Laws.BytesArg
import Derived.Laws.MakeOwn
import Derived.Laws.OwnMore
import Derived.Deep.OwnRows
import Derived.Tactics
import Derived.Lib.ConvBytes
import Derived.Laws.Slices
import Derived.WalkKit
import Derived.KernelRfl
import Derived.RowKit3
import Derived.Deep.LoopGhost
import Derived.Deep.QuietTactic
import Derived.BigQuiet
import Derived.WideLaws
import Derived.Deep.DeepCutAuto
import Derived.Deep.CutBlock
import Derived.Deep.RegionHeld3
import Derived.Laws.Rows
import Derived.Lib.AppendStr
import Derived.ArgAppend
import Derived.Laws.IdiomCopy
import Derived.OrdersHeld
import Derived.Laws.BitsLemmas
import Derived.RowKit
import Derived.Test.YtogpaeebkdopiaaWWords
import Derived.Test.YtogpaeebkdopiaaWLast
import Derived.Test.YtogpaeebkdopiaaWTab
import Derived.Test.YtogpaeebkdopiaaWFour
import Derived.Test.YtogpaeebkdopiaaWQPut
import Derived.Test.YtogpaeebkdopiaaWApart
import Derived.Test.YtogpaeebkdopiaaWArr
import Derived.Test.YtogpaeebkdopiaaWZeros
import Derived.Test.YtogpaeebkdopiaaWFoot
import Derived.Test.YtogpaeebkdopiaaWKept
import Derived.Test.YtogpaeebkdopiaaWShare
import Derived.Test.YtogpaeebkdopiaaWN
import Derived.Test.YtogpaeebkdopiaaWFootNe
import Derived.Test.YtogpaeebkdopiaaWAt
import Derived.Test.YtogpaeebkdopiaaWEqStruct
import Derived.Test.YtogpaeebkdopiaaWRepsOne
import Derived.Test.YtogpaeebkdopiaaWInv
import Derived.Test.YtogpaeebkdopiaaWInvWords
import Derived.Test.YtogpaeebkdopiaaWGuard
import Derived.Test.YtogpaeebkdopiaaWNEv
import Derived.Test.YtogpaeebkdopiaaWMore
import Derived.Lib.Hide
import Derived.Shelf.Abstract
import Derived.WalkLawsBesides
namespace Go.Proofs.Ytogpaeebkdopiaa.G
open Go.RowKit Go.Proofs.YtogpaeebkdopiaaW.PrintWords Go.Proofs.YtogpaeebkdopiaaW.PrintLast Go.Proofs.YtogpaeebkdopiaaW.PrintMore
attribute [local go_sem] max2_int min2_int max_two min_two
set_option linter.unusedVariables false
set_option linter.unusedSimpArgs false

/-- A function value that tells of a number whether p holds, and changes nothing. -/
def Pred (g : Nat) (lb : Array Value) (p : Int → Bool) (w : World) : Prop :=
  ∀ (W : World) (x : Int), Below w.heap.size w W → Calls Try.prog g (#[.int .i64 x] ++ lb) W fun e w' => e = .returned (.bool (p x)) ∧ W = w'

def idxOf (p : Int → Bool) (l : List Int) : Int := match l.findIdx? p with | some i => i | none => -1

def bad (n : Int) : Bool := decide (n < 0) || decide (n > 1000000000)
theorem wrong_fn (w : World) : Pred 14 #[] bad w := fun W x _ => by
  have e : bad x = (decide (x < 0) || decide (x > 1000000000)) := rfl
  rw [e]
  by_cases h : x < 0
  all_goals
    go_enter Try.func14, Try.ntmps14
    go_wp2
    go_ret
    exact ⟨by first | (simp [h]; done) | (simp [h]; omega), rfl⟩
theorem enters14 : ∀ args w, (callFunc 14 args).run Try.prog w = .ok (.enter 14 args) w := enters_of Try.func14 (by kernel_rfl) rfl

theorem idx_none {p : Int → Bool} {l : List Int} (h : ∀ j, j < l.length → p (l.getD j 0) = false) : idxOf p l = -1 := by
  have : l.findIdx? p = none := by
    rw [List.findIdx?_eq_none_iff]
    intro x hx
    obtain ⟨j, hj, rfl⟩ := List.getElem_of_mem hx
    have := h j hj
    rwa [List.getD_eq_getElem?_getD, List.getElem?_eq_getElem hj, Option.getD_some] at this
  simp [idxOf, this]
theorem idx_some {p : Int → Bool} {l : List Int} {k : Nat} (hk : k < l.length) (h : ∀ j, j < k → p (l.getD j 0) = false) (hp : p (l.getD k 0) = true) : idxOf p l = k := by
  have : l.findIdx? p = some k := by
    rw [List.findIdx?_eq_some_iff_getElem]
    refine ⟨hk, by rwa [List.getD_eq_getElem?_getD, List.getElem?_eq_getElem hk, Option.getD_some] at hp, fun j hj => ?_⟩
    have := h j hj
    rw [List.getD_eq_getElem?_getD, List.getElem?_eq_getElem (by omega), Option.getD_some] at this
    simp [this]
  simp [idxOf, this]
theorem idx_any (p : Int → Bool) (l : List Int) : decide (0 ≤ idxOf p l) = l.any p := by
  unfold idxOf
  cases h : l.findIdx? p with
  | none =>
    rw [List.findIdx?_eq_none_iff] at h
    simp
    intro x hx
    have := h x hx
    simpa using this
  | some i =>
    rw [List.findIdx?_eq_some_iff_getElem] at h
    obtain ⟨hi, h1, _⟩ := h
    simp
    exact ⟨_, List.getElem_mem hi, h1⟩

set_option maxHeartbeats 400000 in
theorem index_any (A : Option Addr) (c : Nat) (l : List Int) (g : Nat) (lb : Array Value) (eg : ∀ args w, (callFunc g args).run Try.prog w = .ok (.enter g args) w) (p : Int → Bool) (w : World)
    (hr : Kd.C (Kd.int .i64) w A l.length l) (hp : Pred g lb p w) :
    Calls Try.prog 20 #[.slice A l.length c, .func (.func g) #[] lb] w fun e w' => e = .returned (.int .i64 (idxOf p l)) ∧ w = w' := by
  have HP := Aside0.mk hp
  have HR := Aside0.mk hr
  have hm : l.length ≤ 9223372036854775807 := hr.2.1
  clear hp hr
  go_enter Try.func20, Try.ntmps20
  go_wp2
  go_loop [5, 8] (fun _ v => ∃ k : Nat, k ≤ l.length ∧ v = .int .i64 k ∧ Aside0 (∀ j, j < k → p (l.getD j 0) = false)) (fun _ v => l.length - (intOf v).toNat)
  case atStart => exact ⟨0, Nat.zero_le _, rfl, ⟨fun j hj => absurd hj (by omega)⟩⟩
  case round =>
    obtain ⟨k, hk, rfl, HA⟩ := hrel
    by_cases hlt : k < l.length
    · obtain ⟨ad, ead, hx⟩ := Kd.at_int HR.out k (by omega) (by omega)
      cases ead
      rw [Int.toNat_natCast] at hx
      cases hpk : p (rd l k) with
      | true =>
        go_wp2_with (go_at_fn g; refine (HP.out _ _ (Below.refl _ _)).mono ?_; rintro e w' ⟨rfl, rfl⟩)
        go_ret
        exact ⟨by rw [idx_some hlt HA.out (by simpa [rd] using hpk)]; rfl, rfl⟩
      | false =>
        go_wp2_with (go_at_fn g; refine (HP.out _ _ (Below.refl _ _)).mono ?_; rintro e w' ⟨rfl, rfl⟩)
        go_round
        case rel => exact ⟨k + 1, by omega, by go_num, ⟨fun j hj => by
          rcases Nat.lt_or_ge j k with h | h
          · exact HA.out j h
          · obtain rfl : j = k := by omega
            simpa [rd] using hpk⟩⟩
        case measure => simp [intOf]; omega
    · go_wp2
      go_ret
      exact ⟨by rw [idx_none (fun j hj => HA.out j (by omega))]; rfl, rfl⟩

theorem contains_any (A : Option Addr) (c : Nat) (l : List Int) (g : Nat) (lb : Array Value) (eg : ∀ args w, (callFunc g args).run Try.prog w = .ok (.enter g args) w) (p : Int → Bool) (w : World)
    (hr : Kd.C (Kd.int .i64) w A l.length l) (hp : Pred g lb p w) :
    Calls Try.prog 15 #[.slice A l.length c, .func (.func g) #[] lb] w fun e w' => e = .returned (.bool (l.any p)) ∧ w = w' := by
  have hi := Aside0.mk (index_any A c l g lb eg p w hr hp)
  have ha := Aside0.mk (idx_any p l)
  clear hr hp eg
  go_enter Try.func15, Try.ntmps15
  go_wp2_with (go_at_call 20; refine hi.out.mono ?_; rintro e w' ⟨rfl, rfl⟩)
  go_ret
  exact ⟨by rw [← ha.out]; rfl, rfl⟩

/-- The greatest of some numbers, as the loop finds it. -/
def maxTo (l : List Int) : Nat → Int
  | 0 => rd l 0
  | i + 1 => mx (maxTo l i) (rd l ((i + 1 : Nat) : Int))
def maxL (l : List Int) : Int := maxTo l (l.length - 1)

set_option maxHeartbeats 400000 in
theorem max_any (A : Option Addr) (c : Nat) (l : List Int) (w : World) (hr : Kd.C (Kd.int .i64) w A l.length l) (hl : 1 ≤ l.length) :
    Calls Try.prog 16 #[.slice A l.length c] w fun e w' => e = .returned (.int .i64 (maxL l)) ∧ w = w' := by
  have HR := Aside0.mk hr
  have hm : l.length ≤ 9223372036854775807 := hr.2.1
  clear hr
  obtain ⟨ad, ead, h0⟩ := Kd.at_int HR.out 0 (by omega) (by omega)
  cases ead
  rw [show (0 : Int).toNat = 0 from rfl, Addr.add_zero'] at h0
  have hn : ¬ (l.length : Int) < 1 := by omega
  go_enter Try.func16, Try.ntmps16
  go_wp2
  go_loop [3, 4] (fun m v => ∃ k : Nat, k + 1 ≤ l.length ∧ v = .int .i64 ((k + 1 : Nat) : Int) ∧ m = .int .i64 (maxTo l k)) (fun _ v => l.length - (intOf v).toNat)
  case atStart => exact ⟨0, hl, rfl, rfl⟩
  case round =>
    obtain ⟨k, hk, rfl, rfl⟩ := hrel
    by_cases hlt : k + 1 < l.length
    · obtain ⟨ad', ead, hx⟩ := Kd.at_int HR.out ((k + 1 : Nat) : Int) (by omega) (by omega)
      cases ead
      rw [Int.toNat_natCast] at hx
      have HY : Hid (maxTo l (k + 1) = mx (maxTo l k) (rd l ((k + 1 : Nat) : Int))) := rfl
      generalize rd l ((k + 1 : Nat) : Int) = y at hx HY
      generalize maxTo l k = m at HY ⊢
      simp [Addr.add] at hx
      go_wp2
      exact ⟨⟨k + 1, by omega, by go_num, by rw [HY.out]; rfl⟩, by simp [intOf]; omega⟩
    · go_wp2
      go_ret
      have e : l.length - 1 = k := by omega
      exact ⟨by unfold maxL; rw [e]; rfl, rfl⟩

/-- Does party p come before party q. -/
def bef (p q : Int × Int) : Bool := decide (wrap64 (q.1 * wrap64 (p.2 + 1)) < wrap64 (p.1 * wrap64 (q.2 + 1)))
theorem before_any (p q : Int × Int) (w : World) :
    Calls Try.prog 18 #[.agg #[.int .i64 p.1, .int .i64 p.2], .agg #[.int .i64 q.1, .int .i64 q.2]] w fun e w' => e = .returned (.bool (bef p q)) ∧ Below w.heap.size w w' := by
  have e : bef p q = decide (wrap64 (q.1 * wrap64 (p.2 + 1)) < wrap64 (p.1 * wrap64 (q.2 + 1))) := rfl
  rw [e]
  go_enter Try.func18, Try.ntmps18
  go_wp2
  go_ret
  exact ⟨rfl, below_alloc (below_alloc (Below.refl _ _) _) _⟩
end Go.Proofs.Ytogpaeebkdopiaa.G
