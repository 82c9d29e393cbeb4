/- Contracts of the functions of package balance that hand a closure to slices.ContainsFunc. -/
import Derived.Test.YtkmfdkilimkbpaaProg
import Derived.Below
import Derived.Deep.Draws
import Derived.Deep.AppendLies
import Derived.Maps.AppendAt
import Derived.OwnWalk
import Derived.Laws.BytesArg
import Derived.Laws.MakeOwn
import Derived.Laws.OwnMore
import Derived.Deep.OwnRows
import Derived.Tactics
import Derived.Lib.ConvBytes
import Derived.Laws.Slices
import Derived.WalkKit
import Derived.KernelRfl
import Derived.RowKit3
import Derived.Deep.LoopGhost
import Derived.Deep.QuietTactic
import Derived.BigQuiet
import Derived.WideLaws
import Derived.Deep.DeepCutAuto
import Derived.Deep.CutBlock
import Derived.Deep.RegionHeld3
import Derived.Laws.Rows
import Derived.Lib.AppendStr
import Derived.ArgAppend
import Derived.Laws.IdiomCopy
import Derived.OrdersHeld
import Derived.Laws.BitsLemmas
import Derived.RowKit
import Derived.Test.YtkmfdkilimkbpaaWWords
import Derived.Test.YtkmfdkilimkbpaaWLast
import Derived.Test.YtkmfdkilimkbpaaWTab
import Derived.Test.YtkmfdkilimkbpaaWFour
import Derived.Test.YtkmfdkilimkbpaaWQPut
import Derived.Test.YtkmfdkilimkbpaaWApart
import Derived.Test.YtkmfdkilimkbpaaWArr
import Derived.Test.YtkmfdkilimkbpaaWZeros
import Derived.Test.YtkmfdkilimkbpaaWFoot
import Derived.Test.YtkmfdkilimkbpaaWKept
import Derived.Test.YtkmfdkilimkbpaaWShare
import Derived.Test.YtkmfdkilimkbpaaWN
import Derived.Test.YtkmfdkilimkbpaaWFootNe
import Derived.Test.YtkmfdkilimkbpaaWAt
import Derived.Test.YtkmfdkilimkbpaaWEqStruct
import Derived.Test.YtkmfdkilimkbpaaWRepsOne
import Derived.Test.YtkmfdkilimkbpaaWInv
import Derived.Test.YtkmfdkilimkbpaaWInvWords
import Derived.Test.YtkmfdkilimkbpaaWGuard
import Derived.Test.YtkmfdkilimkbpaaWNEv
import Derived.Test.YtkmfdkilimkbpaaWMore
import Derived.Lib.Hide
import Derived.Shelf.Abstract
namespace Go.Proofs.Ytkmfdkilimkbpaa.G
open Go.RowKit Go.Proofs.YtkmfdkilimkbpaaW.PrintWords Go.Proofs.YtkmfdkilimkbpaaW.PrintLast Go.Proofs.YtkmfdkilimkbpaaW.PrintMore
set_option linter.unusedVariables false
set_option linter.unusedSimpArgs false

/-- A function value that tells of a number whether p holds, and changes nothing. -/
def Pred (g : Nat) (lb : Array Value) (p : Int → Bool) (w : World) : Prop :=
  ∀ (W : World) (x : Int), Below w.heap.size w W → Calls Try.prog g (#[.int .i64 x] ++ lb) W fun e w' => e = .returned (.bool (p x)) ∧ W = w'

def idxOf (p : Int → Bool) (l : List Int) : Int := match l.findIdx? p with | some i => i | none => -1

theorem outside_fn (lo hi : Int) (B C : Nat) (w : World) (hB : B < w.heap.size) (hC : C < w.heap.size) (h1 : w.cell? ⟨B, 0, none⟩ = some (.int .i64 lo)) (h2 : w.cell? ⟨C, 0, none⟩ = some (.int .i64 hi)) :
    Pred 24 #[.pointer (some ⟨B, 0, none⟩), .pointer (some ⟨C, 0, none⟩)] (fun n => decide (n < lo) || decide (n > hi)) w := fun W x hb => by
  have h1' : W.cell? ⟨B, 0, none⟩ = some (.int .i64 lo) := (hb.cell (p := ⟨B, 0, none⟩) hB).trans h1
  have h2' : W.cell? ⟨C, 0, none⟩ = some (.int .i64 hi) := (hb.cell (p := ⟨C, 0, none⟩) hC).trans h2
  clear h1 h2
  by_cases h : x < lo
  all_goals
    go_enter Try.func24, Try.ntmps24
    go_wp2
    go_ret
    exact ⟨by first | (simp [h]; done) | (simp [h]; omega), rfl⟩

theorem outside_any (lo hi : Int) (w : World) :
    Calls Try.prog 22 #[.int .i64 lo, .int .i64 hi] w fun e w' => e = .returned (.func (.func 24) #[] #[.pointer (some ⟨w.heap.size, 0, none⟩), .pointer (some ⟨w.heap.size + 1, 0, none⟩)]) ∧ (w.alloc (.cells #[.int .i64 lo] 3)).alloc (.cells #[.int .i64 hi] 3) = w' := by
  have hmf : ∀ (fn : Fn) (first cap : Array Value) (w : World), (Instr.makeFunc fn first cap).run Try.prog w = .ok (.func fn first cap) w := fun _ _ _ _ => rfl
  go_enter Try.func22, Try.ntmps22
  go_wp2
  go_ret
  exact ⟨rfl, rfl⟩

theorem idx_none {p : Int → Bool} {l : List Int} (h : ∀ j, j < l.length → p (l.getD j 0) = false) : idxOf p l = -1 := by
  have : l.findIdx? p = none := by
    rw [List.findIdx?_eq_none_iff]
    intro x hx
    obtain ⟨j, hj, rfl⟩ := List.getElem_of_mem hx
    have := h j hj
    rwa [List.getD_eq_getElem?_getD, List.getElem?_eq_getElem hj, Option.getD_some] at this
  simp [idxOf, this]
theorem idx_some {p : Int → Bool} {l : List Int} {k : Nat} (hk : k < l.length) (h : ∀ j, j < k → p (l.getD j 0) = false) (hp : p (l.getD k 0) = true) : idxOf p l = k := by
  have : l.findIdx? p = some k := by
    rw [List.findIdx?_eq_some_iff_getElem]
    refine ⟨hk, by rwa [List.getD_eq_getElem?_getD, List.getElem?_eq_getElem hk, Option.getD_some] at hp, fun j hj => ?_⟩
    have := h j hj
    rw [List.getD_eq_getElem?_getD, List.getElem?_eq_getElem (by omega), Option.getD_some] at this
    simp [this]
  simp [idxOf, this]
theorem idx_any (p : Int → Bool) (l : List Int) : decide (0 ≤ idxOf p l) = l.any p := by
  unfold idxOf
  cases h : l.findIdx? p with
  | none =>
    rw [List.findIdx?_eq_none_iff] at h
    simp
    intro x hx
    have := h x hx
    simpa using this
  | some i =>
    rw [List.findIdx?_eq_some_iff_getElem] at h
    obtain ⟨hi, h1, _⟩ := h
    simp
    exact ⟨_, List.getElem_mem hi, h1⟩

set_option maxHeartbeats 400000 in
theorem index_any (A : Option Addr) (c : Nat) (l : List Int) (g : Nat) (lb : Array Value) (eg : ∀ args w, (callFunc g args).run Try.prog w = .ok (.enter g args) w) (p : Int → Bool) (w : World)
    (hr : Kd.C (Kd.int .i64) w A l.length l) (hp : Pred g lb p w) :
    Calls Try.prog 25 #[.slice A l.length c, .func (.func g) #[] lb] w fun e w' => e = .returned (.int .i64 (idxOf p l)) ∧ w = w' := by
  have HP := Aside0.mk hp
  have HR := Aside0.mk hr
  have hm : l.length ≤ 9223372036854775807 := hr.2.1
  clear hp hr
  go_enter Try.func25, Try.ntmps25
  go_wp2
  go_loop [5, 8] (fun _ v => ∃ k : Nat, k ≤ l.length ∧ v = .int .i64 k ∧ Aside0 (∀ j, j < k → p (l.getD j 0) = false)) (fun _ v => l.length - (intOf v).toNat)
  case atStart => exact ⟨0, Nat.zero_le _, rfl, ⟨fun j hj => absurd hj (by omega)⟩⟩
  case round =>
    obtain ⟨k, hk, rfl, HA⟩ := hrel
    by_cases hlt : k < l.length
    · obtain ⟨ad, ead, hx⟩ := Kd.at_int HR.out k (by omega) (by omega)
      cases ead
      rw [Int.toNat_natCast] at hx
      cases hpk : p (rd l k) with
      | true =>
        go_wp2_with (go_at_fn g; refine (HP.out _ _ (Below.refl _ _)).mono ?_; rintro e w' ⟨rfl, rfl⟩)
        go_ret
        exact ⟨by rw [idx_some hlt HA.out (by simpa [rd] using hpk)]; rfl, rfl⟩
      | false =>
        go_wp2_with (go_at_fn g; refine (HP.out _ _ (Below.refl _ _)).mono ?_; rintro e w' ⟨rfl, rfl⟩)
        go_round
        case rel => exact ⟨k + 1, by omega, by go_num, ⟨fun j hj => by
          rcases Nat.lt_or_ge j k with h | h
          · exact HA.out j h
          · obtain rfl : j = k := by omega
            simpa [rd] using hpk⟩⟩
        case measure => simp [intOf]; omega
    · go_wp2
      go_ret
      exact ⟨by rw [idx_none (fun j hj => HA.out j (by omega))]; rfl, rfl⟩

theorem contains_any (A : Option Addr) (c : Nat) (l : List Int) (g : Nat) (lb : Array Value) (eg : ∀ args w, (callFunc g args).run Try.prog w = .ok (.enter g args) w) (p : Int → Bool) (w : World)
    (hr : Kd.C (Kd.int .i64) w A l.length l) (hp : Pred g lb p w) :
    Calls Try.prog 23 #[.slice A l.length c, .func (.func g) #[] lb] w fun e w' => e = .returned (.bool (l.any p)) ∧ w = w' := by
  have hi := Aside0.mk (index_any A c l g lb eg p w hr hp)
  have ha := Aside0.mk (idx_any p l)
  clear hr hp eg
  go_enter Try.func23, Try.ntmps23
  go_wp2_with (go_at_call 25; refine hi.out.mono ?_; rintro e w' ⟨rfl, rfl⟩)
  go_ret
  exact ⟨by rw [← ha.out]; rfl, rfl⟩
end Go.Proofs.Ytkmfdkilimkbpaa.G
