import Derived.Test.YtkmfdkilimkbpaaGa
namespace Go.Proofs.Ytkmfdkilimkbpaa.G
open Go.RowKit Go.Proofs.YtkmfdkilimkbpaaW.PrintWords Go.Proofs.YtkmfdkilimkbpaaW.PrintLast Go.Proofs.YtkmfdkilimkbpaaW.PrintMore
set_option linter.unusedVariables false
set_option linter.unusedSimpArgs false

def bad (lo hi : Int) (n : Int) : Bool := decide (n < lo) || decide (n > hi)
def validB (l0 l1 : List Int) : Bool := decide (1 ≤ l0.length ∧ l0.length ≤ 16 ∧ l1.length = l0.length) && !(l0.any (bad 1 1000)) && !(l1.any (bad 0 1000000))

theorem two_cells (w : World) (lo hi : Int) : Below w.heap.size w ((w.alloc (.cells #[.int .i64 lo] 3)).alloc (.cells #[.int .i64 hi] 3)) ∧
    Pred 24 #[.pointer (some ⟨w.heap.size, 0, none⟩), .pointer (some ⟨w.heap.size + 1, 0, none⟩)] (bad lo hi) ((w.alloc (.cells #[.int .i64 lo] 3)).alloc (.cells #[.int .i64 hi] 3)) := by
  refine ⟨((Below.refl _ _).alloc (Nat.le_refl _) _).alloc (by simp) _, ?_⟩
  refine outside_fn lo hi w.heap.size (w.heap.size + 1) _ (by simp; omega) (by simp) ?_ ?_
  · rw [World.cell?_alloc_past _ _ _ (by simp), World.cell?_alloc_at _ _ _ _ rfl]; rfl
  · rw [World.cell?_alloc_at _ _ _ _ (by simp)]; rfl

theorem enters24 : ∀ args w, (callFunc 24 args).run Try.prog w = .ok (.enter 24 args) w := enters_of Try.func24 (by kernel_rfl) rfl

/-- A closure of 'outside': what is known of it, whatever its cells. -/
theorem outside_made (lo hi : Int) (w : World) :
    Calls Try.prog 22 #[.int .i64 lo, .int .i64 hi] w fun e w' => ∃ lb, e = .returned (.func (.func 24) #[] lb) ∧ Aside0 (Pred 24 lb (bad lo hi) w') ∧ Aside0 (Below w.heap.size w w') :=
  (outside_any lo hi w).mono fun e w' ⟨he, hw⟩ => ⟨_, he, hw ▸ ⟨(two_cells w lo hi).2⟩, hw ▸ ⟨(two_cells w lo hi).1⟩⟩

set_option maxHeartbeats 800000 in
theorem valid_any (A0 : Option Addr) (c0 : Nat) (l0 : List Int) (A1 : Option Addr) (c1 : Nat) (l1 : List Int) (w : World) (hr0 : Kd.C (Kd.int .i64) w A0 l0.length l0) (hr1 : Kd.C (Kd.int .i64) w A1 l1.length l1) :
    Calls Try.prog 15 #[.slice A0 l0.length c0, .slice A1 l1.length c1] w fun e w' => e = .returned (.bool (validB l0 l1)) ∧ Below w.heap.size w w' := by
  have HR0 := Aside0.mk hr0
  have HR1 := Aside0.mk hr1
  have HV : Hid (validB l0 l1 = (decide (1 ≤ l0.length ∧ l0.length ≤ 16 ∧ l1.length = l0.length) && !(l0.any (bad 1 1000)) && !(l1.any (bad 0 1000000)))) := rfl
  clear hr0 hr1
  generalize validB l0 l1 = v at *
  by_cases h1 : (l0.length : Int) < 1
  · have H1 : Hid (v = false) := by rw [HV.out, decide_eq_false (by omega)]; rfl
    go_enter Try.func15, Try.ntmps15
    go_wp2
    go_ret
    exact ⟨by rw [H1.out]; rfl, Below.refl _ _⟩
  by_cases h2 : (16 : Int) < l0.length
  · have H1 : Hid (v = false) := by rw [HV.out, decide_eq_false (by omega)]; rfl
    go_enter Try.func15, Try.ntmps15
    go_wp2
    go_ret
    exact ⟨by rw [H1.out]; rfl, Below.refl _ _⟩
  cases h3 : ((l1.length : Int) != (l0.length : Int)) with
  | true =>
    have H1 : Hid (v = false) := by rw [HV.out, decide_eq_false (by simp at h3; omega)]; rfl
    go_enter Try.func15, Try.ntmps15
    go_wp2
    go_ret
    exact ⟨by rw [H1.out]; rfl, Below.refl _ _⟩
  | false =>
    have H1 : Hid (v = (!(l0.any (bad 1 1000)) && !(l1.any (bad 0 1000000)))) := by
      rw [HV.out]
      have : decide (1 ≤ l0.length ∧ l0.length ≤ 16 ∧ l1.length = l0.length) = true := by simp at h3 ⊢; omega
      rw [this]; rfl
    cases h4 : l0.any (bad 1 1000) with
    | true =>
      have H2 : Hid (v = false) := by rw [H1.out, h4]; rfl
      go_enter Try.func15, Try.ntmps15
      go_wp2_with fail
      refine (outside_made _ _ _).mono ?_
      rintro e w1 ⟨lb, rfl, HP, HB⟩
      go_wp2_with fail
      refine (contains_any A0 c0 l0 24 lb enters24 _ w1 (Kd.C_below HR0.out HB.out) HP.out).mono ?_
      rintro e w2 ⟨rfl, rfl⟩
      go_wp2
      go_ret
      exact ⟨by rw [H2.out]; rfl, HB.out⟩
    | false =>
      have H2 : Hid (v = !(l1.any (bad 0 1000000))) := by rw [H1.out, h4]; rfl
      go_enter Try.func15, Try.ntmps15
      go_wp2_with fail
      refine (outside_made _ _ _).mono ?_
      rintro e w1 ⟨lb, rfl, HP, HB⟩
      go_wp2_with fail
      refine (contains_any A0 c0 l0 24 lb enters24 _ w1 (Kd.C_below HR0.out HB.out) HP.out).mono ?_
      rintro e w2 ⟨rfl, rfl⟩
      go_wp2_with fail
      refine (outside_made _ _ _).mono ?_
      rintro e w2 ⟨lb2, rfl, HP2, HB2⟩
      go_wp2_with fail
      refine (contains_any A1 c1 l1 24 lb2 enters24 _ w2 (Kd.C_below (Kd.C_below HR1.out HB.out) HB2.out) HP2.out).mono ?_
      rintro e w3 ⟨rfl, rfl⟩
      go_wp2
      go_ret
      exact ⟨by rw [H2.out]; rfl, HB.out.trans (HB2.out.mono HB.out.size)⟩
end Go.Proofs.Ytkmfdkilimkbpaa.G
