import Derived.Test.YtogpaeebkdopiaaGa
import Derived.Deep.QuietTactic
import Derived.BigQuiet
import Derived.StillTailTactics
namespace Go.Proofs.Ytogpaeebkdopiaa.G
open Go.RowKit Go.Proofs.YtogpaeebkdopiaaW.PrintWords Go.Proofs.YtogpaeebkdopiaaW.PrintLast Go.Proofs.YtogpaeebkdopiaaW.PrintMore
set_option linter.unusedVariables false
set_option linter.unusedSimpArgs false

/-- The cells of a list of parties. -/
def flatL : List (Int × Int) → List Value
  | [] => []
  | p :: l => .int .i64 p.1 :: .int .i64 p.2 :: flatL l
theorem flatL_length (l : List (Int × Int)) : (flatL l).length = l.length * 2 := by
  induction l with
  | nil => rfl
  | cons p l ih => simp only [flatL, List.length_cons, ih]; omega
def pt (l : List (Int × Int)) (i : Nat) : Int × Int := l.getD i (0, 0)
theorem flatL_at (l : List (Int × Int)) : ∀ (i : Nat), i < l.length → (flatL l)[i * 2]? = some (.int .i64 (pt l i).1) ∧ (flatL l)[i * 2 + 1]? = some (.int .i64 (pt l i).2) := by
  induction l with
  | nil => intro i h; simp at h
  | cons p l ih =>
    intro i h
    cases i with
    | zero => exact ⟨rfl, rfl⟩
    | succ i =>
      have := ih i (by simpa using h)
      rw [show (i + 1) * 2 = i * 2 + 1 + 1 from by omega]
      simpa [flatL, pt] using this
/-- The block g of w holds the parties l. -/
def Holds (w : World) (g : Nat) (l : List (Int × Int)) : Prop := w.heap[g]? = some (.cells (flatL l).toArray 42 (0, 0))
theorem Holds.lt {w : World} {g : Nat} {l : List (Int × Int)} (h : Holds w g l) : g < w.heap.size := (Array.getElem?_eq_some_iff.1 h).1
theorem Holds.below {w w1 : World} {g : Nat} {l : List (Int × Int)} (h : Holds w g l) (hb : Below w.heap.size w w1) : Holds w1 g l := (hb.block g h.lt).trans h
theorem Holds.cells {w : World} {g : Nat} {l : List (Int × Int)} (h : Holds w g l) (i : Nat) (hi : i < l.length) :
    w.cell? ⟨g, i * 2, none⟩ = some (.int .i64 (pt l i).1) ∧ w.cell? ⟨g, i * 2 + 1, none⟩ = some (.int .i64 (pt l i).2) := by
  have := flatL_at l i hi
  rw [blk_cell h, blk_cell h]
  simpa using this

/-- The party that no other one comes before, among the first i. -/
def bestTo (l : List (Int × Int)) : Nat → Nat
  | 0 => 0
  | i + 1 => if bef (pt l i) (pt l (bestTo l i)) = true then i else bestTo l i
theorem bestTo_lt (l : List (Int × Int)) (h : 0 < l.length) : ∀ i, i ≤ l.length → bestTo l i < l.length
  | 0, _ => h
  | i + 1, hi => by
    unfold bestTo
    have := bestTo_lt l h i (by omega)
    split <;> omega

theorem hmf : ∀ (fn : Fn) (first cap : Array Value) (w : World), (Instr.makeFunc fn first cap).run Try.prog w = .ok (.func fn first cap) w := fun _ _ _ _ => rfl

set_option maxHeartbeats 1000000 in
theorem best_any (g c : Nat) (l : List (Int × Int)) (w : World) (hl : l.length ≤ 1000) (hh : Holds w g l) :
    Calls Try.prog 17 #[.slice (some ⟨g, 0, none⟩) l.length c, .func (.func 18) #[] #[]] w fun e w' => e = .returned (.int .i64 (bestTo l l.length)) ∧ Below w.heap.size w w' := by
  have HH := Aside0.mk hh
  clear hh
  go_enter Try.func17, Try.ntmps17
  go_wp2
  go_loopw [5, 10] (fun b v wr => ∃ k : Nat, k ≤ l.length ∧ v = .int .i64 k ∧ b = .int .i64 (bestTo l k) ∧ Aside0 (Below w.heap.size w wr)) (fun _ v _ => l.length - (intOf v).toNat)
  case atStart => exact ⟨0, Nat.zero_le _, rfl, rfl, ⟨Below.refl _ _⟩⟩
  case round =>
    obtain ⟨k, hk, rfl, rfl, HB⟩ := hrel
    by_cases hlt : k < l.length
    · have hb := bestTo_lt l (by omega) k hk
      obtain ⟨x0, x1⟩ := (HH.out.below HB.out).cells k hlt
      obtain ⟨y0, y1⟩ := (HH.out.below HB.out).cells (bestTo l k) hb
      have HN : Hid (bestTo l (k + 1) = if bef (pt l k) (pt l (bestTo l k)) = true then k else bestTo l k) := rfl
      generalize pt l k = p at *
      generalize bestTo l k = b at *
      generalize pt l b = q at *
      have hbx : Below wr.heap.size wr (wr.alloc (.cells #[.int .i64 p.1, .int .i64 p.2] 42)) := below_alloc (Below.refl _ _) _
      have z0 : (wr.alloc (.cells #[.int .i64 p.1, .int .i64 p.2] 42)).cell? ⟨wr.heap.size, 0, none⟩ = some (.int .i64 p.1) := by rw [World.cell?_alloc_at _ _ _ _ rfl]; rfl
      have z1 : (wr.alloc (.cells #[.int .i64 p.1, .int .i64 p.2] 42)).cell? ⟨wr.heap.size, 1, none⟩ = some (.int .i64 p.2) := by rw [World.cell?_alloc_at _ _ _ _ rfl]; rfl
      have q0 := pw_cell_below hbx y0
      have q1 := pw_cell_below hbx y1
      have HB1 := Aside0.mk (HB.out.trans (hbx.mono HB.out.size))
      clear hbx y0 y1
      go_wp2
      generalize wr.alloc (.cells #[.int .i64 p.1, .int .i64 p.2] 42) = W1 at *
      go_still_tail 6, (by kernel_rfl)
      have HB2 := Aside0.mk (below_drew HB1.out)
      clear HB1 z0 z1 q0 q1 x0 x1 HB
      cases hbq : bef p q with
      | true =>
        have HN2 : Hid (bestTo l (k + 1) = k) := by rw [HN.out, hbq]; rfl
        go_wp2_with (go_at_call 18; refine (before_any p q _).mono ?_; rintro e w3 ⟨rfl, hb3⟩; have HB3 := Aside0.mk hb3; clear hb3)
        exact ⟨⟨k + 1, by omega, by go_num, by rw [HN2.out], ⟨HB2.out.trans (HB3.out.mono HB2.out.size)⟩⟩, by simp [intOf]; omega⟩
      | false =>
        have HN2 : Hid (bestTo l (k + 1) = b) := by rw [HN.out, hbq]; rfl
        go_wp2_with (go_at_call 18; refine (before_any p q _).mono ?_; rintro e w3 ⟨rfl, hb3⟩; have HB3 := Aside0.mk hb3; clear hb3)
        exact ⟨⟨k + 1, by omega, by go_num, by rw [HN2.out], ⟨HB2.out.trans (HB3.out.mono HB2.out.size)⟩⟩, by simp [intOf]; omega⟩
    · go_wp2
      go_ret
      have e : k = l.length := by omega
      exact ⟨by rw [e]; rfl, HB.out⟩
end Go.Proofs.Ytogpaeebkdopiaa.G
