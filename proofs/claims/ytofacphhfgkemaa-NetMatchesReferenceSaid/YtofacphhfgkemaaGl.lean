/- A nil network. -/
import Derived.Test.YtofacphhfgkemaaGk
namespace Go.Proofs.Ytofacphhfgkemaa.G
open Go.Sort Go.RowKit Go.Proofs.YtofacphhfgkemaaW.PrintWords Go.Proofs.YtofacphhfgkemaaW.PrintLast Go.Proofs.YtofacphhfgkemaaW.PrintMore
set_option linter.unusedVariables false
set_option linter.unusedSimpArgs false

theorem send_nil (w : World) (x y : Int) (t : ByteArray) : Calls Try.prog 12 #[.pointer none, .int .i64 x, .int .i64 y, .string t] w fun e w' => e = .returned (.int .i64 1) ∧ RowKit.Below w.heap.size w w' := by
  go_enter Try.func12, Try.ntmps12
  go_wp2_with (fail)
  refine (knows_nil x y _).mono ?_
  rintro e w1 ⟨rfl, hb⟩
  have HB := Aside0.mk (below_then (below_alloc (Below.refl w.heap.size w) (.cells #[.int .i64 x, .int .i64 y] 59)) (by rw [alloc_size]; omega) hb)
  clear hb
  go_wp2_with (fail)
  go_ret
  exact ⟨rfl, HB.out⟩
theorem waiting_nil (w : World) (x y : Int) : Calls Try.prog 15 #[.pointer none, .int .i64 x, .int .i64 y] w fun e w' => e = .returned (.slice none 0 0) ∧ RowKit.Below w.heap.size w w' := by
  go_enter Try.func15, Try.ntmps15
  go_wp2_with (fail)
  refine (knows_nil x y _).mono ?_
  rintro e w1 ⟨rfl, hb⟩
  have HB := Aside0.mk (below_then (below_alloc (Below.refl w.heap.size w) (.cells #[.int .i64 x, .int .i64 y] 59)) (by rw [alloc_size]; omega) hb)
  clear hb
  go_wp2_with (fail)
  go_ret
  exact ⟨rfl, HB.out⟩
theorem turn_nil (w : World) (x y : Int) (v : Bool) : Calls Try.prog 33 #[.pointer none, .int .i64 x, .int .i64 y, .bool v] w fun e w' => e = .returned (.int .i64 1) ∧ RowKit.Below w.heap.size w w' := by
  go_enter Try.func33, Try.ntmps33
  go_wp2_with (fail)
  refine (knows_nil x y _).mono ?_
  rintro e w1 ⟨rfl, hb⟩
  have HB := Aside0.mk hb
  clear hb
  go_wp2_with (fail)
  go_ret
  exact ⟨rfl, HB.out⟩
theorem cut_nil (w : World) (x y : Int) : Calls Try.prog 21 #[.pointer none, .int .i64 x, .int .i64 y] w fun e w' => e = .returned (.int .i64 1) ∧ RowKit.Below w.heap.size w w' := by
  go_enter Try.func21, Try.ntmps21
  go_wp2_with (go_at_call 33; refine (turn_nil w x y true).mono ?_; rintro e w1 ⟨rfl, hb⟩; have HB := Aside0.mk hb; clear hb)
  go_ret
  exact ⟨rfl, HB.out⟩
theorem heal_nil (w : World) (x y : Int) : Calls Try.prog 22 #[.pointer none, .int .i64 x, .int .i64 y] w fun e w' => e = .returned (.int .i64 1) ∧ RowKit.Below w.heap.size w w' := by
  go_enter Try.func22, Try.ntmps22
  go_wp2_with (go_at_call 33; refine (turn_nil w x y false).mono ?_; rintro e w1 ⟨rfl, hb⟩; have HB := Aside0.mk hb; clear hb)
  go_ret
  exact ⟨rfl, HB.out⟩

def boxesN (w : World) (k x y : Int) : World := ((w.alloc (.cells #[.pointer none] 25)).alloc (.cells #[.int .i64 k] 3)).alloc (.cells #[.int .i64 x, .int .i64 y] 59)
theorem boxesN_below (w : World) (k x y : Int) : RowKit.Below w.heap.size w (boxesN w k x y) := below_alloc (below_alloc (below_alloc (Below.refl _ _) _) _) _
theorem boxesN_cells (w : World) (k x y : Int) : (boxesN w k x y).cell? ⟨w.heap.size, 0, none⟩ = some (.pointer none) ∧ (boxesN w k x y).cell? ⟨w.heap.size + 2, 0, none⟩ = some (.int .i64 x) ∧ (boxesN w k x y).cell? ⟨w.heap.size + 2, 1, none⟩ = some (.int .i64 y) := by
  have s1 := alloc_size w (.cells #[.pointer none] 25)
  have s2 := alloc_size (w.alloc (.cells #[.pointer none] 25)) (.cells #[.int .i64 k] 3)
  have g0 : (boxesN w k x y).heap[w.heap.size]? = some (.cells #[.pointer none] 25 (0, 0)) := by
    unfold boxesN
    rw [alloc_old _ _ (by omega), alloc_old _ _ (by omega)]
    exact alloc_new _ _
  have g2 : (boxesN w k x y).heap[w.heap.size + 2]? = some (.cells #[.int .i64 x, .int .i64 y] 59 (0, 0)) := by
    unfold boxesN
    rw [show w.heap.size + 2 = ((w.alloc (.cells #[.pointer none] 25)).alloc (.cells #[.int .i64 k] 3)).heap.size by rw [s2, s1]]
    exact alloc_new _ _
  exact ⟨by rw [blk_cell g0]; rfl, by rw [blk_cell g2]; rfl, by rw [blk_cell g2]; rfl⟩
set_option maxHeartbeats 1000000 in
theorem deliver_nil (w : World) (x y k : Int) (lost again : Bool) : Calls Try.prog 13 #[.pointer none, .int .i64 x, .int .i64 y, .int .i64 k, .bool lost, .bool again] w fun e w' => e = .returned (.tuple #[.string { data := #[] }, .bool false]) ∧ RowKit.Below w.heap.size w w' := by
  have HB0 := Aside0.mk (boxesN_below w k x y)
  obtain ⟨g0, g1, g2⟩ := boxesN_cells w k x y
  have G0 := Aside0.mk g0
  have G1 := Aside0.mk g1
  have G2 := Aside0.mk g2
  clear g0 g1 g2
  go_enter_defers Try.func13, Try.ntmps13
  go_wp2_with (fail)
  have hW : boxesN w k x y = ((w.alloc (.cells #[.pointer none] 25)).alloc (.cells #[.int .i64 k] 3)).alloc (.cells #[.int .i64 x, .int .i64 y] 59) := rfl
  rw [← hW]
  clear hW
  generalize boxesN w k x y = W at HB0 G0 G1 G2 ⊢
  have hkc : ∀ d os, Calls Try.prog 23 #[.pointer none, .agg #[.int .i64 x, .int .i64 y]] (grow (redrawn W d) os) fun e w'' => e = .returned (.bool false) ∧ ∃ p : Regrown, w'' = grow (redrawn W p.d) p.os := fun d os => Calls.regrown_of (knows_nil x y _)
  have hk0 := cell_regrown G0.out
  have hk2 := cell_regrown G1.out
  have hk3 := cell_regrown G2.out
  refine wp_region_quiet_below (by kernel_rfl) (by kernel_rfl) ?_
  repeat (first | go_big_quiet_skip | (quiet_step (exact hkc _ _)))
  refine wpQuiet_nil ?_
  intro _ hw'
  obtain ⟨⟨dq, osq⟩, hw''⟩ := hw'
  subst hw''
  have HB := Aside0.mk (HB0.out.trans ((below_regrown W dq osq).mono HB0.out.size))
  clear hkc hk0 hk2 hk3
  generalize grow (redrawn W dq) osq = w1 at HB ⊢
  go_wp2_with (fail)
  refine ⟨_, results_tmp2 (t := 12) (u := 13) rfl _ _ _, ?_⟩
  exact ⟨rfl, HB.out⟩
end Go.Proofs.Ytofacphhfgkemaa.G
