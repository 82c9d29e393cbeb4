/- Deliver. -/
import Derived.Test.YtofacphhfgkemaaGh
import Derived.Lib.QuietBelow
namespace Go.Proofs.Ytofacphhfgkemaa.G
open Go.Sort Go.RowKit Go.Proofs.YtofacphhfgkemaaW.PrintWords Go.Proofs.YtofacphhfgkemaaW.PrintLast Go.Proofs.YtofacphhfgkemaaW.PrintMore
set_option linter.unusedVariables false
set_option linter.unusedSimpArgs false

def delOk (nodes : Int) (q : Int → Int → List ByteArray) (x y k : Int) : Bool := knowsB nodes x y && !decide (k < 0) && !decide (((q x y).length : Int) ≤ k)
def delT (nodes : Int) (q : Int → Int → List ByteArray) (x y k : Int) (lost : Bool) : ByteArray := if delOk nodes q x y k && !lost then (q x y).getD k.toNat { data := #[] } else { data := #[] }
def delQ (nodes : Int) (q : Int → Int → List ByteArray) (x y k : Int) (lost again : Bool) : Int → Int → List ByteArray := if delOk nodes q x y k && (lost || !again) then updQ q x y ((q x y).eraseIdx k.toNat) else q

def boxes (w : World) (a : Nat) (k x y : Int) : World := ((w.alloc (.cells #[.pointer (some ⟨a, 0, none⟩)] 25)).alloc (.cells #[.int .i64 k] 3)).alloc (.cells #[.int .i64 x, .int .i64 y] 59)
theorem boxes_below (w : World) (a : Nat) (k x y : Int) : Below w.heap.size w (boxes w a k x y) := below_alloc (below_alloc (below_alloc (Below.refl _ _) _) _) _
theorem boxes_seen (w : World) (a qb : Nat) (k x y : Int) (h : w.cell? ⟨a, 1, none⟩ = some (.map (some qb))) : Seen (boxes w a k x y) a w.heap.size (w.heap.size + 1) (w.heap.size + 2) qb k x y := by
  have s1 := alloc_size w (.cells #[.pointer (some ⟨a, 0, none⟩)] 25)
  have s2 := alloc_size (w.alloc (.cells #[.pointer (some ⟨a, 0, none⟩)] 25)) (.cells #[.int .i64 k] 3)
  have g0 : (boxes w a k x y).heap[w.heap.size]? = some (.cells #[.pointer (some ⟨a, 0, none⟩)] 25 (0, 0)) := by
    unfold boxes
    rw [alloc_old _ _ (by omega), alloc_old _ _ (by omega)]
    exact alloc_new _ _
  have g1 : (boxes w a k x y).heap[w.heap.size + 1]? = some (.cells #[.int .i64 k] 3 (0, 0)) := by
    unfold boxes
    rw [alloc_old _ _ (by omega), ← s1]
    exact alloc_new _ _
  have g2 : (boxes w a k x y).heap[w.heap.size + 2]? = some (.cells #[.int .i64 x, .int .i64 y] 59 (0, 0)) := by
    unfold boxes
    rw [show w.heap.size + 2 = ((w.alloc (.cells #[.pointer (some ⟨a, 0, none⟩)] 25)).alloc (.cells #[.int .i64 k] 3)).heap.size by rw [s2, s1]]
    exact alloc_new _ _
  exact ⟨by rw [blk_cell g0]; rfl, by rw [blk_cell g1]; rfl, by rw [blk_cell g2]; rfl, by rw [blk_cell g2]; rfl, ((boxes_below w a k x y).cell (World.block_lt_of_cell? w _ h)).trans h⟩

set_option maxHeartbeats 2000000 in
theorem deliver_calls {F : Nat → Prop} {w : World} {a : Nat} {nodes : Int} {q : Int → Int → List ByteArray} {cut : Int → Int → Bool} (h : NetIs F w a nodes q cut) (x y k : Int) (lost again : Bool) :
    Calls Try.prog 13 #[.pointer (some ⟨a, 0, none⟩), .int .i64 x, .int .i64 y, .int .i64 k, .bool lost, .bool again] w fun e w' => e = .returned (.tuple #[.string (delT nodes q x y k lost), .bool (delOk nodes q x y k && !lost)]) ∧ NetIs (newF F w w') w' a nodes (delQ nodes q x y k lost again) cut ∧ Keeps F w w' := by
  obtain ⟨qb, cb, fq, fc, h⟩ := h
  have H := Aside0.mk h
  have HB0 := Aside0.mk (boxes_below w a k x y)
  have HS0 := Aside0.mk (boxes_seen w a qb k x y h.cell1)
  have hmf : ∀ (fn : Fn) (first cap : Array Value) (w : World), (Instr.makeFunc fn first cap).run Try.prog w = .ok (.func fn first cap) w := fun _ _ _ _ => rfl
  clear h
  cases hk : knowsB nodes x y with
  | false =>
    have HK := Aside0.mk hk
    have e0 : delOk nodes q x y k = false := by unfold delOk; rw [hk]; rfl
    unfold delT delQ
    rw [e0]
    clear hk e0
    go_enter_defers Try.func13, Try.ntmps13
    go_wp2_with (fail)
    have hW : boxes w a k x y = ((w.alloc (.cells #[.pointer (some ⟨a, 0, none⟩)] 25)).alloc (.cells #[.int .i64 k] 3)).alloc (.cells #[.int .i64 x, .int .i64 y] 59) := rfl
    rw [← hW]
    clear hW
    generalize boxes w a k x y = W at HB0 HS0 ⊢
    have HQ := H.out.below HB0.out
    have hkc : ∀ d os, Calls Try.prog 23 #[.pointer (some ⟨a, 0, none⟩), .agg #[.int .i64 x, .int .i64 y]] (grow (redrawn W d) os) fun e w'' => e = .returned (.bool (knowsB nodes x y)) ∧ ∃ p : Regrown, w'' = grow (redrawn W p.d) p.os := fun d os => Calls.regrown_of (knows_any nodes x y a _ (HQ.below (below_regrown W d os)).cell0)
    rw [HK.out] at hkc
    have hk0 := cell_regrown HS0.out.n
    have hk1 := cell_regrown HS0.out.which
    have hk2 := cell_regrown HS0.out.wx
    have hk3 := cell_regrown HS0.out.wy
    have hk4 := cell_regrown HS0.out.qs
    clear HQ
    refine wp_region_quiet_below (by kernel_rfl) (by kernel_rfl) ?_
    repeat (first | go_big_quiet_skip | (quiet_step (exact hkc _ _)))
    refine wpQuiet_nil ?_
    intro _ hw'
    obtain ⟨⟨dq, osq⟩, hw''⟩ := hw'
    subst hw''
    have HB := Aside0.mk (HB0.out.trans ((below_regrown W dq osq).mono HB0.out.size))
    have HS := Aside0.mk (HS0.out.below (below_regrown W dq osq))
    clear hkc hk0 hk1 hk2 hk3 hk4
    generalize grow (redrawn W dq) osq = w1 at HB HS ⊢
    go_wp2_with (fail)
    refine ⟨_, results_tmp2 (t := 12) (u := 13) rfl _ _ _, ?_⟩
    exact ⟨rfl, ⟨qb, cb, fq, fc, (H.out.below HB.out).wider (fun k hk => .inl hk) (fun k hk => hk.elim (fun h => Nat.lt_of_lt_of_le (H.out.flt k h) HB.out.size) (fun h => h.2))⟩, Keeps.of_below HB.out⟩
  | true =>
    have HK := Aside0.mk hk
    by_cases h0 : k < 0
    · have e0 : delOk nodes q x y k = false := by unfold delOk; rw [hk]; simp [h0]
      unfold delT delQ
      rw [e0]
      clear hk e0
      go_enter_defers Try.func13, Try.ntmps13
      go_wp2_with (fail)
      have hW : boxes w a k x y = ((w.alloc (.cells #[.pointer (some ⟨a, 0, none⟩)] 25)).alloc (.cells #[.int .i64 k] 3)).alloc (.cells #[.int .i64 x, .int .i64 y] 59) := rfl
      rw [← hW]
      clear hW
      generalize boxes w a k x y = W at HB0 HS0 ⊢
      have HQ := H.out.below HB0.out
      have hkc : ∀ d os, Calls Try.prog 23 #[.pointer (some ⟨a, 0, none⟩), .agg #[.int .i64 x, .int .i64 y]] (grow (redrawn W d) os) fun e w'' => e = .returned (.bool (knowsB nodes x y)) ∧ ∃ p : Regrown, w'' = grow (redrawn W p.d) p.os := fun d os => Calls.regrown_of (knows_any nodes x y a _ (HQ.below (below_regrown W d os)).cell0)
      rw [HK.out] at hkc
      have hk0 := cell_regrown HS0.out.n
      have hk1 := cell_regrown HS0.out.which
      have hk2 := cell_regrown HS0.out.wx
      have hk3 := cell_regrown HS0.out.wy
      have hk4 := cell_regrown HS0.out.qs
      clear HQ
      refine wp_region_quiet_below (by kernel_rfl) (by kernel_rfl) ?_
      repeat (first | go_big_quiet_skip | (quiet_step (exact hkc _ _)))
      refine wpQuiet_nil ?_
      intro _ hw'
      obtain ⟨⟨dq, osq⟩, hw''⟩ := hw'
      subst hw''
      have HB := Aside0.mk (HB0.out.trans ((below_regrown W dq osq).mono HB0.out.size))
      have HS := Aside0.mk (HS0.out.below (below_regrown W dq osq))
      clear hkc hk0 hk1 hk2 hk3 hk4
      generalize grow (redrawn W dq) osq = w1 at HB HS ⊢
      go_wp2_with (fail)
      refine ⟨_, results_tmp2 (t := 12) (u := 13) rfl _ _ _, ?_⟩
      exact ⟨rfl, ⟨qb, cb, fq, fc, (H.out.below HB.out).wider (fun k hk => .inl hk) (fun k hk => hk.elim (fun h => Nat.lt_of_lt_of_le (H.out.flt k h) HB.out.size) (fun h => h.2))⟩, Keeps.of_below HB.out⟩
    · by_cases h1 : ((q x y).length : Int) ≤ k
      · have e0 : delOk nodes q x y k = false := by unfold delOk; rw [hk]; simp [h1]
        unfold delT delQ
        rw [e0]
        clear hk e0
        go_enter_defers Try.func13, Try.ntmps13
        go_wp2_with (fail)
        have hW : boxes w a k x y = ((w.alloc (.cells #[.pointer (some ⟨a, 0, none⟩)] 25)).alloc (.cells #[.int .i64 k] 3)).alloc (.cells #[.int .i64 x, .int .i64 y] 59) := rfl
        rw [← hW]
        clear hW
        generalize boxes w a k x y = W at HB0 HS0 ⊢
        have HQ := H.out.below HB0.out
        have hkc : ∀ d os, Calls Try.prog 23 #[.pointer (some ⟨a, 0, none⟩), .agg #[.int .i64 x, .int .i64 y]] (grow (redrawn W d) os) fun e w'' => e = .returned (.bool (knowsB nodes x y)) ∧ ∃ p : Regrown, w'' = grow (redrawn W p.d) p.os := fun d os => Calls.regrown_of (knows_any nodes x y a _ (HQ.below (below_regrown W d os)).cell0)
        rw [HK.out] at hkc
        have hk0 := cell_regrown HS0.out.n
        have hk1 := cell_regrown HS0.out.which
        have hk2 := cell_regrown HS0.out.wx
        have hk3 := cell_regrown HS0.out.wy
        have hk4 := cell_regrown HS0.out.qs
        obtain ⟨A, c, hv, hC⟩ := owns_TC (HQ.owns x y)
        have hlk : ∀ d os, (Instr.lookup 54 (.map (some qb)) (.agg #[.int .i64 x, .int .i64 y]) false).run Try.prog (grow (redrawn W d) os) = .ok (.slice A (q x y).length c) (grow (redrawn W d) os) := fun d os => by
          have h1 := (HQ.below (below_regrown W d os)).qmap.lookup54 (knows_wf HQ.small HK.out).1 (knows_wf HQ.small HK.out).2
          unfold kv at h1
          rw [hv] at h1
          exact h1
        clear hv hC
        clear HQ
        refine wp_region_quiet_below (by kernel_rfl) (by kernel_rfl) ?_
        repeat (first | go_big_quiet_skip | (quiet_step (exact hkc _ _)))
        refine wpQuiet_nil ?_
        intro _ hw'
        obtain ⟨⟨dq, osq⟩, hw''⟩ := hw'
        subst hw''
        have HB := Aside0.mk (HB0.out.trans ((below_regrown W dq osq).mono HB0.out.size))
        have HS := Aside0.mk (HS0.out.below (below_regrown W dq osq))
        clear hkc hk0 hk1 hk2 hk3 hk4
        generalize grow (redrawn W dq) osq = w1 at HB HS ⊢
        go_wp2_with (fail)
        refine ⟨_, results_tmp2 (t := 12) (u := 13) rfl _ _ _, ?_⟩
        exact ⟨rfl, ⟨qb, cb, fq, fc, (H.out.below HB.out).wider (fun k hk => .inl hk) (fun k hk => hk.elim (fun h => Nat.lt_of_lt_of_le (H.out.flt k h) HB.out.size) (fun h => h.2))⟩, Keeps.of_below HB.out⟩
      · obtain ⟨kn, rfl⟩ : ∃ kn : Nat, k = kn := ⟨k.toNat, by omega⟩
        have e0 : delOk nodes q x y kn = true := by unfold delOk; rw [hk]; simp; omega
        unfold delT delQ
        rw [e0]
        have HLT := Aside0.mk (show kn < (q x y).length by omega)
        clear hk e0
        cases lost with
        | true =>
          go_enter_defers Try.func13, Try.ntmps13
          go_wp2_with (fail)
          have hW : boxes w a (kn : Int) x y = ((w.alloc (.cells #[.pointer (some ⟨a, 0, none⟩)] 25)).alloc (.cells #[.int .i64 (kn : Int)] 3)).alloc (.cells #[.int .i64 x, .int .i64 y] 59) := rfl
          rw [← hW]
          clear hW
          generalize boxes w a (kn : Int) x y = W at HB0 HS0 ⊢
          have HQ := H.out.below HB0.out
          have hkc : ∀ d os, Calls Try.prog 23 #[.pointer (some ⟨a, 0, none⟩), .agg #[.int .i64 x, .int .i64 y]] (grow (redrawn W d) os) fun e w'' => e = .returned (.bool (knowsB nodes x y)) ∧ ∃ p : Regrown, w'' = grow (redrawn W p.d) p.os := fun d os => Calls.regrown_of (knows_any nodes x y a _ (HQ.below (below_regrown W d os)).cell0)
          rw [HK.out] at hkc
          have hk0 := cell_regrown HS0.out.n
          have hk1 := cell_regrown HS0.out.which
          have hk2 := cell_regrown HS0.out.wx
          have hk3 := cell_regrown HS0.out.wy
          have hk4 := cell_regrown HS0.out.qs
          obtain ⟨A, c, hv, hC⟩ := owns_TC (HQ.owns x y)
          have hlk : ∀ d os, (Instr.lookup 54 (.map (some qb)) (.agg #[.int .i64 x, .int .i64 y]) false).run Try.prog (grow (redrawn W d) os) = .ok (.slice A (q x y).length c) (grow (redrawn W d) os) := fun d os => by
            have h1 := (HQ.below (below_regrown W d os)).qmap.lookup54 (knows_wf HQ.small HK.out).1 (knows_wf HQ.small HK.out).2
            unfold kv at h1
            rw [hv] at h1
            exact h1
          clear hv hC
          clear HQ
          refine wp_region_quiet_below (by kernel_rfl) (by kernel_rfl) ?_
          repeat (first | go_big_quiet_skip | (quiet_step (exact hkc _ _)))
          refine wpQuiet_nil ?_
          intro _ hw'
          obtain ⟨⟨dq, osq⟩, hw''⟩ := hw'
          subst hw''
          have HB := Aside0.mk (HB0.out.trans ((below_regrown W dq osq).mono HB0.out.size))
          have HS := Aside0.mk (HS0.out.below (below_regrown W dq osq))
          clear hkc hk0 hk1 hk2 hk3 hk4
          generalize grow (redrawn W dq) osq = w1 at HB HS ⊢
          go_wp2_with (fail)
          refine leaves_cons (f := 24) (args := #[.pointer (some ⟨w.heap.size, 0, none⟩), .pointer (some ⟨w.heap.size + 2, 0, none⟩), .pointer (some ⟨w.heap.size + 1, 0, none⟩)]) (by simp) (by simp [go_sem]) ?_
          refine (deferred_calls (H.out.below HB.out) HK.out HLT.out HS.out .returning).mono ?_
          rintro e u' w2 ⟨rfl, rfl, fq', hn, hkp⟩
          refine ⟨_, results_tmp2 (t := 12) (u := 13) rfl _ _ _, ?_⟩
          exact ⟨rfl, ⟨qb, cb, fq', fc, newF_mono hn HB.out.size⟩, (Keeps.of_below HB.out).trans hkp⟩
        | false =>
          cases again with
          | true =>
            go_enter_defers Try.func13, Try.ntmps13
            go_wp2_with (fail)
            have hW : boxes w a (kn : Int) x y = ((w.alloc (.cells #[.pointer (some ⟨a, 0, none⟩)] 25)).alloc (.cells #[.int .i64 (kn : Int)] 3)).alloc (.cells #[.int .i64 x, .int .i64 y] 59) := rfl
            rw [← hW]
            clear hW
            generalize boxes w a (kn : Int) x y = W at HB0 HS0 ⊢
            have HQ := H.out.below HB0.out
            have hkc : ∀ d os, Calls Try.prog 23 #[.pointer (some ⟨a, 0, none⟩), .agg #[.int .i64 x, .int .i64 y]] (grow (redrawn W d) os) fun e w'' => e = .returned (.bool (knowsB nodes x y)) ∧ ∃ p : Regrown, w'' = grow (redrawn W p.d) p.os := fun d os => Calls.regrown_of (knows_any nodes x y a _ (HQ.below (below_regrown W d os)).cell0)
            rw [HK.out] at hkc
            have hk0 := cell_regrown HS0.out.n
            have hk1 := cell_regrown HS0.out.which
            have hk2 := cell_regrown HS0.out.wx
            have hk3 := cell_regrown HS0.out.wy
            have hk4 := cell_regrown HS0.out.qs
            obtain ⟨A, c, hv, hC⟩ := owns_TC (HQ.owns x y)
            have hlk : ∀ d os, (Instr.lookup 54 (.map (some qb)) (.agg #[.int .i64 x, .int .i64 y]) false).run Try.prog (grow (redrawn W d) os) = .ok (.slice A (q x y).length c) (grow (redrawn W d) os) := fun d os => by
              have h1 := (HQ.below (below_regrown W d os)).qmap.lookup54 (knows_wf HQ.small HK.out).1 (knows_wf HQ.small HK.out).2
              unfold kv at h1
              rw [hv] at h1
              exact h1
            clear hv hC
            clear HQ
            refine wp_region_quiet_below (by kernel_rfl) (by kernel_rfl) ?_
            repeat (first | go_big_quiet_skip | (quiet_step (exact hkc _ _)))
            refine wpQuiet_nil ?_
            intro _ hw'
            obtain ⟨⟨dq, osq⟩, hw''⟩ := hw'
            subst hw''
            have HB := Aside0.mk (HB0.out.trans ((below_regrown W dq osq).mono HB0.out.size))
            have HS := Aside0.mk (HS0.out.below (below_regrown W dq osq))
            clear hkc hk0 hk1 hk2 hk3 hk4
            generalize grow (redrawn W dq) osq = w1 at HB HS ⊢
            go_wp2_with (fail)
            have H1 := H.out.below HB.out
            obtain ⟨g, cap, hg, _, _⟩ := World.ownsRow.form (H1.owns x y) (by have := HLT.out; omega)
            have hR := Kd.R_of_own (enc := Value.string) (h1 := fun _ => rfl) (ok := fun _ => True) (H1.owns x y) (fun _ _ => trivial)
            rw [hg] at hR
            have hcell := (Kd.R_cell ({ data := #[] } : ByteArray) hR (kn : Int) (by omega) (by have := HLT.out; omega)).1
            rw [Int.toNat_natCast] at hcell
            have hk0 := cell_regrown HS.out.n
            have hk1 := cell_regrown HS.out.which
            have hk2 := cell_regrown HS.out.wx
            have hk3 := cell_regrown HS.out.wy
            have hk4 := cell_regrown HS.out.qs
            have hk5 := cell_regrown hcell
            have hlk : ∀ d os, (Instr.lookup 54 (.map (some qb)) (.agg #[.int .i64 x, .int .i64 y]) false).run Try.prog (grow (redrawn w1 d) os) = .ok (.slice (some ⟨g, 0, none⟩) (q x y).length cap) (grow (redrawn w1 d) os) := fun d os => by
              have h1 := (H1.below (below_regrown w1 d os)).qmap.lookup54 (knows_wf H1.small HK.out).1 (knows_wf H1.small HK.out).2
              unfold kv at h1
              rw [hg] at h1
              exact h1
            have hi0 : (0 : Int) ≤ (kn : Int) := by omega
            have hi1 : (kn : Int) < ((q x y).length : Int) := by have := HLT.out; omega
            clear H1 hg hR hcell
            refine wp_region_quiet_below (by kernel_rfl) (by kernel_rfl) ?_
            repeat (first | go_big_quiet_skip | (quiet_step (fail)))
            refine wpQuiet_nil ?_
            intro _ hw'
            obtain ⟨⟨dr, osr⟩, hw''⟩ := hw'
            subst hw''
            have HB1 := HB.out.trans ((below_regrown w1 dr osr).mono HB.out.size)
            have HS1 := HS.out.below (below_regrown w1 dr osr)
            clear HB HS
            have HB := Aside0.mk HB1
            have HS := Aside0.mk HS1
            clear hk0 hk1 hk2 hk3 hk4 hk5 hlk HB1 HS1
            generalize grow (redrawn w1 dr) osr = w3 at HB HS ⊢
            go_wp2_with (fail)
            have et : rdOf ({ data := #[] } : ByteArray) (q x y) (kn : Int) = ((q x y)[kn]?.getD { data := #[] }) := by simp [rdOf]
            refine ⟨_, results_tmp2 (t := 12) (u := 13) rfl _ _ _, ?_⟩
            exact ⟨by rw [← et]; rfl, ⟨qb, cb, fq, fc, (H.out.below HB.out).wider (fun k hk => .inl hk) (fun k hk => hk.elim (fun h => Nat.lt_of_lt_of_le (H.out.flt k h) HB.out.size) (fun h => h.2))⟩, Keeps.of_below HB.out⟩
          | false =>
            go_enter_defers Try.func13, Try.ntmps13
            go_wp2_with (fail)
            have hW : boxes w a (kn : Int) x y = ((w.alloc (.cells #[.pointer (some ⟨a, 0, none⟩)] 25)).alloc (.cells #[.int .i64 (kn : Int)] 3)).alloc (.cells #[.int .i64 x, .int .i64 y] 59) := rfl
            rw [← hW]
            clear hW
            generalize boxes w a (kn : Int) x y = W at HB0 HS0 ⊢
            have HQ := H.out.below HB0.out
            have hkc : ∀ d os, Calls Try.prog 23 #[.pointer (some ⟨a, 0, none⟩), .agg #[.int .i64 x, .int .i64 y]] (grow (redrawn W d) os) fun e w'' => e = .returned (.bool (knowsB nodes x y)) ∧ ∃ p : Regrown, w'' = grow (redrawn W p.d) p.os := fun d os => Calls.regrown_of (knows_any nodes x y a _ (HQ.below (below_regrown W d os)).cell0)
            rw [HK.out] at hkc
            have hk0 := cell_regrown HS0.out.n
            have hk1 := cell_regrown HS0.out.which
            have hk2 := cell_regrown HS0.out.wx
            have hk3 := cell_regrown HS0.out.wy
            have hk4 := cell_regrown HS0.out.qs
            obtain ⟨A, c, hv, hC⟩ := owns_TC (HQ.owns x y)
            have hlk : ∀ d os, (Instr.lookup 54 (.map (some qb)) (.agg #[.int .i64 x, .int .i64 y]) false).run Try.prog (grow (redrawn W d) os) = .ok (.slice A (q x y).length c) (grow (redrawn W d) os) := fun d os => by
              have h1 := (HQ.below (below_regrown W d os)).qmap.lookup54 (knows_wf HQ.small HK.out).1 (knows_wf HQ.small HK.out).2
              unfold kv at h1
              rw [hv] at h1
              exact h1
            clear hv hC
            clear HQ
            refine wp_region_quiet_below (by kernel_rfl) (by kernel_rfl) ?_
            repeat (first | go_big_quiet_skip | (quiet_step (exact hkc _ _)))
            refine wpQuiet_nil ?_
            intro _ hw'
            obtain ⟨⟨dq, osq⟩, hw''⟩ := hw'
            subst hw''
            have HB := Aside0.mk (HB0.out.trans ((below_regrown W dq osq).mono HB0.out.size))
            have HS := Aside0.mk (HS0.out.below (below_regrown W dq osq))
            clear hkc hk0 hk1 hk2 hk3 hk4
            generalize grow (redrawn W dq) osq = w1 at HB HS ⊢
            go_wp2_with (fail)
            have H1 := H.out.below HB.out
            obtain ⟨g, cap, hg, _, _⟩ := World.ownsRow.form (H1.owns x y) (by have := HLT.out; omega)
            have hR := Kd.R_of_own (enc := Value.string) (h1 := fun _ => rfl) (ok := fun _ => True) (H1.owns x y) (fun _ _ => trivial)
            rw [hg] at hR
            have hcell := (Kd.R_cell ({ data := #[] } : ByteArray) hR (kn : Int) (by omega) (by have := HLT.out; omega)).1
            rw [Int.toNat_natCast] at hcell
            have hk0 := cell_regrown HS.out.n
            have hk1 := cell_regrown HS.out.which
            have hk2 := cell_regrown HS.out.wx
            have hk3 := cell_regrown HS.out.wy
            have hk4 := cell_regrown HS.out.qs
            have hk5 := cell_regrown hcell
            have hlk : ∀ d os, (Instr.lookup 54 (.map (some qb)) (.agg #[.int .i64 x, .int .i64 y]) false).run Try.prog (grow (redrawn w1 d) os) = .ok (.slice (some ⟨g, 0, none⟩) (q x y).length cap) (grow (redrawn w1 d) os) := fun d os => by
              have h1 := (H1.below (below_regrown w1 d os)).qmap.lookup54 (knows_wf H1.small HK.out).1 (knows_wf H1.small HK.out).2
              unfold kv at h1
              rw [hg] at h1
              exact h1
            have hi0 : (0 : Int) ≤ (kn : Int) := by omega
            have hi1 : (kn : Int) < ((q x y).length : Int) := by have := HLT.out; omega
            clear H1 hg hR hcell
            refine wp_region_quiet_below (by kernel_rfl) (by kernel_rfl) ?_
            repeat (first | go_big_quiet_skip | (quiet_step (fail)))
            refine wpQuiet_nil ?_
            intro _ hw'
            obtain ⟨⟨dr, osr⟩, hw''⟩ := hw'
            subst hw''
            have HB1 := HB.out.trans ((below_regrown w1 dr osr).mono HB.out.size)
            have HS1 := HS.out.below (below_regrown w1 dr osr)
            clear HB HS
            have HB := Aside0.mk HB1
            have HS := Aside0.mk HS1
            clear hk0 hk1 hk2 hk3 hk4 hk5 hlk HB1 HS1
            generalize grow (redrawn w1 dr) osr = w3 at HB HS ⊢
            go_wp2_with (fail)
            have et : rdOf ({ data := #[] } : ByteArray) (q x y) (kn : Int) = ((q x y)[kn]?.getD { data := #[] }) := by simp [rdOf]
            refine leaves_cons (f := 24) (args := #[.pointer (some ⟨w.heap.size, 0, none⟩), .pointer (some ⟨w.heap.size + 2, 0, none⟩), .pointer (some ⟨w.heap.size + 1, 0, none⟩)]) (by simp) (by simp [go_sem]) ?_
            refine (deferred_calls (H.out.below HB.out) HK.out HLT.out HS.out .returning).mono ?_
            rintro e u' w2 ⟨rfl, rfl, fq', hn, hkp⟩
            refine ⟨_, results_tmp2 (t := 12) (u := 13) rfl _ _ _, ?_⟩
            exact ⟨by rw [← et]; rfl, ⟨qb, cb, fq', fc, newF_mono hn HB.out.size⟩, (Keeps.of_below HB.out).trans hkp⟩
end Go.Proofs.Ytofacphhfgkemaa.G
