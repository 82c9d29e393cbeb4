/- Cut and Heal. -/
import Derived.Test.YtofacphhfgkemaaGd
namespace Go.Proofs.Ytofacphhfgkemaa.G
open Go.RowKit Go.Proofs.YtofacphhfgkemaaW.PrintWords Go.Proofs.YtofacphhfgkemaaW.PrintLast Go.Proofs.YtofacphhfgkemaaW.PrintMore
set_option linter.unusedVariables false
set_option linter.unusedSimpArgs false

/-- What turn answers. -/
def turnE (nodes : Int) (cut : Int → Int → Bool) (x y : Int) (v : Bool) : Int := if knowsB nodes x y then (if cut x y == v then 11 else 0) else 1
def cutOf (cut : Int → Int → Bool) (x y : Int) (v : Bool) (k : Nat) : Int → Int → Bool := if k = 0 then cut else if k = 1 then updC cut x y v else updC (updC cut x y v) y x v
def qOf (q : Int → Int → List ByteArray) (x y : Int) (v : Bool) (k : Nat) : Int → Int → List ByteArray := if v then (if k = 0 then q else if k = 1 then updQ q x y [] else updQ (updQ q x y []) y x []) else q
def turnC (nodes : Int) (cut : Int → Int → Bool) (x y : Int) (v : Bool) : Int → Int → Bool := if turnE nodes cut x y v = 0 then cutOf cut x y v 2 else cut
def turnQ (nodes : Int) (cut : Int → Int → Bool) (q : Int → Int → List ByteArray) (x y : Int) (v : Bool) : Int → Int → List ByteArray := if turnE nodes cut x y v = 0 then qOf q x y v 2 else q

/-- One round's stores. -/
theorem turn_cut {F : Nat → Prop} {w : World} {a : Nat} {nodes : Int} {q : Int → Int → List ByteArray} {cut : Int → Int → Bool} {qb cb : Nat} {fq fc : Int → Int → Option Value} (h : NetAt F w a nodes q cut qb cb fq fc) {x y : Int} (hx : wf64 x) (hy : wf64 y) (v : Bool) :
    ∃ w1, (Instr.mapUpdate 55 (.map (some cb)) (.agg #[.int .i64 x, .int .i64 y]) (.bool v)).run Try.prog w = .ok () w1 ∧ NetAt F w1 a nodes q (updC cut x y v) qb cb fq (upd fc x y (.bool v)) ∧ Keeps F w w1 ∧ OnlyAt cb w w1 := by
  obtain ⟨w1, h1, h2, h3⟩ := h.cmap.update Try.underlying55 hx hy (.bool v)
  exact ⟨w1, h1, h.cutAt h2 h3, Keeps.of_only h3 h.fcb, h3⟩
theorem turn_queue {F : Nat → Prop} {w : World} {a : Nat} {nodes : Int} {q : Int → Int → List ByteArray} {cut : Int → Int → Bool} {qb cb : Nat} {fq fc : Int → Int → Option Value} (h : NetAt F w a nodes q cut qb cb fq fc) {x y : Int} (hx : wf64 x) (hy : wf64 y) :
    ∃ w1, (Instr.mapUpdate 54 (.map (some qb)) (.agg #[.int .i64 x, .int .i64 y]) (.slice none 0 0)).run Try.prog w = .ok () w1 ∧ NetAt F w1 a nodes (updQ q x y []) cut qb cb (upd fq x y (.slice none 0 0)) fc ∧ Keeps F w w1 ∧ OnlyAt qb w w1 := by
  obtain ⟨w1, h1, h2, h3⟩ := h.qmap.update Try.underlying54 hx hy (.slice none 0 0)
  exact ⟨w1, h1, h.queueAt h2 h3 ⟨rfl, .inl ⟨rfl, rfl⟩⟩ (by simp) (fun k hk => by simp [Value.ownBlock] at hk) (fun _ _ k _ hk => by simp [Value.ownBlock] at hk), Keeps.of_only h3 h.fqb, h3⟩

theorem index0 (a b c d : Int) (W : World) : (Instr.index 75 (.agg #[.int .i64 a, .int .i64 b, .int .i64 c, .int .i64 d]) (.int .i64 0)).run Try.prog W = .ok (.agg #[.int .i64 a, .int .i64 b]) W := by kernel_rfl
theorem index1 (a b c d : Int) (W : World) : (Instr.index 75 (.agg #[.int .i64 a, .int .i64 b, .int .i64 c, .int .i64 d]) (.int .i64 1)).run Try.prog W = .ok (.agg #[.int .i64 c, .int .i64 d]) W := by kernel_rfl

theorem cell_same {w w1 : World} {p : Addr} (h : w1.heap[p.block]? = w.heap[p.block]?) : w1.cell? p = w.cell? p := by simp [World.cell?, h]

set_option maxHeartbeats 2000000 in
theorem turn_calls {F : Nat → Prop} {w : World} {a : Nat} {nodes : Int} {q : Int → Int → List ByteArray} {cut : Int → Int → Bool} (h : NetIs F w a nodes q cut) (x y : Int) (v : Bool) :
    Calls Try.prog 33 #[.pointer (some ⟨a, 0, none⟩), .int .i64 x, .int .i64 y, .bool v] w fun e w' => e = .returned (.int .i64 (turnE nodes cut x y v)) ∧ NetIs F w' a nodes (turnQ nodes cut q x y v) (turnC nodes cut x y v) ∧ Keeps F w w' := by
  obtain ⟨qb, cb, fq, fc, h⟩ := h
  have H := Aside0.mk h
  clear h
  unfold turnQ turnC
  cases hk : knowsB nodes x y with
  | false =>
    have HK := Aside0.mk hk
    have e0 : turnE nodes cut x y v = 1 := by unfold turnE; rw [hk]; rfl
    rw [e0]
    clear hk e0
    go_enter Try.func33, Try.ntmps33
    go_wp2_with (go_at_call 23; refine (knows_any nodes x y a _ H.out.cell0).mono ?_; rintro e w1 ⟨rfl, hb⟩; rw [HK.out]; have HB := Aside0.mk hb; clear hb)
    go_ret
    exact ⟨rfl, ⟨qb, cb, fq, fc, H.out.below HB.out⟩, Keeps.of_below HB.out⟩
  | true =>
    have HK := Aside0.mk hk
    have HC := Aside0.mk (H.out.cuts x y)
    cases hc : (cut x y == v) with
    | true =>
      have e0 : turnE nodes cut x y v = 11 := by unfold turnE; rw [hk, hc]; rfl
      rw [e0]
      have HV := Aside0.mk hc
      clear hk e0 hc
      go_enter Try.func33, Try.ntmps33
      go_wp2_with (fail)
      refine (knows_any nodes x y a _ H.out.cell0).mono ?_
      rintro e w1 ⟨rfl, hb⟩
      rw [HK.out]
      have H1 := H.out.below hb
      have hc2 := H1.cell2
      have hlk := H1.cmap.lookup55 (knows_wf H1.small HK.out).1 (knows_wf H1.small HK.out).2
      rw [HC.out] at hlk
      unfold kv at hlk
      have HB := Aside0.mk hb
      have hv := HV.out
      clear hb H1
      go_wp2_with (fail)
      go_ret
      exact ⟨rfl, ⟨qb, cb, fq, fc, H.out.below HB.out⟩, Keeps.of_below HB.out⟩
    | false =>
      have e0 : turnE nodes cut x y v = 0 := by unfold turnE; rw [hk, hc]; rfl
      rw [e0]
      have HV := Aside0.mk hc
      clear hk e0 hc
      go_enter Try.func33, Try.ntmps33
      go_wp2_with (fail)
      refine (knows_any nodes x y a _ H.out.cell0).mono ?_
      rintro e w1 ⟨rfl, hb⟩
      rw [HK.out]
      have H1 := H.out.below hb
      have hc2 := H1.cell2
      have hlk := H1.cmap.lookup55 (knows_wf H1.small HK.out).1 (knows_wf H1.small HK.out).2
      rw [HC.out] at hlk
      unfold kv at hlk
      have HB := Aside0.mk hb
      have hv := HV.out
      clear hb H1
      go_wp2_with (fail)
      clear hc2 hlk
      go_loopw [34] (fun i wr => ∃ k : Nat, k ≤ 2 ∧ i = .int .i64 k ∧ Aside0 (∃ fq fc, NetAt F wr a nodes (qOf q x y v k) (cutOf cut x y v k) qb cb fq fc) ∧ Aside0 (Keeps F w wr)) (fun i _ => 2 - (intOf i).toNat)
      case atStart => exact ⟨0, by omega, rfl, ⟨fq, fc, by unfold qOf cutOf; simp; exact H.out.below HB.out⟩, ⟨Keeps.of_below HB.out⟩⟩
      case round =>
        obtain ⟨k, hk2, rfl, HN, HP⟩ := hrel
        have hwf := Aside0.mk (knows_wf H.out.small HK.out)
        obtain ⟨fq1, fc1, h1⟩ := HN.out
        have H1 := Aside0.mk h1
        clear h1 HN
        rcases (by omega : k = 0 ∨ k = 1 ∨ k = 2) with rfl | rfl | rfl
        · cases v with
          | true =>
            have hi0 := index0 x y y x wr
            go_wp2_with (fail)
            have HA := H1.out.below (below_alloc (Below.refl _ _) (.cells #[.int .i64 x, .int .i64 y] 59))
            have hKA : Keeps F w (wr.alloc (.cells #[.int .i64 x, .int .i64 y] 59)) := HP.out.trans (Keeps.of_below (below_alloc (Below.refl _ _) _))
            have hw0 : (wr.alloc (.cells #[.int .i64 x, .int .i64 y] 59)).cell? ⟨wr.heap.size, 0, none⟩ = some (.int .i64 x) := by rw [blk_cell (alloc_new _ _)]; rfl
            have hw1 : (wr.alloc (.cells #[.int .i64 x, .int .i64 y] 59)).cell? ⟨wr.heap.size, 1, none⟩ = some (.int .i64 y) := by rw [blk_cell (alloc_new _ _)]; rfl
            generalize wr.alloc (.cells #[.int .i64 x, .int .i64 y] 59) = W at HA hw0 hw1 hKA ⊢
            have hc2 := HA.cell2
            obtain ⟨w3, hr, HN3, hK3, hO3⟩ := turn_cut (HA.below (below_drew (Below.refl _ _))) hwf.out.1 hwf.out.2 true
            have hne : wr.heap.size ≠ cb := by have := H1.out.flt cb H1.out.fcb; omega
            have hw3 : w3.cell? ⟨wr.heap.size, 0, none⟩ = some (.int .i64 x) := by rw [← hw0]; exact cell_same (hO3.block _ hne)
            have hw3' : w3.cell? ⟨wr.heap.size, 1, none⟩ = some (.int .i64 y) := by rw [← hw1]; exact cell_same (hO3.block _ hne)
            have HN3 := Aside0.mk HN3
            have HK3 := Aside0.mk ((hKA.trans (Keeps.of_below (below_drew (Below.refl _ _)))).trans hK3)
            clear HA hK3 hO3 hne hKA
            go_still_tail 6, (by kernel_rfl)
            go_wp2_with (fail)
            clear hw0 hw1 hc2 hr
            have hc1 := HN3.out.cell1
            obtain ⟨w4, hr4, HN4, hK4, hO4⟩ := turn_queue (HN3.out.below (below_drew (Below.refl _ _))) hwf.out.1 hwf.out.2
            have HN4 := Aside0.mk HN4
            have HK4 := Aside0.mk ((HK3.out.trans (Keeps.of_below (below_drew (Below.refl _ _)))).trans hK4)
            clear hK4 hO4
            go_still_tail 5, (by kernel_rfl)
            go_wp2_with (fail)
            go_round
            case rel => exact ⟨0+1, by omega, by go_num, ⟨_, _, HN4.out⟩, HK4⟩
            case measure => simp [intOf]
          | false =>
            have hi0 := index0 x y y x wr
            go_wp2_with (fail)
            have HA := H1.out.below (below_alloc (Below.refl _ _) (.cells #[.int .i64 x, .int .i64 y] 59))
            have hKA : Keeps F w (wr.alloc (.cells #[.int .i64 x, .int .i64 y] 59)) := HP.out.trans (Keeps.of_below (below_alloc (Below.refl _ _) _))
            have hw0 : (wr.alloc (.cells #[.int .i64 x, .int .i64 y] 59)).cell? ⟨wr.heap.size, 0, none⟩ = some (.int .i64 x) := by rw [blk_cell (alloc_new _ _)]; rfl
            have hw1 : (wr.alloc (.cells #[.int .i64 x, .int .i64 y] 59)).cell? ⟨wr.heap.size, 1, none⟩ = some (.int .i64 y) := by rw [blk_cell (alloc_new _ _)]; rfl
            generalize wr.alloc (.cells #[.int .i64 x, .int .i64 y] 59) = W at HA hw0 hw1 hKA ⊢
            have hc2 := HA.cell2
            obtain ⟨w3, hr, HN3, hK3, hO3⟩ := turn_cut (HA.below (below_drew (Below.refl _ _))) hwf.out.1 hwf.out.2 false
            have hne : wr.heap.size ≠ cb := by have := H1.out.flt cb H1.out.fcb; omega
            have hw3 : w3.cell? ⟨wr.heap.size, 0, none⟩ = some (.int .i64 x) := by rw [← hw0]; exact cell_same (hO3.block _ hne)
            have hw3' : w3.cell? ⟨wr.heap.size, 1, none⟩ = some (.int .i64 y) := by rw [← hw1]; exact cell_same (hO3.block _ hne)
            have HN3 := Aside0.mk HN3
            have HK3 := Aside0.mk ((hKA.trans (Keeps.of_below (below_drew (Below.refl _ _)))).trans hK3)
            clear HA hK3 hO3 hne hKA
            go_still_tail 6, (by kernel_rfl)
            go_wp2_with (fail)
            go_round
            case rel => exact ⟨0+1, by omega, by go_num, ⟨_, _, HN3.out⟩, HK3⟩
            case measure => simp [intOf]
        · cases v with
          | true =>
            have hi0 := index1 x y y x wr
            go_wp2_with (fail)
            have HA := H1.out.below (below_alloc (Below.refl _ _) (.cells #[.int .i64 y, .int .i64 x] 59))
            have hKA : Keeps F w (wr.alloc (.cells #[.int .i64 y, .int .i64 x] 59)) := HP.out.trans (Keeps.of_below (below_alloc (Below.refl _ _) _))
            have hw0 : (wr.alloc (.cells #[.int .i64 y, .int .i64 x] 59)).cell? ⟨wr.heap.size, 0, none⟩ = some (.int .i64 y) := by rw [blk_cell (alloc_new _ _)]; rfl
            have hw1 : (wr.alloc (.cells #[.int .i64 y, .int .i64 x] 59)).cell? ⟨wr.heap.size, 1, none⟩ = some (.int .i64 x) := by rw [blk_cell (alloc_new _ _)]; rfl
            generalize wr.alloc (.cells #[.int .i64 y, .int .i64 x] 59) = W at HA hw0 hw1 hKA ⊢
            have hc2 := HA.cell2
            obtain ⟨w3, hr, HN3, hK3, hO3⟩ := turn_cut (HA.below (below_drew (Below.refl _ _))) hwf.out.2 hwf.out.1 true
            have hne : wr.heap.size ≠ cb := by have := H1.out.flt cb H1.out.fcb; omega
            have hw3 : w3.cell? ⟨wr.heap.size, 0, none⟩ = some (.int .i64 y) := by rw [← hw0]; exact cell_same (hO3.block _ hne)
            have hw3' : w3.cell? ⟨wr.heap.size, 1, none⟩ = some (.int .i64 x) := by rw [← hw1]; exact cell_same (hO3.block _ hne)
            have HN3 := Aside0.mk HN3
            have HK3 := Aside0.mk ((hKA.trans (Keeps.of_below (below_drew (Below.refl _ _)))).trans hK3)
            clear HA hK3 hO3 hne hKA
            go_still_tail 6, (by kernel_rfl)
            go_wp2_with (fail)
            clear hw0 hw1 hc2 hr
            have hc1 := HN3.out.cell1
            obtain ⟨w4, hr4, HN4, hK4, hO4⟩ := turn_queue (HN3.out.below (below_drew (Below.refl _ _))) hwf.out.2 hwf.out.1
            have HN4 := Aside0.mk HN4
            have HK4 := Aside0.mk ((HK3.out.trans (Keeps.of_below (below_drew (Below.refl _ _)))).trans hK4)
            clear hK4 hO4
            go_still_tail 5, (by kernel_rfl)
            go_wp2_with (fail)
            go_round
            case rel => exact ⟨1+1, by omega, by go_num, ⟨_, _, HN4.out⟩, HK4⟩
            case measure => simp [intOf]
          | false =>
            have hi0 := index1 x y y x wr
            go_wp2_with (fail)
            have HA := H1.out.below (below_alloc (Below.refl _ _) (.cells #[.int .i64 y, .int .i64 x] 59))
            have hKA : Keeps F w (wr.alloc (.cells #[.int .i64 y, .int .i64 x] 59)) := HP.out.trans (Keeps.of_below (below_alloc (Below.refl _ _) _))
            have hw0 : (wr.alloc (.cells #[.int .i64 y, .int .i64 x] 59)).cell? ⟨wr.heap.size, 0, none⟩ = some (.int .i64 y) := by rw [blk_cell (alloc_new _ _)]; rfl
            have hw1 : (wr.alloc (.cells #[.int .i64 y, .int .i64 x] 59)).cell? ⟨wr.heap.size, 1, none⟩ = some (.int .i64 x) := by rw [blk_cell (alloc_new _ _)]; rfl
            generalize wr.alloc (.cells #[.int .i64 y, .int .i64 x] 59) = W at HA hw0 hw1 hKA ⊢
            have hc2 := HA.cell2
            obtain ⟨w3, hr, HN3, hK3, hO3⟩ := turn_cut (HA.below (below_drew (Below.refl _ _))) hwf.out.2 hwf.out.1 false
            have hne : wr.heap.size ≠ cb := by have := H1.out.flt cb H1.out.fcb; omega
            have hw3 : w3.cell? ⟨wr.heap.size, 0, none⟩ = some (.int .i64 y) := by rw [← hw0]; exact cell_same (hO3.block _ hne)
            have hw3' : w3.cell? ⟨wr.heap.size, 1, none⟩ = some (.int .i64 x) := by rw [← hw1]; exact cell_same (hO3.block _ hne)
            have HN3 := Aside0.mk HN3
            have HK3 := Aside0.mk ((hKA.trans (Keeps.of_below (below_drew (Below.refl _ _)))).trans hK3)
            clear HA hK3 hO3 hne hKA
            go_still_tail 6, (by kernel_rfl)
            go_wp2_with (fail)
            go_round
            case rel => exact ⟨1+1, by omega, by go_num, ⟨_, _, HN3.out⟩, HK3⟩
            case measure => simp [intOf]
        · go_wp2
          go_ret
          exact ⟨rfl, ⟨_, _, _, _, H1.out⟩, HP.out⟩
end Go.Proofs.Ytofacphhfgkemaa.G
