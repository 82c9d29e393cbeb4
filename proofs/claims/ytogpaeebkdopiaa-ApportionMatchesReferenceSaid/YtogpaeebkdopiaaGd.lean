import Derived.Test.YtogpaeebkdopiaaGc
namespace Go.Proofs.Ytogpaeebkdopiaa.G
open Go.RowKit Go.Proofs.YtogpaeebkdopiaaW.PrintWords Go.Proofs.YtogpaeebkdopiaaW.PrintLast Go.Proofs.YtogpaeebkdopiaaW.PrintMore
set_option linter.unusedVariables false
set_option linter.unusedSimpArgs false

def wrongB (total : Int) (ws : List Int) : Bool := decide (ws.length < 1 ∨ 200 < ws.length) || ws.any bad || decide (total < 0 ∨ 720 < total)
def shareF (total : Int) (ws : List Int) : List Int × Int :=
  if wrongB total ws = true then ([], 1) else if maxL ws = 0 ∧ 0 < total then ([], 10) else (outTo (iterL (partsTo ws ws.length) total.toNat) ws.length, 0)

theorem info3 : (Try.prog.info? 3).map (fun i => (i.zero, i.size, i.bytes)) = some (some (.int .i64 0), 1, 8) := by kernel_rfl
theorem info42 : (Try.prog.info? 42).map (fun i => (i.zero, i.size, i.bytes)) = some (some (.agg #[.int .i64 0, .int .i64 0]), 2, 16) := by kernel_rfl

set_option maxHeartbeats 2000000 in
theorem share_wrong (total : Int) (A : Option Addr) (c : Nat) (ws : List Int) (w : World) (hr : Kd.C (Kd.int .i64) w A ws.length ws) (h : wrongB total ws = true) :
    Calls Try.prog 10 #[.int .i64 total, .slice A ws.length c] w fun e w' => e = .returned (.tuple #[.slice none 0 0, .int .i64 1]) ∧ w = w' := by
  have HR := Aside0.mk hr
  have H := Aside0.mk h
  clear hr h
  by_cases h1 : (ws.length : Int) < 1
  · go_enter Try.func10, Try.ntmps10
    go_wp2
    go_ret2
    exact ⟨rfl, rfl⟩
  by_cases h2 : (200 : Int) < ws.length
  · go_enter Try.func10, Try.ntmps10
    go_wp2
    go_ret2
    exact ⟨rfl, rfl⟩
  have HC := Aside0.mk (contains_any A c ws 14 #[] enters14 bad w HR.out (wrong_fn w))
  cases h3 : ws.any bad with
  | true =>
    go_enter Try.func10, Try.ntmps10
    go_wp2_with (go_at_call 15; refine HC.out.mono ?_; rintro e w1 ⟨rfl, rfl⟩)
    go_ret2
    exact ⟨rfl, rfl⟩
  | false =>
    by_cases h4 : total < 0
    · go_enter Try.func10, Try.ntmps10
      go_wp2_with (go_at_call 15; refine HC.out.mono ?_; rintro e w1 ⟨rfl, rfl⟩)
      go_ret2
      exact ⟨rfl, rfl⟩
    · have h5 : 720 < total := by
        rcases Int.lt_or_le 720 total with h | h
        · exact h
        · have := H.out
          unfold wrongB at this
          rw [h3, decide_eq_false (by omega), decide_eq_false (by omega)] at this
          exact absurd this (by decide)
      go_enter Try.func10, Try.ntmps10
      go_wp2_with (go_at_call 15; refine HC.out.mono ?_; rintro e w1 ⟨rfl, rfl⟩)
      go_ret2
      exact ⟨rfl, rfl⟩

/-- What stands where nothing is wrong. -/
theorem right_of {total : Int} {ws : List Int} (h : wrongB total ws = false) : 1 ≤ ws.length ∧ ws.length ≤ 200 ∧ ws.any bad = false ∧ 0 ≤ total ∧ total ≤ 720 := by
  unfold wrongB at h
  simp only [Bool.or_eq_false_iff, decide_eq_false_iff_not] at h
  exact ⟨by omega, by omega, h.1.2, by omega, by omega⟩

set_option maxHeartbeats 2000000 in
theorem share_none (total : Int) (A : Option Addr) (c : Nat) (ws : List Int) (w : World) (hr : Kd.C (Kd.int .i64) w A ws.length ws) (h : wrongB total ws = false) (hm : maxL ws = 0) (ht : 0 < total) :
    Calls Try.prog 10 #[.int .i64 total, .slice A ws.length c] w fun e w' => e = .returned (.tuple #[.slice none 0 0, .int .i64 10]) ∧ w = w' := by
  obtain ⟨h1, h2, h3, h4, h5⟩ := right_of h
  have HC := Aside0.mk (contains_any A c ws 14 #[] enters14 bad w hr (wrong_fn w))
  have hx := max_any A c ws w hr h1
  rw [hm] at hx
  have HX := Aside0.mk hx
  clear hr h hx hm
  have b1 : ¬ (ws.length : Int) < 1 := by omega
  have b2 : ¬ (200 : Int) < ws.length := by omega
  have b4 : ¬ total < 0 := by omega
  have b5 : ¬ 720 < total := by omega
  clear h1 h2 h4 h5
  go_enter Try.func10, Try.ntmps10
  go_wp2_with (first | (go_at_call 15; refine HC.out.mono ?_; rintro e w1 ⟨rfl, rfl⟩) | (go_at_call 16; refine HX.out.mono ?_; rintro e w1 ⟨rfl, rfl⟩))
  go_ret2
  exact ⟨rfl, rfl⟩

theorem best_n (g n c : Nat) (l : List (Int × Int)) (w : World) (hn : l.length = n) (hl : n ≤ 1000) (hh : Holds w g l) :
    Calls Try.prog 17 #[.slice (some ⟨g, 0, none⟩) n c, .func (.func 18) #[] #[]] w fun e w' => e = .returned (.int .i64 (bestTo l n)) ∧ Below w.heap.size w w' := by
  subst hn; exact best_any g c l w hl hh

set_option maxHeartbeats 4000000 in
theorem share_okA (T : Nat) (A : Option Addr) (c : Nat) (ws : List Int) (w : World) (hr : Kd.C (Kd.int .i64) w A ws.length ws) (h : wrongB (T : Int) ws = false) (hz : (maxL ws == 0) = false) :
    Calls Try.prog 10 #[.int .i64 (T : Int), .slice A ws.length c] w fun e w' => ∃ g : Nat, e = .returned (.tuple #[.slice (some ⟨g, 0, none⟩) ws.length ws.length, .int .i64 0]) ∧ w.heap.size ≤ g ∧ HoldsI w' g (outTo (iterL (partsTo ws ws.length) T) ws.length) ∧ Below w.heap.size w w' := by
  obtain ⟨h1, h2, h3, b4, b5⟩ := right_of h
  have HC := Aside0.mk (contains_any A c ws 14 #[] enters14 bad w hr (wrong_fn w))
  have HX := Aside0.mk (max_any A c ws w hr h1)
  have HR := Aside0.mk hr
  have HM := Aside0.mk (made_parts ws.length)
  have HM2 := Aside0.mk (made_ints ws.length)
  have b1 : ¬ (ws.length : Int) < 1 := by omega
  have b2 : ¬ (200 : Int) < ws.length := by omega
  have HN := Aside0.mk h2
  have HP := Aside0.mk h1
  clear hr h h1 h2
  go_enter Try.func10, Try.ntmps10
  go_wp2_with (first | (go_at_call 15; refine HC.out.mono ?_; rintro e w1 ⟨rfl, rfl⟩) | (go_at_call 16; refine HX.out.mono ?_; rintro e w1 ⟨rfl, rfl⟩) | ((with_reducible refine gate_dst (N := 45) rfl ?_); go_loud (refine make_event ?hg (N := 45) ?hd 40 42 (.tmp 44) (.tmp 44) ?ho ws.length ?hx ?hy Try.underlying40 (.agg #[.int .i64 0, .int .i64 0]) 2 16 info42 (Nat.succ_pos 15) ?hl (flatL (List.replicate ws.length (0, 0))) HM.out ?_); (case hg => rfl); (case hd => rfl); (case ho => rfl); (case hx => rfl); (case hy => rfl); (case hl => have := HN.out; omega); intro g w1 HG HB1 HGE))

  go_loopw [48] (fun v wr => ∃ k : Nat, k ≤ ws.length ∧ v = .int .i64 k ∧ Aside0 (Holds wr g (partsTo ws k)) ∧ Aside0 (Below w.heap.size w wr)) (fun v _ => ws.length - (intOf v).toNat)
  case atStart => exact ⟨0, Nat.zero_le _, rfl, ⟨HG.out⟩, ⟨HB1.out⟩⟩
  case round =>
    obtain ⟨k, hk, rfl, HH, HB⟩ := hrel
    by_cases hlt : k < ws.length
    · obtain ⟨ad, ead, hx⟩ := Kd.at_int (Kd.C_below HR.out HB.out) k (by omega) (by omega)
      cases ead
      rw [Int.toNat_natCast] at hx
      obtain ⟨x0, x1⟩ := HH.out.cells k (by rw [partsTo_length]; exact hlt)
      have xf := blk_frozen HH.out (k * 2)
      have HS : Aside0 (Holds (wr.setCell ⟨g, k * 2, none⟩ (.int .i64 (rd ws k))) g (partsTo ws (k + 1))) := ⟨HH.out.set1 k (by rw [partsTo_length]; exact hlt) (rd ws k)⟩
      generalize rd ws k = y at *
      go_wp2
      exact ⟨⟨k + 1, by omega, by go_num, HS, ⟨below_set HB.out HGE.out⟩⟩, by simp [intOf]; omega⟩
    · obtain rfl : k = ws.length := by omega
      generalize hP : partsTo ws ws.length = P at *
      have HPl := Aside0.mk (show P.length = ws.length by rw [← hP, partsTo_length])
      have HPe := Aside0.mk hP
      clear hP hk hlt
      go_wp2
      obtain ⟨wo, hwo⟩ : ∃ wo : World, wo = wr := ⟨_, rfl⟩
      go_loopw [60] (fun v wr => ∃ t : Nat, t ≤ T ∧ v = .int .i64 t ∧ Aside0 (Holds wr g (iterL P t)) ∧ Aside0 (Below w.heap.size w wr)) (fun v _ => T - (intOf v).toNat)
      case atStart => exact ⟨0, Nat.zero_le _, rfl, HH, HB⟩
      case round =>
        clear HH HB hwo wo
        obtain ⟨t, ht, rfl, HH, HB⟩ := hrel
        by_cases htT : t < T
        · have hll : (iterL P t).length = ws.length := by rw [iterL_length]; exact HPl.out
          have HLL := Aside0.mk hll
          have hb := bestTo_lt (iterL P t) (by rw [hll]; exact HP.out) ws.length (by omega)
          rw [hll] at hb
          have HS : Hid (iterL P (t + 1) = (iterL P t).set (bestTo (iterL P t) ws.length) ((pt (iterL P t) (bestTo (iterL P t) ws.length)).1, wrap64 ((pt (iterL P t) (bestTo (iterL P t) ws.length)).2 + 1))) := by
            refine Lib.hid ?_
            show stepL (iterL P t) = _
            unfold stepL
            rw [hll]
          have HC2 := Aside0.mk (fun W c => best_n g ws.length c (iterL P t) W hll (by have := HN.out; omega))
          clear hll
          generalize bestTo (iterL P t) ws.length = b at *
          generalize iterL P t = l at *
          go_wp2_with (go_at_call 17; refine (HC2.out _ _ HH.out).mono ?_; rintro e w2 ⟨rfl, hb2⟩; have HH2 := Aside0.mk (HH.out.below hb2); have HB2 := Aside0.mk (HB.out.trans (hb2.mono HB.out.size)); clear hb2 HB HH; obtain ⟨x0, x1⟩ := HH2.out.cells b (by rw [HLL.out]; exact hb); have xf := blk_frozen HH2.out (b * 2 + 1))
          exact ⟨⟨t + 1, by omega, by go_num, ⟨by rw [HS.out]; exact HH2.out.set2 b (by rw [HLL.out]; exact hb) _⟩, ⟨below_set HB2.out HGE.out⟩⟩, by simp [intOf]; omega⟩
        · obtain rfl : t = T := by omega
          have hll : (iterL P t).length = ws.length := by rw [iterL_length]; exact HPl.out
          have HLL := Aside0.mk hll
          clear hll
          generalize hL : iterL P t = l at *
          have HLe := Aside0.mk hL
          clear hL
          go_wp2_with ((with_reducible refine gate_dst (N := 74) rfl ?_); go_loud (refine make_event ?hg (N := 74) ?hd 22 3 (.tmp 73) (.tmp 73) ?ho ws.length ?hx ?hy Try.underlying22 (.int .i64 0) 1 8 info3 (Nat.succ_pos 7) ?hl (nums .i64 (List.replicate ws.length 0)) HM2.out ?_); (case hg => rfl); (case hd => rfl); (case ho => rfl); (case hx => rfl); (case hy => rfl); (case hl => have := HN.out; omega); intro h w2 HO HB2 HOE)
          have HH3 := Aside0.mk (HH.out.below HB2.out)
          have HB3 := Aside0.mk (HB.out.trans (HB2.out.mono HB.out.size))
          have HOE2 := Aside0.mk (Nat.le_trans HB.out.size HOE.out)
          clear HH HB HB2 HOE
          go_loopw [77] (fun v wr => ∃ k : Nat, k ≤ ws.length ∧ v = .int .i64 k ∧ Aside0 (Holds wr g l) ∧ Aside0 (HoldsI wr h (outTo l k)) ∧ Aside0 (Below w.heap.size w wr)) (fun v _ => ws.length - (intOf v).toNat)
          case atStart => exact ⟨0, Nat.zero_le _, rfl, HH3, ⟨by unfold outTo; rw [HLL.out]; exact HO.out⟩, HB3⟩
          case round =>
            clear HO HH3 HB3
            obtain ⟨k, hk, rfl, HH, HI, HB⟩ := hrel
            by_cases hlt : k < ws.length
            · have hkl : k < l.length := by rw [HLL.out]; exact hlt
              have hbx : Below wr.heap.size wr (wr.alloc (.cells #[.int .i64 (pt l k).1, .int .i64 (pt l k).2] 42)) := below_alloc (Below.refl _ _) _
              obtain ⟨x0, x1⟩ := HH.out.cells k hkl
              have y0 := (HI.out.below hbx).cell k (by rw [outTo_length]; exact hkl)
              have yf := blk_frozen (HI.out.below hbx) k
              have HS : Aside0 (HoldsI ((wr.alloc (.cells #[.int .i64 (pt l k).1, .int .i64 (pt l k).2] 42)).setCell ⟨h, k, none⟩ (.int .i64 (pt l k).2)) h (outTo l (k + 1))) := ⟨(HI.out.below hbx).set k _⟩
              have hne := blk_ne HH.out HI.out (by decide)
              have HH4 : Aside0 (Holds ((wr.alloc (.cells #[.int .i64 (pt l k).1, .int .i64 (pt l k).2] 42)).setCell ⟨h, k, none⟩ (.int .i64 (pt l k).2)) g l) := ⟨blk_far (HH.out.below hbx) hne _⟩
              have HB4 : Aside0 (Below w.heap.size w ((wr.alloc (.cells #[.int .i64 (pt l k).1, .int .i64 (pt l k).2] 42)).setCell ⟨h, k, none⟩ (.int .i64 (pt l k).2))) := ⟨below_set (HB.out.trans (hbx.mono HB.out.size)) HOE2.out⟩
              clear hbx hne hkl HI HB HH
              generalize pt l k = p at *
              go_wp2
              exact ⟨⟨k + 1, by omega, by go_num, HH4, HS, HB4⟩, by simp [intOf]; omega⟩
            · obtain rfl : k = ws.length := by omega
              clear HH
              go_wp2
              go_ret2
              exact ⟨h, rfl, HOE2.out, by rw [HPe.out, HLe.out]; exact HI.out, HB.out⟩

set_option maxHeartbeats 4000000 in
theorem share_okB (T : Nat) (A : Option Addr) (c : Nat) (ws : List Int) (w : World) (hr : Kd.C (Kd.int .i64) w A ws.length ws) (h : wrongB (T : Int) ws = false) (hz : (maxL ws == 0) = true) (hz2 : ¬ (0 : Int) < (T : Int)) :
    Calls Try.prog 10 #[.int .i64 (T : Int), .slice A ws.length c] w fun e w' => ∃ g : Nat, e = .returned (.tuple #[.slice (some ⟨g, 0, none⟩) ws.length ws.length, .int .i64 0]) ∧ w.heap.size ≤ g ∧ HoldsI w' g (outTo (iterL (partsTo ws ws.length) T) ws.length) ∧ Below w.heap.size w w' := by
  obtain ⟨h1, h2, h3, b4, b5⟩ := right_of h
  have HC := Aside0.mk (contains_any A c ws 14 #[] enters14 bad w hr (wrong_fn w))
  have HX := Aside0.mk (max_any A c ws w hr h1)
  have HR := Aside0.mk hr
  have HM := Aside0.mk (made_parts ws.length)
  have HM2 := Aside0.mk (made_ints ws.length)
  have b1 : ¬ (ws.length : Int) < 1 := by omega
  have b2 : ¬ (200 : Int) < ws.length := by omega
  have HN := Aside0.mk h2
  have HP := Aside0.mk h1
  clear hr h h1 h2
  go_enter Try.func10, Try.ntmps10
  go_wp2_with (first | (go_at_call 15; refine HC.out.mono ?_; rintro e w1 ⟨rfl, rfl⟩) | (go_at_call 16; refine HX.out.mono ?_; rintro e w1 ⟨rfl, rfl⟩) | ((with_reducible refine gate_dst (N := 45) rfl ?_); go_loud (refine make_event ?hg (N := 45) ?hd 40 42 (.tmp 44) (.tmp 44) ?ho ws.length ?hx ?hy Try.underlying40 (.agg #[.int .i64 0, .int .i64 0]) 2 16 info42 (Nat.succ_pos 15) ?hl (flatL (List.replicate ws.length (0, 0))) HM.out ?_); (case hg => rfl); (case hd => rfl); (case ho => rfl); (case hx => rfl); (case hy => rfl); (case hl => have := HN.out; omega); intro g w1 HG HB1 HGE))

  go_loopw [48] (fun v wr => ∃ k : Nat, k ≤ ws.length ∧ v = .int .i64 k ∧ Aside0 (Holds wr g (partsTo ws k)) ∧ Aside0 (Below w.heap.size w wr)) (fun v _ => ws.length - (intOf v).toNat)
  case atStart => exact ⟨0, Nat.zero_le _, rfl, ⟨HG.out⟩, ⟨HB1.out⟩⟩
  case round =>
    obtain ⟨k, hk, rfl, HH, HB⟩ := hrel
    by_cases hlt : k < ws.length
    · obtain ⟨ad, ead, hx⟩ := Kd.at_int (Kd.C_below HR.out HB.out) k (by omega) (by omega)
      cases ead
      rw [Int.toNat_natCast] at hx
      obtain ⟨x0, x1⟩ := HH.out.cells k (by rw [partsTo_length]; exact hlt)
      have xf := blk_frozen HH.out (k * 2)
      have HS : Aside0 (Holds (wr.setCell ⟨g, k * 2, none⟩ (.int .i64 (rd ws k))) g (partsTo ws (k + 1))) := ⟨HH.out.set1 k (by rw [partsTo_length]; exact hlt) (rd ws k)⟩
      generalize rd ws k = y at *
      go_wp2
      exact ⟨⟨k + 1, by omega, by go_num, HS, ⟨below_set HB.out HGE.out⟩⟩, by simp [intOf]; omega⟩
    · obtain rfl : k = ws.length := by omega
      generalize hP : partsTo ws ws.length = P at *
      have HPl := Aside0.mk (show P.length = ws.length by rw [← hP, partsTo_length])
      have HPe := Aside0.mk hP
      clear hP hk hlt
      go_wp2
      obtain ⟨wo, hwo⟩ : ∃ wo : World, wo = wr := ⟨_, rfl⟩
      go_loopw [60] (fun v wr => ∃ t : Nat, t ≤ T ∧ v = .int .i64 t ∧ Aside0 (Holds wr g (iterL P t)) ∧ Aside0 (Below w.heap.size w wr)) (fun v _ => T - (intOf v).toNat)
      case atStart => exact ⟨0, Nat.zero_le _, rfl, HH, HB⟩
      case round =>
        clear HH HB hwo wo
        obtain ⟨t, ht, rfl, HH, HB⟩ := hrel
        by_cases htT : t < T
        · exact absurd htT (by omega)
        · obtain rfl : t = T := by omega
          have hll : (iterL P t).length = ws.length := by rw [iterL_length]; exact HPl.out
          have HLL := Aside0.mk hll
          clear hll
          generalize hL : iterL P t = l at *
          have HLe := Aside0.mk hL
          clear hL
          go_wp2_with ((with_reducible refine gate_dst (N := 74) rfl ?_); go_loud (refine make_event ?hg (N := 74) ?hd 22 3 (.tmp 73) (.tmp 73) ?ho ws.length ?hx ?hy Try.underlying22 (.int .i64 0) 1 8 info3 (Nat.succ_pos 7) ?hl (nums .i64 (List.replicate ws.length 0)) HM2.out ?_); (case hg => rfl); (case hd => rfl); (case ho => rfl); (case hx => rfl); (case hy => rfl); (case hl => have := HN.out; omega); intro h w2 HO HB2 HOE)
          have HH3 := Aside0.mk (HH.out.below HB2.out)
          have HB3 := Aside0.mk (HB.out.trans (HB2.out.mono HB.out.size))
          have HOE2 := Aside0.mk (Nat.le_trans HB.out.size HOE.out)
          clear HH HB HB2 HOE
          go_loopw [77] (fun v wr => ∃ k : Nat, k ≤ ws.length ∧ v = .int .i64 k ∧ Aside0 (Holds wr g l) ∧ Aside0 (HoldsI wr h (outTo l k)) ∧ Aside0 (Below w.heap.size w wr)) (fun v _ => ws.length - (intOf v).toNat)
          case atStart => exact ⟨0, Nat.zero_le _, rfl, HH3, ⟨by unfold outTo; rw [HLL.out]; exact HO.out⟩, HB3⟩
          case round =>
            clear HO HH3 HB3
            obtain ⟨k, hk, rfl, HH, HI, HB⟩ := hrel
            by_cases hlt : k < ws.length
            · have hkl : k < l.length := by rw [HLL.out]; exact hlt
              have hbx : Below wr.heap.size wr (wr.alloc (.cells #[.int .i64 (pt l k).1, .int .i64 (pt l k).2] 42)) := below_alloc (Below.refl _ _) _
              obtain ⟨x0, x1⟩ := HH.out.cells k hkl
              have y0 := (HI.out.below hbx).cell k (by rw [outTo_length]; exact hkl)
              have yf := blk_frozen (HI.out.below hbx) k
              have HS : Aside0 (HoldsI ((wr.alloc (.cells #[.int .i64 (pt l k).1, .int .i64 (pt l k).2] 42)).setCell ⟨h, k, none⟩ (.int .i64 (pt l k).2)) h (outTo l (k + 1))) := ⟨(HI.out.below hbx).set k _⟩
              have hne := blk_ne HH.out HI.out (by decide)
              have HH4 : Aside0 (Holds ((wr.alloc (.cells #[.int .i64 (pt l k).1, .int .i64 (pt l k).2] 42)).setCell ⟨h, k, none⟩ (.int .i64 (pt l k).2)) g l) := ⟨blk_far (HH.out.below hbx) hne _⟩
              have HB4 : Aside0 (Below w.heap.size w ((wr.alloc (.cells #[.int .i64 (pt l k).1, .int .i64 (pt l k).2] 42)).setCell ⟨h, k, none⟩ (.int .i64 (pt l k).2))) := ⟨below_set (HB.out.trans (hbx.mono HB.out.size)) HOE2.out⟩
              clear hbx hne hkl HI HB HH
              generalize pt l k = p at *
              go_wp2
              exact ⟨⟨k + 1, by omega, by go_num, HH4, HS, HB4⟩, by simp [intOf]; omega⟩
            · obtain rfl : k = ws.length := by omega
              clear HH
              go_wp2
              go_ret2
              exact ⟨h, rfl, HOE2.out, by rw [HPe.out, HLe.out]; exact HI.out, HB.out⟩

theorem share_okN (T : Nat) (A : Option Addr) (c : Nat) (ws : List Int) (w : World) (hr : Kd.C (Kd.int .i64) w A ws.length ws) (h : wrongB (T : Int) ws = false) (hm : ¬ (maxL ws = 0 ∧ 0 < (T : Int))) :
    Calls Try.prog 10 #[.int .i64 (T : Int), .slice A ws.length c] w fun e w' => ∃ g : Nat, e = .returned (.tuple #[.slice (some ⟨g, 0, none⟩) ws.length ws.length, .int .i64 0]) ∧ w.heap.size ≤ g ∧ HoldsI w' g (outTo (iterL (partsTo ws ws.length) T) ws.length) ∧ Below w.heap.size w w' := by
  cases hz : (maxL ws == 0) with
  | false => exact share_okA T A c ws w hr h hz
  | true => exact share_okB T A c ws w hr h hz (fun h => hm ⟨by simpa using hz, h⟩)

/-- Share, whatever it is handed. -/
theorem share_any (total : Int) (A : Option Addr) (c : Nat) (ws : List Int) (w : World) (hr : Kd.C (Kd.int .i64) w A ws.length ws) :
    Calls Try.prog 10 #[.int .i64 total, .slice A ws.length c] w fun e w' => ∃ v0_ : Value, e = .returned (.tuple #[v0_, .int .i64 (shareF total ws).2]) ∧ Kd.R (Kd.int .i64) 3 w' w.heap.size (fun _ => True) v0_ (shareF total ws).1 ∧ Below w.heap.size w w' := by
  unfold shareF
  cases h : wrongB total ws with
  | true =>
    rw [if_pos rfl]
    exact (share_wrong total A c ws w hr h).mono fun e w' ⟨he, hw⟩ => ⟨_, he, Kd.R_nil _ _ _ _ _, hw ▸ Below.refl _ _⟩
  | false =>
    rw [if_neg (by decide)]
    by_cases hm : maxL ws = 0 ∧ 0 < total
    · rw [if_pos hm]
      exact (share_none total A c ws w hr h hm.1 hm.2).mono fun e w' ⟨he, hw⟩ => ⟨_, he, Kd.R_nil _ _ _ _ _, hw ▸ Below.refl _ _⟩
    · rw [if_neg hm]
      obtain ⟨h1, h2, h3, h4, h5⟩ := right_of h
      obtain ⟨T, rfl⟩ : ∃ T : Nat, total = T := ⟨total.toNat, by omega⟩
      refine (share_okN T A c ws w hr h hm).mono fun e w' ⟨g, he, hg, hI, hb⟩ => ⟨_, he, ?_, hb⟩
      have hl : (outTo (iterL (partsTo ws ws.length) T) ws.length).length = ws.length := by rw [outTo_length, iterL_length, partsTo_length]
      have := hI.row hg (by rw [hl]; omega)
      rw [hl] at this
      exact this
end Go.Proofs.Ytogpaeebkdopiaa.G
