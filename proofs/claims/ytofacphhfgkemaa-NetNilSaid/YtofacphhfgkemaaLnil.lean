/- NetNil: nothing can be done with a nil network; a text of more than 20000 bytes is refused, and one of 20000 is not. -/
import Derived.Test.YtofacphhfgkemaaGl
import Derived.Test.YtofacphhfgkemaaGm
namespace Go.Proofs.Ytofacphhfgkemaa.G
open Go.Sort Go.RowKit Go.Proofs.YtofacphhfgkemaaW.PrintWords Go.Proofs.YtofacphhfgkemaaW.PrintLast Go.Proofs.YtofacphhfgkemaaW.PrintMore
set_option linter.unusedVariables false
set_option linter.unusedSimpArgs false

set_option maxHeartbeats 2000000 in
set_option maxRecDepth 1000000 in
theorem netNil_calls (w : World) (x y : Int) (lost again : Bool) (t : ByteArray) :
    Calls Try.prog 7 #[.int .i64 x, .int .i64 y, .bool lost, .bool again, .string t] w fun e w' => e = .returned (.bool true) ∧ RowKit.Below w.heap.size w w' := by
  go_enter Try.func7, Try.ntmps7
  go_wp2_with (fail)
  refine (head_calls w).mono ?_
  rintro e W0 ⟨rfl, hb⟩
  have HB := Aside0.mk hb
  clear hb
  go_wp2_with (fail)
  refine (deliver_nil W0 x y 0 lost again).mono ?_
  rintro e W1 ⟨rfl, hb⟩
  replace HB := Aside0.mk (below_then HB.out HB.out.size hb)
  clear hb
  go_wp2_with (fail)
  refine (send_nil W1 x y t).mono ?_
  rintro e W2 ⟨rfl, hb⟩
  replace HB := Aside0.mk (below_then HB.out HB.out.size hb)
  clear hb
  go_wp2_with (fail)
  refine (waiting_nil W2 x y).mono ?_
  rintro e W3 ⟨rfl, hb⟩
  replace HB := Aside0.mk (below_then HB.out HB.out.size hb)
  clear hb
  go_wp2_with (fail)
  refine (cut_nil W3 x y).mono ?_
  rintro e W4 ⟨rfl, hb⟩
  replace HB := Aside0.mk (below_then HB.out HB.out.size hb)
  clear hb
  go_wp2_with (fail)
  refine (heal_nil W4 x y).mono ?_
  rintro e W5 ⟨rfl, hb⟩
  replace HB := Aside0.mk (below_then HB.out HB.out.size hb)
  clear hb
  go_wp2_with (fail)
  refine (new_ok W5 2 (by omega) (by omega)).mono ?_
  rintro e W6 ⟨a, rfl, h1, h2⟩
  have NI := Aside0.mk (NetIn.mk (w := W5) h1 (fun k hk => hk.1) h2)
  clear h1 h2
  have hinfo5 : (Try.prog.info? 5).map (fun i => (i.zero, i.size, i.bytes)) = some (some (.int .u8 0), 1, 1) := by kernel_rfl
  go_wp2_with ((with_reducible refine gate_dst (N := 77) rfl ?_); refine Kd.R_make (Kd.int .u8) (w0 := W6) W6.heap.size 5 rfl (N := 77) rfl 50 (.const (.int .i64 20000)) (.const (.int .i64 20000)) rfl (20000 : Int) rfl rfl Try.underlying50 (.int .u8 0) 1 hinfo5 rfl (by decide) (by omega) (0 : Int) (ok := fun k => W6.heap.size ≤ k) (okp := fun k => W6.heap.size ≤ k) rfl (fun _ h => h) (Nat.le_refl _) (by omega) (by decide) (Below.refl _ _) (Nat.le_refl _) ?_; intro v1 W7 ho hb hg hat; obtain ⟨l0, hl0, hn0⟩ : ∃ l0 : List Int, List.replicate (20000 : Int).toNat (0 : Int) = l0 ∧ l0.length = 20000 := ⟨_, rfl, by rw [List.length_replicate]; rfl⟩; rw [hl0] at ho; obtain ⟨A, c, hv, hcap, hC⟩ := Kd.R_reads ho; rw [hn0] at hv hC; subst hv; have hcv := Kd.C_string Try.underlying50 Try.underlying5 Try.underlying9 (c := c) hC; have HL0 := Aside0.mk hn0; have HO := Aside0.mk ho; have HB7 := Aside0.mk hb; clear ho hb hg hat hC hl0 hn0)
  have hs1 : (strOfNums l0).size = 20000 := by rw [← HL0.out]; simp [strOfNums, ByteArray.size]
  have HS1 := Aside0.mk hs1
  generalize strOfNums l0 = T1 at hcv HS1
  clear hs1
  have NI7 := Aside0.mk (NI.out.under HB7.out)
  have HE := Aside0.mk (show sendE 2 q0 c0 0 1 T1 = 0 by
    unfold sendE
    rw [show knowsB 2 0 1 = true by decide, if_neg (by have := HS1.out; simp; omega), if_neg (by simp), if_neg (by simp)])
  go_wp2_with (fail)
  refine (send_calls NI7.out.is 0 1 T1 (by have := HS1.out; omega)).mono ?_
  rintro e W8 ⟨rfl, h1, h2⟩
  rw [HE.out]
  have NI8 := Aside0.mk (NI7.out.step h1 h2)
  have HO8 := Aside0.mk (Kd.R_step HO.out (fun k hk hlt => h2.block k hlt (fun hf => by have := hf.2; omega)))
  have HL8 := Aside0.mk h2.size
  clear h1 h2 hcv
  have HL6 := Aside0.mk (Nat.le_trans HB7.out.size HL8.out)
  have HW7 := Aside0.mk (show RowKit.Below W6.heap.size W6 W7 from HB7.out)
  have HNE := Aside0.mk (show ∀ k, (newF (since W5 W6) W7 W8) k → some k ≠ (Value.slice A 20000 c).ownBlock from fun k hk e => by
    obtain ⟨inner, ho⟩ := Kd.R_own HO.out
    have g1 := own_base ho k e.symm
    have g2 := own_lt ho k e.symm
    rcases hk with h | h
    · have := h.2; omega
    · have := h.1; omega)
  go_wp2_with ((with_reducible refine gate_dst (N := 85) rfl ?_); refine Kd.R_append (Kd.int .u8) (w0 := W8) (W := W8) W6.heap.size rfl (.tmp 83) (.tmp 84) 50 5 (.int .u8 0) 1 rfl Try.underlying50 hinfo5 rfl (by decide) (by omega) (.slice A 20000 c) l0 (120 : Int) [.int .u8 120] (fun k => W6.heap.size ≤ k) (fun _ => False) rfl rfl rfl (fun _ h => h.elim) (fun k hk => Nat.le_trans HL6.out hk) HO8.out (Below.refl _ _) HL6.out (by rw [HL0.out]; omega) ?_; intro v2 W9 ho hb hg hat; obtain ⟨A2, c2, hv, hcap, hC⟩ := Kd.R_reads ho; have hn2 : (l0 ++ [(120 : Int)]).length = 20001 := (by first | (rw [List.length_append, HL0.out]; done) | (rw [List.length_append, HL0.out]; rfl)); rw [hn2] at hv hC; subst hv; have hcv := Kd.C_string Try.underlying50 Try.underlying5 Try.underlying9 (c := c2) hC; have HG9 := Aside0.mk hg; have HB9 := Aside0.mk hb; clear ho hb hg hat hC hn2)
  have hs2 : (strOfNums (l0 ++ [120])).size = 20001 := by simp [strOfNums, ByteArray.size, HL0.out]
  have HS2 := Aside0.mk hs2
  generalize strOfNums (l0 ++ [120]) = T2 at HS2
  clear hs2
  have NI9 := Aside0.mk (NetIn.mk (w := W5) (NI8.out.is.same (fun k hk => HG9.out.block k (NI8.out.is.flt k hk) (HNE.out k hk)) HG9.out.size) NI8.out.low (NI8.out.below.trans (HB9.out.mono NI.out.below.size)))
  have HE2 := Aside0.mk (show sendE 2 (sendQ 2 q0 c0 0 1 T1) c0 0 1 T2 = 1 by
    unfold sendE
    rw [if_pos (.inr (by have := HS2.out; omega))])
  have HWQ := Aside0.mk (show (if knowsB 2 0 1 then sendQ 2 (sendQ 2 q0 c0 0 1 T1) c0 0 1 T2 0 1 else []) = [T1] by
    rw [show knowsB 2 0 1 = true by decide, if_pos rfl, sendQ, HE2.out, if_neg (by decide), sendQ, HE.out, if_pos rfl]
    simp [updQ])
  refine (send_calls NI9.out.is 0 1 T2 (by have := HS2.out; omega)).mono ?_
  rintro e W10 ⟨rfl, h1, h2⟩
  rw [HE2.out]
  have NI10 := Aside0.mk (NI9.out.step h1 h2)
  clear h1 h2
  go_wp2_with (fail)
  refine (waits NI10.out.is 0 1).mono ?_
  rintro e W11 ⟨A3, c3, rfl, hC, ho, hb⟩
  rw [HWQ.out]
  have HB11 := Aside0.mk (below_then (below_then HB.out HB.out.size NI10.out.below) (by have := HB.out.size; have := NI10.out.below.size; omega) hb)
  clear hC ho hb
  go_wp2_with (fail)
  go_ret
  exact ⟨rfl, HB11.out⟩
end Go.Proofs.Ytofacphhfgkemaa.G
