import Derived.Test.YtkmfdkilimkbpaaGb
namespace Go.Proofs.Ytkmfdkilimkbpaa.G
open Go.RowKit Go.Proofs.YtkmfdkilimkbpaaW.PrintWords Go.Proofs.YtkmfdkilimkbpaaW.PrintLast Go.Proofs.YtkmfdkilimkbpaaW.PrintMore
set_option linter.unusedVariables false
set_option linter.unusedSimpArgs false

def chargeF (l0 l1 : List Int) (a2 a3 : Int) : List Int × Int :=
  if validB l0 l1 = false ∨ a2 < 0 ∨ (l1.length : Int) ≤ a2 ∨ bad 0 1000000 a3 = true then ([], 1)
  else if wrap64 (rd l1 a2 + a3) > 1000000 then ([], 9) else (l1.set a2.toNat (wrap64 (rd l1 a2 + a3)), 0)

theorem info3 : (Try.prog.info? 3).map (fun i => (i.zero, i.size, i.bytes)) = some (some (.int .i64 0), 1, 8) := by kernel_rfl

set_option maxHeartbeats 800000 in
theorem charge_any (A0 : Option Addr) (c0 : Nat) (l0 : List Int) (A1 : Option Addr) (c1 : Nat) (l1 : List Int) (a2 a3 : Int) (w : World) (hr0 : Kd.C (Kd.int .i64) w A0 l0.length l0) (hr1 : Kd.C (Kd.int .i64) w A1 l1.length l1) :
    Calls Try.prog 13 #[.slice A0 l0.length c0, .slice A1 l1.length c1, .int .i64 a2, .int .i64 a3] w fun e w' => ∃ v0_ : Value, e = .returned (.tuple #[v0_, .int .i64 (chargeF l0 l1 a2 a3).2]) ∧ Kd.R (Kd.int .i64) 3 w' w.heap.size (fun _ => True) v0_ (chargeF l0 l1 a2 a3).1 ∧ Below w.heap.size w w' := by
  have HR0 := Aside0.mk hr0
  have HR1 := Aside0.mk hr1
  have HV := Aside0.mk (valid_any A0 c0 l0 A1 c1 l1 w hr0 hr1)
  clear hr0 hr1
  cases h1 : validB l0 l1 with
  | false =>
    have H : Hid (chargeF l0 l1 a2 a3 = ([], 1)) := by refine Lib.hid ?_; unfold chargeF; rw [if_pos (.inl h1)]
    rw [H.out]
    go_enter Try.func13, Try.ntmps13
    go_wp2_with (go_at_call 15; refine HV.out.mono ?_; rintro e w1 ⟨rfl, hb⟩; have HB := Aside0.mk hb; clear hb)
    go_ret2
    exact ⟨_, rfl, Kd.R_nil _ _ _ _ _, HB.out⟩
  | true =>
    by_cases h2 : a2 < 0
    · have H : Hid (chargeF l0 l1 a2 a3 = ([], 1)) := by refine Lib.hid ?_; unfold chargeF; rw [if_pos (.inr (.inl h2))]
      rw [H.out]
      go_enter Try.func13, Try.ntmps13
      go_wp2_with (go_at_call 15; refine HV.out.mono ?_; rintro e w1 ⟨rfl, hb⟩; have HB := Aside0.mk hb; clear hb)
      go_ret2
      exact ⟨_, rfl, Kd.R_nil _ _ _ _ _, HB.out⟩
    by_cases h3 : (l1.length : Int) ≤ a2
    · have H : Hid (chargeF l0 l1 a2 a3 = ([], 1)) := by refine Lib.hid ?_; unfold chargeF; rw [if_pos (.inr (.inr (.inl h3)))]
      rw [H.out]
      go_enter Try.func13, Try.ntmps13
      go_wp2_with (go_at_call 15; refine HV.out.mono ?_; rintro e w1 ⟨rfl, hb⟩; have HB := Aside0.mk hb; clear hb)
      go_ret2
      exact ⟨_, rfl, Kd.R_nil _ _ _ _ _, HB.out⟩
    cases h4 : bad 0 1000000 a3 with
    | true =>
      have H : Hid (chargeF l0 l1 a2 a3 = ([], 1)) := by refine Lib.hid ?_; unfold chargeF; rw [if_pos (.inr (.inr (.inr h4)))]
      rw [H.out]
      go_enter Try.func13, Try.ntmps13
      go_wp2_with fail
      refine HV.out.mono ?_; rintro e w1 ⟨rfl, hb⟩; have HB := Aside0.mk hb; clear hb
      go_wp2_with fail
      refine (outside_made _ _ _).mono ?_
      rintro e w2 ⟨lb, rfl, HP, HB2⟩
      go_wp2_with fail
      refine (HP.out _ _ (Below.refl _ _)).mono ?_
      rintro e w3 ⟨rfl, rfl⟩
      go_wp2_with fail
      go_ret2
      exact ⟨_, rfl, Kd.R_nil _ _ _ _ _, HB.out.trans (HB2.out.mono HB.out.size)⟩
    | false =>
      obtain ⟨ad, ead, hx⟩ := Kd.at_int HR1.out a2 (by omega) (by omega)
      cases ead
      have HX := Aside0.mk hx
      have HL : Hid (l1.length ≤ 16) := by
        have := h1
        unfold validB at this
        simp at this
        obtain ⟨⟨h, _⟩, _⟩ := this
        show l1.length ≤ 16
        omega
      clear hx
      by_cases h5 : wrap64 (rd l1 a2 + a3) > 1000000
      · have H : Hid (chargeF l0 l1 a2 a3 = ([], 9)) := by
          refine Lib.hid ?_
          unfold chargeF
          rw [if_neg (by rw [h1, h4]; simp; omega), if_pos h5]
        rw [H.out]
        go_enter Try.func13, Try.ntmps13
        go_wp2_with fail
        refine HV.out.mono ?_; rintro e w1 ⟨rfl, hb⟩; have HB := Aside0.mk hb; clear hb
        go_wp2_with fail
        refine (outside_made _ _ _).mono ?_
        rintro e w2 ⟨lb, rfl, HP, HB2⟩
        have hx2 := pw_cell_below (HB.out.trans (HB2.out.mono HB.out.size)) HX.out
        go_wp2_with fail
        refine (HP.out _ _ (Below.refl _ _)).mono ?_
        rintro e w3 ⟨rfl, rfl⟩
        go_wp2_with fail
        go_ret2
        exact ⟨_, rfl, Kd.R_nil _ _ _ _ _, HB.out.trans (HB2.out.mono HB.out.size)⟩
      · have H : Hid (chargeF l0 l1 a2 a3 = (l1.set a2.toNat (wrap64 (rd l1 a2 + a3)), 0)) := by
          refine Lib.hid ?_
          unfold chargeF
          rw [if_neg (by rw [h1, h4]; simp; omega), if_neg h5]
        rw [H.out]
        go_enter Try.func13, Try.ntmps13
        go_wp2_with fail
        refine HV.out.mono ?_; rintro e w1 ⟨rfl, hb⟩; have HB := Aside0.mk hb; clear hb
        go_wp2_with fail
        refine (outside_made _ _ _).mono ?_
        rintro e w2 ⟨lb, rfl, HP, HB2⟩
        have hx2 := pw_cell_below (HB.out.trans (HB2.out.mono HB.out.size)) HX.out
        go_wp2_with fail
        refine (HP.out _ _ (Below.refl _ _)).mono ?_
        rintro e w3 ⟨rfl, rfl⟩
        have HBB := Aside0.mk (HB.out.trans (HB2.out.mono HB.out.size))
        have hn8 : (l1.length : Int).toNat * 8 ≤ 281474976710656 := by have := HL.out; omega
        have HN8 := Aside0.mk hn8
        clear hn8 HB HB2 HP
        have HPOS := Aside0.mk (show 0 < l1.length by omega)
        have hrep : List.replicate (l1.length : Int).toNat (0 : Int) = List.replicate l1.length 0 := rfl
        have HREP := Aside0.mk hrep
        clear hrep
        have hfin : l1.take (min l1.length (List.replicate l1.length (0 : Int)).length) ++ (List.replicate l1.length (0 : Int)).drop (min l1.length (List.replicate l1.length (0 : Int)).length) = l1 := by simp
        have HFIN := Aside0.mk hfin
        clear hfin
        go_wp2_with (first | ((with_reducible refine gate_dst (N := 41) rfl ?_); refine Kd.R_make (Kd.int .i64) (w0 := w) w.heap.size 3 rfl (N := 41) rfl 22 _ _ rfl (l1.length : Int) rfl rfl Try.underlying22 (.int .i64 0) 8 info3 rfl (by decide) (by omega) (0 : Int) (ok := fun _ => True) (okp := fun _ => True) rfl (fun _ h => h) trivial (Int.natCast_nonneg _) HN8.out HBB.out HBB.out.size ?_; intro v1 w3 ho hb hg hat; rw [HREP.out] at ho; have HO := Aside0.mk ho; have HB := Aside0.mk hb; have HRR := Aside0.mk (Kd.C_below HR1.out hb); clear ho hb hg hat) | ((with_reducible refine gate_builtin (b := .copy) (xs := #[.tmp 42, .tmp 43]) rfl ?_); refine Kd.R_copy (0 : Int) (enc := Value.int .i64) (w0 := w) w.heap.size rfl (.tmp 42) (.tmp 43) 22 22 3 rfl Try.underlying22 (by kernel_rfl) v1 (List.replicate l1.length 0) l1 (some ad) l1.length c1 (fun _ => True) rfl rfl HO.out HRR.out HB.out HB.out.size ?_; intro w4 ho hb hg; rw [HFIN.out] at ho; clear HO HB HRR HREP HFIN hg; obtain ⟨g, cap, eo, gb, gl, cells, hG⟩ := Kd.R_form ho HPOS.out; subst eo; clear hG gl; obtain ⟨hy, hf⟩ : w4.cell? ⟨g, a2.toNat, none⟩ = some (.int .i64 (rd l1 a2)) ∧ w4.frozen? ⟨g, a2.toNat, none⟩ = false := Kd.R_cell (enc := Value.int .i64) (0 : Int) ho a2 h2 h3; have HO := Aside0.mk ho; have HB := Aside0.mk hb; have GB := Aside0.mk gb; clear ho hb gb))
        go_ret2
        exact ⟨_, rfl, (Kd.R_put (enc := Value.int .i64) HO.out a2 _).1, below_set HB.out GB.out⟩
end Go.Proofs.Ytkmfdkilimkbpaa.G
