/- The reference's Heal and Do. -/
import Derived.Test.YtofacphhfgkemaaRe
namespace Go.Proofs.Ytofacphhfgkemaa.G
open Go.Sort Go.RowKit Go.Proofs.YtofacphhfgkemaaW.PrintWords Go.Proofs.YtofacphhfgkemaaW.PrintLast Go.Proofs.YtofacphhfgkemaaW.PrintMore
open Go.Proofs.Ytofacphhfgkemaa.PNet
set_option linter.unusedVariables false
set_option linter.unusedSimpArgs false
section
variable {F F' : Nat → Prop} {w w1 : World} {r : Nat} {N : Int} {L L' : List S69} {G G' : List (Int × Int)} {vL vG v1 : Value}
theorem heal_end {W w2 : World} {v : Value} (h : RefAt F w r N L G vL vG) (hb : RowKit.Below w.heap.size w W) (hb2 : RowKit.Below W.heap.size W w2) (ho : FRow k58 58 W.heap.size w2 v G') :
    RefIs (newF F w (w2.setCell ⟨r, 2, none⟩ v)) (w2.setCell ⟨r, 2, none⟩ v) r N L G' ∧ Keeps F w (w2.setCell ⟨r, 2, none⟩ v) := by
  have hW := h.below hb
  obtain ⟨R1, R2⟩ := hW.putG (Keeps.of_below hb2) (hb2.block r (blk_lt hW.blk)) (fun k hk => hb2.block k (hW.rowL.lt k hk).2) (ho.lower (Nat.zero_le _)) (fun k hk => .inr (ho.lt k hk).1)
  exact ⟨ref_from h.flt hb R1, (Keeps.of_below hb).trans R2⟩

set_option maxHeartbeats 4000000 in
theorem refheal_calls (h : RefIs F w r N L G) (x y : Int) (hg : G.length ≤ 900) : Calls Try.prog 31 #[.pointer (some ⟨r, 0, none⟩), .int .i64 x, .int .i64 y] w fun e w' => e = .returned (.int .i64 (rhealE N G x y)) ∧ RefIs (newF F w w') w' r N L (rhealG N G x y) ∧ Keeps F w w' := by
  have HI := Aside0.mk h
  have HG := Aside0.mk hg
  clear h hg
  unfold rhealG
  cases hk : knowsB N x y with
  | false =>
    have HK := Aside0.mk hk
    have e0 : rhealE N G x y = 1 := by unfold rhealE; rw [hk]; rfl
    rw [e0]
    clear hk e0
    go_enter Try.func31, Try.ntmps31
    go_wp2_with (fail)
    refine (pair_calls HI.out x y).mono ?_
    rintro e w1 ⟨rfl, rfl⟩
    rw [HK.out]
    go_wp2_with (fail)
    go_ret
    exact ⟨rfl, ref_same HI.out, Keeps.of_below (Below.refl _ _)⟩
  | true =>
    have HK := Aside0.mk hk
    rcases cutIx_cases G x y with h4 | ⟨kn, h4, h5⟩
    · have e0 : rhealE N G x y = 11 := by unfold rhealE; rw [hk, if_pos rfl, if_pos (by omega)]
      rw [e0]
      have H4 := Aside0.mk h4
      clear hk e0 h4
      go_enter Try.func31, Try.ntmps31
      go_wp2_with (fail)
      refine (pair_calls HI.out x y).mono ?_
      rintro e w1 ⟨rfl, rfl⟩
      rw [HK.out]
      go_wp2_with (fail)
      refine (refcut_calls HI.out x y (Nat.le_trans HG.out (by omega))).mono ?_
      rintro e w1 ⟨rfl, hb⟩
      rw [H4.out]
      have HB := Aside0.mk hb
      clear hb
      go_wp2_with (fail)
      go_ret
      exact ⟨rfl, ref_below HI.out HB.out, Keeps.of_below HB.out⟩
    · have e0 : rhealE N G x y = 0 := by unfold rhealE; rw [hk, if_pos rfl, if_neg (by omega)]
      rw [e0, h4, Int.toNat_natCast]
      have H4 := Aside0.mk h4
      have HLT := Aside0.mk h5
      have p1 : (0 : Int) ≤ (kn : Int) := by omega
      clear hk e0 h4 h5
      go_enter Try.func31, Try.ntmps31
      go_wp2_with (fail)
      refine (pair_calls HI.out x y).mono ?_
      rintro e w1 ⟨rfl, rfl⟩
      rw [HK.out]
      go_wp2_with (fail)
      refine (refcut_calls HI.out x y (Nat.le_trans HG.out (by omega))).mono ?_
      rintro e W ⟨rfl, hb⟩
      rw [H4.out]
      have HB2 := Aside0.mk hb
      clear hb
      obtain ⟨vL, vG, h0⟩ := HI.out
      obtain ⟨A, c, rfl, hc, hC⟩ := h0.rowG.reads
      have H := Aside0.mk h0
      have H2 := Aside0.mk (h0.below HB2.out)
      obtain ⟨ad, e1, _⟩ := hC.2.2 (Nat.lt_of_le_of_lt (Nat.zero_le _) HLT.out)
      cases e1
      have HC := Aside0.mk hC
      have HCC := Aside0.mk hc
      clear h0 hC hc
      go_upto_region 6 with (fail)
      have c1 : W.cell? ⟨r, 2, none⟩ = some (.slice (some ad) G.length c) := H2.out.cell2
      obtain ⟨nt, nd, lt, ld, A', hnt, hnd, hle, hc1, hc2, hcc⟩ := cuts_of k58 64 58 (.agg #[.int .i64 0, .int .i64 0]) 16 Try.underlying64 info58 (some ad) c G kn HLT.out HCC.out
      obtain ⟨ne, hne⟩ : ∃ ne, (G.eraseIdx kn).length = ne := ⟨_, rfl⟩
      have HNE := Aside0.mk hne
      have HLE := Aside0.mk hle
      have HNT := Aside0.mk hnt
      have HSM := Aside0.mk (show lt.length + nd ≤ 2000 by rw [← hnd, ← List.length_append, hle, List.length_eraseIdx_of_lt HLT.out]; have := HG.out; omega)
      have HSM0 := Aside0.mk (show nt ≤ 2000 by rw [← hnt]; have := HSM.out; omega)
      have HCC2 := Aside0.mk (hcc W (Kd.C_below HC.out HB2.out))
      have hwr : IntKind.i64.wrap ((kn : Int) + 1) = (kn : Int) + 1 := by rw [IntKind.wrap_i64]; have := HG.out; have := HLT.out; omega
      clear hnt hnd hle hcc hne
      have HBE := Aside0.mk (show RowKit.Below W.heap.size W (W.alloc (.cells #[] 58)).drew from below_drew (below_alloc (Below.refl _ _) _))
      have HMADE := Aside0.mk (FRow.made k58 58 W).drew
      have HCT := Aside0.mk (Kd.C_below HCC2.out.1 HBE.out)
      have hrz : r < W.heap.size := blk_lt H2.out.blk
      have k0 : W.drew.cell? ⟨r, 2, none⟩ = some (.slice (some ad) G.length c) := c1
      have k1 : (W.alloc (.cells #[] 58)).drew.cell? ⟨r, 2, none⟩ = some (.slice (some ad) G.length c) := (HBE.out.cell (p := ⟨r, 2, none⟩) hrz).trans c1
      go_region_law (first
        | ((with_reducible refine gate_step (N := 27) rfl ?_); refine append_rows_step k58_flat k58_KM (by rfl) (.tmp 20) (.tmp 26) 64 58 (.agg #[.int .i64 0, .int .i64 0]) 16 rfl Try.underlying64 info58 rfl (by decide) (by omega) (by omega) (base := W.heap.size) (n := nt) (m := nt) (c := c) (v := .slice (some ⟨W.heap.size, 0, none⟩) 0 0) (xs := []) (ys := lt) (r := lt) (A := some ad) (by rfl) (by rfl) HMADE.out HCT.out HBE.out.size (by have := HSM0.out; simp; omega) rfl HNT.out ?_; intro A1 c1' w1 ho hg; have hbx := HBE.out.grown hg HBE.out.size (by intro k hk; simp [Value.ownBlock] at hk; omega); have k2 := (hbx.cell (p := ⟨r, 2, none⟩) hrz).trans c1; have HO1 := Aside0.mk ho; have HB1 := Aside0.mk hbx; clear ho hg hbx)
        | ((with_reducible refine gate_step (N := 35) rfl ?_); refine append_rows_step k58_flat k58_KM (by rfl) (.tmp 27) (.tmp 34) 64 58 (.agg #[.int .i64 0, .int .i64 0]) 16 rfl Try.underlying64 info58 rfl (by decide) (by omega) (by omega) (base := W.heap.size) (n := ne) (m := nd) (c := c - (kn + 1)) (v := .slice A1 nt c1') (xs := lt) (ys := ld) (r := G.eraseIdx kn) (A := A') (by rfl) (by rfl) HO1.out (Kd.C_below HCC2.out.2 HB1.out) HB1.out.size HSM.out HLE.out HNE.out ?_; intro A2 c2' w2 ho hg; have hbx := HB1.out.grown hg HB1.out.size (fun k hk => (HO1.out.lt k hk).1); have k3 := (hbx.cell (p := ⟨r, 2, none⟩) hrz).trans c1; have k4 : w2.frozen? ⟨r, 2, none⟩ = false := blk_frozen ((hbx.block r hrz).trans H2.out.blk) _; have HO2 := Aside0.mk ho; have HB3 := Aside0.mk hbx; clear ho hg hbx))
      all_goals
        have HEND := Aside0.mk (heal_end H.out HB2.out HB3.out HO2.out)
        clear k0 k1 c1
        go_wp2_with (fail)
        go_ret
        exact ⟨rfl, HEND.out.1, HEND.out.2⟩

def rdoE (N : Int) (L : List S69) (G : List (Int × Int)) (s : S46) : Int := if s.f0 = 0 then rsendE N L G s.f1 s.f2 s.f4 else if s.f0 = 1 then 0 else if s.f0 = 2 then rcutE N G s.f1 s.f2 else rhealE N G s.f1 s.f2
def rdoT (N : Int) (L : List S69) (s : S46) : ByteArray := if s.f0 = 1 then rdelT N L s.f1 s.f2 s.f3 s.f5 else noT
def rdoK (N : Int) (L : List S69) (s : S46) : Bool := if s.f0 = 1 then rdelK N L s.f1 s.f2 s.f3 s.f5 else false
def rdoL (N : Int) (L : List S69) (G : List (Int × Int)) (s : S46) : List S69 := if s.f0 = 0 then rsendL N L G s.f1 s.f2 s.f4 else if s.f0 = 1 then rdelL N L s.f1 s.f2 s.f3 s.f5 s.f6 else if s.f0 = 2 then rcutL N L G s.f1 s.f2 else L
def rdoG (N : Int) (G : List (Int × Int)) (s : S46) : List (Int × Int) := if s.f0 = 0 then G else if s.f0 = 1 then G else if s.f0 = 2 then rcutG N G s.f1 s.f2 else rhealG N G s.f1 s.f2
def RDoPost (F : Nat → Prop) (w : World) (r : Nat) (N : Int) (L : List S69) (G : List (Int × Int)) (s : S46) (e : Ending) (w' : World) : Prop :=
  e = .returned (rv (rdoE N L G s) (rdoT N L s) (rdoK N L s)) ∧ RefIs (newF F w w') w' r N (rdoL N L G s) (rdoG N G s) ∧ Keeps F w w'
theorem RefIs.flt (h : RefIs F w r N L G) : ∀ k, F k → k < w.heap.size := by
  obtain ⟨vL, vG, h⟩ := h
  exact h.flt
theorem rdo_end {H : Nat → Prop} {A B : Obj} (N1 : RefIs H w1 r N L G) (hG : ∀ k, H k → F k ∨ w.heap.size + 2 ≤ k) (hF : ∀ k, F k → k < w.heap.size) (K1 : Keeps F ((w.alloc A).alloc B) w1) (u0 u1 u2 : Value) :
    RefIs (newF F w (put3 w1 (w.heap.size + 1) u0 u1 u2)) (put3 w1 (w.heap.size + 1) u0 u1 u2) r N L G ∧ Keeps F w (put3 w1 (w.heap.size + 1) u0 u1 u2) := by
  obtain ⟨s1, s2, s3, s4⟩ := put3_same w1 (w.heap.size + 1) u0 u1 u2
  have hf := put3_far w1 (w.heap.size + 1) u0 u1 u2
  have hz := K1.size
  rw [alloc_size, alloc_size] at hz
  obtain ⟨vL, vG, N1⟩ := N1
  refine ⟨⟨vL, vG, (N1.same (fun k hk => hf k ?_) (by omega)).wider (fun k hk => ?_) (fun k hk => ?_)⟩, ?_⟩
  · rcases hG k hk with h | h
    · have := hF k h; omega
    · omega
  · rcases hG k hk with h | h
    · exact .inl h
    · exact .inr ⟨by omega, by have := N1.flt k hk; omega⟩
  · rcases hk with h | h
    · have := hF k h; omega
    · exact h.2
  · have KB := (Keeps.of_below (F := F) (below_alloc (below_alloc (Below.refl w.heap.size w) A) B)).trans K1
    exact ⟨s1.trans KB.os, s2.trans KB.tape, s3.trans KB.output, by omega, fun k hk hn => (hf k (by omega)).trans (KB.block k hk hn)⟩
set_option maxHeartbeats 2000000 in
theorem rdo_calls (h : RefIs F w r N L G) (s : S46) (ht : s.f4.size ≤ 9223372036854775807) (hl : L.length ≤ 900) (hg : G.length ≤ 900) :
    Calls Try.prog 19 #[.pointer (some ⟨r, 0, none⟩), sv s] w (RDoPost F w r N L G s) := by
  have HL := Aside0.mk hl
  have HG := Aside0.mk hg
  clear hl hg
  have H := Aside0.mk h
  have HT := Aside0.mk ht
  clear h ht
  obtain ⟨k, x, y, n, t, lost, again⟩ := s
  have N0 := Aside0.mk (ref_is_below H.out (below_alloc (below_alloc (Below.refl w.heap.size w) (.cells #[.int .i64 k, .int .i64 x, .int .i64 y, .int .i64 n, .string t, .bool lost, .bool again] 46)) (.cells #[.int .i64 0, .string noT, .bool false] 43)))
  by_cases h0 : k = 0
  · have c0 : (k == 0) = true := by simp [h0]
    have HK := Aside0.mk h0
    have HP := Aside0.mk (show ¬ k = 1 by omega)
    clear h0
    go_enter Try.func19, Try.ntmps19
    go_wp2_with (fail)
    refine (refsend_calls N0.out x y t HT.out HL.out HG.out).mono ?_
    rintro e w1 ⟨rfl, h1, h2⟩
    have hg := do_cell (RefIs.flt H.out) h2
    rw [show w.heap.size + 1 = (w.alloc (.cells #[.int .i64 k, .int .i64 x, .int .i64 y, .int .i64 n, .string t, .bool lost, .bool again] 46)).heap.size by rw [alloc_size], alloc_new, alloc_size] at hg
    have hg0 : w1.cell? ⟨w.heap.size + 1, 0, none⟩ = some (.int .i64 0) := by rw [blk_cell hg]; rfl
    have hg1 : w1.cell? ⟨w.heap.size + 1, 1, none⟩ = some (.string noT) := by rw [blk_cell hg]; rfl
    have hg2 : w1.cell? ⟨w.heap.size + 1, 2, none⟩ = some (.bool false) := by rw [blk_cell hg]; rfl
    have hf0 : w1.frozen? ⟨w.heap.size + 1, 0, none⟩ = false := blk_frozen hg _
    have hf1 : w1.frozen? ⟨w.heap.size + 1, 1, none⟩ = false := blk_frozen hg _
    have hf2 : w1.frozen? ⟨w.heap.size + 1, 2, none⟩ = false := blk_frozen hg _
    have N1 := Aside0.mk h1
    have K1 := Aside0.mk h2
    have HG := Aside0.mk hg
    clear h1 h2 hg
    go_wp2_with (fail)
    obtain ⟨r1, r2⟩ := rdo_end N1.out (fun k hk => hk.elim .inl (fun h => .inr (by have := h.1; rw [alloc_size, alloc_size] at this; omega))) (RefIs.flt H.out) K1.out (.int .i64 (rsendE N L G x y t)) (.string noT) (.bool false)
    refine bodyPost_ret (results_cell_row rfl _ _ (w.heap.size + 1) 43 #[.int .i64 (rsendE N L G x y t), .string noT, .bool false] (0, 0) _ rfl (put3_at HG.out _ _ _) Try.underlying43 rfl (by kernel_rfl)) rfl ⟨?_, ?_, ?_⟩
    · show _ = _; simp only [rdoE, rdoT, rdoK]; rw [if_pos HK.out, if_neg HP.out, if_neg HP.out]
    · simp only [rdoL, rdoG]; rw [if_pos HK.out, if_pos HK.out]; exact r1
    · exact r2
  · by_cases h1 : k = 1
    · have c0 : (k == 0) = false := by simp [h0]
      have c1 : (k == 1) = true := by simp [h1]
      have HK := Aside0.mk h0
      have HP := Aside0.mk h1
      clear h0 h1
      go_enter Try.func19, Try.ntmps19
      go_wp2_with (fail)
      refine (refdel_calls N0.out x y n lost again HL.out).mono ?_
      rintro e w1 ⟨rfl, h1, h2⟩
      have hg := do_cell (RefIs.flt H.out) h2
      rw [show w.heap.size + 1 = (w.alloc (.cells #[.int .i64 k, .int .i64 x, .int .i64 y, .int .i64 n, .string t, .bool lost, .bool again] 46)).heap.size by rw [alloc_size], alloc_new, alloc_size] at hg
      have hg0 : w1.cell? ⟨w.heap.size + 1, 0, none⟩ = some (.int .i64 0) := by rw [blk_cell hg]; rfl
      have hg1 : w1.cell? ⟨w.heap.size + 1, 1, none⟩ = some (.string noT) := by rw [blk_cell hg]; rfl
      have hg2 : w1.cell? ⟨w.heap.size + 1, 2, none⟩ = some (.bool false) := by rw [blk_cell hg]; rfl
      have hf0 : w1.frozen? ⟨w.heap.size + 1, 0, none⟩ = false := blk_frozen hg _
      have hf1 : w1.frozen? ⟨w.heap.size + 1, 1, none⟩ = false := blk_frozen hg _
      have hf2 : w1.frozen? ⟨w.heap.size + 1, 2, none⟩ = false := blk_frozen hg _
      have N1 := Aside0.mk h1
      have K1 := Aside0.mk h2
      have HG := Aside0.mk hg
      clear h1 h2 hg
      go_wp2_with (fail)
      obtain ⟨r1, r2⟩ := rdo_end N1.out (fun k hk => hk.elim .inl (fun h => .inr (by have := h.1; rw [alloc_size, alloc_size] at this; omega))) (RefIs.flt H.out) K1.out (.int .i64 0) (.string (rdelT N L x y n lost)) (.bool (rdelK N L x y n lost))
      refine bodyPost_ret (results_cell_row rfl _ _ (w.heap.size + 1) 43 #[.int .i64 0, .string (rdelT N L x y n lost), .bool (rdelK N L x y n lost)] (0, 0) _ rfl (put3_at HG.out _ _ _) Try.underlying43 rfl (by kernel_rfl)) rfl ⟨?_, ?_, ?_⟩
      · show _ = _; simp only [rdoE, rdoT, rdoK]; rw [if_neg HK.out, if_pos HP.out, if_pos HP.out, if_pos HP.out]
      · simp only [rdoL, rdoG]; rw [if_neg HK.out, if_pos HP.out, if_neg HK.out, if_pos HP.out]; exact r1
      · exact r2
    · by_cases h2 : k = 2
      · have c0 : (k == 0) = false := by simp [h0]
        have c1 : (k == 1) = false := by simp [h1]
        have c2 : (k == 2) = true := by simp [h2]
        have HK := Aside0.mk h0
        have HP := Aside0.mk h1
        have HR := Aside0.mk h2
        clear h0 h1 h2
        go_enter Try.func19, Try.ntmps19
        go_wp2_with (fail)
        refine (refcutline_calls N0.out x y HL.out HG.out).mono ?_
        rintro e w1 ⟨rfl, h1, h2⟩
        have hg := do_cell (RefIs.flt H.out) h2
        rw [show w.heap.size + 1 = (w.alloc (.cells #[.int .i64 k, .int .i64 x, .int .i64 y, .int .i64 n, .string t, .bool lost, .bool again] 46)).heap.size by rw [alloc_size], alloc_new, alloc_size] at hg
        have hg0 : w1.cell? ⟨w.heap.size + 1, 0, none⟩ = some (.int .i64 0) := by rw [blk_cell hg]; rfl
        have hg1 : w1.cell? ⟨w.heap.size + 1, 1, none⟩ = some (.string noT) := by rw [blk_cell hg]; rfl
        have hg2 : w1.cell? ⟨w.heap.size + 1, 2, none⟩ = some (.bool false) := by rw [blk_cell hg]; rfl
        have hf0 : w1.frozen? ⟨w.heap.size + 1, 0, none⟩ = false := blk_frozen hg _
        have hf1 : w1.frozen? ⟨w.heap.size + 1, 1, none⟩ = false := blk_frozen hg _
        have hf2 : w1.frozen? ⟨w.heap.size + 1, 2, none⟩ = false := blk_frozen hg _
        have N1 := Aside0.mk h1
        have K1 := Aside0.mk h2
        have HG := Aside0.mk hg
        clear h1 h2 hg
        go_wp2_with (fail)
        obtain ⟨r1, r2⟩ := rdo_end N1.out (fun k hk => hk.elim .inl (fun h => .inr (by have := h.1; rw [alloc_size, alloc_size] at this; omega))) (RefIs.flt H.out) K1.out (.int .i64 (rcutE N G x y)) (.string noT) (.bool false)
        refine bodyPost_ret (results_cell_row rfl _ _ (w.heap.size + 1) 43 #[.int .i64 (rcutE N G x y), .string noT, .bool false] (0, 0) _ rfl (put3_at HG.out _ _ _) Try.underlying43 rfl (by kernel_rfl)) rfl ⟨?_, ?_, ?_⟩
        · show _ = _; simp only [rdoE, rdoT, rdoK]; rw [if_neg HK.out, if_neg HP.out, if_pos HR.out, if_neg HP.out, if_neg HP.out]
        · simp only [rdoL, rdoG]; rw [if_neg HK.out, if_neg HP.out, if_pos HR.out, if_neg HK.out, if_neg HP.out, if_pos HR.out]; exact r1
        · exact r2
      · have c0 : (k == 0) = false := by simp [h0]
        have c1 : (k == 1) = false := by simp [h1]
        have c2 : (k == 2) = false := by simp [h2]
        have HK := Aside0.mk h0
        have HP := Aside0.mk h1
        have HR := Aside0.mk h2
        clear h0 h1 h2
        go_enter Try.func19, Try.ntmps19
        go_wp2_with (fail)
        refine (refheal_calls N0.out x y HG.out).mono ?_
        rintro e w1 ⟨rfl, h1, h2⟩
        have hg := do_cell (RefIs.flt H.out) h2
        rw [show w.heap.size + 1 = (w.alloc (.cells #[.int .i64 k, .int .i64 x, .int .i64 y, .int .i64 n, .string t, .bool lost, .bool again] 46)).heap.size by rw [alloc_size], alloc_new, alloc_size] at hg
        have hg0 : w1.cell? ⟨w.heap.size + 1, 0, none⟩ = some (.int .i64 0) := by rw [blk_cell hg]; rfl
        have hg1 : w1.cell? ⟨w.heap.size + 1, 1, none⟩ = some (.string noT) := by rw [blk_cell hg]; rfl
        have hg2 : w1.cell? ⟨w.heap.size + 1, 2, none⟩ = some (.bool false) := by rw [blk_cell hg]; rfl
        have hf0 : w1.frozen? ⟨w.heap.size + 1, 0, none⟩ = false := blk_frozen hg _
        have hf1 : w1.frozen? ⟨w.heap.size + 1, 1, none⟩ = false := blk_frozen hg _
        have hf2 : w1.frozen? ⟨w.heap.size + 1, 2, none⟩ = false := blk_frozen hg _
        have N1 := Aside0.mk h1
        have K1 := Aside0.mk h2
        have HG := Aside0.mk hg
        clear h1 h2 hg
        go_wp2_with (fail)
        obtain ⟨r1, r2⟩ := rdo_end N1.out (fun k hk => hk.elim .inl (fun h => .inr (by have := h.1; rw [alloc_size, alloc_size] at this; omega))) (RefIs.flt H.out) K1.out (.int .i64 (rhealE N G x y)) (.string noT) (.bool false)
        refine bodyPost_ret (results_cell_row rfl _ _ (w.heap.size + 1) 43 #[.int .i64 (rhealE N G x y), .string noT, .bool false] (0, 0) _ rfl (put3_at HG.out _ _ _) Try.underlying43 rfl (by kernel_rfl)) rfl ⟨?_, ?_, ?_⟩
        · show _ = _; simp only [rdoE, rdoT, rdoK]; rw [if_neg HK.out, if_neg HP.out, if_neg HR.out, if_neg HP.out, if_neg HP.out]
        · simp only [rdoL, rdoG]; rw [if_neg HK.out, if_neg HP.out, if_neg HR.out, if_neg HK.out, if_neg HP.out, if_neg HR.out]; exact r1
        · exact r2
end
end Go.Proofs.Ytofacphhfgkemaa.G
