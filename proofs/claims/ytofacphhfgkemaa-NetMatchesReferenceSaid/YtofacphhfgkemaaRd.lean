/- The reference's Deliver. -/
import Derived.Test.YtofacphhfgkemaaRc
namespace Go.Proofs.Ytofacphhfgkemaa.G
open Go.Sort Go.RowKit Go.Proofs.YtofacphhfgkemaaW.PrintWords Go.Proofs.YtofacphhfgkemaaW.PrintLast Go.Proofs.YtofacphhfgkemaaW.PrintMore
set_option linter.unusedVariables false
set_option linter.unusedSimpArgs false
section
variable {F F' : Nat → Prop} {w w1 : World} {r : Nat} {N : Int} {L L' : List S69} {G G' : List (Int × Int)} {vL vG v1 : Value}
/-- What holds behind a delivery. -/
def DelPost (F : Nat → Prop) (w : World) (r : Nat) (N : Int) (L : List S69) (G : List (Int × Int)) (x y n : Int) (lost again : Bool) (e : Ending) (w' : World) : Prop :=
  e = .returned (.tuple #[.string (rdelT N L x y n lost), .bool (rdelK N L x y n lost)]) ∧ RefIs (newF F w w') w' r N (rdelL N L x y n lost again) G ∧ Keeps F w w'

theorem del_end {W w2 : World} {X : Nat} {m : S69} {v : Value} (h : RefAt F w r N L G vL vG) (hb : RowKit.Below w.heap.size w W) (hX : W.heap[X]? = some (.cells #[.int .i64 m.f0, .int .i64 m.f1, .string m.f2] 69 (0, 0))) (hb2 : RowKit.Below W.heap.size W w2) (ho : FRow k69 69 W.heap.size w2 v L') :
    RefIs (newF F w (w2.setCell ⟨r, 1, none⟩ v)) (w2.setCell ⟨r, 1, none⟩ v) r N L' G ∧ Keeps F w (w2.setCell ⟨r, 1, none⟩ v) ∧ (w2.setCell ⟨r, 1, none⟩ v).cell? ⟨X, 2, none⟩ = some (.string m.f2) := by
  have hW := h.below hb
  have hw2 := hW.below hb2
  obtain ⟨R1, R2⟩ := hW.putL (Keeps.of_below hb2) (hb2.block r (blk_lt hW.blk)) (fun k hk => hb2.block k (hW.rowG.lt k hk).2) (ho.lower (Nat.zero_le _)) (fun k hk => .inr (ho.lt k hk).1)
  refine ⟨ref_from h.flt hb R1, (Keeps.of_below hb).trans R2, ?_⟩
  have hne : X ≠ r := fun e => by
    rw [e, hW.blk] at hX
    injection hX with hX
    injection hX with _ hX
    revert hX
    decide
  have hx : (w2.setCell ⟨r, 1, none⟩ v).heap[X]? = some (.cells #[.int .i64 m.f0, .int .i64 m.f1, .string m.f2] 69 (0, 0)) := (Below.heap_setCell w2 ⟨r, 1, none⟩ v X hne).trans ((hb2.block X (blk_lt hX)).trans hX)
  rw [blk_cell hx]; rfl

set_option maxHeartbeats 4000000 in
theorem refdel_calls (h : RefIs F w r N L G) (x y n : Int) (lost again : Bool) (hl : L.length ≤ 900) : Calls Try.prog 29 #[.pointer (some ⟨r, 0, none⟩), .int .i64 x, .int .i64 y, .int .i64 n, .bool lost, .bool again] w (DelPost F w r N L G x y n lost again) := by
  have HI := Aside0.mk h
  have HL := Aside0.mk hl
  clear h hl
  cases hk : knowsB N x y with
  | false =>
    have HK := Aside0.mk hk
    have HD := Aside0.mk (show rdel N L x y n = none by unfold rdel; rw [hk]; rfl)
    clear hk
    go_enter Try.func29, Try.ntmps29
    go_wp2_with (fail)
    refine (pair_calls HI.out x y).mono ?_
    rintro e w1 ⟨rfl, rfl⟩
    rw [HK.out]
    go_wp2_with (fail)
    go_ret2
    exact ⟨by unfold rdelT rdelK; rw [HD.out]; rfl, by unfold rdelL; rw [HD.out]; exact ref_same HI.out, Keeps.of_below (Below.refl _ _)⟩
  | true =>
    have HK := Aside0.mk hk
    have HE := Aside0.mk (show rdel N L x y n = delIx x y L n by unfold rdel; rw [hk]; rfl)
    clear hk
    obtain ⟨vL, vG, h⟩ := HI.out
    obtain ⟨A, c, rfl, hc, hC⟩ := h.rowL.reads
    have H := Aside0.mk h
    have HC := Aside0.mk hC
    have HCC := Aside0.mk hc
    clear h hC hc
    go_enter Try.func29, Try.ntmps29
    go_wp2_with (fail)
    refine (pair_calls HI.out x y).mono ?_
    rintro e w1 ⟨rfl, rfl⟩
    rw [HK.out]
    go_wp2_with (fail)
    go_loopw [14, 15] (fun v j wr => ∃ k i : Nat, i ≤ L.length ∧ k ≤ i ∧ v = .int .i64 k ∧ j = .int .i64 i ∧ Aside0 (delIx x y L n = (delIx x y (L.drop i) (n - (k : Int))).map (· + i)) ∧ Aside0 (RowKit.Below w.heap.size w wr)) (fun _ j _ => L.length - (intOf j).toNat)
    case atStart => exact ⟨0, 0, Nat.zero_le _, Nat.le_refl _, rfl, rfl, ⟨del_start⟩, ⟨Below.refl _ _⟩⟩
    case round =>
      obtain ⟨k, i, hi, hki, rfl, rfl, HD, HB⟩ := hrel
      have HR := Aside0.mk (H.out.below HB.out)
      have c1 := HR.out.cell1
      have HKI := Aside0.mk hki
      clear hki
      by_cases hlt : i < L.length
      · have hw : wrap64 ((i : Int) + 1) = ((i + 1 : Nat) : Int) := by have := HL.out; unfold wrap64; omega
        have hw2 : wrap64 ((k : Int) + 1) = ((k + 1 : Nat) : Int) := by have := HL.out; have := HKI.out; unfold wrap64; omega
        have p1 : (0 : Int) ≤ (i : Int) := by omega
        have p2 : (i : Int) < (L.length : Int) := by omega
        have HCr := Aside0.mk (Kd.C_below HC.out HB.out)
        obtain ⟨ad, e1, _⟩ := HCr.out.2.2 (by omega)
        cases e1
        obtain ⟨m, hm⟩ : ∃ m, rd69 L (i : Int) = m := ⟨_, rfl⟩
        obtain ⟨x0, x1, x2⟩ := cells69 HCr.out i hlt hm
        have HM := Aside0.mk hm
        have HLT := Aside0.mk hlt
        have HB2 := Aside0.mk (below_then HB.out HB.out.size (below_alloc (Below.refl wr.heap.size wr) (.cells #[.int .i64 m.f0, .int .i64 m.f1, .string m.f2] 69)))
        clear hm hlt
        by_cases a1 : m.f0 = x
        · have b1 : (m.f0 != x) = false := by simp [a1]
          by_cases a2 : m.f1 = y
          · have b2 : (m.f1 != y) = false := by simp [a2]
            have HA := Aside0.mk (show atB x y m = true by unfold atB; simp; omega)
            clear a1 a2
            by_cases hn : (k : Int) = n
            · have b3 : ((k : Int) != n) = false := by simp [hn]
              have HX := Aside0.mk (HE.out.trans (del_hit HD.out HLT.out HM.out HA.out hn))
              clear hn
              have HX2 := Aside0.mk (show rdelT N L x y n lost = (if lost then noT else m.f2) ∧ rdelK N L x y n lost = !lost ∧ rdelL N L x y n lost again = if lost || !again then L.eraseIdx i else L by
                unfold rdelT rdelK rdelL
                rw [HX.out]
                exact ⟨by rw [← HM.out], rfl, rfl⟩)
              cases lost with
              | true =>
                go_upto_region 12 with (fail)
                obtain ⟨X, hX⟩ : ∃ X, wr.heap.size = X := ⟨_, rfl⟩
                have hg : (wr.alloc (.cells #[.int .i64 m.f0, .int .i64 m.f1, .string m.f2] 69)).heap[wr.heap.size]? = some (.cells #[.int .i64 m.f0, .int .i64 m.f1, .string m.f2] 69 (0, 0)) := alloc_new _ _
                rw [hX] at hg ⊢
                clear hX
                generalize wr.alloc (.cells #[.int .i64 m.f0, .int .i64 m.f1, .string m.f2] 69) = W at HB2 hg ⊢
                clear x0 x1 x2 c1
                have HGX := Aside0.mk hg
                have H2 := Aside0.mk (H.out.below HB2.out)
                have c1 : W.cell? ⟨r, 1, none⟩ = some (.slice (some ad) L.length c) := H2.out.cell1
                obtain ⟨nt, nd, lt, ld, A', hnt, hnd, hle, hc1, hc2, hcc⟩ := cuts_of k69 63 69 (.agg #[.int .i64 0, .int .i64 0, .string noT]) 32 Try.underlying63 info69 (some ad) c L i HLT.out HCC.out
                obtain ⟨ne, hne⟩ : ∃ ne, (L.eraseIdx i).length = ne := ⟨_, rfl⟩
                have HNE := Aside0.mk hne
                have HLE := Aside0.mk hle
                have HNT := Aside0.mk hnt
                have HSM := Aside0.mk (show lt.length + nd ≤ 2000 by rw [← hnd, ← List.length_append, hle, List.length_eraseIdx_of_lt HLT.out]; have := HL.out; omega)
                have HSM0 := Aside0.mk (show nt ≤ 2000 by rw [← hnt]; have := HSM.out; omega)
                have HCC2 := Aside0.mk (hcc W (Kd.C_below HC.out HB2.out))
                have hwr : IntKind.i64.wrap ((i : Int) + 1) = (i : Int) + 1 := by rw [IntKind.wrap_i64]; have := HL.out; have := HLT.out; omega
                clear hnt hnd hle hcc hne hg
                have HBE := Aside0.mk (show RowKit.Below W.heap.size W (W.alloc (.cells #[] 69)).drew from below_drew (below_alloc (Below.refl _ _) _))
                have HMADE := Aside0.mk (FRow.made k69 69 W).drew
                have HCT := Aside0.mk (Kd.C_below HCC2.out.1 HBE.out)
                have hrz : r < W.heap.size := blk_lt H2.out.blk
                have k0 : W.drew.cell? ⟨r, 1, none⟩ = some (.slice (some ad) L.length c) := c1
                have k1 : (W.alloc (.cells #[] 69)).drew.cell? ⟨r, 1, none⟩ = some (.slice (some ad) L.length c) := (HBE.out.cell (p := ⟨r, 1, none⟩) hrz).trans c1
                have HFZ := Aside0.mk (show W.frozen? ⟨r, 1, none⟩ = false from blk_frozen H2.out.blk _)
                go_region_law (first
                  | ((with_reducible refine gate_step (N := 66) rfl ?_); refine append_rows_step k69_flat k69_KM (by rfl) (.tmp 59) (.tmp 65) 63 69 (.agg #[.int .i64 0, .int .i64 0, .string noT]) 32 rfl Try.underlying63 info69 rfl (by decide) (by omega) (by omega) (base := W.heap.size) (n := nt) (m := nt) (c := c) (v := .slice (some ⟨W.heap.size, 0, none⟩) 0 0) (xs := []) (ys := lt) (r := lt) (A := some ad) (by rfl) (by rfl) HMADE.out HCT.out HBE.out.size (by have := HSM0.out; simp; omega) rfl HNT.out ?_; intro A1 c1' w1 ho hg; have hbx := HBE.out.grown hg HBE.out.size (by intro k hk; simp [Value.ownBlock] at hk; omega); have k2 := (hbx.cell (p := ⟨r, 1, none⟩) hrz).trans c1; have HO1 := Aside0.mk ho; have HB1 := Aside0.mk hbx; clear ho hg hbx)
                  | ((with_reducible refine gate_step (N := 74) rfl ?_); refine append_rows_step k69_flat k69_KM (by rfl) (.tmp 66) (.tmp 73) 63 69 (.agg #[.int .i64 0, .int .i64 0, .string noT]) 32 rfl Try.underlying63 info69 rfl (by decide) (by omega) (by omega) (base := W.heap.size) (n := ne) (m := nd) (c := c - (i + 1)) (v := .slice A1 nt c1') (xs := lt) (ys := ld) (r := L.eraseIdx i) (A := A') (by rfl) (by rfl) HO1.out (Kd.C_below HCC2.out.2 HB1.out) HB1.out.size HSM.out HLE.out HNE.out ?_; intro A2 c2' w2 ho hg; have hbx := HB1.out.grown hg HB1.out.size (fun k hk => (HO1.out.lt k hk).1); have k3 := (hbx.cell (p := ⟨r, 1, none⟩) hrz).trans c1; have k4 : w2.frozen? ⟨r, 1, none⟩ = false := blk_frozen ((hbx.block r hrz).trans H2.out.blk) _; have HO2 := Aside0.mk ho; have HB3 := Aside0.mk hbx; clear ho hg hbx))
                all_goals
                  have hend := del_end (X := X) H.out HB2.out HGX.out HB3.out HO2.out
                  have HEND := Aside0.mk hend
                  have g2 := hend.2.2
                  clear hend k0 k1 c1
                  go_wp2_with (fail)
                  go_ret2
                  exact ⟨by rw [HX2.out.1, HX2.out.2.1]; rfl, by rw [HX2.out.2.2]; exact HEND.out.1, HEND.out.2.1⟩
              | false =>
                cases again with
                | false =>
                  go_upto_region 12 with (fail)
                  obtain ⟨X, hX⟩ : ∃ X, wr.heap.size = X := ⟨_, rfl⟩
                  have hg : (wr.alloc (.cells #[.int .i64 m.f0, .int .i64 m.f1, .string m.f2] 69)).heap[wr.heap.size]? = some (.cells #[.int .i64 m.f0, .int .i64 m.f1, .string m.f2] 69 (0, 0)) := alloc_new _ _
                  rw [hX] at hg ⊢
                  clear hX
                  generalize wr.alloc (.cells #[.int .i64 m.f0, .int .i64 m.f1, .string m.f2] 69) = W at HB2 hg ⊢
                  clear x0 x1 x2 c1
                  have HGX := Aside0.mk hg
                  have H2 := Aside0.mk (H.out.below HB2.out)
                  have c1 : W.cell? ⟨r, 1, none⟩ = some (.slice (some ad) L.length c) := H2.out.cell1
                  obtain ⟨nt, nd, lt, ld, A', hnt, hnd, hle, hc1, hc2, hcc⟩ := cuts_of k69 63 69 (.agg #[.int .i64 0, .int .i64 0, .string noT]) 32 Try.underlying63 info69 (some ad) c L i HLT.out HCC.out
                  obtain ⟨ne, hne⟩ : ∃ ne, (L.eraseIdx i).length = ne := ⟨_, rfl⟩
                  have HNE := Aside0.mk hne
                  have HLE := Aside0.mk hle
                  have HNT := Aside0.mk hnt
                  have HSM := Aside0.mk (show lt.length + nd ≤ 2000 by rw [← hnd, ← List.length_append, hle, List.length_eraseIdx_of_lt HLT.out]; have := HL.out; omega)
                  have HSM0 := Aside0.mk (show nt ≤ 2000 by rw [← hnt]; have := HSM.out; omega)
                  have HCC2 := Aside0.mk (hcc W (Kd.C_below HC.out HB2.out))
                  have hwr : IntKind.i64.wrap ((i : Int) + 1) = (i : Int) + 1 := by rw [IntKind.wrap_i64]; have := HL.out; have := HLT.out; omega
                  clear hnt hnd hle hcc hne hg
                  have HBE := Aside0.mk (show RowKit.Below W.heap.size W (W.alloc (.cells #[] 69)).drew from below_drew (below_alloc (Below.refl _ _) _))
                  have HMADE := Aside0.mk (FRow.made k69 69 W).drew
                  have HCT := Aside0.mk (Kd.C_below HCC2.out.1 HBE.out)
                  have hrz : r < W.heap.size := blk_lt H2.out.blk
                  have k0 : W.drew.cell? ⟨r, 1, none⟩ = some (.slice (some ad) L.length c) := c1
                  have k1 : (W.alloc (.cells #[] 69)).drew.cell? ⟨r, 1, none⟩ = some (.slice (some ad) L.length c) := (HBE.out.cell (p := ⟨r, 1, none⟩) hrz).trans c1
                  have HFZ := Aside0.mk (show W.frozen? ⟨r, 1, none⟩ = false from blk_frozen H2.out.blk _)
                  go_region_law (first
                    | ((with_reducible refine gate_step (N := 66) rfl ?_); refine append_rows_step k69_flat k69_KM (by rfl) (.tmp 59) (.tmp 65) 63 69 (.agg #[.int .i64 0, .int .i64 0, .string noT]) 32 rfl Try.underlying63 info69 rfl (by decide) (by omega) (by omega) (base := W.heap.size) (n := nt) (m := nt) (c := c) (v := .slice (some ⟨W.heap.size, 0, none⟩) 0 0) (xs := []) (ys := lt) (r := lt) (A := some ad) (by rfl) (by rfl) HMADE.out HCT.out HBE.out.size (by have := HSM0.out; simp; omega) rfl HNT.out ?_; intro A1 c1' w1 ho hg; have hbx := HBE.out.grown hg HBE.out.size (by intro k hk; simp [Value.ownBlock] at hk; omega); have k2 := (hbx.cell (p := ⟨r, 1, none⟩) hrz).trans c1; have HO1 := Aside0.mk ho; have HB1 := Aside0.mk hbx; clear ho hg hbx)
                    | ((with_reducible refine gate_step (N := 74) rfl ?_); refine append_rows_step k69_flat k69_KM (by rfl) (.tmp 66) (.tmp 73) 63 69 (.agg #[.int .i64 0, .int .i64 0, .string noT]) 32 rfl Try.underlying63 info69 rfl (by decide) (by omega) (by omega) (base := W.heap.size) (n := ne) (m := nd) (c := c - (i + 1)) (v := .slice A1 nt c1') (xs := lt) (ys := ld) (r := L.eraseIdx i) (A := A') (by rfl) (by rfl) HO1.out (Kd.C_below HCC2.out.2 HB1.out) HB1.out.size HSM.out HLE.out HNE.out ?_; intro A2 c2' w2 ho hg; have hbx := HB1.out.grown hg HB1.out.size (fun k hk => (HO1.out.lt k hk).1); have k3 := (hbx.cell (p := ⟨r, 1, none⟩) hrz).trans c1; have k4 : w2.frozen? ⟨r, 1, none⟩ = false := blk_frozen ((hbx.block r hrz).trans H2.out.blk) _; have HO2 := Aside0.mk ho; have HB3 := Aside0.mk hbx; clear ho hg hbx))
                  all_goals
                    have hend := del_end (X := X) H.out HB2.out HGX.out HB3.out HO2.out
                    have HEND := Aside0.mk hend
                    have g2 := hend.2.2
                    clear hend k0 k1 c1
                    go_wp2_with (fail)
                    go_ret2
                    exact ⟨by rw [HX2.out.1, HX2.out.2.1]; rfl, by rw [HX2.out.2.2]; exact HEND.out.1, HEND.out.2.1⟩
                | true =>
                  have HB2b := Aside0.mk HB2.out
                  go_wp2_with (fail)
                  go_ret2
                  exact ⟨by rw [HX2.out.1, HX2.out.2.1]; rfl, by rw [HX2.out.2.2]; exact ref_below HI.out HB2.out, Keeps.of_below HB2.out⟩
            · have b3 : ((k : Int) != n) = true := by simp [hn]
              have HD2 := Aside0.mk (del_pass HD.out HLT.out HM.out HA.out hn)
              clear hn
              go_wp2_with (fail)
              go_round
              case rel => exact ⟨k + 1, i + 1, by have := HLT.out; omega, by have := HKI.out; omega, by first | (rw [hw2]; done) | go_num, by first | (rw [hw]; done) | go_num, HD2, HB2⟩
              case measure => first | (rw [hw]; simp only [intOf, Int.toNat_natCast]; have := HLT.out; omega) | (have := HLT.out; simp [intOf]; omega)
          · have b2 : (m.f1 != y) = true := by simp [a2]
            have HD2 := Aside0.mk (del_miss HD.out HLT.out HM.out (show atB x y m = false by unfold atB; simp; omega))
            clear a1 a2
            go_wp2_with (fail)
            go_round
            case rel => exact ⟨k, i + 1, by have := HLT.out; omega, by have := HKI.out; omega, rfl, by first | (rw [hw]; done) | go_num, HD2, HB2⟩
            case measure => first | (rw [hw]; simp only [intOf, Int.toNat_natCast]; have := HLT.out; omega) | (have := HLT.out; simp [intOf]; omega)
        · have b1 : (m.f0 != x) = true := by simp [a1]
          have HD2 := Aside0.mk (del_miss HD.out HLT.out HM.out (show atB x y m = false by unfold atB; simp; omega))
          clear a1
          go_wp2_with (fail)
          go_round
          case rel => exact ⟨k, i + 1, by have := HLT.out; omega, by have := HKI.out; omega, rfl, by first | (rw [hw]; done) | go_num, HD2, HB2⟩
          case measure => first | (rw [hw]; simp only [intOf, Int.toNat_natCast]; have := HLT.out; omega) | (have := HLT.out; simp [intOf]; omega)
      · have HX := Aside0.mk (HE.out.trans (del_none HD.out (by omega)))
        go_wp2_with (fail)
        go_ret2
        exact ⟨by unfold rdelT rdelK; rw [HX.out]; rfl, by unfold rdelL; rw [HX.out]; exact ref_below HI.out HB.out, Keeps.of_below HB.out⟩
end
end Go.Proofs.Ytofacphhfgkemaa.G
