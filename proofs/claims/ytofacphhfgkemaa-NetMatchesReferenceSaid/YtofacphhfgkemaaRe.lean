/- The reference's Cut and Heal. -/
import Derived.Test.YtofacphhfgkemaaRd
import Derived.Deep.RegionHeld3
namespace Go.Proofs.Ytofacphhfgkemaa.G
open Go.Sort Go.RowKit Go.Proofs.YtofacphhfgkemaaW.PrintWords Go.Proofs.YtofacphhfgkemaaW.PrintLast Go.Proofs.YtofacphhfgkemaaW.PrintMore
set_option linter.unusedVariables false
set_option linter.unusedSimpArgs false
section
variable {F F' : Nat → Prop} {w w1 : World} {r : Nat} {N : Int} {L L' : List S69} {G G' : List (Int × Int)} {vL vG v1 : Value}
/-- The messages that no cut line bears. -/
def keptB (G : List (Int × Int)) (m : S69) : Bool := decide (cutIx G m.f0 m.f1 < 0)
def rcutE (N : Int) (G : List (Int × Int)) (x y : Int) : Int := if knowsB N x y then (if 0 ≤ cutIx G x y then 11 else 0) else 1
def rcutG (N : Int) (G : List (Int × Int)) (x y : Int) : List (Int × Int) := if rcutE N G x y = 0 then G ++ [(x, y)] else G
def rcutL (N : Int) (L : List S69) (G : List (Int × Int)) (x y : Int) : List S69 := if rcutE N G x y = 0 then L.filter (keptB (G ++ [(x, y)])) else L
def rhealE (N : Int) (G : List (Int × Int)) (x y : Int) : Int := if knowsB N x y then (if cutIx G x y < 0 then 11 else 0) else 1
def rhealG (N : Int) (G : List (Int × Int)) (x y : Int) : List (Int × Int) := if rhealE N G x y = 0 then G.eraseIdx (cutIx G x y).toNat else G
theorem cutIx_cases (G : List (Int × Int)) (x y : Int) : cutIx G x y = -1 ∨ ∃ k : Nat, cutIx G x y = k ∧ k < G.length := by
  unfold cutIx
  cases h : G.findIdx? (lineB x y) with
  | none => exact .inl rfl
  | some i =>
    rw [List.findIdx?_eq_some_iff_getElem] at h
    exact .inr ⟨i, rfl, h.1⟩
theorem kept_take (L : List S69) (G : List (Int × Int)) (k : Nat) (hk : k < L.length) : (L.take (k + 1)).filter (keptB G) = if keptB G (rd69 L (k : Int)) then (L.take k).filter (keptB G) ++ [rd69 L (k : Int)] else (L.take k).filter (keptB G) := by
  rw [rd69_take L k hk, List.filter_append]
  by_cases h : keptB G (rd69 L (k : Int))
  · simp [h]
  · simp [h]

theorem cut_end {w2 W W9 : World} {E0 : Ending} (hF : ∀ k, F k → k < w.heap.size) (hb : RowKit.Below w.heap.size w w2) (hk : Keeps F w2 W) (R1 : RefAt (newF (newF F w2 W) W W9) W9 r N L' G' vL vG) (R2 : Keeps (newF F w2 W) W W9) :
    E0 = E0 ∧ RefIs (newF F w W9) W9 r N L' G' ∧ Keeps F w W9 := by
  refine ⟨rfl, ⟨vL, vG, R1.wider (fun k h => ?_) (fun k h => ?_)⟩, (Keeps.of_below hb).trans (hk.trans2 R2)⟩
  · rcases h with (h | h) | h
    · exact .inl h
    · exact .inr ⟨Nat.le_trans hb.size h.1, Nat.lt_of_lt_of_le h.2 R2.size⟩
    · exact .inr ⟨Nat.le_trans (Nat.le_trans hb.size hk.size) h.1, h.2⟩
  · rcases h with h | h
    · have := hF k h
      have := hb.size
      have := hk.size
      have := R2.size
      omega
    · exact h.2

set_option maxHeartbeats 4000000 in
theorem refcutline_calls (h : RefIs F w r N L G) (x y : Int) (hl : L.length ≤ 900) (hg : G.length ≤ 900) : Calls Try.prog 30 #[.pointer (some ⟨r, 0, none⟩), .int .i64 x, .int .i64 y] w fun e w' => e = .returned (.int .i64 (rcutE N G x y)) ∧ RefIs (newF F w w') w' r N (rcutL N L G x y) (rcutG N G x y) ∧ Keeps F w w' := by
  have HI := Aside0.mk h
  have HL := Aside0.mk hl
  have HG := Aside0.mk hg
  have HFL := Aside0.mk (show ∀ k, F k → k < w.heap.size from by obtain ⟨vL, vG, h⟩ := h; exact h.flt)
  clear h hl hg
  unfold rcutL rcutG
  cases hk : knowsB N x y with
  | false =>
    have HK := Aside0.mk hk
    have e0 : rcutE N G x y = 1 := by unfold rcutE; rw [hk]; rfl
    rw [e0]
    clear hk e0
    go_enter Try.func30, Try.ntmps30
    go_wp2_with (fail)
    refine (pair_calls HI.out x y).mono ?_
    rintro e w1 ⟨rfl, rfl⟩
    rw [HK.out]
    go_wp2_with (fail)
    go_ret
    exact ⟨rfl, ref_same HI.out, Keeps.of_below (Below.refl _ _)⟩
  | true =>
    have HK := Aside0.mk hk
    by_cases h4 : 0 ≤ cutIx G x y
    · have e0 : rcutE N G x y = 11 := by unfold rcutE; rw [hk, if_pos rfl, if_pos h4]
      rw [e0]
      clear hk e0
      go_enter Try.func30, Try.ntmps30
      go_wp2_with (fail)
      refine (pair_calls HI.out x y).mono ?_
      rintro e w1 ⟨rfl, rfl⟩
      rw [HK.out]
      go_wp2_with (fail)
      refine (refcut_calls HI.out x y (Nat.le_trans HG.out (by omega))).mono ?_
      rintro e w1 ⟨rfl, hb⟩
      have HB := Aside0.mk hb
      clear hb
      go_wp2_with (fail)
      go_ret
      exact ⟨rfl, ref_below HI.out HB.out, Keeps.of_below HB.out⟩
    · have h5 : cutIx G x y < 0 := by omega
      have e0 : rcutE N G x y = 0 := by unfold rcutE; rw [hk, if_pos rfl, if_neg h4]
      rw [e0]
      obtain ⟨Gn, hgn⟩ : ∃ Gn, G ++ [(x, y)] = Gn := ⟨_, rfl⟩
      obtain ⟨n1, hn1⟩ : ∃ n1, Gn.length = n1 := ⟨_, rfl⟩
      rw [hgn]
      have HGN := Aside0.mk hgn
      have HN1 := Aside0.mk hn1
      have HGL := Aside0.mk (show Gn.length ≤ 1000 by rw [← hgn, List.length_append]; have := HG.out; simp; omega)
      clear hgn hn1
      clear hk e0 h4
      go_enter Try.func30, Try.ntmps30
      go_wp2_with (fail)
      refine (pair_calls HI.out x y).mono ?_
      rintro e w1 ⟨rfl, rfl⟩
      rw [HK.out]
      go_wp2_with (fail)
      refine (refcut_calls HI.out x y (Nat.le_trans HG.out (by omega))).mono ?_
      rintro e w2 ⟨rfl, hb⟩
      have HB2 := Aside0.mk hb
      clear hb
      obtain ⟨vL, vG, h2⟩ := ref_is_below HI.out HB2.out
      have H2 := Aside0.mk h2
      have c1 := h2.cell2
      have HRG := Aside0.mk (show FRow k58 58 0 w2 vG G from h2.rowG)
      have hfr : w2.frozen? ⟨r, 2, none⟩ = false := blk_frozen h2.blk _
      clear h2
      go_wp2_with ((with_reducible refine gate_dst (N := 28) rfl ?_); refine append_one k58_flat rfl (.tmp 23) (.tmp 27) 64 58 (.agg #[.int .i64 0, .int .i64 0]) 16 rfl Try.underlying64 info58 rfl (by decide) (by omega) (by omega) (base := 0) (n := n1) (rs := G) (rs' := Gn) (x, y) [.int .i64 x, .int .i64 y] (fun _ _ => k58_mkM _ _ _ (x, y)) rfl rfl HRG.out (Nat.zero_le _) (by have := HG.out; omega) HGN.out HN1.out ?_; intro A1 c1' w3 ho3 hC3 hg3 hat3; have hr3 : w3.heap[r]? = w2.heap[r]? := hg3.block r (blk_lt H2.out.blk) (fun e => H2.out.neG e.symm); have g1 : w3.cell? ⟨r, 2, none⟩ = some vG := (by rw [← c1]; exact cell_same hr3); have g2 : w3.frozen? ⟨r, 2, none⟩ = false := blk_frozen (hr3.trans H2.out.blk) _; have HR3 := Aside0.mk hr3; have HO3 := Aside0.mk ho3; have HG3 := Aside0.mk hg3; have HA3 := Aside0.mk hat3; clear hr3 ho3 hC3 hg3 hat3 c1 hfr)
      have hput := H2.out.putG (keeps_grown HG3.out H2.out.fG) HR3.out (fun k hk => HG3.out.block k (H2.out.rowL.lt k hk).2 (fun e => H2.out.neLG k hk e.symm)) HO3.out (fun k hk => HA3.out.elim (fun e => .inl (e ▸ hk)) (fun ⟨b, e, hb⟩ => .inr (by rw [e] at hk; injection hk with hk; omega)))
      have HP := Aside0.mk hput.1
      have HPK := Aside0.mk hput.2
      clear hput g1 g2
      generalize w3.setCell ⟨r, 2, none⟩ (.slice A1 n1 c1') = W at HP HPK ⊢
      obtain ⟨A, c, hvL, hc, hC⟩ := HP.out.rowL.reads
      subst hvL
      have HC := Aside0.mk hC
      clear hC hc
      go_loopw [7, 8] (fun v j wr => ∃ (i n7 c7 : Nat) (A7 : Option Addr), i ≤ L.length ∧ v = .slice A7 n7 c7 ∧ j = .int .i64 i ∧ Aside0 (FRow k69 69 W.heap.size wr (.slice A7 n7 c7) ((L.take i).filter (keptB Gn))) ∧ Aside0 (RowKit.Below W.heap.size W wr)) (fun _ j _ => L.length - (intOf j).toNat)
      case atStart => exact ⟨0, 0, 0, none, Nat.zero_le _, rfl, rfl, ⟨FRow.nil _ _ _ _⟩, ⟨Below.refl _ _⟩⟩
      case round =>
        obtain ⟨i, n7, c7, A7, hi, rfl, rfl, HO, HB⟩ := hrel
        have HR := Aside0.mk (HP.out.below HB.out)
        have c1 := HR.out.cell1
        by_cases hlt : i < L.length
        · have hw : wrap64 ((i : Int) + 1) = ((i + 1 : Nat) : Int) := by have := HL.out; unfold wrap64; omega
          have p1 : (0 : Int) ≤ (i : Int) := by omega
          have p2 : (i : Int) < (L.length : Int) := by omega
          have HCr := Aside0.mk (Kd.C_below HC.out HB.out)
          obtain ⟨ad, e1, _⟩ := HCr.out.2.2 (by omega)
          cases e1
          obtain ⟨m, hm⟩ : ∃ m, rd69 L (i : Int) = m := ⟨_, rfl⟩
          obtain ⟨x0, x1, x2⟩ := cells69 HCr.out i hlt hm
          have HM := Aside0.mk hm
          have HLT := Aside0.mk hlt
          have HT := Aside0.mk (kept_take L Gn i hlt)
          rw [hm] at HT
          clear hm hlt
          go_upto_region 10 with (fail)
          have HRD := Aside0.mk (HR.out.below (below_drew (Below.refl _ _)))
          have HCA := Aside0.mk (refcut_calls ⟨_, _, HRD.out⟩ m.f0 m.f1 HGL.out)
          obtain ⟨ci, hci⟩ : ∃ ci, cutIx Gn m.f0 m.f1 = ci := ⟨_, rfl⟩
          have HCI := Aside0.mk hci
          clear hci
          go_region_held3 (fun w' => w'.cell? ⟨r, 1, none⟩ = some (.slice (some ad) L.length c) ∧ w'.cell? (ad.add (i * 3)) = some (.int .i64 m.f0) ∧ w'.cell? ⟨(ad.add (i * 3)).block, (ad.add (i * 3)).off + 1, none⟩ = some (.int .i64 m.f1))
            (first | exact ⟨c1, x0, x1⟩ | exact ⟨d1, y0, y1⟩)
            (first
            | (go_at_call 36; refine HCA.out.mono ?_; rintro e w6 ⟨rfl, hb⟩; rw [HCI.out]; have HB6 := Aside0.mk (below_then HB.out HB.out.size (below_then (below_drew (Below.refl wr.heap.size wr)) (Nat.le_refl _) hb)); have HR6 := Aside0.mk (HP.out.below HB6.out); have d1 := HR6.out.cell1; obtain ⟨y0, y1, y2⟩ := cells69 (Kd.C_below HC.out HB6.out) i HLT.out HM.out; have HO6 := Aside0.mk (HO.out.move (fun k hk => (below_then (below_drew (Below.refl wr.heap.size wr)) (Nat.le_refl _) hb).block k (HO.out.lt k hk).2)); clear hb))
          by_cases hneg : ci < 0
          · have b1 : decide (ci < 0) = true := by simp [hneg]
            have HT2 := Aside0.mk (HT.out.trans (if_pos (by unfold keptB; rw [HCI.out]; simp; omega)))
            obtain ⟨ln, hln⟩ : ∃ ln, ((L.take (i + 1)).filter (keptB Gn)).length = ln := ⟨_, rfl⟩
            have HLN := Aside0.mk hln
            have HLE := Aside0.mk (Nat.le_trans (List.length_filter_le (keptB Gn) (L.take i)) (by rw [List.length_take]; have := HL.out; omega : (L.take i).length ≤ 1000))
            clear hln
            go_wp2_with ((with_reducible refine gate_dst (N := 68) rfl ?_); (refine append_one k69_flat rfl (.tmp 59) (.tmp 67) 63 69 (.agg #[.int .i64 0, .int .i64 0, .string noT]) 32 rfl Try.underlying63 info69 rfl (by decide) (by omega) (by omega) (base := W.heap.size) (n := ln) (rs := (L.take i).filter (keptB Gn)) (rs' := (L.take (i + 1)).filter (keptB Gn)) m [.int .i64 m.f0, .int .i64 m.f1, .string m.f2] (fun _ _ => k69_mkM _ _ _ m) rfl rfl HO6.out HB6.out.size HLE.out HT2.out.symm HLN.out ?_; intro A8 c8 w7 ho7 hC7 hg7 hat7; have HO7 := Aside0.mk ho7; have HB7 := Aside0.mk (HB6.out.grown hg7 HB6.out.size (fun k hk => (HO6.out.lt k hk).1)); clear ho7 hC7 hg7 hat7))
            go_round
            case rel => exact ⟨i + 1, _, _, _, by have := HLT.out; omega, rfl, by first | (rw [hw]; done) | go_num, HO7, HB7⟩
            case measure => first | (rw [hw]; simp only [intOf, Int.toNat_natCast]; have := HLT.out; omega) | (have := HLT.out; simp [intOf]; omega)
          · have b1 : decide (ci < 0) = false := by simp; omega
            have HT2 := Aside0.mk (HT.out.trans (if_neg (by unfold keptB; rw [HCI.out]; simp; omega)))
            have hneg2 : 0 ≤ ci := by omega
            clear hneg
            go_wp2_with (fail)
            go_round
            case rel => exact ⟨i + 1, _, _, _, by have := HLT.out; omega, rfl, by first | (rw [hw]; done) | go_num, ⟨by rw [HT2.out]; exact HO6.out⟩, HB6⟩
            case measure => first | (rw [hw]; simp only [intOf, Int.toNat_natCast]; have := HLT.out; omega) | (have := HLT.out; simp [intOf]; omega)
        · have HF := Aside0.mk (show (L.take i).filter (keptB Gn) = L.filter (keptB Gn) by rw [List.take_of_length_le (by omega)])
          have f1 : wr.frozen? ⟨r, 1, none⟩ = false := blk_frozen HR.out.blk _
          go_wp2_with (fail)
          go_ret
          have HO2 := HO.out
          rw [HF.out] at HO2
          obtain ⟨R1, R2⟩ := HP.out.putL (Keeps.of_below HB.out) (HB.out.block r (blk_lt HP.out.blk)) (fun k hk => HB.out.block k (HP.out.rowG.lt k hk).2) (HO2.lower (Nat.zero_le _)) (fun k hk => .inr (HO2.lt k hk).1)
          exact cut_end HFL.out HB2.out HPK.out R1 R2
theorem refheal_dummy : True := trivial
end
end Go.Proofs.Ytofacphhfgkemaa.G
