/- NetMatchesReference: a network agrees with the reference implementation. -/
import Derived.Test.YtofacphhfgkemaaQs
import Derived.Test.YtofacphhfgkemaaLlines
namespace Go.Proofs.Ytofacphhfgkemaa.G
open Go.Sort Go.RowKit Go.Proofs.YtofacphhfgkemaaW.PrintWords Go.Proofs.YtofacphhfgkemaaW.PrintLast Go.Proofs.YtofacphhfgkemaaW.PrintMore
open Go.Proofs.Ytofacphhfgkemaa.PNet Go.Proofs.Ytofacphhfgkemaa.Op
set_option linter.unusedVariables false
set_option linter.unusedSimpArgs false

/-- The network and the reference's, made since w, which share no block. -/
structure TwoR (w W : World) (F H : Nat → Prop) (p r : Nat) (nodes : Int) (q : Int → Int → List ByteArray) (c : Int → Int → Bool) (L : List S69) (G : List (Int × Int)) : Prop where
  one : NetIn w W F p nodes q c
  two : RefIs H W r nodes L G
  low : ∀ k, H k → w.heap.size ≤ k
  apart : ∀ k, F k → ¬ H k
section
variable {w W W' : World} {F H : Nat → Prop} {p r : Nat} {nodes : Int} {q q' : Int → Int → List ByteArray} {c c' : Int → Int → Bool} {L L' : List S69} {G G' : List (Int × Int)}
theorem ref_move (h : RefIs H W r nodes L G) (hs : ∀ k, H k → W'.heap[k]? = W.heap[k]?) (hz : W.heap.size ≤ W'.heap.size) : RefIs H W' r nodes L G := by
  obtain ⟨vL, vG, h⟩ := h
  exact ⟨vL, vG, h.same hs hz⟩
theorem TwoR.left (h : TwoR w W F H p r nodes q c L G) (h1 : NetIs (newF F W W') W' p nodes q' c') (h2 : Keeps F W W') : TwoR w W' (newF F W W') H p r nodes q' c' L G :=
  ⟨h.one.step h1 h2, ref_move h.two (fun k hk => h2.block k (h.two.flt k hk) (fun hf => h.apart k hf hk)) h2.size, h.low, fun k hk hg => hk.elim (fun hf => h.apart k hf hg) (fun hn => by have := h.two.flt k hg; omega)⟩
theorem TwoR.right (h : TwoR w W F H p r nodes q c L G) (h1 : RefIs (newF H W W') W' r nodes L' G') (h2 : Keeps H W W') : TwoR w W' F (newF H W W') p r nodes q c L' G' :=
  ⟨⟨h.one.is.same (fun k hk => h2.block k (h.one.is.flt k hk) (h.apart k hk)) h2.size, h.one.low, Keeps.below h.one.below h2 h.low h.one.below.size⟩, h1, fun k hk => hk.elim (h.low k) (fun hn => Nat.le_trans h.one.below.size hn.1), fun k hf hk => hk.elim (h.apart k hf) (fun hn => by have := h.one.is.flt k hf; omega)⟩
theorem TwoR.under (h : TwoR w W F H p r nodes q c L G) (hb : RowKit.Below W.heap.size W W') : TwoR w W' F H p r nodes q c L G := ⟨h.one.under hb, ref_is_below h.two hb, h.low, h.apart⟩
end

theorem texts_same (A : Option Addr) (c : Nat) (l : List ByteArray) (B : Option Addr) (d : Nat) (w : World) (hl : TC w A l) (hm : TC w B l) (hmax : l.length ≤ 100000) :
    Calls Try.prog 14 #[.slice A l.length c, .slice B l.length d] w fun e w' => e = .returned (.bool true) ∧ RowKit.Below w.heap.size w w' :=
  (texts_calls A c l B d l w hl hm hmax).mono fun e w' h => ⟨by rw [h.1, decide_eq_true rfl], h.2⟩
theorem refW_len {N : Int} {L : List S69} {x y : Int} (h : L.length ≤ 1000) : (refW N L x y).length ≤ 100000 := by
  unfold refW
  split
  · have := refT_len L x y
    omega
  · simp

set_option maxRecDepth 100000 in
set_option maxHeartbeats 40000000 in
theorem netMatches_calls (w : World) (nodes : Int) (A : Option Addr) (cp : Nat) (l : List S46) (a b : Int) (hC : Kd.C k46 w A l.length l) (hcp : l.length ≤ cp) :
    Calls Try.prog 6 #[.int .i64 nodes, .slice A l.length cp, .int .i64 a, .int .i64 b] w fun e w' => e = .returned (.bool true) ∧ RowKit.Below w.heap.size w w' := by
  have HC := Aside0.mk hC
  have HCP := Aside0.mk hcp
  clear hC hcp
  cases hf : fewB l with
  | false =>
    have HF := Aside0.mk hf
    clear hf
    go_enter Try.func6, Try.ntmps6
    go_wp2_with (fail)
    refine (head_calls w).mono ?_
    rintro e W0 ⟨rfl, hb⟩
    have HB0 := Aside0.mk hb
    clear hb
    go_wp2_with (fail)
    refine (few_calls A cp l W0 (Kd.C_below HC.out HB0.out) HCP.out).mono ?_
    rintro e W1 ⟨rfl, hb⟩
    rw [HF.out]
    have HB1 := Aside0.mk (below_then HB0.out HB0.out.size hb)
    clear hb
    go_wp2_with (fail)
    go_ret
    exact ⟨rfl, HB1.out⟩
  | true =>
    have HF := Aside0.mk hf
    have HFL := Aside0.mk (few_len hf)
    clear hf
    by_cases hn : 1 ≤ nodes ∧ nodes ≤ 8
    · have HN := Aside0.mk hn
      clear hn
      go_enter Try.func6, Try.ntmps6
      go_wp2_with (fail)
      refine (head_calls w).mono ?_
      rintro e W0 ⟨rfl, hb⟩
      have HB0 := Aside0.mk hb
      clear hb
      go_wp2_with (fail)
      refine (few_calls A cp l W0 (Kd.C_below HC.out HB0.out) HCP.out).mono ?_
      rintro e W1 ⟨rfl, hb⟩
      rw [HF.out]
      have HB1 := Aside0.mk (below_then HB0.out HB0.out.size hb)
      clear hb
      go_wp2_with (fail)

      refine (new_ok W1 nodes HN.out.1 HN.out.2).mono ?_
      rintro e W2 ⟨p, rfl, h1, h2⟩
      have N1 := Aside0.mk (NetIn.mk (w := W1) h1 (fun k hk => hk.1) h2)
      clear h1 h2
      go_wp2_with (fail)
      refine (refnew_ok W2 nodes HN.out.1 HN.out.2).mono ?_
      rintro e W3 ⟨r, rfl, h1, h2⟩
      have NT := Aside0.mk (TwoR.mk (w := W1) (N1.out.under h2) h1 (fun k hk => Nat.le_trans N1.out.below.size hk.1) (fun k hk hg => by have := hk.2; have := hg.1; omega))
      clear h1 h2 N1
      go_wp2_with (fail)
      go_loopw [14] (fun v wr => ∃ k : Nat, k ≤ l.length ∧ v = .int .i64 k ∧ Aside0 (∃ F H q c L G, TwoR W1 wr F H p r nodes q c L G ∧ Sim nodes q c L G ∧ L.length ≤ k ∧ G.length ≤ k)) (fun v _ => l.length - (intOf v).toNat)
      case atStart => exact ⟨0, Nat.zero_le _, rfl, ⟨_, _, _, _, _, _, NT.out, Sim.zero nodes, Nat.le_refl _, Nat.le_refl _⟩⟩
      case round =>
        clear NT
        obtain ⟨k, hk, rfl, HX⟩ := hrel
        obtain ⟨F, H, q, c, L, G, hx, hsim, hlL, hlG⟩ := HX.out
        have NT := Aside0.mk hx
        have HSIM := Aside0.mk hsim
        have HLa := Aside0.mk (And.intro hlL hlG)
        clear HX hx hsim hlL hlG
        by_cases hlt : k < l.length
        · have hw : wrap64 ((k : Int) + 1) = ((k + 1 : Nat) : Int) := by have := HFL.out.1; unfold wrap64; omega
          have HCr := Aside0.mk (Kd.C_below HC.out (below_then HB1.out HB1.out.size NT.out.one.below))
          have HSZ := Aside0.mk (HFL.out.2 k hlt)
          obtain ⟨ad, e1⟩ := C_some HCr.out (by omega)
          cases e1
          obtain ⟨s, hs⟩ : ∃ s, rd_T46 l (k : Int) = s := ⟨_, rfl⟩
          have HS := Aside0.mk hs
          rw [hs] at HSZ
          clear hs
          have HLT := Aside0.mk hlt
          have p1 : (0 : Int) ≤ (k : Int) := by omega
          have p2 : (k : Int) < (l.length : Int) := by omega
          have HLL := Aside0.mk (show L.length ≤ 900 by have := HLa.out.1; have := HFL.out.1; omega)
          have HLG := Aside0.mk (show G.length ≤ 900 by have := HLa.out.2; have := HFL.out.1; omega)
          obtain ⟨⟨g1, g2, g3⟩, g4⟩ := HSIM.out.step s
          have HS2 := Aside0.mk g4
          have HLL2 := Aside0.mk (show (rdoL nodes L G s).length ≤ 1000 by have := rdoL_len (N := nodes) (L := L) (G := G) (s := s); have := HLL.out; omega)
          have HLb := Aside0.mk (show (rdoL nodes L G s).length ≤ k + 1 ∧ (rdoG nodes G s).length ≤ k + 1 from ⟨Nat.le_trans rdoL_len (by have := HLa.out.1; omega), Nat.le_trans rdoG_len (by have := HLa.out.2; omega)⟩)
          obtain ⟨E, hE⟩ : ∃ E, doE nodes q c s = E := ⟨_, rfl⟩
          obtain ⟨T, hT⟩ : ∃ T, doT nodes q s = T := ⟨_, rfl⟩
          obtain ⟨K, hK⟩ : ∃ K, doK nodes q s = K := ⟨_, rfl⟩
          have HE := Aside0.mk hE
          have HT := Aside0.mk hT
          have HK := Aside0.mk hK
          have HRE := Aside0.mk (g1.symm.trans hE)
          have HRT := Aside0.mk (g2.symm.trans hT)
          have HRK := Aside0.mk (g3.symm.trans hK)
          obtain ⟨M1, hm1⟩ : ∃ M, (if knowsB nodes s.f1 s.f2 then doQ nodes q c s s.f1 s.f2 else []) = M := ⟨_, rfl⟩
          obtain ⟨M2, hm2⟩ : ∃ M, (if knowsB nodes a b then doQ nodes q c s a b else []) = M := ⟨_, rfl⟩
          have HM1 := Aside0.mk hm1
          have HM2 := Aside0.mk hm2
          have HR1 := Aside0.mk ((g4.waits s.f1 s.f2).symm.trans hm1)
          have HR2 := Aside0.mk ((g4.waits a b).symm.trans hm2)
          clear g1 g2 g3 g4 hE hT hK hm1 hm2 hlt
          have HF1 := Aside0.mk (show M1.length ≤ 100000 by rw [← HR1.out]; exact refW_len HLL2.out)
          have HF2 := Aside0.mk (show M2.length ≤ 100000 by rw [← HR2.out]; exact refW_len HLL2.out)
          go_upto_region 11 with (fail)
          have hne := neq43 E T K
          have NTD := Aside0.mk (NT.out.under (below_drew (Below.refl _ _)))
          obtain ⟨x00, x01, x02, x03, x04, x05, x06⟩ := cells7 HCr.out k HLT.out HS.out
          have HDO := Aside0.mk (do_calls NTD.out.one.is s (by have := HSZ.out; omega))
          go_region_held3 (fun w' => w'.cell? (ad.add (k * 7)) = some (.int .i64 s.f0) ∧ w'.cell? ⟨(ad.add (k * 7)).block, (ad.add (k * 7)).off + 1, none⟩ = some (.int .i64 s.f1) ∧ w'.cell? ⟨(ad.add (k * 7)).block, (ad.add (k * 7)).off + 2, none⟩ = some (.int .i64 s.f2) ∧ w'.cell? ⟨(ad.add (k * 7)).block, (ad.add (k * 7)).off + 3, none⟩ = some (.int .i64 s.f3) ∧ w'.cell? ⟨(ad.add (k * 7)).block, (ad.add (k * 7)).off + 4, none⟩ = some (.string s.f4) ∧ w'.cell? ⟨(ad.add (k * 7)).block, (ad.add (k * 7)).off + 5, none⟩ = some (.bool s.f5) ∧ w'.cell? ⟨(ad.add (k * 7)).block, (ad.add (k * 7)).off + 6, none⟩ = some (.bool s.f6))
            (first | exact ⟨x80, x81, x82, x83, x84, x85, x86⟩ | exact ⟨x70, x71, x72, x73, x74, x75, x76⟩ | exact ⟨x60, x61, x62, x63, x64, x65, x66⟩ | exact ⟨x50, x51, x52, x53, x54, x55, x56⟩ | exact ⟨x40, x41, x42, x43, x44, x45, x46⟩ | exact ⟨x30, x31, x32, x33, x34, x35, x36⟩ | exact ⟨x20, x21, x22, x23, x24, x25, x26⟩ | exact ⟨x10, x11, x12, x13, x14, x15, x16⟩ | exact ⟨x00, x01, x02, x03, x04, x05, x06⟩)
            (first
            | (go_at_call 14; refine HT2.out.mono ?_; rintro e w8 ⟨rfl, hb⟩; have NT8 := Aside0.mk (NT7.out.under hb); obtain ⟨x80, x81, x82, x83, x84, x85, x86⟩ := cells7 (Kd.C_below HC.out (below_then HB1.out HB1.out.size NT8.out.one.below)) k HLT.out HS.out; clear hb)
            | (go_at_call 20; refine HV2.out.mono ?_; rintro e w7 ⟨A7, c7, rfl, hC, hb⟩; rw [HR2.out] at hC ⊢; have NT7 := Aside0.mk (NT6.out.under hb); obtain ⟨x70, x71, x72, x73, x74, x75, x76⟩ := cells7 (Kd.C_below HC.out (below_then HB1.out HB1.out.size NT7.out.one.below)) k HLT.out HS.out; have HT2 := Aside0.mk (texts_same A6 c6 M2 A7 c7 w7 (HC6.out.below hb) hC HF2.out); clear hC hb)
            | (go_at_call 15; refine HW2.out.mono ?_; rintro e w6 ⟨A6, c6, rfl, hC, ho, hb⟩; rw [HM2.out] at hC ⊢; have HC6 := Aside0.mk hC; have NT6 := Aside0.mk (NT5.out.under hb); obtain ⟨x60, x61, x62, x63, x64, x65, x66⟩ := cells7 (Kd.C_below HC.out (below_then HB1.out HB1.out.size NT6.out.one.below)) k HLT.out HS.out; have HV2 := Aside0.mk (refwaits NT6.out.two a b HLL2.out); clear hC ho hb)
            | (go_at_call 14; refine HT1.out.mono ?_; rintro e w5 ⟨rfl, hb⟩; have NT5 := Aside0.mk (NT4.out.under hb); obtain ⟨x50, x51, x52, x53, x54, x55, x56⟩ := cells7 (Kd.C_below HC.out (below_then HB1.out HB1.out.size NT5.out.one.below)) k HLT.out HS.out; have HW2 := Aside0.mk (waits NT5.out.one.is a b); clear hb)
            | (go_at_call 20; refine HV1.out.mono ?_; rintro e w4 ⟨A4, c4, rfl, hC, hb⟩; rw [HR1.out] at hC ⊢; have NT4 := Aside0.mk (NT3.out.under hb); obtain ⟨x40, x41, x42, x43, x44, x45, x46⟩ := cells7 (Kd.C_below HC.out (below_then HB1.out HB1.out.size NT4.out.one.below)) k HLT.out HS.out; have HT1 := Aside0.mk (texts_same A3 c3 M1 A4 c4 w4 (HC3.out.below hb) hC HF1.out); clear hC hb)
            | (go_at_call 15; refine HW1.out.mono ?_; rintro e w3 ⟨A3, c3, rfl, hC, ho, hb⟩; rw [HM1.out] at hC ⊢; have HC3 := Aside0.mk hC; have NT3 := Aside0.mk (NT2.out.under hb); obtain ⟨x30, x31, x32, x33, x34, x35, x36⟩ := cells7 (Kd.C_below HC.out (below_then HB1.out HB1.out.size NT3.out.one.below)) k HLT.out HS.out; have HV1 := Aside0.mk (refwaits NT3.out.two s.f1 s.f2 HLL2.out); clear hC ho hb)
            | (go_at_call 19; refine HRD.out.mono ?_; rintro e w2 ⟨rfl, h1, h2⟩; rw [HRE.out, HRT.out, HRK.out]; have NT2 := Aside0.mk (NT1.out.right h1 h2); obtain ⟨x20, x21, x22, x23, x24, x25, x26⟩ := cells7 (Kd.C_below HC.out (below_then HB1.out HB1.out.size NT2.out.one.below)) k HLT.out HS.out; have HW1 := Aside0.mk (waits NT2.out.one.is s.f1 s.f2); clear h1 h2)
            | (go_at_call 18; refine HDO.out.mono ?_; rintro e w1 ⟨rfl, h1, h2⟩; rw [HE.out, HT.out, HK.out]; have NT1 := Aside0.mk (NTD.out.left h1 h2); obtain ⟨x10, x11, x12, x13, x14, x15, x16⟩ := cells7 (Kd.C_below HC.out (below_then HB1.out HB1.out.size NT1.out.one.below)) k HLT.out HS.out; have HRD := Aside0.mk (rdo_calls NT1.out.two s (by have := HSZ.out; omega) HLL.out HLG.out); clear h1 h2))
          clear x00 x01 x02 x03 x04 x05 x06 x10 x11 x12 x13 x14 x15 x16 x20 x21 x22 x23 x24 x25 x26 x30 x31 x32 x33 x34 x35 x36 x40 x41 x42 x43 x44 x45 x46 x50 x51 x52 x53 x54 x55 x56 x60 x61 x62 x63 x64 x65 x66 x70 x71 x72 x73 x74 x75 x76
          go_wp2_with (fail)
          go_round
          case rel => exact ⟨k + 1, by have := HLT.out; omega, by first | (rw [hw]; done) | go_num, ⟨_, _, _, _, _, _, NT8.out, HS2.out, HLb.out.1, HLb.out.2⟩⟩
          case measure => first | (rw [hw]; simp only [intOf, Int.toNat_natCast]; have := HLT.out; omega) | (have := HLT.out; simp [intOf]; omega)
        · obtain rfl : k = l.length := by omega
          go_wp2_with (fail)
          go_ret
          exact ⟨rfl, below_then HB1.out HB1.out.size NT.out.one.below⟩
    · have HN := Aside0.mk hn
      clear hn
      go_enter Try.func6, Try.ntmps6
      go_wp2_with (fail)
      refine (head_calls w).mono ?_
      rintro e W0 ⟨rfl, hb⟩
      have HB0 := Aside0.mk hb
      clear hb
      go_wp2_with (fail)
      refine (few_calls A cp l W0 (Kd.C_below HC.out HB0.out) HCP.out).mono ?_
      rintro e W1 ⟨rfl, hb⟩
      rw [HF.out]
      have HB1 := Aside0.mk (below_then HB0.out HB0.out.size hb)
      clear hb
      go_wp2_with (fail)

      refine (new_bad W1 nodes HN.out).mono ?_
      rintro e W2 ⟨rfl, rfl⟩
      go_wp2_with (fail)
      refine (refnew_bad W1 nodes HN.out).mono ?_
      rintro e W2 ⟨rfl, rfl⟩
      go_wp2_with (fail)
      go_loopw [14] (fun v wr => v = .int .i64 0 ∧ Aside0 (RowKit.Below w.heap.size w wr)) (fun v _ => 0)
      case atStart => exact ⟨rfl, HB1⟩
      case round =>
        obtain ⟨rfl, HB⟩ := hrel
        by_cases h0 : l.length = 0
        · have q1 : ¬ (0 : Int) < (l.length : Int) := by omega
          have q2 : decide ((0 : Int) < (l.length : Int)) = false := decide_eq_false q1
          have q3 : (l.length : Int) = 0 := by omega
          clear h0
          go_wp2_with (fail)
          go_ret
          exact ⟨rfl, HB.out⟩
        · have q1 : (0 : Int) < (l.length : Int) := by omega
          have q2 : decide ((0 : Int) < (l.length : Int)) = true := decide_eq_true q1
          have q4 : 0 < l.length := by omega
          clear h0
          go_wp2_with (fail)
          go_ret
          exact ⟨rfl, HB.out⟩
end Go.Proofs.Ytofacphhfgkemaa.G
