/- NetLines: what concerns other pairs of nodes makes no difference to a pair, and while a line is cut nothing waits on it. -/
import Derived.Test.YtofacphhfgkemaaQl
import Derived.Test.YtofacphhfgkemaaOq
import Derived.Test.YtofacphhfgkemaaGl
import Derived.Deep.RegionHeld3
namespace Go.Proofs.Ytofacphhfgkemaa.G
open Go.Sort Go.RowKit Go.Proofs.YtofacphhfgkemaaW.PrintWords Go.Proofs.YtofacphhfgkemaaW.PrintLast Go.Proofs.YtofacphhfgkemaaW.PrintMore
open Go.Proofs.Ytofacphhfgkemaa.PNet Go.Proofs.Ytofacphhfgkemaa.Op
set_option linter.unusedVariables false
set_option linter.unusedSimpArgs false

/-- Two networks that were made since w, and share no block. -/
structure Two (w W : World) (F G : Nat → Prop) (p r : Nat) (nodes : Int) (q : Int → Int → List ByteArray) (c : Int → Int → Bool) (q2 : Int → Int → List ByteArray) (c2 : Int → Int → Bool) : Prop where
  one : NetIn w W F p nodes q c
  two : NetIn w W G r nodes q2 c2
  apart : ∀ k, F k → ¬ G k
theorem Two.left {w W W' : World} {F G : Nat → Prop} {p r : Nat} {nodes : Int} {q q' q2 : Int → Int → List ByteArray} {c c' c2 : Int → Int → Bool} (h : Two w W F G p r nodes q c q2 c2) (h1 : NetIs (newF F W W') W' p nodes q' c') (h2 : Keeps F W W') : Two w W' (newF F W W') G p r nodes q' c' q2 c2 :=
  ⟨h.one.step h1 h2, ⟨h.two.is.same (fun k hk => h2.block k (h.two.is.flt k hk) (fun hf => h.apart k hf hk)) h2.size, h.two.low, Keeps.below h.two.below h2 h.one.low h.two.below.size⟩, fun k hk hg => hk.elim (fun hf => h.apart k hf hg) (fun hn => by have := h.two.is.flt k hg; omega)⟩
theorem Two.right {w W W' : World} {F G : Nat → Prop} {p r : Nat} {nodes : Int} {q q2 q2' : Int → Int → List ByteArray} {c c2 c2' : Int → Int → Bool} (h : Two w W F G p r nodes q c q2 c2) (h1 : NetIs (newF G W W') W' r nodes q2' c2') (h2 : Keeps G W W') : Two w W' F (newF G W W') p r nodes q c q2' c2' :=
  ⟨⟨h.one.is.same (fun k hk => h2.block k (h.one.is.flt k hk) (h.apart k hk)) h2.size, h.one.low, Keeps.below h.one.below h2 h.two.low h.one.below.size⟩, h.two.step h1 h2, fun k hf hk => hk.elim (h.apart k hf) (fun hn => by have := h.one.is.flt k hf; omega)⟩
theorem Two.under {w W W' : World} {F G : Nat → Prop} {p r : Nat} {nodes : Int} {q q2 : Int → Int → List ByteArray} {c c2 : Int → Int → Bool} (h : Two w W F G p r nodes q c q2 c2) (hb : RowKit.Below W.heap.size W W') : Two w W' F G p r nodes q c q2 c2 := ⟨h.one.under hb, h.two.under hb, h.apart⟩

theorem cells7 {w : World} {ad : Addr} {l : List S46} (h : Kd.C k46 w (some ad) l.length l) (k : Nat) (hk : k < l.length) {s : S46} (hs : rd_T46 l (k : Int) = s) :
    w.cell? (ad.add (k * 7)) = some (.int .i64 s.f0) ∧ w.cell? ⟨(ad.add (k * 7)).block, (ad.add (k * 7)).off + 1, none⟩ = some (.int .i64 s.f1) ∧ w.cell? ⟨(ad.add (k * 7)).block, (ad.add (k * 7)).off + 2, none⟩ = some (.int .i64 s.f2) ∧ w.cell? ⟨(ad.add (k * 7)).block, (ad.add (k * 7)).off + 3, none⟩ = some (.int .i64 s.f3) ∧ w.cell? ⟨(ad.add (k * 7)).block, (ad.add (k * 7)).off + 4, none⟩ = some (.string s.f4) ∧ w.cell? ⟨(ad.add (k * 7)).block, (ad.add (k * 7)).off + 5, none⟩ = some (.bool s.f5) ∧ w.cell? ⟨(ad.add (k * 7)).block, (ad.add (k * 7)).off + 6, none⟩ = some (.bool s.f6) := by
  obtain ⟨ad', e1, x0, x1, x2, x3, x4, x5, x6⟩ := at_T46 h (k : Int) (by omega) (by omega)
  cases e1
  rw [Int.toNat_natCast, hs] at x0 x1 x2 x3 x4 x5 x6
  exact ⟨x0, x1, x2, x3, x4, x5, x6⟩
theorem C_some {w : World} {A : Option Addr} {l : List S46} (h : Kd.C k46 w A l.length l) (hk : 0 < l.length) : ∃ ad, A = some ad := by
  obtain ⟨ad, e, _⟩ := h.2.2 hk
  exact ⟨ad, e⟩
theorem eq43 (d : Nat) (w : World) (a : Int) (b : ByteArray) (c : Bool) (a' : Int) (b' : ByteArray) (c' : Bool) : (Op.equalIn (d + 2) 43 (.agg #[.int .i64 a, .string b, .bool c]) (.agg #[.int .i64 a', .string b', .bool c'])).run Try.prog w = .ok (a == a' && (b.toList == b'.toList && c == c')) w := by
  refine eqA_of Try.underlying43 (by kernel_rfl) ?_
  refine eqf_cons (by rfl) (by go_simp; rfl) (by go_simp; rfl) (by go_simp) ?_
  refine eqf_cons (by rfl) (by go_simp; rfl) (by go_simp; rfl) (by go_simp) ?_
  exact eqf_last (by rfl) (by go_simp; rfl) (by go_simp; rfl) (by go_simp)
theorem neq43 (a : Int) (b : ByteArray) (c : Bool) (W : World) : (binOp .neq 43 (rv a b c) (rv a b c)).run Try.prog W = .ok (.bool false) W := by
  have h := eq43 9998 W a b c a b c
  simp only [binOp]
  simp [Op.equal, Op.maxDepth, h]

theorem ite_nil (b : Bool) {l : List ByteArray} (h : l = []) : (if b then l else []) = [] := by rw [h]; simp
theorem few_of {F : Nat → Prop} {w : World} {a : Nat} {nodes : Int} {q : Int → Int → List ByteArray} {cut : Int → Int → Bool} (h : NetIs F w a nodes q cut) : ∀ x y, (q x y).length ≤ 100 := by
  obtain ⟨qb, cb, fq, fc, h⟩ := h
  exact h.few

set_option maxRecDepth 100000 in
set_option maxHeartbeats 40000000 in
theorem netLines_calls (w : World) (nodes : Int) (A : Option Addr) (cp : Nat) (l : List S46) (a b : Int) (hC : Kd.C k46 w A l.length l) (hcp : l.length ≤ cp) (hwf : wf64 nodes) :
    Calls Try.prog 9 #[.int .i64 nodes, .slice A l.length cp, .int .i64 a, .int .i64 b] w fun e w' => e = .returned (.bool true) ∧ RowKit.Below w.heap.size w w' := by
  have HC := Aside0.mk hC
  have HCP := Aside0.mk hcp
  clear hC hcp
  by_cases hn : 1 ≤ nodes ∧ nodes ≤ 8
  · have HN := Aside0.mk hn
    clear hn
    cases hf : fewB l with
    | false =>
      have HF := Aside0.mk hf
      clear hf
      go_enter Try.func9, Try.ntmps9
      go_wp2_with (fail)
      refine (head_calls w).mono ?_
      rintro e W0 ⟨rfl, hb⟩
      have HB0 := Aside0.mk hb
      clear hb
      go_wp2_with (fail)
      refine (new_ok W0 nodes HN.out.1 HN.out.2).mono ?_
      rintro e W1 ⟨p, rfl, h1, h2⟩
      have HB1 := Aside0.mk (below_then HB0.out HB0.out.size h2)
      clear h1 h2
      go_wp2_with (fail)
      refine (new_ok W1 nodes HN.out.1 HN.out.2).mono ?_
      rintro e W2 ⟨r, rfl, h1, h2⟩
      have HB2 := Aside0.mk (below_then HB1.out HB1.out.size h2)
      clear h1 h2
      go_wp2_with (fail)
      refine (few_calls A cp l W2 (Kd.C_below HC.out HB2.out) HCP.out).mono ?_
      rintro e W3 ⟨rfl, hb⟩
      rw [HF.out]
      have HB3 := Aside0.mk (below_then HB2.out HB2.out.size hb)
      clear hb
      go_wp2_with (fail)
      go_ret
      exact ⟨rfl, HB3.out⟩
    | true =>
      have HF := Aside0.mk hf
      have HFL := Aside0.mk (few_len hf)
      clear hf
      by_cases hab : a = b
      · have hq : (a == b) = true := by simp [hab]
        clear hab
        go_enter Try.func9, Try.ntmps9
        go_wp2_with (fail)
        refine (head_calls w).mono ?_
        rintro e W0 ⟨rfl, hb⟩
        have HB0 := Aside0.mk hb
        clear hb
        go_wp2_with (fail)
        refine (new_ok W0 nodes HN.out.1 HN.out.2).mono ?_
        rintro e W1 ⟨p, rfl, h1, h2⟩
        have HB1 := Aside0.mk (below_then HB0.out HB0.out.size h2)
        clear h1 h2
        go_wp2_with (fail)
        refine (new_ok W1 nodes HN.out.1 HN.out.2).mono ?_
        rintro e W2 ⟨r, rfl, h1, h2⟩
        have HB2 := Aside0.mk (below_then HB1.out HB1.out.size h2)
        clear h1 h2
        go_wp2_with (fail)
        refine (few_calls A cp l W2 (Kd.C_below HC.out HB2.out) HCP.out).mono ?_
        rintro e W3 ⟨rfl, hb⟩
        rw [HF.out]
        have HB3 := Aside0.mk (below_then HB2.out HB2.out.size hb)
        clear hb
        go_wp2_with (fail)
        go_ret
        exact ⟨rfl, HB3.out⟩
      · have hq : (a == b) = false := by simp [hab]
        have HAB := Aside0.mk hab
        clear hab
        go_enter Try.func9, Try.ntmps9
        go_wp2_with (fail)
        refine (head_calls w).mono ?_
        rintro e W0 ⟨rfl, hb⟩
        have HB0 := Aside0.mk hb
        clear hb
        go_wp2_with (fail)
        refine (new_ok W0 nodes HN.out.1 HN.out.2).mono ?_
        rintro e W1 ⟨p, rfl, h1, h2⟩
        have N1 := Aside0.mk (NetIn.mk (w := W0) h1 (fun k hk => hk.1) h2)
        clear h1 h2
        go_wp2_with (fail)
        refine (new_ok W1 nodes HN.out.1 HN.out.2).mono ?_
        rintro e W2 ⟨r, rfl, h1, h2⟩
        have NT := Aside0.mk (Two.mk (w := W0) (N1.out.under h2) ⟨h1, fun k hk => Nat.le_trans N1.out.below.size hk.1, below_then N1.out.below N1.out.below.size h2⟩ (fun k hk hg => by have := hk.2; have := hg.1; omega))
        clear h1 h2
        go_wp2_with (fail)
        refine (few_calls A cp l W2 (Kd.C_below HC.out (below_then HB0.out HB0.out.size NT.out.one.below)) HCP.out).mono ?_
        rintro e W3 ⟨rfl, hb⟩
        rw [HF.out]
        have NT3 := Aside0.mk (NT.out.under hb)
        clear hb NT N1
        go_wp2_with (fail)
        go_loopw [14, 15] (fun v i wr => ∃ (k : Nat) (fl : Bool), k ≤ l.length ∧ v = .bool fl ∧ i = .int .i64 k ∧ Aside0 (∃ F G q c q2 c2, Two W0 wr F G p r nodes q c q2 c2 ∧ Lines a b q c q2 c2 fl)) (fun _ i _ => l.length - (intOf i).toNat)
        case atStart => exact ⟨0, false, Nat.zero_le _, rfl, rfl, ⟨_, _, _, _, _, _, NT3.out, Lines.zero a b⟩⟩
        case round =>
          clear NT3
          obtain ⟨k, fl, hk, rfl, rfl, HX⟩ := hrel
          obtain ⟨F, G, q, c, q2, c2, hx, hl⟩ := HX.out
          have NT := Aside0.mk hx
          have HLN := Aside0.mk hl
          clear HX hx hl
          by_cases hlt : k < l.length
          · have hw : wrap64 ((k : Int) + 1) = ((k + 1 : Nat) : Int) := by have := HFL.out.1; unfold wrap64; omega
            have HCr := Aside0.mk (Kd.C_below HC.out (below_then HB0.out HB0.out.size NT.out.one.below))
            have HSZ := Aside0.mk (HFL.out.2 k hlt)
            obtain ⟨ad, e1⟩ := C_some HCr.out (by omega)
            cases e1
            obtain ⟨s, hs⟩ : ∃ s, rd_T46 l (k : Int) = s := ⟨_, rfl⟩
            have HS := Aside0.mk hs
            rw [hs] at HSZ
            clear hs
            obtain ⟨x0, x1, x2, x3, x4, x5, x6⟩ := cells7 HCr.out k hlt HS.out
            have p1 : (0 : Int) ≤ (k : Int) := by omega
            have p2 : (k : Int) < (l.length : Int) := by omega
            go_wp2_with (fail)
            refine (do_calls NT.out.one.is s (by have := HSZ.out; omega)).mono ?_
            rintro e W4 ⟨rfl, h1, h2⟩
            have NT4 := Aside0.mk (NT.out.left h1 h2)
            clear h1 h2 x0 x1 x2 x3 x4 x5 x6
            go_upto_region 11 with (fail)
            have hg : (W4.alloc (.cells #[.int .i64 (doE nodes q c s), .string (doT nodes q s), .bool (doK nodes q s)] 43)).heap[W4.heap.size]? = some (.cells #[.int .i64 (doE nodes q c s), .string (doT nodes q s), .bool (doK nodes q s)] 43 (0, 0)) := alloc_new _ _
            have HGT := Aside0.mk (show ∀ k, G k → k < W4.heap.size from NT4.out.two.is.flt)
            have NT5 := Aside0.mk (NT4.out.under (below_alloc (Below.refl _ _) (.cells #[.int .i64 (doE nodes q c s), .string (doT nodes q s), .bool (doK nodes q s)] 43)))
            generalize W4.alloc (.cells #[.int .i64 (doE nodes q c s), .string (doT nodes q s), .bool (doK nodes q s)] 43) = W5 at hg NT5 ⊢
            clear NT4
            generalize W4.heap.size = X at hg HGT ⊢
            generalize hE : doE nodes q c s = E at hg ⊢
            generalize hT : doT nodes q s = T at hg ⊢
            generalize hK : doK nodes q s = K at hg ⊢
            have HE := Aside0.mk hE
            have HT := Aside0.mk hT
            have HK := Aside0.mk hK
            have HX := Aside0.mk hg
            clear hE hT hK hg
            have HB5 := Aside0.mk (below_then HB0.out HB0.out.size NT5.out.one.below)
            have HC5 := Aside0.mk (Kd.C_below HC.out HB5.out)
            obtain ⟨x0, x1, x2, x3, x4, x5, x6⟩ := cells7 HC5.out k hlt HS.out
            have g0 : W5.cell? ⟨X, 0, none⟩ = some (.int .i64 E) := by rw [blk_cell HX.out]; rfl
            have g1 : W5.cell? ⟨X, 1, none⟩ = some (.string T) := by rw [blk_cell HX.out]; rfl
            have g2 : W5.cell? ⟨X, 2, none⟩ = some (.bool K) := by rw [blk_cell HX.out]; rfl
            by_cases h1 : s.f1 = a ∧ s.f2 = b
            · have rr1 : (s.f1 == a) = true := by simp [h1.1]
              have rr2 : (s.f2 == b) = true := by simp [h1.2]
              obtain ⟨⟨hq1, hq2, hq3⟩, hln⟩ := HLN.out.step (nodes := nodes) (s := s) (.inl h1)
              rw [HE.out] at hq1 hln
              rw [HT.out] at hq2
              rw [HK.out] at hq3
              have HQ1 := Aside0.mk hq1
              have HQ2 := Aside0.mk hq2
              have HQ3 := Aside0.mk hq3
              have HL6 := Aside0.mk hln
              clear hq1 hq2 hq3 hln h1
              go_upto_region 12 with (fail)
              have hne := neq43 E T K
              have NTD := Aside0.mk (NT5.out.under (below_drew (Below.refl _ _)))
              have HDO := Aside0.mk (do_calls NTD.out.two.is s (by have := HSZ.out; omega))
              go_region_held3 (fun w' => w'.cell? (ad.add (k * 7)) = some (.int .i64 s.f0) ∧ w'.cell? ⟨(ad.add (k * 7)).block, (ad.add (k * 7)).off + 1, none⟩ = some (.int .i64 s.f1) ∧ w'.cell? ⟨(ad.add (k * 7)).block, (ad.add (k * 7)).off + 2, none⟩ = some (.int .i64 s.f2) ∧ w'.cell? ⟨(ad.add (k * 7)).block, (ad.add (k * 7)).off + 3, none⟩ = some (.int .i64 s.f3) ∧ w'.cell? ⟨(ad.add (k * 7)).block, (ad.add (k * 7)).off + 4, none⟩ = some (.string s.f4) ∧ w'.cell? ⟨(ad.add (k * 7)).block, (ad.add (k * 7)).off + 5, none⟩ = some (.bool s.f5) ∧ w'.cell? ⟨(ad.add (k * 7)).block, (ad.add (k * 7)).off + 6, none⟩ = some (.bool s.f6) ∧ w'.cell? ⟨X, 0, none⟩ = some (.int .i64 E) ∧ w'.cell? ⟨X, 1, none⟩ = some (.string T) ∧ w'.cell? ⟨X, 2, none⟩ = some (.bool K))
                (first | exact ⟨x0, x1, x2, x3, x4, x5, x6, g0, g1, g2⟩ | exact ⟨y0, y1, y2, y3, y4, y5, y6, k0, k1, k2⟩)
                (first
                | (go_at_call 18; refine HDO.out.mono ?_; rintro e w6 ⟨rfl, h1, h2⟩; rw [HQ1.out, HQ2.out, HQ3.out]; have NT6 := Aside0.mk (NTD.out.right h1 h2); have hx6 := (h2.block X (blk_lt HX.out) (fun hg => Nat.lt_irrefl _ (HGT.out X hg))).trans HX.out; have HX6 := Aside0.mk hx6; have HC6 := Aside0.mk (Kd.C_below HC.out (below_then HB0.out HB0.out.size NT6.out.one.below)); obtain ⟨y0, y1, y2, y3, y4, y5, y6⟩ := cells7 HC6.out k hlt HS.out; have k0 : w6.cell? ⟨X, 0, none⟩ = some (.int .i64 E) := (by rw [blk_cell HX6.out]; rfl); have k1 : w6.cell? ⟨X, 1, none⟩ = some (.string T) := (by rw [blk_cell HX6.out]; rfl); have k2 : w6.cell? ⟨X, 2, none⟩ = some (.bool K) := (by rw [blk_cell HX6.out]; rfl); clear h1 h2 hx6))
              go_upto_region 14 with (fail)
              clear hne x0 x1 x2 x3 x4 x5 x6 g0 g1 g2
              by_cases z0 : s.f0 = 0
              · have H0 := Aside0.mk z0
                have d0 : (s.f0 == 0) = true := by simp [z0]
                have d2 : (s.f0 == 2) = false := by simp [z0]
                clear z0
                cases fl with
                | true =>
                  have HL7 := Aside0.mk (show Lines a b (doQ nodes q c s) (doC nodes c s) (doQ nodes q2 c2 s) (doC nodes c2 s) true from (show newFl true s.f0 E = true by unfold newFl; simp [H0.out]) ▸ HL6.out)
                  obtain ⟨hn1, hn2⟩ := HL7.out.none
                  have HW1 := Aside0.mk (ite_nil (knowsB nodes a b) hn1)
                  have HW2 := Aside0.mk (ite_nil (knowsB nodes b a) hn2)
                  clear hn1 hn2
                  go_wp2_with (fail)
                  refine (waits NT6.out.one.is a b).mono ?_
                  rintro e W8 ⟨A8, c8, rfl, hC, ho, hb⟩
                  rw [HW1.out]
                  have NT8 := Aside0.mk (NT6.out.under hb)
                  clear hC ho hb
                  go_wp2_with (fail)
                  refine (waits NT8.out.one.is b a).mono ?_
                  rintro e W9 ⟨A9, c9, rfl, hC, ho, hb⟩
                  rw [HW2.out]
                  have NT9 := Aside0.mk (NT8.out.under hb)
                  clear hC ho hb
                  go_wp2_with (fail)
                  go_round
                  case rel => exact ⟨k + 1, true, by omega, rfl, by first | (rw [hw]; done) | go_num, ⟨_, _, _, _, _, _, NT9.out, HL7.out⟩⟩
                  case measure => first | (rw [hw]; simp only [intOf, Int.toNat_natCast]; omega) | (simp [intOf]; omega)
                | false =>
                  have HL7 := Aside0.mk (show Lines a b (doQ nodes q c s) (doC nodes c s) (doQ nodes q2 c2 s) (doC nodes c2 s) false from (show newFl false s.f0 E = false by unfold newFl; simp [H0.out]) ▸ HL6.out)
                  go_wp2_with (fail)
                  go_round
                  case rel => exact ⟨k + 1, false, by omega, rfl, by first | (rw [hw]; done) | go_num, ⟨_, _, _, _, _, _, NT6.out, HL7.out⟩⟩
                  case measure => first | (rw [hw]; simp only [intOf, Int.toNat_natCast]; omega) | (simp [intOf]; omega)
              · by_cases z1 : s.f0 = 1
                · have H0 := Aside0.mk z1
                  have d0 : (s.f0 == 0) = false := by simp [z0]
                  have d1 : (s.f0 == 1) = true := by simp [z1]
                  have d2 : (s.f0 == 2) = false := by simp [z1]
                  clear z0 z1
                  cases fl with
                  | true =>
                    have HL7 := Aside0.mk (show Lines a b (doQ nodes q c s) (doC nodes c s) (doQ nodes q2 c2 s) (doC nodes c2 s) true from (show newFl true s.f0 E = true by unfold newFl; simp [H0.out]) ▸ HL6.out)
                    obtain ⟨hn1, hn2⟩ := HL7.out.none
                    have HW1 := Aside0.mk (ite_nil (knowsB nodes a b) hn1)
                    have HW2 := Aside0.mk (ite_nil (knowsB nodes b a) hn2)
                    clear hn1 hn2
                    go_wp2_with (fail)
                    refine (waits NT6.out.one.is a b).mono ?_
                    rintro e W8 ⟨A8, c8, rfl, hC, ho, hb⟩
                    rw [HW1.out]
                    have NT8 := Aside0.mk (NT6.out.under hb)
                    clear hC ho hb
                    go_wp2_with (fail)
                    refine (waits NT8.out.one.is b a).mono ?_
                    rintro e W9 ⟨A9, c9, rfl, hC, ho, hb⟩
                    rw [HW2.out]
                    have NT9 := Aside0.mk (NT8.out.under hb)
                    clear hC ho hb
                    go_wp2_with (fail)
                    go_round
                    case rel => exact ⟨k + 1, true, by omega, rfl, by first | (rw [hw]; done) | go_num, ⟨_, _, _, _, _, _, NT9.out, HL7.out⟩⟩
                    case measure => first | (rw [hw]; simp only [intOf, Int.toNat_natCast]; omega) | (simp [intOf]; omega)
                  | false =>
                    have HL7 := Aside0.mk (show Lines a b (doQ nodes q c s) (doC nodes c s) (doQ nodes q2 c2 s) (doC nodes c2 s) false from (show newFl false s.f0 E = false by unfold newFl; simp [H0.out]) ▸ HL6.out)
                    go_wp2_with (fail)
                    go_round
                    case rel => exact ⟨k + 1, false, by omega, rfl, by first | (rw [hw]; done) | go_num, ⟨_, _, _, _, _, _, NT6.out, HL7.out⟩⟩
                    case measure => first | (rw [hw]; simp only [intOf, Int.toNat_natCast]; omega) | (simp [intOf]; omega)
                · by_cases z2 : s.f0 = 2
                  · have H0 := Aside0.mk z2
                    have d0 : (s.f0 == 0) = false := by simp [z0]
                    have d1 : (s.f0 == 1) = false := by simp [z1]
                    have d2 : (s.f0 == 2) = true := by simp [z2]
                    clear z0 z1 z2
                    by_cases ze : E = 0
                    · have HE0 := Aside0.mk ze
                      have v0 : (E == 0) = true := by simp [ze]
                      have v1 : (E != 0) = false := by simp [ze]
                      clear ze
                      cases fl with
                      | true =>
                        have HL7 := Aside0.mk (show Lines a b (doQ nodes q c s) (doC nodes c s) (doQ nodes q2 c2 s) (doC nodes c2 s) true from (show newFl true s.f0 E = true by unfold newFl; simp [H0.out, HE0.out]) ▸ HL6.out)
                        obtain ⟨hn1, hn2⟩ := HL7.out.none
                        have HW1 := Aside0.mk (ite_nil (knowsB nodes a b) hn1)
                        have HW2 := Aside0.mk (ite_nil (knowsB nodes b a) hn2)
                        clear hn1 hn2
                        go_wp2_with (fail)
                        refine (waits NT6.out.one.is a b).mono ?_
                        rintro e W8 ⟨A8, c8, rfl, hC, ho, hb⟩
                        rw [HW1.out]
                        have NT8 := Aside0.mk (NT6.out.under hb)
                        clear hC ho hb
                        go_wp2_with (fail)
                        refine (waits NT8.out.one.is b a).mono ?_
                        rintro e W9 ⟨A9, c9, rfl, hC, ho, hb⟩
                        rw [HW2.out]
                        have NT9 := Aside0.mk (NT8.out.under hb)
                        clear hC ho hb
                        go_wp2_with (fail)
                        go_round
                        case rel => exact ⟨k + 1, true, by omega, rfl, by first | (rw [hw]; done) | go_num, ⟨_, _, _, _, _, _, NT9.out, HL7.out⟩⟩
                        case measure => first | (rw [hw]; simp only [intOf, Int.toNat_natCast]; omega) | (simp [intOf]; omega)
                      | false =>
                        have HL7 := Aside0.mk (show Lines a b (doQ nodes q c s) (doC nodes c s) (doQ nodes q2 c2 s) (doC nodes c2 s) true from (show newFl false s.f0 E = true by unfold newFl; simp [H0.out, HE0.out]) ▸ HL6.out)
                        obtain ⟨hn1, hn2⟩ := HL7.out.none
                        have HW1 := Aside0.mk (ite_nil (knowsB nodes a b) hn1)
                        have HW2 := Aside0.mk (ite_nil (knowsB nodes b a) hn2)
                        clear hn1 hn2
                        go_wp2_with (fail)
                        refine (waits NT6.out.one.is a b).mono ?_
                        rintro e W8 ⟨A8, c8, rfl, hC, ho, hb⟩
                        rw [HW1.out]
                        have NT8 := Aside0.mk (NT6.out.under hb)
                        clear hC ho hb
                        go_wp2_with (fail)
                        refine (waits NT8.out.one.is b a).mono ?_
                        rintro e W9 ⟨A9, c9, rfl, hC, ho, hb⟩
                        rw [HW2.out]
                        have NT9 := Aside0.mk (NT8.out.under hb)
                        clear hC ho hb
                        go_wp2_with (fail)
                        go_round
                        case rel => exact ⟨k + 1, true, by omega, rfl, by first | (rw [hw]; done) | go_num, ⟨_, _, _, _, _, _, NT9.out, HL7.out⟩⟩
                        case measure => first | (rw [hw]; simp only [intOf, Int.toNat_natCast]; omega) | (simp [intOf]; omega)
                    · have HE0 := Aside0.mk ze
                      have v0 : (E == 0) = false := by simp [ze]
                      have v1 : (E != 0) = true := by simp [ze]
                      clear ze
                      cases fl with
                      | true =>
                        have HL7 := Aside0.mk (show Lines a b (doQ nodes q c s) (doC nodes c s) (doQ nodes q2 c2 s) (doC nodes c2 s) true from (show newFl true s.f0 E = true by unfold newFl; simp [H0.out, HE0.out]) ▸ HL6.out)
                        obtain ⟨hn1, hn2⟩ := HL7.out.none
                        have HW1 := Aside0.mk (ite_nil (knowsB nodes a b) hn1)
                        have HW2 := Aside0.mk (ite_nil (knowsB nodes b a) hn2)
                        clear hn1 hn2
                        go_wp2_with (fail)
                        refine (waits NT6.out.one.is a b).mono ?_
                        rintro e W8 ⟨A8, c8, rfl, hC, ho, hb⟩
                        rw [HW1.out]
                        have NT8 := Aside0.mk (NT6.out.under hb)
                        clear hC ho hb
                        go_wp2_with (fail)
                        refine (waits NT8.out.one.is b a).mono ?_
                        rintro e W9 ⟨A9, c9, rfl, hC, ho, hb⟩
                        rw [HW2.out]
                        have NT9 := Aside0.mk (NT8.out.under hb)
                        clear hC ho hb
                        go_wp2_with (fail)
                        go_round
                        case rel => exact ⟨k + 1, true, by omega, rfl, by first | (rw [hw]; done) | go_num, ⟨_, _, _, _, _, _, NT9.out, HL7.out⟩⟩
                        case measure => first | (rw [hw]; simp only [intOf, Int.toNat_natCast]; omega) | (simp [intOf]; omega)
                      | false =>
                        have HL7 := Aside0.mk (show Lines a b (doQ nodes q c s) (doC nodes c s) (doQ nodes q2 c2 s) (doC nodes c2 s) false from (show newFl false s.f0 E = false by unfold newFl; simp [H0.out, HE0.out]) ▸ HL6.out)
                        go_wp2_with (fail)
                        go_round
                        case rel => exact ⟨k + 1, false, by omega, rfl, by first | (rw [hw]; done) | go_num, ⟨_, _, _, _, _, _, NT6.out, HL7.out⟩⟩
                        case measure => first | (rw [hw]; simp only [intOf, Int.toNat_natCast]; omega) | (simp [intOf]; omega)
                  · have H0 := Aside0.mk z0
                    have H1 := Aside0.mk z1
                    have H2 := Aside0.mk z2
                    have d0 : (s.f0 == 0) = false := by simp [z0]
                    have d1 : (s.f0 == 1) = false := by simp [z1]
                    have d2 : (s.f0 == 2) = false := by simp [z2]
                    clear z0 z1 z2
                    by_cases ze : E = 0
                    · have HE0 := Aside0.mk ze
                      have v0 : (E == 0) = true := by simp [ze]
                      have v1 : (E != 0) = false := by simp [ze]
                      clear ze
                      cases fl with
                      | true =>
                        have HL7 := Aside0.mk (show Lines a b (doQ nodes q c s) (doC nodes c s) (doQ nodes q2 c2 s) (doC nodes c2 s) false from (show newFl true s.f0 E = false by unfold newFl; simp [H0.out, HE0.out, H1.out, H2.out]) ▸ HL6.out)
                        go_wp2_with (fail)
                        go_round
                        case rel => exact ⟨k + 1, false, by omega, rfl, by first | (rw [hw]; done) | go_num, ⟨_, _, _, _, _, _, NT6.out, HL7.out⟩⟩
                        case measure => first | (rw [hw]; simp only [intOf, Int.toNat_natCast]; omega) | (simp [intOf]; omega)
                      | false =>
                        have HL7 := Aside0.mk (show Lines a b (doQ nodes q c s) (doC nodes c s) (doQ nodes q2 c2 s) (doC nodes c2 s) false from (show newFl false s.f0 E = false by unfold newFl; simp [H0.out, HE0.out, H1.out, H2.out]) ▸ HL6.out)
                        go_wp2_with (fail)
                        go_round
                        case rel => exact ⟨k + 1, false, by omega, rfl, by first | (rw [hw]; done) | go_num, ⟨_, _, _, _, _, _, NT6.out, HL7.out⟩⟩
                        case measure => first | (rw [hw]; simp only [intOf, Int.toNat_natCast]; omega) | (simp [intOf]; omega)
                    · have HE0 := Aside0.mk ze
                      have v0 : (E == 0) = false := by simp [ze]
                      have v1 : (E != 0) = true := by simp [ze]
                      clear ze
                      cases fl with
                      | true =>
                        have HL7 := Aside0.mk (show Lines a b (doQ nodes q c s) (doC nodes c s) (doQ nodes q2 c2 s) (doC nodes c2 s) true from (show newFl true s.f0 E = true by unfold newFl; simp [H0.out, HE0.out, H1.out, H2.out]) ▸ HL6.out)
                        obtain ⟨hn1, hn2⟩ := HL7.out.none
                        have HW1 := Aside0.mk (ite_nil (knowsB nodes a b) hn1)
                        have HW2 := Aside0.mk (ite_nil (knowsB nodes b a) hn2)
                        clear hn1 hn2
                        go_wp2_with (fail)
                        refine (waits NT6.out.one.is a b).mono ?_
                        rintro e W8 ⟨A8, c8, rfl, hC, ho, hb⟩
                        rw [HW1.out]
                        have NT8 := Aside0.mk (NT6.out.under hb)
                        clear hC ho hb
                        go_wp2_with (fail)
                        refine (waits NT8.out.one.is b a).mono ?_
                        rintro e W9 ⟨A9, c9, rfl, hC, ho, hb⟩
                        rw [HW2.out]
                        have NT9 := Aside0.mk (NT8.out.under hb)
                        clear hC ho hb
                        go_wp2_with (fail)
                        go_round
                        case rel => exact ⟨k + 1, true, by omega, rfl, by first | (rw [hw]; done) | go_num, ⟨_, _, _, _, _, _, NT9.out, HL7.out⟩⟩
                        case measure => first | (rw [hw]; simp only [intOf, Int.toNat_natCast]; omega) | (simp [intOf]; omega)
                      | false =>
                        have HL7 := Aside0.mk (show Lines a b (doQ nodes q c s) (doC nodes c s) (doQ nodes q2 c2 s) (doC nodes c2 s) false from (show newFl false s.f0 E = false by unfold newFl; simp [H0.out, HE0.out, H1.out, H2.out]) ▸ HL6.out)
                        go_wp2_with (fail)
                        go_round
                        case rel => exact ⟨k + 1, false, by omega, rfl, by first | (rw [hw]; done) | go_num, ⟨_, _, _, _, _, _, NT6.out, HL7.out⟩⟩
                        case measure => first | (rw [hw]; simp only [intOf, Int.toNat_natCast]; omega) | (simp [intOf]; omega)
            · by_cases h2 : s.f1 = b ∧ s.f2 = a
              · have rr1 : (s.f1 == a) = false := by rw [h2.1]; simp; exact fun e => HAB.out e.symm
                have rr3 : (s.f1 == b) = true := by simp [h2.1]
                have rr4 : (s.f2 == a) = true := by simp [h2.2]
                obtain ⟨⟨hq1, hq2, hq3⟩, hln⟩ := HLN.out.step (nodes := nodes) (s := s) (.inr h2)
                rw [HE.out] at hq1 hln
                rw [HT.out] at hq2
                rw [HK.out] at hq3
                have HQ1 := Aside0.mk hq1
                have HQ2 := Aside0.mk hq2
                have HQ3 := Aside0.mk hq3
                have HL6 := Aside0.mk hln
                clear hq1 hq2 hq3 hln h1 h2
                go_upto_region 12 with (fail)
                have hne := neq43 E T K
                have NTD := Aside0.mk (NT5.out.under (below_drew (Below.refl _ _)))
                have HDO := Aside0.mk (do_calls NTD.out.two.is s (by have := HSZ.out; omega))
                go_region_held3 (fun w' => w'.cell? (ad.add (k * 7)) = some (.int .i64 s.f0) ∧ w'.cell? ⟨(ad.add (k * 7)).block, (ad.add (k * 7)).off + 1, none⟩ = some (.int .i64 s.f1) ∧ w'.cell? ⟨(ad.add (k * 7)).block, (ad.add (k * 7)).off + 2, none⟩ = some (.int .i64 s.f2) ∧ w'.cell? ⟨(ad.add (k * 7)).block, (ad.add (k * 7)).off + 3, none⟩ = some (.int .i64 s.f3) ∧ w'.cell? ⟨(ad.add (k * 7)).block, (ad.add (k * 7)).off + 4, none⟩ = some (.string s.f4) ∧ w'.cell? ⟨(ad.add (k * 7)).block, (ad.add (k * 7)).off + 5, none⟩ = some (.bool s.f5) ∧ w'.cell? ⟨(ad.add (k * 7)).block, (ad.add (k * 7)).off + 6, none⟩ = some (.bool s.f6) ∧ w'.cell? ⟨X, 0, none⟩ = some (.int .i64 E) ∧ w'.cell? ⟨X, 1, none⟩ = some (.string T) ∧ w'.cell? ⟨X, 2, none⟩ = some (.bool K))
                  (first | exact ⟨x0, x1, x2, x3, x4, x5, x6, g0, g1, g2⟩ | exact ⟨y0, y1, y2, y3, y4, y5, y6, k0, k1, k2⟩)
                  (first
                  | (go_at_call 18; refine HDO.out.mono ?_; rintro e w6 ⟨rfl, h1, h2⟩; rw [HQ1.out, HQ2.out, HQ3.out]; have NT6 := Aside0.mk (NTD.out.right h1 h2); have hx6 := (h2.block X (blk_lt HX.out) (fun hg => Nat.lt_irrefl _ (HGT.out X hg))).trans HX.out; have HX6 := Aside0.mk hx6; have HC6 := Aside0.mk (Kd.C_below HC.out (below_then HB0.out HB0.out.size NT6.out.one.below)); obtain ⟨y0, y1, y2, y3, y4, y5, y6⟩ := cells7 HC6.out k hlt HS.out; have k0 : w6.cell? ⟨X, 0, none⟩ = some (.int .i64 E) := (by rw [blk_cell HX6.out]; rfl); have k1 : w6.cell? ⟨X, 1, none⟩ = some (.string T) := (by rw [blk_cell HX6.out]; rfl); have k2 : w6.cell? ⟨X, 2, none⟩ = some (.bool K) := (by rw [blk_cell HX6.out]; rfl); clear h1 h2 hx6))
                go_upto_region 14 with (fail)
                clear hne x0 x1 x2 x3 x4 x5 x6 g0 g1 g2
                by_cases z0 : s.f0 = 0
                · have H0 := Aside0.mk z0
                  have d0 : (s.f0 == 0) = true := by simp [z0]
                  have d2 : (s.f0 == 2) = false := by simp [z0]
                  clear z0
                  cases fl with
                  | true =>
                    have HL7 := Aside0.mk (show Lines a b (doQ nodes q c s) (doC nodes c s) (doQ nodes q2 c2 s) (doC nodes c2 s) true from (show newFl true s.f0 E = true by unfold newFl; simp [H0.out]) ▸ HL6.out)
                    obtain ⟨hn1, hn2⟩ := HL7.out.none
                    have HW1 := Aside0.mk (ite_nil (knowsB nodes a b) hn1)
                    have HW2 := Aside0.mk (ite_nil (knowsB nodes b a) hn2)
                    clear hn1 hn2
                    go_wp2_with (fail)
                    refine (waits NT6.out.one.is a b).mono ?_
                    rintro e W8 ⟨A8, c8, rfl, hC, ho, hb⟩
                    rw [HW1.out]
                    have NT8 := Aside0.mk (NT6.out.under hb)
                    clear hC ho hb
                    go_wp2_with (fail)
                    refine (waits NT8.out.one.is b a).mono ?_
                    rintro e W9 ⟨A9, c9, rfl, hC, ho, hb⟩
                    rw [HW2.out]
                    have NT9 := Aside0.mk (NT8.out.under hb)
                    clear hC ho hb
                    go_wp2_with (fail)
                    go_round
                    case rel => exact ⟨k + 1, true, by omega, rfl, by first | (rw [hw]; done) | go_num, ⟨_, _, _, _, _, _, NT9.out, HL7.out⟩⟩
                    case measure => first | (rw [hw]; simp only [intOf, Int.toNat_natCast]; omega) | (simp [intOf]; omega)
                  | false =>
                    have HL7 := Aside0.mk (show Lines a b (doQ nodes q c s) (doC nodes c s) (doQ nodes q2 c2 s) (doC nodes c2 s) false from (show newFl false s.f0 E = false by unfold newFl; simp [H0.out]) ▸ HL6.out)
                    go_wp2_with (fail)
                    go_round
                    case rel => exact ⟨k + 1, false, by omega, rfl, by first | (rw [hw]; done) | go_num, ⟨_, _, _, _, _, _, NT6.out, HL7.out⟩⟩
                    case measure => first | (rw [hw]; simp only [intOf, Int.toNat_natCast]; omega) | (simp [intOf]; omega)
                · by_cases z1 : s.f0 = 1
                  · have H0 := Aside0.mk z1
                    have d0 : (s.f0 == 0) = false := by simp [z0]
                    have d1 : (s.f0 == 1) = true := by simp [z1]
                    have d2 : (s.f0 == 2) = false := by simp [z1]
                    clear z0 z1
                    cases fl with
                    | true =>
                      have HL7 := Aside0.mk (show Lines a b (doQ nodes q c s) (doC nodes c s) (doQ nodes q2 c2 s) (doC nodes c2 s) true from (show newFl true s.f0 E = true by unfold newFl; simp [H0.out]) ▸ HL6.out)
                      obtain ⟨hn1, hn2⟩ := HL7.out.none
                      have HW1 := Aside0.mk (ite_nil (knowsB nodes a b) hn1)
                      have HW2 := Aside0.mk (ite_nil (knowsB nodes b a) hn2)
                      clear hn1 hn2
                      go_wp2_with (fail)
                      refine (waits NT6.out.one.is a b).mono ?_
                      rintro e W8 ⟨A8, c8, rfl, hC, ho, hb⟩
                      rw [HW1.out]
                      have NT8 := Aside0.mk (NT6.out.under hb)
                      clear hC ho hb
                      go_wp2_with (fail)
                      refine (waits NT8.out.one.is b a).mono ?_
                      rintro e W9 ⟨A9, c9, rfl, hC, ho, hb⟩
                      rw [HW2.out]
                      have NT9 := Aside0.mk (NT8.out.under hb)
                      clear hC ho hb
                      go_wp2_with (fail)
                      go_round
                      case rel => exact ⟨k + 1, true, by omega, rfl, by first | (rw [hw]; done) | go_num, ⟨_, _, _, _, _, _, NT9.out, HL7.out⟩⟩
                      case measure => first | (rw [hw]; simp only [intOf, Int.toNat_natCast]; omega) | (simp [intOf]; omega)
                    | false =>
                      have HL7 := Aside0.mk (show Lines a b (doQ nodes q c s) (doC nodes c s) (doQ nodes q2 c2 s) (doC nodes c2 s) false from (show newFl false s.f0 E = false by unfold newFl; simp [H0.out]) ▸ HL6.out)
                      go_wp2_with (fail)
                      go_round
                      case rel => exact ⟨k + 1, false, by omega, rfl, by first | (rw [hw]; done) | go_num, ⟨_, _, _, _, _, _, NT6.out, HL7.out⟩⟩
                      case measure => first | (rw [hw]; simp only [intOf, Int.toNat_natCast]; omega) | (simp [intOf]; omega)
                  · by_cases z2 : s.f0 = 2
                    · have H0 := Aside0.mk z2
                      have d0 : (s.f0 == 0) = false := by simp [z0]
                      have d1 : (s.f0 == 1) = false := by simp [z1]
                      have d2 : (s.f0 == 2) = true := by simp [z2]
                      clear z0 z1 z2
                      by_cases ze : E = 0
                      · have HE0 := Aside0.mk ze
                        have v0 : (E == 0) = true := by simp [ze]
                        have v1 : (E != 0) = false := by simp [ze]
                        clear ze
                        cases fl with
                        | true =>
                          have HL7 := Aside0.mk (show Lines a b (doQ nodes q c s) (doC nodes c s) (doQ nodes q2 c2 s) (doC nodes c2 s) true from (show newFl true s.f0 E = true by unfold newFl; simp [H0.out, HE0.out]) ▸ HL6.out)
                          obtain ⟨hn1, hn2⟩ := HL7.out.none
                          have HW1 := Aside0.mk (ite_nil (knowsB nodes a b) hn1)
                          have HW2 := Aside0.mk (ite_nil (knowsB nodes b a) hn2)
                          clear hn1 hn2
                          go_wp2_with (fail)
                          refine (waits NT6.out.one.is a b).mono ?_
                          rintro e W8 ⟨A8, c8, rfl, hC, ho, hb⟩
                          rw [HW1.out]
                          have NT8 := Aside0.mk (NT6.out.under hb)
                          clear hC ho hb
                          go_wp2_with (fail)
                          refine (waits NT8.out.one.is b a).mono ?_
                          rintro e W9 ⟨A9, c9, rfl, hC, ho, hb⟩
                          rw [HW2.out]
                          have NT9 := Aside0.mk (NT8.out.under hb)
                          clear hC ho hb
                          go_wp2_with (fail)
                          go_round
                          case rel => exact ⟨k + 1, true, by omega, rfl, by first | (rw [hw]; done) | go_num, ⟨_, _, _, _, _, _, NT9.out, HL7.out⟩⟩
                          case measure => first | (rw [hw]; simp only [intOf, Int.toNat_natCast]; omega) | (simp [intOf]; omega)
                        | false =>
                          have HL7 := Aside0.mk (show Lines a b (doQ nodes q c s) (doC nodes c s) (doQ nodes q2 c2 s) (doC nodes c2 s) true from (show newFl false s.f0 E = true by unfold newFl; simp [H0.out, HE0.out]) ▸ HL6.out)
                          obtain ⟨hn1, hn2⟩ := HL7.out.none
                          have HW1 := Aside0.mk (ite_nil (knowsB nodes a b) hn1)
                          have HW2 := Aside0.mk (ite_nil (knowsB nodes b a) hn2)
                          clear hn1 hn2
                          go_wp2_with (fail)
                          refine (waits NT6.out.one.is a b).mono ?_
                          rintro e W8 ⟨A8, c8, rfl, hC, ho, hb⟩
                          rw [HW1.out]
                          have NT8 := Aside0.mk (NT6.out.under hb)
                          clear hC ho hb
                          go_wp2_with (fail)
                          refine (waits NT8.out.one.is b a).mono ?_
                          rintro e W9 ⟨A9, c9, rfl, hC, ho, hb⟩
                          rw [HW2.out]
                          have NT9 := Aside0.mk (NT8.out.under hb)
                          clear hC ho hb
                          go_wp2_with (fail)
                          go_round
                          case rel => exact ⟨k + 1, true, by omega, rfl, by first | (rw [hw]; done) | go_num, ⟨_, _, _, _, _, _, NT9.out, HL7.out⟩⟩
                          case measure => first | (rw [hw]; simp only [intOf, Int.toNat_natCast]; omega) | (simp [intOf]; omega)
                      · have HE0 := Aside0.mk ze
                        have v0 : (E == 0) = false := by simp [ze]
                        have v1 : (E != 0) = true := by simp [ze]
                        clear ze
                        cases fl with
                        | true =>
                          have HL7 := Aside0.mk (show Lines a b (doQ nodes q c s) (doC nodes c s) (doQ nodes q2 c2 s) (doC nodes c2 s) true from (show newFl true s.f0 E = true by unfold newFl; simp [H0.out, HE0.out]) ▸ HL6.out)
                          obtain ⟨hn1, hn2⟩ := HL7.out.none
                          have HW1 := Aside0.mk (ite_nil (knowsB nodes a b) hn1)
                          have HW2 := Aside0.mk (ite_nil (knowsB nodes b a) hn2)
                          clear hn1 hn2
                          go_wp2_with (fail)
                          refine (waits NT6.out.one.is a b).mono ?_
                          rintro e W8 ⟨A8, c8, rfl, hC, ho, hb⟩
                          rw [HW1.out]
                          have NT8 := Aside0.mk (NT6.out.under hb)
                          clear hC ho hb
                          go_wp2_with (fail)
                          refine (waits NT8.out.one.is b a).mono ?_
                          rintro e W9 ⟨A9, c9, rfl, hC, ho, hb⟩
                          rw [HW2.out]
                          have NT9 := Aside0.mk (NT8.out.under hb)
                          clear hC ho hb
                          go_wp2_with (fail)
                          go_round
                          case rel => exact ⟨k + 1, true, by omega, rfl, by first | (rw [hw]; done) | go_num, ⟨_, _, _, _, _, _, NT9.out, HL7.out⟩⟩
                          case measure => first | (rw [hw]; simp only [intOf, Int.toNat_natCast]; omega) | (simp [intOf]; omega)
                        | false =>
                          have HL7 := Aside0.mk (show Lines a b (doQ nodes q c s) (doC nodes c s) (doQ nodes q2 c2 s) (doC nodes c2 s) false from (show newFl false s.f0 E = false by unfold newFl; simp [H0.out, HE0.out]) ▸ HL6.out)
                          go_wp2_with (fail)
                          go_round
                          case rel => exact ⟨k + 1, false, by omega, rfl, by first | (rw [hw]; done) | go_num, ⟨_, _, _, _, _, _, NT6.out, HL7.out⟩⟩
                          case measure => first | (rw [hw]; simp only [intOf, Int.toNat_natCast]; omega) | (simp [intOf]; omega)
                    · have H0 := Aside0.mk z0
                      have H1 := Aside0.mk z1
                      have H2 := Aside0.mk z2
                      have d0 : (s.f0 == 0) = false := by simp [z0]
                      have d1 : (s.f0 == 1) = false := by simp [z1]
                      have d2 : (s.f0 == 2) = false := by simp [z2]
                      clear z0 z1 z2
                      by_cases ze : E = 0
                      · have HE0 := Aside0.mk ze
                        have v0 : (E == 0) = true := by simp [ze]
                        have v1 : (E != 0) = false := by simp [ze]
                        clear ze
                        cases fl with
                        | true =>
                          have HL7 := Aside0.mk (show Lines a b (doQ nodes q c s) (doC nodes c s) (doQ nodes q2 c2 s) (doC nodes c2 s) false from (show newFl true s.f0 E = false by unfold newFl; simp [H0.out, HE0.out, H1.out, H2.out]) ▸ HL6.out)
                          go_wp2_with (fail)
                          go_round
                          case rel => exact ⟨k + 1, false, by omega, rfl, by first | (rw [hw]; done) | go_num, ⟨_, _, _, _, _, _, NT6.out, HL7.out⟩⟩
                          case measure => first | (rw [hw]; simp only [intOf, Int.toNat_natCast]; omega) | (simp [intOf]; omega)
                        | false =>
                          have HL7 := Aside0.mk (show Lines a b (doQ nodes q c s) (doC nodes c s) (doQ nodes q2 c2 s) (doC nodes c2 s) false from (show newFl false s.f0 E = false by unfold newFl; simp [H0.out, HE0.out, H1.out, H2.out]) ▸ HL6.out)
                          go_wp2_with (fail)
                          go_round
                          case rel => exact ⟨k + 1, false, by omega, rfl, by first | (rw [hw]; done) | go_num, ⟨_, _, _, _, _, _, NT6.out, HL7.out⟩⟩
                          case measure => first | (rw [hw]; simp only [intOf, Int.toNat_natCast]; omega) | (simp [intOf]; omega)
                      · have HE0 := Aside0.mk ze
                        have v0 : (E == 0) = false := by simp [ze]
                        have v1 : (E != 0) = true := by simp [ze]
                        clear ze
                        cases fl with
                        | true =>
                          have HL7 := Aside0.mk (show Lines a b (doQ nodes q c s) (doC nodes c s) (doQ nodes q2 c2 s) (doC nodes c2 s) true from (show newFl true s.f0 E = true by unfold newFl; simp [H0.out, HE0.out, H1.out, H2.out]) ▸ HL6.out)
                          obtain ⟨hn1, hn2⟩ := HL7.out.none
                          have HW1 := Aside0.mk (ite_nil (knowsB nodes a b) hn1)
                          have HW2 := Aside0.mk (ite_nil (knowsB nodes b a) hn2)
                          clear hn1 hn2
                          go_wp2_with (fail)
                          refine (waits NT6.out.one.is a b).mono ?_
                          rintro e W8 ⟨A8, c8, rfl, hC, ho, hb⟩
                          rw [HW1.out]
                          have NT8 := Aside0.mk (NT6.out.under hb)
                          clear hC ho hb
                          go_wp2_with (fail)
                          refine (waits NT8.out.one.is b a).mono ?_
                          rintro e W9 ⟨A9, c9, rfl, hC, ho, hb⟩
                          rw [HW2.out]
                          have NT9 := Aside0.mk (NT8.out.under hb)
                          clear hC ho hb
                          go_wp2_with (fail)
                          go_round
                          case rel => exact ⟨k + 1, true, by omega, rfl, by first | (rw [hw]; done) | go_num, ⟨_, _, _, _, _, _, NT9.out, HL7.out⟩⟩
                          case measure => first | (rw [hw]; simp only [intOf, Int.toNat_natCast]; omega) | (simp [intOf]; omega)
                        | false =>
                          have HL7 := Aside0.mk (show Lines a b (doQ nodes q c s) (doC nodes c s) (doQ nodes q2 c2 s) (doC nodes c2 s) false from (show newFl false s.f0 E = false by unfold newFl; simp [H0.out, HE0.out, H1.out, H2.out]) ▸ HL6.out)
                          go_wp2_with (fail)
                          go_round
                          case rel => exact ⟨k + 1, false, by omega, rfl, by first | (rw [hw]; done) | go_num, ⟨_, _, _, _, _, _, NT6.out, HL7.out⟩⟩
                          case measure => first | (rw [hw]; simp only [intOf, Int.toNat_natCast]; omega) | (simp [intOf]; omega)
              · have HL6 := Aside0.mk (HLN.out.far (nodes := nodes) (s := s) h1 h2)
                by_cases e1 : s.f1 = a
                · have rr1 : (s.f1 == a) = true := by simp [e1]
                  have rr2 : (s.f2 == b) = false := by simp; exact fun e => h1 ⟨e1, e⟩
                  have rr3 : (s.f1 == b) = false := by simp; exact fun e => HAB.out (e1.symm.trans e)
                  clear h1 h2 e1
                  cases fl with
                  | true =>
                    obtain ⟨hn1, hn2⟩ := HL6.out.none
                    have HW1 := Aside0.mk (ite_nil (knowsB nodes a b) hn1)
                    have HW2 := Aside0.mk (ite_nil (knowsB nodes b a) hn2)
                    clear hn1 hn2
                    go_wp2_with (fail)
                    refine (waits NT5.out.one.is a b).mono ?_
                    rintro e W8 ⟨A8, c8, rfl, hC, ho, hb⟩
                    rw [HW1.out]
                    have NT8 := Aside0.mk (NT5.out.under hb)
                    clear hC ho hb
                    go_wp2_with (fail)
                    refine (waits NT8.out.one.is b a).mono ?_
                    rintro e W9 ⟨A9, c9, rfl, hC, ho, hb⟩
                    rw [HW2.out]
                    have NT9 := Aside0.mk (NT8.out.under hb)
                    clear hC ho hb
                    go_wp2_with (fail)
                    go_round
                    case rel => exact ⟨k + 1, true, by omega, rfl, by first | (rw [hw]; done) | go_num, ⟨_, _, _, _, _, _, NT9.out, HL6.out⟩⟩
                    case measure => first | (rw [hw]; simp only [intOf, Int.toNat_natCast]; omega) | (simp [intOf]; omega)
                  | false =>
                    go_wp2_with (fail)
                    go_round
                    case rel => exact ⟨k + 1, false, by omega, rfl, by first | (rw [hw]; done) | go_num, ⟨_, _, _, _, _, _, NT5.out, HL6.out⟩⟩
                    case measure => first | (rw [hw]; simp only [intOf, Int.toNat_natCast]; omega) | (simp [intOf]; omega)
                · have rr1 : (s.f1 == a) = false := by simp [e1]
                  by_cases e2 : s.f1 = b
                  · have rr3 : (s.f1 == b) = true := by simp [e2]
                    have rr4 : (s.f2 == a) = false := by simp; exact fun e => h2 ⟨e2, e⟩
                    clear h1 h2 e1 e2
                    cases fl with
                    | true =>
                      obtain ⟨hn1, hn2⟩ := HL6.out.none
                      have HW1 := Aside0.mk (ite_nil (knowsB nodes a b) hn1)
                      have HW2 := Aside0.mk (ite_nil (knowsB nodes b a) hn2)
                      clear hn1 hn2
                      go_wp2_with (fail)
                      refine (waits NT5.out.one.is a b).mono ?_
                      rintro e W8 ⟨A8, c8, rfl, hC, ho, hb⟩
                      rw [HW1.out]
                      have NT8 := Aside0.mk (NT5.out.under hb)
                      clear hC ho hb
                      go_wp2_with (fail)
                      refine (waits NT8.out.one.is b a).mono ?_
                      rintro e W9 ⟨A9, c9, rfl, hC, ho, hb⟩
                      rw [HW2.out]
                      have NT9 := Aside0.mk (NT8.out.under hb)
                      clear hC ho hb
                      go_wp2_with (fail)
                      go_round
                      case rel => exact ⟨k + 1, true, by omega, rfl, by first | (rw [hw]; done) | go_num, ⟨_, _, _, _, _, _, NT9.out, HL6.out⟩⟩
                      case measure => first | (rw [hw]; simp only [intOf, Int.toNat_natCast]; omega) | (simp [intOf]; omega)
                    | false =>
                      go_wp2_with (fail)
                      go_round
                      case rel => exact ⟨k + 1, false, by omega, rfl, by first | (rw [hw]; done) | go_num, ⟨_, _, _, _, _, _, NT5.out, HL6.out⟩⟩
                      case measure => first | (rw [hw]; simp only [intOf, Int.toNat_natCast]; omega) | (simp [intOf]; omega)
                  · have rr3 : (s.f1 == b) = false := by simp [e2]
                    clear h1 h2 e1 e2
                    cases fl with
                    | true =>
                      obtain ⟨hn1, hn2⟩ := HL6.out.none
                      have HW1 := Aside0.mk (ite_nil (knowsB nodes a b) hn1)
                      have HW2 := Aside0.mk (ite_nil (knowsB nodes b a) hn2)
                      clear hn1 hn2
                      go_wp2_with (fail)
                      refine (waits NT5.out.one.is a b).mono ?_
                      rintro e W8 ⟨A8, c8, rfl, hC, ho, hb⟩
                      rw [HW1.out]
                      have NT8 := Aside0.mk (NT5.out.under hb)
                      clear hC ho hb
                      go_wp2_with (fail)
                      refine (waits NT8.out.one.is b a).mono ?_
                      rintro e W9 ⟨A9, c9, rfl, hC, ho, hb⟩
                      rw [HW2.out]
                      have NT9 := Aside0.mk (NT8.out.under hb)
                      clear hC ho hb
                      go_wp2_with (fail)
                      go_round
                      case rel => exact ⟨k + 1, true, by omega, rfl, by first | (rw [hw]; done) | go_num, ⟨_, _, _, _, _, _, NT9.out, HL6.out⟩⟩
                      case measure => first | (rw [hw]; simp only [intOf, Int.toNat_natCast]; omega) | (simp [intOf]; omega)
                    | false =>
                      go_wp2_with (fail)
                      go_round
                      case rel => exact ⟨k + 1, false, by omega, rfl, by first | (rw [hw]; done) | go_num, ⟨_, _, _, _, _, _, NT5.out, HL6.out⟩⟩
                      case measure => first | (rw [hw]; simp only [intOf, Int.toNat_natCast]; omega) | (simp [intOf]; omega)
          · obtain rfl : k = l.length := by omega
            have hfew := few_of NT.out.one.is
            obtain ⟨M1, hm1⟩ : ∃ M, (if knowsB nodes a b then q a b else []) = M := ⟨_, rfl⟩
            obtain ⟨M2, hm2⟩ : ∃ M, (if knowsB nodes b a then q b a else []) = M := ⟨_, rfl⟩
            have HM1 := Aside0.mk hm1
            have HM2 := Aside0.mk hm2
            have HM3 := Aside0.mk (show (if knowsB nodes a b then q2 a b else []) = M1 by rw [← HLN.out.qab]; exact hm1)
            have HM4 := Aside0.mk (show (if knowsB nodes b a then q2 b a else []) = M2 by rw [← HLN.out.qba]; exact hm2)
            have HF1 := Aside0.mk (show M1.length ≤ 100000 by rw [← hm1]; split; exact Nat.le_trans (hfew a b) (by omega); simp)
            have HF2 := Aside0.mk (show M2.length ≤ 100000 by rw [← hm2]; split; exact Nat.le_trans (hfew b a) (by omega); simp)
            clear hfew hm1 hm2
            go_wp2_with (fail)
            refine (waits NT.out.one.is a b).mono ?_
            rintro e W4 ⟨A4, c4, rfl, hC4, ho, hb⟩
            rw [HM1.out] at hC4 ⊢
            have HC4 := Aside0.mk hC4
            have NT4 := Aside0.mk (NT.out.under hb)
            clear hC4 ho hb
            go_wp2_with (fail)
            refine (waits NT4.out.two.is a b).mono ?_
            rintro e W5 ⟨A5, c5, rfl, hC5, ho, hb⟩
            rw [HM3.out] at hC5 ⊢
            have HC5 := Aside0.mk hC5
            have NT5 := Aside0.mk (NT4.out.under hb)
            have HC4b := Aside0.mk (HC4.out.below hb)
            clear hC5 ho hb
            go_wp2_with (fail)
            refine (texts_calls A4 c4 M1 A5 c5 M1 W5 HC4b.out HC5.out HF1.out).mono ?_
            rintro e W6 ⟨rfl, hb⟩
            rw [decide_eq_true rfl]
            have NT6 := Aside0.mk (NT5.out.under hb)
            clear hb
            go_wp2_with (fail)
            refine (waits NT6.out.one.is b a).mono ?_
            rintro e W7 ⟨A7, c7, rfl, hC7, ho, hb⟩
            rw [HM2.out] at hC7 ⊢
            have HC7 := Aside0.mk hC7
            have NT7 := Aside0.mk (NT6.out.under hb)
            clear hC7 ho hb
            go_wp2_with (fail)
            refine (waits NT7.out.two.is b a).mono ?_
            rintro e W8 ⟨A8, c8, rfl, hC8, ho, hb⟩
            rw [HM4.out] at hC8 ⊢
            have HC8 := Aside0.mk hC8
            have NT8 := Aside0.mk (NT7.out.under hb)
            have HC7b := Aside0.mk (HC7.out.below hb)
            clear hC8 ho hb
            go_wp2_with (fail)
            refine (texts_calls A7 c7 M2 A8 c8 M2 W8 HC7b.out HC8.out HF2.out).mono ?_
            rintro e W9 ⟨rfl, hb⟩
            rw [decide_eq_true rfl]
            have HB9 := Aside0.mk (below_then (below_then HB0.out HB0.out.size NT8.out.one.below) (by have := HB0.out.size; have := NT8.out.one.below.size; omega) hb)
            clear hb
            go_wp2_with (fail)
            go_ret
            exact ⟨rfl, HB9.out⟩
  · have HN := Aside0.mk hn
    clear hn
    cases hf : fewB l with
    | false =>
      have HF := Aside0.mk hf
      clear hf
      go_enter Try.func9, Try.ntmps9
      go_wp2_with (fail)
      refine (head_calls w).mono ?_
      rintro e W0 ⟨rfl, hb⟩
      have HB0 := Aside0.mk hb
      clear hb
      go_wp2_with (fail)
      refine (new_bad W0 nodes HN.out).mono ?_
      rintro e W1 ⟨rfl, rfl⟩
      go_wp2_with (fail)
      refine (new_bad W0 nodes HN.out).mono ?_
      rintro e W1 ⟨rfl, rfl⟩
      go_wp2_with (fail)
      refine (few_calls A cp l W0 (Kd.C_below HC.out HB0.out) HCP.out).mono ?_
      rintro e W3 ⟨rfl, hb⟩
      rw [HF.out]
      have HB3 := Aside0.mk (below_then HB0.out HB0.out.size hb)
      clear hb
      go_wp2_with (fail)
      go_ret
      exact ⟨rfl, HB3.out⟩
    | true =>
      have HF := Aside0.mk hf
      clear hf
      go_enter Try.func9, Try.ntmps9
      go_wp2_with (fail)
      refine (head_calls w).mono ?_
      rintro e W0 ⟨rfl, hb⟩
      have HB0 := Aside0.mk hb
      clear hb
      go_wp2_with (fail)
      refine (new_bad W0 nodes HN.out).mono ?_
      rintro e W1 ⟨rfl, rfl⟩
      go_wp2_with (fail)
      refine (new_bad W0 nodes HN.out).mono ?_
      rintro e W1 ⟨rfl, rfl⟩
      go_wp2_with (fail)
      refine (few_calls A cp l W0 (Kd.C_below HC.out HB0.out) HCP.out).mono ?_
      rintro e W3 ⟨rfl, hb⟩
      rw [HF.out]
      have HB3 := Aside0.mk (below_then HB0.out HB0.out.size hb)
      clear hb
      go_wp2_with (fail)
      go_ret
      exact ⟨rfl, HB3.out⟩
end Go.Proofs.Ytofacphhfgkemaa.G
