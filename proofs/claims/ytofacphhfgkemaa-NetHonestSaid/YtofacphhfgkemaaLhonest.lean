/- NetHonest: each text that is delivered was sent before, and not more are delivered than were sent. -/
import Derived.Test.YtofacphhfgkemaaQh
import Derived.Test.YtofacphhfgkemaaLlines
namespace Go.Proofs.Ytofacphhfgkemaa.G
open Go.Sort Go.RowKit Go.Proofs.YtofacphhfgkemaaW.PrintWords Go.Proofs.YtofacphhfgkemaaW.PrintLast Go.Proofs.YtofacphhfgkemaaW.PrintMore
open Go.Proofs.Ytofacphhfgkemaa.PNet Go.Proofs.Ytofacphhfgkemaa.Op
set_option linter.unusedVariables false
set_option linter.unusedSimpArgs false

/-- A row of answers of the call's own. -/
def Row43 (base : Nat) (w : World) (v : Value) (rs : List S43) : Prop := k43.R 43 w base (fun k => v.ownBlock = some k) v rs
theorem Row43.move {base : Nat} {w w1 : World} {v : Value} {rs : List S43} (h : Row43 base w v rs) (hm : ∀ k, v.ownBlock = some k → w1.heap[k]? = w.heap[k]?) : Row43 base w1 v rs := Kd.R_step h (fun k hk _ => hm k hk)
theorem Row43.lt {base : Nat} {w : World} {v : Value} {rs : List S43} (h : Row43 base w v rs) (k : Nat) (hk : v.ownBlock = some k) : base ≤ k ∧ k < w.heap.size := by
  obtain ⟨inner, ho⟩ := Kd.R_own h
  exact ⟨own_base ho k hk, own_lt ho k hk⟩
theorem info43 : (Try.prog.info? 43).map (fun i => (i.zero, i.size, i.bytes)) = some (some (.agg #[.int .i64 0, .string noT, .bool false]), 3, 32) := by kernel_rfl
theorem append43 {ops : Array Oper} {rest : List Oper} {o : Oper} {a : Act} {Q : Exit → Act → World → Prop} (hgd : o.guard = none) (s x : Operand) (ho : o.op = .call { callee := .builtin .append, args := #[s, x], argTypes := #[52, 52] })
    {base n : Nat} {W : World} {v : Value} {rs rs' : List S43} (r : S43) (hs : a.eval s = v) (hx : a.eval x = .slice (some ⟨W.heap.size, 0, none⟩) 1 1) (HO : Row43 base W v rs) (hbase : base ≤ W.heap.size) (hl : rs.length ≤ 1000) (hr : rs ++ [r] = rs') (hn : rs'.length = n)
    (h : ∀ A1 c1 w1, Row43 base w1 (.slice A1 n c1) rs' → Kd.C k43 w1 A1 n rs' → W.grownBy w1 v.ownBlock → ((Value.slice A1 n c1).ownBlock = v.ownBlock ∨ ∃ b, (Value.slice A1 n c1).ownBlock = some b ∧ W.heap.size ≤ b) → wpList Try.prog ops Q rest (a.put o.dst (.slice A1 n c1)) w1) :
    wpList Try.prog ops Q (o :: rest) a (W.alloc (.cells #[.int .i64 r.f0, .string r.f1, .bool r.f2] 43)) := by
  refine Kd.R_append k43 (w0 := W) (W := W) base hgd s x 52 43 (.agg #[.int .i64 0, .string noT, .bool false]) 32 ho Try.underlying52 info43 rfl (by decide) (by omega) v rs r [.int .i64 r.f0, .string r.f1, .bool r.f2] (fun _ => True) (fun _ => False) hs hx (k43_mkM _ _ _ _) (fun _ h => h.elim) (fun _ _ => trivial) (Kd.R_flat k43_flat HO (fun _ _ _ => trivial)) (Below.refl _ _) hbase (by omega) ?_
  intro v1 w1 h1 _ hg hat
  rw [hr] at h1
  obtain ⟨A1, c1, hv, hc, hC⟩ := Kd.R_reads h1
  rw [hn] at hv hC
  subst hv
  exact h A1 c1 w1 (Kd.R_flat k43_flat h1 (fun k hk _ => hk)) hC hg hat
/-- The network, and the answers that were kept. -/
structure Hon (W0 W : World) (F : Nat → Prop) (p : Nat) (nodes : Int) (q : Int → Int → List ByteArray) (c : Int → Int → Bool) (v : Value) (rs : List S43) : Prop where
  net : NetIn W0 W F p nodes q c
  own : Row43 W0.heap.size W v rs
  apart : ∀ k, v.ownBlock = some k → ¬ F k
section
variable {W0 W W' w1 : World} {F : Nat → Prop} {p : Nat} {nodes : Int} {q q' : Int → Int → List ByteArray} {c c' : Int → Int → Bool} {v v1 : Value} {rs rs' : List S43} {o : Obj}
theorem Hon.step (h : Hon W0 W F p nodes q c v rs) (h1 : NetIs (newF F W W') W' p nodes q' c') (h2 : Keeps F W W') : Hon W0 W' (newF F W W') p nodes q' c' v rs :=
  ⟨h.net.step h1 h2, h.own.move (fun k hk => h2.block k (h.own.lt k hk).2 (h.apart k hk)), fun k hk hf => hf.elim (h.apart k hk) (fun hn => by have := (h.own.lt k hk).2; omega)⟩
theorem Hon.append (h : Hon W0 W F p nodes q c v rs) (ho : Row43 W0.heap.size w1 v1 rs') (hg : W.grownBy w1 v.ownBlock) (hat : v1.ownBlock = v.ownBlock ∨ ∃ b, v1.ownBlock = some b ∧ W.heap.size ≤ b) : Hon W0 w1 F p nodes q c v1 rs' := by
  refine ⟨⟨h.net.is.same (fun k hk => hg.block k (h.net.is.flt k hk) (fun e => h.apart k e.symm hk)) hg.size, h.net.low, h.net.below.grown hg h.net.below.size (fun k hk => (h.own.lt k hk).1)⟩, ho, fun k hk hf => ?_⟩
  rcases hat with e | ⟨b, e, hb⟩
  · exact h.apart k (e ▸ hk) hf
  · rw [e] at hk
    injection hk with hk
    have := h.net.is.flt k hf
    omega
theorem Hon.under (h : Hon W0 W F p nodes q c v rs) (hb : RowKit.Below W.heap.size W W') : Hon W0 W' F p nodes q c v rs :=
  ⟨h.net.under hb, h.own.move (fun k hk => hb.block k (h.own.lt k hk).2), h.apart⟩
end
theorem cells43 {w : World} {ad : Addr} {rs : List S43} {n : Nat} (h : Kd.C k43 w (some ad) n rs) (k : Nat) (hk : k < n) {r : S43} (hr : rd43 rs (k : Int) = r) :
    w.cell? (ad.add (k * 3)) = some (.int .i64 r.f0) ∧ w.cell? ⟨(ad.add (k * 3)).block, (ad.add (k * 3)).off + 1, none⟩ = some (.string r.f1) ∧ w.cell? ⟨(ad.add (k * 3)).block, (ad.add (k * 3)).off + 2, none⟩ = some (.bool r.f2) := by
  obtain ⟨ad', e1, x0, x1, x2⟩ := at43 h (k : Int) (by omega) (by omega)
  cases e1
  rw [Int.toNat_natCast, hr] at x0 x1 x2
  exact ⟨x0, x1, x2⟩
theorem C43_some {w : World} {A : Option Addr} {n : Nat} {rs : List S43} (h : Kd.C k43 w A n rs) (hk : 0 < n) : ∃ ad, A = some ad := by
  obtain ⟨ad, e, _⟩ := h.2.2 hk
  exact ⟨ad, e⟩
theorem below_of_drawn {B : Nat} {w w1 : World} (h : RowKit.Below B w w1) (n : Nat) : RowKit.Below B w (w1.drewN n) := pw_below_drewN h n

set_option maxRecDepth 100000 in
set_option maxHeartbeats 40000000 in
theorem netHonest_calls (w : World) (nodes : Int) (A : Option Addr) (cp : Nat) (l : List S46) (hC : Kd.C k46 w A l.length l) (hcp : l.length ≤ cp) :
    Calls Try.prog 8 #[.int .i64 nodes, .slice A l.length cp] w fun e w' => e = .returned (.bool true) ∧ RowKit.Below w.heap.size w w' := by
  have HC := Aside0.mk hC
  have HCP := Aside0.mk hcp
  clear hC hcp
  by_cases hn : 1 ≤ nodes ∧ nodes ≤ 8
  · have HN := Aside0.mk hn
    clear hn
    cases hf : fewB l with
    | false =>
      have HF := Aside0.mk hf
      clear hf
      go_enter Try.func8, Try.ntmps8
      go_wp2_with (fail)
      refine (head_calls w).mono ?_
      rintro e W0 ⟨rfl, hb⟩
      have HB0 := Aside0.mk hb
      clear hb
      go_wp2_with (fail)
      refine (new_ok W0 nodes HN.out.1 HN.out.2).mono ?_
      rintro e W2 ⟨p, rfl, h1, h2⟩
      have NI := Aside0.mk (NetIn.mk (w := W0) h1 (fun k hk => hk.1) h2)
      clear h1 h2
      go_wp2_with (fail)
      refine (few_calls A cp l W2 (Kd.C_below HC.out (below_then HB0.out HB0.out.size NI.out.below)) HCP.out).mono ?_
      rintro e W3 ⟨rfl, hb⟩
      rw [HF.out]
      have NI3 := Aside0.mk (NI.out.under hb)
      clear hb NI
      go_wp2_with (fail)
      go_ret
      exact ⟨rfl, below_then HB0.out HB0.out.size NI3.out.below⟩
    | true =>
      have HF := Aside0.mk hf
      have HFL := Aside0.mk (few_len hf)
      clear hf
      go_enter Try.func8, Try.ntmps8
      go_wp2_with (fail)
      refine (head_calls w).mono ?_
      rintro e W0 ⟨rfl, hb⟩
      have HB0 := Aside0.mk hb
      clear hb
      go_wp2_with (fail)
      refine (new_ok W0 nodes HN.out.1 HN.out.2).mono ?_
      rintro e W2 ⟨p, rfl, h1, h2⟩
      have NI := Aside0.mk (NetIn.mk (w := W0) h1 (fun k hk => hk.1) h2)
      clear h1 h2
      go_wp2_with (fail)
      refine (few_calls A cp l W2 (Kd.C_below HC.out (below_then HB0.out HB0.out.size NI.out.below)) HCP.out).mono ?_
      rintro e W3 ⟨rfl, hb⟩
      rw [HF.out]
      have NI3 := Aside0.mk (NI.out.under hb)
      clear hb NI
      go_wp2_with (fail)

      go_loopw [8, 9] (fun v i wr => ∃ (k n : Nat) (A8 : Option Addr) (c8 : Nat), k ≤ l.length ∧ n = k ∧ v = .slice A8 n c8 ∧ i = .int .i64 k ∧ Aside0 (∃ F q c rs, Hon W0 wr F p nodes q c (.slice A8 n c8) rs ∧ Hist l k rs q)) (fun _ i _ => l.length - (intOf i).toNat)
      case atStart => exact ⟨0, 0, none, 0, Nat.zero_le _, rfl, rfl, rfl, ⟨_, _, _, _, ⟨NI3.out, Kd.R_nil _ _ _ _ _, fun k hk => by simp [Value.ownBlock] at hk⟩, Hist.zero l⟩⟩
      case round =>
        clear NI3
        obtain ⟨k, n, A8, c8, hk, hnk, rfl, rfl, HX⟩ := hrel
        have HNK := Aside0.mk hnk
        clear hnk
        obtain ⟨F, q, c, rs, hx, hh⟩ := HX.out
        have NT := Aside0.mk hx
        have HH := Aside0.mk hh
        clear HX hx hh
        by_cases hlt : k < l.length
        · have hw : wrap64 ((k : Int) + 1) = ((k + 1 : Nat) : Int) := by have := HFL.out.1; unfold wrap64; omega
          have HCr := Aside0.mk (Kd.C_below HC.out (below_then HB0.out HB0.out.size NT.out.net.below))
          have HSZ := Aside0.mk (HFL.out.2 k hlt)
          obtain ⟨ad, e1⟩ := C_some HCr.out (by omega)
          cases e1
          obtain ⟨s, hs⟩ : ∃ s, rd_T46 l (k : Int) = s := ⟨_, rfl⟩
          have HS := Aside0.mk hs
          rw [hs] at HSZ
          clear hs
          obtain ⟨x0, x1, x2, x3, x4, x5, x6⟩ := cells7 HCr.out k hlt HS.out
          have p1 : (0 : Int) ≤ (k : Int) := by omega
          have p2 : (k : Int) < (l.length : Int) := by omega
          have HLT := Aside0.mk hlt
          go_wp2_with (fail)
          refine (do_calls NT.out.net.is s (by have := HSZ.out; omega)).mono ?_
          rintro e W4 ⟨rfl, h1, h2⟩
          have NT4 := Aside0.mk (NT.out.step h1 h2)
          clear h1 h2 x0 x1 x2 x3 x4 x5 x6
          obtain ⟨rs', hrs⟩ : ∃ rs', rs ++ [ansOf nodes q c s] = rs' := ⟨_, rfl⟩
          obtain ⟨n1, hn1⟩ : ∃ n1, rs'.length = n1 := ⟨_, rfl⟩
          have HRS := Aside0.mk hrs
          have HN1 := Aside0.mk hn1
          have HNL := Aside0.mk (show n1 = k + 1 by rw [← hn1, ← hrs, List.length_append, HH.out.len]; rfl)
          have HLK := Aside0.mk (show rd43 rs' (k : Int) = ansOf nodes q c s by rw [← hrs, ← HH.out.len]; exact rd43_last _ _)
          have HH2 := Aside0.mk (show Hist l (k + 1) rs' (doQ nodes q c s) by rw [← hrs]; exact HH.out.step HS.out)
          have HTL := Aside0.mk (show s.f0 = 1 → doK nodes q s = true → kn l rs' s.f1 s.f2 (doT nodes q s) (k + 1) = true ∧ cG l rs' s.f1 s.f2 (k + 1) ≤ cS l rs' s.f1 s.f2 (k + 1) by rw [← hrs]; exact HH.out.tells HS.out)
          clear hrs hn1
          go_upto_region 10 with ((with_reducible refine gate_dst (N := 58) rfl ?_); refine append43 rfl (.tmp 50) (.tmp 57) rfl (base := W0.heap.size) (n := n1) (rs := rs) (rs' := rs') (ansOf nodes q c s) rfl rfl NT4.out.own NT4.out.net.below.size (by have := HH.out.len; have := HFL.out.1; have := HLT.out; omega) HRS.out HN1.out ?_; intro A1 c1 w5 hr5 hC5 hg hat; have NT5 := Aside0.mk (NT4.out.append hr5 hg hat); have HC5 := Aside0.mk hC5; clear hr5 hC5 hg hat)
          have HB5 := Aside0.mk (below_then HB0.out HB0.out.size NT5.out.net.below)
          obtain ⟨ad8, e8⟩ := C43_some HC5.out (by have := HNL.out; omega)
          cases e8
          have HKN := Aside0.mk (show k < n1 by have := HNL.out; omega)
          generalize hE : doE nodes q c s = E at HLK HTL ⊢
          generalize hT : doT nodes q s = T at HTL ⊢
          generalize hK : doK nodes q s = K at HTL ⊢
          have HLK2 := Aside0.mk (show rd43 rs' (k : Int) = ⟨E, T, K⟩ by rw [HLK.out, ← hE, ← hT, ← hK]; rfl)
          clear hE hT hK HLK
          obtain ⟨x0, x1, x2, x3, x4, x5, x6⟩ := cells7 (Kd.C_below HC.out HB5.out) k HLT.out HS.out
          obtain ⟨r0, r1, r2⟩ := cells43 HC5.out k HKN.out HLK2.out
          have p3 : (k : Int) < (n1 : Int) := by have := HKN.out; omega
          by_cases z1 : s.f0 = 1
          · have d1 : (s.f0 != 1) = false := by simp [z1]
            have d1b : (s.f0 == 1) = true := by simp [z1]
            have HZ1 := Aside0.mk z1
            clear z1
            cases K with
            | false =>
              go_wp2_with (fail)
              go_round
              case rel => exact ⟨k + 1, n1, some ad8, c1, by omega, HNL.out, rfl, by first | (rw [hw]; done) | go_num, ⟨_, _, _, _, NT5.out, HH2.out⟩⟩
              case measure => first | (rw [hw]; simp only [intOf, Int.toNat_natCast]; omega) | (simp [intOf]; omega)
            | true =>
              have HKT := Aside0.mk (HTL.out HZ1.out rfl)
              go_wp2_with (fail)
              clear x0 x1 x2 x3 x4 x5 x6 r0 r1 r2
              have HK150 := Aside0.mk (show n1 ≤ 150 by have := HNL.out; have := HLT.out; have := HFL.out.1; omega)
              go_loopw [10, 11, 12, 13] (fun v10 v11 v12 v13 wi => ∃ j : Nat, j ≤ n1 ∧ v10 = .int .i64 (cS l rs' s.f1 s.f2 j) ∧ v11 = .int .i64 (cG l rs' s.f1 s.f2 j) ∧ v12 = .bool (kn l rs' s.f1 s.f2 T j) ∧ v13 = .int .i64 j ∧ Aside0 (RowKit.Below w5.heap.size w5 wi)) (fun _ _ _ v _ => n1 - (intOf v).toNat)
              case atStart => exact ⟨0, Nat.zero_le _, rfl, rfl, rfl, rfl, ⟨Below.refl _ _⟩⟩
              case round =>
                obtain ⟨j, hj, rfl, rfl, rfl, rfl, HBi⟩ := hrel
                by_cases hjn : j < n1
                · have hjk : (j : Int) ≤ (k : Int) := by have := HNL.out; omega
                  have hwj : wrap64 ((j : Int) + 1) = ((j + 1 : Nat) : Int) := by have := HK150.out; unfold wrap64; omega
                  have HCi := Aside0.mk (Kd.C_below HC.out (below_then HB5.out HB5.out.size HBi.out))
                  have HC8 := Aside0.mk (Kd.C_below HC5.out HBi.out)
                  have HJL := Aside0.mk (show j < l.length by have := HNL.out; have := HLT.out; omega)
                  obtain ⟨sj, hsj⟩ : ∃ sj, rd_T46 l (j : Int) = sj := ⟨_, rfl⟩
                  obtain ⟨rj, hrj⟩ : ∃ rj, rd43 rs' (j : Int) = rj := ⟨_, rfl⟩
                  have HSJ := Aside0.mk hsj
                  have HRJ := Aside0.mk hrj
                  have HJN := Aside0.mk hjn
                  obtain ⟨x0, x1, x2, x3, x4, x5, x6⟩ := cells7 HCi.out k HLT.out HS.out
                  obtain ⟨y0, y1, y2, y3, y4, y5, y6⟩ := cells7 HCi.out j HJL.out hsj
                  obtain ⟨r0, r1, r2⟩ := cells43 HC8.out k HKN.out HLK2.out
                  obtain ⟨t0, t1, t2⟩ := cells43 HC8.out j hjn hrj
                  clear hsj hrj
                  have q1 : (0 : Int) ≤ (j : Int) := by omega
                  have q2 : (j : Int) < (l.length : Int) := by have := HJL.out; omega
                  have q3 : (j : Int) < (n1 : Int) := by omega
                  have hs1 := cS_le l rs' s.f1 s.f2 j
                  have hg1 := cG_le l rs' s.f1 s.f2 j
                  have HCS := Aside0.mk (show cS l rs' s.f1 s.f2 (j + 1) = cS l rs' s.f1 s.f2 j + (if isSent l rs' s.f1 s.f2 j then 1 else 0) from rfl)
                  have HCG := Aside0.mk (show cG l rs' s.f1 s.f2 (j + 1) = cG l rs' s.f1 s.f2 j + (if isGot l rs' s.f1 s.f2 j then 1 else 0) from rfl)
                  have HKN1 := Aside0.mk (show kn l rs' s.f1 s.f2 T (j + 1) = (kn l rs' s.f1 s.f2 T j || (isSent l rs' s.f1 s.f2 j && (rd_T46 l (j : Int)).f4.toList == T.toList)) from rfl)
                  have HSE := Aside0.mk (show isSent l rs' s.f1 s.f2 j = (decide (sj.f1 = s.f1 ∧ sj.f2 = s.f2) && decide (sj.f0 = 0 ∧ rj.f0 = 0)) by unfold isSent isAt; rw [HSJ.out, HRJ.out])
                  have HGE := Aside0.mk (show isGot l rs' s.f1 s.f2 j = (decide (sj.f1 = s.f1 ∧ sj.f2 = s.f2) && decide (sj.f0 = 1) && rj.f2 && !sj.f6) by unfold isGot isAt; rw [HSJ.out, HRJ.out])
                  rw [HSE.out] at HCS
                  rw [HGE.out] at HCG
                  rw [HSE.out, HSJ.out] at HKN1
                  generalize cS l rs' s.f1 s.f2 j = nS at HCS hs1 ⊢
                  generalize cG l rs' s.f1 s.f2 j = nG at HCG hg1 ⊢
                  generalize kn l rs' s.f1 s.f2 T j = bK at HKN1 ⊢
                  have hs2 : (nS : Int) ≤ 150 := by have := HK150.out; omega
                  have hg2 : (nG : Int) ≤ 150 := by have := HK150.out; omega
                  have hs3 : wrap64 ((nS : Int) + 1) = ((nS + 1 : Nat) : Int) := by unfold wrap64; omega
                  have hg3 : wrap64 ((nG : Int) + 1) = ((nG + 1 : Nat) : Int) := by unfold wrap64; omega
                  clear hs1 hg1
                  by_cases a1 : sj.f1 = s.f1
                  · have b1 : (sj.f1 != s.f1) = false := by simp [a1]
                    by_cases a2 : sj.f2 = s.f2
                    · have b2 : (sj.f2 != s.f2) = false := by simp [a2]
                      have HA1 := Aside0.mk a1
                      have HA2 := Aside0.mk a2
                      clear a1 a2
                      by_cases z0 : sj.f0 = 0
                      · have e0 : (sj.f0 == 0) = true := by simp [z0]
                        have e1 : (sj.f0 == 1) = false := by simp [z0]
                        have HZ0 := Aside0.mk z0
                        clear z0
                        by_cases u0 : rj.f0 = 0
                        · have f0 : (rj.f0 == 0) = true := by simp [u0]
                          have HU0 := Aside0.mk u0
                          clear u0
                          cases bK with
                          | true =>
                            go_wp2_with (fail)
                            go_quiet (fail)
                            go_wp2_with (fail)
                            try (go_quiet (fail))
                            try (go_wp2_with (fail))
                            go_round
                            case rel =>
                              have e1 : cS l rs' s.f1 s.f2 (j + 1) = nS + 1 := by rw [HCS.out]; simp [HA1.out, HA2.out, HZ0.out, HU0.out]
                              have e2 : cG l rs' s.f1 s.f2 (j + 1) = nG := by rw [HCG.out]; simp [HA1.out, HA2.out, HZ0.out, HU0.out]
                              have e3 : kn l rs' s.f1 s.f2 T (j + 1) = true := by rw [HKN1.out]; simp [HA1.out, HA2.out, HZ0.out, HU0.out]
                              exact ⟨j + 1, by have := HJN.out; omega, by first | (rw [e1]; done) | (rw [e1, hs3]; done) | (rw [e1]; rfl) | (rw [e1]; go_num), by first | (rw [e2]; done) | (rw [e2, hg3]; done) | (rw [e2]; rfl) | (rw [e2]; go_num), by first | (rw [e3]; done) | (rw [e3]; rfl) | (rw [e3]; simp; done), by first | (rw [hwj]; done) | go_num, ⟨by first | exact HBi.out | exact below_of_drawn HBi.out _ | exact below_of_drawn (below_of_drawn HBi.out _) _⟩⟩
                            case measure => first | (rw [hwj]; simp only [intOf, Int.toNat_natCast]; omega) | (simp [intOf]; omega)
                          | false =>
                            by_cases tt : sj.f4.toList = T.toList
                            · have g0 : (sj.f4.toList == T.toList) = true := by simp [tt]
                              have HTT := Aside0.mk tt
                              clear tt
                              go_wp2_with (fail)
                              go_quiet (fail)
                              go_wp2_with (fail)
                              try (go_quiet (fail))
                              try (go_wp2_with (fail))
                              go_round
                              case rel =>
                                have e1 : cS l rs' s.f1 s.f2 (j + 1) = nS + 1 := by rw [HCS.out]; simp [HA1.out, HA2.out, HZ0.out, HU0.out, HTT.out]
                                have e2 : cG l rs' s.f1 s.f2 (j + 1) = nG := by rw [HCG.out]; simp [HA1.out, HA2.out, HZ0.out, HU0.out, HTT.out]
                                have e3 : kn l rs' s.f1 s.f2 T (j + 1) = true := by rw [HKN1.out]; simp [HA1.out, HA2.out, HZ0.out, HU0.out, HTT.out]
                                exact ⟨j + 1, by have := HJN.out; omega, by first | (rw [e1]; done) | (rw [e1, hs3]; done) | (rw [e1]; rfl) | (rw [e1]; go_num), by first | (rw [e2]; done) | (rw [e2, hg3]; done) | (rw [e2]; rfl) | (rw [e2]; go_num), by first | (rw [e3]; done) | (rw [e3]; rfl) | (rw [e3]; simp; done), by first | (rw [hwj]; done) | go_num, ⟨by first | exact HBi.out | exact below_of_drawn HBi.out _ | exact below_of_drawn (below_of_drawn HBi.out _) _⟩⟩
                              case measure => first | (rw [hwj]; simp only [intOf, Int.toNat_natCast]; omega) | (simp [intOf]; omega)
                            · have g0 : (sj.f4.toList == T.toList) = false := by simp [tt]
                              have HTT := Aside0.mk tt
                              clear tt
                              go_wp2_with (fail)
                              go_quiet (fail)
                              go_wp2_with (fail)
                              try (go_quiet (fail))
                              try (go_wp2_with (fail))
                              go_round
                              case rel =>
                                have e1 : cS l rs' s.f1 s.f2 (j + 1) = nS + 1 := by rw [HCS.out]; simp [HA1.out, HA2.out, HZ0.out, HU0.out, HTT.out]
                                have e2 : cG l rs' s.f1 s.f2 (j + 1) = nG := by rw [HCG.out]; simp [HA1.out, HA2.out, HZ0.out, HU0.out, HTT.out]
                                have e3 : kn l rs' s.f1 s.f2 T (j + 1) = false := by rw [HKN1.out]; simp [HA1.out, HA2.out, HZ0.out, HU0.out, HTT.out]
                                exact ⟨j + 1, by have := HJN.out; omega, by first | (rw [e1]; done) | (rw [e1, hs3]; done) | (rw [e1]; rfl) | (rw [e1]; go_num), by first | (rw [e2]; done) | (rw [e2, hg3]; done) | (rw [e2]; rfl) | (rw [e2]; go_num), by first | (rw [e3]; done) | (rw [e3]; rfl) | (rw [e3]; simp; done), by first | (rw [hwj]; done) | go_num, ⟨by first | exact HBi.out | exact below_of_drawn HBi.out _ | exact below_of_drawn (below_of_drawn HBi.out _) _⟩⟩
                              case measure => first | (rw [hwj]; simp only [intOf, Int.toNat_natCast]; omega) | (simp [intOf]; omega)
                        · have f0 : (rj.f0 == 0) = false := by simp [u0]
                          have HU0 := Aside0.mk u0
                          clear u0
                          go_wp2_with (fail)
                          go_quiet (fail)
                          go_wp2_with (fail)
                          go_round
                          case rel =>
                            have e1 : cS l rs' s.f1 s.f2 (j + 1) = nS := by rw [HCS.out]; simp [HA1.out, HA2.out, HZ0.out, HU0.out]
                            have e2 : cG l rs' s.f1 s.f2 (j + 1) = nG := by rw [HCG.out]; simp [HA1.out, HA2.out, HZ0.out, HU0.out]
                            have e3 : kn l rs' s.f1 s.f2 T (j + 1) = bK := by rw [HKN1.out]; simp [HA1.out, HA2.out, HZ0.out, HU0.out]
                            exact ⟨j + 1, by have := HJN.out; omega, by first | (rw [e1]; done) | (rw [e1, hs3]; done) | (rw [e1]; rfl) | (rw [e1]; go_num), by first | (rw [e2]; done) | (rw [e2, hg3]; done) | (rw [e2]; rfl) | (rw [e2]; go_num), by first | (rw [e3]; done) | (rw [e3]; rfl) | (rw [e3]; simp; done), by first | (rw [hwj]; done) | go_num, ⟨by first | exact HBi.out | exact below_of_drawn HBi.out _ | exact below_of_drawn (below_of_drawn HBi.out _) _⟩⟩
                          case measure => first | (rw [hwj]; simp only [intOf, Int.toNat_natCast]; omega) | (simp [intOf]; omega)
                      · by_cases z1 : sj.f0 = 1
                        · have e0 : (sj.f0 == 0) = false := by simp [z1]
                          have e1 : (sj.f0 == 1) = true := by simp [z1]
                          have HZ0 := Aside0.mk z1
                          clear z0 z1
                          cases hr2 : rj.f2 with
                          | true =>
                            have HR2 := Aside0.mk hr2
                            rw [hr2] at t2
                            clear hr2
                            cases ha6 : sj.f6 with
                            | true =>
                              have HA6 := Aside0.mk ha6
                              rw [ha6] at y6
                              clear ha6
                              go_wp2_with (fail)
                              go_quiet (fail)
                              go_wp2_with (fail)
                              go_round
                              case rel =>
                                have e1 : cS l rs' s.f1 s.f2 (j + 1) = nS := by rw [HCS.out]; simp [HA1.out, HA2.out, HZ0.out, HR2.out, HA6.out]
                                have e2 : cG l rs' s.f1 s.f2 (j + 1) = nG := by rw [HCG.out]; simp [HA1.out, HA2.out, HZ0.out, HR2.out, HA6.out]
                                have e3 : kn l rs' s.f1 s.f2 T (j + 1) = bK := by rw [HKN1.out]; simp [HA1.out, HA2.out, HZ0.out, HR2.out, HA6.out]
                                exact ⟨j + 1, by have := HJN.out; omega, by first | (rw [e1]; done) | (rw [e1, hs3]; done) | (rw [e1]; rfl) | (rw [e1]; go_num), by first | (rw [e2]; done) | (rw [e2, hg3]; done) | (rw [e2]; rfl) | (rw [e2]; go_num), by first | (rw [e3]; done) | (rw [e3]; rfl) | (rw [e3]; simp; done), by first | (rw [hwj]; done) | go_num, ⟨by first | exact HBi.out | exact below_of_drawn HBi.out _ | exact below_of_drawn (below_of_drawn HBi.out _) _⟩⟩
                              case measure => first | (rw [hwj]; simp only [intOf, Int.toNat_natCast]; omega) | (simp [intOf]; omega)
                            | false =>
                              have HA6 := Aside0.mk ha6
                              rw [ha6] at y6
                              clear ha6
                              go_wp2_with (fail)
                              go_quiet (fail)
                              go_wp2_with (fail)
                              go_round
                              case rel =>
                                have e1 : cS l rs' s.f1 s.f2 (j + 1) = nS := by rw [HCS.out]; simp [HA1.out, HA2.out, HZ0.out, HR2.out, HA6.out]
                                have e2 : cG l rs' s.f1 s.f2 (j + 1) = nG + 1 := by rw [HCG.out]; simp [HA1.out, HA2.out, HZ0.out, HR2.out, HA6.out]
                                have e3 : kn l rs' s.f1 s.f2 T (j + 1) = bK := by rw [HKN1.out]; simp [HA1.out, HA2.out, HZ0.out, HR2.out, HA6.out]
                                exact ⟨j + 1, by have := HJN.out; omega, by first | (rw [e1]; done) | (rw [e1, hs3]; done) | (rw [e1]; rfl) | (rw [e1]; go_num), by first | (rw [e2]; done) | (rw [e2, hg3]; done) | (rw [e2]; rfl) | (rw [e2]; go_num), by first | (rw [e3]; done) | (rw [e3]; rfl) | (rw [e3]; simp; done), by first | (rw [hwj]; done) | go_num, ⟨by first | exact HBi.out | exact below_of_drawn HBi.out _ | exact below_of_drawn (below_of_drawn HBi.out _) _⟩⟩
                              case measure => first | (rw [hwj]; simp only [intOf, Int.toNat_natCast]; omega) | (simp [intOf]; omega)
                          | false =>
                            have HR2 := Aside0.mk hr2
                            rw [hr2] at t2
                            clear hr2
                            go_wp2_with (fail)
                            go_quiet (fail)
                            go_wp2_with (fail)
                            go_round
                            case rel =>
                              have e1 : cS l rs' s.f1 s.f2 (j + 1) = nS := by rw [HCS.out]; simp [HA1.out, HA2.out, HZ0.out, HR2.out]
                              have e2 : cG l rs' s.f1 s.f2 (j + 1) = nG := by rw [HCG.out]; simp [HA1.out, HA2.out, HZ0.out, HR2.out]
                              have e3 : kn l rs' s.f1 s.f2 T (j + 1) = bK := by rw [HKN1.out]; simp [HA1.out, HA2.out, HZ0.out, HR2.out]
                              exact ⟨j + 1, by have := HJN.out; omega, by first | (rw [e1]; done) | (rw [e1, hs3]; done) | (rw [e1]; rfl) | (rw [e1]; go_num), by first | (rw [e2]; done) | (rw [e2, hg3]; done) | (rw [e2]; rfl) | (rw [e2]; go_num), by first | (rw [e3]; done) | (rw [e3]; rfl) | (rw [e3]; simp; done), by first | (rw [hwj]; done) | go_num, ⟨by first | exact HBi.out | exact below_of_drawn HBi.out _ | exact below_of_drawn (below_of_drawn HBi.out _) _⟩⟩
                            case measure => first | (rw [hwj]; simp only [intOf, Int.toNat_natCast]; omega) | (simp [intOf]; omega)
                        · have e0 : (sj.f0 == 0) = false := by simp [z0]
                          have e1 : (sj.f0 == 1) = false := by simp [z1]
                          have HZ0 := Aside0.mk z0
                          have HZ2 := Aside0.mk z1
                          clear z0 z1
                          go_wp2_with (fail)
                          go_quiet (fail)
                          go_wp2_with (fail)
                          go_round
                          case rel =>
                            have e1 : cS l rs' s.f1 s.f2 (j + 1) = nS := by rw [HCS.out]; simp [HA1.out, HA2.out, HZ0.out, HZ2.out]
                            have e2 : cG l rs' s.f1 s.f2 (j + 1) = nG := by rw [HCG.out]; simp [HA1.out, HA2.out, HZ0.out, HZ2.out]
                            have e3 : kn l rs' s.f1 s.f2 T (j + 1) = bK := by rw [HKN1.out]; simp [HA1.out, HA2.out, HZ0.out, HZ2.out]
                            exact ⟨j + 1, by have := HJN.out; omega, by first | (rw [e1]; done) | (rw [e1, hs3]; done) | (rw [e1]; rfl) | (rw [e1]; go_num), by first | (rw [e2]; done) | (rw [e2, hg3]; done) | (rw [e2]; rfl) | (rw [e2]; go_num), by first | (rw [e3]; done) | (rw [e3]; rfl) | (rw [e3]; simp; done), by first | (rw [hwj]; done) | go_num, ⟨by first | exact HBi.out | exact below_of_drawn HBi.out _ | exact below_of_drawn (below_of_drawn HBi.out _) _⟩⟩
                          case measure => first | (rw [hwj]; simp only [intOf, Int.toNat_natCast]; omega) | (simp [intOf]; omega)
                    · have b2 : (sj.f2 != s.f2) = true := by simp [a2]
                      have HA1 := Aside0.mk a1
                      have HA2 := Aside0.mk a2
                      clear a1 a2
                      go_wp2_with (fail)
                      go_quiet (fail)
                      go_wp2_with (fail)
                      go_round
                      case rel =>
                        have e1 : cS l rs' s.f1 s.f2 (j + 1) = nS := by rw [HCS.out]; simp [HA1.out, HA2.out]
                        have e2 : cG l rs' s.f1 s.f2 (j + 1) = nG := by rw [HCG.out]; simp [HA1.out, HA2.out]
                        have e3 : kn l rs' s.f1 s.f2 T (j + 1) = bK := by rw [HKN1.out]; simp [HA1.out, HA2.out]
                        exact ⟨j + 1, by have := HJN.out; omega, by first | (rw [e1]; done) | (rw [e1, hs3]; done) | (rw [e1]; rfl) | (rw [e1]; go_num), by first | (rw [e2]; done) | (rw [e2, hg3]; done) | (rw [e2]; rfl) | (rw [e2]; go_num), by first | (rw [e3]; done) | (rw [e3]; rfl) | (rw [e3]; simp; done), by first | (rw [hwj]; done) | go_num, ⟨by first | exact HBi.out | exact below_of_drawn HBi.out _ | exact below_of_drawn (below_of_drawn HBi.out _) _⟩⟩
                      case measure => first | (rw [hwj]; simp only [intOf, Int.toNat_natCast]; omega) | (simp [intOf]; omega)
                  · have b1 : (sj.f1 != s.f1) = true := by simp [a1]
                    have HA1 := Aside0.mk a1
                    clear a1
                    go_wp2_with (fail)
                    go_quiet (fail)
                    go_wp2_with (fail)
                    go_round
                    case rel =>
                      have e1 : cS l rs' s.f1 s.f2 (j + 1) = nS := by rw [HCS.out]; simp [HA1.out]
                      have e2 : cG l rs' s.f1 s.f2 (j + 1) = nG := by rw [HCG.out]; simp [HA1.out]
                      have e3 : kn l rs' s.f1 s.f2 T (j + 1) = bK := by rw [HKN1.out]; simp [HA1.out]
                      exact ⟨j + 1, by have := HJN.out; omega, by first | (rw [e1]; done) | (rw [e1, hs3]; done) | (rw [e1]; rfl) | (rw [e1]; go_num), by first | (rw [e2]; done) | (rw [e2, hg3]; done) | (rw [e2]; rfl) | (rw [e2]; go_num), by first | (rw [e3]; done) | (rw [e3]; rfl) | (rw [e3]; simp; done), by first | (rw [hwj]; done) | go_num, ⟨by first | exact HBi.out | exact below_of_drawn HBi.out _ | exact below_of_drawn (below_of_drawn HBi.out _) _⟩⟩
                    case measure => first | (rw [hwj]; simp only [intOf, Int.toNat_natCast]; omega) | (simp [intOf]; omega)
                · obtain rfl : j = n1 := by omega
                  have hjk : ¬ (j : Int) ≤ (k : Int) := by have := HNL.out; omega
                  have HK2 := Aside0.mk (show kn l rs' s.f1 s.f2 T j = true by rw [HNL.out]; exact HKT.out.1)
                  have HG2 := Aside0.mk (show cG l rs' s.f1 s.f2 j ≤ cS l rs' s.f1 s.f2 j by rw [HNL.out]; exact HKT.out.2)
                  rw [HK2.out]
                  generalize cS l rs' s.f1 s.f2 j = nS at HG2 ⊢
                  generalize cG l rs' s.f1 s.f2 j = nG at HG2 ⊢
                  have hgs : ¬ ((nS : Int) < (nG : Int)) := by have := HG2.out; omega
                  have hgs2 : (nG : Int) ≤ (nS : Int) := by have := HG2.out; omega
                  go_wp2_with (fail)
                  go_round
                  case rel => exact ⟨k + 1, j, some ad8, c1, by omega, HNL.out, rfl, by first | (rw [hw]; done) | go_num, ⟨_, _, _, _, NT5.out.under HBi.out, HH2.out⟩⟩
                  case measure => first | (rw [hw]; simp only [intOf, Int.toNat_natCast]; omega) | (simp [intOf]; omega)
          · have d1 : (s.f0 != 1) = true := by simp [z1]
            clear z1
            go_wp2_with (fail)
            go_round
            case rel => exact ⟨k + 1, n1, some ad8, c1, by omega, HNL.out, rfl, by first | (rw [hw]; done) | go_num, ⟨_, _, _, _, NT5.out, HH2.out⟩⟩
            case measure => first | (rw [hw]; simp only [intOf, Int.toNat_natCast]; omega) | (simp [intOf]; omega)
        · obtain rfl : k = l.length := by omega
          go_wp2_with (fail)
          go_ret
          exact ⟨rfl, below_then HB0.out HB0.out.size NT.out.net.below⟩
  · have HN := Aside0.mk hn
    clear hn
    cases hf : fewB l with
    | false =>
      have HF := Aside0.mk hf
      clear hf
      go_enter Try.func8, Try.ntmps8
      go_wp2_with (fail)
      refine (head_calls w).mono ?_
      rintro e W0 ⟨rfl, hb⟩
      have HB0 := Aside0.mk hb
      clear hb
      go_wp2_with (fail)
      refine (new_bad W0 nodes HN.out).mono ?_
      rintro e W1 ⟨rfl, rfl⟩
      go_wp2_with (fail)
      refine (few_calls A cp l W0 (Kd.C_below HC.out HB0.out) HCP.out).mono ?_
      rintro e W3 ⟨rfl, hb⟩
      rw [HF.out]
      have HB3 := Aside0.mk (below_then HB0.out HB0.out.size hb)
      clear hb
      go_wp2_with (fail)
      go_ret
      exact ⟨rfl, HB3.out⟩
    | true =>
      have HF := Aside0.mk hf
      clear hf
      go_enter Try.func8, Try.ntmps8
      go_wp2_with (fail)
      refine (head_calls w).mono ?_
      rintro e W0 ⟨rfl, hb⟩
      have HB0 := Aside0.mk hb
      clear hb
      go_wp2_with (fail)
      refine (new_bad W0 nodes HN.out).mono ?_
      rintro e W1 ⟨rfl, rfl⟩
      go_wp2_with (fail)
      refine (few_calls A cp l W0 (Kd.C_below HC.out HB0.out) HCP.out).mono ?_
      rintro e W3 ⟨rfl, hb⟩
      rw [HF.out]
      have HB3 := Aside0.mk (below_then HB0.out HB0.out.size hb)
      clear hb
      go_wp2_with (fail)
      go_ret
      exact ⟨rfl, HB3.out⟩
end Go.Proofs.Ytofacphhfgkemaa.G
