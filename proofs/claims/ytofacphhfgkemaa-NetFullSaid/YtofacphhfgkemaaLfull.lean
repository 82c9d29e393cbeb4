/- NetFull. -/
import Derived.Test.YtofacphhfgkemaaGk
namespace Go.Proofs.Ytofacphhfgkemaa.G
open Go.Sort Go.RowKit Go.Proofs.YtofacphhfgkemaaW.PrintWords Go.Proofs.YtofacphhfgkemaaW.PrintLast Go.Proofs.YtofacphhfgkemaaW.PrintMore
set_option linter.unusedVariables false
set_option linter.unusedSimpArgs false

def fullQ (t : ByteArray) (k : Nat) : Int → Int → List ByteArray := fun x y => if x = 1 ∧ y = 0 then List.replicate (min k 100) t else []
theorem fullQ_zero (t : ByteArray) : fullQ t 0 = q0 := by
  funext x y
  unfold fullQ
  split <;> simp
theorem full_E (t : ByteArray) (ht : t.size ≤ 100) (k : Nat) : sendE 2 (fullQ t k) c0 1 0 t = if k < 100 then 0 else 29 := by
  unfold sendE fullQ
  have hk : knowsB 2 1 0 = true := by decide
  rw [hk]
  rw [if_neg (by simp; omega), if_neg (by simp)]
  simp only [and_self, if_true, List.length_replicate]
  by_cases h : k < 100
  · rw [if_neg (by omega), if_pos h]
  · rw [if_pos (by omega), if_neg h]
theorem full_Q (t : ByteArray) (ht : t.size ≤ 100) (k : Nat) : sendQ 2 (fullQ t k) c0 1 0 t = fullQ t (k + 1) := by
  unfold sendQ
  rw [full_E t ht]
  funext x y
  by_cases h : k < 100
  · rw [if_pos h, if_pos rfl]
    unfold updQ fullQ
    split
    · simp only [and_self, if_true]
      rw [show min (k + 1) 100 = min k 100 + 1 by omega, List.replicate_succ']
    · rfl
  · rw [if_neg h, if_neg (by omega)]
    unfold fullQ
    rw [show min (k + 1) 100 = min k 100 by omega]
theorem full_other (t : ByteArray) (ht : t.size ≤ 100) (k : Nat) : sendE 2 (fullQ t k) c0 0 1 t = 0 := by
  unfold sendE fullQ
  have hk : knowsB 2 0 1 = true := by decide
  rw [hk]
  rw [if_neg (by simp; omega), if_neg (by simp)]
  simp

set_option maxHeartbeats 2000000 in
theorem netFull_calls (w : World) (raw : Int) (hr0 : 0 ≤ raw) (hr1 : raw ≤ 255) (t : ByteArray) (hmax : t.size ≤ 9223372036854775807) :
    Calls Try.prog 5 #[.int .u8 raw, .string t] w fun e w' => e = .returned (.bool true) ∧ RowKit.Below w.heap.size w w' := by
  by_cases ht : t.size ≤ 100
  · have ht2 : ¬ ((100 : Int) < (t.size : Int)) := by omega
    have ht3 : ((t.size : Int)) ≤ 100 := by omega
    obtain ⟨K, hK⟩ : ∃ K : Nat, raw.tmod 130 = (K : Int) := ⟨(raw.tmod 130).toNat, by rw [Int.tmod_eq_emod_of_nonneg hr0]; omega⟩
    have hKb : K < 130 := by rw [Int.tmod_eq_emod_of_nonneg hr0] at hK; omega
    go_enter Try.func5, Try.ntmps5
    go_wp2_with (fail)
    refine (head_calls w).mono ?_
    rintro e W0 ⟨rfl, hb0⟩
    have HB0 := Aside0.mk hb0
    clear hb0
    go_wp2_with (fail)
    refine (new_ok W0 2 (by omega) (by omega)).mono ?_
    rintro e W1 ⟨a, rfl, h1, h2⟩
    have NI := Aside0.mk (NetIn.mk (w := W0) h1 (fun k hk => hk.1) h2)
    clear h1 h2
    go_wp2_with (fail)
    go_loopw [9] (fun v wr => ∃ k : Nat, k ≤ K ∧ v = .int .i64 k ∧ Aside0 (∃ F, NetIn W0 wr F a 2 (fullQ t k) c0)) (fun v _ => K - (intOf v).toNat)
    case atStart => exact ⟨0, Nat.zero_le _, rfl, ⟨_, by rw [fullQ_zero]; exact NI.out⟩⟩
    case round =>
      clear NI
      obtain ⟨k, hk, rfl, HN⟩ := hrel
      obtain ⟨F, hn⟩ := HN.out
      have NI := Aside0.mk hn
      have HE := Aside0.mk (full_E t ht k)
      have HQ := Aside0.mk (full_Q t ht k)
      clear HN hn
      by_cases hlt : k < K
      · have hw : wrap64 ((k : Int) + 1) = ((k + 1 : Nat) : Int) := by unfold wrap64; omega
        by_cases h100 : k < 100
        · have hd : decide ((k : Int) < 100) = true := by simp; omega
          have HE2 := Aside0.mk (show sendE 2 (fullQ t k) c0 1 0 t = 0 by rw [HE.out, if_pos h100])
          go_wp2_with (fail)
          refine (send_calls NI.out.is 1 0 t hmax).mono ?_
          rintro e W2 ⟨rfl, h1, h2⟩
          rw [HE2.out]
          rw [HQ.out] at h1
          have NI2 := Aside0.mk (NI.out.step h1 h2)
          clear h1 h2
          go_wp2_with (fail)
          go_round
          case rel => exact ⟨k + 1, by omega, by first | (rw [hw]; done) | go_num, ⟨_, NI2.out⟩⟩
          case measure => first | (rw [hw]; simp only [intOf, Int.toNat_natCast]; omega) | (simp [intOf]; omega)
        · have hd : decide ((k : Int) < 100) = false := by simp; omega
          have HE2 := Aside0.mk (show sendE 2 (fullQ t k) c0 1 0 t = 29 by rw [HE.out, if_neg h100])
          go_wp2_with (fail)
          refine (send_calls NI.out.is 1 0 t hmax).mono ?_
          rintro e W2 ⟨rfl, h1, h2⟩
          rw [HE2.out]
          rw [HQ.out] at h1
          have NI2 := Aside0.mk (NI.out.step h1 h2)
          clear h1 h2
          go_wp2_with (fail)
          go_round
          case rel => exact ⟨k + 1, by omega, by first | (rw [hw]; done) | go_num, ⟨_, NI2.out⟩⟩
          case measure => first | (rw [hw]; simp only [intOf, Int.toNat_natCast]; omega) | (simp [intOf]; omega)
      · obtain rfl : k = K := by omega
        have hkn : knowsB 2 1 0 = true := by decide
        have hwq : (if knowsB 2 1 0 then fullQ t k 1 0 else []) = List.replicate (min k 100) t := by rw [hkn]; simp [fullQ]
        have HWQ := Aside0.mk hwq
        have HO := Aside0.mk (full_other t ht k)
        clear hkn hwq
        by_cases h100 : k < 100
        · rw [show min k 100 = k by omega] at HWQ
          have hd1 : (k : Int) < 100 := by omega
          have hd2 : (k : Int) ≤ 100 := by omega
          have hd3 : ((k : Int) == (k : Int)) = true := by simp
          go_wp2_with (fail)
          refine (waits NI.out.is 1 0).mono ?_
          rintro e W2 ⟨A, c, rfl, hC, ho, hb⟩
          rw [HWQ.out] at hC ⊢
          rw [List.length_replicate]
          have NI2 := Aside0.mk (NI.out.under hb)
          clear hC ho hb
          go_wp2_with (fail)
          all_goals
            refine (send_calls NI2.out.is 0 1 t hmax).mono ?_
            rintro e W3 ⟨rfl, h1, h2⟩
            rw [HO.out]
            have NI3 := Aside0.mk (NI2.out.step h1 h2)
            clear h1 h2
            go_wp2_with (fail)
            go_ret
            exact ⟨rfl, below_then HB0.out HB0.out.size NI3.out.below⟩
        · rw [show min k 100 = 100 by omega] at HWQ
          have hd1 : (100 : Int) ≤ (k : Int) := by omega
          go_wp2_with (fail)
          refine (waits NI.out.is 1 0).mono ?_
          rintro e W2 ⟨A, c, rfl, hC, ho, hb⟩
          rw [HWQ.out] at hC ⊢
          rw [List.length_replicate]
          have NI2 := Aside0.mk (NI.out.under hb)
          clear hC ho hb
          go_wp2_with (fail)
          all_goals
            refine (send_calls NI2.out.is 0 1 t hmax).mono ?_
            rintro e W3 ⟨rfl, h1, h2⟩
            rw [HO.out]
            have NI3 := Aside0.mk (NI2.out.step h1 h2)
            clear h1 h2
            go_wp2_with (fail)
            go_ret
            exact ⟨rfl, below_then HB0.out HB0.out.size NI3.out.below⟩
  · have ht2 : (100 : Int) < (t.size : Int) := by omega
    clear ht
    go_enter Try.func5, Try.ntmps5
    go_wp2_with (fail)
    refine (head_calls w).mono ?_
    rintro e W0 ⟨rfl, hb0⟩
    have HB0 := Aside0.mk hb0
    clear hb0
    go_wp2_with (fail)
    refine (new_ok W0 2 (by omega) (by omega)).mono ?_
    rintro e W1 ⟨a, rfl, h1, h2⟩
    have HB1 := Aside0.mk (below_then HB0.out HB0.out.size h2)
    clear h1 h2
    go_wp2_with (fail)
    go_ret
    exact ⟨rfl, HB1.out⟩
end Go.Proofs.Ytofacphhfgkemaa.G
