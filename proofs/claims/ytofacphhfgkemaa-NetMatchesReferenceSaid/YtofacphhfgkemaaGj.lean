/- Texts; the statements' head. -/
import Derived.Test.YtofacphhfgkemaaGi
import Derived.Lib.SlicesS
namespace Go.Proofs.Ytofacphhfgkemaa.G
open Go.Sort Go.RowKit Go.Proofs.YtofacphhfgkemaaW.PrintWords Go.Proofs.YtofacphhfgkemaaW.PrintLast Go.Proofs.YtofacphhfgkemaaW.PrintMore
set_option linter.unusedVariables false
set_option linter.unusedSimpArgs false

theorem texts_ne {l m : List ByteArray} {k : Nat} (hk : k < l.length) (h : rdOf ByteArray.empty l (k : Int) ≠ rdOf ByteArray.empty m (k : Int)) : l ≠ m := fun e => h (by rw [e])
theorem texts_eq {l m : List ByteArray} (hl : l.length = m.length) (h : ∀ j, j < l.length → rdOf ByteArray.empty l (j : Int) = rdOf ByteArray.empty m (j : Int)) : l = m := by
  apply List.ext_getElem hl
  intro j h1 h2
  have := h j h1
  simpa [rdOf, List.getD_eq_getElem?_getD, List.getElem?_eq_getElem h1, List.getElem?_eq_getElem h2] using this

set_option maxHeartbeats 1000000 in
theorem texts_calls (A : Option Addr) (c : Nat) (l : List ByteArray) (B : Option Addr) (d : Nat) (m : List ByteArray) (w : World) (hl : TC w A l) (hm : TC w B m) (hmax : l.length ≤ 100000) :
    Calls Try.prog 14 #[.slice A l.length c, .slice B m.length d] w fun e w' => e = .returned (.bool (decide (l = m))) ∧ Below w.heap.size w w' := by
  have HL := Aside0.mk hl
  have HM := Aside0.mk hm
  have HX := Aside0.mk hmax
  clear hl hm hmax
  by_cases he : l.length = m.length
  · have HE := Aside0.mk he
    have c1 : ((l.length : Int) != (m.length : Int)) = false := by simp [he]
    have c2 : ((m.length : Int) != (m.length : Int)) = false := by simp
    clear he
    go_enter Try.func14, Try.ntmps14
    go_wp2_with (fail)
    go_loopw [5] (fun v wr => ∃ k : Nat, k ≤ l.length ∧ v = .int .i64 k ∧ Aside0 (∀ j, j < k → rdOf ByteArray.empty l (j : Int) = rdOf ByteArray.empty m (j : Int)) ∧ Aside0 (Below w.heap.size w wr)) (fun v _ => l.length - (intOf v).toNat)
    case atStart => exact ⟨0, Nat.zero_le _, rfl, ⟨fun j hj => absurd hj (by omega)⟩, ⟨Below.refl _ _⟩⟩
    case round =>
      obtain ⟨k, hk, rfl, HA, HB⟩ := hrel
      by_cases hlt : k < l.length
      · have hkm : k < m.length := by have := HE.out; omega
        obtain ⟨a1, e1, x1⟩ := Kd.at_string (HL.out.below HB.out) (k : Int) (by omega) (by omega)
        obtain ⟨a2, e2, x2⟩ := Kd.at_string (HM.out.below HB.out) (k : Int) (by omega) (by omega)
        cases e1
        cases e2
        rw [Int.toNat_natCast] at x1 x2
        have p1 : (0 : Int) ≤ (k : Int) := by omega
        have p2 : (k : Int) < (l.length : Int) := by omega
        have p3 : (k : Int) < (m.length : Int) := by omega
        by_cases hq : rdOf ByteArray.empty l (k : Int) = rdOf ByteArray.empty m (k : Int)
        · have q1 : ((rdOf ByteArray.empty l (k : Int)).toList != (rdOf ByteArray.empty m (k : Int)).toList) = false := by rw [hq]; simp
          have q0 : ((rdOf ByteArray.empty l (k : Int)).toList == (rdOf ByteArray.empty m (k : Int)).toList) = true := by rw [hq]; simp
          have HQ := Aside0.mk hq
          clear hq
          go_wp2_with (fail)
          go_quiet (fail)
          go_wp2_with (fail)
          have hw : wrap64 ((k : Int) + 1) = ((k + 1 : Nat) : Int) := by have := HX.out; unfold wrap64; omega
          go_round
          case rel => exact ⟨k + 1, by omega, by rw [hw], ⟨fun j hj => by
            rcases Nat.lt_or_ge j k with h | h
            · exact HA.out j h
            · obtain rfl : j = k := by omega
              exact HQ.out⟩, ⟨pw_below_drewN HB.out _⟩⟩
          case measure => rw [hw]; simp only [intOf, Int.toNat_natCast]; omega
        · have q1 : ((rdOf ByteArray.empty l (k : Int)).toList != (rdOf ByteArray.empty m (k : Int)).toList) = true := by
            simp only [bne_iff_ne, ne_eq]
            intro h
            exact hq (by rw [← beq_iff_eq] at h; exact (Go.Lib.bytes_beq_iff _ _).1 h)
          have q0 : ((rdOf ByteArray.empty l (k : Int)).toList == (rdOf ByteArray.empty m (k : Int)).toList) = false := by
            rw [Bool.eq_false_iff]
            intro h
            exact hq ((Go.Lib.bytes_beq_iff _ _).1 h)
          have HN := Aside0.mk (texts_ne hlt hq)
          clear hq
          go_wp2_with (fail)
          go_quiet (fail)
          go_wp2_with (fail)
          go_ret
          exact ⟨by rw [decide_eq_false HN.out]; rfl, pw_below_drewN HB.out _⟩
      · have HT := Aside0.mk (texts_eq HE.out (fun j hj => HA.out j (by omega)))
        go_wp2_with (fail)
        go_ret
        exact ⟨by rw [decide_eq_true HT.out]; rfl, HB.out⟩
  · have c1 : ((l.length : Int) != (m.length : Int)) = true := by simp; omega
    have HN := Aside0.mk (show l ≠ m from fun e => he (by rw [e]))
    clear he
    go_enter Try.func14, Try.ntmps14
    go_wp2_with (fail)
    go_ret
    exact ⟨by rw [decide_eq_false HN.out]; rfl, Below.refl _ _⟩
end Go.Proofs.Ytofacphhfgkemaa.G
