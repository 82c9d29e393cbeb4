/- The statements' head. -/
import Derived.Test.YtofacphhfgkemaaGj
namespace Go.Proofs.Ytofacphhfgkemaa.G
open Go.Sort Go.RowKit Go.Proofs.YtofacphhfgkemaaW.PrintWords Go.Proofs.YtofacphhfgkemaaW.PrintLast Go.Proofs.YtofacphhfgkemaaW.PrintMore
set_option linter.unusedVariables false
set_option linter.unusedSimpArgs false

/-- A network that was made since w. -/
structure NetIn (w W : World) (F : Nat → Prop) (a : Nat) (nodes : Int) (q : Int → Int → List ByteArray) (cut : Int → Int → Bool) : Prop where
  is : NetIs F W a nodes q cut
  low : ∀ k, F k → w.heap.size ≤ k
  below : RowKit.Below w.heap.size w W
theorem NetIn.step {w W W' : World} {F : Nat → Prop} {a : Nat} {nodes : Int} {q q' : Int → Int → List ByteArray} {cut cut' : Int → Int → Bool} (h : NetIn w W F a nodes q cut) (h1 : NetIs (newF F W W') W' a nodes q' cut') (h2 : Keeps F W W') : NetIn w W' (newF F W W') a nodes q' cut' :=
  ⟨h1, fun k hk => hk.elim (h.low k) (fun hk => Nat.le_trans h.below.size hk.1), Keeps.below h.below h2 h.low h.below.size⟩
theorem NetIn.turn {w W W' : World} {F : Nat → Prop} {a : Nat} {nodes : Int} {q q' : Int → Int → List ByteArray} {cut cut' : Int → Int → Bool} (h : NetIn w W F a nodes q cut) (h1 : NetIs F W' a nodes q' cut') (h2 : Keeps F W W') : NetIn w W' F a nodes q' cut' :=
  ⟨h1, h.low, Keeps.below h.below h2 h.low h.below.size⟩
theorem NetIs.under {W W' : World} {F : Nat → Prop} {a : Nat} {nodes : Int} {q : Int → Int → List ByteArray} {cut : Int → Int → Bool} (h : NetIs F W a nodes q cut) (hb : RowKit.Below W.heap.size W W') : NetIs F W' a nodes q cut := by
  obtain ⟨qb, cb, fq, fc, h⟩ := h
  exact ⟨qb, cb, fq, fc, h.below hb⟩
theorem NetIn.under {w W W' : World} {F : Nat → Prop} {a : Nat} {nodes : Int} {q : Int → Int → List ByteArray} {cut : Int → Int → Bool} (h : NetIn w W F a nodes q cut) (hb : RowKit.Below W.heap.size W W') : NetIn w W' F a nodes q cut :=
  ⟨h.is.under hb, h.low, below_then h.below h.below.size hb⟩
theorem waits {F : Nat → Prop} {w : World} {a : Nat} {nodes : Int} {q : Int → Int → List ByteArray} {cut : Int → Int → Bool} (h : NetIs F w a nodes q cut) (x y : Int) :
    Calls Try.prog 15 #[.pointer (some ⟨a, 0, none⟩), .int .i64 x, .int .i64 y] w fun e w' => ∃ A c, e = .returned (.slice A (if knowsB nodes x y then q x y else []).length c) ∧ TC w' A (if knowsB nodes x y then q x y else []) ∧ Owns w.heap.size w' (.slice A (if knowsB nodes x y then q x y else []).length c) (if knowsB nodes x y then q x y else []) ∧ RowKit.Below w.heap.size w w' := by
  obtain ⟨qb, cb, fq, fc, h⟩ := h
  refine (waiting_calls h x y).mono ?_
  rintro e w' ⟨v, rfl, ho, hb⟩
  obtain ⟨A, c, rfl, hC⟩ := owns_TC ho
  exact ⟨A, c, rfl, hC, ho, hb⟩

theorem row_TC (l : List ByteArray) (g : Nat) (W : World) (hl : l.length ≤ 1000) (h : W.heap[g]? = some (.cells (l.map Value.string).toArray 9 (0, 0))) : TC W (some ⟨g, 0, none⟩) l := by
  have ho : Owns 0 W (.slice (some ⟨g, 0, none⟩) l.length l.length) l := by
    refine ⟨by simp [encs], .inr ⟨g, l.length, _, rfl, Nat.zero_le _, h, Nat.le_refl _, by simp [maxLen]; omega, by simp, by simp [encs, List.take_of_length_le]⟩⟩
  obtain ⟨A, c, hv, hc⟩ := owns_TC ho
  cases hv
  exact hc
def tx (n : UInt8) : ByteArray := { data := #[n] }
abbrev q0 : Int → Int → List ByteArray := fun _ _ => []
abbrev c0 : Int → Int → Bool := fun _ _ => false
def hq1 : Int → Int → List ByteArray := sendQ 3 q0 c0 0 1 (tx 97)
theorem he1_0 : sendE 3 q0 c0 0 1 (tx 97) = 0 := by first | rfl | decide | kernel_rfl
def hq2 : Int → Int → List ByteArray := sendQ 3 hq1 c0 0 1 (tx 98)
theorem he2_0 : sendE 3 hq1 c0 0 1 (tx 98) = 0 := by first | rfl | decide | kernel_rfl
def hq3 : Int → Int → List ByteArray := delQ 3 hq2 0 1 0 false true
theorem he3_0 : delT 3 hq2 0 1 0 false = tx 97 := by first | rfl | decide | kernel_rfl
theorem he3_1 : (delOk 3 hq2 0 1 0 && !false) = true := by first | rfl | decide | kernel_rfl
def hq4 : Int → Int → List ByteArray := delQ 3 hq3 0 1 1 false false
theorem he4_0 : delT 3 hq3 0 1 1 false = tx 98 := by first | rfl | decide | kernel_rfl
theorem he4_1 : (delOk 3 hq3 0 1 1 && !false) = true := by first | rfl | decide | kernel_rfl
def hq5 : Int → Int → List ByteArray := delQ 3 hq4 0 1 0 true false
theorem he5_0 : delT 3 hq4 0 1 0 true = { data := #[] } := by first | rfl | decide | kernel_rfl
theorem he5_1 : (delOk 3 hq4 0 1 0 && !true) = false := by first | rfl | decide | kernel_rfl
def hq6 : Int → Int → List ByteArray := delQ 3 hq5 0 1 0 false false
theorem he6_0 : delT 3 hq5 0 1 0 false = { data := #[] } := by first | rfl | decide | kernel_rfl
theorem he6_1 : (delOk 3 hq5 0 1 0 && !false) = false := by first | rfl | decide | kernel_rfl
def hq7 : Int → Int → List ByteArray := turnQ 3 c0 hq6 1 0 true
def hc7 : Int → Int → Bool := turnC 3 c0 1 0 true
theorem he7_0 : turnE 3 c0 1 0 true = 0 := by first | rfl | decide | kernel_rfl
def hq8 : Int → Int → List ByteArray := sendQ 3 hq7 hc7 0 1 (tx 99)
theorem he8_0 : sendE 3 hq7 hc7 0 1 (tx 99) = 18 := by first | rfl | decide | kernel_rfl
def hq9 : Int → Int → List ByteArray := sendQ 3 hq8 hc7 0 2 (tx 100)
theorem he9_0 : sendE 3 hq8 hc7 0 2 (tx 100) = 0 := by first | rfl | decide | kernel_rfl
theorem hwq : (if knowsB 3 0 2 then hq9 0 2 else []) = [tx 100] := by first | rfl | decide | kernel_rfl

set_option maxHeartbeats 4000000 in
theorem head_calls (w : World) : Calls Try.prog 10 #[] w fun e w' => e = .returned (.bool true) ∧ RowKit.Below w.heap.size w w' := by
  have t97 : (tx 97).toList = [97] := by first | kernel_rfl | (simp [tx, ByteArray.toList]; done) | decide
  have t98 : (tx 98).toList = [98] := by first | kernel_rfl | (simp [tx, ByteArray.toList]; done) | decide
  go_enter Try.func10, Try.ntmps10
  go_wp2_with (fail)
  refine (new_ok w 3 (by omega) (by omega)).mono ?_
  rintro e W0 ⟨a, rfl, h1, h2⟩
  have NI := Aside0.mk (NetIn.mk (w := w) h1 (fun k hk => hk.1) h2)
  clear h1 h2
  go_wp2_with (fail)
  refine (send_calls NI.out.is 0 1 (tx 97) (by decide)).mono ?_
  rintro e W1 ⟨rfl, h1, h2⟩
  rw [he1_0]
  replace NI := Aside0.mk (NI.out.step h1 h2)
  clear h1 h2
  rw [show sendQ 3 q0 c0 0 1 (tx 97) = hq1 from rfl] at NI
  go_wp2_with (fail)
  refine (send_calls NI.out.is 0 1 (tx 98) (by decide)).mono ?_
  rintro e W2 ⟨rfl, h1, h2⟩
  rw [he2_0]
  replace NI := Aside0.mk (NI.out.step h1 h2)
  clear h1 h2
  rw [show sendQ 3 hq1 c0 0 1 (tx 98) = hq2 from rfl] at NI
  go_wp2_with (fail)
  refine (deliver_calls NI.out.is 0 1 0 false true).mono ?_
  rintro e W3 ⟨rfl, h1, h2⟩
  rw [he3_0, he3_1]
  replace NI := Aside0.mk (NI.out.step h1 h2)
  clear h1 h2
  rw [show delQ 3 hq2 0 1 0 false true = hq3 from rfl] at NI
  go_wp2_with (fail)
  refine (deliver_calls NI.out.is 0 1 1 false false).mono ?_
  rintro e W4 ⟨rfl, h1, h2⟩
  rw [he4_0, he4_1]
  replace NI := Aside0.mk (NI.out.step h1 h2)
  clear h1 h2
  rw [show delQ 3 hq3 0 1 1 false false = hq4 from rfl] at NI
  go_wp2_with (fail)
  refine (deliver_calls NI.out.is 0 1 0 true false).mono ?_
  rintro e W5 ⟨rfl, h1, h2⟩
  rw [he5_0, he5_1]
  replace NI := Aside0.mk (NI.out.step h1 h2)
  clear h1 h2
  rw [show delQ 3 hq4 0 1 0 true false = hq5 from rfl] at NI
  go_wp2_with (fail)
  refine (deliver_calls NI.out.is 0 1 0 false false).mono ?_
  rintro e W6 ⟨rfl, h1, h2⟩
  rw [he6_0, he6_1]
  replace NI := Aside0.mk (NI.out.step h1 h2)
  clear h1 h2
  rw [show delQ 3 hq5 0 1 0 false false = hq6 from rfl] at NI
  go_wp2_with (fail)
  refine (cut_calls NI.out.is 1 0).mono ?_
  rintro e W7 ⟨rfl, h1, h2⟩
  rw [he7_0]
  replace NI := Aside0.mk (NI.out.turn h1 h2)
  clear h1 h2
  rw [show turnQ 3 c0 hq6 1 0 true = hq7 from rfl] at NI
  rw [show turnC 3 c0 1 0 true = hc7 from rfl] at NI
  go_wp2_with (fail)
  refine (send_calls NI.out.is 0 1 (tx 99) (by decide)).mono ?_
  rintro e W8 ⟨rfl, h1, h2⟩
  rw [he8_0]
  replace NI := Aside0.mk (NI.out.step h1 h2)
  clear h1 h2
  rw [show sendQ 3 hq7 hc7 0 1 (tx 99) = hq8 from rfl] at NI
  go_wp2_with (fail)
  refine (send_calls NI.out.is 0 2 (tx 100) (by decide)).mono ?_
  rintro e W9 ⟨rfl, h1, h2⟩
  rw [he9_0]
  replace NI := Aside0.mk (NI.out.step h1 h2)
  clear h1 h2
  rw [show sendQ 3 hq8 hc7 0 2 (tx 100) = hq9 from rfl] at NI
  go_wp2_with (fail)
  refine (waits NI.out.is 0 2).mono ?_
  rintro e W10 ⟨A, c, rfl, hC, ho, hb⟩
  rw [hwq] at hC ⊢
  have NB := Aside0.mk (below_then NI.out.below NI.out.below.size hb)
  have HC := Aside0.mk hC
  clear hC ho hb
  go_wp2_with (fail)
  have hnew : (W10.alloc (.cells #[.string { data := #[100] }] 9)).heap[W10.heap.size]? = some (.cells ([tx 100].map Value.string).toArray 9 (0, 0)) := alloc_new _ _
  refine (texts_calls A c [tx 100] (some ⟨W10.heap.size, 0, none⟩) 1 [tx 100] _ (HC.out.below (below_alloc (Below.refl _ _) _)) (row_TC _ _ _ (by simp) hnew) (by simp)).mono ?_
  rintro e W11 ⟨rfl, hb⟩
  have NB2 := Aside0.mk (below_then (below_alloc NB.out _) (by rw [alloc_size]; exact Nat.le_succ_of_le NB.out.size) hb)
  clear hb
  go_wp2_with (fail)
  go_ret
  exact ⟨rfl, NB2.out⟩
end Go.Proofs.Ytofacphhfgkemaa.G
