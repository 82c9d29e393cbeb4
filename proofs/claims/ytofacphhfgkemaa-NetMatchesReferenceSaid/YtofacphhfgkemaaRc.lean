/- Rows cut and joined anew; which message the reference's Deliver takes. -/
import Derived.Test.YtofacphhfgkemaaRb
import Derived.Deep.RegionLaw
namespace Go.Proofs.Ytofacphhfgkemaa.G
open Go.Sort Go.RowKit Go.Proofs.YtofacphhfgkemaaW.PrintWords Go.Proofs.YtofacphhfgkemaaW.PrintLast Go.Proofs.YtofacphhfgkemaaW.PrintMore
set_option linter.unusedVariables false
set_option linter.unusedSimpArgs false

theorem gate_step {ops : Array Oper} {o : Oper} {a : Act} {W : World} {K : Act → World → Prop} {Q : Exit → Act → World → Prop} {E : Prop} {N : Tmp} (hN : o.dst = some N) (h : if Region.wanted o (yielded ops a.tmps) = true then Oper.wp Try.prog o a W K Q else E) : if Region.wanted o (yielded ops a.tmps) = true then Oper.wp Try.prog o a W K Q else E := h
theorem FRow.made {α : Type} (d : Kd α) (e : Nat) (W : World) : FRow d e W.heap.size (W.alloc (.cells #[] e)) (.slice (some ⟨W.heap.size, 0, none⟩) 0 0) [] :=
  ⟨fun k hk => hk, [], ⟨by simp, .inr ⟨W.heap.size, 0, #[], rfl, Nat.le_refl _, alloc_new W _, Nat.le_refl _, by decide, by simp, by simp⟩⟩, Reps.none _ _⟩
theorem FRow.drew {α : Type} {d : Kd α} {e base : Nat} {w : World} {v : Value} {xs : List α} (h : FRow d e base w v xs) : FRow d e base w.drew v xs := Kd.R_drew h
theorem cut_to {P : Program} (t e : TypeId) {i : TypeInfo} (ht : P.underlying t = some (.slice e)) (hi : P.info? e = some i) (A : Option Addr) (n c m : Nat) (hm : m ≤ c) (W : World) :
    (Instr.slice t (.slice A n c) none (some (.int .i64 (m : Int))) none).run P W = .ok (.slice A m c) W := by
  have hel : P.elem t = e := by simp [Program.elem, ht]
  have hu : P.underlying t = some (.slice (P.elem t)) := by rw [hel]; exact ht
  have ha : (A.map fun x => x.add 0) = A := by cases A <;> simp [Addr.add]
  rw [run_slice_h W t A n c hu .i64 (m : Int) (by omega) (by omega), hel]
  simp [sizeOf, typeInfo, hi, sliced, Result.andThen, ha]
theorem cut_on {P : Program} (t e : TypeId) {i : TypeInfo} (ht : P.underlying t = some (.slice e)) (hi : P.info? e = some i) (sz : Nat) (hsz : i.size = sz) (A : Option Addr) (n c m : Nat) (hm : m ≤ n) (hc : n ≤ c) (W : World) :
    (Instr.slice t (.slice A n c) (some (.int .i64 (m : Int))) none none).run P W = .ok (.slice (if c = m then A else A.map (·.add (m * sz))) (n - m) (c - m)) W := by
  have hel : P.elem t = e := by simp [Program.elem, ht]
  have hu : P.underlying t = some (.slice (P.elem t)) := by rw [hel]; exact ht
  rw [run_slice_l W t A n c hu .i64 (m : Int) (Int.natCast_nonneg _) (by omega), hel]
  simp [sizeOf, typeInfo, hi, hsz, sliced, Result.andThen]
/-- A row without its m-th element: the two cuts. -/
theorem cuts_of {α : Type} (d : Kd α) (t e : Nat) (z : Value) (bytes : Nat) (ht : Try.prog.underlying t = some (.slice e)) (hinfo : (Try.prog.info? e).map (fun i => (i.zero, i.size, i.bytes)) = some (some z, d.sz, bytes)) (A : Option Addr) (c : Nat) (l : List α) (m : Nat) (hm : m < l.length) (hc : l.length ≤ c) :
    ∃ nt nd lt ld A', lt.length = nt ∧ ld.length = nd ∧ lt ++ ld = l.eraseIdx m ∧ (∀ W : World, (Instr.slice t (.slice A l.length c) none (some (.int .i64 (m : Int))) none).run Try.prog W = .ok (.slice A nt c) W) ∧
      (∀ W : World, (Instr.slice t (.slice A l.length c) (some (.int .i64 ((m : Int) + 1))) none none).run Try.prog W = .ok (.slice A' nd (c - (m + 1))) W) ∧
      (∀ w, d.C w A l.length l → d.C w A nt lt ∧ d.C w A' nd ld) := by
  obtain ⟨i0, hi, hzz⟩ := Option.map_eq_some_iff.1 hinfo
  simp only [Prod.mk.injEq] at hzz
  obtain ⟨hz0, hz1, hz2⟩ := hzz
  refine ⟨(l.take m).length, (l.drop (m + 1)).length, _, _, if c = m + 1 then A else A.map (·.add ((m + 1) * d.sz)), rfl, rfl, by rw [← List.eraseIdx_eq_take_drop_succ], fun W => ?_, fun W => ?_, fun w h => ⟨Kd.C_take h (by omega), Kd.C_drop h (by omega) hc⟩⟩
  · rw [show (l.take m).length = m by rw [List.length_take]; omega]
    exact cut_to t e ht hi A l.length c m (by omega) W
  · rw [List.length_drop]
    exact cut_on t e ht hi d.sz hz1 A l.length c (m + 1) (by omega) hc W
/-- A row is appended that is read, whole. -/
theorem append_rows_step {α : Type} {d : Kd α} (hfl : Flat d) (hKM : ∀ {w : World} {x : α} {cs : List Value}, d.K w x cs → ∀ W base ok, d.M W base ok x cs) {ops : Array Oper} {o : Oper} {a : Act} {K : Act → World → Prop} {Q : Exit → Act → World → Prop} {E : Prop} (hw : Region.wanted o (yielded ops a.tmps) = true) (s x : Operand) (t e : Nat) (z : Value) (bytes : Nat)
    (ho : o.op = .call { callee := .builtin .append, args := #[s, x], argTypes := #[t, t] })
    (ht : Try.prog.underlying t = some (.slice e)) (hinfo : (Try.prog.info? e).map (fun i => (i.zero, i.size, i.bytes)) = some (some z, d.sz, bytes)) (hz : z.cells.size = d.sz) (hs0 : 0 < d.sz) (hb0 : 0 < bytes) (hb1 : bytes ≤ 1000)
    {base n m c : Nat} {W : World} {v : Value} {xs ys r : List α} {A : Option Addr} (hs : a.eval s = v) (hx : a.eval x = .slice A m c) (HO : FRow d e base W v xs) (HC : d.C W A m ys) (hbase : base ≤ W.heap.size) (hl : xs.length + m ≤ 2000) (hr : xs ++ ys = r) (hn : r.length = n)
    (h : ∀ A1 c1 w1, FRow d e base w1 (.slice A1 n c1) r → W.grownBy w1 v.ownBlock → K (a.put o.dst (.slice A1 n c1)) w1) :
    if Region.wanted o (yielded ops a.tmps) = true then Oper.wp Try.prog o a W K Q else E := by
  have h0 := Kd.R_append_rows_step (Q := Q) (Kc := K) d (Rr := d.K W) (w0 := W) (W := W) base hw s x t e z bytes ho ht hinfo hz hs0 hb0 v xs ys A m c (fun _ => True) (fun _ => False) hs hx (Kd.R_flat hfl HO (fun _ _ _ => trivial)) HC (fun x cs hk => hKM hk _ _ _) (fun _ h => h.elim) (fun _ _ => trivial) (Below.refl _ _) hbase
    (by have : (xs.length + m) * bytes ≤ 2000 * 1000 := Nat.mul_le_mul hl hb1; omega) (fun v1 w1 h1 _ hg hat => by
      rw [hr] at h1
      obtain ⟨A1, c1, hv, hc, hC⟩ := Kd.R_reads h1
      rw [hn] at hv
      subst hv
      exact h A1 c1 w1 (Kd.R_flat hfl h1 (fun k hk _ => hk)) hg)
  rw [if_pos hw] at h0 ⊢
  exact h0
theorem k69_KM {w : World} {x : S69} {cs : List Value} (h : k69.K w x cs) (W : World) (base : Nat) (ok : Nat → Prop) : k69.M W base ok x cs := by
  obtain rfl := k69_open h
  exact k69_mkM _ _ _ _
theorem k58_KM {w : World} {x : Int × Int} {cs : List Value} (h : k58.K w x cs) (W : World) (base : Nat) (ok : Nat → Prop) : k58.M W base ok x cs := by
  obtain rfl := k58_open h
  exact k58_mkM _ _ _ _

/-- Which message is delivered: the n-th of those from x to y. -/
def delIx (x y : Int) : List S69 → Int → Option Nat
  | [], _ => none
  | m :: t, n => if atB x y m then (if n = 0 then some 0 else (delIx x y t (n - 1)).map (· + 1)) else (delIx x y t n).map (· + 1)
theorem drop_rd69 (L : List S69) (i : Nat) (hi : i < L.length) : L.drop i = rd69 L (i : Int) :: L.drop (i + 1) := by
  rw [List.drop_eq_getElem_cons hi]
  simp [rd69, List.getD_eq_getElem?_getD, List.getElem?_eq_getElem hi]
theorem map_map1 (o : Option Nat) (i : Nat) : (o.map (· + 1)).map (· + i) = o.map (· + (i + 1)) := by
  cases o
  · rfl
  · simp; omega
section
variable {L : List S69} {x y n : Int} {i c : Nat} {m : S69}
theorem del_start : delIx x y L n = (delIx x y (L.drop 0) (n - ((0 : Nat) : Int))).map (· + 0) := by simp
theorem del_miss (h : delIx x y L n = (delIx x y (L.drop i) (n - (c : Int))).map (· + i)) (hi : i < L.length) (hm : rd69 L (i : Int) = m) (ha : atB x y m = false) : delIx x y L n = (delIx x y (L.drop (i + 1)) (n - (c : Int))).map (· + (i + 1)) := by
  rw [drop_rd69 L i hi, hm] at h
  simp only [delIx, ha] at h
  rw [if_neg (by simp), map_map1] at h
  exact h
theorem del_pass (h : delIx x y L n = (delIx x y (L.drop i) (n - (c : Int))).map (· + i)) (hi : i < L.length) (hm : rd69 L (i : Int) = m) (ha : atB x y m = true) (hn : (c : Int) ≠ n) : delIx x y L n = (delIx x y (L.drop (i + 1)) (n - ((c + 1 : Nat) : Int))).map (· + (i + 1)) := by
  rw [drop_rd69 L i hi, hm] at h
  simp only [delIx, ha, if_true] at h
  rw [if_neg (by omega), map_map1] at h
  rw [h]
  congr 2
  omega
theorem del_hit (h : delIx x y L n = (delIx x y (L.drop i) (n - (c : Int))).map (· + i)) (hi : i < L.length) (hm : rd69 L (i : Int) = m) (ha : atB x y m = true) (hn : (c : Int) = n) : delIx x y L n = some i := by
  rw [drop_rd69 L i hi, hm] at h
  simp only [delIx, ha, if_true] at h
  rw [if_pos (by omega)] at h
  simpa using h
theorem del_none (h : delIx x y L n = (delIx x y (L.drop i) (n - (c : Int))).map (· + i)) (hi : L.length ≤ i) : delIx x y L n = none := by
  rw [List.drop_eq_nil_of_le hi] at h
  exact h
end
def rdel (N : Int) (L : List S69) (x y n : Int) : Option Nat := if knowsB N x y then delIx x y L n else none
def rdelT (N : Int) (L : List S69) (x y n : Int) (lost : Bool) : ByteArray := match rdel N L x y n with | some i => if lost then noT else (rd69 L (i : Int)).f2 | none => noT
def rdelK (N : Int) (L : List S69) (x y n : Int) (lost : Bool) : Bool := (rdel N L x y n).isSome && !lost
def rdelL (N : Int) (L : List S69) (x y n : Int) (lost again : Bool) : List S69 := match rdel N L x y n with | some i => if lost || !again then L.eraseIdx i else L | none => L
end Go.Proofs.Ytofacphhfgkemaa.G
