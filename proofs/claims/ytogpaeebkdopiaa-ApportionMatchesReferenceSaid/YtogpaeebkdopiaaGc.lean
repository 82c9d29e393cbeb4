import Derived.Test.YtogpaeebkdopiaaGb
namespace Go.Proofs.Ytogpaeebkdopiaa.G
open Go.RowKit Go.Proofs.YtogpaeebkdopiaaW.PrintWords Go.Proofs.YtogpaeebkdopiaaW.PrintLast Go.Proofs.YtogpaeebkdopiaaW.PrintMore
set_option linter.unusedVariables false
set_option linter.unusedSimpArgs false

theorem make_event {P : Program} {ops : Array Oper} {rest : List Oper} {o : Oper} {a : Act} {Q : Exit → Act → World → Prop} {W : World} (hgd : o.guard = none) {N : Tmp} (_hd : o.dst = some N) (t e : TypeId) (x y : Operand) (ho : o.op = .makeSlice t x y) (m : Nat) (hx : a.eval x = .int .i64 m) (hy : a.eval y = .int .i64 m)
    (ht : P.underlying t = some (.slice e)) (z : Value) (size bytes : Nat) (hinfo : (P.info? e).map (fun i => (i.zero, i.size, i.bytes)) = some (some z, size, bytes)) (hb0 : 0 < bytes) (hl : m * bytes ≤ 281474976710656) (cells : List Value) (hcells : madeCells z.cells (m * size) = cells.toArray)
    (h : ∀ g w1, Aside0 (w1.heap[g]? = some (.cells cells.toArray e (0, 0))) → Aside0 (Below W.heap.size W w1) → Aside0 (W.heap.size ≤ g) → wpList P ops Q rest (a.put o.dst (.slice (some ⟨g, 0, none⟩) m m)) w1) : wpList P ops Q (o :: rest) a W := by
  obtain ⟨i0, hi, hzz⟩ := Option.map_eq_some_iff.1 hinfo
  simp only [Prod.mk.injEq] at hzz
  obtain ⟨hz0, hz1, hz2⟩ := hzz
  have hm : m ≤ 281474976710656 := Nat.le_trans (Nat.le_mul_of_pos_right _ hb0) hl
  have hr := run_make (P := P) W t e i0 z ht hi hz0 .i64 .i64 (m : Int) (m : Int) (by omega) (by omega)
    (by
      have h3 : ((i0.bytes * m : Nat) : Int) ≤ 281474976710656 := by rw [hz2, Nat.mul_comm]; omega
      rwa [Int.natCast_mul] at h3) (by omega)
  simp only [Int.toNat_natCast] at hr
  rw [hz1, hcells] at hr
  refine Kd.event_run hgd (w1 := W.alloc (.cells cells.toArray e)) (v := .slice (some ⟨W.heap.size, 0, none⟩) m m) ?_ (h W.heap.size _ ⟨heap_alloc_new W _⟩ ⟨below_alloc (Below.refl _ _) _⟩ ⟨Nat.le_refl _⟩)
  simp [execOp, ho, hx, hy, hr]

theorem madeCells_toList (z : Array Value) (n : Nat) : (madeCells z n).toList = (List.range n).map (z[· % z.size]!) := by simp [madeCells]
theorem made_parts : ∀ m : Nat, madeCells (Value.cells (.agg #[.int .i64 0, .int .i64 0])) (m * 2) = (flatL (List.replicate m (0, 0))).toArray := by
  intro m
  apply Array.ext'
  rw [madeCells_toList]
  show _ = flatL (List.replicate m (0, 0))
  induction m with
  | zero => rfl
  | succ m ih =>
    rw [show (m + 1) * 2 = m * 2 + 1 + 1 from by omega, List.range_succ, List.range_succ, List.map_append, List.map_append, ih, List.replicate_succ']
    have hf : ∀ l : List (Int × Int), ∀ p, flatL (l ++ [p]) = flatL l ++ [.int .i64 p.1, .int .i64 p.2] := by
      intro l p
      induction l with
      | nil => rfl
      | cons q l ih => simp only [List.cons_append, flatL, ih]
    rw [hf]
    have e1 : (m * 2) % (Value.cells (.agg #[.int .i64 0, .int .i64 0])).size = 0 := by show (m * 2) % 2 = 0; omega
    have e2 : (m * 2 + 1) % (Value.cells (.agg #[.int .i64 0, .int .i64 0])).size = 1 := by show (m * 2 + 1) % 2 = 1; omega
    simp only [List.map_cons, List.map_nil, e1, e2, List.append_assoc]
    rfl
theorem made_ints : ∀ m : Nat, madeCells (Value.cells (.int .i64 0)) (m * 1) = (nums .i64 (List.replicate m 0)).toArray := by
  intro m
  apply Array.ext'
  rw [madeCells_toList, Nat.mul_one]
  show _ = nums .i64 (List.replicate m 0)
  induction m with
  | zero => rfl
  | succ m ih =>
    rw [List.range_succ, List.map_append, ih, List.replicate_succ', nums_append]
    have e1 : m % (Value.cells (.int .i64 0)).size = 0 := by show m % 1 = 0; omega
    simp only [List.map_cons, List.map_nil, e1]
    rfl

theorem flatL_set1 (l : List (Int × Int)) (x : Int) : ∀ k, k < l.length → (flatL l).set (k * 2) (.int .i64 x) = flatL (l.set k (x, (pt l k).2)) := by
  induction l with
  | nil => intro k h; simp at h
  | cons p l ih =>
    intro k h
    cases k with
    | zero => rfl
    | succ k =>
      rw [show (k + 1) * 2 = k * 2 + 1 + 1 from by omega]
      simp only [flatL, List.set_cons_succ]
      rw [ih k (by simpa using h)]
      simp [pt]
theorem flatL_set2 (l : List (Int × Int)) (x : Int) : ∀ k, k < l.length → (flatL l).set (k * 2 + 1) (.int .i64 x) = flatL (l.set k ((pt l k).1, x)) := by
  induction l with
  | nil => intro k h; simp at h
  | cons p l ih =>
    intro k h
    cases k with
    | zero => rfl
    | succ k =>
      rw [show (k + 1) * 2 + 1 = k * 2 + 1 + 1 + 1 from by omega]
      simp only [flatL, List.set_cons_succ]
      rw [ih k (by simpa using h)]
      simp [pt]
theorem Holds.set1 {w : World} {g : Nat} {l : List (Int × Int)} (h : Holds w g l) (k : Nat) (hk : k < l.length) (x : Int) : Holds (w.setCell ⟨g, k * 2, none⟩ (.int .i64 x)) g (l.set k (x, (pt l k).2)) := by
  have := blk_set h (k * 2) (.int .i64 x)
  unfold Holds
  rw [this, ← flatL_set1 l x k hk]
  simp
theorem Holds.set2 {w : World} {g : Nat} {l : List (Int × Int)} (h : Holds w g l) (k : Nat) (hk : k < l.length) (x : Int) : Holds (w.setCell ⟨g, k * 2 + 1, none⟩ (.int .i64 x)) g (l.set k ((pt l k).1, x)) := by
  have := blk_set h (k * 2 + 1) (.int .i64 x)
  unfold Holds
  rw [this, ← flatL_set2 l x k hk]
  simp
/-- The block h of w holds the numbers xs. -/
def HoldsI (w : World) (h : Nat) (xs : List Int) : Prop := w.heap[h]? = some (.cells (nums .i64 xs).toArray 3 (0, 0))
theorem HoldsI.set {w : World} {g : Nat} {l : List Int} (h : HoldsI w g l) (k : Nat) (x : Int) : HoldsI (w.setCell ⟨g, k, none⟩ (.int .i64 x)) g (l.set k x) := by
  have := blk_set h k (.int .i64 x)
  unfold HoldsI
  rw [this]
  simp [nums]
theorem HoldsI.below {w w1 : World} {g : Nat} {l : List Int} (h : HoldsI w g l) (hb : Below w.heap.size w w1) : HoldsI w1 g l := (hb.block g (blk_lt h)).trans h
theorem HoldsI.cell {w : World} {g : Nat} {l : List Int} (h : HoldsI w g l) (k : Nat) (hk : k < l.length) : w.cell? ⟨g, k, none⟩ = some (.int .i64 (l.getD k 0)) := by
  rw [blk_cell h]
  simp [nums, List.getElem?_eq_getElem hk, List.getD_eq_getElem?_getD]
theorem HoldsI.row {w : World} {base g : Nat} {l : List Int} (h : HoldsI w g l) (hb : base ≤ g) (hm : l.length ≤ 1000) : Kd.R (Kd.int .i64) 3 w base (fun _ => True) (.slice (some ⟨g, 0, none⟩) l.length l.length) l :=
  Kd.R_of_own (enc := Value.int .i64) ⟨by simp [encs], .inr ⟨g, l.length, _, rfl, hb, h, Nat.le_refl _, by unfold maxLen; omega, by simp [nums], by simp only [nums, encs]; exact List.take_of_length_le (by simp)⟩⟩ (fun _ _ => trivial)

/-! ### what Share's loops come to -/
def partsTo (ws : List Int) : Nat → List (Int × Int)
  | 0 => List.replicate ws.length (0, 0)
  | k + 1 => (partsTo ws k).set k (rd ws k, (pt (partsTo ws k) k).2)
def stepL (l : List (Int × Int)) : List (Int × Int) := l.set (bestTo l l.length) ((pt l (bestTo l l.length)).1, wrap64 ((pt l (bestTo l l.length)).2 + 1))
def iterL (l : List (Int × Int)) : Nat → List (Int × Int)
  | 0 => l
  | t + 1 => stepL (iterL l t)
def outTo (l : List (Int × Int)) : Nat → List Int
  | 0 => List.replicate l.length 0
  | k + 1 => (outTo l k).set k (pt l k).2
theorem partsTo_length (ws : List Int) : ∀ k, (partsTo ws k).length = ws.length
  | 0 => by simp [partsTo]
  | k + 1 => by simp [partsTo, partsTo_length ws k]
theorem stepL_length (l : List (Int × Int)) : (stepL l).length = l.length := by simp [stepL]
theorem iterL_length (l : List (Int × Int)) : ∀ t, (iterL l t).length = l.length
  | 0 => rfl
  | t + 1 => by rw [iterL, stepL_length, iterL_length l t]
theorem outTo_length (l : List (Int × Int)) : ∀ k, (outTo l k).length = l.length
  | 0 => by simp [outTo]
  | k + 1 => by simp [outTo, outTo_length l k]
end Go.Proofs.Ytogpaeebkdopiaa.G
