/- What the network knows of its nodes. -/
import Derived.Test.YtofacphhfgkemaaGa
namespace Go.Proofs.Ytofacphhfgkemaa.G
open Go.RowKit Go.Proofs.YtofacphhfgkemaaW.PrintWords Go.Proofs.YtofacphhfgkemaaW.PrintLast Go.Proofs.YtofacphhfgkemaaW.PrintMore
set_option linter.unusedVariables false
set_option linter.unusedSimpArgs false

def Pred (g : Nat) (lb : Array Value) (p : Int → Bool) (w : World) : Prop :=
  ∀ (W : World) (x : Int), Below w.heap.size w W → Calls Try.prog g (#[.int .i64 x] ++ lb) W fun e w' => e = .returned (.bool (p x)) ∧ W = w'
def idxOf (p : Int → Bool) (l : List Int) : Int := match l.findIdx? p with | some i => i | none => -1

theorem idx_none {p : Int → Bool} {l : List Int} (h : ∀ j, j < l.length → p (l.getD j 0) = false) : idxOf p l = -1 := by
  have : l.findIdx? p = none := by
    rw [List.findIdx?_eq_none_iff]
    intro x hx
    obtain ⟨j, hj, rfl⟩ := List.getElem_of_mem hx
    have := h j hj
    rwa [List.getD_eq_getElem?_getD, List.getElem?_eq_getElem hj, Option.getD_some] at this
  simp [idxOf, this]
theorem idx_some {p : Int → Bool} {l : List Int} {k : Nat} (hk : k < l.length) (h : ∀ j, j < k → p (l.getD j 0) = false) (hp : p (l.getD k 0) = true) : idxOf p l = k := by
  have : l.findIdx? p = some k := by
    rw [List.findIdx?_eq_some_iff_getElem]
    refine ⟨hk, by rwa [List.getD_eq_getElem?_getD, List.getElem?_eq_getElem hk, Option.getD_some] at hp, fun j hj => ?_⟩
    have := h j hj
    rw [List.getD_eq_getElem?_getD, List.getElem?_eq_getElem (by omega), Option.getD_some] at this
    simp [this]
  simp [idxOf, this]
theorem idx_any (p : Int → Bool) (l : List Int) : decide (0 ≤ idxOf p l) = l.any p := by
  unfold idxOf
  cases h : l.findIdx? p with
  | none =>
    rw [List.findIdx?_eq_none_iff] at h
    simp
    intro x hx
    have := h x hx
    simpa using this
  | some i =>
    rw [List.findIdx?_eq_some_iff_getElem] at h
    obtain ⟨hi, h1, _⟩ := h
    simp
    exact ⟨_, List.getElem_mem hi, h1⟩

set_option maxHeartbeats 400000 in
theorem index_any (A : Option Addr) (c : Nat) (l : List Int) (g : Nat) (lb : Array Value) (eg : ∀ args w, (callFunc g args).run Try.prog w = .ok (.enter g args) w) (p : Int → Bool) (w : World)
    (hr : Kd.C (Kd.int .i64) w A l.length l) (hp : Pred g lb p w) :
    Calls Try.prog 37 #[.slice A l.length c, .func (.func g) #[] lb] w fun e w' => e = .returned (.int .i64 (idxOf p l)) ∧ w = w' := by
  have HP := Aside0.mk hp
  have HR := Aside0.mk hr
  have hm : l.length ≤ 9223372036854775807 := hr.2.1
  clear hp hr
  go_enter Try.func37, Try.ntmps37
  go_wp2
  go_loop [5, 8] (fun _ v => ∃ k : Nat, k ≤ l.length ∧ v = .int .i64 k ∧ Aside0 (∀ j, j < k → p (l.getD j 0) = false)) (fun _ v => l.length - (intOf v).toNat)
  case atStart => exact ⟨0, Nat.zero_le _, rfl, ⟨fun j hj => absurd hj (by omega)⟩⟩
  case round =>
    obtain ⟨k, hk, rfl, HA⟩ := hrel
    by_cases hlt : k < l.length
    · obtain ⟨ad, ead, hx⟩ := Kd.at_int HR.out k (by omega) (by omega)
      cases ead
      rw [Int.toNat_natCast] at hx
      cases hpk : p (rd l k) with
      | true =>
        go_wp2_with (go_at_fn g; refine (HP.out _ _ (Below.refl _ _)).mono ?_; rintro e w' ⟨rfl, rfl⟩)
        go_ret
        exact ⟨by rw [idx_some hlt HA.out (by simpa [rd] using hpk)]; rfl, rfl⟩
      | false =>
        go_wp2_with (go_at_fn g; refine (HP.out _ _ (Below.refl _ _)).mono ?_; rintro e w' ⟨rfl, rfl⟩)
        go_round
        case rel => exact ⟨k + 1, by omega, by go_num, ⟨fun j hj => by
          rcases Nat.lt_or_ge j k with h | h
          · exact HA.out j h
          · obtain rfl : j = k := by omega
            simpa [rd] using hpk⟩⟩
        case measure => simp [intOf]; omega
    · go_wp2
      go_ret
      exact ⟨by rw [idx_none (fun j hj => HA.out j (by omega))]; rfl, rfl⟩

theorem contains_any (A : Option Addr) (c : Nat) (l : List Int) (g : Nat) (lb : Array Value) (eg : ∀ args w, (callFunc g args).run Try.prog w = .ok (.enter g args) w) (p : Int → Bool) (w : World)
    (hr : Kd.C (Kd.int .i64) w A l.length l) (hp : Pred g lb p w) :
    Calls Try.prog 34 #[.slice A l.length c, .func (.func g) #[] lb] w fun e w' => e = .returned (.bool (l.any p)) ∧ w = w' := by
  have hi := Aside0.mk (index_any A c l g lb eg p w hr hp)
  have ha := Aside0.mk (idx_any p l)
  clear hr hp eg
  go_enter Try.func34, Try.ntmps34
  go_wp2_with (go_at_call 37; refine hi.out.mono ?_; rintro e w' ⟨rfl, rfl⟩)
  go_ret
  exact ⟨by rw [← ha.out]; rfl, rfl⟩

def out (nodes : Int) (n : Int) : Bool := decide (n < 0) || decide (n ≥ nodes)
theorem knows_fn (nodes : Int) (a B : Nat) (w : World) (hB : B < w.heap.size) (ha : a < w.heap.size) (h1 : w.cell? ⟨B, 0, none⟩ = some (.pointer (some ⟨a, 0, none⟩))) (h2 : w.cell? ⟨a, 0, none⟩ = some (.int .i64 nodes)) :
    Pred 35 #[.pointer (some ⟨B, 0, none⟩)] (out nodes) w := fun W x hb => by
  have h1' : W.cell? ⟨B, 0, none⟩ = some (.pointer (some ⟨a, 0, none⟩)) := (hb.cell (p := ⟨B, 0, none⟩) hB).trans h1
  have h2' : W.cell? ⟨a, 0, none⟩ = some (.int .i64 nodes) := (hb.cell (p := ⟨a, 0, none⟩) ha).trans h2
  clear h1 h2
  have e : out nodes x = (decide (x < 0) || decide (x ≥ nodes)) := rfl
  rw [e]
  by_cases h : x < 0
  all_goals
    go_enter Try.func35, Try.ntmps35
    go_wp2
    go_ret
    exact ⟨by first | (simp [h]; done) | (simp [h]; omega), rfl⟩
theorem enters35 : ∀ args w, (callFunc 35 args).run Try.prog w = .ok (.enter 35 args) w := enters_of Try.func35 (by kernel_rfl) rfl

theorem part3 (a b : Int) (W : World) : (part 3 #[.int .i64 a, .int .i64 b] 0).run Try.prog W = .ok (.int .i64 a) W ∧ (part 3 #[.int .i64 a, .int .i64 b] 1).run Try.prog W = .ok (.int .i64 b) W := by
  constructor <;> kernel_rfl
theorem eq_kv (a b c d : Int) (W : World) : (Op.equalIn 10000 59 (.agg #[.int .i64 a, .int .i64 b]) (.agg #[.int .i64 c, .int .i64 d])).run Try.prog W = .ok (a == c && b == d) W := by
  have h1 := part3 a b W
  have h2 := part3 c d W
  obtain ⟨i, hi⟩ : ∃ i, Try.prog.info? 3 = some i := ⟨_, rfl⟩
  have hs : Try.prog.cellsOf 3 = 1 := cells3
  rw [show (10000 : Nat) = 9999 + 1 from rfl, run_equalIn_array W 9999 (P := Try.prog) (n := 2) (e := 3) _ _ Try.underlying59 hi, hs]
  have hr : List.range 2 = [0, 1] := rfl
  have e1 : ∀ x y : Int, (Op.equalIn 9999 3 (.int .i64 x) (.int .i64 y)).run Try.prog W = .ok (x == y) W := fun x y => run_equalIn_int W 9998 3 .i64 .i64 x y Try.underlying3
  rw [hr]
  simp only [Op.eqItems, Sem.run_bind, Nat.zero_mul, Nat.one_mul, h1.1, h1.2, h2.1, h2.2, Result.andThen_ok, e1]
  cases h : a == c <;> cases h' : b == d <;> simp [h1.2, h2.2, e1, h']

def knowsB (nodes x y : Int) : Bool := decide (x ≠ y ∧ 0 ≤ x ∧ x < nodes ∧ 0 ≤ y ∧ y < nodes)
theorem knows_nil (x y : Int) (w : World) : Calls Try.prog 23 #[.pointer none, kv x y] w fun e w' => e = .returned (.bool false) ∧ Below w.heap.size w w' := by
  unfold kv
  go_enter Try.func23, Try.ntmps23
  go_wp2
  go_ret
  exact ⟨rfl, below_alloc (below_alloc (Below.refl _ _) _) _⟩

theorem alloc_new (w : World) (o : Obj) : (w.alloc o).heap[w.heap.size]? = some o := (MapKept.heap_alloc w o).1
theorem alloc_size (w : World) (o : Obj) : (w.alloc o).heap.size = w.heap.size + 1 := by show (w.heap.push o).size = _; simp
theorem alloc_old (w : World) (o : Obj) {k : Nat} (h : k < w.heap.size) : (w.alloc o).heap[k]? = w.heap[k]? := Below.heap_alloc w o k h
theorem row_C (l : List Int) (g t : Nat) (W : World) (hl : l.length ≤ 1000) (h : W.heap[g]? = some (.cells (l.map (Value.int .i64)).toArray t (0, 0))) : Kd.C (Kd.int .i64) W (some ⟨g, 0, none⟩) l.length l := by
  have ho : W.ownsRow 0 t 1 (.slice (some ⟨g, 0, none⟩) l.length l.length) l.length (encs (Value.int .i64) l) := by
    refine ⟨by simp [encs], .inr ⟨g, l.length, _, rfl, Nat.zero_le _, h, Nat.le_refl _, by simp [maxLen]; omega, by simp, by simp [encs, List.take_of_length_le]⟩⟩
  have hr := Kd.R_of_own (enc := Value.int .i64) (h1 := fun _ => rfl) (ok := fun _ => True) ho (fun _ _ => trivial)
  obtain ⟨A, c, hv, _, hc⟩ := Kd.R_reads hr
  cases hv
  exact hc

set_option maxHeartbeats 1000000 in
theorem knows_any (nodes x y : Int) (a : Nat) (w : World) (ha : w.cell? ⟨a, 0, none⟩ = some (.int .i64 nodes)) :
    Calls Try.prog 23 #[.pointer (some ⟨a, 0, none⟩), kv x y] w fun e w' => e = .returned (.bool (knowsB nodes x y)) ∧ Below w.heap.size w w' := by
  have hal : a < w.heap.size := World.block_lt_of_cell? w _ ha
  have hmf : ∀ (fn : Fn) (first cap : Array Value) (w : World), (Instr.makeFunc fn first cap).run Try.prog w = .ok (.func fn first cap) w := fun _ _ _ _ => rfl
  have heq : ∀ (a b c d : Int) (W : World), (Op.equalIn 10000 59 (.agg #[.int .i64 a, .int .i64 b]) (.agg #[.int .i64 c, .int .i64 d])).run Try.prog W = .ok (a == c && b == d) W := eq_kv
  unfold kv
  by_cases hxy : x = y
  · subst hxy
    have e : knowsB nodes x x = false := by unfold knowsB; simp
    rw [e]
    have hxx : (x == x) = true := by simp
    go_enter Try.func23, Try.ntmps23
    go_wp2
    go_ret
    exact ⟨rfl, below_alloc (below_alloc (Below.refl _ _) _) _⟩
  · have e : knowsB nodes x y = !([x, y].any (out nodes)) := by
      unfold knowsB out
      rw [Bool.eq_iff_iff]
      simp [hxy]
      omega
    have HE := Aside0.mk e
    clear e
    have hxy1 : (x == y) = false := by simp [hxy]
    have hxy2 : (y == x) = false := by simp; omega
    clear hxy
    go_enter Try.func23, Try.ntmps23
    go_wp2_with (fail)
    refine (contains_any (some ⟨w.heap.size + 1, 0, none⟩) 2 [x, y] 35 #[.pointer (some ⟨w.heap.size, 0, none⟩)] enters35 (out nodes) _ (row_C [x, y] (w.heap.size + 1) 59 _ (by simp) (by rw [← alloc_size w (.cells #[.pointer (some ⟨a, 0, none⟩)] 25)]; exact alloc_new _ _)) (knows_fn nodes a w.heap.size _ (by rw [alloc_size, alloc_size]; omega) (by rw [alloc_size, alloc_size]; omega) ?_ ?_)).mono ?_
    · rw [blk_cell ((alloc_old _ _ (by rw [alloc_size]; omega)).trans (alloc_new _ _)) 0]
      rfl
    · exact ((below_alloc (below_alloc (Below.refl w.heap.size w) _) _).cell (p := ⟨a, 0, none⟩) hal).trans ha
    · rintro e w1 ⟨rfl, rfl⟩
      go_wp2
      go_ret
      exact ⟨by rw [HE.out]; simp, below_alloc (below_alloc (Below.refl _ _) _) _⟩
end Go.Proofs.Ytofacphhfgkemaa.G
