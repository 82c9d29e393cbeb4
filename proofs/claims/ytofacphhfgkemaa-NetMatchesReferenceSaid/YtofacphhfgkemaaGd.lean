/- The network's state, and what New, Waiting, Cut and Heal do to it. -/
import Derived.Test.YtofacphhfgkemaaGc
import Derived.StillTailTactics
namespace Go.Proofs.Ytofacphhfgkemaa.G
open Go.RowKit Go.Proofs.YtofacphhfgkemaaW.PrintWords Go.Proofs.YtofacphhfgkemaaW.PrintLast Go.Proofs.YtofacphhfgkemaaW.PrintMore
set_option linter.unusedVariables false
set_option linter.unusedSimpArgs false

abbrev nilS : Value := .slice none 0 0
/-- The network at block a: its two maps, what they hold, and the blocks that are its own. -/
structure NetAt (F : Nat → Prop) (w : World) (a : Nat) (nodes : Int) (q : Int → Int → List ByteArray) (cut : Int → Int → Bool) (qb cb : Nat) (fq fc : Int → Int → Option Value) : Prop where
  net : w.heap[a]? = some (.cells #[.int .i64 nodes, .map (some qb), .map (some cb)] 57 (0, 0))
  small : nodes ≤ 8
  qmap : MapIs w qb fq
  cmap : MapIs w cb fc
  apart : qb ≠ cb
  fa : F a
  fqb : F qb
  fcb : F cb
  flt : ∀ k, F k → k < w.heap.size
  owns : ∀ x y, Owns 0 w ((fq x y).getD nilS) (q x y)
  fown : ∀ x y k, ((fq x y).getD nilS).ownBlock = some k → F k
  uniq : ∀ x y x' y' k, ((fq x y).getD nilS).ownBlock = some k → ((fq x' y').getD nilS).ownBlock = some k → x = x' ∧ y = y'
  cuts : ∀ x y, (fc x y).getD (.bool false) = .bool (cut x y)
  few : ∀ x y, (q x y).length ≤ 100
theorem owns_same {base : Nat} {w w1 : World} {v : Value} {l : List ByteArray} (h : Owns base w v l) (hs : ∀ k, v.ownBlock = some k → w1.heap[k]? = w.heap[k]?) : Owns base w1 v l := own_move h hs
theorem NetAt.same {F : Nat → Prop} {w w1 : World} {a : Nat} {nodes : Int} {q : Int → Int → List ByteArray} {cut : Int → Int → Bool} {qb cb : Nat} {fq fc : Int → Int → Option Value} (h : NetAt F w a nodes q cut qb cb fq fc)
    (hs : ∀ k, F k → w1.heap[k]? = w.heap[k]?) (hz : w.heap.size ≤ w1.heap.size) : NetAt F w1 a nodes q cut qb cb fq fc :=
  { h with
    net := (hs a h.fa).trans h.net
    qmap := h.qmap.same (hs qb h.fqb)
    cmap := h.cmap.same (hs cb h.fcb)
    flt := fun k hk => Nat.lt_of_lt_of_le (h.flt k hk) hz
    owns := fun x y => owns_same (h.owns x y) (fun k hk => hs k (h.fown x y k hk)) }
theorem NetAt.below {F : Nat → Prop} {w w1 : World} {a : Nat} {nodes : Int} {q : Int → Int → List ByteArray} {cut : Int → Int → Bool} {qb cb : Nat} {fq fc : Int → Int → Option Value} (h : NetAt F w a nodes q cut qb cb fq fc)
    (hb : Below w.heap.size w w1) : NetAt F w1 a nodes q cut qb cb fq fc := h.same (fun k hk => hb.block k (h.flt k hk)) hb.size
theorem NetAt.cell0 {F : Nat → Prop} {w : World} {a : Nat} {nodes : Int} {q : Int → Int → List ByteArray} {cut : Int → Int → Bool} {qb cb : Nat} {fq fc : Int → Int → Option Value} (h : NetAt F w a nodes q cut qb cb fq fc) : w.cell? ⟨a, 0, none⟩ = some (.int .i64 nodes) := by rw [blk_cell h.net]; rfl
theorem NetAt.cell1 {F : Nat → Prop} {w : World} {a : Nat} {nodes : Int} {q : Int → Int → List ByteArray} {cut : Int → Int → Bool} {qb cb : Nat} {fq fc : Int → Int → Option Value} (h : NetAt F w a nodes q cut qb cb fq fc) : w.cell? ⟨a, 1, none⟩ = some (.map (some qb)) := by rw [blk_cell h.net]; rfl
theorem NetAt.cell2 {F : Nat → Prop} {w : World} {a : Nat} {nodes : Int} {q : Int → Int → List ByteArray} {cut : Int → Int → Bool} {qb cb : Nat} {fq fc : Int → Int → Option Value} (h : NetAt F w a nodes q cut qb cb fq fc) : w.cell? ⟨a, 2, none⟩ = some (.map (some cb)) := by rw [blk_cell h.net]; rfl
theorem knows_wf {nodes x y : Int} (hn : nodes ≤ 8) (h : knowsB nodes x y = true) : wf64 x ∧ wf64 y := by
  unfold knowsB at h
  simp at h
  exact ⟨wf_small (by omega) (by omega), wf_small (by omega) (by omega)⟩
theorem owns_TC {base : Nat} {w : World} {v : Value} {l : List ByteArray} (h : Owns base w v l) : ∃ A c, v = .slice A l.length c ∧ TC w A l := by
  have hr := Kd.R_of_own (enc := Value.string) (h1 := fun _ => rfl) (ok := fun _ => True) h (fun _ _ => trivial)
  obtain ⟨A, c, hv, _, hc⟩ := Kd.R_reads hr
  exact ⟨A, c, hv, hc⟩

set_option maxHeartbeats 1000000 in
theorem waiting_calls {F : Nat → Prop} {w : World} {a : Nat} {nodes : Int} {q : Int → Int → List ByteArray} {cut : Int → Int → Bool} {qb cb : Nat} {fq fc : Int → Int → Option Value} (h : NetAt F w a nodes q cut qb cb fq fc) (x y : Int) :
    Calls Try.prog 15 #[.pointer (some ⟨a, 0, none⟩), .int .i64 x, .int .i64 y] w fun e w' => ∃ v, e = .returned v ∧ Owns w.heap.size w' v (if knowsB nodes x y then q x y else []) ∧ Below w.heap.size w w' := by
  have H := Aside0.mk h
  clear h
  cases hk : knowsB nodes x y with
  | false =>
    have HK := Aside0.mk hk
    clear hk
    go_enter Try.func15, Try.ntmps15
    go_wp2_with (go_at_call 23; refine (knows_any nodes x y a _ (H.out.below (below_alloc (Below.refl _ _) _)).cell0).mono ?_; rintro e w1 ⟨rfl, hb⟩; rw [HK.out]; have HB := Aside0.mk ((below_alloc (Below.refl w.heap.size w) _).trans (hb.mono (by rw [alloc_size]; omega))); clear hb)
    go_ret
    exact ⟨_, rfl, ⟨rfl, .inl ⟨rfl, rfl⟩⟩, HB.out⟩
  | true =>
    have HK := Aside0.mk hk
    clear hk
    go_enter Try.func15, Try.ntmps15
    go_wp2_with (fail)
    refine (knows_any nodes x y a _ (H.out.below (below_alloc (Below.refl _ _) _)).cell0).mono ?_
    rintro e w1 ⟨rfl, hb⟩
    rw [HK.out]
    have hB := (below_alloc (Below.refl w.heap.size w) (.cells #[.int .i64 x, .int .i64 y] 59)).trans (hb.mono (by rw [alloc_size]; omega))
    have hw : w1.cell? ⟨w.heap.size, 0, none⟩ = some (.int .i64 x) := by rw [hb.cell (p := ⟨w.heap.size, 0, none⟩) (by show w.heap.size < _; rw [alloc_size]; omega), blk_cell (alloc_new _ _)]; rfl
    have hw' : w1.cell? ⟨w.heap.size, 1, none⟩ = some (.int .i64 y) := by rw [hb.cell (p := ⟨w.heap.size, 1, none⟩) (by show w.heap.size < _; rw [alloc_size]; omega), blk_cell (alloc_new _ _)]; rfl
    have H1 := H.out.below hB
    have hc1 := H1.cell1
    have H2 := H1.below (below_drew (Below.refl _ _))
    have hlk : (Instr.lookup 54 (.map (some qb)) (kv x y) false).run Try.prog w1.drew = .ok ((fq x y).getD (.slice none 0 0)) w1.drew := H2.qmap.lookup54 (knows_wf H1.small HK.out).1 (knows_wf H1.small HK.out).2
    obtain ⟨A, c, hv, hC⟩ := owns_TC (H2.owns x y)
    have hf := Aside0.mk (H2.few x y)
    have HB := Aside0.mk (below_drew hB)
    have HC := Aside0.mk hC
    rw [hv] at hlk
    clear hb hB H1 H2 hv hC
    unfold kv at hlk
    go_wp2_with (fail)
    go_still_tail 6, (by kernel_rfl)
    go_wp2_with (go_at_call 26; refine (clone_calls A c (q x y) w1.drew HC.out (Nat.le_trans hf.out (by omega))).mono ?_; rintro e w2 ⟨v, rfl, ho, hb⟩; have HO := Aside0.mk ho; have HO2 := Aside0.mk (own_weaken HO.out HB.out.size); have HB2 := Aside0.mk (below_then HB.out HB.out.size hb); clear ho hb)
    go_ret
    exact ⟨_, rfl, HO2.out, HB2.out⟩
/-- The blocks that were F's, or are new. -/
def newF (F : Nat → Prop) (w w1 : World) : Nat → Prop := fun k => F k ∨ (w.heap.size ≤ k ∧ k < w1.heap.size)
/-- Nothing but F's blocks has turned. -/
structure Keeps (F : Nat → Prop) (w w1 : World) : Prop where
  os : w1.os = w.os
  tape : w1.tape = w.tape
  output : w1.output = w.output
  size : w.heap.size ≤ w1.heap.size
  block : ∀ k, k < w.heap.size → ¬ F k → w1.heap[k]? = w.heap[k]?
theorem Keeps.of_below {F : Nat → Prop} {w w1 : World} (h : Below w.heap.size w w1) : Keeps F w w1 := ⟨h.os, h.tape, h.output, h.size, fun k hk _ => h.block k hk⟩
theorem Keeps.of_only {F : Nat → Prop} {mb : Nat} {w w1 : World} (h : OnlyAt mb w w1) (hF : F mb) : Keeps F w w1 := ⟨h.os, h.tape, h.output, by rw [h.size]; omega, fun k _ hk => h.block k (fun e => hk (e ▸ hF))⟩
theorem Keeps.trans {F : Nat → Prop} {w w1 w2 : World} (h : Keeps F w w1) (h' : Keeps F w1 w2) : Keeps F w w2 :=
  ⟨h'.os.trans h.os, h'.tape.trans h.tape, h'.output.trans h.output, Nat.le_trans h.size h'.size, fun k hk hf => (h'.block k (by have := h.size; omega) hf).trans (h.block k hk hf)⟩
theorem Keeps.trans2 {F : Nat → Prop} {w w1 w2 : World} (h : Keeps F w w1) (h' : Keeps (newF F w w1) w1 w2) : Keeps F w w2 :=
  ⟨h'.os.trans h.os, h'.tape.trans h.tape, h'.output.trans h.output, Nat.le_trans h.size h'.size, fun k hk hf => (h'.block k (by have := h.size; omega) (fun h => h.elim hf (fun h => by omega))).trans (h.block k hk hf)⟩
/-- From above a bound on, all is new. -/
theorem Keeps.below {F : Nat → Prop} {B : Nat} {w w1 w2 : World} (hb : Below B w w1) (h : Keeps F w1 w2) (hF : ∀ k, F k → B ≤ k) (hB : B ≤ w1.heap.size) : Below B w w2 :=
  hb.trans ⟨h.os, h.tape, h.output, h.size, fun k hk => h.block k (by omega) (fun hf => by have := hF k hf; omega)⟩
theorem NetAt.keeps {F G : Nat → Prop} {w w1 : World} {a : Nat} {nodes : Int} {q : Int → Int → List ByteArray} {cut : Int → Int → Bool} {qb cb : Nat} {fq fc : Int → Int → Option Value} (h : NetAt F w a nodes q cut qb cb fq fc)
    (hk : Keeps G w w1) (hd : ∀ k, F k → ¬ G k) : NetAt F w1 a nodes q cut qb cb fq fc := h.same (fun k hf => hk.block k (h.flt k hf) (hd k hf)) hk.size
def updC (cut : Int → Int → Bool) (a b : Int) (v : Bool) : Int → Int → Bool := fun x y => if x = a ∧ y = b then v else cut x y
def updQ (q : Int → Int → List ByteArray) (a b : Int) (l : List ByteArray) : Int → Int → List ByteArray := fun x y => if x = a ∧ y = b then l else q x y
/-- A store into the map of the lines. -/
theorem NetAt.cutAt {F : Nat → Prop} {w w1 : World} {a : Nat} {nodes : Int} {q : Int → Int → List ByteArray} {cut : Int → Int → Bool} {qb cb : Nat} {fq fc : Int → Int → Option Value} (h : NetAt F w a nodes q cut qb cb fq fc)
    {x y : Int} {v : Bool} (hm : MapIs w1 cb (upd fc x y (.bool v))) (ho : OnlyAt cb w w1) : NetAt F w1 a nodes q (updC cut x y v) qb cb fq (upd fc x y (.bool v)) := by
  have hac : a ≠ cb := by
    rintro rfl
    obtain ⟨es, cl, hh, _⟩ := h.cmap
    rw [h.net] at hh; cases hh
  have hown : ∀ x y k, ((fq x y).getD nilS).ownBlock = some k → k ≠ cb := by
    rintro x y k hk rfl
    obtain ⟨cells, hc⟩ := own_typed (h.owns x y) _ hk
    obtain ⟨es, cl, hh, _⟩ := h.cmap
    rw [hc] at hh; cases hh
  exact { h with
    net := (ho.block a hac).trans h.net
    qmap := h.qmap.same (ho.block qb h.apart)
    cmap := hm
    flt := fun k hk => by rw [ho.size]; exact h.flt k hk
    owns := fun x y => owns_same (h.owns x y) (fun k hk => ho.block k (hown x y k hk))
    cuts := fun x' y' => by
      unfold upd updC
      by_cases e : x' = x ∧ y' = y
      · rw [if_pos e, if_pos e]; rfl
      · rw [if_neg e, if_neg e]; exact h.cuts x' y' }
/-- A store into the map of the queues: the new row is none of the others'. -/
theorem NetAt.queueAt {F : Nat → Prop} {w w1 : World} {a : Nat} {nodes : Int} {q : Int → Int → List ByteArray} {cut : Int → Int → Bool} {qb cb : Nat} {fq fc : Int → Int → Option Value} (h : NetAt F w a nodes q cut qb cb fq fc)
    {x y : Int} {v : Value} {l : List ByteArray} (hm : MapIs w1 qb (upd fq x y v)) (ho : OnlyAt qb w w1) (hv : Owns 0 w v l) (hl : l.length ≤ 100) (hF : ∀ k, v.ownBlock = some k → F k) (hne : ∀ x' y' k, ¬ (x' = x ∧ y' = y) → v.ownBlock = some k → ((fq x' y').getD nilS).ownBlock ≠ some k) :
    NetAt F w1 a nodes (updQ q x y l) cut qb cb (upd fq x y v) fc := by
  have haq : a ≠ qb := by
    rintro rfl
    obtain ⟨es, cl, hh, _⟩ := h.qmap
    rw [h.net] at hh; cases hh
  have hown : ∀ (u : Value) (l : List ByteArray) (hu : Owns 0 w u l) k, u.ownBlock = some k → k ≠ qb := by
    rintro u l hu k hk rfl
    obtain ⟨cells, hc⟩ := own_typed hu _ hk
    obtain ⟨es, cl, hh, _⟩ := h.qmap
    rw [hc] at hh; cases hh
  exact { h with
    net := (ho.block a haq).trans h.net
    qmap := hm
    cmap := h.cmap.same (ho.block cb h.apart.symm)
    flt := fun k hk => by rw [ho.size]; exact h.flt k hk
    owns := fun x' y' => by
      unfold upd updQ
      by_cases e : x' = x ∧ y' = y
      · rw [if_pos e, if_pos e]; exact owns_same hv (fun k hk => ho.block k (hown v l hv k hk))
      · rw [if_neg e, if_neg e]; exact owns_same (h.owns x' y') (fun k hk => ho.block k (hown _ _ (h.owns x' y') k hk))
    fown := fun x' y' k hk => by
      unfold upd at hk
      by_cases e : x' = x ∧ y' = y
      · rw [if_pos e] at hk; exact hF k hk
      · rw [if_neg e] at hk; exact h.fown x' y' k hk
    uniq := fun x1 y1 x2 y2 k h1 h2 => by
      unfold upd at h1 h2
      by_cases e1 : x1 = x ∧ y1 = y
      · by_cases e2 : x2 = x ∧ y2 = y
        · exact ⟨e1.1.trans e2.1.symm, e1.2.trans e2.2.symm⟩
        · rw [if_pos e1] at h1; rw [if_neg e2] at h2
          exact absurd h2 (hne x2 y2 k e2 h1)
      · by_cases e2 : x2 = x ∧ y2 = y
        · rw [if_neg e1] at h1; rw [if_pos e2] at h2
          exact absurd h1 (hne x1 y1 k e1 h2)
        · rw [if_neg e1] at h1; rw [if_neg e2] at h2
          exact h.uniq x1 y1 x2 y2 k h1 h2
    few := fun x' y' => by
      unfold updQ
      by_cases e : x' = x ∧ y' = y
      · rw [if_pos e]; exact hl
      · rw [if_neg e]; exact h.few x' y' }
theorem NetAt.wider {F F' : Nat → Prop} {w : World} {a : Nat} {nodes : Int} {q : Int → Int → List ByteArray} {cut : Int → Int → Bool} {qb cb : Nat} {fq fc : Int → Int → Option Value} (h : NetAt F w a nodes q cut qb cb fq fc)
    (hF : ∀ k, F k → F' k) (hl : ∀ k, F' k → k < w.heap.size) : NetAt F' w a nodes q cut qb cb fq fc :=
  { h with fa := hF _ h.fa, fqb := hF _ h.fqb, fcb := hF _ h.fcb, flt := hl, fown := fun x y k hk => hF _ (h.fown x y k hk) }
/-- A network, its maps told by no name. -/
def NetIs (F : Nat → Prop) (w : World) (a : Nat) (nodes : Int) (q : Int → Int → List ByteArray) (cut : Int → Int → Bool) : Prop := ∃ qb cb fq fc, NetAt F w a nodes q cut qb cb fq fc
end Go.Proofs.Ytofacphhfgkemaa.G
