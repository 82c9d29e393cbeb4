/- Cut, Heal and Send. -/
import Derived.Test.YtofacphhfgkemaaGe
import Derived.Deep.RegionLaw
namespace Go.Proofs.Ytofacphhfgkemaa.G
open Go.RowKit Go.Proofs.YtofacphhfgkemaaW.PrintWords Go.Proofs.YtofacphhfgkemaaW.PrintLast Go.Proofs.YtofacphhfgkemaaW.PrintMore
set_option linter.unusedVariables false
set_option linter.unusedSimpArgs false

theorem cut_calls {F : Nat → Prop} {w : World} {a : Nat} {nodes : Int} {q : Int → Int → List ByteArray} {cut : Int → Int → Bool} (h : NetIs F w a nodes q cut) (x y : Int) :
    Calls Try.prog 21 #[.pointer (some ⟨a, 0, none⟩), .int .i64 x, .int .i64 y] w fun e w' => e = .returned (.int .i64 (turnE nodes cut x y true)) ∧ NetIs F w' a nodes (turnQ nodes cut q x y true) (turnC nodes cut x y true) ∧ Keeps F w w' := by
  have HT := Aside0.mk (turn_calls h x y true)
  clear h
  go_enter Try.func21, Try.ntmps21
  go_wp2_with (go_at_call 33; refine HT.out.mono ?_; rintro e w1 ⟨rfl, h1, h2⟩; have H1 := Aside0.mk h1; have H2 := Aside0.mk h2; clear h1 h2)
  go_ret
  exact ⟨rfl, H1.out, H2.out⟩
theorem heal_calls {F : Nat → Prop} {w : World} {a : Nat} {nodes : Int} {q : Int → Int → List ByteArray} {cut : Int → Int → Bool} (h : NetIs F w a nodes q cut) (x y : Int) :
    Calls Try.prog 22 #[.pointer (some ⟨a, 0, none⟩), .int .i64 x, .int .i64 y] w fun e w' => e = .returned (.int .i64 (turnE nodes cut x y false)) ∧ NetIs F w' a nodes (turnQ nodes cut q x y false) (turnC nodes cut x y false) ∧ Keeps F w w' := by
  have HT := Aside0.mk (turn_calls h x y false)
  clear h
  go_enter Try.func22, Try.ntmps22
  go_wp2_with (go_at_call 33; refine HT.out.mono ?_; rintro e w1 ⟨rfl, h1, h2⟩; have H1 := Aside0.mk h1; have H2 := Aside0.mk h2; clear h1 h2)
  go_ret
  exact ⟨rfl, H1.out, H2.out⟩

/-- A new row for one queue, in a later world: but for the map's block and the old row's, what was there is as it was. -/
theorem NetAt.put {F : Nat → Prop} {w w6 : World} {a : Nat} {nodes : Int} {q : Int → Int → List ByteArray} {cut : Int → Int → Bool} {qb cb : Nat} {fq fc : Int → Int → Option Value} (h : NetAt F w a nodes q cut qb cb fq fc)
    {x y : Int} {v : Value} {l : List ByteArray} (hz : w.heap.size ≤ w6.heap.size) (hb : ∀ k, k < w.heap.size → k ≠ qb → some k ≠ ((fq x y).getD nilS).ownBlock → w6.heap[k]? = w.heap[k]?)
    (hm : MapIs w6 qb (upd fq x y v)) (hv : Owns 0 w6 v l) (hl : l.length ≤ 100) (ho : ∀ k, v.ownBlock = some k → ((fq x y).getD nilS).ownBlock = some k ∨ w.heap.size ≤ k) :
    NetAt (newF F w w6) w6 a nodes (updQ q x y l) cut qb cb (upd fq x y v) fc := by
  have typed : ∀ x y k, ((fq x y).getD nilS).ownBlock = some k → ∃ cells, w.heap[k]? = some (.cells cells 9 (0, 0)) := fun x y k hk => own_typed (h.owns x y) k hk
  have haq : a ≠ qb := by
    rintro rfl
    obtain ⟨es, cl, hh, _⟩ := h.qmap
    rw [h.net] at hh; cases hh
  have hao : some a ≠ ((fq x y).getD nilS).ownBlock := fun e => by
    obtain ⟨cells, hc⟩ := typed x y a e.symm
    rw [h.net] at hc
    injection hc with hc
    injection hc with _ hc
    exact absurd hc (by decide)
  have hco : some cb ≠ ((fq x y).getD nilS).ownBlock := fun e => by
    obtain ⟨cells, hc⟩ := typed x y cb e.symm
    obtain ⟨es, cl, hh, _⟩ := h.cmap
    rw [hc] at hh; cases hh
  have hqo : ∀ x y k, ((fq x y).getD nilS).ownBlock = some k → k ≠ qb := by
    rintro x y k hk rfl
    obtain ⟨cells, hc⟩ := typed x y _ hk
    obtain ⟨es, cl, hh, _⟩ := h.qmap
    rw [hc] at hh; cases hh
  have hoth : ∀ x' y', ¬ (x' = x ∧ y' = y) → ∀ k, ((fq x' y').getD nilS).ownBlock = some k → w6.heap[k]? = w.heap[k]? := fun x' y' hne k hk =>
    hb k (h.flt k (h.fown x' y' k hk)) (hqo x' y' k hk) (fun e => hne (h.uniq x' y' x y k hk e.symm))
  exact
    { net := (hb a (h.flt a h.fa) haq hao).trans h.net
      small := h.small
      qmap := hm
      cmap := h.cmap.same (hb cb (h.flt cb h.fcb) h.apart.symm hco)
      apart := h.apart
      fa := .inl h.fa
      fqb := .inl h.fqb
      fcb := .inl h.fcb
      flt := fun k hk => hk.elim (fun hk => Nat.lt_of_lt_of_le (h.flt k hk) hz) (fun hk => hk.2)
      owns := fun x' y' => by
        unfold upd updQ
        by_cases e : x' = x ∧ y' = y
        · rw [if_pos e, if_pos e]; exact hv
        · rw [if_neg e, if_neg e]; exact owns_same (h.owns x' y') (hoth x' y' e)
      fown := fun x' y' k hk => by
        unfold upd at hk
        by_cases e : x' = x ∧ y' = y
        · rw [if_pos e] at hk
          rcases ho k hk with h1 | h1
          · exact .inl (h.fown x y k h1)
          · exact .inr ⟨h1, own_lt hv k hk⟩
        · rw [if_neg e] at hk; exact .inl (h.fown x' y' k hk)
      uniq := fun x1 y1 x2 y2 k h1 h2 => by
        have key : ∀ x' y', ¬ (x' = x ∧ y' = y) → ∀ k, v.ownBlock = some k → ((fq x' y').getD nilS).ownBlock = some k → False := fun x' y' hne k e1 e2 => by
          rcases ho k e1 with h1 | h1
          · exact hne (h.uniq x' y' x y k e2 h1)
          · have := h.flt k (h.fown x' y' k e2); omega
        unfold upd at h1 h2
        by_cases e1 : x1 = x ∧ y1 = y
        · by_cases e2 : x2 = x ∧ y2 = y
          · exact ⟨e1.1.trans e2.1.symm, e1.2.trans e2.2.symm⟩
          · rw [if_pos e1] at h1; rw [if_neg e2] at h2
            exact (key x2 y2 e2 k h1 h2).elim
        · by_cases e2 : x2 = x ∧ y2 = y
          · rw [if_neg e1] at h1; rw [if_pos e2] at h2
            exact (key x1 y1 e1 k h2 h1).elim
          · rw [if_neg e1] at h1; rw [if_neg e2] at h2
            exact h.uniq x1 y1 x2 y2 k h1 h2
      cuts := h.cuts
      few := fun x' y' => by
        unfold updQ
        by_cases e : x' = x ∧ y' = y
        · rw [if_pos e]; exact hl
        · rw [if_neg e]; exact h.few x' y' }

/-- The region of Send's append: the entry is fetched, appended to, stored back. -/
theorem send_store {F : Nat → Prop} {w : World} {a : Nat} {nodes : Int} {q : Int → Int → List ByteArray} {cut : Int → Int → Bool} {qb cb : Nat} {fq fc : Int → Int → Option Value} (h : NetAt F w a nodes q cut qb cb fq fc)
    {x y : Int} (hx : wf64 x) (hy : wf64 y) (t : ByteArray) (hl : (q x y).length < 100) :
    ∃ (st : Nat) (w4 : World) (v : Value), (Instr.mapEntry 54 (.map (some qb)) (.agg #[.int .i64 x, .int .i64 y])).run Try.prog (w.alloc (.cells #[.string t] 9)) = .ok (.tuple #[v, goInt st]) w4 ∧ v = (fq x y).getD nilS ∧ Owns 0 w4 v (q x y) ∧ TC w4 (some ⟨w.heap.size, 0, none⟩) [t] ∧
      ∀ v1 w5, Owns 0 w5 v1 (q x y ++ [t]) → w4.grownBy w5 v.ownBlock → (v1.ownBlock = v.ownBlock ∨ v1.ownBlock = some w4.heap.size) →
        ∃ w6, (Instr.entryStore 54 (.map (some qb)) (goInt st) v1).run Try.prog w5 = .ok () w6 ∧ NetAt (newF F w w6) w6 a nodes (updQ q x y (q x y ++ [t])) cut qb cb (upd fq x y v1) fc ∧ Keeps F w w6 := by
  have hA := h.below (below_alloc (Below.refl _ _) (.cells #[.string t] 9))
  obtain ⟨st, w4, hr, ho, hst⟩ := hA.qmap.entry hx hy
  have hqo : ∀ k, ((fq x y).getD nilS).ownBlock = some k → k ≠ qb := by
    rintro k hk rfl
    obtain ⟨cells, hc⟩ := own_typed (h.owns x y) _ hk
    obtain ⟨es, cl, hh, _⟩ := h.qmap
    rw [hc] at hh; cases hh
  have hqlt := h.flt qb h.fqb
  have hsz := alloc_size w (.cells #[.string t] 9)
  have h4 : w4.heap.size = w.heap.size + 1 := by rw [ho.size, hsz]
  refine ⟨st, w4, _, hr, rfl, owns_same (hA.owns x y) (fun k hk => ho.block k (hqo k hk)), ?_, fun v1 w5 h5 hg hat => ?_⟩
  · have hh : w4.heap[w.heap.size]? = some (.cells #[.string t] 9 (0, 0)) := by rw [ho.block _ (by omega)]; exact alloc_new _ _
    refine ⟨rfl, by simp, fun _ => ⟨_, rfl, fun j p hj => ⟨[.string p], rfl, rfl, fun i u hu => ?_⟩⟩⟩
    obtain ⟨hj0, hp⟩ := List.getElem?_eq_some_iff.1 hj
    have : j = 0 := by simpa using hj0
    subst this
    have hi0 : i = 0 := by
      cases i with
      | zero => rfl
      | succ i => simp at hu
    subst hi0
    have : p = t := by simpa using hp.symm
    subst this
    have : Value.string p = u := by simpa using hu
    subst this
    show w4.cell? ⟨w.heap.size, 0, none⟩ = _
    rw [blk_cell hh]; rfl
  · obtain ⟨w6, hr6, hm6, ho6⟩ := hst w5 (hg.block qb (by omega) (fun e => hqo qb e.symm rfl)) v1
    refine ⟨w6, hr6, ?_, ?_⟩
    · have hvq : ∀ k, v1.ownBlock = some k → k ≠ qb := by
        intro k hk
        rcases hat with e | e
        · exact hqo k (by rw [← e]; exact hk)
        · rw [e] at hk; injection hk with hk; omega
      refine h.put ?_ (fun k hk hkq hko => ?_) hm6 (owns_same h5 (fun k hk => ho6.block k (hvq k hk))) (by simp; omega) (fun k hk => ?_)
      · rw [ho6.size]; have := hg.size; omega
      · rw [ho6.block k hkq, hg.block k (by omega) hko, ho.block k hkq]; exact alloc_old _ _ hk
      · rcases hat with e | e
        · exact .inl (by rw [← e]; exact hk)
        · right; rw [e] at hk; injection hk with hk; omega
    · exact ⟨ho6.os.trans (hg.os.trans ho.os), ho6.tape.trans (hg.tape.trans ho.tape), ho6.output.trans (hg.output.trans ho.output), by rw [ho6.size]; have := hg.size; omega, fun k hk hf => by
        rw [ho6.block k (fun e => hf (e ▸ h.fqb)), hg.block k (by omega) (fun e => hf (h.fown x y k e.symm)), ho.block k (fun e => hf (e ▸ h.fqb))]; exact alloc_old _ _ hk⟩
theorem append_step {ops : Array Oper} {o : Oper} {a : Act} {K : Act → World → Prop} {Q : Exit → Act → World → Prop} {E : Prop} (hgd : o.guard = none) (s x : Operand) (ho : o.op = .call { callee := .builtin .append, args := #[s, x], argTypes := #[22, 22] })
    {base : Nat} {W : World} {v : Value} {l l' : List ByteArray} {A : Option Addr} {c : Nat} (hs : a.eval s = v) (hx : a.eval x = .slice A l'.length c) (hO : Owns base W v l) (hC : TC W A l') (hbase : base ≤ W.heap.size) (hl : l.length + l'.length ≤ 100000)
    (h : ∀ v1 w1, Owns base w1 v1 (l ++ l') → W.grownBy w1 v.ownBlock → (v1.ownBlock = v.ownBlock ∨ v1.ownBlock = some W.heap.size) → K (a.put o.dst v1) w1) :
    if Region.wanted o (yielded ops a.tmps) = true then Oper.wp Try.prog o a W K Q else E := by
  rw [if_pos (by simp [Region.wanted, hgd])]
  obtain ⟨v1, w1, hr, h1, h2, h3⟩ := append_row (ty := o.type) (c := c) hO hC hbase hl
  unfold Oper.wp execOp
  simp only [ho, resolve, invoke, builtin, Sem.run_bind, Sem.run_pure, Result.andThen_ok, List.map_toArray, List.map_cons, List.map_nil, hs, hx, hr]
  exact h v1 w1 h1 h2 h3

theorem newF_mono {F : Nat → Prop} {w w0 w6 : World} {a : Nat} {nodes : Int} {q : Int → Int → List ByteArray} {cut : Int → Int → Bool} {qb cb : Nat} {fq fc : Int → Int → Option Value} (h : NetAt (newF F w0 w6) w6 a nodes q cut qb cb fq fc) (hs : w.heap.size ≤ w0.heap.size) : NetAt (newF F w w6) w6 a nodes q cut qb cb fq fc :=
  { h with
    fa := h.fa.elim .inl (fun k => .inr ⟨by omega, k.2⟩)
    fqb := h.fqb.elim .inl (fun k => .inr ⟨by omega, k.2⟩)
    fcb := h.fcb.elim .inl (fun k => .inr ⟨by omega, k.2⟩)
    flt := fun k hk => hk.elim (fun hk => h.flt k (.inl hk)) (fun hk => hk.2)
    fown := fun x y k hk => (h.fown x y k hk).elim .inl (fun k => .inr ⟨by omega, k.2⟩) }

/-- What Send answers. -/
def sendE (nodes : Int) (q : Int → Int → List ByteArray) (cut : Int → Int → Bool) (x y : Int) (t : ByteArray) : Int :=
  if knowsB nodes x y = false ∨ 20000 < t.size then 1 else if cut x y then 18 else if 100 ≤ (q x y).length then 29 else 0
def sendQ (nodes : Int) (q : Int → Int → List ByteArray) (cut : Int → Int → Bool) (x y : Int) (t : ByteArray) : Int → Int → List ByteArray :=
  if sendE nodes q cut x y t = 0 then updQ q x y (q x y ++ [t]) else q

set_option maxHeartbeats 2000000 in
theorem send_calls {F : Nat → Prop} {w : World} {a : Nat} {nodes : Int} {q : Int → Int → List ByteArray} {cut : Int → Int → Bool} (h : NetIs F w a nodes q cut) (x y : Int) (t : ByteArray) (ht : t.size ≤ 9223372036854775807) :
    Calls Try.prog 12 #[.pointer (some ⟨a, 0, none⟩), .int .i64 x, .int .i64 y, .string t] w fun e w' => e = .returned (.int .i64 (sendE nodes q cut x y t)) ∧ NetIs (newF F w w') w' a nodes (sendQ nodes q cut x y t) cut ∧ Keeps F w w' := by
  obtain ⟨qb, cb, fq, fc, h⟩ := h
  have H := Aside0.mk h
  clear h
  unfold sendQ
  cases hk : knowsB nodes x y with
  | false =>
    have HK := Aside0.mk hk
    have e0 : sendE nodes q cut x y t = 1 := by unfold sendE; rw [hk]; simp
    rw [e0]
    clear hk e0
    go_enter Try.func12, Try.ntmps12
    go_wp2_with (fail)
    refine (knows_any nodes x y a _ (H.out.below (below_alloc (Below.refl _ _) _)).cell0).mono ?_
    rintro e w1 ⟨rfl, hb⟩
    rw [HK.out]
    have HB := Aside0.mk ((below_alloc (Below.refl w.heap.size w) (.cells #[.int .i64 x, .int .i64 y] 59)).trans (hb.mono (by rw [alloc_size]; omega)))
    clear hb
    go_wp2
    go_ret
    exact ⟨rfl, ⟨qb, cb, fq, fc, (H.out.below HB.out).wider (fun k hk => .inl hk) (fun k hk => hk.elim (fun h => Nat.lt_of_lt_of_le (H.out.flt k h) HB.out.size) (fun h => h.2))⟩, Keeps.of_below HB.out⟩
  | true =>
    have HK := Aside0.mk hk
    have HC := Aside0.mk (H.out.cuts x y)
    by_cases h2 : 20000 < t.size
    · have e0 : sendE nodes q cut x y t = 1 := by unfold sendE; rw [if_pos (.inr h2)]
      rw [e0]
      clear hk e0
      go_enter Try.func12, Try.ntmps12
      go_wp2_with (fail)
      refine (knows_any nodes x y a _ (H.out.below (below_alloc (Below.refl _ _) _)).cell0).mono ?_
      rintro e w1 ⟨rfl, hb⟩
      rw [HK.out]
      have hw0 : w1.cell? ⟨w.heap.size, 0, none⟩ = some (.int .i64 x) := by rw [hb.cell (p := ⟨w.heap.size, 0, none⟩) (by show w.heap.size < _; rw [alloc_size]; omega), blk_cell (alloc_new _ _)]; rfl
      have hw1 : w1.cell? ⟨w.heap.size, 1, none⟩ = some (.int .i64 y) := by rw [hb.cell (p := ⟨w.heap.size, 1, none⟩) (by show w.heap.size < _; rw [alloc_size]; omega), blk_cell (alloc_new _ _)]; rfl
      have hB := (below_alloc (Below.refl w.heap.size w) (.cells #[.int .i64 x, .int .i64 y] 59)).trans (hb.mono (by rw [alloc_size]; omega))
      have HB := Aside0.mk hB
      have hsz : w.heap.size < w1.heap.size := by have := hb.size; rw [alloc_size] at this; omega
      clear hb hB
      go_wp2
      go_ret
      exact ⟨rfl, ⟨qb, cb, fq, fc, (H.out.below HB.out).wider (fun k hk => .inl hk) (fun k hk => hk.elim (fun h => Nat.lt_of_lt_of_le (H.out.flt k h) HB.out.size) (fun h => h.2))⟩, Keeps.of_below HB.out⟩
    · cases hc : cut x y with
      | true =>
        have e0 : sendE nodes q cut x y t = 18 := by unfold sendE; rw [if_neg (by rw [hk]; simp; omega), hc]; rfl
        rw [e0]
        rw [hc] at HC
        clear hk e0 hc
        go_enter Try.func12, Try.ntmps12
        go_wp2_with (fail)
        refine (knows_any nodes x y a _ (H.out.below (below_alloc (Below.refl _ _) _)).cell0).mono ?_
        rintro e w1 ⟨rfl, hb⟩
        rw [HK.out]
        have hw0 : w1.cell? ⟨w.heap.size, 0, none⟩ = some (.int .i64 x) := by rw [hb.cell (p := ⟨w.heap.size, 0, none⟩) (by show w.heap.size < _; rw [alloc_size]; omega), blk_cell (alloc_new _ _)]; rfl
        have hw1 : w1.cell? ⟨w.heap.size, 1, none⟩ = some (.int .i64 y) := by rw [hb.cell (p := ⟨w.heap.size, 1, none⟩) (by show w.heap.size < _; rw [alloc_size]; omega), blk_cell (alloc_new _ _)]; rfl
        have hB := (below_alloc (Below.refl w.heap.size w) (.cells #[.int .i64 x, .int .i64 y] 59)).trans (hb.mono (by rw [alloc_size]; omega))
        have HB := Aside0.mk hB
        have hsz : w.heap.size < w1.heap.size := by have := hb.size; rw [alloc_size] at this; omega
        clear hb hB
        have H1 := H.out.below HB.out
        have hc2 := H1.cell2
        have hlk := (H1.below (below_drew (Below.refl _ _))).cmap.lookup55 (knows_wf H1.small HK.out).1 (knows_wf H1.small HK.out).2
        rw [HC.out] at hlk
        unfold kv at hlk
        clear H1
        go_wp2_with (fail)
        go_still (by kernel_rfl)
        go_wp2_with (fail)
        go_ret
        have HB2 := (HB.out.drew)
        exact ⟨rfl, ⟨qb, cb, fq, fc, (H.out.below HB2).wider (fun k hk => .inl hk) (fun k hk => hk.elim (fun h => Nat.lt_of_lt_of_le (H.out.flt k h) HB2.size) (fun h => h.2))⟩, Keeps.of_below HB2⟩
      | false =>
        rw [hc] at HC
        by_cases h3 : 100 ≤ (q x y).length
        · have e0 : sendE nodes q cut x y t = 29 := by unfold sendE; rw [if_neg (by rw [hk]; simp; omega), hc, if_neg (by simp), if_pos h3]
          rw [e0]
          clear hk e0 hc
          go_enter Try.func12, Try.ntmps12
          go_wp2_with (fail)
          refine (knows_any nodes x y a _ (H.out.below (below_alloc (Below.refl _ _) _)).cell0).mono ?_
          rintro e w1 ⟨rfl, hb⟩
          rw [HK.out]
          have hw0 : w1.cell? ⟨w.heap.size, 0, none⟩ = some (.int .i64 x) := by rw [hb.cell (p := ⟨w.heap.size, 0, none⟩) (by show w.heap.size < _; rw [alloc_size]; omega), blk_cell (alloc_new _ _)]; rfl
          have hw1 : w1.cell? ⟨w.heap.size, 1, none⟩ = some (.int .i64 y) := by rw [hb.cell (p := ⟨w.heap.size, 1, none⟩) (by show w.heap.size < _; rw [alloc_size]; omega), blk_cell (alloc_new _ _)]; rfl
          have hB := (below_alloc (Below.refl w.heap.size w) (.cells #[.int .i64 x, .int .i64 y] 59)).trans (hb.mono (by rw [alloc_size]; omega))
          have HB := Aside0.mk hB
          have hsz : w.heap.size < w1.heap.size := by have := hb.size; rw [alloc_size] at this; omega
          clear hb hB
          have H1 := H.out.below HB.out
          have hc2 := H1.cell2
          have hlk := (H1.below (below_drew (Below.refl _ _))).cmap.lookup55 (knows_wf H1.small HK.out).1 (knows_wf H1.small HK.out).2
          rw [HC.out] at hlk
          unfold kv at hlk
          clear H1
          go_wp2_with (fail)
          go_still (by kernel_rfl)
          have HB1 := Aside0.mk HB.out.drew
          have hy0 : w1.drew.cell? ⟨w.heap.size, 0, none⟩ = some (.int .i64 x) := hw0
          have hy1 : w1.drew.cell? ⟨w.heap.size, 1, none⟩ = some (.int .i64 y) := hw1
          have hsz1 : w.heap.size < w1.drew.heap.size := hsz
          clear hw0 hw1 hc2 hlk hsz HB
          generalize hW : w1.drew = w2 at HB1 hy0 hy1 hsz1
          have hW' : ({ heap := w1.heap, tape := w1.tape, drawn := w1.drawn + 1, os := w1.os, output := w1.output } : World) = w2 := hW
          rw [hW']
          clear hW hW'
          go_wp2_with (fail)
          have H1 := H.out.below HB1.out
          have hc1 : w2.cell? ⟨a, 1, none⟩ = some (.map (some qb)) := H1.cell1
          have hl5 := (H1.below (below_drew (Below.refl _ _))).qmap.lookup54 (knows_wf H1.small HK.out).1 (knows_wf H1.small HK.out).2
          obtain ⟨A, c, hv, hC⟩ := owns_TC ((H1.below (below_drew (Below.refl _ _))).owns x y)
          rw [hv] at hl5
          have HV := Aside0.mk hv
          unfold kv at hl5
          clear H1 hv hC
          go_still (by kernel_rfl)
          go_wp2_with (fail)
          go_ret
          have HB2 := HB1.out.drew
          exact ⟨rfl, ⟨qb, cb, fq, fc, (H.out.below HB2).wider (fun k hk => .inl hk) (fun k hk => hk.elim (fun h => Nat.lt_of_lt_of_le (H.out.flt k h) HB2.size) (fun h => h.2))⟩, Keeps.of_below HB2⟩
        · have e0 : sendE nodes q cut x y t = 0 := by unfold sendE; rw [if_neg (by rw [hk]; simp; omega), hc, if_neg (by simp), if_neg h3]
          rw [e0]
          clear hk e0 hc
          go_enter Try.func12, Try.ntmps12
          go_wp2_with (fail)
          refine (knows_any nodes x y a _ (H.out.below (below_alloc (Below.refl _ _) _)).cell0).mono ?_
          rintro e w1 ⟨rfl, hb⟩
          rw [HK.out]
          have hw0 : w1.cell? ⟨w.heap.size, 0, none⟩ = some (.int .i64 x) := by rw [hb.cell (p := ⟨w.heap.size, 0, none⟩) (by show w.heap.size < _; rw [alloc_size]; omega), blk_cell (alloc_new _ _)]; rfl
          have hw1 : w1.cell? ⟨w.heap.size, 1, none⟩ = some (.int .i64 y) := by rw [hb.cell (p := ⟨w.heap.size, 1, none⟩) (by show w.heap.size < _; rw [alloc_size]; omega), blk_cell (alloc_new _ _)]; rfl
          have hB := (below_alloc (Below.refl w.heap.size w) (.cells #[.int .i64 x, .int .i64 y] 59)).trans (hb.mono (by rw [alloc_size]; omega))
          have HB := Aside0.mk hB
          have hsz : w.heap.size < w1.heap.size := by have := hb.size; rw [alloc_size] at this; omega
          clear hb hB
          have H1 := H.out.below HB.out
          have hc2 := H1.cell2
          have hlk := (H1.below (below_drew (Below.refl _ _))).cmap.lookup55 (knows_wf H1.small HK.out).1 (knows_wf H1.small HK.out).2
          rw [HC.out] at hlk
          unfold kv at hlk
          clear H1
          go_wp2_with (fail)
          go_still (by kernel_rfl)
          have HB1 := Aside0.mk HB.out.drew
          have hy0 : w1.drew.cell? ⟨w.heap.size, 0, none⟩ = some (.int .i64 x) := hw0
          have hy1 : w1.drew.cell? ⟨w.heap.size, 1, none⟩ = some (.int .i64 y) := hw1
          have hsz1 : w.heap.size < w1.drew.heap.size := hsz
          clear hw0 hw1 hc2 hlk hsz HB
          generalize hW : w1.drew = w2 at HB1 hy0 hy1 hsz1
          have hW' : ({ heap := w1.heap, tape := w1.tape, drawn := w1.drawn + 1, os := w1.os, output := w1.output } : World) = w2 := hW
          rw [hW']
          clear hW hW'
          go_wp2_with (fail)
          have H1 := H.out.below HB1.out
          have hc1 : w2.cell? ⟨a, 1, none⟩ = some (.map (some qb)) := H1.cell1
          have hl5 := (H1.below (below_drew (Below.refl _ _))).qmap.lookup54 (knows_wf H1.small HK.out).1 (knows_wf H1.small HK.out).2
          obtain ⟨A, c, hv, hC⟩ := owns_TC ((H1.below (below_drew (Below.refl _ _))).owns x y)
          rw [hv] at hl5
          have HV := Aside0.mk hv
          unfold kv at hl5
          clear H1 hv hC
          go_still (by kernel_rfl)
          go_wp2_with (fail)
          have HB3 := Aside0.mk HB1.out.drew
          have hc3 : w2.drew.cell? ⟨a, 1, none⟩ = some (.map (some qb)) := hc1
          have hz0 : w2.drew.cell? ⟨w.heap.size, 0, none⟩ = some (.int .i64 x) := hy0
          have hz1 : w2.drew.cell? ⟨w.heap.size, 1, none⟩ = some (.int .i64 y) := hy1
          clear hc1 hy0 hy1 hl5 hsz1
          generalize hW : w2.drew = w3 at HB3 hc3 hz0 hz1
          have hW' : ({ heap := w2.heap, tape := w2.tape, drawn := w2.drawn + 1, os := w2.os, output := w2.output } : World) = w3 := hW
          rw [hW']
          clear hW hW' HB1
          have hca : (w3.alloc (.cells #[.string t] 9)).cell? ⟨a, 1, none⟩ = some (.map (some qb)) := ((below_alloc (Below.refl _ _) _).cell (p := ⟨a, 1, none⟩) (World.block_lt_of_cell? w3 _ hc3)).trans hc3
          have hza : (w3.alloc (.cells #[.string t] 9)).cell? ⟨w.heap.size, 0, none⟩ = some (.int .i64 x) := ((below_alloc (Below.refl _ _) _).cell (p := ⟨w.heap.size, 0, none⟩) (World.block_lt_of_cell? w3 _ hz0)).trans hz0
          have hzb : (w3.alloc (.cells #[.string t] 9)).cell? ⟨w.heap.size, 1, none⟩ = some (.int .i64 y) := ((below_alloc (Below.refl _ _) _).cell (p := ⟨w.heap.size, 1, none⟩) (World.block_lt_of_cell? w3 _ hz1)).trans hz1
          have HB4 := Aside0.mk HB3.out.drew
          have H3 := H.out.below HB4.out
          obtain ⟨st, w4, v, hme, hve, hO4, hC4, hst⟩ := send_store H3 (knows_wf H3.small HK.out).1 (knows_wf H3.small HK.out).2 t (by omega)
          have hme : (Instr.mapEntry 54 (.map (some qb)) (.agg #[.int .i64 x, .int .i64 y])).run Try.prog (w3.alloc (.cells #[.string t] 9)).drew = .ok (.tuple #[v, goInt st]) w4 := hme
          have HST := Aside0.mk hst
          have HO4 := Aside0.mk hO4
          have HC4 := Aside0.mk hC4
          have HLL := Aside0.mk h3
          clear H3 hve hst hO4 hC4 h3
          go_region_law (refine append_step rfl (.tmp 44) (.tmp 46) rfl (base := 0) (v := v) (l := q x y) (l' := [t]) (A := some ⟨w3.drew.heap.size, 0, none⟩) (c := 1) (by simp [Act.eval, Act.put]) (by simp [Act.eval, Act.put]) HO4.out HC4.out (Nat.zero_le _) (by have := HLL.out; simp; omega) ?_; intro v1 w5 ho hg hat; obtain ⟨w6, hes, hn6, hk6⟩ := HST.out v1 w5 ho hg hat; have hes : (Instr.entryStore 54 (.map (some qb)) (.int .i64 st) v1).run Try.prog w5 = .ok () w6 := hes; have HN6 := Aside0.mk hn6; have HK6 := Aside0.mk hk6; clear ho hg hat hn6 hk6)
          all_goals
            go_wp2
            go_ret
            exact ⟨rfl, ⟨qb, cb, _, fc, newF_mono HN6.out (HB4.out.size)⟩, (Keeps.of_below HB4.out).trans HK6.out⟩
end Go.Proofs.Ytofacphhfgkemaa.G
