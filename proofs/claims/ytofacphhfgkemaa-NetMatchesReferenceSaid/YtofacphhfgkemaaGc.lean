/- The network's state: what its blocks hold; slices.Clone and slices.Delete of texts. -/
import Derived.Test.YtofacphhfgkemaaGb
namespace Go.Proofs.Ytofacphhfgkemaa.G
open Go.RowKit Go.Proofs.YtofacphhfgkemaaW.PrintWords Go.Proofs.YtofacphhfgkemaaW.PrintLast Go.Proofs.YtofacphhfgkemaaW.PrintMore
set_option linter.unusedVariables false
set_option linter.unusedSimpArgs false

abbrev TC (w : World) (A : Option Addr) (l : List ByteArray) : Prop := Kd.string.C w A l.length l
abbrev Owns (base : Nat) (w : World) (v : Value) (l : List ByteArray) : Prop := w.ownsRow base 9 1 v l.length (encs Value.string l)

theorem nil22 (a : Option Addr) (l c : Nat) (w : World) : (binOp .eql 22 (.slice a l c) (.slice none 0 0)).run Try.prog w = .ok (.bool a.isNone) w := by
  simp only [binOp]
  simp [run_equal_slice_nil w 22 9 a l c Try.underlying22]

theorem info9 : ∃ i, Try.prog.info? 9 = some i ∧ i.zero = some (.string { data := #[] }) ∧ i.size = 1 ∧ i.bytes = 16 := ⟨_, rfl, rfl, rfl, rfl⟩

/-- append(v, u...) onto a row of one's own. -/
theorem append_row {base : Nat} {W : World} {v : Value} {l l' : List ByteArray} {A : Option Addr} {c : Nat} {ty : TypeId} (ho : Owns base W v l) (hC : TC W A l') (hbase : base ≤ W.heap.size) (hl : l.length + l'.length ≤ 100000) :
    ∃ v1 w1, (Builtin.append_ #[22, 22] ty #[v, .slice A l'.length c]).run Try.prog W = .ok v1 w1 ∧ Owns base w1 v1 (l ++ l') ∧ W.grownBy w1 v.ownBlock ∧ (v1.ownBlock = v.ownBlock ∨ v1.ownBlock = some W.heap.size) := by
  obtain ⟨i0, hi, hz0, hz1, hz2⟩ := info9
  have ht := Try.underlying22
  rcases A with _ | ad
  · have h0 : l' = [] := by
      rcases Nat.eq_zero_or_pos l'.length with h0 | h0
      · exact List.eq_nil_of_length_eq_zero h0
      · obtain ⟨ad, h, _⟩ := hC.2.2 h0
        cases h
    subst h0
    refine ⟨v, W, ?_, by rw [List.append_nil]; exact ho, World.grownBy.refl W _, .inl rfl⟩
    rcases ho.2 with ⟨rfl, hn⟩ | ⟨g, cap, cur, rfl, _, _, hnc, _⟩
    · simp [Builtin.append_, run_underlying ht, sizeOf, typeInfo, hi, Builtin.lenOf, Builtin.firstCells]
    · simp [Builtin.append_, run_underlying ht, sizeOf, typeInfo, hi, Builtin.lenOf, Builtin.firstCells, hnc, storeCells]
  · obtain ⟨news, hnr, hnc⟩ := ReadsRow.inner_ hC
    have he : news = encs Value.string l' := by
      apply List.ext_getElem?
      intro j
      have hnl : news.length = l'.length := by have := hnr.1; simpa [Kd.string, Kd.scalar] using this
      rcases Nat.lt_or_ge j l'.length with hj | hj
      · have h2 := hnr.2 j _ (List.getElem?_eq_getElem hj)
        have h3 : (news.drop (j * 1)).take 1 = [Value.string l'[j]] := h2
        rw [Nat.mul_one, List.drop_eq_getElem_cons (by omega)] at h3
        have h5 := congrArg List.head? h3
        rw [List.take_succ_cons] at h5
        have h4 : news[j] = Value.string l'[j] := Option.some.inj h5
        rw [List.getElem?_eq_getElem (by omega), h4]
        simp [encs, List.getElem?_eq_getElem hj]
      · rw [List.getElem?_eq_none (by omega), List.getElem?_eq_none (by rw [encs_length]; omega)]
    subst he
    obtain ⟨v1, w1, hrun, h2, hg, _, hat⟩ := run_append_own_at (P := Try.prog) W base 22 ty 9 i0 _ 1 16 ht hi hz0 hz1 hz2 rfl (by omega) v l.length (encs Value.string l) ho ad l'.length c (encs Value.string l') (by rw [encs_length, Nat.mul_one]) hnc
      (by intro u hu; simp only [encs, List.mem_map] at hu; obtain ⟨b, _, rfl⟩ := hu; rfl) (by simp only [maxLen]; omega) (by omega) hbase
    exact ⟨v1, w1, hrun, by unfold Owns; rw [List.length_append, encs_append]; exact h2, hg, hat⟩
theorem append_event {ops : Array Oper} {rest : List Oper} {o : Oper} {a : Act} {Q : Exit → Act → World → Prop} (hgd : o.guard = none) (s x : Operand) (ho : o.op = .call { callee := .builtin .append, args := #[s, x], argTypes := #[22, 22] })
    {base : Nat} {W : World} {v : Value} {l l' : List ByteArray} {A : Option Addr} {c : Nat} (hs : a.eval s = v) (hx : a.eval x = .slice A l'.length c) (hO : Owns base W v l) (hC : TC W A l') (hbase : base ≤ W.heap.size) (hl : l.length + l'.length ≤ 100000)
    (h : ∀ v1 w1, Owns base w1 v1 (l ++ l') → W.grownBy w1 v.ownBlock → (v1.ownBlock = v.ownBlock ∨ v1.ownBlock = some W.heap.size) → wpList Try.prog ops Q rest (a.put o.dst v1) w1) : wpList Try.prog ops Q (o :: rest) a W := by
  obtain ⟨v1, w1, hr, h1, h2, h3⟩ := append_row (ty := o.type) (c := c) hO hC hbase hl
  refine wpList_plain hgd fun K hK => ?_
  unfold Oper.wp execOp
  simp only [ho, resolve, invoke, builtin, Sem.run_bind, Sem.run_pure, Result.andThen_ok, List.map_toArray, List.map_cons, List.map_nil, hs, hx, hr]
  exact hK _ _ (h v1 w1 h1 h2 h3)
theorem TC.below {w w1 : World} {A : Option Addr} {l : List ByteArray} (h : TC w A l) (hb : Below w.heap.size w w1) : TC w1 A l := Kd.C_below h hb

set_option maxHeartbeats 400000 in
theorem clone_calls (A : Option Addr) (c : Nat) (l : List ByteArray) (w : World) (hC : TC w A l) (hl : l.length ≤ 1000) :
    Calls Try.prog 26 #[.slice A l.length c] w fun e w' => ∃ v, e = .returned v ∧ Owns w.heap.size w' v l ∧ Below w.heap.size w w' := by
  have HC := Aside0.mk hC
  have hnil := nil22
  cases A with
  | none =>
    have e0 : l = [] := by
      rcases Nat.eq_zero_or_pos l.length with h | h
      · exact List.eq_nil_of_length_eq_zero h
      · obtain ⟨ad, h, _⟩ := hC.2.2 h
        cases h
    have HL := Aside0.mk e0
    clear hC e0
    go_enter Try.func26, Try.ntmps26
    go_wp2
    go_ret
    exact ⟨_, rfl, by rw [HL.out]; exact ⟨rfl, .inl ⟨rfl, rfl⟩⟩, Below.refl _ _⟩
  | some ad =>
    clear hC
    go_enter Try.func26, Try.ntmps26
    have HL := Aside0.mk hl
    clear hl
    go_wp2_with ((with_reducible refine gate_builtin (b := .append) (xs := #[.tmp 5, .tmp 6]) rfl ?_); refine append_event rfl (.tmp 5) (.tmp 6) rfl (base := w.heap.size) (v := .slice (some ⟨w.heap.size, 0, none⟩) 0 0) (l := []) (l' := l) (A := some ad) (c := c) rfl rfl ⟨rfl, .inr ⟨w.heap.size, 0, #[], rfl, Nat.le_refl _, alloc_new _ _, Nat.le_refl _, by decide, rfl, rfl⟩⟩ (TC.below HC.out (below_alloc (Below.refl _ _) _)) (by rw [alloc_size]; omega) (by have := HL.out; simp; omega) ?_; intro v1 w1 ho hg hat; have HO := Aside0.mk ho; have HB := Aside0.mk ((below_alloc (Below.refl w.heap.size w) (.cells #[] 9)).grown hg (by rw [alloc_size]; omega) (by intro k hk; simp [Value.ownBlock] at hk; omega)); clear ho hg hat)
    go_ret
    exact ⟨_, rfl, HO.out, HB.out⟩
end Go.Proofs.Ytofacphhfgkemaa.G
