/- The reference's Waiting and Send. -/
import Derived.Test.YtofacphhfgkemaaRa
namespace Go.Proofs.Ytofacphhfgkemaa.G
open Go.Sort Go.RowKit Go.Proofs.YtofacphhfgkemaaW.PrintWords Go.Proofs.YtofacphhfgkemaaW.PrintLast Go.Proofs.YtofacphhfgkemaaW.PrintMore
set_option linter.unusedVariables false
set_option linter.unusedSimpArgs false

def atB (x y : Int) (m : S69) : Bool := decide (m.f0 = x ∧ m.f1 = y)
/-- The texts on their way from x to y. -/
def refT (L : List S69) (x y : Int) : List ByteArray := (L.filter (atB x y)).map (·.f2)
theorem rd69_take (L : List S69) (k : Nat) (hk : k < L.length) : L.take (k + 1) = L.take k ++ [rd69 L (k : Int)] := by
  rw [List.take_succ_eq_append_getElem hk]
  simp [rd69, List.getD_eq_getElem?_getD, List.getElem?_eq_getElem hk]
theorem refT_app (L : List S69) (m : S69) (x y : Int) : refT (L ++ [m]) x y = if atB x y m then refT L x y ++ [m.f2] else refT L x y := by
  unfold refT
  rw [List.filter_append, List.map_append]
  by_cases h : atB x y m
  · simp [h]
  · simp [h]
theorem refT_take (L : List S69) (k : Nat) (hk : k < L.length) (x y : Int) : refT (L.take (k + 1)) x y = if atB x y (rd69 L (k : Int)) then refT (L.take k) x y ++ [(rd69 L (k : Int)).f2] else refT (L.take k) x y := by
  rw [rd69_take L k hk, refT_app]
/-- What the reference's Waiting answers. -/
def refW (N : Int) (L : List S69) (x y : Int) : List ByteArray := if knowsB N x y then refT L x y else []
theorem refT_len (L : List S69) (x y : Int) : (refT L x y).length ≤ L.length := by
  unfold refT
  rw [List.length_map]
  exact List.length_filter_le _ _
section
variable {F F' : Nat → Prop} {w w1 : World} {r : Nat} {N : Int} {L L' : List S69} {G G' : List (Int × Int)} {vL vG v1 : Value}

theorem ref_same (h : RefIs F w r N L G) : RefIs (newF F w w) w r N L G := by
  obtain ⟨vL, vG, h⟩ := h
  exact ⟨vL, vG, h.wider (fun k hk => .inl hk) (fun k hk => hk.elim (h.flt k) (fun e => by omega))⟩
theorem ref_is_below (h : RefIs F w r N L G) (hb : RowKit.Below w.heap.size w w1) : RefIs F w1 r N L G := by
  obtain ⟨vL, vG, h⟩ := h
  exact ⟨vL, vG, h.below hb⟩
theorem ref_below (h : RefIs F w r N L G) (hb : RowKit.Below w.heap.size w w1) : RefIs (newF F w w1) w1 r N L G := by
  obtain ⟨vL, vG, h⟩ := h
  exact ⟨vL, vG, (h.below hb).wider (fun k hk => .inl hk) (fun k hk => hk.elim (fun e => Nat.lt_of_lt_of_le (h.flt k e) hb.size) (fun e => e.2))⟩
theorem ref_from {w2 w3 : World} (hF : ∀ k, F k → k < w.heap.size) (hb : RowKit.Below w.heap.size w w2) (h : RefAt (newF F w2 w3) w3 r N L G vL vG) : RefIs (newF F w w3) w3 r N L G :=
  ⟨vL, vG, h.wider (fun k hk => hk.elim .inl (fun e => .inr ⟨Nat.le_trans hb.size e.1, e.2⟩)) (fun k hk => hk.elim (fun e => h.flt k (.inl e)) (fun e => e.2))⟩
theorem keeps_grown {v : Value} (hg : w.grownBy w1 v.ownBlock) (hF : ∀ k, v.ownBlock = some k → F k) : Keeps F w w1 :=
  ⟨hg.os, hg.tape, hg.output, hg.size, fun k hk hn => hg.block k hk (fun e => hn (hF k e.symm))⟩

set_option maxHeartbeats 2000000 in
theorem refwait_calls (h : RefIs F w r N L G) (x y : Int) (hl : L.length ≤ 1000) : Calls Try.prog 20 #[.pointer (some ⟨r, 0, none⟩), .int .i64 x, .int .i64 y] w fun e w' => ∃ v, e = .returned v ∧ Owns w.heap.size w' v (refW N L x y) ∧ RowKit.Below w.heap.size w w' := by
  obtain ⟨vL, vG, h⟩ := h
  obtain ⟨A, c, rfl, hc, hC⟩ := h.rowL.reads
  have H := Aside0.mk h
  have HC := Aside0.mk hC
  have HL := Aside0.mk hl
  clear h hC hl hc
  go_enter Try.func20, Try.ntmps20
  go_wp2_with (fail)
  go_loopw [7, 8] (fun v i wr => ∃ k : Nat, k ≤ L.length ∧ i = .int .i64 k ∧ Aside0 (k = 0 ∨ knowsB N x y = true) ∧ Aside0 (Owns w.heap.size wr v (refT (L.take k) x y)) ∧ Aside0 (RowKit.Below w.heap.size w wr)) (fun _ i _ => L.length - (intOf i).toNat)
  case atStart => exact ⟨0, Nat.zero_le _, rfl, ⟨.inl rfl⟩, ⟨⟨rfl, .inl ⟨rfl, rfl⟩⟩⟩, ⟨Below.refl _ _⟩⟩
  case round =>
    obtain ⟨k, hk, rfl, HK, HO, HB⟩ := hrel
    have HR := Aside0.mk (H.out.below HB.out)
    have c1 := HR.out.cell1
    by_cases hlt : k < L.length
    · have hw : wrap64 ((k : Int) + 1) = ((k + 1 : Nat) : Int) := by have := HL.out; unfold wrap64; omega
      have p1 : (0 : Int) ≤ (k : Int) := by omega
      have p2 : (k : Int) < (L.length : Int) := by omega
      have HCr := Aside0.mk (Kd.C_below HC.out HB.out)
      obtain ⟨ad, e1, _⟩ := HCr.out.2.2 (by omega)
      cases e1
      obtain ⟨m, hm⟩ : ∃ m, rd69 L (k : Int) = m := ⟨_, rfl⟩
      obtain ⟨x0, x1, x2⟩ := cells69 HCr.out k hlt hm
      have HM := Aside0.mk hm
      have HLT := Aside0.mk hlt
      have HT := Aside0.mk (refT_take L k hlt x y)
      rw [hm] at HT
      clear hm hlt
      cases hkn : knowsB N x y with
      | false =>
        have HKN := Aside0.mk hkn
        have HV := Aside0.mk (show refT (L.take k) x y = refW N L x y by
          unfold refW
          rcases HK.out with e | e
          · rw [e, hkn]; rfl
          · rw [hkn] at e; cases e)
        clear hkn
        go_wp2_with (fail)
        refine (pair_calls ⟨_, _, HR.out⟩ x y).mono ?_
        rintro e w2 ⟨rfl, rfl⟩
        rw [HKN.out]
        go_wp2_with (fail)
        go_ret
        exact ⟨_, rfl, by rw [← HV.out]; exact HO.out, HB.out⟩
      | true =>
        have HKN := Aside0.mk hkn
        clear hkn
        go_wp2_with (fail)
        refine (pair_calls ⟨_, _, HR.out⟩ x y).mono ?_
        rintro e w2 ⟨rfl, rfl⟩
        rw [HKN.out]
        by_cases a1 : m.f0 = x
        · have b1 : (m.f0 == x) = true := by simp [a1]
          by_cases a2 : m.f1 = y
          · have b2 : (m.f1 == y) = true := by simp [a2]
            have HT2 := Aside0.mk (HT.out.trans (if_pos (by unfold atB; simp; omega)))
            clear a1 a2
            have HLen := Aside0.mk (Nat.le_trans (refT_len (L.take k) x y) (by rw [List.length_take]; have := HL.out; omega : (L.take k).length ≤ 1000))
            have HCS := Aside0.mk (row_TC [m.f2] wr.heap.size (wr.alloc (.cells #[.string m.f2] 9)) (by simp) (alloc_new _ _))
            have HOB := Aside0.mk (own_move HO.out (fun k' hk' => alloc_old wr (.cells #[.string m.f2] 9) (own_lt HO.out k' hk')))
            have HBB := Aside0.mk (below_then HB.out HB.out.size (below_alloc (Below.refl wr.heap.size wr) (.cells #[.string m.f2] 9)))
            go_wp2_with ((with_reducible refine gate_dst (N := 56) rfl ?_); refine append_event rfl (.tmp 46) (.tmp 55) rfl (base := w.heap.size) (l' := [m.f2]) (A := some ⟨wr.heap.size, 0, none⟩) (c := 1) rfl rfl HOB.out HCS.out HBB.out.size (by have := HLen.out; simp; omega) ?_; intro v1 w3 ho hg hat; rw [← HT2.out] at ho; have HO3 := Aside0.mk ho; have HB3 := Aside0.mk (HBB.out.grown hg HBB.out.size (own_base HOB.out)); clear ho hg hat)
            go_round
            case rel => exact ⟨k + 1, by have := HLT.out; omega, by first | (rw [hw]; done) | go_num, ⟨by first | exact .inr HKN.out | exact .inr trivial | simp⟩, HO3, HB3⟩
            case measure => first | (rw [hw]; simp only [intOf, Int.toNat_natCast]; have := HLT.out; omega) | (have := HLT.out; simp [intOf]; omega)
          · have b2 : (m.f1 == y) = false := by simp [a2]
            have HT2 := Aside0.mk (HT.out.trans (if_neg (by unfold atB; simp; omega)))
            clear a1 a2
            go_wp2_with (fail)
            go_round
            case rel => exact ⟨k + 1, by have := HLT.out; omega, by first | (rw [hw]; done) | go_num, ⟨by first | exact .inr HKN.out | exact .inr trivial | simp⟩, ⟨by rw [HT2.out]; exact HO.out⟩, HB⟩
            case measure => first | (rw [hw]; simp only [intOf, Int.toNat_natCast]; have := HLT.out; omega) | (have := HLT.out; simp [intOf]; omega)
        · have b1 : (m.f0 == x) = false := by simp [a1]
          have HT2 := Aside0.mk (HT.out.trans (if_neg (by unfold atB; simp; omega)))
          clear a1
          go_wp2_with (fail)
          go_round
          case rel => exact ⟨k + 1, by have := HLT.out; omega, by first | (rw [hw]; done) | go_num, ⟨by first | exact .inr HKN.out | exact .inr trivial | simp⟩, ⟨by rw [HT2.out]; exact HO.out⟩, HB⟩
          case measure => first | (rw [hw]; simp only [intOf, Int.toNat_natCast]; have := HLT.out; omega) | (have := HLT.out; simp [intOf]; omega)
    · have HV := Aside0.mk (show refT (L.take k) x y = refW N L x y by
        unfold refW
        rcases HK.out with e | e
        · have hL : L = [] := List.eq_nil_of_length_eq_zero (by omega)
          rw [hL]; simp [refT]
        · rw [e, if_pos rfl, List.take_of_length_le (by omega)])
      go_wp2_with (fail)
      go_ret
      exact ⟨_, rfl, by rw [← HV.out]; exact HO.out, HB.out⟩
theorem refwaits (h : RefIs F w r N L G) (x y : Int) (hl : L.length ≤ 1000) : Calls Try.prog 20 #[.pointer (some ⟨r, 0, none⟩), .int .i64 x, .int .i64 y] w fun e w' => ∃ A c, e = .returned (.slice A (refW N L x y).length c) ∧ TC w' A (refW N L x y) ∧ RowKit.Below w.heap.size w w' := by
  refine (refwait_calls h x y hl).mono ?_
  rintro e w' ⟨v, rfl, ho, hb⟩
  obtain ⟨A, c, rfl, hC⟩ := owns_TC ho
  exact ⟨A, c, rfl, hC, hb⟩

/-- What the reference's Send answers. -/
def rsendE (N : Int) (L : List S69) (G : List (Int × Int)) (x y : Int) (t : ByteArray) : Int :=
  if knowsB N x y = false ∨ 20000 < t.size then 1 else if 0 ≤ cutIx G x y then 18 else if 100 ≤ (refT L x y).length then 29 else 0
def rsendL (N : Int) (L : List S69) (G : List (Int × Int)) (x y : Int) (t : ByteArray) : List S69 := if rsendE N L G x y t = 0 then L ++ [⟨x, y, t⟩] else L
theorem info69 : (Try.prog.info? 69).map (fun i => (i.zero, i.size, i.bytes)) = some (some (.agg #[.int .i64 0, .int .i64 0, .string noT]), 3, 32) := by kernel_rfl
theorem info58 : (Try.prog.info? 58).map (fun i => (i.zero, i.size, i.bytes)) = some (some (.agg #[.int .i64 0, .int .i64 0]), 2, 16) := by kernel_rfl
/-- One element is appended to a row of one's own. -/
theorem append_one {α : Type} {d : Kd α} (hfl : Flat d) {ops : Array Oper} {rest : List Oper} {o : Oper} {a : Act} {Q : Exit → Act → World → Prop} (hgd : o.guard = none) (s x : Operand) (t e : Nat) (z : Value) (bytes : Nat) (ho : o.op = .call { callee := .builtin .append, args := #[s, x], argTypes := #[t, t] })
    (ht : Try.prog.underlying t = some (.slice e)) (hinfo : (Try.prog.info? e).map (fun i => (i.zero, i.size, i.bytes)) = some (some z, d.sz, bytes)) (hz : z.cells.size = d.sz) (hs0 : 0 < d.sz) (hb0 : 0 < bytes) (hb1 : bytes ≤ 1000)
    {base n : Nat} {W : World} {v : Value} {rs rs' : List α} (p : α) (cs : List Value) (hp : ∀ base ok, d.M W base ok p cs) (hs : a.eval s = v) (hx : a.eval x = .slice (some ⟨W.heap.size, 0, none⟩) 1 1) (HO : FRow d e base W v rs) (hbase : base ≤ W.heap.size) (hl : rs.length ≤ 1000) (hr : rs ++ [p] = rs') (hn : rs'.length = n)
    (h : ∀ A1 c1 w1, FRow d e base w1 (.slice A1 n c1) rs' → d.C w1 A1 n rs' → W.grownBy w1 v.ownBlock → ((Value.slice A1 n c1).ownBlock = v.ownBlock ∨ ∃ b, (Value.slice A1 n c1).ownBlock = some b ∧ W.heap.size ≤ b) → wpList Try.prog ops Q rest (a.put o.dst (.slice A1 n c1)) w1) :
    wpList Try.prog ops Q (o :: rest) a (W.alloc (.cells cs.toArray e)) := by
  refine Kd.R_append d (w0 := W) (W := W) base hgd s x t e z bytes ho ht hinfo hz hs0 hb0 v rs p cs (fun _ => True) (fun _ => False) hs hx (hp _ _) (fun _ h => h.elim) (fun _ _ => trivial) (Kd.R_flat hfl HO (fun _ _ _ => trivial)) (Below.refl _ _) hbase (by have : (rs.length + 1) * bytes ≤ 1001 * 1000 := Nat.mul_le_mul (by omega) hb1; omega) ?_
  intro v1 w1 h1 _ hg hat
  rw [hr] at h1
  obtain ⟨A1, c1, hv, hc, hC⟩ := Kd.R_reads h1
  rw [hn] at hv hC
  subst hv
  exact h A1 c1 w1 (Kd.R_flat hfl h1 (fun k hk _ => hk)) hC hg hat

set_option maxHeartbeats 2000000 in
theorem refsend_calls (h : RefIs F w r N L G) (x y : Int) (t : ByteArray) (ht : t.size ≤ 9223372036854775807) (hl : L.length ≤ 900) (hg : G.length ≤ 900) : Calls Try.prog 28 #[.pointer (some ⟨r, 0, none⟩), .int .i64 x, .int .i64 y, .string t] w fun e w' => e = .returned (.int .i64 (rsendE N L G x y t)) ∧ RefIs (newF F w w') w' r N (rsendL N L G x y t) G ∧ Keeps F w w' := by
  have H := Aside0.mk h
  have HL := Aside0.mk hl
  have HG := Aside0.mk hg
  have HFL := Aside0.mk (show ∀ k, F k → k < w.heap.size from by obtain ⟨vL, vG, h⟩ := h; exact h.flt)
  clear h hl hg
  unfold rsendL
  cases hk : knowsB N x y with
  | false =>
    have HK := Aside0.mk hk
    have e0 : rsendE N L G x y t = 1 := by unfold rsendE; rw [hk]; simp
    rw [e0]
    clear hk e0
    go_enter Try.func28, Try.ntmps28
    go_wp2_with (fail)
    refine (pair_calls H.out x y).mono ?_
    rintro e w1 ⟨rfl, rfl⟩
    rw [HK.out]
    go_wp2_with (fail)
    go_ret
    exact ⟨rfl, ref_same H.out, Keeps.of_below (Below.refl _ _)⟩
  | true =>
    have HK := Aside0.mk hk
    by_cases h2 : 20000 < t.size
    · have e0 : rsendE N L G x y t = 1 := by unfold rsendE; rw [if_pos (.inr h2)]
      rw [e0]
      have h3 : (20000 : Int) < (t.size : Int) := by omega
      clear hk e0
      go_enter Try.func28, Try.ntmps28
      go_wp2_with (fail)
      refine (pair_calls H.out x y).mono ?_
      rintro e w1 ⟨rfl, rfl⟩
      rw [HK.out]
      go_wp2_with (fail)
      go_ret
      exact ⟨rfl, ref_same H.out, Keeps.of_below (Below.refl _ _)⟩
    · have h3 : (t.size : Int) ≤ 20000 := by omega
      by_cases h4 : 0 ≤ cutIx G x y
      · have e0 : rsendE N L G x y t = 18 := by unfold rsendE; rw [if_neg (by rw [hk]; simp; omega), if_pos h4]
        rw [e0]
        clear hk e0 h2
        go_enter Try.func28, Try.ntmps28
        go_wp2_with (fail)
        refine (pair_calls H.out x y).mono ?_
        rintro e w1 ⟨rfl, rfl⟩
        rw [HK.out]
        go_wp2_with (fail)
        refine (refcut_calls H.out x y (Nat.le_trans HG.out (by omega))).mono ?_
        rintro e w1 ⟨rfl, hb⟩
        have HB := Aside0.mk hb
        clear hb
        go_wp2_with (fail)
        go_ret
        exact ⟨rfl, ref_below H.out HB.out, Keeps.of_below HB.out⟩
      · have h5 : cutIx G x y < 0 := by omega
        by_cases h6 : 100 ≤ (refT L x y).length
        · have e0 : rsendE N L G x y t = 29 := by unfold rsendE; rw [if_neg (by rw [hk]; simp; omega), if_neg h4, if_pos h6]
          rw [e0]
          obtain ⟨n, hn⟩ : ∃ n, (refT L x y).length = n := ⟨_, rfl⟩
          have h7 : (100 : Int) ≤ (n : Int) := by omega
          have HWQ := Aside0.mk (show refW N L x y = refT L x y by unfold refW; rw [hk]; rfl)
          have HN := Aside0.mk hn
          clear hk e0 h2 h4 h6 hn
          go_enter Try.func28, Try.ntmps28
          go_wp2_with (fail)
          refine (pair_calls H.out x y).mono ?_
          rintro e w1 ⟨rfl, rfl⟩
          rw [HK.out]
          go_wp2_with (fail)
          refine (refcut_calls H.out x y (Nat.le_trans HG.out (by omega))).mono ?_
          rintro e w1 ⟨rfl, hb⟩
          have HB := Aside0.mk hb
          clear hb
          go_wp2_with (fail)
          refine (refwaits (ref_is_below H.out HB.out) x y (Nat.le_trans HL.out (by omega))).mono ?_
          rintro e w2 ⟨A, c, rfl, hC, hb⟩
          rw [HWQ.out, HN.out]
          have HB2 := Aside0.mk (below_then HB.out HB.out.size hb)
          clear hC hb
          go_wp2_with (fail)
          go_ret
          exact ⟨rfl, ref_below H.out HB2.out, Keeps.of_below HB2.out⟩
        · have e0 : rsendE N L G x y t = 0 := by unfold rsendE; rw [if_neg (by rw [hk]; simp; omega), if_neg h4, if_neg h6]
          rw [e0]
          obtain ⟨n, hn⟩ : ∃ n, (refT L x y).length = n := ⟨_, rfl⟩
          have h7 : (n : Int) < (100 : Int) := by omega
          have HWQ := Aside0.mk (show refW N L x y = refT L x y by unfold refW; rw [hk]; rfl)
          have HN := Aside0.mk hn
          clear hk e0 h2 h4 h6 hn
          go_enter Try.func28, Try.ntmps28
          go_wp2_with (fail)
          refine (pair_calls H.out x y).mono ?_
          rintro e w1 ⟨rfl, rfl⟩
          rw [HK.out]
          go_wp2_with (fail)
          refine (refcut_calls H.out x y (Nat.le_trans HG.out (by omega))).mono ?_
          rintro e w1 ⟨rfl, hb⟩
          have HB := Aside0.mk hb
          clear hb
          go_wp2_with (fail)
          refine (refwaits (ref_is_below H.out HB.out) x y (Nat.le_trans HL.out (by omega))).mono ?_
          rintro e w2 ⟨A, c, rfl, hC, hb⟩
          rw [HWQ.out, HN.out]
          have HB2 := Aside0.mk (below_then HB.out HB.out.size hb)
          clear hC hb
          obtain ⟨vL, vG, h2⟩ := ref_is_below H.out HB2.out
          have H2 := Aside0.mk h2
          have c1 := h2.cell1
          have HRL := Aside0.mk (show FRow k69 69 0 w2 vL L from h2.rowL)
          have hfr : w2.frozen? ⟨r, 1, none⟩ = false := blk_frozen h2.blk _
          have hsz : r < w2.heap.size := blk_lt h2.blk
          clear h2
          obtain ⟨n1, hn1⟩ : ∃ n1, (L ++ [(⟨x, y, t⟩ : S69)]).length = n1 := ⟨_, rfl⟩
          have HN1 := Aside0.mk hn1
          clear hn1
          go_wp2_with ((with_reducible refine gate_dst (N := 40) rfl ?_); refine append_one k69_flat rfl (.tmp 34) (.tmp 39) 63 69 (.agg #[.int .i64 0, .int .i64 0, .string noT]) 32 rfl Try.underlying63 info69 rfl (by decide) (by omega) (by omega) (base := 0) (n := n1) (rs := L) (rs' := L ++ [⟨x, y, t⟩]) ⟨x, y, t⟩ [.int .i64 x, .int .i64 y, .string t] (fun _ _ => k69_mkM _ _ _ ⟨x, y, t⟩) rfl rfl HRL.out (Nat.zero_le _) (by have := HL.out; omega) rfl HN1.out ?_; intro A1 c1' w3 ho3 hC3 hg3 hat3; have hr3 : w3.heap[r]? = w2.heap[r]? := hg3.block r (blk_lt H2.out.blk) (fun e => H2.out.neL e.symm); have g1 : w3.cell? ⟨r, 1, none⟩ = some vL := (by rw [← c1]; exact cell_same hr3); have g2 : w3.frozen? ⟨r, 1, none⟩ = false := blk_frozen (hr3.trans H2.out.blk) _; have HR3 := Aside0.mk hr3; have HO3 := Aside0.mk ho3; have HG3 := Aside0.mk hg3; have HA3 := Aside0.mk hat3; clear hr3 ho3 hC3 hg3 hat3 c1 hfr)
          go_ret
          obtain ⟨R1, R2⟩ := H2.out.putL (keeps_grown HG3.out H2.out.fL) HR3.out (fun k hk => HG3.out.block k (by obtain ⟨_, h⟩ := H2.out.rowG.lt k hk; exact h) (fun e => H2.out.neLG k e.symm hk)) HO3.out (fun k hk => HA3.out.elim (fun e => .inl (e ▸ hk)) (fun ⟨b, e, hb⟩ => .inr (by rw [e] at hk; injection hk with hk; omega)))
          exact ⟨rfl, ref_from HFL.out HB2.out R1, (Keeps.of_below HB2.out).trans R2⟩
end
end Go.Proofs.Ytofacphhfgkemaa.G
