/- NetOrder: without losses, repetitions and cuts the texts arrive in order. -/
import Derived.Test.YtofacphhfgkemaaLtakes
import Derived.Test.YtofacphhfgkemaaGm
namespace Go.Proofs.Ytofacphhfgkemaa.G
open Go.Sort Go.RowKit Go.Proofs.YtofacphhfgkemaaW.PrintWords Go.Proofs.YtofacphhfgkemaaW.PrintLast Go.Proofs.YtofacphhfgkemaaW.PrintMore
set_option linter.unusedVariables false
set_option linter.unusedSimpArgs false

def orQ (x y : Int) (l : List ByteArray) (i g : Nat) : Int → Int → List ByteArray := fun u v => if u = x ∧ v = y then (l.take i).drop g else []
theorem orQ_zero (x y : Int) (l : List ByteArray) : orQ x y l 0 0 = q0 := by
  funext u v
  unfold orQ
  split <;> simp
theorem orQ_at (x y : Int) (l : List ByteArray) (i g : Nat) : orQ x y l i g x y = (l.take i).drop g := by simp [orQ]
theorem orQ_upd (x y : Int) (l m : List ByteArray) (i g i' g' : Nat) (h : m = (l.take i').drop g') : updQ (orQ x y l i g) x y m = orQ x y l i' g' := by
  funext u v
  unfold updQ orQ
  by_cases e : u = x ∧ v = y
  · rw [if_pos e, if_pos e, h]
  · rw [if_neg e, if_neg e, if_neg e]
theorem or_E {x y : Int} (hk : knowsB 4 x y = true) (l : List ByteArray) (hl : l.length ≤ 90) (i g : Nat) (t : ByteArray) (ht : t.size ≤ 100) : sendE 4 (orQ x y l i g) c0 x y t = 0 := by
  unfold sendE
  rw [orQ_at, hk, if_neg (by simp; omega), if_neg (by simp), if_neg (by simp; omega)]
theorem or_Q {x y : Int} (hk : knowsB 4 x y = true) (l : List ByteArray) (hl : l.length ≤ 90) (i g : Nat) (hi : i < l.length) (hg : g ≤ i) (ht : (rdOf ByteArray.empty l (i : Int)).size ≤ 100) : sendQ 4 (orQ x y l i g) c0 x y (rdOf ByteArray.empty l (i : Int)) = orQ x y l (i + 1) g := by
  unfold sendQ
  rw [or_E hk l hl i g _ ht, if_pos rfl]
  refine orQ_upd _ _ _ _ _ _ _ _ ?_
  rw [orQ_at, rd_take l i hi, List.drop_append_of_le_length (by simp; omega)]
theorem or_ok {x y : Int} (hk : knowsB 4 x y = true) (l : List ByteArray) (i g : Nat) (hi : i < l.length) (hg : g ≤ i) : delOk 4 (orQ x y l (i + 1) g) x y 0 = true := by
  unfold delOk
  rw [orQ_at, hk]
  simp; omega
theorem or_T {x y : Int} (hk : knowsB 4 x y = true) (l : List ByteArray) (i g : Nat) (hi : i < l.length) (hg : g ≤ i) : delT 4 (orQ x y l (i + 1) g) x y 0 false = rdOf ByteArray.empty l (g : Int) := by
  unfold delT
  rw [or_ok hk l i g hi hg, orQ_at, if_pos (by rfl)]
  simp only [rdOf, Int.toNat_natCast, Int.toNat_zero, List.getD_eq_getElem?_getD, List.getElem?_drop, Nat.add_zero]
  rw [List.getElem?_take_of_lt (by omega)]
  rfl
theorem or_D {x y : Int} (hk : knowsB 4 x y = true) (l : List ByteArray) (i g : Nat) (hi : i < l.length) (hg : g ≤ i) : delQ 4 (orQ x y l (i + 1) g) x y 0 false false = orQ x y l (i + 1) (g + 1) := by
  unfold delQ
  rw [or_ok hk l i g hi hg, if_pos (by simp)]
  refine orQ_upd _ _ _ _ _ _ _ _ ?_
  rw [orQ_at, Int.toNat_zero, List.eraseIdx_zero, List.tail_drop]
theorem or_W {x y : Int} (hk : knowsB 4 x y = true) (l : List ByteArray) (g : Nat) : (if knowsB 4 x y then orQ x y l l.length g x y else []) = l.drop g := by
  rw [hk, if_pos rfl, orQ_at, List.take_length]

theorem append_event2 {ops : Array Oper} {rest : List Oper} {o : Oper} {a : Act} {Q : Exit → Act → World → Prop} (hgd : Region.wanted o (yielded ops a.tmps) = true) (s x : Operand) (ho : o.op = .call { callee := .builtin .append, args := #[s, x], argTypes := #[22, 22] })
    {base : Nat} {W : World} {v : Value} {l l' r : List ByteArray} {A : Option Addr} {c : Nat} (hs : a.eval s = v) (hx : a.eval x = .slice A l'.length c) (hO : Owns base W v l) (hC : TC W A l') (hbase : base ≤ W.heap.size) (hl : l.length + l'.length ≤ 100000) (hr : l ++ l' = r)
    (h : ∀ A1 c1 w1, Owns base w1 (.slice A1 r.length c1) r → TC w1 A1 r → W.grownBy w1 v.ownBlock → wpList Try.prog ops Q rest (a.put o.dst (.slice A1 r.length c1)) w1) : wpList Try.prog ops Q (o :: rest) a W := by
  obtain ⟨v1, w1, hrun, h1, h2, h3⟩ := append_row (ty := o.type) (c := c) hO hC hbase hl
  rw [hr] at h1
  obtain ⟨A1, c1, rfl, hC1⟩ := owns_TC h1
  unfold wpList
  rw [if_pos hgd]
  left
  unfold Oper.wp execOp
  simp only [ho, resolve, invoke, builtin, Sem.run_bind, Sem.run_pure, Result.andThen_ok, List.map_toArray, List.map_cons, List.map_nil, hs, hx, hrun]
  exact h A1 c1 w1 h1 hC1 h2
/-- The network, and a row of the call's own that is none of its blocks. -/
structure Ord (W0 W : World) (F : Nat → Prop) (a : Nat) (q : Int → Int → List ByteArray) (v : Value) (gl : List ByteArray) : Prop where
  net : NetIn W0 W F a 4 q c0
  own : Owns W0.heap.size W v gl
  apart : ∀ k, v.ownBlock = some k → ¬ F k
theorem Ord.step {W0 W W' : World} {F : Nat → Prop} {a : Nat} {q q' : Int → Int → List ByteArray} {v : Value} {gl : List ByteArray} (h : Ord W0 W F a q v gl) (h1 : NetIs (newF F W W') W' a 4 q' c0) (h2 : Keeps F W W') : Ord W0 W' (newF F W W') a q' v gl :=
  ⟨h.net.step h1 h2, own_move h.own (fun k hk => h2.block k (own_lt h.own k hk) (h.apart k hk)), fun k hk hf => hf.elim (h.apart k hk) (fun hn => by have := own_lt h.own k hk; omega)⟩
theorem Ord.append {W0 W w1 : World} {F : Nat → Prop} {a : Nat} {q : Int → Int → List ByteArray} {v v1 : Value} {gl gl' : List ByteArray} {o : Obj} (h : Ord W0 W F a q v gl) (ho : Owns W0.heap.size w1 v1 gl') (hg : (W.alloc o).grownBy w1 v.ownBlock) (hat : v1.ownBlock = v.ownBlock ∨ v1.ownBlock = some (W.alloc o).heap.size) : Ord W0 w1 F a q v1 gl' := by
  have hz : W.heap.size + 1 ≤ w1.heap.size := by have := hg.size; rw [alloc_size] at this; exact this
  refine ⟨⟨h.net.is.same (fun k hk => ?_) (by omega), h.net.low, ?_⟩, ho, fun k hk hf => ?_⟩
  · have hlt := h.net.is.flt k hk
    rw [hg.block k (by rw [alloc_size]; omega) (fun e => h.apart k e.symm hk)]
    exact alloc_old _ _ hlt
  · exact (below_alloc h.net.below o).grown hg (by rw [alloc_size]; have := h.net.below.size; omega) (own_base h.own)
  · rcases hat with e | e
    · exact h.apart k (e ▸ hk) hf
    · rw [e] at hk
      injection hk with hk
      have := h.net.is.flt k hf
      rw [alloc_size] at hk
      omega
theorem Ord.boxed {W0 W : World} {F : Nat → Prop} {a : Nat} {q : Int → Int → List ByteArray} {v : Value} {gl : List ByteArray} (h : Ord W0 W F a q v gl) (o : Obj) : Owns W0.heap.size (W.alloc o) v gl := own_move h.own (fun k hk => alloc_old _ _ (own_lt h.own k hk))

set_option maxHeartbeats 4000000 in
theorem netOrder_calls (w : World) (A : Option Addr) (c : Nat) (l : List ByteArray) (a b : Int) (B : Option Addr) (d : Nat) (wh : List Bool) (ha0 : 0 ≤ a) (ha1 : a ≤ 255) (hb0 : 0 ≤ b) (hb1 : b ≤ 255)
    (hC : TC w A l) (hmax : ∀ t ∈ l, t.size ≤ 9223372036854775807) (hD : Kd.bool.C w B wh.length wh) :
    Calls Try.prog 3 #[.slice A l.length c, .int .u8 a, .int .u8 b, .slice B wh.length d] w fun e w' => e = .returned (.bool true) ∧ RowKit.Below w.heap.size w w' := by
  have HC := Aside0.mk hC
  have HD := Aside0.mk hD
  have HMX := Aside0.mk hmax
  clear hC hmax hD
  obtain ⟨x, hx⟩ : ∃ x : Int, a.tmod 4 = x := ⟨_, rfl⟩
  obtain ⟨y, hy⟩ : ∃ y : Int, b.tmod 4 = y := ⟨_, rfl⟩
  have hx2 : 0 ≤ x ∧ x < 4 := by rw [← hx, Int.tmod_eq_emod_of_nonneg ha0]; omega
  have hy2 : 0 ≤ y ∧ y < 4 := by rw [← hy, Int.tmod_eq_emod_of_nonneg hb0]; omega
  have HXY := Aside0.mk (And.intro hx2 hy2)
  clear hx2 hy2
  by_cases hl : l.length ≤ 90
  · have hl2 : ¬ ((90 : Int) < (l.length : Int)) := by omega
    have hl3 : (l.length : Int) ≤ 90 := by omega
    have HL := Aside0.mk hl
    clear hl
    by_cases hxy : x = y
    · have hq : (x == y) = true := by simp [hxy]
      clear hxy
      go_enter Try.func3, Try.ntmps3
      go_wp2_with (fail)
      refine (head_calls w).mono ?_
      rintro e W0 ⟨rfl, hb⟩
      have HB0 := Aside0.mk hb
      clear hb
      go_wp2_with (fail)
      go_ret
      exact ⟨rfl, HB0.out⟩
    · have hq : (x == y) = false := by simp [hxy]
      have HK := Aside0.mk (show knowsB 4 x y = true by unfold knowsB; have := HXY.out; simp; omega)
      clear hxy
      go_enter Try.func3, Try.ntmps3
      go_wp2_with (fail)
      refine (head_calls w).mono ?_
      rintro e W0 ⟨rfl, hb⟩
      have HB0 := Aside0.mk hb
      clear hb
      go_wp2_with (fail)
      refine (new_ok W0 4 (by omega) (by omega)).mono ?_
      rintro e W1 ⟨p, rfl, h1, h2⟩
      have NI := Aside0.mk (NetIn.mk (w := W0) h1 (fun k hk => hk.1) h2)
      clear h1 h2
      go_wp2_with (fail)
      go_loopw [14, 15] (fun v i wr => ∃ k g : Nat, k ≤ l.length ∧ g ≤ k ∧ i = .int .i64 k ∧ Aside0 (∃ F, Ord W0 wr F p (orQ x y l k g) v (l.take g))) (fun _ i _ => l.length - (intOf i).toNat)
      case atStart => exact ⟨0, 0, Nat.zero_le _, Nat.le_refl _, rfl, ⟨_, by rw [orQ_zero]; exact ⟨NI.out, ⟨rfl, .inl ⟨rfl, rfl⟩⟩, fun k hk => by simp [Value.ownBlock] at hk⟩⟩⟩
      case round =>
        clear NI
        obtain ⟨k, g, hk, hg, rfl, HN⟩ := hrel
        obtain ⟨F, hn⟩ := HN.out
        have NI := Aside0.mk hn
        have HBr := Aside0.mk (below_then HB0.out HB0.out.size hn.net.below)
        have HCr := Aside0.mk (HC.out.below HBr.out)
        have HDr := Aside0.mk (Kd.C_below HD.out HBr.out)
        have HG := Aside0.mk hg
        clear HN hn hg
        by_cases hlt : k < l.length
        · have hw : wrap64 ((k : Int) + 1) = ((k + 1 : Nat) : Int) := by unfold wrap64; omega
          obtain ⟨ad, e1, x1⟩ := Kd.at_string HCr.out (k : Int) (by omega) (by omega)
          cases e1
          rw [Int.toNat_natCast] at x1
          have p1 : (0 : Int) ≤ (k : Int) := by omega
          have p2 : (k : Int) < (l.length : Int) := by omega
          have hsz : (rdOf ByteArray.empty l (k : Int)).size ≤ 9223372036854775807 := by
            apply HMX.out
            unfold rdOf
            rw [Int.toNat_natCast, List.getD_eq_getElem?_getD, List.getElem?_eq_getElem hlt]
            exact List.getElem_mem hlt
          by_cases ht : (rdOf ByteArray.empty l (k : Int)).size ≤ 100
          · have HE := Aside0.mk (or_E HK.out l HL.out k g _ ht)
            have HQ := Aside0.mk (or_Q HK.out l HL.out k g hlt HG.out ht)
            have HOK := Aside0.mk (or_ok HK.out l k g hlt HG.out)
            have HT := Aside0.mk (or_T HK.out l k g hlt HG.out)
            have HDQ := Aside0.mk (or_D HK.out l k g hlt HG.out)
            have HRT := Aside0.mk (rd_take l g (by have := HG.out; omega))
            have ht2 : ¬ ((100 : Int) < ((rdOf ByteArray.empty l (k : Int)).size : Int)) := by omega
            have ht3 : (((rdOf ByteArray.empty l (k : Int)).size : Int)) ≤ 100 := by omega
            clear ht
            have HSZ := Aside0.mk hsz
            clear hsz
            generalize rdOf ByteArray.empty l (k : Int) = t at x1 HE HQ ht2 ht3 HSZ
            go_wp2_with (fail)
            refine (send_calls NI.out.net.is x y t HSZ.out).mono ?_
            rintro e W2 ⟨rfl, h1, h2⟩
            rw [HE.out]
            rw [HQ.out] at h1
            have NI2 := Aside0.mk (NI.out.step h1 h2)
            have HD2 := Aside0.mk (Kd.C_below HD.out (below_then HB0.out HB0.out.size NI2.out.net.below))
            clear h1 h2 x1
            by_cases hwh : k < wh.length
            · obtain ⟨ad2, e2, x2⟩ := Kd.at_bool HD2.out (k : Int) (by omega) (by omega)
              cases e2
              rw [Int.toNat_natCast] at x2
              have p3 : (k : Int) < (wh.length : Int) := by omega
              have p3b : decide ((k : Int) < (wh.length : Int)) = true := by simp; omega
              cases hbv : rdOf false wh (k : Int) with
              | true =>
                rw [hbv] at x2
                clear hbv
                go_wp2_with (fail)
                refine (deliver_calls NI2.out.net.is x y 0 false false).mono ?_
                rintro e W3 ⟨rfl, h1, h2⟩
                rw [HOK.out, HT.out]
                rw [HDQ.out] at h1
                have NI3 := Aside0.mk (NI2.out.step h1 h2)
                clear h1 h2 x2
                generalize rdOf ByteArray.empty l (g : Int) = s at HT HRT ⊢
                have HCS := Aside0.mk (row_TC [s] W3.heap.size (W3.alloc (.cells #[.string s] 9)) (by simp) (alloc_new _ _))
                go_wp2_with ((with_reducible refine gate_dst (N := 88) rfl ?_); refine append_event rfl (.tmp 85) (.tmp 87) rfl (base := W0.heap.size) (l' := [s]) (A := some ⟨W3.heap.size, 0, none⟩) (c := 1) rfl rfl (NI3.out.boxed _) HCS.out (by rw [alloc_size]; have := NI3.out.net.below.size; omega) (by rw [List.length_take]; have := HL.out; simp; omega) ?_; intro v1 w1 ho hg hat; rw [← HRT.out] at ho; have NI4 := Aside0.mk (NI3.out.append ho hg hat); clear ho hg hat)
                go_round
                case rel => exact ⟨k + 1, g + 1, by omega, by have := HG.out; omega, by first | (rw [hw]; done) | go_num, ⟨_, NI4.out⟩⟩
                case measure => first | (rw [hw]; simp only [intOf, Int.toNat_natCast]; omega) | (simp [intOf]; omega)
              | false =>
                rw [hbv] at x2
                clear hbv
                go_wp2_with (fail)
                go_round
                case rel => exact ⟨k + 1, g, by omega, by have := HG.out; omega, by first | (rw [hw]; done) | go_num, ⟨_, NI2.out⟩⟩
                case measure => first | (rw [hw]; simp only [intOf, Int.toNat_natCast]; omega) | (simp [intOf]; omega)
            · have p3 : ¬ (k : Int) < (wh.length : Int) := by omega
              have p3b : decide ((k : Int) < (wh.length : Int)) = false := by simp; omega
              go_wp2_with (fail)
              go_round
              case rel => exact ⟨k + 1, g, by omega, by have := HG.out; omega, by first | (rw [hw]; done) | go_num, ⟨_, NI2.out⟩⟩
              case measure => first | (rw [hw]; simp only [intOf, Int.toNat_natCast]; omega) | (simp [intOf]; omega)
          · have ht2 : ((100 : Int) < ((rdOf ByteArray.empty l (k : Int)).size : Int)) := by omega
            clear ht
            go_wp2_with (fail)
            go_ret
            exact ⟨rfl, HBr.out⟩
        · obtain rfl : k = l.length := by omega
          obtain ⟨ld, hld⟩ : ∃ ld, l.drop g = ld := ⟨_, rfl⟩
          have HWQ := Aside0.mk ((or_W HK.out l g).trans hld)
          have HGL := Aside0.mk (show l.take g ++ ld = l by rw [← hld]; exact List.take_append_drop g l)
          have HLD := Aside0.mk (show (l.take g).length + ld.length ≤ 90 by rw [← hld, List.length_take, List.length_drop]; have := HL.out; omega)
          clear hld
          go_wp2_with (fail)
          refine (waits NI.out.net.is x y).mono ?_
          rintro e W2 ⟨A2, c2, rfl, hC2, ho, hb⟩
          rw [HWQ.out] at hC2 ⊢
          have HC2 := Aside0.mk hC2
          have HO2 := Aside0.mk (own_move NI.out.own (fun k hk => hb.block k (own_lt NI.out.own k hk)))
          have HB2 := Aside0.mk (below_then NI.out.net.below NI.out.net.below.size hb)
          clear hC2 ho hb
          go_wp2_with ((with_reducible refine gate_dst (N := 96) rfl ?_); (refine gate_guard (by rfl) ?_; dsimp only); refine append_event2 (by rfl) (.tmp 91) (.tmp 95) rfl (base := W0.heap.size) (l' := ld) (r := l) (A := A2) (c := c2) rfl rfl HO2.out HC2.out HB2.out.size (by have := HLD.out; omega) HGL.out ?_; intro A3 c3 w1 ho hC3 hg; have HB3 := Aside0.mk (HB2.out.grown hg HB2.out.size (own_base HO2.out)); have HC3 := Aside0.mk hC3; clear ho hg hC3)
          have HB4 := Aside0.mk (below_then HB0.out HB0.out.size HB3.out)
          refine (texts_calls A3 c3 l A c l w1 HC3.out (HC.out.below HB4.out) (by have := HL.out; omega)).mono ?_
          rintro e W4 ⟨rfl, hb⟩
          have HB5 := Aside0.mk (below_then HB4.out HB4.out.size hb)
          clear hb
          go_wp2_with (fail)
          go_ret
          exact ⟨by simp, HB5.out⟩
  · have hl2 : ((90 : Int) < (l.length : Int)) := by omega
    clear hl
    go_enter Try.func3, Try.ntmps3
    go_wp2_with (fail)
    refine (head_calls w).mono ?_
    rintro e W0 ⟨rfl, hb⟩
    have HB0 := Aside0.mk hb
    clear hb
    go_wp2_with (fail)
    go_ret
    exact ⟨rfl, HB0.out⟩
end Go.Proofs.Ytofacphhfgkemaa.G
