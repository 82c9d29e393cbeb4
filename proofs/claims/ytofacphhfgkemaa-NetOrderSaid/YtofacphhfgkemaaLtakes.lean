/- NetTakes: each message is delivered by its index, and the others wait on in their order. -/
import Derived.Test.YtofacphhfgkemaaGk
import Derived.Outline
import Derived.Deep.RegionHeld3
namespace Go.Proofs.Ytofacphhfgkemaa.G
open Go.Sort Go.RowKit Go.Proofs.YtofacphhfgkemaaW.PrintWords Go.Proofs.YtofacphhfgkemaaW.PrintLast Go.Proofs.YtofacphhfgkemaaW.PrintMore
set_option linter.unusedVariables false
set_option linter.unusedSimpArgs false

def tkQ (l : List ByteArray) (k : Nat) : Int → Int → List ByteArray := fun x y => if x = 1 ∧ y = 0 then l.take k else []
theorem tkQ_zero (l : List ByteArray) : tkQ l 0 = q0 := by
  funext x y
  unfold tkQ
  split <;> simp
theorem tkQ_at (l : List ByteArray) (k : Nat) : tkQ l k 1 0 = l.take k := by simp [tkQ]
theorem rd_take (l : List ByteArray) (k : Nat) (hk : k < l.length) : l.take (k + 1) = l.take k ++ [rdOf ByteArray.empty l (k : Int)] := by
  rw [List.take_succ_eq_append_getElem hk]
  simp [rdOf, List.getD_eq_getElem?_getD, List.getElem?_eq_getElem hk]
theorem tk_E (l : List ByteArray) (hl : l.length ≤ 90) (k : Nat) (hk : k < l.length) (ht : (rdOf ByteArray.empty l (k : Int)).size ≤ 100) : sendE 2 (tkQ l k) c0 1 0 (rdOf ByteArray.empty l (k : Int)) = 0 := by
  unfold sendE
  rw [tkQ_at, show knowsB 2 1 0 = true by decide, if_neg (by simp; omega), if_neg (by simp), if_neg (by simp; omega)]
theorem tk_Q (l : List ByteArray) (hl : l.length ≤ 90) (k : Nat) (hk : k < l.length) (ht : (rdOf ByteArray.empty l (k : Int)).size ≤ 100) : sendQ 2 (tkQ l k) c0 1 0 (rdOf ByteArray.empty l (k : Int)) = tkQ l (k + 1) := by
  unfold sendQ
  rw [tk_E l hl k hk ht, if_pos rfl]
  funext x y
  unfold updQ
  by_cases h : x = 1 ∧ y = 0
  · rw [if_pos h, tkQ_at, h.1, h.2, tkQ_at, rd_take l k hk]
  · rw [if_neg h]
    simp [tkQ, h]
theorem tk_full (l : List ByteArray) : tkQ l l.length 1 0 = l := by rw [tkQ_at, List.take_length]
theorem tk_ok (l : List ByteArray) (x : Int) : delOk 2 (tkQ l l.length) 1 0 x = (!decide (x < 0) && !decide ((l.length : Int) ≤ x)) := by
  unfold delOk
  rw [tk_full, show knowsB 2 1 0 = true by decide]
  rfl
theorem tk_bad (l : List ByteArray) (x : Int) (h : ¬ (0 ≤ x ∧ x < l.length)) : delOk 2 (tkQ l l.length) 1 0 x = false := by
  rw [tk_ok]
  by_cases h0 : x < 0
  · simp [h0]
  · have : (l.length : Int) ≤ x := by omega
    simp [this]
theorem tk_good (l : List ByteArray) (x : Int) (h : 0 ≤ x ∧ x < l.length) : delOk 2 (tkQ l l.length) 1 0 x = true := by
  rw [tk_ok]
  simp; omega
theorem tk_waits (l : List ByteArray) (x : Int) (again : Bool) : (if knowsB 2 1 0 then delQ 2 (tkQ l l.length) 1 0 x false again 1 0 else []) = if 0 ≤ x ∧ x < l.length ∧ again = false then l.eraseIdx x.toNat else l := by
  rw [show knowsB 2 1 0 = true by decide, if_pos rfl]
  unfold delQ
  by_cases h : 0 ≤ x ∧ x < l.length
  · rw [tk_good l x h]
    cases again
    · rw [if_pos (by simp), if_pos ⟨h.1, h.2, rfl⟩]
      simp [updQ, tk_full]
    · rw [if_neg (by simp), if_neg (by simp), tk_full]
  · rw [tk_bad l x h, if_neg (by simp), if_neg (by omega), tk_full]
theorem erase_split (l : List ByteArray) (k : Nat) : l.take k ++ l.drop (k + 1) = l.eraseIdx k := by
  rw [← List.eraseIdx_eq_take_drop_succ]

theorem cut_from {P : Program} (t e : TypeId) (kl : IntKind) {i : TypeInfo} (ht : P.underlying t = some (.slice e)) (hi : P.info? e = some i) (hsz : i.size = 1) (A : Option Addr) (n c m : Nat) (hm : m ≤ n) (hc : n ≤ c) (W : World) :
    (Instr.slice t (.slice A n c) (some (.int kl (m : Int))) none none).run P W = .ok (.slice (if c = m then A else A.map (·.add m)) (n - m) (c - m)) W := by
  have hel : P.elem t = e := by simp [Program.elem, ht]
  have hu : P.underlying t = some (.slice (P.elem t)) := by rw [hel]; exact ht
  rw [run_slice_l W t A n c hu kl (m : Int) (Int.natCast_nonneg _) (by omega), hel]
  simp [sizeOf, typeInfo, hi, hsz, sliced, Result.andThen]
theorem cuts (A : Option Addr) (c : Nat) (l : List ByteArray) (m : Nat) (hm : m < l.length) (hc : l.length ≤ c) :
    ∃ lt ld A', lt = l.take m ∧ ld = l.drop (m + 1) ∧ (∀ W : World, (Instr.slice 22 (.slice A l.length c) none (some (.int .i64 (m : Int))) none).run Try.prog W = .ok (.slice A lt.length c) W) ∧
      (∀ W : World, (Instr.slice 22 (.slice A l.length c) (some (.int .i64 ((m : Int) + 1))) none none).run Try.prog W = .ok (.slice A' ld.length (c - (m + 1))) W) ∧
      (∀ w, TC w A l → TC w A lt ∧ TC w A' ld) := by
  obtain ⟨i0, hi, hz0, hz1, hz2⟩ := info9
  refine ⟨_, _, if c = m + 1 then A else A.map (·.add ((m + 1) * 1)), rfl, rfl, fun W => ?_, fun W => ?_, fun w h => ⟨Kd.C_take h (by omega), Kd.C_drop h (by omega) hc⟩⟩
  · have h := (print_take_of (P := Try.prog) Value.string ByteArray.empty 22 9 .i64 Try.underlying22 hi hz1 A c l (m : Int) (by omega) (by omega) hc).1 W
    rw [Int.toNat_natCast] at h
    exact h
  · have h := cut_from (P := Try.prog) 22 9 .i64 Try.underlying22 hi hz1 A l.length c (m + 1) (by omega) hc W
    rw [Nat.mul_one, List.length_drop]
    exact h

theorem step_gate {ops : Array Oper} {o : Oper} {a : Act} {W : World} {K : Act → World → Prop} {Q : Exit → Act → World → Prop} {E : Prop} {N : Tmp} (hN : o.dst = some N) (h : if Region.wanted o (yielded ops a.tmps) = true then Oper.wp Try.prog o a W K Q else E) : if Region.wanted o (yielded ops a.tmps) = true then Oper.wp Try.prog o a W K Q else E := h
theorem append_step_w {ops : Array Oper} {o : Oper} {a : Act} {K : Act → World → Prop} {Q : Exit → Act → World → Prop} {E : Prop} (hw : Region.wanted o (yielded ops a.tmps) = true) (s x : Operand) (ho : o.op = .call { callee := .builtin .append, args := #[s, x], argTypes := #[22, 22] })
    {base : Nat} {W : World} {v : Value} {l l' r : List ByteArray} {A : Option Addr} {c : Nat} (hs : a.eval s = v) (hx : a.eval x = .slice A l'.length c) (hO : Owns base W v l) (hC : TC W A l') (hbase : base ≤ W.heap.size) (hl : l.length + l'.length ≤ 100000) (hr : l ++ l' = r)
    (h : ∀ A1 c1 w1, Owns base w1 (.slice A1 r.length c1) r → TC w1 A1 r → W.grownBy w1 v.ownBlock → K (a.put o.dst (.slice A1 r.length c1)) w1) :
    if Region.wanted o (yielded ops a.tmps) = true then Oper.wp Try.prog o a W K Q else E := by
  rw [if_pos hw]
  obtain ⟨v1, w1, hrun, h1, h2, h3⟩ := append_row (ty := o.type) (c := c) hO hC hbase hl
  rw [hr] at h1
  obtain ⟨A1, c1, rfl, hC1⟩ := owns_TC h1
  unfold Oper.wp execOp
  simp only [ho, resolve, invoke, builtin, Sem.run_bind, Sem.run_pure, Result.andThen_ok, List.map_toArray, List.map_cons, List.map_nil, hs, hx, hrun]
  exact h A1 c1 w1 h1 hC1 h2

set_option maxHeartbeats 4000000 in
theorem netTakes_calls (w : World) (A : Option Addr) (c : Nat) (l : List ByteArray) (x : Int) (again : Bool) (hC : TC w A l) (hlc : l.length ≤ c) (hmax : ∀ t ∈ l, t.size ≤ 9223372036854775807) :
    Calls Try.prog 4 #[.slice A l.length c, .int .i64 x, .bool again] w fun e w' => e = .returned (.bool true) ∧ RowKit.Below w.heap.size w w' := by
  have HC := Aside0.mk hC
  have HLC := Aside0.mk hlc
  have HMX := Aside0.mk hmax
  clear hC hlc hmax
  by_cases hl : l.length ≤ 90
  · have hl2 : ¬ ((90 : Int) < (l.length : Int)) := by omega
    have hl3 : (l.length : Int) ≤ 90 := by omega
    have HL := Aside0.mk hl
    clear hl
    go_enter Try.func4, Try.ntmps4
    go_wp2_with (fail)
    refine (head_calls w).mono ?_
    rintro e W0 ⟨rfl, hb0⟩
    have HB0 := Aside0.mk hb0
    clear hb0
    go_wp2_with (fail)
    refine (new_ok W0 2 (by omega) (by omega)).mono ?_
    rintro e W1 ⟨a, rfl, h1, h2⟩
    have NI := Aside0.mk (NetIn.mk (w := W0) h1 (fun k hk => hk.1) h2)
    clear h1 h2
    go_wp2_with (fail)
    go_loopw [10] (fun v wr => ∃ k : Nat, k ≤ l.length ∧ v = .int .i64 k ∧ Aside0 (∃ F, NetIn W0 wr F a 2 (tkQ l k) c0)) (fun v _ => l.length - (intOf v).toNat)
    case atStart => exact ⟨0, Nat.zero_le _, rfl, ⟨_, by rw [tkQ_zero]; exact NI.out⟩⟩
    case round =>
      clear NI
      obtain ⟨k, hk, rfl, HN⟩ := hrel
      obtain ⟨F, hn⟩ := HN.out
      have NI := Aside0.mk hn
      have HCr := Aside0.mk (HC.out.below (below_then HB0.out HB0.out.size hn.below))
      clear HN hn
      by_cases hlt : k < l.length
      · have hw : wrap64 ((k : Int) + 1) = ((k + 1 : Nat) : Int) := by unfold wrap64; omega
        obtain ⟨ad, e1, x1⟩ := Kd.at_string HCr.out (k : Int) (by omega) (by omega)
        cases e1
        rw [Int.toNat_natCast] at x1
        have p1 : (0 : Int) ≤ (k : Int) := by omega
        have p2 : (k : Int) < (l.length : Int) := by omega
        have hsz : (rdOf ByteArray.empty l (k : Int)).size ≤ 9223372036854775807 := by
          apply HMX.out
          unfold rdOf
          rw [Int.toNat_natCast, List.getD_eq_getElem?_getD, List.getElem?_eq_getElem hlt]
          exact List.getElem_mem hlt
        by_cases ht : (rdOf ByteArray.empty l (k : Int)).size ≤ 100
        · have HE := Aside0.mk (tk_E l HL.out k hlt ht)
          have HQ := Aside0.mk (tk_Q l HL.out k hlt ht)
          have ht2 : ¬ ((100 : Int) < ((rdOf ByteArray.empty l (k : Int)).size : Int)) := by omega
          have ht3 : (((rdOf ByteArray.empty l (k : Int)).size : Int)) ≤ 100 := by omega
          clear ht
          have HSZ := Aside0.mk hsz
          clear hsz
          generalize rdOf ByteArray.empty l (k : Int) = t at x1 HE HQ ht2 ht3 HSZ
          go_wp2_with (fail)
          refine (send_calls NI.out.is 1 0 t HSZ.out).mono ?_
          rintro e W2 ⟨rfl, h1, h2⟩
          rw [HE.out]
          rw [HQ.out] at h1
          have NI2 := Aside0.mk (NI.out.step h1 h2)
          clear h1 h2
          go_wp2_with (fail)
          go_round
          case rel => exact ⟨k + 1, by omega, by first | (rw [hw]; done) | go_num, ⟨_, NI2.out⟩⟩
          case measure => first | (rw [hw]; simp only [intOf, Int.toNat_natCast]; omega) | (simp [intOf]; omega)
        · have ht2 : ((100 : Int) < ((rdOf ByteArray.empty l (k : Int)).size : Int)) := by omega
          clear ht
          go_wp2_with (fail)
          go_ret
          exact ⟨rfl, below_then HB0.out HB0.out.size NI.out.below⟩
      · obtain rfl : k = l.length := by omega
        go_wp2_with (fail)
        refine (deliver_calls NI.out.is 1 0 x false again).mono ?_
        rintro e W2 ⟨rfl, h1, h2⟩
        have NI2 := Aside0.mk (NI.out.step h1 h2)
        clear h1 h2
        have HW := Aside0.mk (tk_waits l x again)
        by_cases hx : 0 ≤ x ∧ x < l.length
        · have HOK := Aside0.mk (tk_good l x hx)
          obtain ⟨hx0, hx1⟩ := hx
          have hd0 : decide (x < 0) = false := by simp; omega
          have hd1 : decide ((l.length : Int) ≤ x) = false := by simp; omega
          have HT := Aside0.mk (show delT 2 (tkQ l l.length) 1 0 x false = rdOf ByteArray.empty l x by unfold delT; rw [HOK.out, tk_full]; rfl)
          rw [HT.out, HOK.out]
          cases again with
          | true =>
            have HWQ := Aside0.mk (HW.out.trans (if_neg (fun h => by cases h.2.2)))
            go_wp2_with (fail)
            refine (waits NI2.out.is 1 0).mono ?_
            rintro e W3 ⟨B, d, rfl, hD, ho, hb⟩
            rw [HWQ.out] at hD ⊢
            have HD := Aside0.mk hD
            have HB3 := Aside0.mk (below_then (below_then HB0.out HB0.out.size NI2.out.below) (by have := NI2.out.below.size; have := HB0.out.size; omega) hb)
            have HC3 := Aside0.mk (HC.out.below HB3.out)
            clear hD ho hb
            obtain ⟨ad, e1, x1⟩ := Kd.at_string HC3.out x hx0 hx1
            cases e1
            have hs1 : ((rdOf ByteArray.empty l x).toList == (rdOf ByteArray.empty l x).toList) = true := by simp
            go_wp2_with (fail)
            refine (texts_calls B d l _ c l W3 HD.out HC3.out (by have := HL.out; omega)).mono ?_
            rintro e W4 ⟨rfl, hb⟩
            have HB4 := Aside0.mk (below_then HB3.out HB3.out.size hb)
            clear hb
            go_wp2_with (fail)
            go_ret
            exact ⟨by simp, HB4.out⟩
          | false =>
            obtain ⟨m, rfl⟩ := Int.eq_ofNat_of_zero_le hx0
            have HWQ := Aside0.mk ((HW.out.trans (if_pos ⟨hx0, hx1, rfl⟩)).trans (by rw [Int.toNat_natCast]))
            have HM := Aside0.mk (show m < l.length by omega)
            go_wp2_with (fail)
            refine (waits NI2.out.is 1 0).mono ?_
            rintro e W3 ⟨B, d, rfl, hD, ho, hb⟩
            rw [HWQ.out] at hD ⊢
            have HD := Aside0.mk hD
            have HB3 := Aside0.mk (below_then (below_then HB0.out HB0.out.size NI2.out.below) (by have := NI2.out.below.size; have := HB0.out.size; omega) hb)
            have HC3 := Aside0.mk (HC.out.below HB3.out)
            clear hD ho hb
            obtain ⟨ad, e1, x1⟩ := Kd.at_string HC3.out (m : Int) hx0 hx1
            cases e1
            have hs1 : ((rdOf ByteArray.empty l (m : Int)).toList == (rdOf ByteArray.empty l (m : Int)).toList) = true := by simp
            rw [Int.toNat_natCast] at x1
            obtain ⟨lt, ld, A', ht, hd, hc1, hc2, hcc⟩ := cuts (some ad) c l m HM.out HLC.out
            have hle : lt ++ ld = l.eraseIdx m := by rw [ht, hd]; exact erase_split l m
            have HLE := Aside0.mk hle
            have HCC := Aside0.mk hcc
            have HLT := Aside0.mk (show lt.length ≤ 90 ∧ ld.length ≤ 90 by rw [ht, hd, List.length_take, List.length_drop]; have := HL.out; omega)
            clear ht hd hle hcc
            have hwr : IntKind.i64.wrap ((m : Int) + 1) = (m : Int) + 1 := by rw [IntKind.wrap_i64]; omega
            have hk0 : W3.drew.cell? (ad.add m) = some (.string (rdOf ByteArray.empty l (m : Int))) := x1
            have hbe : RowKit.Below W3.heap.size W3 (W3.alloc (.cells #[] 9)).drew := below_drew (below_alloc (Below.refl _ _) _)
            have hk1 : (W3.alloc (.cells #[] 9)).drew.cell? (ad.add m) = some (.string (rdOf ByteArray.empty l (m : Int))) := (hbe.cell (World.block_lt_of_cell? _ _ x1)).trans x1
            have HBE := Aside0.mk hbe
            have HCA := Aside0.mk ((HCC.out W3 HC3.out).1.below hbe)
            have HCB := Aside0.mk ((HCC.out W3 HC3.out).2)
            clear hbe
            generalize rdOf ByteArray.empty l (m : Int) = T at x1 hk0 hk1 hs1 HT ⊢
            generalize hle : l.eraseIdx m = le at HD HLE ⊢
            have HLE2 := Aside0.mk hle
            clear hle
            go_wp2_with (fail)
            go_region_held3 (fun w' => w'.cell? (ad.add m) = some (.string T))
              (first | exact hk0 | exact hk1 | exact hk2 | exact hk3 | exact hk4)
              (first
              | (go_at_call 14; refine (texts_calls B d le A2 c2 le w2 (HD.out.below HB2.out) HC2.out (by have := HLT.out; rw [← HLE.out, List.length_append]; omega)).mono ?_; rintro e w3 ⟨rfl, hb⟩; have hk4 := (hb.cell (World.block_lt_of_cell? _ _ hk3)).trans hk3; have HB4 := Aside0.mk (below_then HB2.out HB2.out.size hb); rw [decide_eq_true rfl]; clear hb)
              | ((with_reducible refine step_gate (N := 122) rfl ?_); refine append_step_w (by rfl) (.tmp 118) (.tmp 121) rfl (base := W3.heap.size) (v := .slice (some ⟨W3.heap.size, 0, none⟩) 0 0) (l := []) (l' := lt) (r := lt) (A := some ad) (c := c) (by rfl) (by rfl) ⟨rfl, .inr ⟨W3.heap.size, 0, #[], rfl, Nat.le_refl _, alloc_new W3 _, Nat.le_refl _, by decide, rfl, rfl⟩⟩ HCA.out HBE.out.size (by have := HLT.out; simp; omega) rfl ?_; intro A1 c1 w1 ho hC1 hg; have hbx := HBE.out.grown hg HBE.out.size (by intro k hk; simp [Value.ownBlock] at hk; omega); have hk2 := (hbx.cell (World.block_lt_of_cell? _ _ x1)).trans x1; have HO1 := Aside0.mk ho; have HB1 := Aside0.mk hbx; clear ho hC1 hg hbx)
              | ((with_reducible refine step_gate (N := 127) rfl ?_); refine append_step_w (by rfl) (.tmp 122) (.tmp 126) rfl (base := W3.heap.size) (v := .slice A1 lt.length c1) (l := lt) (l' := ld) (r := le) (A := A') (c := c - (m + 1)) (by rfl) (by rfl) HO1.out (HCB.out.below HB1.out) HB1.out.size (by have := HLT.out; omega) HLE.out ?_; intro A2 c2 w2 ho hC2 hg; have hbx := HB1.out.grown hg HB1.out.size (own_base HO1.out); have hk3 := (hbx.cell (World.block_lt_of_cell? _ _ x1)).trans x1; have HC2 := Aside0.mk hC2; have HB2 := Aside0.mk hbx; clear ho hg hbx hC2))
            go_wp2
            go_ret
            exact ⟨rfl, below_then HB3.out HB3.out.size HB4.out⟩
        · have HOK := Aside0.mk (tk_bad l x hx)
          have HT : delT 2 (tkQ l l.length) 1 0 x false = { data := #[] } := by unfold delT; rw [HOK.out]; rfl
          rw [HT, HOK.out]
          clear HT
          have HWQ := Aside0.mk (HW.out.trans (if_neg (fun h => hx ⟨h.1, h.2.1⟩)))
          by_cases h0 : x < 0
          · clear hx
            go_wp2_with (fail)
            refine (waits NI2.out.is 1 0).mono ?_
            rintro e W3 ⟨B, d, rfl, hD, ho, hb⟩
            rw [HWQ.out] at hD ⊢
            have HD := Aside0.mk hD
            have HB3 := Aside0.mk (below_then (below_then HB0.out HB0.out.size NI2.out.below) (by have := NI2.out.below.size; have := HB0.out.size; omega) hb)
            have HC3 := Aside0.mk (HC.out.below HB3.out)
            clear hD ho hb
            go_wp2_with (fail)
            refine (texts_calls B d l A c l W3 HD.out HC3.out (by have := HL.out; omega)).mono ?_
            rintro e W4 ⟨rfl, hb⟩
            have HB4 := Aside0.mk (below_then HB3.out HB3.out.size hb)
            clear hb
            go_wp2_with (fail)
            go_ret
            exact ⟨by simp, HB4.out⟩
          · have h1 : (l.length : Int) ≤ x := by omega
            clear hx
            go_wp2_with (fail)
            refine (waits NI2.out.is 1 0).mono ?_
            rintro e W3 ⟨B, d, rfl, hD, ho, hb⟩
            rw [HWQ.out] at hD ⊢
            have HD := Aside0.mk hD
            have HB3 := Aside0.mk (below_then (below_then HB0.out HB0.out.size NI2.out.below) (by have := NI2.out.below.size; have := HB0.out.size; omega) hb)
            have HC3 := Aside0.mk (HC.out.below HB3.out)
            clear hD ho hb
            go_wp2_with (fail)
            refine (texts_calls B d l A c l W3 HD.out HC3.out (by have := HL.out; omega)).mono ?_
            rintro e W4 ⟨rfl, hb⟩
            have HB4 := Aside0.mk (below_then HB3.out HB3.out.size hb)
            clear hb
            go_wp2_with (fail)
            go_ret
            exact ⟨by simp, HB4.out⟩
  · have hl2 : ((90 : Int) < (l.length : Int)) := by omega
    clear hl
    go_enter Try.func4, Try.ntmps4
    go_wp2_with (fail)
    refine (head_calls w).mono ?_
    rintro e W0 ⟨rfl, hb0⟩
    have HB0 := Aside0.mk hb0
    clear hb0
    go_wp2_with (fail)
    refine (new_ok W0 2 (by omega) (by omega)).mono ?_
    rintro e W1 ⟨a, rfl, h1, h2⟩
    have HB1 := Aside0.mk (below_then HB0.out HB0.out.size h2)
    clear h1 h2
    go_wp2_with (fail)
    go_ret
    exact ⟨rfl, HB1.out⟩
end Go.Proofs.Ytofacphhfgkemaa.G
