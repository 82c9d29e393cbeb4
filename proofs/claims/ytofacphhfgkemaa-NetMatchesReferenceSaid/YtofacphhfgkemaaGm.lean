/- A step of a network: what do answers, and what becomes of the network. -/
import Derived.Test.YtofacphhfgkemaaGk
import Derived.Test.YtofacphhfgkemaaPNetx0
namespace Go.Proofs.Ytofacphhfgkemaa.G
open Go.Sort Go.RowKit Go.Proofs.YtofacphhfgkemaaW.PrintWords Go.Proofs.YtofacphhfgkemaaW.PrintLast Go.Proofs.YtofacphhfgkemaaW.PrintMore
open Go.Proofs.Ytofacphhfgkemaa.PNet
set_option linter.unusedVariables false
set_option linter.unusedSimpArgs false

abbrev noT : ByteArray := { data := #[] }
def doE (nodes : Int) (q : Int → Int → List ByteArray) (cut : Int → Int → Bool) (s : S46) : Int :=
  if s.f0 = 0 then sendE nodes q cut s.f1 s.f2 s.f4 else if s.f0 = 1 then 0 else if s.f0 = 2 then turnE nodes cut s.f1 s.f2 true else turnE nodes cut s.f1 s.f2 false
def doT (nodes : Int) (q : Int → Int → List ByteArray) (s : S46) : ByteArray := if s.f0 = 1 then delT nodes q s.f1 s.f2 s.f3 s.f5 else noT
def doK (nodes : Int) (q : Int → Int → List ByteArray) (s : S46) : Bool := if s.f0 = 1 then (delOk nodes q s.f1 s.f2 s.f3 && !s.f5) else false
def doQ (nodes : Int) (q : Int → Int → List ByteArray) (cut : Int → Int → Bool) (s : S46) : Int → Int → List ByteArray :=
  if s.f0 = 0 then sendQ nodes q cut s.f1 s.f2 s.f4 else if s.f0 = 1 then delQ nodes q s.f1 s.f2 s.f3 s.f5 s.f6 else if s.f0 = 2 then turnQ nodes cut q s.f1 s.f2 true else turnQ nodes cut q s.f1 s.f2 false
def doC (nodes : Int) (cut : Int → Int → Bool) (s : S46) : Int → Int → Bool :=
  if s.f0 = 0 then cut else if s.f0 = 1 then cut else if s.f0 = 2 then turnC nodes cut s.f1 s.f2 true else turnC nodes cut s.f1 s.f2 false
/-- A step as a value. -/
abbrev sv (s : S46) : Value := .agg #[.int .i64 s.f0, .int .i64 s.f1, .int .i64 s.f2, .int .i64 s.f3, .string s.f4, .bool s.f5, .bool s.f6]
abbrev rv (e : Int) (t : ByteArray) (k : Bool) : Value := .agg #[.int .i64 e, .string t, .bool k]
/-- What holds behind a step. -/
def DoPost (F : Nat → Prop) (w : World) (a : Nat) (nodes : Int) (q : Int → Int → List ByteArray) (cut : Int → Int → Bool) (s : S46) (e : Ending) (w' : World) : Prop :=
  e = .returned (rv (doE nodes q cut s) (doT nodes q s) (doK nodes q s)) ∧ NetIs (newF F w w') w' a nodes (doQ nodes q cut s) (doC nodes cut s) ∧ Keeps F w w'
theorem NetIs.wide {F F' : Nat → Prop} {w : World} {a : Nat} {nodes : Int} {q : Int → Int → List ByteArray} {cut : Int → Int → Bool} (h : NetIs F w a nodes q cut) (hF : ∀ k, F k → F' k) (hl : ∀ k, F' k → k < w.heap.size) : NetIs F' w a nodes q cut := by
  obtain ⟨qb, cb, fq, fc, h⟩ := h
  exact ⟨qb, cb, fq, fc, h.wider hF hl⟩
theorem NetIs.flt {F : Nat → Prop} {w : World} {a : Nat} {nodes : Int} {q : Int → Int → List ByteArray} {cut : Int → Int → Bool} (h : NetIs F w a nodes q cut) : ∀ k, F k → k < w.heap.size := by
  obtain ⟨qb, cb, fq, fc, h⟩ := h
  exact h.flt

theorem NetIs.same {F : Nat → Prop} {w w1 : World} {a : Nat} {nodes : Int} {q : Int → Int → List ByteArray} {cut : Int → Int → Bool} (h : NetIs F w a nodes q cut) (hs : ∀ k, F k → w1.heap[k]? = w.heap[k]?) (hz : w.heap.size ≤ w1.heap.size) : NetIs F w1 a nodes q cut := by
  obtain ⟨qb, cb, fq, fc, h⟩ := h
  exact ⟨qb, cb, fq, fc, h.same hs hz⟩
/-- The result's cells, stored behind the call. -/
def put3 (w1 : World) (g : Nat) (u0 u1 u2 : Value) : World := ((w1.setCell ⟨g, 0, none⟩ u0).setCell ⟨g, 1, none⟩ u1).setCell ⟨g, 2, none⟩ u2
theorem put3_far (w1 : World) (g : Nat) (u0 u1 u2 : Value) (k : Nat) (hk : k ≠ g) : (put3 w1 g u0 u1 u2).heap[k]? = w1.heap[k]? := by
  unfold put3
  rw [Below.heap_setCell _ ⟨g, 2, none⟩ _ _ hk, Below.heap_setCell _ ⟨g, 1, none⟩ _ _ hk, Below.heap_setCell _ ⟨g, 0, none⟩ _ _ hk]
theorem put3_same (w1 : World) (g : Nat) (u0 u1 u2 : Value) : (put3 w1 g u0 u1 u2).os = w1.os ∧ (put3 w1 g u0 u1 u2).tape = w1.tape ∧ (put3 w1 g u0 u1 u2).output = w1.output ∧ (put3 w1 g u0 u1 u2).heap.size = w1.heap.size := setCells_same g [u0, u1, u2] 0 w1
theorem put3_at {w1 : World} {g : Nat} {v0 v1 v2 : Value} {t : TypeId} (h : w1.heap[g]? = some (.cells #[v0, v1, v2] t (0, 0))) (u0 u1 u2 : Value) : (put3 w1 g u0 u1 u2).heap[g]? = some (.cells #[u0, u1, u2] t (0, 0)) := by
  obtain ⟨cur, h1, h2, h3⟩ := setCells_row [u0, u1, u2] 0 w1 #[v0, v1, v2] h (by simp)
  have e : cur = #[u0, u1, u2] := by
    apply Array.ext'
    rw [h3]
    simp
  rw [e] at h1
  exact h1
theorem do_end {F G : Nat → Prop} {w w1 : World} {A B : Obj} {a : Nat} {nodes : Int} {q : Int → Int → List ByteArray} {cut : Int → Int → Bool} (N1 : NetIs G w1 a nodes q cut) (hG : ∀ k, G k → F k ∨ w.heap.size + 2 ≤ k) (hF : ∀ k, F k → k < w.heap.size) (K1 : Keeps F ((w.alloc A).alloc B) w1) (u0 u1 u2 : Value) :
    NetIs (newF F w (put3 w1 (w.heap.size + 1) u0 u1 u2)) (put3 w1 (w.heap.size + 1) u0 u1 u2) a nodes q cut ∧ Keeps F w (put3 w1 (w.heap.size + 1) u0 u1 u2) := by
  obtain ⟨s1, s2, s3, s4⟩ := put3_same w1 (w.heap.size + 1) u0 u1 u2
  have hf := put3_far w1 (w.heap.size + 1) u0 u1 u2
  have hz := K1.size
  rw [alloc_size, alloc_size] at hz
  refine ⟨(N1.same (fun k hk => hf k ?_) (by omega)).wide (fun k hk => ?_) (fun k hk => ?_), ?_⟩
  · rcases hG k hk with h | h
    · have := hF k h; omega
    · omega
  · rcases hG k hk with h | h
    · exact .inl h
    · exact .inr ⟨by omega, by have := N1.flt k hk; omega⟩
  · rcases hk with h | h
    · have := hF k h; omega
    · exact h.2
  · have KB := (Keeps.of_below (F := F) (below_alloc (below_alloc (Below.refl w.heap.size w) A) B)).trans K1
    exact ⟨s1.trans KB.os, s2.trans KB.tape, s3.trans KB.output, by omega, fun k hk hn => (hf k (by omega)).trans (KB.block k hk hn)⟩
theorem do_cell {F : Nat → Prop} {w w1 : World} {A B : Obj} (hF : ∀ k, F k → k < w.heap.size) (K1 : Keeps F ((w.alloc A).alloc B) w1) : w1.heap[w.heap.size + 1]? = ((w.alloc A).alloc B).heap[w.heap.size + 1]? := by
  refine K1.block _ (by rw [alloc_size, alloc_size]; omega) (fun h => ?_)
  have := hF _ h
  omega

set_option maxHeartbeats 2000000 in
theorem do_calls {F : Nat → Prop} {w : World} {a : Nat} {nodes : Int} {q : Int → Int → List ByteArray} {cut : Int → Int → Bool} (h : NetIs F w a nodes q cut) (s : S46) (ht : s.f4.size ≤ 9223372036854775807) :
    Calls Try.prog 18 #[.pointer (some ⟨a, 0, none⟩), sv s] w (DoPost F w a nodes q cut s) := by
  have H := Aside0.mk h
  have HT := Aside0.mk ht
  clear h ht
  obtain ⟨k, x, y, n, t, lost, again⟩ := s
  have N0 := Aside0.mk (H.out.under (below_alloc (below_alloc (Below.refl w.heap.size w) (.cells #[.int .i64 k, .int .i64 x, .int .i64 y, .int .i64 n, .string t, .bool lost, .bool again] 46)) (.cells #[.int .i64 0, .string noT, .bool false] 43)))
  by_cases h0 : k = 0
  · have c0 : (k == 0) = true := by simp [h0]
    have HK := Aside0.mk h0
    have HP := Aside0.mk (show ¬ k = 1 by omega)
    clear h0
    go_enter Try.func18, Try.ntmps18
    go_wp2_with (fail)
    refine (send_calls N0.out x y t HT.out).mono ?_
    rintro e w1 ⟨rfl, h1, h2⟩
    have hg := do_cell H.out.flt h2
    rw [show w.heap.size + 1 = (w.alloc (.cells #[.int .i64 k, .int .i64 x, .int .i64 y, .int .i64 n, .string t, .bool lost, .bool again] 46)).heap.size by rw [alloc_size], alloc_new, alloc_size] at hg
    have hg0 : w1.cell? ⟨w.heap.size + 1, 0, none⟩ = some (.int .i64 0) := by rw [blk_cell hg]; rfl
    have hg1 : w1.cell? ⟨w.heap.size + 1, 1, none⟩ = some (.string noT) := by rw [blk_cell hg]; rfl
    have hg2 : w1.cell? ⟨w.heap.size + 1, 2, none⟩ = some (.bool false) := by rw [blk_cell hg]; rfl
    have hf0 : w1.frozen? ⟨w.heap.size + 1, 0, none⟩ = false := blk_frozen hg _
    have hf1 : w1.frozen? ⟨w.heap.size + 1, 1, none⟩ = false := blk_frozen hg _
    have hf2 : w1.frozen? ⟨w.heap.size + 1, 2, none⟩ = false := blk_frozen hg _
    have N1 := Aside0.mk h1
    have K1 := Aside0.mk h2
    have HG := Aside0.mk hg
    clear h1 h2 hg
    go_wp2_with (fail)
    obtain ⟨r1, r2⟩ := do_end N1.out (fun k hk => hk.elim .inl (fun h => .inr (by have := h.1; rw [alloc_size, alloc_size] at this; omega))) H.out.flt K1.out (.int .i64 (sendE nodes q cut x y t)) (.string noT) (.bool false)
    refine bodyPost_ret (results_cell_row rfl _ _ (w.heap.size + 1) 43 #[.int .i64 (sendE nodes q cut x y t), .string noT, .bool false] (0, 0) _ rfl (put3_at HG.out _ _ _) Try.underlying43 rfl (by kernel_rfl)) rfl ⟨?_, ?_, ?_⟩
    · show _ = _; simp only [doE, doT, doK]; rw [if_pos HK.out, if_neg HP.out, if_neg HP.out]
    · simp only [doQ, doC]; rw [if_pos HK.out, if_pos HK.out]; exact r1
    · exact r2
  · by_cases h1 : k = 1
    · have c0 : (k == 0) = false := by simp [h0]
      have c1 : (k == 1) = true := by simp [h1]
      have HK := Aside0.mk h0
      have HP := Aside0.mk h1
      clear h0 h1
      go_enter Try.func18, Try.ntmps18
      go_wp2_with (fail)
      refine (deliver_calls N0.out x y n lost again).mono ?_
      rintro e w1 ⟨rfl, h1, h2⟩
      have hg := do_cell H.out.flt h2
      rw [show w.heap.size + 1 = (w.alloc (.cells #[.int .i64 k, .int .i64 x, .int .i64 y, .int .i64 n, .string t, .bool lost, .bool again] 46)).heap.size by rw [alloc_size], alloc_new, alloc_size] at hg
      have hg0 : w1.cell? ⟨w.heap.size + 1, 0, none⟩ = some (.int .i64 0) := by rw [blk_cell hg]; rfl
      have hg1 : w1.cell? ⟨w.heap.size + 1, 1, none⟩ = some (.string noT) := by rw [blk_cell hg]; rfl
      have hg2 : w1.cell? ⟨w.heap.size + 1, 2, none⟩ = some (.bool false) := by rw [blk_cell hg]; rfl
      have hf0 : w1.frozen? ⟨w.heap.size + 1, 0, none⟩ = false := blk_frozen hg _
      have hf1 : w1.frozen? ⟨w.heap.size + 1, 1, none⟩ = false := blk_frozen hg _
      have hf2 : w1.frozen? ⟨w.heap.size + 1, 2, none⟩ = false := blk_frozen hg _
      have N1 := Aside0.mk h1
      have K1 := Aside0.mk h2
      have HG := Aside0.mk hg
      clear h1 h2 hg
      go_wp2_with (fail)
      obtain ⟨r1, r2⟩ := do_end N1.out (fun k hk => hk.elim .inl (fun h => .inr (by have := h.1; rw [alloc_size, alloc_size] at this; omega))) H.out.flt K1.out (.int .i64 0) (.string (delT nodes q x y n lost)) (.bool (delOk nodes q x y n && !lost))
      refine bodyPost_ret (results_cell_row rfl _ _ (w.heap.size + 1) 43 #[.int .i64 0, .string (delT nodes q x y n lost), .bool (delOk nodes q x y n && !lost)] (0, 0) _ rfl (put3_at HG.out _ _ _) Try.underlying43 rfl (by kernel_rfl)) rfl ⟨?_, ?_, ?_⟩
      · show _ = _; simp only [doE, doT, doK]; rw [if_neg HK.out, if_pos HP.out, if_pos HP.out, if_pos HP.out]
      · simp only [doQ, doC]; rw [if_neg HK.out, if_pos HP.out, if_neg HK.out, if_pos HP.out]; exact r1
      · exact r2
    · by_cases h2 : k = 2
      · have c0 : (k == 0) = false := by simp [h0]
        have c1 : (k == 1) = false := by simp [h1]
        have c2 : (k == 2) = true := by simp [h2]
        have HK := Aside0.mk h0
        have HP := Aside0.mk h1
        have HR := Aside0.mk h2
        clear h0 h1 h2
        go_enter Try.func18, Try.ntmps18
        go_wp2_with (fail)
        refine (cut_calls N0.out x y).mono ?_
        rintro e w1 ⟨rfl, h1, h2⟩
        have hg := do_cell H.out.flt h2
        rw [show w.heap.size + 1 = (w.alloc (.cells #[.int .i64 k, .int .i64 x, .int .i64 y, .int .i64 n, .string t, .bool lost, .bool again] 46)).heap.size by rw [alloc_size], alloc_new, alloc_size] at hg
        have hg0 : w1.cell? ⟨w.heap.size + 1, 0, none⟩ = some (.int .i64 0) := by rw [blk_cell hg]; rfl
        have hg1 : w1.cell? ⟨w.heap.size + 1, 1, none⟩ = some (.string noT) := by rw [blk_cell hg]; rfl
        have hg2 : w1.cell? ⟨w.heap.size + 1, 2, none⟩ = some (.bool false) := by rw [blk_cell hg]; rfl
        have hf0 : w1.frozen? ⟨w.heap.size + 1, 0, none⟩ = false := blk_frozen hg _
        have hf1 : w1.frozen? ⟨w.heap.size + 1, 1, none⟩ = false := blk_frozen hg _
        have hf2 : w1.frozen? ⟨w.heap.size + 1, 2, none⟩ = false := blk_frozen hg _
        have N1 := Aside0.mk h1
        have K1 := Aside0.mk h2
        have HG := Aside0.mk hg
        clear h1 h2 hg
        go_wp2_with (fail)
        obtain ⟨r1, r2⟩ := do_end N1.out (fun k hk => .inl hk) H.out.flt K1.out (.int .i64 (turnE nodes cut x y true)) (.string noT) (.bool false)
        refine bodyPost_ret (results_cell_row rfl _ _ (w.heap.size + 1) 43 #[.int .i64 (turnE nodes cut x y true), .string noT, .bool false] (0, 0) _ rfl (put3_at HG.out _ _ _) Try.underlying43 rfl (by kernel_rfl)) rfl ⟨?_, ?_, ?_⟩
        · show _ = _; simp only [doE, doT, doK]; rw [if_neg HK.out, if_neg HP.out, if_pos HR.out, if_neg HP.out, if_neg HP.out]
        · simp only [doQ, doC]; rw [if_neg HK.out, if_neg HP.out, if_pos HR.out, if_neg HK.out, if_neg HP.out, if_pos HR.out]; exact r1
        · exact r2
      · have c0 : (k == 0) = false := by simp [h0]
        have c1 : (k == 1) = false := by simp [h1]
        have c2 : (k == 2) = false := by simp [h2]
        have HK := Aside0.mk h0
        have HP := Aside0.mk h1
        have HR := Aside0.mk h2
        clear h0 h1 h2
        go_enter Try.func18, Try.ntmps18
        go_wp2_with (fail)
        refine (heal_calls N0.out x y).mono ?_
        rintro e w1 ⟨rfl, h1, h2⟩
        have hg := do_cell H.out.flt h2
        rw [show w.heap.size + 1 = (w.alloc (.cells #[.int .i64 k, .int .i64 x, .int .i64 y, .int .i64 n, .string t, .bool lost, .bool again] 46)).heap.size by rw [alloc_size], alloc_new, alloc_size] at hg
        have hg0 : w1.cell? ⟨w.heap.size + 1, 0, none⟩ = some (.int .i64 0) := by rw [blk_cell hg]; rfl
        have hg1 : w1.cell? ⟨w.heap.size + 1, 1, none⟩ = some (.string noT) := by rw [blk_cell hg]; rfl
        have hg2 : w1.cell? ⟨w.heap.size + 1, 2, none⟩ = some (.bool false) := by rw [blk_cell hg]; rfl
        have hf0 : w1.frozen? ⟨w.heap.size + 1, 0, none⟩ = false := blk_frozen hg _
        have hf1 : w1.frozen? ⟨w.heap.size + 1, 1, none⟩ = false := blk_frozen hg _
        have hf2 : w1.frozen? ⟨w.heap.size + 1, 2, none⟩ = false := blk_frozen hg _
        have N1 := Aside0.mk h1
        have K1 := Aside0.mk h2
        have HG := Aside0.mk hg
        clear h1 h2 hg
        go_wp2_with (fail)
        obtain ⟨r1, r2⟩ := do_end N1.out (fun k hk => .inl hk) H.out.flt K1.out (.int .i64 (turnE nodes cut x y false)) (.string noT) (.bool false)
        refine bodyPost_ret (results_cell_row rfl _ _ (w.heap.size + 1) 43 #[.int .i64 (turnE nodes cut x y false), .string noT, .bool false] (0, 0) _ rfl (put3_at HG.out _ _ _) Try.underlying43 rfl (by kernel_rfl)) rfl ⟨?_, ?_, ?_⟩
        · show _ = _; simp only [doE, doT, doK]; rw [if_neg HK.out, if_neg HP.out, if_neg HR.out, if_neg HP.out, if_neg HP.out]
        · simp only [doQ, doC]; rw [if_neg HK.out, if_neg HP.out, if_neg HR.out, if_neg HK.out, if_neg HP.out, if_neg HR.out]; exact r1
        · exact r2
end Go.Proofs.Ytofacphhfgkemaa.G
