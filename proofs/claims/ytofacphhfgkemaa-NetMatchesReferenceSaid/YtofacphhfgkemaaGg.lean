/- New; slices.Delete. -/
import Derived.Test.YtofacphhfgkemaaGf
import Derived.Carry
import Derived.Lib.SliceRun
namespace Go.Proofs.Ytofacphhfgkemaa.G
open Go.RowKit Go.Proofs.YtofacphhfgkemaaW.PrintWords Go.Proofs.YtofacphhfgkemaaW.PrintLast Go.Proofs.YtofacphhfgkemaaW.PrintMore
set_option linter.unusedVariables false
set_option linter.unusedSimpArgs false

def since (w w1 : World) : Nat → Prop := fun k => w.heap.size ≤ k ∧ k < w1.heap.size
theorem new_made (w : World) (n : Int) (hn : n ≤ 8) : NetIs (since w (((w.alloc (.map #[] 0)).alloc (.map #[] 0)).alloc (.cells #[.int .i64 n, .map (some w.heap.size), .map (some (w.heap.size + 1))] 57))) (((w.alloc (.map #[] 0)).alloc (.map #[] 0)).alloc (.cells #[.int .i64 n, .map (some w.heap.size), .map (some (w.heap.size + 1))] 57)) (w.heap.size + 2) n (fun _ _ => []) (fun _ _ => false) := by
  have s1 := alloc_size w (.map #[] 0)
  have s2 := alloc_size (w.alloc (.map #[] 0)) (.map #[] 0)
  have s3 := alloc_size ((w.alloc (.map #[] 0)).alloc (.map #[] 0)) (.cells #[.int .i64 n, .map (some w.heap.size), .map (some (w.heap.size + 1))] 57)
  have m1 := MapIs.made w
  have m2 := MapIs.made (w.alloc (.map #[] 0))
  rw [s1] at m2
  refine ⟨w.heap.size, w.heap.size + 1, fun _ _ => none, fun _ _ => none, ?_⟩
  exact
    { net := by
        have h := alloc_new ((w.alloc (.map #[] 0)).alloc (.map #[] 0)) (.cells #[.int .i64 n, .map (some w.heap.size), .map (some (w.heap.size + 1))] 57)
        rw [s2, s1] at h
        exact h
      small := hn
      qmap := m1.same ((alloc_old _ _ (by omega)).trans (alloc_old _ _ (by omega)))
      cmap := m2.same (alloc_old _ _ (by omega))
      apart := by omega
      fa := ⟨by omega, by omega⟩
      fqb := ⟨by omega, by omega⟩
      fcb := ⟨by omega, by omega⟩
      flt := fun k hk => hk.2
      owns := fun x y => ⟨rfl, .inl ⟨rfl, rfl⟩⟩
      fown := fun x y k hk => by simp [Value.ownBlock] at hk
      uniq := fun x y x' y' k hk => by simp [Value.ownBlock] at hk
      cuts := fun x y => rfl
      few := fun x y => by simp }

theorem new_bad (w : World) (n : Int) (h : ¬ (1 ≤ n ∧ n ≤ 8)) : Calls Try.prog 11 #[.int .i64 n] w fun e w' => e = .returned (.tuple #[.pointer none, .int .i64 1]) ∧ w = w' := by
  by_cases h1 : n < 1
  · clear h
    go_enter Try.func11, Try.ntmps11
    go_wp2
    go_ret2
    exact ⟨rfl, rfl⟩
  · have h2 : n > 8 := by omega
    clear h
    go_enter Try.func11, Try.ntmps11
    go_wp2
    go_ret2
    exact ⟨rfl, rfl⟩
theorem new_ok (w : World) (n : Int) (h1 : 1 ≤ n) (h2 : n ≤ 8) : Calls Try.prog 11 #[.int .i64 n] w fun e w' => ∃ a, e = .returned (.tuple #[.pointer (some ⟨a, 0, none⟩), .int .i64 0]) ∧ NetIs (since w w') w' a n (fun _ _ => []) (fun _ _ => false) ∧ Below w.heap.size w w' := by
  have HN := Aside0.mk (new_made w n (by omega))
  have hmm := @run_makeMap Try.prog
  go_enter Try.func11, Try.ntmps11
  go_wp2
  go_ret2
  exact ⟨_, rfl, HN.out, below_alloc (below_alloc (below_alloc (Below.refl _ _) _) _) _⟩

theorem zero9 (w : World) : (zeroValue 9).run Try.prog w = .ok (.string { data := #[] }) w := by kernel_rfl
theorem clear_last {base g cap n m : Nat} {w : World} {l : List ByteArray} (ho : Owns base w (.slice (some ⟨g, 0, none⟩) m cap) l) (hl : l.length = n - 1) (hn : 0 < n) (hc : n ≤ cap) (c : Nat) (ty : TypeId) :
    ∃ w2, (Builtin.clear_ #[22] ty #[.slice (some ⟨g, n - 1, none⟩) (n - (n - 1)) c]).run Try.prog w = .ok (.tuple #[]) w2 ∧ Owns base w2 (.slice (some ⟨g, 0, none⟩) m cap) l ∧ w.grownBy w2 (some g) := by
  obtain ⟨h0, h1⟩ := ho
  rcases h1 with ⟨h1, _⟩ | ⟨g', cap', cur, he, hb, hh, hnc, hcm, hcs, htk⟩
  · cases h1
  injection he with ha hm hcap
  injection ha with ha
  injection ha with ha
  subst ha; subst hcap
  have h1' : n - (n - 1) = 1 := by omega
  have hrun := Go.Lib.run_clear_slice (P := Try.prog) w 22 9 ty (.string { data := #[] }) Try.underlying22 zero9 rfl rfl g (n - 1) (n - (n - 1)) c (by omega)
    (fun j hj => by rw [cell_of_row w g _ cur 9 (0, 0) hh]; simp; omega) (fun j _ => blk_frozen hh _)
  obtain ⟨cur', h3, h4, h5⟩ := setCells_row (List.replicate (n - (n - 1)) (.string { data := #[] })) (n - 1) w cur hh (by simp; omega)
  obtain ⟨s1, s2, s3, s4⟩ := setCells_same g (List.replicate (n - (n - 1)) (.string { data := #[] })) (n - 1) w
  refine ⟨_, hrun, ⟨h0, .inr ⟨g, cap, cur', by rw [hm], hb, h3, hnc, hcm, by rw [h4, hcs], ?_⟩⟩, ⟨s1, s2, s3, by rw [s4]; exact Nat.le_refl _, fun k' _ hk' => setCells_far _ _ k' (fun e => hk' (by rw [e]))⟩⟩
  have h7 : l.length * 1 = n - 1 := by omega
  rw [h7] at htk ⊢
  rw [h5, List.append_assoc, List.take_left' (by simp; omega)]
  exact htk

set_option maxHeartbeats 1000000 in
/-- slices.Delete of one text, from a row of one's own. -/
theorem delete_calls {base : Nat} {w : World} {v : Value} {l : List ByteArray} (ho : Owns base w v l) (hb : base ≤ w.heap.size) (k : Nat) (hk : k < l.length) (hl : l.length ≤ 1000) :
    Calls Try.prog 25 #[v, .int .i64 k, .int .i64 (k + 1 : Nat)] w fun e w' => ∃ v1, e = .returned v1 ∧ Owns base w' v1 (l.eraseIdx k) ∧ v1.ownBlock = v.ownBlock ∧ w.grownBy w' v.ownBlock := by
  obtain ⟨g, cap, rfl, hbg, hlt⟩ := World.ownsRow.form ho (by omega)
  have HO := Aside0.mk ho
  have hcap : l.length ≤ cap := by
    rcases ho.2 with ⟨h, _⟩ | ⟨g', c', cur, h, _, _, h2, _⟩
    · cases h
    · injection h with _ _ h; omega
  have hcm : cap ≤ maxLen := by
    rcases ho.2 with ⟨h, _⟩ | ⟨g', c', cur, h, _, _, _, h2, _⟩
    · cases h
    · injection h with _ _ h; omega
  simp only [maxLen] at hcm
  have q0 : (0 : Int) ≤ (k : Int) := by omega
  have q1 : (k : Int) ≤ (cap : Int) := by omega
  have q2 : (0 : Int) ≤ (k : Int) + 1 := by omega
  have q3 : (k : Int) + 1 ≤ (l.length : Int) := by omega
  have q4 : ((k : Int) + 1).toNat = k + 1 := by omega
  obtain ⟨A, hA⟩ : ∃ A, (if cap = k + 1 then some (⟨g, 0, none⟩ : Addr) else some ⟨g, k + 1, none⟩) = A := ⟨_, rfl⟩
  clear ho
  go_enter Try.func25, Try.ntmps25
  go_wp2_with (fail)
  have HR := Aside0.mk (Kd.R_of_own (enc := Value.string) (h1 := fun _ => rfl) (ok := fun _ => True) HO.out (fun _ _ => trivial))
  have HD := Aside0.mk (Kd.R_drew HR.out)
  have HA := Aside0.mk hA
  go_still_tail 6, (by kernel_rfl)
  refine Kd.R_delete Kd.string (w0 := w.drew) base rfl (.tmp 22) (.tmp 25) 22 9 rfl Try.underlying22 (by kernel_rfl) (g := g) (n := l.length) (c := cap) (k := k) (m := l.length - (k + 1)) (c2 := cap - (k + 1)) (A := A) (xs := l) (ok := fun _ => True) rfl rfl (by rw [← HA.out]; simp [Addr.add, Kd.string, Kd.scalar]) rfl HD.out hk (Below.refl _ _) hb ?_
  intro w1 hr hb1 hg1
  have HR1 := Aside0.mk hr
  have HG1 := Aside0.mk hg1
  obtain ⟨w2, hclr, hown2, hg2⟩ := clear_last (cap := cap) (Kd.own_of_R (enc := Value.string) (h1 := fun _ => rfl) hr) (by rw [List.length_eraseIdx_of_lt hk]) (by omega) hcap (cap - (l.length - 1)) 0
  have HO2 := Aside0.mk hown2
  have HG2 := Aside0.mk hg2
  clear hb1 hr hg1 hown2 hg2
  go_wp2_with (fail)
  go_ret
  refine ⟨_, rfl, HO2.out, rfl, ?_⟩
  have hfin := ((World.grownBy.refl w.drew _).trans HG1.out).trans HG2.out
  exact ⟨hfin.os, hfin.tape, hfin.output, hfin.size, hfin.block⟩
end Go.Proofs.Ytofacphhfgkemaa.G
