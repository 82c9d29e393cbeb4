/- Deliver. -/
import Derived.Test.YtofacphhfgkemaaGg
import Derived.Defers
import Derived.Deep.RegionHeld3
namespace Go.Proofs.Ytofacphhfgkemaa.G
open Go.RowKit Go.Proofs.YtofacphhfgkemaaW.PrintWords Go.Proofs.YtofacphhfgkemaaW.PrintLast Go.Proofs.YtofacphhfgkemaaW.PrintMore
set_option linter.unusedVariables false
set_option linter.unusedSimpArgs false

/-- The cells that Deliver's closure reads. -/
structure Seen (w : World) (a b0 b1 b2 qb : Nat) (k : Int) (x y : Int) : Prop where
  n : w.cell? ⟨b0, 0, none⟩ = some (.pointer (some ⟨a, 0, none⟩))
  which : w.cell? ⟨b1, 0, none⟩ = some (.int .i64 k)
  wx : w.cell? ⟨b2, 0, none⟩ = some (.int .i64 x)
  wy : w.cell? ⟨b2, 1, none⟩ = some (.int .i64 y)
  qs : w.cell? ⟨a, 1, none⟩ = some (.map (some qb))
theorem Seen.below {w w1 : World} {a b0 b1 b2 qb : Nat} {k : Int} {x y : Int} (h : Seen w a b0 b1 b2 qb k x y) (hb : Below w.heap.size w w1) : Seen w1 a b0 b1 b2 qb k x y :=
  have g : ∀ {p : Addr} {v : Value}, w.cell? p = some v → w1.cell? p = some v := fun {p v} hp => (hb.cell (World.block_lt_of_cell? w p hp)).trans hp
  ⟨g h.n, g h.which, g h.wx, g h.wy, g h.qs⟩
theorem deliver_store {F : Nat → Prop} {w : World} {a : Nat} {nodes : Int} {q : Int → Int → List ByteArray} {cut : Int → Int → Bool} {qb cb : Nat} {fq fc : Int → Int → Option Value} (h : NetAt F w a nodes q cut qb cb fq fc)
    {x y : Int} (hx : wf64 x) (hy : wf64 y) {w3 : World} {v : Value} {l : List ByteArray} (hb : Below w.heap.size w w3) (ho : Owns w.heap.size w3 v l) (hl : l.length ≤ 100) :
    ∃ w4, (Instr.mapUpdate 54 (.map (some qb)) (.agg #[.int .i64 x, .int .i64 y]) v).run Try.prog w3 = .ok () w4 ∧ NetAt (newF F w w4) w4 a nodes (updQ q x y l) cut qb cb (upd fq x y v) fc ∧ Keeps F w w4 ∧ OnlyAt qb w3 w4 := by
  have h3 := h.below hb
  obtain ⟨w4, h1, h2, hk⟩ := h3.qmap.update Try.underlying54 hx hy v
  have hqlt := h.flt qb h.fqb
  refine ⟨w4, h1, h.put ?_ (fun k hkl hkq hko => ?_) h2 (owns_same (own_weaken ho (Nat.zero_le _)) (fun k hkk => hk.block k ?_)) hl (fun k hkk => .inr (own_base ho k hkk)), ?_, hk⟩
  · rw [hk.size]; exact hb.size
  · rw [hk.block k hkq]; exact hb.block k hkl
  · have := own_base ho k hkk; omega
  · exact (Keeps.of_below hb).trans (Keeps.of_only hk h.fqb)

theorem Seen.only {w w1 : World} {a b0 b1 b2 qb : Nat} {k : Int} {x y : Int} {f : Int → Int → Option Value} (h : Seen w a b0 b1 b2 qb k x y) (hm : MapIs w qb f) (ho : OnlyAt qb w w1) : Seen w1 a b0 b1 b2 qb k x y :=
  have g : ∀ {p : Addr} {v : Value}, w.cell? p = some v → w1.cell? p = some v := fun {p v} hp => by
    rw [← hp]
    refine cell_same (ho.block _ (fun e => ?_))
    obtain ⟨es, cl, hh, _⟩ := hm
    unfold World.cell? at hp
    rw [e, hh] at hp
    cases hp
  ⟨g h.n, g h.which, g h.wx, g h.wy, g h.qs⟩
/-- What the map of the queues holds at a pair. -/
noncomputable def look (qb : Nat) (x y : Int) (w : World) : Value := match (Instr.lookup 54 (.map (some qb)) (.agg #[.int .i64 x, .int .i64 y]) false).run Try.prog w with | .ok v _ => v | _ => .bool false
theorem look_run {w : World} {qb : Nat} {f : Int → Int → Option Value} (h : MapIs w qb f) {x y : Int} (hx : wf64 x) (hy : wf64 y) :
    (Instr.lookup 54 (.map (some qb)) (.agg #[.int .i64 x, .int .i64 y]) false).run Try.prog w = .ok (look qb x y w) w ∧ look qb x y w = (f x y).getD nilS := by
  have h1 := h.lookup54 hx hy
  unfold kv at h1
  unfold look
  rw [h1]
  exact ⟨rfl, rfl⟩

set_option maxHeartbeats 2000000 in
theorem deferred_calls {F : Nat → Prop} {w : World} {a : Nat} {nodes : Int} {q : Int → Int → List ByteArray} {cut : Int → Int → Bool} {qb cb : Nat} {fq fc : Int → Int → Option Value} (h : NetAt F w a nodes q cut qb cb fq fc)
    {x y : Int} (hk : knowsB nodes x y = true) {k : Nat} (hlt : k < (q x y).length) {b0 b1 b2 : Nat} (hs : Seen w a b0 b1 b2 qb k x y) (u : FrameMode) :
    CallsD Try.prog 24 #[.pointer (some ⟨b0, 0, none⟩), .pointer (some ⟨b2, 0, none⟩), .pointer (some ⟨b1, 0, none⟩)] u w fun e u' w' => u' = u ∧ (e = .returned (.tuple #[]) ∧ ∃ fq', NetAt (newF F w w') w' a nodes (updQ q x y ((q x y).eraseIdx k)) cut qb cb fq' fc ∧ Keeps F w w') := by
  have H := Aside0.mk h
  have HK := Aside0.mk hk
  have HL := Aside0.mk hlt
  have HQ := h.below (below_drew (Below.refl _ _))
  obtain ⟨hlk, hlv⟩ := look_run HQ.qmap (knows_wf h.small hk).1 (knows_wf h.small hk).2
  obtain ⟨A, c, hv, hC⟩ := owns_TC (HQ.owns x y)
  rw [hv] at hlv
  have hql0 : ∀ W, Below w.drew.heap.size w.drew W → (Instr.lookup 54 (.map (some qb)) (.agg #[.int .i64 x, .int .i64 y]) false).run Try.prog W = .ok (look qb x y W) W := fun W hb =>
    (look_run (HQ.below hb).qmap (knows_wf h.small hk).1 (knows_wf h.small hk).2).1
  have hql0 := Aside0.mk hql0
  clear HQ
  have HC := Aside0.mk hC
  have HF := Aside0.mk (h.few x y)
  have HS := Aside0.mk hs
  have hs0 := hs.n
  have hs1 := hs.which
  have hs2 := hs.wx
  have hs3 := hs.wy
  have hs4 := hs.qs
  have hwr : IntKind.i64.wrap ((k : Int) + 1) = ((k + 1 : Nat) : Int) := by rw [IntKind.wrap_i64]; have := h.few x y; omega
  have HCC := Aside0.mk (clone_calls A c (q x y) w.drew hC (Nat.le_trans (h.few x y) (by omega)))
  have HD := Aside0.mk (h.below (below_drew (Below.refl _ _)))
  have HS1 := Aside0.mk (hs.below (below_drew (Below.refl _ _)))
  clear h hk hlt hs hv hC
  go_enter_d Try.func24, Try.ntmps24
  go_wp2_with (fail)
  have hd0 : w.drew.cell? ⟨b0, 0, none⟩ = some (.pointer (some ⟨a, 0, none⟩)) := hs0
  have hd1 : w.drew.cell? ⟨b1, 0, none⟩ = some (.int .i64 k) := hs1
  have hd2 : w.drew.cell? ⟨b2, 0, none⟩ = some (.int .i64 x) := hs2
  have hd3 : w.drew.cell? ⟨b2, 1, none⟩ = some (.int .i64 y) := hs3
  have hd4 : w.drew.cell? ⟨a, 1, none⟩ = some (.map (some qb)) := hs4
  go_region_held3 (fun w' => w'.cell? ⟨b0, 0, none⟩ = some (.pointer (some ⟨a, 0, none⟩)) ∧ w'.cell? ⟨b1, 0, none⟩ = some (.int .i64 k) ∧ w'.cell? ⟨b2, 0, none⟩ = some (.int .i64 x) ∧ w'.cell? ⟨b2, 1, none⟩ = some (.int .i64 y) ∧ w'.cell? ⟨a, 1, none⟩ = some (.map (some qb)) ∧
      (Instr.lookup 54 (.map (some qb)) (.agg #[.int .i64 x, .int .i64 y]) false).run Try.prog w' = .ok (look qb x y w') w')
    (first
      | exact ⟨hd0, hd1, hd2, hd3, hd4, hlk⟩
      | exact ⟨hq0, hq1, hq2, hq3, hq4, hql⟩
      | exact ⟨hr0, hr1, hr2, hr3, hr4, hrl⟩
      | exact ⟨hz0, hz1, hz2, hz3, hz4, hzl⟩)
    (first
    | (go_at_call 26; refine HCC.out.mono ?_; rintro e w1 ⟨v, rfl, ho, hb⟩; have HO1 := Aside0.mk ho; have HB1 := Aside0.mk hb; have hq := HS1.out.below hb; have hq0 := hq.n; have hq1 := hq.which; have hq2 := hq.wx; have hq3 := hq.wy; have hq4 := hq.qs; have hql := hql0.out w1 hb; have HDD := Aside0.mk (delete_calls ho hb.size k HL.out (Nat.le_trans HF.out (by omega))); clear ho hb hq)
    | (go_at_call 25; refine HDD.out.mono ?_; rintro e w2 ⟨v2, rfl, ho2, hat, hg⟩; have hb2 := HB1.out.grown hg HB1.out.size (own_base HO1.out); have hq := HS1.out.below hb2; have hr0 := hq.n; have hr1 := hq.which; have hr2 := hq.wx; have hr3 := hq.wy; have hr4 := hq.qs; have hrl := hql0.out w2 hb2; obtain ⟨w4, hmu, hn4, hk4, ho4⟩ := deliver_store HD.out (knows_wf HD.out.small HK.out).1 (knows_wf HD.out.small HK.out).2 hb2 ho2 (by have := HF.out; have := HL.out; rw [List.length_eraseIdx_of_lt HL.out]; omega); have HN4 := Aside0.mk hn4; have HK4 := Aside0.mk hk4; have hz := hq.only (HD.out.below hb2).qmap ho4; have hz0 := hz.n; have hz1 := hz.which; have hz2 := hz.wx; have hz3 := hz.wy; have hz4 := hz.qs; have hzl := (look_run hn4.qmap (knows_wf HD.out.small HK.out).1 (knows_wf HD.out.small HK.out).2).1; clear hz ho4 hb2 hq hn4 hk4 ho2 hat hg))
  go_end0
  exact ⟨rfl, _, newF_mono (w0 := w.drew) HN4.out (Nat.le_refl _), (Keeps.of_below (below_drew (Below.refl _ _))).trans HK4.out⟩
end Go.Proofs.Ytofacphhfgkemaa.G
