/- The reference's network: what its blocks hold; New, pair and cut. -/
import Derived.Test.YtofacphhfgkemaaGm
namespace Go.Proofs.Ytofacphhfgkemaa.G
open Go.Sort Go.RowKit Go.Proofs.YtofacphhfgkemaaW.PrintWords Go.Proofs.YtofacphhfgkemaaW.PrintLast Go.Proofs.YtofacphhfgkemaaW.PrintMore
set_option linter.unusedVariables false
set_option linter.unusedSimpArgs false

/-- A message of the reference. -/
structure S69 where
  f0 : Int
  f1 : Int
  f2 : ByteArray
def z69 : S69 := ⟨0, 0, noT⟩
def k69 : Kd S69 := Kd.iso (Kd.pair (Kd.int .i64) (Kd.pair (Kd.int .i64) Kd.string)) (fun x : S69 => (x.f0, x.f1, x.f2))
theorem k69_open {w : World} {x : S69} {cs : List Value} (h : k69.K w x cs) : cs = [.int .i64 x.f0, .int .i64 x.f1, .string x.f2] := by
  obtain ⟨_, _, rfl, rfl, ⟨_, _, rfl, rfl, rfl⟩⟩ := h
  exact rfl
theorem k69_mkM (w : World) (base : Nat) (ok : Nat → Prop) (x : S69) : k69.M w base ok x [.int .i64 x.f0, .int .i64 x.f1, .string x.f2] := ⟨[.int .i64 x.f0], [.int .i64 x.f1, .string x.f2], rfl, rfl, ⟨[.int .i64 x.f1], [.string x.f2], rfl, rfl, rfl⟩⟩
theorem k69_flat {w : World} {base : Nat} {ok1 ok2 : Nat → Prop} {x : S69} {cs : List Value} (h : k69.M w base ok1 x cs) : k69.M w base ok2 x cs := by
  obtain ⟨_, _, rfl, rfl, ⟨_, _, rfl, rfl, rfl⟩⟩ := h
  exact ⟨_, _, rfl, rfl, ⟨_, _, rfl, rfl, rfl⟩⟩
def k58 : Kd (Int × Int) := Kd.pair (Kd.int .i64) (Kd.int .i64)
theorem k58_open {w : World} {x : Int × Int} {cs : List Value} (h : k58.K w x cs) : cs = [.int .i64 x.1, .int .i64 x.2] := by
  obtain ⟨_, _, rfl, rfl, rfl⟩ := h
  exact rfl
theorem k58_mkM (w : World) (base : Nat) (ok : Nat → Prop) (x : Int × Int) : k58.M w base ok x [.int .i64 x.1, .int .i64 x.2] := ⟨[.int .i64 x.1], [.int .i64 x.2], rfl, rfl, rfl⟩
theorem k58_flat {w : World} {base : Nat} {ok1 ok2 : Nat → Prop} {x : Int × Int} {cs : List Value} (h : k58.M w base ok1 x cs) : k58.M w base ok2 x cs := by
  obtain ⟨_, _, rfl, rfl, rfl⟩ := h
  exact ⟨_, _, rfl, rfl, rfl⟩
def rd69 (xs : List S69) (i : Int) : S69 := xs.getD i.toNat z69
def rd58 (xs : List (Int × Int)) (i : Int) : Int × Int := xs.getD i.toNat (0, 0)
theorem cells69 {w : World} {ad : Addr} {n : Nat} {xs : List S69} (h : Kd.C k69 w (some ad) n xs) (k : Nat) (hk : k < n) {s : S69} (hs : rd69 xs (k : Int) = s) :
    w.cell? (ad.add (k * 3)) = some (.int .i64 s.f0) ∧ w.cell? ⟨(ad.add (k * 3)).block, (ad.add (k * 3)).off + 1, none⟩ = some (.int .i64 s.f1) ∧ w.cell? ⟨(ad.add (k * 3)).block, (ad.add (k * 3)).off + 2, none⟩ = some (.string s.f2) := by
  obtain ⟨ad', c, e, _, hK, hc0⟩ := Kd.C_get h z69 (k : Int) (by omega) (by omega)
  cases e
  rw [Int.toNat_natCast] at hK hc0
  have hs' : xs.getD k z69 = s := by rw [← hs]; simp [rd69]
  rw [hs'] at hK
  have hc : ∀ j u, c[j]? = some u → w.cell? (ad.add (k * 3 + j)) = some u := hc0
  obtain rfl := k69_open hK
  exact ⟨hc 0 _ rfl, by rw [← add_field _ _ 1 (by omega)]; exact hc 1 _ rfl, by rw [← add_field _ _ 2 (by omega)]; exact hc 2 _ rfl⟩
theorem cells58 {w : World} {ad : Addr} {n : Nat} {xs : List (Int × Int)} (h : Kd.C k58 w (some ad) n xs) (k : Nat) (hk : k < n) {s : Int × Int} (hs : rd58 xs (k : Int) = s) :
    w.cell? (ad.add (k * 2)) = some (.int .i64 s.1) ∧ w.cell? ⟨(ad.add (k * 2)).block, (ad.add (k * 2)).off + 1, none⟩ = some (.int .i64 s.2) := by
  obtain ⟨ad', c, e, _, hK, hc0⟩ := Kd.C_get h (0, 0) (k : Int) (by omega) (by omega)
  cases e
  rw [Int.toNat_natCast] at hK hc0
  have hs' : xs.getD k (0, 0) = s := by rw [← hs]; simp [rd58]
  rw [hs'] at hK
  have hc : ∀ j u, c[j]? = some u → w.cell? (ad.add (k * 2 + j)) = some u := hc0
  obtain rfl := k58_open hK
  exact ⟨hc 0 _ rfl, by rw [← add_field _ _ 1 (by omega)]; exact hc 1 _ rfl⟩

/-! Rows of one's own whose elements lead nowhere. -/
def Flat {α : Type} (d : Kd α) : Prop := ∀ {w : World} {base : Nat} {ok1 ok2 : Nat → Prop} {x : α} {cs : List Value}, d.M w base ok1 x cs → d.M w base ok2 x cs
def FRow {α : Type} (d : Kd α) (e base : Nat) (w : World) (v : Value) (xs : List α) : Prop := d.R e w base (fun k => v.ownBlock = some k) v xs
section
variable {α : Type} {d : Kd α} {e base : Nat} {w w1 : World} {v : Value} {xs : List α}
theorem FRow.nil (d : Kd α) (e base : Nat) (w : World) : FRow d e base w (.slice none 0 0) [] := Kd.R_nil _ _ _ _ _
theorem FRow.move (h : FRow d e base w v xs) (hm : ∀ k, v.ownBlock = some k → w1.heap[k]? = w.heap[k]?) : FRow d e base w1 v xs := Kd.R_step h (fun k hk _ => hm k hk)
theorem FRow.lt (h : FRow d e base w v xs) (k : Nat) (hk : v.ownBlock = some k) : base ≤ k ∧ k < w.heap.size := by
  obtain ⟨inner, ho⟩ := Kd.R_own h
  exact ⟨own_base ho k hk, own_lt ho k hk⟩
theorem FRow.typed (h : FRow d e base w v xs) (k : Nat) (hk : v.ownBlock = some k) : ∃ cells, w.heap[k]? = some (.cells cells e (0, 0)) := by
  obtain ⟨inner, ho⟩ := Kd.R_own h
  exact own_typed ho k hk
theorem FRow.lower {base' : Nat} (h : FRow d e base w v xs) (hb : base' ≤ base) : FRow d e base' w v xs := Kd.R_lower h hb
theorem FRow.reads (h : FRow d e base w v xs) : ∃ A c, v = .slice A xs.length c ∧ xs.length ≤ c ∧ d.C w A xs.length xs := Kd.R_reads h
end

/-- The reference's network at block r: its messages, and the lines that are cut. -/
structure RefAt (F : Nat → Prop) (w : World) (r : Nat) (N : Int) (L : List S69) (G : List (Int × Int)) (vL vG : Value) : Prop where
  blk : w.heap[r]? = some (.cells #[.int .i64 N, vL, vG] 66 (0, 0))
  rowL : FRow k69 69 0 w vL L
  rowG : FRow k58 58 0 w vG G
  fr : F r
  fL : ∀ k, vL.ownBlock = some k → F k
  fG : ∀ k, vG.ownBlock = some k → F k
  flt : ∀ k, F k → k < w.heap.size
def RefIs (F : Nat → Prop) (w : World) (r : Nat) (N : Int) (L : List S69) (G : List (Int × Int)) : Prop := ∃ vL vG, RefAt F w r N L G vL vG
section
variable {F F' : Nat → Prop} {w w1 : World} {r : Nat} {N : Int} {L L' : List S69} {G G' : List (Int × Int)} {vL vG v1 : Value}
theorem RefAt.same (h : RefAt F w r N L G vL vG) (hs : ∀ k, F k → w1.heap[k]? = w.heap[k]?) (hz : w.heap.size ≤ w1.heap.size) : RefAt F w1 r N L G vL vG :=
  ⟨(hs r h.fr).trans h.blk, h.rowL.move (fun k hk => hs k (h.fL k hk)), h.rowG.move (fun k hk => hs k (h.fG k hk)), h.fr, h.fL, h.fG, fun k hk => Nat.lt_of_lt_of_le (h.flt k hk) hz⟩
theorem RefAt.below (h : RefAt F w r N L G vL vG) (hb : RowKit.Below w.heap.size w w1) : RefAt F w1 r N L G vL vG := h.same (fun k hk => hb.block k (h.flt k hk)) hb.size
theorem RefAt.wider (h : RefAt F w r N L G vL vG) (hF : ∀ k, F k → F' k) (hl : ∀ k, F' k → k < w.heap.size) : RefAt F' w r N L G vL vG :=
  ⟨h.blk, h.rowL, h.rowG, hF _ h.fr, fun k hk => hF _ (h.fL k hk), fun k hk => hF _ (h.fG k hk), hl⟩
theorem RefAt.cell0 (h : RefAt F w r N L G vL vG) : w.cell? ⟨r, 0, none⟩ = some (.int .i64 N) := by rw [blk_cell h.blk]; rfl
theorem RefAt.cell1 (h : RefAt F w r N L G vL vG) : w.cell? ⟨r, 1, none⟩ = some vL := by rw [blk_cell h.blk]; rfl
theorem RefAt.cell2 (h : RefAt F w r N L G vL vG) : w.cell? ⟨r, 2, none⟩ = some vG := by rw [blk_cell h.blk]; rfl
theorem RefAt.neL (h : RefAt F w r N L G vL vG) : vL.ownBlock ≠ some r := fun e => by
  obtain ⟨cells, hc⟩ := h.rowL.typed r e
  rw [h.blk] at hc
  injection hc with hc
  injection hc with _ hc
  revert hc
  decide
theorem RefAt.neG (h : RefAt F w r N L G vL vG) : vG.ownBlock ≠ some r := fun e => by
  obtain ⟨cells, hc⟩ := h.rowG.typed r e
  rw [h.blk] at hc
  injection hc with hc
  injection hc with _ hc
  revert hc
  decide
theorem RefAt.neLG (h : RefAt F w r N L G vL vG) (k : Nat) (hL : vL.ownBlock = some k) : vG.ownBlock ≠ some k := fun e => by
  obtain ⟨c1, h1⟩ := h.rowG.typed k e
  obtain ⟨c2, h2⟩ := h.rowL.typed k hL
  rw [h1] at h2
  injection h2 with h2
  injection h2 with _ h2
  revert h2
  decide
theorem cells_set {w : World} {g : Nat} {cs : Array Value} {t : TypeId} (h : w.heap[g]? = some (.cells cs t (0, 0))) (o : Nat) (ho : o < cs.size) (u : Value) : (w.setCell ⟨g, o, none⟩ u).heap[g]? = some (.cells (cs.set o u) t (0, 0)) := by
  obtain ⟨cur, h1, h2, h3⟩ := setCells_row [u] o w cs h (by simp; omega)
  have e : cur = cs.set o u := by
    apply Array.ext'
    rw [h3]
    simp [List.set_eq_take_append_cons_drop, ho]
  rw [e] at h1
  exact h1
theorem set_same (w : World) (g o : Nat) (u : Value) : (w.setCell ⟨g, o, none⟩ u).os = w.os ∧ (w.setCell ⟨g, o, none⟩ u).tape = w.tape ∧ (w.setCell ⟨g, o, none⟩ u).output = w.output ∧ (w.setCell ⟨g, o, none⟩ u).heap.size = w.heap.size := setCells_same g [u] o w
theorem set_keeps {g o : Nat} {u : Value} (hF : F g) (hk : Keeps F w w1) : Keeps F w (w1.setCell ⟨g, o, none⟩ u) := by
  obtain ⟨s1, s2, s3, s4⟩ := set_same w1 g o u
  exact ⟨s1.trans hk.os, s2.trans hk.tape, s3.trans hk.output, by rw [s4]; exact hk.size, fun k hlt hn => (Below.heap_setCell w1 ⟨g, o, none⟩ u k (fun e => hn (e ▸ hF))).trans (hk.block k hlt hn)⟩
/-- New messages are stored. -/
theorem RefAt.putL (h : RefAt F w r N L G vL vG) (hk : Keeps F w w1) (hr : w1.heap[r]? = w.heap[r]?) (hG : ∀ k, vG.ownBlock = some k → w1.heap[k]? = w.heap[k]?) (hrow : FRow k69 69 0 w1 v1 L') (hown : ∀ k, v1.ownBlock = some k → vL.ownBlock = some k ∨ w.heap.size ≤ k) :
    RefAt (newF F w (w1.setCell ⟨r, 1, none⟩ v1)) (w1.setCell ⟨r, 1, none⟩ v1) r N L' G v1 vG ∧ Keeps F w (w1.setCell ⟨r, 1, none⟩ v1) := by
  have hblk := hr.trans h.blk
  obtain ⟨s1, s2, s3, s4⟩ := set_same w1 r 1 v1
  have hne : ∀ k, v1.ownBlock = some k → k ≠ r := fun k hk1 e => by
    obtain ⟨cells, hc⟩ := hrow.typed k hk1
    rw [e, hblk] at hc
    injection hc with hc
    injection hc with _ hc
    revert hc
    decide
  have hneG : ∀ k, vG.ownBlock = some k → k ≠ r := fun k hk1 e => h.neG (e ▸ hk1)
  refine ⟨⟨cells_set hblk 1 (by simp) v1, hrow.move (fun k hk1 => Below.heap_setCell w1 ⟨r, 1, none⟩ v1 k (hne k hk1)), h.rowG.move (fun k hk1 => (Below.heap_setCell w1 ⟨r, 1, none⟩ v1 k (hneG k hk1)).trans (hG k hk1)), .inl h.fr, fun k hk1 => ?_, fun k hk1 => .inl (h.fG k hk1), fun k hk1 => ?_⟩, set_keeps h.fr hk⟩
  · rcases hown k hk1 with e | e
    · exact .inl (h.fL k e)
    · exact .inr ⟨e, by rw [s4]; exact (hrow.lt k hk1).2⟩
  · rcases hk1 with e | e
    · have := h.flt k e; rw [s4]; have := hk.size; omega
    · exact e.2
/-- New lines are stored. -/
theorem RefAt.putG (h : RefAt F w r N L G vL vG) (hk : Keeps F w w1) (hr : w1.heap[r]? = w.heap[r]?) (hL : ∀ k, vL.ownBlock = some k → w1.heap[k]? = w.heap[k]?) (hrow : FRow k58 58 0 w1 v1 G') (hown : ∀ k, v1.ownBlock = some k → vG.ownBlock = some k ∨ w.heap.size ≤ k) :
    RefAt (newF F w (w1.setCell ⟨r, 2, none⟩ v1)) (w1.setCell ⟨r, 2, none⟩ v1) r N L G' vL v1 ∧ Keeps F w (w1.setCell ⟨r, 2, none⟩ v1) := by
  have hblk := hr.trans h.blk
  obtain ⟨s1, s2, s3, s4⟩ := set_same w1 r 2 v1
  have hne : ∀ k, v1.ownBlock = some k → k ≠ r := fun k hk1 e => by
    obtain ⟨cells, hc⟩ := hrow.typed k hk1
    rw [e, hblk] at hc
    injection hc with hc
    injection hc with _ hc
    revert hc
    decide
  have hneL : ∀ k, vL.ownBlock = some k → k ≠ r := fun k hk1 e => h.neL (e ▸ hk1)
  refine ⟨⟨cells_set hblk 2 (by simp) v1, h.rowL.move (fun k hk1 => (Below.heap_setCell w1 ⟨r, 2, none⟩ v1 k (hneL k hk1)).trans (hL k hk1)), hrow.move (fun k hk1 => Below.heap_setCell w1 ⟨r, 2, none⟩ v1 k (hne k hk1)), .inl h.fr, fun k hk1 => .inl (h.fL k hk1), fun k hk1 => ?_, fun k hk1 => ?_⟩, set_keeps h.fr hk⟩
  · rcases hown k hk1 with e | e
    · exact .inl (h.fG k e)
    · exact .inr ⟨e, by rw [s4]; exact (hrow.lt k hk1).2⟩
  · rcases hk1 with e | e
    · have := h.flt k e; rw [s4]; have := hk.size; omega
    · exact e.2

theorem refnew_bad (w : World) (n : Int) (h : ¬ (1 ≤ n ∧ n ≤ 8)) : Calls Try.prog 17 #[.int .i64 n] w fun e w' => e = .returned (.tuple #[.pointer none, .int .i64 1]) ∧ w = w' := by
  by_cases h1 : n < 1
  · clear h
    go_enter Try.func17, Try.ntmps17
    go_wp2
    go_ret2
    exact ⟨rfl, rfl⟩
  · have h2 : n > 8 := by omega
    clear h
    go_enter Try.func17, Try.ntmps17
    go_wp2
    go_ret2
    exact ⟨rfl, rfl⟩
theorem refnew_ok (w : World) (n : Int) (h1 : 1 ≤ n) (h2 : n ≤ 8) : Calls Try.prog 17 #[.int .i64 n] w fun e w' => ∃ r, e = .returned (.tuple #[.pointer (some ⟨r, 0, none⟩), .int .i64 0]) ∧ RefIs (fun k => w.heap.size ≤ k ∧ k < w'.heap.size) w' r n [] [] ∧ RowKit.Below w.heap.size w w' := by
  have HN := Aside0.mk (show RefIs (fun k => w.heap.size ≤ k ∧ k < (w.alloc (.cells #[.int .i64 n, .slice none 0 0, .slice none 0 0] 66)).heap.size) (w.alloc (.cells #[.int .i64 n, .slice none 0 0, .slice none 0 0] 66)) w.heap.size n [] [] from
    ⟨.slice none 0 0, .slice none 0 0, alloc_new _ _, FRow.nil _ _ _ _, FRow.nil _ _ _ _, ⟨Nat.le_refl _, by rw [alloc_size]; omega⟩, (fun k hk => by simp [Value.ownBlock] at hk), (fun k hk => by simp [Value.ownBlock] at hk), fun k hk => hk.2⟩)
  go_enter Try.func17, Try.ntmps17
  go_wp2
  go_ret2
  exact ⟨_, rfl, HN.out, below_alloc (Below.refl _ _) _⟩

theorem pair_calls (h : RefIs F w r N L G) (x y : Int) : Calls Try.prog 32 #[.pointer (some ⟨r, 0, none⟩), .int .i64 x, .int .i64 y] w fun e w' => e = .returned (.bool (knowsB N x y)) ∧ w = w' := by
  obtain ⟨vL, vG, h⟩ := h
  have c0 := h.cell0
  clear h
  by_cases h1 : 0 ≤ x
  · by_cases h2 : x < N
    · by_cases h3 : 0 ≤ y
      · by_cases h4 : y < N
        · by_cases h5 : x = y
          · have HK := Aside0.mk (show knowsB N x y = false by unfold knowsB; simp; omega)
            have h6 : (x != y) = false := by simp [h5]
            clear h5
            go_enter Try.func32, Try.ntmps32
            go_wp2
            go_ret
            exact ⟨by rw [HK.out]; rfl, rfl⟩
          · have HK := Aside0.mk (show knowsB N x y = true by unfold knowsB; simp; omega)
            have h6 : (x != y) = true := by simp [h5]
            clear h5
            go_enter Try.func32, Try.ntmps32
            go_wp2
            go_ret
            exact ⟨by rw [HK.out]; rfl, rfl⟩
        · have HK := Aside0.mk (show knowsB N x y = false by unfold knowsB; simp; omega)
          have h6 : decide (y < N) = false := by simp; omega
          go_enter Try.func32, Try.ntmps32
          go_wp2
          go_ret
          exact ⟨by rw [HK.out]; rfl, rfl⟩
      · have HK := Aside0.mk (show knowsB N x y = false by unfold knowsB; simp; omega)
        have h6 : decide (0 ≤ y) = false := by simp; omega
        go_enter Try.func32, Try.ntmps32
        go_wp2
        go_ret
        exact ⟨by rw [HK.out]; rfl, rfl⟩
    · have HK := Aside0.mk (show knowsB N x y = false by unfold knowsB; simp; omega)
      have h6 : decide (x < N) = false := by simp; omega
      go_enter Try.func32, Try.ntmps32
      go_wp2
      go_ret
      exact ⟨by rw [HK.out]; rfl, rfl⟩
  · have HK := Aside0.mk (show knowsB N x y = false by unfold knowsB; simp; omega)
    have h6 : decide (0 ≤ x) = false := by simp; omega
    go_enter Try.func32, Try.ntmps32
    go_wp2
    go_ret
    exact ⟨by rw [HK.out]; rfl, rfl⟩

/-- Where a line stands among those that are cut. -/
def lineB (x y : Int) (g : Int × Int) : Bool := decide ((g.1 = x ∧ g.2 = y) ∨ (g.1 = y ∧ g.2 = x))
def cutIx (G : List (Int × Int)) (x y : Int) : Int := match G.findIdx? (lineB x y) with | some i => i | none => -1
theorem cutIx_none {G : List (Int × Int)} {x y : Int} (h : ∀ j : Nat, j < G.length → lineB x y (rd58 G (j : Int)) = false) : cutIx G x y = -1 := by
  have : G.findIdx? (lineB x y) = none := by
    rw [List.findIdx?_eq_none_iff]
    intro g hg
    obtain ⟨j, hj, rfl⟩ := List.getElem_of_mem hg
    have := h j hj
    simpa [rd58, List.getD_eq_getElem?_getD, List.getElem?_eq_getElem hj] using this
  simp [cutIx, this]
theorem cutIx_some {G : List (Int × Int)} {x y : Int} {k : Nat} (hk : k < G.length) (h : ∀ j : Nat, j < k → lineB x y (rd58 G (j : Int)) = false) (hp : lineB x y (rd58 G (k : Int)) = true) : cutIx G x y = k := by
  have : G.findIdx? (lineB x y) = some k := by
    rw [List.findIdx?_eq_some_iff_getElem]
    refine ⟨hk, by simpa [rd58, List.getD_eq_getElem?_getD, List.getElem?_eq_getElem hk] using hp, fun j hj => ?_⟩
    have := h j hj
    simpa [rd58, List.getD_eq_getElem?_getD, List.getElem?_eq_getElem (Nat.lt_trans hj hk)] using this
  simp [cutIx, this]

set_option maxHeartbeats 2000000 in
theorem refcut_calls (h : RefIs F w r N L G) (x y : Int) (hl : G.length ≤ 1000) : Calls Try.prog 36 #[.pointer (some ⟨r, 0, none⟩), .int .i64 x, .int .i64 y] w fun e w' => e = .returned (.int .i64 (cutIx G x y)) ∧ RowKit.Below w.heap.size w w' := by
  obtain ⟨vL, vG, h⟩ := h
  obtain ⟨A, c, rfl, hc, hC⟩ := h.rowG.reads
  have H := Aside0.mk h
  have HC := Aside0.mk hC
  have HL := Aside0.mk hl
  clear h hC hl hc
  have c2 := H.out.cell2
  go_enter Try.func36, Try.ntmps36
  go_wp2_with (fail)
  clear c2
  go_loopw [7] (fun v wr => ∃ k : Nat, k ≤ G.length ∧ v = .int .i64 k ∧ Aside0 (∀ j : Nat, j < k → lineB x y (rd58 G (j : Int)) = false) ∧ Aside0 (RowKit.Below w.heap.size w wr)) (fun v _ => G.length - (intOf v).toNat)
  case atStart => exact ⟨0, Nat.zero_le _, rfl, ⟨fun j hj => absurd hj (by omega)⟩, ⟨Below.refl _ _⟩⟩
  case round =>
    obtain ⟨k, hk, rfl, HA, HB⟩ := hrel
    have c2 := (H.out.below HB.out).cell2
    by_cases hlt : k < G.length
    · have hw : wrap64 ((k : Int) + 1) = ((k + 1 : Nat) : Int) := by have := HL.out; unfold wrap64; omega
      have HCr := Aside0.mk (Kd.C_below HC.out HB.out)
      obtain ⟨ad, e1, _⟩ := HCr.out.2.2 (by omega)
      cases e1
      obtain ⟨g, hg⟩ : ∃ g, rd58 G (k : Int) = g := ⟨_, rfl⟩
      obtain ⟨x0, x1⟩ := cells58 HCr.out k hlt hg
      have HG := Aside0.mk hg
      have HLT := Aside0.mk hlt
      clear hg
      have p1 : (0 : Int) ≤ (k : Int) := by omega
      have p2 : (k : Int) < (G.length : Int) := by omega
      have HB2 := Aside0.mk (below_then HB.out HB.out.size (below_alloc (Below.refl wr.heap.size wr) (.cells #[.int .i64 g.1, .int .i64 g.2] 58)))
      have HNo := Aside0.mk (show lineB x y g = false → ∀ j : Nat, j < k + 1 → lineB x y (rd58 G (j : Int)) = false from fun hn j hj => by
        rcases Nat.lt_or_ge j k with e | e
        · exact HA.out j e
        · obtain rfl : j = k := by omega
          rw [HG.out]; exact hn)
      by_cases a1 : g.1 = x
      · by_cases a2 : g.2 = y
        · have HY := Aside0.mk (show lineB x y g = true by unfold lineB; simp; omega)
          have b1 : (g.1 == x) = true := by simp; omega
          have b2 : (g.2 == y) = true := by simp; omega
          clear a1 a2
          have HE := Aside0.mk (cutIx_some HLT.out HA.out (by rw [HG.out]; exact HY.out))
          go_wp2_with (fail)
          go_ret
          exact ⟨by rw [HE.out]; rfl, HB2.out⟩
        · by_cases a3 : g.1 = y
          · by_cases a4 : g.2 = x
            · have HY := Aside0.mk (show lineB x y g = true by unfold lineB; simp; omega)
              have b1 : (g.1 == x) = true := by simp; omega
              have b2 : (g.2 == y) = false := by simp; omega
              have b3 : (g.1 == y) = true := by simp; omega
              have b4 : (g.2 == x) = true := by simp; omega
              clear a1 a2 a3 a4
              have HE := Aside0.mk (cutIx_some HLT.out HA.out (by rw [HG.out]; exact HY.out))
              go_wp2_with (fail)
              go_ret
              exact ⟨by rw [HE.out]; rfl, HB2.out⟩
            · have HY := Aside0.mk (show lineB x y g = false by unfold lineB; simp; omega)
              have b1 : (g.1 == x) = true := by simp; omega
              have b2 : (g.2 == y) = false := by simp; omega
              have b3 : (g.1 == y) = true := by simp; omega
              have b4 : (g.2 == x) = false := by simp; omega
              clear a1 a2 a3 a4
              go_wp2_with (fail)
              go_round
              case rel => exact ⟨k + 1, by have := HLT.out; omega, by first | (rw [hw]; done) | go_num, ⟨HNo.out HY.out⟩, HB2⟩
              case measure => first | (rw [hw]; simp only [intOf, Int.toNat_natCast]; omega) | (simp [intOf]; omega)
          · have HY := Aside0.mk (show lineB x y g = false by unfold lineB; simp; omega)
            have b1 : (g.1 == x) = true := by simp; omega
            have b2 : (g.2 == y) = false := by simp; omega
            have b3 : (g.1 == y) = false := by simp; omega
            clear a1 a2 a3
            go_wp2_with (fail)
            go_round
            case rel => exact ⟨k + 1, by have := HLT.out; omega, by first | (rw [hw]; done) | go_num, ⟨HNo.out HY.out⟩, HB2⟩
            case measure => first | (rw [hw]; simp only [intOf, Int.toNat_natCast]; omega) | (simp [intOf]; omega)
      · by_cases a3 : g.1 = y
        · by_cases a4 : g.2 = x
          · have HY := Aside0.mk (show lineB x y g = true by unfold lineB; simp; omega)
            have b1 : (g.1 == x) = false := by simp; omega
            have b3 : (g.1 == y) = true := by simp; omega
            have b4 : (g.2 == x) = true := by simp; omega
            clear a1 a3 a4
            have HE := Aside0.mk (cutIx_some HLT.out HA.out (by rw [HG.out]; exact HY.out))
            go_wp2_with (fail)
            go_ret
            exact ⟨by rw [HE.out]; rfl, HB2.out⟩
          · have HY := Aside0.mk (show lineB x y g = false by unfold lineB; simp; omega)
            have b1 : (g.1 == x) = false := by simp; omega
            have b3 : (g.1 == y) = true := by simp; omega
            have b4 : (g.2 == x) = false := by simp; omega
            clear a1 a3 a4
            go_wp2_with (fail)
            go_round
            case rel => exact ⟨k + 1, by have := HLT.out; omega, by first | (rw [hw]; done) | go_num, ⟨HNo.out HY.out⟩, HB2⟩
            case measure => first | (rw [hw]; simp only [intOf, Int.toNat_natCast]; omega) | (simp [intOf]; omega)
        · have HY := Aside0.mk (show lineB x y g = false by unfold lineB; simp; omega)
          have b1 : (g.1 == x) = false := by simp; omega
          have b3 : (g.1 == y) = false := by simp; omega
          clear a1 a3
          go_wp2_with (fail)
          go_round
          case rel => exact ⟨k + 1, by have := HLT.out; omega, by first | (rw [hw]; done) | go_num, ⟨HNo.out HY.out⟩, HB2⟩
          case measure => first | (rw [hw]; simp only [intOf, Int.toNat_natCast]; omega) | (simp [intOf]; omega)
    · have HE := Aside0.mk (cutIx_none (G := G) (x := x) (y := y) (fun j hj => HA.out j (by omega)))
      go_wp2_with (fail)
      go_ret
      exact ⟨by rw [HE.out]; rfl, HB.out⟩
end
end Go.Proofs.Ytofacphhfgkemaa.G
