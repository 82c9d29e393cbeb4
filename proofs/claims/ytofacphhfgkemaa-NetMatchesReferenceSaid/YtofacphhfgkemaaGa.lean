/- Maps keyed by pairs of whole numbers, as the network's two maps are: look up, store, append into an entry. -/
import Derived.Test.YtofacphhfgkemaaProg
import Derived.Below
import Derived.Deep.Draws
import Derived.Deep.AppendLies
import Derived.Maps.AppendAt
import Derived.OwnWalk
import Derived.Laws.BytesArg
import Derived.Laws.MakeOwn
import Derived.Laws.OwnMore
import Derived.Deep.OwnRows
import Derived.Tactics
import Derived.Lib.ConvBytes
import Derived.Laws.Slices
import Derived.WalkKit
import Derived.KernelRfl
import Derived.RowKit3
import Derived.Deep.LoopGhost
import Derived.Deep.QuietTactic
import Derived.BigQuiet
import Derived.WideLaws
import Derived.Deep.DeepCutAuto
import Derived.Deep.CutBlock
import Derived.Deep.RegionHeld3
import Derived.Laws.Rows
import Derived.Lib.AppendStr
import Derived.ArgAppend
import Derived.Laws.IdiomCopy
import Derived.OrdersHeld
import Derived.Laws.BitsLemmas
import Derived.RowKit
import Derived.Test.YtofacphhfgkemaaWWords
import Derived.Test.YtofacphhfgkemaaWLast
import Derived.Test.YtofacphhfgkemaaWTab
import Derived.Test.YtofacphhfgkemaaWFour
import Derived.Test.YtofacphhfgkemaaWQPut
import Derived.Test.YtofacphhfgkemaaWApart
import Derived.Test.YtofacphhfgkemaaWArr
import Derived.Test.YtofacphhfgkemaaWZeros
import Derived.Test.YtofacphhfgkemaaWFoot
import Derived.Test.YtofacphhfgkemaaWKept
import Derived.Test.YtofacphhfgkemaaWShare
import Derived.Test.YtofacphhfgkemaaWN
import Derived.Test.YtofacphhfgkemaaWFootNe
import Derived.Test.YtofacphhfgkemaaWAt
import Derived.Test.YtofacphhfgkemaaWEqStruct
import Derived.Test.YtofacphhfgkemaaWRepsOne
import Derived.Test.YtofacphhfgkemaaWInv
import Derived.Test.YtofacphhfgkemaaWInvWords
import Derived.Test.YtofacphhfgkemaaWGuard
import Derived.Test.YtofacphhfgkemaaWNEv
import Derived.Test.YtofacphhfgkemaaWMore
import Derived.Lib.Hide
import Derived.Shelf.Abstract
import Derived.WalkLawsBesides
import Derived.DeepKeys4
import Derived.WideKeyMaps
namespace Go.Proofs.Ytofacphhfgkemaa.G
open Go.RowKit Go.Proofs.YtofacphhfgkemaaW.PrintWords Go.Proofs.YtofacphhfgkemaaW.PrintLast Go.Proofs.YtofacphhfgkemaaW.PrintMore
set_option linter.unusedVariables false
set_option linter.unusedSimpArgs false

theorem laidOut : laidOutB Try.prog = true := by kernel_rfl
theorem row59 : (59 : TypeId) < Try.prog.types.size := of_decide_eq_true (by kernel_rfl)
theorem wide59 : (match Try.prog.underlying 59 with | some (.array _ _) | some (.struct _) => true | _ => false) = true := by rw [Try.underlying59]
theorem law : WideMaps.KeyLaw Try.prog 59 := deep_law_laid laidOut (m := 2) (by omega) row59 (by kernel_rfl) wide59

/-- A pair of nodes as a key. -/
def kv (a b : Int) : Value := .agg #[.int .i64 a, .int .i64 b]
theorem kv_inj {a b c d : Int} (h : kv a b = kv c d) : a = c ∧ b = d := by
  unfold kv at h
  injection h with h
  have h := congrArg Array.toList h
  simp at h
  exact h
def wf64 (a : Int) : Prop := (Lit.int .i64 a).wf = true
theorem wf_small {a : Int} (h0 : -1000 ≤ a) (h1 : a ≤ 1000) : wf64 a := by
  unfold wf64
  simp [Lit.wf, IntKind.min, IntKind.max, IntKind.signed, IntKind.bits]
  omega
theorem cells59 : Try.prog.cellsOf 59 = 2 := by kernel_rfl
theorem cells3 : Try.prog.cellsOf 3 = 1 := by kernel_rfl
theorem key_kv {a b : Int} (ha : wf64 a) (hb : wf64 b) : ∃ l, keyOf Try.prog 59 (kv a b) = some l := by
  have hk : Try.prog.keyType 59 = true := by kernel_rfl
  have hf : (kv a b).formed Try.prog 59 = true := by
    unfold kv
    simp [Value.formed, Try.underlying59, cells59]
  obtain ⟨m, hm⟩ : ∃ m, Try.prog.types.size = m + 1 := ⟨Try.prog.types.size - 1, by have := row59; simp only [TypeId] at this; omega⟩
  unfold keyOf
  rw [Try.underlying59]
  simp only [hk, hf, hm]
  unfold wf64 at ha hb
  simp [Program.keyLits, Try.underlying59, Try.underlying3, cells59, cells3, kv, Value.cells, List.range_succ, ha, hb]

/-- The block mb of w is a map from pairs of whole numbers that answers f. -/
def MapIs (w : World) (mb : Nat) (f : Int → Int → Option Value) : Prop :=
  ∃ es clock, w.heap[mb]? = some (.map es clock) ∧ (∀ e ∈ es.toList, ∃ a b, wf64 a ∧ wf64 b ∧ e.key = kv a b) ∧ es.toList.Pairwise (fun x y => x.key ≠ y.key ∧ x.born ≠ y.born) ∧ (∀ e ∈ es.toList, e.born < clock) ∧
    (∀ e ∈ es.toList, ∀ a b, e.key = kv a b → f a b = some e.val) ∧ ∀ a b, (∀ e ∈ es.toList, e.key ≠ kv a b) → f a b = none
/-- f, but for the value at (a, b). -/
def upd (f : Int → Int → Option Value) (a b : Int) (v : Value) : Int → Int → Option Value := fun x y => if x = a ∧ y = b then some v else f x y
theorem MapIs.lt {w : World} {mb : Nat} {f : Int → Int → Option Value} (h : MapIs w mb f) : mb < w.heap.size := by
  obtain ⟨es, clock, hh, _⟩ := h
  exact (Array.getElem?_eq_some_iff.1 hh).1
theorem MapIs.same {w w1 : World} {mb : Nat} {f : Int → Int → Option Value} (h : MapIs w mb f) (hs : w1.heap[mb]? = w.heap[mb]?) : MapIs w1 mb f := by
  obtain ⟨es, clock, hh, r⟩ := h
  exact ⟨es, clock, hs.trans hh, r⟩
theorem MapIs.made (w : World) : MapIs (w.alloc (.map #[] 0)) w.heap.size (fun _ _ => none) :=
  ⟨#[], 0, (MapKept.heap_alloc w _).1, by simp, by simp, by simp, by simp, fun _ _ _ => rfl⟩

/-- What is found at a key. -/
theorem MapIs.find {w : World} {es : Array MapEntry} {f : Int → Int → Option Value} (hk : ∀ e ∈ es.toList, ∃ a b, wf64 a ∧ wf64 b ∧ e.key = kv a b) (hv : ∀ e ∈ es.toList, ∀ a b, e.key = kv a b → f a b = some e.val) (hn : ∀ a b, (∀ e ∈ es.toList, e.key ≠ kv a b) → f a b = none)
    {a b : Int} (ha : wf64 a) (hb : wf64 b) :
    (f a b = none ∧ (Instr.findKey 59 (kv a b) es.toList).run Try.prog w = .ok none w ∧ ∀ e ∈ es.toList, e.key ≠ kv a b) ∨ ∃ j e, f a b = some e.val ∧ (Instr.findKey 59 (kv a b) es.toList).run Try.prog w = .ok (some (j, e.val)) w ∧ es.toList[j]? = some e ∧ e.key = kv a b := by
  obtain ⟨l, hl⟩ := key_kv ha hb
  have hk' : ∀ e ∈ es.toList, ∃ l, keyOf Try.prog 59 e.key = some l := fun e he => by
    obtain ⟨a, b, h1, h2, h3⟩ := hk e he
    rw [h3]; exact key_kv h1 h2
  rcases law.find w hl es.toList hk' with ⟨h1, h2⟩ | ⟨j, e, h1, h2, h3⟩
  · exact .inl ⟨hn a b h2, h1, h2⟩
  · exact .inr ⟨j, e, hv e (List.mem_of_getElem? h2) a b h3, h1, h2, h3⟩
theorem check_kv {a b : Int} (ha : wf64 a) (hb : wf64 b) (w : World) (em : Bool) : (Instr.checkKey em 10000 59 (kv a b)).run Try.prog w = .ok () w := by
  obtain ⟨l, hl⟩ := key_kv ha hb
  exact law.check w em hl
theorem stays_kv {a b : Int} (ha : wf64 a) (hb : wf64 b) (w : World) : (Instr.keyThatStays (kv a b) (kv a b)).run Try.prog w = .ok (kv a b) w := by
  obtain ⟨l, hl⟩ := key_kv ha hb
  exact law.stays w hl
theorem zero22 (w : World) : (zeroValue 22).run Try.prog w = .ok (.slice none 0 0) w := by kernel_rfl
theorem zero4 (w : World) : (zeroValue 4).run Try.prog w = .ok (.bool false) w := by kernel_rfl

theorem MapIs.lookup54 {w : World} {mb : Nat} {f : Int → Int → Option Value} (h : MapIs w mb f) {a b : Int} (ha : wf64 a) (hb : wf64 b) :
    (Instr.lookup 54 (.map (some mb)) (kv a b) false).run Try.prog w = .ok ((f a b).getD (.slice none 0 0)) w := by
  obtain ⟨es, clock, hh, hk, _, _, hv, hn⟩ := h
  have hc := check_kv ha hb w es.isEmpty
  rcases MapIs.find (w := w) hk hv hn ha hb with ⟨h1, h2, _⟩ | ⟨j, e, h1, h2, _⟩
  · rw [h1]
    simp [Instr.lookup, Sem.run_bind, run_underlying Try.underlying54, MapKept.run_getObj_map hh, hc, h2, zero22]
  · rw [h1]
    simp [Instr.lookup, Sem.run_bind, run_underlying Try.underlying54, MapKept.run_getObj_map hh, hc, h2]
theorem MapIs.lookup55 {w : World} {mb : Nat} {f : Int → Int → Option Value} (h : MapIs w mb f) {a b : Int} (ha : wf64 a) (hb : wf64 b) :
    (Instr.lookup 55 (.map (some mb)) (kv a b) false).run Try.prog w = .ok ((f a b).getD (.bool false)) w := by
  obtain ⟨es, clock, hh, hk, _, _, hv, hn⟩ := h
  have hc := check_kv ha hb w es.isEmpty
  rcases MapIs.find (w := w) hk hv hn ha hb with ⟨h1, h2, _⟩ | ⟨j, e, h1, h2, _⟩
  · rw [h1]
    simp [Instr.lookup, Sem.run_bind, run_underlying Try.underlying55, MapKept.run_getObj_map hh, hc, h2, zero4]
  · rw [h1]
    simp [Instr.lookup, Sem.run_bind, run_underlying Try.underlying55, MapKept.run_getObj_map hh, hc, h2]

/-- Nothing but the block mb has turned. -/
structure OnlyAt (mb : Nat) (w w1 : World) : Prop where
  os : w1.os = w.os
  tape : w1.tape = w.tape
  output : w1.output = w.output
  size : w1.heap.size = w.heap.size
  block : ∀ k, k ≠ mb → w1.heap[k]? = w.heap[k]?
def putB (w : World) (mb : Nat) (o : Obj) : World := { w with heap := w.heap.setIfInBounds mb o }
theorem putB_only (w : World) (mb : Nat) (o : Obj) : OnlyAt mb w (putB w mb o) :=
  ⟨rfl, rfl, rfl, by simp [putB], fun k hk => by
    simp only [putB, Array.getElem?_setIfInBounds]
    rw [if_neg (fun e => hk e.symm)]⟩
theorem putB_at {w : World} {mb : Nat} (o : Obj) (h : mb < w.heap.size) : (putB w mb o).heap[mb]? = some o := by simp [putB, h]

theorem pushed {es : Array MapEntry} {clock : Nat} {f : Int → Int → Option Value} (hk : ∀ e ∈ es.toList, ∃ a b, wf64 a ∧ wf64 b ∧ e.key = kv a b) (hd : es.toList.Pairwise (fun x y => x.key ≠ y.key ∧ x.born ≠ y.born)) (hc : ∀ e ∈ es.toList, e.born < clock)
    (hv : ∀ e ∈ es.toList, ∀ a b, e.key = kv a b → f a b = some e.val) (hn : ∀ a b, (∀ e ∈ es.toList, e.key ≠ kv a b) → f a b = none) {a b : Int} (ha : wf64 a) (hb : wf64 b) (hno : ∀ e ∈ es.toList, e.key ≠ kv a b) (v : Value) {w : World} {mb : Nat}
    (hh : w.heap[mb]? = some (.map (es.push { key := kv a b, val := v, born := clock }) (clock + 1))) : MapIs w mb (upd f a b v) := by
  refine ⟨_, _, hh, fun e he => ?_, ?_, fun e he => ?_, fun e he x y hxy => ?_, fun x y hxy => ?_⟩
  · rw [Array.toList_push] at he
    rcases List.mem_append.1 he with he | he
    · exact hk e he
    · rw [List.mem_singleton.1 he]; exact ⟨a, b, ha, hb, rfl⟩
  · rw [Array.toList_push, List.pairwise_append]
    refine ⟨hd, by simp, fun x hx y hy => ?_⟩
    rw [List.mem_singleton.1 hy]
    exact ⟨hno x hx, fun e => by have := hc x hx; simp at e; omega⟩
  · rw [Array.toList_push] at he
    rcases List.mem_append.1 he with he | he
    · have := hc e he; omega
    · rw [List.mem_singleton.1 he]; show clock < clock + 1; omega
  · rw [Array.toList_push] at he
    unfold upd
    rcases List.mem_append.1 he with he | he
    · rw [if_neg (fun h => hno e he (by rw [hxy, h.1, h.2]))]; exact hv e he x y hxy
    · rw [List.mem_singleton.1 he] at hxy ⊢
      obtain ⟨h1, h2⟩ := kv_inj hxy
      rw [if_pos ⟨h1.symm, h2.symm⟩]
  · rw [Array.toList_push] at hxy
    unfold upd
    rw [if_neg (fun h => hxy { key := kv a b, val := v, born := clock } (by simp) (by rw [h.1, h.2]))]
    exact hn x y (fun e he => hxy e (List.mem_append.2 (.inl he)))
theorem turned {es : Array MapEntry} {clock : Nat} {f : Int → Int → Option Value} (hk : ∀ e ∈ es.toList, ∃ a b, wf64 a ∧ wf64 b ∧ e.key = kv a b) (hd : es.toList.Pairwise (fun x y => x.key ≠ y.key ∧ x.born ≠ y.born)) (hc : ∀ e ∈ es.toList, e.born < clock)
    (hv : ∀ e ∈ es.toList, ∀ a b, e.key = kv a b → f a b = some e.val) (hn : ∀ a b, (∀ e ∈ es.toList, e.key ≠ kv a b) → f a b = none) {a b : Int} {j : Nat} {e0 : MapEntry} (hj : es.toList[j]? = some e0) (hkey : e0.key = kv a b) (v : Value) (g : MapEntry → MapEntry) (hg : g e0 = { e0 with val := v }) {w : World} {mb : Nat}
    (hh : w.heap[mb]? = some (.map (es.modify j g) clock)) : MapIs w mb (upd f a b v) := by
  have hm : (es.modify j g).toList = es.toList.set j { e0 with val := v } := by
    apply List.ext_getElem?
    intro i
    rw [Array.getElem?_toList, Array.getElem?_modify, List.getElem?_set]
    have hjl : j < es.toList.length := (List.getElem?_eq_some_iff.1 hj).1
    have hjl' : j < es.size := by simpa using hjl
    by_cases e : j = i
    · subst e
      rw [if_pos rfl, if_pos rfl, if_pos (by simpa using hjl)]
      have : es[j]? = some e0 := by rw [← Array.getElem?_toList]; exact hj
      rw [this]; simp [hg]
    · rw [if_neg e, if_neg e, Array.getElem?_toList]
  have hjl : j < es.toList.length := (List.getElem?_eq_some_iff.1 hj).1
  have hmem : ∀ e, e ∈ es.toList.set j { e0 with val := v } → (e = { e0 with val := v }) ∨ (e ∈ es.toList ∧ e.key ≠ kv a b) := by
    intro e he
    obtain ⟨i, hi, he⟩ := List.getElem_of_mem he
    rw [List.getElem_set] at he
    by_cases h : j = i
    · rw [if_pos h] at he; exact .inl he.symm
    · rw [if_neg h] at he
      have hi' : i < es.toList.length := by simpa using hi
      refine .inr ⟨he ▸ List.getElem_mem hi', ?_⟩
      have hp := List.pairwise_iff_getElem.1 hd
      have hj0 : es.toList[j] = e0 := by have := List.getElem?_eq_getElem hjl; rw [hj] at this; exact (Option.some.inj this).symm
      have hkk : (es.toList[j]'hjl).key = kv a b := by rw [hj0]; exact hkey
      rw [← he, ← hkk]
      rcases Nat.lt_or_ge i j with hlt | hge
      · exact (hp i j hi' hjl hlt).1
      · exact fun e => (hp j i hjl hi' (by omega)).1 e.symm
  refine ⟨_, _, hh, fun e he => ?_, ?_, fun e he => ?_, fun e he x y hxy => ?_, fun x y hxy => ?_⟩
  · rw [hm] at he
    rcases hmem e he with rfl | ⟨h, _⟩
    · exact hk e0 (List.mem_of_getElem? hj)
    · exact hk e h
  · rw [hm]
    have : (es.toList.set j { e0 with val := v }).map (fun e => (e.key, e.born)) = es.toList.map (fun e => (e.key, e.born)) := by
      rw [List.map_set]
      apply List.ext_getElem?
      intro i
      rw [List.getElem?_set]
      by_cases e : j = i
      · subst e
        rw [if_pos rfl, if_pos (by simpa using hjl), List.getElem?_map, hj]; rfl
      · rw [if_neg e]
    have hd2 : (es.toList.map (fun e => (e.key, e.born))).Pairwise (fun x y => x.1 ≠ y.1 ∧ x.2 ≠ y.2) := by rw [List.pairwise_map]; exact hd
    rw [← this, List.pairwise_map] at hd2
    exact hd2
  · rw [hm] at he
    rcases hmem e he with rfl | ⟨h, _⟩
    · exact hc e0 (List.mem_of_getElem? hj)
    · exact hc e h
  · rw [hm] at he
    unfold upd
    rcases hmem e he with rfl | ⟨h, hne⟩
    · have : kv a b = kv x y := by rw [← hkey]; exact hxy
      obtain ⟨h1, h2⟩ := kv_inj this
      rw [if_pos ⟨h1.symm, h2.symm⟩]
    · rw [if_neg (fun q => hne (by rw [hxy, q.1, q.2]))]; exact hv e h x y hxy
  · rw [hm] at hxy
    have h0 : ({ e0 with val := v } : MapEntry) ∈ es.toList.set j { e0 with val := v } := List.mem_set hjl _
    unfold upd
    rw [if_neg (fun q => hxy _ h0 (by rw [q.1, q.2]; exact hkey))]
    refine hn x y (fun e he hek => ?_)
    by_cases h : e.key = kv a b
    · exact hxy _ h0 (by show e0.key = kv x y; rw [hkey, ← h, hek])
    · obtain ⟨i, hi, hie⟩ := List.getElem_of_mem he
      have hij : j ≠ i := by
        rintro rfl
        have hj0 : es.toList[j] = e0 := by have := List.getElem?_eq_getElem hjl; rw [hj] at this; exact (Option.some.inj this).symm
        rw [hj0] at hie
        exact h (by rw [← hie]; exact hkey)
      refine hxy e ?_ hek
      have : (es.toList.set j { e0 with val := v })[i]? = some e := by rw [List.getElem?_set, if_neg hij, List.getElem?_eq_getElem hi, hie]
      exact List.mem_of_getElem? this

/-! ### the operations that write -/
theorem MapIs.update {T : TypeId} {E : TypeId} (hT : Try.prog.underlying T = some (.map 59 E)) {w : World} {mb : Nat} {f : Int → Int → Option Value} (h : MapIs w mb f) {a b : Int} (ha : wf64 a) (hb : wf64 b) (v : Value) :
    ∃ w1, (Instr.mapUpdate T (.map (some mb)) (kv a b) v).run Try.prog w = .ok () w1 ∧ MapIs w1 mb (upd f a b v) ∧ OnlyAt mb w w1 := by
  obtain ⟨es, clock, hh, hk, hd, hc, hv, hn⟩ := h
  have hlt : mb < w.heap.size := (Array.getElem?_eq_some_iff.1 hh).1
  have hck := check_kv ha hb w false
  rcases MapIs.find (w := w) hk hv hn ha hb with ⟨h1, h2, h3⟩ | ⟨j, e, h1, h2, h3, h4⟩
  · refine ⟨putB w mb (.map (es.push { key := kv a b, val := v, born := clock }) (clock + 1)), ?_, pushed hk hd hc hv hn ha hb h3 v (putB_at _ hlt), putB_only _ _ _⟩
    simp [Instr.mapUpdate, Sem.run_bind, run_underlying hT, MapKept.run_getObj_map hh, hck, h2, MapKept.run_setObj_map _ hh, putB]
  · refine ⟨putB w mb (.map (es.modify j fun e => { e with key := kv a b, val := v }) clock), ?_, turned hk hd hc hv hn h3 h4 v _ (by rw [← h4]) (putB_at _ hlt), putB_only _ _ _⟩
    have hst := stays_kv ha hb w
    have hj : es[j]? = some e := by rw [← Array.getElem?_toList]; exact h3
    simp [Instr.mapUpdate, Sem.run_bind, run_underlying hT, MapKept.run_getObj_map hh, hck, h2, hj, h4, hst, MapKept.run_setObj_map _ hh, putB]
theorem stamp_at {es : Array MapEntry} (hd : es.toList.Pairwise (fun x y => x.key ≠ y.key ∧ x.born ≠ y.born)) {j : Nat} {e0 : MapEntry} (hj : es.toList[j]? = some e0) : es.findIdx? (fun e => (e.born : Int) == (e0.born : Int)) = some j := by
  have hjl : j < es.toList.length := (List.getElem?_eq_some_iff.1 hj).1
  have hj0 : es.toList[j] = e0 := by have := List.getElem?_eq_getElem hjl; rw [hj] at this; exact (Option.some.inj this).symm
  have hl : es.toList.findIdx? (fun e => (e.born : Int) == (e0.born : Int)) = some j := by
    rw [List.findIdx?_eq_some_iff_getElem]
    refine ⟨hjl, by rw [hj0]; simp, fun i hi => ?_⟩
    have hp := (List.pairwise_iff_getElem.1 hd i j (by omega) hjl hi).2
    rw [hj0] at hp
    simp only [beq_iff_eq]
    intro e
    exact hp (by omega)
  cases es with
  | mk l => simpa using hl
theorem store_at {es : Array MapEntry} {clock : Nat} {f : Int → Int → Option Value} (hk : ∀ e ∈ es.toList, ∃ a b, wf64 a ∧ wf64 b ∧ e.key = kv a b) (hd : es.toList.Pairwise (fun x y => x.key ≠ y.key ∧ x.born ≠ y.born)) (hc : ∀ e ∈ es.toList, e.born < clock)
    (hv : ∀ e ∈ es.toList, ∀ a b, e.key = kv a b → f a b = some e.val) (hn : ∀ a b, (∀ e ∈ es.toList, e.key ≠ kv a b) → f a b = none) {a b : Int} {j : Nat} {e0 : MapEntry} (hj : es.toList[j]? = some e0) (hkey : e0.key = kv a b) (v : Value) {w : World} {mb : Nat}
    (hh : w.heap[mb]? = some (.map es clock)) : ∃ w3, (Instr.entryStore 54 (.map (some mb)) (goInt e0.born) v).run Try.prog w = .ok () w3 ∧ MapIs w3 mb (upd f a b v) ∧ OnlyAt mb w w3 := by
  have hlt : mb < w.heap.size := (Array.getElem?_eq_some_iff.1 hh).1
  refine ⟨putB w mb (.map (es.modify j fun e => { e with val := v }) clock), ?_, turned hk hd hc hv hn hj hkey v _ rfl (putB_at _ hlt), putB_only _ _ _⟩
  have hst := stamp_at hd hj
  simp [Instr.entryStore, Sem.run_bind, MapKept.run_getObj_map hh, goInt, asInt, asIntOf, hst, MapKept.run_setObj_map _ hh, putB]

/-- An entry is fetched (and laid if there is none), and later stored into: nothing else has touched the map in between. -/
theorem MapIs.entry {w : World} {mb : Nat} {f : Int → Int → Option Value} (h : MapIs w mb f) {a b : Int} (ha : wf64 a) (hb : wf64 b) :
    ∃ (st : Nat) (w1 : World), (Instr.mapEntry 54 (.map (some mb)) (kv a b)).run Try.prog w = .ok (.tuple #[(f a b).getD (.slice none 0 0), goInt st]) w1 ∧ OnlyAt mb w w1 ∧
      ∀ w2, w2.heap[mb]? = w1.heap[mb]? → ∀ v, ∃ w3, (Instr.entryStore 54 (.map (some mb)) (goInt st) v).run Try.prog w2 = .ok () w3 ∧ MapIs w3 mb (upd f a b v) ∧ OnlyAt mb w2 w3 := by
  obtain ⟨es, clock, hh, hk, hd, hc, hv, hn⟩ := h
  have hlt : mb < w.heap.size := (Array.getElem?_eq_some_iff.1 hh).1
  have hck := check_kv ha hb w false
  rcases MapIs.find (w := w) hk hv hn ha hb with ⟨h1, h2, h3⟩ | ⟨j, e, h1, h2, h3, h4⟩
  · refine ⟨clock, putB w mb (.map (es.push { key := kv a b, val := .slice none 0 0, born := clock }) (clock + 1)), ?_, putB_only _ _ _, fun w2 hw2 v => ?_⟩
    · rw [h1]
      simp [Instr.mapEntry, Sem.run_bind, run_underlying Try.underlying54, MapKept.run_getObj_map hh, hck, h2, MapKept.run_setObj_map _ hh, putB, zero22]
    · obtain ⟨es1, c1, g1, gk, gd, gc, gv, gn⟩ := pushed hk hd hc hv hn ha hb h3 (.slice none 0 0) (putB_at (w := w) (.map (es.push { key := kv a b, val := .slice none 0 0, born := clock }) (clock + 1)) hlt)
      rw [putB_at _ hlt] at g1 hw2
      injection g1 with g1
      injection g1 with g1 g2
      subst g1; subst g2
      have hj : (es.push { key := kv a b, val := .slice none 0 0, born := clock }).toList[es.size]? = some { key := kv a b, val := .slice none 0 0, born := clock } := by simp
      obtain ⟨w3, r1, r2, r3⟩ := store_at gk gd gc gv gn hj rfl v hw2
      refine ⟨w3, r1, ?_, r3⟩
      have e : upd (upd f a b (.slice none 0 0)) a b v = upd f a b v := by
        funext x y
        unfold upd
        split <;> rfl
      rw [e] at r2
      exact r2
  · refine ⟨e.born, putB w mb (.map (es.modify j fun e => { e with key := kv a b }) clock), ?_, putB_only _ _ _, fun w2 hw2 v => ?_⟩
    · have hst := stays_kv ha hb w
      have hj : es[j]? = some e := by rw [← Array.getElem?_toList]; exact h3
      rw [h1]
      simp [Instr.mapEntry, Sem.run_bind, run_underlying Try.underlying54, MapKept.run_getObj_map hh, hck, h2, hj, h4, hst, MapKept.run_setObj_map _ hh, putB]
    · have hes : (es.modify j fun e => { e with key := kv a b }) = es := by
        apply Array.ext_getElem?
        intro i
        rw [Array.getElem?_modify]
        by_cases q : j = i
        · subst q
          have hj : es[j]? = some e := by rw [← Array.getElem?_toList]; exact h3
          rw [if_pos rfl, hj, ← h4]; rfl
        · rw [if_neg q]
      rw [putB_at _ hlt, hes] at hw2
      exact store_at hk hd hc hv hn h3 h4 v hw2
end Go.Proofs.Ytofacphhfgkemaa.G
