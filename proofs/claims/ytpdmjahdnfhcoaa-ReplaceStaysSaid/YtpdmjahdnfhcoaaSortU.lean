/- slices.Sort, slices.Compact on a row of ints of the call's own: by the library's contracts. -/
import Derived.Test.YtpdmjahdnfhcoaaSortLay
import Derived.Test.YtpdmjahdnfhcoaaLib
import Derived.Shelf.Sort.AssemblyIn
import Derived.Sort.EveryDepth
import Derived.Shelf.Slices.CompactI
import Derived.Lib.OwnBridge
namespace Go.Proofs.Ytpdmjahdnfhcoaa
open Go.RowKit Go.Sort

def eI (n : Int) : List Value := [.int .i64 n]
theorem eI_len (n : Int) : (eI n).length = 1 := rfl
theorem eI_one (n : Int) : ∀ u ∈ eI n, u.oneCell' = true := by simp [eI, Value.oneCell']
theorem eI_map (l : List Int) : l.flatMap eI = l.map (Value.int .i64) := by
  induction l with
  | nil => rfl
  | cons x l ih => simp [eI, List.flatMap_cons, ih]
theorem heap_sortedI {w : World} {g n : Nat} {os : Array Obj} {cur : Array Value} {e : TypeId} {fr : Nat × Nat} (d : Array Int) (hb : w.heap[g]? = some (.cells cur e fr)) :
    (grow (putRow (Value.int .i64) (Sort.ahead w n) g 0 d) os).heap[g]? = some (.cells (putCells (Value.int .i64) 0 d cur) e fr) := by
  have hg : g < w.heap.size := (Array.getElem?_eq_some_iff.1 hb).1
  rw [heap_grow_old _ _ (by simpa using hg)]
  simp [putRow, mapBlock, Sort.ahead, Array.getElem?_modify, hb, onCells]
theorem grownBy_sortedI {w : World} {g n : Nat} {os : Array Obj} (d : Array Int) : w.grownBy (grow (putRow (Value.int .i64) (Sort.ahead w n) g 0 d) os) (some g) := by
  refine ⟨rfl, rfl, rfl, by simp, fun k hk hne => ?_⟩
  rw [heap_grow_old _ _ (by simpa using hk)]
  have : g ≠ k := fun e => hne (by rw [e])
  simp [putRow, mapBlock, Sort.ahead, Array.getElem?_modify, this]
theorem take_putCellsI (cur : Array Value) (ts : List Int) (h : ts.length ≤ cur.size) : (putCells (Value.int .i64) 0 ts.toArray cur).toList.take ts.length = ts.map (Value.int .i64) := by
  apply List.ext_getElem?
  intro j
  by_cases hj : j < ts.length
  · rw [List.getElem?_take_of_lt hj, Array.getElem?_toList]
    simp [putCells, hj, show j < cur.size by omega]
  · rw [List.getElem?_take_eq_none (by omega), List.getElem?_eq_none (by simp; omega)]

/-- Sort: the same slice owns the sorted list; nothing turned but its row, and what is new. -/
theorem sortI_any (v : Value) (base : Nat) (zs : List Int) (w : World) (hown : w.ownsRow base 3 1 v zs.length (zs.flatMap eI)) (h0 : 0 < zs.length) (hn : zs.length ≤ 1000000) :
    Calls Try.prog 26 #[v] w fun e w' => e = .returned (.tuple #[]) ∧ ∃ ts : List Int, ts.length = zs.length ∧ (∀ x, x ∈ zs → x ∈ ts) ∧ w'.ownsRow base 3 1 v ts.length (ts.flatMap eI) ∧ w.grownBy w' v.ownBlock := by
  rw [eI_map] at hown
  rcases hown.2 with ⟨_, h⟩ | ⟨g, cap, cur, rfl, hbase, hb, h1, h2, h3, h4⟩
  · omega
  · have hne : (Value.slice (some ⟨g, 0, none⟩) zs.length cap) ≠ .slice none 0 0 := by intro h; cases h
    obtain ⟨g', cap', hv, _, hlt, _, _, _, hH⟩ := Lib.holds_of_ownsRow hown hne
    obtain ⟨hg1, _⟩ := Value.slice.inj hv |>.imp id id
    have hgg : g' = g := by injection hg1 with h; injection h with h; exact h.symm
    subst hgg
    refine (calls_of_every_depth fun D => AnyS.slices_Sort_int_in laysSort D g' 0 cap zs w hH hlt (by omega)).mono ?_
    rintro e w' ⟨rfl, n, os, rfl⟩
    have hl : (zs.mergeSort fun x y => decide (x ≤ y)).length = zs.length := List.length_mergeSort _
    refine ⟨rfl, zs.mergeSort fun x y => decide (x ≤ y), hl, fun x hx => (List.mem_mergeSort).2 hx, ?_, grownBy_sortedI _⟩
    rw [eI_map, hl]
    exact ⟨by simp, .inr ⟨g', cap, _, rfl, hbase, heap_sortedI _ hb, h1, h2, by simpa [putCells] using h3, by rw [Nat.mul_one, ← hl]; exact take_putCellsI cur _ (by omega)⟩⟩
theorem mem_compactUpTo (d : Array Int) : ∀ (m j : Nat), j < m → d[j]! ∈ Lib.compactUpTo d m := by
  intro m
  induction m with
  | zero => intro j hj; omega
  | succ m ih =>
    intro j hj
    rw [Lib.compactUpTo_succ]
    rcases Nat.lt_or_ge j m with h | h
    · exact List.mem_append_left _ (ih j h)
    · obtain rfl : j = m := by omega
      by_cases hk : Lib.keeps d j = true
      · rw [if_pos hk]; simp
      · rw [if_neg hk, List.append_nil]
        rcases Nat.eq_zero_or_pos j with h0 | h0
        · exact absurd (Lib.keeps_lt_one d j (by omega)) hk
        · have he : d[j]! = d[j - 1]! := by
            apply Classical.byContradiction
            intro hc
            exact hk (Lib.keeps_pos hc)
          rw [he]
          exact ih (j - 1) (by omega)
theorem mem_compact (zs : List Int) {x : Int} (h : x ∈ zs) : x ∈ Lib.compact zs := by
  obtain ⟨j, hj, rfl⟩ := List.mem_iff_getElem.1 h
  have := mem_compactUpTo zs.toArray zs.length j hj
  rw [getElem!_pos _ _ (by simpa using hj)] at this
  simpa [Lib.compact] using this
/-- Compact: a row of the call's own, in which all that were there are there. -/
theorem compactI_any (v : Value) (base : Nat) (zs : List Int) (w : World) (hown : w.ownsRow base 3 1 v zs.length (zs.flatMap eI)) (h0 : 0 < zs.length) (hn : zs.length ≤ 1000000) :
    Calls Try.prog 27 #[v] w fun e w' => ∃ v', e = .returned v' ∧ ∃ ts : List Int, ts.length ≤ zs.length ∧ 0 < ts.length ∧ (∀ x, x ∈ zs → x ∈ ts) ∧ w'.ownsRow base 3 1 v' ts.length (ts.flatMap eI) ∧ w.grownBy w' v.ownBlock := by
  rw [eI_map] at hown
  rcases hown.2 with ⟨_, h⟩ | ⟨g, cap, cur, rfl, hbase, hb, h1, h2, h3, h4⟩
  · omega
  · have hne : (Value.slice (some ⟨g, 0, none⟩) zs.length cap) ≠ .slice none 0 0 := by intro h; cases h
    obtain ⟨g', cap', hv, _, hlt, _, _, _, hH⟩ := Lib.holds_of_ownsRow hown hne
    obtain ⟨hg1, _⟩ := Value.slice.inj hv |>.imp id id
    have hgg : g' = g := by injection hg1 with h; injection h with h; exact h.symm
    subst hgg
    refine (Any.slices_Compact_int laysCompact g' 0 cap zs w hH (by omega) h1).mono ?_
    rintro e w' ⟨rfl, q, rfl⟩
    have hle := Lib.compact_length_le zs
    have hc0 : 0 < (Lib.compact zs).length := by
      have : zs[0] ∈ Lib.compact zs := mem_compact zs (List.getElem_mem h0)
      exact List.length_pos_of_mem this
    refine ⟨_, rfl, Lib.compact zs, hle, hc0, fun x hx => mem_compact zs hx, ?_, ?_⟩
    · rw [eI_map]
      have := Lib.ownsRow_putRow (q := q) (ys := Lib.compact zs ++ List.replicate (zs.length - (Lib.compact zs).length) 0) hown (by simp; omega) hle
      rwa [List.take_left] at this
    · have := grownBy_sortedI (w := w) (g := g') (n := q) (os := #[]) (Lib.compact zs ++ List.replicate (zs.length - (Lib.compact zs).length) 0).toArray
      rwa [grow_empty] at this
end Go.Proofs.Ytpdmjahdnfhcoaa
