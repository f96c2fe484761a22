/- Rows of the call's own that hold a list of structs: an element written whole, a field written, the row cut, what lies behind the cut cleared. Plain lemmas over any program. -/
import Derived.Test.YtmdjcljgbagehaaLib
import Derived.Deep.MidRow
namespace Go.Proofs.Ytmdjcljgbagehaa
open Go.RowKit

section
variable {w : World} {base : Nat} {e : TypeId} {size g n cap : Nat} {xs : List Value}
theorem own_setCells (vs : List Value) : ∀ (o : Nat) (w : World) (xs : List Value), w.ownsRow base e size (.slice (some ⟨g, 0, none⟩) n cap) n xs → o + vs.length ≤ xs.length →
    (w.setCells g o vs).ownsRow base e size (.slice (some ⟨g, 0, none⟩) n cap) n (xs.take o ++ vs ++ xs.drop (o + vs.length)) ∧ w.grownBy (w.setCells g o vs) (some g) := by
  induction vs with
  | nil => intro o w xs h _; exact ⟨by simpa [World.setCells] using h, World.grownBy.refl w _⟩
  | cons v r ih =>
    intro o w xs h hl
    simp only [List.length_cons] at hl
    obtain ⟨h1, h2⟩ := h.stored o v
    obtain ⟨h3, h4⟩ := ih (o + 1) _ _ h1 (by simp; omega)
    rw [World.setCells]
    refine ⟨?_, h2.trans h4⟩
    have e1 : (xs.set o v).take (o + 1) ++ r ++ (xs.set o v).drop (o + 1 + r.length) = xs.take o ++ (v :: r) ++ xs.drop (o + (v :: r).length) := by
      apply List.ext_getElem?
      intro j
      simp only [List.getElem?_append, List.length_append, List.length_take, List.length_set, List.getElem?_take, List.getElem?_drop, List.getElem?_set, List.length_cons]
      by_cases c1 : j < o
      · rw [if_pos (by omega), if_pos (by omega), if_pos (by omega), if_neg (by omega), if_pos (by omega), if_pos (by omega), if_pos c1]
      · by_cases c2 : j = o
        · subst c2
          rw [if_pos (by omega), if_pos (by omega), if_pos (by omega), if_pos rfl, if_pos (by omega), if_pos (by omega), if_neg (by omega)]
          rw [show j - min j xs.length = 0 by omega]
          simp
        · by_cases c3 : j < o + 1 + r.length
          · rw [if_pos (by omega), if_neg (by omega), if_pos (by omega), if_neg (by omega)]
            rw [show j - min o xs.length = (j - min (o + 1) xs.length) + 1 by omega]
            simp
          · rw [if_neg (by omega), if_neg (by omega), if_neg (by omega)]
            congr 1
            omega
    rw [← e1]
    exact h3
/-- Cut to its head. -/
theorem own_cut (h : w.ownsRow base e size (.slice (some ⟨g, 0, none⟩) n cap) n xs) {m : Nat} (hm : m ≤ n) : w.ownsRow base e size (.slice (some ⟨g, 0, none⟩) m cap) m (xs.take (m * size)) := by
  rcases h.2 with ⟨h', _⟩ | ⟨g', cap', cur, h', hb, hg, hnc, hcm, hcs, htake⟩
  · cases h'
  · simp only [Value.slice.injEq, Option.some.injEq, Addr.mk.injEq, and_true, true_and] at h'
    obtain ⟨rfl, rfl⟩ := h'
    have hmn : m * size ≤ n * size := Nat.mul_le_mul_right _ hm
    refine ⟨by rw [List.length_take, h.1]; omega, .inr ⟨g, cap, cur, rfl, hb, hg, by omega, hcm, hcs, ?_⟩⟩
    rw [← htake, List.take_take, Nat.min_eq_left hmn]
/-- Stores behind its end leave it. -/
theorem own_behind (vs : List Value) : ∀ (o : Nat) (w : World), w.ownsRow base e size (.slice (some ⟨g, 0, none⟩) n cap) n xs → n * size ≤ o →
    (w.setCells g o vs).ownsRow base e size (.slice (some ⟨g, 0, none⟩) n cap) n xs ∧ w.grownBy (w.setCells g o vs) (some g) := by
  induction vs with
  | nil => intro o w h _; exact ⟨h, World.grownBy.refl w _⟩
  | cons v r ih =>
    intro o w h ho
    obtain ⟨h1, h2⟩ := h.stored o v
    rw [List.set_eq_of_length_le (by rw [h.1]; exact ho)] at h1
    obtain ⟨h3, h4⟩ := ih (o + 1) _ h1 (by omega)
    rw [World.setCells]
    exact ⟨h3, h2.trans h4⟩
theorem own_there (h : w.ownsRow base e size (.slice (some ⟨g, 0, none⟩) n cap) n xs) (o m : Nat) (hm : o + m ≤ n * size) : w.there g o m := fun j hj => by
  have h1 := h.cellAt (o + j) (by omega)
  exact ⟨by rw [h1, List.getElem?_eq_getElem (by rw [h.1]; omega)]; rfl, h.frozenAt (o + j)⟩
end

section
variable {α : Type} {k : Nat} {enc : α → List Value} {w : World} {base : Nat} {e : TypeId} {g n cap : Nat} {l : List α}
theorem flat_splice (hk : ∀ x, (enc x).length = k) (l : List α) : ∀ (i : Nat) (x : α), i < l.length → (l.flatMap enc).take (i * k) ++ enc x ++ (l.flatMap enc).drop (i * k + (enc x).length) = (l.set i x).flatMap enc := by
  induction l with
  | nil => intro i x h; simp at h
  | cons y l ih =>
    intro i x h
    cases i with
    | zero => simp only [List.flatMap_cons, Nat.zero_mul, List.take_zero, List.nil_append, Nat.zero_add, List.set_cons_zero]; rw [hk, ← hk y, List.drop_left]
    | succ i =>
      simp only [List.length_cons] at h
      simp only [List.flatMap_cons, List.set_cons_succ]
      rw [← ih i x (by omega), hk, List.take_append, List.drop_append, hk, List.take_of_length_le (by rw [hk, Nat.add_mul]; omega), List.drop_of_length_le (by rw [hk, Nat.add_mul]; omega),
        show (i + 1) * k - k = i * k by rw [Nat.add_mul]; omega, show (i + 1) * k + k - k = i * k + k by rw [Nat.add_mul]; omega]
      simp
theorem own_len (hk : ∀ x, (enc x).length = k) (hk0 : 0 < k) {v : Value} (h : w.ownsRow base e k v n (l.flatMap enc)) : l.length = n := by
  have := h.1
  rw [flat_len hk] at this
  exact Nat.eq_of_mul_eq_mul_right hk0 this
/-- An element written whole. -/
theorem own_elem (hk : ∀ x, (enc x).length = k) (hk0 : 0 < k) (h : w.ownsRow base e k (.slice (some ⟨g, 0, none⟩) n cap) n (l.flatMap enc)) {i : Nat} (hi : i < n) (x : α) :
    (w.setCells g (i * k) (enc x)).ownsRow base e k (.slice (some ⟨g, 0, none⟩) n cap) n ((l.set i x).flatMap enc) ∧ w.grownBy (w.setCells g (i * k) (enc x)) (some g) := by
  have hl := own_len hk hk0 h
  have hle : i * k + k ≤ l.length * k := by rw [← Nat.succ_mul]; exact Nat.mul_le_mul_right _ (by omega)
  obtain ⟨h1, h2⟩ := own_setCells (enc x) (i * k) w _ h (by rw [flat_len hk, hk]; exact hle)
  rw [flat_splice hk l i x (by omega)] at h1
  exact ⟨h1, h2⟩
/-- A field written. -/
theorem own_field (hk : ∀ x, (enc x).length = k) (h : w.ownsRow base e k (.slice (some ⟨g, 0, none⟩) n cap) n (l.flatMap enc)) {i f : Nat} {x x' : α} {v : Value} (hf : f < k) (hx : l[i]? = some x) (he : enc x' = (enc x).set f v) :
    (w.setCell ⟨g, i * k + f, none⟩ v).ownsRow base e k (.slice (some ⟨g, 0, none⟩) n cap) n ((l.set i x').flatMap enc) ∧ w.grownBy (w.setCell ⟨g, i * k + f, none⟩ v) (some g) := by
  have := h.stored (i * k + f) v
  rwa [flat_set hk l i f x x' v hf hx he] at this
theorem own_cell (hk : ∀ x, (enc x).length = k) (hk0 : 0 < k) (h : w.ownsRow base e k (.slice (some ⟨g, 0, none⟩) n cap) n (l.flatMap enc)) {i f : Nat} {x : α} {v : Value} (hf : f < k) (hx : l[i]? = some x) (hv : (enc x)[f]? = some v) :
    w.cell? ⟨g, i * k + f, none⟩ = some v ∧ w.frozen? ⟨g, i * k + f, none⟩ = false := by
  have hl := own_len hk hk0 h
  have hi := (List.getElem?_eq_some_iff.1 hx).1
  have hle : i * k + k ≤ n * k := by rw [← Nat.succ_mul]; exact Nat.mul_le_mul_right _ (by omega)
  refine ⟨?_, h.frozenAt _⟩
  rw [h.cellAt _ (by omega), flat_at hk l i f hf, hx]
  exact hv
theorem own_cutT (hk : ∀ x, (enc x).length = k) (h : w.ownsRow base e k (.slice (some ⟨g, 0, none⟩) n cap) n (l.flatMap enc)) {m : Nat} (hm : m ≤ n) : w.ownsRow base e k (.slice (some ⟨g, 0, none⟩) m cap) m ((l.take m).flatMap enc) := by
  have := own_cut h hm
  rwa [flat_take hk] at this
variable {P : Program}
theorem wpList_store_elem {ops : Array Oper} {rest : List Oper} {op : Oper} {a : Act} {Q : Exit → Act → World → Prop} (hk : ∀ x, (enc x).length = k) (hk0 : 0 < k) (h1 : ∀ x, ∀ u ∈ enc x, u.oneCell' = true)
    (h : w.ownsRow base e k (.slice (some ⟨g, 0, none⟩) n cap) n (l.flatMap enc)) (hgd : op.guard = none) (ty : TypeId) (p y : Operand) (ho : op.op = .store ty p y) (hi' : (P.info? ty).map (·.size) = some k)
    (i : Nat) (hi : i < n) (x : α) (hp : a.eval p = .pointer (some ⟨g, i * k, none⟩)) (hy : a.eval y = .agg (enc x).toArray)
    (hK : ∀ w', w'.ownsRow base e k (.slice (some ⟨g, 0, none⟩) n cap) n ((l.set i x).flatMap enc) → w.grownBy w' (some g) → wpList P ops Q rest (a.put op.dst undef) w') : wpList P ops Q (op :: rest) a w := by
  have hl := own_len hk hk0 h
  have hle : i * k + k ≤ n * k := by rw [← Nat.succ_mul]; exact Nat.mul_le_mul_right _ (by omega)
  obtain ⟨h2, h3⟩ := own_elem hk hk0 h hi x
  refine wpList_store_mid hgd ty p y ho g (i * k) (enc x).toArray hp hy (own_there h _ _ (by simpa [hk] using hle)) (by simpa [hk] using hi') (all_oneCell_toArray (h1 x)) ?_
  simpa using hK _ h2 h3

/-- clear(s[i:]), s a row of the call's own: behind it the head of i elements is as it was. -/
theorem run_clear_behind {t : TypeId} {z : Value} (ht : P.underlying t = some (.slice e)) (hz : ∀ w, (zeroValue e).run P w = .ok z w) (hzc : z.cells.size = k) (hz1 : ∀ u ∈ z.cells.toList, u.oneCell' = true) (hk : ∀ x, (enc x).length = k) (hk0 : 0 < k)
    (h : w.ownsRow base e k (.slice (some ⟨g, 0, none⟩) n cap) n (l.flatMap enc)) {i : Nat} (hi : i ≤ n) (b : Option Addr) (hb : i < n → b = some ⟨g, i * k, none⟩) (c' : Nat) (ty : TypeId) :
    ∃ w', (Builtin.clear_ #[t] ty #[.slice b (n - i) c']).run P w = .ok (.tuple #[]) w' ∧ w'.ownsRow base e k (.slice (some ⟨g, 0, none⟩) i cap) i ((l.take i).flatMap enc) ∧ w.grownBy w' (some g) := by
  have hcut := own_cutT hk h hi
  by_cases hin : i < n
  · rw [hb hin]
    have hzs : (Builtin.zeroCells z.cells (n - i)).size = (n - i) * k := by rw [size_zeroCells, hzc]
    have hone : ∀ v ∈ (Builtin.zeroCells z.cells (n - i)).toList, v.oneCell' = true := by
      intro v hv
      obtain ⟨j, hj, rfl⟩ := List.mem_iff_getElem.1 hv
      simp only [Builtin.zeroCells, Array.toList_map, List.getElem_map]
      refine hz1 _ ?_
      have hlt : ∀ q : Nat, q % z.cells.size < z.cells.size := fun q => Nat.mod_lt _ (by omega)
      have hall : ∀ q : Nat, (z.cells[q % z.cells.size]!) ∈ z.cells.toList := fun q => by
        rw [getElem!_pos z.cells _ (hlt q)]
        simp
      exact hall _
    have hle : i * k + (n - i) * k ≤ n * k := by rw [← Nat.add_mul]; exact Nat.mul_le_mul_right _ (by omega)
    have hth := own_there h (i * k) ((n - i) * k) hle
    have hst := run_storeCells_cells (P := P) g (i * k) (Builtin.zeroCells z.cells (n - i)).toList 0 w (fun j hj => by simpa using (hth j (by simpa [hzs] using hj)).1) (fun j hj => by simpa using (hth j (by simpa [hzs] using hj)).2) hone
    simp only [Nat.add_zero] at hst
    obtain ⟨h2, h3⟩ := own_behind (Builtin.zeroCells z.cells (n - i)).toList (i * k) w hcut (Nat.le_refl _)
    refine ⟨_, ?_, h2, h3⟩
    obtain ⟨m, hm⟩ : ∃ m, n - i = m + 1 := ⟨n - i - 1, by omega⟩
    rw [hm] at hst ⊢
    simp [Builtin.clear_, run_underlying ht, hz, hst]
  · have hi' : i = n := by omega
    subst hi'
    refine ⟨w, ?_, hcut, World.grownBy.refl w _⟩
    rw [Nat.sub_self]
    cases b <;> simp [Builtin.clear_, run_underlying ht]
end
/-- A store into a block of another element type leaves a row. -/
theorem own_other_set {w : World} {base n g : Nat} {e t : TypeId} {size : Nat} {v : Value} {xs : List Value} {cs : Array Value} (h : w.ownsRow base e size v n xs) (hg : Blk w g t cs) (hne : e ≠ t) (i : Nat) (u : Value) : (w.setCell ⟨g, i, none⟩ u).ownsRow base e size v n xs := by
  rcases h with ⟨h1, h2 | ⟨g', cap, cur, h3, h4, h5, h6⟩⟩
  · exact ⟨h1, .inl h2⟩
  · refine ⟨h1, .inr ⟨g', cap, cur, h3, h4, ?_, h6⟩⟩
    rw [Below.heap_setCell _ _ _ _ ?_]
    · exact h5
    · rintro rfl
      unfold Blk at hg
      rw [h5] at hg
      injection hg with hg
      injection hg with _ ht
      exact hne ht
end Go.Proofs.Ytmdjcljgbagehaa
