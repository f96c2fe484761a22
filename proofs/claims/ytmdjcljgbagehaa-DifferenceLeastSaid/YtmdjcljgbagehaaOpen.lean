/- From the form's reading of an argument to the words of the walks: slices of structs. -/
import Derived.Test.YtmdjcljgbagehaaRows
import Derived.Test.YtmdjcljgbagehaaLib
import Derived.Deep.Slices
import Derived.Deep.Fields
import Derived.ChangeSame
import Derived.ProofKit
import Derived.OpenShut
import Derived.ShutString
import Derived.ChangeOld
import Derived.SizedLaws
namespace Go.Proofs.Ytmdjcljgbagehaa
open Go.RowKit Go.ChangeShapes Go.WideShapes Go.Deep

section
variable {H : Type} {enc : TypeId × Value → H} {P : Program} {w : World} {base : Nat} {spare : Nat → Bool} {held : Bool}
theorem open_slice_fields {t e : TypeId} {fs : Array Field} {fuel : Nat} {cs : List Value} {x : DataW H × List MemPlace} (ht : P.underlying t = some (.slice e)) (he : P.underlying e = some (.struct fs))
    (hone : oneCellFields P fs = true) (hC : P.cellsOf e = fs.size) (h : DataW.trod enc P w base spare held fuel t cs = some x) :
    cs = [.slice none 0 0] ∨
    ∃ (a : Addr) (len cap : Nat), cs = [.slice (some a) len cap] ∧ len ≤ cap ∧ cap ≤ maxLen ∧
      ∀ i, i < len → ∃ (n : Nat), ∀ (j : Nat) (f : Field), fs[j]? = some f → ∃ (v : Value) (y : DataW H × List MemPlace), w.cell? (a.add (i * fs.size + j)) = some v ∧ DataW.trod enc P w base spare held n f.type [v] = some y := by
  rcases open_slice ht h with h0 | ⟨a, len, cap, m, n, D, Pl, hcs, hb, hl, hm, hmm, hx, hi⟩
  · exact .inl h0.1
  · refine .inr ⟨a, len, cap, hcs, hl, hm, fun i him => ?_⟩
    have him' : i < m := by
      rw [hmm]
      split <;> omega
    obtain ⟨cs', hc, ht'⟩ := hi i him'
    rw [hC] at hc
    obtain ⟨ys, n', hn', hy, hlen, hyl, hf⟩ := DataW.trod_struct he ht'
    obtain ⟨_, hcl, hat⟩ := World.cells?_some hc
    refine ⟨n', fun j f hj => ?_⟩
    obtain ⟨ho, hk⟩ := hone_of hone j f hj
    have hjl : j < fs.size := (Array.getElem?_eq_some_iff.1 hj).1
    have hcell := hat j hjl
    have hv : cs'[j]? = some (cs'[j]'(by omega)) := List.getElem?_eq_getElem (by omega)
    have h1 := hf j f hj
    rw [ho, hk] at h1
    have hone' : (cs'.drop j).take 1 = [cs'[j]'(by omega)] := by
      rw [List.drop_eq_getElem_cons (by omega)]
      rfl
    rw [hone'] at h1
    have hys : ys[j]? = some (ys[j]'(by omega)) := List.getElem?_eq_getElem (by omega)
    refine ⟨_, _, ?_, h1.trans hys⟩
    rw [← Go.Deep.add_add, hcell, hv]
end

theorem list_of {α : Type} (p : Nat → α → Prop) : ∀ n : Nat, (∀ i, i < n → ∃ x, p i x) → ∃ l : List α, l.length = n ∧ ∀ i x, l[i]? = some x → p i x := by
  intro n
  induction n with
  | zero => intro _; exact ⟨[], rfl, fun i x h => by simp at h⟩
  | succ n ih =>
    intro h
    obtain ⟨l, hl, hp⟩ := ih fun i hi => h i (by omega)
    obtain ⟨x, hx⟩ := h n (by omega)
    refine ⟨l ++ [x], by simp [hl], fun i y hy => ?_⟩
    by_cases hi : i < n
    · rw [List.getElem?_append_left (by omega)] at hy
      exact hp i y hy
    · rw [List.getElem?_append_right (by omega)] at hy
      obtain ⟨hlt, hy'⟩ := List.getElem?_eq_some_iff.1 hy
      simp only [List.length_singleton] at hlt
      obtain rfl : i = n := by omega
      simp only [hl, Nat.sub_self, List.getElem_cons_zero] at hy'
      subst hy'
      exact hx
theorem sl_of_open {α : Type} {k : Nat} {en : α → List Value} {w : World} (hk : ∀ x, (en x).length = k) (hk0 : 0 < k) (a : Addr) (n c : Nat) (hc : n ≤ c) (h : ∀ i, i < n → ∃ x, ∀ j v, (en x)[j]? = some v → w.cell? (a.add (i * k + j)) = some v) :
    ∃ l : List α, SlT k en w (some a) n c l := by
  obtain ⟨l, hl, hp⟩ := list_of _ n h
  refine ⟨l, hl, hc, fun hn => ?_⟩
  have hk1 : 0 < (en (l[0]'(by omega))).length := by rw [hk]; exact hk0
  have h0 := hp 0 (l[0]'(by omega)) (List.getElem?_eq_getElem (by omega)) 0 ((en (l[0]'(by omega)))[0]) (List.getElem?_eq_getElem hk1)
  simp only [Nat.zero_mul, Nat.add_zero] at h0
  have ha : a.add 0 = a := by simp [Addr.add]
  rw [ha] at h0
  have hsp : a.spot = none := by
    cases hs : a.spot with
    | none => rfl
    | some z =>
      simp only [World.cell?, hs] at h0
      split at h0 <;> simp at h0
  obtain ⟨b, off, sp⟩ := a
  simp only at hsp
  subst hsp
  exact ⟨b, off, rfl, World.block_lt_of_cell? w _ h0, fun j x hj i v hv => by
    have := hp j x hj i v hv
    rw [Addr.add_lit, ← Nat.add_assoc] at this
    exact this⟩
end Go.Proofs.Ytmdjcljgbagehaa
