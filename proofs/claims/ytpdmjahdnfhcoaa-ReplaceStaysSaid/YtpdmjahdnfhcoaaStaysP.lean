/- ReplaceStays: the plain law. No memory here. -/
import Derived.Test.YtpdmjahdnfhcoaaInvC
namespace Go.Proofs.Ytpdmjahdnfhcoaa
open Go.RowKit

/-- What the law asks of a replacement before and after an operation. -/
def StaysOk (a b : Rep) : Prop := a.no = b.no ∧ a.frm = b.frm ∧ a.ver = b.ver ∧ a.start = b.start ∧ a.cut ≤ b.cut ∧ (3 ≤ a.state → a = b)
/-- Is every one of these over? -/
def overF (l : List Rep) : Bool := l.all fun r => decide (3 ≤ r.state)
theorem over_snoc {l : List Rep} {k : Nat} {x : Rep} (hx : l[k]? = some x) : overF (l.take (k + 1)) = (overF (l.take k) && decide (3 ≤ x.state)) := by
  rw [List.take_add_one, hx]
  unfold overF
  rw [List.all_append]
  simp
theorem over_of {l : List Rep} {k : Nat} (h : ∀ i r, l[i]? = some r → okR i r) (ho : openL (l.take k) = []) : overF (l.take k) = true := by
  unfold overF
  rw [List.all_eq_true]
  intro x hx
  obtain ⟨i, hi, rfl⟩ := List.mem_iff_getElem.1 hx
  have hi2 : i < l.length := by simp only [List.length_take] at hi; omega
  have hk := h i l[i] (List.getElem?_eq_getElem hi2)
  obtain ⟨_, _, _, _, _, _, _, s0, _⟩ := hk
  have he : (l.take k)[i] = l[i] := List.getElem_take
  have hno : openB (l[i]).state ≠ true := by
    intro hc
    have hm : (l.take k)[i] ∈ openL (l.take k) := by
      unfold openL
      exact List.mem_filter.2 ⟨List.getElem_mem hi, by simp only [he]; exact hc⟩
    rw [ho] at hm
    cases hm
  have hno2 : ¬ ((l[i]).state = 0 ∨ (l[i]).state = 1 ∨ (l[i]).state = 2) := fun q => hno ((openB_iff _).2 q)
  simp only [he, decide_eq_true_eq]
  omega
/-- What an operation does to the k-th replacement. -/
def KeptF (old new : List Rep) : Prop :=
  old.length ≤ new.length ∧ new.length ≤ old.length + 1 ∧ ∀ (k : Nat) (a : Rep), old[k]? = some a → ∃ b, new[k]? = some b ∧ StaysOk a b ∧
    (b.cut ≤ a.cut ∨ (overF (old.take k) = true ∧ (a.state = 1 ∨ a.state = 2)))
theorem kept_set {l : List Rep} {i : Nat} {x y : Rep} (hx : l[i]? = some x) (h : StaysOk x y) (hc : y.cut ≤ x.cut ∨ (overF (l.take i) = true ∧ (x.state = 1 ∨ x.state = 2))) : KeptF l (l.set i y) := by
  refine ⟨by simp, by simp, fun k a ha => ?_⟩
  by_cases e : i = k
  · subst e
    rw [hx] at ha
    obtain rfl := Option.some.inj ha
    exact ⟨y, by rw [List.getElem?_set_self (List.getElem?_eq_some_iff.1 hx).1], h, hc⟩
  · exact ⟨a, by rw [List.getElem?_set_ne e]; exact ha, ⟨rfl, rfl, rfl, rfl, Int.le_refl _, fun _ => rfl⟩, .inl (Int.le_refl _)⟩
theorem stays_step {s : St} (h : Inv s) (o : OpD) : KeptF s.l (stepF s o).1.l := by
  rcases step_cases h o with ⟨e, _⟩ | ⟨_, _, ⟨f, ver, back, q0, q1, q2, q3, q4, q5, q6, e⟩ | ⟨i, x, st, hx, hs, hst, e⟩⟩ | ⟨_, _, i, x, hno, hx, ho, hb, hf, c0, c1, c2, hc⟩
  · rw [e]
    exact ⟨Nat.le_refl _, Nat.le_succ _, fun k a ha => ⟨a, ha, ⟨rfl, rfl, rfl, rfl, Int.le_refl _, fun _ => rfl⟩, .inl (Int.le_refl _)⟩⟩
  · rw [e]
    refine ⟨by simp, by simp, fun k a ha => ?_⟩
    have hk := (List.getElem?_eq_some_iff.1 ha).1
    obtain ⟨s1, s2, s3, s4, s5⟩ := sup_fields f a
    refine ⟨superseded f a, ?_, ⟨s1.symm, s2.symm, s3.symm, s4.symm, by rw [s5]; exact Int.le_refl _, fun h3 => ?_⟩, .inl (by rw [s5]; exact Int.le_refl _)⟩
    · show (s.l.map (superseded f) ++ _)[k]? = _
      rw [List.getElem?_append_left (by simpa using hk), List.getElem?_map, ha]
      rfl
    · rcases sup_state f a with e1 | ⟨_, e2, _⟩
      · obtain ⟨a1, a2, a3, a4, a5, a6⟩ := a
        generalize hz : superseded f ⟨a1, a2, a3, a4, a5, a6⟩ = z at s1 s2 s3 s4 s5 e1
        obtain ⟨z1, z2, z3, z4, z5, z6⟩ := z
        simp only at s1 s2 s3 s4 s5 e1
        subst s1 s2 s3 s4 s5 e1
        rfl
      · have := (openB_iff _).1 e2
        omega
  · rw [e]
    exact kept_set hx ⟨rfl, rfl, rfl, rfl, Int.le_refl _, fun h3 => by omega⟩ (.inl (Int.le_refl _))
  · have hov := over_of h.li.ok hb
    have h12 : x.state = 1 ∨ x.state = 2 := by rcases c2 with c2 | ⟨c2, _⟩ <;> omega
    rcases hc with ⟨hc, e⟩ | ⟨hc, e⟩
    · rw [e]
      exact kept_set hx ⟨rfl, rfl, rfl, rfl, by simp only; omega, fun h3 => by omega⟩ (.inr ⟨hov, h12⟩)
    · rw [e]
      exact kept_set hx ⟨rfl, rfl, rfl, rfl, by simp only; omega, fun h3 => by omega⟩ (.inr ⟨hov, h12⟩)
/-- Every one that is not over is open. -/
theorem open_mem {l : List Rep} (h : ∀ i r, l[i]? = some r → okR i r) {k : Nat} {x : Rep} (hx : l[k]? = some x) (h3 : ¬ 3 ≤ x.state) : x ∈ openL l := by
  unfold openL
  obtain ⟨_, _, _, _, _, _, _, s0, _⟩ := h k x hx
  refine List.mem_filter.2 ⟨List.mem_of_getElem? hx, ?_⟩
  have : openB x.state = true := (openB_iff _).2 (by omega)
  simpa using this
end Go.Proofs.Ytpdmjahdnfhcoaa
