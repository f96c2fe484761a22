/- producer: with, Look. -/
import Derived.Test.YtghciaaedjomjaaProdD
namespace Go.Proofs.Ytghciaaedjomjaa
open Go.RowKit

theorem raws_asc {P : Nat → Prop} {w : World} {raw : List PRaw} {s : List Prd} (h : Raws P w raw s) (hs : s.Pairwise fun a b => a.id < b.id) : raw.Pairwise fun a b => a.id < b.id := by
  rw [List.pairwise_iff_getElem]
  intro i j hi hj hij
  have h1 := h.2 i _ _ (List.getElem?_eq_getElem hi) (List.getElem?_eq_getElem (by rw [← h.1]; exact hi))
  have h2 := h.2 j _ _ (List.getElem?_eq_getElem hj) (List.getElem?_eq_getElem (by rw [← h.1]; exact hj))
  rw [h1.1, h2.1]
  exact List.pairwise_iff_getElem.1 hs i j _ _ hij
theorem raws_ids {P : Nat → Prop} {w : World} {raw : List PRaw} {s : List Prd} (h : Raws P w raw s) (hs : ∀ p ∈ s, FineP p) : ∀ x ∈ raw, inN x.id := by
  intro x hx
  obtain ⟨j, hj, rfl⟩ := List.mem_iff_getElem.1 hx
  have hj2 : j < s.length := by rw [← h.1]; exact hj
  have h1 := h.2 j _ _ (List.getElem?_eq_getElem hj) (List.getElem?_eq_getElem hj2)
  rw [h1.1]
  exact (hs _ (List.getElem_mem hj2)).id
theorem raws_len {s : List Prd} (h : RightP s) : ∀ p ∈ s, p.last.length ≤ 20 := by
  intro p hp
  have := (h.fine p hp).len
  omega
/-- What a search in the raw table says of the table. -/
theorem place_raws {P : Nat → Prop} {w : World} {raw : List PRaw} {s : List Prd} {d : Int} {i : Nat} (h : Raws P w raw s) (hp : PlaceOf raw d i) :
    i ≤ s.length ∧ (∀ (j : Nat) (x : Prd), j < i → s[j]? = some x → x.id < d) ∧ (∀ (j : Nat) (x : Prd), i ≤ j → s[j]? = some x → d ≤ x.id) := by
  obtain ⟨h1, h2, h3⟩ := hp
  have hl := h.1
  have hget : ∀ (j : Nat) (x : Prd), s[j]? = some x → ∃ r : PRaw, raw[j]? = some r ∧ r.id = x.id := fun j x hx => by
    have hj := (List.getElem?_eq_some_iff.1 hx).1
    have hj2 : j < raw.length := by rw [hl]; exact hj
    exact ⟨raw[j], List.getElem?_eq_getElem hj2, (h.2 j _ _ (List.getElem?_eq_getElem hj2) hx).1⟩
  refine ⟨by omega, fun j x hj hx => ?_, fun j x hj hx => ?_⟩
  · obtain ⟨r, hr, e⟩ := hget j x hx
    rw [← e]; exact h2 j r hj hr
  · obtain ⟨r, hr, e⟩ := hget j x hx
    rw [← e]; exact h3 j r hj hr
/-- The new raw table reads as the new table. -/
theorem with_raws {P : Nat → Prop} {w : World} {raw : List PRaw} {s : List Prd} {p : Prd} {r : PRaw} {i : Nat} (hs : RightP s) (h : Raws P w raw s) (hr : RawOk P w r p) (hp : PlaceOf raw p.id i) :
    (atB raw p.id i = true → i < s.length ∧ (withP s p).length = s.length ∧ Raws P w (raw.set i r) (withP s p)) ∧ (atB raw p.id i = false → (withP s p).length = s.length + 1 ∧ Raws P w (raw.take i ++ r :: raw.drop i) (withP s p)) := by
  obtain ⟨q1, q2, q3⟩ := place_raws h hp
  obtain ⟨e1, e2, e3⟩ := parts_at hs.asc q1 q2 q3
  have hl := h.1
  constructor
  · intro ha
    unfold atB at ha
    cases hx : raw[i]? with
    | none => rw [hx] at ha; cases ha
    | some x =>
      rw [hx] at ha
      have hid : x.id = p.id := by simpa using ha
      have hi := (List.getElem?_eq_some_iff.1 hx).1
      have hi2 : i < s.length := by omega
      have hxs := h.2 i x _ hx (List.getElem?_eq_getElem hi2)
      have hsi : s[i].id = p.id := by rw [← hxs.1]; exact hid
      obtain ⟨f2, _⟩ := e2 _ (List.getElem?_eq_getElem hi2) hsi
      have hw : withP s p = s.set i p := by
        unfold withP
        rw [e1, f2, List.set_eq_take_append_cons_drop, if_pos hi2]
      rw [hw]
      refine ⟨hi2, by simp, by simp [hl], fun j x' p' hx' hp' => ?_⟩
      rw [List.getElem?_set] at hx' hp'
      split at hx'
      · rename_i e
        subst e
        simp only [if_true, if_pos hi2, if_pos hi] at hp' hx'
        injection hx' with hx'
        injection hp' with hp'
        subst hx' hp'
        exact hr
      · rename_i e
        rw [if_neg e] at hp'
        exact h.2 j x' p' hx' hp'
  · intro ha
    have hne : ∀ x, s[i]? = some x → x.id ≠ p.id := by
      intro x hx hid
      have hi2 := (List.getElem?_eq_some_iff.1 hx).1
      have hi : i < raw.length := by omega
      have hxs := h.2 i _ x (List.getElem?_eq_getElem hi) hx
      unfold atB at ha
      rw [List.getElem?_eq_getElem hi] at ha
      simp only [beq_eq_false_iff_ne] at ha
      exact ha (by rw [hxs.1]; exact hid)
    obtain ⟨f2, _⟩ := e3 hne
    have hw : withP s p = s.take i ++ p :: s.drop i := by
      unfold withP
      rw [e1, f2]
    rw [hw]
    refine ⟨by simp; omega, by simp; omega, fun j x' p' hx' hp' => ?_⟩
    rcases Nat.lt_trichotomy j i with hj | hj | hj
    · rw [List.getElem?_append_left (by rw [List.length_take]; omega), List.getElem?_take, if_pos hj] at hx' hp'
      exact h.2 j x' p' hx' hp'
    · subst hj
      rw [List.getElem?_append_right (by rw [List.length_take]; omega), List.length_take, show j - min j raw.length = 0 by omega] at hx'
      rw [List.getElem?_append_right (by rw [List.length_take]; omega), List.length_take, show j - min j s.length = 0 by omega] at hp'
      simp only [List.getElem?_cons_zero, Option.some.injEq] at hx' hp'
      subst hx' hp'
      exact hr
    · rw [List.getElem?_append_right (by rw [List.length_take]; omega), List.length_take, show j - min i raw.length = (j - 1 - i) + 1 by omega, List.getElem?_cons_succ, List.getElem?_drop, show i + (j - 1 - i) = j - 1 by omega] at hx'
      rw [List.getElem?_append_right (by rw [List.length_take]; omega), List.length_take, show j - min i s.length = (j - 1 - i) + 1 by omega, List.getElem?_cons_succ, List.getElem?_drop, show i + (j - 1 - i) = j - 1 by omega] at hp'
      exact h.2 (j - 1) x' p' hx' hp'

end Go.Proofs.Ytghciaaedjomjaa
