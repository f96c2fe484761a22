/- ProducerApart: the plain law. No memory here. -/
import Derived.Test.YtghciaaedjomjaaProdP
namespace Go.Proofs.Ytghciaaedjomjaa
open Go.RowKit

theorem with_len (s : List Prd) (p : Prd) : (withP s p).length ≤ s.length + 1 ∧ (findP s p.id ≠ none → (withP s p).length ≤ s.length) := by
  have h := len_parts s p.id
  unfold withP
  rw [List.length_append, List.length_cons]
  exact ⟨by have := h.1; omega, fun hn => by have := h.2 hn; omega⟩
theorem apart_look {s : List Prd} {p : Prd} {id : Int} (hid : id ≠ p.id) (h1 : s.length < 50) (h2 : (withP s p).length < 50) (ep sq : Int) : lookF (withP s p) id ep sq = lookF s id ep sq := by
  unfold lookF
  rw [getP_with, if_neg hid, findP_with, if_neg hid]
  have e1 : ¬ (findP s id = none ∧ 50 ≤ (withP s p).length) := fun h => by omega
  have e2 : ¬ (findP s id = none ∧ 50 ≤ s.length) := fun h => by omega
  simp only [e1, e2, if_false]
theorem put_len {s : List Prd} {id pos : Int} : (putP s id pos).length ≤ s.length + 1 ∧ findP (putP s id pos) id ≠ none := by
  unfold putP
  refine ⟨(with_len _ _).1, ?_⟩
  rw [findP_with, if_pos (getP_id s id).symm]
  simp
theorem apart_put {s : List Prd} {id id2 pos : Int} (hne : id ≠ id2) (hl : s.length < 49) (ep sq : Int) : lookF (putP s id2 pos) id ep sq = lookF s id ep sq := by
  have h := (put_len (s := s) (id := id2) (pos := pos)).1
  unfold putP at h ⊢
  exact apart_look (by rw [show ({ getP s id2 with next := (getP s id2).next + 1, last := cutL ((getP s id2).last ++ [pos]) } : Prd).id = id2 from getP_id s id2]; exact hne) (by omega) (by omega) ep sq
/-- After a fence nothing is stored of the earlier epochs; the other producers look as they did. -/
theorem apart_fence {t : List Prd} (ht : RightP t) {id : Int} (hok : (fenceF t id).2.2 = 0) (hl : t.length < 49 ∨ (t.length < 50 ∧ findP t id ≠ none)) :
    RightP (fenceF t id).1 ∧ (∀ id2 ep sq : Int, id2 ≠ id → lookF (fenceF t id).1 id2 ep sq = lookF t id2 ep sq) ∧ ∀ ep sq : Int, (lookF t id ep sq).2 = 25 ∨ (lookF (fenceF t id).1 id ep sq).2 ≠ 0 := by
  rcases fence_cases ht id with ⟨_, q0, q1, q2, q3, q4⟩ | hb
  · refine ⟨q4, ?_, ?_⟩
    · intro id2 ep sq hne
      rw [q3]
      have hw := with_len t ⟨id, (getP t id).epoch + 1, 0, []⟩
      refine apart_look hne (by omega) ?_ ep sq
      rcases hl with hl | ⟨hl, hn⟩
      · have := hw.1; omega
      · have := hw.2 hn; omega
    · intro ep sq
      by_cases h0 : (lookF (fenceF t id).1 id ep sq).2 = 0
      · left
        obtain ⟨a0, a1, a2, a3, a4, a5, a6, a7, a8⟩ := look_ok h0
        rw [q3, getP_with, if_pos rfl] at a6
        simp only at a6
        unfold lookF
        rw [if_neg (by omega), if_neg (by omega), if_pos (by omega)]
      · exact .inr h0
  · exact absurd hok hb
end Go.Proofs.Ytghciaaedjomjaa
