/- The plain law of the replacements: the list. No memory here. -/
import Derived.Test.YtpdmjahdnfhcoaaInv
namespace Go.Proofs.Ytpdmjahdnfhcoaa
open Go.RowKit

def okR (i : Nat) (r : Rep) : Prop := r.no = i + 1 ∧ 0 ≤ r.frm ∧ r.frm ≤ 1099511627776 ∧ 1 ≤ r.ver ∧ r.ver ≤ 50 ∧ 0 ≤ r.start ∧ r.start ≤ r.frm ∧ 0 ≤ r.state ∧ r.state ≤ 5 ∧
  (r.state = 2 → 1 ≤ r.cut ∧ r.cut ≤ 15) ∧ (r.state = 3 → r.cut = 16) ∧ (r.state ≠ 2 → r.state ≠ 3 → r.cut = 0)
def Rel (a b : Rep) : Prop := a.frm < b.frm ∧ b.state ≠ 2
def Rel2 (a b : Rep) : Prop := openB a.state = true → b.state ≠ 3
structure LInv (l : List Rep) : Prop where
  ok : ∀ i r, l[i]? = some r → okR i r
  opn : (openL l).Pairwise Rel
  few : (openL l).length ≤ 3
  done : l.Pairwise Rel2
structure Inv (s : St) : Prop where
  li : LInv s.l
  tr : TRight s.t

theorem openB_iff (s : Int) : openB s = true ↔ s = 0 ∨ s = 1 ∨ s = 2 := by simp [openB]
theorem firstR_head (l : List Rep) : firstR l = (openL l).head? := by unfold firstR openL; exact (List.head?_filter ..).symm
theorem openL_append (a b : List Rep) : openL (a ++ b) = openL a ++ openL b := by unfold openL; exact List.filter_append ..
theorem openL_cons (x : Rep) (l : List Rep) : openL (x :: l) = if openB x.state = true then x :: openL l else openL l := by
  unfold openL
  by_cases h : openB x.state = true
  · rw [List.filter_cons_of_pos (p := fun r : Rep => openB r.state) h, if_pos h]
  · rw [List.filter_cons_of_neg (p := fun r : Rep => openB r.state) h, if_neg h]
theorem split_at {α : Type} (l : List α) (i : Nat) (x : α) (h : l[i]? = some x) : l = l.take i ++ x :: l.drop (i + 1) := by
  obtain ⟨hi, he⟩ := List.getElem?_eq_some_iff.1 h
  rw [← he, ← List.drop_eq_getElem_cons hi, List.take_append_drop]
theorem set_split {α : Type} (l : List α) (i : Nat) (x y : α) (h : l[i]? = some x) : l.set i y = l.take i ++ y :: l.drop (i + 1) := by
  obtain ⟨hi, _⟩ := List.getElem?_eq_some_iff.1 h
  apply List.ext_getElem?
  intro j
  by_cases e : j = i
  · subst e
    rw [List.getElem?_set_self hi, List.getElem?_append_right (by simp; omega)]
    simp only [List.length_take]
    rw [show j - min j l.length = 0 by omega]
    rfl
  · rw [List.getElem?_set_ne (Ne.symm e)]
    have h1 : l[j]? = (l.take i ++ x :: l.drop (i + 1))[j]? := congrArg (fun q => q[j]?) (split_at l i x h)
    rw [h1]
    by_cases hj : j < i
    · rw [List.getElem?_append_left (by simp; omega), List.getElem?_append_left (by simp; omega)]
    · rw [List.getElem?_append_right (by simp; omega), List.getElem?_append_right (by simp; omega)]
      simp only [List.length_take]
      rw [show j - min i l.length = (j - i - 1) + 1 by omega]
      simp
/-- The first open one, where one stands at i and none before. -/
theorem first_at {l : List Rep} {i : Nat} {x : Rep} (hx : l[i]? = some x) (ho : openB x.state = true) (hb : openL (l.take i) = []) : firstR l = some x := by
  rw [firstR_head, split_at l i x hx, openL_append, hb, openL_cons, if_pos ho]
  rfl
/-- The first open one has its place's number: so nothing before that place is open. -/
theorem first_no {l : List Rep} (h : LInv l) {i : Nat} (hf : ((firstR l).getD repZ).no = (i : Int) + 1) : ∃ x, l[i]? = some x ∧ openB x.state = true ∧ openL (l.take i) = [] := by
  cases hq : firstR l with
  | none => rw [hq] at hf; simp [repZ] at hf; omega
  | some x =>
    rw [hq] at hf
    simp only [Option.getD_some] at hf
    unfold firstR at hq
    obtain ⟨hp, as1, bs1, hl, hn⟩ := List.find?_eq_some_iff_append.1 hq
    have hat : l[as1.length]? = some x := by rw [hl]; simp
    have hno := (h.ok _ _ hat).1
    have hi : as1.length = i := by omega
    subst hi
    refine ⟨x, hat, hp, ?_⟩
    rw [hl]
    simp only [List.take_left]
    unfold openL
    rw [List.filter_eq_nil_iff]
    intro y hy
    simpa using hn y hy

/-- A replacement at i gets another state and cut: what is owed. -/
theorem linv_set {l : List Rep} (h : LInv l) {i : Nat} {x y : Rep} (hx : l[i]? = some x) (ho : openB x.state = true) (hy : okR i y) (hf : y.frm = x.frm)
    (h2 : y.state = 2 → openL (l.take i) = []) (h3 : y.state = 3 → openL (l.take i) = []) : LInv (l.set i y) := by
  have hs := split_at l i x hx
  have hopn := h.opn
  have hfew := h.few
  have hdone := h.done
  rw [hs, openL_append, openL_cons, if_pos ho] at hopn hfew
  rw [hs] at hdone
  obtain ⟨q1, q2, q3⟩ := List.pairwise_append.1 hopn
  obtain ⟨q4, q5⟩ := List.pairwise_cons.1 q2
  obtain ⟨d1, d2, d3⟩ := List.pairwise_append.1 hdone
  obtain ⟨d4, d5⟩ := List.pairwise_cons.1 d2
  refine ⟨?_, ?_, ?_, ?_⟩
  · intro j r hj
    by_cases e : j = i
    · subst e
      rw [List.getElem?_set_self (List.getElem?_eq_some_iff.1 hx).1] at hj
      injection hj with hj
      rw [← hj]; exact hy
    · rw [List.getElem?_set_ne (Ne.symm e)] at hj
      exact h.ok j r hj
  · rw [set_split l i x y hx, openL_append, openL_cons]
    by_cases hoy : openB y.state = true
    · rw [if_pos hoy]
      refine List.pairwise_append.2 ⟨q1, List.pairwise_cons.2 ⟨fun b hb => ?_, q5⟩, fun a ha b hb => ?_⟩
      · have := q4 b hb
        exact ⟨by rw [hf]; exact this.1, this.2⟩
      · rcases List.mem_cons.1 hb with rfl | hb
        · have := q3 a ha x (by simp)
          refine ⟨by rw [hf]; exact this.1, fun h => ?_⟩
          rw [h2 h] at ha
          simp at ha
        · exact q3 a ha b (by simp [hb])
    · rw [if_neg hoy]
      exact List.pairwise_append.2 ⟨q1, q5, fun a ha b hb => q3 a ha b (by simp [hb])⟩
  · rw [set_split l i x y hx, openL_append, openL_cons]
    simp only [List.length_append, List.length_cons] at hfew
    split <;> simp only [List.length_append, List.length_cons] <;> omega
  · rw [set_split l i x y hx]
    refine List.pairwise_append.2 ⟨d1, List.pairwise_cons.2 ⟨fun b hb _ => ?_, d5⟩, fun a ha b hb => ?_⟩
    · exact d4 b hb ho
    · rcases List.mem_cons.1 hb with rfl | hb
      · intro hoa h
        have hm : a ∈ openL (l.take i) := by unfold openL; exact List.mem_filter.2 ⟨ha, hoa⟩
        rw [h3 h] at hm
        simp at hm
      · exact d3 a ha b (by simp [hb])

theorem set_cases (l : List Rep) (no state : Int) : ((setF l no state).2 ≠ 0 ∧ (setF l no state).1 = []) ∨ ∃ (i : Nat) (x : Rep), no = (i : Int) + 1 ∧ l[i]? = some x ∧ (x.state = 0 ∨ x.state = 1) ∧ setF l no state = (l.set i { x with state := state }, 0) := by
  unfold setF
  by_cases hw : withinB no 1 l.length = true
  · rw [if_neg (by simp [hw])]
    simp only [withinB, decide_eq_true_eq] at hw
    have hi : (no - 1).toNat < l.length := by omega
    rw [getElem!_pos l _ hi]
    by_cases hs : l[(no - 1).toNat].state ≠ 0 ∧ l[(no - 1).toNat].state ≠ 1
    · left; simp only [if_pos hs]; simp
    · right
      simp only [if_neg hs]
      exact ⟨(no - 1).toNat, l[(no - 1).toNat], by omega, List.getElem?_eq_getElem hi, by omega, rfl⟩
  · left
    rw [if_pos hw]
    simp
theorem cut_cases (l : List Rep) (t : List Seg) (no : Int) : ((cutF l t no).2.2 ≠ 0 ∧ (cutF l t no).1 = [] ∧ (cutF l t no).2.1 = []) ∨
    ∃ (i : Nat) (x : Rep), no = (i : Int) + 1 ∧ l[i]? = some x ∧ (x.state = 1 ∨ x.state = 2) ∧ ((firstR l).getD repZ).no = (i : Int) + 1 ∧
      ((wrap64 (x.cut + 1) = 16 ∧ cutF l t no = (l.set i { x with cut := 16, state := 3 }, (trepF t x.frm x.ver).1, 0)) ∨
       (wrap64 (x.cut + 1) ≠ 16 ∧ cutF l t no = (l.set i { x with cut := wrap64 (x.cut + 1), state := 2 }, t, 0))) := by
  unfold cutF
  by_cases hw : withinB no 1 l.length = true
  · rw [if_neg (by simp [hw])]
    simp only [withinB, decide_eq_true_eq] at hw
    have hi : (no - 1).toNat < l.length := by omega
    rw [getElem!_pos l _ hi]
    by_cases hs : l[(no - 1).toNat].state ≠ 1 ∧ l[(no - 1).toNat].state ≠ 2
    · left; simp only [if_pos hs]; simp
    · simp only [if_neg hs]
      by_cases hf : ((firstR l).getD repZ).no ≠ no
      · left; simp only [if_pos hf]; simp
      · right
        simp only [if_neg hf]
        refine ⟨(no - 1).toNat, l[(no - 1).toNat], by omega, List.getElem?_eq_getElem hi, by omega, by omega, ?_⟩
        by_cases h16 : wrap64 (l[(no - 1).toNat].cut + 1) = 16
        · left; exact ⟨h16, by rw [if_pos h16]⟩
        · right; exact ⟨h16, by rw [if_neg h16]⟩
  · left
    rw [if_pos hw]
    simp
end Go.Proofs.Ytpdmjahdnfhcoaa
