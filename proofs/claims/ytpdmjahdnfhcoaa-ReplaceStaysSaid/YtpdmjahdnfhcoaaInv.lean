/- The plain law of the replacements: what stays right under every operation. No memory here. -/
import Derived.Test.YtpdmjahdnfhcoaaRun
namespace Go.Proofs.Ytpdmjahdnfhcoaa
open Go.RowKit

/-! ### Timelines -/
def TSort (t : List Seg) : Prop := t.Pairwise fun a b => a.frm < b.frm
structure TRight (t : List Seg) : Prop where
  head : ∃ v rest, t = ⟨0, v⟩ :: rest
  sort : TSort t
  ok : ∀ x ∈ t, x.frm ≤ 1099511627776 ∧ 1 ≤ x.ver ∧ x.ver ≤ 50
  adj : ∀ i x y, t[i]? = some x → t[i + 1]? = some y → y.ver ≠ x.ver

theorem filter_take {t : List Seg} (hs : TSort t) (time : Int) (k : Nat) (hk : k ≤ t.length) (hlo : ∀ a x, a < k → t[a]? = some x → x.frm ≤ time) (hhi : ∀ a x, k ≤ a → t[a]? = some x → time < x.frm) :
    t.take k = t.filter fun x => decide (x.frm ≤ time) := by
  have h1 : t.filter (fun x => decide (x.frm ≤ time)) = (t.take k ++ t.drop k).filter (fun x => decide (x.frm ≤ time)) := by rw [List.take_append_drop]
  rw [h1, List.filter_append, List.filter_eq_self.2, List.filter_eq_nil_iff.2, List.append_nil]
  · intro x hx
    obtain ⟨j, hj, rfl⟩ := List.mem_iff_getElem.1 hx
    rw [List.length_drop] at hj
    have := hhi (k + j) (t[k + j]'(by omega)) (by omega) (List.getElem?_eq_getElem (by omega))
    rw [List.getElem_drop]
    simp only [decide_eq_true_eq]
    omega
  · intro x hx
    obtain ⟨j, hj, rfl⟩ := List.mem_iff_getElem.1 hx
    rw [List.length_take] at hj
    have := hlo j (t[j]'(by omega)) (by omega) (List.getElem?_eq_getElem (by omega))
    rw [List.getElem_take]
    simpa using this
theorem behind_take {t : List Seg} (hs : TSort t) (time : Int) : t.take (behindF t time) = t.filter fun x => decide (x.frm ≤ time) := by
  have hm : ∀ a b, a ≤ b → b < t.length → decide (time < (t[a]!).frm) = true → decide (time < (t[b]!).frm) = true := by
    intro a b hab hb h
    rw [getElem!_pos t a (by omega)] at h
    rw [getElem!_pos t b hb]
    simp only [decide_eq_true_eq] at h ⊢
    rcases Nat.lt_or_ge a b with hlt | hge
    · have := (List.pairwise_iff_getElem.1 hs) a b (by omega) hb hlt
      omega
    · obtain rfl : a = b := by omega
      exact h
  have hsp := bs_spec (fun i => decide (time < (t[i]!).frm)) t.length hm t.length 0 t.length rfl (Nat.zero_le _) (Nat.le_refl _) (fun a h => by omega) (fun a h1 h2 => by omega)
  refine filter_take hs time _ (behindF_le t time) (fun a x ha hx => ?_) (fun a x ha hx => ?_)
  · have h := hsp.1 a ha
    obtain ⟨hlt, rfl⟩ := List.getElem?_eq_some_iff.1 hx
    simp only [getElem!_pos t a hlt, decide_eq_false_iff_not] at h
    omega
  · obtain ⟨hlt, rfl⟩ := List.getElem?_eq_some_iff.1 hx
    have h := hsp.2 a ha hlt
    simpa only [getElem!_pos t a hlt, decide_eq_true_eq] using h
theorem behind_len {t : List Seg} (hs : TSort t) (time : Int) : (t.filter fun x => decide (x.frm ≤ time)).length = behindF t time := by
  rw [← behind_take hs time, List.length_take]
  have := behindF_le t time
  omega
/-- At a time from 0 on: the last segment that has begun. -/
theorem at_last {t : List Seg} (h : TRight t) {time : Int} (h0 : 0 ≤ time) : ∃ x, (t.filter fun x => decide (x.frm ≤ time)).getLast? = some x ∧ atF t time = x.ver := by
  obtain ⟨v, rest, ht⟩ := h.head
  have hpos : 0 < behindF t time := by
    rw [← behind_len h.sort time, ht]
    simp [h0]
  have hle := behindF_le t time
  have hk : behindF t time - 1 < t.length := by omega
  refine ⟨t[behindF t time - 1], ?_, ?_⟩
  · rw [← behind_take h.sort time, List.getLast?_eq_getElem?, List.length_take, List.getElem?_take]
    rw [if_pos (by omega), show min (behindF t time) t.length - 1 = behindF t time - 1 by omega]
    exact List.getElem?_eq_getElem hk
  · unfold atF
    rw [getElem!_pos t _ hk]
theorem at_neg {t : List Seg} (h : TRight t) {time : Int} (h0 : time < 0) : atF t time = atF t 0 := by
  obtain ⟨v, rest, ht⟩ := h.head
  have e1 : behindF t time = 0 := by
    rw [← behind_len h.sort time, List.filter_eq_nil_iff.2]
    · rfl
    · intro x hx
      have hs := h.sort
      unfold TSort at hs
      rw [ht] at hx hs
      rcases List.mem_cons.1 hx with rfl | hx
      · simp only [decide_eq_true_eq]; omega
      · have := (List.pairwise_cons.1 hs).1 x hx
        simp only [decide_eq_true_eq] at this ⊢
        omega
  have e2 : behindF t 0 = 1 := by
    rw [← behind_len h.sort 0]
    have hs := h.sort
    unfold TSort at hs
    rw [ht] at hs ⊢
    rw [List.filter_cons_of_pos (by simp), List.filter_eq_nil_iff.2]
    · rfl
    · intro x hx
      have := (List.pairwise_cons.1 hs).1 x hx
      simp only [decide_eq_true_eq] at this ⊢
      omega
  unfold atF
  rw [e1, e2]

theorem trep_form {t : List Seg} (h : TRight t) {frm ver : Int} (h0 : 0 ≤ frm) (h1 : frm ≤ 1099511627776) (h2 : 1 ≤ ver) (h3 : ver ≤ 50) :
    trepF t frm ver = (if (t.filter fun x => decide (x.frm < frm)).length = 0 ∨ ((t.filter fun x => decide (x.frm < frm))[(t.filter fun x => decide (x.frm < frm)).length - 1]!).ver ≠ ver then (t.filter fun x => decide (x.frm < frm)) ++ [⟨frm, ver⟩] else (t.filter fun x => decide (x.frm < frm)), 0) := by
  have e : t.take (behindF t (frm - 1)) = t.filter fun x => decide (x.frm < frm) := by
    rw [behind_take h.sort]
    congr 1
    funext x
    rw [decide_eq_decide]
    omega
  unfold trepF
  rw [if_neg (by omega)]
  simp only [e]
  split <;> rfl
/-- The list before the new segment. -/
theorem cut_head {t : List Seg} (h : TRight t) {frm : Int} (h0 : 0 < frm) : ∃ v rest, (t.filter fun x => decide (x.frm < frm)) = ⟨0, v⟩ :: rest := by
  obtain ⟨v, rest, ht⟩ := h.head
  refine ⟨v, rest.filter fun x => decide (x.frm < frm), ?_⟩
  rw [ht, List.filter_cons_of_pos (by simpa using h0)]
theorem cut_nil {t : List Seg} (h : TRight t) : (t.filter fun x => decide (x.frm < 0)) = [] := by
  obtain ⟨v, rest, ht⟩ := h.head
  rw [List.filter_eq_nil_iff]
  intro x hx
  have hs := h.sort
  unfold TSort at hs
  rw [ht] at hx hs
  rcases List.mem_cons.1 hx with rfl | hx
  · simp
  · have := (List.pairwise_cons.1 hs).1 x hx
    simp only [decide_eq_true_eq] at this ⊢
    omega
theorem cut_prefix {t : List Seg} (h : TRight t) (frm : Int) : (t.filter fun x => decide (x.frm < frm)) = t.take (behindF t (frm - 1)) := by
  rw [behind_take h.sort]
  congr 1
  funext x
  rw [decide_eq_decide]
  omega
theorem cut_right {t : List Seg} (h : TRight t) {frm : Int} (h0 : 0 < frm) : TRight (t.filter fun x => decide (x.frm < frm)) := by
  refine ⟨cut_head h h0, h.sort.filter _, fun x hx => h.ok x (List.mem_filter.1 hx).1, fun i x y hx hy => ?_⟩
  rw [cut_prefix h, List.getElem?_take] at hx hy
  split at hx
  · split at hy
    · exact h.adj i x y hx hy
    · cases hy
  · cases hx
theorem snoc_right {t : List Seg} (h : TRight t) {frm ver : Int} (h0 : ∀ x ∈ t, x.frm < frm) (h1 : frm ≤ 1099511627776) (h2 : 1 ≤ ver) (h3 : ver ≤ 50) (h4 : (t[t.length - 1]!).ver ≠ ver) : TRight (t ++ [⟨frm, ver⟩]) := by
  refine ⟨?_, ?_, ?_, ?_⟩
  · obtain ⟨v, rest, ht⟩ := h.head
    exact ⟨v, rest ++ [⟨frm, ver⟩], by rw [ht]; rfl⟩
  · unfold TSort
    rw [List.pairwise_append]
    exact ⟨h.sort, by simp, fun a ha b hb => by rw [List.mem_singleton.1 hb]; exact h0 a ha⟩
  · intro x hx
    rcases List.mem_append.1 hx with hx | hx
    · exact h.ok x hx
    · rw [List.mem_singleton.1 hx]; exact ⟨h1, h2, h3⟩
  · intro i x y hx hy
    by_cases hi : i + 1 < t.length
    · rw [List.getElem?_append_left (by omega)] at hx
      rw [List.getElem?_append_left hi] at hy
      exact h.adj i x y hx hy
    · have hlt := (List.getElem?_eq_some_iff.1 hy).1
      simp only [List.length_append, List.length_singleton] at hlt
      have e : i + 1 = t.length := by omega
      rw [List.getElem?_append_right (by omega), e, Nat.sub_self] at hy
      simp only [List.getElem?_cons_zero, Option.some.injEq] at hy
      subst hy
      rw [List.getElem?_append_left (by omega)] at hx
      obtain ⟨hlx, rfl⟩ := List.getElem?_eq_some_iff.1 hx
      have e2 : t.length - 1 = i := by omega
      rw [e2, getElem!_pos t i hlx] at h4
      exact Ne.symm h4
theorem trep_right {t : List Seg} (h : TRight t) {frm ver : Int} (h0 : 0 ≤ frm) (h1 : frm ≤ 1099511627776) (h2 : 1 ≤ ver) (h3 : ver ≤ 50) : TRight (trepF t frm ver).1 := by
  rw [trep_form h h0 h1 h2 h3]
  by_cases hz : frm = 0
  · subst hz
    rw [cut_nil h]
    simp only [List.length_nil, true_or, if_true, List.nil_append]
    exact ⟨⟨ver, [], rfl⟩, by simp [TSort], by simp [h2, h3], by intro i x y hx hy; simp at hy⟩
  · have hp : 0 < frm := by omega
    have hc := cut_right h hp
    have hlt : ∀ x ∈ (t.filter fun x => decide (x.frm < frm)), x.frm < frm := fun x hx => by simpa using (List.mem_filter.1 hx).2
    obtain ⟨v, rest, e⟩ := hc.head
    generalize (t.filter fun x => decide (x.frm < frm)) = u at hc hlt e ⊢
    split
    · rename_i hor
      rcases hor with hor | hor
      · rw [e] at hor; simp at hor
      · exact snoc_right hc hlt h1 h2 h3 hor
    · exact hc
theorem at_trep {t : List Seg} (h : TRight t) {frm ver time : Int} (h0 : 0 ≤ frm) (h1 : frm ≤ 1099511627776) (h2 : 1 ≤ ver) (h3 : ver ≤ 50) (ht : 0 ≤ time) : atF (trepF t frm ver).1 time = if frm ≤ time then ver else atF t time := by
  have hr := trep_right h h0 h1 h2 h3
  obtain ⟨x, hx, hax⟩ := at_last hr ht
  obtain ⟨y, hy, hay⟩ := at_last h ht
  rw [hax]
  rw [trep_form h h0 h1 h2 h3] at hx
  by_cases hle : frm ≤ time
  · rw [if_pos hle]
    have hlt : ∀ x ∈ (t.filter fun x => decide (x.frm < frm)), x.frm < frm := fun x hx => by simpa using (List.mem_filter.1 hx).2
    generalize hu : (t.filter fun x => decide (x.frm < frm)) = u at hlt hx
    have hall : u.filter (fun x => decide (x.frm ≤ time)) = u := List.filter_eq_self.2 fun z hz => by have := hlt z hz; simp only [decide_eq_true_eq]; omega
    split at hx
    · simp only [List.filter_append, hall] at hx
      rw [List.filter_cons_of_pos (by simpa using hle)] at hx
      simp only [List.filter_nil, List.getLast?_append, List.getLast?_singleton, Option.some_or, Option.some.injEq] at hx
      rw [← hx]
    · rename_i hor
      simp only [hall] at hx
      have hne : u.length ≠ 0 := fun e => hor (.inl e)
      have hv : (u[u.length - 1]!).ver = ver := Classical.not_not.1 fun e => hor (.inr e)
      rw [List.getLast?_eq_getElem?, List.getElem?_eq_getElem (by omega)] at hx
      rw [getElem!_pos u _ (by omega)] at hv
      injection hx with hx
      rw [← hx]
      exact hv
  · rw [if_neg hle, hay]
    have hsub : (t.filter fun x => decide (x.frm < frm)).filter (fun x => decide (x.frm ≤ time)) = t.filter fun x => decide (x.frm ≤ time) := by
      rw [List.filter_filter]
      congr 1
      funext z
      rw [Bool.eq_iff_iff]
      simp only [Bool.and_eq_true, decide_eq_true_eq]
      omega
    have hsnoc : ((t.filter fun x => decide (x.frm < frm)) ++ [(⟨frm, ver⟩ : Seg)]).filter (fun x => decide (x.frm ≤ time)) = t.filter fun x => decide (x.frm ≤ time) := by
      rw [List.filter_append, hsub, List.filter_cons_of_neg (by simpa using hle)]
      simp
    have hx' : (t.filter fun x => decide (x.frm ≤ time)).getLast? = some x := by
      split at hx
      · simp only [hsnoc] at hx; exact hx
      · simp only [hsub] at hx; exact hx
    rw [hy] at hx'
    injection hx' with hx'
    rw [hx']
end Go.Proofs.Ytpdmjahdnfhcoaa
