/- The plain law of the producers' table. No memory here. -/
import Derived.Test.YtghciaaedjomjaaLib
namespace Go.Proofs.Ytghciaaedjomjaa
open Go.RowKit

structure Prd where
  id : Int
  epoch : Int
  next : Int
  last : List Int
  deriving DecidableEq
instance : Inhabited Prd := ⟨⟨0, 0, 0, []⟩⟩

def prd0 (id : Int) : Prd := ⟨id, 0, 0, []⟩
def findP (s : List Prd) (id : Int) : Option Prd := s.find? fun p => decide (p.id = id)
def getP (s : List Prd) (id : Int) : Prd := (findP s id).getD (prd0 id)
def inN (n : Int) : Prop := 0 ≤ n ∧ n ≤ 1099511627776
instance (n : Int) : Decidable (inN n) := inferInstanceAs (Decidable (0 ≤ n ∧ n ≤ 1099511627776))
structure FineP (p : Prd) : Prop where
  id : inN p.id
  epoch : inN p.epoch
  next : inN p.next
  len : (p.last.length : Int) = min p.next 20
  asc : p.last.Pairwise (· < ·)
  all : ∀ x ∈ p.last, inN x
structure RightP (s : List Prd) : Prop where
  fine : ∀ p ∈ s, FineP p
  asc : s.Pairwise fun a b => a.id < b.id
  few : s.length ≤ 50

theorem findP_some {s : List Prd} {id : Int} {p : Prd} (h : findP s id = some p) : p ∈ s ∧ p.id = id := by
  unfold findP at h
  exact ⟨List.mem_of_find?_eq_some h, by have := List.find?_some h; exact of_decide_eq_true this⟩
theorem getP_id (s : List Prd) (id : Int) : (getP s id).id = id := by
  unfold getP
  cases h : findP s id with
  | none => rfl
  | some p => exact (findP_some h).2
theorem getP_fine {s : List Prd} (h : RightP s) {id : Int} (hid : inN id) : FineP (getP s id) := by
  unfold getP
  cases hf : findP s id with
  | none =>
    show FineP (prd0 id)
    exact ⟨hid, ⟨by simp [prd0], by simp [prd0]⟩, ⟨by simp [prd0], by simp [prd0]⟩, by simp [prd0]; omega, by simp [prd0], by simp [prd0]⟩
  | some p => exact h.fine p (findP_some hf).1

/-- What Look answers: its number and its error. -/
def lookF (s : List Prd) (id ep sq : Int) : Int × Int :=
  if ¬ (0 ≤ id ∧ id < 1099511627776 ∧ 0 ≤ ep ∧ ep < 1099511627776 ∧ 0 ≤ sq ∧ sq < 1099511627776) then (0, 1)
  else if ep < (getP s id).epoch then (0, 18)
  else if (getP s id).epoch < ep then (0, 25)
  else if (getP s id).next < sq then (0, 19)
  else if findP s id = none ∧ 50 ≤ s.length then (0, 6)
  else if sq = (getP s id).next then (0, 0)
  else if 0 ≤ ((getP s id).last.length : Int) - ((getP s id).next - sq) then ((getP s id).last[(((getP s id).last.length : Int) - ((getP s id).next - sq)).toNat]!, 5)
  else (-1, 5)
def withP (s : List Prd) (p : Prd) : List Prd := (s.filter fun x => decide (x.id < p.id)) ++ p :: s.filter fun x => decide (p.id < x.id)
def cutL (l : List Int) : List Int := l.drop (l.length - 20)
def putP (s : List Prd) (id pos : Int) : List Prd := withP s { getP s id with next := (getP s id).next + 1, last := cutL ((getP s id).last ++ [pos]) }
/-- Is the entry stored? -/
def putOk (s : List Prd) (id ep sq pos : Int) : Prop := (lookF s id ep sq).2 = 0 ∧ inN pos ∧ ∀ x ∈ (getP s id).last, x < pos
def fenceF (s : List Prd) (id : Int) : List Prd × Int × Int :=
  if ¬ (0 ≤ id ∧ id < 1099511627776) ∨ (getP s id).epoch = 1099511627776 then ([], 0, 1)
  else if findP s id = none ∧ 50 ≤ s.length then ([], 0, 6)
  else (withP s ⟨id, (getP s id).epoch + 1, 0, []⟩, (getP s id).epoch + 1, 0)

theorem findP_with (s : List Prd) (p : Prd) (id : Int) : findP (withP s p) id = if id = p.id then some p else findP s id := by
  unfold findP withP
  rw [List.find?_append, List.find?_cons, List.find?_filter, List.find?_filter]
  by_cases h : id = p.id
  · rw [if_pos h]
    have h1 : s.find? (fun a => decide (decide (a.id < p.id) = true ∧ decide (a.id = id) = true)) = none := by
      rw [List.find?_eq_none]
      intro x _ hc
      simp only [decide_eq_true_eq] at hc
      omega
    rw [h1]
    simp [h]
  · rw [if_neg h]
    have hp : decide (p.id = id) = false := decide_eq_false (fun e => h e.symm)
    rw [hp]
    simp only
    rcases Int.lt_or_gt_of_ne h with hl | hg
    · have e1 : (fun a : Prd => decide (decide (a.id < p.id) = true ∧ decide (a.id = id) = true)) = fun a => decide (a.id = id) := by
        funext a
        by_cases e : a.id = id
        · simp [e, hl]
        · simp [e]
      have h2 : s.find? (fun a => decide (decide (p.id < a.id) = true ∧ decide (a.id = id) = true)) = none := by
        rw [List.find?_eq_none]
        intro x _ hc
        simp only [decide_eq_true_eq] at hc
        omega
      rw [e1, h2]
      simp
    · have e1 : (fun a : Prd => decide (decide (p.id < a.id) = true ∧ decide (a.id = id) = true)) = fun a => decide (a.id = id) := by
        funext a
        by_cases e : a.id = id
        · simp [e, hg]
        · simp [e]
      have h2 : s.find? (fun a => decide (decide (a.id < p.id) = true ∧ decide (a.id = id) = true)) = none := by
        rw [List.find?_eq_none]
        intro x _ hc
        simp only [decide_eq_true_eq] at hc
        omega
      rw [e1, h2]
      simp
theorem getP_with (s : List Prd) (p : Prd) (id : Int) : getP (withP s p) id = if id = p.id then p else getP s id := by
  unfold getP
  rw [findP_with]
  split <;> rfl
theorem len_parts (s : List Prd) (d : Int) : (s.filter fun x => decide (x.id < d)).length + (s.filter fun x => decide (d < x.id)).length ≤ s.length ∧ (findP s d ≠ none → (s.filter fun x => decide (x.id < d)).length + (s.filter fun x => decide (d < x.id)).length + 1 ≤ s.length) := by
  induction s with
  | nil => simp [findP]
  | cons x l ih =>
    have hs : (∃ y, findP (x :: l) d = some y) → x.id = d ∨ findP l d ≠ none := by
      rintro ⟨y, hy⟩
      by_cases e : x.id = d
      · exact .inl e
      · right
        unfold findP at hy ⊢
        rw [List.find?_cons, decide_eq_false e] at hy
        simp only at hy
        rw [hy]
        simp
    rcases Int.lt_trichotomy x.id d with h | h | h
    · have h' : ¬ d < x.id := by omega
      simp only [List.filter_cons, h, h', decide_true, decide_false, if_true, List.length_cons, Bool.false_eq_true, if_false]
      refine ⟨by omega, fun hn => ?_⟩
      have := hs (Option.ne_none_iff_exists'.1 hn)
      rcases this with e | e
      · omega
      · have := ih.2 e; omega
    · have h1 : ¬ x.id < d := by omega
      have h2 : ¬ d < x.id := by omega
      simp only [List.filter_cons, h1, h2, decide_false, Bool.false_eq_true, if_false, List.length_cons]
      exact ⟨by omega, fun _ => by omega⟩
    · have h' : ¬ x.id < d := by omega
      simp only [List.filter_cons, h, h', decide_true, decide_false, if_true, List.length_cons, Bool.false_eq_true, if_false]
      refine ⟨by omega, fun hn => ?_⟩
      have := hs (Option.ne_none_iff_exists'.1 hn)
      rcases this with e | e
      · omega
      · have := ih.2 e; omega
theorem right_with {s : List Prd} (h : RightP s) {p : Prd} (hp : FineP p) (hf : findP s p.id ≠ none ∨ s.length < 50) : RightP (withP s p) := by
  have hl := len_parts s p.id
  refine ⟨fun x hx => ?_, ?_, ?_⟩
  · unfold withP at hx
    rcases List.mem_append.1 hx with hx | hx
    · exact h.fine x (List.mem_filter.1 hx).1
    · rcases List.mem_cons.1 hx with rfl | hx
      · exact hp
      · exact h.fine x (List.mem_filter.1 hx).1
  · unfold withP
    refine List.pairwise_append.2 ⟨h.asc.filter _, List.pairwise_cons.2 ⟨fun y hy => by simpa using (List.mem_filter.1 hy).2, h.asc.filter _⟩, fun a ha b hb => ?_⟩
    have ha' : a.id < p.id := by simpa using (List.mem_filter.1 ha).2
    rcases List.mem_cons.1 hb with rfl | hb
    · exact ha'
    · have hb' : p.id < b.id := by simpa using (List.mem_filter.1 hb).2
      omega
  · have hfew := h.few
    unfold withP
    rw [List.length_append, List.length_cons]
    rcases hf with hf | hf
    · have := hl.2 hf; omega
    · have := hl.1; omega
/-- The parts of a table in which i is the place of d. -/
theorem parts_at {s : List Prd} {d : Int} (hs : s.Pairwise fun a b => a.id < b.id) {i : Nat} (hi : i ≤ s.length) (hlo : ∀ j x, j < i → s[j]? = some x → x.id < d) (hhi : ∀ j x, i ≤ j → s[j]? = some x → d ≤ x.id) :
    (s.filter fun x => decide (x.id < d)) = s.take i ∧ (∀ x, s[i]? = some x → x.id = d → (s.filter fun x => decide (d < x.id)) = s.drop (i + 1) ∧ findP s d = some x) ∧
      ((∀ x, s[i]? = some x → x.id ≠ d) → (s.filter fun x => decide (d < x.id)) = s.drop i ∧ findP s d = none) := by
  have e := (List.take_append_drop i s).symm
  have hlt : ∀ x ∈ s.take i, x.id < d := by
    intro x hx
    obtain ⟨j, hj, rfl⟩ := List.mem_iff_getElem.1 hx
    have hj' : j < i ∧ j < s.length := by simp only [List.length_take] at hj; omega
    rw [List.getElem_take]
    exact hlo j _ hj'.1 (List.getElem?_eq_getElem hj'.2)
  have hge : ∀ x ∈ s.drop i, d ≤ x.id := by
    intro x hx
    obtain ⟨j, hj, rfl⟩ := List.mem_iff_getElem.1 hx
    simp only [List.length_drop] at hj
    rw [List.getElem_drop]
    exact hhi (i + j) _ (by omega) (List.getElem?_eq_getElem (by omega))
  have f1 : (s.filter fun x => decide (x.id < d)) = s.take i := by
    conv => lhs; rw [e]
    rw [List.filter_append, List.filter_eq_self.2 (fun x hx => decide_eq_true (hlt x hx)), List.filter_eq_nil_iff.2 (fun x hx => by have := hge x hx; simp; omega), List.append_nil]
  have f2 : (s.filter fun x => decide (d < x.id)) = (s.drop i).filter fun x => decide (d < x.id) := by
    conv => lhs; rw [e]
    rw [List.filter_append, List.filter_eq_nil_iff.2 (fun x hx => by have := hlt x hx; simp; omega), List.nil_append]
  have f3 : findP s d = findP (s.drop i) d := by
    conv => lhs; rw [e]
    unfold findP
    rw [List.find?_append, List.find?_eq_none.2 (fun x hx => by have := hlt x hx; simp; omega)]
    simp
  refine ⟨f1, fun x hx hd => ?_, fun hn => ?_⟩
  · have hdr : s.drop i = x :: s.drop (i + 1) := by
      obtain ⟨hi', rfl⟩ := List.getElem?_eq_some_iff.1 hx
      exact List.drop_eq_getElem_cons hi'
    have hpw : (s.drop i).Pairwise fun a b => a.id < b.id := hs.sublist (List.drop_sublist _ _)
    rw [hdr] at hpw
    have hgt := (List.pairwise_cons.1 hpw).1
    constructor
    · rw [f2, hdr, List.filter_cons, if_neg (by simp; omega), List.filter_eq_self.2 (fun y hy => decide_eq_true (by have := hgt y hy; omega))]
    · rw [f3, hdr]
      unfold findP
      rw [List.find?_cons, decide_eq_true hd]
  · have hall : ∀ x ∈ s.drop i, d < x.id := by
      intro x hx
      have hle := hge x hx
      by_cases e2 : x.id = d
      · exfalso
        obtain ⟨j, hj, rfl⟩ := List.mem_iff_getElem.1 hx
        simp only [List.length_drop] at hj
        rw [List.getElem_drop] at e2
        rcases Nat.eq_zero_or_pos j with h0 | h0
        · subst h0
          exact hn _ (List.getElem?_eq_getElem (by omega)) e2
        · have h1 := List.pairwise_iff_getElem.1 hs i (i + j) (by omega) (by omega) (by omega)
          have h2 := hhi i _ (Nat.le_refl _) (List.getElem?_eq_getElem (by omega))
          omega
      · omega
    constructor
    · rw [f2, List.filter_eq_self.2 (fun x hx => decide_eq_true (hall x hx))]
    · rw [f3]
      unfold findP
      rw [List.find?_eq_none]
      intro x hx hc
      have := hall x hx
      simp only [decide_eq_true_eq] at hc
      omega

/-! ### put, fence -/
theorem cutL_len (l : List Int) : (cutL l).length = min l.length 20 := by
  unfold cutL
  rw [List.length_drop]
  omega
theorem look_ok {s : List Prd} {id ep sq : Int} (h : (lookF s id ep sq).2 = 0) : 0 ≤ id ∧ id < 1099511627776 ∧ 0 ≤ ep ∧ ep < 1099511627776 ∧ 0 ≤ sq ∧ sq < 1099511627776 ∧ ep = (getP s id).epoch ∧ sq = (getP s id).next ∧ (findP s id ≠ none ∨ s.length < 50) := by
  unfold lookF at h
  split at h
  · simp at h
  · rename_i h1
    split at h
    · simp at h
    · split at h
      · simp at h
      · split at h
        · simp at h
        · split at h
          · simp at h
          · rename_i h5
            split at h
            · rename_i h6
              refine ⟨by omega, by omega, by omega, by omega, by omega, by omega, by omega, h6, ?_⟩
              by_cases hn : findP s id = none
              · right
                rcases Nat.lt_or_ge s.length 50 with hlt | hge
                · exact hlt
                · exact absurd ⟨hn, hge⟩ h5
              · exact .inl hn
            · split at h <;> simp at h
theorem put_fine {p : Prd} (h : FineP p) {pos : Int} (hp : inN pos) (hn : p.next < 1099511627776) (hl : ∀ x ∈ p.last, x < pos) : FineP { p with next := p.next + 1, last := cutL (p.last ++ [pos]) } := by
  have hlen := h.len
  obtain ⟨n0, n1⟩ := h.next
  refine ⟨h.id, h.epoch, ⟨by simp only; omega, by simp only; omega⟩, ?_, ?_, ?_⟩
  · simp only [cutL_len, List.length_append, List.length_singleton]
    omega
  · simp only [cutL]
    refine List.Pairwise.sublist (List.drop_sublist _ _) (List.pairwise_append.2 ⟨h.asc, by simp, fun a ha b hb => ?_⟩)
    rw [List.mem_singleton.1 hb]
    exact hl a ha
  · intro x hx
    simp only [cutL] at hx
    rcases List.mem_append.1 (List.mem_of_mem_drop hx) with hx | hx
    · exact h.all x hx
    · rw [List.mem_singleton.1 hx]; exact hp
theorem put_right {s : List Prd} (h : RightP s) {id ep sq pos : Int} (hp : putOk s id ep sq pos) : RightP (putP s id pos) := by
  obtain ⟨h1, h2, h3⟩ := hp
  obtain ⟨q0, q1, q2, q3, q4, q5, q6, q7, q8⟩ := look_ok h1
  unfold putP
  refine right_with h (put_fine (getP_fine h ⟨q0, by omega⟩) h2 (by omega) h3) ?_
  rw [show ({ getP s id with next := (getP s id).next + 1, last := cutL ((getP s id).last ++ [pos]) } : Prd).id = id from getP_id s id]
  exact q8
theorem fence_cases {s : List Prd} (h : RightP s) (id : Int) : (fenceF s id).2.2 = 0 ∧ 0 ≤ id ∧ id < 1099511627776 ∧ (fenceF s id).2.1 = (getP s id).epoch + 1 ∧ (fenceF s id).1 = withP s ⟨id, (getP s id).epoch + 1, 0, []⟩ ∧ RightP (fenceF s id).1 ∨ (fenceF s id).2.2 ≠ 0 := by
  unfold fenceF
  split
  · right; simp
  · rename_i h1
    split
    · right; simp
    · rename_i h2
      left
      have hid : 0 ≤ id ∧ id < 1099511627776 := by
        by_cases hc : 0 ≤ id ∧ id < 1099511627776
        · exact hc
        · exact absurd (.inl hc) h1
      have hf := getP_fine h (id := id) ⟨hid.1, by omega⟩
      obtain ⟨e0, e1⟩ := hf.epoch
      have e2 : (getP s id).epoch ≠ 1099511627776 := fun e => h1 (.inr e)
      refine ⟨rfl, hid.1, hid.2, rfl, rfl, right_with h ⟨⟨hid.1, by simp only; omega⟩, ⟨by simp only; omega, by simp only; omega⟩, ⟨by simp, by simp⟩, by simp; omega, by simp, by simp⟩ ?_⟩
      simp only
      by_cases hn : findP s id = none
      · right
        rcases Nat.lt_or_ge s.length 50 with hlt | hge
        · exact hlt
        · exact absurd ⟨hn, hge⟩ h2
      · exact .inl hn
end Go.Proofs.Ytghciaaedjomjaa
