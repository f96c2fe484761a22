/- The operations of a law, as they lie in memory; the state after a list of them. -/
import Derived.Test.YtpdmjahdnfhcoaaSmall
namespace Go.Proofs.Ytpdmjahdnfhcoaa
open Go.RowKit

def encO (o : OpD) : List Value := [.int .i64 o.dO, .int .i64 o.no, .int .i64 o.frm, .int .i64 o.ver, .int .i64 o.back, .int .i64 o.hor, .bool o.raise]
theorem encO_len (o : OpD) : (encO o).length = 7 := rfl
def st0 : St := ⟨[], [⟨0, 1⟩]⟩
def runF (l : List OpD) : St := l.foldl (fun s o => (stepF s o).1) st0
theorem runF_snoc (l : List OpD) (o : OpD) : runF (l ++ [o]) = (stepF (runF l) o).1 := by simp [runF]

theorem askEnd_cases (l : List Rep) (f ver back : Int) : askEnd l f ver back = ([], 0, 6) ∨ askEnd l f ver back = (l.map (superseded f) ++ [⟨l.length + 1, f, ver, max 0 (f - back), 0, 0⟩], f, 0) := by
  unfold askEnd
  split
  · exact .inl rfl
  · exact .inr rfl
theorem askF_cases (l : List Rep) (frm ver back hor : Int) (raise : Bool) :
    askF l frm ver back hor raise = ([], 0, 3) ∨
    (0 ≤ frm ∧ frm ≤ 1099511627776 ∧ 0 ≤ back ∧ back ≤ 1099511627776 ∧ 0 ≤ hor ∧ hor ≤ 1099511627776 ∧
      (askF l frm ver back hor raise = ([], 0, 8) ∨
       (0 < hor ∧ frm < hor + back ∧ askF l frm ver back hor raise = ([], hor + back, 23)) ∨
       (0 < hor ∧ frm < hor + back ∧ raise = true ∧ hor + back ≤ 1099511627776 ∧ askF l frm ver back hor raise = askEnd l (hor + back) ver back) ∨
       (¬ (0 < hor ∧ frm < hor + back) ∧ askF l frm ver back hor raise = askEnd l frm ver back))) := by
  by_cases hr : ¬ (withinB frm 0 1099511627776 = true ∧ withinB ver 1 50 = true ∧ withinB back 0 1099511627776 = true ∧ withinB hor 0 1099511627776 = true)
  · left; unfold askF; rw [if_pos hr]
  · right
    obtain ⟨h1, _, h2, h3⟩ := Classical.not_not.1 hr
    simp only [withinB, decide_eq_true_eq] at h1 h2 h3
    refine ⟨h1.1, h1.2, h2.1, h2.2, h3.1, h3.2, ?_⟩
    have e0 : askF l frm ver back hor raise = if (firstR l).isSome = true ∧ ((firstR l).getD repZ).state = 2 then ([], 0, 8) else if 0 < hor ∧ frm < hor + back ∧ (¬ raise = true ∨ 1099511627776 < hor + back) then ([], hor + back, 23) else askEnd l (if 0 < hor ∧ frm < hor + back then hor + back else frm) ver back := by
      unfold askF askEnd; rw [if_neg hr]
    rw [e0]
    by_cases hb : (firstR l).isSome = true ∧ ((firstR l).getD repZ).state = 2
    · left; rw [if_pos hb]
    · right
      rw [if_neg hb]
      by_cases hc : 0 < hor ∧ frm < hor + back
      · by_cases hd : ¬ raise = true ∨ 1099511627776 < hor + back
        · left; exact ⟨hc.1, hc.2, by rw [if_pos ⟨hc.1, hc.2, hd⟩]⟩
        · right; left
          have hra : raise = true := Classical.not_not.1 (fun h => hd (.inl h))
          have hle : ¬ 1099511627776 < hor + back := fun h => hd (.inr h)
          exact ⟨hc.1, hc.2, hra, by omega, by rw [if_neg (fun h => hd h.2.2), if_pos hc]⟩
      · right; right
        exact ⟨hc, by rw [if_neg (fun h => hc ⟨h.1, h.2.1⟩), if_neg hc]⟩
theorem askF_len (l : List Rep) (a b c d : Int) (e : Bool) : (askF l a b c d e).1.length ≤ l.length + 1 := by
  rcases askF_cases l a b c d e with h | ⟨_, _, _, _, _, _, h | ⟨_, _, h⟩ | ⟨_, _, _, _, h⟩ | ⟨_, h⟩⟩
  · rw [h]; simp
  · rw [h]; simp
  · rw [h]; simp
  · rw [h]
    rcases askEnd_cases l (d + c) b c with h | h <;> rw [h] <;> simp
  · rw [h]
    rcases askEnd_cases l a b c with h | h <;> rw [h] <;> simp
theorem setF_len (l : List Rep) (a b : Int) : (setF l a b).1.length ≤ l.length := by
  unfold setF
  split
  · simp
  · simp only
    split <;> simp
theorem cutF_len (l : List Rep) (t : List Seg) (a : Int) : (cutF l t a).1.length ≤ l.length ∧ (cutF l t a).2.1.length ≤ t.length + 1 := by
  unfold cutF
  split
  · simp
  · simp only
    split
    · simp
    · split
      · simp
      · split
        · refine ⟨by simp, ?_⟩
          simp only
          unfold trepF
          split
          · simp
          · simp only
            split
            · simp only [List.length_append, List.length_take, List.length_singleton]; omega
            · simp only [List.length_take]; omega
        · simp
theorem stepF_len (s : St) (o : OpD) : (stepF s o).1.l.length ≤ s.l.length + 1 ∧ (stepF s o).1.t.length ≤ s.t.length + 1 := by
  have h1 := askF_len s.l o.frm o.ver o.back o.hor o.raise
  have h2 := setF_len s.l o.no 4
  have h3 := setF_len s.l o.no (cst o.raise)
  have h4 := cutF_len s.l s.t o.no
  unfold stepF
  split
  · simp only
    split
    · exact ⟨h1, by simp⟩
    · exact ⟨by simp, by simp⟩
  · split
    · simp only
      split
      · exact ⟨by simp only; omega, by simp⟩
      · exact ⟨by simp, by simp⟩
    · split
      · simp only
        split
        · exact ⟨by simp only; omega, by simp⟩
        · exact ⟨by simp, by simp⟩
      · simp only
        split
        · exact ⟨by simp only; omega, h4.2⟩
        · exact ⟨by simp, by simp⟩
theorem runF_len (ops : List OpD) : ∀ k, (runF (ops.take k)).l.length ≤ k ∧ (runF (ops.take k)).t.length ≤ k + 1 := by
  intro k
  induction k with
  | zero => simp [runF, st0]
  | succ k ih =>
    rcases Nat.lt_or_ge k ops.length with h | h
    · rw [List.take_add_one, List.getElem?_eq_getElem h]
      simp only [Option.toList_some, runF_snoc]
      have := stepF_len (runF (ops.take k)) ops[k]
      omega
    · rw [List.take_of_length_le (by omega)]
      rw [List.take_of_length_le (by omega)] at ih
      omega

/-! ### What Ask answers, in the law's words -/
theorem ask_23 {l : List Rep} {frm ver back hor : Int} {raise : Bool} (h : (askF l frm ver back hor raise).2.2 = 23) :
    (askF l frm ver back hor raise).2.1 = hor + back ∧ frm < hor + back ∧ (askF l (hor + back) ver back hor false).2.2 ≠ 23 ∧ 0 ≤ hor ∧ hor ≤ 1099511627776 ∧ 0 ≤ back ∧ back ≤ 1099511627776 := by
  have h2 : (askF l (hor + back) ver back hor false).2.2 ≠ 23 := by
    rcases askF_cases l (hor + back) ver back hor false with e | ⟨_, _, _, _, _, _, e | ⟨_, hlt, e⟩ | ⟨_, hlt, _, _, e⟩ | ⟨_, e⟩⟩
    · rw [e]; simp
    · rw [e]; simp
    · omega
    · omega
    · rw [e]
      rcases askEnd_cases l (hor + back) ver back with e | e <;> rw [e] <;> simp
  rcases askF_cases l frm ver back hor raise with e | ⟨_, _, q3, q4, q5, q6, e | ⟨_, hlt, e⟩ | ⟨_, hlt, _, _, e⟩ | ⟨_, e⟩⟩
  · rw [e] at h; simp at h
  · rw [e] at h; simp at h
  · rw [e]; exact ⟨rfl, hlt, h2, q5, q6, q3, q4⟩
  · rw [e] at h
    rcases askEnd_cases l (hor + back) ver back with e | e <;> rw [e] at h <;> simp at h
  · rw [e] at h
    rcases askEnd_cases l frm ver back with e | e <;> rw [e] at h <;> simp at h
theorem ask_err {l : List Rep} {frm ver back hor : Int} {raise : Bool} (h : (askF l frm ver back hor raise).2.2 ≠ 23) (h0 : (askF l frm ver back hor raise).2.2 ≠ 0) :
    (askF l frm ver back hor raise).2.1 = 0 ∧ (askF l frm ver back hor raise).1 = [] := by
  rcases askF_cases l frm ver back hor raise with e | ⟨_, _, q3, q4, q5, q6, e | ⟨_, hlt, e⟩ | ⟨_, hlt, _, _, e⟩ | ⟨_, e⟩⟩
  · rw [e]; simp
  · rw [e]; simp
  · rw [e] at h; exact absurd rfl h
  · rw [e] at h0 ⊢
    rcases askEnd_cases l (hor + back) ver back with e | e <;> rw [e] at h0 ⊢ <;> simp at h0 ⊢
  · rw [e] at h0 ⊢
    rcases askEnd_cases l frm ver back with e | e <;> rw [e] at h0 ⊢ <;> simp at h0 ⊢
theorem ask_ok {l : List Rep} {frm ver back hor : Int} {raise : Bool} (h : (askF l frm ver back hor raise).2.2 = 0) :
    ∃ (l0 : List Rep) (no f : Int), askF l frm ver back hor raise = (l0 ++ [⟨no, f, ver, max 0 (f - back), 0, 0⟩], f, 0) ∧ l0.length = l.length ∧ (f = frm ∨ (raise = true ∧ f = hor + back ∧ frm < f)) ∧
      (hor = 0 ∨ hor ≤ max 0 (f - back)) ∧ 0 ≤ hor ∧ hor ≤ 1099511627776 ∧ 0 ≤ back ∧ back ≤ 1099511627776 ∧ 0 ≤ f ∧ f ≤ 1099511627776 := by
  rcases askF_cases l frm ver back hor raise with e | ⟨q1, q2, q3, q4, q5, q6, e | ⟨_, hlt, e⟩ | ⟨_, hlt, hra, _, e⟩ | ⟨hn, e⟩⟩
  · rw [e] at h; simp at h
  · rw [e] at h; simp at h
  · rw [e] at h; simp at h
  · rw [e] at h ⊢
    rcases askEnd_cases l (hor + back) ver back with e | e
    · rw [e] at h; simp at h
    · rw [e]
      exact ⟨_, _, _, rfl, by simp, .inr ⟨hra, rfl, hlt⟩, by omega, q5, q6, q3, q4, by omega, by omega⟩
  · rw [e] at h ⊢
    rcases askEnd_cases l frm ver back with e | e
    · rw [e] at h; simp at h
    · rw [e]
      exact ⟨_, _, _, rfl, by simp, .inl rfl, by omega, q5, q6, q3, q4, by omega, by omega⟩
end Go.Proofs.Ytpdmjahdnfhcoaa
