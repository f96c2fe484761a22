/- The plain law of the sides: which bucket has which side, and what a step does to them. No memory here. -/
import Derived.Test.YtpdmjahdnfhcoaaInvC
namespace Go.Proofs.Ytpdmjahdnfhcoaa
open Go.RowKit

/-- What Side answers. -/
def sideF (l : List Rep) (t : List Seg) (time b : Int) : Int :=
  match firstR l with
  | some r => if r.state = 2 ∧ r.frm ≤ time ∧ b < r.cut then r.ver else atF t time
  | none => atF t time
def cutR (l : List Rep) : Option Rep := l.find? fun r => decide (r.state = 2)
def sideC (o : Option Rep) (at_ time b : Int) : Int :=
  match o with
  | some r => if r.frm ≤ time ∧ b < r.cut then r.ver else at_
  | none => at_
theorem cutR_openL (l : List Rep) : cutR l = cutR (openL l) := by
  unfold cutR
  induction l with
  | nil => rfl
  | cons x l ih =>
    rw [openL_cons]
    by_cases h2 : x.state = 2
    · rw [if_pos (by rw [h2]; decide), List.find?_cons_of_pos (by simpa using h2), List.find?_cons_of_pos (by simpa using h2)]
    · rw [List.find?_cons_of_neg (by simpa using h2)]
      split
      · rw [List.find?_cons_of_neg (by simpa using h2)]; exact ih
      · exact ih
theorem cutR_none {l : List Rep} (h : ∀ x ∈ l, x.state ≠ 2) : cutR l = none := by
  unfold cutR
  rw [List.find?_eq_none]
  intro x hx
  simpa using h x hx
theorem side_eq {l : List Rep} (h : LInv l) (t : List Seg) (time b : Int) : sideF l t time b = sideC (cutR l) (atF t time) time b := by
  have hp := h.opn
  rw [cutR_openL]
  unfold sideF
  rw [firstR_head]
  cases ho : openL l with
  | nil => rfl
  | cons a r =>
    rw [ho] at hp
    have hr := (List.pairwise_cons.1 hp).1
    simp only [List.head?_cons]
    by_cases h2 : a.state = 2
    · have e : cutR (a :: r) = some a := by unfold cutR; rw [List.find?_cons_of_pos (by simpa using h2)]
      rw [e]
      simp only [sideC, h2, true_and]
    · have e : cutR (a :: r) = none := cutR_none fun x hx => by
        rcases List.mem_cons.1 hx with rfl | hx
        · exact h2
        · exact (hr x hx).2
      rw [e, if_neg (fun h => h2 h.1)]
      rfl
theorem cutR_set {l : List Rep} {i : Nat} {x y : Rep} (hx : l[i]? = some x) (h1 : x.state ≠ 2) (h2 : y.state ≠ 2) : cutR (l.set i y) = cutR l := by
  unfold cutR
  rw [set_split l i x y hx]
  conv => rhs; rw [split_at l i x hx]
  rw [List.find?_append, List.find?_append, List.find?_cons_of_neg (by simpa using h2), List.find?_cons_of_neg (by simpa using h1)]
theorem cutR_head {l : List Rep} {i : Nat} (hb : openL (l.take i) = []) (x : Rep) (r : List Rep) : cutR (l.take i ++ x :: r) = if x.state = 2 then some x else cutR r := by
  have hn : cutR (l.take i) = none := by rw [cutR_openL, hb]; rfl
  unfold cutR at hn ⊢
  rw [List.find?_append, hn]
  simp only [Option.none_or]
  by_cases h2 : x.state = 2
  · rw [if_pos h2, List.find?_cons_of_pos (by simpa using h2)]
  · rw [if_neg h2, List.find?_cons_of_neg (by simpa using h2)]
theorem cutR_rest {l : List Rep} (h : LInv l) {i : Nat} {x : Rep} (hx : l[i]? = some x) (ho : openB x.state = true) : cutR (l.drop (i + 1)) = none := by
  have hp := h.opn
  rw [split_at l i x hx, openL_append, openL_cons, if_pos ho] at hp
  have h2 := (List.pairwise_cons.1 (List.pairwise_append.1 hp).2.1).1
  rw [cutR_openL]
  exact cutR_none fun y hy => (h2 y hy).2

/-- The bucket that the law expects to be switched, and its version. -/
def buckF (s : St) (o : OpD) (time : Int) : Int × Int :=
  if (stepF s o).2.2 = 0 ∧ 4 ≤ and7 o.dO ∧ 1 ≤ o.no ∧ o.no ≤ s.l.length ∧ (s.l[(o.no - 1).toNat]!).frm ≤ time then ((s.l[(o.no - 1).toNat]!).cut, (s.l[(o.no - 1).toNat]!).ver) else (-1, 0)
theorem side_step {s : St} (h : Inv s) (hw : WInv s) (o : OpD) {time b : Int} (ht : 0 ≤ time) (hb : 0 ≤ b) (hb2 : b < 16) :
    sideF (stepF s o).1.l (stepF s o).1.t time b = if b = (buckF s o time).1 then (buckF s o time).2 else sideF s.l s.t time b := by
  have hn := step_inv h hw o
  rw [side_eq hn.1.li, side_eq h.li]
  have hz : ¬ b = -1 := by omega
  rcases step_cases h o with ⟨e, hc⟩ | ⟨h0, h3, hc⟩ | ⟨h0, h4, i, x, hno, hx, ho, hbf, hf, c0, c1, c2, hc⟩
  · have hk : buckF s o time = (-1, 0) := by unfold buckF; rw [if_neg (by rcases hc with hc | hc <;> omega)]
    rw [e, hk, if_neg hz]
  · have hk : buckF s o time = (-1, 0) := by unfold buckF; rw [if_neg (by omega)]
    rw [hk, if_neg hz]
    rcases hc with ⟨f, ver, back, q0, q1, q2, q3, q4, q5, q6, e⟩ | ⟨i, x, st, hx, hs, hst, e⟩
    · rw [e]
      have hnc := no_cutting h.li q5
      rw [cutR_none hnc]
      simp only
      rw [cutR_none]
      intro y hy
      rcases List.mem_append.1 hy with hy | hy
      · obtain ⟨z, hz, rfl⟩ := List.mem_map.1 hy
        rcases sup_state f z with e | ⟨e, _, _⟩
        · rw [e]; exact hnc z hz
        · rw [e]; decide
      · rw [List.mem_singleton.1 hy]; simp
    · rw [e]
      simp only
      rw [cutR_set hx (by omega) (by simp only; omega)]
  · obtain ⟨hi, hxe⟩ := List.getElem?_eq_some_iff.1 hx
    obtain ⟨p1, p2, p3, p4, p5, _⟩ := h.li.ok i x hx
    have hg : s.l[(o.no - 1).toNat]! = x := by
      rw [show (o.no - 1).toNat = i by omega, getElem!_pos s.l i hi]; exact hxe
    have hk : buckF s o time = if x.frm ≤ time then (x.cut, x.ver) else (-1, 0) := by
      unfold buckF
      rw [hg]
      by_cases hft : x.frm ≤ time
      · rw [if_pos hft, if_pos ⟨h0, h4, by omega, by omega, hft⟩]
      · rw [if_neg hft, if_neg (fun q => hft q.2.2.2.2)]
    have hrest := cutR_rest h.li hx ho
    have hold : cutR s.l = if x.state = 2 then some x else none := by
      conv => lhs; rw [split_at s.l i x hx]
      rw [cutR_head hbf, hrest]
    have hside : sideC (cutR s.l) (atF s.t time) time b = if x.frm ≤ time ∧ b < x.cut then x.ver else atF s.t time := by
      rw [hold]
      rcases c2 with c2 | ⟨c2, c3⟩
      · rw [if_pos c2]; rfl
      · rw [if_neg (by omega), if_neg (by omega)]; rfl
    rw [hside, hk]
    rcases hc with ⟨hc, e⟩ | ⟨hc, e⟩
    · rw [e]
      simp only
      have hnew : cutR (s.l.set i { x with cut := 16, state := 3 }) = none := by
        rw [set_split s.l i x _ hx, cutR_head hbf, hrest, if_neg (by simp)]
      rw [hnew]
      show atF (trepF s.t x.frm x.ver).1 time = _
      rw [at_trep h.tr p2 p3 p4 p5 ht]
      by_cases hft : x.frm ≤ time
      · rw [if_pos hft, if_pos hft]
        simp only
        split
        · rfl
        · rw [if_pos ⟨hft, by omega⟩]
      · rw [if_neg hft, if_neg hft, if_neg hz, if_neg (fun q => hft q.1)]
    · rw [e]
      simp only
      have hnew : cutR (s.l.set i { x with cut := x.cut + 1, state := 2 }) = some { x with cut := x.cut + 1, state := 2 } := by
        rw [set_split s.l i x _ hx, cutR_head hbf, if_pos rfl]
      rw [hnew]
      simp only [sideC]
      by_cases hft : x.frm ≤ time
      · rw [if_pos hft]
        simp only
        by_cases hbc : b = x.cut
        · rw [if_pos hbc, if_pos ⟨hft, by omega⟩]
        · rw [if_neg hbc]
          by_cases hlt : b < x.cut
          · rw [if_pos ⟨hft, by omega⟩, if_pos ⟨hft, hlt⟩]
          · rw [if_neg (fun q => by have := q.2; omega), if_neg (fun q => hlt q.2)]
      · rw [if_neg hft, if_neg hz, if_neg (fun q => hft q.1), if_neg (fun q => hft q.1)]
theorem buck_cases {s : St} (h : Inv s) (o : OpD) (time : Int) : (((stepF s o).2.2 ≠ 0 ∨ and7 o.dO < 4) ∧ buckF s o time = (-1, 0)) ∨
    ((stepF s o).2.2 = 0 ∧ 4 ≤ and7 o.dO ∧ ∃ (i : Nat) (x : Rep), o.no = (i : Int) + 1 ∧ s.l[i]? = some x ∧ ((x.frm ≤ time ∧ buckF s o time = (x.cut, x.ver)) ∨ (time < x.frm ∧ buckF s o time = (-1, 0)))) := by
  by_cases hc : (stepF s o).2.2 ≠ 0 ∨ and7 o.dO < 4
  · left
    refine ⟨hc, ?_⟩
    unfold buckF
    rw [if_neg (by rcases hc with hc | hc <;> omega)]
  · right
    rcases step_cases h o with ⟨_, hd⟩ | ⟨_, h3, _⟩ | ⟨h0, h4, i, x, hno, hx, _⟩
    · rcases hd with hd | hd <;> omega
    · omega
    · obtain ⟨hi, hxe⟩ := List.getElem?_eq_some_iff.1 hx
      have hg : s.l[(o.no - 1).toNat]! = x := by
        rw [show (o.no - 1).toNat = i by omega, getElem!_pos s.l i hi]; exact hxe
      refine ⟨h0, h4, i, x, hno, hx, ?_⟩
      unfold buckF
      rw [hg]
      by_cases hft : x.frm ≤ time
      · exact .inl ⟨hft, if_pos ⟨h0, h4, by omega, by omega, hft⟩⟩
      · exact .inr ⟨by omega, if_neg (fun q => hft q.2.2.2.2)⟩
theorem side_free {l : List Rep} (h : ∀ x ∈ l, x.state ≠ 2) (t : List Seg) (time b : Int) : sideF l t time b = atF t time := by
  unfold sideF
  cases hf : firstR l with
  | none => rfl
  | some r =>
    have hm : r ∈ l := by unfold firstR at hf; exact List.mem_of_find?_eq_some hf
    simp only
    rw [if_neg (fun q => h r hm q.1)]
/-- Is one being cut among the first k? -/
def cuttingF (l : List Rep) : Bool := l.any fun r => decide (r.state = 2)
theorem cutting_snoc {l : List Rep} {k : Nat} {x : Rep} (hx : l[k]? = some x) : cuttingF (l.take (k + 1)) = (cuttingF (l.take k) || (x.state == 2)) := by
  rw [List.take_add_one, hx]
  unfold cuttingF
  rw [List.any_append]
  simp only [Option.toList_some, List.any_cons, List.any_nil, Bool.or_false]
  rfl
theorem cutting_free {l : List Rep} (h : cuttingF l = false) : ∀ x ∈ l, x.state ≠ 2 := by
  intro x hx e
  unfold cuttingF at h
  rw [List.any_eq_false] at h
  have := h x hx
  simp [e] at this
end Go.Proofs.Ytpdmjahdnfhcoaa
