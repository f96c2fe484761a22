/- The plain law of the replacements: each operation. No memory here. -/
import Derived.Test.YtpdmjahdnfhcoaaInvB
namespace Go.Proofs.Ytpdmjahdnfhcoaa
open Go.RowKit

theorem and7_range (x : Int) : 0 ≤ and7 x ∧ and7 x ≤ 7 := by
  have h : bits .and .i64 x 7 = IntKind.i64.wrap ((BitVec.ofInt 64 x &&& BitVec.ofInt 64 7).toNat : Int) := rfl
  have h2 : (BitVec.ofInt 64 x &&& BitVec.ofInt 64 7).toNat ≤ 7 := by
    rw [BitVec.toNat_and]
    have h7 : (BitVec.ofInt 64 7).toNat = 7 := by decide
    rw [h7]
    exact Nat.and_le_right
  unfold and7
  rw [h, IntKind.wrap_i64]
  omega

/-! ### What wants to be seen at a time -/
def wstep (time : Int) (w : Int) (r : Rep) : Int := if r.state = 3 ∧ r.frm ≤ time then r.ver else w
def wantF (l : List Rep) (time : Int) : Int := l.foldl (wstep time) 1
theorem fold_id (time : Int) (l : List Rep) (h : ∀ x ∈ l, x.state ≠ 3) (w : Int) : l.foldl (wstep time) w = w := by
  induction l generalizing w with
  | nil => rfl
  | cons x l ih =>
    rw [List.foldl_cons, show wstep time w x = w from by unfold wstep; rw [if_neg (fun e => h x (by simp) e.1)]]
    exact ih (fun y hy => h y (by simp [hy])) w
theorem want_set {l : List Rep} {i : Nat} {x y : Rep} (hx : l[i]? = some x) (h1 : x.state ≠ 3) (h2 : y.state ≠ 3) (time : Int) : wantF (l.set i y) time = wantF l time := by
  unfold wantF
  rw [set_split l i x y hx]
  conv => rhs; rw [split_at l i x hx]
  simp only [List.foldl_append, List.foldl_cons]
  rw [show ∀ w, wstep time w y = w from fun w => by unfold wstep; rw [if_neg (fun e => h2 e.1)], show ∀ w, wstep time w x = w from fun w => by unfold wstep; rw [if_neg (fun e => h1 e.1)]]
theorem want_done {l : List Rep} (h : LInv l) {i : Nat} {x y : Rep} (hx : l[i]? = some x) (ho : openB x.state = true) (h2 : y.state = 3) (time : Int) : wantF (l.set i y) time = if y.frm ≤ time then y.ver else wantF l time := by
  have hd := h.done
  rw [split_at l i x hx] at hd
  obtain ⟨_, d2, _⟩ := List.pairwise_append.1 hd
  have d4 := (List.pairwise_cons.1 d2).1
  have hx3 : x.state ≠ 3 := by
    intro e
    rw [e] at ho
    simp [openB] at ho
  unfold wantF
  rw [set_split l i x y hx]
  conv => rhs; rw [split_at l i x hx]
  simp only [List.foldl_append, List.foldl_cons]
  rw [fold_id time _ (fun b hb => d4 b hb ho), fold_id time _ (fun b hb => d4 b hb ho)]
  rw [show ∀ w, wstep time w x = w from fun w => by unfold wstep; rw [if_neg (fun e => hx3 e.1)]]
  unfold wstep
  by_cases hf : y.frm ≤ time
  · rw [if_pos ⟨h2, hf⟩, if_pos hf]
  · rw [if_neg (fun e => hf e.2), if_neg hf]
theorem sup_fields (f : Int) (r : Rep) : (superseded f r).no = r.no ∧ (superseded f r).frm = r.frm ∧ (superseded f r).ver = r.ver ∧ (superseded f r).start = r.start ∧ (superseded f r).cut = r.cut := by
  unfold superseded
  split <;> simp
theorem sup_state (f : Int) (r : Rep) : (superseded f r).state = r.state ∨ ((superseded f r).state = 5 ∧ openB r.state = true ∧ f ≤ r.frm) := by
  unfold superseded
  split
  · rename_i h; exact .inr ⟨rfl, h⟩
  · exact .inl rfl
theorem want_ask (l : List Rep) (f : Int) (n : Rep) (hn : n.state ≠ 3) (time : Int) : wantF (l.map (superseded f) ++ [n]) time = wantF l time := by
  unfold wantF
  rw [List.foldl_append, List.foldl_map]
  simp only [List.foldl_cons, List.foldl_nil]
  rw [show ∀ w, wstep time w n = w from fun w => by unfold wstep; rw [if_neg (fun e => hn e.1)]]
  congr 1
  funext w r
  obtain ⟨_, e2, e3, _⟩ := sup_fields f r
  unfold wstep
  rw [e2, e3]
  rcases sup_state f r with e | ⟨e, ho, _⟩
  · rw [e]
  · rw [e]
    have : r.state ≠ 3 := by
      intro e
      rw [e] at ho
      simp [openB] at ho
    rw [if_neg (fun h => by have := h.1; omega), if_neg (fun h => this h.1)]

/-! ### Nothing is being cut -/
theorem no_cutting {l : List Rep} (h : LInv l) (hb : ¬ ((firstR l).isSome = true ∧ ((firstR l).getD repZ).state = 2)) : ∀ x ∈ l, x.state ≠ 2 := by
  intro x hx e
  have hm : x ∈ openL l := by unfold openL; exact List.mem_filter.2 ⟨hx, by rw [e]; decide⟩
  have hp := h.opn
  cases ho : openL l with
  | nil => rw [ho] at hm; simp at hm
  | cons a r =>
    rw [ho] at hm hp
    have hf : firstR l = some a := by rw [firstR_head, ho]; rfl
    rcases List.mem_cons.1 hm with rfl | hm
    · exact hb ⟨by rw [hf]; rfl, by rw [hf]; exact e⟩
    · exact ((List.pairwise_cons.1 hp).1 x hm).2 e
theorem openL_sup (l : List Rep) (f : Int) : (openL (l.map (superseded f))).Pairwise Rel → True := fun _ => trivial
theorem openL_sup_eq (f : Int) : ∀ l : List Rep, openL (l.map (superseded f)) = (openL l).filter fun r => decide (r.frm < f) := by
  intro l
  induction l with
  | nil => rfl
  | cons x l ih =>
    rw [List.map_cons, openL_cons, openL_cons, ih]
    by_cases ho : openB x.state = true
    · rw [if_pos ho]
      by_cases hf : f ≤ x.frm
      · have e : superseded f x = { x with state := 5 } := by unfold superseded; rw [if_pos ⟨ho, hf⟩]
        rw [e, if_neg (by simp [openB]), List.filter_cons_of_neg (by simp only [decide_eq_true_eq]; omega)]
      · have e : superseded f x = x := by unfold superseded; rw [if_neg (fun h => hf h.2)]
        rw [e, if_pos ho, List.filter_cons_of_pos (by simp only [decide_eq_true_eq]; omega)]
    · have e : superseded f x = x := by unfold superseded; rw [if_neg (fun h => ho h.1)]
      rw [e, if_neg ho, if_neg ho]

/-! ### Ask -/
theorem ask_full {l : List Rep} {frm ver back hor : Int} {raise : Bool} (h : (askF l frm ver back hor raise).2.2 = 0) :
    ∃ f : Int, 0 ≤ f ∧ f ≤ 1099511627776 ∧ 1 ≤ ver ∧ ver ≤ 50 ∧ 0 ≤ back ∧ ¬ ((firstR l).isSome = true ∧ ((firstR l).getD repZ).state = 2) ∧ ¬ 3 ≤ (openL (l.map (superseded f))).length ∧
      askF l frm ver back hor raise = (l.map (superseded f) ++ [⟨l.length + 1, f, ver, max 0 (f - back), 0, 0⟩], f, 0) := by
  by_cases hr : ¬ (withinB frm 0 1099511627776 = true ∧ withinB ver 1 50 = true ∧ withinB back 0 1099511627776 = true ∧ withinB hor 0 1099511627776 = true)
  · have e : askF l frm ver back hor raise = ([], 0, 3) := by unfold askF; rw [if_pos hr]
    rw [e] at h; simp at h
  · obtain ⟨h1, h2, h3, h4⟩ := Classical.not_not.1 hr
    simp only [withinB, decide_eq_true_eq] at h1 h2 h3 h4
    by_cases hb : (firstR l).isSome = true ∧ ((firstR l).getD repZ).state = 2
    · have e : askF l frm ver back hor raise = ([], 0, 8) := by unfold askF; rw [if_neg hr, if_pos hb]
      rw [e] at h; simp at h
    · by_cases hc : 0 < hor ∧ frm < hor + back ∧ (¬ raise = true ∨ 1099511627776 < hor + back)
      · have e : askF l frm ver back hor raise = ([], hor + back, 23) := by unfold askF; rw [if_neg hr, if_neg hb, if_pos hc]
        rw [e] at h; simp at h
      · have e : askF l frm ver back hor raise = askEnd l (if 0 < hor ∧ frm < hor + back then hor + back else frm) ver back := by unfold askF askEnd; rw [if_neg hr, if_neg hb, if_neg hc]
        have hfr : 0 ≤ (if 0 < hor ∧ frm < hor + back then hor + back else frm) ∧ (if 0 < hor ∧ frm < hor + back then hor + back else frm) ≤ 1099511627776 := by
          by_cases hd : 0 < hor ∧ frm < hor + back
          · rw [if_pos hd]
            have : ¬ 1099511627776 < hor + back := fun h => hc ⟨hd.1, hd.2, .inr h⟩
            omega
          · rw [if_neg hd]; omega
        generalize (if 0 < hor ∧ frm < hor + back then hor + back else frm) = f at e hfr
        by_cases hf : 3 ≤ (openL (l.map (superseded f))).length
        · rw [e] at h; unfold askEnd at h; rw [if_pos hf] at h; simp at h
        · exact ⟨f, hfr.1, hfr.2, h2.1, h2.2, h3.1, hb, hf, by rw [e]; unfold askEnd; rw [if_neg hf]⟩
theorem ask_inv {l : List Rep} (h : LInv l) {f ver back : Int} (h0 : 0 ≤ f) (h1 : f ≤ 1099511627776) (h2 : 1 ≤ ver) (h3 : ver ≤ 50) (h4 : 0 ≤ back)
    (hb : ¬ ((firstR l).isSome = true ∧ ((firstR l).getD repZ).state = 2)) (hf : ¬ 3 ≤ (openL (l.map (superseded f))).length) : LInv (l.map (superseded f) ++ [⟨l.length + 1, f, ver, max 0 (f - back), 0, 0⟩]) := by
  have hnc := no_cutting h hb
  refine ⟨?_, ?_, ?_, ?_⟩
  · intro i r hi
    by_cases hlt : i < l.length
    · rw [List.getElem?_append_left (by simpa using hlt), List.getElem?_map] at hi
      obtain ⟨x, hx, rfl⟩ := Option.map_eq_some_iff.1 hi
      obtain ⟨q1, q2, q3, q4, q5, q6, q7, q8, q9, q10, q11, q12⟩ := h.ok i x hx
      obtain ⟨e1, e2, e3, e4, e5⟩ := sup_fields f x
      have hx2 := hnc x (List.mem_of_getElem? hx)
      unfold okR
      rw [e1, e2, e3, e4, e5]
      rcases sup_state f x with e | ⟨e, ho, _⟩
      · rw [e]; exact ⟨q1, q2, q3, q4, q5, q6, q7, q8, q9, q10, q11, q12⟩
      · rw [e]
        have hx3 : x.state ≠ 3 := by
          intro e
          rw [e] at ho
          simp [openB] at ho
        exact ⟨q1, q2, q3, q4, q5, q6, q7, by decide, by decide, by omega, by omega, fun _ _ => q12 hx2 hx3⟩
    · have hlt2 := (List.getElem?_eq_some_iff.1 hi).1
      simp only [List.length_append, List.length_map, List.length_singleton] at hlt2
      obtain rfl : i = l.length := by omega
      rw [List.getElem?_append_right (by simp)] at hi
      simp only [List.length_map, Nat.sub_self, List.getElem?_cons_zero, Option.some.injEq] at hi
      subst hi
      exact ⟨rfl, h0, h1, h2, h3, by show (0 : Int) ≤ max 0 (f - back); omega, by show max 0 (f - back) ≤ f; omega, by show (0 : Int) ≤ 0; decide, by show (0 : Int) ≤ 5; decide, fun h => by simp at h, fun h => by simp at h, fun _ _ => rfl⟩
  · rw [openL_append, openL_sup_eq]
    refine List.pairwise_append.2 ⟨h.opn.filter _, by simp [openL_cons, openL, openB], fun a ha b hb => ?_⟩
    have ha' := (List.mem_filter.1 ha).2
    simp only [openL, openB, List.filter_cons_of_pos, List.filter_nil] at hb
    simp only [List.mem_filter, List.mem_singleton] at hb
    obtain ⟨rfl, _⟩ := hb
    exact ⟨by simpa using ha', by simp⟩
  · rw [openL_append, List.length_append]
    have : (openL [(⟨l.length + 1, f, ver, max 0 (f - back), 0, 0⟩ : Rep)]).length ≤ 1 := by unfold openL; exact List.length_filter_le _ _
    omega
  · refine List.pairwise_append.2 ⟨?_, by simp, fun a _ b hb => ?_⟩
    · rw [List.pairwise_map]
      refine h.done.imp ?_
      intro a b hab ho
      have hoa : openB a.state = true := by
        rcases sup_state f a with e | ⟨e, ho', _⟩
        · rw [e] at ho; exact ho
        · exact ho'
      rcases sup_state f b with e | ⟨e, _, _⟩
      · rw [e]; exact hab hoa
      · rw [e]; decide
    · rw [List.mem_singleton.1 hb]
      intro _
      simp

/-! ### set, Cut -/
theorem okR_state {l : List Rep} (h : LInv l) {i : Nat} {x : Rep} (hx : l[i]? = some x) (hs : x.state = 0 ∨ x.state = 1) {st : Int} (hst : st = 0 ∨ st = 1 ∨ st = 4) : okR i { x with state := st } := by
  obtain ⟨q1, q2, q3, q4, q5, q6, q7, q8, q9, q10, q11, q12⟩ := h.ok i x hx
  have hc := q12 (by omega) (by omega)
  exact ⟨q1, q2, q3, q4, q5, q6, q7, by show 0 ≤ st; omega, by show st ≤ 5; omega, fun h => by simp only at h; omega, fun h => by simp only at h; omega, fun _ _ => hc⟩
theorem set_inv {l : List Rep} (h : LInv l) {i : Nat} {x : Rep} (hx : l[i]? = some x) (hs : x.state = 0 ∨ x.state = 1) {st : Int} (hst : st = 0 ∨ st = 1 ∨ st = 4) : LInv (l.set i { x with state := st }) := by
  refine linv_set h hx ?_ (okR_state h hx hs hst) rfl (fun h => by simp only at h; omega) (fun h => by simp only at h; omega)
  rw [openB_iff]; omega
/-- What Cut finds, in a right list. -/
theorem cut_full {l : List Rep} (h : LInv l) {t : List Seg} {no : Int} (he : (cutF l t no).2.2 = 0) :
    ∃ (i : Nat) (x : Rep), no = (i : Int) + 1 ∧ l[i]? = some x ∧ openB x.state = true ∧ openL (l.take i) = [] ∧ firstR l = some x ∧ 0 ≤ x.cut ∧ x.cut ≤ 15 ∧ (x.state = 2 ∨ (x.state = 1 ∧ x.cut = 0)) ∧
      ((x.cut = 15 ∧ cutF l t no = (l.set i { x with cut := 16, state := 3 }, (trepF t x.frm x.ver).1, 0)) ∨
       (x.cut < 15 ∧ cutF l t no = (l.set i { x with cut := x.cut + 1, state := 2 }, t, 0))) := by
  rcases cut_cases l t no with ⟨h1, _⟩ | ⟨i, x, hno, hx, hs, hf, hc⟩
  · exact absurd he h1
  · obtain ⟨y, hy, ho, hb⟩ := first_no h hf
    rw [hx] at hy
    injection hy with hy
    subst hy
    obtain ⟨q1, q2, q3, q4, q5, q6, q7, q8, q9, q10, q11, q12⟩ := h.ok i x hx
    have hcut : 0 ≤ x.cut ∧ x.cut ≤ 15 ∧ (x.state = 2 ∨ (x.state = 1 ∧ x.cut = 0)) := by
      rcases hs with hs | hs
      · have := q12 (by omega) (by omega)
        omega
      · have := q10 hs
        omega
    have hw : wrap64 (x.cut + 1) = x.cut + 1 := by unfold wrap64; omega
    rw [hw] at hc
    refine ⟨i, x, hno, hx, ho, hb, first_at hx ho hb, hcut.1, hcut.2.1, hcut.2.2, ?_⟩
    rcases hc with ⟨hc, e⟩ | ⟨hc, e⟩
    · exact .inl ⟨by omega, e⟩
    · exact .inr ⟨by omega, e⟩
theorem cut_inv {l : List Rep} (h : LInv l) {i : Nat} {x : Rep} (hx : l[i]? = some x) (ho : openB x.state = true) (hb : openL (l.take i) = []) (h0 : 0 ≤ x.cut) (h1 : x.cut < 15) : LInv (l.set i { x with cut := x.cut + 1, state := 2 }) := by
  obtain ⟨q1, q2, q3, q4, q5, q6, q7, q8, q9, q10, q11, q12⟩ := h.ok i x hx
  exact linv_set h hx ho ⟨q1, q2, q3, q4, q5, q6, q7, by show (0 : Int) ≤ 2; decide, by show (2 : Int) ≤ 5; decide, fun _ => by show 1 ≤ x.cut + 1 ∧ x.cut + 1 ≤ 15; omega, fun h => by simp at h, fun h => absurd rfl h⟩ rfl (fun _ => hb) (fun h => by simp at h)
theorem done_inv {l : List Rep} (h : LInv l) {i : Nat} {x : Rep} (hx : l[i]? = some x) (ho : openB x.state = true) (hb : openL (l.take i) = []) : LInv (l.set i { x with cut := 16, state := 3 }) := by
  obtain ⟨q1, q2, q3, q4, q5, q6, q7, q8, q9, q10, q11, q12⟩ := h.ok i x hx
  exact linv_set h hx ho ⟨q1, q2, q3, q4, q5, q6, q7, by show (0 : Int) ≤ 3; decide, by show (3 : Int) ≤ 5; decide, fun h => by simp at h, fun _ => rfl, fun _ h => absurd rfl h⟩ rfl (fun h => by simp at h) (fun _ => hb)

/-! ### All together -/
def WInv (s : St) : Prop := ∀ time : Int, 0 ≤ time → atF s.t time = wantF s.l time
theorem inv0 : Inv st0 := by
  refine ⟨⟨fun i r h => by simp [st0] at h, by simp [st0, openL], by simp [st0, openL], by simp [st0]⟩, ⟨⟨1, [], rfl⟩, by simp [st0, TSort], by simp [st0], fun i x y hx hy => by simp [st0] at hy⟩⟩
theorem winv0 : WInv st0 := by
  intro time h0
  obtain ⟨x, hx, e⟩ := at_last inv0.tr h0
  rw [e]
  simp only [st0, List.filter_cons, h0, decide_true, if_true, List.filter_nil, List.getLast?_singleton, Option.some.injEq] at hx
  rw [← hx]
  rfl
/-- The four kinds of step that change something; else nothing. -/
theorem step_cases {s : St} (h : Inv s) (o : OpD) :
    ((stepF s o).1 = s ∧ ((stepF s o).2.2 ≠ 0 ∨ and7 o.dO ≤ 3)) ∨
    ((stepF s o).2.2 = 0 ∧ and7 o.dO ≤ 3 ∧ ((∃ f ver back : Int, 0 ≤ f ∧ f ≤ 1099511627776 ∧ 1 ≤ ver ∧ ver ≤ 50 ∧ 0 ≤ back ∧ ¬ ((firstR s.l).isSome = true ∧ ((firstR s.l).getD repZ).state = 2) ∧ ¬ 3 ≤ (openL (s.l.map (superseded f))).length ∧
        (stepF s o).1 = ⟨s.l.map (superseded f) ++ [⟨s.l.length + 1, f, ver, max 0 (f - back), 0, 0⟩], s.t⟩) ∨
      (∃ (i : Nat) (x : Rep) (st : Int), s.l[i]? = some x ∧ (x.state = 0 ∨ x.state = 1) ∧ (st = 0 ∨ st = 1 ∨ st = 4) ∧ (stepF s o).1 = ⟨s.l.set i { x with state := st }, s.t⟩))) ∨
    ((stepF s o).2.2 = 0 ∧ 4 ≤ and7 o.dO ∧ ∃ (i : Nat) (x : Rep), o.no = (i : Int) + 1 ∧ s.l[i]? = some x ∧ openB x.state = true ∧ openL (s.l.take i) = [] ∧ firstR s.l = some x ∧ 0 ≤ x.cut ∧ x.cut ≤ 15 ∧ (x.state = 2 ∨ (x.state = 1 ∧ x.cut = 0)) ∧
      ((x.cut = 15 ∧ (stepF s o).1 = ⟨s.l.set i { x with cut := 16, state := 3 }, (trepF s.t x.frm x.ver).1⟩) ∨
       (x.cut < 15 ∧ (stepF s o).1 = ⟨s.l.set i { x with cut := x.cut + 1, state := 2 }, s.t⟩))) := by
  have hr := and7_range o.dO
  by_cases h01 : and7 o.dO = 0 ∨ and7 o.dO = 1
  · have e : stepF s o = (if (askF s.l o.frm o.ver o.back o.hor o.raise).2.2 = 0 then ⟨(askF s.l o.frm o.ver o.back o.hor o.raise).1, s.t⟩ else s, (askF s.l o.frm o.ver o.back o.hor o.raise).2.1, (askF s.l o.frm o.ver o.back o.hor o.raise).2.2) := by unfold stepF; rw [if_pos h01]
    rw [e]
    by_cases h0 : (askF s.l o.frm o.ver o.back o.hor o.raise).2.2 = 0
    · right; left
      obtain ⟨f, q0, q1, q2, q3, q4, q5, q6, q7⟩ := ask_full h0
      refine ⟨h0, by omega, .inl ⟨f, o.ver, o.back, q0, q1, q2, q3, q4, q5, q6, ?_⟩⟩
      simp only [h0, if_true]
      rw [q7]
    · left
      exact ⟨by simp only [h0, if_false], .inl h0⟩
  · by_cases h2 : and7 o.dO = 2
    · have e : stepF s o = (if (setF s.l o.no 4).2 = 0 then ⟨(setF s.l o.no 4).1, s.t⟩ else s, 0, (setF s.l o.no 4).2) := by unfold stepF; rw [if_neg h01, if_pos h2]
      rw [e]
      rcases set_cases s.l o.no 4 with ⟨h0, _⟩ | ⟨i, x, hno, hx, hs, hq⟩
      · left
        exact ⟨by simp only [h0, if_false], .inl h0⟩
      · right; left
        rw [hq]
        exact ⟨rfl, by omega, .inr ⟨i, x, 4, hx, hs, by omega, rfl⟩⟩
    · by_cases h3 : and7 o.dO = 3
      · have e : stepF s o = (if (setF s.l o.no (cst o.raise)).2 = 0 then ⟨(setF s.l o.no (cst o.raise)).1, s.t⟩ else s, 0, (setF s.l o.no (cst o.raise)).2) := by unfold stepF; rw [if_neg h01, if_neg h2, if_pos h3]
        rw [e]
        rcases set_cases s.l o.no (cst o.raise) with ⟨h0, _⟩ | ⟨i, x, hno, hx, hs, hq⟩
        · left
          exact ⟨by simp only [h0, if_false], .inl h0⟩
        · right; left
          rw [hq]
          exact ⟨rfl, by omega, .inr ⟨i, x, cst o.raise, hx, hs, by cases o.raise <;> simp [cst], rfl⟩⟩
      · have e : stepF s o = (if (cutF s.l s.t o.no).2.2 = 0 then ⟨(cutF s.l s.t o.no).1, (cutF s.l s.t o.no).2.1⟩ else s, 0, (cutF s.l s.t o.no).2.2) := by unfold stepF; rw [if_neg h01, if_neg h2, if_neg h3]
        rw [e]
        by_cases h0 : (cutF s.l s.t o.no).2.2 = 0
        · right; right
          obtain ⟨i, x, q1, q2, q3, q4, q5, q6, q7, q8, q9⟩ := cut_full h.li h0
          refine ⟨h0, by omega, i, x, q1, q2, q3, q4, q5, q6, q7, q8, ?_⟩
          simp only [h0, if_true]
          rcases q9 with ⟨c, e⟩ | ⟨c, e⟩
          · left; exact ⟨c, by rw [e]⟩
          · right; exact ⟨c, by rw [e]⟩
        · left
          exact ⟨by simp only [h0, if_false], .inl h0⟩
theorem step_inv {s : St} (h : Inv s) (hw : WInv s) (o : OpD) : Inv (stepF s o).1 ∧ WInv (stepF s o).1 := by
  rcases step_cases h o with ⟨e, _⟩ | ⟨_, _, ⟨f, ver, back, q0, q1, q2, q3, q4, q5, q6, e⟩ | ⟨i, x, st, hx, hs, hst, e⟩⟩ | ⟨_, _, i, x, hno, hx, ho, hb, hf, c0, c1, c2, ⟨hc, e⟩ | ⟨hc, e⟩⟩
  · rw [e]; exact ⟨h, hw⟩
  · rw [e]
    refine ⟨⟨ask_inv h.li q0 q1 q2 q3 q4 q5 q6, h.tr⟩, fun time ht => ?_⟩
    show atF s.t time = wantF (s.l.map (superseded f) ++ [⟨s.l.length + 1, f, ver, max 0 (f - back), 0, 0⟩]) time
    rw [want_ask _ _ _ (by simp)]
    exact hw time ht
  · rw [e]
    refine ⟨⟨set_inv h.li hx hs hst, h.tr⟩, fun time ht => ?_⟩
    show atF s.t time = wantF (s.l.set i { x with state := st }) time
    rw [want_set hx (by omega) (by show st ≠ 3; omega)]
    exact hw time ht
  · rw [e]
    obtain ⟨q1, q2, q3, q4, q5, _⟩ := h.li.ok i x hx
    refine ⟨⟨done_inv h.li hx ho hb, trep_right h.tr q2 q3 q4 q5⟩, fun time ht => ?_⟩
    show atF (trepF s.t x.frm x.ver).1 time = wantF (s.l.set i { x with cut := 16, state := 3 }) time
    rw [want_done h.li hx ho rfl, at_trep h.tr q2 q3 q4 q5 ht, hw time ht]
  · rw [e]
    refine ⟨⟨cut_inv h.li hx ho hb c0 hc, h.tr⟩, fun time ht => ?_⟩
    show atF s.t time = wantF (s.l.set i { x with cut := x.cut + 1, state := 2 }) time
    rw [want_set hx (by omega) (by simp)]
    exact hw time ht
theorem run_inv (ops : List OpD) : ∀ k, Inv (runF (ops.take k)) ∧ WInv (runF (ops.take k)) := by
  intro k
  induction k with
  | zero => exact ⟨inv0, winv0⟩
  | succ k ih =>
    rcases Nat.lt_or_ge k ops.length with h | h
    · rw [List.take_add_one, List.getElem?_eq_getElem h]
      simp only [Option.toList_some, runF_snoc]
      exact step_inv ih.1 ih.2 _
    · rw [List.take_of_length_le (by omega)]
      rw [List.take_of_length_le (by omega)] at ih
      exact ih
end Go.Proofs.Ytpdmjahdnfhcoaa
