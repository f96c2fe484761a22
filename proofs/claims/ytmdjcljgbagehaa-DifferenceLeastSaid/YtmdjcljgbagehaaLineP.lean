/- The plain laws of lines and differences. -/
import Derived.Test.YtmdjcljgbagehaaCmpP
namespace Go.Proofs.Ytmdjcljgbagehaa
open Go.RowKit

/-! ### Differences -/
def negD (d : Dl) : Dl := { d with n := w64 (- d.n) }
theorem negD_key (d : Dl) : (negD d).key = d.key := rfl
theorem tot_neg (a : List Dl) (k : Ky) : w64 (tot (a.map negD) k) = w64 (- tot a k) := by
  induction a with
  | nil => rfl
  | cons d a ih =>
    rw [List.map_cons, tot_cons, tot_cons, negD_key]
    by_cases h : d.key = k
    · rw [if_pos h, if_pos h, Int.neg_add]
      exact w64_congr (w64_w64 _) ih
    · rw [if_neg h, if_neg h, Int.zero_add, Int.zero_add]
      exact ih
theorem w64_id_of {l out : List Dl} (h : ConsOf l out) (k : Ky) : w64 (tot out k) = w64 (tot l k) := by rw [h.says, w64_w64]
/-- What a difference says. -/
theorem diff_says {a b d : List Dl} (h : ConsOf (b ++ a.map negD) d) (k : Ky) : w64 (tot d k) = w64 (tot b k - tot a k) := by
  rw [w64_id_of h, tot_append, Int.sub_eq_add_neg]
  exact w64_congr rfl (tot_neg a k)
theorem diff_add {a b d : List Dl} (h : ConsOf (b ++ a.map negD) d) (k : Ky) : w64 (tot (a ++ d) k) = w64 (tot b k) := by
  have h1 := diff_says h k
  rw [tot_append]
  have h2 := w64_congr (a := tot a k) (b := tot a k) rfl h1
  rw [h2]
  congr 1
  omega
theorem diff_self {a d : List Dl} (h : ConsOf (a ++ a.map negD) d) : d = [] := by
  cases d with
  | nil => rfl
  | cons x d =>
    have h1 := diff_says h x.key
    have h2 := h.says x.key
    rw [h.cons.head] at h1 h2
    have h3 : w64 x.n = 0 := by rw [h1]; simp only [Int.sub_self]; rfl
    have h4 : x.n = 0 := by
      have := congrArg w64 h2
      rw [w64_w64, ← h2] at this
      rw [← h3, this]
    exact absurd h4 (h.cons.nz x (List.mem_cons_self ..))
theorem len_le_of {β : Type} [DecidableEq β] : ∀ (ks l : List β), ks.Nodup → (∀ k ∈ ks, k ∈ l) → ks.length ≤ l.length := by
  intro ks
  induction ks with
  | nil => intro l _ _; exact Nat.zero_le _
  | cons k ks ih =>
    intro l hn hs
    obtain ⟨h1, h2⟩ := List.nodup_cons.1 hn
    have hk := hs k (List.mem_cons_self ..)
    have h3 := ih (l.erase k) h2 fun q hq => (List.mem_erase_of_ne (by rintro rfl; exact h1 hq)).2 (hs q (List.mem_cons_of_mem _ hq))
    rw [List.length_erase_of_mem hk] at h3
    have : 0 < l.length := List.length_pos_of_mem hk
    rw [List.length_cons]
    omega
theorem ConsL.nodup {l : List Dl} (h : ConsL l) : (l.map Dl.key).Nodup := by
  rw [List.nodup_iff_pairwise_ne]
  refine List.pairwise_map.2 (h.rise.imp fun {d e} hd q => ?_)
  unfold cmpD at hd
  rw [q, tcmp_ky.refl] at hd
  omega
theorem diff_least {a c e way : List Dl} (hc : ConsOf (a ++ way) c) (he : ConsOf (c ++ a.map negD) e) : e.length ≤ way.length := by
  have h : (e.map Dl.key).length ≤ (way.map Dl.key).length := by
    refine len_le_of _ _ he.cons.nodup fun k hk => ?_
    obtain ⟨d, hd, rfl⟩ := List.mem_map.1 hk
    have h1 := diff_says he d.key
    have h2 := w64_id_of hc d.key
    rw [tot_append] at h2
    have h3 : w64 (tot e d.key) = w64 (tot way d.key) := by
      rw [h1]
      have := w64_congr (a := tot c d.key) (b := tot a d.key + tot way d.key) (c := - tot a d.key) (d := - tot a d.key) h2 rfl
      rw [Int.sub_eq_add_neg, this]
      congr 1
      omega
    have h4 : tot way d.key ≠ 0 := by
      intro h0
      rw [h0, he.says, w64_w64, ← he.says, he.cons.mem hd] at h3
      exact he.cons.nz d hd (by rw [h3]; rfl)
    obtain ⟨x, hx, q⟩ := tot_ne h4
    exact List.mem_map.2 ⟨x, hx, q⟩
  simpa using h
theorem diff_chain {a b c d e f : List Dl} (hd : ConsOf (b ++ a.map negD) d) (hf : ConsOf (c ++ b.map negD) f) (he : ConsOf (c ++ a.map negD) e) (k : Ky) : w64 (tot (d ++ f) k) = w64 (tot e k) := by
  rw [tot_append, diff_says he]
  have := w64_congr (diff_says hd k) (diff_says hf k)
  rw [this]
  congr 1
  omega

/-! ### Lines -/
structure Ln where
  no : Int
  batch : Int
  time : Int
  ra : Option Addr
  rn : Nat
  rc : Nat
  n : Int
  cause : Int
  why : Int
  vs : List VVal
instance : Inhabited Ln := ⟨⟨0, 0, 0, none, 0, 0, 0, 0, 0, []⟩⟩
def Ln.dl (x : Ln) : Dl := ⟨x.time, x.ra, x.rn, x.rc, x.n, x.vs⟩
def okLn (x : Ln) : Prop := x.n ≠ 0 ∧ ((x.cause = 2 ∧ 0 < x.why) ∨ ((x.cause = 0 ∨ x.cause = 1) ∧ x.why = 0))
def Flw (a b : Ln) : Prop := b.no = w64 (a.no + 1) ∧ b.batch = a.batch ∧ b.why = a.why ∧ a.time ≤ b.time ∧ ¬ (b.time = a.time ∧ 0 ≤ cmpRow a.vs b.vs) ∧ (a.cause = b.cause ∨ (a.cause = 1 ∧ b.cause = 0 ∧ a.time < b.time))
def LeastL (l : List Ln) : Prop := ∀ (i : Nat) (x : Ln), l[i]? = some x → okLn x ∧ ∀ y, 0 < i → l[i - 1]? = some y → Flw y x
/-- The line of an element. -/
def lnOf (no batch mark rep : Int) (i : Nat) (d : Dl) : Ln := ⟨w64 (no + i), batch, d.time, d.ra, d.rn, d.rc, d.n, if 0 < rep then 2 else if mark < d.time then 0 else 1, if 0 < rep then rep else 0, d.vs⟩
def LinesOf (no batch mark rep : Int) (c : List Dl) (l : List Ln) : Prop := l.length = c.length ∧ ∀ (i : Nat) (d : Dl) (x : Ln), c[i]? = some d → l[i]? = some x → x = lnOf no batch mark rep i d
theorem cmpD_row {d e : Dl} (h : cmpD d e < 0) : d.time < e.time ∨ (d.time = e.time ∧ cmpRow d.vs e.vs < 0) := by
  rw [cmpD_eq] at h
  unfold cor Go.Lib.compareInt at h
  repeat' split at h
  all_goals omega
section
variable {no batch mark rep : Int} {c : List Dl} {l : List Ln}
theorem LinesOf.get (h : LinesOf no batch mark rep c l) {i : Nat} {x : Ln} (hx : l[i]? = some x) : ∃ d, c[i]? = some d ∧ x = lnOf no batch mark rep i d := by
  have hi := (List.getElem?_eq_some_iff.1 hx).1
  obtain ⟨d, hd⟩ : ∃ d, c[i]? = some d := ⟨_, List.getElem?_eq_getElem (by rw [← h.1]; exact hi)⟩
  exact ⟨d, hd, h.2 i d x hd hx⟩
theorem lines_ok {d : Dl} (hc : ConsL c) (hd : d ∈ c) (i : Nat) : okLn (lnOf no batch mark rep i d) := by
  refine ⟨hc.nz d hd, ?_⟩
  simp only [lnOf]
  by_cases h : 0 < rep
  · rw [if_pos h, if_pos h]; exact .inl ⟨rfl, h⟩
  · rw [if_neg h, if_neg h]
    refine .inr ⟨?_, rfl⟩
    split
    · exact .inl rfl
    · exact .inr rfl
theorem lines_flw {d e : Dl} (h : cmpD d e < 0) (hno : 0 ≤ no ∧ no ≤ 1099511627776) {i : Nat} (hi : i ≤ 1000) : Flw (lnOf no batch mark rep i d) (lnOf no batch mark rep (i + 1) e) := by
  have h1 := cmpD_row h
  refine ⟨?_, rfl, rfl, ?_, ?_, ?_⟩
  · simp only [lnOf]
    rw [w64_eq, w64_eq, w64_eq]
    push_cast
    omega
  · simp only [lnOf]; omega
  · simp only [lnOf]; omega
  · simp only [lnOf]
    by_cases hr : 0 < rep
    · left; rw [if_pos hr, if_pos hr]
    · rw [if_neg hr, if_neg hr]
      by_cases h2 : mark < d.time
      · left; rw [if_pos h2, if_pos (by omega)]
      · rw [if_neg h2]
        by_cases h3 : mark < e.time
        · right; rw [if_pos h3]; exact ⟨rfl, rfl, by omega⟩
        · left; rw [if_neg h3]
theorem lines_least (h : LinesOf no batch mark rep c l) (hc : ConsL c) (hno : 0 ≤ no ∧ no ≤ 1099511627776) (hl : c.length ≤ 1000) : LeastL l := by
  intro i x hx
  obtain ⟨d, hd, rfl⟩ := h.get hx
  refine ⟨lines_ok hc (List.mem_of_getElem? hd) i, fun y hi hy => ?_⟩
  obtain ⟨e, he, rfl⟩ := h.get hy
  obtain ⟨j, rfl⟩ : ∃ j, i = j + 1 := ⟨i - 1, by omega⟩
  rw [Nat.add_sub_cancel] at he ⊢
  have hj := (List.getElem?_eq_some_iff.1 hd)
  have he' := (List.getElem?_eq_some_iff.1 he)
  refine lines_flw ?_ hno (by have := hj.1; omega)
  rw [← he'.2, ← hj.2]
  exact List.pairwise_iff_getElem.1 hc.rise j (j + 1) _ _ (Nat.lt_succ_self j)
/-- A line twice. -/
theorem lines_twice (h : LinesOf no batch mark rep c l) (hno : 0 ≤ no ∧ no ≤ 1099511627776) (hl : c.length ≤ 1000) {at_ : Nat} (ha : at_ < l.length) : ¬ LeastL (l.take (at_ + 1) ++ l.drop at_) := by
  intro hL
  obtain ⟨x, hx⟩ : ∃ x, l[at_]? = some x := ⟨_, List.getElem?_eq_getElem ha⟩
  have h1 : (l.take (at_ + 1) ++ l.drop at_)[at_ + 1]? = some x := by
    rw [List.getElem?_append_right (by rw [List.length_take]; omega), List.length_take, List.getElem?_drop, ← hx]
    congr 1
    omega
  have h2 : (l.take (at_ + 1) ++ l.drop at_)[at_]? = some x := by
    rw [List.getElem?_append_left (by rw [List.length_take]; omega), List.getElem?_take, if_pos (by omega), hx]
  have h3 := ((hL (at_ + 1) x h1).2 x (by omega) (by rw [Nat.add_sub_cancel]; exact h2)).1
  obtain ⟨d, hd, rfl⟩ := h.get hx
  have hlen := h.1
  simp only [lnOf] at h3
  rw [w64_eq, w64_eq] at h3
  omega
/-- A line without anything. -/
theorem lines_empty {at_ : Nat} {x : Ln} (hx : l[at_]? = some x) : ¬ LeastL (l.set at_ { x with n := 0 }) := by
  intro hL
  have h1 : (l.set at_ { x with n := 0 })[at_]? = some { x with n := 0 } := by
    rw [List.getElem?_set, if_pos rfl, if_pos (List.getElem?_eq_some_iff.1 hx).1]
  exact (hL at_ _ h1).1.1 rfl
/-- Two lines in another order. -/
theorem lines_turned (h : LinesOf no batch mark rep c l) (hc : ConsL c) {at_ : Nat} {x y : Ln} (hx : l[at_]? = some x) (hy : l[at_ + 1]? = some y) : ¬ LeastL ((l.set at_ { y with no := x.no }).set (at_ + 1) { x with no := y.no }) := by
  intro hL
  have hxl := (List.getElem?_eq_some_iff.1 hx).1
  have hyl := (List.getElem?_eq_some_iff.1 hy).1
  have h1 : ((l.set at_ { y with no := x.no }).set (at_ + 1) { x with no := y.no })[at_ + 1]? = some { x with no := y.no } := by
    rw [List.getElem?_set, if_pos rfl, if_pos (by rw [List.length_set]; exact hyl)]
  have h2 : ((l.set at_ { y with no := x.no }).set (at_ + 1) { x with no := y.no })[at_]? = some { y with no := x.no } := by
    rw [List.getElem?_set, if_neg (by omega), List.getElem?_set, if_pos rfl, if_pos hxl]
  have h3 := (hL (at_ + 1) _ h1).2 _ (by omega) (by rw [Nat.add_sub_cancel]; exact h2)
  obtain ⟨d, hd, rfl⟩ := h.get hx
  obtain ⟨e, he, rfl⟩ := h.get hy
  have hj := List.getElem?_eq_some_iff.1 hd
  have hj2 := List.getElem?_eq_some_iff.1 he
  have h4 : cmpD d e < 0 := by
    rw [← hj.2, ← hj2.2]
    exact List.pairwise_iff_getElem.1 hc.rise at_ (at_ + 1) _ _ (Nat.lt_succ_self _)
  have h5 := cmpD_row h4
  obtain ⟨-, -, -, h6, h7, -⟩ := h3
  simp only [lnOf] at h6 h7
  have h8 : cmpRow e.vs d.vs = - cmpRow d.vs e.vs := tcmp_v3.list.anti _ _
  omega
theorem lines_net (h : LinesOf no batch mark rep c l) : (l.map Ln.dl) = c := by
  refine List.ext_getElem? fun i => ?_
  rw [List.getElem?_map]
  cases hx : l[i]? with
  | none =>
    have : l.length ≤ i := List.getElem?_eq_none_iff.1 hx
    rw [List.getElem?_eq_none (by rw [← h.1]; exact this)]
    rfl
  | some x =>
    obtain ⟨d, hd, rfl⟩ := h.get hx
    rw [hd]
    rfl
end
end Go.Proofs.Ytmdjcljgbagehaa
