/- ProducerOnce: the plain law. No memory here. -/
import Derived.Test.YtghciaaedjomjaaProdP
namespace Go.Proofs.Ytghciaaedjomjaa
open Go.RowKit

structure Kp where
  id : Int
  epoch : Int
  seq : Int
  pos : Int
  deriving DecidableEq
instance : Inhabited Kp := ⟨⟨0, 0, 0, 0⟩⟩
structure POp where
  dO : Int
  id : Int
  ep : Int
  sq : Int
  far : Int
/-- What is stored of a producer and an epoch. -/
def ofK (l : List Kp) (id ep : Int) : List Kp := l.filter fun k => decide (k.id = id ∧ k.epoch = ep)
theorem ofK_append (a b : List Kp) (id ep : Int) : ofK (a ++ b) id ep = ofK a id ep ++ ofK b id ep := List.filter_append ..
theorem ofK_one (k : Kp) (id ep : Int) : ofK [k] id ep = if k.id = id ∧ k.epoch = ep then [k] else [] := by
  unfold ofK
  by_cases h : k.id = id ∧ k.epoch = ep
  · rw [if_pos h, List.filter_cons, if_pos (by simpa using h)]; rfl
  · rw [if_neg h, List.filter_cons, if_neg (by simpa using h)]; rfl
/-! ### The law's own loop -/
def scStep (id ep sq : Int) (st : Nat × Int × Int) (k : Kp) : Nat × Int × Int :=
  (st.1 + 1, if k.id = id ∧ k.epoch = ep ∧ k.seq = sq then (st.1 : Int) else st.2.1, if k.id = id ∧ k.epoch = ep then st.2.2 + 1 else st.2.2)
def scan (id ep sq : Int) (l : List Kp) : Nat × Int × Int := l.foldl (scStep id ep sq) (0, -1, 0)
theorem scan_snoc {id ep sq : Int} {l : List Kp} {k : Nat} {x : Kp} (hx : l[k]? = some x) : scan id ep sq (l.take (k + 1)) = scStep id ep sq (scan id ep sq (l.take k)) x := by
  rw [List.take_add_one, hx]
  simp [scan]
theorem scan_spec (id ep sq : Int) (l : List Kp) : ∀ k, k ≤ l.length → (scan id ep sq (l.take k)).1 = k ∧ (scan id ep sq (l.take k)).2.2 = ((ofK (l.take k) id ep).length : Int) ∧
    (((scan id ep sq (l.take k)).2.1 = -1 ∧ ∀ x ∈ ofK (l.take k) id ep, x.seq ≠ sq) ∨ ∃ (i : Nat) (x : Kp), i < k ∧ (scan id ep sq (l.take k)).2.1 = (i : Int) ∧ l[i]? = some x ∧ x.id = id ∧ x.epoch = ep ∧ x.seq = sq) := by
  intro k
  induction k with
  | zero => intro _; simp [scan, ofK]
  | succ k ih =>
    intro hk
    obtain ⟨h1, h2, h3⟩ := ih (by omega)
    obtain ⟨x, hx⟩ : ∃ x, l[k]? = some x := ⟨_, List.getElem?_eq_getElem (by omega)⟩
    have ht : l.take (k + 1) = l.take k ++ [x] := by rw [List.take_add_one, hx]; rfl
    rw [scan_snoc hx]
    have hof : ofK (l.take (k + 1)) id ep = ofK (l.take k) id ep ++ (if x.id = id ∧ x.epoch = ep then [x] else []) := by rw [ht, ofK_append, ofK_one]
    rw [hof]
    unfold scStep
    simp only
    refine ⟨by omega, ?_, ?_⟩
    · rw [h2]
      by_cases hm : x.id = id ∧ x.epoch = ep
      · simp [hm]
      · simp [hm]
    · by_cases hm : x.id = id ∧ x.epoch = ep ∧ x.seq = sq
      · right
        rw [if_pos hm]
        exact ⟨k, x, by omega, by rw [h1], hx, hm⟩
      · rw [if_neg hm]
        rcases h3 with ⟨h3, h4⟩ | ⟨i, y, h3, h4⟩
        · left
          refine ⟨h3, fun y hy => ?_⟩
          rcases List.mem_append.1 hy with hy | hy
          · exact h4 y hy
          · by_cases hm2 : x.id = id ∧ x.epoch = ep
            · rw [if_pos hm2] at hy
              rw [List.mem_singleton.1 hy]
              exact fun e => hm ⟨hm2.1, hm2.2, e⟩
            · rw [if_neg hm2] at hy
              cases hy
        · right
          exact ⟨i, y, by omega, h4⟩

structure PSt where
  s : List Prd
  all : List Kp
  ep : List Int
  pos : Int
structure OInv (st : PSt) (n : Nat) : Prop where
  right : RightP st.s
  eplen : st.ep.length = 64
  epoch : ∀ i : Nat, i < 64 → (getP st.s i).epoch = st.ep[i]! ∧ 0 ≤ st.ep[i]! ∧ st.ep[i]! ≤ n
  ids : ∀ k ∈ st.all, 0 ≤ k.id ∧ k.id < 64 ∧ k.epoch ≤ st.ep[k.id.toNat]! ∧ k.pos ≤ st.pos
  seqs : ∀ (id e : Int) (j : Nat) (x : Kp), (ofK st.all id e)[j]? = some x → x.seq = j
  next : ∀ i : Nat, i < 64 → (getP st.s i).next = ((ofK st.all i st.ep[i]!).length : Int) ∧ (getP st.s i).last = cutL ((ofK st.all i st.ep[i]!).map (·.pos))
  pos : -1 ≤ st.pos ∧ st.pos < 256 * n
  len : st.all.length ≤ n
def pst0 : PSt := ⟨[], [], List.replicate 64 0, -1⟩
theorem oinv0 : OInv pst0 0 := by
  have hg : ∀ i : Nat, i < 64 → (List.replicate 64 (0 : Int))[i]! = 0 := by
    intro i hi
    rw [getElem!_pos _ i (by rw [List.length_replicate]; exact hi)]
    exact List.getElem_replicate ..
  refine ⟨⟨by simp [pst0], by simp [pst0], by simp [pst0]⟩, by simp [pst0], fun i hi => ?_, by simp [pst0], fun id e j x h => by simp [pst0, ofK] at h, fun i hi => ?_, by simp [pst0], by simp [pst0]⟩
  · show (getP [] i).epoch = (List.replicate 64 (0 : Int))[i]! ∧ _ ∧ _
    rw [show pst0.ep = List.replicate 64 0 from rfl, hg i hi]
    simp [getP, findP, prd0]
  · simp [pst0, getP, findP, prd0, ofK, cutL]
theorem cutL_snoc (l : List Int) (p : Int) : cutL (cutL l ++ [p]) = cutL (l ++ [p]) := by
  unfold cutL
  rw [List.length_append, List.length_append, List.length_drop, List.length_singleton]
  rcases Nat.lt_or_ge l.length 20 with h | h
  · rw [show l.length - 20 = 0 by omega, List.drop_zero]
    congr 1
  · rw [List.drop_append, List.drop_append, List.drop_drop, List.length_drop]
    rw [show l.length - (l.length - 20) + 1 - 20 - (l.length - (l.length - 20)) = 0 by omega, show l.length + 1 - 20 - l.length = 0 by omega, show l.length - 20 + (l.length - (l.length - 20) + 1 - 20) = l.length + 1 - 20 by omega]
/-- What the law asks of Look's answer. -/
theorem once_look {st : PSt} {n : Nat} (h : OInv st n) {i : Nat} (hi : i < 64) (ep sq : Int) :
    let C : Int := ((ofK st.all i ep).length : Int)
    let F := (scan i ep sq st.all).2.1
    ((lookF st.s i ep sq).2 = 0 ∧ F = -1 ∧ sq = C ∧ ep = st.ep[i]! ∧ 0 ≤ sq ∧ sq < 1099511627776) ∨
    ((lookF st.s i ep sq).2 = 5 ∧ ep = st.ep[i]! ∧ 0 ≤ sq ∧ sq < C ∧ ∃ (j : Nat) (x : Kp), F = (j : Int) ∧ st.all[j]? = some x ∧ ((C - sq ≤ 20 ∧ (lookF st.s i ep sq).1 = x.pos) ∨ (20 < C - sq ∧ (lookF st.s i ep sq).1 = -1))) ∨
    ((lookF st.s i ep sq).2 = 18 ∧ ep < st.ep[i]!) ∨ ((lookF st.s i ep sq).2 = 19 ∧ C < sq) ∨
    ((lookF st.s i ep sq).2 ≠ 0 ∧ (lookF st.s i ep sq).2 ≠ 5 ∧ (lookF st.s i ep sq).2 ≠ 18 ∧ (lookF st.s i ep sq).2 ≠ 19) := by
  intro C F
  obtain ⟨h1, h2, h3⟩ := h.epoch i hi
  obtain ⟨h4, h5⟩ := h.next i hi
  have hsc := scan_spec i ep sq st.all st.all.length (Nat.le_refl _)
  rw [List.take_length] at hsc
  obtain ⟨_, _, hsc⟩ := hsc
  by_cases hbad : ¬ (0 ≤ (i : Int) ∧ (i : Int) < 1099511627776 ∧ 0 ≤ ep ∧ ep < 1099511627776 ∧ 0 ≤ sq ∧ sq < 1099511627776)
  · have e : lookF st.s i ep sq = (0, 1) := by unfold lookF; rw [if_pos hbad]
    rw [e]
    simp
  · have hg : 0 ≤ (i : Int) ∧ (i : Int) < 1099511627776 ∧ 0 ≤ ep ∧ ep < 1099511627776 ∧ 0 ≤ sq ∧ sq < 1099511627776 := by omega
    unfold lookF
    rw [if_neg hbad]
    by_cases a1 : ep < (getP st.s i).epoch
    · rw [if_pos a1]
      exact .inr (.inr (.inl ⟨rfl, by rw [← h1]; exact a1⟩))
    · rw [if_neg a1]
      by_cases a2 : (getP st.s i).epoch < ep
      · rw [if_pos a2]
        simp
      · rw [if_neg a2]
        have hep : ep = st.ep[i]! := by omega
        have hC : (getP st.s i).next = C := by rw [h4, ← hep]
        by_cases a3 : (getP st.s i).next < sq
        · rw [if_pos a3]
          exact .inr (.inr (.inr (.inl ⟨rfl, by omega⟩)))
        · rw [if_neg a3]
          by_cases a4 : findP st.s i = none ∧ 50 ≤ st.s.length
          · rw [if_pos a4]
            simp
          · rw [if_neg a4]
            by_cases a5 : sq = (getP st.s i).next
            · rw [if_pos a5]
              refine .inl ⟨rfl, ?_, by omega, hep, hg.2.2.2.2.1, hg.2.2.2.2.2⟩
              rcases hsc with ⟨e, _⟩ | ⟨j, x, _, e, hx, q1, q2, q3⟩
              · exact e
              · exfalso
                have hm : x ∈ ofK st.all i ep := List.mem_filter.2 ⟨List.mem_of_getElem? hx, by simpa using ⟨q1, q2⟩⟩
                obtain ⟨m, hm2, he⟩ := List.mem_iff_getElem.1 hm
                have := h.seqs i ep m x (by rw [List.getElem?_eq_getElem hm2, he])
                have hC' : C = ((ofK st.all i ep).length : Int) := rfl
                omega
            · rw [if_neg a5]
              have hlt : sq < C := by omega
              have hC' : C = ((ofK st.all i ep).length : Int) := rfl
              obtain ⟨y, hy⟩ : ∃ y, (ofK st.all i ep)[sq.toNat]? = some y := ⟨_, List.getElem?_eq_getElem (by omega)⟩
              have hyseq := h.seqs i ep _ y hy
              have hfound : ∃ (j : Nat) (x : Kp), F = (j : Int) ∧ st.all[j]? = some x ∧ x = y := by
                rcases hsc with ⟨_, hno⟩ | ⟨j, x, _, e, hx, q1, q2, q3⟩
                · exfalso
                  exact hno y (List.mem_of_getElem? hy) (by omega)
                · refine ⟨j, x, e, hx, ?_⟩
                  have hm : x ∈ ofK st.all i ep := List.mem_filter.2 ⟨List.mem_of_getElem? hx, by simpa using ⟨q1, q2⟩⟩
                  obtain ⟨m, hm2, he⟩ := List.mem_iff_getElem.1 hm
                  have hmx : (ofK st.all i ep)[m]? = some x := by rw [List.getElem?_eq_getElem hm2, he]
                  have := h.seqs i ep m x hmx
                  have hms : m = sq.toNat := by omega
                  rw [hms, hy] at hmx
                  exact (Option.some.inj hmx).symm
              obtain ⟨j, x, e, hx, rfl⟩ := hfound
              have hlen : (getP st.s i).last.length = min (ofK st.all i ep).length 20 := by rw [h5, ← hep, cutL_len, List.length_map]
              right; left
              by_cases a6 : 0 ≤ ((getP st.s i).last.length : Int) - ((getP st.s i).next - sq)
              · rw [if_pos a6]
                refine ⟨rfl, hep, hg.2.2.2.2.1, hlt, j, x, e, hx, .inl ⟨by omega, ?_⟩⟩
                show (getP st.s i).last[(((getP st.s i).last.length : Int) - ((getP st.s i).next - sq)).toNat]! = x.pos
                obtain ⟨t, ht⟩ : ∃ t : Nat, (((getP st.s i).last.length : Int) - ((getP st.s i).next - sq)).toNat = t := ⟨_, rfl⟩
                rw [ht]
                have htl : t < (getP st.s i).last.length := by omega
                rw [getElem!_pos _ t htl]
                have hget : (getP st.s i).last[t]? = some x.pos := by
                  rw [h5, ← hep]
                  unfold cutL
                  rw [List.getElem?_drop, List.getElem?_map, List.length_map, show (ofK st.all i ep).length - 20 + t = sq.toNat by omega, hy]
                  rfl
                exact (List.getElem?_eq_some_iff.1 hget).2
              · rw [if_neg a6]
                exact ⟨rfl, hep, hg.2.2.2.2.1, hlt, j, x, e, hx, .inr ⟨by omega, rfl⟩⟩
/-- A record is stored. -/
theorem once_put {st : PSt} {n : Nat} (h : OInv st n) {i : Nat} (hi : i < 64) {ep sq far : Int} (hf : 0 ≤ far ∧ far ≤ 255) (hn : n ≤ 1000) (hok : (lookF st.s i ep sq).2 = 0) :
    putOk st.s i ep sq (st.pos + 1 + far) ∧ OInv ⟨putP st.s i (st.pos + 1 + far), st.all ++ [⟨i, ep, sq, st.pos + 1 + far⟩], st.ep, st.pos + 1 + far⟩ (n + 1) := by
  obtain ⟨h1, h2, h3⟩ := h.epoch i hi
  obtain ⟨h4, h5⟩ := h.next i hi
  obtain ⟨p0, p1⟩ := h.pos
  obtain ⟨q0, q1, q2, q3, q4, q5, q6, q7, q8⟩ := look_ok hok
  have hep : ep = st.ep[i]! := by omega
  have hlast : ∀ x ∈ (getP st.s i).last, x < st.pos + 1 + far := by
    intro x hx
    rw [h5] at hx
    obtain ⟨k, hk, rfl⟩ := List.mem_map.1 (List.mem_of_mem_drop hx)
    have := (h.ids k (List.mem_filter.1 hk).1).2.2.2
    omega
  have hput : putOk st.s i ep sq (st.pos + 1 + far) := ⟨hok, ⟨by omega, by omega⟩, hlast⟩
  refine ⟨hput, put_right h.right hput, h.eplen, fun m hm => ?_, fun k hk => ?_, fun id e j x hx => ?_, fun m hm => ?_, by simp only; omega, by simp only [List.length_append, List.length_singleton]; have := h.len; omega⟩
  · have := h.epoch m hm
    refine ⟨?_, this.2.1, by simp only; omega⟩
    show (getP (putP st.s i (st.pos + 1 + far)) m).epoch = _
    unfold putP
    rw [getP_with]
    split
    · rename_i e
      have e' : (m : Int) = i := by rw [e]; exact getP_id _ _
      have : m = i := by omega
      subst this
      exact h1
    · exact this.1
  · simp only at hk ⊢
    rcases List.mem_append.1 hk with hk | hk
    · have := h.ids k hk
      refine ⟨this.1, this.2.1, this.2.2.1, by omega⟩
    · rw [List.mem_singleton.1 hk]
      simp only
      refine ⟨by omega, by omega, ?_, Int.le_refl _⟩
      rw [Int.toNat_natCast]
      omega
  · simp only at hx
    rw [ofK_append, ofK_one] at hx
    simp only at hx
    by_cases hm : (i : Int) = id ∧ ep = e
    · rw [if_pos hm] at hx
      rcases Nat.lt_or_ge j (ofK st.all id e).length with hj | hj
      · rw [List.getElem?_append_left hj] at hx
        exact h.seqs id e j x hx
      · rw [List.getElem?_append_right hj] at hx
        have hj0 : j - (ofK st.all id e).length = 0 := by
          have := (List.getElem?_eq_some_iff.1 hx).1
          simp at this
          omega
        rw [hj0] at hx
        simp only [List.getElem?_cons_zero, Option.some.injEq] at hx
        rw [← hx]
        simp only
        rw [← hm.1, ← hm.2] at hj hj0
        rw [hep] at hj hj0
        omega
    · rw [if_neg hm, List.append_nil] at hx
      exact h.seqs id e j x hx
  · show (getP (putP st.s i (st.pos + 1 + far)) m).next = ((ofK (st.all ++ [⟨i, ep, sq, st.pos + 1 + far⟩]) m st.ep[m]!).length : Int) ∧ (getP (putP st.s i (st.pos + 1 + far)) m).last = _
    have hnx := h.next m hm
    unfold putP
    rw [getP_with, ofK_append, ofK_one]
    simp only
    split
    · rename_i e
      have e' : (m : Int) = i := by rw [e]; exact getP_id _ _
      have : m = i := by omega
      subst this
      rw [if_pos ⟨rfl, hep⟩]
      refine ⟨?_, ?_⟩
      · simp only [List.length_append, List.length_singleton]
        omega
      · simp only [List.map_append, List.map_cons, List.map_nil]
        rw [h5, cutL_snoc]
    · rename_i e
      have e' : ¬ ((i : Int) = m) := fun c => e (by rw [← c]; exact (getP_id _ _).symm)
      rw [if_neg (fun c => e' c.1), List.append_nil]
      exact hnx
/-- A producer is fenced. -/
theorem once_fence' {st : PSt} {n : Nat} (h : OInv st n) {i : Nat} (hi : i < 64) {r : List Prd × Int × Int} (q2 : r.2.1 = st.ep[i]! + 1) (q3 : r.1 = withP st.s ⟨i, st.ep[i]! + 1, 0, []⟩) (q4 : RightP r.1) :
    r.2.1 = st.ep[i]! + 1 ∧ OInv ⟨r.1, st.all, st.ep.set i r.2.1, st.pos⟩ (n + 1) := by
  obtain ⟨h1, h2, h3⟩ := h.epoch i hi
  have hpos := h.pos
  have hlen := h.len
  have hset : ∀ m : Nat, m < 64 → (st.ep.set i (st.ep[i]! + 1))[m]! = if m = i then st.ep[i]! + 1 else st.ep[m]! := by
    intro m hm
    have hl := h.eplen
    rw [getElem!_pos _ m (by rw [List.length_set]; omega), List.getElem_set]
    by_cases e : i = m
    · rw [if_pos e]; exact (if_pos e.symm).symm
    · rw [if_neg e, if_neg (fun c => e c.symm), getElem!_pos _ m (by omega)]
  refine ⟨q2, q4, by simp only [List.length_set]; exact h.eplen, fun m hm => ?_, fun k hk => ?_, h.seqs, fun m hm => ?_, ⟨hpos.1, by show st.pos < 256 * ((n + 1 : Nat) : Int); omega⟩, by show st.all.length ≤ n + 1; omega⟩
  · simp only
    rw [q2, hset m hm, q3, getP_with]
    have := h.epoch m hm
    by_cases e : m = i
    · subst e
      rw [if_pos rfl, if_pos rfl]
      refine ⟨rfl, by omega, by omega⟩
    · rw [if_neg (by simp only; omega), if_neg e]
      exact ⟨this.1, this.2.1, by omega⟩
  · have := h.ids k hk
    simp only
    rw [q2, hset _ (by omega)]
    refine ⟨this.1, this.2.1, ?_, this.2.2.2⟩
    split
    · rename_i e
      rw [e] at this
      omega
    · exact this.2.2.1
  · simp only
    rw [q2, hset m hm, q3, getP_with]
    have hnx := h.next m hm
    by_cases e : m = i
    · subst e
      rw [if_pos rfl, if_pos rfl]
      have hnil : ofK st.all m (st.ep[m]! + 1) = [] := by
        unfold ofK
        rw [List.filter_eq_nil_iff]
        intro k hk hc
        have := h.ids k hk
        simp only [decide_eq_true_eq] at hc
        rw [hc.1, Int.toNat_natCast] at this
        omega
      rw [hnil]
      exact ⟨rfl, rfl⟩
    · rw [if_neg (by simp only; omega), if_neg e]
      exact hnx
theorem once_fence {st : PSt} {n : Nat} (h : OInv st n) {i : Nat} (hi : i < 64) (hok : (fenceF st.s i).2.2 = 0) :
    (fenceF st.s i).2.1 = st.ep[i]! + 1 ∧ OInv ⟨(fenceF st.s i).1, st.all, st.ep.set i (fenceF st.s i).2.1, st.pos⟩ (n + 1) := by
  obtain ⟨h1, _, _⟩ := h.epoch i hi
  rcases fence_cases h.right (i : Int) with ⟨_, _, _, q2, q3, q4⟩ | hb
  · rw [h1] at q2 q3
    exact once_fence' h hi q2 q3 q4
  · exact absurd hok hb
theorem oinv_more {st : PSt} {n : Nat} (h : OInv st n) : OInv st (n + 1) := ⟨h.right, h.eplen, fun i hi => ⟨(h.epoch i hi).1, (h.epoch i hi).2.1, by have := (h.epoch i hi).2.2; omega⟩, h.ids, h.seqs, h.next, by have := h.pos; omega, by have := h.len; omega⟩
end Go.Proofs.Ytghciaaedjomjaa
