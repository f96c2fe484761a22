/- Orders by a comparison that answers a number; rows and deltas; what a consolidated list is. Plain Lean. -/
import Derived.Test.YtmdjcljgbagehaaSortP
import Derived.Lib.Bytealg
import Derived.Lib.Small
namespace Go.Proofs.Ytmdjcljgbagehaa
open Go.RowKit

structure TCmp {β : Type} (c : β → β → Int) : Prop where
  anti : ∀ x y, c y x = - c x y
  trans : ∀ x y z, c x y ≤ 0 → c y z ≤ 0 → c x z ≤ 0
  zero : ∀ x y, c x y = 0 ↔ x = y
namespace TCmp
variable {β γ : Type} {c : β → β → Int} {d : γ → γ → Int}
theorem lt1 (h : TCmp c) {x y z : β} (h1 : c x y < 0) (h2 : c y z ≤ 0) : c x z < 0 := by
  have h3 := h.trans x y z (by omega) h2
  rcases Int.lt_or_eq_of_le h3 with h4 | h4
  · exact h4
  · obtain rfl := (h.zero x z).1 h4
    have := h.anti x y
    omega
theorem lt2 (h : TCmp c) {x y z : β} (h1 : c x y ≤ 0) (h2 : c y z < 0) : c x z < 0 := by
  have h3 := h.trans x y z h1 (by omega)
  rcases Int.lt_or_eq_of_le h3 with h4 | h4
  · exact h4
  · obtain rfl := (h.zero x z).1 h4
    have := h.anti x y
    omega
theorem refl (h : TCmp c) (x : β) : c x x = 0 := (h.zero x x).2 rfl
end TCmp
/-- The first that is not zero. -/
def cor (a b : Int) : Int := if a ≠ 0 then a else b
theorem cor_le {a b : Int} : cor a b ≤ 0 ↔ a < 0 ∨ (a = 0 ∧ b ≤ 0) := by
  unfold cor
  split <;> omega
theorem TCmp.pair {β γ : Type} {c : β → β → Int} {d : γ → γ → Int} (hc : TCmp c) (hd : TCmp d) : TCmp (fun (x y : β × γ) => cor (c x.1 y.1) (d x.2 y.2)) := by
  refine ⟨fun x y => ?_, fun x y z h1 h2 => ?_, fun x y => ?_⟩
  · have h1 := hc.anti x.1 y.1
    have h2 := hd.anti x.2 y.2
    unfold cor
    split <;> split <;> omega
  · rw [cor_le] at h1 h2 ⊢
    rcases h1 with h1 | ⟨h1, h1'⟩
    · rcases h2 with h2 | ⟨h2, _⟩
      · exact .inl (hc.lt1 h1 (by omega))
      · exact .inl (hc.lt1 h1 (by omega))
    · rcases h2 with h2 | ⟨h2, h2'⟩
      · exact .inl (hc.lt2 (by omega) h2)
      · refine .inr ⟨?_, hd.trans _ _ _ h1' h2'⟩
        rw [(hc.zero _ _).1 h1]
        exact h2
  · unfold cor
    have h1 := hc.zero x.1 y.1
    have h2 := hd.zero x.2 y.2
    constructor
    · intro h
      split at h
      · rename_i h3; exact absurd h h3
      · rename_i h3
        exact Prod.ext (h1.1 (Decidable.not_not.1 h3)) (h2.1 h)
    · rintro rfl
      rw [if_neg (fun q => q (h1.2 rfl))]
      exact h2.2 rfl
/-- Lists, place by place. -/
def cmpL {β : Type} (c : β → β → Int) : List β → List β → Int
  | [], [] => 0
  | [], _ :: _ => -1
  | _ :: _, [] => 1
  | a :: as, b :: bs => cor (c a b) (cmpL c as bs)
theorem TCmp.list {β : Type} {c : β → β → Int} (hc : TCmp c) : TCmp (cmpL c) := by
  refine ⟨?_, ?_, ?_⟩
  · intro x
    induction x with
    | nil => intro y; cases y <;> rfl
    | cons a as ih =>
      intro y
      cases y with
      | nil => rfl
      | cons b bs =>
        have h1 := hc.anti a b
        have h2 := ih bs
        simp only [cmpL, cor]
        split <;> split <;> omega
  · intro x
    induction x with
    | nil => intro y z _ _; cases z <;> simp [cmpL]
    | cons a as ih =>
      intro y z h1 h2
      cases y with
      | nil => simp [cmpL] at h1
      | cons b bs =>
        cases z with
        | nil => simp [cmpL] at h2
        | cons e es =>
          simp only [cmpL] at h1 h2 ⊢
          rw [cor_le] at h1 h2 ⊢
          rcases h1 with h1 | ⟨h1, h1'⟩
          · rcases h2 with h2 | ⟨h2, _⟩
            · exact .inl (hc.lt1 h1 (by omega))
            · exact .inl (hc.lt1 h1 (by omega))
          · rcases h2 with h2 | ⟨h2, h2'⟩
            · exact .inl (hc.lt2 (by omega) h2)
            · refine .inr ⟨?_, ih _ _ h1' h2'⟩
              rw [(hc.zero _ _).1 h1]
              exact h2
  · intro x
    induction x with
    | nil => intro y; cases y <;> simp [cmpL]
    | cons a as ih =>
      intro y
      cases y with
      | nil => simp [cmpL]
      | cons b bs =>
        have h1 := hc.zero a b
        simp only [cmpL, cor, List.cons.injEq]
        rw [← ih bs, ← h1]
        split
        · rename_i h; exact ⟨fun q => absurd q h, fun q => absurd q.1 h⟩
        · rename_i h; exact ⟨fun q => ⟨Decidable.not_not.1 h, q⟩, fun q => q.2⟩
theorem tcmp_int : TCmp Go.Lib.compareInt := by
  refine ⟨fun x y => ?_, fun x y z h1 h2 => ?_, fun x y => ?_⟩
  · unfold Go.Lib.compareInt; repeat' split
    all_goals omega
  · unfold Go.Lib.compareInt at *; repeat' split at *
    all_goals omega
  · unfold Go.Lib.compareInt; repeat' split
    all_goals omega
def cmpU (a b : UInt8) : Int := if a < b then -1 else if b < a then 1 else 0
theorem tcmp_u8 : TCmp cmpU := by
  have key : ∀ a b : UInt8, cmpU a b = Go.Lib.compareInt a.toNat b.toNat := fun a b => by
    unfold cmpU Go.Lib.compareInt
    simp only [UInt8.lt_iff_toNat_lt]
    repeat' split
    all_goals omega
  refine ⟨fun x y => by rw [key, key]; exact tcmp_int.anti _ _, fun x y z h1 h2 => by rw [key] at *; exact tcmp_int.trans _ _ _ h1 h2, fun x y => ?_⟩
  rw [key, tcmp_int.zero]
  constructor
  · intro h
    exact UInt8.toNat_inj.1 (by omega)
  · rintro rfl; rfl
theorem bytes_eq : ∀ a b : List UInt8, Go.Lib.compareBytes a b = cmpL cmpU a b
  | [], [] => rfl
  | [], _ :: _ => rfl
  | _ :: _, [] => rfl
  | a :: as, b :: bs => by
    rw [Go.Lib.compareBytes, cmpL, bytes_eq as bs]
    unfold cor cmpU
    by_cases h1 : a < b
    · rw [if_pos h1, if_pos h1, if_pos (by decide)]
    · rw [if_neg h1, if_neg h1]
      by_cases h2 : b < a
      · rw [if_pos h2, if_pos h2, if_pos (by decide)]
      · rw [if_neg h2, if_neg h2, if_neg (by decide)]
theorem tcmp_bytes : TCmp Go.Lib.compareBytes := by
  have h : Go.Lib.compareBytes = cmpL cmpU := by funext a b; exact bytes_eq a b
  rw [h]
  exact tcmp_u8.list

/-! ### Values, rows, deltas -/
structure VVal where
  kind : Int
  n : Int
  s : ByteArray
instance : Inhabited VVal := ⟨⟨0, 0, ⟨#[]⟩⟩⟩
def vkey (v : VVal) : Int × (Int × List UInt8) := (v.kind, v.n, v.s.data.toList)
def cmpV3 : Int × (Int × List UInt8) → Int × (Int × List UInt8) → Int := fun x y => cor (Go.Lib.compareInt x.1 y.1) (cor (Go.Lib.compareInt x.2.1 y.2.1) (Go.Lib.compareBytes x.2.2 y.2.2))
theorem tcmp_v3 : TCmp cmpV3 := tcmp_int.pair (tcmp_int.pair tcmp_bytes)
def rkey (l : List VVal) : List (Int × (Int × List UInt8)) := l.map vkey
def cmpRow (a b : List VVal) : Int := cmpL cmpV3 (rkey a) (rkey b)
abbrev Ky := Int × List (Int × (Int × List UInt8))
def cmpKy : Ky → Ky → Int := fun x y => cor (Go.Lib.compareInt x.1 y.1) (cmpL cmpV3 x.2 y.2)
theorem tcmp_ky : TCmp cmpKy := tcmp_int.pair tcmp_v3.list
/-- A delta as it lies, and its row. -/
structure Dl where
  time : Int
  ra : Option Addr
  rn : Nat
  rc : Nat
  n : Int
  vs : List VVal
instance : Inhabited Dl := ⟨⟨0, none, 0, 0, 0, []⟩⟩
def Dl.key (d : Dl) : Ky := (d.time, rkey d.vs)
def cmpD (d e : Dl) : Int := cmpKy d.key e.key
theorem cmpD_eq (d e : Dl) : cmpD d e = cor (Go.Lib.compareInt d.time e.time) (cmpRow d.vs e.vs) := rfl
theorem ordr_D : Ordr cmpD := by
  refine ⟨fun x y h => ?_, fun x y z h1 h2 => ?_⟩
  · have := tcmp_ky.anti x.key y.key
    unfold cmpD at *
    omega
  · have a1 := tcmp_ky.anti x.key y.key
    have a2 := tcmp_ky.anti y.key z.key
    have a3 := tcmp_ky.anti x.key z.key
    have := tcmp_ky.trans x.key y.key z.key
    unfold cmpD at *
    omega
def w64 (n : Int) : Int := IntKind.i64.wrap n
theorem w64_eq (n : Int) : w64 n = (n + 9223372036854775808) % 18446744073709551616 - 9223372036854775808 := by
  unfold w64
  rw [IntKind.wrap_i64]
theorem w64_add (a b : Int) : w64 (w64 a + b) = w64 (a + b) := by
  rw [w64_eq, w64_eq, w64_eq]; omega
theorem w64_w64 (a : Int) : w64 (w64 a) = w64 a := by
  rw [w64_eq, w64_eq]; omega
theorem w64_neg (a : Int) : w64 (- w64 a) = w64 (- a) := by
  rw [w64_eq, w64_eq, w64_eq]; omega
theorem w64_congr {a b c d : Int} (h1 : w64 a = w64 b) (h2 : w64 c = w64 d) : w64 (a + c) = w64 (b + d) := by
  rw [w64_eq, w64_eq] at *; omega
/-- What the list says of a key. -/
def tot (l : List Dl) (k : Ky) : Int := ((l.filter fun d => decide (d.key = k)).map (·.n)).sum
theorem tot_nil (k : Ky) : tot [] k = 0 := rfl
theorem tot_cons (d : Dl) (l : List Dl) (k : Ky) : tot (d :: l) k = (if d.key = k then d.n else 0) + tot l k := by
  unfold tot
  rw [List.filter_cons]
  by_cases h : d.key = k <;> simp [h]
theorem tot_append (a b : List Dl) (k : Ky) : tot (a ++ b) k = tot a k + tot b k := by
  induction a with
  | nil => simp [tot_nil]
  | cons d a ih => rw [List.cons_append, tot_cons, tot_cons, ih]; omega
theorem tot_perm {a b : List Dl} (h : a.Perm b) (k : Ky) : tot a k = tot b k := by
  induction h with
  | nil => rfl
  | cons x _ ih => rw [tot_cons, tot_cons, ih]
  | swap x y l => rw [tot_cons, tot_cons, tot_cons, tot_cons]; omega
  | trans _ _ ih1 ih2 => rw [ih1, ih2]
theorem tot_none {l : List Dl} {k : Ky} (h : ∀ d ∈ l, d.key ≠ k) : tot l k = 0 := by
  induction l with
  | nil => rfl
  | cons d l ih =>
    rw [tot_cons, if_neg (h d (List.mem_cons_self ..)), ih (fun e he => h e (List.mem_cons_of_mem _ he))]
    rfl
theorem tot_ne {l : List Dl} {k : Ky} (h : tot l k ≠ 0) : ∃ d ∈ l, d.key = k := by
  refine Classical.byContradiction fun hc => h (tot_none fun d hd e => hc ⟨d, hd, e⟩)
/-- Strictly rising, nothing is zero. -/
structure ConsL (l : List Dl) : Prop where
  rise : l.Pairwise fun d e => cmpD d e < 0
  nz : ∀ d ∈ l, d.n ≠ 0
theorem ConsL.nil : ConsL [] := ⟨.nil, by simp⟩
theorem ConsL.tail {d : Dl} {l : List Dl} (h : ConsL (d :: l)) : ConsL l := ⟨(List.pairwise_cons.1 h.rise).2, fun e he => h.nz e (List.mem_cons_of_mem _ he)⟩
theorem ConsL.head {d : Dl} {l : List Dl} (h : ConsL (d :: l)) : tot (d :: l) d.key = d.n := by
  rw [tot_cons, if_pos rfl, tot_none fun e he q => ?_]
  · omega
  · have h1 := (List.pairwise_cons.1 h.rise).1 e he
    unfold cmpD at h1
    rw [q, tcmp_ky.refl] at h1
    omega
theorem ConsL.mem {l : List Dl} (h : ConsL l) {d : Dl} (hd : d ∈ l) : tot l d.key = d.n := by
  induction l with
  | nil => cases hd
  | cons e l ih =>
    rcases List.mem_cons.1 hd with rfl | hd
    · exact h.head
    · rw [tot_cons, if_neg, ih h.tail hd]
      · omega
      · intro q
        have h1 := (List.pairwise_cons.1 h.rise).1 d hd
        unfold cmpD at h1
        rw [q, tcmp_ky.refl] at h1
        omega
theorem ConsL.snoc {l : List Dl} {d : Dl} (h : ConsL l) (hd : d.n ≠ 0) (hlt : ∀ e ∈ l, cmpD e d < 0) : ConsL (l ++ [d]) := by
  refine ⟨List.pairwise_append.2 ⟨h.rise, List.pairwise_singleton _ _, fun a ha b hb => by rw [List.mem_singleton.1 hb]; exact hlt a ha⟩, fun e he => ?_⟩
  rcases List.mem_append.1 he with he | he
  · exact h.nz e he
  · rw [List.mem_singleton.1 he]; exact hd
def kn (d : Dl) : Ky × Int := (d.key, d.n)
/-- A consolidated list is told by what it says. -/
theorem cons_unique : ∀ (a b : List Dl), ConsL a → ConsL b → (∀ k, tot a k = tot b k) → a.map kn = b.map kn := by
  intro a
  induction a with
  | nil =>
    intro b _ hb he
    cases b with
    | nil => rfl
    | cons e b =>
      have h1 := he e.key
      rw [hb.head, tot_nil] at h1
      exact absurd h1.symm (hb.nz e (List.mem_cons_self ..))
  | cons d a ih =>
    intro b ha hb he
    cases b with
    | nil =>
      have h1 := he d.key
      rw [ha.head, tot_nil] at h1
      exact absurd h1 (ha.nz d (List.mem_cons_self ..))
    | cons e b =>
      have hk : d.key = e.key := by
        have h1 := he d.key
        rw [ha.head] at h1
        have h2 := he e.key
        rw [hb.head] at h2
        obtain ⟨e', he', q1⟩ := tot_ne (l := e :: b) (k := d.key) (by rw [← h1]; exact ha.nz d (List.mem_cons_self ..))
        obtain ⟨d', hd', q2⟩ := tot_ne (l := d :: a) (k := e.key) (by rw [h2]; exact hb.nz e (List.mem_cons_self ..))
        rcases List.mem_cons.1 he' with rfl | he'
        · exact q1.symm
        · rcases List.mem_cons.1 hd' with rfl | hd'
          · exact q2
          · have h3 := (List.pairwise_cons.1 hb.rise).1 e' he'
            have h4 := (List.pairwise_cons.1 ha.rise).1 d' hd'
            unfold cmpD at h3 h4
            rw [q1] at h3
            rw [q2] at h4
            have := tcmp_ky.anti d.key e.key
            omega
      have hn : d.n = e.n := by
        have h1 := he d.key
        rw [ha.head, hk, hb.head] at h1
        exact h1
      rw [List.map_cons, List.map_cons, ih b ha.tail hb.tail (fun k => ?_)]
      · unfold kn; rw [hk, hn]
      · have h1 := he k
        rw [tot_cons, tot_cons, hk, hn] at h1
        omega
/-- The consolidated list of l. -/
structure ConsOf (l out : List Dl) : Prop where
  cons : ConsL out
  says : ∀ k, tot out k = w64 (tot l k)
theorem ConsOf.same {a b oa ob : List Dl} (ha : ConsOf a oa) (hb : ConsOf b ob) (h : ∀ k, w64 (tot a k) = w64 (tot b k)) : oa.map kn = ob.map kn := cons_unique _ _ ha.cons hb.cons fun k => by rw [ha.says, hb.says, h]
theorem ConsOf.key {l out : List Dl} (h : ConsOf l out) {d : Dl} (hd : d ∈ out) : ∃ e ∈ l, e.key = d.key := by
  refine tot_ne fun h0 => ?_
  have h1 := h.cons.mem hd
  rw [h.says, h0] at h1
  exact h.cons.nz d hd (by rw [← h1]; rfl)
/-- In the midst of it: i elements of the sorted list s are done. -/
structure ConsTo (s out : List Dl) (i : Nat) : Prop where
  cons : ConsL out
  says : ∀ k, tot out k = w64 (tot (s.take i) k)
  below : ∀ d ∈ out, ∀ q e, i ≤ q → s[q]? = some e → cmpD d e < 0
  keys : ∀ p q d e, p < i → i ≤ q → s[p]? = some d → s[q]? = some e → cmpD d e < 0
theorem consTo_zero (s : List Dl) : ConsTo s [] 0 := ⟨ConsL.nil, fun k => by rw [List.take_zero, tot_nil]; rfl, by simp, fun p q d e h => by omega⟩
/-- The sum over the elements from i on, j of them. -/
def sumN (s : List Dl) (i j : Nat) : Int := (((s.drop i).take j).map (·.n)).sum
theorem sumN_one {s : List Dl} {i : Nat} {d : Dl} (h : s[i]? = some d) : sumN s i 1 = d.n := by
  unfold sumN
  have : (s.drop i).take 1 = [d] := by
    rw [List.take_add_one, List.take_zero, List.getElem?_drop, Nat.add_zero, h]; rfl
  rw [this]; simp
theorem sumN_succ {s : List Dl} {i j : Nat} {e : Dl} (h : s[i + j]? = some e) : sumN s i (j + 1) = sumN s i j + e.n := by
  unfold sumN
  rw [List.take_add_one, List.getElem?_drop, h, List.map_append, List.sum_append]
  simp
theorem tot_group {s : List Dl} {i g : Nat} {d : Dl} (hk : ∀ q e, i ≤ q → q < i + g → s[q]? = some e → e.key = d.key) (k : Ky) : tot ((s.drop i).take g) k = if d.key = k then sumN s i g else 0 := by
  induction g with
  | zero => simp [tot_nil, sumN]
  | succ g ih =>
    have ih := ih fun q e h1 h2 => hk q e h1 (by omega)
    cases h : s[i + g]? with
    | none =>
      have h1 : (s.drop i).take (g + 1) = (s.drop i).take g := by rw [List.take_add_one, List.getElem?_drop, h]; simp
      unfold sumN
      rw [h1]
      exact ih
    | some e =>
      rw [sumN_succ h, List.take_add_one, List.getElem?_drop, h, tot_append, ih]
      have h1 := hk (i + g) e (by omega) (by omega) h
      show _ + tot [e] k = _
      rw [tot_cons, tot_nil, h1]
      by_cases hq : d.key = k <;> simp [hq]
theorem consTo_step {s out : List Dl} {i g : Nat} {d : Dl} (hs : SortedOn cmpD s 0 s.length) (h : ConsTo s out i) (hd : s[i]? = some d) (hg : 0 < g) (hgl : i + g ≤ s.length) (hk : ∀ q e, i ≤ q → q < i + g → s[q]? = some e → e.key = d.key)
    (hstop : ∀ e, s[i + g]? = some e → cmpD d e ≠ 0) (o : Dl) (hok : o.key = d.key) (hon : o.n = w64 (sumN s i g)) :
    ConsTo s (if o.n = 0 then out else out ++ [o]) (i + g) := by
  have hlast : ∀ p q u v, p < i + g → i + g ≤ q → s[p]? = some u → s[q]? = some v → cmpD u v < 0 := by
    intro p q u v h1 h2 hu hv
    by_cases hp : p < i
    · exact h.keys p q u v hp (by omega) hu hv
    · have huk := hk p u (by omega) h1 hu
      obtain ⟨e, he⟩ : ∃ e, s[i + g]? = some e := ⟨_, List.getElem?_eq_getElem (by have := (List.getElem?_eq_some_iff.1 hv).1; omega)⟩
      have h3 := hstop e he
      have h4 : ¬ cmpD e d < 0 := hs i (i + g) d e (by omega) (by omega) (by have := (List.getElem?_eq_some_iff.1 he).1; omega) hd he
      have a1 := tcmp_ky.anti d.key e.key
      have h5 : cmpD d e < 0 := by unfold cmpD at *; omega
      have h6 : cmpD d v < 0 := by
        by_cases hq : q = i + g
        · subst hq
          obtain rfl : e = v := Option.some.inj (he.symm.trans hv)
          exact h5
        · have h7 : ¬ cmpD v e < 0 := hs (i + g) q e v (by omega) (by omega) (List.getElem?_eq_some_iff.1 hv).1 he hv
          have a2 := tcmp_ky.anti e.key v.key
          exact tcmp_ky.lt1 (y := e.key) h5 (by unfold cmpD at *; omega)
      unfold cmpD at *
      rw [huk]
      exact h6
  have htot : ∀ k, tot (s.take (i + g)) k = tot (s.take i) k + if d.key = k then sumN s i g else 0 := fun k => by
    rw [List.take_add, tot_append, tot_group hk]
  have hbel : ∀ e ∈ out, cmpD e o < 0 := fun e he => by
    have := h.below e he i d (Nat.le_refl _) hd
    unfold cmpD at *
    rw [hok]; exact this
  have hout0 : tot out d.key = 0 := by
    refine tot_none fun e he q => ?_
    have h1 := h.below e he i d (Nat.le_refl _) hd
    unfold cmpD at h1
    rw [q, tcmp_ky.refl] at h1
    omega
  by_cases h0 : o.n = 0
  · rw [if_pos h0]
    refine ⟨h.cons, fun k => ?_, fun e he q v h1 hv => h.below e he q v (by omega) hv, hlast⟩
    rw [htot, h.says]
    by_cases hq : d.key = k
    · rw [if_pos hq]
      have h1 : w64 (sumN s i g) = w64 0 := by rw [← hon, h0]; rfl
      have := w64_congr (a := tot (s.take i) k) (b := tot (s.take i) k) rfl h1
      rw [this]
      congr 1
      omega
    · rw [if_neg hq]
      congr 1
      omega
  · rw [if_neg h0]
    refine ⟨h.cons.snoc h0 hbel, fun k => ?_, fun e he q v h1 hv => ?_, hlast⟩
    · rw [htot, tot_append, tot_cons, tot_nil, hok]
      by_cases hq : d.key = k
      · rw [if_pos hq, if_pos hq, ← hq, hout0]
        have h1 : w64 (tot (s.take i) d.key) = 0 := by rw [← h.says, hout0]
        have h2 := w64_add (tot (s.take i) d.key) (sumN s i g)
        rw [h1] at h2
        rw [← h2, hon]
        simp
      · rw [if_neg hq, if_neg hq, h.says]
        simp
    · rcases List.mem_append.1 he with he | he
      · exact h.below e he q v (by omega) hv
      · rw [List.mem_singleton.1 he]
        have := hlast i q d v (by omega) h1 hd hv
        unfold cmpD at *
        rw [hok]; exact this
theorem consTo_end {s out : List Dl} (h : ConsTo s out s.length) {l : List Dl} (hp : s.Perm l) : ConsOf l out := ⟨h.cons, fun k => by rw [h.says, List.take_length, tot_perm hp]⟩
end Go.Proofs.Ytmdjcljgbagehaa
