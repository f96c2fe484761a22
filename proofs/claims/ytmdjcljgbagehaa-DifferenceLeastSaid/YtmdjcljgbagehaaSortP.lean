/- Sorting by swaps: what insertion, rotation and the symmetric merge do to a list. Plain Lean. -/
import Derived.Test.YtmdjcljgbagehaaLib
namespace Go.Proofs.Ytmdjcljgbagehaa

section
variable {α : Type}
def swp (l : List α) (i j : Nat) : List α :=
  match l[i]?, l[j]? with
  | some x, some y => (l.set i y).set j x
  | _, _ => l
theorem swp_eq {l : List α} {i j : Nat} {x y : α} (hx : l[i]? = some x) (hy : l[j]? = some y) : swp l i j = (l.set i y).set j x := by
  unfold swp
  rw [hx, hy]
theorem swp_len (l : List α) (i j : Nat) : (swp l i j).length = l.length := by
  unfold swp
  split
  · simp
  · rfl
theorem swp_get {l : List α} {i j : Nat} (hi : i < l.length) (hj : j < l.length) (k : Nat) : (swp l i j)[k]? = if k = j then l[i]? else if k = i then l[j]? else l[k]? := by
  rw [swp_eq (List.getElem?_eq_getElem hi) (List.getElem?_eq_getElem hj), List.getElem?_set, List.getElem?_set, List.length_set]
  by_cases h1 : k = j
  · subst h1
    rw [if_pos rfl, if_pos rfl, if_pos hj, List.getElem?_eq_getElem hi]
  · rw [if_neg (fun e => h1 e.symm), if_neg h1]
    by_cases h2 : k = i
    · subst h2
      rw [if_pos rfl, if_pos rfl, if_pos hi, List.getElem?_eq_getElem hj]
    · rw [if_neg (fun e => h2 e.symm), if_neg h2]
theorem swp_perm (l : List α) (i j : Nat) : (swp l i j).Perm l := by
  by_cases hi : i < l.length
  · by_cases hj : j < l.length
    · rw [swp_eq (List.getElem?_eq_getElem hi) (List.getElem?_eq_getElem hj)]
      exact List.set_set_perm hi hj
    · unfold swp
      rw [List.getElem?_eq_none (by omega : l.length ≤ j)]
      all_goals (cases l[i]? <;> exact List.Perm.refl _)
  · unfold swp
    rw [List.getElem?_eq_none (by omega : l.length ≤ i)]
/-- l' comes from l by swaps at places from a on and below b. -/
inductive SwapsOn (a b : Nat) : List α → List α → Prop
  | refl (l : List α) : SwapsOn a b l l
  | step {l l' : List α} (i j : Nat) : SwapsOn a b l l' → a ≤ i → i < b → a ≤ j → j < b → SwapsOn a b l (swp l' i j)
namespace SwapsOn
variable {a b : Nat} {l l' l'' : List α}
theorem len (h : SwapsOn a b l l') : l'.length = l.length := by
  induction h with
  | refl => rfl
  | step i j _ _ _ _ _ ih => rw [swp_len, ih]
theorem perm (h : SwapsOn a b l l') : l'.Perm l := by
  induction h with
  | refl => exact List.Perm.refl _
  | step i j _ _ _ _ _ ih => exact (swp_perm _ i j).trans ih
theorem trans (h : SwapsOn a b l l') (k : SwapsOn a b l' l'') : SwapsOn a b l l'' := by
  induction k with
  | refl => exact h
  | step i j _ h1 h2 h3 h4 ih => exact .step i j ih h1 h2 h3 h4
theorem mono {a' b' : Nat} (h : SwapsOn a b l l') (ha : a' ≤ a) (hb : b ≤ b') : SwapsOn a' b' l l' := by
  induction h with
  | refl => exact .refl _
  | step i j _ h1 h2 h3 h4 ih => exact .step i j ih (by omega) (by omega) (by omega) (by omega)
theorem out (h : SwapsOn a b l l') (hb : b ≤ l.length) {k : Nat} (hk : k < a ∨ b ≤ k) : l'[k]? = l[k]? := by
  induction h with
  | refl => rfl
  | step i j hs h1 h2 h3 h4 ih =>
    rw [swp_get (by rw [hs.len]; omega) (by rw [hs.len]; omega), if_neg (by omega), if_neg (by omega), ih]
theorem mem (h : SwapsOn a b l l') (hb : b ≤ l.length) {k : Nat} (h1 : a ≤ k) (h2 : k < b) : ∃ q, a ≤ q ∧ q < b ∧ l'[k]? = l[q]? := by
  induction h generalizing k with
  | refl => exact ⟨k, h1, h2, rfl⟩
  | step i j hs a1 a2 a3 a4 ih =>
    rw [swp_get (by rw [hs.len]; omega) (by rw [hs.len]; omega)]
    split
    · exact ih a1 a2
    · split
      · exact ih a3 a4
      · exact ih h1 h2
theorem one (i j : Nat) (h1 : a ≤ i) (h2 : i < b) (h3 : a ≤ j) (h4 : j < b) : SwapsOn a b l (swp l i j) := .step i j (.refl l) h1 h2 h3 h4
end SwapsOn

/-- An order, by a comparison that answers a number. -/
structure Ordr (cmp : α → α → Int) : Prop where
  asymm : ∀ x y, cmp x y < 0 → ¬ cmp y x < 0
  trans : ∀ x y z, ¬ cmp y x < 0 → ¬ cmp z y < 0 → ¬ cmp z x < 0
def SortedOn (cmp : α → α → Int) (l : List α) (a b : Nat) : Prop := ∀ p q x y, a ≤ p → p < q → q < b → l[p]? = some x → l[q]? = some y → ¬ cmp y x < 0
variable {cmp : α → α → Int}
theorem SortedOn.congr {l l' : List α} {a b : Nat} (h : SortedOn cmp l a b) (he : ∀ k, a ≤ k → k < b → l'[k]? = l[k]?) : SortedOn cmp l' a b := fun p q x y h1 h2 h3 hx hy =>
  h p q x y h1 h2 h3 ((he p h1 (by omega)).symm.trans hx) ((he q (by omega) h3).symm.trans hy)
theorem SortedOn.sub {l : List α} {a b a' b' : Nat} (h : SortedOn cmp l a b) (ha : a ≤ a') (hb : b' ≤ b) : SortedOn cmp l a' b' := fun p q x y h1 h2 h3 hx hy => h p q x y (by omega) h2 (by omega) hx hy
theorem SortedOn.short (l : List α) {a b : Nat} (h : b ≤ a + 1) : SortedOn cmp l a b := fun p q _ _ h1 h2 h3 => by omega

/-! ### Insertion -/
/-- Sorted up to i, but for the place j. -/
def InsOn (cmp : α → α → Int) (l : List α) (a i j : Nat) : Prop := ∀ p q x y, a ≤ p → p < q → q ≤ i → q ≠ j → l[p]? = some x → l[q]? = some y → ¬ cmp y x < 0
theorem ins_start {l : List α} {a i : Nat} (h : SortedOn cmp l a i) : InsOn cmp l a i i := fun p q x y h1 h2 h3 h4 hx hy => h p q x y h1 h2 (by omega) hx hy
theorem ins_stop {l : List α} {a i j : Nat} (ho : Ordr cmp) (h : InsOn cmp l a i j) (hl : i < l.length) (hj : j ≤ i) (hs : j = a ∨ ∃ x y, a < j ∧ l[j - 1]? = some x ∧ l[j]? = some y ∧ ¬ cmp y x < 0) : SortedOn cmp l a (i + 1) := by
  intro p q x y h1 h2 h3 hx hy
  by_cases hq : q = j
  · subst hq
    rcases hs with hs | ⟨u, v, haj, hu, hv, huv⟩
    · omega
    · obtain rfl : v = y := Option.some.inj (hv.symm.trans hy)
      by_cases hp : p = q - 1
      · subst hp
        obtain rfl : u = x := Option.some.inj (hu.symm.trans hx)
        exact huv
      · exact ho.trans x u v (h p (q - 1) x u h1 (by omega) (by omega) (by omega) hx hu) huv
  · exact h p q x y h1 h2 (by omega) hq hx hy
theorem ins_step {l : List α} {a i j : Nat} (ho : Ordr cmp) (h : InsOn cmp l a i j) (hl : i < l.length) (hj : j ≤ i) (haj : a < j) {u v : α} (hu : l[j - 1]? = some u) (hv : l[j]? = some v) (hlt : cmp v u < 0) : InsOn cmp (swp l j (j - 1)) a i (j - 1) := by
  intro p q x y h1 h2 h3 h4 hx hy
  rw [swp_get (by omega) (by omega)] at hx hy
  rw [if_neg h4] at hy
  by_cases q1 : q = j
  · rw [if_pos q1, hu] at hy
    obtain rfl : u = y := Option.some.inj hy
    by_cases p1 : p = j - 1
    · rw [if_pos p1, hv] at hx
      obtain rfl : v = x := Option.some.inj hx
      exact ho.asymm _ _ hlt
    · rw [if_neg p1, if_neg (by omega)] at hx
      exact h p (j - 1) x u h1 (by omega) (by omega) (by omega) hx hu
  · rw [if_neg q1] at hy
    by_cases p1 : p = j - 1
    · rw [if_pos p1, hv] at hx
      obtain rfl : v = x := Option.some.inj hx
      exact h j q v y (by omega) (by omega) h3 q1 hv hy
    · rw [if_neg p1] at hx
      by_cases p2 : p = j
      · rw [if_pos p2, hu] at hx
        obtain rfl : u = x := Option.some.inj hx
        exact h (j - 1) q u y (by omega) (by omega) h3 q1 hu hy
      · rw [if_neg p2] at hx
        exact h p q x y h1 h2 h3 q1 hx hy

/-! ### Exchange of two ranges, rotation -/
/-- n elements from a on are exchanged for those from b on. -/
def Xch (l l' : List α) (a b n : Nat) : Prop := ∀ k : Nat, l'[k]? = if a ≤ k ∧ k < a + n then l[k - a + b]? else if b ≤ k ∧ k < b + n then l[k - b + a]? else l[k]?
theorem xch_zero (l : List α) (a b : Nat) : Xch l l a b 0 := fun k => by rw [if_neg (by omega), if_neg (by omega)]
theorem xch_step {l l' : List α} {a b n : Nat} (h : Xch l l' a b n) (hl : l'.length = l.length) (hab : a + n < b) (hb : b + n < l.length) : Xch l (swp l' (a + n) (b + n)) a b (n + 1) := by
  intro k
  rw [swp_get (by omega) (by omega), h, h, h]
  (repeat' split) <;> first | rfl | (congr 1; omega) | (exfalso; omega)
/-- The ranges from a to m and from m to b are exchanged. -/
def Rot (l l' : List α) (a m b : Nat) : Prop := ∀ k : Nat, l'[k]? = if a ≤ k ∧ k < a + (b - m) then l[k - a + m]? else if a + (b - m) ≤ k ∧ k < b then l[k - (a + (b - m)) + a]? else l[k]?
/-- In the midst of a rotation: what stands from m - i to m + j is still to be rotated. -/
def RotTo (l l' cur : List α) (m i j : Nat) : Prop := Rot cur l' (m - i) m (m + j) ∧ cur.length = l.length
theorem rot_big {l' cur cur' : List α} {m i j : Nat} (h : Rot cur l' (m - i) m (m + j)) (him : i ≤ m) (hij : j < i) (hx : Xch cur cur' (m - i) m j) : Rot cur' l' (m - (i - j)) m (m + j) := by
  intro k
  rw [h k, hx, hx, hx]
  (repeat' split) <;> first | rfl | (congr 1; omega) | (exfalso; omega)
theorem rot_small {l' cur cur' : List α} {m i j : Nat} (h : Rot cur l' (m - i) m (m + j)) (him : i ≤ m) (hij : i < j) (hx : Xch cur cur' (m - i) (m + j - i) i) : Rot cur' l' (m - i) m (m + (j - i)) := by
  intro k
  rw [h k, hx, hx, hx]
  (repeat' split) <;> first | rfl | (congr 1; omega) | (exfalso; omega)
theorem rot_same {l' cur cur' : List α} {m i : Nat} (h : Rot cur l' (m - i) m (m + i)) (him : i ≤ m) (hx : Xch cur cur' (m - i) m i) : ∀ k : Nat, cur'[k]? = l'[k]? := by
  intro k
  rw [h k, hx]
  (repeat' split) <;> first | rfl | (congr 1; omega) | (exfalso; omega)
/-- There is a list that is the rotation. -/
theorem rot_ex (l : List α) (a m b : Nat) (h1 : a ≤ m) (h2 : m ≤ b) (hb : b ≤ l.length) : ∃ l', Rot l l' a m b := by
  refine ⟨l.take a ++ (l.drop m).take (b - m) ++ (l.drop a).take (m - a) ++ l.drop b, fun k => ?_⟩
  simp only [List.getElem?_append, List.length_append, List.length_take, List.length_drop, List.getElem?_take, List.getElem?_drop]
  by_cases k1 : k < a
  · rw [if_pos (by omega), if_pos (by omega), if_pos (by omega), if_pos k1, if_neg (by omega), if_neg (by omega)]
  · by_cases k2 : k < a + (b - m)
    · rw [if_pos (by omega), if_pos (by omega), if_neg (by omega), if_pos (by omega), if_pos (by omega)]
      congr 1
      omega
    · by_cases k3 : k < b
      · rw [if_pos (by omega), if_neg (by omega), if_pos (by omega), if_neg (by omega), if_pos (by omega)]
        congr 1
        omega
      · rw [if_neg (by omega), if_neg (by omega), if_neg (by omega)]
        congr 1
        omega

/-! ### The symmetric merge -/
/-- One element, moved from a to i - 1. -/
def ShR (l l' : List α) (a k : Nat) : Prop := ∀ q : Nat, l'[q]? = if a ≤ q ∧ q < k then l[q + 1]? else if q = k then l[a]? else l[q]?
theorem shR_zero (l : List α) (a : Nat) : ShR l l a a := fun q => by
  rw [if_neg (by omega)]
  split
  · rename_i h; rw [h]
  · rfl
theorem shR_step {l l' : List α} {a k : Nat} (h : ShR l l' a k) (hl : l'.length = l.length) (hk : a ≤ k) (hb : k + 1 < l.length) : ShR l (swp l' k (k + 1)) a (k + 1) := by
  intro q
  rw [swp_get (by omega) (by omega), h, h, h]
  (repeat' split) <;> first | rfl | (congr 1; omega) | (exfalso; omega)
theorem shR_sorted {l l' : List α} {a i b : Nat} {x : α} (hs : SortedOn cmp l (a + 1) b) (h : ShR l l' a (i - 1)) (hx : l[a]? = some x) (h1 : a + 1 ≤ i) (h2 : i ≤ b)
    (hlo : ∀ q y, a + 1 ≤ q → q < i → l[q]? = some y → cmp y x < 0) (hhi : ∀ q y, i ≤ q → q < b → l[q]? = some y → ¬ cmp y x < 0) (ho : Ordr cmp) : SortedOn cmp l' a b := by
  intro p q u v g1 g2 g3 hu hv
  rw [h p] at hu
  rw [h q] at hv
  by_cases p1 : p < i - 1
  · rw [if_pos (by omega)] at hu
    by_cases q1 : q < i - 1
    · rw [if_pos (by omega)] at hv
      exact hs (p + 1) (q + 1) u v (by omega) (by omega) (by omega) hu hv
    · rw [if_neg (by omega)] at hv
      by_cases q2 : q = i - 1
      · rw [if_pos q2, hx] at hv
        obtain rfl : x = v := Option.some.inj hv
        exact ho.asymm _ _ (hlo (p + 1) u (by omega) (by omega) hu)
      · rw [if_neg q2] at hv
        exact hs (p + 1) q u v (by omega) (by omega) (by omega) hu hv
  · rw [if_neg (by omega)] at hu
    rw [if_neg (by omega), if_neg (by omega)] at hv
    by_cases p2 : p = i - 1
    · rw [if_pos p2, hx] at hu
      obtain rfl : x = u := Option.some.inj hu
      exact hhi q v (by omega) (by omega) hv
    · rw [if_neg p2] at hu
      exact hs p q u v (by omega) g2 g3 hu hv
/-- One element, moved from m down to i. -/
def ShL (l l' : List α) (m k : Nat) : Prop := ∀ q : Nat, l'[q]? = if k < q ∧ q ≤ m then l[q - 1]? else if q = k then l[m]? else l[q]?
theorem shL_zero (l : List α) (m : Nat) : ShL l l m m := fun q => by
  rw [if_neg (by omega)]
  split
  · rename_i h; rw [h]
  · rfl
theorem shL_step {l l' : List α} {m k : Nat} (h : ShL l l' m k) (hl : l'.length = l.length) (hk : k ≤ m) (hk0 : 0 < k) (hb : m < l.length) : ShL l (swp l' k (k - 1)) m (k - 1) := by
  intro q
  rw [swp_get (by omega) (by omega), h, h, h]
  (repeat' split) <;> first | rfl | (congr 1; omega) | (exfalso; omega)
theorem shL_sorted {l l' : List α} {a i m : Nat} {x : α} (hs : SortedOn cmp l a m) (h : ShL l l' m i) (hx : l[m]? = some x) (h1 : a ≤ i) (h2 : i ≤ m)
    (hlo : ∀ q y, a ≤ q → q < i → l[q]? = some y → ¬ cmp x y < 0) (hhi : ∀ q y, i ≤ q → q < m → l[q]? = some y → cmp x y < 0) (ho : Ordr cmp) : SortedOn cmp l' a (m + 1) := by
  intro p q u v g1 g2 g3 hu hv
  rw [h p] at hu
  rw [h q] at hv
  by_cases q1 : i < q
  · rw [if_pos (by omega)] at hv
    by_cases p1 : i < p
    · rw [if_pos (by omega)] at hu
      exact hs (p - 1) (q - 1) u v (by omega) (by omega) (by omega) hu hv
    · rw [if_neg (by omega)] at hu
      by_cases p2 : p = i
      · rw [if_pos p2, hx] at hu
        obtain rfl : x = u := Option.some.inj hu
        exact ho.asymm _ _ (hhi (q - 1) v (by omega) (by omega) hv)
      · rw [if_neg p2] at hu
        exact hs p (q - 1) u v (by omega) (by omega) (by omega) hu hv
  · rw [if_neg (by omega)] at hv
    rw [if_neg (by omega), if_neg (by omega)] at hu
    by_cases q2 : q = i
    · rw [if_pos q2, hx] at hv
      obtain rfl : x = v := Option.some.inj hv
      exact hlo p u (by omega) (by omega) hu
    · rw [if_neg q2] at hv
      exact hs p q u v g1 g2 (by omega) hu hv
/-- What the search leaves: the two halves behind the rotation, each in two runs, and no element of the first greater than one of the second. -/
theorem sym_halves {l l' : List α} {a m b mid n s lo hi : Nat} (ho : Ordr cmp) (hs1 : SortedOn cmp l a m) (hs2 : SortedOn cmp l m b) (ham : a < m) (hmb : m < b) (hbl : b ≤ l.length) (hmid : mid = (a + b) / 2) (hn : n = mid + m)
    (hlh : (mid < m ∧ lo = n - b ∧ hi = mid) ∨ (m ≤ mid ∧ lo = a ∧ hi = m)) (h1 : lo ≤ s) (h2 : s ≤ hi)
    (hL : ∀ c x y, lo ≤ c → c < s → l[n - 1 - c]? = some x → l[c]? = some y → ¬ cmp x y < 0) (hR : ∀ c x y, s ≤ c → c < hi → l[n - 1 - c]? = some x → l[c]? = some y → cmp x y < 0)
    (hr : Rot l l' s m (n - s)) :
    SortedOn cmp l' a s ∧ SortedOn cmp l' s mid ∧ SortedOn cmp l' mid (n - s) ∧ SortedOn cmp l' (n - s) b ∧ (∀ p q x y, a ≤ p → p < mid → mid ≤ q → q < b → l'[p]? = some x → l'[q]? = some y → ¬ cmp y x < 0) := by
  have hsm : s ≤ m := by omega
  have hme : m ≤ n - s := by omega
  have hsn : n - s ≤ b := by omega
  have hmid1 : s + (n - s - m) = mid := by omega
  have e1 : ∀ k, k < s → l'[k]? = l[k]? := fun k hk => by rw [hr k, if_neg (by omega), if_neg (by omega)]
  have e2 : ∀ k, s ≤ k → k < mid → l'[k]? = l[k - s + m]? := fun k hk hk2 => by rw [hr k, if_pos (by omega)]
  have e3 : ∀ k, mid ≤ k → k < n - s → l'[k]? = l[k - mid + s]? := fun k hk hk2 => by rw [hr k, if_neg (by omega), if_pos (by omega), hmid1]
  have e4 : ∀ k, n - s ≤ k → l'[k]? = l[k]? := fun k hk => by rw [hr k, if_neg (by omega), if_neg (by omega)]
  refine ⟨fun p q x y g1 g2 g3 hx hy => ?_, fun p q x y g1 g2 g3 hx hy => ?_, fun p q x y g1 g2 g3 hx hy => ?_, fun p q x y g1 g2 g3 hx hy => ?_, fun p q x y g1 g2 g3 g4 hx hy => ?_⟩
  · rw [e1 p (by omega)] at hx; rw [e1 q (by omega)] at hy
    exact hs1 p q x y g1 g2 (by omega) hx hy
  · rw [e2 p g1 (by omega)] at hx; rw [e2 q (by omega) g3] at hy
    exact hs2 _ _ x y (by omega) (by omega) (by omega) hx hy
  · rw [e3 p g1 (by omega)] at hx; rw [e3 q (by omega) g3] at hy
    exact hs1 _ _ x y (by omega) (by omega) (by omega) hx hy
  · rw [e4 p g1] at hx; rw [e4 q (by omega)] at hy
    exact hs2 p q x y (by omega) g2 g3 hx hy
  · have le_refl : ∀ z, ¬ cmp z z < 0 := fun z h => ho.asymm z z h h
    by_cases p1 : p < s
    · rw [e1 p p1] at hx
      by_cases q1 : q < n - s
      · rw [e3 q g3 q1] at hy
        exact hs1 _ _ x y g1 (by omega) (by omega) hx hy
      · rw [e4 q (by omega)] at hy
        -- l[p] ≤ l[s-1] ≤ l[n-s] ≤ l[q]
        have hlo : lo ≤ s - 1 := by omega
        obtain ⟨u, hu⟩ : ∃ u, l[s - 1]? = some u := ⟨_, List.getElem?_eq_getElem (by omega)⟩
        obtain ⟨v, hv⟩ : ∃ v, l[n - s]? = some v := ⟨_, List.getElem?_eq_getElem (by omega)⟩
        have h5 := hL (s - 1) v u hlo (by omega) (by rw [show n - 1 - (s - 1) = n - s by omega]; exact hv) hu
        have h6 : ¬ cmp u x < 0 := by
          by_cases hp : p = s - 1
          · subst hp; obtain rfl : x = u := Option.some.inj (hx.symm.trans hu); exact le_refl x
          · exact hs1 p (s - 1) x u g1 (by omega) (by omega) hx hu
        have h7 : ¬ cmp y v < 0 := by
          by_cases hq : q = n - s
          · subst hq; obtain rfl : y = v := Option.some.inj (hy.symm.trans hv); exact le_refl y
          · exact hs2 (n - s) q v y (by omega) (by omega) g4 hv hy
        exact ho.trans x v y (ho.trans x u v h6 h5) h7
    · rw [e2 p (by omega) g2] at hx
      by_cases q1 : q < n - s
      · rw [e3 q g3 q1] at hy
        -- l[p'] ≤ l[n-s-1] < l[s] ≤ l[q']
        have hhi : s < hi := by omega
        obtain ⟨u, hu⟩ : ∃ u, l[n - 1 - s]? = some u := ⟨_, List.getElem?_eq_getElem (by omega)⟩
        obtain ⟨v, hv⟩ : ∃ v, l[s]? = some v := ⟨_, List.getElem?_eq_getElem (by omega)⟩
        have h5 := ho.asymm _ _ (hR s u v (Nat.le_refl _) hhi hu hv)
        have h6 : ¬ cmp u x < 0 := by
          by_cases hp : p - s + m = n - 1 - s
          · rw [hp] at hx; obtain rfl : x = u := Option.some.inj (hx.symm.trans hu); exact le_refl x
          · exact hs2 _ (n - 1 - s) x u (by omega) (by omega) (by omega) hx hu
        have h7 : ¬ cmp y v < 0 := by
          by_cases hq : q - mid + s = s
          · rw [hq] at hy; obtain rfl : y = v := Option.some.inj (hy.symm.trans hv); exact le_refl y
          · exact hs1 s _ v y (by omega) (by omega) (by omega) hv hy
        exact ho.trans x v y (ho.trans x u v h6 h5) h7
      · rw [e4 q (by omega)] at hy
        exact hs2 _ q x y (by omega) (by omega) g4 hx hy
/-- The search's step: its answer goes on to one side. -/
theorem search_lo {l : List α} {a m b n lo hi c c' : Nat} {x y x' y' : α} (ho : Ordr cmp) (hs1 : SortedOn cmp l a m) (hs2 : SortedOn cmp l m b) (hlo : a ≤ lo) (hhi : hi ≤ m) (hn1 : n ≤ lo + b) (hn2 : m + hi ≤ n) (h1 : lo ≤ c') (h2 : c' ≤ c) (h3 : c < hi)
    (hx : l[n - 1 - c]? = some x) (hy : l[c]? = some y) (hx' : l[n - 1 - c']? = some x') (hy' : l[c']? = some y') (h : ¬ cmp x y < 0) : ¬ cmp x' y' < 0 := by
  have le_refl : ∀ z, ¬ cmp z z < 0 := fun z h => ho.asymm z z h h
  by_cases e : c' = c
  · subst e
    obtain rfl : x = x' := Option.some.inj (hx.symm.trans hx')
    obtain rfl : y = y' := Option.some.inj (hy.symm.trans hy')
    exact h
  · have h4 : ¬ cmp y y' < 0 := hs1 c' c y' y (by omega) (by omega) (by omega) hy' hy
    have h5 : ¬ cmp x' x < 0 := hs2 (n - 1 - c) (n - 1 - c') x x' (by omega) (by omega) (by omega) hx hx'
    exact ho.trans y' x x' (ho.trans y' y x h4 h) h5
theorem search_hi {l : List α} {a m b n lo hi c c' : Nat} {x y x' y' : α} (ho : Ordr cmp) (hs1 : SortedOn cmp l a m) (hs2 : SortedOn cmp l m b) (hlo : a ≤ lo) (hhi : hi ≤ m) (hn1 : n ≤ lo + b) (hn2 : m + hi ≤ n) (h1 : lo ≤ c) (h2 : c ≤ c') (h3 : c' < hi)
    (hx : l[n - 1 - c]? = some x) (hy : l[c]? = some y) (hx' : l[n - 1 - c']? = some x') (hy' : l[c']? = some y') (h : cmp x y < 0) : cmp x' y' < 0 := by
  by_cases e : c' = c
  · subst e
    obtain rfl : x = x' := Option.some.inj (hx.symm.trans hx')
    obtain rfl : y = y' := Option.some.inj (hy.symm.trans hy')
    exact h
  · have h4 : ¬ cmp y' y < 0 := hs1 c c' y y' (by omega) (by omega) (by omega) hy hy'
    have h5 : ¬ cmp x x' < 0 := hs2 (n - 1 - c') (n - 1 - c) x' x (by omega) (by omega) (by omega) hx' hx
    refine Classical.byContradiction fun hc => ?_
    -- y ≤ y' ≤ x' ≤ x
    exact ho.trans y y' x h4 (ho.trans y' x' x hc h5) h
/-- Two sorted halves, no element of the first greater than one of the second. -/
theorem join_sorted {l l1 l2 : List α} {a mid b : Nat} (h1 : SwapsOn a mid l l1) (h2 : SwapsOn mid b l1 l2) (hbl : b ≤ l.length) (hmb : mid ≤ b) (s1 : SortedOn cmp l1 a mid) (s2 : SortedOn cmp l2 mid b)
    (hx : ∀ p q x y, a ≤ p → p < mid → mid ≤ q → q < b → l[p]? = some x → l[q]? = some y → ¬ cmp y x < 0) : SortedOn cmp l2 a b := by
  have hl1 := h1.len
  intro p q x y g1 g2 g3 hu hv
  by_cases p1 : p < mid
  · rw [h2.out (by omega) (.inl p1)] at hu
    by_cases q1 : q < mid
    · rw [h2.out (by omega) (.inl q1)] at hv
      exact s1 p q x y g1 g2 q1 hu hv
    · obtain ⟨q', hq1, hq2, hq3⟩ := h2.mem (by omega) (k := q) (by omega) g3
      rw [hq3, h1.out (by omega) (.inr hq1)] at hv
      obtain ⟨p', hp1, hp2, hp3⟩ := h1.mem (by omega) (k := p) g1 p1
      rw [hp3] at hu
      exact hx p' q' x y hp1 hp2 hq1 hq2 hu hv
  · exact s2 p q x y (by omega) g2 g3 hu hv
end
end Go.Proofs.Ytmdjcljgbagehaa
