/- The plain law of a partition: what it accepts, and what it is then. No memory here. -/
import Derived.Test.YtghciaaedjomjaaOnceP
namespace Go.Proofs.Ytghciaaedjomjaa
open Go.RowKit

structure VVal where
  kind : Int
  n : Int
  s : ByteArray
instance : Inhabited VVal := ⟨⟨0, 0, ⟨#[]⟩⟩⟩
structure KnV where
  src : ByteArray
  sch : Int
  cols : List Int
instance : Inhabited KnV := ⟨⟨⟨#[]⟩, 0, []⟩⟩
/-- An entry as it lies in memory. -/
structure ERaw where
  kind : Int
  id : Int
  ep : Int
  sq : Int
  src : ByteArray
  sch : Int
  tm : Int
  ra : Option Addr
  rn : Nat
  rc : Nat
structure Cfg where
  parts : Int
  delay : Int
  late : Int
  ahead : Int
  rate : Int
  span : Int
structure ISt where
  now : Int
  top : Int
  next : Nat
  refused : Nat
  tab : List Prd
  cnt : Int → Int
def rightV (v : VVal) : Bool := if v.kind = 0 then v.s.toList == [] else if v.kind = 1 then v.n == 0 && decide (v.s.size ≤ 200) else v.kind == 2 && (v.n == 0 || v.n == 1) && v.s.toList == []
def rightRow (vs : List VVal) : Bool := decide (vs.length ≤ 12) && vs.all rightV
def fitsCols (vs : List VVal) (cs : List Int) : Bool := decide (vs.length = cs.length) && (vs.zip cs).all fun x => x.1.kind == x.2
def knownIdx (ks : List KnV) (src : ByteArray) (sch : Int) : Option Nat := ks.findIdx? fun k => k.src.toList == src.toList && k.sch == sch
def fitsF (ks : List KnV) (src : ByteArray) (sch : Int) (vs : List VVal) : Int :=
  match knownIdx ks src sch with
  | none => 17
  | some i => if fitsCols vs (ks[i]!).cols && rightRow vs then 0 else 16
structure RightC (c : Cfg) : Prop where
  late : 0 ≤ c.late ∧ c.late ≤ 10000
  delay : 0 ≤ c.delay ∧ c.delay ≤ c.late
  ahead : 0 ≤ c.ahead ∧ c.ahead ≤ 10000
  rate : 1 ≤ c.rate ∧ c.rate ≤ 20
def closedF (c : Cfg) (st : ISt) : Int := max (-1) (st.top - c.late - 1)
def markF (c : Cfg) (st : ISt) : Int := max (-1) (st.top - c.delay - 1)
def putN (c : Cfg) (ks : List KnV) (st : ISt) (r : ERaw) (vs : List VVal) : Int × Int :=
  if (lookF st.tab r.id r.ep r.sq).2 ≠ 0 then lookF st.tab r.id r.ep r.sq
  else if ¬ inN r.tm then (0, 3)
  else if fitsF ks r.src r.sch vs ≠ 0 then (0, fitsF ks r.src r.sch vs)
  else if r.tm ≤ closedF c st then (0, 20)
  else if st.now + c.ahead < r.tm then (0, 21)
  else if c.rate ≤ st.cnt r.tm then (0, 22)
  else ((st.next : Int), 0)
def raiseF (c : Cfg) (st : ISt) (t : Int) : ISt := { st with top := max st.top t, cnt := fun x => if x ≤ max (-1) (max st.top t - c.late - 1) then 0 else st.cnt x }
def addF (st : ISt) (r : ERaw) : ISt := { st with tab := putP st.tab r.id st.next, next := st.next + 1, cnt := fun x => if x = r.tm then st.cnt x + 1 else st.cnt x }
def acceptF (c : Cfg) (ks : List KnV) (st : ISt) (r : ERaw) (vs : List VVal) : (Int × Int) × ISt :=
  if (putN c ks st r vs).2 ≠ 0 then (putN c ks st r vs, if (putN c ks st r vs).2 ≠ 5 then { st with refused := st.refused + 1 } else st)
  else (putN c ks st r vs, raiseF c (addF st r) r.tm)
def applyF (c : Cfg) (ks : List KnV) (st : ISt) (r : ERaw) (vs : List VVal) : (Int × Int) × ISt :=
  if r.kind = 0 then acceptF c ks st r vs
  else if r.kind = 1 then (((fenceF st.tab r.id).2.1, (fenceF st.tab r.id).2.2), if (fenceF st.tab r.id).2.2 = 0 then { st with tab := (fenceF st.tab r.id).1 } else st)
  else if ¬ (r.kind = 2 ∨ r.kind = 3) then ((0, 1), st)
  else if ¬ inN r.tm then ((0, 3), st)
  else if r.kind = 3 then ((0, 0), { st with now := max st.now r.tm })
  else if st.now + c.ahead < r.tm then ((0, 21), st)
  else ((0, 0), raiseF c st r.tm)

structure IInv (c : Cfg) (st : ISt) : Prop where
  right : RightP st.tab
  pos : ∀ p ∈ st.tab, ∀ x ∈ p.last, x < st.next
  now : 0 ≤ st.now ∧ st.now ≤ 1099511627776
  top : -1 ≤ st.top ∧ st.top ≤ 1099511627776
  cnt : ∀ x, 0 ≤ st.cnt x ∧ st.cnt x ≤ c.rate
def ist0 : ISt := ⟨0, -1, 0, 0, [], fun _ => 0⟩
theorem iinv0 {c : Cfg} (hc : RightC c) : IInv c ist0 :=
  ⟨⟨by simp [ist0], by simp [ist0], by simp [ist0]⟩, by simp [ist0], by simp [ist0], by simp [ist0], fun x => ⟨Int.le_refl _, by have := hc.rate; show (0 : Int) ≤ c.rate; omega⟩⟩
theorem getP_mem (s : List Prd) (id : Int) : getP s id ∈ s ∨ getP s id = prd0 id := by
  unfold getP
  cases h : findP s id with
  | none => exact .inr rfl
  | some p => exact .inl (findP_some h).1
theorem putN_ok {c : Cfg} {ks : List KnV} {st : ISt} {r : ERaw} {vs : List VVal} (h : (putN c ks st r vs).2 = 0) :
    (lookF st.tab r.id r.ep r.sq).2 = 0 ∧ inN r.tm ∧ fitsF ks r.src r.sch vs = 0 ∧ closedF c st < r.tm ∧ r.tm ≤ st.now + c.ahead ∧ st.cnt r.tm < c.rate ∧ putN c ks st r vs = ((st.next : Int), 0) := by
  unfold putN at h ⊢
  split at h
  · rename_i h1; exact absurd h h1
  · rename_i h1
    rw [if_neg h1]
    split at h
    · simp at h
    · rename_i h2
      rw [if_neg h2]
      split at h
      · rename_i h3; exact absurd h h3
      · rename_i h3
        rw [if_neg h3]
        split at h
        · simp at h
        · rename_i h4
          rw [if_neg h4]
          split at h
          · simp at h
          · rename_i h5
            rw [if_neg h5]
            split at h
            · simp at h
            · rename_i h6
              rw [if_neg h6]
              exact ⟨Decidable.not_not.1 h1, Decidable.not_not.1 h2, Decidable.not_not.1 h3, by omega, by omega, by omega, rfl⟩
theorem add_putOk {c : Cfg} {st : ISt} (h : IInv c st) (hn : st.next ≤ 1000000) {id ep sq : Int} (hl : (lookF st.tab id ep sq).2 = 0) : putOk st.tab id ep sq st.next := by
  refine ⟨hl, ⟨by omega, by omega⟩, fun x hx => ?_⟩
  rcases getP_mem st.tab id with hm | hm
  · exact h.pos _ hm x hx
  · rw [hm] at hx; simp [prd0] at hx
theorem iinv_raise {c : Cfg} {st : ISt} (hc : RightC c) (h : IInv c st) {t : Int} (ht : inN t) : IInv c (raiseF c st t) := by
  obtain ⟨t0, t1⟩ := ht
  have := h.top
  refine ⟨h.right, h.pos, h.now, ⟨by simp only [raiseF]; omega, by simp only [raiseF]; omega⟩, fun x => ?_⟩
  simp only [raiseF]
  split
  · exact ⟨Int.le_refl _, by have := hc.rate; omega⟩
  · exact h.cnt x
theorem iinv_add {c : Cfg} {ks : List KnV} {st : ISt} {r : ERaw} {vs : List VVal} (h : IInv c st) (hn : st.next ≤ 1000000) (hp : (putN c ks st r vs).2 = 0) : IInv c (addF st r) := by
  obtain ⟨h1, h2, h3, h4, h5, h6, _⟩ := putN_ok hp
  have hok := add_putOk h hn h1
  refine ⟨put_right h.right hok, fun p hp x hx => ?_, h.now, h.top, fun x => ?_⟩
  · show x < ((st.next + 1 : Nat) : Int)
    have hp : p ∈ putP st.tab r.id st.next := hp
    unfold putP withP at hp
    have old : ∀ p ∈ st.tab, ∀ x ∈ p.last, x < ((st.next + 1 : Nat) : Int) := fun p hp x hx => by have := h.pos p hp x hx; omega
    rcases List.mem_append.1 hp with hp | hp
    · exact old p (List.mem_filter.1 hp).1 x hx
    · rcases List.mem_cons.1 hp with rfl | hp
      · simp only [cutL] at hx
        rcases List.mem_append.1 (List.mem_of_mem_drop hx) with hx | hx
        · have := hok.2.2 x hx; omega
        · rw [List.mem_singleton.1 hx]; omega
      · exact old p (List.mem_filter.1 hp).1 x hx
  · have := h.cnt x
    simp only [addF]
    split
    · rename_i e; subst e; omega
    · exact this
theorem fence_tab {s : List Prd} (h : RightP s) {id : Int} (hok : (fenceF s id).2.2 = 0) : 0 ≤ id ∧ id < 1099511627776 ∧ (fenceF s id).2.1 = (getP s id).epoch + 1 ∧ (fenceF s id).1 = withP s ⟨id, (getP s id).epoch + 1, 0, []⟩ ∧ RightP (fenceF s id).1 := by
  rcases fence_cases h id with ⟨_, h1, h2, h3, h4, h5⟩ | hb
  · exact ⟨h1, h2, h3, h4, h5⟩
  · exact absurd hok hb
theorem iinv_fence {c : Cfg} {st : ISt} (h : IInv c st) {id : Int} (hok : (fenceF st.tab id).2.2 = 0) : IInv c { st with tab := (fenceF st.tab id).1 } := by
  obtain ⟨_, _, _, e, hr⟩ := fence_tab h.right hok
  refine ⟨hr, fun p hp x hx => ?_, h.now, h.top, h.cnt⟩
  have hp : p ∈ (fenceF st.tab id).1 := hp
  rw [e] at hp
  unfold withP at hp
  rcases List.mem_append.1 hp with hp | hp
  · exact h.pos p (List.mem_filter.1 hp).1 x hx
  · rcases List.mem_cons.1 hp with rfl | hp
    · simp at hx
    · exact h.pos p (List.mem_filter.1 hp).1 x hx
/-- The six ways in which an entry ends. -/
theorem apply_cases (c : Cfg) (ks : List KnV) (st : ISt) (r : ERaw) (vs : List VVal) :
    (r.kind = 0 ∧ (putN c ks st r vs).2 = 0 ∧ applyF c ks st r vs = (((st.next : Int), 0), raiseF c (addF st r) r.tm)) ∨
    (r.kind = 0 ∧ (putN c ks st r vs).2 ≠ 0 ∧ applyF c ks st r vs = (putN c ks st r vs, if (putN c ks st r vs).2 ≠ 5 then { st with refused := st.refused + 1 } else st)) ∨
    (r.kind ≠ 0 ∧ (fenceF st.tab r.id).2.2 = 0 ∧ applyF c ks st r vs = (((fenceF st.tab r.id).2.1, 0), { st with tab := (fenceF st.tab r.id).1 })) ∨
    (r.kind ≠ 0 ∧ ∃ n e, applyF c ks st r vs = ((n, e), st)) ∨
    (r.kind ≠ 0 ∧ inN r.tm ∧ applyF c ks st r vs = ((0, 0), { st with now := max st.now r.tm })) ∨
    (r.kind ≠ 0 ∧ inN r.tm ∧ r.tm ≤ st.now + c.ahead ∧ applyF c ks st r vs = ((0, 0), raiseF c st r.tm)) := by
  unfold applyF
  by_cases k0 : r.kind = 0
  · rw [if_pos k0]
    unfold acceptF
    by_cases hp : (putN c ks st r vs).2 = 0
    · refine .inl ⟨k0, hp, ?_⟩
      rw [if_neg (by simpa using hp), (putN_ok hp).2.2.2.2.2.2]
    · refine .inr (.inl ⟨k0, hp, ?_⟩)
      rw [if_pos hp]
  · rw [if_neg k0]
    by_cases k1 : r.kind = 1
    · rw [if_pos k1]
      by_cases hf : (fenceF st.tab r.id).2.2 = 0
      · refine .inr (.inr (.inl ⟨k0, hf, ?_⟩))
        rw [if_pos hf, hf]
      · refine .inr (.inr (.inr (.inl ⟨k0, (fenceF st.tab r.id).2.1, (fenceF st.tab r.id).2.2, ?_⟩)))
        rw [if_neg hf]
    · rw [if_neg k1]
      by_cases k2 : r.kind = 2 ∨ r.kind = 3
      · rw [if_neg (Decidable.not_not.2 k2)]
        by_cases ht : inN r.tm
        · rw [if_neg (Decidable.not_not.2 ht)]
          by_cases k3 : r.kind = 3
          · rw [if_pos k3]
            exact .inr (.inr (.inr (.inr (.inl ⟨k0, ht, rfl⟩))))
          · rw [if_neg k3]
            by_cases ha : st.now + c.ahead < r.tm
            · rw [if_pos ha]
              exact .inr (.inr (.inr (.inl ⟨k0, _, _, rfl⟩)))
            · rw [if_neg ha]
              exact .inr (.inr (.inr (.inr (.inr ⟨k0, ht, by omega, rfl⟩))))
        · rw [if_pos ht]
          exact .inr (.inr (.inr (.inl ⟨k0, _, _, rfl⟩)))
      · rw [if_pos k2]
        exact .inr (.inr (.inr (.inl ⟨k0, _, _, rfl⟩)))
theorem iinv_apply {c : Cfg} {ks : List KnV} {st : ISt} {r : ERaw} {vs : List VVal} (hc : RightC c) (h : IInv c st) (hn : st.next ≤ 1000000) : IInv c (applyF c ks st r vs).2 := by
  rcases apply_cases c ks st r vs with ⟨_, hp, e⟩ | ⟨_, hp, e⟩ | ⟨_, hf, e⟩ | ⟨_, n, x, e⟩ | ⟨_, ht, e⟩ | ⟨_, ht, _, e⟩
  · rw [e]; exact iinv_raise hc (iinv_add h hn hp) (putN_ok hp).2.1
  · rw [e]
    simp only
    split
    · exact ⟨h.right, h.pos, h.now, h.top, h.cnt⟩
    · exact h
  · rw [e]; exact iinv_fence h hf
  · rw [e]; exact h
  · rw [e]; exact ⟨h.right, h.pos, by have := h.now; obtain ⟨a, b⟩ := ht; exact ⟨by simp only; omega, by simp only; omega⟩, h.top, h.cnt⟩
  · rw [e]; exact iinv_raise hc h ht
theorem apply_next {c : Cfg} {ks : List KnV} {st : ISt} {r : ERaw} {vs : List VVal} : (applyF c ks st r vs).2.next ≤ st.next + 1 ∧ (applyF c ks st r vs).2.refused ≤ st.refused + 1 := by
  rcases apply_cases c ks st r vs with ⟨_, hp, e⟩ | ⟨_, hp, e⟩ | ⟨_, hf, e⟩ | ⟨_, n, x, e⟩ | ⟨_, ht, e⟩ | ⟨_, ht, _, e⟩ <;> rw [e]
  · simp only [raiseF, addF]; omega
  · split <;> (first | (simp only; omega) | omega)
  all_goals (first | (simp only; omega) | (simp only [raiseF]; omega) | (exact ⟨Nat.le_succ _, Nat.le_succ _⟩))
/-! ### IntakeFinal -/
def cntL (t : Int) (l : List Int) : Nat := (l.filter fun x => decide (x = t)).length
theorem cntL_snoc (t : Int) (l : List Int) (x : Int) : cntL t (l ++ [x]) = cntL t l + if x = t then 1 else 0 := by
  unfold cntL
  rw [List.filter_append, List.length_append, List.filter_cons]
  by_cases h : x = t <;> simp [h]
structure FInv (c : Cfg) (st : ISt) (ts : List Int) : Prop where
  open_ : ∀ t, closedF c st < t → st.cnt t = (cntL t ts : Int)
  shut : ∀ t, t ≤ closedF c st → st.cnt t = 0
  rate : ∀ t, (cntL t ts : Int) ≤ c.rate
  top : ∀ t ∈ ts, t ≤ st.top
theorem finv0 {c : Cfg} (hc : RightC c) : FInv c ist0 [] := ⟨fun _ _ => rfl, fun _ _ => rfl, fun t => by have := hc.rate; simp [cntL]; omega, by simp⟩
theorem finv_raise {c : Cfg} {st : ISt} {ts : List Int} (h : FInv c st ts) (t : Int) : FInv c (raiseF c st t) ts := by
  refine ⟨fun x hx => ?_, fun x hx => ?_, h.rate, fun x hx => by have := h.top x hx; simp only [raiseF]; omega⟩
  · simp only [raiseF, closedF] at hx ⊢
    rw [if_neg (by omega)]
    exact h.open_ x (by unfold closedF; omega)
  · simp only [raiseF, closedF] at hx ⊢
    rw [if_pos hx]
theorem closed_mark {c : Cfg} (hc : RightC c) (st : ISt) : closedF c st ≤ markF c st ∧ (0 ≤ st.top → markF c st < st.top) := by
  have := hc.late; have := hc.delay
  unfold closedF markF
  omega
/-- What one entry does to the law's list of times. -/
theorem final_step {c : Cfg} {ks : List KnV} {st : ISt} {ts : List Int} {r : ERaw} {vs : List VVal} (hc : RightC c) (h : FInv c st ts) {n e : Int} {st' : ISt} (ha : applyF c ks st r vs = ((n, e), st')) :
    (closedF c st ≤ closedF c st' ∧ markF c st ≤ markF c st' ∧ st.top ≤ st'.top) ∧
    (r.kind = 0 → e = 0 → closedF c st < r.tm ∧ r.tm ≤ st'.now + c.ahead ∧ inN r.tm ∧ FInv c st' (ts ++ [r.tm])) ∧ (¬ (r.kind = 0 ∧ e = 0) → FInv c st' ts) := by
  rcases apply_cases c ks st r vs with ⟨k0, hp, q⟩ | ⟨k0, hp, q⟩ | ⟨k0, hf, q⟩ | ⟨k0, n', x, q⟩ | ⟨k0, ht, q⟩ | ⟨k0, ht, _, q⟩
  · rw [ha] at q
    simp only [Prod.mk.injEq] at q
    obtain ⟨⟨_, e0⟩, rfl⟩ := q
    obtain ⟨h1, h2, h3, h4, h5, h6, _⟩ := putN_ok hp
    refine ⟨⟨by simp only [closedF, raiseF, addF]; omega, by simp only [markF, raiseF, addF]; omega, by simp only [raiseF, addF]; omega⟩, fun _ _ => ⟨h4, h5, h2, ?_⟩, fun hn => absurd ⟨k0, e0⟩ hn⟩
    have hsh : ∀ x, x ≤ closedF c (addF st r) → (addF st r).cnt x = 0 := fun x hx => by
      have : closedF c (addF st r) = closedF c st := rfl
      simp only [addF]
      rw [if_neg (by omega)]
      exact h.shut x (by omega)
    have hcl : closedF c (addF st r) = closedF c st := rfl
    refine ⟨fun x hx => ?_, fun x hx => ?_, fun x => ?_, fun x hx => ?_⟩
    · simp only [raiseF, closedF] at hx ⊢
      rw [if_neg (by omega), cntL_snoc]
      simp only [addF] at hx ⊢
      have := h.open_ x (by unfold closedF; omega)
      by_cases e : x = r.tm
      · rw [if_pos e, if_pos e.symm, this]; push_cast; rfl
      · rw [if_neg e, if_neg (fun c => e c.symm), this]; simp
    · simp only [raiseF, closedF] at hx ⊢
      rw [if_pos hx]
    · rw [cntL_snoc]
      by_cases e : r.tm = x
      · subst e
        rw [if_pos rfl]
        have := h.open_ r.tm h4
        omega
      · rw [if_neg e]
        exact h.rate x
    · simp only [raiseF, addF]
      rcases List.mem_append.1 hx with hx | hx
      · have := h.top x hx; omega
      · rw [List.mem_singleton.1 hx]; omega
  · rw [ha] at q
    have hs : st' = if (putN c ks st r vs).2 ≠ 5 then { st with refused := st.refused + 1 } else st := congrArg Prod.snd q
    have he : e = (putN c ks st r vs).2 := congrArg (fun z => z.1.2) q
    have hs2 : st'.top = st.top ∧ st'.cnt = st.cnt := by rw [hs]; split <;> exact ⟨rfl, rfl⟩
    have hcl : closedF c st' = closedF c st := by unfold closedF; rw [hs2.1]
    refine ⟨⟨by omega, by unfold markF; rw [hs2.1]; exact Int.le_refl _, by rw [hs2.1]; exact Int.le_refl _⟩, fun _ e0 => absurd (he ▸ e0) hp, fun _ => ⟨fun x hx => by rw [hs2.2]; exact h.open_ x (by omega), fun x hx => by rw [hs2.2]; exact h.shut x (by omega), h.rate, fun x hx => by rw [hs2.1]; exact h.top x hx⟩⟩
  · rw [ha] at q
    simp only [Prod.mk.injEq] at q
    obtain ⟨_, rfl⟩ := q
    exact ⟨⟨Int.le_refl _, Int.le_refl _, Int.le_refl _⟩, fun k => absurd k k0, fun _ => ⟨h.open_, h.shut, h.rate, h.top⟩⟩
  · rw [ha] at q
    simp only [Prod.mk.injEq] at q
    obtain ⟨_, rfl⟩ := q
    exact ⟨⟨Int.le_refl _, Int.le_refl _, Int.le_refl _⟩, fun k => absurd k k0, fun _ => h⟩
  · rw [ha] at q
    simp only [Prod.mk.injEq] at q
    obtain ⟨_, rfl⟩ := q
    exact ⟨⟨Int.le_refl _, Int.le_refl _, Int.le_refl _⟩, fun k => absurd k k0, fun _ => ⟨h.open_, h.shut, h.rate, h.top⟩⟩
  · rw [ha] at q
    simp only [Prod.mk.injEq] at q
    obtain ⟨_, rfl⟩ := q
    exact ⟨⟨by simp only [closedF, raiseF]; omega, by simp only [markF, raiseF]; omega, by simp only [raiseF]; omega⟩, fun k => absurd k k0, fun _ => finv_raise h _⟩
/-! ### IntakeOnce -/
structure DInv (st : ISt) (all : List Kp) : Prop where
  next : st.next = all.length
  pos : ∀ (k : Nat) (x : Kp), all[k]? = some x → x.pos = k
  rng : ∀ x ∈ all, (0 ≤ x.id ∧ x.id < 1099511627776 ∧ 0 ≤ x.epoch ∧ x.epoch < 1099511627776 ∧ 0 ≤ x.seq ∧ x.seq < 1099511627776) ∧ x.epoch ≤ (getP st.tab x.id).epoch
  seqs : ∀ (id e : Int) (j : Nat) (x : Kp), (ofK all id e)[j]? = some x → x.seq = j
  tab : ∀ id : Int, (getP st.tab id).next = ((ofK all id (getP st.tab id).epoch).length : Int) ∧ (getP st.tab id).last = cutL ((ofK all id (getP st.tab id).epoch).map (·.pos))
theorem dinv0 : DInv ist0 [] := ⟨rfl, by simp, by simp, by simp [ofK], fun id => by simp [ist0, getP, findP, prd0, ofK, cutL]⟩
theorem dinv_same {st st' : ISt} {all : List Kp} (h : DInv st all) (h1 : st'.next = st.next) (h2 : st'.tab = st.tab) : DInv st' all := ⟨by rw [h1]; exact h.next, h.pos, by rw [h2]; exact h.rng, h.seqs, by rw [h2]; exact h.tab⟩
theorem dinv_fence {c : Cfg} {st : ISt} {all : List Kp} (hi : IInv c st) (h : DInv st all) {id : Int} (hok : (fenceF st.tab id).2.2 = 0) : DInv { st with tab := (fenceF st.tab id).1 } all := by
  obtain ⟨_, _, _, e, _⟩ := fence_tab hi.right hok
  refine ⟨h.next, h.pos, fun x hx => ?_, h.seqs, fun d => ?_⟩
  · refine ⟨(h.rng x hx).1, ?_⟩
    simp only
    rw [e, getP_with]
    have := (h.rng x hx).2
    split
    · rename_i q
      simp only at q ⊢
      rw [q] at this
      omega
    · exact this
  · simp only
    rw [e, getP_with]
    split
    · rename_i q
      simp only at q ⊢
      subst q
      have hnil : ofK all d ((getP st.tab d).epoch + 1) = [] := by
        unfold ofK
        rw [List.filter_eq_nil_iff]
        intro k hk hc
        have := (h.rng k hk).2
        simp only [decide_eq_true_eq] at hc
        rw [hc.1] at this
        omega
      rw [hnil]
      exact ⟨rfl, rfl⟩
    · exact h.tab d
theorem dinv_add {st : ISt} {all : List Kp} (h : DInv st all) {r : ERaw} (hl : (lookF st.tab r.id r.ep r.sq).2 = 0) :
    r.sq = ((ofK all r.id r.ep).length : Int) ∧ DInv (addF st r) (all ++ [⟨r.id, r.ep, r.sq, (all.length : Int)⟩]) := by
  obtain ⟨q0, q1, q2, q3, q4, q5, q6, q7, q8⟩ := look_ok hl
  obtain ⟨t1, t2⟩ := h.tab r.id
  have hsq : r.sq = ((ofK all r.id r.ep).length : Int) := by rw [q6, ← t1]; exact q7
  have hnx := h.next
  have hg : ∀ d, getP (addF st r).tab d = if d = r.id then { getP st.tab r.id with next := (getP st.tab r.id).next + 1, last := cutL ((getP st.tab r.id).last ++ [(st.next : Int)]) } else getP st.tab d := by
    intro d
    show getP (putP st.tab r.id st.next) d = _
    unfold putP
    rw [getP_with]
    simp only [getP_id]
  refine ⟨hsq, by simp only [addF, List.length_append, List.length_singleton]; omega, fun k x hx => ?_, fun x hx => ?_, fun id e j x hx => ?_, fun d => ?_⟩
  · rcases Nat.lt_or_ge k all.length with hk | hk
    · rw [List.getElem?_append_left hk] at hx
      exact h.pos k x hx
    · rw [List.getElem?_append_right hk] at hx
      have hk0 : k - all.length = 0 := by
        have := (List.getElem?_eq_some_iff.1 hx).1
        simp at this
        omega
      rw [hk0] at hx
      simp only [List.getElem?_cons_zero, Option.some.injEq] at hx
      rw [← hx]
      simp only
      omega
  · rw [hg]
    rcases List.mem_append.1 hx with hx | hx
    · refine ⟨(h.rng x hx).1, ?_⟩
      have := (h.rng x hx).2
      split
      · rename_i q; rw [q] at this; exact this
      · exact this
    · rw [List.mem_singleton.1 hx]
      simp only
      rw [if_pos trivial]
      exact ⟨⟨q0, q1, q2, q3, q4, q5⟩, by simp only; omega⟩
  · rw [ofK_append, ofK_one] at hx
    simp only at hx
    by_cases hm : r.id = id ∧ r.ep = e
    · rw [if_pos hm] at hx
      rcases Nat.lt_or_ge j (ofK all id e).length with hj | hj
      · rw [List.getElem?_append_left hj] at hx
        exact h.seqs id e j x hx
      · rw [List.getElem?_append_right hj] at hx
        have hj0 : j - (ofK all id e).length = 0 := by
          have := (List.getElem?_eq_some_iff.1 hx).1
          simp at this
          omega
        rw [hj0] at hx
        simp only [List.getElem?_cons_zero, Option.some.injEq] at hx
        rw [← hx]
        simp only
        rw [← hm.1, ← hm.2] at hj hj0
        omega
    · rw [if_neg hm, List.append_nil] at hx
      exact h.seqs id e j x hx
  · rw [hg]
    split
    · rename_i q
      subst q
      simp only
      rw [ofK_append, ofK_one]
      simp only
      rw [if_pos ⟨trivial, q6⟩]
      refine ⟨?_, ?_⟩
      · simp only [List.length_append, List.length_singleton]; omega
      · simp only [List.map_append, List.map_cons, List.map_nil]
        rw [t2, cutL_snoc, hnx]
    · rename_i q
      rw [ofK_append, ofK_one]
      simp only
      rw [if_neg (fun c => q c.1.symm), List.append_nil]
      exact h.tab d
theorem once_step {c : Cfg} {ks : List KnV} {st : ISt} {all : List Kp} {r : ERaw} {vs : List VVal} (hi : IInv c st) (h : DInv st all) {n e : Int} {st' : ISt} (ha : applyF c ks st r vs = ((n, e), st')) :
    (r.kind = 0 → e = 0 → n = (all.length : Int) ∧ r.sq = ((ofK all r.id r.ep).length : Int) ∧ DInv st' (all ++ [⟨r.id, r.ep, r.sq, (all.length : Int)⟩])) ∧ (¬ (r.kind = 0 ∧ e = 0) → DInv st' all) := by
  rcases apply_cases c ks st r vs with ⟨k0, hp, q⟩ | ⟨k0, hp, q⟩ | ⟨k0, hf, q⟩ | ⟨k0, n', x, q⟩ | ⟨k0, ht, q⟩ | ⟨k0, ht, _, q⟩
  · rw [ha] at q
    simp only [Prod.mk.injEq] at q
    obtain ⟨⟨rfl, e0⟩, rfl⟩ := q
    obtain ⟨h1, _⟩ := putN_ok hp
    obtain ⟨h2, h3⟩ := dinv_add h h1
    exact ⟨fun _ _ => ⟨by rw [h.next], h2, dinv_same h3 rfl rfl⟩, fun hn => absurd ⟨k0, e0⟩ hn⟩
  · rw [ha] at q
    have hs : st' = if (putN c ks st r vs).2 ≠ 5 then { st with refused := st.refused + 1 } else st := congrArg Prod.snd q
    have he : e = (putN c ks st r vs).2 := congrArg (fun z => z.1.2) q
    refine ⟨fun _ e0 => absurd (he ▸ e0) hp, fun _ => dinv_same h ?_ ?_⟩
    · rw [hs]; split <;> rfl
    · rw [hs]; split <;> rfl
  · rw [ha] at q
    simp only [Prod.mk.injEq] at q
    obtain ⟨_, rfl⟩ := q
    exact ⟨fun k => absurd k k0, fun _ => dinv_fence hi h hf⟩
  · rw [ha] at q
    simp only [Prod.mk.injEq] at q
    obtain ⟨_, rfl⟩ := q
    exact ⟨fun k => absurd k k0, fun _ => h⟩
  · rw [ha] at q
    simp only [Prod.mk.injEq] at q
    obtain ⟨_, rfl⟩ := q
    exact ⟨fun k => absurd k k0, fun _ => dinv_same h rfl rfl⟩
  · rw [ha] at q
    simp only [Prod.mk.injEq] at q
    obtain ⟨_, rfl⟩ := q
    exact ⟨fun k => absurd k k0, fun _ => dinv_same h rfl rfl⟩
/-- What was accepted, sent again. -/
theorem once_again {c : Cfg} {ks : List KnV} {st : ISt} {all : List Kp} {r : ERaw} {vs : List VVal} (h : DInv st all) {k : Nat} {x : Kp} (hx : all[k]? = some x) (h0 : r.kind = 0) (h1 : r.id = x.id) (h2 : r.ep = x.epoch) (h3 : r.sq = x.seq) {n e : Int} {st' : ISt} (ha : applyF c ks st r vs = ((n, e), st')) :
    (e = 18 ∨ (e = 5 ∧ (n = (k : Int) ∨ n = -1))) ∧ DInv st' all := by
  have hm := List.mem_of_getElem? hx
  obtain ⟨hr, hep⟩ := h.rng x hm
  have hL : lookF st.tab r.id r.ep r.sq = (0, 18) ∨ ((lookF st.tab r.id r.ep r.sq).2 = 5 ∧ ((lookF st.tab r.id r.ep r.sq).1 = (k : Int) ∨ (lookF st.tab r.id r.ep r.sq).1 = -1)) := by
    rw [h1, h2, h3]
    unfold lookF
    rw [if_neg (by simpa using hr)]
    by_cases a1 : x.epoch < (getP st.tab x.id).epoch
    · rw [if_pos a1]; exact .inl rfl
    · right
      have hE : x.epoch = (getP st.tab x.id).epoch := by omega
      obtain ⟨t1, t2⟩ := h.tab x.id
      rw [← hE] at t1 t2
      have hmk : x ∈ ofK all x.id x.epoch := List.mem_filter.2 ⟨hm, by simp⟩
      obtain ⟨j, hj, hjx⟩ := List.mem_iff_getElem.1 hmk
      have hjx' : (ofK all x.id x.epoch)[j]? = some x := by rw [List.getElem?_eq_getElem hj, hjx]
      have hseq := h.seqs _ _ j x hjx'
      have hfind : findP st.tab x.id ≠ none := by
        intro hn
        have : getP st.tab x.id = prd0 x.id := by unfold getP; rw [hn]; rfl
        rw [this] at t1
        simp only [prd0] at t1
        omega
      rw [if_neg a1, if_neg (by omega), if_neg (by omega), if_neg (fun hc => hfind hc.1), if_neg (by omega)]
      by_cases a6 : 0 ≤ ((getP st.tab x.id).last.length : Int) - ((getP st.tab x.id).next - x.seq)
      · rw [if_pos a6]
        refine ⟨rfl, .inl ?_⟩
        show (getP st.tab x.id).last[(((getP st.tab x.id).last.length : Int) - ((getP st.tab x.id).next - x.seq)).toNat]! = (k : Int)
        have hlen : (getP st.tab x.id).last.length = min (ofK all x.id x.epoch).length 20 := by rw [t2, cutL_len, List.length_map]
        obtain ⟨t, ht⟩ : ∃ t : Nat, (((getP st.tab x.id).last.length : Int) - ((getP st.tab x.id).next - x.seq)).toNat = t := ⟨_, rfl⟩
        rw [ht]
        have htl : t < (getP st.tab x.id).last.length := by omega
        rw [getElem!_pos _ t htl]
        have hget : (getP st.tab x.id).last[t]? = some x.pos := by
          rw [t2]
          unfold cutL
          rw [List.getElem?_drop, List.getElem?_map, List.length_map, show (ofK all x.id x.epoch).length - 20 + t = j by omega, hjx']
          rfl
        rw [← h.pos k x hx]
        exact (List.getElem?_eq_some_iff.1 hget).2
      · rw [if_neg a6]
        exact ⟨rfl, .inr rfl⟩
  have hne : (lookF st.tab r.id r.ep r.sq).2 ≠ 0 := by
    rcases hL with hL | ⟨hL, _⟩
    · rw [hL]; simp
    · rw [hL]; simp
  have hpn : putN c ks st r vs = lookF st.tab r.id r.ep r.sq := by unfold putN; rw [if_pos hne]
  unfold applyF acceptF at ha
  rw [if_pos h0, hpn, if_pos hne] at ha
  have hs : st' = if (lookF st.tab r.id r.ep r.sq).2 ≠ 5 then { st with refused := st.refused + 1 } else st := (congrArg Prod.snd ha).symm
  have hn : n = (lookF st.tab r.id r.ep r.sq).1 := (congrArg (fun z => z.1.1) ha).symm
  have he : e = (lookF st.tab r.id r.ep r.sq).2 := (congrArg (fun z => z.1.2) ha).symm
  refine ⟨?_, dinv_same h ?_ ?_⟩
  · rw [hn, he]
    rcases hL with hL | hL
    · rw [hL]; exact .inl rfl
    · exact .inr hL
  · rw [hs]; split <;> rfl
  · rw [hs]; split <;> rfl
end Go.Proofs.Ytghciaaedjomjaa
