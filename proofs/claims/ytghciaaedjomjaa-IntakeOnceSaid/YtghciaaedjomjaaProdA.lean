/- The producers' table in memory; in, find. -/
import Derived.Test.YtghciaaedjomjaaIntL
import Derived.Test.YtghciaaedjomjaaProdP
namespace Go.Proofs.Ytghciaaedjomjaa
open Go.RowKit

/-- An element of the table as it lies in memory. -/
structure PRaw where
  id : Int
  epoch : Int
  next : Int
  la : Option Addr
  ln : Nat
  lc : Nat
instance : Inhabited PRaw := ⟨⟨0, 0, 0, none, 0, 0⟩⟩
def encP (r : PRaw) : List Value := [.int .i64 r.id, .int .i64 r.epoch, .int .i64 r.next, .slice r.la r.ln r.lc]
theorem encP_len (r : PRaw) : (encP r).length = 4 := rfl
theorem encP_one (r : PRaw) : ∀ u ∈ encP r, u.oneCell' = true := by simp [encP, Value.oneCell']
def RawOk (P : Nat → Prop) (w : World) (r : PRaw) (p : Prd) : Prop := r.id = p.id ∧ r.epoch = p.epoch ∧ r.next = p.next ∧ r.ln = p.last.length ∧ SlP P 1 eI w r.la r.ln r.lc p.last
def Raws (P : Nat → Prop) (w : World) (raw : List PRaw) (s : List Prd) : Prop := raw.length = s.length ∧ ∀ (i : Nat) (r : PRaw) (p : Prd), raw[i]? = some r → s[i]? = some p → RawOk P w r p
/-- A table. -/
def TabP (P : Nat → Prop) (w : World) (A : Option Addr) (c : Nat) (s : List Prd) : Prop := ∃ raw, SlP P 4 encP w A s.length c raw ∧ Raws P w raw s
section
variable {P Q : Nat → Prop} {w w' : World} {A : Option Addr} {c : Nat} {s : List Prd} {raw : List PRaw} {r : PRaw} {p : Prd}
theorem RawOk.keep (h : RawOk P w r p) (hs : w.heap.size ≤ w'.heap.size) (hc : ∀ b, b < w.heap.size → P b → w'.heap[b]? = w.heap[b]?) : RawOk P w' r p := ⟨h.1, h.2.1, h.2.2.1, h.2.2.2.1, h.2.2.2.2.keep hs hc⟩
theorem RawOk.below (h : RawOk P w r p) (hb : Below w.heap.size w w') : RawOk P w' r p := h.keep hb.size fun b hlt _ => hb.block b hlt
theorem RawOk.mono (h : RawOk P w r p) (hpq : ∀ b, b < w.heap.size → P b → Q b) : RawOk Q w r p := ⟨h.1, h.2.1, h.2.2.1, h.2.2.2.1, h.2.2.2.2.mono hpq⟩
theorem Raws.keep (h : Raws P w raw s) (hs : w.heap.size ≤ w'.heap.size) (hc : ∀ b, b < w.heap.size → P b → w'.heap[b]? = w.heap[b]?) : Raws P w' raw s := ⟨h.1, fun i r p hr hp => (h.2 i r p hr hp).keep hs hc⟩
theorem Raws.below (h : Raws P w raw s) (hb : Below w.heap.size w w') : Raws P w' raw s := h.keep hb.size fun b hlt _ => hb.block b hlt
theorem Raws.mono (h : Raws P w raw s) (hpq : ∀ b, b < w.heap.size → P b → Q b) : Raws Q w raw s := ⟨h.1, fun i r p hr hp => (h.2 i r p hr hp).mono hpq⟩
theorem TabP.keep (h : TabP P w A c s) (hs : w.heap.size ≤ w'.heap.size) (hc : ∀ b, b < w.heap.size → P b → w'.heap[b]? = w.heap[b]?) : TabP P w' A c s := by
  obtain ⟨raw, h1, h2⟩ := h
  exact ⟨raw, h1.keep hs hc, h2.keep hs hc⟩
theorem TabP.below (h : TabP P w A c s) (hb : Below w.heap.size w w') : TabP P w' A c s := h.keep hb.size fun b hlt _ => hb.block b hlt
theorem TabP.grown {g : Nat} (h : TabP P w A c s) (hg : w.grownBy w' (some g)) (hne : ∀ b, P b → b ≠ g) : TabP P w' A c s := h.keep hg.size fun b hlt hp => hg.block b hlt (by intro e; injection e with e; exact hne b hp e)
theorem TabP.mono (h : TabP P w A c s) (hpq : ∀ b, b < w.heap.size → P b → Q b) : TabP Q w A c s := by
  obtain ⟨raw, h1, h2⟩ := h
  exact ⟨raw, h1.mono hpq, h2.mono hpq⟩
theorem TabP.alloc (h : TabP P w A c s) (o : Obj) : TabP P (w.alloc o) A c s := h.below ((Below.refl _ w).alloc (Nat.le_refl _) o)
theorem TabP.nil (A : Option Addr) (c : Nat) : TabP P w A c [] := ⟨[], SlP.nil A c, rfl, fun i r p h => by simp at h⟩
end
theorem cellsP {w W : World} {b off : Nat} {l : List PRaw} (hx : ∀ j x, l[j]? = some x → ∀ i v, (encP x)[i]? = some v → w.cell? ⟨b, off + j * 4 + i, none⟩ = some v) (hb : b < w.heap.size) (hW : Below w.heap.size w W) {j : Nat} {x : PRaw} (hj : l[j]? = some x) :
    W.cell? ⟨b, off + j * 4, none⟩ = some (.int .i64 x.id) ∧ W.cell? ⟨b, off + j * 4 + 1, none⟩ = some (.int .i64 x.epoch) ∧ W.cell? ⟨b, off + j * 4 + 2, none⟩ = some (.int .i64 x.next) ∧ W.cell? ⟨b, off + j * 4 + 3, none⟩ = some (.slice x.la x.ln x.lc) :=
  ⟨(hW.cell (p := ⟨_, _, none⟩) hb).trans (hx j x hj 0 _ rfl), (hW.cell (p := ⟨_, _, none⟩) hb).trans (hx j x hj 1 _ rfl), (hW.cell (p := ⟨_, _, none⟩) hb).trans (hx j x hj 2 _ rfl), (hW.cell (p := ⟨_, _, none⟩) hb).trans (hx j x hj 3 _ rfl)⟩

def inB (n : Int) : Bool := decide (0 ≤ n ∧ n ≤ 1099511627776)
theorem inB_yes {n : Int} (h : inN n) : inB n = true := decide_eq_true h
theorem inB_no {n : Int} (h : ¬ inN n) : inB n = false := decide_eq_false h
theorem in_any (n : Int) (w : World) : Calls Try.prog 28 #[.int .i64 n] w fun e w' => e = .returned (.bool (inB n)) ∧ w' = w := by
  by_cases h1 : 0 ≤ n
  · by_cases h2 : n ≤ 1099511627776
    · go_enter Try.func28, Try.ntmps28
      go_wp2
      go_ret
      exact ⟨by simp [inB, h1, h2], rfl⟩
    · go_enter Try.func28, Try.ntmps28
      go_wp2
      go_ret
      exact ⟨by simp [inB, h2]; try omega, rfl⟩
  · go_enter Try.func28, Try.ntmps28
    go_wp2
    go_ret
    exact ⟨ret_bool (by unfold inB; rw [decide_eq_false (by omega)]), rfl⟩

theorem find1_any (a b c : Int) (la : Option Addr) (ln lc : Nat) (q : Nat) (id : Int) (w : World) (h1 : w.cell? ⟨q, 0, none⟩ = some (.int .i64 id)) (hq : q < w.heap.size) :
    Calls Try.prog 42 #[.agg #[.int .i64 a, .int .i64 b, .int .i64 c, .slice la ln lc], .pointer (some ⟨q, 0, none⟩)] w fun x w' => x = .returned (.bool (a == id)) ∧ Below w.heap.size w w' := by
  go_enter Try.func42, Try.ntmps42
  go_wp2
  go_ret
  exact ⟨rfl, (Below.refl _ _).alloc (Nat.le_refl _) _⟩

/-- The first place of the id, and whether there is one. -/
def idxP (s : List PRaw) (id : Int) : Int := match s.findIdx? (fun r => r.id == id) with | some i => (i : Int) | none => -1
theorem idxP_cases (l : List PRaw) (id : Int) : (idxP l id = -1 ∧ ∀ x ∈ l, (x.id == id) = false) ∨ ∃ (i : Nat) (x : PRaw), idxP l id = i ∧ l[i]? = some x ∧ (x.id == id) = true ∧ ∀ y ∈ l.take i, (y.id == id) = false := by
  unfold idxP
  cases h : l.findIdx? (fun r => r.id == id) with
  | none => exact .inl ⟨rfl, List.findIdx?_eq_none_iff.1 h⟩
  | some i =>
    obtain ⟨hi, hp, hb⟩ := List.findIdx?_eq_some_iff_getElem.1 h
    refine .inr ⟨i, l[i], rfl, List.getElem?_eq_getElem hi, hp, fun y hy => ?_⟩
    obtain ⟨j, hj, rfl⟩ := List.mem_iff_getElem.1 hy
    simp only [List.length_take] at hj
    rw [List.getElem_take]
    simpa using hb j (by omega)
theorem idxP_hit (l : List PRaw) (id : Int) (k : Nat) (x : PRaw) (hx : l[k]? = some x) (h : (x.id == id) = true) (hb : ∀ (j : Nat) (y : PRaw), j < k → l[j]? = some y → (y.id == id) = false) : idxP l id = k := by
  have : l.findIdx? (fun r => r.id == id) = some k := by
    rw [List.findIdx?_eq_some_iff_getElem]
    obtain ⟨hk, rfl⟩ := List.getElem?_eq_some_iff.1 hx
    exact ⟨hk, h, fun j hj => by simp [hb j l[j] hj (List.getElem?_eq_getElem _)]⟩
  simp [idxP, this]
theorem idxP_miss (l : List PRaw) (id : Int) (hb : ∀ (j : Nat) (y : PRaw), l[j]? = some y → (y.id == id) = false) : idxP l id = -1 := by
  have : l.findIdx? (fun r => r.id == id) = none := by
    rw [List.findIdx?_eq_none_iff]
    intro x hx
    obtain ⟨j, hj, rfl⟩ := List.mem_iff_getElem.1 hx
    exact hb j _ (List.getElem?_eq_getElem hj)
  simp [idxP, this]

set_option maxHeartbeats 1000000 in
theorem indexP_any (q : Nat) (id : Int) (A : Option Addr) (n c : Nat) (l : List PRaw) (w : World) (hr : SlT 4 encP w A n c l) (hn : n ≤ 1000000) (hq : q < w.heap.size) (h1 : w.cell? ⟨q, 0, none⟩ = some (.int .i64 id)) :
    Calls Try.prog 41 #[.slice A n c, .func (.func 42) #[] #[.pointer (some ⟨q, 0, none⟩)]] w fun e w' => e = .returned (.int .i64 (idxP l id)) ∧ Below w.heap.size w w' := by
  have hl := hr.1
  rcases Nat.eq_zero_or_pos n with h0 | h0
  · subst h0
    obtain rfl : l = [] := List.eq_nil_of_length_eq_zero hl
    clear hr hl
    go_enter Try.func41, Try.ntmps41
    go_wp2
    refine wp_loop_rounds 1 ?_
    rw [rounds_succ]
    go_wp2
    go_ret
    exact ⟨rfl, Below.refl _ _⟩
  · obtain ⟨b, off, rfl, hb, hx⟩ := hr.2.2 h0
    have HX := Lib.hid hx
    have HL := Lib.hid hl
    have HQ1 := Lib.hid h1
    have eg : ∀ args w, (callFunc 42 args).run Try.prog w = .ok (.enter 42 args) w := fun _ _ => by kernel_rfl
    clear hr hl hx h1
    go_enter Try.func41, Try.ntmps41
    go_wp2
    go_loopg [5, 8] n (fun gg _ s8 wr => ∃ kk : Nat, kk ≤ n ∧ n - kk ≤ gg ∧ s8 = .int .i64 kk ∧ Hid (Below w.heap.size w wr) ∧ Hid (∀ j y, j < kk → l[j]? = some y → (y.id == id) = false))
    case atStart => exact ⟨0, Nat.zero_le _, by omega, rfl, Below.refl _ w, fun j y hj => absurd hj (Nat.not_lt_zero _)⟩
    case round =>
      obtain ⟨kk, hkk, hg, rfl, BW, A⟩ := hrel
      by_cases hlt : kk < n
      · have hltz : (kk : Int) < (n : Int) := by omega
        obtain ⟨x, hj⟩ : ∃ x, l[kk]? = some x := ⟨_, List.getElem?_eq_getElem (by rw [HL.out]; exact hlt)⟩
        obtain ⟨c0, c1, c2, c3⟩ := cellsP HX.out hb BW.out hj
        have HJ := Lib.hid hj
        have hqr : wr.cell? ⟨q, 0, none⟩ = some (.int .i64 id) := (BW.out.cell (p := ⟨q, 0, none⟩) hq).trans HQ1.out
        have hqw : q < wr.heap.size := Nat.lt_of_lt_of_le hq BW.out.size
        have HC : Hid (Calls Try.prog 42 #[.agg #[.int .i64 x.id, .int .i64 x.epoch, .int .i64 x.next, .slice x.la x.ln x.lc], .pointer (some ⟨q, 0, none⟩)] wr fun e w' => e = .returned (.bool (x.id == id)) ∧ Below wr.heap.size wr w') := find1_any x.id x.epoch x.next x.la x.ln x.lc q id wr hqr hqw
        clear hj hqr hqw
        cases hp : (x.id == id) with
        | true =>
          rw [hp] at HC
          have HP := Lib.hid hp
          clear hp
          go_wp2_with fail
          refine HC.out.mono ?_
          rintro e w' ⟨rfl, hb'⟩
          go_wp2
          go_ret
          refine ⟨?_, BW.out.trans (hb'.mono BW.out.size)⟩
          rw [idxP_hit l id kk x HJ.out HP.out A.out]
          rfl
        | false =>
          rw [hp] at HC
          have HP := Lib.hid hp
          clear hp
          go_wp2_with fail
          refine HC.out.mono ?_
          rintro e w' ⟨rfl, hb'⟩
          go_wp2
          go_roundg (n - (kk + 1))
          case measure => omega
          case rel =>
            refine ⟨kk + 1, by omega, by omega, by go_num, BW.out.trans (hb'.mono BW.out.size), (show Hid _ from fun j y hj hy => ?_)⟩
            by_cases e : j = kk
            · subst e
              have := HJ.out.symm.trans hy
              injection this with this
              rw [← this]
              exact HP.out
            · exact A.out j y (by omega) hy
      · have hltz : ¬ (kk : Int) < (n : Int) := by omega
        have : kk = n := by omega
        subst this
        go_wp2
        go_ret
        refine ⟨?_, BW.out⟩
        rw [idxP_miss l id (fun j y hy => A.out j y (by have := (List.getElem?_eq_some_iff.1 hy).1; have := HL.out; omega) hy)]
        rfl

/-- What find hands back. -/
def FindPost (P : Nat → Prop) (w : World) (s : List Prd) (id : Int) (e : Ending) (w' : World) : Prop :=
  ∃ r : PRaw, e = .returned (.tuple #[.agg #[.int .i64 r.id, .int .i64 r.epoch, .int .i64 r.next, .slice r.la r.ln r.lc], .bool (findP s id).isSome]) ∧ RawOk P w' r (getP s id) ∧ Below w.heap.size w w'
set_option maxHeartbeats 1000000 in
set_option maxRecDepth 100000 in
theorem find_any (P : Nat → Prop) (A : Option Addr) (c : Nat) (s : List Prd) (id : Int) (w : World) (hr : TabP P w A c s) (hn : s.length ≤ 1000000) :
    Calls Try.prog 27 #[.slice A s.length c, .int .i64 id] w (FindPost P w s id) := by
  obtain ⟨raw, hr1, hr2⟩ := hr
  have HR1 := Lib.hid hr1
  have HR2 := Lib.hid hr2
  clear hr1 hr2
  have hmf : ∀ (fn : Fn) (first cap : Array Value) (w : World), (Instr.makeFunc fn first cap).run Try.prog w = .ok (.func fn first cap) w := fun _ _ _ _ => rfl
  go_enter Try.func27, Try.ntmps27
  go_wp2_with fail
  refine (indexP_any w.heap.size id A s.length c raw _ ((HR1.out.1.alloc _).alloc _) hn (by simp; omega) (by simp)).mono ?_
  rintro e w1 ⟨rfl, hb1⟩
  obtain ⟨hc1, hf1⟩ := bcell hb1
  have hz : w.heap.size + 1 < w1.heap.size := by have := hb1.size; simp at this; omega
  have hz0 : w.heap.size < w1.heap.size := by omega
  have HBW := Lib.hid ((((Below.refl w.heap.size w).alloc (Nat.le_refl _) _).alloc (by simp) _).trans (hb1.mono (by simp; omega)))
  clear hb1 hmf
  rcases idxP_cases raw id with ⟨hi, hall⟩ | ⟨i, x, hi, hx, hp, hbef⟩
  · rw [hi]
    have HF : Hid (findP s id = none) := Lib.hid (by
      unfold findP
      rw [List.find?_eq_none]
      intro y hy hc
      obtain ⟨j, hj, rfl⟩ := List.mem_iff_getElem.1 hy
      have hj2 : j < raw.length := by rw [HR2.out.1]; exact hj
      have h1 := HR2.out.2 j _ _ (List.getElem?_eq_getElem hj2) (List.getElem?_eq_getElem hj)
      have h2 := hall _ (List.getElem_mem hj2)
      simp only [decide_eq_true_eq] at hc
      rw [h1.1, hc] at h2
      simp at h2)
    clear hi hall
    go_wp2
    refine bodyPost_ret (v := .tuple #[.agg #[.int .i64 id, .int .i64 0, .int .i64 0, .slice none 0 0], .bool false]) (by simp [results, Try.results27, go_sem, hc1, hz, hz0]) rfl ⟨⟨id, 0, 0, none, 0, 0⟩, ?_, ?_, ?_⟩
    · rw [HF.out]; rfl
    · unfold getP; rw [HF.out]; exact ⟨rfl, rfl, rfl, rfl, SlP.nil _ _⟩
    · iterate 4 (refine Below.setCell ?_ (by show w.heap.size ≤ w.heap.size + 1; omega) _)
      exact HBW.out
  · rw [hi]
    have hin : i < s.length := by have := (List.getElem?_eq_some_iff.1 hx).1; have := HR2.out.1; omega
    have hsi : s[i]? = some s[i] := List.getElem?_eq_getElem hin
    have HOK := Lib.hid (HR2.out.2 i x _ hx hsi)
    have HF : Hid (findP s id = some s[i]) := Lib.hid (by
      unfold findP
      have h1 : s = s.take i ++ s[i] :: s.drop (i + 1) := by rw [← List.drop_eq_getElem_cons hin, List.take_append_drop]
      have h2 : (s.take i).find? (fun p => decide (p.id = id)) = none := by
        rw [List.find?_eq_none]
        intro y hy hc
        obtain ⟨j, hj, rfl⟩ := List.mem_iff_getElem.1 hy
        simp only [List.length_take] at hj
        have hj1 : j < s.length := by omega
        have hj2 : j < raw.length := by rw [HR2.out.1]; omega
        have q1 := HR2.out.2 j _ _ (List.getElem?_eq_getElem hj2) (List.getElem?_eq_getElem hj1)
        have q2 := hbef (raw[j]) (by rw [List.mem_iff_getElem]; exact ⟨j, by simp only [List.length_take]; omega, List.getElem_take⟩)
        rw [List.getElem_take] at hc
        simp only [decide_eq_true_eq] at hc
        rw [q1.1, hc] at q2
        simp at q2
      have h3 : s.find? (fun p => decide (p.id = id)) = (s.take i ++ s[i] :: s.drop (i + 1)).find? (fun p => decide (p.id = id)) := congrArg _ h1
      rw [h3, List.find?_append, h2, List.find?_cons]
      have h4 : decide (s[i].id = id) = true := by
        have := HOK.out.1
        simp only [beq_iff_eq] at hp
        exact decide_eq_true (by omega)
      rw [h4]
      rfl)
    obtain ⟨b, off, rfl, hb, hcells⟩ := HR1.out.1.2.2 (by omega)
    obtain ⟨c0, c1, c2, c3⟩ := cellsP hcells hb HBW.out hx
    have hib : (i : Int) < (s.length : Int) := by omega
    have hne : ¬ ((i : Int) < 0) := by omega
    have hbw : b < w1.heap.size := Nat.lt_of_lt_of_le hb HBW.out.size
    generalize hpp : s[i] = p at HOK HF
    clear hi hx hp hbef hcells hsi hpp
    go_wp2
    refine bodyPost_ret (v := .tuple #[.agg #[.int .i64 x.id, .int .i64 x.epoch, .int .i64 x.next, .slice x.la x.ln x.lc], .bool true]) (by simp [results, Try.results27, go_sem, hc1, hz, hz0]) rfl ⟨x, ?_, ?_, ?_⟩
    · rw [HF.out]; rfl
    · unfold getP
      rw [HF.out]
      refine RawOk.below (w := w) HOK.out ?_
      iterate 4 (refine Below.setCell ?_ (by show w.heap.size ≤ w.heap.size + 1; omega) _)
      exact HBW.out
    · iterate 4 (refine Below.setCell ?_ (by show w.heap.size ≤ w.heap.size + 1; omega) _)
      exact HBW.out
end Go.Proofs.Ytghciaaedjomjaa
