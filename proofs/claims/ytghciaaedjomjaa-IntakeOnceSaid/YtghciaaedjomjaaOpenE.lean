/- law 11: its arguments, from the form's reading to the words of the walks. -/
import Derived.Test.YtghciaaedjomjaaItkK
import Derived.Test.YtghciaaedjomjaaOpen
import Derived.ChangeArms
namespace Go.Proofs.Ytghciaaedjomjaa
open Go.RowKit Go.ChangeShapes Go.WideShapes Go.Deep Go.ChangeAt

section
variable {H : Type} {enc : TypeId × Value → H} {w : World} {base : Nat} {spare : Nat → Bool} {held : Bool}
theorem sl_of_list' {α : Type} {k : Nat} {en : α → List Value} {w : World} (hk : ∀ x, (en x).length = k) (hk0 : 0 < k) (a : Addr) (n c : Nat) (hc : n ≤ c) (l : List α) (hl : l.length = n) (hp : ∀ (i : Nat) (x : α), l[i]? = some x → ∀ (j : Nat) (v : Value), (en x)[j]? = some v → w.cell? (a.add (i * k + j)) = some v) : SlT k en w (some a) n c l := by
  refine ⟨hl, hc, fun hn => ?_⟩
  have hk1 : 0 < (en (l[0]'(by omega))).length := by rw [hk]; exact hk0
  have h0 := hp 0 (l[0]'(by omega)) (List.getElem?_eq_getElem (by omega)) 0 ((en (l[0]'(by omega)))[0]) (List.getElem?_eq_getElem hk1)
  simp only [Nat.zero_mul, Nat.add_zero] at h0
  have ha : a.add 0 = a := by simp [Addr.add]
  rw [ha] at h0
  have hsp : a.spot = none := by
    cases hs : a.spot with
    | none => rfl
    | some z =>
      simp only [World.cell?, hs] at h0
      split at h0 <;> simp at h0
  obtain ⟨b, off, sp⟩ := a
  simp only at hsp
  subst hsp
  exact ⟨b, off, rfl, World.block_lt_of_cell? w _ h0, fun j x hj i v hv => by
    have := hp j x hj i v hv
    rw [Addr.add_lit, ← Nat.add_assoc] at this
    exact this⟩
theorem open_vals {n : Nat} {v : Value} {y : DataW H × List MemPlace} (h : DataW.trod enc Try.prog w base spare held n 34 [v] = some y) : ∃ (A : Option Addr) (n c : Nat) (l : List VVal), v = .slice A n c ∧ SlT 3 encV w A n c l := by
  rcases open_slice_fields Try.underlying34 Try.underlying77 (by kernel_rfl) (by kernel_rfl) h with h0 | ⟨a, len, cap, hcs, hl, hm, hi⟩
  · injection h0 with h0
    exact ⟨none, 0, 0, [], h0, SlT.nil _ _⟩
  · injection hcs with hcs
    obtain ⟨l, hl'⟩ := sl_of_open encV_len (by decide) a len cap hl (w := w) (fun i him => by
      obtain ⟨m, hf⟩ := hi i him
      obtain ⟨v0, y0, c0, t0⟩ := hf 0 _ rfl
      obtain ⟨v1, y1, c1, t1⟩ := hf 1 _ rfl
      obtain ⟨v2, y2, c2, t2⟩ := hf 2 _ rfl
      obtain ⟨n0, e0, -, -⟩ := DataW.trod_int Try.underlying3 t0
      obtain ⟨n1, e1, -, -⟩ := DataW.trod_int Try.underlying3 t1
      obtain ⟨s2, e2, -, -⟩ := DataW.trod_string Try.underlying9 t2
      injection e0 with e0; injection e1 with e1; injection e2 with e2
      subst e0 e1 e2
      refine ⟨⟨n0, n1, s2⟩, fun j v hv => ?_⟩
      match j, hv with
      | 0, hv => injection hv with hv; subst hv; exact c0
      | 1, hv => injection hv with hv; subst hv; exact c1
      | 2, hv => injection hv with hv; subst hv; exact c2
      | j + 3, hv => simp [encV] at hv)
    exact ⟨some a, len, cap, l, hcs, hl'⟩
theorem open_ents {A : Option Addr} {n c : Nat} {d : DataW H} {p : List MemPlace}
    (h : DataW.Trod enc Try.prog w base spare held 46 (.slice A n c) d p) : ∃ l : List Ent, l.length = n ∧ l.length ≤ maxLen ∧ EntAt w A c l := by
  obtain ⟨fuel, hf⟩ := h
  rcases open_slice_fields Try.underlying46 Try.underlying36 (by kernel_rfl) (by kernel_rfl) hf with h0 | ⟨a, len, cap, hcs, hl, hm, hi⟩
  · simp only [Value.cells] at h0
    injection h0 with h0
    injection h0 with h1 h2 h3
    subst h1 h2 h3
    exact ⟨[], rfl, Nat.zero_le _, SlT.nil _ _, by simp⟩
  · simp only [Value.cells] at hcs
    injection hcs with hcs
    injection hcs with h1 h2 h3
    subst h1 h2 h3
    obtain ⟨l, hll, hlp⟩ := list_of (α := Ent) (fun i x => (∀ (j : Nat) (v : Value), (encE x)[j]? = some v → w.cell? (a.add (i * 8 + j)) = some v) ∧ SlT 3 encV w x.r.ra x.r.rn x.r.rc x.vs) n (fun i him => by
      obtain ⟨m, hf⟩ := hi i him
      obtain ⟨v0, y0, c0, t0⟩ := hf 0 _ rfl
      obtain ⟨v1, y1, c1, t1⟩ := hf 1 _ rfl
      obtain ⟨v2, y2, c2, t2⟩ := hf 2 _ rfl
      obtain ⟨v3, y3, c3, t3⟩ := hf 3 _ rfl
      obtain ⟨v4, y4, c4, t4⟩ := hf 4 _ rfl
      obtain ⟨v5, y5, c5, t5⟩ := hf 5 _ rfl
      obtain ⟨v6, y6, c6, t6⟩ := hf 6 _ rfl
      obtain ⟨v7, y7, c7, t7⟩ := hf 7 _ rfl
      obtain ⟨n0, e0, -, -⟩ := DataW.trod_int Try.underlying3 t0
      obtain ⟨n1, e1, -, -⟩ := DataW.trod_int Try.underlying3 t1
      obtain ⟨n2, e2, -, -⟩ := DataW.trod_int Try.underlying3 t2
      obtain ⟨n3, e3, -, -⟩ := DataW.trod_int Try.underlying3 t3
      obtain ⟨s4, e4, -, -⟩ := DataW.trod_string Try.underlying9 t4
      obtain ⟨n5, e5, -, -⟩ := DataW.trod_int Try.underlying3 t5
      obtain ⟨n6, e6, -, -⟩ := DataW.trod_int Try.underlying3 t6
      obtain ⟨ra, rn, rc, vs, e7, hsl⟩ := open_vals t7
      injection e0 with e0; injection e1 with e1; injection e2 with e2; injection e3 with e3; injection e4 with e4; injection e5 with e5; injection e6 with e6
      subst e0 e1 e2 e3 e4 e5 e6 e7
      refine ⟨⟨⟨n0, n1, n2, n3, s4, n5, n6, ra, rn, rc⟩, vs⟩, fun j v hv => ?_, hsl⟩
      match j, hv with
      | 0, hv => injection hv with hv; subst hv; exact c0
      | 1, hv => injection hv with hv; subst hv; exact c1
      | 2, hv => injection hv with hv; subst hv; exact c2
      | 3, hv => injection hv with hv; subst hv; exact c3
      | 4, hv => injection hv with hv; subst hv; exact c4
      | 5, hv => injection hv with hv; subst hv; exact c5
      | 6, hv => injection hv with hv; subst hv; exact c6
      | 7, hv => injection hv with hv; subst hv; exact c7
      | j + 8, hv => simp [encE] at hv)
    subst hll
    refine ⟨l, rfl, by omega, sl_of_list' encE_len (by decide) a _ _ hl l rfl (fun i x hx => (hlp i x hx).1), fun x hx => ?_⟩
    obtain ⟨i, hi⟩ := List.getElem?_of_mem hx
    exact (hlp i x hi).2
set_option maxRecDepth 100000 in
theorem open_cfg {r : Reach} {b0 : Nat} {v : Value} {d : DataW H} {p : List MemPlace} (hv : Value.okWide Try.prog w r b0 45 v) (h : DataW.Trod enc Try.prog w base spare held 45 v d p) :
    ∃ c : Cfg, v = .agg #[.int .i64 c.parts, .int .i64 c.delay, .int .i64 c.late, .int .i64 c.ahead, .int .i64 c.rate, .int .i64 c.span] := by
  have hs := Try.underlying45
  obtain ⟨cs, rfl, hsz⟩ := okWide_struct hs hv
  have hC : Try.prog.cellsOf 45 = 6 := by kernel_rfl
  obtain ⟨l⟩ := cs
  match l, hsz.trans hC with
  | [c0, c1, c2, c3, c4, c5], _ =>
    obtain ⟨fuel, hf⟩ := h
    obtain ⟨xs, n, _, hx, _, hlen, hg⟩ := DataW.trod_struct hs hf
    have hci : Try.prog.cellsOf 3 = 1 := by kernel_rfl
    have key : ∀ (c : Value) (y : DataW H × List MemPlace), DataW.trod enc Try.prog w base spare held n 3 [c] = some y → ∃ m : Int, c = .int .i64 m := fun c y ht => by
      obtain ⟨m, e, -, -⟩ := DataW.trod_int Try.underlying3 ht
      injection e with e
      exact ⟨m, e⟩
    match xs, hlen with
    | [y0, y1, y2, y3, y4, y5], _ =>
      obtain ⟨m0, rfl⟩ := key c0 y0 (by have := hg 0 _ rfl; simpa [Value.cells, hci] using this)
      obtain ⟨m1, rfl⟩ := key c1 y1 (by have := hg 1 _ rfl; simpa [Value.cells, hci] using this)
      obtain ⟨m2, rfl⟩ := key c2 y2 (by have := hg 2 _ rfl; simpa [Value.cells, hci] using this)
      obtain ⟨m3, rfl⟩ := key c3 y3 (by have := hg 3 _ rfl; simpa [Value.cells, hci] using this)
      obtain ⟨m4, rfl⟩ := key c4 y4 (by have := hg 4 _ rfl; simpa [Value.cells, hci] using this)
      obtain ⟨m5, rfl⟩ := key c5 y5 (by have := hg 5 _ rfl; simpa [Value.cells, hci] using this)
      exact ⟨⟨m0, m1, m2, m3, m4, m5⟩, rfl⟩
end
theorem own : ownKnob Try.prog.godebug = none := by kernel_rfl
theorem laidOut : laidOutB Try.prog = true := by kernel_rfl
end Go.Proofs.Ytghciaaedjomjaa
