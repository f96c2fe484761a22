/- law 42: its arguments, from the form's reading to the words of the walks. -/
import Derived.Test.YtmdjcljgbagehaaRigA
import Derived.Test.YtmdjcljgbagehaaOpen
import Derived.ChangeArms
import Derived.WalkArith
namespace Go.Proofs.Ytmdjcljgbagehaa
open Go.RowKit Go.ChangeShapes Go.WideShapes Go.Deep Go.ChangeAt

theorem w64_wf {n : Int} (h : (Lit.int .i64 n).wf = true) : w64 n = n := by
  simp [Lit.wf, IntKind.min, IntKind.max, IntKind.signed, IntKind.bits] at h
  rw [w64_eq]
  omega
section
variable {H : Type} {enc : TypeId × Value → H} {w : World} {base : Nat} {spare : Nat → Bool} {held : Bool}
theorem sl_of_list' {α : Type} {k : Nat} {en : α → List Value} {w : World} (hk : ∀ x, (en x).length = k) (hk0 : 0 < k) (a : Addr) (n c : Nat) (hc : n ≤ c) (l : List α) (hl : l.length = n) (hp : ∀ (i : Nat) (x : α), l[i]? = some x → ∀ (j : Nat) (v : Value), (en x)[j]? = some v → w.cell? (a.add (i * k + j)) = some v) : SlT k en w (some a) n c l := by
  refine ⟨hl, hc, fun hn => ?_⟩
  have hk1 : 0 < (en (l[0]'(by omega))).length := by rw [hk]; exact hk0
  have h0 := hp 0 (l[0]'(by omega)) (List.getElem?_eq_getElem (by omega)) 0 ((en (l[0]'(by omega)))[0]) (List.getElem?_eq_getElem hk1)
  simp only [Nat.zero_mul, Nat.add_zero] at h0
  have ha : a.add 0 = a := by simp [Addr.add]
  rw [ha] at h0
  have hsp : a.spot = none := by
    cases hs : a.spot with
    | none => rfl
    | some z =>
      simp only [World.cell?, hs] at h0
      split at h0 <;> simp at h0
  obtain ⟨b, off, sp⟩ := a
  simp only at hsp
  subst hsp
  exact ⟨b, off, rfl, World.block_lt_of_cell? w _ h0, fun j x hj i v hv => by
    have := hp j x hj i v hv
    rw [Addr.add_lit, ← Nat.add_assoc] at this
    exact this⟩
theorem open_vals {n : Nat} {v : Value} {y : DataW H × List MemPlace} (h : DataW.trod enc Try.prog w base spare held n 30 [v] = some y) : ∃ (A : Option Addr) (n c : Nat) (l : List VVal), v = .slice A n c ∧ SlT 3 encV w A n c l := by
  rcases open_slice_fields Try.underlying30 Try.underlying48 (by kernel_rfl) (by kernel_rfl) h with h0 | ⟨a, len, cap, hcs, hl, hm, hi⟩
  · injection h0 with h0
    exact ⟨none, 0, 0, [], h0, SlT.nil _ _⟩
  · injection hcs with hcs
    obtain ⟨l, hl'⟩ := sl_of_open encV_len (by decide) a len cap hl (w := w) (fun i him => by
      obtain ⟨m, hf⟩ := hi i him
      obtain ⟨v0, y0, c0, t0⟩ := hf 0 _ rfl
      obtain ⟨v1, y1, c1, t1⟩ := hf 1 _ rfl
      obtain ⟨v2, y2, c2, t2⟩ := hf 2 _ rfl
      obtain ⟨n0, e0, -, -⟩ := DataW.trod_int Try.underlying3 t0
      obtain ⟨n1, e1, -, -⟩ := DataW.trod_int Try.underlying3 t1
      obtain ⟨s2, e2, -, -⟩ := DataW.trod_string Try.underlying9 t2
      injection e0 with e0; injection e1 with e1; injection e2 with e2
      subst e0 e1 e2
      refine ⟨⟨n0, n1, s2⟩, fun j v hv => ?_⟩
      match j, hv with
      | 0, hv => injection hv with hv; subst hv; exact c0
      | 1, hv => injection hv with hv; subst hv; exact c1
      | 2, hv => injection hv with hv; subst hv; exact c2
      | j + 3, hv => simp [encV] at hv)
    exact ⟨some a, len, cap, l, hcs, hl'⟩
theorem open_dels {A : Option Addr} {n c : Nat} {d : DataW H} {p : List MemPlace}
    (h : DataW.Trod enc Try.prog w base spare held 22 (.slice A n c) d p) : ∃ l : List Dl, l.length = n ∧ DlIn w A c l := by
  obtain ⟨fuel, hf⟩ := h
  rcases open_slice_fields Try.underlying22 Try.underlying38 (by kernel_rfl) (by kernel_rfl) hf with h0 | ⟨a, len, cap, hcs, hl, hm, hi⟩
  · simp only [Value.cells] at h0
    injection h0 with h0
    injection h0 with h1 h2 h3
    subst h1 h2 h3
    exact ⟨[], rfl, SlT.nil _ _, by simp⟩
  · simp only [Value.cells] at hcs
    injection hcs with hcs
    injection hcs with h1 h2 h3
    subst h1 h2 h3
    obtain ⟨l, hll, hlp⟩ := list_of (α := Dl) (fun i x => (∀ (j : Nat) (v : Value), (encD x)[j]? = some v → w.cell? (a.add (i * 3 + j)) = some v) ∧ SlT 3 encV w x.ra x.rn x.rc x.vs ∧ w64 x.n = x.n) n (fun i him => by
      obtain ⟨m, hf⟩ := hi i him
      obtain ⟨v0, y0, c0, t0⟩ := hf 0 _ rfl
      obtain ⟨v1, y1, c1, t1⟩ := hf 1 _ rfl
      obtain ⟨v2, y2, c2, t2⟩ := hf 2 _ rfl
      obtain ⟨n0, e0, -, -⟩ := DataW.trod_int Try.underlying3 t0
      obtain ⟨ra, rn, rc, vs, e1, hsl⟩ := open_vals t1
      obtain ⟨n2, e2, -, hw⟩ := DataW.trod_int Try.underlying3 t2
      injection e0 with e0; injection e2 with e2
      subst e0 e1 e2
      refine ⟨⟨n0, ra, rn, rc, n2, vs⟩, fun j v hv => ?_, hsl, w64_wf hw⟩
      match j, hv with
      | 0, hv => injection hv with hv; subst hv; exact c0
      | 1, hv => injection hv with hv; subst hv; exact c1
      | 2, hv => injection hv with hv; subst hv; exact c2
      | j + 3, hv => simp [encD] at hv)
    subst hll
    refine ⟨l, rfl, sl_of_list' encD_len (by decide) a _ _ hl l rfl (fun i x hx => (hlp i x hx).1), fun x hx => ?_⟩
    obtain ⟨i, hi⟩ := List.getElem?_of_mem hx
    exact (hlp i x hi).2
end
theorem own : ownKnob Try.prog.godebug = none := by kernel_rfl
theorem laidOut : laidOutB Try.prog = true := by kernel_rfl
end Go.Proofs.Ytmdjcljgbagehaa
