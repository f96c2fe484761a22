/- ProducerOnce holds of every input: the call returns true, and the argument reads as it read before. -/
import Derived.Test.YtghciaaedjomjaaLawOnce
import Derived.Test.YtghciaaedjomjaaOpen
namespace Go.Proofs.Ytghciaaedjomjaa
open Go.RowKit Go.ChangeShapes Go.WideShapes Go.Deep Go.ChangeAt

theorem own : ownKnob Try.prog.godebug = none := by kernel_rfl
theorem laidOut : laidOutB Try.prog = true := by kernel_rfl
theorem open_pops {H : Type} {enc : TypeId × Value → H} {w : World} {base : Nat} {spare : Nat → Bool} {held : Bool} {A : Option Addr} {n c : Nat} {d : DataW H} {p : List MemPlace}
    (h : DataW.Trod enc Try.prog w base spare held 22 (.slice A n c) d p) : ∃ l : List POp, l.length = n ∧ SlT 5 encQ w A n c l := by
  obtain ⟨fuel, hf⟩ := h
  rcases open_slice_fields Try.underlying22 Try.underlying28 (by kernel_rfl) (by kernel_rfl) hf with h0 | ⟨a, len, cap, hcs, hl, hm, hi⟩
  · simp only [Value.cells] at h0
    injection h0 with h0
    injection h0 with h1 h2 h3
    subst h1 h2 h3
    exact ⟨[], rfl, SlT.nil _ _⟩
  · simp only [Value.cells] at hcs
    injection hcs with hcs
    injection hcs with h1 h2 h3
    subst h1 h2 h3
    obtain ⟨l, hl'⟩ := sl_of_open encQ_len (by decide) a n c hl (w := w) (fun i him => by
      obtain ⟨m, hf⟩ := hi i him
      obtain ⟨v0, y0, c0, t0⟩ := hf 0 _ rfl
      obtain ⟨v1, y1, c1, t1⟩ := hf 1 _ rfl
      obtain ⟨v2, y2, c2, t2⟩ := hf 2 _ rfl
      obtain ⟨v3, y3, c3, t3⟩ := hf 3 _ rfl
      obtain ⟨v4, y4, c4, t4⟩ := hf 4 _ rfl
      obtain ⟨n0, e0, -, -⟩ := DataW.trod_int Try.underlying3 t0
      obtain ⟨n1, e1, -, -⟩ := DataW.trod_int Try.underlying3 t1
      obtain ⟨n2, e2, -, -⟩ := DataW.trod_int Try.underlying3 t2
      obtain ⟨n3, e3, -, -⟩ := DataW.trod_int Try.underlying3 t3
      obtain ⟨n4, e4, -, -⟩ := DataW.trod_int Try.underlying3 t4
      injection e0 with e0; injection e1 with e1; injection e2 with e2; injection e3 with e3; injection e4 with e4
      subst e0 e1 e2 e3 e4
      refine ⟨⟨n0, n1, n2, n3, n4⟩, fun j v hv => ?_⟩
      match j, hv with
      | 0, hv => injection hv with hv; subst hv; exact c0
      | 1, hv => injection hv with hv; subst hv; exact c1
      | 2, hv => injection hv with hv; subst hv; exact c2
      | 3, hv => injection hv with hv; subst hv; exact c3
      | 4, hv => injection hv with hv; subst hv; exact c4
      | j + 5, hv => simp [encQ] at hv)
    exact ⟨l, hl'.1, hl'⟩

set_option maxRecDepth 100000 in
theorem once_lifted (os : Os) (started : os.Started) (H : Type) (enc : TypeId × Value → H) :
    ReturnsInHanded {} Try.checked os 3 .any (Rows.producerOnceSpec.pre6 enc Try.prog Try.f3 Rows.producerOnceRow.domain false) (Rows.producerOnceSpec.post enc Try.prog Try.f3 false true false false) := by
  refine returnsInHanded_of_change_sized (C := Try.checked) own started (by kernel_rfl) Try.func3
    (ChangeSpec.witness6 (enc := enc) (C := Try.checked) false ⟨#[], #[.slice none 0 0], []⟩ 8 (by kernel_rfl) (by kernel_rfl) (by kernel_rfl) (by kernel_rfl)) ?_
  intro W base args ds gs before hval0 hW hcnd hsz0 _
  have hval : ∀ (j : Nat) t v, Try.f3.params[j]? = some t → args[j]? = some v → Value.okWide Try.prog W .any base t v := hval0
  have hW' := hW
  obtain ⟨p, q, hA0, hV, rfl, hfz, hnd⟩ := hW
  have hA : DataW.TrodAll enc Try.prog W 0 (fun _ => true) true Try.f3.params.toList args.toList ds p := hA0
  rw [Try.params3] at hA hval
  obtain ⟨v0, vs0, d0, ds0, p0, q0, hargs, rfl, rfl, h0, r0⟩ := trodAll_cons hA
  obtain ⟨rfl, rfl, rfl⟩ := trodAll_nil r0
  obtain rfl : args = #[v0] := by cases args; simp_all
  obtain ⟨rfl, rfl⟩ := trodVars_none hV
  obtain ⟨a0, len0, cap0, rfl⟩ := okWide_slice Try.underlying22 (hval 0 22 v0 rfl rfl)
  have k0 := h0
  have lt0 : ∀ x ∈ p0, x.block < W.heap.size := by obtain ⟨m, hm⟩ := k0; exact DataW.trod_lt m _ _ _ hm
  obtain ⟨ops, hlen, hops⟩ := open_pops h0
  clear hA0 hval0 hsz0
  subst hlen
  refine (once_any a0 cap0 ops W hops).mono fun e W' ⟨he, bel⟩ => ?_
  subst he
  exact ⟨_, rfl, _, _, _, [], _, [], hW', trodAll_mk1 (shut_bool Try.underlying4 _),
    trodAll_mk1 (Below.trod laidOut (by kernel_rfl) (of_decide_eq_true (by kernel_rfl)) k0 bel lt0),
    rfl, bel.frame _, fun h => by cases h⟩
theorem producerOnce_holds : Rows.ProducerOnceSaid :=
  OpenClaim.holds_of_wide 3 Try.f3 rfl rfl rfl rfl rfl rfl rfl ⟨rfl, rfl, rfl, rfl, rfl⟩ rfl rfl rfl rfl rfl (by kernel_rfl) Try.func3 (by kernel_rfl)
    (of_decide_eq_true (by kernel_rfl)) (by unfold Func.isWrapper; first | (rw [if_pos (by decide +kernel)]; kernel_rfl) | (rw [if_neg (by decide +kernel)]; exact ⟨rfl, rfl⟩))
    (fun os started H enc _ => once_lifted os started H enc)
#print axioms producerOnce_holds
end Go.Proofs.Ytghciaaedjomjaa
