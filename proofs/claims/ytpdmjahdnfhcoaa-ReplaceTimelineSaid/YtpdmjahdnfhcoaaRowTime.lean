/- ReplaceTimeline holds of every input: the call returns true, and each argument reads as it read before. -/
import Derived.Test.YtpdmjahdnfhcoaaRowKit
import Derived.Test.YtpdmjahdnfhcoaaLawTime
namespace Go.Proofs.Ytpdmjahdnfhcoaa
open Go.RowKit Go.ChangeShapes Go.WideShapes Go.Deep Go.ChangeAt

theorem open_intl {H : Type} {enc : TypeId × Value → H} {w : World} {base : Nat} {spare : Nat → Bool} {held : Bool} {A : Option Addr} {n c : Nat} {d : DataW H} {p : List MemPlace}
    (h : DataW.Trod enc Try.prog w base spare held 41 (.slice A n c) d p) : ∃ l : List Int, l.length = n ∧ SlT 1 encI w A n c l := by
  obtain ⟨fuel, hf⟩ := h
  rcases open_ints Try.underlying41 Try.underlying3 (by kernel_rfl) hf with ⟨hcs, _⟩ | ⟨x, l, c', zs, hcs, _, hl, _, hz, _, hc, _⟩
  · simp only [Value.cells] at hcs
    injection hcs with h0
    injection h0 with h1 h2 h3
    subst h1 h2 h3
    exact ⟨[], rfl, SlT.nil _ _⟩
  · simp only [Value.cells] at hcs
    injection hcs with h0
    injection h0 with h1 h2 h3
    subst h1 h2 h3
    obtain ⟨m, hm⟩ := sl_of_open encI_len (by decide) x n c hl (w := w) (fun i hi => ⟨zs.getD i 0, fun j v hv => by
      match j, hv with
      | 0, hv =>
        injection hv with hv
        subst hv
        simpa using hc i (by split at hz <;> omega)
      | j + 1, hv => simp [encI] at hv⟩)
    exact ⟨m, hm.1, hm⟩

set_option maxRecDepth 100000 in
theorem time_lifted (os : Os) (started : os.Started) (H : Type) (enc : TypeId × Value → H) :
    ReturnsInHanded {} Try.checked os 5 .any (Rows.replaceTimelineSpec.pre6 enc Try.prog Try.f5 Rows.replaceTimelineRow.domain false) (Rows.replaceTimelineSpec.post enc Try.prog Try.f5 false true false false) := by
  refine returnsInHanded_of_change_sized (C := Try.checked) own started (by kernel_rfl) Try.func5
    (ChangeSpec.witness6 (enc := enc) (C := Try.checked) false ⟨#[], #[.slice none 0 0, .slice none 0 0], []⟩ 8 (by kernel_rfl) (by kernel_rfl) (by kernel_rfl) (by kernel_rfl)) ?_
  intro W base args ds gs before hval0 hW hcnd hsz0 _
  have hval : ∀ (j : Nat) t v, Try.f5.params[j]? = some t → args[j]? = some v → Value.okWide Try.prog W .any base t v := hval0
  have hW' := hW
  obtain ⟨p, q, hA0, hV, rfl, hfz, hnd⟩ := hW
  have hA : DataW.TrodAll enc Try.prog W 0 (fun _ => true) true Try.f5.params.toList args.toList ds p := hA0
  rw [Try.params5] at hA hval
  obtain ⟨v0, vs0, d0, ds0, p0, q0, hargs, rfl, rfl, h0, r0⟩ := trodAll_cons hA
  obtain ⟨v1, vs1, d1, ds1, p1, q1, rfl, rfl, rfl, h1, r1⟩ := trodAll_cons r0
  obtain ⟨rfl, rfl, rfl⟩ := trodAll_nil r1
  obtain rfl : args = #[v0, v1] := by cases args; simp_all
  obtain ⟨rfl, rfl⟩ := trodVars_none hV
  obtain ⟨a0, len0, cap0, rfl⟩ := okWide_slice Try.underlying22 (hval 0 22 v0 rfl rfl)
  have k0 := h0
  have lt0 : ∀ x ∈ p0, x.block < W.heap.size := by obtain ⟨m, hm⟩ := k0; exact DataW.trod_lt m _ _ _ hm
  obtain ⟨ops, hlen, hops⟩ := open_ops h0
  obtain ⟨a1, len1, cap1, rfl⟩ := okWide_slice Try.underlying41 (hval 1 41 v1 rfl rfl)
  have k1 := h1
  have lt1 : ∀ x ∈ p1, x.block < W.heap.size := by obtain ⟨m, hm⟩ := k1; exact DataW.trod_lt m _ _ _ hm
  obtain ⟨times, hlen1, htimes⟩ := open_intl h1
  clear hA0 hval0 hsz0
  subst hlen hlen1
  refine (time_any a0 cap0 ops a1 cap1 times W hops htimes).mono fun e W' ⟨he, bel⟩ => ?_
  subst he
  exact ⟨_, rfl, _, _, _, [], _, [], hW', trodAll_mk1 (shut_bool Try.underlying4 _),
    trodAll_cons_mk (Below.trod laidOut (by kernel_rfl) (of_decide_eq_true (by kernel_rfl)) k0 bel lt0) (trodAll_mk1 (Below.trod laidOut (by kernel_rfl) (of_decide_eq_true (by kernel_rfl)) k1 bel lt1)),
    rfl, bel.frame _, fun h => by cases h⟩
theorem replaceTimeline_holds : Rows.ReplaceTimelineSaid :=
  OpenClaim.holds_of_wide 5 Try.f5 rfl rfl rfl rfl rfl rfl rfl ⟨rfl, rfl, rfl, rfl, rfl⟩ rfl rfl rfl rfl rfl (by kernel_rfl) Try.func5 (by kernel_rfl)
    (of_decide_eq_true (by kernel_rfl)) (by unfold Func.isWrapper; first | (rw [if_pos (by decide +kernel)]; kernel_rfl) | (rw [if_neg (by decide +kernel)]; exact ⟨rfl, rfl⟩))
    (fun os started H enc _ => time_lifted os started H enc)
#print axioms replaceTimeline_holds
end Go.Proofs.Ytpdmjahdnfhcoaa
