/- ProducerApart holds of every input: the call returns true, and the arguments read as they read before. -/
import Derived.Test.YtghciaaedjomjaaLawApart
import Derived.Test.YtghciaaedjomjaaOpen
import Derived.ChangeArms
namespace Go.Proofs.Ytghciaaedjomjaa
open Go.RowKit Go.ChangeShapes Go.WideShapes Go.Deep Go.ChangeAt

theorem own : ownKnob Try.prog.godebug = none := by kernel_rfl
theorem laidOut : laidOutB Try.prog = true := by kernel_rfl
theorem sl_of_list {α : Type} {k : Nat} {en : α → List Value} {w : World} (hk : ∀ x, (en x).length = k) (hk0 : 0 < k) (a : Addr) (n c : Nat) (hc : n ≤ c) (l : List α) (hl : l.length = n) (hp : ∀ (i : Nat) (x : α), l[i]? = some x → ∀ (j : Nat) (v : Value), (en x)[j]? = some v → w.cell? (a.add (i * k + j)) = some v) : SlT k en w (some a) n c l := by
  refine ⟨hl, hc, fun hn => ?_⟩
  have hk1 : 0 < (en (l[0]'(by omega))).length := by rw [hk]; exact hk0
  have h0 := hp 0 (l[0]'(by omega)) (List.getElem?_eq_getElem (by omega)) 0 ((en (l[0]'(by omega)))[0]) (List.getElem?_eq_getElem hk1)
  simp only [Nat.zero_mul, Nat.add_zero] at h0
  have ha : a.add 0 = a := by simp [Addr.add]
  rw [ha] at h0
  have hsp : a.spot = none := by
    cases hs : a.spot with
    | none => rfl
    | some z =>
      simp only [World.cell?, hs] at h0
      split at h0 <;> simp at h0
  obtain ⟨b, off, sp⟩ := a
  simp only at hsp
  subst hsp
  exact ⟨b, off, rfl, World.block_lt_of_cell? w _ h0, fun j x hj i v hv => by
    have := hp j x hj i v hv
    rw [Addr.add_lit, ← Nat.add_assoc] at this
    exact this⟩
section
variable {H : Type} {enc : TypeId × Value → H} {w : World} {base : Nat} {spare : Nat → Bool} {held : Bool}
theorem open_ilist {n : Nat} {v : Value} {y : DataW H × List MemPlace} (h : DataW.trod enc Try.prog w base spare held n 26 [v] = some y) : ∃ (A : Option Addr) (n c : Nat) (l : List Int), v = .slice A n c ∧ SlT 1 eI w A n c l := by
  rcases open_ints Try.underlying26 Try.underlying3 (by kernel_rfl) h with ⟨hcs, _⟩ | ⟨x, len, c', zs, hcs, _, hl, _, hz, _, hc, _⟩
  · injection hcs with h0
    exact ⟨none, 0, 0, [], h0, SlT.nil _ _⟩
  · injection hcs with h0
    obtain ⟨m, hm⟩ := sl_of_open eI_len (by decide) x len c' hl (w := w) (fun i hi => ⟨zs.getD i 0, fun j v hv => by
      match j, hv with
      | 0, hv =>
        injection hv with hv
        subst hv
        simpa using hc i (by split at hz <;> omega)
      | j + 1, hv => simp [eI] at hv⟩)
    exact ⟨some x, len, c', m, h0, hm⟩
theorem open_prods {A : Option Addr} {n c : Nat} {d : DataW H} {p : List MemPlace}
    (h : DataW.Trod enc Try.prog w base spare held 24 (.slice A n c) d p) : ∃ s : List Prd, s.length = n ∧ TabP (fun _ => True) w A c s := by
  obtain ⟨fuel, hf⟩ := h
  rcases open_slice_fields Try.underlying24 Try.underlying59 (by kernel_rfl) (by kernel_rfl) hf with h0 | ⟨a, len, cap, hcs, hl, hm, hi⟩
  · simp only [Value.cells] at h0
    injection h0 with h0
    injection h0 with h1 h2 h3
    subst h1 h2 h3
    exact ⟨[], rfl, TabP.nil _ _⟩
  · simp only [Value.cells] at hcs
    injection hcs with hcs
    injection hcs with h1 h2 h3
    subst h1 h2 h3
    obtain ⟨l, hll, hlp⟩ := list_of (α := PRaw × Prd) (fun i x => (∀ (j : Nat) (v : Value), (encP x.1)[j]? = some v → w.cell? (a.add (i * 4 + j)) = some v) ∧ RawOk (fun _ => True) w x.1 x.2) n (fun i him => by
      obtain ⟨m, hf⟩ := hi i him
      obtain ⟨v0, y0, c0, t0⟩ := hf 0 _ rfl
      obtain ⟨v1, y1, c1, t1⟩ := hf 1 _ rfl
      obtain ⟨v2, y2, c2, t2⟩ := hf 2 _ rfl
      obtain ⟨v3, y3, c3, t3⟩ := hf 3 _ rfl
      obtain ⟨n0, e0, -, -⟩ := DataW.trod_int Try.underlying3 t0
      obtain ⟨n1, e1, -, -⟩ := DataW.trod_int Try.underlying3 t1
      obtain ⟨n2, e2, -, -⟩ := DataW.trod_int Try.underlying3 t2
      obtain ⟨la, ln, lc, lst, e3, hsl⟩ := open_ilist t3
      injection e0 with e0; injection e1 with e1; injection e2 with e2
      subst e0 e1 e2 e3
      refine ⟨(⟨n0, n1, n2, la, ln, lc⟩, ⟨n0, n1, n2, lst⟩), fun j v hv => ?_, rfl, rfl, rfl, hsl.1.symm, hsl, fun _ _ _ _ => trivial⟩
      match j, hv with
      | 0, hv => injection hv with hv; subst hv; exact c0
      | 1, hv => injection hv with hv; subst hv; exact c1
      | 2, hv => injection hv with hv; subst hv; exact c2
      | 3, hv => injection hv with hv; subst hv; exact c3
      | j + 4, hv => simp [encP] at hv)
    have hget : ∀ (i : Nat) (r : PRaw), (l.map (·.1))[i]? = some r → ∃ x, l[i]? = some x ∧ x.1 = r := fun i r h => by
      rw [List.getElem?_map] at h
      obtain ⟨x, hx, e⟩ := Option.map_eq_some_iff.1 h
      exact ⟨x, hx, e⟩
    have hsl : SlT 4 encP w (some a) n c (l.map (·.1)) := sl_of_list encP_len (by decide) a n c hl _ (by simpa using hll) (fun i r hr j v hv => by
      obtain ⟨x, hx, e⟩ := hget i r hr
      subst e
      exact (hlp i x hx).1 j v hv)
    refine ⟨l.map (·.2), by simpa using hll, l.map (·.1), ?_, by simp, fun i r q hr hq => ?_⟩
    · rw [List.length_map, hll]
      exact ⟨hsl, fun _ _ _ _ => trivial⟩
    · obtain ⟨x, hx, e⟩ := hget i r hr
      rw [List.getElem?_map, hx] at hq
      injection hq with hq
      subst e hq
      exact (hlp i x hx).2
theorem open_entry {cs : Array Value} (hsz : cs.size = 8) {d : DataW H} {p : List MemPlace} (h : DataW.Trod enc Try.prog w base spare held 36 (.agg cs) d p) :
    ∃ (k id ep sq : Int) (src : ByteArray) (sch tm : Int) (ra : Option Addr) (rn rc : Nat), cs = #[.int .i64 k, .int .i64 id, .int .i64 ep, .int .i64 sq, .string src, .int .i64 sch, .int .i64 tm, .slice ra rn rc] := by
  obtain ⟨fuel, hf⟩ := h
  obtain ⟨xs, n, _, _, hlen, hxs, hfl⟩ := DataW.trod_struct Try.underlying36 hf
  obtain ⟨l⟩ := cs
  obtain ⟨c0, c1, c2, c3, c4, c5, c6, c7, rfl⟩ : ∃ c0 c1 c2 c3 c4 c5 c6 c7, l = [c0, c1, c2, c3, c4, c5, c6, c7] := by
    simp only [List.size_toArray] at hsz
    rcases l with _ | ⟨c0, l⟩; · simp at hsz
    rcases l with _ | ⟨c1, l⟩; · simp at hsz
    rcases l with _ | ⟨c2, l⟩; · simp at hsz
    rcases l with _ | ⟨c3, l⟩; · simp at hsz
    rcases l with _ | ⟨c4, l⟩; · simp at hsz
    rcases l with _ | ⟨c5, l⟩; · simp at hsz
    rcases l with _ | ⟨c6, l⟩; · simp at hsz
    rcases l with _ | ⟨c7, l⟩; · simp at hsz
    rcases l with _ | ⟨c8, l⟩
    · exact ⟨c0, c1, c2, c3, c4, c5, c6, c7, rfl⟩
    · simp at hsz
  have hx8 : xs.length = 8 := hxs
  have hc3 : Try.prog.cellsOf 3 = 1 := by kernel_rfl
  have hcs : Try.prog.cellsOf 9 = 1 := by kernel_rfl
  have hcr : Try.prog.cellsOf 34 = 1 := by kernel_rfl
  have hcells : (Value.agg (#[c0, c1, c2, c3, c4, c5, c6, c7] : Array Value)).cells.toList = [c0, c1, c2, c3, c4, c5, c6, c7] := rfl
  have g : ∀ i, i < 8 → xs[i]? = some (xs[i]!) := fun i hi => by rw [getElem!_pos xs i (by omega)]; exact List.getElem?_eq_getElem (by omega)
  have t0 : DataW.trod enc Try.prog w base spare held n 3 [c0] = some xs[0]! := by have := hfl 0 _ rfl; rw [g 0 (by omega)] at this; simpa [hc3, hcells] using this
  have t1 : DataW.trod enc Try.prog w base spare held n 3 [c1] = some xs[1]! := by have := hfl 1 _ rfl; rw [g 1 (by omega)] at this; simpa [hc3, hcells] using this
  have t2 : DataW.trod enc Try.prog w base spare held n 3 [c2] = some xs[2]! := by have := hfl 2 _ rfl; rw [g 2 (by omega)] at this; simpa [hc3, hcells] using this
  have t3 : DataW.trod enc Try.prog w base spare held n 3 [c3] = some xs[3]! := by have := hfl 3 _ rfl; rw [g 3 (by omega)] at this; simpa [hc3, hcells] using this
  have t4 : DataW.trod enc Try.prog w base spare held n 9 [c4] = some xs[4]! := by have := hfl 4 _ rfl; rw [g 4 (by omega)] at this; simpa [hcs, hcells] using this
  have t5 : DataW.trod enc Try.prog w base spare held n 3 [c5] = some xs[5]! := by have := hfl 5 _ rfl; rw [g 5 (by omega)] at this; simpa [hc3, hcells] using this
  have t6 : DataW.trod enc Try.prog w base spare held n 3 [c6] = some xs[6]! := by have := hfl 6 _ rfl; rw [g 6 (by omega)] at this; simpa [hc3, hcells] using this
  have t7 : DataW.trod enc Try.prog w base spare held n 34 [c7] = some xs[7]! := by have := hfl 7 _ rfl; rw [g 7 (by omega)] at this; simpa [hcr, hcells] using this
  obtain ⟨n0, e0, -, -⟩ := DataW.trod_int Try.underlying3 t0
  obtain ⟨n1, e1, -, -⟩ := DataW.trod_int Try.underlying3 t1
  obtain ⟨n2, e2, -, -⟩ := DataW.trod_int Try.underlying3 t2
  obtain ⟨n3, e3, -, -⟩ := DataW.trod_int Try.underlying3 t3
  obtain ⟨n4, e4, -, -⟩ := DataW.trod_string Try.underlying9 t4
  obtain ⟨n5, e5, -, -⟩ := DataW.trod_int Try.underlying3 t5
  obtain ⟨n6, e6, -, -⟩ := DataW.trod_int Try.underlying3 t6
  injection e0 with e0; injection e1 with e1; injection e2 with e2; injection e3 with e3; injection e4 with e4; injection e5 with e5; injection e6 with e6
  subst e0 e1 e2 e3 e4 e5 e6
  rcases DataW.trod_slice Try.underlying34 t7 with ⟨e7, _⟩ | ⟨a, len, cap, _, _, _, _, e7, _⟩
  · injection e7 with e7
    subst e7
    exact ⟨n0, n1, n2, n3, n4, n5, n6, none, 0, 0, rfl⟩
  · injection e7 with e7
    subst e7
    exact ⟨n0, n1, n2, n3, n4, n5, n6, some a, len, cap, rfl⟩
end

set_option maxRecDepth 100000 in
theorem apart_lifted (os : Os) (started : os.Started) (H : Type) (enc : TypeId × Value → H) :
    ReturnsInHanded {} Try.checked os 4 .any (Rows.producerApartSpec.pre6 enc Try.prog Try.f4 Rows.producerApartRow.domain false) (Rows.producerApartSpec.post enc Try.prog Try.f4 false true false false) := by
  refine returnsInHanded_of_change_sized (C := Try.checked) own started (by kernel_rfl) Try.func4
    (ChangeSpec.witness6 (enc := enc) (C := Try.checked) false ⟨#[], #[.slice none 0 0, .agg #[.int .i64 0, .int .i64 0, .int .i64 0, .int .i64 0, .string ⟨#[]⟩, .int .i64 0, .int .i64 0, .slice none 0 0], .agg #[.int .i64 0, .int .i64 0, .int .i64 0, .int .i64 0, .string ⟨#[]⟩, .int .i64 0, .int .i64 0, .slice none 0 0], .int .i64 0], []⟩ 8 (by kernel_rfl) (by kernel_rfl) (by kernel_rfl) (by kernel_rfl)) ?_
  intro W base args ds gs before hval0 hW hcnd hsz0 _
  have hval : ∀ (j : Nat) t v, Try.f4.params[j]? = some t → args[j]? = some v → Value.okWide Try.prog W .any base t v := hval0
  have hW' := hW
  obtain ⟨p, q, hA0, hV, rfl, hfz, hnd⟩ := hW
  have hA : DataW.TrodAll enc Try.prog W 0 (fun _ => true) true Try.f4.params.toList args.toList ds p := hA0
  rw [Try.params4] at hA hval
  obtain ⟨v0, vs0, d0, ds0, p0, q0, hargs, rfl, rfl, h0, r0⟩ := trodAll_cons hA
  obtain ⟨v1, vs1, d1, ds1, p1, q1, rfl, rfl, rfl, h1, r1⟩ := trodAll_cons r0
  obtain ⟨v2, vs2, d2, ds2, p2, q2, rfl, rfl, rfl, h2, r2⟩ := trodAll_cons r1
  obtain ⟨v3, vs3, d3, ds3, p3, q3, rfl, rfl, rfl, h3, r3⟩ := trodAll_cons r2
  obtain ⟨rfl, rfl, rfl⟩ := trodAll_nil r3
  obtain rfl : args = #[v0, v1, v2, v3] := by cases args; simp_all
  obtain ⟨rfl, rfl⟩ := trodVars_none hV
  obtain ⟨a0, len0, cap0, rfl⟩ := okWide_slice Try.underlying24 (hval 0 24 v0 rfl rfl)
  obtain ⟨cs1, rfl, hs1⟩ := okWide_struct Try.underlying36 (hval 1 36 v1 rfl rfl)
  obtain ⟨cs2, rfl, hs2⟩ := okWide_struct Try.underlying36 (hval 2 36 v2 rfl rfl)
  have h8 : Try.prog.cellsOf 36 = 8 := by kernel_rfl
  have k0 := h0
  have k1 := h1
  have k2 := h2
  have lt0 : ∀ x ∈ p0, x.block < W.heap.size := by obtain ⟨m, hm⟩ := k0; exact DataW.trod_lt m _ _ _ hm
  have lt1 : ∀ x ∈ p1, x.block < W.heap.size := by obtain ⟨m, hm⟩ := k1; exact DataW.trod_lt m _ _ _ hm
  have lt2 : ∀ x ∈ p2, x.block < W.heap.size := by obtain ⟨m, hm⟩ := k2; exact DataW.trod_lt m _ _ _ hm
  obtain ⟨s, hlen, htab⟩ := open_prods h0
  obtain ⟨ak, aid, aep, asq, asrc, asch, atm, ara, arn, arc, rfl⟩ := open_entry (by rw [hs1, h8]) h1
  obtain ⟨bk, bid, bep, bsq, bsrc, bsch, btm, bra, brn, brc, rfl⟩ := open_entry (by rw [hs2, h8]) h2
  obtain ⟨pos, rfl, rfl, rfl, w3⟩ := open_int Try.underlying3 (hval 3 3 v3 rfl rfl) h3
  clear hA0 hval0 hsz0
  subst hlen
  refine (apart_any a0 cap0 s ak aid aep asq asrc asch atm ara arn arc bk bid bep bsq bsrc bsch btm bra brn brc pos W htab).mono fun e W' ⟨he, bel⟩ => ?_
  subst he
  exact ⟨_, rfl, _, _, _, [], _, [], hW', trodAll_mk1 (shut_bool Try.underlying4 _),
    trodAll_cons_mk (Below.trod laidOut (by kernel_rfl) (of_decide_eq_true (by kernel_rfl)) k0 bel lt0) (trodAll_cons_mk (Below.trod laidOut (by kernel_rfl) (of_decide_eq_true (by kernel_rfl)) k1 bel lt1)
      (trodAll_cons_mk (Below.trod laidOut (by kernel_rfl) (of_decide_eq_true (by kernel_rfl)) k2 bel lt2) (trodAll_mk1 (shut_int Try.underlying3 w3)))),
    rfl, bel.frame _, fun h => by cases h⟩
theorem producerApart_holds : Rows.ProducerApartSaid :=
  OpenClaim.holds_of_wide 4 Try.f4 rfl rfl rfl rfl rfl rfl rfl ⟨rfl, rfl, rfl, rfl, rfl⟩ rfl rfl rfl rfl rfl (by kernel_rfl) Try.func4 (by kernel_rfl)
    (of_decide_eq_true (by kernel_rfl)) (by unfold Func.isWrapper; first | (rw [if_pos (by decide +kernel)]; kernel_rfl) | (rw [if_neg (by decide +kernel)]; exact ⟨rfl, rfl⟩))
    (fun os started H enc _ => apart_lifted os started H enc)
#print axioms producerApart_holds
end Go.Proofs.Ytghciaaedjomjaa
