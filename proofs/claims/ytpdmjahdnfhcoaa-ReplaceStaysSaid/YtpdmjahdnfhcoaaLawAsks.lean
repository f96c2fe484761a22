/- ReplaceAsks: the walk. -/
import Derived.Test.YtpdmjahdnfhcoaaRun
namespace Go.Proofs.Ytpdmjahdnfhcoaa
open Go.RowKit

theorem cellsO {w W : World} {b off : Nat} {l : List OpD} (hx : ∀ j x, l[j]? = some x → ∀ i v, (encO x)[i]? = some v → w.cell? ⟨b, off + j * 7 + i, none⟩ = some v) (hb : b < w.heap.size) (hW : Below w.heap.size w W) {j : Nat} {x : OpD} (hj : l[j]? = some x) :
    W.cell? ⟨b, off + j * 7, none⟩ = some (.int .i64 x.dO) ∧ W.cell? ⟨b, off + j * 7 + 1, none⟩ = some (.int .i64 x.no) ∧ W.cell? ⟨b, off + j * 7 + 2, none⟩ = some (.int .i64 x.frm) ∧
    W.cell? ⟨b, off + j * 7 + 3, none⟩ = some (.int .i64 x.ver) ∧ W.cell? ⟨b, off + j * 7 + 4, none⟩ = some (.int .i64 x.back) ∧ W.cell? ⟨b, off + j * 7 + 5, none⟩ = some (.int .i64 x.hor) ∧ W.cell? ⟨b, off + j * 7 + 6, none⟩ = some (.bool x.raise) :=
  ⟨(hW.cell (p := ⟨_, _, none⟩) hb).trans (hx j x hj 0 _ rfl), (hW.cell (p := ⟨_, _, none⟩) hb).trans (hx j x hj 1 _ rfl), (hW.cell (p := ⟨_, _, none⟩) hb).trans (hx j x hj 2 _ rfl),
    (hW.cell (p := ⟨_, _, none⟩) hb).trans (hx j x hj 3 _ rfl), (hW.cell (p := ⟨_, _, none⟩) hb).trans (hx j x hj 4 _ rfl), (hW.cell (p := ⟨_, _, none⟩) hb).trans (hx j x hj 5 _ rfl), (hW.cell (p := ⟨_, _, none⟩) hb).trans (hx j x hj 6 _ rfl)⟩

/-- The state that a law begins with. -/
theorem st0_at (W : World) : StAt ((W.alloc (.cells #[.int .i64 0, .int .i64 1] 26)).alloc (.cells #[.slice none 0 0, .slice (some ⟨W.heap.size, 0, none⟩) 1 1] 30)) (W.heap.size + 1) st0 := by
  refine ⟨none, 0, some ⟨W.heap.size, 0, none⟩, 1, ?_, SlT.nil _ _, (SlT.one2 W 26 0 1).alloc _⟩
  have h := Blk.new (W.alloc (.cells #[.int .i64 0, .int .i64 1] 26)) 30 #[.slice none 0 0, .slice (some ⟨W.heap.size, 0, none⟩) 1 1]
  have e : (W.alloc (.cells #[.int .i64 0, .int .i64 1] 26)).heap.size = W.heap.size + 1 := by simp
  rw [e] at h
  exact h

set_option maxHeartbeats 4000000 in
set_option maxRecDepth 100000 in
theorem asks_any (A : Option Addr) (c : Nat) (ops : List OpD) (frm ver back hor : Int) (raise : Bool) (w : World) (hr : SlT 7 encO w A ops.length c ops) :
    Calls Try.prog 3 #[.slice A ops.length c, .int .i64 frm, .int .i64 ver, .int .i64 back, .int .i64 hor, .bool raise] w fun e w' => e = .returned (.bool true) ∧ Below w.heap.size w w' := by
  have HR := Lib.hid hr
  clear hr
  by_cases hlen : 30 < ops.length
  · have hlz : (30 : Int) < (ops.length : Int) := by omega
    go_enter Try.func3, Try.ntmps3
    go_wp2_with fail
    refine (small_any _).mono ?_
    rintro e w1 ⟨rfl, hb1⟩
    go_wp2
    go_ret
    exact ⟨rfl, hb1⟩
  · have hlz : ¬ (30 : Int) < (ops.length : Int) := by omega
    go_enter Try.func3, Try.ntmps3
    go_wp2_with fail
    refine (small_any _).mono ?_
    rintro e w1 ⟨rfl, hb1⟩
    have HB1 := Lib.hid hb1
    clear hb1
    go_wp2_with fail
    have hst := st0_at w1
    go_loopg [15] ops.length (fun gg s15 wr => ∃ i : Nat, s15 = .int .i64 i ∧ i ≤ ops.length ∧ ops.length - i ≤ gg ∧ Hid (StAt wr (w1.heap.size + 1) (runF (ops.take i))) ∧ Hid (Below w.heap.size w wr))
    case atStart => exact ⟨0, rfl, by omega, by omega, hst, (HB1.out.alloc HB1.out.size _).alloc (by have := HB1.out.size; simp; omega) _⟩
    case round =>
      clear hst
      obtain ⟨i, rfl, hi, hg, HS, HBr⟩ := hrel
      by_cases hlt : i < ops.length
      · have hltz : (i : Int) < (ops.length : Int) := by omega
        obtain ⟨b, off, rfl, hb, hcells⟩ := HR.out.2.2 (by omega)
        obtain ⟨x, hx⟩ : ∃ x, ops[i]? = some x := ⟨_, List.getElem?_eq_getElem hlt⟩
        obtain ⟨c0, c1, c2, c3, c4, c5, c6⟩ := cellsO hcells hb HBr.out hx
        have HX := Lib.hid hx
        clear hx hcells
        have hln := runF_len ops i
        go_wp2_with fail
        refine (step_any (w1.heap.size + 1) (runF (ops.take i)) x _ HS.out (by omega) (by omega)).mono ?_
        rintro e w2 ⟨rfl, hst2, hg2⟩
        have HS2 := Lib.hid hst2
        have HG2 := Lib.hid hg2
        clear hst2 hg2
        go_wp2
        go_roundg (ops.length - (i + 1))
        case measure => omega
        case rel =>
          refine ⟨i + 1, by go_num, by omega, by omega, ?_, ?_⟩
          · show StAt w2 _ _
            rw [List.take_add_one, HX.out]
            simp only [Option.toList_some, runF_snoc]
            exact HS2.out
          · exact HBr.out.grown HG2.out HBr.out.size (by intro k hk; injection hk with hk; have := HB1.out.size; omega)
      · have hltz : ¬ (i : Int) < (ops.length : Int) := by omega
        obtain rfl : i = ops.length := by omega
        have hln := runF_len ops ops.length
        rw [List.take_length] at HS hln
        generalize runF ops = s at HS hln
        obtain ⟨A1, d1, A2, d2, hB, hl, ht⟩ := HS.out
        obtain ⟨k0, k1, kf⟩ := hB.two
        have HL := Lib.hid hl
        have HBk := Lib.hid hB
        clear hB hl ht HS
        go_wp2_with fail
        refine (ask_any A1 _ d1 s.l frm ver back hor raise _ HL.out (by omega)).mono ?_
        rintro e w2 ⟨v, rfl, hv, hb2⟩
        have HB2 := Lib.hid (HBr.out.trans (hb2.mono HBr.out.size))
        by_cases h23 : (askF s.l frm ver back hor raise).2.2 = 23
        · obtain ⟨q1, q2, q3, q4, q5, q6, q7⟩ := ask_23 h23
          rw [q1, h23]
          have HV := Lib.hid hv
          have HL2 := Lib.hid (HL.out.below hb2)
          obtain ⟨n0, n1, nf⟩ := (HBk.out.below hb2 HBk.out.lt).two
          have HQ3 : Hid (((askF s.l (hor + back) ver back hor false).2.2 != 23) = true) := by
            show (_ != _) = true
            simpa using q3
          clear q1 q3 h23 hb2 hv
          go_wp2_with fail
          refine (ask_any A1 _ d1 s.l (hor + back) ver back hor false _ HL2.out (by omega)).mono ?_
          rintro e w3 ⟨v3, rfl, hv3, hb3⟩
          have HB3 := Lib.hid (HB2.out.trans (hb3.mono HB2.out.size))
          clear hv3 hb3
          have q3 := HQ3.out
          generalize (askF s.l (hor + back) ver back hor false).2.2 = e3 at q3 ⊢
          go_wp2
          go_ret
          refine ⟨ret_bool ?_, HB3.out⟩
          simp
        · by_cases h0 : (askF s.l frm ver back hor raise).2.2 = 0
          · obtain ⟨l0, no, f, he, hl0, hf1, hh, q5, q6, q7, q8, q9, q10⟩ := ask_ok h0
            rw [he] at hv ⊢
            obtain ⟨A3, d3, rfl, h3⟩ := hv
            simp only at h3
            have hlen : (l0 ++ [(⟨no, f, ver, max 0 (f - back), 0, 0⟩ : Rep)]).length = l0.length + 1 := by simp
            rw [hlen] at h3 ⊢
            obtain ⟨b3, o3, rfl, hb3, hc3⟩ := h3.2.2 (by omega)
            obtain ⟨c0, c1, c2, c3, c4, c5⟩ := cellsR hc3 hb3 (Below.refl _ _) (j := l0.length) (x := ⟨no, f, ver, max 0 (f - back), 0, 0⟩) (by simp)
            have hlb : (l0.length : Int) ≤ 2000 := by omega
            clear he h3 hc3 h0 h23 hlen hb2 hl0
            generalize l0.length = m at c0 c1 c2 c3 c4 c5 hlb ⊢
            have hne : ((m : Int) + 1 == 0) = false := by rw [beq_eq_false_iff_ne]; omega
            have hc : (f == frm) = true ∨ ((f == frm) = false ∧ raise = true ∧ (f == hor + back) = true ∧ frm < f) := by
              rcases hf1 with h | ⟨h1, h2, h3⟩
              · exact .inl (by simp [h])
              · exact .inr ⟨by rw [beq_eq_false_iff_ne]; omega, h1, by simp [h2], h3⟩
            have hd : (max 0 (f - back) = 0 ∧ f ≤ back) ∨ (max 0 (f - back) = f - back ∧ back < f) := by omega
            have hk : (hor == 0) = true ∨ ((hor == 0) = false ∧ hor ≤ max 0 (f - back)) := by
              rcases hh with h | h
              · exact .inl (by simp [h])
              · by_cases h0 : hor = 0
                · exact .inl (by simp [h0])
                · exact .inr ⟨by simpa using h0, h⟩
            clear hf1 hh
            rcases hd with ⟨hd1, hd2⟩ | ⟨hd1, hd2⟩
            all_goals
              rw [hd1] at c3 hk
              clear hd1
              rcases hk with hk1 | ⟨hk1, hk2⟩
            all_goals
              rcases hc with hc1 | ⟨hc1, rfl, hc2, hc3⟩
            all_goals
              go_wp2
              go_ret
              refine ⟨ret_bool ?_, HB2.out.alloc HB2.out.size _⟩
              first | rfl | (simp; done) | (simp; omega)
          · obtain ⟨q1, q2⟩ := ask_err h23 h0
            rw [q1]
            rw [q2] at hv
            obtain ⟨A3, d3, rfl, h3⟩ := hv
            have hn23 : ((askF s.l frm ver back hor raise).2.2 == 23) = false := by simpa using h23
            have hn0 : ((askF s.l frm ver back hor raise).2.2 != 0) = true := by simpa using h0
            generalize (askF s.l frm ver back hor raise).2.2 = e3 at hn23 hn0 ⊢
            clear q1 q2 h23 h0 hb2 h3
            go_wp2
            go_ret
            exact ⟨rfl, HB2.out⟩
end Go.Proofs.Ytpdmjahdnfhcoaa
