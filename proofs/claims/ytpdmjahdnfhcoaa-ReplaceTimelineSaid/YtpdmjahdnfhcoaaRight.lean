/- right, Right and timeline.Right say yes of what is right. -/
import Derived.Test.YtpdmjahdnfhcoaaInvC
namespace Go.Proofs.Ytpdmjahdnfhcoaa
open Go.RowKit

theorem within_yes (a b c : Int) (h : b ≤ a ∧ a ≤ c) (w : World) :
    Calls Try.prog 18 #[.int .i64 a, .int .i64 b, .int .i64 c] w fun e w' => e = .returned (.bool true) ∧ w = w' :=
  (within_any a b c w).mono fun e w' ⟨h1, h2⟩ => ⟨by rw [h1]; exact ret_bool (by unfold withinB; rw [decide_eq_true h]), h2⟩

set_option maxRecDepth 100000 in
theorem right_yes (i : Nat) (r : Rep) (h : okR i r) (w : World) :
    Calls Try.prog 24 #[.agg #[.int .i64 r.no, .int .i64 r.frm, .int .i64 r.ver, .int .i64 r.start, .int .i64 r.state, .int .i64 r.cut]] w fun e w' => e = .returned (.bool true) ∧ Below w.heap.size w w' := by
  obtain ⟨q1, q2, q3, q4, q5, q6, q7, q8, q9, q10, q11, q12⟩ := h
  obtain ⟨no, frm, ver, start, state, cut⟩ := r
  simp only at q1 q2 q3 q4 q5 q6 q7 q8 q9 q10 q11 q12 ⊢
  clear q1
  by_cases h2 : state = 2
  · subst h2
    obtain ⟨c1, c2⟩ := q10 rfl
    clear q10 q11 q12
    go_enter Try.func24, Try.ntmps24
    go_wp2_with (go_at_call 18; refine (within_yes _ _ _ (by omega) _).mono ?_; rintro e w' ⟨rfl, rfl⟩)
    go_ret
    exact ⟨rfl, (Below.refl _ _).alloc (Nat.le_refl _) _⟩
  · by_cases h3 : state = 3
    · subst h3
      have c1 := q11 rfl
      subst c1
      clear q10 q11 q12
      go_enter Try.func24, Try.ntmps24
      go_wp2_with (go_at_call 18; refine (within_yes _ _ _ (by omega) _).mono ?_; rintro e w' ⟨rfl, rfl⟩)
      go_ret
      exact ⟨rfl, (Below.refl _ _).alloc (Nat.le_refl _) _⟩
    · have c1 := q12 h2 h3
      subst c1
      have e2 : (state == 2) = false := by simpa using h2
      have e3 : (state == 3) = false := by simpa using h3
      clear q10 q11 q12 h2 h3
      go_enter Try.func24, Try.ntmps24
      go_wp2_with (go_at_call 18; refine (within_yes _ _ _ (by omega) _).mono ?_; rintro e w' ⟨rfl, rfl⟩)
      go_ret
      exact ⟨rfl, (Below.refl _ _).alloc (Nat.le_refl _) _⟩

set_option maxHeartbeats 2000000 in
set_option maxRecDepth 100000 in
theorem Right_yes (A : Option Addr) (c : Nat) (l : List Rep) (w : World) (hr : SlT 6 encR w A l.length c l) (hn : l.length ≤ 100000) (h : LInv l) :
    Calls Try.prog 12 #[.slice A l.length c] w fun e w' => e = .returned (.bool true) ∧ Below w.heap.size w w' := by
  have HR := Lib.hid hr
  have HI := Lib.hid h
  clear hr h
  go_enter Try.func12, Try.ntmps12
  go_wp2
  go_loopg [9] l.length (fun gg s9 wr => ∃ i : Nat, s9 = .int .i64 i ∧ i ≤ l.length ∧ l.length - i ≤ gg ∧ Hid (Below w.heap.size w wr))
  case atStart => exact ⟨0, rfl, by omega, by omega, Below.refl _ _⟩
  case round =>
    obtain ⟨i, rfl, hi, hg, HBr⟩ := hrel
    by_cases hlt : i < l.length
    · have hltz : (i : Int) < (l.length : Int) := by omega
      obtain ⟨b, off, rfl, hb, hcells⟩ := HR.out.2.2 (by omega)
      obtain ⟨x, hx⟩ : ∃ x, l[i]? = some x := ⟨_, List.getElem?_eq_getElem hlt⟩
      obtain ⟨c0, c1, c2, c3, c4, c5⟩ := cellsR hcells hb HBr.out hx
      have hok := HI.out.ok i x hx
      have hno : (x.no != (i : Int) + 1) = false := by have := hok.1; simp [this]
      have HOK := Lib.hid hok
      clear hok hx hcells
      go_wp2_with (go_at_call 24; refine (right_yes i x HOK.out _).mono ?_; rintro e w' ⟨rfl, hb'⟩)
      go_roundg (l.length - (i + 1))
      case measure => omega
      case rel => exact ⟨i + 1, by go_num, by omega, by omega, (HBr.out.alloc HBr.out.size _).trans (hb'.mono (by have := HBr.out.size; simp; omega))⟩
    · have hltz : ¬ (i : Int) < (l.length : Int) := by omega
      clear hi hg
      go_wp2_with fail
      refine (Open_any A _ c l _ (HR.out.below HBr.out) (by omega)).mono ?_
      rintro e w2 ⟨v, rfl, hown, hb2⟩
      have HB2 := Lib.hid (HBr.out.trans (hb2.mono HBr.out.size))
      have HV := Lib.hid (SlV.of_own encR_len hown)
      clear hown hb2
      obtain ⟨A2, c2, rfl, hsl⟩ := HV.out
      have HS := Lib.hid hsl
      have hfew : (openL l).length ≤ 3 := HI.out.few
      have HP : Hid ((openL l).Pairwise Rel) := HI.out.opn
      clear hsl HV
      generalize openL l = o at HS hfew HP ⊢
      go_wp2_with fail
      go_loopg [6] (o.length + 1) (fun gg s6 wx => ∃ k : Nat, s6 = .int .i64 k ∧ 1 ≤ k ∧ k ≤ 3 + 1 ∧ o.length + 1 - k ≤ gg ∧ Hid (Below w2.heap.size w2 wx))
      case atStart => exact ⟨1, rfl, by omega, by omega, by omega, Below.refl _ _⟩
      case round =>
        obtain ⟨k, rfl, hk1, hk2, hg2, HBx⟩ := hrel
        by_cases hlt2 : k < o.length
        · have hltz2 : (k : Int) < (o.length : Int) := by omega
          obtain ⟨j, rfl⟩ : ∃ j, k = j + 1 := ⟨k - 1, by omega⟩
          obtain ⟨b, off, rfl, hb, hcells⟩ := HS.out.2.2 (by omega)
          obtain ⟨y, hy⟩ : ∃ y, o[j + 1]? = some y := ⟨_, List.getElem?_eq_getElem hlt2⟩
          obtain ⟨x, hx⟩ : ∃ x, o[j]? = some x := ⟨_, List.getElem?_eq_getElem (by omega)⟩
          obtain ⟨_, a1, _⟩ := cellsR hcells hb HBx.out hx
          obtain ⟨_, b1, _, _, b4, _⟩ := cellsR hcells hb HBx.out hy
          have hrel2 : Rel x y := by
            have := (List.pairwise_iff_getElem.1 HP.out) j (j + 1) (by omega) hlt2 (by omega)
            obtain ⟨_, rfl⟩ := List.getElem?_eq_some_iff.1 hx
            obtain ⟨_, rfl⟩ := List.getElem?_eq_some_iff.1 hy
            exact this
          have r1 : (y.state == 2) = false := by simpa using hrel2.2
          have r2 : decide (y.frm ≤ x.frm) = false := by rw [decide_eq_false_iff_not]; have := hrel2.1; omega
          have r3 : x.frm < y.frm := hrel2.1
          have hj0 : (0 : Int) ≤ (j : Int) := by omega
          have hjb : (j : Int) ≤ 3 := by omega
          have hjl : (j : Int) < (o.length : Int) := by omega
          clear hrel2 hx hy hcells
          go_wp2_with fail
          go_quiet (fail)
          go_wp2
          go_roundg (o.length - (j + 1))
          case measure => omega
          case rel => exact ⟨j + 2, by go_num, by omega, by omega, by omega, below_drewN HBx.out _⟩
        · have hltz2 : ¬ (k : Int) < (o.length : Int) := by omega
          go_wp2
          go_ret
          refine ⟨ret_bool ?_, HB2.out.trans (HBx.out.mono HB2.out.size)⟩
          simp; omega

set_option maxHeartbeats 2000000 in
set_option maxRecDepth 100000 in
theorem TRight_yes (A : Option Addr) (c : Nat) (t : List Seg) (w : World) (hr : SlT 2 encS w A t.length c t) (hn : t.length ≤ 100000) (h : TRight t) :
    Calls Try.prog 13 #[.slice A t.length c] w fun e w' => e = .returned (.bool true) ∧ Below w.heap.size w w' := by
  have HR := Lib.hid hr
  have HI := Lib.hid h
  have hpos : 0 < t.length := by
    obtain ⟨v, rest, e⟩ := h.head
    rw [e]; simp
  obtain ⟨b, off, rfl, hb, hcells⟩ := hr.2.2 hpos
  have h00 : ∃ v, t[0]? = some ⟨0, v⟩ := by
    obtain ⟨v, rest, e⟩ := h.head
    exact ⟨v, by rw [e]; rfl⟩
  obtain ⟨v0, h00⟩ := h00
  obtain ⟨z0, z1⟩ := cellsS hcells hb (Below.refl _ _) h00
  simp only [Nat.zero_mul, Nat.add_zero] at z0 z1
  have hne : ((t.length : Int) == 0) = false := by rw [beq_eq_false_iff_ne]; omega
  have HC := Lib.hid hcells
  clear hr h h00 hcells
  go_enter Try.func13, Try.ntmps13
  go_wp2
  go_loopg [17] t.length (fun gg s17 wr => ∃ i : Nat, s17 = .int .i64 i ∧ i ≤ t.length ∧ t.length - i ≤ gg ∧ Hid (Below w.heap.size w wr))
  case atStart => exact ⟨0, rfl, by omega, by omega, Below.refl _ _⟩
  case round =>
    obtain ⟨i, rfl, hi, hg, HBr⟩ := hrel
    by_cases hlt : i < t.length
    · have hltz : (i : Int) < (t.length : Int) := by omega
      obtain ⟨y, hy⟩ : ∃ y, t[i]? = some y := ⟨_, List.getElem?_eq_getElem hlt⟩
      obtain ⟨b0, b1⟩ := cellsS HC.out hb HBr.out hy
      obtain ⟨k1, k2, k3⟩ := HI.out.ok y (List.mem_of_getElem? hy)
      have hbr : b < wr.heap.size := Nat.lt_of_lt_of_le hb HBr.out.size
      by_cases hz : i = 0
      · subst hz
        have hd : decide ((0 : Int) < ((0 : Nat) : Int)) = false := by decide
        simp only [Nat.zero_mul, Nat.add_zero] at b0 b1
        clear hy
        go_wp2_with fail
        go_quiet (fail)
        go_wp2
        go_roundg (t.length - 1)
        case measure => omega
        case rel => exact ⟨1, by go_num, by omega, by omega, below_drewN (HBr.out.alloc HBr.out.size _) _⟩
      · obtain ⟨j, rfl⟩ : ∃ j, i = j + 1 := ⟨i - 1, by omega⟩
        obtain ⟨x, hx⟩ : ∃ x, t[j]? = some x := ⟨_, List.getElem?_eq_getElem (by omega)⟩
        obtain ⟨a0, a1⟩ := cellsS HC.out hb HBr.out hx
        have hadj := HI.out.adj j x y hx hy
        have hs : x.frm < y.frm := by
          have := (List.pairwise_iff_getElem.1 HI.out.sort) j (j + 1) (by omega) hlt (by omega)
          obtain ⟨_, rfl⟩ := List.getElem?_eq_some_iff.1 hx
          obtain ⟨_, rfl⟩ := List.getElem?_eq_some_iff.1 hy
          exact this
        have r1 : (y.ver == x.ver) = false := by simpa using hadj
        have r2 : decide (y.frm ≤ x.frm) = false := by rw [decide_eq_false_iff_not]; omega
        have hj0 : (0 : Int) ≤ (j : Int) := by omega
        have hjl : (j : Int) < (t.length : Int) := by omega
        have hjb : (j : Int) ≤ 100000 := by omega
        clear hadj hx hy hz
        go_wp2_with fail
        go_quiet (fail)
        go_wp2
        go_roundg (t.length - (j + 2))
        case measure => omega
        case rel => exact ⟨j + 2, by go_num, by omega, by omega, below_drewN (HBr.out.alloc HBr.out.size _) _⟩
    · have hltz : ¬ (i : Int) < (t.length : Int) := by omega
      go_wp2
      go_ret
      exact ⟨rfl, HBr.out⟩
end Go.Proofs.Ytpdmjahdnfhcoaa
