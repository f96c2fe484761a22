/- Ask, set, Abandon, Caught. -/
import Derived.Test.YtpdmjahdnfhcoaaRepF
namespace Go.Proofs.Ytpdmjahdnfhcoaa
open Go.RowKit

theorem ask_any (A : Option Addr) (n c : Nat) (l : List Rep) (frm ver back hor : Int) (raise : Bool) (w : World) (hr : SlT 6 encR w A n c l) (hn : n ≤ 100000) :
    Calls Try.prog 9 #[.slice A n c, .int .i64 frm, .int .i64 ver, .int .i64 back, .int .i64 hor, .bool raise] w (Answer w (askF l frm ver back hor raise)) := by
  by_cases hrange : withinB frm 0 1099511627776 = true ∧ withinB ver 1 50 = true ∧ withinB back 0 1099511627776 = true ∧ withinB hor 0 1099511627776 = true
  · obtain ⟨h0, h1, h2, h3⟩ := hrange
    by_cases hb : (firstR l).isSome = true ∧ ((firstR l).getD repZ).state = 2
    · refine (ask_busy A n c l frm ver back hor raise w hr (by omega) h0 h1 h2 h3 hb).mono ?_
      rintro e w' ⟨rfl, hbl⟩
      have e : askF l frm ver back hor raise = ([], 0, 8) := by unfold askF; rw [if_neg (by simp [h0, h1, h2, h3]), if_pos hb]
      rw [e]
      exact ⟨_, rfl, SlV.nil, hbl⟩
    · have e0 : askF l frm ver back hor raise = if 0 < hor ∧ frm < hor + back ∧ (¬ raise = true ∨ 1099511627776 < hor + back) then ([], hor + back, 23) else askEnd l (if 0 < hor ∧ frm < hor + back then hor + back else frm) ver back := by
        unfold askF askEnd
        rw [if_neg (by simp [h0, h1, h2, h3]), if_neg hb]
      have hw0 := h0
      have hw2 := h2
      have hw3 := h3
      simp only [withinB, decide_eq_true_eq] at hw0 hw2 hw3
      by_cases hp : 0 < hor
      · by_cases hlt : frm < hor + back
        · by_cases hs : raise = false ∨ 1099511627776 < hor + back
          · refine (ask_short A n c l frm ver back hor raise w hr (by omega) h0 h1 h2 h3 hb hp hlt hs).mono ?_
            rintro e w' ⟨rfl, hbl⟩
            rw [e0, if_pos ⟨hp, hlt, by simpa using hs⟩]
            exact ⟨_, rfl, SlV.nil, hbl⟩
          · have hra : raise = true := by
              cases raise with
              | true => rfl
              | false => exact absurd (Or.inl rfl) hs
            have hle : hor + back ≤ 1099511627776 := by
              have : ¬ 1099511627776 < hor + back := fun h => hs (.inr h)
              omega
            rw [e0, if_neg (by intro h; exact hs (by simpa using h.2.2)), if_pos ⟨hp, hlt⟩]
            exact ask_raised A n c l frm ver back hor raise w hr hn h0 h1 h2 h3 hb hp hlt hra hle
        · rw [e0, if_neg (fun h => hlt h.2.1), if_neg (fun h => hlt h.2)]
          exact ask_plain1 A n c l frm ver back hor raise w hr hn h0 h1 h2 h3 hb hp (by omega)
      · rw [e0, if_neg (fun h => hp h.1), if_neg (fun h => hp h.1)]
        by_cases hfb : frm ≤ back
        · exact ask_plain0a A n c l frm ver back hor raise w hr hn h0 h1 h2 h3 hb (by omega) hfb
        · exact ask_plain0b A n c l frm ver back hor raise w hr hn h0 h1 h2 h3 hb (by omega) (by omega)
  · have e : askF l frm ver back hor raise = ([], 0, 3) := by unfold askF; rw [if_pos hrange]
    rw [e]
    exact (ask_range A n c frm ver back hor raise w hrange).mono fun e w' ⟨h1, h2⟩ => ⟨_, h1, SlV.nil, h2 ▸ Below.refl _ _⟩

/-- What set answers. -/
def setF (l : List Rep) (no state : Int) : List Rep × Int :=
  if ¬ withinB no 1 l.length then ([], 4)
  else
    let r := l[(no - 1).toNat]!
    if r.state ≠ 0 ∧ r.state ≠ 1 then ([], 7) else (l.set (no - 1).toNat { r with state := state }, 0)
def Answer2 (w : World) (r : List Rep × Int) (e : Ending) (w' : World) : Prop := ∃ v, e = .returned (.tuple #[v, .int .i64 r.2]) ∧ SlV 6 encR w' v r.1 ∧ Below w.heap.size w w'

set_option maxRecDepth 100000 in
theorem set_any (A : Option Addr) (c : Nat) (l : List Rep) (no state : Int) (w : World) (hr : SlT 6 encR w A l.length c l) (hn : l.length ≤ 100000) :
    Calls Try.prog 28 #[.slice A l.length c, .int .i64 no, .int .i64 state] w (Answer2 w (setF l no state)) := by
  have HR := Lib.hid hr
  clear hr
  cases hw : withinB no 1 l.length with
  | false =>
    have HW := Lib.hid hw
    have e : setF l no state = ([], 4) := by unfold setF; rw [if_pos (by rw [hw]; simp)]
    rw [e]
    clear hw e
    go_enter Try.func28, Try.ntmps28
    go_wp2_with (go_at_call 18; refine (within_any _ _ _ _).mono ?_; rintro e w' ⟨rfl, rfl⟩; simp only [show withinB no 1 l.length = false from HW.out])
    go_ret2
    exact ⟨_, rfl, SlV.nil, Below.refl _ _⟩
  | true =>
    have HW := Lib.hid hw
    simp only [withinB, decide_eq_true_eq] at hw
    obtain ⟨i, rfl⟩ : ∃ i : Nat, no = (i : Int) + 1 := ⟨(no - 1).toNat, by omega⟩
    have hi : i < l.length := by omega
    have e0 : setF l ((i : Int) + 1) state = if l[i].state ≠ 0 ∧ l[i].state ≠ 1 then ([], 7) else (l.set i { l[i] with state := state }, 0) := by
      unfold setF
      rw [if_neg (by rw [show withinB ((i : Int) + 1) 1 l.length = true from HW.out]; simp)]
      simp only [show ((i : Int) + 1 - 1).toNat = i by omega, getElem!_pos l i hi]
    obtain ⟨b, off, rfl, hb, hcells⟩ := HR.out.2.2 (by omega)
    have hx : l[i]? = some l[i] := List.getElem?_eq_getElem hi
    obtain ⟨c0, c1, c2, c3, c4, c5⟩ := cellsR hcells hb (Below.refl _ _) hx
    rw [e0]
    have HI := Lib.hid hi
    clear e0 hcells c0 c1 c2 c3 c5
    generalize hxx : l[i] = x at hx c4 ⊢
    have HX := Lib.hid hx
    clear hx hxx
    have hib : (i : Int) ≤ 100000 := by omega
    have hil : (i : Int) < (l.length : Int) := by omega
    have hi0 : (0 : Int) ≤ (i : Int) := by omega
    by_cases hst : x.state ≠ 0 ∧ x.state ≠ 1
    · rw [if_pos hst]
      have hn0 : (x.state != 0) = true := by simpa using hst.1
      have hn1 : (x.state != 1) = true := by simpa using hst.2
      clear hst
      go_enter Try.func28, Try.ntmps28
      go_wp2_with (go_at_call 18; refine (within_any _ _ _ _).mono ?_; rintro e w' ⟨rfl, rfl⟩; simp only [show withinB ((i : Int) + 1) 1 l.length = true from HW.out])
      go_ret2
      exact ⟨_, rfl, SlV.nil, Below.refl _ _⟩
    · rw [if_neg hst]
      have hcase : (x.state != 0) = false ∨ ((x.state != 0) = true ∧ (x.state != 1) = false) := by
        by_cases h0 : x.state = 0
        · exact .inl (by simp [h0])
        · have h1 : x.state = 1 := by
            by_cases h1 : x.state = 1
            · exact h1
            · exact absurd ⟨h0, h1⟩ hst
          exact .inr ⟨by simp [h0], by simp [h1]⟩
      clear hst
      rcases hcase with hn0 | ⟨hn0, hn1⟩
      all_goals
        go_enter Try.func28, Try.ntmps28
        go_wp2_with (go_at_call 18; refine (within_any _ _ _ _).mono ?_; rintro e w' ⟨rfl, rfl⟩; simp only [show withinB ((i : Int) + 1) 1 l.length = true from HW.out])
        refine (cloneR_any _ _ c l _ HR.out (by omega)).mono ?_
        rintro e w1 ⟨v, rfl, hown, hb1⟩
        rcases hown.2 with ⟨rfl, hz⟩ | ⟨b', cap, cur, rfl, hrest⟩
        · exact absurd hz (by have := HI.out; omega)
        · have hw1 := own_cell encR_len (by decide) hown (f := 4) (by decide) HX.out rfl
          obtain ⟨k1, k2⟩ := hw1
          have h5 := own_field (f := 4) (v := .int .i64 state) encR_len hown (by decide) HX.out (x' := { x with state := state }) rfl
          have HO5 := Lib.hid h5.1
          have HB := Lib.hid (hb1.setCell (p := ⟨b', i * 6 + 4, none⟩) (own_block_lt hown).1 (.int .i64 state))
          clear hown h5 hrest hb1
          go_wp2
          go_ret2
          refine ⟨_, rfl, ?_, HB.out⟩
          have hlen : (l.set i { x with state := state }).length = l.length := by simp
          have h6 := HO5.out
          rw [← hlen] at h6
          have h7 := SlV.of_own encR_len h6
          rw [hlen] at h7
          exact h7

theorem abandon_any (A : Option Addr) (c : Nat) (l : List Rep) (no : Int) (w : World) (hr : SlT 6 encR w A l.length c l) (hn : l.length ≤ 100000) :
    Calls Try.prog 17 #[.slice A l.length c, .int .i64 no] w (Answer2 w (setF l no 4)) := by
  have HR := Lib.hid hr
  clear hr
  go_enter Try.func17, Try.ntmps17
  go_wp2_with fail
  refine (set_any A c l no 4 _ HR.out hn).mono ?_
  rintro e w1 ⟨v, rfl, hv, hb⟩
  have HV := Lib.hid hv
  clear hv
  go_wp2
  go_ret2
  exact ⟨v, rfl, HV.out, hb⟩
def cst (b : Bool) : Int := if b then 1 else 0
theorem caught_any (A : Option Addr) (c : Nat) (l : List Rep) (no : Int) (yes : Bool) (w : World) (hr : SlT 6 encR w A l.length c l) (hn : l.length ≤ 100000) :
    Calls Try.prog 15 #[.slice A l.length c, .int .i64 no, .bool yes] w (Answer2 w (setF l no (cst yes))) := by
  have HR := Lib.hid hr
  clear hr
  cases yes with
  | true =>
    go_enter Try.func15, Try.ntmps15
    go_wp2_with fail
    refine (set_any A c l no 1 _ HR.out hn).mono ?_
    rintro e w1 ⟨v, rfl, hv, hb⟩
    have HV := Lib.hid hv
    clear hv
    go_wp2
    go_ret2
    exact ⟨v, rfl, HV.out, hb⟩
  | false =>
    go_enter Try.func15, Try.ntmps15
    go_wp2_with fail
    refine (set_any A c l no 0 _ HR.out hn).mono ?_
    rintro e w1 ⟨v, rfl, hv, hb⟩
    have HV := Lib.hid hv
    clear hv
    go_wp2
    go_ret2
    exact ⟨v, rfl, HV.out, hb⟩

end Go.Proofs.Ytpdmjahdnfhcoaa
