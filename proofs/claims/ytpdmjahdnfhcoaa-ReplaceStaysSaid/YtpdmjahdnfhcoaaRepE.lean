/- Ask. -/
import Derived.Test.YtpdmjahdnfhcoaaRepD
namespace Go.Proofs.Ytpdmjahdnfhcoaa
open Go.RowKit

def superseded (frm : Int) (r : Rep) : Rep := if openB r.state ∧ frm ≤ r.frm then { r with state := 5 } else r
/-- What Ask answers: the list, the time, the error. -/
def askF (l : List Rep) (frm ver back hor : Int) (raise : Bool) : List Rep × Int × Int :=
  if ¬ (withinB frm 0 1099511627776 ∧ withinB ver 1 50 ∧ withinB back 0 1099511627776 ∧ withinB hor 0 1099511627776) then ([], 0, 3)
  else if (firstR l).isSome ∧ ((firstR l).getD repZ).state = 2 then ([], 0, 8)
  else if 0 < hor ∧ frm < hor + back ∧ (¬ raise ∨ 1099511627776 < hor + back) then ([], hor + back, 23)
  else
    let f := if 0 < hor ∧ frm < hor + back then hor + back else frm
    let out := l.map (superseded f)
    if 3 ≤ (openL out).length then ([], 0, 6)
    else (out ++ [⟨l.length + 1, f, ver, max 0 (f - back), 0, 0⟩], f, 0)

theorem ask_range (A : Option Addr) (n c : Nat) (frm ver back hor : Int) (raise : Bool) (w : World) (h : ¬ (withinB frm 0 1099511627776 ∧ withinB ver 1 50 ∧ withinB back 0 1099511627776 ∧ withinB hor 0 1099511627776)) :
    Calls Try.prog 9 #[.slice A n c, .int .i64 frm, .int .i64 ver, .int .i64 back, .int .i64 hor, .bool raise] w fun e w' => e = .returned (.tuple #[.slice none 0 0, .int .i64 0, .int .i64 3]) ∧ w = w' := by
  cases h0 : withinB frm 0 1099511627776 with
  | false =>
    have H0 := Lib.hid h0
    clear h h0
    go_enter Try.func9, Try.ntmps9
    go_wp2_with (go_at_call 18; refine (within_any _ _ _ _).mono ?_; rintro e w' ⟨rfl, rfl⟩; simp only [show withinB frm 0 1099511627776 = false from H0.out])
    go_ret3
    exact ⟨rfl, rfl⟩
  | true =>
    cases h1 : withinB ver 1 50 with
    | false =>
      have H0 := Lib.hid h0
      have H1 := Lib.hid h1
      clear h h0 h1
      go_enter Try.func9, Try.ntmps9
      go_wp2_with (go_at_call 18; refine (within_any _ _ _ _).mono ?_; rintro e w' ⟨rfl, rfl⟩; simp only [show withinB frm 0 1099511627776 = true from H0.out, show withinB ver 1 50 = false from H1.out])
      go_ret3
      exact ⟨rfl, rfl⟩
    | true =>
      cases h2 : withinB back 0 1099511627776 with
      | false =>
        have H0 := Lib.hid h0
        have H1 := Lib.hid h1
        have H2 := Lib.hid h2
        clear h h0 h1 h2
        go_enter Try.func9, Try.ntmps9
        go_wp2_with (go_at_call 18; refine (within_any _ _ _ _).mono ?_; rintro e w' ⟨rfl, rfl⟩; simp only [show withinB frm 0 1099511627776 = true from H0.out, show withinB ver 1 50 = true from H1.out, show withinB back 0 1099511627776 = false from H2.out])
        go_ret3
        exact ⟨rfl, rfl⟩
      | true =>
        cases h3 : withinB hor 0 1099511627776 with
        | false =>
          have H0 := Lib.hid h0
          have H1 := Lib.hid h1
          have H2 := Lib.hid h2
          have H3 := Lib.hid h3
          clear h h0 h1 h2 h3
          go_enter Try.func9, Try.ntmps9
          go_wp2_with (go_at_call 18; refine (within_any _ _ _ _).mono ?_; rintro e w' ⟨rfl, rfl⟩; simp only [show withinB frm 0 1099511627776 = true from H0.out, show withinB ver 1 50 = true from H1.out, show withinB back 0 1099511627776 = true from H2.out, show withinB hor 0 1099511627776 = false from H3.out])
          go_ret3
          exact ⟨rfl, rfl⟩
        | true =>
          exact absurd ⟨h0, h1, h2, h3⟩ h

def Kp (w : World) (v : Value) (l : List Rep) : Prop := SlV 6 encR w v l

theorem ask_busy (A : Option Addr) (n c : Nat) (l : List Rep) (frm ver back hor : Int) (raise : Bool) (w : World) (hr : SlT 6 encR w A n c l) (hn : n ≤ 1000000)
    (h0 : withinB frm 0 1099511627776 = true) (h1 : withinB ver 1 50 = true) (h2 : withinB back 0 1099511627776 = true) (h3 : withinB hor 0 1099511627776 = true)
    (hb : (firstR l).isSome = true ∧ ((firstR l).getD repZ).state = 2) :
    Calls Try.prog 9 #[.slice A n c, .int .i64 frm, .int .i64 ver, .int .i64 back, .int .i64 hor, .bool raise] w fun e w' => e = .returned (.tuple #[.slice none 0 0, .int .i64 0, .int .i64 8]) ∧ Below w.heap.size w w' := by
  have H0 := Lib.hid h0
  have H1 := Lib.hid h1
  have H2 := Lib.hid h2
  have H3 := Lib.hid h3
  have HR := Lib.hid hr
  have HB := Lib.hid hb
  clear h0 h1 h2 h3 hr hb
  go_enter Try.func9, Try.ntmps9
  go_wp2_with (go_at_call 18; refine (within_any _ _ _ _).mono ?_; rintro e w' ⟨rfl, rfl⟩; simp only [show withinB frm 0 1099511627776 = true from H0.out, show withinB ver 1 50 = true from H1.out, show withinB back 0 1099511627776 = true from H2.out, show withinB hor 0 1099511627776 = true from H3.out])
  refine (first_any A n c l _ HR.out hn).mono ?_
  rintro e w1 ⟨rfl, hb1⟩
  rw [HB.out.1]
  have hst := HB.out.2
  generalize (firstR l).getD repZ = r at hst ⊢
  obtain ⟨r1, r2, r3, r4, r5, r6⟩ := r
  simp only at hst
  subst hst
  unfold aggR
  go_wp2
  go_ret3
  exact ⟨rfl, hb1.alloc hb1.size _⟩

theorem ask_short (A : Option Addr) (n c : Nat) (l : List Rep) (frm ver back hor : Int) (raise : Bool) (w : World) (hr : SlT 6 encR w A n c l) (hn : n ≤ 1000000)
    (h0 : withinB frm 0 1099511627776 = true) (h1 : withinB ver 1 50 = true) (h2 : withinB back 0 1099511627776 = true) (h3 : withinB hor 0 1099511627776 = true)
    (hb : ¬ ((firstR l).isSome = true ∧ ((firstR l).getD repZ).state = 2)) (hp : 0 < hor) (hlt : frm < hor + back) (hs : raise = false ∨ 1099511627776 < hor + back) :
    Calls Try.prog 9 #[.slice A n c, .int .i64 frm, .int .i64 ver, .int .i64 back, .int .i64 hor, .bool raise] w fun e w' => e = .returned (.tuple #[.slice none 0 0, .int .i64 (hor + back), .int .i64 23]) ∧ Below w.heap.size w w' := by
  have H0 := Lib.hid h0
  have H1 := Lib.hid h1
  have H2 := Lib.hid h2
  have H3 := Lib.hid h3
  have HR := Lib.hid hr
  simp only [withinB, decide_eq_true_eq] at h0 h2 h3
  obtain ⟨g0, g1⟩ := h0
  obtain ⟨g2, g3⟩ := h2
  obtain ⟨g4, g5⟩ := h3
  clear h1 hr
  cases hf : firstR l with
  | none =>
    have HF := Lib.hid hf
    clear hf hb
    by_cases hr : raise = false
    · subst hr
      clear hs
      go_enter Try.func9, Try.ntmps9
      go_wp2_with (go_at_call 18; refine (within_any _ _ _ _).mono ?_; rintro e w' ⟨rfl, rfl⟩; simp only [show withinB frm 0 1099511627776 = true from H0.out, show withinB ver 1 50 = true from H1.out, show withinB back 0 1099511627776 = true from H2.out, show withinB hor 0 1099511627776 = true from H3.out])
      refine (first_any A n c l _ HR.out hn).mono ?_
      rintro e w1 ⟨rfl, hb1⟩
      rw [HF.out]
      simp only [Option.getD_none, Option.isSome_none, aggR, repZ]
      go_wp2
      go_ret3
      exact ⟨rfl, hb1.alloc hb1.size _⟩
    · obtain rfl : raise = true := by simpa using hr
      have hs' : 1099511627776 < hor + back := by simpa using hs
      clear hs hr
      go_enter Try.func9, Try.ntmps9
      go_wp2_with (go_at_call 18; refine (within_any _ _ _ _).mono ?_; rintro e w' ⟨rfl, rfl⟩; simp only [show withinB frm 0 1099511627776 = true from H0.out, show withinB ver 1 50 = true from H1.out, show withinB back 0 1099511627776 = true from H2.out, show withinB hor 0 1099511627776 = true from H3.out])
      refine (first_any A n c l _ HR.out hn).mono ?_
      rintro e w1 ⟨rfl, hb1⟩
      rw [HF.out]
      simp only [Option.getD_none, Option.isSome_none, aggR, repZ]
      go_wp2
      go_ret3
      exact ⟨rfl, hb1.alloc hb1.size _⟩
  | some r =>
    have hne : (r.state == 2) = false := by
      rw [hf] at hb
      simpa using hb
    have HF := Lib.hid hf
    clear hf hb
    by_cases hr : raise = false
    · subst hr
      clear hs
      go_enter Try.func9, Try.ntmps9
      go_wp2_with (go_at_call 18; refine (within_any _ _ _ _).mono ?_; rintro e w' ⟨rfl, rfl⟩; simp only [show withinB frm 0 1099511627776 = true from H0.out, show withinB ver 1 50 = true from H1.out, show withinB back 0 1099511627776 = true from H2.out, show withinB hor 0 1099511627776 = true from H3.out])
      refine (first_any A n c l _ HR.out hn).mono ?_
      rintro e w1 ⟨rfl, hb1⟩
      rw [HF.out]
      simp only [Option.getD_some, Option.isSome_some, aggR]
      go_wp2
      go_ret3
      exact ⟨rfl, hb1.alloc hb1.size _⟩
    · obtain rfl : raise = true := by simpa using hr
      have hs' : 1099511627776 < hor + back := by simpa using hs
      clear hs hr
      go_enter Try.func9, Try.ntmps9
      go_wp2_with (go_at_call 18; refine (within_any _ _ _ _).mono ?_; rintro e w' ⟨rfl, rfl⟩; simp only [show withinB frm 0 1099511627776 = true from H0.out, show withinB ver 1 50 = true from H1.out, show withinB back 0 1099511627776 = true from H2.out, show withinB hor 0 1099511627776 = true from H3.out])
      refine (first_any A n c l _ HR.out hn).mono ?_
      rintro e w1 ⟨rfl, hb1⟩
      rw [HF.out]
      simp only [Option.getD_some, Option.isSome_some, aggR]
      go_wp2
      go_ret3
      exact ⟨rfl, hb1.alloc hb1.size _⟩
end Go.Proofs.Ytpdmjahdnfhcoaa
