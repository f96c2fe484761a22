/- small: the examples, whatever the world. -/
import Derived.Test.YtpdmjahdnfhcoaaStepB
namespace Go.Proofs.Ytpdmjahdnfhcoaa
open Go.RowKit

def exA : Rep := ⟨1, 100, 2, 90, 0, 0⟩
def exB : Rep := ⟨2, 200, 3, 200, 0, 0⟩
def exC : Rep := ⟨2, 200, 3, 200, 1, 0⟩
theorem ex1 : askF [] 100 2 10 0 false = ([exA], 100, 0) := by decide +kernel
theorem ex2 : askF [exA] 200 3 0 0 false = ([exA, exB], 200, 0) := by decide +kernel
theorem ex3 : setF [exA, exB] 2 1 = ([exA, exC], 0) := by decide +kernel
theorem ex4 : cutF [exA, exC] [⟨0, 1⟩] 2 = ([], [], 25) := by decide +kernel
theorem ex5 : askF [exA, exB] 50 4 0 0 false = ([⟨1, 100, 2, 90, 5, 0⟩, ⟨2, 200, 3, 200, 5, 0⟩, ⟨3, 50, 4, 50, 0, 0⟩], 50, 0) := by decide +kernel
theorem ex6 : askF [] 50 4 10 45 false = ([], 55, 23) := by decide +kernel

set_option maxHeartbeats 4000000 in
set_option maxRecDepth 100000 in
theorem small_any (w : World) : Calls Try.prog 7 #[] w fun e w' => e = .returned (.bool true) ∧ Below w.heap.size w w' := by
  go_enter Try.func7, Try.ntmps7
  go_wp2_with fail
  refine (ask_any none 0 0 [] 100 2 10 0 false _ (SlT.nil _ _) (by decide)).mono ?_
  rintro e w1 ⟨v1, rfl, hv1, hb1⟩
  rw [ex1] at hv1 ⊢
  obtain ⟨A1, c1, rfl, h1⟩ := hv1
  have HS := Lib.hid ((SlT.one2 w 26 0 1).below hb1)
  have HB1 := Lib.hid (((Below.refl w.heap.size w).alloc (Nat.le_refl _) _).trans (hb1.mono (by simp)))
  have H1 := Lib.hid h1
  clear hb1 h1
  go_wp2_with fail
  refine (ask_any A1 1 c1 [exA] 200 3 0 0 false _ H1.out (by decide)).mono ?_
  rintro e w2 ⟨v2, rfl, hv2, hb2⟩
  rw [ex2] at hv2 ⊢
  obtain ⟨A2, c2, rfl, h2⟩ := hv2
  have HB2 := Lib.hid (below_andthen HB1.out HB1.out.size hb2)
  replace HS := Lib.hid (HS.out.below hb2)
  replace H1 := Lib.hid (H1.out.below hb2)
  have H2 := Lib.hid h2
  clear hb2 h2
  go_wp2_with fail
  refine (caught_any A2 c2 [exA, exB] 2 true _ H2.out (by decide)).mono ?_
  rintro e w3 ⟨v3, rfl, hv3, hb3⟩
  rw [show setF [exA, exB] 2 (cst true) = ([exA, exC], 0) from ex3] at hv3 ⊢
  obtain ⟨A3, c3, rfl, h3⟩ := hv3
  have HB3 := Lib.hid (below_andthen HB2.out HB2.out.size hb3)
  replace HS := Lib.hid (HS.out.below hb3)
  replace H1 := Lib.hid (H1.out.below hb3)
  replace H2 := Lib.hid (H2.out.below hb3)
  have H3 := Lib.hid h3
  clear hb3 h3
  go_wp2_with fail
  refine (cut_any A3 c3 [exA, exC] _ 1 [⟨0, 1⟩] 2 _ H3.out HS.out (by decide) (by decide)).mono ?_
  rintro e w4 ⟨v4, u4, rfl, hv4, hu4, hb4⟩
  rw [ex4] at hv4 hu4 ⊢
  obtain ⟨A4, c4, rfl, h4⟩ := hv4
  obtain ⟨A4', c4', rfl, h4'⟩ := hu4
  have HB4 := Lib.hid (below_andthen HB3.out HB3.out.size hb4)
  replace H1 := Lib.hid (H1.out.below hb4)
  replace H2 := Lib.hid (H2.out.below hb4)
  clear hb4 h4 h4' HS H3
  go_wp2_with fail
  refine (ask_any A2 2 c2 [exA, exB] 50 4 0 0 false _ H2.out (by decide)).mono ?_
  rintro e w5 ⟨v5, rfl, hv5, hb5⟩
  rw [ex5] at hv5 ⊢
  obtain ⟨A5, c5, rfl, h5⟩ := hv5
  have HB5 := Lib.hid (below_andthen HB4.out HB4.out.size hb5)
  replace H1 := Lib.hid (H1.out.below hb5)
  replace H2 := Lib.hid (H2.out.below hb5)
  have H5 := Lib.hid h5
  clear hb5 h5
  go_wp2_with fail
  refine (ask_any none 0 0 [] 50 4 10 45 false _ (SlT.nil _ _) (by decide)).mono ?_
  rintro e w6 ⟨v6, rfl, hv6, hb6⟩
  rw [ex6] at hv6 ⊢
  obtain ⟨A6, c6, rfl, h6⟩ := hv6
  have HB6 := Lib.hid (below_andthen HB5.out HB5.out.size hb6)
  replace H1 := Lib.hid (H1.out.below hb6)
  replace H5 := Lib.hid (H5.out.below hb6)
  have H6 := Lib.hid h6
  clear hb6 h6
  obtain ⟨b1, o1, rfl, hb1, k1⟩ := H1.out.2.2 (by decide)
  obtain ⟨b5, o5, rfl, hb5, k5⟩ := H5.out.2.2 (by decide)
  have q1 : w6.cell? ⟨b1, o1 + 3, none⟩ = some (.int .i64 90) := k1 0 exA rfl 3 _ rfl
  have q2 : w6.cell? ⟨b5, o5 + 4, none⟩ = some (.int .i64 5) := k5 0 _ rfl 4 _ rfl
  have q3 : w6.cell? ⟨b5, o5 + 6 + 4, none⟩ = some (.int .i64 5) := k5 1 _ rfl 4 _ rfl
  have q4 : w6.cell? ⟨b5, o5 + 12 + 4, none⟩ = some (.int .i64 0) := k5 2 _ rfl 4 _ rfl
  clear k1 k5
  go_wp2
  go_ret
  exact ⟨rfl, HB6.out⟩
end Go.Proofs.Ytpdmjahdnfhcoaa
