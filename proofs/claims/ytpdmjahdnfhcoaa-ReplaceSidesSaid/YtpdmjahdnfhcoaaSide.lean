/- Side. -/
import Derived.Test.YtpdmjahdnfhcoaaTimeB
import Derived.Test.YtpdmjahdnfhcoaaRepG
import Derived.Test.YtpdmjahdnfhcoaaSidesP
namespace Go.Proofs.Ytpdmjahdnfhcoaa
open Go.RowKit

set_option maxHeartbeats 2000000 in
set_option maxRecDepth 100000 in
theorem side_any (A : Option Addr) (c : Nat) (l : List Rep) (A2 : Option Addr) (c2 : Nat) (t : List Seg) (time b : Int) (w : World) (hr : SlT 6 encR w A l.length c l) (ht : SlT 2 encS w A2 t.length c2 t) (hn : l.length ≤ 1000000) (hm : t.length ≤ 1000000) (h0 : 0 < t.length) :
    Calls Try.prog 10 #[.slice A l.length c, .slice A2 t.length c2, .int .i64 time, .int .i64 b] w fun e w' => e = .returned (.int .i64 (sideF l t time b)) ∧ Below w.heap.size w w' := by
  have HR := Lib.hid hr
  have HT := Lib.hid ht
  clear hr ht
  have hcase : (∃ r, firstR l = some r ∧ r.state = 2 ∧ r.frm ≤ time ∧ b < r.cut ∧ sideF l t time b = r.ver) ∨
      (∃ r, firstR l = some r ∧ r.state ≠ 2 ∧ sideF l t time b = atF t time) ∨ (∃ r, firstR l = some r ∧ r.state = 2 ∧ ¬ r.frm ≤ time ∧ sideF l t time b = atF t time) ∨
      (∃ r, firstR l = some r ∧ r.state = 2 ∧ r.frm ≤ time ∧ ¬ b < r.cut ∧ sideF l t time b = atF t time) ∨ (firstR l = none ∧ sideF l t time b = atF t time) := by
    unfold sideF
    cases hf : firstR l with
    | none => simp
    | some r =>
      simp only
      by_cases h2 : r.state = 2
      · by_cases h3 : r.frm ≤ time
        · by_cases h4 : b < r.cut
          · exact .inl ⟨r, rfl, h2, h3, h4, if_pos ⟨h2, h3, h4⟩⟩
          · exact .inr (.inr (.inr (.inl ⟨r, rfl, h2, h3, h4, if_neg (fun q => h4 q.2.2)⟩)))
        · exact .inr (.inr (.inl ⟨r, rfl, h2, h3, if_neg (fun q => h3 q.2.1)⟩))
      · exact .inr (.inl ⟨r, rfl, h2, if_neg (fun q => h2 q.1)⟩)
  rcases hcase with ⟨r, hf, h2, h3, h4, e⟩ | ⟨r, hf, h2, e⟩ | ⟨r, hf, h2, h3, e⟩ | ⟨r, hf, h2, h3, h4, e⟩ | ⟨hf, e⟩
  · have b2 : (r.state == 2) = true := by simp [h2]
    have HF := Lib.hid hf
    have HE := Lib.hid e
    clear hf e h2
    go_enter Try.func10, Try.ntmps10
    go_wp2_with fail
    refine (first_any A _ c l _ HR.out hn).mono ?_
    rintro e w1 ⟨rfl, hb1⟩
    rw [HF.out]
    simp only [aggR, Option.getD_some, Option.isSome_some]
    have HB1 := Lib.hid hb1
    have hs1 := hb1.size
    clear hb1
    go_wp2
    go_ret
    rw [HE.out]
    exact ⟨rfl, HB1.out.alloc hs1 _⟩
  · have b2 : (r.state == 2) = false := by simpa using h2
    have HF := Lib.hid hf
    have HE := Lib.hid e
    clear hf e h2
    go_enter Try.func10, Try.ntmps10
    go_wp2_with fail
    refine (first_any A _ c l _ HR.out hn).mono ?_
    rintro e w1 ⟨rfl, hb1⟩
    rw [HF.out]
    simp only [aggR, Option.getD_some, Option.isSome_some]
    have HB1 := Lib.hid hb1
    have hs1 := hb1.size
    clear hb1
    go_wp2_with fail
    refine (at_any A2 c2 t time _ ((HT.out.below HB1.out).alloc _) hm h0).mono ?_
    rintro e w2 ⟨rfl, hb2⟩
    have HB2 := Lib.hid hb2
    clear hb2
    rw [← HE.out]
    go_wp2
    go_ret
    exact ⟨rfl, (HB1.out.alloc hs1 _).trans (HB2.out.mono (by simp; omega))⟩
  · have b2 : (r.state == 2) = true := by simp [h2]
    have HF := Lib.hid hf
    have HE := Lib.hid e
    clear hf e h2
    go_enter Try.func10, Try.ntmps10
    go_wp2_with fail
    refine (first_any A _ c l _ HR.out hn).mono ?_
    rintro e w1 ⟨rfl, hb1⟩
    rw [HF.out]
    simp only [aggR, Option.getD_some, Option.isSome_some]
    have HB1 := Lib.hid hb1
    have hs1 := hb1.size
    clear hb1
    go_wp2_with fail
    refine (at_any A2 c2 t time _ ((HT.out.below HB1.out).alloc _) hm h0).mono ?_
    rintro e w2 ⟨rfl, hb2⟩
    have HB2 := Lib.hid hb2
    clear hb2
    rw [← HE.out]
    go_wp2
    go_ret
    exact ⟨rfl, (HB1.out.alloc hs1 _).trans (HB2.out.mono (by simp; omega))⟩
  · have b2 : (r.state == 2) = true := by simp [h2]
    have HF := Lib.hid hf
    have HE := Lib.hid e
    clear hf e h2
    go_enter Try.func10, Try.ntmps10
    go_wp2_with fail
    refine (first_any A _ c l _ HR.out hn).mono ?_
    rintro e w1 ⟨rfl, hb1⟩
    rw [HF.out]
    simp only [aggR, Option.getD_some, Option.isSome_some]
    have HB1 := Lib.hid hb1
    have hs1 := hb1.size
    clear hb1
    go_wp2_with fail
    refine (at_any A2 c2 t time _ ((HT.out.below HB1.out).alloc _) hm h0).mono ?_
    rintro e w2 ⟨rfl, hb2⟩
    have HB2 := Lib.hid hb2
    clear hb2
    rw [← HE.out]
    go_wp2
    go_ret
    exact ⟨rfl, (HB1.out.alloc hs1 _).trans (HB2.out.mono (by simp; omega))⟩
  · have HF := Lib.hid hf
    have HE := Lib.hid e
    clear hf e
    go_enter Try.func10, Try.ntmps10
    go_wp2_with fail
    refine (first_any A _ c l _ HR.out hn).mono ?_
    rintro e w1 ⟨rfl, hb1⟩
    rw [HF.out]
    simp only [aggR, Option.getD_none, Option.isSome_none]
    have HB1 := Lib.hid hb1
    have hs1 := hb1.size
    clear hb1
    go_wp2_with fail
    refine (at_any A2 c2 t time _ ((HT.out.below HB1.out).alloc _) hm h0).mono ?_
    rintro e w2 ⟨rfl, hb2⟩
    have HB2 := Lib.hid hb2
    clear hb2
    rw [← HE.out]
    go_wp2
    go_ret
    exact ⟨rfl, (HB1.out.alloc hs1 _).trans (HB2.out.mono (by simp; omega))⟩
end Go.Proofs.Ytpdmjahdnfhcoaa
