/- law 10: record, small. -/
import Derived.Test.YtghciaaedjomjaaProdL
namespace Go.Proofs.Ytghciaaedjomjaa
open Go.RowKit

set_option maxRecDepth 100000 in
theorem record_any (id ep sq : Int) (w : World) :
    Calls Try.prog 10 #[.int .i64 id, .int .i64 ep, .int .i64 sq] w fun e w' => e = .returned (.agg #[.int .i64 0, .int .i64 id, .int .i64 ep, .int .i64 sq, .string ⟨#[]⟩, .int .i64 0, .int .i64 0, .slice none 0 0]) ∧ Below w.heap.size w w' := by
  go_enter Try.func10, Try.ntmps10
  go_wp2
  refine bodyPost_ret (v := .agg #[.int .i64 0, .int .i64 id, .int .i64 ep, .int .i64 sq, .string ⟨#[]⟩, .int .i64 0, .int .i64 0, .slice none 0 0]) (by simp [results, Try.results10, go_sem]) rfl ⟨rfl, ?_⟩
  first
    | exact (Below.refl _ w).alloc (Nat.le_refl _) _
    | (iterate 8 (refine Below.setCell ?_ (by exact Nat.le_refl _) _)
       exact (Below.refl _ w).alloc (Nat.le_refl _) _)
def S7 : List Prd := [⟨7, 0, 1, [3]⟩]
def T7 : List Prd := [⟨7, 1, 0, []⟩]
theorem right_nil : RightP [] := ⟨by simp, by simp, by simp⟩
theorem right_S7 : RightP S7 := ⟨by intro p hp; simp only [S7, List.mem_singleton] at hp; subst hp; exact ⟨by simp [inN], by simp [inN], by simp [inN], by simp; omega, by simp, by simp [inN]⟩, by simp [S7], by simp [S7]⟩
theorem right_T7 : RightP T7 := ⟨by intro p hp; simp only [T7, List.mem_singleton] at hp; subst hp; exact ⟨by simp [inN], by simp [inN], by simp [inN], by simp; omega, by simp, by simp⟩, by simp [T7], by simp [T7]⟩
theorem sm1 : lookF [] 7 0 0 = (0, 0) := by decide
theorem sm2 : putP [] 7 3 = S7 := by decide
theorem sm2' : putOk [] 7 0 0 3 := ⟨by decide, by simp [inN], by simp [getP, findP, prd0]⟩
theorem sm3 : lookF S7 7 0 0 = (3, 5) := by decide
theorem sm4 : fenceF S7 7 = (T7, 1, 0) := by decide
theorem sm5 : lookF T7 7 0 1 = (0, 18) := by decide
theorem sm6 : lookF T7 7 1 0 = (0, 0) := by decide
theorem sm7 : lookF T7 8 0 1 = (0, 19) := by decide

set_option maxHeartbeats 2000000 in
set_option maxRecDepth 100000 in
theorem psmall_any (w : World) : Calls Try.prog 7 #[] w fun e w' => e = .returned (.bool true) ∧ Below w.heap.size w w' := by
  go_enter Try.func7, Try.ntmps7
  go_wp2_with fail
  refine (record_any _ _ _ _).mono ?_
  rintro e w1 ⟨rfl, hb1⟩
  have HB1 := Lib.hid hb1
  clear hb1
  go_wp2_with fail
  refine (look_any (fun _ => True) none 0 [] _ 7 0 0 _ _ _ _ _ _ _ right_nil (TabP.nil _ _)).mono ?_
  rintro e w2 ⟨rfl, hb2⟩
  rw [sm1]
  have HB2 := Lib.hid (HB1.out.trans (hb2.mono HB1.out.size))
  clear hb2 HB1
  go_wp2_with fail
  refine (record_any _ _ _ _).mono ?_
  rintro e w3 ⟨rfl, hb3⟩
  have HB3 := Lib.hid (HB2.out.trans (hb3.mono HB2.out.size))
  clear hb3 HB2
  go_wp2_with fail
  refine (put_yes (fun _ => True) none 0 [] _ 7 0 0 _ _ _ _ _ _ 3 _ right_nil (TabP.nil _ _) sm2').mono ?_
  rintro e w4 ⟨A4, c4, rfl, ht4, hb4⟩
  rw [sm2] at ht4 ⊢
  have HT4 := Lib.hid (ht4.mono (Q := fun _ => True) fun _ _ _ => trivial)
  have HB4 := Lib.hid (HB3.out.trans (hb4.mono HB3.out.size))
  clear hb4 HB3 ht4
  go_wp2_with fail
  refine (record_any _ _ _ _).mono ?_
  rintro e w5 ⟨rfl, hb5⟩
  have HT5 := Lib.hid (HT4.out.below hb5)
  have HB5 := Lib.hid (HB4.out.trans (hb5.mono HB4.out.size))
  clear hb5 HB4 HT4
  go_wp2_with fail
  refine (look_any (fun _ => True) A4 c4 S7 _ 7 0 0 _ _ _ _ _ _ _ right_S7 HT5.out).mono ?_
  rintro e w6 ⟨rfl, hb6⟩
  rw [sm3]
  have HT6 := Lib.hid (HT5.out.below hb6)
  have HB6 := Lib.hid (HB5.out.trans (hb6.mono HB5.out.size))
  clear hb6 HB5 HT5
  go_wp2_with fail
  refine (fence_any (fun _ => True) A4 c4 S7 7 _ right_S7 HT6.out).mono ?_
  rintro e w7 ⟨A7, c7, rfl, ht7, hb7⟩
  rw [sm4] at ht7 ⊢
  have HT7 := Lib.hid (ht7.mono (Q := fun _ => True) fun _ _ _ => trivial)
  have HB7 := Lib.hid (HB6.out.trans (hb7.mono HB6.out.size))
  clear hb7 HB6 HT6 ht7
  go_wp2_with fail
  refine (record_any _ _ _ _).mono ?_
  rintro e w8 ⟨rfl, hb8⟩
  have HT8 := Lib.hid (HT7.out.below hb8)
  have HB8 := Lib.hid (HB7.out.trans (hb8.mono HB7.out.size))
  clear hb8 HB7 HT7
  go_wp2_with fail
  refine (look_any (fun _ => True) A7 c7 T7 _ 7 0 1 _ _ _ _ _ _ _ right_T7 HT8.out).mono ?_
  rintro e w9 ⟨rfl, hb9⟩
  rw [sm5]
  have HT9 := Lib.hid (HT8.out.below hb9)
  have HB9 := Lib.hid (HB8.out.trans (hb9.mono HB8.out.size))
  clear hb9 HB8 HT8
  go_wp2_with fail
  refine (record_any _ _ _ _).mono ?_
  rintro e w10 ⟨rfl, hb10⟩
  have HT10 := Lib.hid (HT9.out.below hb10)
  have HB10 := Lib.hid (HB9.out.trans (hb10.mono HB9.out.size))
  clear hb10 HB9 HT9
  go_wp2_with fail
  refine (look_any (fun _ => True) A7 c7 T7 _ 7 1 0 _ _ _ _ _ _ _ right_T7 HT10.out).mono ?_
  rintro e w11 ⟨rfl, hb11⟩
  rw [sm6]
  have HT11 := Lib.hid (HT10.out.below hb11)
  have HB11 := Lib.hid (HB10.out.trans (hb11.mono HB10.out.size))
  clear hb11 HB10 HT10
  go_wp2_with fail
  refine (record_any _ _ _ _).mono ?_
  rintro e w12 ⟨rfl, hb12⟩
  have HT12 := Lib.hid (HT11.out.below hb12)
  have HB12 := Lib.hid (HB11.out.trans (hb12.mono HB11.out.size))
  clear hb12 HB11 HT11
  go_wp2_with fail
  refine (look_any (fun _ => True) A7 c7 T7 _ 8 0 1 _ _ _ _ _ _ _ right_T7 HT12.out).mono ?_
  rintro e w13 ⟨rfl, hb13⟩
  rw [sm7]
  have HT13 := Lib.hid (HT12.out.below hb13)
  have HB13 := Lib.hid (HB12.out.trans (hb13.mono HB12.out.size))
  clear hb13 HB12 HT12
  go_wp2_with fail
  refine (pright_yes (fun _ => True) A7 c7 T7 _ right_T7 HT13.out).mono ?_
  rintro e w14 ⟨rfl, hb14⟩
  have HB14 := Lib.hid (HB13.out.trans (hb14.mono HB13.out.size))
  clear hb14
  go_wp2
  go_ret
  exact ⟨rfl, HB14.out⟩
end Go.Proofs.Ytghciaaedjomjaa
