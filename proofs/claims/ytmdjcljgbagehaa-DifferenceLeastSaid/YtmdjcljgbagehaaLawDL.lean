/- The law DifferenceLeast holds of whatever lists. -/
import Derived.Test.YtmdjcljgbagehaaSmlA
namespace Go.Proofs.Ytmdjcljgbagehaa
open Go.RowKit

set_option maxHeartbeats 8000000 in
set_option maxRecDepth 100000 in
theorem least_law (A B C : Option Addr) (ca cb cc : Nat) (a b way : List Dl) (w : World) (ha : DlIn w A ca a) (hb : DlIn w B cb b) (hc : DlIn w C cc way) :
    Calls Try.prog 4 #[.slice A a.length ca, .slice B b.length cb, .slice C way.length cc] w (BoolPost w true) := by
  have HA := Lib.hid ha
  have HB := Lib.hid hb
  have HC := Lib.hid hc
  clear ha hb hc
  go_enter Try.func4, Try.ntmps4
  go_wp2_with fail
  refine (small_any _).mono ?_
  rintro e w1 ⟨rfl, hb1⟩
  have HW1 := Lib.hid hb1
  clear hb1
  go_wp2_with fail
  refine (right_any A ca a _ (HA.out.below HW1.out) 50 (by omega)).mono ?_
  rintro e w2 ⟨r1, rfl, hr1, hb2⟩
  have HW2 := Lib.hid (HW1.out.trans (hb2.mono HW1.out.size))
  have HR1 := Lib.hid hr1
  clear hb2 hr1
  cases r1 with
  | false =>
    go_wp2
    go_ret
    exact ⟨rfl, HW2.out⟩
  | true =>
  have HR1' : Hid (a.length ≤ 50 ∧ ∀ d ∈ a, d.rn ≤ 12) := Lib.hid (HR1.out (by first | trivial | rfl))
  clear HR1
  go_wp2_with fail
  refine (right_any B cb b _ (HB.out.below HW2.out) 50 (by omega)).mono ?_
  rintro e w3 ⟨r2, rfl, hr2, hb3⟩
  have HW3 := Lib.hid (HW2.out.trans (hb3.mono HW2.out.size))
  have HR2 := Lib.hid hr2
  clear hb3 hr2
  cases r2 with
  | false =>
    go_wp2
    go_ret
    exact ⟨rfl, HW3.out⟩
  | true =>
  have HR2' : Hid (b.length ≤ 50 ∧ ∀ d ∈ b, d.rn ≤ 12) := Lib.hid (HR2.out (by first | trivial | rfl))
  clear HR2
  go_wp2_with fail
  refine (right_any C cc way _ (HC.out.below HW3.out) 50 (by omega)).mono ?_
  rintro e w4 ⟨r3, rfl, hr3, hb4⟩
  have HW4 := Lib.hid (HW3.out.trans (hb4.mono HW3.out.size))
  have HR3 := Lib.hid hr3
  clear hb4 hr3
  cases r3 with
  | false =>
    go_wp2
    go_ret
    exact ⟨rfl, HW4.out⟩
  | true =>
  have HR3' : Hid (way.length ≤ 50 ∧ ∀ d ∈ way, d.rn ≤ 12) := Lib.hid (HR3.out (by first | trivial | rfl))
  clear HR3
  have la := HR1'.out.1
  have lb := HR2'.out.1
  have lw := HR3'.out.1
  have DA := Lib.hid ((HA.out.below HW4.out).at HR1'.out.2)
  have DB := Lib.hid ((HB.out.below HW4.out).at HR2'.out.2)
  have DC := Lib.hid ((HC.out.below HW4.out).at HR3'.out.2)
  clear HA HB HC HR1' HR2' HR3' HW1 HW2 HW3
  go_wp2_with fail
  refine (diff_any (fun _ => True) (fun _ => True) A B ca cb a b _ DA.out DB.out (by omega)).mono ?_
  rintro e w5 ⟨A5, c5, d, rfl, hd5, ld, hat5, hb5⟩
  have CD := Lib.hid hd5
  have DD := Lib.hid hat5.any
  have DA5 := Lib.hid (DA.out.below hb5)
  have DB5 := Lib.hid (DB.out.below hb5)
  have DC5 := Lib.hid (DC.out.below hb5)
  have HW5 := Lib.hid (HW4.out.trans (hb5.mono HW4.out.size))
  have ld' : d.length ≤ 100 := by simp at ld; omega
  clear hd5 hat5 hb5 DA DB DC HW4 ld
  go_wp2_with fail
  refine (add_any (fun _ => True) (fun _ => True) A A5 ca c5 a d _ DA5.out DD.out (by omega)).mono ?_
  rintro e w6 ⟨A6, c6, o6, rfl, hd6, ld6, hat6, hb6⟩
  have C6 := Lib.hid hd6
  have D6 := Lib.hid hat6.any
  have DA6 := Lib.hid (DA5.out.below hb6)
  have DB6 := Lib.hid (DB5.out.below hb6)
  have DC6 := Lib.hid (DC5.out.below hb6)
  have DD6 := Lib.hid (DD.out.below hb6)
  have HW6 := Lib.hid (HW5.out.trans (hb6.mono HW5.out.size))
  have l6 : o6.length ≤ 150 := by simp at ld6; omega
  clear hd6 hat6 hb6 DA5 DB5 DC5 DD HW5 ld6
  go_wp2_with fail
  refine (same_any (fun _ => True) (fun _ => True) A6 B c6 cb o6 b _ D6.out DB6.out (by omega) (by omega)).mono ?_
  rintro e w7 ⟨r7, rfl, hr7, hb7⟩
  obtain rfl := hr7.2 (fun k => by rw [w64_id_of C6.out k, diff_add CD.out k])
  have DA7 := Lib.hid (DA6.out.below hb7)
  have DB7 := Lib.hid (DB6.out.below hb7)
  have DC7 := Lib.hid (DC6.out.below hb7)
  have DD7 := Lib.hid (DD6.out.below hb7)
  have HW7 := Lib.hid (HW6.out.trans (hb7.mono HW6.out.size))
  clear hr7 hb7 DA6 DB6 DC6 DD6 HW6 D6 C6
  go_wp2_with fail
  refine (consd_any (fun _ => True) A5 c5 d _ DD7.out CD.out.cons (by omega)).mono ?_
  rintro e w8 ⟨rfl, hb8⟩
  have DA8 := Lib.hid (DA7.out.below hb8)
  have DB8 := Lib.hid (DB7.out.below hb8)
  have DC8 := Lib.hid (DC7.out.below hb8)
  have DD8 := Lib.hid (DD7.out.below hb8)
  have HW8 := Lib.hid (HW7.out.trans (hb8.mono HW7.out.size))
  clear hb8 DA7 DB7 DC7 DD7 HW7
  go_wp2_with fail
  refine (diff_any (fun _ => True) (fun _ => True) A A ca ca a a _ DA8.out DA8.out (by omega)).mono ?_
  rintro e w9 ⟨A9, c9, o9, rfl, hd9, _, _, hb9⟩
  obtain rfl := diff_self hd9
  have DA9 := Lib.hid (DA8.out.below hb9)
  have DB9 := Lib.hid (DB8.out.below hb9)
  have DC9 := Lib.hid (DC8.out.below hb9)
  have DD9 := Lib.hid (DD8.out.below hb9)
  have HW9 := Lib.hid (HW8.out.trans (hb9.mono HW8.out.size))
  clear hb9 DA8 DB8 DC8 DD8 HW8 hd9
  go_wp2_with fail
  refine (add_any (fun _ => True) (fun _ => True) A C ca cc a way _ DA9.out DC9.out (by omega)).mono ?_
  rintro e w10 ⟨A10, c10, o10, rfl, hd10, ld10, hat10, hb10⟩
  have C10 := Lib.hid hd10
  have D10 := Lib.hid hat10.any
  have DAx := Lib.hid (DA9.out.below hb10)
  have DBx := Lib.hid (DB9.out.below hb10)
  have DDx := Lib.hid (DD9.out.below hb10)
  have HWx := Lib.hid (HW9.out.trans (hb10.mono HW9.out.size))
  have l10 : o10.length ≤ 100 := by simp at ld10; omega
  clear hd10 hat10 hb10 DA9 DB9 DC9 DD9 HW9 ld10
  go_wp2_with fail
  refine (diff_any (fun _ => True) (fun _ => True) A A10 ca c10 a o10 _ DAx.out D10.out (by omega)).mono ?_
  rintro e w11 ⟨A11, c11, o11, rfl, hd11, ld11, hat11, hb11⟩
  have C11 := Lib.hid hd11
  have D11 := Lib.hid hat11.any
  have DBy := Lib.hid (DBx.out.below hb11)
  have DDy := Lib.hid (DDx.out.below hb11)
  have D10y := Lib.hid (D10.out.below hb11)
  have HWy := Lib.hid (HWx.out.trans (hb11.mono HWx.out.size))
  have l11 : o11.length ≤ 150 := by simp at ld11; omega
  have hle := diff_least C10.out hd11
  have hlez : (o11.length : Int) ≤ (way.length : Int) := by omega
  have hleb : decide (o11.length ≤ way.length) = true := decide_eq_true hle
  clear hd11 hat11 hb11 DAx DBx DDx HWx D10 ld11
  go_wp2_with fail
  refine (diff_any (fun _ => True) (fun _ => True) B A10 cb c10 b o10 _ DBy.out D10y.out (by omega)).mono ?_
  rintro e w12 ⟨A12, c12, o12, rfl, hd12, ld12, hat12, hb12⟩
  have C12 := Lib.hid hd12
  have D12 := Lib.hid hat12.any
  have DDz := Lib.hid (DDy.out.below hb12)
  have D11z := Lib.hid (D11.out.below hb12)
  have HWz := Lib.hid (HWy.out.trans (hb12.mono HWy.out.size))
  have l12 : o12.length ≤ 150 := by simp at ld12; omega
  clear hd12 hat12 hb12 DBy DDy HWy D11 ld12 D10y
  go_wp2_with fail
  refine (add_any (fun _ => True) (fun _ => True) A5 A12 c5 c12 d o12 _ DDz.out D12.out (by omega)).mono ?_
  rintro e w13 ⟨A13, c13, o13, rfl, hd13, ld13, hat13, hb13⟩
  have C13 := Lib.hid hd13
  have D13 := Lib.hid hat13.any
  have D11v := Lib.hid (D11z.out.below hb13)
  have HWv := Lib.hid (HWz.out.trans (hb13.mono HWz.out.size))
  have l13 : o13.length ≤ 250 := by simp at ld13; omega
  clear hd13 hat13 hb13 DDz HWz D11z ld13 D12
  go_wp2_with fail
  refine (same_any (fun _ => True) (fun _ => True) A13 A11 c13 c11 o13 o11 _ D13.out D11v.out (by omega) (by omega)).mono ?_
  rintro e w14 ⟨r14, rfl, hr14, hb14⟩
  obtain rfl := hr14.2 (fun k => by rw [w64_id_of C13.out k, diff_chain CD.out C12.out C11.out k])
  have HWu := Lib.hid (HWv.out.trans (hb14.mono HWv.out.size))
  clear hr14 hb14 HWv
  go_wp2
  go_ret
  exact ⟨rfl, HWu.out⟩
end Go.Proofs.Ytmdjcljgbagehaa
