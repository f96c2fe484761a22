/- producer: Fence. -/
import Derived.Test.YtghciaaedjomjaaProdI
import Derived.Deep.RegionHeld3
namespace Go.Proofs.Ytghciaaedjomjaa
open Go.RowKit

theorem TabP.drew {P : Nat → Prop} {w : World} {A : Option Addr} {c : Nat} {s : List Prd} (h : TabP P w A c s) : TabP P w.drew A c s := h
def FencePost (w : World) (r : List Prd × Int × Int) (e : Ending) (w' : World) : Prop := ∃ A c, e = .returned (.tuple #[.slice A r.1.length c, .int .i64 r.2.1, .int .i64 r.2.2]) ∧ TabP (fun b => w.heap.size ≤ b) w' A c r.1 ∧ Below w.heap.size w w'

set_option maxHeartbeats 2000000 in
set_option maxRecDepth 100000 in
theorem fence_any (P : Nat → Prop) (A : Option Addr) (c : Nat) (s : List Prd) (id : Int) (w : World) (hs : RightP s) (hr : TabP P w A c s) :
    Calls Try.prog 8 #[.slice A s.length c, .int .i64 id] w (FencePost w (fenceF s id)) := by
  have hfew := hs.few
  have HR := Lib.hid hr
  have HS := Lib.hid hs
  have hcase : ((inB id = false ∨ (inB id = true ∧ (id == 1099511627776) = true) ∨ (inB id = true ∧ (id == 1099511627776) = false ∧ (getP s id).epoch = 1099511627776)) ∧ fenceF s id = ([], 0, 1)) ∨
      (inB id = true ∧ (id == 1099511627776) = false ∧ 0 ≤ (getP s id).epoch ∧ (getP s id).epoch < 1099511627776 ∧ inN id ∧ (((findP s id).isSome = false ∧ 50 ≤ s.length ∧ fenceF s id = ([], 0, 6)) ∨
        (((findP s id).isSome = true ∨ ((findP s id).isSome = false ∧ s.length < 50)) ∧ fenceF s id = (withP s ⟨id, (getP s id).epoch + 1, 0, []⟩, (getP s id).epoch + 1, 0)))) := by
    unfold fenceF
    rcases num_cases id with ⟨a, b, q, q2⟩ | ⟨a, q⟩ | ⟨a, q, q2⟩
    · by_cases he : (getP s id).epoch = 1099511627776
      · exact .inl ⟨.inr (.inr ⟨q, q2, he⟩), by rw [if_pos (.inr he)]⟩
      · have hf := (getP_fine hs (id := id) ⟨a, by omega⟩).epoch
        unfold inN at hf
        refine .inr ⟨q, q2, hf.1, by omega, ⟨a, by omega⟩, ?_⟩
        rw [if_neg (by omega)]
        by_cases h4 : findP s id = none ∧ 50 ≤ s.length
        · exact .inl ⟨by rw [h4.1]; rfl, h4.2, by rw [if_pos h4]⟩
        · rw [if_neg h4]
          refine .inr ⟨?_, rfl⟩
          cases hfp : findP s id with
          | none => exact .inr ⟨rfl, by rcases Nat.lt_or_ge s.length 50 with h | h; exact h; exact absurd ⟨hfp, h⟩ h4⟩
          | some x => exact .inl rfl
    · exact .inl ⟨.inl q, by rw [if_pos (.inl a)]⟩
    · exact .inl ⟨.inr (.inl ⟨q, q2⟩), by rw [if_pos (.inl a)]⟩
  have HCASE := Lib.hid hcase
  clear hr hs hcase
  go_enter Try.func8, Try.ntmps8
  go_wp2_with fail
  refine (find_any P A c s id _ HR.out (by omega)).mono ?_
  rintro e w1 ⟨r, rfl, hok, hb1⟩
  have HOK := Lib.hid hok
  have HBW := Lib.hid hb1
  have hcase := HCASE.out
  have hre : r.epoch = (getP s id).epoch := hok.2.1
  rw [← hre] at hcase
  have hs1 := hb1.size
  clear hok hb1 HCASE
  generalize (findP s id).isSome = T at hcase ⊢
  rcases hcase with ⟨hbad, HE⟩ | ⟨b1, b2, e0, e1, hid, hcase⟩
  · have HE' := Lib.hid HE
    clear HE hre
    rcases hbad with b1 | ⟨b1, b2⟩ | ⟨b1, b2, b3⟩
    · go_wp2_with fail
      refine (in_any _ _).mono ?_
      rintro e w' ⟨rfl, rfl⟩
      rw [b1]
      go_wp2
      go_ret3
      rw [HE'.out]
      exact ⟨none, 0, rfl, TabP.nil _ _, HBW.out.alloc hs1 _⟩
    · go_wp2_with fail
      refine (in_any _ _).mono ?_
      rintro e w' ⟨rfl, rfl⟩
      rw [b1]
      go_wp2
      go_ret3
      rw [HE'.out]
      exact ⟨none, 0, rfl, TabP.nil _ _, HBW.out.alloc hs1 _⟩
    · go_wp2_with fail
      refine (in_any _ _).mono ?_
      rintro e w' ⟨rfl, rfl⟩
      rw [b1]
      have b4 : (r.epoch == 1099511627776) = true := by simp [b3]
      clear b3
      go_wp2
      go_ret3
      rw [HE'.out]
      exact ⟨none, 0, rfl, TabP.nil _ _, HBW.out.alloc hs1 _⟩
  · have b3 : (r.epoch == 1099511627776) = false := by simp; omega
    have HRE := Lib.hid hre
    clear hre
    rcases hcase with ⟨rfl, h50, HE⟩ | ⟨hT, HE⟩
    · have HE' := Lib.hid HE
      have h50b : decide ((50 : Int) ≤ (s.length : Int)) = true := decide_eq_true (by omega)
      have h50z : (50 : Int) ≤ (s.length : Int) := by omega
      clear HE
      go_wp2_with fail
      refine (in_any _ _).mono ?_
      rintro e w' ⟨rfl, rfl⟩
      rw [b1]
      go_wp2
      go_ret3
      rw [HE'.out]
      exact ⟨none, 0, rfl, TabP.nil _ _, HBW.out.alloc hs1 _⟩
    · have HE' := Lib.hid HE
      have hTT : T = true ∨ (T = false ∧ decide ((50 : Int) ≤ (s.length : Int)) = false ∧ ¬ (50 : Int) ≤ (s.length : Int)) := by
        rcases hT with h | ⟨h, h2⟩
        · exact .inl h
        · exact .inr ⟨h, decide_eq_false (by omega), by omega⟩
      clear HE hT
      have hfresh : inN id := hid
      have HID := Lib.hid hfresh
      clear hid hfresh
      go_wp2_with fail
      refine (in_any _ _).mono ?_
      rintro e w' ⟨rfl, rfl⟩
      rw [b1]
      rcases hTT with rfl | ⟨rfl, hTb, hTz⟩
      all_goals
        go_wp2_with fail
        have HKB := Lib.hid (Blk.new w1 59 #[.int .i64 id, .int .i64 (r.epoch + 1), .int .i64 0, .slice none 0 0])
        obtain ⟨m0, m1, m2, m3, mf⟩ := HKB.out.four
        have hsz : w.heap.size ≤ (w1.alloc (.cells #[.int .i64 id, .int .i64 (r.epoch + 1), .int .i64 0, .slice none 0 0] 59)).heap.size := by simp; omega
        have HBA : Hid (Below w.heap.size w (w1.alloc (.cells #[.int .i64 id, .int .i64 (r.epoch + 1), .int .i64 0, .slice none 0 0] 59))) := Lib.hid (HBW.out.alloc hs1 _)
        have HTA : Hid (TabP P (w1.alloc (.cells #[.int .i64 id, .int .i64 (r.epoch + 1), .int .i64 0, .slice none 0 0] 59)) A c s) := Lib.hid (HR.out.below HBA.out)
        go_region_held3 (fun w' => w'.cell? ⟨w1.heap.size, 0, none⟩ = some (.int .i64 id) ∧ w'.cell? ⟨w1.heap.size, 1, none⟩ = some (.int .i64 (r.epoch + 1)) ∧ w'.cell? ⟨w1.heap.size, 2, none⟩ = some (.int .i64 0) ∧ w'.cell? ⟨w1.heap.size, 3, none⟩ = some (.slice none 0 0)) (go_keep) ((go_at_call 29; refine (with_any P (fun b => w.heap.size ≤ b) A c s ⟨id, r.epoch + 1, 0, []⟩ ⟨id, r.epoch + 1, 0, none, 0, 0⟩ _ HS.out HTA.out.drew ⟨rfl, rfl, rfl, rfl, SlP.nil _ _⟩ HID.out (fun b hb => Nat.le_trans hsz hb)).mono ?_; rintro e w7 ⟨A7, c7, rfl, ht7, hb7⟩; obtain ⟨p0, p1, p2, p3, pf⟩ := (HKB.out.drew.below hb7 HKB.out.lt).four; have HT7 := Lib.hid ht7; have HB7 : Hid (Below w.heap.size w w7) := Lib.hid (HBA.out.drew.trans (hb7.mono hsz)); clear ht7 hb7))
        go_wp2
        go_ret3
        rw [HE'.out]
        exact ⟨A7, c7, rfl, HT7.out, HB7.out⟩
end Go.Proofs.Ytghciaaedjomjaa
