/- producer: BinarySearchFunc by the ids. -/
import Derived.Test.YtghciaaedjomjaaProdB
namespace Go.Proofs.Ytghciaaedjomjaa
open Go.RowKit

theorem sub_eq_beq (a b : Int) : (a - b == 0) = (a == b) := by
  rw [Bool.eq_iff_iff, beq_iff_eq, beq_iff_eq]
  omega
theorem cmp_any (a b c : Int) (la : Option Addr) (ln lc : Nat) (d : Int) (w : World) (ha : inN a) (hd : inN d) :
    Calls Try.prog 44 #[.agg #[.int .i64 a, .int .i64 b, .int .i64 c, .slice la ln lc], .int .i64 d] w fun x w' => x = .returned (.int .i64 (a - d)) ∧ Below w.heap.size w w' := by
  obtain ⟨a0, a1⟩ := ha
  obtain ⟨d0, d1⟩ := hd
  go_enter Try.func44, Try.ntmps44
  go_wp2
  go_ret
  exact ⟨rfl, (Below.refl _ _).alloc (Nat.le_refl _) _⟩

/-- The place of d in a table. -/
def PlaceOf (raw : List PRaw) (d : Int) (i : Nat) : Prop := i ≤ raw.length ∧ (∀ (j : Nat) (x : PRaw), j < i → raw[j]? = some x → x.id < d) ∧ (∀ (j : Nat) (x : PRaw), i ≤ j → raw[j]? = some x → d ≤ x.id)
def atB (raw : List PRaw) (d : Int) (i : Nat) : Bool := match raw[i]? with | some x => x.id == d | none => false

set_option maxHeartbeats 4000000 in
set_option maxRecDepth 100000 in
theorem bsearch_any (A : Option Addr) (n c : Nat) (raw : List PRaw) (d : Int) (w : World) (hr : SlT 4 encP w A n c raw) (hn : n ≤ 100000) (hs : raw.Pairwise fun a b => a.id < b.id) (hids : ∀ x ∈ raw, inN x.id) (hd : inN d) :
    Calls Try.prog 43 #[.slice A n c, .int .i64 d, .func (.func 44) #[] #[]] w fun e w' => ∃ i : Nat, e = .returned (.tuple #[.int .i64 i, .bool (atB raw d i)]) ∧ PlaceOf raw d i ∧ Below w.heap.size w w' := by
  have hl := hr.1
  have HR := Lib.hid hr
  have HS := Lib.hid hs
  have HIDS := Lib.hid hids
  have HD := Lib.hid hd
  have eg : ∀ args w, (callFunc 44 args).run Try.prog w = .ok (.enter 44 args) w := fun _ _ => by kernel_rfl
  clear hr hs hids hd
  go_enter Try.func43, Try.ntmps43
  go_wp2
  go_loopg [9, 10, 11] n (fun gg s9 s10 _ wr => ∃ i j : Nat, s9 = .int .i64 i ∧ s10 = .int .i64 j ∧ i ≤ j ∧ j ≤ n ∧ j - i ≤ gg ∧ Hid (∀ (a : Nat) (x : PRaw), a < i → raw[a]? = some x → x.id < d) ∧ Hid (∀ (a : Nat) (x : PRaw), j ≤ a → raw[a]? = some x → d ≤ x.id) ∧ Hid (Below w.heap.size w wr))
  case atStart => exact ⟨0, n, rfl, rfl, by omega, by omega, by omega, fun a x ha => absurd ha (Nat.not_lt_zero _), fun a x ha hx => by have := (List.getElem?_eq_some_iff.1 hx).1; omega, Below.refl _ _⟩
  case round =>
    obtain ⟨i, j, rfl, rfl, hij, hjn, hg, HLO, HHI, HW⟩ := hrel
    have hib : (i : Int) ≤ 1000000 := by omega
    have hjb : (j : Int) ≤ 1000000 := by omega
    by_cases hlt : i < j
    · have hltz : (i : Int) < (j : Int) := by omega
      obtain ⟨b, off, rfl, hb, hcells⟩ := HR.out.2.2 (by omega)
      obtain ⟨m, hm⟩ : ∃ m, m = (i + j) / 2 := ⟨_, rfl⟩
      have hmi : i ≤ m := by omega
      have hmj : m < j := by omega
      have hmb : (m : Int) ≤ 1000000 := by omega
      have hmz : (m : Int) < (n : Int) := by omega
      obtain ⟨x, hx⟩ : ∃ x, raw[m]? = some x := ⟨_, List.getElem?_eq_getElem (by omega)⟩
      obtain ⟨k0, k1, k2, k3⟩ := cellsP hcells hb HW.out hx
      have HX := Lib.hid hx
      have e : ((i : Int) + (j : Int)) / 2 = (m : Int) := by omega
      have HC : Hid (∀ W : World, Calls Try.prog 44 #[.agg #[.int .i64 x.id, .int .i64 x.epoch, .int .i64 x.next, .slice x.la x.ln x.lc], .int .i64 d] W fun e w' => e = .returned (.int .i64 (x.id - d)) ∧ Below W.heap.size W w') := Lib.hid fun W => cmp_any x.id x.epoch x.next x.la x.ln x.lc d W (HIDS.out x (List.mem_of_getElem? hx)) HD.out
      have hdb := HD.out
      have hxb := HIDS.out x (List.mem_of_getElem? hx)
      obtain ⟨hdb0, hdb1⟩ := hdb
      obtain ⟨hxb0, hxb1⟩ := hxb
      clear hx hcells hm
      by_cases hlo : x.id - d < 0
      · go_wp2_with fail
        refine (HC.out _).mono ?_
        rintro e w1 ⟨rfl, hb1⟩
        have HB1 := Lib.hid (HW.out.trans (hb1.mono HW.out.size))
        clear hb1
        go_wp2
        go_roundg (j - (m + 1))
        case measure => omega
        case rel =>
          refine ⟨m + 1, j, by go_num, rfl, by omega, by omega, by omega, Lib.hid fun a y ha hy => ?_, HHI.out, HB1.out⟩
          rcases Nat.lt_or_ge a m with h | h
          · obtain ⟨q1, q2⟩ := List.getElem?_eq_some_iff.1 hy
            obtain ⟨q3, q4⟩ := List.getElem?_eq_some_iff.1 HX.out
            have := List.pairwise_iff_getElem.1 HS.out a m q1 q3 h
            rw [q2, q4] at this
            omega
          · obtain rfl : a = m := by omega
            have := HX.out.symm.trans hy
            injection this with this
            rw [← this]
            omega
      · have hlo' : ¬ (x.id - d < 0) := hlo
        go_wp2_with fail
        refine (HC.out _).mono ?_
        rintro e w1 ⟨rfl, hb1⟩
        have HB1 := Lib.hid (HW.out.trans (hb1.mono HW.out.size))
        clear hb1
        go_wp2
        go_roundg (m - i)
        case measure => omega
        case rel =>
          refine ⟨i, m, rfl, rfl, by omega, by omega, by omega, HLO.out, Lib.hid fun a y ha hy => ?_, HB1.out⟩
          rcases Nat.lt_or_ge m a with h | h
          · obtain ⟨q1, q2⟩ := List.getElem?_eq_some_iff.1 hy
            obtain ⟨q3, q4⟩ := List.getElem?_eq_some_iff.1 HX.out
            have := List.pairwise_iff_getElem.1 HS.out m a q3 q1 h
            rw [q2, q4] at this
            omega
          · obtain rfl : a = m := by omega
            have := HX.out.symm.trans hy
            injection this with this
            rw [← this]
            omega
    · have hltz : ¬ (i : Int) < (j : Int) := by omega
      obtain rfl : i = j := by omega
      have HP : Hid (PlaceOf raw d i) := Lib.hid ⟨by omega, HLO.out, HHI.out⟩
      by_cases hin : i < n
      · obtain ⟨b, off, rfl, hb, hcells⟩ := HR.out.2.2 (by omega)
        have hinz : (i : Int) < (n : Int) := by omega
        have hinb : decide ((i : Int) < (n : Int)) = true := decide_eq_true hinz
        obtain ⟨x, hx⟩ : ∃ x, raw[i]? = some x := ⟨_, List.getElem?_eq_getElem (by omega)⟩
        obtain ⟨k0, k1, k2, k3⟩ := cellsP hcells hb HW.out hx
        have HAT : Hid (atB raw d i = (x.id == d)) := Lib.hid (by unfold atB; rw [hx])
        have HC : Hid (∀ W : World, Calls Try.prog 44 #[.agg #[.int .i64 x.id, .int .i64 x.epoch, .int .i64 x.next, .slice x.la x.ln x.lc], .int .i64 d] W fun e w' => e = .returned (.int .i64 (x.id - d)) ∧ Below W.heap.size W w') := Lib.hid fun W => cmp_any x.id x.epoch x.next x.la x.ln x.lc d W (HIDS.out x (List.mem_of_getElem? hx)) HD.out
        clear hx hcells
        go_wp2_with fail
        refine (HC.out _).mono ?_
        rintro e w1 ⟨rfl, hb1⟩
        have HB1 := Lib.hid (HW.out.trans (hb1.mono HW.out.size))
        clear hb1
        go_wp2
        go_ret2
        refine ⟨i, ?_, HP.out, HB1.out⟩
        rw [HAT.out, ← sub_eq_beq x.id d]
        rfl
      · have hinz : ¬ (i : Int) < (n : Int) := by omega
        have hinb : decide ((i : Int) < (n : Int)) = false := decide_eq_false hinz
        have HAT : Hid (atB raw d i = false) := Lib.hid (by unfold atB; rw [List.getElem?_eq_none (by omega)])
        go_wp2
        go_ret2
        refine ⟨i, ?_, HP.out, HW.out⟩
        rw [HAT.out]
        rfl
end Go.Proofs.Ytghciaaedjomjaa
