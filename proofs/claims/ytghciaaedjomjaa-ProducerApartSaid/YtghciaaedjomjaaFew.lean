/- law 10: few; the reference's Right. -/
import Derived.Test.YtghciaaedjomjaaProdM
namespace Go.Proofs.Ytghciaaedjomjaa
open Go.RowKit

def FewPost (w : World) (s : List Prd) (e : Ending) (w' : World) : Prop := ∃ B : Bool, e = .returned (.bool B) ∧ (B = true → s.length ≤ 60) ∧ w' = w
def RRPost (w : World) (s : List Prd) (e : Ending) (w' : World) : Prop := ∃ B : Bool, e = .returned (.bool B) ∧ (B = true → RightP s) ∧ Below w.heap.size w w'
set_option maxHeartbeats 2000000 in
set_option maxRecDepth 100000 in
theorem few_any (P : Nat → Prop) (A : Option Addr) (c : Nat) (s : List Prd) (w : World) (hr : TabP P w A c s) :
    Calls Try.prog 13 #[.slice A s.length c] w (FewPost w s) := by
  obtain ⟨raw, hr1, hr2⟩ := hr
  have HR1 := Lib.hid hr1
  have hl := hr2.1
  clear hr1 hr2
  go_enter Try.func13, Try.ntmps13
  go_wp2_with fail
  go_loopg [3] 100 (fun gg s3 wr => ∃ k : Nat, s3 = .int .i64 k ∧ k ≤ s.length ∧ k ≤ 100 ∧ 100 - k ≤ gg ∧ wr = w)
  case atStart => exact ⟨0, rfl, by omega, by omega, by omega, rfl⟩
  case round =>
    obtain ⟨k, rfl, hk, hk100, hg, rfl⟩ := hrel
    by_cases hlt : k < s.length
    · have hltz : (k : Int) < (s.length : Int) := by omega
      have hltb : decide ((k : Int) < (s.length : Int)) = true := decide_eq_true hltz
      by_cases h100 : k < 100
      · have h100z : (k : Int) < 100 := by omega
        have h100b : decide ((k : Int) < 100) = true := decide_eq_true h100z
        obtain ⟨b, off, rfl, hb, hcells⟩ := HR1.out.1.2.2 (by omega)
        obtain ⟨x, hx⟩ : ∃ x, raw[k]? = some x := ⟨_, List.getElem?_eq_getElem (by omega)⟩
        obtain ⟨c0, c1, c2, c3⟩ := cellsP hcells hb (Below.refl _ _) hx
        clear hx hcells
        by_cases h30 : 30 < x.ln
        · have h30z : (30 : Int) < (x.ln : Int) := by omega
          go_wp2_with fail
          go_ret
          exact ⟨false, rfl, (fun h => by cases h), rfl⟩
        · have h30z : ¬ (30 : Int) < (x.ln : Int) := by omega
          go_wp2_with fail
          go_roundg (100 - (k + 1))
          case measure => omega
          case rel => exact ⟨k + 1, by go_num, by omega, by omega, by omega, rfl⟩
      · have h100z : ¬ (k : Int) < 100 := by omega
        have h100b : decide ((k : Int) < 100) = false := decide_eq_false h100z
        have hbig : ¬ (s.length : Int) ≤ 60 := by omega
        go_wp2_with fail
        go_ret
        exact ⟨_, rfl, (fun h => by simp at h <;> omega), rfl⟩
    · have hltz : ¬ (k : Int) < (s.length : Int) := by omega
      have hltb : decide ((k : Int) < (s.length : Int)) = false := decide_eq_false hltz
      go_wp2_with fail
      go_ret
      exact ⟨_, rfl, (fun h => by simp at h <;> omega), rfl⟩

theorem rin_any (n : Int) (w : World) : Calls Try.prog 33 #[.int .i64 n] w fun e w' => e = .returned (.bool (inB n)) ∧ w' = w := by
  by_cases h1 : 0 ≤ n
  · by_cases h2 : n ≤ 1099511627776
    · go_enter Try.func33, Try.ntmps33
      go_wp2
      go_ret
      exact ⟨by simp [inB, h1, h2], rfl⟩
    · go_enter Try.func33, Try.ntmps33
      go_wp2
      go_ret
      exact ⟨by simp [inB, h2]; try omega, rfl⟩
  · go_enter Try.func33, Try.ntmps33
    go_wp2
    go_ret
    exact ⟨ret_bool (by unfold inB; rw [decide_eq_false (by omega)]), rfl⟩
theorem inB_in {n : Int} (h : inB n = true) : inN n := of_decide_eq_true h

set_option maxHeartbeats 4000000 in
set_option maxRecDepth 100000 in
theorem rright_any (P : Nat → Prop) (A : Option Addr) (c : Nat) (s : List Prd) (w : World) (hr : TabP P w A c s) :
    Calls Try.prog 14 #[.slice A s.length c] w (RRPost w s) := by
  obtain ⟨raw, hr1, hr2⟩ := hr
  have HR1 := Lib.hid hr1
  have HR2 := Lib.hid hr2
  have hl := hr2.1
  clear hr1 hr2
  by_cases h50 : 50 < s.length
  · have h50z : (50 : Int) < (s.length : Int) := by omega
    go_enter Try.func14, Try.ntmps14
    go_wp2_with fail
    go_ret
    exact ⟨false, rfl, (fun h => by cases h), Below.refl _ _⟩
  · have h50z : ¬ (50 : Int) < (s.length : Int) := by omega
    go_enter Try.func14, Try.ntmps14
    go_wp2_with fail
    go_loopg [3, 4] s.length (fun gg s3 s4 wr => ∃ (k : Nat) (ID : Int), s4 = .int .i64 k ∧ k ≤ s.length ∧ s.length - k ≤ gg ∧ s3 = .int .i64 ID ∧ Hid (∀ p ∈ s.take k, FineP p ∧ p.id ≤ ID) ∧ Hid ((s.take k).Pairwise fun a b => a.id < b.id) ∧ Hid (Below w.heap.size w wr))
    case atStart => exact ⟨0, -1, rfl, by omega, by omega, rfl, Lib.hid (by intro p hp; simp at hp), Lib.hid (by simp), Below.refl _ _⟩
    case round =>
      obtain ⟨k, ID, rfl, hk, hg, rfl, HF, HPW, HB⟩ := hrel
      revert HF HPW HB
      revert wr
      intro wo HF HPW HB
      by_cases hlt : k < s.length
      · have hltz : (k : Int) < (s.length : Int) := by omega
        obtain ⟨b, off, rfl, hb, hcells⟩ := HR1.out.1.2.2 (by omega)
        obtain ⟨x, hx⟩ : ∃ x, raw[k]? = some x := ⟨_, List.getElem?_eq_getElem (by omega)⟩
        obtain ⟨p, hp⟩ : ∃ p, s[k]? = some p := ⟨_, List.getElem?_eq_getElem hlt⟩
        obtain ⟨c0, c1, c2, c3⟩ := cellsP hcells hb HB.out hx
        have HOK := Lib.hid ((HR2.out.2 k x p hx hp).below HB.out)
        have HPS := Lib.hid hp
        have hbw : b < wo.heap.size := Nat.lt_of_lt_of_le hb HB.out.size
        have HBA : Hid (Below w.heap.size w (wo.alloc (.cells #[.int .i64 x.id, .int .i64 x.epoch, .int .i64 x.next, .slice x.la x.ln x.lc] 59))) := Lib.hid (HB.out.alloc HB.out.size _)
        clear hx hp hcells
        by_cases hid : x.id ≤ ID
        · have hidb : decide (x.id ≤ ID) = true := decide_eq_true hid
          go_wp2_with fail
          go_ret
          exact ⟨false, rfl, (fun h => by cases h), HBA.out⟩
        · have hidb : decide (x.id ≤ ID) = false := decide_eq_false hid
          go_wp2_with fail
          refine (rin_any _ _).mono ?_
          rintro e w' ⟨rfl, rfl⟩
          cases i1 : inB x.id with
          | false =>
            go_wp2_with fail
            go_ret
            exact ⟨false, rfl, (fun h => by cases h), HBA.out⟩
          | true =>
            go_wp2_with fail
            refine (rin_any _ _).mono ?_
            rintro e w' ⟨rfl, rfl⟩
            cases i2 : inB x.epoch with
            | false =>
              go_wp2_with fail
              go_ret
              exact ⟨false, rfl, (fun h => by cases h), HBA.out⟩
            | true =>
              go_wp2_with fail
              refine (rin_any _ _).mono ?_
              rintro e w' ⟨rfl, rfl⟩
              cases i3 : inB x.next with
              | false =>
                go_wp2_with fail
                go_ret
                exact ⟨false, rfl, (fun h => by cases h), HBA.out⟩
              | true =>
                cases hmn : ((x.ln : Int) != min x.next 20) with
                | true =>
                  go_wp2_with fail
                  go_ret
                  exact ⟨false, rfl, (fun h => by cases h), HBA.out⟩
                | false =>
                  have hmin : (x.ln : Int) = min x.next 20 := by simpa using hmn
                  have hln : x.ln ≤ 20 := by omega
                  have HN : Hid (inN x.id ∧ inN x.epoch ∧ inN x.next ∧ (x.ln : Int) = min x.next 20 ∧ ID < x.id) := Lib.hid ⟨inB_in i1, inB_in i2, inB_in i3, hmin, by omega⟩
                  have HXB : Hid (Blk (wo.alloc (.cells #[.int .i64 x.id, .int .i64 x.epoch, .int .i64 x.next, .slice x.la x.ln x.lc] 59)) wo.heap.size 59 #[.int .i64 x.id, .int .i64 x.epoch, .int .i64 x.next, .slice x.la x.ln x.lc]) := Lib.hid (Blk.new wo _ _)
                  have HSL : Hid (SlT 1 eI wo x.la x.ln x.lc p.last) := Lib.hid HOK.out.2.2.2.2.1
                  have HLL : Hid (p.last.length = x.ln) := Lib.hid HSL.out.1
                  clear hmin
                  obtain ⟨xid, xep, xnx, xla, xln, xlc⟩ := x
                  simp only at *
                  go_wp2_with fail
                  go_loopg [6, 7] xln (fun gg s6 s7 wx => ∃ (q : Nat) (LA : Int), s7 = .int .i64 q ∧ q ≤ xln ∧ xln - q ≤ gg ∧ s6 = .int .i64 LA ∧ Hid (∀ y ∈ p.last.take q, inN y ∧ y ≤ LA) ∧ Hid ((p.last.take q).Pairwise (· < ·)) ∧ wx = wo.alloc (.cells #[.int .i64 xid, .int .i64 xep, .int .i64 xnx, .slice xla xln xlc] 59))
                  case atStart => exact ⟨0, -1, rfl, by omega, by omega, rfl, Lib.hid (by intro y hy; simp at hy), Lib.hid (by simp), rfl⟩
                  case round =>
                    obtain ⟨q, LA, rfl, hq, hgq, rfl, HY, HYP, rfl⟩ := hrel
                    by_cases hql : q < xln
                    · have hqlz : (q : Int) < (xln : Int) := by omega
                      obtain ⟨lb, lo, rfl, hlb, hlc⟩ := HSL.out.2.2 (by omega)
                      obtain ⟨y, hy⟩ : ∃ y, p.last[q]? = some y := ⟨_, List.getElem?_eq_getElem (by have := HLL.out; omega)⟩
                      have l0 := cellsI hlc hlb ((Below.refl _ wo).alloc (Nat.le_refl _) (.cells #[.int .i64 xid, .int .i64 xep, .int .i64 xnx, .slice (some ⟨lb, lo, none⟩) xln xlc] 59)) hy
                      have HYY := Lib.hid hy
                      clear hy hlc
                      by_cases hya : y ≤ LA
                      · have hyb : decide (y ≤ LA) = true := decide_eq_true hya
                        go_wp2_with fail
                        go_ret
                        exact ⟨false, rfl, (fun h => by cases h), HBA.out⟩
                      · have hyb : decide (y ≤ LA) = false := decide_eq_false hya
                        go_wp2_with fail
                        refine (rin_any _ _).mono ?_
                        rintro e w' ⟨rfl, rfl⟩
                        cases iy : inB y with
                        | false =>
                          go_wp2_with fail
                          go_ret
                          exact ⟨false, rfl, (fun h => by cases h), HBA.out⟩
                        | true =>
                          have HIY := Lib.hid (inB_in iy)
                          go_wp2_with fail
                          go_roundg (xln - (q + 1))
                          case measure => omega
                          case rel =>
                            have ht : p.last.take (q + 1) = p.last.take q ++ [y] := by rw [List.take_add_one, HYY.out]; rfl
                            refine ⟨q + 1, y, by go_num, by omega, by omega, rfl, Lib.hid ?_, Lib.hid ?_, rfl⟩
                            · intro z hz
                              rw [ht] at hz
                              rcases List.mem_append.1 hz with hz | hz
                              · have := HY.out z hz
                                exact ⟨this.1, by omega⟩
                              · rw [List.mem_singleton.1 hz]
                                exact ⟨HIY.out, Int.le_refl _⟩
                            · rw [ht]
                              refine List.pairwise_append.2 ⟨HYP.out, by simp, fun a ha z hz => ?_⟩
                              rw [List.mem_singleton.1 hz]
                              have := (HY.out a ha).2
                              omega
                    · have hqlz : ¬ (q : Int) < (xln : Int) := by omega
                      obtain rfl : q = xln := by omega
                      have HFP : Hid (FineP p ∧ p.id = xid) := Lib.hid (by
                        obtain ⟨o1, o2, o3, o4, o5⟩ := HOK.out
                        obtain ⟨n1, n2, n3, n4, n5⟩ := HN.out
                        simp only at o1 o2 o3 o4
                        have hlt2 : p.last.take q = p.last := List.take_of_length_le (by have := HLL.out; omega)
                        refine ⟨⟨by rw [← o1]; exact n1, by rw [← o2]; exact n2, by rw [← o3]; exact n3, by rw [← o3, ← n4, ← o4], ?_, ?_⟩, o1.symm⟩
                        · have := HYP.out
                          rwa [hlt2] at this
                        · intro y hy
                          exact (HY.out y (by rw [hlt2]; exact hy)).1)
                      go_wp2_with fail
                      go_roundg (s.length - (k + 1))
                      case measure => omega
                      case rel =>
                        have ht : s.take (k + 1) = s.take k ++ [p] := by rw [List.take_add_one, HPS.out]; rfl
                        refine ⟨k + 1, xid, by go_num, by omega, by omega, rfl, Lib.hid ?_, Lib.hid ?_, HBA.out⟩
                        · intro z hz
                          rw [ht] at hz
                          have h5 := HN.out.2.2.2.2
                          rcases List.mem_append.1 hz with hz | hz
                          · have := HF.out z hz
                            exact ⟨this.1, by omega⟩
                          · rw [List.mem_singleton.1 hz]
                            exact ⟨HFP.out.1, by rw [HFP.out.2]; exact Int.le_refl _⟩
                        · rw [ht]
                          refine List.pairwise_append.2 ⟨HPW.out, by simp, fun a ha z hz => ?_⟩
                          rw [List.mem_singleton.1 hz, HFP.out.2]
                          have := (HF.out a ha).2
                          have h5 := HN.out.2.2.2.2
                          omega
      · have hltz : ¬ (k : Int) < (s.length : Int) := by omega
        obtain rfl : k = s.length := by omega
        go_wp2_with fail
        go_ret
        refine ⟨true, rfl, fun _ => ⟨fun p hp => ?_, ?_, by omega⟩, HB.out⟩
        · exact (HF.out p (by rw [List.take_length]; exact hp)).1
        · have := HPW.out
          rwa [List.take_length] at this
end Go.Proofs.Ytghciaaedjomjaa
