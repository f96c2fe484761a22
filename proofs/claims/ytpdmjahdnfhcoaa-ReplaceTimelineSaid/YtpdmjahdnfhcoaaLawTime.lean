/- ReplaceTimeline: the walk. -/
import Derived.Test.YtpdmjahdnfhcoaaRight
import Derived.Test.YtpdmjahdnfhcoaaLawAsks
namespace Go.Proofs.Ytpdmjahdnfhcoaa
open Go.RowKit

def encI (n : Int) : List Value := [.int .i64 n]
theorem encI_len (n : Int) : (encI n).length = 1 := rfl
def tmax (t : Int) : Int := if 0 ≤ t then t else 0
theorem want_take {l : List Rep} {j : Nat} {x : Rep} (hx : l[j]? = some x) (time w : Int) : (l.take (j + 1)).foldl (wstep time) w = wstep time ((l.take j).foldl (wstep time) w) x := by
  rw [List.take_add_one, hx]
  simp

/-- What the inner loops find. -/
def Seen (wB w : World) : Prop := Below wB.heap.size wB w

set_option maxHeartbeats 8000000 in
set_option maxRecDepth 100000 in
theorem time_any (A : Option Addr) (c : Nat) (ops : List OpD) (B : Option Addr) (d : Nat) (times : List Int) (w : World) (hr : SlT 7 encO w A ops.length c ops) (ht : SlT 1 encI w B times.length d times) :
    Calls Try.prog 5 #[.slice A ops.length c, .slice B times.length d] w fun e w' => e = .returned (.bool true) ∧ Below w.heap.size w w' := by
  have HR := Lib.hid hr
  have HT := Lib.hid ht
  clear hr ht
  by_cases hlen : 80 < ops.length ∨ 20 < times.length
  · rcases Nat.lt_or_ge 80 ops.length with h1 | h1
    · have hlz : (80 : Int) < (ops.length : Int) := by omega
      clear hlen
      go_enter Try.func5, Try.ntmps5
      go_wp2_with fail
      refine (small_any _).mono ?_
      rintro e w1 ⟨rfl, hb1⟩
      go_wp2
      go_ret
      exact ⟨rfl, hb1⟩
    · have hlz : ¬ (80 : Int) < (ops.length : Int) := by omega
      have hlt : (20 : Int) < (times.length : Int) := by omega
      clear hlen
      go_enter Try.func5, Try.ntmps5
      go_wp2_with fail
      refine (small_any _).mono ?_
      rintro e w1 ⟨rfl, hb1⟩
      go_wp2
      go_ret
      exact ⟨rfl, hb1⟩
  · have hlz : ¬ (80 : Int) < (ops.length : Int) := by omega
    have htz : ¬ (20 : Int) < (times.length : Int) := by omega
    clear hlen
    go_enter Try.func5, Try.ntmps5
    go_wp2_with fail
    refine (small_any _).mono ?_
    rintro e w1 ⟨rfl, hb1⟩
    have HB1 := Lib.hid hb1
    clear hb1
    go_wp2_with fail
    have hst := st0_at w1
    go_loopg [7] ops.length (fun gg s7 wr => ∃ i : Nat, s7 = .int .i64 i ∧ i ≤ ops.length ∧ ops.length - i ≤ gg ∧ Hid (StAt wr (w1.heap.size + 1) (runF (ops.take i))) ∧ Hid (Below w.heap.size w wr))
    case atStart => exact ⟨0, rfl, by omega, by omega, hst, (HB1.out.alloc HB1.out.size _).alloc (by have := HB1.out.size; simp; omega) _⟩
    case round =>
      clear hst
      obtain ⟨i, rfl, hi, hg, HS, HBr⟩ := hrel
      by_cases hlt : i < ops.length
      · have hltz : (i : Int) < (ops.length : Int) := by omega
        obtain ⟨b, off, rfl, hb, hcells⟩ := HR.out.2.2 (by omega)
        obtain ⟨x, hx⟩ : ∃ x, ops[i]? = some x := ⟨_, List.getElem?_eq_getElem hlt⟩
        obtain ⟨c0, c1, c2, c3, c4, c5, c6⟩ := cellsO hcells hb HBr.out hx
        have hln := runF_len ops i
        have hln1 := runF_len ops (i + 1)
        have hinv := run_inv ops (i + 1)
        have HX := Lib.hid hx
        clear hx hcells
        go_wp2_with fail
        refine (step_any (w1.heap.size + 1) (runF (ops.take i)) x _ HS.out (by omega) (by omega)).mono ?_
        rintro e w2 ⟨rfl, hst2, hg2⟩
        have HB2 := Lib.hid (HBr.out.grown hg2 HBr.out.size (by intro k hk; injection hk with hk; have := HB1.out.size; omega))
        have hst2' : StAt w2 (w1.heap.size + 1) (runF (ops.take (i + 1))) := by
          rw [List.take_add_one, HX.out]
          simp only [Option.toList_some, runF_snoc]
          exact hst2
        have HS2 := Lib.hid hst2'
        have hfin : runF (ops.take (i + 1)) = runF (ops.take (i + 1)) := rfl
        clear hst2 hst2' hg2 c0 c1 c2 c3 c4 c5 c6 hfin
        have HINV := Lib.hid hinv
        clear hinv
        generalize hs : runF (ops.take (i + 1)) = s at HS2 HINV hln1
        have HRUN := Lib.hid hs
        clear hs
        obtain ⟨A1, d1, A2, d2, hB, hl, htt⟩ := HS2.out
        have HB := Lib.hid hB
        have HL := Lib.hid hl
        have HTT := Lib.hid htt
        obtain ⟨k0, k1, kf⟩ := hB.two
        clear hB hl htt
        go_wp2_with fail
        refine (Right_yes A1 d1 s.l _ HL.out (by omega) HINV.out.1.li).mono ?_
        rintro e w3 ⟨rfl, hb3⟩
        have HB3 := Lib.hid (HB2.out.trans (hb3.mono HB2.out.size))
        have HK3 := Lib.hid (HB.out.below hb3 HB.out.lt)
        have HL3 := Lib.hid (HL.out.below hb3)
        have HT3 := Lib.hid (HTT.out.below hb3)
        clear hb3 k0 k1 kf
        obtain ⟨k0, k1, kf⟩ := HK3.out.two
        go_wp2_with fail
        refine (TRight_yes A2 d2 s.t _ HT3.out (by omega) HINV.out.1.tr).mono ?_
        rintro e w4 ⟨rfl, hb4⟩
        have HB4 := Lib.hid (HB3.out.trans (hb4.mono HB3.out.size))
        have HK4 := Lib.hid (HK3.out.below hb4 HK3.out.lt)
        have HL4 := Lib.hid (HL3.out.below hb4)
        have HT4 := Lib.hid (HT3.out.below hb4)
        clear hb4 k0 k1 kf
        obtain ⟨k0, k1, kf⟩ := HK4.out.two
        have hgl := HK4.out.lt
        have HWI := Lib.hid HINV.out.2
        have HTR := Lib.hid HINV.out.1.tr
        have hTpos : 0 < s.t.length := by
          obtain ⟨v, rest, e⟩ := HTR.out.head
          rw [e]; simp
        have hll : s.l.length ≤ 100 := by omega
        have htl : s.t.length ≤ 100 := by omega
        clear HS HS2 HB HL HTT HK3 HL3 HT3 HB2 HB3 hln hln1 HINV k0 k1 kf
        go_wp2_with fail
        go_loopg [8] times.length (fun gg s8 wx => ∃ k : Nat, s8 = .int .i64 k ∧ k ≤ times.length ∧ times.length - k ≤ gg ∧ Hid (Below w4.heap.size w4 wx))
        case atStart => exact ⟨0, rfl, by omega, by omega, Below.refl _ _⟩
        case round =>
          obtain ⟨k, rfl, hk, hgk, HBx⟩ := hrel
          by_cases hkt : k < times.length
          · have hktz : (k : Int) < (times.length : Int) := by omega
            obtain ⟨tb, toff, rfl, htb, htcells⟩ := HT.out.2.2 (by omega)
            obtain ⟨tk, htk⟩ : ∃ tk, times[k]? = some tk := ⟨_, List.getElem?_eq_getElem hkt⟩
            have htc : w.cell? ⟨tb, toff + k, none⟩ = some (.int .i64 tk) := by
              have := htcells k tk htk 0 _ rfl
              simpa using this
            have HTC := Lib.hid htc
            clear htcells htk htc
            go_wp2_with fail
            go_loopg [9, 10] s.l.length (fun gg s9 s10 wy => ∃ j : Nat, s10 = .int .i64 j ∧ j ≤ s.l.length ∧ s.l.length - j ≤ gg ∧ s9 = .int .i64 ((s.l.take j).foldl (wstep (tmax tk)) 1) ∧ Hid (Below w4.heap.size w4 wy))
            case atStart => exact ⟨0, rfl, by omega, by omega, rfl, HBx.out⟩
            case round =>
              obtain ⟨j, rfl, hj, hgj, rfl, HBy⟩ := hrel
              obtain ⟨n0, n1, nf⟩ := (HK4.out.below HBy.out hgl).two
              by_cases hjl : j < s.l.length
              · have hjlz : (j : Int) < (s.l.length : Int) := by omega
                obtain ⟨lb, loff, rfl, hlb, hlcells⟩ := HL4.out.2.2 (by omega)
                obtain ⟨y, hy⟩ : ∃ y, s.l[j]? = some y := ⟨_, List.getElem?_eq_getElem hjl⟩
                obtain ⟨_, a1, a2, _, a4, _⟩ := cellsR hlcells hlb HBy.out hy
                have hw := Lib.hid (want_take hy (tmax tk) 1)
                have tc : wr.cell? ⟨tb, toff + k, none⟩ = some (.int .i64 tk) := ((HB4.out.trans (HBy.out.mono HB4.out.size)).cell (p := ⟨tb, toff + k, none⟩) htb).trans HTC.out
                clear hy hlcells
                generalize (s.l.take j).foldl (wstep (tmax tk)) 1 = cur at hw ⊢
                have hcase : ((y.state == 3) = false ∧ wstep (tmax tk) cur y = cur) ∨
                    ((y.state == 3) = true ∧ 0 ≤ tk ∧ decide (y.frm ≤ tk) = true ∧ y.frm ≤ tk ∧ wstep (tmax tk) cur y = y.ver) ∨ ((y.state == 3) = true ∧ 0 ≤ tk ∧ decide (y.frm ≤ tk) = false ∧ tk < y.frm ∧ wstep (tmax tk) cur y = cur) ∨
                    ((y.state == 3) = true ∧ tk < 0 ∧ decide (y.frm ≤ 0) = true ∧ y.frm ≤ 0 ∧ wstep (tmax tk) cur y = y.ver) ∨ ((y.state == 3) = true ∧ tk < 0 ∧ decide (y.frm ≤ 0) = false ∧ 0 < y.frm ∧ wstep (tmax tk) cur y = cur) := by
                  unfold wstep tmax
                  by_cases h3 : y.state = 3
                  · have h3b : (y.state == 3) = true := by simp [h3]
                    by_cases h0 : 0 ≤ tk
                    · rw [if_pos h0]
                      by_cases hf : y.frm ≤ tk
                      · exact .inr (.inl ⟨h3b, h0, by simpa using hf, hf, by rw [if_pos ⟨h3, hf⟩]⟩)
                      · exact .inr (.inr (.inl ⟨h3b, h0, by simpa using hf, by omega, by rw [if_neg (fun h => hf h.2)]⟩))
                    · rw [if_neg h0]
                      by_cases hf : y.frm ≤ 0
                      · exact .inr (.inr (.inr (.inl ⟨h3b, by omega, by simpa using hf, hf, by rw [if_pos ⟨h3, hf⟩]⟩)))
                      · exact .inr (.inr (.inr (.inr ⟨h3b, by omega, by simpa using hf, by omega, by rw [if_neg (fun h => hf h.2)]⟩)))
                  · exact .inl ⟨by simpa using h3, by rw [if_neg (fun h => h3 h.1)]⟩
                rcases hcase with ⟨e1, e2⟩ | ⟨e1, e3, e4, e5, e2⟩ | ⟨e1, e3, e4, e5, e2⟩ | ⟨e1, e3, e4, e5, e2⟩ | ⟨e1, e3, e4, e5, e2⟩
                all_goals
                  have HE := Lib.hid e2
                  clear e2
                  go_wp2_with fail
                  go_quiet (fail)
                  go_wp2
                  go_roundg (s.l.length - (j + 1))
                  case measure => omega
                  case rel => exact ⟨j + 1, by go_num, by omega, by omega, by rw [hw.out, HE.out], below_drewN HBy.out _⟩
              · have hjlz : ¬ (j : Int) < (s.l.length : Int) := by omega
                obtain rfl : j = s.l.length := by omega
                rw [List.take_length]
                have hwant : atF s.t tk = s.l.foldl (wstep (tmax tk)) 1 := by
                  show _ = wantF s.l (tmax tk)
                  unfold tmax
                  by_cases h0 : 0 ≤ tk
                  · rw [if_pos h0]; exact HWI.out tk h0
                  · rw [if_neg h0, at_neg HTR.out (by omega)]; exact HWI.out 0 (by omega)
                have HWT := Lib.hid hwant
                clear hwant
                generalize s.l.foldl (wstep (tmax tk)) 1 = want at HWT ⊢
                have tc : wr.cell? ⟨tb, toff + k, none⟩ = some (.int .i64 tk) := ((HB4.out.trans (HBy.out.mono HB4.out.size)).cell (p := ⟨tb, toff + k, none⟩) htb).trans HTC.out
                go_wp2_with fail
                go_region_held3 (fun w' => w'.cell? ⟨w1.heap.size + 1, 1, none⟩ = some (.slice A2 s.t.length d2) ∧ w'.cell? ⟨tb, toff + k, none⟩ = some (.int .i64 tk)) (go_keep) ((go_at_call 11; refine (at_any A2 d2 s.t tk _ ((HT4.out.below HBy.out).drew) (by omega) hTpos).mono ?_; rintro e w7 ⟨rfl, hb7⟩; have m1 := ((HK4.out.below HBy.out hgl).drew.below hb7 (Nat.lt_of_lt_of_le hgl HBy.out.size)).cell 1; have m2 := (hb7.cell (p := ⟨tb, toff + k, none⟩) (Nat.lt_of_lt_of_le htb (HB4.out.trans (HBy.out.mono HB4.out.size)).size)).trans tc; have HB7 := Lib.hid hb7; clear hb7))
                rw [HWT.out]
                have hBy7 := Lib.hid (HBy.out.drew.trans (HB7.out.mono HBy.out.size))
                clear HB7
                go_wp2
                go_roundg (times.length - (k + 1))
                case measure => omega
                case rel => exact ⟨k + 1, by go_num, by omega, by omega, hBy7.out⟩
          · have hktz : ¬ (k : Int) < (times.length : Int) := by omega
            go_wp2
            go_roundg (ops.length - (i + 1))
            case measure => omega
            case rel => exact ⟨i + 1, by go_num, by omega, by omega, Lib.hid (by rw [HRUN.out]; exact ⟨A1, d1, A2, d2, HK4.out.below HBx.out hgl, HL4.out.below HBx.out, HT4.out.below HBx.out⟩), HB4.out.trans (HBx.out.mono HB4.out.size)⟩
      · have hltz : ¬ (i : Int) < (ops.length : Int) := by omega
        go_wp2
        go_ret
        exact ⟨rfl, HBr.out⟩
end Go.Proofs.Ytpdmjahdnfhcoaa
