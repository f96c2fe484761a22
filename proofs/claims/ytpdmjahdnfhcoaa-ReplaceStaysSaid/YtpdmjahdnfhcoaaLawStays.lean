/- ReplaceStays: the walk. -/
import Derived.Test.YtpdmjahdnfhcoaaNeed
import Derived.Test.YtpdmjahdnfhcoaaStaysP
import Derived.Test.YtpdmjahdnfhcoaaLawAsks
import Derived.Deep.CutRange
import Derived.Laws.StructEq
namespace Go.Proofs.Ytpdmjahdnfhcoaa
open Go.RowKit

theorem neq_rep (a b c d e f : Int) (w : World) :
    (binOp .neq 39 (.agg #[.int .i64 a, .int .i64 b, .int .i64 c, .int .i64 d, .int .i64 e, .int .i64 f]) (.agg #[.int .i64 a, .int .i64 b, .int .i64 c, .int .i64 d, .int .i64 e, .int .i64 f])).run Try.prog w = .ok (.bool false) w := by
  have hS : Try.prog.underlying 39 = some (.struct (Try.prog.fieldsOf 39)) := by kernel_rfl
  have hp : Try.prog.stoodInHeld 39 = false := by kernel_rfl
  rw [run_neq_struct, run_equalIn_struct w 9999 _ _ _ hS hp]
  simp only [Program.fieldsOf, Try.underlying39]
  have hi := Try.underlying3
  simp [Op.eqFields, part, typeInfo, Go.run_equalIn_int (h := hi)]
theorem guard_rep : Try.prog.eqGuardType Try.prog.depth 39 = false := by kernel_rfl

def inF (d : Bool) (l : List Int) (v : Int) : Bool := d || l.any fun x => x == v
theorem inF_snoc {d : Bool} {l : List Int} {j : Nat} {x v : Int} (hx : l[j]? = some x) : inF d (l.take (j + 1)) v = (inF d (l.take j) v || (x == v)) := by
  rw [List.take_add_one, hx]
  unfold inF
  rw [List.any_append, ← Bool.or_assoc]
  simp
theorem inF_zero (d : Bool) (l : List Int) (v : Int) : inF d (l.take 0) v = d := by simp [inF]
theorem inF_mem {d : Bool} {l : List Int} {v : Int} (h : d = true ∨ v ∈ l) : inF d l v = true := by
  unfold inF
  rcases h with rfl | h
  · rfl
  · rw [Bool.or_eq_true, List.any_eq_true]
    exact .inr ⟨v, h, by simp⟩
theorem cellsI {w W : World} {b off : Nat} {l : List Int} (hx : ∀ j x, l[j]? = some x → ∀ i v, (eI x)[i]? = some v → w.cell? ⟨b, off + j * 1 + i, none⟩ = some v) (hb : b < w.heap.size) (hW : Below w.heap.size w W) {j : Nat} {x : Int} (hj : l[j]? = some x) :
    W.cell? ⟨b, off + j, none⟩ = some (.int .i64 x) := by
  have := (hW.cell (p := ⟨b, off + j * 1 + 0, none⟩) hb).trans (hx j x hj 0 _ rfl)
  simpa using this

set_option maxHeartbeats 8000000 in
set_option maxRecDepth 100000 in
theorem stays_any (A : Option Addr) (c : Nat) (ops : List OpD) (closed : Int) (w : World) (hr : SlT 7 encO w A ops.length c ops) :
    Calls Try.prog 6 #[.slice A ops.length c, .int .i64 closed] w fun e w' => e = .returned (.bool true) ∧ Below w.heap.size w w' := by
  have HR := Lib.hid hr
  clear hr
  by_cases hlen : 80 < ops.length
  · have hlz : (80 : Int) < (ops.length : Int) := by omega
    clear hlen
    go_enter Try.func6, Try.ntmps6
    go_wp2_with fail
    refine (small_any _).mono ?_
    rintro e w1 ⟨rfl, hb1⟩
    go_wp2
    go_ret
    exact ⟨rfl, hb1⟩
  · have hlz : ¬ (80 : Int) < (ops.length : Int) := by omega
    clear hlen
    go_enter Try.func6, Try.ntmps6
    go_wp2_with fail
    refine (small_any _).mono ?_
    rintro e w1 ⟨rfl, hb1⟩
    have HB1 := Lib.hid hb1
    clear hb1
    go_wp2_with fail
    have hst := st0_at w1
    go_loopg [7] ops.length (fun gg s7 wr => ∃ i : Nat, s7 = .int .i64 i ∧ i ≤ ops.length ∧ ops.length - i ≤ gg ∧ Hid (StAt wr (w1.heap.size + 1) (runF (ops.take i))) ∧ Hid (Below w.heap.size w wr))
    case atStart => exact ⟨0, rfl, by omega, by omega, hst, (HB1.out.alloc HB1.out.size _).alloc (by have := HB1.out.size; simp; omega) _⟩
    case round =>
      clear hst
      obtain ⟨i, rfl, hi, hg, HS, HBr⟩ := hrel
      revert HS HBr
      revert wr
      intro wo HS HBr
      by_cases hlt : i < ops.length
      · have hltz : (i : Int) < (ops.length : Int) := by omega
        obtain ⟨b, off, rfl, hb, hcells⟩ := HR.out.2.2 (by omega)
        obtain ⟨x, hx⟩ : ∃ x, ops[i]? = some x := ⟨_, List.getElem?_eq_getElem hlt⟩
        have hln := runF_len ops i
        have hinv := run_inv ops i
        have hrun : runF (ops.take (i + 1)) = (stepF (runF (ops.take i)) x).1 := by
          rw [List.take_add_one, hx]
          simp only [Option.toList_some, runF_snoc]
        have HRUN := Lib.hid hrun
        have hinv2 := run_inv ops (i + 1)
        rw [hrun] at hinv2
        have hln2 := runF_len ops (i + 1)
        rw [hrun] at hln2
        clear hrun
        generalize runF (ops.take i) = s at HS hln hinv hinv2 hln2 HRUN
        have HX := Lib.hid hx
        have HXC := Lib.hid hcells
        have HKEPT := Lib.hid (stays_step hinv.1 x)
        have hkl1 := HKEPT.out.1
        have hkl2 := HKEPT.out.2.1
        have HINV2 := Lib.hid hinv2
        clear hx hcells hinv hinv2
        obtain ⟨A1, d1, A2, d2, hB, hl, htt⟩ := HS.out
        have HB := Lib.hid hB
        have HL := Lib.hid hl
        have HTT := Lib.hid htt
        have hgl := hB.lt
        have hTpos2 : 0 < (stepF s x).1.t.length := by
          obtain ⟨v, rest, e⟩ := HINV2.out.1.tr.head
          rw [e]; simp
        clear hB hl htt
        obtain ⟨n0, n1, nf⟩ := HB.out.two
        obtain ⟨c0, c1, c2, c3, c4, c5, c6⟩ := cellsO HXC.out hb HBr.out HX.out
        go_wp2_with fail
        refine (step_any (w1.heap.size + 1) s x _ ⟨A1, d1, A2, d2, HB.out, HL.out, HTT.out⟩ (by omega) (by omega)).mono ?_
        rintro e w2 ⟨rfl, hst2, hg2⟩
        have HB2 := Lib.hid (HBr.out.grown hg2 HBr.out.size (by intro k hk; injection hk with hk; have := HB1.out.size; omega))
        have HOLD := Lib.hid (HL.out.grown hg2 (sltR_ne HL.out HB.out))
        clear c0 c1 c2 c3 c4 c5 c6 n0 n1 nf hg2 HB HL HTT
        generalize stepF s x = r at hst2 hln2 HRUN HINV2 hTpos2 HKEPT hkl1 hkl2 ⊢
        obtain ⟨s', ev, E⟩ := r
        simp only at hst2 hln2 HRUN HINV2 hTpos2 HKEPT hkl1 hkl2
        have HS2 := Lib.hid hst2
        clear hst2
        obtain ⟨A3, d3, A4, d4, hB', hl', htt'⟩ := HS2.out
        have HK := Lib.hid hB'
        have HL := Lib.hid hl'
        have HT := Lib.hid htt'
        have hgl' := hB'.lt
        clear hB' hl' htt'
        obtain ⟨n0, n1, nf⟩ := HK.out.two
        have t1 : decide ((s'.l.length : Int) < (s.l.length : Int)) = false := decide_eq_false (by omega)
        have t2 : decide ((s.l.length : Int) + 1 < (s'.l.length : Int)) = false := decide_eq_false (by omega)
        have t1n : decide (s'.l.length < s.l.length) = false := decide_eq_false (by omega)
        have t2n : decide (s.l.length + 1 < s'.l.length) = false := decide_eq_false (by omega)
        have t1' : ¬ (s'.l.length : Int) < (s.l.length : Int) := by omega
        have t2' : ¬ (s.l.length : Int) + 1 < (s'.l.length : Int) := by omega
        have hsl : s'.l.length ≤ 100 := by omega
        have hol : s.l.length ≤ 100 := by omega
        have hstl : s'.t.length ≤ 100 := by omega
        go_wp2_with fail
        go_loopg [9, 10] s.l.length (fun gg s9 s10 wx => ∃ k : Nat, s10 = .int .i64 k ∧ k ≤ s.l.length ∧ s.l.length - k ≤ gg ∧ s9 = .bool (overF (s.l.take k)) ∧ Hid (Below w2.heap.size w2 wx))
        case atStart => exact ⟨0, rfl, by omega, by omega, by simp [overF], Below.refl _ _⟩
        case round =>
          obtain ⟨k, rfl, hk, hgk, rfl, HBx⟩ := hrel
          clear t1 t2 t1n t2n t1' t2' n0 n1 nf
          obtain ⟨n0, n1, nf⟩ := (HK.out.below HBx.out hgl').two
          have hgx := (HK.out.below HBx.out hgl').lt
          by_cases hkl : k < s.l.length
          · have hklz : (k : Int) < (s.l.length : Int) := by omega
            have hklz2 : (k : Int) < (s'.l.length : Int) := by omega
            obtain ⟨a, ha⟩ : ∃ a, s.l[k]? = some a := ⟨_, List.getElem?_eq_getElem hkl⟩
            obtain ⟨y, hy, hok, hcut⟩ := HKEPT.out.2.2 k a ha
            obtain ⟨lb, loff, rfl, hlb, hlcells⟩ := HL.out.2.2 (by omega)
            obtain ⟨ob, ooff, rfl, hob, hocells⟩ := HOLD.out.2.2 (by omega)
            obtain ⟨b0, b1, b2, b3, b4, b5⟩ := cellsR hlcells hlb HBx.out hy
            obtain ⟨a0, a1, a2, a3, a4, a5⟩ := cellsR hocells hob HBx.out ha
            have hlbx : lb < wr.heap.size := Nat.lt_of_lt_of_le hlb HBx.out.size
            have hobx : ob < wr.heap.size := Nat.lt_of_lt_of_le hob HBx.out.size
            have hOV := over_snoc ha
            clear hy ha hlcells hocells
            obtain ⟨q1, q2, q3, q4, q5, q6⟩ := hok
            have hrec : 3 ≤ a.state → a.state = y.state ∧ a.cut = y.cut := fun h => by rw [q6 h]; exact ⟨rfl, rfl⟩
            clear q6
            obtain ⟨y0, y1, y2, y3, y4, y5⟩ := y
            obtain ⟨z0, z1, z2, z3, z4, z5⟩ := a
            simp only at q1 q2 q3 q4 q5 hrec hcut hOV b0 b1 b2 b3 b4 b5 a0 a1 a2 a3 a4 a5
            subst q1 q2 q3 q4
            have e0 : (z0 != z0) = false := by simp
            have e1 : (z1 != z1) = false := by simp
            have e2 : (z2 != z2) = false := by simp
            have e3 : (z3 != z3) = false := by simp
            have e5 : decide (y5 < z5) = false := decide_eq_false (by omega)
            generalize overF (s.l.take k) = C at hOV hcut ⊢
            have hgr := guard_rep
            have hcase : (3 ≤ z4 ∧ z4 = y4 ∧ z5 = y5) ∨ (¬ 3 ≤ z4 ∧ ¬ z5 < y5) ∨ (¬ 3 ≤ z4 ∧ z5 < y5 ∧ C = true ∧ z4 = 1) ∨ (¬ 3 ≤ z4 ∧ z5 < y5 ∧ C = true ∧ z4 = 2) := by
              by_cases h3 : 3 ≤ z4
              · exact .inl ⟨h3, hrec h3⟩
              · by_cases hc : z5 < y5
                · rcases hcut with hcut | ⟨rfl, h | h⟩
                  · omega
                  · exact .inr (.inr (.inl ⟨h3, hc, rfl, h⟩))
                  · exact .inr (.inr (.inr ⟨h3, hc, rfl, h⟩))
                · exact .inr (.inl ⟨h3, hc⟩)
            clear hrec hcut
            have HOV := Lib.hid hOV
            clear hOV
            rcases hcase with ⟨h3, rfl, rfl⟩ | ⟨h3, hc⟩ | ⟨h3, hc, rfl, rfl⟩ | ⟨h3, hc, rfl, rfl⟩
            · have d3 : decide (3 ≤ z4) = true := decide_eq_true h3
              have dc : decide (z5 < z5) = false := decide_eq_false (by omega)
              have hnr := neq_rep z0 z1 z2 z3 z4 z5
              rw [d3] at HOV
              cases C
              · go_wp2_with fail
                go_roundg (s.l.length - (k + 1))
                case measure => omega
                case rel => exact ⟨k + 1, by go_num, by omega, by omega, by rw [HOV.out]; rfl, (HBx.out.alloc HBx.out.size _).alloc (by have := HBx.out.size; simp; omega) _⟩
              · go_wp2_with fail
                go_roundg (s.l.length - (k + 1))
                case measure => omega
                case rel => exact ⟨k + 1, by go_num, by omega, by omega, by rw [HOV.out]; rfl, (HBx.out.alloc HBx.out.size _).alloc (by have := HBx.out.size; simp; omega) _⟩
            · have d3 : decide (3 ≤ z4) = false := decide_eq_false h3
              have dc : decide (z5 < y5) = false := decide_eq_false hc
              rw [d3] at HOV
              cases C
              · go_wp2_with fail
                go_roundg (s.l.length - (k + 1))
                case measure => omega
                case rel => exact ⟨k + 1, by go_num, by omega, by omega, by rw [HOV.out]; rfl, (HBx.out.alloc HBx.out.size _).alloc (by have := HBx.out.size; simp; omega) _⟩
              · go_wp2_with fail
                go_roundg (s.l.length - (k + 1))
                case measure => omega
                case rel => exact ⟨k + 1, by go_num, by omega, by omega, by rw [HOV.out]; rfl, (HBx.out.alloc HBx.out.size _).alloc (by have := HBx.out.size; simp; omega) _⟩
            · have dc : decide (z5 < y5) = true := decide_eq_true hc
              go_wp2_with fail
              go_roundg (s.l.length - (k + 1))
              case measure => omega
              case rel => exact ⟨k + 1, by go_num, by omega, by omega, by rw [HOV.out]; rfl, (HBx.out.alloc HBx.out.size _).alloc (by have := HBx.out.size; simp; omega) _⟩
            · have dc : decide (z5 < y5) = true := decide_eq_true hc
              go_wp2_with fail
              go_roundg (s.l.length - (k + 1))
              case measure => omega
              case rel => exact ⟨k + 1, by go_num, by omega, by omega, by rw [HOV.out]; rfl, (HBx.out.alloc HBx.out.size _).alloc (by have := HBx.out.size; simp; omega) _⟩
          · have hklz : ¬ (k : Int) < (s.l.length : Int) := by omega
            obtain rfl : k = s.l.length := by omega
            rw [List.take_length]
            generalize overF s.l = C
            clear hgx
            revert HBx n0 n1 nf
            revert wr
            intro wd HBd n0 n1 nf
            have HBo := Lib.hid (HB2.out.trans (HBd.out.mono HB2.out.size))
            clear HKEPT HOLD HS2 hkl1 hkl2
            go_wp2_with fail
            go_region_held3 (fun w' => w'.cell? ⟨w1.heap.size + 1, 0, none⟩ = some (.slice A3 s'.l.length d3) ∧ w'.cell? ⟨w1.heap.size + 1, 1, none⟩ = some (.slice A4 s'.t.length d4)) (go_keep) ((go_at_call 14; refine (needed_any A3 d3 s'.l A4 d4 s'.t closed _ ((HL.out.below HBd.out).drew) ((HT.out.below HBd.out).drew) (by omega) (by omega) hTpos2).mono ?_; rintro e w7 ⟨v, rfl, ts, hmem, htl, hown, hb7⟩; have HK7 := Lib.hid ((HK.out.below HBd.out hgl').drew.below hb7 (Nat.lt_of_lt_of_le hgl' HBd.out.size)); obtain ⟨m0, m1, mf⟩ := HK7.out.two; have HN := Lib.hid (SlV.of_own eI_len hown); have HMEM := Lib.hid hmem; have HB7 := Lib.hid (HBd.out.drew.trans (hb7.mono HBd.out.size)); clear hb7 hown hmem))
            obtain ⟨A5, d5, rfl, hn5⟩ := HN.out
            have HN5 := Lib.hid hn5
            have HL7 := Lib.hid (HL.out.below HB7.out)
            have hg7 := HK7.out.lt
            have hts : ts.length ≤ 200 := by omega
            clear hn5 HN n0 n1 nf
            go_wp2_with fail
            go_loopg [14] s'.l.length (fun gg s14 wx => ∃ k : Nat, s14 = .int .i64 k ∧ k ≤ s'.l.length ∧ s'.l.length - k ≤ gg ∧ Hid (Below w7.heap.size w7 wx))
            case atStart => exact ⟨0, rfl, by omega, by omega, Below.refl _ _⟩
            case round =>
              clear m0 m1 mf
              obtain ⟨k, rfl, hk, hgk, HBx⟩ := hrel
              revert HBx
              revert wr
              intro we HBe
              obtain ⟨n0, n1, nf⟩ := (HK7.out.below HBe.out hg7).two
              by_cases hkl : k < s'.l.length
              · have hklz : (k : Int) < (s'.l.length : Int) := by omega
                obtain ⟨y, hy⟩ : ∃ y, s'.l[k]? = some y := ⟨_, List.getElem?_eq_getElem hkl⟩
                obtain ⟨lb, loff, rfl, hlb, hlcells⟩ := HL7.out.2.2 (by omega)
                obtain ⟨_, _, _, _, b4, _⟩ := cellsR hlcells hlb HBe.out hy
                have HCELLS := Lib.hid hlcells
                have HY := Lib.hid hy
                have HIN : Hid (inF (decide (3 ≤ y.state)) ts y.ver = true) := Lib.hid (inF_mem (by
                  by_cases h3 : 3 ≤ y.state
                  · exact .inl (decide_eq_true h3)
                  · exact .inr (HMEM.out y (open_mem HINV2.out.1.li.ok hy h3))))
                clear hy hlcells
                generalize hD : decide (3 ≤ y.state) = D at HIN
                go_wp2_with fail
                go_loopg [15, 16] ts.length (fun gg s15 s16 wx => ∃ j : Nat, s16 = .int .i64 j ∧ j ≤ ts.length ∧ ts.length - j ≤ gg ∧ s15 = .bool (inF D (ts.take j) y.ver) ∧ Hid (Below w7.heap.size w7 wx))
                case atStart => exact ⟨0, rfl, by omega, by omega, by rw [inF_zero, ← hD], HBe.out⟩
                case round =>
                  clear n0 n1 nf b4
                  obtain ⟨j, rfl, hj, hgj, rfl, HBx⟩ := hrel
                  by_cases hjl : j < ts.length
                  · have hjlz : (j : Int) < (ts.length : Int) := by omega
                    obtain ⟨n0, n1, nf⟩ := (HK7.out.below HBx.out hg7).two
                    obtain ⟨v, hv⟩ : ∃ v, ts[j]? = some v := ⟨_, List.getElem?_eq_getElem hjl⟩
                    obtain ⟨tb, toff, rfl, htb, htcells⟩ := HN5.out.2.2 (by omega)
                    have t0 := cellsI htcells htb HBx.out hv
                    obtain ⟨_, _, b2, _, _, _⟩ := cellsR HCELLS.out hlb HBx.out HY.out
                    have HSN := Lib.hid (inF_snoc (d := D) (v := y.ver) hv)
                    clear hv htcells
                    generalize inF D (ts.take j) y.ver = C at HSN ⊢
                    have hcase : C = true ∨ (C = false ∧ (v == y.ver) = true) ∨ (C = false ∧ (v == y.ver) = false) := by
                      cases C <;> cases (v == y.ver) <;> simp
                    rcases hcase with rfl | ⟨rfl, e2⟩ | ⟨rfl, e2⟩
                    · have HE : Hid (inF D (ts.take (j + 1)) y.ver = true) := Lib.hid (by rw [HSN.out]; rfl)
                      go_wp2_with fail
                      go_quiet (fail)
                      go_wp2_with fail
                      go_roundg (ts.length - (j + 1))
                      case measure => omega
                      case rel => exact ⟨j + 1, by go_num, by omega, by omega, by rw [HE.out], below_drewN HBx.out _⟩
                    · have HE : Hid (inF D (ts.take (j + 1)) y.ver = true) := Lib.hid (by rw [HSN.out, e2]; rfl)
                      go_wp2_with fail
                      go_quiet (fail)
                      go_wp2_with fail
                      go_roundg (ts.length - (j + 1))
                      case measure => omega
                      case rel => exact ⟨j + 1, by go_num, by omega, by omega, by rw [HE.out], below_drewN HBx.out _⟩
                    · have HE : Hid (inF D (ts.take (j + 1)) y.ver = false) := Lib.hid (by rw [HSN.out, e2]; rfl)
                      go_wp2_with fail
                      go_quiet (fail)
                      go_wp2_with fail
                      go_roundg (ts.length - (j + 1))
                      case measure => omega
                      case rel => exact ⟨j + 1, by go_num, by omega, by omega, by rw [HE.out], below_drewN HBx.out _⟩
                  · have hjlz : ¬ (j : Int) < (ts.length : Int) := by omega
                    obtain rfl : j = ts.length := by omega
                    rw [List.take_length, HIN.out]
                    go_wp2_with fail
                    go_roundg (s'.l.length - (k + 1))
                    case measure => omega
                    case rel => exact ⟨k + 1, by go_num, by omega, by omega, HBx.out⟩
              · have hklz : ¬ (k : Int) < (s'.l.length : Int) := by omega
                go_wp2_with fail
                go_roundg (ops.length - (i + 1))
                case measure => omega
                case rel => exact ⟨i + 1, by go_num, by omega, by omega, Lib.hid (by rw [HRUN.out]; exact ⟨A3, d3, A4, d4, HK7.out.below HBe.out hg7, HL7.out.below HBe.out, (HT.out.below HB7.out).below HBe.out⟩), (HB2.out.trans (HB7.out.mono HB2.out.size)).trans (HBe.out.mono (HB2.out.trans (HB7.out.mono HB2.out.size)).size)⟩
      · have hltz : ¬ (i : Int) < (ops.length : Int) := by omega
        go_wp2
        go_ret
        exact ⟨rfl, HBr.out⟩
end Go.Proofs.Ytpdmjahdnfhcoaa
