/- ReplaceSides: the walk. -/
import Derived.Test.YtpdmjahdnfhcoaaSide
import Derived.Test.YtpdmjahdnfhcoaaLawAsks
import Derived.Deep.CutRange
namespace Go.Proofs.Ytpdmjahdnfhcoaa
open Go.RowKit

/-- What is known of the row of sides: the first j buckets. -/
def Row16 (w : World) (g j : Nat) (f : Int → Int) : Prop := ∃ cs : Array Value, Blk w g 3 cs ∧ cs.size = 16 ∧ ∀ b : Nat, b < j → cs[b]? = some (.int .i64 (f b))
theorem Row16.below {w w' : World} {B g j : Nat} {f : Int → Int} (h : Row16 w g j f) (hb : Below B w w') (hg : g < B) : Row16 w' g j f := by
  obtain ⟨cs, h1, h2, h3⟩ := h
  exact ⟨cs, h1.below hb hg, h2, h3⟩
theorem Row16.grown {w w' : World} {row : Option Nat} {g j : Nat} {f : Int → Int} (h : Row16 w g j f) (hb : w.grownBy w' row) (hg : some g ≠ row) : Row16 w' g j f := by
  obtain ⟨cs, h1, h2, h3⟩ := h
  exact ⟨cs, h1.grown hb hg, h2, h3⟩
theorem Row16.lt {w : World} {g j : Nat} {f : Int → Int} (h : Row16 w g j f) : g < w.heap.size := by
  obtain ⟨cs, h1, _⟩ := h
  exact h1.lt
theorem Row16.set_ {w : World} {g j : Nat} {f : Int → Int} (h : Row16 w g j f) (hj : j < 16) : Row16 (w.setCell ⟨g, j, none⟩ (.int .i64 (f j))) g (j + 1) f := by
  obtain ⟨cs, h1, h2, h3⟩ := h
  refine ⟨_, h1.set_ j _, by simpa using h2, fun b hb => ?_⟩
  rw [Array.getElem?_setIfInBounds]
  by_cases e : j = b
  · subst e; rw [if_pos rfl, if_pos (by omega)]
  · rw [if_neg e]; exact h3 b (by omega)
theorem Row16.cell {w : World} {g j : Nat} {f : Int → Int} (h : Row16 w g j f) {b : Nat} (hb : b < j) : w.cell? ⟨g, b, none⟩ = some (.int .i64 (f b)) := by
  obtain ⟨cs, h1, h2, h3⟩ := h
  rw [h1.cell]; exact h3 b hb
theorem Row16.there {w : World} {g j : Nat} {f : Int → Int} (h : Row16 w g j f) {b : Nat} (hb : b < 16) : ∃ v, w.cell? ⟨g, b, none⟩ = some v ∧ w.frozen? ⟨g, b, none⟩ = false := by
  obtain ⟨cs, h1, h2, h3⟩ := h
  exact ⟨cs[b]'(by omega), by rw [h1.cell]; exact Array.getElem?_eq_getElem (by omega), h1.frozen b⟩

def zeros16 : Array Value := #[.int .i64 0, .int .i64 0, .int .i64 0, .int .i64 0, .int .i64 0, .int .i64 0, .int .i64 0, .int .i64 0, .int .i64 0, .int .i64 0, .int .i64 0, .int .i64 0, .int .i64 0, .int .i64 0, .int .i64 0, .int .i64 0]
theorem make16 (w : World) : (Instr.makeSlice 41 (.int .i64 16) (.int .i64 16)).run Try.prog w = .ok (.slice (some ⟨w.heap.size, 0, none⟩) 16 16) (w.alloc (.cells zeros16 3)) := by kernel_rfl

set_option maxHeartbeats 8000000 in
set_option maxRecDepth 100000 in
theorem sides_any (A : Option Addr) (c : Nat) (ops : List OpD) (time : Int) (w : World) (hr : SlT 7 encO w A ops.length c ops) :
    Calls Try.prog 4 #[.slice A ops.length c, .int .i64 time] w fun e w' => e = .returned (.bool true) ∧ Below w.heap.size w w' := by
  have HR := Lib.hid hr
  clear hr
  by_cases hlen : 80 < ops.length ∨ time < 0
  · rcases Nat.lt_or_ge 80 ops.length with h1 | h1
    · have hlz : (80 : Int) < (ops.length : Int) := by omega
      clear hlen
      go_enter Try.func4, Try.ntmps4
      go_wp2_with fail
      refine (small_any _).mono ?_
      rintro e w1 ⟨rfl, hb1⟩
      go_wp2
      go_ret
      exact ⟨rfl, hb1⟩
    · have hlz : ¬ (80 : Int) < (ops.length : Int) := by omega
      have hlt : time < 0 := by omega
      clear hlen
      go_enter Try.func4, Try.ntmps4
      go_wp2_with fail
      refine (small_any _).mono ?_
      rintro e w1 ⟨rfl, hb1⟩
      go_wp2
      go_ret
      exact ⟨rfl, hb1⟩
  · have hlz : ¬ (80 : Int) < (ops.length : Int) := by omega
    have htz : ¬ time < 0 := by omega
    clear hlen
    go_enter Try.func4, Try.ntmps4
    go_wp2_with fail
    refine (small_any _).mono ?_
    rintro e w1 ⟨rfl, hb1⟩
    have HB1 := Lib.hid hb1
    clear hb1
    go_wp2_with fail
    have hst := st0_at w1
    go_loopg [7] ops.length (fun gg s7 wr => ∃ i : Nat, s7 = .int .i64 i ∧ i ≤ ops.length ∧ ops.length - i ≤ gg ∧ Hid (StAt wr (w1.heap.size + 1) (runF (ops.take i))) ∧ Hid (Below w.heap.size w wr))
    case atStart => exact ⟨0, rfl, by omega, by omega, hst, (HB1.out.alloc HB1.out.size _).alloc (by have := HB1.out.size; simp; omega) _⟩
    case round =>
      clear hst
      obtain ⟨i, rfl, hi, hg, HS, HBr⟩ := hrel
      revert HS HBr
      revert wr
      intro wo HS HBr
      by_cases hlt : i < ops.length
      · have hltz : (i : Int) < (ops.length : Int) := by omega
        obtain ⟨b, off, rfl, hb, hcells⟩ := HR.out.2.2 (by omega)
        obtain ⟨x, hx⟩ : ∃ x, ops[i]? = some x := ⟨_, List.getElem?_eq_getElem hlt⟩
        have hln := runF_len ops i
        have hinv := run_inv ops i
        have hrun : runF (ops.take (i + 1)) = (stepF (runF (ops.take i)) x).1 := by
          rw [List.take_add_one, hx]
          simp only [Option.toList_some, runF_snoc]
        have HRUN := Lib.hid hrun
        have hinv2 := run_inv ops (i + 1)
        rw [hrun] at hinv2
        have hln2 := runF_len ops (i + 1)
        rw [hrun] at hln2
        clear hrun
        generalize runF (ops.take i) = s at HS hln hinv hinv2 hln2 HRUN
        have HX := Lib.hid hx
        have HXC := Lib.hid hcells
        have HINV := Lib.hid hinv
        have HINV2 := Lib.hid hinv2
        clear hx hcells hinv hinv2
        obtain ⟨A1, d1, A2, d2, hB, hl, htt⟩ := HS.out
        have HB := Lib.hid hB
        have HL := Lib.hid hl
        have HTT := Lib.hid htt
        have hgl := hB.lt
        have hTpos : 0 < s.t.length := by
          obtain ⟨v, rest, e⟩ := HINV.out.1.tr.head
          rw [e]; simp
        have hTpos2 : 0 < (stepF s x).1.t.length := by
          obtain ⟨v, rest, e⟩ := HINV2.out.1.tr.head
          rw [e]; simp
        clear hB hl htt
        have hmk := make16
        go_wp2_with fail
        clear hmk
        go_loopg [9] 16 (fun gg s9 wx => ∃ j : Nat, s9 = .int .i64 j ∧ j ≤ 16 ∧ 16 - j ≤ gg ∧ Hid (Below wo.heap.size wo wx) ∧ Hid (Row16 wx wo.heap.size j (sideF s.l s.t time)))
        case atStart => exact ⟨0, rfl, by omega, by omega, Lib.hid ((Below.refl _ _).alloc (Nat.le_refl _) _), Lib.hid ⟨_, Blk.new _ _ _, rfl, fun b hb => absurd hb (by omega)⟩⟩
        case round =>
          obtain ⟨j, rfl, hj, hgj, HBx, HROW⟩ := hrel
          obtain ⟨n0, n1, nf⟩ := (HB.out.below HBx.out hgl).two
          by_cases hjl : j < 16
          · have hjlz : (j : Int) < 16 := by omega
            have hfar : ∀ (W : World) (v : Value) (o : Nat), (W.setCell ⟨wo.heap.size, j, none⟩ v).cell? ⟨w1.heap.size + 1, o, none⟩ = W.cell? ⟨w1.heap.size + 1, o, none⟩ := fun W v o => World.cell?_of_block (a := ⟨w1.heap.size + 1, o, none⟩) (Below.heap_setCell W ⟨wo.heap.size, j, none⟩ v (w1.heap.size + 1) (by show w1.heap.size + 1 ≠ wo.heap.size; omega))
            go_wp2_with fail
            go_region_held3 (fun w' => w'.cell? ⟨w1.heap.size + 1, 0, none⟩ = some (.slice A1 s.l.length d1) ∧ w'.cell? ⟨w1.heap.size + 1, 1, none⟩ = some (.slice A2 s.t.length d2)) (go_keep) ((go_at_call 10; refine (side_any A1 d1 s.l A2 d2 s.t time j _ ((HL.out.below HBx.out).drew) ((HTT.out.below HBx.out).drew) (by omega) (by omega) hTpos).mono ?_; rintro e w7 ⟨rfl, hb7⟩; have m0 := ((HB.out.below HBx.out hgl).drew.below hb7 (Nat.lt_of_lt_of_le hgl HBx.out.size)).cell 0; have m1 := ((HB.out.below HBx.out hgl).drew.below hb7 (Nat.lt_of_lt_of_le hgl HBx.out.size)).cell 1; have HR7 := Lib.hid (Row16.below (show Row16 wr.drew wo.heap.size j (sideF s.l s.t time) from HROW.out) hb7 HROW.out.lt); obtain ⟨vv, mc, mf⟩ := HR7.out.there hjl; have HB7 := Lib.hid (HBx.out.drew.trans (hb7.mono HBx.out.size)); clear hb7))
            have HZ := Lib.hid (HR7.out.set_ hjl)
            have HBZ := Lib.hid (HB7.out.setCell (p := ⟨wo.heap.size, j, none⟩) (Nat.le_refl _) (.int .i64 (sideF s.l s.t time j)))
            clear m0 m1 mc mf HB7 HR7 hfar
            go_wp2
            go_roundg (16 - (j + 1))
            case measure => omega
            case rel => exact ⟨j + 1, by go_num, by omega, by omega, HBZ.out, HZ.out⟩
          · have hjlz : ¬ (j : Int) < 16 := by omega
            have HROW16 : Hid (Row16 wr wo.heap.size 16 (sideF s.l s.t time)) := Lib.hid (by have := HROW.out; rwa [show j = 16 by omega] at this)
            have hjb : decide ((j : Int) < 16) = false := decide_eq_false hjlz
            obtain ⟨c0, c1, c2, c3, c4, c5, c6⟩ := cellsO HXC.out hb (HBr.out.trans (HBx.out.mono HBr.out.size)) HX.out
            clear hgj HROW
            go_wp2_with fail
            have HBX := Lib.hid (HB.out.below HBx.out hgl)
            have HLX := Lib.hid (HL.out.below HBx.out)
            have HTX := Lib.hid (HTT.out.below HBx.out)
            refine (step_any (w1.heap.size + 1) s x _ ⟨A1, d1, A2, d2, HBX.out, HLX.out, HTX.out⟩ (by omega) (by omega)).mono ?_
            rintro e w2 ⟨rfl, hst2, hg2⟩
            have HB2 := Lib.hid ((HBr.out.trans (HBx.out.mono HBr.out.size)).grown hg2 (HBr.out.trans (HBx.out.mono HBr.out.size)).size (by intro k hk; injection hk with hk; have := HB1.out.size; omega))
            have HROW2 := Lib.hid (HROW16.out.grown hg2 (by intro e; injection e; omega))
            have HOLD := Lib.hid (HLX.out.grown hg2 (sltR_ne HLX.out HBX.out))
            have hwo2 : wo.heap.size < w2.heap.size := HROW2.out.lt
            have hsd := fun b h1 h2 => side_step (b := b) HINV.out.1 HINV.out.2 x (time := time) (by omega) h1 h2
            have hbc := buck_cases HINV.out.1 x time
            clear c0 c1 c2 c3 c4 c5 c6 n0 n1 nf hg2 HBX HLX HTX HROW16 HB HL HTT HBx hjb hjl hjlz
            obtain ⟨c0, c1, _⟩ := cellsO HXC.out hb HB2.out HX.out
            generalize stepF s x = r at hst2 hsd hbc hln2 HRUN HINV2 hTpos2 ⊢
            obtain ⟨s', ev, E⟩ := r
            simp only at hst2 hsd hbc hln2 HRUN HINV2 hTpos2
            generalize buckF s x time = bk at hsd hbc
            obtain ⟨B, V⟩ := bk
            simp only [Prod.mk.injEq] at hsd hbc
            have HSD := Lib.hid hsd
            have HS2 := Lib.hid hst2
            clear hsd hst2
            obtain ⟨A3, d3, A4, d4, hB', hl', htt'⟩ := HS2.out
            have HB' := Lib.hid hB'
            have HL' := Lib.hid hl'
            have HT' := Lib.hid htt'
            have hgl' := hB'.lt
            clear hB' hl' htt'
            obtain ⟨T, hT⟩ : ∃ T : Bool, (T = false ∧ (E ≠ 0 ∨ and7 x.dO < 4) ∧ B = -1 ∧ V = 0) ∨ (T = true ∧ E = 0 ∧ 4 ≤ and7 x.dO ∧ ∃ (ix : Nat) (y : Rep), x.no = (ix : Int) + 1 ∧ s.l[ix]? = some y ∧ ((y.frm ≤ time ∧ B = y.cut ∧ V = y.ver) ∨ (time < y.frm ∧ B = -1 ∧ V = 0))) := by
              rcases hbc with ⟨q1, q2⟩ | q1
              · exact ⟨false, .inl ⟨rfl, q1, q2⟩⟩
              · exact ⟨true, .inr ⟨rfl, q1⟩⟩
            have HT17 := Lib.hid hT
            clear hT hbc
            go_upto_region 17 with fail
            go_cut [99] from 33 to 187 (fun s99 wx => s99 = .bool T ∧ wx = w2)
            case first =>
              rcases HT17.out with ⟨rfl, q1, _⟩ | ⟨rfl, q1, q2, ix, y, q3, q4, _⟩
              · by_cases h0 : E = 0
                · subst h0
                  have h7 : bits .and .i64 x.dO 7 < 4 := by rcases q1 with q1 | q1; exact absurd rfl q1; exact q1
                  clear q1
                  go_wp2_with fail
                  go_meet
                  exact ⟨rfl, rfl⟩
                · have hb0 : (E == 0) = false := by simpa using h0
                  clear q1
                  go_wp2_with fail
                  go_meet
                  exact ⟨rfl, rfl⟩
              · subst q1
                have h7 : 4 ≤ bits .and .i64 x.dO 7 := q2
                have hix : (ix : Int) + 1 ≤ (s.l.length : Int) := by have := (List.getElem?_eq_some_iff.1 q4).1; omega
                rw [q3] at c1
                clear q2 q3 q4
                go_wp2_with fail
                go_meet
                exact ⟨rfl, rfl⟩
            case rest =>
              obtain ⟨rfl, hwc⟩ := hcut
              obtain rfl : w2 = wc := hwc.symm
              go_upto_if 99 with fail
              go_cut [13, 14] from 33 to 187 (fun s13 s14 wx => s13 = .int .i64 B ∧ s14 = .int .i64 V ∧ Hid (Below w2.heap.size w2 wx))
              case first =>
                rcases HT17.out with ⟨rfl, q1, rfl, rfl⟩ | ⟨rfl, q1, q2, ix, y, q3, q4, q5⟩
                · go_wp2_with fail
                  go_meet
                  exact ⟨rfl, rfl, Below.refl _ _⟩
                · have hixl := (List.getElem?_eq_some_iff.1 q4).1
                  have hix : (ix : Int) < (s.l.length : Int) := by omega
                  have hixb : (ix : Int) ≤ 1000 := by omega
                  rw [q3] at c1
                  obtain ⟨ob, ooff, rfl, hob, hocells⟩ := HOLD.out.2.2 (by omega)
                  obtain ⟨o0, o1, o2, o3, o4, o5⟩ := cellsR hocells hob (Below.refl _ _) q4
                  clear q1 q2 q3 q4 hocells
                  rcases q5 with ⟨q6, rfl, rfl⟩ | ⟨q6, rfl, rfl⟩
                  · have hft : decide (y.frm ≤ time) = true := decide_eq_true q6
                    go_wp2_with fail
                    go_meet
                    exact ⟨rfl, rfl, (Below.refl _ _).alloc (Nat.le_refl _) _⟩
                  · have hft : decide (y.frm ≤ time) = false := decide_eq_false (by omega)
                    go_wp2_with fail
                    go_meet
                    exact ⟨rfl, rfl, (Below.refl _ _).alloc (Nat.le_refl _) _⟩
              case rest =>
                obtain ⟨rfl, rfl, HC⟩ := hcut
                have HBC := Lib.hid (HB2.out.trans (HC.out.mono HB2.out.size))
                have HKC := Lib.hid (HB'.out.below HC.out hgl')
                have HLC := Lib.hid (HL'.out.below HC.out)
                have HTC := Lib.hid (HT'.out.below HC.out)
                have HRC := Lib.hid (HROW2.out.below HC.out hwo2)
                have hglc := HKC.out.lt
                have hsl : s'.l.length ≤ 100 := by omega
                have hstl : s'.t.length ≤ 100 := by omega
                clear c0 c1 HOLD HS2 HB' HL' HT' hgl' HROW2 HC HT17
                go_wp2_with fail
                go_loopg [16, 17] s'.l.length (fun gg s16 s17 wx => ∃ k : Nat, s17 = .int .i64 k ∧ k ≤ s'.l.length ∧ s'.l.length - k ≤ gg ∧ s16 = .bool (cuttingF (s'.l.take k)) ∧ Hid (Below wc.heap.size wc wx))
                case atStart => exact ⟨0, rfl, by omega, by omega, by simp [cuttingF], Below.refl _ _⟩
                case round =>
                  obtain ⟨k, rfl, hk, hgk, rfl, HBx⟩ := hrel
                  obtain ⟨n0, n1, nf⟩ := (HKC.out.below HBx.out hglc).two
                  by_cases hkl : k < s'.l.length
                  · have hklz : (k : Int) < (s'.l.length : Int) := by omega
                    obtain ⟨lb, loff, rfl, hlb, hlcells⟩ := HLC.out.2.2 (by omega)
                    obtain ⟨y, hy⟩ : ∃ y, s'.l[k]? = some y := ⟨_, List.getElem?_eq_getElem hkl⟩
                    obtain ⟨_, _, _, _, a4, _⟩ := cellsR hlcells hlb HBx.out hy
                    have HCUT := Lib.hid (cutting_snoc hy)
                    clear hy hlcells
                    generalize cuttingF (s'.l.take k) = C at HCUT ⊢
                    have hcase : C = true ∨ (C = false ∧ (y.state == 2) = true) ∨ (C = false ∧ (y.state == 2) = false) := by
                      cases C <;> cases (y.state == 2) <;> simp
                    rcases hcase with rfl | ⟨rfl, e2⟩ | ⟨rfl, e2⟩
                    · have HE : Hid (true = cuttingF (s'.l.take (k + 1))) := Lib.hid (by rw [HCUT.out]; rfl)
                      go_wp2_with fail
                      go_roundg (s'.l.length - (k + 1))
                      case measure => omega
                      case rel => exact ⟨k + 1, by go_num, by omega, by omega, by rw [← HE.out], HBx.out⟩
                    · have HE : Hid (true = cuttingF (s'.l.take (k + 1))) := Lib.hid (by rw [HCUT.out, e2]; rfl)
                      go_wp2_with fail
                      go_roundg (s'.l.length - (k + 1))
                      case measure => omega
                      case rel => exact ⟨k + 1, by go_num, by omega, by omega, by rw [← HE.out], HBx.out⟩
                    · have HE : Hid (false = cuttingF (s'.l.take (k + 1))) := Lib.hid (by rw [HCUT.out, e2]; rfl)
                      go_wp2_with fail
                      go_roundg (s'.l.length - (k + 1))
                      case measure => omega
                      case rel => exact ⟨k + 1, by go_num, by omega, by omega, by rw [← HE.out], HBx.out⟩
                  · have hklz : ¬ (k : Int) < (s'.l.length : Int) := by omega
                    obtain rfl : k = s'.l.length := by omega
                    rw [List.take_length]
                    have HFREE := Lib.hid (fun h : cuttingF s'.l = false => fun bb => side_free (cutting_free h) s'.t time bb)
                    generalize cuttingF s'.l = C at HFREE ⊢
                    revert HBx n0 n1 nf
                    revert wr
                    intro wd HBd n0 n1 nf
                    go_wp2_with fail
                    clear n0 n1 nf
                    go_loopg [18] 16 (fun gg s18 wx => ∃ q : Nat, s18 = .int .i64 q ∧ q ≤ 16 ∧ 16 - q ≤ gg ∧ Hid (Below wc.heap.size wc wx))
                    case atStart => exact ⟨0, rfl, by omega, by omega, HBd.out⟩
                    case round =>
                      obtain ⟨q, rfl, hq, hgq, HBx⟩ := hrel
                      obtain ⟨n0, n1, nf⟩ := (HKC.out.below HBx.out hglc).two
                      by_cases hql : q < 16
                      · have hqlz : (q : Int) < 16 := by omega
                        have hqb : decide ((q : Int) < 16) = true := decide_eq_true hqlz
                        go_wp2_with fail
                        go_region_held3 (fun w' => w'.cell? ⟨w1.heap.size + 1, 0, none⟩ = some (.slice A3 s'.l.length d3) ∧ w'.cell? ⟨w1.heap.size + 1, 1, none⟩ = some (.slice A4 s'.t.length d4)) (go_keep) ((go_at_call 10; refine (side_any A3 d3 s'.l A4 d4 s'.t time q _ ((HLC.out.below HBx.out).drew) ((HTC.out.below HBx.out).drew) (by omega) (by omega) hTpos2).mono ?_; rintro e w7 ⟨rfl, hb7⟩; have HK7 := Lib.hid ((HKC.out.below HBx.out hglc).drew.below hb7 (Nat.lt_of_lt_of_le hglc HBx.out.size)); obtain ⟨m0, m1, mf⟩ := HK7.out.two; have HB7 := Lib.hid (HBx.out.drew.trans (hb7.mono HBx.out.size)); clear hb7))
                        have hrc := (HRC.out.below HB7.out HRC.out.lt).cell hql
                        have hsd := HSD.out q (by omega) (by omega)
                        have hfree := fun h => HFREE.out h q
                        clear n0 n1 nf
                        generalize sideF s'.l s'.t time q = N at hsd hfree ⊢
                        generalize sideF s.l s.t time q = M at hsd hrc
                        have hcase : ((((q : Int) == B) = true ∧ (((q : Int) != B) = false)) ∧ (N != V) = false) ∨ ((((q : Int) == B) = false ∧ (((q : Int) != B) = true)) ∧ (N != M) = false) := by
                          by_cases e : (q : Int) = B
                          · rw [if_pos e] at hsd
                            exact .inl ⟨⟨by simp [e], by simp [e]⟩, by simp [hsd]⟩
                          · rw [if_neg e] at hsd
                            exact .inr ⟨⟨by simpa using e, by simpa using e⟩, by simp [hsd]⟩
                        have hcase2 : C = true ∨ (C = false ∧ N = atF s'.t time) := by
                          cases C
                          · exact .inr ⟨rfl, hfree rfl⟩
                          · exact .inl rfl
                        clear hsd hfree
                        rcases hcase with ⟨⟨e1, e2⟩, e3⟩ | ⟨⟨e1, e2⟩, e3⟩
                        all_goals rcases hcase2 with rfl | ⟨rfl, e4⟩
                        all_goals first
                          | (go_wp2_with fail
                             go_roundg (16 - (q + 1))
                             case measure => omega
                             case rel => exact ⟨q + 1, by go_num, by omega, by omega, HB7.out⟩)
                          | skip
                        all_goals
                          have HE4 := Lib.hid e4
                          clear e4
                          go_wp2_with fail
                          refine (at_any A4 d4 s'.t time _ (HTC.out.below HB7.out) (by omega) hTpos2).mono ?_
                          rintro e w8 ⟨rfl, hb8⟩
                          have HB8 := Lib.hid (HB7.out.trans (hb8.mono HB7.out.size))
                          clear hb8
                          rw [← HE4.out]
                          have hnn : (N != N) = false := by simp
                          go_wp2_with fail
                          go_roundg (16 - (q + 1))
                          case measure => omega
                          case rel => exact ⟨q + 1, by go_num, by omega, by omega, HB8.out⟩
                      · have hqlz : ¬ (q : Int) < 16 := by omega
                        have hqb : decide ((q : Int) < 16) = false := decide_eq_false hqlz
                        go_wp2_with fail
                        go_roundg (ops.length - (i + 1))
                        case measure => omega
                        case rel => exact ⟨i + 1, by go_num, by omega, by omega, Lib.hid (by rw [HRUN.out]; exact ⟨A3, d3, A4, d4, HKC.out.below HBx.out hglc, HLC.out.below HBx.out, HTC.out.below HBx.out⟩), HBC.out.trans (HBx.out.mono HBC.out.size)⟩
      · have hltz : ¬ (i : Int) < (ops.length : Int) := by omega
        go_wp2
        go_ret
        exact ⟨rfl, HBr.out⟩
end Go.Proofs.Ytpdmjahdnfhcoaa
