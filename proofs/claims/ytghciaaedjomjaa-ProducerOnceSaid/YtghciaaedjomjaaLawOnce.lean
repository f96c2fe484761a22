/- ProducerOnce: the walk. -/
import Derived.Test.YtghciaaedjomjaaOnceA
import Derived.Test.YtghciaaedjomjaaTake
import Derived.Deep.CutRange
namespace Go.Proofs.Ytghciaaedjomjaa
open Go.RowKit

theorem MemO.drew {B G : Nat} {w : World} {s4 s5 : Value} {st : PSt} (h : MemO B G w s4 s5 st) : MemO B G w.drew s4 s5 st := h
theorem and_range (x k : Int) (n : Nat) (hk : (BitVec.ofInt 64 k).toNat = n) (hn : n < 1000) : 0 ≤ bits .and .i64 x k ∧ bits .and .i64 x k ≤ n := by
  have h : bits .and .i64 x k = IntKind.i64.wrap ((BitVec.ofInt 64 x &&& BitVec.ofInt 64 k).toNat : Int) := rfl
  have h2 : (BitVec.ofInt 64 x &&& BitVec.ofInt 64 k).toNat ≤ n := by
    rw [BitVec.toNat_and, hk]
    exact Nat.and_le_right
  rw [h, IntKind.wrap_i64]
  omega
theorem MemO.tab {B G : Nat} {w : World} {A : Option Addr} {n c : Nat} {s5 : Value} {st : PSt} (h : MemO B G w (.slice A n c) s5 st) : TabP (fun b => b ≠ G ∧ s5.ownBlock ≠ some b) w A c st.s := by
  obtain ⟨A', c', h1, h2, _⟩ := h
  injection h1 with e1 e2 e3
  subst e1 e3
  exact h2
theorem MemO.own {B G : Nat} {w : World} {s4 s5 : Value} {st : PSt} (h : MemO B G w s4 s5 st) : w.ownsRow B 39 4 s5 st.all.length (st.all.flatMap encK) := by
  obtain ⟨A', c', h1, h2, h3, _⟩ := h
  exact h3
theorem SlT.one4 (w : World) (e : TypeId) (a b c d : Int) (g : Nat) (hg : g = w.heap.size) : SlT 4 encK (w.alloc (.cells #[.int .i64 a, .int .i64 b, .int .i64 c, .int .i64 d] e)) (some ⟨g, 0, none⟩) 1 1 [⟨a, b, c, d⟩] := by
  subst hg
  exact SlT.one encK_len w ⟨a, b, c, d⟩ _ rfl e
theorem below_undrewN {w w' : World} {n : Nat} (h : Below (w.drewN n).heap.size (w.drewN n) w') : Below w.heap.size w w' := ⟨h.os, h.tape, h.output, h.size, h.block⟩
theorem meas {n i g : Nat} (h : i < n) (hg : n - i ≤ g) : n - (i + 1) < g := by omega
def zeros64 : Array Value := (List.replicate 64 (Value.int .i64 0)).toArray
theorem make64 (w : World) : (Instr.makeSlice 26 (.int .i64 64) (.int .i64 64)).run Try.prog w = .ok (.slice (some ⟨w.heap.size, 0, none⟩) 64 64) (w.alloc (.cells zeros64 3)) := by kernel_rfl

set_option maxHeartbeats 100000000 in
set_option maxRecDepth 100000 in
theorem once_any (A : Option Addr) (c : Nat) (ops : List POp) (w : World) (hr : SlT 5 encQ w A ops.length c ops) :
    Calls Try.prog 3 #[.slice A ops.length c] w fun e w' => e = .returned (.bool true) ∧ Below w.heap.size w w' := by
  have HR := Lib.hid hr
  clear hr
  by_cases hlen : 200 < ops.length
  · have hlz : (200 : Int) < (ops.length : Int) := by omega
    clear hlen
    go_enter Try.func3, Try.ntmps3
    go_wp2_with fail
    refine (psmall_any _).mono ?_
    rintro e w1 ⟨rfl, hb1⟩
    go_wp2
    go_ret
    exact ⟨rfl, hb1⟩
  · have hlz : ¬ (200 : Int) < (ops.length : Int) := by omega
    clear hlen
    have hmk := make64
    go_enter Try.func3, Try.ntmps3
    go_wp2_with fail
    refine (psmall_any _).mono ?_
    rintro e w1 ⟨rfl, hb1⟩
    have HB1 := Lib.hid hb1
    clear hb1
    go_wp2_with fail
    clear hmk
    obtain ⟨G, hG⟩ : ∃ G, G = w1.heap.size := ⟨_, rfl⟩
    have hGw : w.heap.size ≤ G := by rw [hG]; exact HB1.out.size
    have hM0 : MemO w.heap.size G (w1.alloc (.cells zeros64 3)) (.slice none 0 0) (.slice none 0 0) pst0 := by
      refine ⟨none, 0, rfl, TabP.nil _ _, World.ownsRow_nil _ _ _ _, ?_, by simp [Value.ownBlock]⟩
      rw [hG]
      have := Blk.new w1 3 zeros64
      have hz : ((pst0.ep).map (Value.int .i64)).toArray = zeros64 := by simp [pst0, zeros64]
      rw [hz]
      exact this
    rw [← hG]
    clear hG
    go_loopg [4, 5, 7, 8] ops.length (fun gg s4 s5 s7 s8 wr => ∃ (i : Nat) (st : PSt), s8 = .int .i64 i ∧ i ≤ ops.length ∧ ops.length - i ≤ gg ∧ s7 = .int .i64 st.pos ∧ Hid (OInv st i) ∧ Hid (MemO w.heap.size G wr s4 s5 st) ∧ Hid (Below w.heap.size w wr))
    case atStart => exact ⟨0, pst0, rfl, by omega, by omega, rfl, oinv0, hM0, HB1.out.alloc HB1.out.size _⟩
    case round =>
      clear hM0
      obtain ⟨i, st, rfl, hi, hg, rfl, HI, HM, HB⟩ := hrel
      by_cases hlt : i < ops.length
      · have hltz : (i : Int) < (ops.length : Int) := by omega
        obtain ⟨b, off, rfl, hb, hcells⟩ := HR.out.2.2 (by omega)
        obtain ⟨x, hx⟩ : ∃ x, ops[i]? = some x := ⟨_, List.getElem?_eq_getElem hlt⟩
        obtain ⟨c0, c1, c2, c3, c4⟩ := cellsQ hcells hb HB.out hx
        clear hx hcells
        revert HI HM HB c0 c1 c2 c3 c4
        revert wr
        intro wo HI HM HB c0 c1 c2 c3 c4
        obtain ⟨m, hm, hm64⟩ : ∃ m : Nat, bits .and .i64 x.id 63 = (m : Int) ∧ m < 64 := by
          obtain ⟨q0, q1⟩ := and_range x.id 63 63 (by decide) (by omega)
          exact ⟨(bits .and .i64 x.id 63).toNat, by omega, by omega⟩
        have hM := HM.out
        obtain ⟨A4, c4', rfl, ht4, hown5, hblk, hne5⟩ := hM
        obtain ⟨A5, c5, rfl⟩ := own_shape hown5
        have hs5 : ∀ g, (Value.slice A5 st.all.length c5).ownBlock = some g → g < wo.heap.size := fun g h => (hown5.lt g h).2
        have HS5 := Lib.hid hs5
        have HT4 := Lib.hid ht4
        have HSA : Hid (SlT 4 encK wo A5 st.all.length c5 st.all) := Lib.hid (SlT.of_own encK_len hown5 rfl)
        have hbw : b < wo.heap.size := Nat.lt_of_lt_of_le hb HB.out.size
        have hGr : G < wo.heap.size := hblk.lt
        have hmz : (m : Int) < 64 := by omega
        have hm0 : (0 : Int) ≤ (m : Int) := by omega
        have hall : st.all.length ≤ 200 := by have := HI.out.len; omega
        clear ht4 hown5 hblk hs5
        have HXB : Hid (Blk (wo.alloc (.cells #[.int .i64 x.dO, .int .i64 x.id, .int .i64 x.ep, .int .i64 x.sq, .int .i64 x.far] 28)) wo.heap.size 28 #[.int .i64 x.dO, .int .i64 x.id, .int .i64 x.ep, .int .i64 x.sq, .int .i64 x.far]) := Lib.hid (Blk.new wo _ _)
        have HMA : Hid (MemO w.heap.size G (wo.alloc (.cells #[.int .i64 x.dO, .int .i64 x.id, .int .i64 x.ep, .int .i64 x.sq, .int .i64 x.far] 28)) (.slice A4 st.s.length c4') (.slice A5 st.all.length c5) st) := Lib.hid (HM.out.below ((Below.refl _ wo).alloc (Nat.le_refl _) _))
        have HBA : Hid (Below w.heap.size w (wo.alloc (.cells #[.int .i64 x.dO, .int .i64 x.id, .int .i64 x.ep, .int .i64 x.sq, .int .i64 x.far] 28))) := Lib.hid (HB.out.alloc HB.out.size _)
        cases hd : (bits .and .i64 x.dO 1 == 1) with
        | true =>
          as_aux_lemma =>
            go_wp2_with fail
            refine (fence_any _ A4 c4' st.s m _ HI.out.right (HT4.out.alloc _)).mono ?_
            rintro e w2 ⟨A2, c2', rfl, ht2, hb2⟩
            have HM2 := Lib.hid (HMA.out.below hb2)
            have HB2 := Lib.hid (HBA.out.trans (hb2.mono HBA.out.size))
            have HTT2 := Lib.hid ht2
            have hPP : ∀ b, b < w2.heap.size → (wo.alloc (.cells #[.int .i64 x.dO, .int .i64 x.id, .int .i64 x.ep, .int .i64 x.sq, .int .i64 x.far] 28)).heap.size ≤ b → b ≠ G ∧ (Value.slice A5 st.all.length c5).ownBlock ≠ some b := by
              intro b _ hbb
              simp at hbb
              refine ⟨by omega, fun e => ?_⟩
              have := HS5.out b e
              omega
            have HPP := Lib.hid hPP
            clear ht2 hb2 hPP
            obtain ⟨hc, hf⟩ := HM2.out.ep HI.out.eplen hm64
            have hep := (HI.out.epoch m hm64).2
            obtain ⟨hep0, hep1⟩ := hep
            have hof := once_fence HI.out hm64
            have HIN := Lib.hid (oinv_more HI.out)
            generalize fenceF st.s (m : Int) = FR at HTT2 hof ⊢
            obtain ⟨T, E1, E2⟩ := FR
            simp only at HTT2 hof
            generalize hEPe : st.ep[m]! = EP at hof hc hep0 hep1
            clear hEPe
            have HOF := Lib.hid hof
            clear hof
            by_cases hE : E2 = 0
            · subst hE
              have he := (HOF.out rfl).1
              have HINV := Lib.hid (HOF.out rfl).2
              clear HOF
              subst he
              have hnn : (EP + 1 != EP + 1) = false := by simp
              go_wp2_with fail
              go_roundg (ops.length - (i + 1))
              case measure => omega
              case rel => exact ⟨i + 1, ⟨T, st.all, st.ep.set m (EP + 1), st.pos⟩, by go_num, by omega, by omega, rfl, HINV.out, HM2.out.fence HTT2.out HPP.out m (EP + 1), HB2.out.setCell (p := ⟨G, m, none⟩) hGw _⟩
            · have hEb : (E2 == 0) = false := by simpa using hE
              clear hE HOF
              go_wp2_with fail
              go_roundg (ops.length - (i + 1))
              case measure => omega
              case rel => exact ⟨i + 1, st, by go_num, by omega, by omega, rfl, HIN.out, HM2.out, HB2.out⟩
        | false =>
          go_wp2_with fail
          refine (record_any _ _ _ _).mono ?_
          rintro e w2 ⟨rfl, hb2⟩
          have HM2 := Lib.hid (HMA.out.below hb2)
          have HB2 := Lib.hid (HBA.out.trans (hb2.mono HBA.out.size))
          have HX2 := Lib.hid (HXB.out.below hb2 HXB.out.lt)
          have HBo2 : Hid (Below wo.heap.size wo w2) := Lib.hid (((Below.refl _ wo).alloc (Nat.le_refl _) _).trans (hb2.mono (by simp)))
          clear hb2 c0 c1 c2 c3 c4
          go_wp2_with fail
          refine (look_any _ A4 c4' st.s _ m x.ep x.sq _ _ _ _ _ _ _ HI.out.right (HT4.out.below HBo2.out)).mono ?_
          rintro e w3 ⟨rfl, hb3⟩
          have HM3 := Lib.hid (HM2.out.below hb3)
          have HB3 := Lib.hid (HB2.out.trans (hb3.mono HB2.out.size))
          have HX3 := Lib.hid (HX2.out.below hb3 HX2.out.lt)
          have HBo3 : Hid (Below wo.heap.size wo w3) := Lib.hid (HBo2.out.trans (hb3.mono HBo2.out.size))
          have hX3 := HX3.out.lt
          clear hb3 HM2 HB2 HX2 HBo2
          have hol := once_look HI.out hm64 x.ep x.sq
          have hput := fun far hf h => once_put HI.out hm64 (ep := x.ep) (sq := x.sq) (far := far) hf (by omega) h
          have hscall := scan_spec m x.ep x.sq st.all st.all.length (Nat.le_refl _)
          rw [List.take_length] at hscall
          obtain ⟨_, hcnt, _⟩ := hscall
          generalize hlk : lookF st.s (m : Int) x.ep x.sq = LK at hol hput ⊢
          clear hlk
          obtain ⟨AT, E⟩ := LK
          simp only at hol hput
          rw [← hcnt] at hol
          have hCOb : 0 ≤ (scan m x.ep x.sq st.all).2.2 ∧ (scan m x.ep x.sq st.all).2.2 ≤ 200 := by
            rw [hcnt]
            have h1 : (ofK st.all m x.ep).length ≤ st.all.length := List.length_filter_le _ _
            omega
          have HCOB := Lib.hid hCOb
          clear hCOb
          have HOL := Lib.hid hol
          have HPUT := Lib.hid hput
          clear hol hput hcnt
          go_wp2_with fail
          go_loopg [16, 17, 18] st.all.length (fun gg s16 s17 s18 wx => ∃ k : Nat, s18 = .int .i64 k ∧ k ≤ st.all.length ∧ st.all.length - k ≤ gg ∧ s16 = .int .i64 (scan m x.ep x.sq (st.all.take k)).2.1 ∧ s17 = .int .i64 (scan m x.ep x.sq (st.all.take k)).2.2 ∧ Hid (Below w3.heap.size w3 wx))
          case atStart => exact ⟨0, rfl, by omega, by omega, by simp [scan], by simp [scan], Below.refl _ _⟩
          case round =>
            obtain ⟨k, rfl, hk, hgk, rfl, rfl, HBx⟩ := hrel
            obtain ⟨n0, n1, n2, n3, n4, nf⟩ := (HX3.out.below HBx.out hX3).five
            by_cases hkl : k < st.all.length
            · have hklz : (k : Int) < (st.all.length : Int) := by omega
              obtain ⟨ab, aoff, rfl, hab, hacells⟩ := HSA.out.2.2 (by omega)
              obtain ⟨y, hy⟩ : ∃ y, st.all[k]? = some y := ⟨_, List.getElem?_eq_getElem hkl⟩
              obtain ⟨a0, a1, a2, a3⟩ := cellsK hacells hab (HBo3.out.trans (HBx.out.mono HBo3.out.size)) hy
              have hsn := scan_snoc (id := m) (ep := x.ep) (sq := x.sq) hy
              have hsp := scan_spec m x.ep x.sq st.all k (by omega)
              have hkl2 : ((ofK (st.all.take k) m x.ep).length : Int) ≤ 200 := by
                have h1 : (ofK (st.all.take k) m x.ep).length ≤ (st.all.take k).length := List.length_filter_le _ _
                rw [List.length_take] at h1
                omega
              have hc0 : 0 ≤ (scan m x.ep x.sq (st.all.take k)).2.2 ∧ (scan m x.ep x.sq (st.all.take k)).2.2 ≤ 200 := by rw [hsp.2.1]; omega
              have hs1 := hsp.1
              unfold scStep at hsn
              rw [hs1] at hsn
              clear hy hacells hsp hkl2 hs1
              generalize scan m x.ep x.sq (st.all.take k) = SC at hsn hc0 ⊢
              obtain ⟨S1, FO, CO⟩ := SC
              simp only at hsn hc0
              obtain ⟨hc0, hc1⟩ := hc0
              have hcase : (y.id == (m : Int)) = false ∨ ((y.id == (m : Int)) = true ∧ (y.epoch == x.ep) = false) ∨ ((y.id == (m : Int)) = true ∧ (y.epoch == x.ep) = true ∧ (y.seq == x.sq) = false) ∨ ((y.id == (m : Int)) = true ∧ (y.epoch == x.ep) = true ∧ (y.seq == x.sq) = true) := by
                cases (y.id == (m : Int)) <;> cases (y.epoch == x.ep) <;> cases (y.seq == x.sq) <;> simp
              rcases hcase with e1 | ⟨e1, e2⟩ | ⟨e1, e2, e3⟩ | ⟨e1, e2, e3⟩
              · have HSN : Hid ((scan m x.ep x.sq (st.all.take (k + 1))).2 = (FO, CO)) := Lib.hid (by
                  rw [hsn]
                  have h1 : ¬ y.id = (m : Int) := by simpa using e1
                  simp [h1])
                clear hsn
                go_wp2_with fail
                go_quiet (fail)
                go_wp2_with fail
                go_roundg (st.all.length - (k + 1))
                case measure => omega
                case rel => exact ⟨k + 1, by go_num, by omega, by omega, by rw [HSN.out], by rw [HSN.out], below_drewN HBx.out _⟩
              · have HSN : Hid ((scan m x.ep x.sq (st.all.take (k + 1))).2 = (FO, CO)) := Lib.hid (by
                  rw [hsn]
                  have h1 : ¬ y.epoch = x.ep := by simpa using e2
                  simp [h1])
                clear hsn
                go_wp2_with fail
                go_quiet (fail)
                go_wp2_with fail
                go_roundg (st.all.length - (k + 1))
                case measure => omega
                case rel => exact ⟨k + 1, by go_num, by omega, by omega, by rw [HSN.out], by rw [HSN.out], below_drewN HBx.out _⟩
              · have HSN : Hid ((scan m x.ep x.sq (st.all.take (k + 1))).2 = (FO, CO + 1)) := Lib.hid (by
                  rw [hsn]
                  have h1 : ¬ y.seq = x.sq := by simpa using e3
                  have h2 : y.id = (m : Int) := by simpa using e1
                  have h3 : y.epoch = x.ep := by simpa using e2
                  simp [h1, h2, h3])
                clear hsn
                go_wp2_with fail
                go_quiet (fail)
                go_wp2_with fail
                go_quiet (fail)
                go_wp2_with fail
                go_roundg (st.all.length - (k + 1))
                case measure => omega
                case rel => exact ⟨k + 1, by go_num, by omega, by omega, by rw [HSN.out], by rw [HSN.out], below_drewN HBx.out _⟩
              · have HSN : Hid ((scan m x.ep x.sq (st.all.take (k + 1))).2 = ((k : Int), CO + 1)) := Lib.hid (by
                  rw [hsn]
                  have h1 : y.seq = x.sq := by simpa using e3
                  have h2 : y.id = (m : Int) := by simpa using e1
                  have h3 : y.epoch = x.ep := by simpa using e2
                  simp [h1, h2, h3])
                clear hsn
                go_wp2_with fail
                go_quiet (fail)
                go_wp2_with fail
                go_quiet (fail)
                go_wp2_with fail
                go_roundg (st.all.length - (k + 1))
                case measure => omega
                case rel => exact ⟨k + 1, by go_num, by omega, by omega, by rw [HSN.out], by rw [HSN.out], below_drewN HBx.out _⟩
            · have hklz : ¬ (k : Int) < (st.all.length : Int) := by omega
              obtain rfl : k = st.all.length := by omega
              rw [List.take_length]
              have hol := HOL.out
              have hcob := HCOB.out
              clear HCOB
              generalize scan m x.ep x.sq st.all = SC at hol hcob ⊢
              obtain ⟨S1, FO, CO⟩ := SC
              simp only at hol hcob
              obtain ⟨hcob0, hcob1⟩ := hcob
              clear hklz hkl hgk hk HOL n0 n1 n2 n3 n4 nf
              revert HBx
              revert wr
              intro wv HBx
              have HMv := Lib.hid (HM3.out.below HBx.out)
              have HBv := Lib.hid (HB3.out.trans (HBx.out.mono HB3.out.size))
              have HXv := Lib.hid (HX3.out.below HBx.out hX3)
              have HBov : Hid (Below wo.heap.size wo wv) := Lib.hid (HBo3.out.trans (HBx.out.mono HBo3.out.size))
              obtain ⟨n0, n1, n2, n3, n4, nf⟩ := HXv.out.five
              obtain ⟨hc, hf⟩ := HMv.out.ep HI.out.eplen hm64
              have hep := (HI.out.epoch m hm64).2
              have hpos := HI.out.pos
              have HIN := Lib.hid (oinv_more HI.out)
              have hXv := HXv.out.lt
              clear HM3 HB3 HX3 HBo3 HBx
              generalize hEPe : st.ep[m]! = EP at hol hc hep
              have HEP := Lib.hid hEPe
              clear hEPe
              obtain ⟨hep0, hep1⟩ := hep
              obtain ⟨hpos0, hpos1⟩ := hpos
              rcases hol with ⟨rfl, rfl, rfl, rfl, hsq0, hsq1⟩ | ⟨rfl, rfl, hsq0, hsqc, j, y, rfl, hy, hat⟩ | ⟨rfl, hlt18⟩ | ⟨rfl, hlt19⟩ | ⟨hE0, hE5, hE18, hE19⟩
              · as_aux_lemma =>
                  have hs1 : (x.sq != x.sq) = false := by simp
                  have hs2 : (x.ep != x.ep) = false := by simp
                  have hneg : decide ((0 : Int) ≤ -1) = false := rfl
                  obtain ⟨f, hfar, hf0, hf1⟩ : ∃ f : Int, bits .and .i64 x.far 255 = f ∧ 0 ≤ f ∧ f ≤ 255 := ⟨_, rfl, (and_range x.far 255 255 (by decide) (by omega)).1, (and_range x.far 255 255 (by decide) (by omega)).2⟩
                  obtain ⟨hput1, hinv1⟩ := HPUT.out f ⟨hf0, hf1⟩ rfl
                  have HPUT1 := Lib.hid hput1
                  have HINV1 := Lib.hid hinv1
                  clear hput1 hinv1 HPUT
                  go_wp2_with fail
                  go_quiet (fail)
                  go_wp2_with fail
                  refine (record_any _ _ _ _).mono ?_
                  rintro e w4 ⟨rfl, hb4⟩
                  have HB4 : Hid (Below wv.heap.size wv w4) := Lib.hid (below_undrewN hb4)
                  have HX4 := Lib.hid (HXv.out.below HB4.out hXv)
                  obtain ⟨o0, o1, o2, o3, o4, of⟩ := HX4.out.five
                  clear hb4 n0 n1 n2 n3 n4 nf hc hf
                  go_wp2_with fail
                  refine (put_yes _ A4 c4' st.s _ m x.ep x.sq _ _ _ _ _ _ (st.pos + 1 + f) _ HI.out.right (HT4.out.below (HBov.out.trans (HB4.out.mono HBov.out.size))) HPUT1.out).mono ?_
                  rintro e w5 ⟨A6, c6, rfl, ht5, hb5⟩
                  have HM5 := Lib.hid ((HMv.out.below HB4.out).below hb5)
                  have HX5 := Lib.hid (HX4.out.below hb5 HX4.out.lt)
                  have HB5 : Hid (Below w.heap.size w w5) := Lib.hid ((HBv.out.trans (HB4.out.mono HBv.out.size)).trans (hb5.mono (HBv.out.trans (HB4.out.mono HBv.out.size)).size))
                  have hw4 : wo.heap.size < w4.heap.size := HX4.out.lt
                  have HM5T := Lib.hid (HM5.out.turn ht5 (fun b _ hbb => ⟨by omega, fun e => by have := HS5.out b e; omega⟩) (st.pos + 1 + f))
                  obtain ⟨o0, o1, o2, o3, o4, of⟩ := HX5.out.five
                  have HO5 := Lib.hid HM5.out.own
                  have hw5 : wo.heap.size < w5.heap.size := HX5.out.lt
                  clear ht5 hb5
                  go_wp2_with (at_builtin; refine wpList_append_sl (k := 4) (enc := encK) _ rfl _ _ 25 rfl w.heap.size 39 _ 32 Try.underlying25 info_Kept rfl (by decide) encK_len encK_one (.slice A5 st.all.length c5) st.all.length st.all rfl (HO5.out.alloc _) _ 1 1 [⟨m, x.ep, x.sq, st.pos + 1 + f⟩] rfl (SlT.one4 _ _ _ _ _ _ _ (by simp)) (by unfold maxLen; omega) (by omega) (by have := HB5.out.size; simp; omega) ?_)
                  intro v' w6 hown6 hg6 hat6
                  have HMK : Hid (MemO w.heap.size G w6 (.slice A6 (putP st.s m (st.pos + 1 + f)).length c6) v' (⟨putP st.s m (st.pos + 1 + f), st.all ++ [(⟨(m : Int), x.ep, x.sq, st.pos + 1 + f⟩ : Kp)], st.ep, st.pos + 1 + f⟩ : PSt)) := Lib.hid ((HM5T.out.below ((Below.refl _ w5).alloc (Nat.le_refl _) (.cells #[.int .i64 m, .int .i64 x.ep, .int .i64 x.sq, .int .i64 (st.pos + 1 + f)] 39))).app (by simpa using hown6) hg6 (by simpa using hat6))
                  have HXK := Lib.hid ((HX5.out.alloc (.cells #[.int .i64 m, .int .i64 x.ep, .int .i64 x.sq, .int .i64 (st.pos + 1 + f)] 39)).grown hg6 (fun e => by have := HS5.out _ e.symm; omega))
                  have HBK : Hid (Below w.heap.size w w6) := Lib.hid ((HB5.out.alloc HB5.out.size _).grown hg6 (by have := HB5.out.size; simp; omega) (HO5.out.lt · · |>.1))
                  obtain ⟨p0, p1, p2, p3, p4, pf⟩ := HXK.out.five
                  clear hown6 hg6 hat6 o0 o1 o2 o3 o4 of
                  go_wp2_with fail
                  go_cut [198] from 25 to 224 (fun s198 wx => s198 = .bool false ∧ Hid (MemO w.heap.size G wx (.slice A6 (putP st.s m (st.pos + 1 + f)).length c6) v' (⟨putP st.s m (st.pos + 1 + f), st.all ++ [(⟨(m : Int), x.ep, x.sq, st.pos + 1 + f⟩ : Kp)], st.ep, st.pos + 1 + f⟩ : PSt)) ∧ Hid (Blk wx wo.heap.size 28 #[.int .i64 x.dO, .int .i64 x.id, .int .i64 x.ep, .int .i64 x.sq, .int .i64 x.far]) ∧ Hid (Below w.heap.size w wx))
                  case first =>
                    go_quiet (fail)
                    go_wp2_with fail
                    go_meet
                    exact ⟨rfl, HMK.out, HXK.out, below_drewN HBK.out _⟩
                  case rest =>
                    obtain ⟨rfl, HM6, HX6, HB6⟩ := hcut
                    obtain ⟨z0, z1, z2, z3, z4, zf⟩ := HX6.out.five
                    have hec := (HM6.out.ep HI.out.eplen hm64).1
                    have HEC6 : Hid (wc.cell? ⟨G, m, none⟩ = some (.int .i64 x.ep)) := Lib.hid (by rw [← HEP.out]; exact hec)
                    have hG6 : G < wc.heap.size := by have := HX6.out.lt; omega
                    have hec6 := HEC6.out
                    have HT6 := Lib.hid HM6.out.tab
                    have HI6 : Hid (OInv (⟨putP st.s m (st.pos + 1 + f), st.all ++ [(⟨(m : Int), x.ep, x.sq, st.pos + 1 + f⟩ : Kp)], st.ep, st.pos + 1 + f⟩ : PSt) (i + 1)) := Lib.hid (HINV1.out)
                    have HRI := Lib.hid HI6.out.right
                    clear hec p0 p1 p2 p3 p4 pf
                    go_wp2_with fail
                    refine wp_region_noPanic ?_
                    refine wp_region_held_drew (S := fun w' => w'.cell? ⟨wo.heap.size, 2, none⟩ = some (.int .i64 x.ep) ∧ w'.cell? ⟨wo.heap.size, 3, none⟩ = some (.int .i64 x.sq) ∧ w'.cell? ⟨G, m, none⟩ = some (.int .i64 x.ep)) (by kernel_rfl) ?_ (fun hHeld => ?_)
                    · go_keep
                    refine take_yes (i := 0) (some 199) (v := ?vq0_0) (by simp only [List.getElem?_toArray, List.getElem?_cons_zero]; exact rfl) rfl (by kernel_rfl) (by kernel_rfl) (by kernel_rfl) (fun _ _ _ h => h) (by rfl) ?hyq0_0 (by assumption) ?restq0_0
                    case hyq0_0 => (intro w hSw; (try dsimp only at hSw); go_simp; try with_reducible rfl)
                    try simp only [Act.put, List.setIfInBounds_toArray, List.set_cons_zero, List.set_cons_succ]
                    refine take_yes (i := 1) (some 200) (v := ?vq0_1) (by simp only [List.getElem?_toArray, List.getElem?_cons_succ, List.getElem?_cons_zero]; exact rfl) rfl (by kernel_rfl) (by kernel_rfl) (by kernel_rfl) (fun _ _ _ h => h) (by rfl) ?hyq0_1 (by assumption) ?restq0_1
                    case hyq0_1 => (intro w hSw; (try dsimp only at hSw); go_simp; try with_reducible rfl)
                    try simp only [Act.put, List.setIfInBounds_toArray, List.set_cons_zero, List.set_cons_succ]
                    refine take_yes (i := 2) (some 201) (v := ?vq0_2) (by simp only [List.getElem?_toArray, List.getElem?_cons_succ, List.getElem?_cons_zero]; exact rfl) rfl (by kernel_rfl) (by kernel_rfl) (by kernel_rfl) (fun _ _ _ h => h) (by rfl) ?hyq0_2 (by assumption) ?restq0_2
                    case hyq0_2 => (intro w hSw; (try dsimp only at hSw); go_simp; try with_reducible rfl)
                    try simp only [Act.put, List.setIfInBounds_toArray, List.set_cons_zero, List.set_cons_succ]
                    refine take_un (i := 3) (some 202) (by simp only [List.getElem?_toArray, List.getElem?_cons_succ, List.getElem?_cons_zero]; exact rfl) rfl (by kernel_rfl) (by kernel_rfl) (by kernel_rfl) (fun _ _ _ h => h) (by rfl) (by assumption) ?_
                    try simp only [Act.put, List.setIfInBounds_toArray, List.set_cons_zero, List.set_cons_succ]
                    refine take_un (i := 4) (some 203) (by simp only [List.getElem?_toArray, List.getElem?_cons_succ, List.getElem?_cons_zero]; exact rfl) rfl (by kernel_rfl) (by kernel_rfl) (by kernel_rfl) (fun _ _ _ h => h) (by rfl) (by assumption) ?_
                    try simp only [Act.put, List.setIfInBounds_toArray, List.set_cons_zero, List.set_cons_succ]
                    refine take_un (i := 5) (some 204) (by simp only [List.getElem?_toArray, List.getElem?_cons_succ, List.getElem?_cons_zero]; exact rfl) rfl (by kernel_rfl) (by kernel_rfl) (by kernel_rfl) (fun _ _ _ h => h) (by rfl) (by assumption) ?_
                    try simp only [Act.put, List.setIfInBounds_toArray, List.set_cons_zero, List.set_cons_succ]
                    refine take_un (i := 6) (some 205) (by simp only [List.getElem?_toArray, List.getElem?_cons_succ, List.getElem?_cons_zero]; exact rfl) rfl (by kernel_rfl) (by kernel_rfl) (by kernel_rfl) (fun _ _ _ h => h) (by rfl) (by assumption) ?_
                    try simp only [Act.put, List.setIfInBounds_toArray, List.set_cons_zero, List.set_cons_succ]
                    refine take_un (i := 7) (some 206) (by simp only [List.getElem?_toArray, List.getElem?_cons_succ, List.getElem?_cons_zero]; exact rfl) rfl (by kernel_rfl) (by kernel_rfl) (by kernel_rfl) (fun _ _ _ h => h) (by rfl) (by assumption) ?_
                    try simp only [Act.put, List.setIfInBounds_toArray, List.set_cons_zero, List.set_cons_succ]
                    refine take_un (i := 8) (some 207) (by simp only [List.getElem?_toArray, List.getElem?_cons_succ, List.getElem?_cons_zero]; exact rfl) rfl (by kernel_rfl) (by kernel_rfl) (by kernel_rfl) (fun _ _ _ h => h) (by rfl) (by assumption) ?_
                    try simp only [Act.put, List.setIfInBounds_toArray, List.set_cons_zero, List.set_cons_succ]
                    refine take_un (i := 9) (some 208) (by simp only [List.getElem?_toArray, List.getElem?_cons_succ, List.getElem?_cons_zero]; exact rfl) rfl (by kernel_rfl) (by kernel_rfl) (by kernel_rfl) (fun _ _ _ h => h) (by rfl) (by assumption) ?_
                    try simp only [Act.put, List.setIfInBounds_toArray, List.set_cons_zero, List.set_cons_succ]
                    refine take_yes (i := 10) (some 209) (v := ?vq0_10) (by simp only [List.getElem?_toArray, List.getElem?_cons_succ, List.getElem?_cons_zero]; exact rfl) rfl (by kernel_rfl) (by kernel_rfl) (by kernel_rfl) (fun _ _ _ h => h) (by rfl) ?hyq0_10 (by assumption) ?restq0_10
                    case hyq0_10 => (intro w hSw; (try dsimp only at hSw); go_simp; try with_reducible rfl)
                    try simp only [Act.put, List.setIfInBounds_toArray, List.set_cons_zero, List.set_cons_succ]
                    refine take_yes (i := 11) (some 210) (v := ?vq0_11) (by simp only [List.getElem?_toArray, List.getElem?_cons_succ, List.getElem?_cons_zero]; exact rfl) rfl (by kernel_rfl) (by kernel_rfl) (by kernel_rfl) (fun _ _ _ h => h) (by rfl) ?hyq0_11 (by assumption) ?restq0_11
                    case hyq0_11 => (intro w hSw; (try dsimp only at hSw); go_simp; try with_reducible rfl)
                    try simp only [Act.put, List.setIfInBounds_toArray, List.set_cons_zero, List.set_cons_succ]
                    refine take_yes (i := 12) (some 211) (v := ?vq0_12) (by simp only [List.getElem?_toArray, List.getElem?_cons_succ, List.getElem?_cons_zero]; exact rfl) rfl (by kernel_rfl) (by kernel_rfl) (by kernel_rfl) (fun _ _ _ h => h) (by rfl) ?hyq0_12 (by assumption) ?restq0_12
                    case hyq0_12 => (intro w hSw; (try dsimp only at hSw); go_simp; try with_reducible rfl)
                    try simp only [Act.put, List.setIfInBounds_toArray, List.set_cons_zero, List.set_cons_succ]
                    refine take_yes (i := 13) (some 212) (v := ?vq0_13) (by simp only [List.getElem?_toArray, List.getElem?_cons_succ, List.getElem?_cons_zero]; exact rfl) rfl (by kernel_rfl) (by kernel_rfl) (by kernel_rfl) (fun _ _ _ h => h) (by rfl) ?hyq0_13 (by assumption) ?restq0_13
                    case hyq0_13 => (intro w hSw; (try dsimp only at hSw); go_simp; try with_reducible rfl)
                    try simp only [Act.put, List.setIfInBounds_toArray, List.set_cons_zero, List.set_cons_succ]
                    refine take_yes (i := 14) (some 213) (v := ?vq0_14) (by simp only [List.getElem?_toArray, List.getElem?_cons_succ, List.getElem?_cons_zero]; exact rfl) rfl (by kernel_rfl) (by kernel_rfl) (by kernel_rfl) (fun _ _ _ h => h) (by rfl) ?hyq0_14 (by assumption) ?restq0_14
                    case hyq0_14 => (intro w hSw; (try dsimp only at hSw); go_simp; try with_reducible rfl)
                    try simp only [Act.put, List.setIfInBounds_toArray, List.set_cons_zero, List.set_cons_succ]
                    refine take_un (i := 15) (some 214) (by simp only [List.getElem?_toArray, List.getElem?_cons_succ, List.getElem?_cons_zero]; exact rfl) rfl (by kernel_rfl) (by kernel_rfl) (by kernel_rfl) (fun _ _ _ h => h) (by rfl) (by assumption) ?_
                    try simp only [Act.put, List.setIfInBounds_toArray, List.set_cons_zero, List.set_cons_succ]
                    refine take_un (i := 16) (some 215) (by simp only [List.getElem?_toArray, List.getElem?_cons_succ, List.getElem?_cons_zero]; exact rfl) rfl (by kernel_rfl) (by kernel_rfl) (by kernel_rfl) (fun _ _ _ h => h) (by rfl) (by assumption) ?_
                    try simp only [Act.put, List.setIfInBounds_toArray, List.set_cons_zero, List.set_cons_succ]
                    refine take_un (i := 17) (some 216) (by simp only [List.getElem?_toArray, List.getElem?_cons_succ, List.getElem?_cons_zero]; exact rfl) rfl (by kernel_rfl) (by kernel_rfl) (by kernel_rfl) (fun _ _ _ h => h) (by rfl) (by assumption) ?_
                    try simp only [Act.put, List.setIfInBounds_toArray, List.set_cons_zero, List.set_cons_succ]
                    refine take_un (i := 18) (some 217) (by simp only [List.getElem?_toArray, List.getElem?_cons_succ, List.getElem?_cons_zero]; exact rfl) rfl (by kernel_rfl) (by kernel_rfl) (by kernel_rfl) (fun _ _ _ h => h) (by rfl) (by assumption) ?_
                    try simp only [Act.put, List.setIfInBounds_toArray, List.set_cons_zero, List.set_cons_succ]
                    refine take_yes (i := 19) (some 218) (v := ?vq0_19) (by simp only [List.getElem?_toArray, List.getElem?_cons_succ, List.getElem?_cons_zero]; exact rfl) rfl (by kernel_rfl) (by kernel_rfl) (by kernel_rfl) (fun _ _ _ h => h) (by rfl) ?hyq0_19 (by assumption) ?restq0_19
                    case hyq0_19 => (intro w hSw; (try dsimp only at hSw); go_simp; try with_reducible rfl)
                    try simp only [Act.put, List.setIfInBounds_toArray, List.set_cons_zero, List.set_cons_succ]
                    refine take_yes (i := 20) (some 219) (v := ?vq0_20) (by simp only [List.getElem?_toArray, List.getElem?_cons_succ, List.getElem?_cons_zero]; exact rfl) rfl (by kernel_rfl) (by kernel_rfl) (by kernel_rfl) (fun _ _ _ h => h) (by rfl) ?hyq0_20 (by assumption) ?restq0_20
                    case hyq0_20 => (intro w hSw; (try dsimp only at hSw); go_simp; try with_reducible rfl)
                    try simp only [Act.put, List.setIfInBounds_toArray, List.set_cons_zero, List.set_cons_succ]
                    refine take_yes (i := 21) (some 220) (v := ?vq0_21) (by simp only [List.getElem?_toArray, List.getElem?_cons_succ, List.getElem?_cons_zero]; exact rfl) rfl (by kernel_rfl) (by kernel_rfl) (by kernel_rfl) (fun _ _ _ h => h) (by rfl) ?hyq0_21 (by assumption) ?restq0_21
                    case hyq0_21 => (intro w hSw; (try dsimp only at hSw); go_simp; try with_reducible rfl)
                    try simp only [Act.put, List.setIfInBounds_toArray, List.set_cons_zero, List.set_cons_succ]
                    refine take_yes (i := 22) (some 221) (v := ?vq0_22) (by simp only [List.getElem?_toArray, List.getElem?_cons_succ, List.getElem?_cons_zero]; exact rfl) rfl (by kernel_rfl) (by kernel_rfl) (by kernel_rfl) (fun _ _ _ h => h) (by rfl) ?hyq0_22 (by assumption) ?restq0_22
                    case hyq0_22 => (intro w hSw; (try dsimp only at hSw); go_simp; try with_reducible rfl)
                    try simp only [Act.put, List.setIfInBounds_toArray, List.set_cons_zero, List.set_cons_succ]
                    refine wpAnyH_ready (rs := [23]) (by kernel_rfl) (by simp) ?_
                    refine AllReadyH.cons rfl (fun K hK => ?_) AllReadyH.nil
                    go_simp
                    go_wp2_with (go_at_call 12; refine (pright_yes _ A6 c6 (⟨putP st.s m (st.pos + 1 + f), st.all ++ [(⟨(m : Int), x.ep, x.sq, st.pos + 1 + f⟩ : Kp)], st.ep, st.pos + 1 + f⟩ : PSt).s _ HRI.out HT6.out.drew).mono ?_; rintro e w7 ⟨rfl, hb7⟩; obtain ⟨y0, y1, y2, y3, y4, yf⟩ := (HX6.out.drew.below hb7 HX6.out.lt).five; have yG := (hb7.cell (p := ⟨G, m, none⟩) hG6).trans HEC6.out; have HM7 : Hid (MemO w.heap.size G w7 (.slice A6 (putP st.s m (st.pos + 1 + f)).length c6) v' (⟨putP st.s m (st.pos + 1 + f), st.all ++ [(⟨(m : Int), x.ep, x.sq, st.pos + 1 + f⟩ : Kp)], st.ep, st.pos + 1 + f⟩ : PSt)) := Lib.hid (HM6.out.drew.below hb7); have HB7 : Hid (Below w.heap.size w w7) := Lib.hid (HB6.out.drew.trans (hb7.mono HB6.out.size)); clear hb7)
                    refine hK.out _ _ ?_ (fun hHeld => ?_)
                    · go_keep
                    clear hK K
                    try simp only [Act.put, List.setIfInBounds_toArray, List.set_cons_zero, List.set_cons_succ]
                    refine take_yes (i := 24) (some 223) (v := ?vq0_24) (by simp only [List.getElem?_toArray, List.getElem?_cons_succ, List.getElem?_cons_zero]; exact rfl) rfl (by kernel_rfl) (by kernel_rfl) (by kernel_rfl) (fun _ _ _ h => h) (by rfl) ?hyq0_24 (by assumption) ?restq0_24
                    case hyq0_24 => (intro w hSw; (try dsimp only at hSw); go_simp; try with_reducible rfl)
                    try simp only [Act.put, List.setIfInBounds_toArray, List.set_cons_zero, List.set_cons_succ]
                    refine take_yes (i := 25) (some 224) (v := ?vq0_25) (by simp only [List.getElem?_toArray, List.getElem?_cons_succ, List.getElem?_cons_zero]; exact rfl) rfl (by kernel_rfl) (by kernel_rfl) (by kernel_rfl) (fun _ _ _ h => h) (by rfl) ?hyq0_25 (by assumption) ?restq0_25
                    case hyq0_25 => (intro w hSw; (try dsimp only at hSw); go_simp; try with_reducible rfl)
                    try simp only [Act.put, List.setIfInBounds_toArray, List.set_cons_zero, List.set_cons_succ]
                    refine wpAnyH_done (by kernel_rfl) ?_ _
                    refine NoPanic.normal ?_
                    go_wp2
                    go_roundg (ops.length - (i + 1))
                    case measure => exact meas hlt hg
                    case rel => exact ⟨i + 1, (⟨putP st.s m (st.pos + 1 + f), st.all ++ [(⟨(m : Int), x.ep, x.sq, st.pos + 1 + f⟩ : Kp)], st.ep, st.pos + 1 + f⟩ : PSt), by go_num, by omega, by omega, rfl, HI6.out, HM7.out, HB7.out⟩
              · as_aux_lemma =>
                  have hs2 : (x.ep != x.ep) = false := by simp
                  have hjn : decide ((j : Int) < 0) = false := decide_eq_false (by omega)
                  have hjl := (List.getElem?_eq_some_iff.1 hy).1
                  have hjz : (j : Int) < (st.all.length : Int) := by omega
                  have hj200 : (j : Int) ≤ 200 := by omega
                  obtain ⟨ab, aoff, rfl, hab, hacells⟩ := HSA.out.2.2 (by omega)
                  obtain ⟨a0, a1, a2, a3⟩ := cellsK hacells hab HBov.out hy
                  have hmx : max (j : Int) 0 = (j : Int) := by omega
                  have habv : ab < wv.heap.size := Nat.lt_of_lt_of_le hab HBov.out.size
                  clear hy hacells
                  go_wp2_with fail
                  go_cut [198] from 25 to 224 (fun s198 wx => s198 = .bool false ∧ Hid (MemO w.heap.size G wx (.slice A4 st.s.length c4') (.slice (some ⟨ab, aoff, none⟩) st.all.length c5) st) ∧ Hid (Blk wx wo.heap.size 28 #[.int .i64 x.dO, .int .i64 x.id, .int .i64 x.ep, .int .i64 x.sq, .int .i64 x.far]) ∧ Hid (Below w.heap.size w wx))
                  case first =>
                    rcases hat with ⟨h20, rfl⟩ | ⟨h20, rfl⟩
                    · have h20b : decide (CO - x.sq ≤ 20) = true := decide_eq_true h20
                      have h20c : decide (20 < CO - x.sq) = false := decide_eq_false (by omega)
                      have hpp : (y.pos != y.pos) = false := by simp
                      go_quiet (fail)
                      go_wp2_with fail
                      go_meet
                      exact ⟨rfl, HMv.out, HXv.out, below_drewN HBv.out _⟩
                    · have h20b : decide (CO - x.sq ≤ 20) = false := decide_eq_false (by omega)
                      have h20c : decide (20 < CO - x.sq) = true := decide_eq_true h20
                      have hpp : ((-1 : Int) != -1) = false := by simp
                      go_quiet (fail)
                      go_wp2_with fail
                      go_meet
                      exact ⟨rfl, HMv.out, HXv.out, below_drewN HBv.out _⟩
                  case rest =>
                    obtain ⟨rfl, HM6, HX6, HB6⟩ := hcut
                    obtain ⟨z0, z1, z2, z3, z4, zf⟩ := HX6.out.five
                    have hec := (HM6.out.ep HI.out.eplen hm64).1
                    have HEC6 : Hid (wc.cell? ⟨G, m, none⟩ = some (.int .i64 x.ep)) := Lib.hid (by rw [← HEP.out]; exact hec)
                    have hG6 : G < wc.heap.size := by have := HX6.out.lt; omega
                    have hec6 := HEC6.out
                    have HT6 := Lib.hid HM6.out.tab
                    have HI6 : Hid (OInv st (i + 1)) := Lib.hid (HIN.out)
                    have HRI := Lib.hid HI6.out.right
                    clear hec hc hf n0 n1 n2 n3 n4 nf
                    go_wp2_with fail
                    refine wp_region_noPanic ?_
                    refine wp_region_held_drew (S := fun w' => w'.cell? ⟨wo.heap.size, 2, none⟩ = some (.int .i64 x.ep) ∧ w'.cell? ⟨wo.heap.size, 3, none⟩ = some (.int .i64 x.sq) ∧ w'.cell? ⟨G, m, none⟩ = some (.int .i64 x.ep)) (by kernel_rfl) ?_ (fun hHeld => ?_)
                    · go_keep
                    refine take_yes (i := 0) (some 199) (v := ?vq5_0) (by simp only [List.getElem?_toArray, List.getElem?_cons_zero]; exact rfl) rfl (by kernel_rfl) (by kernel_rfl) (by kernel_rfl) (fun _ _ _ h => h) (by rfl) ?hyq5_0 (by assumption) ?restq5_0
                    case hyq5_0 => (intro w hSw; (try dsimp only at hSw); go_simp; try with_reducible rfl)
                    try simp only [Act.put, List.setIfInBounds_toArray, List.set_cons_zero, List.set_cons_succ]
                    refine take_yes (i := 1) (some 200) (v := ?vq5_1) (by simp only [List.getElem?_toArray, List.getElem?_cons_succ, List.getElem?_cons_zero]; exact rfl) rfl (by kernel_rfl) (by kernel_rfl) (by kernel_rfl) (fun _ _ _ h => h) (by rfl) ?hyq5_1 (by assumption) ?restq5_1
                    case hyq5_1 => (intro w hSw; (try dsimp only at hSw); go_simp; try with_reducible rfl)
                    try simp only [Act.put, List.setIfInBounds_toArray, List.set_cons_zero, List.set_cons_succ]
                    refine take_yes (i := 2) (some 201) (v := ?vq5_2) (by simp only [List.getElem?_toArray, List.getElem?_cons_succ, List.getElem?_cons_zero]; exact rfl) rfl (by kernel_rfl) (by kernel_rfl) (by kernel_rfl) (fun _ _ _ h => h) (by rfl) ?hyq5_2 (by assumption) ?restq5_2
                    case hyq5_2 => (intro w hSw; (try dsimp only at hSw); go_simp; try with_reducible rfl)
                    try simp only [Act.put, List.setIfInBounds_toArray, List.set_cons_zero, List.set_cons_succ]
                    refine take_un (i := 3) (some 202) (by simp only [List.getElem?_toArray, List.getElem?_cons_succ, List.getElem?_cons_zero]; exact rfl) rfl (by kernel_rfl) (by kernel_rfl) (by kernel_rfl) (fun _ _ _ h => h) (by rfl) (by assumption) ?_
                    try simp only [Act.put, List.setIfInBounds_toArray, List.set_cons_zero, List.set_cons_succ]
                    refine take_un (i := 4) (some 203) (by simp only [List.getElem?_toArray, List.getElem?_cons_succ, List.getElem?_cons_zero]; exact rfl) rfl (by kernel_rfl) (by kernel_rfl) (by kernel_rfl) (fun _ _ _ h => h) (by rfl) (by assumption) ?_
                    try simp only [Act.put, List.setIfInBounds_toArray, List.set_cons_zero, List.set_cons_succ]
                    refine take_un (i := 5) (some 204) (by simp only [List.getElem?_toArray, List.getElem?_cons_succ, List.getElem?_cons_zero]; exact rfl) rfl (by kernel_rfl) (by kernel_rfl) (by kernel_rfl) (fun _ _ _ h => h) (by rfl) (by assumption) ?_
                    try simp only [Act.put, List.setIfInBounds_toArray, List.set_cons_zero, List.set_cons_succ]
                    refine take_un (i := 6) (some 205) (by simp only [List.getElem?_toArray, List.getElem?_cons_succ, List.getElem?_cons_zero]; exact rfl) rfl (by kernel_rfl) (by kernel_rfl) (by kernel_rfl) (fun _ _ _ h => h) (by rfl) (by assumption) ?_
                    try simp only [Act.put, List.setIfInBounds_toArray, List.set_cons_zero, List.set_cons_succ]
                    refine take_un (i := 7) (some 206) (by simp only [List.getElem?_toArray, List.getElem?_cons_succ, List.getElem?_cons_zero]; exact rfl) rfl (by kernel_rfl) (by kernel_rfl) (by kernel_rfl) (fun _ _ _ h => h) (by rfl) (by assumption) ?_
                    try simp only [Act.put, List.setIfInBounds_toArray, List.set_cons_zero, List.set_cons_succ]
                    refine take_un (i := 8) (some 207) (by simp only [List.getElem?_toArray, List.getElem?_cons_succ, List.getElem?_cons_zero]; exact rfl) rfl (by kernel_rfl) (by kernel_rfl) (by kernel_rfl) (fun _ _ _ h => h) (by rfl) (by assumption) ?_
                    try simp only [Act.put, List.setIfInBounds_toArray, List.set_cons_zero, List.set_cons_succ]
                    refine take_un (i := 9) (some 208) (by simp only [List.getElem?_toArray, List.getElem?_cons_succ, List.getElem?_cons_zero]; exact rfl) rfl (by kernel_rfl) (by kernel_rfl) (by kernel_rfl) (fun _ _ _ h => h) (by rfl) (by assumption) ?_
                    try simp only [Act.put, List.setIfInBounds_toArray, List.set_cons_zero, List.set_cons_succ]
                    refine take_yes (i := 10) (some 209) (v := ?vq5_10) (by simp only [List.getElem?_toArray, List.getElem?_cons_succ, List.getElem?_cons_zero]; exact rfl) rfl (by kernel_rfl) (by kernel_rfl) (by kernel_rfl) (fun _ _ _ h => h) (by rfl) ?hyq5_10 (by assumption) ?restq5_10
                    case hyq5_10 => (intro w hSw; (try dsimp only at hSw); go_simp; try with_reducible rfl)
                    try simp only [Act.put, List.setIfInBounds_toArray, List.set_cons_zero, List.set_cons_succ]
                    refine take_yes (i := 11) (some 210) (v := ?vq5_11) (by simp only [List.getElem?_toArray, List.getElem?_cons_succ, List.getElem?_cons_zero]; exact rfl) rfl (by kernel_rfl) (by kernel_rfl) (by kernel_rfl) (fun _ _ _ h => h) (by rfl) ?hyq5_11 (by assumption) ?restq5_11
                    case hyq5_11 => (intro w hSw; (try dsimp only at hSw); go_simp; try with_reducible rfl)
                    try simp only [Act.put, List.setIfInBounds_toArray, List.set_cons_zero, List.set_cons_succ]
                    refine take_yes (i := 12) (some 211) (v := ?vq5_12) (by simp only [List.getElem?_toArray, List.getElem?_cons_succ, List.getElem?_cons_zero]; exact rfl) rfl (by kernel_rfl) (by kernel_rfl) (by kernel_rfl) (fun _ _ _ h => h) (by rfl) ?hyq5_12 (by assumption) ?restq5_12
                    case hyq5_12 => (intro w hSw; (try dsimp only at hSw); go_simp; try with_reducible rfl)
                    try simp only [Act.put, List.setIfInBounds_toArray, List.set_cons_zero, List.set_cons_succ]
                    refine take_yes (i := 13) (some 212) (v := ?vq5_13) (by simp only [List.getElem?_toArray, List.getElem?_cons_succ, List.getElem?_cons_zero]; exact rfl) rfl (by kernel_rfl) (by kernel_rfl) (by kernel_rfl) (fun _ _ _ h => h) (by rfl) ?hyq5_13 (by assumption) ?restq5_13
                    case hyq5_13 => (intro w hSw; (try dsimp only at hSw); go_simp; try with_reducible rfl)
                    try simp only [Act.put, List.setIfInBounds_toArray, List.set_cons_zero, List.set_cons_succ]
                    refine take_yes (i := 14) (some 213) (v := ?vq5_14) (by simp only [List.getElem?_toArray, List.getElem?_cons_succ, List.getElem?_cons_zero]; exact rfl) rfl (by kernel_rfl) (by kernel_rfl) (by kernel_rfl) (fun _ _ _ h => h) (by rfl) ?hyq5_14 (by assumption) ?restq5_14
                    case hyq5_14 => (intro w hSw; (try dsimp only at hSw); go_simp; try with_reducible rfl)
                    try simp only [Act.put, List.setIfInBounds_toArray, List.set_cons_zero, List.set_cons_succ]
                    refine take_un (i := 15) (some 214) (by simp only [List.getElem?_toArray, List.getElem?_cons_succ, List.getElem?_cons_zero]; exact rfl) rfl (by kernel_rfl) (by kernel_rfl) (by kernel_rfl) (fun _ _ _ h => h) (by rfl) (by assumption) ?_
                    try simp only [Act.put, List.setIfInBounds_toArray, List.set_cons_zero, List.set_cons_succ]
                    refine take_un (i := 16) (some 215) (by simp only [List.getElem?_toArray, List.getElem?_cons_succ, List.getElem?_cons_zero]; exact rfl) rfl (by kernel_rfl) (by kernel_rfl) (by kernel_rfl) (fun _ _ _ h => h) (by rfl) (by assumption) ?_
                    try simp only [Act.put, List.setIfInBounds_toArray, List.set_cons_zero, List.set_cons_succ]
                    refine take_un (i := 17) (some 216) (by simp only [List.getElem?_toArray, List.getElem?_cons_succ, List.getElem?_cons_zero]; exact rfl) rfl (by kernel_rfl) (by kernel_rfl) (by kernel_rfl) (fun _ _ _ h => h) (by rfl) (by assumption) ?_
                    try simp only [Act.put, List.setIfInBounds_toArray, List.set_cons_zero, List.set_cons_succ]
                    refine take_un (i := 18) (some 217) (by simp only [List.getElem?_toArray, List.getElem?_cons_succ, List.getElem?_cons_zero]; exact rfl) rfl (by kernel_rfl) (by kernel_rfl) (by kernel_rfl) (fun _ _ _ h => h) (by rfl) (by assumption) ?_
                    try simp only [Act.put, List.setIfInBounds_toArray, List.set_cons_zero, List.set_cons_succ]
                    refine take_yes (i := 19) (some 218) (v := ?vq5_19) (by simp only [List.getElem?_toArray, List.getElem?_cons_succ, List.getElem?_cons_zero]; exact rfl) rfl (by kernel_rfl) (by kernel_rfl) (by kernel_rfl) (fun _ _ _ h => h) (by rfl) ?hyq5_19 (by assumption) ?restq5_19
                    case hyq5_19 => (intro w hSw; (try dsimp only at hSw); go_simp; try with_reducible rfl)
                    try simp only [Act.put, List.setIfInBounds_toArray, List.set_cons_zero, List.set_cons_succ]
                    refine take_yes (i := 20) (some 219) (v := ?vq5_20) (by simp only [List.getElem?_toArray, List.getElem?_cons_succ, List.getElem?_cons_zero]; exact rfl) rfl (by kernel_rfl) (by kernel_rfl) (by kernel_rfl) (fun _ _ _ h => h) (by rfl) ?hyq5_20 (by assumption) ?restq5_20
                    case hyq5_20 => (intro w hSw; (try dsimp only at hSw); go_simp; try with_reducible rfl)
                    try simp only [Act.put, List.setIfInBounds_toArray, List.set_cons_zero, List.set_cons_succ]
                    refine take_yes (i := 21) (some 220) (v := ?vq5_21) (by simp only [List.getElem?_toArray, List.getElem?_cons_succ, List.getElem?_cons_zero]; exact rfl) rfl (by kernel_rfl) (by kernel_rfl) (by kernel_rfl) (fun _ _ _ h => h) (by rfl) ?hyq5_21 (by assumption) ?restq5_21
                    case hyq5_21 => (intro w hSw; (try dsimp only at hSw); go_simp; try with_reducible rfl)
                    try simp only [Act.put, List.setIfInBounds_toArray, List.set_cons_zero, List.set_cons_succ]
                    refine take_yes (i := 22) (some 221) (v := ?vq5_22) (by simp only [List.getElem?_toArray, List.getElem?_cons_succ, List.getElem?_cons_zero]; exact rfl) rfl (by kernel_rfl) (by kernel_rfl) (by kernel_rfl) (fun _ _ _ h => h) (by rfl) ?hyq5_22 (by assumption) ?restq5_22
                    case hyq5_22 => (intro w hSw; (try dsimp only at hSw); go_simp; try with_reducible rfl)
                    try simp only [Act.put, List.setIfInBounds_toArray, List.set_cons_zero, List.set_cons_succ]
                    refine wpAnyH_ready (rs := [23]) (by kernel_rfl) (by simp) ?_
                    refine AllReadyH.cons rfl (fun K hK => ?_) AllReadyH.nil
                    go_simp
                    go_wp2_with (go_at_call 12; refine (pright_yes _ A4 c4' st.s _ HRI.out HT6.out.drew).mono ?_; rintro e w7 ⟨rfl, hb7⟩; obtain ⟨y0, y1, y2, y3, y4, yf⟩ := (HX6.out.drew.below hb7 HX6.out.lt).five; have yG := (hb7.cell (p := ⟨G, m, none⟩) hG6).trans HEC6.out; have HM7 : Hid (MemO w.heap.size G w7 (.slice A4 st.s.length c4') (.slice (some ⟨ab, aoff, none⟩) st.all.length c5) st) := Lib.hid (HM6.out.drew.below hb7); have HB7 : Hid (Below w.heap.size w w7) := Lib.hid (HB6.out.drew.trans (hb7.mono HB6.out.size)); clear hb7)
                    refine hK.out _ _ ?_ (fun hHeld => ?_)
                    · go_keep
                    clear hK K
                    try simp only [Act.put, List.setIfInBounds_toArray, List.set_cons_zero, List.set_cons_succ]
                    refine take_yes (i := 24) (some 223) (v := ?vq5_24) (by simp only [List.getElem?_toArray, List.getElem?_cons_succ, List.getElem?_cons_zero]; exact rfl) rfl (by kernel_rfl) (by kernel_rfl) (by kernel_rfl) (fun _ _ _ h => h) (by rfl) ?hyq5_24 (by assumption) ?restq5_24
                    case hyq5_24 => (intro w hSw; (try dsimp only at hSw); go_simp; try with_reducible rfl)
                    try simp only [Act.put, List.setIfInBounds_toArray, List.set_cons_zero, List.set_cons_succ]
                    refine take_yes (i := 25) (some 224) (v := ?vq5_25) (by simp only [List.getElem?_toArray, List.getElem?_cons_succ, List.getElem?_cons_zero]; exact rfl) rfl (by kernel_rfl) (by kernel_rfl) (by kernel_rfl) (fun _ _ _ h => h) (by rfl) ?hyq5_25 (by assumption) ?restq5_25
                    case hyq5_25 => (intro w hSw; (try dsimp only at hSw); go_simp; try with_reducible rfl)
                    try simp only [Act.put, List.setIfInBounds_toArray, List.set_cons_zero, List.set_cons_succ]
                    refine wpAnyH_done (by kernel_rfl) ?_ _
                    refine NoPanic.normal ?_
                    go_wp2
                    go_roundg (ops.length - (i + 1))
                    case measure => exact meas hlt hg
                    case rel => exact ⟨i + 1, st, by go_num, by omega, by omega, rfl, HI6.out, HM7.out, HB7.out⟩
              · as_aux_lemma =>
                  have hb18 : decide (EP ≤ x.ep) = false := decide_eq_false (by omega)
                  have hn18 : ¬ EP ≤ x.ep := by omega
                  go_wp2_with fail
                  go_cut [198] from 25 to 224 (fun s198 wx => s198 = .bool false ∧ Hid (MemO w.heap.size G wx (.slice A4 st.s.length c4') (.slice A5 st.all.length c5) st) ∧ Hid (Blk wx wo.heap.size 28 #[.int .i64 x.dO, .int .i64 x.id, .int .i64 x.ep, .int .i64 x.sq, .int .i64 x.far]) ∧ Hid (Below w.heap.size w wx))
                  case first =>
                    go_quiet (fail)
                    go_wp2_with fail
                    go_meet
                    exact ⟨rfl, HMv.out, HXv.out, below_drewN HBv.out _⟩
                  case rest =>
                    obtain ⟨rfl, HM6, HX6, HB6⟩ := hcut
                    obtain ⟨z0, z1, z2, z3, z4, zf⟩ := HX6.out.five
                    have hec := (HM6.out.ep HI.out.eplen hm64).1
                    have HEC6 : Hid (wc.cell? ⟨G, m, none⟩ = some (.int .i64 EP)) := Lib.hid (by rw [← HEP.out]; exact hec)
                    have hG6 : G < wc.heap.size := by have := HX6.out.lt; omega
                    have hec6 := HEC6.out
                    have HT6 := Lib.hid HM6.out.tab
                    have HI6 : Hid (OInv st (i + 1)) := Lib.hid (HIN.out)
                    have HRI := Lib.hid HI6.out.right
                    clear hec hc hf n0 n1 n2 n3 n4 nf
                    go_wp2_with fail
                    refine wp_region_noPanic ?_
                    refine wp_region_held_drew (S := fun w' => w'.cell? ⟨wo.heap.size, 2, none⟩ = some (.int .i64 x.ep) ∧ w'.cell? ⟨wo.heap.size, 3, none⟩ = some (.int .i64 x.sq) ∧ w'.cell? ⟨G, m, none⟩ = some (.int .i64 EP)) (by kernel_rfl) ?_ (fun hHeld => ?_)
                    · go_keep
                    refine take_yes (i := 0) (some 199) (v := ?vq18_0) (by simp only [List.getElem?_toArray, List.getElem?_cons_zero]; exact rfl) rfl (by kernel_rfl) (by kernel_rfl) (by kernel_rfl) (fun _ _ _ h => h) (by rfl) ?hyq18_0 (by assumption) ?restq18_0
                    case hyq18_0 => (intro w hSw; (try dsimp only at hSw); go_simp; try with_reducible rfl)
                    try simp only [Act.put, List.setIfInBounds_toArray, List.set_cons_zero, List.set_cons_succ]
                    refine take_yes (i := 1) (some 200) (v := ?vq18_1) (by simp only [List.getElem?_toArray, List.getElem?_cons_succ, List.getElem?_cons_zero]; exact rfl) rfl (by kernel_rfl) (by kernel_rfl) (by kernel_rfl) (fun _ _ _ h => h) (by rfl) ?hyq18_1 (by assumption) ?restq18_1
                    case hyq18_1 => (intro w hSw; (try dsimp only at hSw); go_simp; try with_reducible rfl)
                    try simp only [Act.put, List.setIfInBounds_toArray, List.set_cons_zero, List.set_cons_succ]
                    refine take_yes (i := 2) (some 201) (v := ?vq18_2) (by simp only [List.getElem?_toArray, List.getElem?_cons_succ, List.getElem?_cons_zero]; exact rfl) rfl (by kernel_rfl) (by kernel_rfl) (by kernel_rfl) (fun _ _ _ h => h) (by rfl) ?hyq18_2 (by assumption) ?restq18_2
                    case hyq18_2 => (intro w hSw; (try dsimp only at hSw); go_simp; try with_reducible rfl)
                    try simp only [Act.put, List.setIfInBounds_toArray, List.set_cons_zero, List.set_cons_succ]
                    refine take_yes (i := 3) (some 202) (v := ?vq18_3) (by simp only [List.getElem?_toArray, List.getElem?_cons_succ, List.getElem?_cons_zero]; exact rfl) rfl (by kernel_rfl) (by kernel_rfl) (by kernel_rfl) (fun _ _ _ h => h) (by rfl) ?hyq18_3 (by assumption) ?restq18_3
                    case hyq18_3 => (intro w hSw; (try dsimp only at hSw); go_simp; try with_reducible rfl)
                    try simp only [Act.put, List.setIfInBounds_toArray, List.set_cons_zero, List.set_cons_succ]
                    refine take_yes (i := 4) (some 203) (v := ?vq18_4) (by simp only [List.getElem?_toArray, List.getElem?_cons_succ, List.getElem?_cons_zero]; exact rfl) rfl (by kernel_rfl) (by kernel_rfl) (by kernel_rfl) (fun _ _ _ h => h) (by rfl) ?hyq18_4 (by assumption) ?restq18_4
                    case hyq18_4 => (intro w hSw; (try dsimp only at hSw); go_simp; try with_reducible rfl)
                    try simp only [Act.put, List.setIfInBounds_toArray, List.set_cons_zero, List.set_cons_succ]
                    refine take_yes (i := 5) (some 204) (v := ?vq18_5) (by simp only [List.getElem?_toArray, List.getElem?_cons_succ, List.getElem?_cons_zero]; exact rfl) rfl (by kernel_rfl) (by kernel_rfl) (by kernel_rfl) (fun _ _ _ h => h) (by rfl) ?hyq18_5 (by assumption) ?restq18_5
                    case hyq18_5 => (intro w hSw; (try dsimp only at hSw); go_simp; try with_reducible rfl)
                    try simp only [Act.put, List.setIfInBounds_toArray, List.set_cons_zero, List.set_cons_succ]
                    refine take_yes (i := 6) (some 205) (v := ?vq18_6) (by simp only [List.getElem?_toArray, List.getElem?_cons_succ, List.getElem?_cons_zero]; exact rfl) rfl (by kernel_rfl) (by kernel_rfl) (by kernel_rfl) (fun _ _ _ h => h) (by rfl) ?hyq18_6 (by assumption) ?restq18_6
                    case hyq18_6 => (intro w hSw; (try dsimp only at hSw); go_simp; try with_reducible rfl)
                    try simp only [Act.put, List.setIfInBounds_toArray, List.set_cons_zero, List.set_cons_succ]
                    refine take_yes (i := 7) (some 206) (v := ?vq18_7) (by simp only [List.getElem?_toArray, List.getElem?_cons_succ, List.getElem?_cons_zero]; exact rfl) rfl (by kernel_rfl) (by kernel_rfl) (by kernel_rfl) (fun _ _ _ h => h) (by rfl) ?hyq18_7 (by assumption) ?restq18_7
                    case hyq18_7 => (intro w hSw; (try dsimp only at hSw); go_simp; try with_reducible rfl)
                    try simp only [Act.put, List.setIfInBounds_toArray, List.set_cons_zero, List.set_cons_succ]
                    refine take_yes (i := 8) (some 207) (v := ?vq18_8) (by simp only [List.getElem?_toArray, List.getElem?_cons_succ, List.getElem?_cons_zero]; exact rfl) rfl (by kernel_rfl) (by kernel_rfl) (by kernel_rfl) (fun _ _ _ h => h) (by rfl) ?hyq18_8 (by assumption) ?restq18_8
                    case hyq18_8 => (intro w hSw; (try dsimp only at hSw); go_simp; try with_reducible rfl)
                    try simp only [Act.put, List.setIfInBounds_toArray, List.set_cons_zero, List.set_cons_succ]
                    refine take_yes (i := 9) (some 208) (v := ?vq18_9) (by simp only [List.getElem?_toArray, List.getElem?_cons_succ, List.getElem?_cons_zero]; exact rfl) rfl (by kernel_rfl) (by kernel_rfl) (by kernel_rfl) (fun _ _ _ h => h) (by rfl) ?hyq18_9 (by assumption) ?restq18_9
                    case hyq18_9 => (intro w hSw; (try dsimp only at hSw); go_simp; try with_reducible rfl)
                    try simp only [Act.put, List.setIfInBounds_toArray, List.set_cons_zero, List.set_cons_succ]
                    refine take_yes (i := 10) (some 209) (v := ?vq18_10) (by simp only [List.getElem?_toArray, List.getElem?_cons_succ, List.getElem?_cons_zero]; exact rfl) rfl (by kernel_rfl) (by kernel_rfl) (by kernel_rfl) (fun _ _ _ h => h) (by rfl) ?hyq18_10 (by assumption) ?restq18_10
                    case hyq18_10 => (intro w hSw; (try dsimp only at hSw); go_simp; try with_reducible rfl)
                    try simp only [Act.put, List.setIfInBounds_toArray, List.set_cons_zero, List.set_cons_succ]
                    refine take_yes (i := 11) (some 210) (v := ?vq18_11) (by simp only [List.getElem?_toArray, List.getElem?_cons_succ, List.getElem?_cons_zero]; exact rfl) rfl (by kernel_rfl) (by kernel_rfl) (by kernel_rfl) (fun _ _ _ h => h) (by rfl) ?hyq18_11 (by assumption) ?restq18_11
                    case hyq18_11 => (intro w hSw; (try dsimp only at hSw); go_simp; try with_reducible rfl)
                    try simp only [Act.put, List.setIfInBounds_toArray, List.set_cons_zero, List.set_cons_succ]
                    refine take_yes (i := 12) (some 211) (v := ?vq18_12) (by simp only [List.getElem?_toArray, List.getElem?_cons_succ, List.getElem?_cons_zero]; exact rfl) rfl (by kernel_rfl) (by kernel_rfl) (by kernel_rfl) (fun _ _ _ h => h) (by rfl) ?hyq18_12 (by assumption) ?restq18_12
                    case hyq18_12 => (intro w hSw; (try dsimp only at hSw); go_simp; try with_reducible rfl)
                    try simp only [Act.put, List.setIfInBounds_toArray, List.set_cons_zero, List.set_cons_succ]
                    refine take_yes (i := 13) (some 212) (v := ?vq18_13) (by simp only [List.getElem?_toArray, List.getElem?_cons_succ, List.getElem?_cons_zero]; exact rfl) rfl (by kernel_rfl) (by kernel_rfl) (by kernel_rfl) (fun _ _ _ h => h) (by rfl) ?hyq18_13 (by assumption) ?restq18_13
                    case hyq18_13 => (intro w hSw; (try dsimp only at hSw); go_simp; try with_reducible rfl)
                    try simp only [Act.put, List.setIfInBounds_toArray, List.set_cons_zero, List.set_cons_succ]
                    refine take_yes (i := 14) (some 213) (v := ?vq18_14) (by simp only [List.getElem?_toArray, List.getElem?_cons_succ, List.getElem?_cons_zero]; exact rfl) rfl (by kernel_rfl) (by kernel_rfl) (by kernel_rfl) (fun _ _ _ h => h) (by rfl) ?hyq18_14 (by assumption) ?restq18_14
                    case hyq18_14 => (intro w hSw; (try dsimp only at hSw); go_simp; try with_reducible rfl)
                    try simp only [Act.put, List.setIfInBounds_toArray, List.set_cons_zero, List.set_cons_succ]
                    refine take_un (i := 15) (some 214) (by simp only [List.getElem?_toArray, List.getElem?_cons_succ, List.getElem?_cons_zero]; exact rfl) rfl (by kernel_rfl) (by kernel_rfl) (by kernel_rfl) (fun _ _ _ h => h) (by rfl) (by assumption) ?_
                    try simp only [Act.put, List.setIfInBounds_toArray, List.set_cons_zero, List.set_cons_succ]
                    refine take_un (i := 16) (some 215) (by simp only [List.getElem?_toArray, List.getElem?_cons_succ, List.getElem?_cons_zero]; exact rfl) rfl (by kernel_rfl) (by kernel_rfl) (by kernel_rfl) (fun _ _ _ h => h) (by rfl) (by assumption) ?_
                    try simp only [Act.put, List.setIfInBounds_toArray, List.set_cons_zero, List.set_cons_succ]
                    refine take_un (i := 17) (some 216) (by simp only [List.getElem?_toArray, List.getElem?_cons_succ, List.getElem?_cons_zero]; exact rfl) rfl (by kernel_rfl) (by kernel_rfl) (by kernel_rfl) (fun _ _ _ h => h) (by rfl) (by assumption) ?_
                    try simp only [Act.put, List.setIfInBounds_toArray, List.set_cons_zero, List.set_cons_succ]
                    refine take_un (i := 18) (some 217) (by simp only [List.getElem?_toArray, List.getElem?_cons_succ, List.getElem?_cons_zero]; exact rfl) rfl (by kernel_rfl) (by kernel_rfl) (by kernel_rfl) (fun _ _ _ h => h) (by rfl) (by assumption) ?_
                    try simp only [Act.put, List.setIfInBounds_toArray, List.set_cons_zero, List.set_cons_succ]
                    refine take_yes (i := 19) (some 218) (v := ?vq18_19) (by simp only [List.getElem?_toArray, List.getElem?_cons_succ, List.getElem?_cons_zero]; exact rfl) rfl (by kernel_rfl) (by kernel_rfl) (by kernel_rfl) (fun _ _ _ h => h) (by rfl) ?hyq18_19 (by assumption) ?restq18_19
                    case hyq18_19 => (intro w hSw; (try dsimp only at hSw); go_simp; try with_reducible rfl)
                    try simp only [Act.put, List.setIfInBounds_toArray, List.set_cons_zero, List.set_cons_succ]
                    refine take_yes (i := 20) (some 219) (v := ?vq18_20) (by simp only [List.getElem?_toArray, List.getElem?_cons_succ, List.getElem?_cons_zero]; exact rfl) rfl (by kernel_rfl) (by kernel_rfl) (by kernel_rfl) (fun _ _ _ h => h) (by rfl) ?hyq18_20 (by assumption) ?restq18_20
                    case hyq18_20 => (intro w hSw; (try dsimp only at hSw); go_simp; try with_reducible rfl)
                    try simp only [Act.put, List.setIfInBounds_toArray, List.set_cons_zero, List.set_cons_succ]
                    refine take_yes (i := 21) (some 220) (v := ?vq18_21) (by simp only [List.getElem?_toArray, List.getElem?_cons_succ, List.getElem?_cons_zero]; exact rfl) rfl (by kernel_rfl) (by kernel_rfl) (by kernel_rfl) (fun _ _ _ h => h) (by rfl) ?hyq18_21 (by assumption) ?restq18_21
                    case hyq18_21 => (intro w hSw; (try dsimp only at hSw); go_simp; try with_reducible rfl)
                    try simp only [Act.put, List.setIfInBounds_toArray, List.set_cons_zero, List.set_cons_succ]
                    refine take_yes (i := 22) (some 221) (v := ?vq18_22) (by simp only [List.getElem?_toArray, List.getElem?_cons_succ, List.getElem?_cons_zero]; exact rfl) rfl (by kernel_rfl) (by kernel_rfl) (by kernel_rfl) (fun _ _ _ h => h) (by rfl) ?hyq18_22 (by assumption) ?restq18_22
                    case hyq18_22 => (intro w hSw; (try dsimp only at hSw); go_simp; try with_reducible rfl)
                    try simp only [Act.put, List.setIfInBounds_toArray, List.set_cons_zero, List.set_cons_succ]
                    refine wpAnyH_ready (rs := [23]) (by kernel_rfl) (by simp) ?_
                    refine AllReadyH.cons rfl (fun K hK => ?_) AllReadyH.nil
                    go_simp
                    go_wp2_with (go_at_call 12; refine (pright_yes _ A4 c4' st.s _ HRI.out HT6.out.drew).mono ?_; rintro e w7 ⟨rfl, hb7⟩; obtain ⟨y0, y1, y2, y3, y4, yf⟩ := (HX6.out.drew.below hb7 HX6.out.lt).five; have yG := (hb7.cell (p := ⟨G, m, none⟩) hG6).trans HEC6.out; have HM7 : Hid (MemO w.heap.size G w7 (.slice A4 st.s.length c4') (.slice A5 st.all.length c5) st) := Lib.hid (HM6.out.drew.below hb7); have HB7 : Hid (Below w.heap.size w w7) := Lib.hid (HB6.out.drew.trans (hb7.mono HB6.out.size)); clear hb7)
                    refine hK.out _ _ ?_ (fun hHeld => ?_)
                    · go_keep
                    clear hK K
                    try simp only [Act.put, List.setIfInBounds_toArray, List.set_cons_zero, List.set_cons_succ]
                    refine take_yes (i := 24) (some 223) (v := ?vq18_24) (by simp only [List.getElem?_toArray, List.getElem?_cons_succ, List.getElem?_cons_zero]; exact rfl) rfl (by kernel_rfl) (by kernel_rfl) (by kernel_rfl) (fun _ _ _ h => h) (by rfl) ?hyq18_24 (by assumption) ?restq18_24
                    case hyq18_24 => (intro w hSw; (try dsimp only at hSw); go_simp; try with_reducible rfl)
                    try simp only [Act.put, List.setIfInBounds_toArray, List.set_cons_zero, List.set_cons_succ]
                    refine take_yes (i := 25) (some 224) (v := ?vq18_25) (by simp only [List.getElem?_toArray, List.getElem?_cons_succ, List.getElem?_cons_zero]; exact rfl) rfl (by kernel_rfl) (by kernel_rfl) (by kernel_rfl) (fun _ _ _ h => h) (by rfl) ?hyq18_25 (by assumption) ?restq18_25
                    case hyq18_25 => (intro w hSw; (try dsimp only at hSw); go_simp; try with_reducible rfl)
                    try simp only [Act.put, List.setIfInBounds_toArray, List.set_cons_zero, List.set_cons_succ]
                    refine wpAnyH_done (by kernel_rfl) ?_ _
                    refine NoPanic.normal ?_
                    go_wp2
                    go_roundg (ops.length - (i + 1))
                    case measure => exact meas hlt hg
                    case rel => exact ⟨i + 1, st, by go_num, by omega, by omega, rfl, HI6.out, HM7.out, HB7.out⟩
              · as_aux_lemma =>
                  have hb19 : decide (x.sq ≤ CO) = false := decide_eq_false (by omega)
                  have hn19 : ¬ x.sq ≤ CO := by omega
                  go_wp2_with fail
                  go_cut [198] from 25 to 224 (fun s198 wx => s198 = .bool false ∧ Hid (MemO w.heap.size G wx (.slice A4 st.s.length c4') (.slice A5 st.all.length c5) st) ∧ Hid (Blk wx wo.heap.size 28 #[.int .i64 x.dO, .int .i64 x.id, .int .i64 x.ep, .int .i64 x.sq, .int .i64 x.far]) ∧ Hid (Below w.heap.size w wx))
                  case first =>
                    go_quiet (fail)
                    go_wp2_with fail
                    go_meet
                    exact ⟨rfl, HMv.out, HXv.out, below_drewN HBv.out _⟩
                  case rest =>
                    obtain ⟨rfl, HM6, HX6, HB6⟩ := hcut
                    obtain ⟨z0, z1, z2, z3, z4, zf⟩ := HX6.out.five
                    have hec := (HM6.out.ep HI.out.eplen hm64).1
                    have HEC6 : Hid (wc.cell? ⟨G, m, none⟩ = some (.int .i64 EP)) := Lib.hid (by rw [← HEP.out]; exact hec)
                    have hG6 : G < wc.heap.size := by have := HX6.out.lt; omega
                    have hec6 := HEC6.out
                    have HT6 := Lib.hid HM6.out.tab
                    have HI6 : Hid (OInv st (i + 1)) := Lib.hid (HIN.out)
                    have HRI := Lib.hid HI6.out.right
                    clear hec hc hf n0 n1 n2 n3 n4 nf
                    go_wp2_with fail
                    refine wp_region_noPanic ?_
                    refine wp_region_held_drew (S := fun w' => w'.cell? ⟨wo.heap.size, 2, none⟩ = some (.int .i64 x.ep) ∧ w'.cell? ⟨wo.heap.size, 3, none⟩ = some (.int .i64 x.sq) ∧ w'.cell? ⟨G, m, none⟩ = some (.int .i64 EP)) (by kernel_rfl) ?_ (fun hHeld => ?_)
                    · go_keep
                    refine take_yes (i := 0) (some 199) (v := ?vq19_0) (by simp only [List.getElem?_toArray, List.getElem?_cons_zero]; exact rfl) rfl (by kernel_rfl) (by kernel_rfl) (by kernel_rfl) (fun _ _ _ h => h) (by rfl) ?hyq19_0 (by assumption) ?restq19_0
                    case hyq19_0 => (intro w hSw; (try dsimp only at hSw); go_simp; try with_reducible rfl)
                    try simp only [Act.put, List.setIfInBounds_toArray, List.set_cons_zero, List.set_cons_succ]
                    refine take_yes (i := 1) (some 200) (v := ?vq19_1) (by simp only [List.getElem?_toArray, List.getElem?_cons_succ, List.getElem?_cons_zero]; exact rfl) rfl (by kernel_rfl) (by kernel_rfl) (by kernel_rfl) (fun _ _ _ h => h) (by rfl) ?hyq19_1 (by assumption) ?restq19_1
                    case hyq19_1 => (intro w hSw; (try dsimp only at hSw); go_simp; try with_reducible rfl)
                    try simp only [Act.put, List.setIfInBounds_toArray, List.set_cons_zero, List.set_cons_succ]
                    refine take_yes (i := 2) (some 201) (v := ?vq19_2) (by simp only [List.getElem?_toArray, List.getElem?_cons_succ, List.getElem?_cons_zero]; exact rfl) rfl (by kernel_rfl) (by kernel_rfl) (by kernel_rfl) (fun _ _ _ h => h) (by rfl) ?hyq19_2 (by assumption) ?restq19_2
                    case hyq19_2 => (intro w hSw; (try dsimp only at hSw); go_simp; try with_reducible rfl)
                    try simp only [Act.put, List.setIfInBounds_toArray, List.set_cons_zero, List.set_cons_succ]
                    refine take_un (i := 3) (some 202) (by simp only [List.getElem?_toArray, List.getElem?_cons_succ, List.getElem?_cons_zero]; exact rfl) rfl (by kernel_rfl) (by kernel_rfl) (by kernel_rfl) (fun _ _ _ h => h) (by rfl) (by assumption) ?_
                    try simp only [Act.put, List.setIfInBounds_toArray, List.set_cons_zero, List.set_cons_succ]
                    refine take_un (i := 4) (some 203) (by simp only [List.getElem?_toArray, List.getElem?_cons_succ, List.getElem?_cons_zero]; exact rfl) rfl (by kernel_rfl) (by kernel_rfl) (by kernel_rfl) (fun _ _ _ h => h) (by rfl) (by assumption) ?_
                    try simp only [Act.put, List.setIfInBounds_toArray, List.set_cons_zero, List.set_cons_succ]
                    refine take_un (i := 5) (some 204) (by simp only [List.getElem?_toArray, List.getElem?_cons_succ, List.getElem?_cons_zero]; exact rfl) rfl (by kernel_rfl) (by kernel_rfl) (by kernel_rfl) (fun _ _ _ h => h) (by rfl) (by assumption) ?_
                    try simp only [Act.put, List.setIfInBounds_toArray, List.set_cons_zero, List.set_cons_succ]
                    refine take_un (i := 6) (some 205) (by simp only [List.getElem?_toArray, List.getElem?_cons_succ, List.getElem?_cons_zero]; exact rfl) rfl (by kernel_rfl) (by kernel_rfl) (by kernel_rfl) (fun _ _ _ h => h) (by rfl) (by assumption) ?_
                    try simp only [Act.put, List.setIfInBounds_toArray, List.set_cons_zero, List.set_cons_succ]
                    refine take_un (i := 7) (some 206) (by simp only [List.getElem?_toArray, List.getElem?_cons_succ, List.getElem?_cons_zero]; exact rfl) rfl (by kernel_rfl) (by kernel_rfl) (by kernel_rfl) (fun _ _ _ h => h) (by rfl) (by assumption) ?_
                    try simp only [Act.put, List.setIfInBounds_toArray, List.set_cons_zero, List.set_cons_succ]
                    refine take_un (i := 8) (some 207) (by simp only [List.getElem?_toArray, List.getElem?_cons_succ, List.getElem?_cons_zero]; exact rfl) rfl (by kernel_rfl) (by kernel_rfl) (by kernel_rfl) (fun _ _ _ h => h) (by rfl) (by assumption) ?_
                    try simp only [Act.put, List.setIfInBounds_toArray, List.set_cons_zero, List.set_cons_succ]
                    refine take_un (i := 9) (some 208) (by simp only [List.getElem?_toArray, List.getElem?_cons_succ, List.getElem?_cons_zero]; exact rfl) rfl (by kernel_rfl) (by kernel_rfl) (by kernel_rfl) (fun _ _ _ h => h) (by rfl) (by assumption) ?_
                    try simp only [Act.put, List.setIfInBounds_toArray, List.set_cons_zero, List.set_cons_succ]
                    refine take_yes (i := 10) (some 209) (v := ?vq19_10) (by simp only [List.getElem?_toArray, List.getElem?_cons_succ, List.getElem?_cons_zero]; exact rfl) rfl (by kernel_rfl) (by kernel_rfl) (by kernel_rfl) (fun _ _ _ h => h) (by rfl) ?hyq19_10 (by assumption) ?restq19_10
                    case hyq19_10 => (intro w hSw; (try dsimp only at hSw); go_simp; try with_reducible rfl)
                    try simp only [Act.put, List.setIfInBounds_toArray, List.set_cons_zero, List.set_cons_succ]
                    refine take_yes (i := 11) (some 210) (v := ?vq19_11) (by simp only [List.getElem?_toArray, List.getElem?_cons_succ, List.getElem?_cons_zero]; exact rfl) rfl (by kernel_rfl) (by kernel_rfl) (by kernel_rfl) (fun _ _ _ h => h) (by rfl) ?hyq19_11 (by assumption) ?restq19_11
                    case hyq19_11 => (intro w hSw; (try dsimp only at hSw); go_simp; try with_reducible rfl)
                    try simp only [Act.put, List.setIfInBounds_toArray, List.set_cons_zero, List.set_cons_succ]
                    refine take_yes (i := 12) (some 211) (v := ?vq19_12) (by simp only [List.getElem?_toArray, List.getElem?_cons_succ, List.getElem?_cons_zero]; exact rfl) rfl (by kernel_rfl) (by kernel_rfl) (by kernel_rfl) (fun _ _ _ h => h) (by rfl) ?hyq19_12 (by assumption) ?restq19_12
                    case hyq19_12 => (intro w hSw; (try dsimp only at hSw); go_simp; try with_reducible rfl)
                    try simp only [Act.put, List.setIfInBounds_toArray, List.set_cons_zero, List.set_cons_succ]
                    refine take_yes (i := 13) (some 212) (v := ?vq19_13) (by simp only [List.getElem?_toArray, List.getElem?_cons_succ, List.getElem?_cons_zero]; exact rfl) rfl (by kernel_rfl) (by kernel_rfl) (by kernel_rfl) (fun _ _ _ h => h) (by rfl) ?hyq19_13 (by assumption) ?restq19_13
                    case hyq19_13 => (intro w hSw; (try dsimp only at hSw); go_simp; try with_reducible rfl)
                    try simp only [Act.put, List.setIfInBounds_toArray, List.set_cons_zero, List.set_cons_succ]
                    refine take_yes (i := 14) (some 213) (v := ?vq19_14) (by simp only [List.getElem?_toArray, List.getElem?_cons_succ, List.getElem?_cons_zero]; exact rfl) rfl (by kernel_rfl) (by kernel_rfl) (by kernel_rfl) (fun _ _ _ h => h) (by rfl) ?hyq19_14 (by assumption) ?restq19_14
                    case hyq19_14 => (intro w hSw; (try dsimp only at hSw); go_simp; try with_reducible rfl)
                    try simp only [Act.put, List.setIfInBounds_toArray, List.set_cons_zero, List.set_cons_succ]
                    refine take_yes (i := 15) (some 214) (v := ?vq19_15) (by simp only [List.getElem?_toArray, List.getElem?_cons_succ, List.getElem?_cons_zero]; exact rfl) rfl (by kernel_rfl) (by kernel_rfl) (by kernel_rfl) (fun _ _ _ h => h) (by rfl) ?hyq19_15 (by assumption) ?restq19_15
                    case hyq19_15 => (intro w hSw; (try dsimp only at hSw); go_simp; try with_reducible rfl)
                    try simp only [Act.put, List.setIfInBounds_toArray, List.set_cons_zero, List.set_cons_succ]
                    refine take_yes (i := 16) (some 215) (v := ?vq19_16) (by simp only [List.getElem?_toArray, List.getElem?_cons_succ, List.getElem?_cons_zero]; exact rfl) rfl (by kernel_rfl) (by kernel_rfl) (by kernel_rfl) (fun _ _ _ h => h) (by rfl) ?hyq19_16 (by assumption) ?restq19_16
                    case hyq19_16 => (intro w hSw; (try dsimp only at hSw); go_simp; try with_reducible rfl)
                    try simp only [Act.put, List.setIfInBounds_toArray, List.set_cons_zero, List.set_cons_succ]
                    refine take_yes (i := 17) (some 216) (v := ?vq19_17) (by simp only [List.getElem?_toArray, List.getElem?_cons_succ, List.getElem?_cons_zero]; exact rfl) rfl (by kernel_rfl) (by kernel_rfl) (by kernel_rfl) (fun _ _ _ h => h) (by rfl) ?hyq19_17 (by assumption) ?restq19_17
                    case hyq19_17 => (intro w hSw; (try dsimp only at hSw); go_simp; try with_reducible rfl)
                    try simp only [Act.put, List.setIfInBounds_toArray, List.set_cons_zero, List.set_cons_succ]
                    refine take_yes (i := 18) (some 217) (v := ?vq19_18) (by simp only [List.getElem?_toArray, List.getElem?_cons_succ, List.getElem?_cons_zero]; exact rfl) rfl (by kernel_rfl) (by kernel_rfl) (by kernel_rfl) (fun _ _ _ h => h) (by rfl) ?hyq19_18 (by assumption) ?restq19_18
                    case hyq19_18 => (intro w hSw; (try dsimp only at hSw); go_simp; try with_reducible rfl)
                    try simp only [Act.put, List.setIfInBounds_toArray, List.set_cons_zero, List.set_cons_succ]
                    refine take_yes (i := 19) (some 218) (v := ?vq19_19) (by simp only [List.getElem?_toArray, List.getElem?_cons_succ, List.getElem?_cons_zero]; exact rfl) rfl (by kernel_rfl) (by kernel_rfl) (by kernel_rfl) (fun _ _ _ h => h) (by rfl) ?hyq19_19 (by assumption) ?restq19_19
                    case hyq19_19 => (intro w hSw; (try dsimp only at hSw); go_simp; try with_reducible rfl)
                    try simp only [Act.put, List.setIfInBounds_toArray, List.set_cons_zero, List.set_cons_succ]
                    refine take_yes (i := 20) (some 219) (v := ?vq19_20) (by simp only [List.getElem?_toArray, List.getElem?_cons_succ, List.getElem?_cons_zero]; exact rfl) rfl (by kernel_rfl) (by kernel_rfl) (by kernel_rfl) (fun _ _ _ h => h) (by rfl) ?hyq19_20 (by assumption) ?restq19_20
                    case hyq19_20 => (intro w hSw; (try dsimp only at hSw); go_simp; try with_reducible rfl)
                    try simp only [Act.put, List.setIfInBounds_toArray, List.set_cons_zero, List.set_cons_succ]
                    refine take_yes (i := 21) (some 220) (v := ?vq19_21) (by simp only [List.getElem?_toArray, List.getElem?_cons_succ, List.getElem?_cons_zero]; exact rfl) rfl (by kernel_rfl) (by kernel_rfl) (by kernel_rfl) (fun _ _ _ h => h) (by rfl) ?hyq19_21 (by assumption) ?restq19_21
                    case hyq19_21 => (intro w hSw; (try dsimp only at hSw); go_simp; try with_reducible rfl)
                    try simp only [Act.put, List.setIfInBounds_toArray, List.set_cons_zero, List.set_cons_succ]
                    refine take_yes (i := 22) (some 221) (v := ?vq19_22) (by simp only [List.getElem?_toArray, List.getElem?_cons_succ, List.getElem?_cons_zero]; exact rfl) rfl (by kernel_rfl) (by kernel_rfl) (by kernel_rfl) (fun _ _ _ h => h) (by rfl) ?hyq19_22 (by assumption) ?restq19_22
                    case hyq19_22 => (intro w hSw; (try dsimp only at hSw); go_simp; try with_reducible rfl)
                    try simp only [Act.put, List.setIfInBounds_toArray, List.set_cons_zero, List.set_cons_succ]
                    refine wpAnyH_ready (rs := [23]) (by kernel_rfl) (by simp) ?_
                    refine AllReadyH.cons rfl (fun K hK => ?_) AllReadyH.nil
                    go_simp
                    go_wp2_with (go_at_call 12; refine (pright_yes _ A4 c4' st.s _ HRI.out HT6.out.drew).mono ?_; rintro e w7 ⟨rfl, hb7⟩; obtain ⟨y0, y1, y2, y3, y4, yf⟩ := (HX6.out.drew.below hb7 HX6.out.lt).five; have yG := (hb7.cell (p := ⟨G, m, none⟩) hG6).trans HEC6.out; have HM7 : Hid (MemO w.heap.size G w7 (.slice A4 st.s.length c4') (.slice A5 st.all.length c5) st) := Lib.hid (HM6.out.drew.below hb7); have HB7 : Hid (Below w.heap.size w w7) := Lib.hid (HB6.out.drew.trans (hb7.mono HB6.out.size)); clear hb7)
                    refine hK.out _ _ ?_ (fun hHeld => ?_)
                    · go_keep
                    clear hK K
                    try simp only [Act.put, List.setIfInBounds_toArray, List.set_cons_zero, List.set_cons_succ]
                    refine take_yes (i := 24) (some 223) (v := ?vq19_24) (by simp only [List.getElem?_toArray, List.getElem?_cons_succ, List.getElem?_cons_zero]; exact rfl) rfl (by kernel_rfl) (by kernel_rfl) (by kernel_rfl) (fun _ _ _ h => h) (by rfl) ?hyq19_24 (by assumption) ?restq19_24
                    case hyq19_24 => (intro w hSw; (try dsimp only at hSw); go_simp; try with_reducible rfl)
                    try simp only [Act.put, List.setIfInBounds_toArray, List.set_cons_zero, List.set_cons_succ]
                    refine take_yes (i := 25) (some 224) (v := ?vq19_25) (by simp only [List.getElem?_toArray, List.getElem?_cons_succ, List.getElem?_cons_zero]; exact rfl) rfl (by kernel_rfl) (by kernel_rfl) (by kernel_rfl) (fun _ _ _ h => h) (by rfl) ?hyq19_25 (by assumption) ?restq19_25
                    case hyq19_25 => (intro w hSw; (try dsimp only at hSw); go_simp; try with_reducible rfl)
                    try simp only [Act.put, List.setIfInBounds_toArray, List.set_cons_zero, List.set_cons_succ]
                    refine wpAnyH_done (by kernel_rfl) ?_ _
                    refine NoPanic.normal ?_
                    go_wp2
                    go_roundg (ops.length - (i + 1))
                    case measure => exact meas hlt hg
                    case rel => exact ⟨i + 1, st, by go_num, by omega, by omega, rfl, HI6.out, HM7.out, HB7.out⟩
              · as_aux_lemma =>
                  have hx0 : (E == 0) = false := by simpa using hE0
                  have hx5 : (E == 5) = false := by simpa using hE5
                  have hx18 : (E == 18) = false := by simpa using hE18
                  have hx19 : (E == 19) = false := by simpa using hE19
                  clear hE0 hE5 hE18 hE19
                  go_wp2_with fail
                  go_cut [198] from 25 to 224 (fun s198 wx => s198 = .bool false ∧ Hid (MemO w.heap.size G wx (.slice A4 st.s.length c4') (.slice A5 st.all.length c5) st) ∧ Hid (Blk wx wo.heap.size 28 #[.int .i64 x.dO, .int .i64 x.id, .int .i64 x.ep, .int .i64 x.sq, .int .i64 x.far]) ∧ Hid (Below w.heap.size w wx))
                  case first =>
                    go_quiet (fail)
                    go_wp2_with fail
                    go_meet
                    exact ⟨rfl, HMv.out, HXv.out, below_drewN HBv.out _⟩
                  case rest =>
                    obtain ⟨rfl, HM6, HX6, HB6⟩ := hcut
                    obtain ⟨z0, z1, z2, z3, z4, zf⟩ := HX6.out.five
                    have hec := (HM6.out.ep HI.out.eplen hm64).1
                    have HEC6 : Hid (wc.cell? ⟨G, m, none⟩ = some (.int .i64 EP)) := Lib.hid (by rw [← HEP.out]; exact hec)
                    have hG6 : G < wc.heap.size := by have := HX6.out.lt; omega
                    have hec6 := HEC6.out
                    have HT6 := Lib.hid HM6.out.tab
                    have HI6 : Hid (OInv st (i + 1)) := Lib.hid (HIN.out)
                    have HRI := Lib.hid HI6.out.right
                    clear hec hc hf n0 n1 n2 n3 n4 nf
                    go_wp2_with fail
                    refine wp_region_noPanic ?_
                    refine wp_region_held_drew (S := fun w' => w'.cell? ⟨wo.heap.size, 2, none⟩ = some (.int .i64 x.ep) ∧ w'.cell? ⟨wo.heap.size, 3, none⟩ = some (.int .i64 x.sq) ∧ w'.cell? ⟨G, m, none⟩ = some (.int .i64 EP)) (by kernel_rfl) ?_ (fun hHeld => ?_)
                    · go_keep
                    refine take_yes (i := 0) (some 199) (v := ?vqx_0) (by simp only [List.getElem?_toArray, List.getElem?_cons_zero]; exact rfl) rfl (by kernel_rfl) (by kernel_rfl) (by kernel_rfl) (fun _ _ _ h => h) (by rfl) ?hyqx_0 (by assumption) ?restqx_0
                    case hyqx_0 => (intro w hSw; (try dsimp only at hSw); go_simp; try with_reducible rfl)
                    try simp only [Act.put, List.setIfInBounds_toArray, List.set_cons_zero, List.set_cons_succ]
                    refine take_yes (i := 1) (some 200) (v := ?vqx_1) (by simp only [List.getElem?_toArray, List.getElem?_cons_succ, List.getElem?_cons_zero]; exact rfl) rfl (by kernel_rfl) (by kernel_rfl) (by kernel_rfl) (fun _ _ _ h => h) (by rfl) ?hyqx_1 (by assumption) ?restqx_1
                    case hyqx_1 => (intro w hSw; (try dsimp only at hSw); go_simp; try with_reducible rfl)
                    try simp only [Act.put, List.setIfInBounds_toArray, List.set_cons_zero, List.set_cons_succ]
                    refine take_yes (i := 2) (some 201) (v := ?vqx_2) (by simp only [List.getElem?_toArray, List.getElem?_cons_succ, List.getElem?_cons_zero]; exact rfl) rfl (by kernel_rfl) (by kernel_rfl) (by kernel_rfl) (fun _ _ _ h => h) (by rfl) ?hyqx_2 (by assumption) ?restqx_2
                    case hyqx_2 => (intro w hSw; (try dsimp only at hSw); go_simp; try with_reducible rfl)
                    try simp only [Act.put, List.setIfInBounds_toArray, List.set_cons_zero, List.set_cons_succ]
                    refine take_un (i := 3) (some 202) (by simp only [List.getElem?_toArray, List.getElem?_cons_succ, List.getElem?_cons_zero]; exact rfl) rfl (by kernel_rfl) (by kernel_rfl) (by kernel_rfl) (fun _ _ _ h => h) (by rfl) (by assumption) ?_
                    try simp only [Act.put, List.setIfInBounds_toArray, List.set_cons_zero, List.set_cons_succ]
                    refine take_un (i := 4) (some 203) (by simp only [List.getElem?_toArray, List.getElem?_cons_succ, List.getElem?_cons_zero]; exact rfl) rfl (by kernel_rfl) (by kernel_rfl) (by kernel_rfl) (fun _ _ _ h => h) (by rfl) (by assumption) ?_
                    try simp only [Act.put, List.setIfInBounds_toArray, List.set_cons_zero, List.set_cons_succ]
                    refine take_un (i := 5) (some 204) (by simp only [List.getElem?_toArray, List.getElem?_cons_succ, List.getElem?_cons_zero]; exact rfl) rfl (by kernel_rfl) (by kernel_rfl) (by kernel_rfl) (fun _ _ _ h => h) (by rfl) (by assumption) ?_
                    try simp only [Act.put, List.setIfInBounds_toArray, List.set_cons_zero, List.set_cons_succ]
                    refine take_un (i := 6) (some 205) (by simp only [List.getElem?_toArray, List.getElem?_cons_succ, List.getElem?_cons_zero]; exact rfl) rfl (by kernel_rfl) (by kernel_rfl) (by kernel_rfl) (fun _ _ _ h => h) (by rfl) (by assumption) ?_
                    try simp only [Act.put, List.setIfInBounds_toArray, List.set_cons_zero, List.set_cons_succ]
                    refine take_un (i := 7) (some 206) (by simp only [List.getElem?_toArray, List.getElem?_cons_succ, List.getElem?_cons_zero]; exact rfl) rfl (by kernel_rfl) (by kernel_rfl) (by kernel_rfl) (fun _ _ _ h => h) (by rfl) (by assumption) ?_
                    try simp only [Act.put, List.setIfInBounds_toArray, List.set_cons_zero, List.set_cons_succ]
                    refine take_un (i := 8) (some 207) (by simp only [List.getElem?_toArray, List.getElem?_cons_succ, List.getElem?_cons_zero]; exact rfl) rfl (by kernel_rfl) (by kernel_rfl) (by kernel_rfl) (fun _ _ _ h => h) (by rfl) (by assumption) ?_
                    try simp only [Act.put, List.setIfInBounds_toArray, List.set_cons_zero, List.set_cons_succ]
                    refine take_un (i := 9) (some 208) (by simp only [List.getElem?_toArray, List.getElem?_cons_succ, List.getElem?_cons_zero]; exact rfl) rfl (by kernel_rfl) (by kernel_rfl) (by kernel_rfl) (fun _ _ _ h => h) (by rfl) (by assumption) ?_
                    try simp only [Act.put, List.setIfInBounds_toArray, List.set_cons_zero, List.set_cons_succ]
                    refine take_yes (i := 10) (some 209) (v := ?vqx_10) (by simp only [List.getElem?_toArray, List.getElem?_cons_succ, List.getElem?_cons_zero]; exact rfl) rfl (by kernel_rfl) (by kernel_rfl) (by kernel_rfl) (fun _ _ _ h => h) (by rfl) ?hyqx_10 (by assumption) ?restqx_10
                    case hyqx_10 => (intro w hSw; (try dsimp only at hSw); go_simp; try with_reducible rfl)
                    try simp only [Act.put, List.setIfInBounds_toArray, List.set_cons_zero, List.set_cons_succ]
                    refine take_yes (i := 11) (some 210) (v := ?vqx_11) (by simp only [List.getElem?_toArray, List.getElem?_cons_succ, List.getElem?_cons_zero]; exact rfl) rfl (by kernel_rfl) (by kernel_rfl) (by kernel_rfl) (fun _ _ _ h => h) (by rfl) ?hyqx_11 (by assumption) ?restqx_11
                    case hyqx_11 => (intro w hSw; (try dsimp only at hSw); go_simp; try with_reducible rfl)
                    try simp only [Act.put, List.setIfInBounds_toArray, List.set_cons_zero, List.set_cons_succ]
                    refine take_yes (i := 12) (some 211) (v := ?vqx_12) (by simp only [List.getElem?_toArray, List.getElem?_cons_succ, List.getElem?_cons_zero]; exact rfl) rfl (by kernel_rfl) (by kernel_rfl) (by kernel_rfl) (fun _ _ _ h => h) (by rfl) ?hyqx_12 (by assumption) ?restqx_12
                    case hyqx_12 => (intro w hSw; (try dsimp only at hSw); go_simp; try with_reducible rfl)
                    try simp only [Act.put, List.setIfInBounds_toArray, List.set_cons_zero, List.set_cons_succ]
                    refine take_yes (i := 13) (some 212) (v := ?vqx_13) (by simp only [List.getElem?_toArray, List.getElem?_cons_succ, List.getElem?_cons_zero]; exact rfl) rfl (by kernel_rfl) (by kernel_rfl) (by kernel_rfl) (fun _ _ _ h => h) (by rfl) ?hyqx_13 (by assumption) ?restqx_13
                    case hyqx_13 => (intro w hSw; (try dsimp only at hSw); go_simp; try with_reducible rfl)
                    try simp only [Act.put, List.setIfInBounds_toArray, List.set_cons_zero, List.set_cons_succ]
                    refine take_yes (i := 14) (some 213) (v := ?vqx_14) (by simp only [List.getElem?_toArray, List.getElem?_cons_succ, List.getElem?_cons_zero]; exact rfl) rfl (by kernel_rfl) (by kernel_rfl) (by kernel_rfl) (fun _ _ _ h => h) (by rfl) ?hyqx_14 (by assumption) ?restqx_14
                    case hyqx_14 => (intro w hSw; (try dsimp only at hSw); go_simp; try with_reducible rfl)
                    try simp only [Act.put, List.setIfInBounds_toArray, List.set_cons_zero, List.set_cons_succ]
                    refine take_un (i := 15) (some 214) (by simp only [List.getElem?_toArray, List.getElem?_cons_succ, List.getElem?_cons_zero]; exact rfl) rfl (by kernel_rfl) (by kernel_rfl) (by kernel_rfl) (fun _ _ _ h => h) (by rfl) (by assumption) ?_
                    try simp only [Act.put, List.setIfInBounds_toArray, List.set_cons_zero, List.set_cons_succ]
                    refine take_un (i := 16) (some 215) (by simp only [List.getElem?_toArray, List.getElem?_cons_succ, List.getElem?_cons_zero]; exact rfl) rfl (by kernel_rfl) (by kernel_rfl) (by kernel_rfl) (fun _ _ _ h => h) (by rfl) (by assumption) ?_
                    try simp only [Act.put, List.setIfInBounds_toArray, List.set_cons_zero, List.set_cons_succ]
                    refine take_un (i := 17) (some 216) (by simp only [List.getElem?_toArray, List.getElem?_cons_succ, List.getElem?_cons_zero]; exact rfl) rfl (by kernel_rfl) (by kernel_rfl) (by kernel_rfl) (fun _ _ _ h => h) (by rfl) (by assumption) ?_
                    try simp only [Act.put, List.setIfInBounds_toArray, List.set_cons_zero, List.set_cons_succ]
                    refine take_un (i := 18) (some 217) (by simp only [List.getElem?_toArray, List.getElem?_cons_succ, List.getElem?_cons_zero]; exact rfl) rfl (by kernel_rfl) (by kernel_rfl) (by kernel_rfl) (fun _ _ _ h => h) (by rfl) (by assumption) ?_
                    try simp only [Act.put, List.setIfInBounds_toArray, List.set_cons_zero, List.set_cons_succ]
                    refine take_yes (i := 19) (some 218) (v := ?vqx_19) (by simp only [List.getElem?_toArray, List.getElem?_cons_succ, List.getElem?_cons_zero]; exact rfl) rfl (by kernel_rfl) (by kernel_rfl) (by kernel_rfl) (fun _ _ _ h => h) (by rfl) ?hyqx_19 (by assumption) ?restqx_19
                    case hyqx_19 => (intro w hSw; (try dsimp only at hSw); go_simp; try with_reducible rfl)
                    try simp only [Act.put, List.setIfInBounds_toArray, List.set_cons_zero, List.set_cons_succ]
                    refine take_yes (i := 20) (some 219) (v := ?vqx_20) (by simp only [List.getElem?_toArray, List.getElem?_cons_succ, List.getElem?_cons_zero]; exact rfl) rfl (by kernel_rfl) (by kernel_rfl) (by kernel_rfl) (fun _ _ _ h => h) (by rfl) ?hyqx_20 (by assumption) ?restqx_20
                    case hyqx_20 => (intro w hSw; (try dsimp only at hSw); go_simp; try with_reducible rfl)
                    try simp only [Act.put, List.setIfInBounds_toArray, List.set_cons_zero, List.set_cons_succ]
                    refine take_yes (i := 21) (some 220) (v := ?vqx_21) (by simp only [List.getElem?_toArray, List.getElem?_cons_succ, List.getElem?_cons_zero]; exact rfl) rfl (by kernel_rfl) (by kernel_rfl) (by kernel_rfl) (fun _ _ _ h => h) (by rfl) ?hyqx_21 (by assumption) ?restqx_21
                    case hyqx_21 => (intro w hSw; (try dsimp only at hSw); go_simp; try with_reducible rfl)
                    try simp only [Act.put, List.setIfInBounds_toArray, List.set_cons_zero, List.set_cons_succ]
                    refine take_yes (i := 22) (some 221) (v := ?vqx_22) (by simp only [List.getElem?_toArray, List.getElem?_cons_succ, List.getElem?_cons_zero]; exact rfl) rfl (by kernel_rfl) (by kernel_rfl) (by kernel_rfl) (fun _ _ _ h => h) (by rfl) ?hyqx_22 (by assumption) ?restqx_22
                    case hyqx_22 => (intro w hSw; (try dsimp only at hSw); go_simp; try with_reducible rfl)
                    try simp only [Act.put, List.setIfInBounds_toArray, List.set_cons_zero, List.set_cons_succ]
                    refine wpAnyH_ready (rs := [23]) (by kernel_rfl) (by simp) ?_
                    refine AllReadyH.cons rfl (fun K hK => ?_) AllReadyH.nil
                    go_simp
                    go_wp2_with (go_at_call 12; refine (pright_yes _ A4 c4' st.s _ HRI.out HT6.out.drew).mono ?_; rintro e w7 ⟨rfl, hb7⟩; obtain ⟨y0, y1, y2, y3, y4, yf⟩ := (HX6.out.drew.below hb7 HX6.out.lt).five; have yG := (hb7.cell (p := ⟨G, m, none⟩) hG6).trans HEC6.out; have HM7 : Hid (MemO w.heap.size G w7 (.slice A4 st.s.length c4') (.slice A5 st.all.length c5) st) := Lib.hid (HM6.out.drew.below hb7); have HB7 : Hid (Below w.heap.size w w7) := Lib.hid (HB6.out.drew.trans (hb7.mono HB6.out.size)); clear hb7)
                    refine hK.out _ _ ?_ (fun hHeld => ?_)
                    · go_keep
                    clear hK K
                    try simp only [Act.put, List.setIfInBounds_toArray, List.set_cons_zero, List.set_cons_succ]
                    refine take_yes (i := 24) (some 223) (v := ?vqx_24) (by simp only [List.getElem?_toArray, List.getElem?_cons_succ, List.getElem?_cons_zero]; exact rfl) rfl (by kernel_rfl) (by kernel_rfl) (by kernel_rfl) (fun _ _ _ h => h) (by rfl) ?hyqx_24 (by assumption) ?restqx_24
                    case hyqx_24 => (intro w hSw; (try dsimp only at hSw); go_simp; try with_reducible rfl)
                    try simp only [Act.put, List.setIfInBounds_toArray, List.set_cons_zero, List.set_cons_succ]
                    refine take_yes (i := 25) (some 224) (v := ?vqx_25) (by simp only [List.getElem?_toArray, List.getElem?_cons_succ, List.getElem?_cons_zero]; exact rfl) rfl (by kernel_rfl) (by kernel_rfl) (by kernel_rfl) (fun _ _ _ h => h) (by rfl) ?hyqx_25 (by assumption) ?restqx_25
                    case hyqx_25 => (intro w hSw; (try dsimp only at hSw); go_simp; try with_reducible rfl)
                    try simp only [Act.put, List.setIfInBounds_toArray, List.set_cons_zero, List.set_cons_succ]
                    refine wpAnyH_done (by kernel_rfl) ?_ _
                    refine NoPanic.normal ?_
                    go_wp2
                    go_roundg (ops.length - (i + 1))
                    case measure => exact meas hlt hg
                    case rel => exact ⟨i + 1, st, by go_num, by omega, by omega, rfl, HI6.out, HM7.out, HB7.out⟩
      · have hltz : ¬ (i : Int) < (ops.length : Int) := by omega
        go_wp2
        go_ret
        exact ⟨rfl, HB.out⟩
end Go.Proofs.Ytghciaaedjomjaa
