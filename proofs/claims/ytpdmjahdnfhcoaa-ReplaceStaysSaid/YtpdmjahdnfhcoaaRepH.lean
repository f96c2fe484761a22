/- Cut. -/
import Derived.Test.YtpdmjahdnfhcoaaRepG
import Derived.Test.YtpdmjahdnfhcoaaTimeB
namespace Go.Proofs.Ytpdmjahdnfhcoaa
open Go.RowKit

/-- What Cut answers. -/
def cutF (l : List Rep) (t : List Seg) (no : Int) : List Rep × List Seg × Int :=
  if ¬ withinB no 1 l.length then ([], [], 4)
  else
    let r := l[(no - 1).toNat]!
    if r.state ≠ 1 ∧ r.state ≠ 2 then ([], [], 7)
    else if ((firstR l).getD repZ).no ≠ no then ([], [], 25)
    else if wrap64 (r.cut + 1) = 16 then (l.set (no - 1).toNat { r with cut := 16, state := 3 }, (trepF t r.frm r.ver).1, 0)
    else (l.set (no - 1).toNat { r with cut := wrap64 (r.cut + 1), state := 2 }, t, 0)
def Answer3 (w : World) (r : List Rep × List Seg × Int) (e : Ending) (w' : World) : Prop := ∃ v u, e = .returned (.tuple #[v, u, .int .i64 r.2.2]) ∧ SlV 6 encR w' v r.1 ∧ SlV 2 encS w' u r.2.1 ∧ Below w.heap.size w w'

set_option maxRecDepth 100000 in
set_option maxHeartbeats 2000000 in
theorem cut_any (A : Option Addr) (c : Nat) (l : List Rep) (A2 : Option Addr) (c2 : Nat) (t : List Seg) (no : Int) (w : World) (hr : SlT 6 encR w A l.length c l) (ht : SlT 2 encS w A2 t.length c2 t) (hn : l.length ≤ 100000) (hm : t.length ≤ 100000) :
    Calls Try.prog 16 #[.slice A l.length c, .slice A2 t.length c2, .int .i64 no] w (Answer3 w (cutF l t no)) := by
  have HR := Lib.hid hr
  have HT := Lib.hid ht
  clear hr ht
  cases hw : withinB no 1 l.length with
  | false =>
    have HW := Lib.hid hw
    have e : cutF l t no = ([], [], 4) := by unfold cutF; rw [if_pos (by rw [hw]; simp)]
    rw [e]
    clear hw e
    go_enter Try.func16, Try.ntmps16
    go_wp2_with (go_at_call 18; refine (within_any _ _ _ _).mono ?_; rintro e w' ⟨rfl, rfl⟩; simp only [show withinB no 1 l.length = false from HW.out])
    go_ret3
    exact ⟨_, _, rfl, SlV.nil, SlV.nil, Below.refl _ _⟩
  | true =>
    have HW := Lib.hid hw
    simp only [withinB, decide_eq_true_eq] at hw
    obtain ⟨i, rfl⟩ : ∃ i : Nat, no = (i : Int) + 1 := ⟨(no - 1).toNat, by omega⟩
    have hi : i < l.length := by omega
    have e0 : cutF l t ((i : Int) + 1) = if l[i].state ≠ 1 ∧ l[i].state ≠ 2 then ([], [], 7) else if ((firstR l).getD repZ).no ≠ (i : Int) + 1 then ([], [], 25)
        else if wrap64 (l[i].cut + 1) = 16 then (l.set i { l[i] with cut := 16, state := 3 }, (trepF t l[i].frm l[i].ver).1, 0) else (l.set i { l[i] with cut := wrap64 (l[i].cut + 1), state := 2 }, t, 0) := by
      unfold cutF
      rw [if_neg (by rw [show withinB ((i : Int) + 1) 1 l.length = true from HW.out]; simp)]
      simp only [show ((i : Int) + 1 - 1).toNat = i by omega, getElem!_pos l i hi]
    obtain ⟨b, off, rfl, hb, hcells⟩ := HR.out.2.2 (by omega)
    have hx : l[i]? = some l[i] := List.getElem?_eq_getElem hi
    obtain ⟨c0, c1, c2', c3, c4, c5⟩ := cellsR hcells hb (Below.refl _ _) hx
    have HF := Lib.hid e0
    have HI := Lib.hid hi
    clear e0 hcells
    generalize hxx : l[i] = x at hx HF c0 c1 c2' c3 c4 c5
    have HX := Lib.hid hx
    clear hx hxx
    have hib : (i : Int) ≤ 100000 := by omega
    have hil : (i : Int) < (l.length : Int) := by omega
    have hi0 : (0 : Int) ≤ (i : Int) := by omega
    by_cases hst : x.state ≠ 1 ∧ x.state ≠ 2
    · rw [HF.out, if_pos hst]
      have hn0 : (x.state != 1) = true := by simpa using hst.1
      have hn1 : (x.state != 2) = true := by simpa using hst.2
      clear hst
      go_enter Try.func16, Try.ntmps16
      go_wp2_with (go_at_call 18; refine (within_any _ _ _ _).mono ?_; rintro e w' ⟨rfl, rfl⟩; simp only [show withinB ((i : Int) + 1) 1 l.length = true from HW.out])
      go_ret3
      exact ⟨_, _, rfl, SlV.nil, SlV.nil, (Below.refl _ _).alloc (Nat.le_refl _) _⟩
    · have hcase : (x.state != 1) = false ∨ ((x.state != 1) = true ∧ (x.state != 2) = false) := by
        by_cases h0 : x.state = 1
        · exact .inl (by simp [h0])
        · have h1 : x.state = 2 := by
            by_cases h1 : x.state = 2
            · exact h1
            · exact absurd ⟨h0, h1⟩ hst
          exact .inr ⟨by simp [h0], by simp [h1]⟩
      have HST := Lib.hid hst
      clear hst
      generalize hfr : (firstR l).getD repZ = f at HF
      have HFR := Lib.hid hfr
      clear hfr
      by_cases hfn : f.no = (i : Int) + 1
      · have hfb : (f.no != (i : Int) + 1) = false := by simp [hfn]
        have HFN := Lib.hid hfn
        clear hfn
        rcases hcase with hn0 | ⟨hn0, hn1⟩
        all_goals
          go_enter Try.func16, Try.ntmps16
          go_wp2_with (go_at_call 18; refine (within_any _ _ _ _).mono ?_; rintro e w' ⟨rfl, rfl⟩; simp only [show withinB ((i : Int) + 1) 1 l.length = true from HW.out])
          refine (first_any _ _ c l _ (HR.out.alloc _) (by omega)).mono ?_
          rintro e w1 ⟨rfl, hb1⟩
          rw [HFR.out]
          simp only [aggR]
          have HK1 := Lib.hid ((Blk.new w 39 #[.int .i64 x.no, .int .i64 x.frm, .int .i64 x.ver, .int .i64 x.start, .int .i64 x.state, .int .i64 x.cut]).below hb1 (by simp))
          have HB1 := Lib.hid (((Below.refl w.heap.size w).alloc (Nat.le_refl _) _).trans (hb1.mono (by simp)))
          clear hb1
          obtain ⟨k0, k1, k2, k3, k4, k5, kf⟩ := HK1.out.six
          have hz1 := HK1.out.lt
          go_wp2_with fail
          refine (cloneS_any A2 _ c2 t _ ((HT.out.below HB1.out).alloc _) (by omega)).mono ?_
          rintro e w2 ⟨v2, rfl, hown2, hb2⟩
          have HK2 := Lib.hid ((HK1.out.alloc _).below hb2 (by simp; omega))
          clear k0 k1 k2 k3 k4 k5 kf
          obtain ⟨k0, k1, k2, k3, k4, k5, kf⟩ := HK2.out.six
          have hz2 : w1.heap.size < w2.heap.size := by have := hb2.size; simp at this; omega
          have HB2 := Lib.hid ((HB1.out.alloc HB1.out.size _).trans (hb2.mono (by have := HB1.out.size; simp; omega)))
          have HO2 := Lib.hid (own_mono (base' := w.heap.size) hown2 (by have := HB1.out.size; simp; omega))
          clear hown2 hb2
          by_cases h16 : wrap64 (x.cut + 1) = 16
          · have h16b : (wrap64 (x.cut + 1) == 16) = true := by simp [h16]
            have H16 := Lib.hid h16
            clear h16
            go_wp2_with fail
            refine (trep_any A2 c2 t x.frm x.ver _ (HT.out.below (((HB2.out.setCell (p := ⟨w.heap.size, 5, none⟩) (Nat.le_refl _) _).setCell (p := ⟨w.heap.size, 4, none⟩) (Nat.le_refl _) _).setCell (p := ⟨w.heap.size, 4, none⟩) (Nat.le_refl _) _)) hm).mono ?_
            rintro e w3 ⟨u, rfl, hu, hb3⟩
            have HU := Lib.hid hu
            have HK3 : Hid (Blk w3 w.heap.size 39 #[.int .i64 x.no, .int .i64 x.frm, .int .i64 x.ver, .int .i64 x.start, .int .i64 3, .int .i64 (wrap64 (x.cut + 1))]) :=
              Lib.hid ((((HK2.out.set_ 5 (.int .i64 (wrap64 (x.cut + 1)))).set_ 4 (.int .i64 2)).set_ 4 (.int .i64 3)).below hb3 (by have := HK2.out.lt; simpa [World.setCell] using this))
            have HB3 : Hid (Below w.heap.size w w3) := Lib.hid ((((HB2.out.setCell (p := ⟨w.heap.size, 5, none⟩) (Nat.le_refl _) _).setCell (p := ⟨w.heap.size, 4, none⟩) (Nat.le_refl _) _).setCell (p := ⟨w.heap.size, 4, none⟩) (Nat.le_refl _) _).trans (hb3.mono (by have := HB2.out.size; simpa [World.setCell] using this)))
            clear hu hb3 k0 k1 k2 k3 k4 k5 kf
            go_wp2_with fail
            have HX' := HX
            have hz3 : w.heap.size < w3.heap.size := HK3.out.lt
            refine (cloneR_any _ _ c l _ (HR.out.below HB3.out) (by omega)).mono ?_
            rintro e w4 ⟨v4, rfl, hown4, hb4⟩
            have HK4 := Lib.hid (HK3.out.below hb4 hz3)
            obtain ⟨k0, k1, k2, k3, k4, k5, kf⟩ := HK4.out.six
            rcases hown4.2 with ⟨rfl, hz⟩ | ⟨b', cap, cur, rfl, hb', _⟩
            · exact absurd hz (by have := HI.out; omega)
            · have HO4 := Lib.hid hown4
              have HB4 := Lib.hid hb4
              clear hown4 hb4
              go_wp2_with (refine wpList_store_elem encR_len (by decide) encR_one HO4.out rfl 39 _ _ rfl (by kernel_rfl) i (by omega) { x with state := 3, cut := wrap64 (x.cut + 1) } rfl rfl ?_)
              intro w5 hown5 hg5
              have HO5 := Lib.hid hown5
              have HG5 := Lib.hid hg5
              clear hown5 hg5
              go_wp2
              go_ret3
              rw [HF.out, if_neg HST.out, if_neg (fun h => h HFN.out), if_pos H16.out]
              have hb5 : Below w3.heap.size w3 w5 := HB4.out.grown HG5.out HB4.out.size (by intro k hk; injection hk with hk; omega)
              refine ⟨_, _, rfl, ?_, ?_, HB3.out.trans (hb5.mono HB3.out.size)⟩
              · have hlen : (l.set i { x with state := 3, cut := wrap64 (x.cut + 1) }).length = l.length := by simp
                have h6 := HO5.out
                rw [← hlen] at h6
                have h7 := SlV.of_own encR_len h6
                rw [hlen] at h7
                rw [show (⟨x.no, x.frm, x.ver, x.start, 3, 16⟩ : Rep) = { x with state := 3, cut := wrap64 (x.cut + 1) } by rw [H16.out]]
                exact h7
              · exact HU.out.below hb5
          · have h16b : (wrap64 (x.cut + 1) == 16) = false := by simpa using h16
            have H16 := Lib.hid h16
            clear h16
            go_wp2_with fail
            obtain ⟨w3, hw3⟩ : ∃ w3 : World, w3 = (w2.setCell ⟨w.heap.size, 5, none⟩ (.int .i64 (wrap64 (x.cut + 1)))).setCell ⟨w.heap.size, 4, none⟩ (.int .i64 2) := ⟨_, rfl⟩
            rw [← hw3]
            have HK3 : Hid (Blk w3 w.heap.size 39 #[.int .i64 x.no, .int .i64 x.frm, .int .i64 x.ver, .int .i64 x.start, .int .i64 2, .int .i64 (wrap64 (x.cut + 1))]) :=
              Lib.hid (by rw [hw3]; exact (HK2.out.set_ 5 (.int .i64 (wrap64 (x.cut + 1)))).set_ 4 (.int .i64 2))
            have HB3 : Hid (Below w.heap.size w w3) := Lib.hid (by rw [hw3]; exact (HB2.out.setCell (p := ⟨w.heap.size, 5, none⟩) (Nat.le_refl _) _).setCell (p := ⟨w.heap.size, 4, none⟩) (Nat.le_refl _) _)
            have HO3 : Hid (w3.ownsRow w.heap.size 26 2 v2 t.length (t.flatMap encS)) := Lib.hid (by
              rw [hw3]
              exact own_other_set (own_other_set HO2.out HK2.out (by decide) 5 _) (HK2.out.set_ 5 _) (by decide) 4 _)
            clear hw3 k0 k1 k2 k3 k4 k5 kf
            have HX' := HX
            have hz3 : w.heap.size < w3.heap.size := HK3.out.lt
            refine (cloneR_any _ _ c l _ (HR.out.below HB3.out) (by omega)).mono ?_
            rintro e w4 ⟨v4, rfl, hown4, hb4⟩
            have HK4 := Lib.hid (HK3.out.below hb4 hz3)
            obtain ⟨k0, k1, k2, k3, k4, k5, kf⟩ := HK4.out.six
            rcases hown4.2 with ⟨rfl, hz⟩ | ⟨b', cap, cur, rfl, hb', _⟩
            · exact absurd hz (by have := HI.out; omega)
            · have HO4 := Lib.hid hown4
              have HB4 := Lib.hid hb4
              clear hown4 hb4
              go_wp2_with (refine wpList_store_elem encR_len (by decide) encR_one HO4.out rfl 39 _ _ rfl (by kernel_rfl) i (by omega) { x with state := 2, cut := wrap64 (x.cut + 1) } rfl rfl ?_)
              intro w5 hown5 hg5
              have HO5 := Lib.hid hown5
              have HG5 := Lib.hid hg5
              clear hown5 hg5
              go_wp2
              go_ret3
              rw [HF.out, if_neg HST.out, if_neg (fun h => h HFN.out), if_neg H16.out]
              have hb5 : Below w3.heap.size w3 w5 := HB4.out.grown HG5.out HB4.out.size (by intro k hk; injection hk with hk; omega)
              refine ⟨_, _, rfl, ?_, ?_, HB3.out.trans (hb5.mono HB3.out.size)⟩
              · have hlen : (l.set i { x with state := 2, cut := wrap64 (x.cut + 1) }).length = l.length := by simp
                have h6 := HO5.out
                rw [← hlen] at h6
                have h7 := SlV.of_own encR_len h6
                rw [hlen] at h7
                exact h7
              · exact (SlV.of_own encS_len HO3.out).below hb5
      · have hfb : (f.no != (i : Int) + 1) = true := by simpa using hfn
        rw [HF.out, if_neg HST.out, if_pos hfn]
        clear hfn
        rcases hcase with hn0 | ⟨hn0, hn1⟩
        all_goals
          go_enter Try.func16, Try.ntmps16
          go_wp2_with (go_at_call 18; refine (within_any _ _ _ _).mono ?_; rintro e w' ⟨rfl, rfl⟩; simp only [show withinB ((i : Int) + 1) 1 l.length = true from HW.out])
          refine (first_any _ _ c l _ (HR.out.alloc _) (by omega)).mono ?_
          rintro e w1 ⟨rfl, hb1⟩
          rw [HFR.out]
          simp only [aggR]
          have HB1 := Lib.hid (((Below.refl w.heap.size w).alloc (Nat.le_refl _) _).trans (hb1.mono (by simp)))
          clear hb1
          go_wp2
          go_ret3
          exact ⟨_, _, rfl, SlV.nil, SlV.nil, HB1.out.alloc HB1.out.size _⟩
end Go.Proofs.Ytpdmjahdnfhcoaa
