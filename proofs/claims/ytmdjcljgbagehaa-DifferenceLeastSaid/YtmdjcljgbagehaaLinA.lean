/- difference: Lines. -/
import Derived.Test.YtmdjcljgbagehaaSamB
namespace Go.Proofs.Ytmdjcljgbagehaa
open Go.RowKit

def encL (x : Ln) : List Value := [.int .i64 x.no, .int .i64 x.batch, .int .i64 x.time, .slice x.ra x.rn x.rc, .int .i64 x.n, .int .i64 x.cause, .int .i64 x.why]
theorem encL_len (x : Ln) : (encL x).length = 7 := rfl
theorem encL_one (x : Ln) : ∀ u ∈ encL x, u.oneCell' = true := by simp [encL, Value.oneCell']
theorem info_Line : (Try.prog.info? 32).map (fun i => (i.zero, i.size, i.bytes)) = some (some (.agg #[.int .i64 0, .int .i64 0, .int .i64 0, .slice none 0 0, .int .i64 0, .int .i64 0, .int .i64 0]), 7, 72) := by kernel_rfl
def LnAt (P : Nat → Prop) (w : World) (A : Option Addr) (c : Nat) (l : List Ln) : Prop := SlP P 7 encL w A l.length c l ∧ ∀ d ∈ l, SlP P 3 encV w d.ra d.rn d.rc d.vs ∧ d.rn ≤ 1000000 ∧ w64 d.n = d.n
section
variable {P Q : Nat → Prop} {w w' : World} {A : Option Addr} {c : Nat} {l : List Ln}
theorem LnAt.keep (h : LnAt P w A c l) (hs : w.heap.size ≤ w'.heap.size) (hc : ∀ b, b < w.heap.size → P b → w'.heap[b]? = w.heap[b]?) : LnAt P w' A c l := ⟨h.1.keep hs hc, fun d hd => ⟨(h.2 d hd).1.keep hs hc, (h.2 d hd).2⟩⟩
theorem LnAt.below (h : LnAt P w A c l) (hb : Below w.heap.size w w') : LnAt P w' A c l := h.keep hb.size fun b hlt _ => hb.block b hlt
theorem LnAt.mono (h : LnAt P w A c l) (hpq : ∀ b, b < w.heap.size → P b → Q b) : LnAt Q w A c l := ⟨h.1.mono hpq, fun d hd => ⟨(h.2 d hd).1.mono hpq, (h.2 d hd).2⟩⟩
theorem LnAt.any (h : LnAt P w A c l) : LnAt (fun _ => True) w A c l := h.mono fun _ _ _ => trivial
theorem DlAt.any {l : List Dl} (h : DlAt P w A c l) : DlAt (fun _ => True) w A c l := h.mono fun _ _ _ => trivial
end
theorem cellsL {w W : World} {b off : Nat} {l : List Ln} (hx : ∀ j x, l[j]? = some x → ∀ i v, (encL x)[i]? = some v → w.cell? ⟨b, off + j * 7 + i, none⟩ = some v) (hb : b < w.heap.size) (hW : Below w.heap.size w W) {j : Nat} {x : Ln} (hj : l[j]? = some x) :
    W.cell? ⟨b, off + j * 7, none⟩ = some (.int .i64 x.no) ∧ W.cell? ⟨b, off + j * 7 + 1, none⟩ = some (.int .i64 x.batch) ∧ W.cell? ⟨b, off + j * 7 + 2, none⟩ = some (.int .i64 x.time) ∧ W.cell? ⟨b, off + j * 7 + 3, none⟩ = some (.slice x.ra x.rn x.rc) ∧ W.cell? ⟨b, off + j * 7 + 4, none⟩ = some (.int .i64 x.n) ∧ W.cell? ⟨b, off + j * 7 + 5, none⟩ = some (.int .i64 x.cause) ∧ W.cell? ⟨b, off + j * 7 + 6, none⟩ = some (.int .i64 x.why) := by
  have q : ∀ i v, (encL x)[i]? = some v → W.cell? ⟨b, off + j * 7 + i, none⟩ = some v := fun i v hv => (World.cell?_of_block (a := ⟨b, _, none⟩) (hW.block b hb)).trans (hx j x hj i v hv)
  exact ⟨q 0 _ rfl, q 1 _ rfl, q 2 _ rfl, q 3 _ rfl, q 4 _ rfl, q 5 _ rfl, q 6 _ rfl⟩
theorem LnAt.getL {P : Nat → Prop} {w : World} {A : Option Addr} {c : Nat} {l : List Ln} (h : LnAt P w A c l) {j : Nat} {x : Ln} (hj : l[j]? = some x) {W : World} (hW : Below w.heap.size w W) : ∃ bb off, A = some ⟨bb, off, none⟩ ∧ (W.cell? ⟨bb, off + j * 7, none⟩ = some (.int .i64 x.no) ∧ W.cell? ⟨bb, off + j * 7 + 1, none⟩ = some (.int .i64 x.batch) ∧ W.cell? ⟨bb, off + j * 7 + 2, none⟩ = some (.int .i64 x.time) ∧ W.cell? ⟨bb, off + j * 7 + 3, none⟩ = some (.slice x.ra x.rn x.rc) ∧ W.cell? ⟨bb, off + j * 7 + 4, none⟩ = some (.int .i64 x.n) ∧ W.cell? ⟨bb, off + j * 7 + 5, none⟩ = some (.int .i64 x.cause) ∧ W.cell? ⟨bb, off + j * 7 + 6, none⟩ = some (.int .i64 x.why)) ∧ bb < W.heap.size := by
  obtain ⟨bb, off, e, hlt, hx⟩ := h.1.1.2.2 (by have := (List.getElem?_eq_some_iff.1 hj).1; omega)
  exact ⟨bb, off, e, cellsL hx hlt hW hj, Nat.lt_of_lt_of_le hlt hW.size⟩
theorem lnAt_own {base : Nat} {w : World} {A : Option Addr} {c : Nat} {l : List Ln} (h : w.ownsRow base 32 7 (.slice A l.length c) l.length (l.flatMap encL)) (hr : ∀ d ∈ l, SlP (fun _ => True) 3 encV w d.ra d.rn d.rc d.vs ∧ d.rn ≤ 1000000 ∧ w64 d.n = d.n) : LnAt (fun _ => True) w A c l :=
  ⟨SlP.of_own encL_len h rfl (fun _ _ _ => trivial), hr⟩
def LinesTo (no batch mark rep : Int) (c : List Dl) (k : Nat) (l : List Ln) : Prop := l.length = k ∧ ∀ (i : Nat) (d : Dl) (x : Ln), c[i]? = some d → l[i]? = some x → x = lnOf no batch mark rep i d
theorem linesTo_step {no batch mark rep : Int} {c : List Dl} {k : Nat} {l : List Ln} (h : LinesTo no batch mark rep c k l) {d : Dl} (hd : c[k]? = some d) : LinesTo no batch mark rep c (k + 1) (l ++ [lnOf no batch mark rep k d]) := by
  refine ⟨by rw [List.length_append, h.1]; rfl, fun i d' x hi hx => ?_⟩
  rcases Nat.lt_or_ge i k with hlt | hge
  · rw [List.getElem?_append_left (by rw [h.1]; exact hlt)] at hx
    exact h.2 i d' x hi hx
  · have hi2 := (List.getElem?_eq_some_iff.1 hx).1
    rw [List.length_append, h.1] at hi2
    simp only [List.length_singleton] at hi2
    obtain rfl : i = k := by omega
    rw [List.getElem?_append_right (by rw [h.1]; exact Nat.le_refl _), h.1, Nat.sub_self] at hx
    rw [hd] at hi
    cases hi
    simpa using hx.symm
def LinesPost (w : World) (no batch mark rep : Int) (l : List Dl) (e : Ending) (w' : World) : Prop := ∃ A c out L, e = .returned (.slice A (List.length L) c) ∧ ConsOf l out ∧ LinesOf no batch mark rep out L ∧ LnAt (fun _ => True) w' A c L ∧ Below w.heap.size w w'
theorem lines_rows {no batch mark rep : Int} {c : List Dl} {k : Nat} {L : List Ln} (h : LinesTo no batch mark rep c k L) (hk : k ≤ c.length) {w : World} (hr : ∀ d ∈ c, SlP (fun _ => True) 3 encV w d.ra d.rn d.rc d.vs ∧ d.rn ≤ 1000000 ∧ w64 d.n = d.n) : ∀ d ∈ L, SlP (fun _ => True) 3 encV w d.ra d.rn d.rc d.vs ∧ d.rn ≤ 1000000 ∧ w64 d.n = d.n := by
  intro x hx
  obtain ⟨i, hi, e⟩ := List.getElem_of_mem hx
  have hi' := hi
  rw [h.1] at hi'
  obtain ⟨d, hd⟩ : ∃ d, c[i]? = some d := ⟨_, List.getElem?_eq_getElem (by omega)⟩
  rw [h.2 i d x hd (by rw [← e]; exact List.getElem?_eq_getElem hi)]
  exact hr d (List.mem_of_getElem? hd)
theorem Blk.seven' {w : World} {g : Nat} {t : TypeId} {a b c d e f x : Value} (h : Blk w g t #[a, b, c, d, e, f, x]) : (w.cell? ⟨g, 0, none⟩ = some a ∧ w.cell? ⟨g, 1, none⟩ = some b ∧ w.cell? ⟨g, 2, none⟩ = some c ∧ w.cell? ⟨g, 3, none⟩ = some d ∧ w.cell? ⟨g, 4, none⟩ = some e ∧ w.cell? ⟨g, 5, none⟩ = some f ∧ w.cell? ⟨g, 6, none⟩ = some x) ∧ ∀ i, w.frozen? ⟨g, i, none⟩ = false :=
  ⟨⟨h.cell 0, h.cell 1, h.cell 2, h.cell 3, h.cell 4, h.cell 5, h.cell 6⟩, h.frozen⟩
set_option maxHeartbeats 8000000 in
set_option maxRecDepth 100000 in
theorem lines_any (P : Nat → Prop) (A : Option Addr) (c : Nat) (l : List Dl) (w : World) (h : DlAt P w A c l) (hn : l.length ≤ 1000) (no batch mark rep : Int) :
    Calls Try.prog 7 #[.slice A l.length c, .int .i64 no, .int .i64 batch, .int .i64 mark, .int .i64 rep] w (LinesPost w no batch mark rep l) := by
  have HD0 := Lib.hid h
  clear h
  go_enter Try.func7, Try.ntmps7
  go_wp2_with fail
  refine (consolidate_any P A c l _ HD0.out hn).mono ?_
  rintro e w1 ⟨A1, c1, out, rfl, hco, hlen, hd1, hb1⟩
  have HC := Lib.hid hco
  have HD := Lib.hid hd1.any
  have HB1 := Lib.hid hb1
  have hn1 : out.length ≤ 1000 := by omega
  clear hco hd1 hb1 hlen
  go_wp2_with fail
  go_loopg [11, 12, 13, 14, 18, 35, 41] out.length (fun gg s11 _ _ _ s18 _ _ wr => ∃ (k oc : Nat) (oa : Option Addr) (L : List Ln), s18 = .int .i64 k ∧ k ≤ out.length ∧ out.length - k ≤ gg ∧ s11 = .slice oa k oc ∧ Hid (LinesTo no batch mark rep out k L) ∧ Hid (wr.ownsRow w1.heap.size 32 7 (.slice oa k oc) k (L.flatMap encL)) ∧ Hid (Below w1.heap.size w1 wr))
  case atStart => exact ⟨0, 0, none, [], rfl, by omega, by omega, rfl, Lib.hid ⟨rfl, by simp⟩, World.ownsRow_nil _ _ _ _, Lib.hid (Below.refl _ _)⟩
  case round =>
    obtain ⟨k, oc, oa, L, rfl, hk, hg, rfl, HL, HO, HW⟩ := hrel
    revert HO HW
    revert wr
    intro wo HO HW
    have hww : w.heap.size ≤ w1.heap.size := HB1.out.size
    by_cases hlt : k < out.length
    · have hltz : (k : Int) < (out.length : Int) := by omega
      obtain ⟨x, hx⟩ : ∃ x, out[k]? = some x := ⟨_, List.getElem?_eq_getElem hlt⟩
      obtain ⟨b1, o1, rfl, x0, x1, x2, hb1⟩ := HD.out.getD hx HW.out
      have HX := Lib.hid hx
      have hwo := HW.out.size
      obtain ⟨N, hN⟩ : ∃ N, w64 (no + (k : Int)) = N := ⟨_, rfl⟩
      have hNw : IntKind.i64.wrap (no + (k : Int)) = N := hN
      have HN := Lib.hid hN
      clear hx hN
      have HBD : Hid (Blk (wo.alloc (.cells #[.int .i64 x.time, .slice x.ra x.rn x.rc, .int .i64 x.n] 38)) wo.heap.size 38 #[.int .i64 x.time, .slice x.ra x.rn x.rc, .int .i64 x.n]) := Lib.hid (Blk.new wo _ _)
      have HBB : Hid (Below wo.heap.size wo (wo.alloc (.cells #[.int .i64 x.time, .slice x.ra x.rn x.rc, .int .i64 x.n] 38))) := Lib.hid ((Below.refl _ wo).alloc (Nat.le_refl _) _)
      have hsz : (wo.alloc (.cells #[.int .i64 x.time, .slice x.ra x.rn x.rc, .int .i64 x.n] 38)).heap.size = wo.heap.size + 1 := by simp
      go_upto_region 5 with fail
      generalize (wo.alloc (.cells #[.int .i64 x.time, .slice x.ra x.rn x.rc, .int .i64 x.n] 38)) = wa at HBD HBB hsz ⊢
      obtain ⟨z0, z1, z2, _⟩ := HBD.out.three
      have HSZ := Lib.hid hsz
      clear x0 x1 x2 hsz
      have HLD : Hid (Blk (wa.alloc (.cells #[.int .i64 N, .int .i64 batch, .int .i64 x.time, .slice x.ra x.rn x.rc, .int .i64 x.n, .int .i64 0, .int .i64 0] 32)) wa.heap.size 32 #[.int .i64 N, .int .i64 batch, .int .i64 x.time, .slice x.ra x.rn x.rc, .int .i64 x.n, .int .i64 0, .int .i64 0]) := Lib.hid (Blk.new wa _ _)
      have HLB : Hid (Below wa.heap.size wa (wa.alloc (.cells #[.int .i64 N, .int .i64 batch, .int .i64 x.time, .slice x.ra x.rn x.rc, .int .i64 x.n, .int .i64 0, .int .i64 0] 32))) := Lib.hid ((Below.refl _ wa).alloc (Nat.le_refl _) _)
      go_upto_region 7 with fail
      have HBD2 : Hid (Blk (wa.alloc (.cells #[.int .i64 N, .int .i64 batch, .int .i64 x.time, .slice x.ra x.rn x.rc, .int .i64 x.n, .int .i64 0, .int .i64 0] 32)) wo.heap.size 38 #[.int .i64 x.time, .slice x.ra x.rn x.rc, .int .i64 x.n]) := Lib.hid (HBD.out.alloc _)
      have HLB2 : Hid (Below wo.heap.size wo (wa.alloc (.cells #[.int .i64 N, .int .i64 batch, .int .i64 x.time, .slice x.ra x.rn x.rc, .int .i64 x.n, .int .i64 0, .int .i64 0] 32))) := Lib.hid (HBB.out.alloc HBB.out.size _)
      generalize (wa.alloc (.cells #[.int .i64 N, .int .i64 batch, .int .i64 x.time, .slice x.ra x.rn x.rc, .int .i64 x.n, .int .i64 0, .int .i64 0] 32)) = wb at HLD HLB HBD2 HLB2 ⊢
      have hwag : wo.heap.size ≤ wa.heap.size := HBB.out.size
      obtain ⟨_, hz⟩ := HLD.out.seven'
      have hz5 := hz 5
      have hz6 := hz 6
      obtain ⟨y0, y1, y2, _⟩ := HBD2.out.three
      clear hz z0 z1 z2 hNw
      by_cases hrep : 0 < rep
      · have hrb : decide (0 < rep) = true := decide_eq_true hrep
        have HREP := Lib.hid hrep
        have HLF : Hid (Blk ((wb.setCell ⟨wa.heap.size, 5, none⟩ (.int .i64 2)).setCell ⟨wa.heap.size, 6, none⟩ (.int .i64 rep)) wa.heap.size 32 #[.int .i64 N, .int .i64 batch, .int .i64 x.time, .slice x.ra x.rn x.rc, .int .i64 x.n, .int .i64 2, .int .i64 rep]) := Lib.hid (by simpa using (HLD.out.set_ 5 (.int .i64 2)).set_ 6 (.int .i64 rep))
        have hfz6 : (wb.setCell ⟨wa.heap.size, 5, none⟩ (.int .i64 2)).frozen? ⟨wa.heap.size, 6, none⟩ = false := (HLD.out.set_ 5 (.int .i64 2)).frozen 6
        go_upto_region 11 with fail
        clear hz5 hz6 hfz6 y0 y1 y2 hrb
        have HLW : Hid (Below wo.heap.size wo ((wb.setCell ⟨wa.heap.size, 5, none⟩ (.int .i64 2)).setCell ⟨wa.heap.size, 6, none⟩ (.int .i64 rep))) := Lib.hid ((HLB2.out.setCell (p := ⟨wa.heap.size, 5, none⟩) hwag _).setCell (p := ⟨wa.heap.size, 6, none⟩) hwag _)
        have HFL : Hid (lnOf no batch mark rep k x = ⟨N, batch, x.time, x.ra, x.rn, x.rc, x.n, 2, rep, x.vs⟩) := Lib.hid (by unfold lnOf; rw [HN.out, if_pos HREP.out, if_pos HREP.out])
        generalize ((wb.setCell ⟨wa.heap.size, 5, none⟩ (.int .i64 2)).setCell ⟨wa.heap.size, 6, none⟩ (.int .i64 rep)) = wc at HLF HLW ⊢
        obtain ⟨⟨q0, q1, q2, q3, q4, q5, q6⟩, _⟩ := HLF.out.seven'
        have HWC : Hid (Below w1.heap.size w1 wc) := Lib.hid (HW.out.trans (HLW.out.mono HW.out.size))
        have hwc : w1.heap.size ≤ wc.heap.size := HWC.out.size
        go_wp2_with (at_builtin; refine wpList_append_sl (k := 7) (enc := encL) _ rfl _ _ 25 rfl w1.heap.size 32 _ 72 Try.underlying25 info_Line rfl (by decide) encL_len encL_one _ k L rfl (own_below (own_below HO.out HLW.out) ((Below.refl _ _).alloc (Nat.le_refl _) _)) _ 1 1 [lnOf no batch mark rep k x] rfl (slT_block encL_len (Blk.new' _ wc.heap.size _ _ rfl) (by rw [HFL.out]; rfl) rfl (Nat.le_refl _)) (by unfold maxLen; omega) (by omega) (by simp; omega) ?_)
        intro v' w8 hown8 hgrow hat
        obtain ⟨oa', oc', rfl⟩ := own_shape hown8
        have HO8 : Hid (w8.ownsRow w1.heap.size 32 7 (.slice oa' (k + 1) oc') (k + 1) ((L ++ [lnOf no batch mark rep k x]).flatMap encL)) := Lib.hid (by simpa [List.flatMap_append] using hown8)
        have HB8 : Hid (Below w1.heap.size w1 w8) := Lib.hid ((HWC.out.alloc HWC.out.size _).grown hgrow (by have := HWC.out.size; simp; omega) (by intro q hq; exact (HO.out.lt q hq).1))
        clear hown8 hgrow hat q0 q1 q2 q3 q4 q5 q6
        go_wp2
        go_roundg (out.length - (k + 1))
        case measure => omega
        case rel => exact ⟨k + 1, oc', oa', _, by go_num, by omega, by omega, by simp, Lib.hid (linesTo_step HL.out HX.out), HO8, HB8⟩
      · have hrb : decide (0 < rep) = false := decide_eq_false hrep
        have HREP := Lib.hid hrep
        by_cases hm : mark < x.time
        · have hmb : decide (mark < x.time) = true := decide_eq_true hm
          have HM := Lib.hid hm
          have HLF : Hid (Blk (wb.setCell ⟨wa.heap.size, 5, none⟩ (.int .i64 0)) wa.heap.size 32 #[.int .i64 N, .int .i64 batch, .int .i64 x.time, .slice x.ra x.rn x.rc, .int .i64 x.n, .int .i64 0, .int .i64 0]) := Lib.hid (by simpa using HLD.out.set_ 5 (.int .i64 0))
          go_upto_region 11 with fail
          clear hz5 hz6 y0 y1 y2 hrb hmb
          have HLW : Hid (Below wo.heap.size wo (wb.setCell ⟨wa.heap.size, 5, none⟩ (.int .i64 0))) := Lib.hid (HLB2.out.setCell (p := ⟨wa.heap.size, 5, none⟩) hwag _)
          have HFL : Hid (lnOf no batch mark rep k x = ⟨N, batch, x.time, x.ra, x.rn, x.rc, x.n, 0, 0, x.vs⟩) := Lib.hid (by unfold lnOf; rw [HN.out, if_neg HREP.out, if_neg HREP.out, if_pos HM.out])
          generalize (wb.setCell ⟨wa.heap.size, 5, none⟩ (.int .i64 0)) = wc at HLF HLW ⊢
          obtain ⟨⟨q0, q1, q2, q3, q4, q5, q6⟩, _⟩ := HLF.out.seven'
          have HWC : Hid (Below w1.heap.size w1 wc) := Lib.hid (HW.out.trans (HLW.out.mono HW.out.size))
          have hwc : w1.heap.size ≤ wc.heap.size := HWC.out.size
          go_wp2_with (at_builtin; refine wpList_append_sl (k := 7) (enc := encL) _ rfl _ _ 25 rfl w1.heap.size 32 _ 72 Try.underlying25 info_Line rfl (by decide) encL_len encL_one _ k L rfl (own_below (own_below HO.out HLW.out) ((Below.refl _ _).alloc (Nat.le_refl _) _)) _ 1 1 [lnOf no batch mark rep k x] rfl (slT_block encL_len (Blk.new' _ wc.heap.size _ _ rfl) (by rw [HFL.out]; rfl) rfl (Nat.le_refl _)) (by unfold maxLen; omega) (by omega) (by simp; omega) ?_)
          intro v' w8 hown8 hgrow hat
          obtain ⟨oa', oc', rfl⟩ := own_shape hown8
          have HO8 : Hid (w8.ownsRow w1.heap.size 32 7 (.slice oa' (k + 1) oc') (k + 1) ((L ++ [lnOf no batch mark rep k x]).flatMap encL)) := Lib.hid (by simpa [List.flatMap_append] using hown8)
          have HB8 : Hid (Below w1.heap.size w1 w8) := Lib.hid ((HWC.out.alloc HWC.out.size _).grown hgrow (by have := HWC.out.size; simp; omega) (by intro q hq; exact (HO.out.lt q hq).1))
          clear hown8 hgrow hat q0 q1 q2 q3 q4 q5 q6
          go_wp2
          go_roundg (out.length - (k + 1))
          case measure => omega
          case rel => exact ⟨k + 1, oc', oa', _, by go_num, by omega, by omega, by simp, Lib.hid (linesTo_step HL.out HX.out), HO8, HB8⟩
        · have hmb : decide (mark < x.time) = false := decide_eq_false hm
          have HM := Lib.hid hm
          have HLF : Hid (Blk (wb.setCell ⟨wa.heap.size, 5, none⟩ (.int .i64 1)) wa.heap.size 32 #[.int .i64 N, .int .i64 batch, .int .i64 x.time, .slice x.ra x.rn x.rc, .int .i64 x.n, .int .i64 1, .int .i64 0]) := Lib.hid (by simpa using HLD.out.set_ 5 (.int .i64 1))
          go_upto_region 11 with fail
          clear hz5 hz6 y0 y1 y2 hrb hmb
          have HLW : Hid (Below wo.heap.size wo (wb.setCell ⟨wa.heap.size, 5, none⟩ (.int .i64 1))) := Lib.hid (HLB2.out.setCell (p := ⟨wa.heap.size, 5, none⟩) hwag _)
          have HFL : Hid (lnOf no batch mark rep k x = ⟨N, batch, x.time, x.ra, x.rn, x.rc, x.n, 1, 0, x.vs⟩) := Lib.hid (by unfold lnOf; rw [HN.out, if_neg HREP.out, if_neg HREP.out, if_neg HM.out])
          generalize (wb.setCell ⟨wa.heap.size, 5, none⟩ (.int .i64 1)) = wc at HLF HLW ⊢
          obtain ⟨⟨q0, q1, q2, q3, q4, q5, q6⟩, _⟩ := HLF.out.seven'
          have HWC : Hid (Below w1.heap.size w1 wc) := Lib.hid (HW.out.trans (HLW.out.mono HW.out.size))
          have hwc : w1.heap.size ≤ wc.heap.size := HWC.out.size
          go_wp2_with (at_builtin; refine wpList_append_sl (k := 7) (enc := encL) _ rfl _ _ 25 rfl w1.heap.size 32 _ 72 Try.underlying25 info_Line rfl (by decide) encL_len encL_one _ k L rfl (own_below (own_below HO.out HLW.out) ((Below.refl _ _).alloc (Nat.le_refl _) _)) _ 1 1 [lnOf no batch mark rep k x] rfl (slT_block encL_len (Blk.new' _ wc.heap.size _ _ rfl) (by rw [HFL.out]; rfl) rfl (Nat.le_refl _)) (by unfold maxLen; omega) (by omega) (by simp; omega) ?_)
          intro v' w8 hown8 hgrow hat
          obtain ⟨oa', oc', rfl⟩ := own_shape hown8
          have HO8 : Hid (w8.ownsRow w1.heap.size 32 7 (.slice oa' (k + 1) oc') (k + 1) ((L ++ [lnOf no batch mark rep k x]).flatMap encL)) := Lib.hid (by simpa [List.flatMap_append] using hown8)
          have HB8 : Hid (Below w1.heap.size w1 w8) := Lib.hid ((HWC.out.alloc HWC.out.size _).grown hgrow (by have := HWC.out.size; simp; omega) (by intro q hq; exact (HO.out.lt q hq).1))
          clear hown8 hgrow hat q0 q1 q2 q3 q4 q5 q6
          go_wp2
          go_roundg (out.length - (k + 1))
          case measure => omega
          case rel => exact ⟨k + 1, oc', oa', _, by go_num, by omega, by omega, by simp, Lib.hid (linesTo_step HL.out HX.out), HO8, HB8⟩
    · have hltz : ¬ (k : Int) < (out.length : Int) := by omega
      obtain rfl : k = out.length := by omega
      have hLl : L.length = out.length := HL.out.1
      have HF : Hid (LinesPost w no batch mark rep l (.returned (.slice oa out.length oc)) wo) := Lib.hid (by
        have hb : Below w.heap.size w wo := HB1.out.trans (HW.out.mono HB1.out.size)
        refine ⟨oa, oc, out, L, by rw [hLl], HC.out, ⟨hLl, HL.out.2⟩, lnAt_own (base := w1.heap.size) (by rw [hLl]; exact HO.out) (lines_rows HL.out (Nat.le_refl _) (HD.out.below HW.out).2), hb⟩)
      go_wp2
      go_ret
      exact HF.out
end Go.Proofs.Ytmdjcljgbagehaa
