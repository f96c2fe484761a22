/- delta: Sub; differences. -/
import Derived.Test.YtmdjcljgbagehaaConC
namespace Go.Proofs.Ytmdjcljgbagehaa
open Go.RowKit

set_option maxHeartbeats 4000000 in
set_option maxRecDepth 100000 in
theorem sub_any (P Q : Nat → Prop) (A B : Option Addr) (ca cb : Nat) (a b : List Dl) (w : World) (ha : DlAt P w A ca a) (hb : DlAt Q w B cb b) (hab : a.length + b.length ≤ 1000) :
    Calls Try.prog 21 #[.slice A a.length ca, .slice B b.length cb] w (ConPost w (a ++ b.map negD)) := by
  have HA := Lib.hid ha
  have HR : Hid (∀ w', Below w.heap.size w w' → ∀ d ∈ a ++ b.map negD, SlP (fun _ => True) 3 encV w' d.ra d.rn d.rc d.vs ∧ d.rn ≤ 1000000 ∧ w64 d.n = d.n) := Lib.hid (fun w' hw d hd => (List.mem_append.1 hd).elim (fun h => ha.rows hw d h) (fun h => by
    obtain ⟨x, hx, rfl⟩ := List.mem_map.1 h
    have := hb.rows hw x hx
    exact ⟨this.1, this.2.1, w64_w64 _⟩))
  have HC : Hid (∀ W, Below w.heap.size w W → ∀ (j : Nat) (x : Dl), b[j]? = some x → ∃ bb off, B = some ⟨bb, off, none⟩ ∧ W.cell? ⟨bb, off + j * 3, none⟩ = some (.int .i64 x.time) ∧ W.cell? ⟨bb, off + j * 3 + 1, none⟩ = some (.slice x.ra x.rn x.rc) ∧ W.cell? ⟨bb, off + j * 3 + 2, none⟩ = some (.int .i64 x.n) ∧ bb < w.heap.size) := Lib.hid (fun W hW j x hj => by
    obtain ⟨bb, off, e, hlt, hx⟩ := hb.1.1.2.2 (by have := (List.getElem?_eq_some_iff.1 hj).1; omega)
    obtain ⟨y0, y1, y2⟩ := cellsD hx hlt hW hj
    exact ⟨bb, off, e, y0, y1, y2, hlt⟩)
  clear ha hb
  go_enter Try.func21, Try.ntmps21
  go_wp2_with fail
  refine (cloneD_any A a.length ca a _ HA.out.1.1 (by omega)).mono ?_
  rintro e w1 ⟨A1, c1, rfl, hown1, hb1⟩
  have HO1 := Lib.hid hown1
  have HB1 := Lib.hid hb1
  clear hown1 hb1
  go_wp2_with fail
  go_loopg [5, 7, 12] b.length (fun gg s5 _ s12 wr => ∃ (k oc : Nat) (oa : Option Addr), s12 = .int .i64 k ∧ k ≤ b.length ∧ b.length - k ≤ gg ∧ s5 = .slice oa (a.length + k) oc ∧ Hid (wr.ownsRow w.heap.size 38 3 (.slice oa (a.length + k) oc) (a.length + k) ((a ++ (b.take k).map negD).flatMap encD)) ∧ Hid (Below w.heap.size w wr))
  case atStart => exact ⟨0, c1, A1, rfl, by omega, by omega, rfl, by simpa using HO1, HB1⟩
  case round =>
    obtain ⟨k, oc, oa, rfl, hk, hg, rfl, HO, HB⟩ := hrel
    clear HO1 HB1
    revert HO HB
    revert wr
    intro wo HO HB
    by_cases hlt : k < b.length
    · have hltz : (k : Int) < (b.length : Int) := by omega
      obtain ⟨x, hx⟩ : ∃ x, b[k]? = some x := ⟨_, List.getElem?_eq_getElem hlt⟩
      obtain ⟨bb, off, rfl, y0, y1, y2, hbb⟩ := HC.out wo HB.out k x hx
      have HX := Lib.hid hx
      have hwo := HB.out.size
      clear hx
      have HBD : Hid (Blk (wo.alloc (.cells #[.int .i64 x.time, .slice x.ra x.rn x.rc, .int .i64 x.n] 38)) wo.heap.size 38 #[.int .i64 x.time, .slice x.ra x.rn x.rc, .int .i64 x.n]) := Lib.hid (Blk.new wo _ _)
      have HBB : Hid (Below wo.heap.size wo (wo.alloc (.cells #[.int .i64 x.time, .slice x.ra x.rn x.rc, .int .i64 x.n] 38))) := Lib.hid ((Below.refl _ wo).alloc (Nat.le_refl _) _)
      go_upto_region 5 with fail
      generalize (wo.alloc (.cells #[.int .i64 x.time, .slice x.ra x.rn x.rc, .int .i64 x.n] 38)) = wa at HBD HBB ⊢
      obtain ⟨z0, z1, z2, zf⟩ := HBD.out.three
      have zf2 := zf 2
      clear y0 y1 y2 zf
      have HBD2 : Hid (Blk (wa.setCell ⟨wo.heap.size, 2, none⟩ (.int .i64 (w64 (- x.n)))) wo.heap.size 38 #[.int .i64 x.time, .slice x.ra x.rn x.rc, .int .i64 (w64 (- x.n))]) := Lib.hid (by simpa using HBD.out.set_ 2 (.int .i64 (w64 (- x.n))))
      have HBB2 : Hid (Below wo.heap.size wo (wa.setCell ⟨wo.heap.size, 2, none⟩ (.int .i64 (w64 (- x.n))))) := Lib.hid (HBB.out.setCell (p := ⟨wo.heap.size, 2, none⟩) (Nat.le_refl _) _)
      generalize hN : w64 (- x.n) = N at *
      have hNw : IntKind.i64.wrap (- x.n) = N := hN
      go_upto_region 6 with fail
      generalize (wa.setCell ⟨wo.heap.size, 2, none⟩ (.int .i64 N)) = wb at HBD2 HBB2 ⊢
      obtain ⟨z0', z1', z2', _⟩ := HBD2.out.three
      have HBB3 : Hid (Below w.heap.size w wb) := Lib.hid (HB.out.trans (HBB2.out.mono HB.out.size))
      have hwb : w.heap.size ≤ wb.heap.size := HBB3.out.size
      clear HBD HBB z0 z1 z2 zf2
      go_wp2_with (at_builtin; refine wpList_append_sl (k := 3) (enc := encD) _ rfl _ _ 22 rfl w.heap.size 38 _ 40 Try.underlying22 info_Del rfl (by decide) encD_len encD_one _ (a.length + k) (a ++ (b.take k).map negD) rfl (own_below (own_below HO.out HBB2.out) ((Below.refl _ _).alloc (Nat.le_refl _) _)) _ 1 1 [negD x] rfl (slT_block encD_len (Blk.new' _ wb.heap.size _ _ rfl) (by rw [← hN]; rfl) rfl (Nat.le_refl _)) (by unfold maxLen; omega) (by omega) (by simp; omega) ?_)
      intro v' w8 hown8 hgrow hat
      obtain ⟨oa', oc', rfl⟩ := own_shape hown8
      have HO8 : Hid (w8.ownsRow w.heap.size 38 3 (.slice oa' (a.length + (k + 1)) oc') (a.length + (k + 1)) ((a ++ (b.take (k + 1)).map negD).flatMap encD)) := Lib.hid (by
        rw [List.take_add_one, HX.out]
        simpa [List.flatMap_append, Nat.add_assoc] using hown8)
      have HB8 : Hid (Below w.heap.size w w8) := Lib.hid ((HBB3.out.alloc hwb _).grown hgrow (by simp; omega) (by intro q hq; exact (HO.out.lt q hq).1))
      clear hown8 hgrow hat z0' z1' z2'
      go_wp2
      go_roundg (b.length - (k + 1))
      case measure => omega
      case rel => exact ⟨k + 1, oc', oa', by go_num, by omega, by omega, by simp [Nat.add_assoc], HO8, HB8⟩
    · have hltz : ¬ (k : Int) < (b.length : Int) := by omega
      obtain rfl : k = b.length := by omega
      have hab' : (a ++ b.map negD).length ≤ 1000 := by simpa using hab
      have HO2 : Hid (wo.ownsRow w.heap.size 38 3 (.slice oa (a ++ b.map negD).length oc) (a ++ b.map negD).length ((a ++ b.map negD).flatMap encD)) := Lib.hid (by
        have := HO.out
        rw [List.take_length] at this
        simpa using this)
      have hlen : a.length + b.length = (a ++ b.map negD).length := by simp
      rw [hlen]
      generalize a ++ b.map negD = l at *
      go_wp2_with fail
      refine (consolidate_any (fun _ => True) oa oc l _ (dlAt_own HO2.out (HR.out _ HB.out)) hab').mono ?_
      rintro e w2 hc
      have HCC := Lib.hid (hc.up HB.out)
      clear hc
      obtain ⟨A2, c2, out, rfl, _⟩ := HCC.out
      go_wp2
      go_ret
      exact HCC.out
theorem diff_any (P Q : Nat → Prop) (A B : Option Addr) (ca cb : Nat) (a b : List Dl) (w : World) (ha : DlAt P w A ca a) (hb : DlAt Q w B cb b) (hab : a.length + b.length ≤ 1000) :
    Calls Try.prog 11 #[.slice A a.length ca, .slice B b.length cb] w (ConPost w (b ++ a.map negD)) := by
  have HA := Lib.hid ha
  have HB := Lib.hid hb
  clear ha hb
  go_enter Try.func11, Try.ntmps11
  go_wp2_with fail
  refine (sub_any Q P B A cb ca b a _ HB.out HA.out (by omega)).mono ?_
  rintro e w2 hc
  have HCC := Lib.hid hc
  clear hc
  obtain ⟨A2, c2, out, rfl, _⟩ := HCC.out
  go_wp2
  go_ret
  exact HCC.out
end Go.Proofs.Ytmdjcljgbagehaa
