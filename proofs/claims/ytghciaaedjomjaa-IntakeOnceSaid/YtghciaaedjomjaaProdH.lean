/- producer: Put. -/
import Derived.Test.YtghciaaedjomjaaProdG
import Derived.Deep.CutRange
namespace Go.Proofs.Ytghciaaedjomjaa
open Go.RowKit

theorem Blk.four {w : World} {g : Nat} {t : TypeId} {a b c d : Value} (h : Blk w g t #[a, b, c, d]) : w.cell? ⟨g, 0, none⟩ = some a ∧ w.cell? ⟨g, 1, none⟩ = some b ∧ w.cell? ⟨g, 2, none⟩ = some c ∧ w.cell? ⟨g, 3, none⟩ = some d ∧ ∀ i, w.frozen? ⟨g, i, none⟩ = false :=
  ⟨h.cell 0, h.cell 1, h.cell 2, h.cell 3, h.frozen⟩
theorem Blk.eight {w : World} {g : Nat} {t : TypeId} {a b c d e f x y : Value} (h : Blk w g t #[a, b, c, d, e, f, x, y]) : w.cell? ⟨g, 0, none⟩ = some a ∧ w.cell? ⟨g, 1, none⟩ = some b ∧ w.cell? ⟨g, 2, none⟩ = some c ∧ w.cell? ⟨g, 3, none⟩ = some d ∧
    w.cell? ⟨g, 4, none⟩ = some e ∧ w.cell? ⟨g, 5, none⟩ = some f ∧ w.cell? ⟨g, 6, none⟩ = some x ∧ w.cell? ⟨g, 7, none⟩ = some y :=
  ⟨h.cell 0, h.cell 1, h.cell 2, h.cell 3, h.cell 4, h.cell 5, h.cell 6, h.cell 7⟩

set_option maxHeartbeats 2000000 in
set_option maxRecDepth 100000 in
theorem put_yes (P : Nat → Prop) (A : Option Addr) (c : Nat) (s : List Prd) (kind id ep sq : Int) (src : ByteArray) (sch tm : Int) (ra : Option Addr) (rn rc : Nat) (pos : Int) (w : World) (hs : RightP s) (hr : TabP P w A c s) (hput : putOk s id ep sq pos) :
    Calls Try.prog 11 #[.slice A s.length c, .agg #[.int .i64 kind, .int .i64 id, .int .i64 ep, .int .i64 sq, .string src, .int .i64 sch, .int .i64 tm, .slice ra rn rc], .int .i64 pos] w (TabPost (fun b => w.heap.size ≤ b) w (putP s id pos)) := by
  obtain ⟨hlk, hpos, hlast⟩ := hput
  obtain ⟨x, hx⟩ : ∃ x, lookF s id ep sq = (x, 0) := ⟨(lookF s id ep sq).1, by rw [← hlk]⟩
  obtain ⟨q0, q1, q2, q3, q4, q5, q6, q7, _⟩ := look_ok hlk
  have hfew := hs.few
  have hfine := getP_fine hs (id := id) ⟨q0, by omega⟩
  have HR := Lib.hid hr
  have HS := Lib.hid hs
  have HX := Lib.hid hx
  have HFINE := Lib.hid hfine
  have HLAST := Lib.hid hlast
  have HPOS := Lib.hid hpos
  have HSQ := Lib.hid q7
  clear hr hs hx hfine hlast hlk hpos q6 q7
  go_enter Try.func11, Try.ntmps11
  go_wp2_with fail
  refine (find_any P A c s id _ (HR.out.alloc _) (by omega)).mono ?_
  rintro e w1 ⟨r, rfl, hok, hb1⟩
  have HOK := Lib.hid hok
  have HBL1 := Lib.hid ((Blk.new w 36 #[.int .i64 kind, .int .i64 id, .int .i64 ep, .int .i64 sq, .string src, .int .i64 sch, .int .i64 tm, .slice ra rn rc]).below hb1 (by simp))
  have HBW := Lib.hid (((Below.refl w.heap.size w).alloc (Nat.le_refl _) _).trans (hb1.mono (by simp)))
  have hz : w.heap.size < w1.heap.size := HBL1.out.lt
  obtain ⟨k0, k1, k2, k3, k4, k5, k6, k7⟩ := HBL1.out.eight
  clear hok hb1
  go_wp2_with fail
  refine (look_any P A c s kind id ep sq src sch tm ra rn rc _ HS.out ((HR.out.below HBW.out).alloc _)).mono ?_
  rintro e w2 ⟨rfl, hb2⟩
  rw [HX.out]
  have hz2 : w1.heap.size < w2.heap.size := by have := hb2.size; simp at this; omega
  have HK2 := Lib.hid ((Blk.new w1 59 #[.int .i64 r.id, .int .i64 r.epoch, .int .i64 r.next, .slice r.la r.ln r.lc]).below hb2 (by simp))
  have HB12 := Lib.hid (((Below.refl w1.heap.size w1).alloc (Nat.le_refl _) _).trans (hb2.mono (by simp)))
  obtain ⟨m0, m1, m2, m3, mf⟩ := HK2.out.four
  have hnx : 0 ≤ r.next ∧ r.next < 1099511627776 := by
    have h1 := HOK.out.2.2.1
    have h2 := HSQ.out
    omega
  obtain ⟨hnx0, hnx1⟩ := hnx
  have hln : r.ln ≤ 20 := by
    have h1 := HOK.out.2.2.2.1
    have h2 := HFINE.out.len
    omega
  have HSL2 : Hid (SlT 1 eI w2 r.la r.ln r.lc (getP s id).last) := Lib.hid (HOK.out.2.2.2.2.1.below HB12.out)
  have hll : (getP s id).last.length = r.ln := HSL2.out.1
  have hpz : 0 ≤ pos ∧ pos ≤ 1099511627776 := HPOS.out
  clear hb2 k0 k1 k2 k3 k4 k5 k6 k7
  -- the walk from here, the last position known
  have hlastc : r.ln = 0 ∨ ∃ (m : Nat) (lb lo : Nat) (y : Int), r.ln = m + 1 ∧ r.la = some ⟨lb, lo, none⟩ ∧ lb < w2.heap.size ∧ w2.cell? ⟨lb, lo + m, none⟩ = some (.int .i64 y) ∧ y < pos := by
    rcases Nat.eq_zero_or_pos r.ln with h0 | h0
    · exact .inl h0
    · right
      obtain ⟨lb, lo, hla, hlb, hlc⟩ := HSL2.out.2.2 h0
      obtain ⟨y, hy⟩ : ∃ y, (getP s id).last[r.ln - 1]? = some y := ⟨_, List.getElem?_eq_getElem (by omega)⟩
      exact ⟨r.ln - 1, lb, lo, y, by omega, hla, hlb, cellsI hlc hlb (Below.refl _ _) hy, HLAST.out y (List.mem_of_getElem? hy)⟩
  have HLASTC := Lib.hid hlastc
  clear hlastc
  go_upto_region 3 with fail
  go_cut [48] from 12 (fun s48 wx => s48 = .bool false ∧ wx = w2)
  case first =>
    go_wp2_with fail
    refine (in_any _ _).mono ?_
    rintro e w' ⟨rfl, rfl⟩
    rw [inB_yes HPOS.out]
    obtain ⟨rid, rep, rnx, rla, rln, rlc⟩ := r
    have hlastc := HLASTC.out
    clear HLASTC HSL2 HOK
    simp only at hlastc hll hln hnx0 hnx1 m0 m1 m2 m3
    rcases hlastc with rfl | ⟨m, lb, lo, y, rfl, rfl, hlb, hcy, hyp⟩
    · go_wp2_with fail
      go_meet
      exact ⟨rfl, rfl⟩
    · have hmz : (m : Int) < ((m + 1 : Nat) : Int) := by omega
      have hyb : decide (pos ≤ y) = false := decide_eq_false (by omega)
      have hyn : ¬ pos ≤ y := by omega
      go_wp2_with fail
      go_meet
      exact ⟨rfl, rfl⟩
  case rest =>
    obtain ⟨rfl, hwc⟩ := hcut
    obtain rfl : w2 = wc := hwc.symm
    clear HLASTC
    go_wp2_with fail
    have HK3 : Hid (Blk (w2.setCell ⟨w1.heap.size, 2, none⟩ (.int .i64 (r.next + 1))) w1.heap.size 59 #[.int .i64 r.id, .int .i64 r.epoch, .int .i64 (r.next + 1), .slice r.la r.ln r.lc]) := Lib.hid (by simpa using HK2.out.set_ 2 (.int .i64 (r.next + 1)))
    have HB13 : Hid (Below w1.heap.size w1 (w2.setCell ⟨w1.heap.size, 2, none⟩ (.int .i64 (r.next + 1)))) := Lib.hid (HB12.out.setCell (p := ⟨w1.heap.size, 2, none⟩) (Nat.le_refl _) _)
    have hz3 : w1.heap.size + 1 ≤ (w2.setCell ⟨w1.heap.size, 2, none⟩ (.int .i64 (r.next + 1))).heap.size := by simp [World.setCell]; omega
    refine (cloneI_any r.la r.ln r.lc (getP s id).last _ (HOK.out.2.2.2.2.1.below HB13.out) (by omega)).mono ?_
    rintro e w4 ⟨v, rfl, hown, hb4⟩
    have HO4 : Hid (w4.ownsRow (w1.heap.size + 1) 3 1 v (getP s id).last.length ((getP s id).last.flatMap eI)) := Lib.hid (own_mono hown hz3)
    have HK4 := Lib.hid (HK3.out.below hb4 (by omega))
    have HB14 := Lib.hid (HB13.out.trans (hb4.mono (by omega)))
    have hz4 : w1.heap.size + 1 ≤ w4.heap.size := Nat.le_trans hz3 hb4.size
    clear hown hb4 m0 m1 m2 m3 mf hz3
    go_wp2_with (at_builtin; refine wpList_append_sl (k := 1) (enc := eI) _ rfl _ _ 26 rfl (w1.heap.size + 1) 3 _ 8 Try.underlying26 info_Int rfl (by decide) eI_len eI_one v (getP s id).last.length (getP s id).last rfl (HO4.out.alloc _) _ 1 1 [pos] rfl (SlT.one1 _ _ _ _ (by simp)) (by unfold maxLen; omega) (by omega) (by simp; omega) ?_)
    intro v' w5 hown5 hgrow hat
    obtain ⟨g, cap, rfl⟩ := own_succ hown5
    have HO5 : Hid (w5.ownsRow (w1.heap.size + 1) 3 1 (.slice (some ⟨g, 0, none⟩) (r.ln + 1) cap) (r.ln + 1) (((getP s id).last ++ [pos]).flatMap eI)) := Lib.hid (by simpa using hown5)
    have HK5 := Lib.hid ((HK4.out.alloc (.cells #[.int .i64 pos] 3)).grown hgrow (by
      intro e
      have := (HO4.out.lt w1.heap.size e.symm).1
      omega))
    have HB15 : Hid (Below w1.heap.size w1 w5) := Lib.hid ((HB14.out.alloc HB14.out.size _).grown hgrow (by have := HB14.out.size; simp; omega) (by
      intro k hk
      have := (HO4.out.lt k hk).1
      omega))
    obtain ⟨m0, m1, m2, m3, mf⟩ := HK5.out.four
    have hgl := (HO5.out.lt g rfl).1
    have hz5 : w1.heap.size < w5.heap.size := HK5.out.lt
    have hncap : r.ln + 1 ≤ cap := by
      rcases HO5.out.2 with ⟨h, _⟩ | ⟨g', cap', cur, h, _, _, hc, _⟩
      · cases h
      · injection h with _ _ h3
        omega
    have HLL := Lib.hid hll
    clear hown5 hgrow hat hll
    have hncz : (r.ln : Int) + 1 ≤ (cap : Int) := by omega
    go_wp2_with fail
    obtain ⟨k, hk⟩ : ∃ k, k = r.ln + 1 - 20 := ⟨_, rfl⟩
    rw [show (max ((r.ln : Int) + 1 - 20) 0).toNat = k by omega]
    have HSL6 : Hid (SlP (fun b => w1.heap.size + 1 ≤ b) 1 eI w5 (some ⟨g, k, none⟩) (r.ln + 1 - k) (cap - k) (cutL ((getP s id).last ++ [pos]))) := Lib.hid (by
      have h1 : SlP (fun b => w1.heap.size + 1 ≤ b) 1 eI w5 (some ⟨g, 0, none⟩) (r.ln + 1) cap ((getP s id).last ++ [pos]) := SlP.of_own eI_len HO5.out (by rw [List.length_append, HLL.out]; rfl) (fun b h1 h2 => h1)
      have h2 := h1.drop (m := k) (by omega)
      rw [Nat.zero_add, Nat.mul_one] at h2
      have h3 : cutL ((getP s id).last ++ [pos]) = ((getP s id).last ++ [pos]).drop k := by
        unfold cutL
        rw [List.length_append, HLL.out, hk]
        rfl
      rw [h3]
      exact h2)
    have HB6 : Hid (Below w1.heap.size w1 ((w5.setCell ⟨w1.heap.size, 3, none⟩ (.slice (some ⟨g, 0, none⟩) (r.ln + 1) cap)).setCell ⟨w1.heap.size, 3, none⟩ (.slice (some ⟨g, k, none⟩) (r.ln + 1 - k) (cap - k)))) :=
      Lib.hid ((HB15.out.setCell (p := ⟨w1.heap.size, 3, none⟩) (Nat.le_refl _) _).setCell (p := ⟨w1.heap.size, 3, none⟩) (Nat.le_refl _) _)
    have HKEEP : Hid (∀ b, w1.heap.size + 1 ≤ b → ((w5.setCell ⟨w1.heap.size, 3, none⟩ (.slice (some ⟨g, 0, none⟩) (r.ln + 1) cap)).setCell ⟨w1.heap.size, 3, none⟩ (.slice (some ⟨g, k, none⟩) (r.ln + 1 - k) (cap - k))).heap[b]? = w5.heap[b]?) := Lib.hid fun b hb => by
      rw [Below.heap_setCell _ ⟨w1.heap.size, 3, none⟩ _ b (by show b ≠ w1.heap.size; omega), Below.heap_setCell _ ⟨w1.heap.size, 3, none⟩ _ b (by show b ≠ w1.heap.size; omega)]
    have hs6 : w5.heap.size ≤ ((w5.setCell ⟨w1.heap.size, 3, none⟩ (.slice (some ⟨g, 0, none⟩) (r.ln + 1) cap)).setCell ⟨w1.heap.size, 3, none⟩ (.slice (some ⟨g, k, none⟩) (r.ln + 1 - k) (cap - k))).heap.size := by simp [World.setCell]
    have HRAW : Hid (RawOk (fun b => w.heap.size ≤ b) ((w5.setCell ⟨w1.heap.size, 3, none⟩ (.slice (some ⟨g, 0, none⟩) (r.ln + 1) cap)).setCell ⟨w1.heap.size, 3, none⟩ (.slice (some ⟨g, k, none⟩) (r.ln + 1 - k) (cap - k))) ⟨r.id, r.epoch, r.next + 1, some ⟨g, k, none⟩, r.ln + 1 - k, cap - k⟩ { getP s id with next := (getP s id).next + 1, last := cutL ((getP s id).last ++ [pos]) }) := Lib.hid
      ⟨HOK.out.1, HOK.out.2.1, by show r.next + 1 = (getP s id).next + 1; rw [HOK.out.2.2.1], by show r.ln + 1 - k = (cutL ((getP s id).last ++ [pos])).length; rw [cutL_len, List.length_append, HLL.out]; simp; omega,
        (HSL6.out.keep hs6 fun b _ hb => HKEEP.out b hb).mono fun b _ hb => by omega⟩
    have hz6 : w.heap.size ≤ ((w5.setCell ⟨w1.heap.size, 3, none⟩ (.slice (some ⟨g, 0, none⟩) (r.ln + 1) cap)).setCell ⟨w1.heap.size, 3, none⟩ (.slice (some ⟨g, k, none⟩) (r.ln + 1 - k) (cap - k))).heap.size := by omega
    refine (with_any P (fun b => w.heap.size ≤ b) A c s { getP s id with next := (getP s id).next + 1, last := cutL ((getP s id).last ++ [pos]) } ⟨r.id, r.epoch, r.next + 1, some ⟨g, k, none⟩, r.ln + 1 - k, cap - k⟩ _ HS.out (HR.out.below (HBW.out.trans (HB6.out.mono (Nat.le_of_lt hz)))) HRAW.out HFINE.out.id (fun b hb => Nat.le_trans hz6 hb)).mono ?_
    rintro e w7 ⟨A7, c7, rfl, ht7, hb7⟩
    have HT7 := Lib.hid ht7
    have HB7 : Hid (Below w.heap.size w w7) := Lib.hid ((HBW.out.trans (HB6.out.mono (Nat.le_of_lt hz))).trans (hb7.mono hz6))
    clear ht7 hb7
    go_wp2
    go_ret
    exact ⟨A7, c7, rfl, HT7.out, HB7.out⟩
end Go.Proofs.Ytghciaaedjomjaa
