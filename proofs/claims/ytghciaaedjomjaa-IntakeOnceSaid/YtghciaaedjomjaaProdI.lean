/- producer: Put where nothing is stored; Fence. -/
import Derived.Test.YtghciaaedjomjaaProdH
namespace Go.Proofs.Ytghciaaedjomjaa
open Go.RowKit

theorem asc_last {l : List Int} (h : l.Pairwise (· < ·)) {m : Nat} (hm : l.length = m + 1) {y pos : Int} (hy : l[m]? = some y) (hyp : y < pos) : ∀ x ∈ l, x < pos := by
  intro x hx
  obtain ⟨j, hj, rfl⟩ := List.mem_iff_getElem.1 hx
  obtain ⟨hm2, e⟩ := List.getElem?_eq_some_iff.1 hy
  rcases Nat.lt_or_ge j m with h1 | h1
  · have := List.pairwise_iff_getElem.1 h j m hj hm2 h1
    omega
  · have : j = m := by omega
    subst this
    omega
theorem tab_of_clone {w w' : World} {s : List Prd} {g : Nat} {raw : List PRaw} {Q : Nat → Prop} (hown : w'.ownsRow w.heap.size 59 4 (.slice (some ⟨g, 0, none⟩) s.length s.length) s.length (raw.flatMap encP)) (hr : Raws (fun b => w.heap.size < b) w' raw s) (hQ : ∀ b, w.heap.size ≤ b → Q b) : TabP Q w' (some ⟨g, 0, none⟩) s.length s :=
  ⟨raw, SlP.of_own encP_len hown hr.1 (fun b hb _ => hQ b hb), hr.mono fun b _ hb => hQ b (Nat.le_of_lt hb)⟩

set_option maxHeartbeats 2000000 in
set_option maxRecDepth 100000 in
theorem put_no (P : Nat → Prop) (A : Option Addr) (c : Nat) (s : List Prd) (kind id ep sq : Int) (src : ByteArray) (sch tm : Int) (ra : Option Addr) (rn rc : Nat) (pos : Int) (w : World) (hs : RightP s) (hr : TabP P w A c s) (hput : ¬ putOk s id ep sq pos) :
    Calls Try.prog 11 #[.slice A s.length c, .agg #[.int .i64 kind, .int .i64 id, .int .i64 ep, .int .i64 sq, .string src, .int .i64 sch, .int .i64 tm, .slice ra rn rc], .int .i64 pos] w (TabPost (fun b => w.heap.size ≤ b) w s) := by
  have hfew := hs.few
  have HR := Lib.hid hr
  have HS := Lib.hid hs
  have HNO := Lib.hid hput
  obtain ⟨x, E, hx⟩ : ∃ x E, lookF s id ep sq = (x, E) := ⟨_, _, rfl⟩
  have HX := Lib.hid hx
  clear hr hs hput hx
  go_enter Try.func11, Try.ntmps11
  go_wp2_with fail
  refine (find_any P A c s id _ (HR.out.alloc _) (by omega)).mono ?_
  rintro e w1 ⟨r, rfl, hok, hb1⟩
  have HOK := Lib.hid hok
  have HBL1 := Lib.hid ((Blk.new w 36 #[.int .i64 kind, .int .i64 id, .int .i64 ep, .int .i64 sq, .string src, .int .i64 sch, .int .i64 tm, .slice ra rn rc]).below hb1 (by simp))
  have HBW := Lib.hid (((Below.refl w.heap.size w).alloc (Nat.le_refl _) _).trans (hb1.mono (by simp)))
  have hz : w.heap.size < w1.heap.size := HBL1.out.lt
  obtain ⟨k0, k1, k2, k3, k4, k5, k6, k7⟩ := HBL1.out.eight
  clear hok hb1
  go_wp2_with fail
  refine (look_any P A c s kind id ep sq src sch tm ra rn rc _ HS.out ((HR.out.below HBW.out).alloc _)).mono ?_
  rintro e w2 ⟨rfl, hb2⟩
  rw [HX.out]
  have hz2 : w1.heap.size < w2.heap.size := by have := hb2.size; simp at this; omega
  have HK2 := Lib.hid ((Blk.new w1 59 #[.int .i64 r.id, .int .i64 r.epoch, .int .i64 r.next, .slice r.la r.ln r.lc]).below hb2 (by simp))
  have HB12 := Lib.hid (((Below.refl w1.heap.size w1).alloc (Nat.le_refl _) _).trans (hb2.mono (by simp)))
  have HBW2 : Hid (Below w.heap.size w w2) := Lib.hid (HBW.out.trans (HB12.out.mono (Nat.le_of_lt hz)))
  obtain ⟨m0, m1, m2, m3, mf⟩ := HK2.out.four
  have HSL2 : Hid (SlT 1 eI w2 r.la r.ln r.lc (getP s id).last) := Lib.hid (HOK.out.2.2.2.2.1.below HB12.out)
  clear hb2 k0 k1 k2 k3 k4 k5 k6 k7
  have hcase : E ≠ 0 ∨ (E = 0 ∧ inB pos = false) ∨ (E = 0 ∧ inB pos = true ∧ ∃ (m : Nat) (lb lo : Nat) (y : Int), m ≤ 20 ∧ r.ln = m + 1 ∧ r.la = some ⟨lb, lo, none⟩ ∧ lb < w2.heap.size ∧ w2.cell? ⟨lb, lo + m, none⟩ = some (.int .i64 y) ∧ pos ≤ y) := by
    by_cases h0 : E = 0
    · right
      by_cases h1 : inN pos
      · right
        refine ⟨h0, inB_yes h1, ?_⟩
        have hlk : (lookF s id ep sq).2 = 0 := by rw [HX.out]; exact h0
        obtain ⟨q0, q1, _⟩ := look_ok hlk
        have hfine := getP_fine HS.out (id := id) ⟨q0, by omega⟩
        have hne : ¬ ∀ x ∈ (getP s id).last, x < pos := fun h => HNO.out ⟨hlk, h1, h⟩
        have hll : (getP s id).last.length = r.ln := HSL2.out.1
        rcases Nat.eq_zero_or_pos r.ln with h2 | h2
        · exfalso
          have hnil : (getP s id).last = [] := List.eq_nil_of_length_eq_zero (by omega)
          refine hne fun x hx => ?_
          rw [hnil] at hx
          cases hx
        · obtain ⟨lb, lo, hla, hlb, hlc⟩ := HSL2.out.2.2 h2
          obtain ⟨y, hy⟩ : ∃ y, (getP s id).last[r.ln - 1]? = some y := ⟨_, List.getElem?_eq_getElem (by omega)⟩
          refine ⟨r.ln - 1, lb, lo, y, by have := hfine.len; omega, by omega, hla, hlb, cellsI hlc hlb (Below.refl _ _) hy, ?_⟩
          rcases Int.lt_or_le y pos with h3 | h3
          · exact absurd (asc_last hfine.asc (m := r.ln - 1) (by omega) hy h3) hne
          · exact h3
      · exact .inl ⟨h0, inB_no h1⟩
    · exact .inl h0
  have HCASE := Lib.hid hcase
  clear hcase
  have hinr : ∀ e : Int, e ≠ 0 → (e == 0) = false := fun e h => by simpa using h
  go_upto_region 3 with fail
  go_cut [48] from 12 (fun s48 wx => s48 = .bool true ∧ wx = w2)
  case first =>
    obtain ⟨rid, rep, rnx, rla, rln, rlc⟩ := r
    have hcase := HCASE.out
    clear HCASE HSL2 HOK HK2
    simp only at hcase m0 m1 m2 m3
    rcases hcase with h | ⟨rfl, h⟩ | ⟨rfl, h, m, lb, lo, y, hm20, rfl, rfl, hlb, hcy, hyp⟩
    · have hb0 := hinr E h
      go_wp2_with fail
      go_meet
      exact ⟨rfl, rfl⟩
    · go_wp2_with fail
      refine (in_any _ _).mono ?_
      rintro e w' ⟨rfl, rfl⟩
      rw [h]
      go_wp2_with fail
      go_meet
      exact ⟨rfl, rfl⟩
    · have hyb : decide (pos ≤ y) = true := decide_eq_true hyp
      have hmz : (m : Int) < ((m + 1 : Nat) : Int) := by omega
      have hmb : (m : Int) ≤ 20 := by omega
      go_wp2_with fail
      refine (in_any _ _).mono ?_
      rintro e w' ⟨rfl, rfl⟩
      rw [h]
      go_wp2_with fail
      go_meet
      exact ⟨rfl, rfl⟩
  case rest =>
    obtain ⟨rfl, hwc⟩ := hcut
    obtain rfl : w2 = wc := hwc.symm
    clear HCASE hinr
    go_wp2_with fail
    refine (pclone_any P A c s _ (HR.out.below HBW2.out) (by omega) (fun p hp => by have := raws_len HS.out p hp; omega)).mono ?_
    rintro e w3 ⟨g, raw, rfl, hown, hraws, hg, hb3⟩
    have HT : Hid (TabP (fun b => w.heap.size ≤ b) w3 (some ⟨g, 0, none⟩) s.length s) := Lib.hid (tab_of_clone hown hraws fun b hb => Nat.le_trans HBW2.out.size hb)
    have HB3 : Hid (Below w.heap.size w w3) := Lib.hid (HBW2.out.trans (hb3.mono HBW2.out.size))
    clear hown hraws hg hb3
    go_wp2
    go_ret
    exact ⟨some ⟨g, 0, none⟩, s.length, rfl, HT.out, HB3.out⟩
end Go.Proofs.Ytghciaaedjomjaa
