/- producer: with. -/
import Derived.Test.YtghciaaedjomjaaProdE
namespace Go.Proofs.Ytghciaaedjomjaa
open Go.RowKit

/-- A table handed back. -/
def TabPost (Q : Nat → Prop) (w : World) (s : List Prd) (e : Ending) (w' : World) : Prop := ∃ A c, e = .returned (.slice A s.length c) ∧ TabP Q w' A c s ∧ Below w.heap.size w w'

set_option maxHeartbeats 400000 in
set_option maxRecDepth 100000 in
theorem with_any (P Q : Nat → Prop) (A : Option Addr) (c : Nat) (s : List Prd) (p : Prd) (r : PRaw) (w : World) (hs : RightP s) (hr : TabP P w A c s) (hp : RawOk Q w r p) (hid : inN p.id) (hQ : ∀ b, w.heap.size ≤ b → Q b) :
    Calls Try.prog 29 #[.slice A s.length c, .agg #[.int .i64 r.id, .int .i64 r.epoch, .int .i64 r.next, .slice r.la r.ln r.lc]] w (TabPost Q w (withP s p)) := by
  have hfew := hs.few
  have HRID := Lib.hid hp.1
  have HR := Lib.hid hr
  have HP := Lib.hid hp
  have HS := Lib.hid hs
  have HID := Lib.hid hid
  clear hr hp hs hid
  go_enter Try.func29, Try.ntmps29
  go_wp2_with fail
  refine (pclone_any P A c s _ (HR.out.alloc _) (by omega) (fun p hp => by have := raws_len HS.out p hp; omega)).mono ?_
  rintro e w1 ⟨g, raw, rfl, hown, hraws, hg, hb1⟩
  have hga : w.heap.size + 1 ≤ g := by rw [hg]; simp
  have hgb : g ≤ w.heap.size + 1 := by rw [hg]; simp
  have hgw : g < w1.heap.size := (hown.lt g rfl).2
  have HOWN := Lib.hid hown
  have HRAWS := Lib.hid hraws
  have HB1 := Lib.hid hb1
  have hraw := hraws.1
  have hw0 : w.heap.size < w1.heap.size := by omega
  obtain ⟨hc1, hf1⟩ := bcell hb1
  have HSL : Hid (SlT 4 encP w1 (some ⟨g, 0, none⟩) s.length s.length raw) := Lib.hid (SlT.of_own encP_len hown hraw)
  have k0 : w1.cell? ⟨w.heap.size, 0, none⟩ = some (.int .i64 r.id) := by rw [hc1 _ _ (by simp)]; simp
  have k1 : w1.cell? ⟨w.heap.size, 1, none⟩ = some (.int .i64 r.epoch) := by rw [hc1 _ _ (by simp)]; simp
  have k2 : w1.cell? ⟨w.heap.size, 2, none⟩ = some (.int .i64 r.next) := by rw [hc1 _ _ (by simp)]; simp
  have k3 : w1.cell? ⟨w.heap.size, 3, none⟩ = some (.slice r.la r.ln r.lc) := by rw [hc1 _ _ (by simp)]; simp
  have HB1w : Hid (Below w.heap.size w w1) := Lib.hid (((Below.refl _ w).alloc (Nat.le_refl _) _).trans (hb1.mono (by simp)))
  clear hown hraws hb1 hc1 hf1 hg
  go_wp2_with fail
  refine (bsearch_any _ _ _ raw r.id _ HSL.out (by omega) (raws_asc HRAWS.out HS.out.asc) (raws_ids HRAWS.out HS.out.fine) (by rw [HRID.out]; exact HID.out)).mono ?_
  rintro e w2 ⟨i, rfl, hpl, hb2⟩
  have HPL : Hid (PlaceOf raw p.id i) := Lib.hid (by rw [← HRID.out]; exact hpl)
  have hip := hpl.1
  obtain ⟨hc2, hf2⟩ := bcell hb2
  have HB2w : Hid (Below w.heap.size w w2) := Lib.hid (HB1w.out.trans (hb2.mono HB1w.out.size))
  have HOWN2 := Lib.hid (own_below HOWN.out hb2)
  have HRAWS2 : Hid (Raws (fun b => Q b ∧ b ≠ g) w2 raw s) := Lib.hid ((HRAWS.out.below hb2).mono fun b _ h1 => ⟨hQ b (by simp at h1; omega), by simp at h1; omega⟩)
  have hg2 : g < w2.heap.size := Nat.lt_of_lt_of_le hgw hb2.size
  have HP2 : Hid (RawOk (fun b => Q b ∧ b ≠ g) w2 r p) := Lib.hid ((HP.out.mono (Q := fun b => Q b ∧ b ≠ g) fun b hb h1 => ⟨h1, by omega⟩).below HB2w.out)
  have hwr := with_raws HS.out HRAWS2.out HP2.out HPL.out
  have m0 : w2.cell? ⟨w.heap.size, 0, none⟩ = some (.int .i64 r.id) := by rw [hc2 _ _ hw0]; exact k0
  have m1 : w2.cell? ⟨w.heap.size, 1, none⟩ = some (.int .i64 r.epoch) := by rw [hc2 _ _ hw0]; exact k1
  have m2 : w2.cell? ⟨w.heap.size, 2, none⟩ = some (.int .i64 r.next) := by rw [hc2 _ _ hw0]; exact k2
  have m3 : w2.cell? ⟨w.heap.size, 3, none⟩ = some (.slice r.la r.ln r.lc) := by rw [hc2 _ _ hw0]; exact k3
  rw [← HRID.out] at hwr
  cases hat : atB raw r.id i with
  | true =>
    obtain ⟨hi, hwl, hwraws⟩ := hwr.1 hat
    have HW := Lib.hid hwraws
    have HWL := Lib.hid hwl
    have hiz : (i : Int) < (s.length : Int) := by omega
    have hl0 := hraw
    clear hwr hwraws hwl hc2 hf2 k0 k1 k2 k3 hpl hb2 hat
    go_wp2_with (refine wpList_store_elem encP_len (by decide) encP_one HOWN2.out rfl 59 _ _ rfl (by kernel_rfl) i (by omega) r rfl rfl ?_)
    intro w3 hown3 hg3
    have HO3 := Lib.hid hown3
    have HG3 := Lib.hid hg3
    clear hown3 hg3
    go_wp2
    go_ret
    refine ⟨some ⟨g, 0, none⟩, s.length, by rw [HWL.out]; rfl, ?_, HB2w.out.grown HG3.out HB2w.out.size (by intro k hk; injection hk with hk; omega)⟩
    have h1 : SlP Q 4 encP w3 (some ⟨g, 0, none⟩) s.length s.length (raw.set i r) := SlP.of_own encP_len HO3.out (by simp [hl0]) (fun b hb _ => hQ b (Nat.le_trans (by simp) hb))
    refine ⟨raw.set i r, by rw [HWL.out]; exact h1, ((HW.out.keep HG3.out.size fun b hb hq => HG3.out.block b hb (by intro e; injection e with e; exact hq.2 e)).mono fun b _ h => h.1)⟩
  | false =>
    obtain ⟨hwl, hwraws⟩ := hwr.2 hat
    have HW := Lib.hid hwraws
    have HWL := Lib.hid hwl
    have hl0 := hraw
    have hgw2 := hg2
    clear hwr hwraws hwl hc2 hf2 k0 k1 k2 k3 hpl hb2 hat
    have hbase : w.heap.size + 1 ≤ w2.heap.size := by omega
    go_wp2_with fail
    have hins : Calls Try.prog 45 #[.slice (some ⟨g, 0, none⟩) s.length s.length, .int .i64 i, .slice (some ⟨w2.heap.size, 0, none⟩) 1 1] (w2.alloc (.cells #[.int .i64 r.id, .int .i64 r.epoch, .int .i64 r.next, .slice r.la r.ln r.lc] 59)) (InsPost (w.heap.size + 1) (w2.alloc (.cells #[.int .i64 r.id, .int .i64 r.epoch, .int .i64 r.next, .slice r.la r.ln r.lc] 59)) g s.length i raw r) := by
      have h1 : (w2.alloc (.cells #[.int .i64 r.id, .int .i64 r.epoch, .int .i64 r.next, .slice r.la r.ln r.lc] 59)).ownsRow (w.heap.size + 1) 59 4 (.slice (some ⟨g, 0, none⟩) s.length s.length) s.length (raw.flatMap encP) := by
        have := HOWN2.out.alloc (.cells #[.int .i64 r.id, .int .i64 r.epoch, .int .i64 r.next, .slice r.la r.ln r.lc] 59)
        exact own_mono this (by simp)
      have h2 : SlT 4 encP (w2.alloc (.cells #[.int .i64 r.id, .int .i64 r.epoch, .int .i64 r.next, .slice r.la r.ln r.lc] 59)) (some ⟨w2.heap.size, 0, none⟩) 1 1 [r] := SlT.one encP_len w2 r _ rfl _
      by_cases hend : i = s.length
      · subst hend
        exact insert_end g s.length raw r w2.heap.size _ (w.heap.size + 1) h1 (by simp; omega) (by omega) h2
      · exact insert_mid g s.length i raw r w2.heap.size _ (w.heap.size + 1) (by omega) h1 (by simp; omega) (by omega) h2
    refine hins.mono ?_
    rintro e w3 ⟨g3, c3, rfl, hown3, hg3⟩
    have HO3 := Lib.hid hown3
    have HG3 := Lib.hid hg3
    clear hown3 hg3 hins
    go_wp2
    go_ret
    refine ⟨some ⟨g3, 0, none⟩, c3, by rw [HWL.out]; rfl, ?_, (HB2w.out.alloc HB2w.out.size _).grown HG3.out (by have := HB2w.out.size; simp; omega) (by intro k hk; injection hk with hk; omega)⟩
    have h1 : SlP Q 4 encP w3 (some ⟨g3, 0, none⟩) (s.length + 1) c3 (raw.take i ++ r :: raw.drop i) := SlP.of_own encP_len HO3.out (by simp; omega) (fun b hb _ => hQ b (by omega))
    have h2 : Raws (fun b => Q b ∧ b ≠ g) (w2.alloc (.cells #[.int .i64 r.id, .int .i64 r.epoch, .int .i64 r.next, .slice r.la r.ln r.lc] 59)) (raw.take i ++ r :: raw.drop i) (withP s p) := HW.out.keep (by simp) fun b hb _ => Below.heap_alloc w2 _ b hb
    refine ⟨raw.take i ++ r :: raw.drop i, by rw [HWL.out]; exact h1, ((h2.keep HG3.out.size fun b hb hq => HG3.out.block b hb (by intro e; injection e with e; exact hq.2 e)).mono fun b _ h => h.1)⟩
end Go.Proofs.Ytghciaaedjomjaa
