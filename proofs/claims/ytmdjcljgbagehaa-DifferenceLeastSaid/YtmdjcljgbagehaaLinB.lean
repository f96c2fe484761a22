/- difference: follows, Net. -/
import Derived.Test.YtmdjcljgbagehaaLinA
namespace Go.Proofs.Ytmdjcljgbagehaa
open Go.RowKit

theorem notFlw {a b : Ln} {w w' : World} (h : ¬ Flw a b) (hb : Below w.heap.size w w') : IffPost w (Flw a b) (.returned (.bool false)) w' := ⟨false, rfl, ⟨fun h => (by cases h), fun q => absurd q h⟩, hb⟩
theorem isFlw {a b : Ln} {w w' : World} (h : Flw a b) (hb : Below w.heap.size w w') : IffPost w (Flw a b) (.returned (.bool true)) w' := ⟨true, rfl, ⟨fun _ => h, fun _ => rfl⟩, hb⟩
set_option maxHeartbeats 8000000 in
set_option maxRecDepth 100000 in
theorem follows_any (a b : Ln) (w : World) (ha : SlT 3 encV w a.ra a.rn a.rc a.vs) (hb : SlT 3 encV w b.ra b.rn b.rc b.vs) (han : a.rn ≤ 1000000) :
    Calls Try.prog 17 #[.agg #[.int .i64 a.no, .int .i64 a.batch, .int .i64 a.time, .slice a.ra a.rn a.rc, .int .i64 a.n, .int .i64 a.cause, .int .i64 a.why], .agg #[.int .i64 b.no, .int .i64 b.batch, .int .i64 b.time, .slice b.ra b.rn b.rc, .int .i64 b.n, .int .i64 b.cause, .int .i64 b.why]] w (IffPost w (Flw a b)) := by
  have HA := Lib.hid ha
  have HB := Lib.hid hb
  clear ha hb
  obtain ⟨ca, hca⟩ : ∃ ca : Array Value, ca = #[.int .i64 a.no, .int .i64 a.batch, .int .i64 a.time, .slice a.ra a.rn a.rc, .int .i64 a.n, .int .i64 a.cause, .int .i64 a.why] := ⟨_, rfl⟩
  obtain ⟨cb, hcb⟩ : ∃ cb : Array Value, cb = #[.int .i64 b.no, .int .i64 b.batch, .int .i64 b.time, .slice b.ra b.rn b.rc, .int .i64 b.n, .int .i64 b.cause, .int .i64 b.why] := ⟨_, rfl⟩
  have HBA : Hid (Below w.heap.size w ((w.alloc (.cells ca 32)).alloc (.cells cb 32))) := Lib.hid (((Below.refl _ w).alloc (Nat.le_refl _) _).alloc (by simp) _)
  have HB1 : Hid (Blk ((w.alloc (.cells ca 32)).alloc (.cells cb 32)) w.heap.size 32 ca) := Lib.hid ((Blk.new w _ _).alloc _)
  have HB2 : Hid (Blk ((w.alloc (.cells ca 32)).alloc (.cells cb 32)) (w.heap.size + 1) 32 cb) := Lib.hid (Blk.new' _ _ _ _ (by simp))
  subst hca hcb
  obtain ⟨N, hN⟩ : ∃ N, w64 (a.no + 1) = N := ⟨_, rfl⟩
  have hNw : IntKind.i64.wrap (a.no + 1) = N := hN
  have HN := Lib.hid hN
  clear hN
  go_enter Try.func17, Try.ntmps17
  go_upto_region 1 with fail
  generalize ((w.alloc (.cells #[.int .i64 a.no, .int .i64 a.batch, .int .i64 a.time, .slice a.ra a.rn a.rc, .int .i64 a.n, .int .i64 a.cause, .int .i64 a.why] 32)).alloc (.cells #[.int .i64 b.no, .int .i64 b.batch, .int .i64 b.time, .slice b.ra b.rn b.rc, .int .i64 b.n, .int .i64 b.cause, .int .i64 b.why] 32)) = wa at HBA HB1 HB2 ⊢
  obtain ⟨⟨x0, x1, x2, x3, x4, x5, x6⟩, _⟩ := HB1.out.seven'
  obtain ⟨⟨y0, y1, y2, y3, y4, y5, y6⟩, _⟩ := HB2.out.seven'
  by_cases h1 : b.no = N
  case neg =>
    have hb1 : (b.no != N) = true := by simpa using h1
    have HF := Lib.hid (notFlw (w := w) (w' := wa) (a := a) (b := b) (fun h => h1 (by rw [h.1, HN.out])) HBA.out)
    clear h1
    go_wp2
    go_ret
    exact HF.out
  case pos =>
  have H1 := Lib.hid h1
  have hb1 : (b.no != N) = false := by simpa using h1
  clear h1
  by_cases h2 : b.batch = a.batch
  case neg =>
    have hb2 : (b.batch != a.batch) = true := by simpa using h2
    have HF := Lib.hid (notFlw (w := w) (w' := wa) (a := a) (b := b) (fun h => h2 h.2.1) HBA.out)
    clear h2
    go_wp2
    go_ret
    exact HF.out
  case pos =>
  have H2 := Lib.hid h2
  have hb2 : (b.batch != a.batch) = false := by simpa using h2
  clear h2
  by_cases h3 : b.why = a.why
  case neg =>
    have hb3 : (b.why != a.why) = true := by simpa using h3
    have HF := Lib.hid (notFlw (w := w) (w' := wa) (a := a) (b := b) (fun h => h3 h.2.2.1) HBA.out)
    clear h3
    go_wp2
    go_ret
    exact HF.out
  case pos =>
  have H3 := Lib.hid h3
  have hb3 : (b.why != a.why) = false := by simpa using h3
  clear h3
  by_cases h4 : b.time < a.time
  case pos =>
    have hb4 : decide (b.time < a.time) = true := decide_eq_true h4
    have HF := Lib.hid (notFlw (w := w) (w' := wa) (a := a) (b := b) (fun h => by have := h.2.2.2.1; omega) HBA.out)
    go_wp2
    go_ret
    exact HF.out
  case neg =>
  have H4 := Lib.hid h4
  have hb4 : decide (b.time < a.time) = false := decide_eq_false h4
  have HEND : ∀ wz, Below w.heap.size w wz → (wz = wz) → True := fun _ _ _ => trivial
  clear HEND
  by_cases h5 : b.time = a.time
  · have H5 := Lib.hid h5
    have hb5 : (b.time == a.time) = true := by simpa using h5
    clear h5
    obtain ⟨Z, hZ⟩ : ∃ Z, cmpRow a.vs b.vs = Z := ⟨_, rfl⟩
    have HZ := Lib.hid hZ
    clear hZ
    by_cases h6 : 0 ≤ Z
    · have hb6 : decide (0 ≤ Z) = true := decide_eq_true h6
      have HNF : Hid (¬ Flw a b) := Lib.hid (fun h => h.2.2.2.2.1 ⟨H5.out, by rw [HZ.out]; exact h6⟩)
      go_wp2_with fail
      refine (cmpRows_any a.ra a.rn a.rc a.vs b.ra b.rn b.rc b.vs _ (HA.out.below HBA.out) (HB.out.below HBA.out) han).mono ?_
      rintro e w3 ⟨rfl, hb3'⟩
      rw [HZ.out]
      have HF := Lib.hid (notFlw (w := w) (w' := w3) HNF.out (HBA.out.trans (hb3'.mono HBA.out.size)))
      clear hb3'
      go_wp2
      go_ret
      exact HF.out
    · have hb6 : decide (0 ≤ Z) = false := decide_eq_false h6
      have H6 := Lib.hid h6
      go_wp2_with fail
      refine (cmpRows_any a.ra a.rn a.rc a.vs b.ra b.rn b.rc b.vs _ (HA.out.below HBA.out) (HB.out.below HBA.out) han).mono ?_
      rintro e w3 ⟨rfl, hb3'⟩
      rw [HZ.out]
      have HB3 := Lib.hid (HBA.out.trans (hb3'.mono HBA.out.size))
      obtain ⟨⟨x0, x1, x2, x3, x4, x5, x6⟩, _⟩ := (HB1.out.below hb3' HB1.out.lt).seven'
      obtain ⟨⟨y0, y1, y2, y3, y4, y5, y6⟩, _⟩ := (HB2.out.below hb3' HB2.out.lt).seven'
      clear hb3'
      have HFI : Hid ((a.cause = b.cause ∨ (a.cause = 1 ∧ b.cause = 0 ∧ a.time < b.time)) → Flw a b) := Lib.hid (fun h => ⟨by rw [H1.out, HN.out], H2.out, H3.out, by have := H4.out; omega, fun q => (by have h1 := q.2; rw [HZ.out] at h1; have h2 := H6.out; omega), h⟩)
      by_cases h7 : a.cause = b.cause
      case pos =>
        have hb7 : (a.cause == b.cause) = true := by simpa using h7
        have HF := Lib.hid (isFlw (w := w) (HFI.out (.inl h7)) HB3.out)
        clear h7
        go_wp2
        go_ret
        exact HF.out
      case neg =>
      have H7 := Lib.hid h7
      have hb7 : (a.cause == b.cause) = false := by simpa using h7
      clear h7
      by_cases h8 : a.cause = 1
      case neg =>
        have hb8 : (a.cause == 1) = false := by simpa using h8
        have HF := Lib.hid (notFlw (w := w) (a := a) (b := b) (fun h => h.2.2.2.2.2.elim H7.out (fun q => h8 q.1)) HB3.out)
        clear h8
        go_wp2
        go_ret
        exact HF.out
      case pos =>
      have H8 := Lib.hid h8
      have hb8 : (a.cause == 1) = true := by simpa using h8
      clear h8
      by_cases h9 : b.cause = 0
      case neg =>
        have hb9 : (b.cause == 0) = false := by simpa using h9
        have HF := Lib.hid (notFlw (w := w) (a := a) (b := b) (fun h => h.2.2.2.2.2.elim H7.out (fun q => h9 q.2.1)) HB3.out)
        clear h9
        go_wp2
        go_ret
        exact HF.out
      case pos =>
      have H9 := Lib.hid h9
      have hb9 : (b.cause == 0) = true := by simpa using h9
      clear h9
      by_cases h10 : a.time < b.time
      case neg =>
        have hb10 : decide (a.time < b.time) = false := decide_eq_false h10
        have HF := Lib.hid (notFlw (w := w) (a := a) (b := b) (fun h => h.2.2.2.2.2.elim H7.out (fun q => h10 q.2.2)) HB3.out)
        go_wp2
        go_ret
        exact HF.out
      case pos =>
        have hb10 : decide (a.time < b.time) = true := decide_eq_true h10
        have HF := Lib.hid (isFlw (w := w) (HFI.out (.inr ⟨H8.out, H9.out, h10⟩)) HB3.out)
        go_wp2
        go_ret
        exact HF.out
  · have H5 := Lib.hid h5
    have hb5 : (b.time == a.time) = false := by simpa using h5
    clear h5
    have HB3 := HBA
    have HFI : Hid ((a.cause = b.cause ∨ (a.cause = 1 ∧ b.cause = 0 ∧ a.time < b.time)) → Flw a b) := Lib.hid (fun h => ⟨by rw [H1.out, HN.out], H2.out, H3.out, by have := H4.out; omega, fun q => H5.out q.1, h⟩)
    by_cases h7 : a.cause = b.cause
    case pos =>
      have hb7 : (a.cause == b.cause) = true := by simpa using h7
      have HF := Lib.hid (isFlw (w := w) (HFI.out (.inl h7)) HB3.out)
      clear h7
      go_wp2
      go_ret
      exact HF.out
    case neg =>
    have H7 := Lib.hid h7
    have hb7 : (a.cause == b.cause) = false := by simpa using h7
    clear h7
    by_cases h8 : a.cause = 1
    case neg =>
      have hb8 : (a.cause == 1) = false := by simpa using h8
      have HF := Lib.hid (notFlw (w := w) (a := a) (b := b) (fun h => h.2.2.2.2.2.elim H7.out (fun q => h8 q.1)) HB3.out)
      clear h8
      go_wp2
      go_ret
      exact HF.out
    case pos =>
    have H8 := Lib.hid h8
    have hb8 : (a.cause == 1) = true := by simpa using h8
    clear h8
    by_cases h9 : b.cause = 0
    case neg =>
      have hb9 : (b.cause == 0) = false := by simpa using h9
      have HF := Lib.hid (notFlw (w := w) (a := a) (b := b) (fun h => h.2.2.2.2.2.elim H7.out (fun q => h9 q.2.1)) HB3.out)
      clear h9
      go_wp2
      go_ret
      exact HF.out
    case pos =>
    have H9 := Lib.hid h9
    have hb9 : (b.cause == 0) = true := by simpa using h9
    clear h9
    by_cases h10 : a.time < b.time
    case neg =>
      have hb10 : decide (a.time < b.time) = false := decide_eq_false h10
      have HF := Lib.hid (notFlw (w := w) (a := a) (b := b) (fun h => h.2.2.2.2.2.elim H7.out (fun q => h10 q.2.2)) HB3.out)
      go_wp2
      go_ret
      exact HF.out
    case pos =>
      have hb10 : decide (a.time < b.time) = true := decide_eq_true h10
      have HF := Lib.hid (isFlw (w := w) (HFI.out (.inr ⟨H8.out, H9.out, h10⟩)) HB3.out)
      go_wp2
      go_ret
      exact HF.out

set_option maxHeartbeats 4000000 in
set_option maxRecDepth 100000 in
theorem net_any (P : Nat → Prop) (A : Option Addr) (c : Nat) (l : List Ln) (w : World) (h : LnAt P w A c l) (hn : l.length ≤ 1000) :
    Calls Try.prog 10 #[.slice A l.length c] w (ConPost w (l.map Ln.dl)) := by
  have HD := Lib.hid h.any
  clear h
  go_enter Try.func10, Try.ntmps10
  go_wp2_with fail
  go_loopg [3, 5, 8] l.length (fun gg s3 _ s8 wr => ∃ (k oc : Nat) (oa : Option Addr), s8 = .int .i64 k ∧ k ≤ l.length ∧ l.length - k ≤ gg ∧ s3 = .slice oa k oc ∧ Hid (wr.ownsRow w.heap.size 38 3 (.slice oa k oc) k (((l.take k).map Ln.dl).flatMap encD)) ∧ Hid (Below w.heap.size w wr))
  case atStart => exact ⟨0, 0, none, rfl, by omega, by omega, rfl, World.ownsRow_nil _ _ _ _, Below.refl _ w⟩
  case round =>
    obtain ⟨k, oc, oa, rfl, hk, hg, rfl, HO, HB⟩ := hrel
    revert HO HB
    revert wr
    intro wo HO HB
    by_cases hlt : k < l.length
    · have hltz : (k : Int) < (l.length : Int) := by omega
      obtain ⟨x, hx⟩ : ∃ x, l[k]? = some x := ⟨_, List.getElem?_eq_getElem hlt⟩
      obtain ⟨bb, off, rfl, ⟨y0, y1, y2, y3, y4, y5, y6⟩, hbb⟩ := HD.out.getL hx HB.out
      have HX := Lib.hid hx
      have hwo := HB.out.size
      clear hx
      have HBD : Hid (Blk (wo.alloc (.cells #[.int .i64 x.no, .int .i64 x.batch, .int .i64 x.time, .slice x.ra x.rn x.rc, .int .i64 x.n, .int .i64 x.cause, .int .i64 x.why] 32)) wo.heap.size 32 #[.int .i64 x.no, .int .i64 x.batch, .int .i64 x.time, .slice x.ra x.rn x.rc, .int .i64 x.n, .int .i64 x.cause, .int .i64 x.why]) := Lib.hid (Blk.new wo _ _)
      have HBB : Hid (Below wo.heap.size wo (wo.alloc (.cells #[.int .i64 x.no, .int .i64 x.batch, .int .i64 x.time, .slice x.ra x.rn x.rc, .int .i64 x.n, .int .i64 x.cause, .int .i64 x.why] 32))) := Lib.hid ((Below.refl _ wo).alloc (Nat.le_refl _) _)
      go_upto_region 5 with fail
      generalize (wo.alloc (.cells #[.int .i64 x.no, .int .i64 x.batch, .int .i64 x.time, .slice x.ra x.rn x.rc, .int .i64 x.n, .int .i64 x.cause, .int .i64 x.why] 32)) = wb at HBD HBB ⊢
      obtain ⟨⟨z0, z1, z2, z3, z4, z5, z6⟩, _⟩ := HBD.out.seven'
      have HBB3 : Hid (Below w.heap.size w wb) := Lib.hid (HB.out.trans (HBB.out.mono HB.out.size))
      have hwb : w.heap.size ≤ wb.heap.size := HBB3.out.size
      clear y0 y1 y2 y3 y4 y5 y6
      go_wp2_with (at_builtin; refine wpList_append_sl (k := 3) (enc := encD) _ rfl _ _ 22 rfl w.heap.size 38 _ 40 Try.underlying22 info_Del rfl (by decide) encD_len encD_one _ k ((l.take k).map Ln.dl) rfl (own_below (own_below HO.out HBB.out) ((Below.refl _ _).alloc (Nat.le_refl _) _)) _ 1 1 [x.dl] rfl (slT_block encD_len (Blk.new' _ wb.heap.size _ _ rfl) rfl rfl (Nat.le_refl _)) (by unfold maxLen; omega) (by omega) (by simp; omega) ?_)
      intro v' w8 hown8 hgrow hat
      obtain ⟨oa', oc', rfl⟩ := own_shape hown8
      have HO8 : Hid (w8.ownsRow w.heap.size 38 3 (.slice oa' (k + 1) oc') (k + 1) (((l.take (k + 1)).map Ln.dl).flatMap encD)) := Lib.hid (by
        rw [List.take_add_one, HX.out]
        simpa [List.flatMap_append] using hown8)
      have HB8 : Hid (Below w.heap.size w w8) := Lib.hid ((HBB3.out.alloc hwb _).grown hgrow (by simp; omega) (by intro q hq; exact (HO.out.lt q hq).1))
      clear hown8 hgrow hat z0 z1 z2 z3 z4 z5 z6
      go_wp2
      go_roundg (l.length - (k + 1))
      case measure => omega
      case rel => exact ⟨k + 1, oc', oa', by go_num, by omega, by omega, by simp, HO8, HB8⟩
    · have hltz : ¬ (k : Int) < (l.length : Int) := by omega
      obtain rfl : k = l.length := by omega
      have hlen : l.length = (l.map Ln.dl).length := by simp
      have HO2 : Hid (wo.ownsRow w.heap.size 38 3 (.slice oa (l.map Ln.dl).length oc) (l.map Ln.dl).length ((l.map Ln.dl).flatMap encD)) := Lib.hid (by
        have := HO.out
        rw [List.take_length] at this
        rw [← hlen]
        exact this)
      have HR : Hid (∀ d ∈ l.map Ln.dl, SlP (fun _ => True) 3 encV wo d.ra d.rn d.rc d.vs ∧ d.rn ≤ 1000000 ∧ w64 d.n = d.n) := Lib.hid (fun d hd => by
        obtain ⟨x, hx, rfl⟩ := List.mem_map.1 hd
        exact (HD.out.below HB.out).2 x hx)
      have hl2 : (l.map Ln.dl).length ≤ 1000 := by rw [← hlen]; exact hn
      rw [hlen]
      generalize l.map Ln.dl = m at *
      go_wp2_with fail
      refine (consolidate_any (fun _ => True) oa oc m _ (dlAt_own HO2.out HR.out) hl2).mono ?_
      rintro e w2 hc
      have HCC := Lib.hid (hc.up HB.out)
      clear hc
      obtain ⟨A2, c2, out, rfl, _⟩ := HCC.out
      go_wp2
      go_ret
      exact HCC.out
end Go.Proofs.Ytmdjcljgbagehaa
