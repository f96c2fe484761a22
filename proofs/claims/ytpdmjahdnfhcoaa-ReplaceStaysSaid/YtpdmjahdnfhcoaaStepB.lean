/- step, its other cases; step whole. -/
import Derived.Test.YtpdmjahdnfhcoaaStepA
namespace Go.Proofs.Ytpdmjahdnfhcoaa
open Go.RowKit

set_option maxHeartbeats 2000000 in
set_option maxRecDepth 100000 in
theorem step_ask1 (g : Nat) (s : St) (o : OpD) (w : World) (hs : StAt w g s) (hn : s.l.length ≤ 1000) (h01 : and7 o.dO = 1) :
    Calls Try.prog 8 #[.pointer (some ⟨g, 0, none⟩), .agg #[.int .i64 o.dO, .int .i64 o.no, .int .i64 o.frm, .int .i64 o.ver, .int .i64 o.back, .int .i64 o.hor, .bool o.raise]] w (StepPost w g (stepF s o)) := by
  obtain ⟨A, c, A2, c2, hB, hl, ht⟩ := hs
  obtain ⟨l, t⟩ := s
  obtain ⟨dO, no, frm, ver, back, hor, raise⟩ := o
  simp only at hB hl ht hn h01 ⊢
  have HB := Lib.hid hB
  obtain ⟨k0, k1, kf⟩ := hB.two
  have hgl := hB.lt
  have HL := Lib.hid hl
  have HT := Lib.hid ht
  have h7 : bits .and .i64 dO 7 = 1 := h01
  clear hB hl ht h01
  go_enter Try.func8, Try.ntmps8
  go_wp2_with fail
  go_region_held3 (fun w' => w'.cell? ⟨g, 0, none⟩ = some (.slice A l.length c) ∧ w'.cell? ⟨w.heap.size, 2, none⟩ = some (.int .i64 frm) ∧ w'.cell? ⟨w.heap.size, 3, none⟩ = some (.int .i64 ver) ∧ w'.cell? ⟨w.heap.size, 4, none⟩ = some (.int .i64 back) ∧ w'.cell? ⟨w.heap.size, 5, none⟩ = some (.int .i64 hor) ∧ w'.cell? ⟨w.heap.size, 6, none⟩ = some (.bool raise)) (go_keep) ((go_at_call 9; refine (ask_any A l.length c l frm ver back hor raise _ ((HL.out.alloc _).drew) (by omega)).mono ?_; rintro e w1 ⟨v, rfl, hv, hb1⟩; have HS1 := Lib.hid (((HB.out.alloc _).drew).below hb1 (by simp; omega)); have HX1 := Lib.hid (((Blk.new w 35 #[.int .i64 dO, .int .i64 no, .int .i64 frm, .int .i64 ver, .int .i64 back, .int .i64 hor, .bool raise]).drew).below hb1 (by simp)); obtain ⟨m0, m1, m2, m3, m4, m5, m6, mf⟩ := HX1.out.seven; obtain ⟨n0, n1, nf⟩ := HS1.out.two; have HV := Lib.hid hv; have HB1 := Lib.hid hb1; clear hv hb1))
  have hg1 := HS1.out.lt
  generalize hr : askF l frm ver back hor raise = r at HV
  have HF : Hid (stepF ⟨l, t⟩ ⟨dO, no, frm, ver, back, hor, raise⟩ = (if r.2.2 = 0 then ⟨r.1, t⟩ else ⟨l, t⟩, r.2.1, r.2.2)) := by
    show _ = _
    unfold stepF
    rw [if_pos (.inr h7)]
    simp only [hr]
  clear hr
  by_cases he : r.2.2 = 0
  · have hb : (r.2.2 == 0) = true := by simp [he]
    have HE := Lib.hid he
    clear he
    obtain ⟨A', c', rfl, hlv⟩ := HV.out
    have HLV := Lib.hid hlv
    clear hlv
    go_wp2
    go_ret2
    unfold StepPost
    rw [HF.out, if_pos HE.out]
    refine ⟨rfl, ?_, ?_⟩
    · exact st_store ⟨_, _, _, _, _, _, rfl, rfl, HS1.out⟩ HV.out (SlV.mk' (((HT.out.alloc _).drew).below HB1.out) rfl)
    · exact only_setCell (only_setCell (only_below (only_drew (only_alloc (World.grownBy.refl w _) _)) HB1.out) (p := ⟨g, 0, none⟩) (.inl rfl) _) (p := ⟨g, 1, none⟩) (.inl rfl) _
  · have hb : (r.2.2 == 0) = false := by simpa using he
    have HE := Lib.hid he
    clear he
    go_wp2
    go_ret2
    unfold StepPost
    rw [HF.out, if_neg HE.out]
    refine ⟨rfl, ?_, ?_⟩
    · exact ⟨A, c, A2, c2, HS1.out, ((HL.out.alloc _).drew).below HB1.out, ((HT.out.alloc _).drew).below HB1.out⟩
    · exact only_below (only_drew (only_alloc (World.grownBy.refl w _) _)) HB1.out
set_option maxHeartbeats 2000000 in
set_option maxRecDepth 100000 in
theorem step_abandon (g : Nat) (s : St) (o : OpD) (w : World) (hs : StAt w g s) (hn : s.l.length ≤ 1000) (h01 : and7 o.dO = 2) :
    Calls Try.prog 8 #[.pointer (some ⟨g, 0, none⟩), .agg #[.int .i64 o.dO, .int .i64 o.no, .int .i64 o.frm, .int .i64 o.ver, .int .i64 o.back, .int .i64 o.hor, .bool o.raise]] w (StepPost w g (stepF s o)) := by
  obtain ⟨A, c, A2, c2, hB, hl, ht⟩ := hs
  obtain ⟨l, t⟩ := s
  obtain ⟨dO, no, frm, ver, back, hor, raise⟩ := o
  simp only at hB hl ht hn h01 ⊢
  have HB := Lib.hid hB
  obtain ⟨k0, k1, kf⟩ := hB.two
  have hgl := hB.lt
  have HL := Lib.hid hl
  have HT := Lib.hid ht
  have h7 : bits .and .i64 dO 7 = 2 := h01
  clear hB hl ht h01
  go_enter Try.func8, Try.ntmps8
  go_wp2_with fail
  go_region_held3 (fun w' => w'.cell? ⟨g, 0, none⟩ = some (.slice A l.length c) ∧ w'.cell? ⟨w.heap.size, 1, none⟩ = some (.int .i64 no)) (go_keep) ((go_at_call 17; refine (abandon_any A c l no _ ((HL.out.alloc _).drew) (by omega)).mono ?_; rintro e w1 ⟨v, rfl, hv, hb1⟩; have HS1 := Lib.hid (((HB.out.alloc _).drew).below hb1 (by simp; omega)); have HX1 := Lib.hid (((Blk.new w 35 #[.int .i64 dO, .int .i64 no, .int .i64 frm, .int .i64 ver, .int .i64 back, .int .i64 hor, .bool raise]).drew).below hb1 (by simp)); obtain ⟨m0, m1, m2, m3, m4, m5, m6, mf⟩ := HX1.out.seven; obtain ⟨n0, n1, nf⟩ := HS1.out.two; have HV := Lib.hid hv; have HB1 := Lib.hid hb1; clear hv hb1))
  have hg1 := HS1.out.lt
  generalize hr : setF l no 4 = r at HV
  have HF : Hid (stepF ⟨l, t⟩ ⟨dO, no, frm, ver, back, hor, raise⟩ = (if r.2 = 0 then ⟨r.1, t⟩ else ⟨l, t⟩, 0, r.2)) := by
    show _ = _
    unfold stepF
    have h7' : and7 dO = 2 := h7
    rw [if_neg (by simp only [h7']; decide), if_pos (by simp only [h7'])]
    simp only [hr]
  clear hr
  by_cases he : r.2 = 0
  · have hb : (r.2 == 0) = true := by simp [he]
    have HE := Lib.hid he
    clear he
    obtain ⟨A', c', rfl, hlv⟩ := HV.out
    have HLV := Lib.hid hlv
    clear hlv
    go_wp2
    go_ret2
    unfold StepPost
    rw [HF.out, if_pos HE.out]
    refine ⟨rfl, ?_, ?_⟩
    · exact st_store ⟨_, _, _, _, _, _, rfl, rfl, HS1.out⟩ HV.out (SlV.mk' (((HT.out.alloc _).drew).below HB1.out) rfl)
    · exact only_setCell (only_setCell (only_below (only_drew (only_alloc (World.grownBy.refl w _) _)) HB1.out) (p := ⟨g, 0, none⟩) (.inl rfl) _) (p := ⟨g, 1, none⟩) (.inl rfl) _
  · have hb : (r.2 == 0) = false := by simpa using he
    have HE := Lib.hid he
    clear he
    go_wp2
    go_ret2
    unfold StepPost
    rw [HF.out, if_neg HE.out]
    refine ⟨rfl, ?_, ?_⟩
    · exact ⟨A, c, A2, c2, HS1.out, ((HL.out.alloc _).drew).below HB1.out, ((HT.out.alloc _).drew).below HB1.out⟩
    · exact only_below (only_drew (only_alloc (World.grownBy.refl w _) _)) HB1.out
set_option maxHeartbeats 2000000 in
set_option maxRecDepth 100000 in
theorem step_caught (g : Nat) (s : St) (o : OpD) (w : World) (hs : StAt w g s) (hn : s.l.length ≤ 1000) (h01 : and7 o.dO = 3) :
    Calls Try.prog 8 #[.pointer (some ⟨g, 0, none⟩), .agg #[.int .i64 o.dO, .int .i64 o.no, .int .i64 o.frm, .int .i64 o.ver, .int .i64 o.back, .int .i64 o.hor, .bool o.raise]] w (StepPost w g (stepF s o)) := by
  obtain ⟨A, c, A2, c2, hB, hl, ht⟩ := hs
  obtain ⟨l, t⟩ := s
  obtain ⟨dO, no, frm, ver, back, hor, raise⟩ := o
  simp only at hB hl ht hn h01 ⊢
  have HB := Lib.hid hB
  obtain ⟨k0, k1, kf⟩ := hB.two
  have hgl := hB.lt
  have HL := Lib.hid hl
  have HT := Lib.hid ht
  have h7 : bits .and .i64 dO 7 = 3 := h01
  clear hB hl ht h01
  go_enter Try.func8, Try.ntmps8
  go_wp2_with fail
  go_region_held3 (fun w' => w'.cell? ⟨g, 0, none⟩ = some (.slice A l.length c) ∧ w'.cell? ⟨w.heap.size, 1, none⟩ = some (.int .i64 no) ∧ w'.cell? ⟨w.heap.size, 6, none⟩ = some (.bool raise)) (go_keep) ((go_at_call 15; refine (caught_any A c l no raise _ ((HL.out.alloc _).drew) (by omega)).mono ?_; rintro e w1 ⟨v, rfl, hv, hb1⟩; have HS1 := Lib.hid (((HB.out.alloc _).drew).below hb1 (by simp; omega)); have HX1 := Lib.hid (((Blk.new w 35 #[.int .i64 dO, .int .i64 no, .int .i64 frm, .int .i64 ver, .int .i64 back, .int .i64 hor, .bool raise]).drew).below hb1 (by simp)); obtain ⟨m0, m1, m2, m3, m4, m5, m6, mf⟩ := HX1.out.seven; obtain ⟨n0, n1, nf⟩ := HS1.out.two; have HV := Lib.hid hv; have HB1 := Lib.hid hb1; clear hv hb1))
  have hg1 := HS1.out.lt
  generalize hr : setF l no (cst raise) = r at HV
  have HF : Hid (stepF ⟨l, t⟩ ⟨dO, no, frm, ver, back, hor, raise⟩ = (if r.2 = 0 then ⟨r.1, t⟩ else ⟨l, t⟩, 0, r.2)) := by
    show _ = _
    unfold stepF
    have h7' : and7 dO = 3 := h7
    rw [if_neg (by simp only [h7']; decide), if_neg (by simp only [h7']; decide), if_pos (by simp only [h7'])]
    simp only [hr]
  clear hr
  by_cases he : r.2 = 0
  · have hb : (r.2 == 0) = true := by simp [he]
    have HE := Lib.hid he
    clear he
    obtain ⟨A', c', rfl, hlv⟩ := HV.out
    have HLV := Lib.hid hlv
    clear hlv
    go_wp2
    go_ret2
    unfold StepPost
    rw [HF.out, if_pos HE.out]
    refine ⟨rfl, ?_, ?_⟩
    · exact st_store ⟨_, _, _, _, _, _, rfl, rfl, HS1.out⟩ HV.out (SlV.mk' (((HT.out.alloc _).drew).below HB1.out) rfl)
    · exact only_setCell (only_setCell (only_below (only_drew (only_alloc (World.grownBy.refl w _) _)) HB1.out) (p := ⟨g, 0, none⟩) (.inl rfl) _) (p := ⟨g, 1, none⟩) (.inl rfl) _
  · have hb : (r.2 == 0) = false := by simpa using he
    have HE := Lib.hid he
    clear he
    go_wp2
    go_ret2
    unfold StepPost
    rw [HF.out, if_neg HE.out]
    refine ⟨rfl, ?_, ?_⟩
    · exact ⟨A, c, A2, c2, HS1.out, ((HL.out.alloc _).drew).below HB1.out, ((HT.out.alloc _).drew).below HB1.out⟩
    · exact only_below (only_drew (only_alloc (World.grownBy.refl w _) _)) HB1.out
set_option maxHeartbeats 2000000 in
set_option maxRecDepth 100000 in
theorem step_cut (g : Nat) (s : St) (o : OpD) (w : World) (hs : StAt w g s) (hn : s.l.length ≤ 1000) (hm : s.t.length ≤ 1000) (h01 : ¬ (and7 o.dO = 0 ∨ and7 o.dO = 1) ∧ ¬ and7 o.dO = 2 ∧ ¬ and7 o.dO = 3) :
    Calls Try.prog 8 #[.pointer (some ⟨g, 0, none⟩), .agg #[.int .i64 o.dO, .int .i64 o.no, .int .i64 o.frm, .int .i64 o.ver, .int .i64 o.back, .int .i64 o.hor, .bool o.raise]] w (StepPost w g (stepF s o)) := by
  obtain ⟨A, c, A2, c2, hB, hl, ht⟩ := hs
  obtain ⟨l, t⟩ := s
  obtain ⟨dO, no, frm, ver, back, hor, raise⟩ := o
  simp only at hB hl ht hn hm h01 ⊢
  have HB := Lib.hid hB
  obtain ⟨k0, k1, kf⟩ := hB.two
  have hgl := hB.lt
  have HL := Lib.hid hl
  have HT := Lib.hid ht
  have H01 := Lib.hid h01
  have q0 : (bits .and .i64 dO 7 == 0) = false := by rw [beq_eq_false_iff_ne]; exact fun h => h01.1 (.inl h)
  have q1 : (bits .and .i64 dO 7 == 1) = false := by rw [beq_eq_false_iff_ne]; exact fun h => h01.1 (.inr h)
  have q2 : (bits .and .i64 dO 7 == 2) = false := by rw [beq_eq_false_iff_ne]; exact h01.2.1
  have q3 : (bits .and .i64 dO 7 == 3) = false := by rw [beq_eq_false_iff_ne]; exact h01.2.2
  clear hB hl ht h01
  go_enter Try.func8, Try.ntmps8
  go_wp2_with fail
  go_region_held3 (fun w' => w'.cell? ⟨g, 0, none⟩ = some (.slice A l.length c) ∧ w'.cell? ⟨g, 1, none⟩ = some (.slice A2 t.length c2) ∧ w'.cell? ⟨w.heap.size, 1, none⟩ = some (.int .i64 no)) (go_keep) ((go_at_call 16; refine (cut_any A c l A2 c2 t no _ ((HL.out.alloc _).drew) ((HT.out.alloc _).drew) (by omega) (by omega)).mono ?_; rintro e w1 ⟨v, u, rfl, hv, hu, hb1⟩; have HS1 := Lib.hid (((HB.out.alloc _).drew).below hb1 (by simp; omega)); have HX1 := Lib.hid (((Blk.new w 35 #[.int .i64 dO, .int .i64 no, .int .i64 frm, .int .i64 ver, .int .i64 back, .int .i64 hor, .bool raise]).drew).below hb1 (by simp)); obtain ⟨m0, m1, m2, m3, m4, m5, m6, mf⟩ := HX1.out.seven; obtain ⟨n0, n1, nf⟩ := HS1.out.two; have HV := Lib.hid hv; have HU := Lib.hid hu; have HB1 := Lib.hid hb1; clear hv hu hb1))
  have hg1 := HS1.out.lt
  generalize hr : cutF l t no = r at HV HU
  have HF : Hid (stepF ⟨l, t⟩ ⟨dO, no, frm, ver, back, hor, raise⟩ = (if r.2.2 = 0 then ⟨r.1, r.2.1⟩ else ⟨l, t⟩, 0, r.2.2)) := by
    show _ = _
    unfold stepF
    rw [if_neg H01.out.1, if_neg H01.out.2.1, if_neg H01.out.2.2]
    simp only [hr]
  clear hr
  by_cases he : r.2.2 = 0
  · have hb : (r.2.2 == 0) = true := by simp [he]
    have HE := Lib.hid he
    clear he
    obtain ⟨A', c', rfl, hlv⟩ := HV.out
    obtain ⟨A2', c2', rfl, htv⟩ := HU.out
    have HLV := Lib.hid hlv
    have HTV := Lib.hid htv
    clear hlv htv
    go_wp2
    go_ret2
    unfold StepPost
    rw [HF.out, if_pos HE.out]
    refine ⟨rfl, ?_, ?_⟩
    · exact st_store ⟨_, _, _, _, _, _, rfl, rfl, HS1.out⟩ HV.out HU.out
    · exact only_setCell (only_setCell (only_below (only_drew (only_alloc (World.grownBy.refl w _) _)) HB1.out) (p := ⟨g, 0, none⟩) (.inl rfl) _) (p := ⟨g, 1, none⟩) (.inl rfl) _
  · have hb : (r.2.2 == 0) = false := by simpa using he
    have HE := Lib.hid he
    clear he
    go_wp2
    go_ret2
    unfold StepPost
    rw [HF.out, if_neg HE.out]
    refine ⟨rfl, ?_, ?_⟩
    · exact ⟨A, c, A2, c2, HS1.out, ((HL.out.alloc _).drew).below HB1.out, ((HT.out.alloc _).drew).below HB1.out⟩
    · exact only_below (only_drew (only_alloc (World.grownBy.refl w _) _)) HB1.out

theorem step_any (g : Nat) (s : St) (o : OpD) (w : World) (hs : StAt w g s) (hn : s.l.length ≤ 1000) (hm : s.t.length ≤ 1000) :
    Calls Try.prog 8 #[.pointer (some ⟨g, 0, none⟩), .agg #[.int .i64 o.dO, .int .i64 o.no, .int .i64 o.frm, .int .i64 o.ver, .int .i64 o.back, .int .i64 o.hor, .bool o.raise]] w (StepPost w g (stepF s o)) := by
  by_cases h0 : and7 o.dO = 0
  · exact step_ask g s o w hs hn h0
  · by_cases h1 : and7 o.dO = 1
    · exact step_ask1 g s o w hs hn h1
    · by_cases h2 : and7 o.dO = 2
      · exact step_abandon g s o w hs hn h2
      · by_cases h3 : and7 o.dO = 3
        · exact step_caught g s o w hs hn h3
        · exact step_cut g s o w hs hn hm ⟨fun h => h.elim h0 h1, h2, h3⟩
end Go.Proofs.Ytpdmjahdnfhcoaa
