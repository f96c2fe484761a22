/- intake: accept. -/
import Derived.Test.YtghciaaedjomjaaItkU
namespace Go.Proofs.Ytghciaaedjomjaa
open Go.RowKit

variable {G : Nat → Prop}
def ApPost (G : Nat → Prop) (w : World) (p mb : Nat) (c : Cfg) (ks : List KnV) (r : (Int × Int) × ISt) (e : Ending) (w' : World) : Prop := e = .returned (.tuple #[.int .i64 r.1.1, .int .i64 r.1.2]) ∧ IX G w' p mb c ks r.2 ∧ Two p mb w w'
theorem accept_no {c : Cfg} {ks : List KnV} {st : ISt} {r : ERaw} {vs : List VVal} {n f : Int} (h : putN c ks st r vs = (n, f)) (hf : f ≠ 0) : acceptF c ks st r vs = ((n, f), if f ≠ 5 then { st with refused := st.refused + 1 } else st) := by
  unfold acceptF
  rw [h, if_pos hf]
theorem accept_yes {c : Cfg} {ks : List KnV} {st : ISt} {r : ERaw} {vs : List VVal} {n : Int} (h : putN c ks st r vs = (n, 0)) : acceptF c ks st r vs = ((n, 0), raiseF c (addF st r) r.tm) := by
  unfold acceptF
  rw [h, if_neg (fun q => q rfl)]
theorem IX.setBoth {p mb : Nat} {w w' : World} {c : Cfg} {ks : List KnV} {st : ISt} (h : IX G w p mb c ks st) {cnt : Int → Int} (hm : MapC w' mb (st.next + 1) cnt) (hg : (w.setCell ⟨p, 9, none⟩ (.int .i64 ((st.next : Int) + 1))).grownBy w' (some mb)) :
    IX G w' p mb c ks { st with next := st.next + 1, cnt := cnt } := by
  have hx := h.setNext
  obtain ⟨ka, kc, pa, pc, q1, q2, q3, q4, q5⟩ := hx
  exact ⟨ka, kc, pa, pc, q1.grown hg (by intro e; injection e with e; exact q5 e), q2.keep hg.size fun b hlt hb => hg.block b hlt (by intro e; injection e with e; exact hb.2.1 e), q3.keep hg.size fun b hlt hb => hg.block b hlt (by intro e; injection e with e; exact hb.2.1 e), hm, q5⟩
set_option maxHeartbeats 4000000 in
set_option maxRecDepth 100000 in
theorem accept_any {p mb : Nat} {c : Cfg} {ks : List KnV} {st : ISt} {w : World} (h : IX G w p mb c ks st) (hG : ∀ b, w.heap.size ≤ b → G b) (hi : IInv c st) (hc : RightC c) (hk : ks.length ≤ 1000) (hn : st.next ≤ 1000000) (href : st.refused ≤ 1000000) (r : ERaw) (vs : List VVal) (hr : SlT 3 encV w r.ra r.rn r.rc vs) (hrn : r.rn ≤ 1000000) :
    Calls Try.prog 38 #[.pointer (some ⟨p, 0, none⟩), .agg #[.int .i64 r.kind, .int .i64 r.id, .int .i64 r.ep, .int .i64 r.sq, .string r.src, .int .i64 r.sch, .int .i64 r.tm, .slice r.ra r.rn r.rc]] w (ApPost G w p mb c ks (acceptF c ks st r vs)) := by
  obtain ⟨kind, id, ep, sq, src, sch, tm, ra, rn, rc⟩ := r
  simp only at *
  have HX := Lib.hid h
  have HR := Lib.hid hr
  have HI := Lib.hid hi
  have HB0 : Hid (Below w.heap.size w (w.alloc (.cells #[.int .i64 kind, .int .i64 id, .int .i64 ep, .int .i64 sq, .string src, .int .i64 sch, .int .i64 tm, .slice ra rn rc] 36))) := Lib.hid ((Below.refl _ w).alloc (Nat.le_refl _) _)
  have HE0 := Lib.hid (Blk.new w 36 #[.int .i64 kind, .int .i64 id, .int .i64 ep, .int .i64 sq, .string src, .int .i64 sch, .int .i64 tm, .slice ra rn rc])
  have HX0 := Lib.hid (HX.out.below HB0.out)
  have hpw := HX.out.lt.1
  have hmw := HX.out.lt.2.1
  obtain ⟨n, f, hL⟩ : ∃ n f, putN c ks st ⟨kind, id, ep, sq, src, sch, tm, ra, rn, rc⟩ vs = (n, f) := ⟨_, _, rfl⟩
  have HL := Lib.hid hL
  have HPU : Hid (Calls Try.prog 47 #[.pointer (some ⟨p, 0, none⟩), .agg #[.int .i64 kind, .int .i64 id, .int .i64 ep, .int .i64 sq, .string src, .int .i64 sch, .int .i64 tm, .slice ra rn rc]] (w.alloc (.cells #[.int .i64 kind, .int .i64 id, .int .i64 ep, .int .i64 sq, .string src, .int .i64 sch, .int .i64 tm, .slice ra rn rc] 36)) (PairPost (w.alloc (.cells #[.int .i64 kind, .int .i64 id, .int .i64 ep, .int .i64 sq, .string src, .int .i64 sch, .int .i64 tm, .slice ra rn rc] 36)) (n, f))) := Lib.hid (by
    rw [← hL]
    exact put_any HX0.out HI.out hc hk hn ⟨kind, id, ep, sq, src, sch, tm, ra, rn, rc⟩ vs (HR.out.below HB0.out) hrn)
  clear h hr hi hL HR
  go_enter Try.func38, Try.ntmps38
  go_wp2_with fail
  refine HPU.out.mono ?_
  rintro e w1 ⟨rfl, hb1⟩
  have HX1 := Lib.hid (HX0.out.below hb1)
  have HE1 := Lib.hid (HE0.out.below hb1 HE0.out.lt)
  have HB1 : Hid (Below w.heap.size w w1) := Lib.hid (HB0.out.trans (hb1.mono HB0.out.size))
  clear hb1 HX HX0 HE0 HB0 HPU
  by_cases hf : f = 0
  · subst hf
    have hnb : ((0 : Int) != 0) = false := rfl
    obtain ⟨ka, kc, pa, pc, -, -, -, -, -, -, -, -, -, -, -, q11, -, -, ht, hfz⟩ := HX1.out.cells
    have HTB := Lib.hid ht
    obtain ⟨z0, z1, z2, z3, z4, z5, z6, z7⟩ := HE1.out.eight
    obtain ⟨hp1, hm1, hpm⟩ := HX1.out.lt
    have hne : w.heap.size ≠ p := by omega
    have hne' : p ≠ w.heap.size := by omega
    obtain ⟨k1, k2, k3, k4, k5, k6, k7⟩ := putN_ok (by rw [HL.out])
    have hne7 : n = (st.next : Int) := by have := HL.out.symm.trans k7; exact (Prod.mk.inj this).1
    subst hne7
    have HOK := Lib.hid (add_putOk HI.out hn k1)
    simp only at k1 k2 k3 k4 k5 k6 k7
    have HK4 := Lib.hid k4
    clear k1 k3 k4 k5 k7 ht
    go_wp2_with fail
    refine wp_region_noPanic ?_
    refine wp_region_held_drew (S := fun w' => w'.cell? ⟨w.heap.size, 0, none⟩ = some (.int .i64 kind) ∧ w'.cell? ⟨w.heap.size, 1, none⟩ = some (.int .i64 id) ∧ w'.cell? ⟨w.heap.size, 2, none⟩ = some (.int .i64 ep) ∧ w'.cell? ⟨w.heap.size, 3, none⟩ = some (.int .i64 sq) ∧ w'.cell? ⟨w.heap.size, 4, none⟩ = some (.string src) ∧ w'.cell? ⟨w.heap.size, 5, none⟩ = some (.int .i64 sch) ∧ w'.cell? ⟨w.heap.size, 6, none⟩ = some (.int .i64 tm) ∧ w'.cell? ⟨w.heap.size, 7, none⟩ = some (.slice ra rn rc)) (by kernel_rfl) ?_ (fun hHeld => ?_)
    · first | exact ⟨by assumption, by assumption⟩ | go_keep
    refine take_yes (i := 0) (some 27) (v := ?va0) (by simp only [List.getElem?_toArray, List.getElem?_cons_zero]; exact rfl) rfl (by kernel_rfl) (by kernel_rfl) (by kernel_rfl) (fun _ _ _ h => h) (by rfl) ?hya0 (by assumption) ?resta0
    case hya0 => (intro w hSw; (try dsimp only at hSw); go_simp; try with_reducible rfl)
    try simp only [Act.put, List.setIfInBounds_toArray, List.set_cons_zero, List.set_cons_succ]
    refine take_yes (i := 1) (some 28) (v := ?va1) (by simp only [List.getElem?_toArray, List.getElem?_cons_succ, List.getElem?_cons_zero]; exact rfl) rfl (by kernel_rfl) (by kernel_rfl) (by kernel_rfl) (fun _ _ _ h => h) (by rfl) ?hya1 (by assumption) ?resta1
    case hya1 => (intro w hSw; (try dsimp only at hSw); go_simp; try with_reducible rfl)
    try simp only [Act.put, List.setIfInBounds_toArray, List.set_cons_zero, List.set_cons_succ]
    refine take_yes (i := 2) (some 29) (v := ?va2) (by simp only [List.getElem?_toArray, List.getElem?_cons_succ, List.getElem?_cons_zero]; exact rfl) rfl (by kernel_rfl) (by kernel_rfl) (by kernel_rfl) (fun _ _ _ h => h) (by rfl) ?hya2 (by assumption) ?resta2
    case hya2 => (intro w hSw; (try dsimp only at hSw); go_simp; try with_reducible rfl)
    try simp only [Act.put, List.setIfInBounds_toArray, List.set_cons_zero, List.set_cons_succ]
    refine take_yes (i := 3) (some 30) (v := ?va3) (by simp only [List.getElem?_toArray, List.getElem?_cons_succ, List.getElem?_cons_zero]; exact rfl) rfl (by kernel_rfl) (by kernel_rfl) (by kernel_rfl) (fun _ _ _ h => h) (by rfl) ?hya3 (by assumption) ?resta3
    case hya3 => (intro w hSw; (try dsimp only at hSw); go_simp; try with_reducible rfl)
    try simp only [Act.put, List.setIfInBounds_toArray, List.set_cons_zero, List.set_cons_succ]
    refine take_yes (i := 5) (some 32) (v := ?va5) (by simp only [List.getElem?_toArray, List.getElem?_cons_succ, List.getElem?_cons_zero]; exact rfl) rfl (by kernel_rfl) (by kernel_rfl) (by kernel_rfl) (fun _ _ _ h => h) (by rfl) ?hya5 (by assumption) ?resta5
    case hya5 => (intro w hSw; (try dsimp only at hSw); go_simp; try with_reducible rfl)
    try simp only [Act.put, List.setIfInBounds_toArray, List.set_cons_zero, List.set_cons_succ]
    refine take_yes (i := 6) (some 33) (v := ?va6) (by simp only [List.getElem?_toArray, List.getElem?_cons_succ, List.getElem?_cons_zero]; exact rfl) rfl (by kernel_rfl) (by kernel_rfl) (by kernel_rfl) (fun _ _ _ h => h) (by rfl) ?hya6 (by assumption) ?resta6
    case hya6 => (intro w hSw; (try dsimp only at hSw); go_simp; try with_reducible rfl)
    try simp only [Act.put, List.setIfInBounds_toArray, List.set_cons_zero, List.set_cons_succ]
    refine wpAnyH_ready (rs := [4]) (by kernel_rfl) (by simp) ?_
    refine AllReadyH.cons rfl (fun K hK => ?_) AllReadyH.nil
    try go_simp
    refine hK.out _ _ ?_ (fun hHeld => ?_)
    · go_keep
    clear hK K
    try simp only [Act.put, List.setIfInBounds_toArray, List.set_cons_zero, List.set_cons_succ]
    refine wpAnyH_ready (rs := [7]) (by kernel_rfl) (by simp) ?_
    refine AllReadyH.cons rfl (fun K hK => ?_) AllReadyH.nil
    try go_simp
    go_wp2_with (go_at_call 11; refine (put_yes (notPM G p mb) pa pc st.tab kind id ep sq src sch tm ra rn rc st.next _ HI.out.right (HTB.out.below (Below.refl _ _).drew) HOK.out).mono ?_; rintro e w2 ⟨A2, c2, rfl, ht2, hb2⟩; have HD2 : Hid (Below w1.heap.size w1 w2) := Lib.hid ((Below.refl _ w1).drew.trans hb2); have HX2 := Lib.hid (HX1.out.below HD2.out); have HE2 := Lib.hid (HE1.out.below HD2.out HE1.out.lt); obtain ⟨y0, y1, y2, y3, y4, y5, y6, y7⟩ := HE2.out.eight; have HT2 := Lib.hid ht2; have hfz2 := (HX2.out.cells).choose_spec.choose_spec.choose_spec.choose_spec.2.2.2.2.2.2.2.2.2.2.2.2.2.2.2; have HQ11 := Lib.hid ((HD2.out.cell (p := ⟨p, 11, none⟩) hp1).trans q11); have y11 := HQ11.out; clear hb2 ht2)
    refine hK.out _ _ ?_ (fun hHeld => ?_)
    · go_keep
    clear hK K
    try simp only [Act.put, List.setIfInBounds_toArray, List.set_cons_zero, List.set_cons_succ]
    refine take_yes (i := 8) (some 35) (v := ?va8) (by simp only [List.getElem?_toArray, List.getElem?_cons_succ, List.getElem?_cons_zero]; exact rfl) rfl (by kernel_rfl) (by kernel_rfl) (by kernel_rfl) (fun _ _ _ h => h) (by rfl) ?hya8 (by assumption) ?resta8
    case hya8 => (intro w hSw; (try dsimp only at hSw); go_simp; try with_reducible rfl)
    try simp only [Act.put, List.setIfInBounds_toArray, List.set_cons_zero, List.set_cons_succ]
    refine take_yes (i := 9) (some 36) (v := ?va9) (by simp only [List.getElem?_toArray, List.getElem?_cons_succ, List.getElem?_cons_zero]; exact rfl) rfl (by kernel_rfl) (by kernel_rfl) (by kernel_rfl) (fun _ _ _ h => h) (by rfl) ?hya9 (by assumption) ?resta9
    case hya9 => (intro w hSw; (try dsimp only at hSw); go_simp; try with_reducible rfl)
    try simp only [Act.put, List.setIfInBounds_toArray, List.set_cons_zero, List.set_cons_succ]
    refine wpAnyH_ready (rs := [10]) (by kernel_rfl) (by simp) ?_
    refine AllReadyH.cons rfl (fun K hK => ?_) AllReadyH.nil
    try go_simp
    refine hK.out _ _ ?_ (fun hHeld => ?_)
    · go_keep
    clear hK K
    try simp only [Act.put, List.setIfInBounds_toArray, List.set_cons_zero, List.set_cons_succ]
    refine wpAnyH_done (by kernel_rfl) ?_ _
    refine NoPanic.normal ?_
    have HX3 := Lib.hid (HX2.out.setTab HT2.out (fun b h1 h2 => ⟨by have : w1.heap.size ≤ b := h2; omega, by have : w1.heap.size ≤ b := h2; omega, hG b (by have : w1.heap.size ≤ b := h2; have := HB1.out.size; omega)⟩))
    have HE3 := Lib.hid (HE2.out.far (p := ⟨p, 11, none⟩) hne (.slice A2 (putP st.tab id ↑st.next).length c2))
    have HW3 : Hid (Two p mb w ((w2.setCell ⟨p, 11, none⟩ (.slice A2 (putP st.tab id ↑st.next).length c2)))) := Lib.hid ((Two.of_below (HB1.out.trans (HD2.out.mono HB1.out.size))).set_ 11 _)
    clear hHeld y0 y1 y2 y3 y4 y5 y6 y7 y11 hfz2 HQ11 HT2 HX2 HE2 HD2 HTB HX1 HE1 HB1 q11 hfz z0 z1 z2 z3 z4 z5 z6 z7
    generalize (w2.setCell ⟨p, 11, none⟩ (.slice A2 (putP st.tab id ↑st.next).length c2)) = w3 at HX3 HE3 HW3 ⊢
    obtain ⟨-, -, -, -, -, -, -, -, -, -, -, -, -, x9, -, -, x12, -, -, xf⟩ := HX3.out.cells
    have hwn : IntKind.i64.wrap ((st.next : Int) + 1) = (st.next : Int) + 1 := by rw [IntKind.wrap_i64]; omega
    simp only at x9
    go_wp2_with fail
    have HM4 : Hid (MapC (w3.setCell ⟨p, 9, none⟩ (.int .i64 ((st.next : Int) + 1))) mb st.next st.cnt) := Lib.hid (HX3.out.mapc.block (Below.heap_setCell w3 ⟨p, 9, none⟩ _ mb hpm.symm))
    have HE4 := Lib.hid (HE3.out.far (p := ⟨p, 9, none⟩) hne (.int .i64 ((st.next : Int) + 1)))
    have HW4 := Lib.hid (HW3.out.set_ 9 (.int .i64 ((st.next : Int) + 1)))
    have HSB : Hid (∀ w' cnt, MapC w' mb (st.next + 1) cnt → (w3.setCell ⟨p, 9, none⟩ (.int .i64 ((st.next : Int) + 1))).grownBy w' (some mb) → IX G w' p mb c ks { { st with tab := putP st.tab id ↑st.next } with next := st.next + 1, cnt := cnt }) := Lib.hid (fun w' cnt h1 h2 => HX3.out.setBoth h1 h2)
    have y12 : (w3.setCell ⟨p, 9, none⟩ (.int .i64 ((st.next : Int) + 1))).cell? ⟨p, 12, none⟩ = some (.map (some mb)) := by
      obtain ⟨-, -, -, -, -, -, -, -, -, -, -, -, -, -, -, -, e, -, -, -⟩ := HX3.out.setNext.cells
      exact e
    clear HX3 HE3 HW3 x9 x12 xf hwn
    generalize (w3.setCell ⟨p, 9, none⟩ (.int .i64 ((st.next : Int) + 1))) = w4 at HM4 HE4 HW4 HSB y12 ⊢
    have y6 := HE4.out.eight.2.2.2.2.2.2.1
    have hct := HI.out.cnt tm
    have hrt := hc.rate
    have htm2 : 0 ≤ tm ∧ tm ≤ 1099511627776 := k2
    obtain ⟨ht0, ht1⟩ := htm2
    obtain ⟨hc0, hc1⟩ := hct
    have hlk := HM4.out.lookup (t := tm) ⟨by omega, by omega⟩
    have hlk2 : (Instr.lookup 67 (.map (some mb)) (.int .i64 tm) false).run Try.prog w4.drew = .ok (.int .i64 (st.cnt tm)) w4.drew := MapC.lookup (w := w4.drew) HM4.out (t := tm) ⟨by omega, by omega⟩
    obtain ⟨w5, hup, hm5, hg5⟩ := MapC.update (w := w4.drew) HM4.out (by unfold maxLen; omega) (t := tm) (v := st.cnt tm + 1) ⟨by omega, by omega⟩ ⟨by omega, by omega⟩
    have v12 : w5.cell? ⟨p, 12, none⟩ = some (.map (some mb)) := (World.cell?_of_block (a := ⟨p, 12, none⟩) (hg5.block p (World.block_lt_of_cell? w4 _ y12) (by intro e; injection e with e; exact hpm e))).trans y12
    have v6 : w5.cell? ⟨w.heap.size, 6, none⟩ = some (.int .i64 tm) := (World.cell?_of_block (a := ⟨w.heap.size, 6, none⟩) (hg5.block w.heap.size HE4.out.lt (by intro e; injection e with e; omega))).trans y6
    have hwc : IntKind.i64.wrap (st.cnt tm + 1) = st.cnt tm + 1 := by rw [IntKind.wrap_i64]; omega
    have HX5 := Lib.hid (HSB.out w5 _ hm5 ⟨hg5.os, hg5.tape, hg5.output, hg5.size, hg5.block⟩)
    have HW5 := Lib.hid ((show Two p mb w w4.drew from ⟨HW4.out.os, HW4.out.tape, HW4.out.output, HW4.out.size, HW4.out.block⟩).grown hg5)
    clear hm5 hg5 hlk
    refine wp_region_noPanic ?_
    refine wp_region_held_drew (S := fun w' => w'.cell? ⟨w.heap.size, 6, none⟩ = some (.int .i64 tm) ∧ w'.cell? ⟨p, 12, none⟩ = some (.map (some mb))) (by kernel_rfl) ?_ (fun hHeld => ?_)
    · first | exact ⟨by assumption, by assumption⟩ | go_keep
    refine take_yes (i := 0) (some 44) (v := ?vb0) (by simp only [List.getElem?_toArray, List.getElem?_cons_zero]; exact rfl) rfl (by kernel_rfl) (by kernel_rfl) (by kernel_rfl) (fun _ _ _ h => h) (by rfl) ?hyb0 (by assumption) ?restb0
    case hyb0 => (intro w hSw; (try dsimp only at hSw); go_simp; try with_reducible rfl)
    try simp only [Act.put, List.setIfInBounds_toArray, List.set_cons_zero, List.set_cons_succ]
    refine take_yes (i := 1) (some 45) (v := ?vb1) (by simp only [List.getElem?_toArray, List.getElem?_cons_succ, List.getElem?_cons_zero]; exact rfl) rfl (by kernel_rfl) (by kernel_rfl) (by kernel_rfl) (fun _ _ _ h => h) (by rfl) ?hyb1 (by assumption) ?restb1
    case hyb1 => (intro w hSw; (try dsimp only at hSw); go_simp; try with_reducible rfl)
    try simp only [Act.put, List.setIfInBounds_toArray, List.set_cons_zero, List.set_cons_succ]
    refine take_yes (i := 2) (some 46) (v := ?vb2) (by simp only [List.getElem?_toArray, List.getElem?_cons_succ, List.getElem?_cons_zero]; exact rfl) rfl (by kernel_rfl) (by kernel_rfl) (by kernel_rfl) (fun _ _ _ h => h) (by rfl) ?hyb2 (by assumption) ?restb2
    case hyb2 => (intro w hSw; (try dsimp only at hSw); go_simp; try with_reducible rfl)
    try simp only [Act.put, List.setIfInBounds_toArray, List.set_cons_zero, List.set_cons_succ]
    refine take_yes (i := 3) (some 47) (v := ?vb3) (by simp only [List.getElem?_toArray, List.getElem?_cons_succ, List.getElem?_cons_zero]; exact rfl) rfl (by kernel_rfl) (by kernel_rfl) (by kernel_rfl) (fun _ _ _ h => h) (by rfl) ?hyb3 (by assumption) ?restb3
    case hyb3 => (intro w hSw; (try dsimp only at hSw); go_simp; try with_reducible rfl)
    try simp only [Act.put, List.setIfInBounds_toArray, List.set_cons_zero, List.set_cons_succ]
    refine take_yes (i := 4) (some 48) (v := ?vb4) (by simp only [List.getElem?_toArray, List.getElem?_cons_succ, List.getElem?_cons_zero]; exact rfl) rfl (by kernel_rfl) (by kernel_rfl) (by kernel_rfl) (fun _ _ _ h => h) (by rfl) ?hyb4 (by assumption) ?restb4
    case hyb4 => (intro w hSw; (try dsimp only at hSw); go_simp; try with_reducible rfl)
    try simp only [Act.put, List.setIfInBounds_toArray, List.set_cons_zero, List.set_cons_succ]
    refine take_yes (i := 5) (some 49) (v := ?vb5) (by simp only [List.getElem?_toArray, List.getElem?_cons_succ, List.getElem?_cons_zero]; exact rfl) rfl (by kernel_rfl) (by kernel_rfl) (by kernel_rfl) (fun _ _ _ h => h) (by rfl) ?hyb5 (by assumption) ?restb5
    case hyb5 => (intro w hSw; (try dsimp only at hSw); go_simp; try with_reducible rfl)
    try simp only [Act.put, List.setIfInBounds_toArray, List.set_cons_zero, List.set_cons_succ]
    refine wpAnyH_ready (rs := [6]) (by kernel_rfl) (by simp) ?_
    refine AllReadyH.cons rfl (fun K hK => ?_) AllReadyH.nil
    try go_simp
    refine hK.out _ _ ?_ (fun hHeld => ?_)
    · go_keep
    clear hK K
    try simp only [Act.put, List.setIfInBounds_toArray, List.set_cons_zero, List.set_cons_succ]
    refine take_yes (i := 7) (some 51) (v := ?vb7) (by simp only [List.getElem?_toArray, List.getElem?_cons_succ, List.getElem?_cons_zero]; exact rfl) rfl (by kernel_rfl) (by kernel_rfl) (by kernel_rfl) (fun _ _ _ h => h) (by rfl) ?hyb7 (by assumption) ?restb7
    case hyb7 => (intro w hSw; (try dsimp only at hSw); go_simp; try with_reducible rfl)
    try simp only [Act.put, List.setIfInBounds_toArray, List.set_cons_zero, List.set_cons_succ]
    refine wpAnyH_ready (rs := [8]) (by kernel_rfl) (by simp) ?_
    refine AllReadyH.cons rfl (fun K hK => ?_) AllReadyH.nil
    try go_simp
    go_wp2_with (fail)
    refine hK.out _ _ ?_ (fun hHeld => ?_)
    · go_keep
    clear hK K
    try simp only [Act.put, List.setIfInBounds_toArray, List.set_cons_zero, List.set_cons_succ]
    refine wpAnyH_done (by kernel_rfl) ?_ _
    refine NoPanic.normal ?_
    clear hHeld y12 y6 v12 hlk2 hup hwc
    have HTOP := Lib.hid HI.out.top
    go_wp2_with fail
    refine (raise_any HX5.out hc.late (HTOP.out) tm k2).mono ?_
    rintro e w6 ⟨rfl, hx6, ht6⟩
    have HX6 := Lib.hid hx6
    have HT6 := Lib.hid (HW5.out.trans ht6)
    clear hx6 ht6 v6
    go_wp2
    go_ret2
    rw [accept_yes HL.out]
    refine ⟨rfl, ?_, HT6.out⟩
    have e1 : (fun x => if x = tm then st.cnt tm + 1 else st.cnt x) = (fun x => if x = tm then st.cnt x + 1 else st.cnt x) := by
      funext x
      by_cases e : x = tm
      · rw [if_pos e, if_pos e, e]
      · rw [if_neg e, if_neg e]
    have := HX6.out
    rw [e1] at this
    exact this
  · have hnb : (f != 0) = true := by simpa using hf
    have HF := Lib.hid hf
    obtain ⟨-, -, -, -, -, -, -, -, -, -, -, -, -, -, x10, -, -, -, -, xf⟩ := HX1.out.cells
    have hwn : IntKind.i64.wrap ((st.refused : Int) + 1) = (st.refused : Int) + 1 := by rw [IntKind.wrap_i64]; omega
    by_cases h5 : f = 5
    · subst h5
      have hnb5 : ((5 : Int) != 5) = false := rfl
      go_wp2
      go_ret2
      rw [accept_no HL.out HF.out, if_neg (fun q => q rfl)]
      exact ⟨rfl, HX1.out, Two.of_below HB1.out⟩
    · have hnb5 : (f != 5) = true := by simpa using h5
      have HX2 := Lib.hid (HX1.out.setRefused (st.refused + 1))
      have HT2 := Lib.hid ((Two.of_below (mb := mb) (p := p) HB1.out).set_ 10 (.int .i64 ((st.refused + 1 : Nat) : Int)))
      have H5 := Lib.hid h5
      clear hf h5
      go_wp2
      go_ret2
      rw [accept_no HL.out HF.out, if_pos H5.out]
      exact ⟨rfl, HX2.out, HT2.out⟩
end Go.Proofs.Ytghciaaedjomjaa
