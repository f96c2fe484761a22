/- intake: Apply. -/
import Derived.Test.YtghciaaedjomjaaItkC
namespace Go.Proofs.Ytghciaaedjomjaa
open Go.RowKit

variable {G : Nat → Prop}
set_option maxHeartbeats 4000000 in
set_option maxRecDepth 100000 in
theorem apply_any {p mb : Nat} {c : Cfg} {ks : List KnV} {st : ISt} {w : World} (h : IX G w p mb c ks st) (hG : ∀ b, w.heap.size ≤ b → G b) (hi : IInv c st) (hc : RightC c) (hk : ks.length ≤ 1000) (hn : st.next ≤ 1000000) (href : st.refused ≤ 1000000) (r : ERaw) (vs : List VVal) (hr : SlT 3 encV w r.ra r.rn r.rc vs) (hrn : r.rn ≤ 1000000) :
    Calls Try.prog 20 #[.pointer (some ⟨p, 0, none⟩), .agg #[.int .i64 r.kind, .int .i64 r.id, .int .i64 r.ep, .int .i64 r.sq, .string r.src, .int .i64 r.sch, .int .i64 r.tm, .slice r.ra r.rn r.rc]] w (ApPost G w p mb c ks (applyF c ks st r vs)) := by
  obtain ⟨kind, id, ep, sq, src, sch, tm, ra, rn, rc⟩ := r
  simp only at *
  have HX := Lib.hid h
  have HR := Lib.hid hr
  have HI := Lib.hid hi
  have HB0 : Hid (Below w.heap.size w (w.alloc (.cells #[.int .i64 kind, .int .i64 id, .int .i64 ep, .int .i64 sq, .string src, .int .i64 sch, .int .i64 tm, .slice ra rn rc] 36))) := Lib.hid ((Below.refl _ w).alloc (Nat.le_refl _) _)
  have HE0 := Lib.hid (Blk.new w 36 #[.int .i64 kind, .int .i64 id, .int .i64 ep, .int .i64 sq, .string src, .int .i64 sch, .int .i64 tm, .slice ra rn rc])
  have HX0 := Lib.hid (HX.out.below HB0.out)
  obtain ⟨hpw, hmw, hpm⟩ := HX.out.lt
  have hne : w.heap.size ≠ p := by omega
  have hne' : p ≠ w.heap.size := by omega
  have hlate := hc.late
  have hahead := hc.ahead
  have HRT := Lib.hid hc.rate
  clear h hr hi
  by_cases k0 : kind = 0
  · subst k0
    have HF : Hid (applyF c ks st ⟨0, id, ep, sq, src, sch, tm, ra, rn, rc⟩ vs = acceptF c ks st ⟨0, id, ep, sq, src, sch, tm, ra, rn, rc⟩ vs) := Lib.hid (by unfold applyF; rw [if_pos rfl])
    go_enter Try.func20, Try.ntmps20
    go_wp2_with fail
    refine (accept_any HX0.out (fun b hb => hG b (Nat.le_trans HB0.out.size hb)) HI.out hc hk hn href ⟨0, id, ep, sq, src, sch, tm, ra, rn, rc⟩ vs (HR.out.below HB0.out) hrn).mono ?_
    rintro e w1 ⟨rfl, hx1, ht1⟩
    have HX1 := Lib.hid hx1
    have HT1 := Lib.hid ht1
    clear hx1 ht1
    go_wp2
    go_ret2
    rw [HF.out]
    exact ⟨rfl, HX1.out, (Two.of_below HB0.out).trans HT1.out⟩
  · have k0b : (kind == 0) = false := by simpa using k0
    by_cases k1 : kind = 1
    · subst k1
      have k1b : ((1 : Int) == 1) = true := rfl
      obtain ⟨fl, fn, ff, hF⟩ : ∃ fl fn ff, fenceF st.tab id = (fl, fn, ff) := ⟨_, _, _, rfl⟩
      have HAP : Hid (applyF c ks st ⟨1, id, ep, sq, src, sch, tm, ra, rn, rc⟩ vs = ((fn, ff), if ff = 0 then { st with tab := fl } else st)) := Lib.hid (by unfold applyF; rw [if_neg (by simp), if_pos rfl]; simp only [hF])
      obtain ⟨ka, kc, pa, pc, -, -, -, -, -, -, -, -, -, -, -, q11, -, -, ht, hfz⟩ := HX0.out.cells
      have HTB := Lib.hid ht
      have HFN : Hid (∀ W, Below (w.alloc (.cells #[.int .i64 1, .int .i64 id, .int .i64 ep, .int .i64 sq, .string src, .int .i64 sch, .int .i64 tm, .slice ra rn rc] 36)).heap.size (w.alloc (.cells #[.int .i64 1, .int .i64 id, .int .i64 ep, .int .i64 sq, .string src, .int .i64 sch, .int .i64 tm, .slice ra rn rc] 36)) W → Calls Try.prog 8 #[.slice pa st.tab.length pc, .int .i64 id] W (FencePost W (fl, fn, ff))) := Lib.hid (fun W hW => by
        rw [← hF]
        exact fence_any _ pa pc st.tab id W HI.out.right (HTB.out.below hW))
      obtain ⟨z0, z1, z2, z3, z4, z5, z6, z7⟩ := HE0.out.eight
      clear hF ht hfz z2 z3 z4 z5 z6 z7 HTB
      go_enter Try.func20, Try.ntmps20
      go_wp2_with fail
      refine wp_region_noPanic ?_
      refine wp_region_held_drew (S := fun w' => w'.cell? ⟨p, 11, none⟩ = some (.slice pa st.tab.length pc) ∧ w'.cell? ⟨w.heap.size, 1, none⟩ = some (.int .i64 id)) (by kernel_rfl) ?_ (fun hHeld => ?_)
      · first | exact ⟨by assumption, by assumption⟩ | go_keep
      refine take_yes (i := 0) (some 21) (v := ?va0) (by simp only [List.getElem?_toArray, List.getElem?_cons_zero]; exact rfl) rfl (by kernel_rfl) (by kernel_rfl) (by kernel_rfl) (fun _ _ _ h => h) (by rfl) ?hya0 (by assumption) ?resta0
      case hya0 => (intro w hSw; (try dsimp only at hSw); go_simp; try with_reducible rfl)
      try simp only [Act.put, List.setIfInBounds_toArray, List.set_cons_zero, List.set_cons_succ]
      refine take_yes (i := 1) (some 22) (v := ?va1) (by simp only [List.getElem?_toArray, List.getElem?_cons_succ, List.getElem?_cons_zero]; exact rfl) rfl (by kernel_rfl) (by kernel_rfl) (by kernel_rfl) (fun _ _ _ h => h) (by rfl) ?hya1 (by assumption) ?resta1
      case hya1 => (intro w hSw; (try dsimp only at hSw); go_simp; try with_reducible rfl)
      try simp only [Act.put, List.setIfInBounds_toArray, List.set_cons_zero, List.set_cons_succ]
      refine take_yes (i := 2) (some 23) (v := ?va2) (by simp only [List.getElem?_toArray, List.getElem?_cons_succ, List.getElem?_cons_zero]; exact rfl) rfl (by kernel_rfl) (by kernel_rfl) (by kernel_rfl) (fun _ _ _ h => h) (by rfl) ?hya2 (by assumption) ?resta2
      case hya2 => (intro w hSw; (try dsimp only at hSw); go_simp; try with_reducible rfl)
      try simp only [Act.put, List.setIfInBounds_toArray, List.set_cons_zero, List.set_cons_succ]
      refine take_yes (i := 3) (some 24) (v := ?va3) (by simp only [List.getElem?_toArray, List.getElem?_cons_succ, List.getElem?_cons_zero]; exact rfl) rfl (by kernel_rfl) (by kernel_rfl) (by kernel_rfl) (fun _ _ _ h => h) (by rfl) ?hya3 (by assumption) ?resta3
      case hya3 => (intro w hSw; (try dsimp only at hSw); go_simp; try with_reducible rfl)
      try simp only [Act.put, List.setIfInBounds_toArray, List.set_cons_zero, List.set_cons_succ]
      refine take_yes (i := 4) (some 25) (v := ?va4) (by simp only [List.getElem?_toArray, List.getElem?_cons_succ, List.getElem?_cons_zero]; exact rfl) rfl (by kernel_rfl) (by kernel_rfl) (by kernel_rfl) (fun _ _ _ h => h) (by rfl) ?hya4 (by assumption) ?resta4
      case hya4 => (intro w hSw; (try dsimp only at hSw); go_simp; try with_reducible rfl)
      try simp only [Act.put, List.setIfInBounds_toArray, List.set_cons_zero, List.set_cons_succ]
      refine take_yes (i := 5) (some 26) (v := ?va5) (by simp only [List.getElem?_toArray, List.getElem?_cons_succ, List.getElem?_cons_zero]; exact rfl) rfl (by kernel_rfl) (by kernel_rfl) (by kernel_rfl) (fun _ _ _ h => h) (by rfl) ?hya5 (by assumption) ?resta5
      case hya5 => (intro w hSw; (try dsimp only at hSw); go_simp; try with_reducible rfl)
      try simp only [Act.put, List.setIfInBounds_toArray, List.set_cons_zero, List.set_cons_succ]
      refine wpAnyH_ready (rs := [6]) (by kernel_rfl) (by simp) ?_
      refine AllReadyH.cons rfl (fun K hK => ?_) AllReadyH.nil
      try go_simp
      go_wp2_with (go_at_call 8; refine (HFN.out _ (Below.refl _ _).drew).mono ?_; rintro e w1 ⟨A2, c2, rfl, ht2, hb2⟩; have HD1 : Hid (Below (w.alloc (.cells #[.int .i64 1, .int .i64 id, .int .i64 ep, .int .i64 sq, .string src, .int .i64 sch, .int .i64 tm, .slice ra rn rc] 36)).heap.size (w.alloc (.cells #[.int .i64 1, .int .i64 id, .int .i64 ep, .int .i64 sq, .string src, .int .i64 sch, .int .i64 tm, .slice ra rn rc] 36)) w1) := Lib.hid ((Below.refl _ _).drew.trans hb2); have HX1 := Lib.hid (HX0.out.below HD1.out); have HT2 := Lib.hid ht2; obtain ⟨-, y1, -, -, -, -, -, -⟩ := (HE0.out.below HD1.out HE0.out.lt).eight; have y11 := (HD1.out.cell (p := ⟨p, 11, none⟩) HX0.out.lt.1).trans q11; clear hb2 ht2)
      refine hK.out _ _ ?_ (fun hHeld => ?_)
      · go_keep
      clear hK K
      try simp only [Act.put, List.setIfInBounds_toArray, List.set_cons_zero, List.set_cons_succ]
      refine take_yes (i := 7) (some 20) (v := ?va7) (by simp only [List.getElem?_toArray, List.getElem?_cons_succ, List.getElem?_cons_zero]; exact rfl) rfl (by kernel_rfl) (by kernel_rfl) (by kernel_rfl) (fun _ _ _ h => h) (by rfl) ?hya7 (by assumption) ?resta7
      case hya7 => (intro w hSw; (try dsimp only at hSw); go_simp; try with_reducible rfl)
      try simp only [Act.put, List.setIfInBounds_toArray, List.set_cons_zero, List.set_cons_succ]
      refine take_yes (i := 8) (some 28) (v := ?va8) (by simp only [List.getElem?_toArray, List.getElem?_cons_succ, List.getElem?_cons_zero]; exact rfl) rfl (by kernel_rfl) (by kernel_rfl) (by kernel_rfl) (fun _ _ _ h => h) (by rfl) ?hya8 (by assumption) ?resta8
      case hya8 => (intro w hSw; (try dsimp only at hSw); go_simp; try with_reducible rfl)
      try simp only [Act.put, List.setIfInBounds_toArray, List.set_cons_zero, List.set_cons_succ]
      refine take_yes (i := 9) (some 29) (v := ?va9) (by simp only [List.getElem?_toArray, List.getElem?_cons_succ, List.getElem?_cons_zero]; exact rfl) rfl (by kernel_rfl) (by kernel_rfl) (by kernel_rfl) (fun _ _ _ h => h) (by rfl) ?hya9 (by assumption) ?resta9
      case hya9 => (intro w hSw; (try dsimp only at hSw); go_simp; try with_reducible rfl)
      try simp only [Act.put, List.setIfInBounds_toArray, List.set_cons_zero, List.set_cons_succ]
      refine take_yes (i := 10) (some 30) (v := ?va10) (by simp only [List.getElem?_toArray, List.getElem?_cons_succ, List.getElem?_cons_zero]; exact rfl) rfl (by kernel_rfl) (by kernel_rfl) (by kernel_rfl) (fun _ _ _ h => h) (by rfl) ?hya10 (by assumption) ?resta10
      case hya10 => (intro w hSw; (try dsimp only at hSw); go_simp; try with_reducible rfl)
      try simp only [Act.put, List.setIfInBounds_toArray, List.set_cons_zero, List.set_cons_succ]
      refine take_yes (i := 11) (some 6) (v := ?va11) (by simp only [List.getElem?_toArray, List.getElem?_cons_succ, List.getElem?_cons_zero]; exact rfl) rfl (by kernel_rfl) (by kernel_rfl) (by kernel_rfl) (fun _ _ _ h => h) (by rfl) ?hya11 (by assumption) ?resta11
      case hya11 => (intro w hSw; (try dsimp only at hSw); go_simp; try with_reducible rfl)
      try simp only [Act.put, List.setIfInBounds_toArray, List.set_cons_zero, List.set_cons_succ]
      refine take_yes (i := 12) (some 7) (v := ?va12) (by simp only [List.getElem?_toArray, List.getElem?_cons_succ, List.getElem?_cons_zero]; exact rfl) rfl (by kernel_rfl) (by kernel_rfl) (by kernel_rfl) (fun _ _ _ h => h) (by rfl) ?hya12 (by assumption) ?resta12
      case hya12 => (intro w hSw; (try dsimp only at hSw); go_simp; try with_reducible rfl)
      try simp only [Act.put, List.setIfInBounds_toArray, List.set_cons_zero, List.set_cons_succ]
      refine take_yes (i := 13) (some 8) (v := ?va13) (by simp only [List.getElem?_toArray, List.getElem?_cons_succ, List.getElem?_cons_zero]; exact rfl) rfl (by kernel_rfl) (by kernel_rfl) (by kernel_rfl) (fun _ _ _ h => h) (by rfl) ?hya13 (by assumption) ?resta13
      case hya13 => (intro w hSw; (try dsimp only at hSw); go_simp; try with_reducible rfl)
      try simp only [Act.put, List.setIfInBounds_toArray, List.set_cons_zero, List.set_cons_succ]
      refine wpAnyH_done (by kernel_rfl) ?_ _
      refine NoPanic.normal ?_
      have HB1 : Hid (Below w.heap.size w w1) := Lib.hid (HB0.out.trans (HD1.out.mono HB0.out.size))
      have hsz1 : w.heap.size < w1.heap.size := by have := HD1.out.size; simp at this; omega
      clear hHeld y1 y11 HFN z0 z1 q11 HD1
      by_cases hf : ff = 0
      · subst hf
        have hfb : ((0 : Int) == 0) = true := rfl
        have HX2 := Lib.hid (HX1.out.setTab HT2.out (fun b h1 h2 => ⟨by have : w.heap.size + 1 ≤ b := (by simpa using h2); omega, by have : w.heap.size + 1 ≤ b := (by simpa using h2); omega, hG b (by have : w.heap.size + 1 ≤ b := (by simpa using h2); omega)⟩))
        have HW2 := Lib.hid ((Two.of_below (mb := mb) (p := p) HB1.out).set_ 11 (.slice A2 fl.length c2))
        obtain ⟨_, _, pa, pc, -, -, -, -, -, -, -, -, -, -, -, y11, -, -, -, yf⟩ := HX1.out.cells
        go_wp2
        go_ret2
        rw [HAP.out]
        first | rw [if_pos rfl] | rw [if_pos trivial]
        exact ⟨rfl, HX2.out, HW2.out⟩
      · have hfb : (ff == 0) = false := by simpa using hf
        have HFF := Lib.hid hf
        clear hf
        go_wp2
        go_ret2
        rw [HAP.out, if_neg HFF.out]
        exact ⟨rfl, HX1.out, Two.of_below HB1.out⟩
    · have k1b : (kind == 1) = false := by simpa using k1
      by_cases k23 : kind = 2 ∨ kind = 3
      · obtain ⟨z0, z1, z2, z3, z4, z5, z6, z7⟩ := HE0.out.eight
        by_cases htm : inN tm
        · have HB := Lib.hid (inB_yes htm)
          obtain ⟨ht0, ht1⟩ : 0 ≤ tm ∧ tm ≤ 1099511627776 := And.intro htm.1 htm.2
          obtain ⟨hn0, hn1⟩ := HI.out.now
          by_cases k3 : kind = 3
          · subst k3
            have k2b : ((3 : Int) == 2) = false := rfl
            have HF : Hid (applyF c ks st ⟨3, id, ep, sq, src, sch, tm, ra, rn, rc⟩ vs = ((0, 0), { st with now := max st.now tm })) := Lib.hid (by simp [applyF, htm])
            clear k23 htm k0 k1
            obtain ⟨-, -, -, -, -, -, -, -, -, -, -, x7, -, -, -, -, -, -, -, xf⟩ := HX0.out.cells
            have xf7 := xf 7
            have HX2 := Lib.hid (HX0.out.drew.setNow (max st.now tm))
            have HW2 := Lib.hid ((Two.of_below (mb := mb) (p := p) HB0.out.drew).set_ 7 (.int .i64 (max st.now tm)))
            clear xf z1 z2 z3 z4 z5 z7
            go_enter Try.func20, Try.ntmps20
            go_wp2_with fail
            refine (isTime_any _ _).mono ?_
            rintro e w' ⟨rfl, rfl⟩
            rw [HB.out]
            go_wp2_with fail
            generalize (w.alloc (.cells #[.int .i64 3, .int .i64 id, .int .i64 ep, .int .i64 sq, .string src, .int .i64 sch, .int .i64 tm, .slice ra rn rc] 36)) = w0 at HX0 HB0 HE0 z0 z6 x7 xf7 HX2 HW2 ⊢
            refine wp_region_noPanic ?_
            refine wp_region_held_drew (S := fun w' => w'.cell? ⟨w.heap.size, 6, none⟩ = some (.int .i64 tm)) (by kernel_rfl) ?_ (fun hHeld => ?_)
            · first | exact ⟨by assumption, by assumption⟩ | go_keep
            refine take_yes (i := 0) (some 49) (v := ?vb0) (by simp only [List.getElem?_toArray, List.getElem?_cons_zero]; exact rfl) rfl (by kernel_rfl) (by kernel_rfl) (by kernel_rfl) (fun _ _ _ h => h) (by rfl) ?hyb0 (by assumption) ?restb0
            case hyb0 => (intro w hSw; (try dsimp only at hSw); go_simp; try with_reducible rfl)
            try simp only [Act.put, List.setIfInBounds_toArray, List.set_cons_zero, List.set_cons_succ]
            refine take_yes (i := 1) (some 50) (v := ?vb1) (by simp only [List.getElem?_toArray, List.getElem?_cons_succ, List.getElem?_cons_zero]; exact rfl) rfl (by kernel_rfl) (by kernel_rfl) (by kernel_rfl) (fun _ _ _ h => h) (by rfl) ?hyb1 (by assumption) ?restb1
            case hyb1 => (intro w hSw; (try dsimp only at hSw); go_simp; try with_reducible rfl)
            try simp only [Act.put, List.setIfInBounds_toArray, List.set_cons_zero, List.set_cons_succ]
            refine take_yes (i := 2) (some 51) (v := ?vb2) (by simp only [List.getElem?_toArray, List.getElem?_cons_succ, List.getElem?_cons_zero]; exact rfl) rfl (by kernel_rfl) (by kernel_rfl) (by kernel_rfl) (fun _ _ _ h => h) (by rfl) ?hyb2 (by assumption) ?restb2
            case hyb2 => (intro w hSw; (try dsimp only at hSw); go_simp; try with_reducible rfl)
            try simp only [Act.put, List.setIfInBounds_toArray, List.set_cons_zero, List.set_cons_succ]
            refine take_yes (i := 3) (some 52) (v := ?vb3) (by simp only [List.getElem?_toArray, List.getElem?_cons_succ, List.getElem?_cons_zero]; exact rfl) rfl (by kernel_rfl) (by kernel_rfl) (by kernel_rfl) (fun _ _ _ h => h) (by rfl) ?hyb3 (by assumption) ?restb3
            case hyb3 => (intro w hSw; (try dsimp only at hSw); go_simp; try with_reducible rfl)
            try simp only [Act.put, List.setIfInBounds_toArray, List.set_cons_zero, List.set_cons_succ]
            refine take_yes (i := 5) (some 54) (v := ?vb5) (by simp only [List.getElem?_toArray, List.getElem?_cons_succ, List.getElem?_cons_zero]; exact rfl) rfl (by kernel_rfl) (by kernel_rfl) (by kernel_rfl) (fun _ _ _ h => h) (by rfl) ?hyb5 (by assumption) ?restb5
            case hyb5 => (intro w hSw; (try dsimp only at hSw); go_simp; try with_reducible rfl)
            try simp only [Act.put, List.setIfInBounds_toArray, List.set_cons_zero, List.set_cons_succ]
            refine take_yes (i := 6) (some 55) (v := ?vb6) (by simp only [List.getElem?_toArray, List.getElem?_cons_succ, List.getElem?_cons_zero]; exact rfl) rfl (by kernel_rfl) (by kernel_rfl) (by kernel_rfl) (fun _ _ _ h => h) (by rfl) ?hyb6 (by assumption) ?restb6
            case hyb6 => (intro w hSw; (try dsimp only at hSw); go_simp; try with_reducible rfl)
            try simp only [Act.put, List.setIfInBounds_toArray, List.set_cons_zero, List.set_cons_succ]
            refine wpAnyH_ready (rs := [4]) (by kernel_rfl) (by simp) ?_
            refine AllReadyH.cons rfl (fun K hK => ?_) AllReadyH.nil
            try go_simp
            refine hK.out _ _ ?_ (fun hHeld => ?_)
            · go_keep
            clear hK K
            try simp only [Act.put, List.setIfInBounds_toArray, List.set_cons_zero, List.set_cons_succ]
            refine wpAnyH_ready (rs := [7]) (by kernel_rfl) (by simp) ?_
            refine AllReadyH.cons rfl (fun K hK => ?_) AllReadyH.nil
            try go_simp
            refine hK.out _ _ ?_ (fun hHeld => ?_)
            · go_keep
            clear hK K
            try simp only [Act.put, List.setIfInBounds_toArray, List.set_cons_zero, List.set_cons_succ]
            refine take_yes (i := 8) (some 57) (v := ?vb8) (by simp only [List.getElem?_toArray, List.getElem?_cons_succ, List.getElem?_cons_zero]; exact rfl) rfl (by kernel_rfl) (by kernel_rfl) (by kernel_rfl) (fun _ _ _ h => h) (by rfl) ?hyb8 (by assumption) ?restb8
            case hyb8 => (intro w hSw; (try dsimp only at hSw); go_simp; try with_reducible rfl)
            try simp only [Act.put, List.setIfInBounds_toArray, List.set_cons_zero, List.set_cons_succ]
            refine take_yes (i := 9) (some 58) (v := ?vb9) (by simp only [List.getElem?_toArray, List.getElem?_cons_succ, List.getElem?_cons_zero]; exact rfl) rfl (by kernel_rfl) (by kernel_rfl) (by kernel_rfl) (fun _ _ _ h => h) (by rfl) ?hyb9 (by assumption) ?restb9
            case hyb9 => (intro w hSw; (try dsimp only at hSw); go_simp; try with_reducible rfl)
            try simp only [Act.put, List.setIfInBounds_toArray, List.set_cons_zero, List.set_cons_succ]
            refine wpAnyH_ready (rs := [10]) (by kernel_rfl) (by simp) ?_
            refine AllReadyH.cons rfl (fun K hK => ?_) AllReadyH.nil
            try go_simp
            refine hK.out _ _ ?_ (fun hHeld => ?_)
            · go_keep
            clear hK K
            try simp only [Act.put, List.setIfInBounds_toArray, List.set_cons_zero, List.set_cons_succ]
            refine wpAnyH_done (by kernel_rfl) ?_ _
            refine NoPanic.normal ?_
            clear hHeld
            go_wp2
            go_ret2
            rw [HF.out]
            exact ⟨rfl, HX2.out, HW2.out⟩
          · have h2 : kind = 2 := by omega
            subst h2
            have k3b : ((2 : Int) == 3) = false := rfl
            have hw1 : IntKind.i64.wrap (st.now + c.ahead) = st.now + c.ahead := by rw [IntKind.wrap_i64]; omega
            obtain ⟨-, -, -, -, -, -, -, x3, -, -, -, x7, -, -, -, -, -, -, -, -⟩ := HX0.out.cells
            clear z1 z2 z3 z4 z5 z7 k3 k23
            have HTM := Lib.hid htm
            clear htm
            by_cases ha : st.now + c.ahead < tm
            · have hab : decide (st.now + c.ahead < tm) = true := decide_eq_true ha
              have HF : Hid (applyF c ks st ⟨2, id, ep, sq, src, sch, tm, ra, rn, rc⟩ vs = ((0, 21), st)) := Lib.hid (by simp [applyF, HTM.out, ha])
              go_enter Try.func20, Try.ntmps20
              go_wp2_with fail
              refine (isTime_any _ _).mono ?_
              rintro e w' ⟨rfl, rfl⟩
              rw [HB.out]
              go_wp2_with fail
              refine wp_region_noPanic ?_
              refine wp_region_held_drew (S := fun w' => w'.cell? ⟨w.heap.size, 6, none⟩ = some (.int .i64 tm) ∧ w'.cell? ⟨p, 7, none⟩ = some (.int .i64 st.now) ∧ w'.cell? ⟨p, 3, none⟩ = some (.int .i64 c.ahead)) (by kernel_rfl) ?_ (fun hHeld => ?_)
              · first | exact ⟨by assumption, by assumption⟩ | go_keep
              refine take_yes (i := 0) (some 59) (v := ?vc0) (by simp only [List.getElem?_toArray, List.getElem?_cons_zero]; exact rfl) rfl (by kernel_rfl) (by kernel_rfl) (by kernel_rfl) (fun _ _ _ h => h) (by rfl) ?hyc0 (by assumption) ?restc0
              case hyc0 => (intro w hSw; (try dsimp only at hSw); go_simp; try with_reducible rfl)
              try simp only [Act.put, List.setIfInBounds_toArray, List.set_cons_zero, List.set_cons_succ]
              refine take_yes (i := 1) (some 60) (v := ?vc1) (by simp only [List.getElem?_toArray, List.getElem?_cons_succ, List.getElem?_cons_zero]; exact rfl) rfl (by kernel_rfl) (by kernel_rfl) (by kernel_rfl) (fun _ _ _ h => h) (by rfl) ?hyc1 (by assumption) ?restc1
              case hyc1 => (intro w hSw; (try dsimp only at hSw); go_simp; try with_reducible rfl)
              try simp only [Act.put, List.setIfInBounds_toArray, List.set_cons_zero, List.set_cons_succ]
              refine take_yes (i := 2) (some 61) (v := ?vc2) (by simp only [List.getElem?_toArray, List.getElem?_cons_succ, List.getElem?_cons_zero]; exact rfl) rfl (by kernel_rfl) (by kernel_rfl) (by kernel_rfl) (fun _ _ _ h => h) (by rfl) ?hyc2 (by assumption) ?restc2
              case hyc2 => (intro w hSw; (try dsimp only at hSw); go_simp; try with_reducible rfl)
              try simp only [Act.put, List.setIfInBounds_toArray, List.set_cons_zero, List.set_cons_succ]
              refine take_yes (i := 3) (some 62) (v := ?vc3) (by simp only [List.getElem?_toArray, List.getElem?_cons_succ, List.getElem?_cons_zero]; exact rfl) rfl (by kernel_rfl) (by kernel_rfl) (by kernel_rfl) (fun _ _ _ h => h) (by rfl) ?hyc3 (by assumption) ?restc3
              case hyc3 => (intro w hSw; (try dsimp only at hSw); go_simp; try with_reducible rfl)
              try simp only [Act.put, List.setIfInBounds_toArray, List.set_cons_zero, List.set_cons_succ]
              refine take_yes (i := 4) (some 63) (v := ?vc4) (by simp only [List.getElem?_toArray, List.getElem?_cons_succ, List.getElem?_cons_zero]; exact rfl) rfl (by kernel_rfl) (by kernel_rfl) (by kernel_rfl) (fun _ _ _ h => h) (by rfl) ?hyc4 (by assumption) ?restc4
              case hyc4 => (intro w hSw; (try dsimp only at hSw); go_simp; try with_reducible rfl)
              try simp only [Act.put, List.setIfInBounds_toArray, List.set_cons_zero, List.set_cons_succ]
              refine take_yes (i := 5) (some 64) (v := ?vc5) (by simp only [List.getElem?_toArray, List.getElem?_cons_succ, List.getElem?_cons_zero]; exact rfl) rfl (by kernel_rfl) (by kernel_rfl) (by kernel_rfl) (fun _ _ _ h => h) (by rfl) ?hyc5 (by assumption) ?restc5
              case hyc5 => (intro w hSw; (try dsimp only at hSw); go_simp; try with_reducible rfl)
              try simp only [Act.put, List.setIfInBounds_toArray, List.set_cons_zero, List.set_cons_succ]
              refine take_yes (i := 6) (some 65) (v := ?vc6) (by simp only [List.getElem?_toArray, List.getElem?_cons_succ, List.getElem?_cons_zero]; exact rfl) rfl (by kernel_rfl) (by kernel_rfl) (by kernel_rfl) (fun _ _ _ h => h) (by rfl) ?hyc6 (by assumption) ?restc6
              case hyc6 => (intro w hSw; (try dsimp only at hSw); go_simp; try with_reducible rfl)
              try simp only [Act.put, List.setIfInBounds_toArray, List.set_cons_zero, List.set_cons_succ]
              refine take_yes (i := 7) (some 66) (v := ?vc7) (by simp only [List.getElem?_toArray, List.getElem?_cons_succ, List.getElem?_cons_zero]; exact rfl) rfl (by kernel_rfl) (by kernel_rfl) (by kernel_rfl) (fun _ _ _ h => h) (by rfl) ?hyc7 (by assumption) ?restc7
              case hyc7 => (intro w hSw; (try dsimp only at hSw); go_simp; try with_reducible rfl)
              try simp only [Act.put, List.setIfInBounds_toArray, List.set_cons_zero, List.set_cons_succ]
              refine take_yes (i := 8) (some 67) (v := ?vc8) (by simp only [List.getElem?_toArray, List.getElem?_cons_succ, List.getElem?_cons_zero]; exact rfl) rfl (by kernel_rfl) (by kernel_rfl) (by kernel_rfl) (fun _ _ _ h => h) (by rfl) ?hyc8 (by assumption) ?restc8
              case hyc8 => (intro w hSw; (try dsimp only at hSw); go_simp; try with_reducible rfl)
              try simp only [Act.put, List.setIfInBounds_toArray, List.set_cons_zero, List.set_cons_succ]
              refine take_yes (i := 9) (some 68) (v := ?vc9) (by simp only [List.getElem?_toArray, List.getElem?_cons_succ, List.getElem?_cons_zero]; exact rfl) rfl (by kernel_rfl) (by kernel_rfl) (by kernel_rfl) (fun _ _ _ h => h) (by rfl) ?hyc9 (by assumption) ?restc9
              case hyc9 => (intro w hSw; (try dsimp only at hSw); go_simp; try with_reducible rfl)
              try simp only [Act.put, List.setIfInBounds_toArray, List.set_cons_zero, List.set_cons_succ]
              refine take_yes (i := 10) (some 69) (v := ?vc10) (by simp only [List.getElem?_toArray, List.getElem?_cons_succ, List.getElem?_cons_zero]; exact rfl) rfl (by kernel_rfl) (by kernel_rfl) (by kernel_rfl) (fun _ _ _ h => h) (by rfl) ?hyc10 (by assumption) ?restc10
              case hyc10 => (intro w hSw; (try dsimp only at hSw); go_simp; try with_reducible rfl)
              try simp only [Act.put, List.setIfInBounds_toArray, List.set_cons_zero, List.set_cons_succ]
              refine take_yes (i := 11) (some 70) (v := ?vc11) (by simp only [List.getElem?_toArray, List.getElem?_cons_succ, List.getElem?_cons_zero]; exact rfl) rfl (by kernel_rfl) (by kernel_rfl) (by kernel_rfl) (fun _ _ _ h => h) (by rfl) ?hyc11 (by assumption) ?restc11
              case hyc11 => (intro w hSw; (try dsimp only at hSw); go_simp; try with_reducible rfl)
              try simp only [Act.put, List.setIfInBounds_toArray, List.set_cons_zero, List.set_cons_succ]
              refine take_yes (i := 12) (some 71) (v := ?vc12) (by simp only [List.getElem?_toArray, List.getElem?_cons_succ, List.getElem?_cons_zero]; exact rfl) rfl (by kernel_rfl) (by kernel_rfl) (by kernel_rfl) (fun _ _ _ h => h) (by rfl) ?hyc12 (by assumption) ?restc12
              case hyc12 => (intro w hSw; (try dsimp only at hSw); go_simp; try with_reducible rfl)
              try simp only [Act.put, List.setIfInBounds_toArray, List.set_cons_zero, List.set_cons_succ]
              refine wpAnyH_done (by kernel_rfl) ?_ _
              refine NoPanic.normal ?_
              (try clear hHeld)
              go_wp2
              go_ret2
              rw [HF.out]
              exact ⟨rfl, HX0.out.drew, Two.of_below HB0.out.drew⟩
            · have hab : decide (st.now + c.ahead < tm) = false := decide_eq_false ha
              have HF : Hid (applyF c ks st ⟨2, id, ep, sq, src, sch, tm, ra, rn, rc⟩ vs = ((0, 0), raiseF c st tm)) := Lib.hid (by simp [applyF, HTM.out, ha])
              go_enter Try.func20, Try.ntmps20
              go_wp2_with fail
              refine (isTime_any _ _).mono ?_
              rintro e w' ⟨rfl, rfl⟩
              rw [HB.out]
              go_wp2_with fail
              refine wp_region_noPanic ?_
              refine wp_region_held_drew (S := fun w' => w'.cell? ⟨w.heap.size, 6, none⟩ = some (.int .i64 tm) ∧ w'.cell? ⟨p, 7, none⟩ = some (.int .i64 st.now) ∧ w'.cell? ⟨p, 3, none⟩ = some (.int .i64 c.ahead)) (by kernel_rfl) ?_ (fun hHeld => ?_)
              · first | exact ⟨by assumption, by assumption⟩ | go_keep
              refine take_yes (i := 0) (some 59) (v := ?vd0) (by simp only [List.getElem?_toArray, List.getElem?_cons_zero]; exact rfl) rfl (by kernel_rfl) (by kernel_rfl) (by kernel_rfl) (fun _ _ _ h => h) (by rfl) ?hyd0 (by assumption) ?restd0
              case hyd0 => (intro w hSw; (try dsimp only at hSw); go_simp; try with_reducible rfl)
              try simp only [Act.put, List.setIfInBounds_toArray, List.set_cons_zero, List.set_cons_succ]
              refine take_yes (i := 1) (some 60) (v := ?vd1) (by simp only [List.getElem?_toArray, List.getElem?_cons_succ, List.getElem?_cons_zero]; exact rfl) rfl (by kernel_rfl) (by kernel_rfl) (by kernel_rfl) (fun _ _ _ h => h) (by rfl) ?hyd1 (by assumption) ?restd1
              case hyd1 => (intro w hSw; (try dsimp only at hSw); go_simp; try with_reducible rfl)
              try simp only [Act.put, List.setIfInBounds_toArray, List.set_cons_zero, List.set_cons_succ]
              refine take_yes (i := 2) (some 61) (v := ?vd2) (by simp only [List.getElem?_toArray, List.getElem?_cons_succ, List.getElem?_cons_zero]; exact rfl) rfl (by kernel_rfl) (by kernel_rfl) (by kernel_rfl) (fun _ _ _ h => h) (by rfl) ?hyd2 (by assumption) ?restd2
              case hyd2 => (intro w hSw; (try dsimp only at hSw); go_simp; try with_reducible rfl)
              try simp only [Act.put, List.setIfInBounds_toArray, List.set_cons_zero, List.set_cons_succ]
              refine take_yes (i := 3) (some 62) (v := ?vd3) (by simp only [List.getElem?_toArray, List.getElem?_cons_succ, List.getElem?_cons_zero]; exact rfl) rfl (by kernel_rfl) (by kernel_rfl) (by kernel_rfl) (fun _ _ _ h => h) (by rfl) ?hyd3 (by assumption) ?restd3
              case hyd3 => (intro w hSw; (try dsimp only at hSw); go_simp; try with_reducible rfl)
              try simp only [Act.put, List.setIfInBounds_toArray, List.set_cons_zero, List.set_cons_succ]
              refine take_yes (i := 4) (some 63) (v := ?vd4) (by simp only [List.getElem?_toArray, List.getElem?_cons_succ, List.getElem?_cons_zero]; exact rfl) rfl (by kernel_rfl) (by kernel_rfl) (by kernel_rfl) (fun _ _ _ h => h) (by rfl) ?hyd4 (by assumption) ?restd4
              case hyd4 => (intro w hSw; (try dsimp only at hSw); go_simp; try with_reducible rfl)
              try simp only [Act.put, List.setIfInBounds_toArray, List.set_cons_zero, List.set_cons_succ]
              refine take_yes (i := 5) (some 64) (v := ?vd5) (by simp only [List.getElem?_toArray, List.getElem?_cons_succ, List.getElem?_cons_zero]; exact rfl) rfl (by kernel_rfl) (by kernel_rfl) (by kernel_rfl) (fun _ _ _ h => h) (by rfl) ?hyd5 (by assumption) ?restd5
              case hyd5 => (intro w hSw; (try dsimp only at hSw); go_simp; try with_reducible rfl)
              try simp only [Act.put, List.setIfInBounds_toArray, List.set_cons_zero, List.set_cons_succ]
              refine take_yes (i := 6) (some 65) (v := ?vd6) (by simp only [List.getElem?_toArray, List.getElem?_cons_succ, List.getElem?_cons_zero]; exact rfl) rfl (by kernel_rfl) (by kernel_rfl) (by kernel_rfl) (fun _ _ _ h => h) (by rfl) ?hyd6 (by assumption) ?restd6
              case hyd6 => (intro w hSw; (try dsimp only at hSw); go_simp; try with_reducible rfl)
              try simp only [Act.put, List.setIfInBounds_toArray, List.set_cons_zero, List.set_cons_succ]
              refine take_yes (i := 7) (some 66) (v := ?vd7) (by simp only [List.getElem?_toArray, List.getElem?_cons_succ, List.getElem?_cons_zero]; exact rfl) rfl (by kernel_rfl) (by kernel_rfl) (by kernel_rfl) (fun _ _ _ h => h) (by rfl) ?hyd7 (by assumption) ?restd7
              case hyd7 => (intro w hSw; (try dsimp only at hSw); go_simp; try with_reducible rfl)
              try simp only [Act.put, List.setIfInBounds_toArray, List.set_cons_zero, List.set_cons_succ]
              refine take_yes (i := 8) (some 67) (v := ?vd8) (by simp only [List.getElem?_toArray, List.getElem?_cons_succ, List.getElem?_cons_zero]; exact rfl) rfl (by kernel_rfl) (by kernel_rfl) (by kernel_rfl) (fun _ _ _ h => h) (by rfl) ?hyd8 (by assumption) ?restd8
              case hyd8 => (intro w hSw; (try dsimp only at hSw); go_simp; try with_reducible rfl)
              try simp only [Act.put, List.setIfInBounds_toArray, List.set_cons_zero, List.set_cons_succ]
              refine take_yes (i := 9) (some 68) (v := ?vd9) (by simp only [List.getElem?_toArray, List.getElem?_cons_succ, List.getElem?_cons_zero]; exact rfl) rfl (by kernel_rfl) (by kernel_rfl) (by kernel_rfl) (fun _ _ _ h => h) (by rfl) ?hyd9 (by assumption) ?restd9
              case hyd9 => (intro w hSw; (try dsimp only at hSw); go_simp; try with_reducible rfl)
              try simp only [Act.put, List.setIfInBounds_toArray, List.set_cons_zero, List.set_cons_succ]
              refine take_yes (i := 10) (some 69) (v := ?vd10) (by simp only [List.getElem?_toArray, List.getElem?_cons_succ, List.getElem?_cons_zero]; exact rfl) rfl (by kernel_rfl) (by kernel_rfl) (by kernel_rfl) (fun _ _ _ h => h) (by rfl) ?hyd10 (by assumption) ?restd10
              case hyd10 => (intro w hSw; (try dsimp only at hSw); go_simp; try with_reducible rfl)
              try simp only [Act.put, List.setIfInBounds_toArray, List.set_cons_zero, List.set_cons_succ]
              refine take_yes (i := 11) (some 70) (v := ?vd11) (by simp only [List.getElem?_toArray, List.getElem?_cons_succ, List.getElem?_cons_zero]; exact rfl) rfl (by kernel_rfl) (by kernel_rfl) (by kernel_rfl) (fun _ _ _ h => h) (by rfl) ?hyd11 (by assumption) ?restd11
              case hyd11 => (intro w hSw; (try dsimp only at hSw); go_simp; try with_reducible rfl)
              try simp only [Act.put, List.setIfInBounds_toArray, List.set_cons_zero, List.set_cons_succ]
              refine take_yes (i := 12) (some 71) (v := ?vd12) (by simp only [List.getElem?_toArray, List.getElem?_cons_succ, List.getElem?_cons_zero]; exact rfl) rfl (by kernel_rfl) (by kernel_rfl) (by kernel_rfl) (fun _ _ _ h => h) (by rfl) ?hyd12 (by assumption) ?restd12
              case hyd12 => (intro w hSw; (try dsimp only at hSw); go_simp; try with_reducible rfl)
              try simp only [Act.put, List.setIfInBounds_toArray, List.set_cons_zero, List.set_cons_succ]
              refine wpAnyH_done (by kernel_rfl) ?_ _
              refine NoPanic.normal ?_
              (try clear hHeld)
              have HX1 := Lib.hid HX0.out.drew
              go_wp2_with fail
              refine (raise_any HX1.out hlate HI.out.top tm HTM.out).mono ?_
              rintro e w2 ⟨rfl, hx2, ht2⟩
              have HX2 := Lib.hid hx2
              have HT2 := Lib.hid ((Two.of_below HB0.out.drew).trans ht2)
              clear hx2 ht2
              go_wp2
              go_ret2
              rw [HF.out]
              exact ⟨rfl, HX2.out, HT2.out⟩
        · have HB := Lib.hid (inB_no htm)
          have HF : Hid (applyF c ks st ⟨kind, id, ep, sq, src, sch, tm, ra, rn, rc⟩ vs = ((0, 3), st)) := Lib.hid (by unfold applyF; simp only; rw [if_neg k0, if_neg k1, if_neg (Decidable.not_not.2 k23), if_pos htm])
          clear htm
          rcases k23 with rfl | rfl
          · go_enter Try.func20, Try.ntmps20
            go_wp2_with fail
            refine (isTime_any _ _).mono ?_
            rintro e w' ⟨rfl, rfl⟩
            rw [HB.out]
            go_wp2
            go_ret2
            rw [HF.out]
            exact ⟨rfl, HX0.out, Two.of_below HB0.out⟩
          · go_enter Try.func20, Try.ntmps20
            go_wp2_with fail
            refine (isTime_any _ _).mono ?_
            rintro e w' ⟨rfl, rfl⟩
            rw [HB.out]
            go_wp2
            go_ret2
            rw [HF.out]
            exact ⟨rfl, HX0.out, Two.of_below HB0.out⟩
      · have HF : Hid (applyF c ks st ⟨kind, id, ep, sq, src, sch, tm, ra, rn, rc⟩ vs = ((0, 1), st)) := Lib.hid (by unfold applyF; simp only; rw [if_neg k0, if_neg k1, if_pos k23])
        have k2b : (kind == 2) = false := by simp; omega
        have k3b : (kind == 3) = false := by simp; omega
        clear k23
        go_enter Try.func20, Try.ntmps20
        go_wp2
        go_ret2
        rw [HF.out]
        exact ⟨rfl, HX0.out, Two.of_below HB0.out⟩
end Go.Proofs.Ytghciaaedjomjaa
