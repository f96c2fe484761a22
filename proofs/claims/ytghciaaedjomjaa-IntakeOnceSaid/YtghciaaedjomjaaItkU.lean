/- intake: put. -/
import Derived.Test.YtghciaaedjomjaaItkD
namespace Go.Proofs.Ytghciaaedjomjaa
open Go.RowKit

variable {G : Nat → Prop}
def PairPost (w : World) (r : Int × Int) (e : Ending) (w' : World) : Prop := e = .returned (.tuple #[.int .i64 r.1, .int .i64 r.2]) ∧ Below w.heap.size w w'
theorem ret_pair {r : Int × Int} {a b : Int} (h : r = (a, b)) : Ending.returned (.tuple #[.int .i64 a, .int .i64 b]) = .returned (.tuple #[.int .i64 r.1, .int .i64 r.2]) := by rw [h]
def entC (r : ERaw) : Array Value := #[.int .i64 r.kind, .int .i64 r.id, .int .i64 r.ep, .int .i64 r.sq, .string r.src, .int .i64 r.sch, .int .i64 r.tm, .slice r.ra r.rn r.rc]
theorem fits_ne {ks : List KnV} {src : ByteArray} {sch : Int} {vs : List VVal} : fitsF ks src sch vs = 0 ∨ fitsF ks src sch vs = 16 ∨ fitsF ks src sch vs = 17 := by
  unfold fitsF
  split
  · exact .inr (.inr rfl)
  · split
    · exact .inl rfl
    · exact .inr (.inl rfl)
set_option maxHeartbeats 4000000 in
set_option maxRecDepth 100000 in
theorem put_any {p mb : Nat} {c : Cfg} {ks : List KnV} {st : ISt} {w : World} (h : IX G w p mb c ks st) (hi : IInv c st) (hc : RightC c) (hk : ks.length ≤ 1000) (hn : st.next ≤ 1000000) (r : ERaw) (vs : List VVal) (hr : SlT 3 encV w r.ra r.rn r.rc vs) (hrn : r.rn ≤ 1000000) :
    Calls Try.prog 47 #[.pointer (some ⟨p, 0, none⟩), .agg #[.int .i64 r.kind, .int .i64 r.id, .int .i64 r.ep, .int .i64 r.sq, .string r.src, .int .i64 r.sch, .int .i64 r.tm, .slice r.ra r.rn r.rc]] w (PairPost w (putN c ks st r vs)) := by
  obtain ⟨kind, id, ep, sq, src, sch, tm, ra, rn, rc⟩ := r
  simp only at *
  have hls := hc.late
  have hah := hc.ahead
  have hnow := hi.now
  have htop := hi.top
  have HX := Lib.hid h
  have HR := Lib.hid hr
  have HI := Lib.hid hi
  have HB0 : Hid (Below w.heap.size w (w.alloc (.cells #[.int .i64 kind, .int .i64 id, .int .i64 ep, .int .i64 sq, .string src, .int .i64 sch, .int .i64 tm, .slice ra rn rc] 36))) := Lib.hid ((Below.refl _ w).alloc (Nat.le_refl _) _)
  have HE0 := Lib.hid (Blk.new w 36 #[.int .i64 kind, .int .i64 id, .int .i64 ep, .int .i64 sq, .string src, .int .i64 sch, .int .i64 tm, .slice ra rn rc])
  have HX0 := Lib.hid (HX.out.below HB0.out)
  obtain ⟨ln, lf, hL⟩ : ∃ ln lf, lookF st.tab id ep sq = (ln, lf) := ⟨_, _, rfl⟩
  obtain ⟨ka, kc, pa, pc, -, -, -, -, -, -, -, -, -, -, -, q11, -, -, ht, -⟩ := HX0.out.cells
  have HTB := Lib.hid ht
  obtain ⟨z0, z1, z2, z3, z4, z5, z6, z7⟩ := HE0.out.eight
  have HPN : Hid (putN c ks st ⟨kind, id, ep, sq, src, sch, tm, ra, rn, rc⟩ vs = if lf ≠ 0 then (ln, lf) else if ¬ inN tm then (0, 3) else if fitsF ks src sch vs ≠ 0 then (0, fitsF ks src sch vs) else if tm ≤ closedF c st then (0, 20) else if st.now + c.ahead < tm then (0, 21) else if c.rate ≤ st.cnt tm then (0, 22) else ((st.next : Int), 0)) := Lib.hid (by unfold putN; simp only [hL])
  have HLK : Hid (∀ W, Below (w.alloc (.cells #[.int .i64 kind, .int .i64 id, .int .i64 ep, .int .i64 sq, .string src, .int .i64 sch, .int .i64 tm, .slice ra rn rc] 36)).heap.size (w.alloc (.cells #[.int .i64 kind, .int .i64 id, .int .i64 ep, .int .i64 sq, .string src, .int .i64 sch, .int .i64 tm, .slice ra rn rc] 36)) W → Calls Try.prog 9 #[.slice pa st.tab.length pc, .agg #[.int .i64 kind, .int .i64 id, .int .i64 ep, .int .i64 sq, .string src, .int .i64 sch, .int .i64 tm, .slice ra rn rc]] W (LookPost W (ln, lf))) := Lib.hid (fun W hW => by
    rw [← hL]
    exact look_any _ pa pc st.tab kind id ep sq src sch tm ra rn rc W HI.out.right (HTB.out.below hW))
  clear h hr hi ht hL
  go_enter Try.func47, Try.ntmps47
  go_wp2_with fail
  refine wp_region_noPanic ?_
  refine wp_region_held_drew (S := fun w' => w'.cell? ⟨p, 11, none⟩ = some (.slice pa st.tab.length pc) ∧ w'.cell? ⟨w.heap.size, 0, none⟩ = some (.int .i64 kind) ∧ w'.cell? ⟨w.heap.size, 1, none⟩ = some (.int .i64 id) ∧ w'.cell? ⟨w.heap.size, 2, none⟩ = some (.int .i64 ep) ∧ w'.cell? ⟨w.heap.size, 3, none⟩ = some (.int .i64 sq) ∧ w'.cell? ⟨w.heap.size, 4, none⟩ = some (.string src) ∧ w'.cell? ⟨w.heap.size, 5, none⟩ = some (.int .i64 sch) ∧ w'.cell? ⟨w.heap.size, 6, none⟩ = some (.int .i64 tm) ∧ w'.cell? ⟨w.heap.size, 7, none⟩ = some (.slice ra rn rc)) (by kernel_rfl) ?_ (fun hHeld => ?_)
  · first | exact ⟨by assumption, by assumption⟩ | go_keep
  refine take_yes (i := 0) (some 10) (v := ?va0) (by simp only [List.getElem?_toArray, List.getElem?_cons_zero]; exact rfl) rfl (by kernel_rfl) (by kernel_rfl) (by kernel_rfl) (fun _ _ _ h => h) (by rfl) ?hya0 (by assumption) ?resta0
  case hya0 => (intro w hSw; (try dsimp only at hSw); go_simp; try with_reducible rfl)
  try simp only [Act.put, List.setIfInBounds_toArray, List.set_cons_zero, List.set_cons_succ]
  refine take_yes (i := 1) (some 11) (v := ?va1) (by simp only [List.getElem?_toArray, List.getElem?_cons_succ, List.getElem?_cons_zero]; exact rfl) rfl (by kernel_rfl) (by kernel_rfl) (by kernel_rfl) (fun _ _ _ h => h) (by rfl) ?hya1 (by assumption) ?resta1
  case hya1 => (intro w hSw; (try dsimp only at hSw); go_simp; try with_reducible rfl)
  try simp only [Act.put, List.setIfInBounds_toArray, List.set_cons_zero, List.set_cons_succ]
  refine take_yes (i := 2) (some 12) (v := ?va2) (by simp only [List.getElem?_toArray, List.getElem?_cons_succ, List.getElem?_cons_zero]; exact rfl) rfl (by kernel_rfl) (by kernel_rfl) (by kernel_rfl) (fun _ _ _ h => h) (by rfl) ?hya2 (by assumption) ?resta2
  case hya2 => (intro w hSw; (try dsimp only at hSw); go_simp; try with_reducible rfl)
  try simp only [Act.put, List.setIfInBounds_toArray, List.set_cons_zero, List.set_cons_succ]
  refine take_yes (i := 3) (some 13) (v := ?va3) (by simp only [List.getElem?_toArray, List.getElem?_cons_succ, List.getElem?_cons_zero]; exact rfl) rfl (by kernel_rfl) (by kernel_rfl) (by kernel_rfl) (fun _ _ _ h => h) (by rfl) ?hya3 (by assumption) ?resta3
  case hya3 => (intro w hSw; (try dsimp only at hSw); go_simp; try with_reducible rfl)
  try simp only [Act.put, List.setIfInBounds_toArray, List.set_cons_zero, List.set_cons_succ]
  refine take_yes (i := 4) (some 14) (v := ?va4) (by simp only [List.getElem?_toArray, List.getElem?_cons_succ, List.getElem?_cons_zero]; exact rfl) rfl (by kernel_rfl) (by kernel_rfl) (by kernel_rfl) (fun _ _ _ h => h) (by rfl) ?hya4 (by assumption) ?resta4
  case hya4 => (intro w hSw; (try dsimp only at hSw); go_simp; try with_reducible rfl)
  try simp only [Act.put, List.setIfInBounds_toArray, List.set_cons_zero, List.set_cons_succ]
  refine wpAnyH_ready (rs := [5]) (by kernel_rfl) (by simp) ?_
  refine AllReadyH.cons rfl (fun K hK => ?_) AllReadyH.nil
  go_simp
  go_wp2_with (go_at_call 9; refine (HLK.out _ (Below.refl _ _).drew).mono ?_; rintro e w1 ⟨rfl, hb1⟩; have HD1 : Hid (Below (w.alloc (.cells #[.int .i64 kind, .int .i64 id, .int .i64 ep, .int .i64 sq, .string src, .int .i64 sch, .int .i64 tm, .slice ra rn rc] 36)).heap.size (w.alloc (.cells #[.int .i64 kind, .int .i64 id, .int .i64 ep, .int .i64 sq, .string src, .int .i64 sch, .int .i64 tm, .slice ra rn rc] 36)) w1) := Lib.hid ((Below.refl _ _).drew.trans hb1); have HX1 := Lib.hid (HX0.out.below HD1.out); have HE1 := Lib.hid (HE0.out.below HD1.out HE0.out.lt); obtain ⟨y0, y1, y2, y3, y4, y5, y6, y7⟩ := HE1.out.eight; have HQ11 := Lib.hid ((HD1.out.cell (p := ⟨p, 11, none⟩) HX0.out.lt.1).trans q11); have y11 := HQ11.out; clear hb1)
  refine hK.out _ _ ?_ (fun hHeld => ?_)
  · go_keep
  clear hK K
  try simp only [Act.put, List.setIfInBounds_toArray, List.set_cons_zero, List.set_cons_succ]
  refine take_yes (i := 6) (some 9) (v := ?va6) (by simp only [List.getElem?_toArray, List.getElem?_cons_succ, List.getElem?_cons_zero]; exact rfl) rfl (by kernel_rfl) (by kernel_rfl) (by kernel_rfl) (fun _ _ _ h => h) (by rfl) ?hya6 (by assumption) ?resta6
  case hya6 => (intro w hSw; (try dsimp only at hSw); go_simp; try with_reducible rfl)
  try simp only [Act.put, List.setIfInBounds_toArray, List.set_cons_zero, List.set_cons_succ]
  refine take_yes (i := 7) (some 16) (v := ?va7) (by simp only [List.getElem?_toArray, List.getElem?_cons_succ, List.getElem?_cons_zero]; exact rfl) rfl (by kernel_rfl) (by kernel_rfl) (by kernel_rfl) (fun _ _ _ h => h) (by rfl) ?hya7 (by assumption) ?resta7
  case hya7 => (intro w hSw; (try dsimp only at hSw); go_simp; try with_reducible rfl)
  try simp only [Act.put, List.setIfInBounds_toArray, List.set_cons_zero, List.set_cons_succ]
  refine take_yes (i := 8) (some 17) (v := ?va8) (by simp only [List.getElem?_toArray, List.getElem?_cons_succ, List.getElem?_cons_zero]; exact rfl) rfl (by kernel_rfl) (by kernel_rfl) (by kernel_rfl) (fun _ _ _ h => h) (by rfl) ?hya8 (by assumption) ?resta8
  case hya8 => (intro w hSw; (try dsimp only at hSw); go_simp; try with_reducible rfl)
  try simp only [Act.put, List.setIfInBounds_toArray, List.set_cons_zero, List.set_cons_succ]
  refine take_yes (i := 9) (some 6) (v := ?va9) (by simp only [List.getElem?_toArray, List.getElem?_cons_succ, List.getElem?_cons_zero]; exact rfl) rfl (by kernel_rfl) (by kernel_rfl) (by kernel_rfl) (fun _ _ _ h => h) (by rfl) ?hya9 (by assumption) ?resta9
  case hya9 => (intro w hSw; (try dsimp only at hSw); go_simp; try with_reducible rfl)
  try simp only [Act.put, List.setIfInBounds_toArray, List.set_cons_zero, List.set_cons_succ]
  refine take_yes (i := 10) (some 7) (v := ?va10) (by simp only [List.getElem?_toArray, List.getElem?_cons_succ, List.getElem?_cons_zero]; exact rfl) rfl (by kernel_rfl) (by kernel_rfl) (by kernel_rfl) (fun _ _ _ h => h) (by rfl) ?hya10 (by assumption) ?resta10
  case hya10 => (intro w hSw; (try dsimp only at hSw); go_simp; try with_reducible rfl)
  try simp only [Act.put, List.setIfInBounds_toArray, List.set_cons_zero, List.set_cons_succ]
  refine wpAnyH_done (by kernel_rfl) ?_ _
  refine NoPanic.normal ?_
  have HB1 : Hid (Below w.heap.size w w1) := Lib.hid (HB0.out.trans (HD1.out.mono HB0.out.size))
  clear HLK HTB z0 z1 z2 z3 z4 z5 z6 z7 q11 HX HX0 HE0 HB0 HD1 HQ11 y11
  (try clear hHeld)
  by_cases hlf : lf = 0
  · subst hlf
    have hnb : ((0 : Int) != 0) = false := rfl
    go_wp2_with fail
    refine (isTime_any _ _).mono ?_
    rintro e w' ⟨rfl, rfl⟩
    by_cases htm : inN tm
    · have hib := inB_yes htm
      rw [hib]
      have htm2 := htm
      obtain ⟨tm0, tm1⟩ := htm2
      go_wp2_with fail
      obtain ⟨ka, kc, pa, pc, -, -, -, -, -, -, x6, -, -, -, -, -, -, hkn, -, -⟩ := HX1.out.cells
      refine (fits_any (notPM G p mb) p ka kc ks kind id ep sq src sch tm ra rn rc vs _ HX1.out.lt.1 x6 hkn hk (HR.out.below HB1.out) hrn).mono ?_
      rintro e w2 ⟨rfl, hb2⟩
      have HX2 := Lib.hid (HX1.out.below hb2)
      have HE2 := Lib.hid (HE1.out.below hb2 HE1.out.lt)
      have HB2 := Lib.hid (HB1.out.trans (hb2.mono HB1.out.size))
      clear hb2 x6 hkn HX1 HE1 HB1 y0 y1 y2 y3 y4 y5 y6 y7
      by_cases hf : fitsF ks src sch vs = 0
      · obtain ⟨F, hFe⟩ : ∃ F, fitsF ks src sch vs = F := ⟨_, rfl⟩
        rw [hFe] at hf
        rw [hFe]
        subst hf
        obtain ⟨z0, z1, z2, z3, z4, z5, z6, z7⟩ := HE2.out.eight
        go_wp2_with fail
        refine wp_region_noPanic ?_
        refine wp_region_held_drew (S := fun w' => w'.cell? ⟨w.heap.size, 6, none⟩ = some (.int .i64 tm)) (by kernel_rfl) ?_ (fun hHeld => ?_)
        · first | exact ⟨by assumption, by assumption⟩ | go_keep
        refine take_yes (i := 0) (some 33) (v := ?vb0) (by simp only [List.getElem?_toArray, List.getElem?_cons_zero]; exact rfl) rfl (by kernel_rfl) (by kernel_rfl) (by kernel_rfl) (fun _ _ _ h => h) (by rfl) ?hyb0 (by assumption) ?restb0
        case hyb0 => (intro w hSw; (try dsimp only at hSw); go_simp; try with_reducible rfl)
        try simp only [Act.put, List.setIfInBounds_toArray, List.set_cons_zero, List.set_cons_succ]
        refine take_yes (i := 1) (some 34) (v := ?vb1) (by simp only [List.getElem?_toArray, List.getElem?_cons_succ, List.getElem?_cons_zero]; exact rfl) rfl (by kernel_rfl) (by kernel_rfl) (by kernel_rfl) (fun _ _ _ h => h) (by rfl) ?hyb1 (by assumption) ?restb1
        case hyb1 => (intro w hSw; (try dsimp only at hSw); go_simp; try with_reducible rfl)
        try simp only [Act.put, List.setIfInBounds_toArray, List.set_cons_zero, List.set_cons_succ]
        refine take_yes (i := 2) (some 35) (v := ?vb2) (by simp only [List.getElem?_toArray, List.getElem?_cons_succ, List.getElem?_cons_zero]; exact rfl) rfl (by kernel_rfl) (by kernel_rfl) (by kernel_rfl) (fun _ _ _ h => h) (by rfl) ?hyb2 (by assumption) ?restb2
        case hyb2 => (intro w hSw; (try dsimp only at hSw); go_simp; try with_reducible rfl)
        try simp only [Act.put, List.setIfInBounds_toArray, List.set_cons_zero, List.set_cons_succ]
        refine wpAnyH_ready (rs := [3]) (by kernel_rfl) (by simp) ?_
        refine AllReadyH.cons rfl (fun K hK => ?_) AllReadyH.nil
        go_simp
        go_wp2_with (go_at_call 22; refine (closed_any (show IX G (World.drew w2) p mb c ks st from HX2.out.drew) hls htop).mono ?_; rintro e w3 ⟨rfl, hb3⟩; have HX3 : Hid (IX G w3 p mb c ks st) := Lib.hid (HX2.out.below ((Below.refl _ _).drew.trans hb3)); have HE3 := Lib.hid (HE2.out.below ((Below.refl _ _).drew.trans hb3) HE2.out.lt); have HB3 : Hid (Below w.heap.size w w3) := Lib.hid (HB2.out.trans (((Below.refl _ w2).drew.trans hb3).mono HB2.out.size)); obtain ⟨y0, y1, y2, y3, y4, y5, y6, y7⟩ := HE3.out.eight; clear hb3)
        refine hK.out _ _ ?_ (fun hHeld => ?_)
        · go_keep
        clear hK K
        try simp only [Act.put, List.setIfInBounds_toArray, List.set_cons_zero, List.set_cons_succ]
        refine take_yes (i := 4) (some 37) (v := ?vb4) (by simp only [List.getElem?_toArray, List.getElem?_cons_succ, List.getElem?_cons_zero]; exact rfl) rfl (by kernel_rfl) (by kernel_rfl) (by kernel_rfl) (fun _ _ _ h => h) (by rfl) ?hyb4 (by assumption) ?restb4
        case hyb4 => (intro w hSw; (try dsimp only at hSw); go_simp; try with_reducible rfl)
        try simp only [Act.put, List.setIfInBounds_toArray, List.set_cons_zero, List.set_cons_succ]
        refine take_yes (i := 5) (some 32) (v := ?vb5) (by simp only [List.getElem?_toArray, List.getElem?_cons_succ, List.getElem?_cons_zero]; exact rfl) rfl (by kernel_rfl) (by kernel_rfl) (by kernel_rfl) (fun _ _ _ h => h) (by rfl) ?hyb5 (by assumption) ?restb5
        case hyb5 => (intro w hSw; (try dsimp only at hSw); go_simp; try with_reducible rfl)
        try simp only [Act.put, List.setIfInBounds_toArray, List.set_cons_zero, List.set_cons_succ]
        refine wpAnyH_done (by kernel_rfl) ?_ _
        refine NoPanic.normal ?_
        clear HX2 HE2 HB2 z0 z1 z2 z3 z4 z5 z6 z7
        (try clear hHeld)
        by_cases hcl : tm ≤ closedF c st
        · have hclb : decide (tm ≤ closedF c st) = true := decide_eq_true hcl
          go_wp2
          go_ret2
          exact ⟨ret_pair (by rw [HPN.out, if_neg (fun q => q rfl), if_neg (Decidable.not_not.2 htm), hFe, if_neg (fun q => q rfl), if_pos hcl]), HB3.out⟩
        · have hclb : decide (tm ≤ closedF c st) = false := decide_eq_false hcl
          have HCL := Lib.hid hcl
          obtain ⟨-, -, -, -, -, -, -, x3, -, -, -, x7, -, -, -, -, -, -, -, -⟩ := HX3.out.cells
          have hw1 : IntKind.i64.wrap (st.now + c.ahead) = st.now + c.ahead := by rw [IntKind.wrap_i64]; omega
          go_wp2_with fail
          refine wp_region_noPanic ?_
          refine wp_region_held_drew (S := fun w' => w'.cell? ⟨w.heap.size, 6, none⟩ = some (.int .i64 tm) ∧ w'.cell? ⟨p, 7, none⟩ = some (.int .i64 st.now) ∧ w'.cell? ⟨p, 3, none⟩ = some (.int .i64 c.ahead)) (by kernel_rfl) ?_ (fun hHeld => ?_)
          · first | exact ⟨by assumption, by assumption⟩ | go_keep
          refine take_yes (i := 0) (some 39) (v := ?vc0) (by simp only [List.getElem?_toArray, List.getElem?_cons_zero]; exact rfl) rfl (by kernel_rfl) (by kernel_rfl) (by kernel_rfl) (fun _ _ _ h => h) (by rfl) ?hyc0 (by assumption) ?restc0
          case hyc0 => (intro w hSw; (try dsimp only at hSw); go_simp; try with_reducible rfl)
          try simp only [Act.put, List.setIfInBounds_toArray, List.set_cons_zero, List.set_cons_succ]
          refine take_yes (i := 1) (some 40) (v := ?vc1) (by simp only [List.getElem?_toArray, List.getElem?_cons_succ, List.getElem?_cons_zero]; exact rfl) rfl (by kernel_rfl) (by kernel_rfl) (by kernel_rfl) (fun _ _ _ h => h) (by rfl) ?hyc1 (by assumption) ?restc1
          case hyc1 => (intro w hSw; (try dsimp only at hSw); go_simp; try with_reducible rfl)
          try simp only [Act.put, List.setIfInBounds_toArray, List.set_cons_zero, List.set_cons_succ]
          refine take_yes (i := 2) (some 41) (v := ?vc2) (by simp only [List.getElem?_toArray, List.getElem?_cons_succ, List.getElem?_cons_zero]; exact rfl) rfl (by kernel_rfl) (by kernel_rfl) (by kernel_rfl) (fun _ _ _ h => h) (by rfl) ?hyc2 (by assumption) ?restc2
          case hyc2 => (intro w hSw; (try dsimp only at hSw); go_simp; try with_reducible rfl)
          try simp only [Act.put, List.setIfInBounds_toArray, List.set_cons_zero, List.set_cons_succ]
          refine take_yes (i := 3) (some 42) (v := ?vc3) (by simp only [List.getElem?_toArray, List.getElem?_cons_succ, List.getElem?_cons_zero]; exact rfl) rfl (by kernel_rfl) (by kernel_rfl) (by kernel_rfl) (fun _ _ _ h => h) (by rfl) ?hyc3 (by assumption) ?restc3
          case hyc3 => (intro w hSw; (try dsimp only at hSw); go_simp; try with_reducible rfl)
          try simp only [Act.put, List.setIfInBounds_toArray, List.set_cons_zero, List.set_cons_succ]
          refine take_yes (i := 4) (some 43) (v := ?vc4) (by simp only [List.getElem?_toArray, List.getElem?_cons_succ, List.getElem?_cons_zero]; exact rfl) rfl (by kernel_rfl) (by kernel_rfl) (by kernel_rfl) (fun _ _ _ h => h) (by rfl) ?hyc4 (by assumption) ?restc4
          case hyc4 => (intro w hSw; (try dsimp only at hSw); go_simp; try with_reducible rfl)
          try simp only [Act.put, List.setIfInBounds_toArray, List.set_cons_zero, List.set_cons_succ]
          refine take_yes (i := 5) (some 44) (v := ?vc5) (by simp only [List.getElem?_toArray, List.getElem?_cons_succ, List.getElem?_cons_zero]; exact rfl) rfl (by kernel_rfl) (by kernel_rfl) (by kernel_rfl) (fun _ _ _ h => h) (by rfl) ?hyc5 (by assumption) ?restc5
          case hyc5 => (intro w hSw; (try dsimp only at hSw); go_simp; try with_reducible rfl)
          try simp only [Act.put, List.setIfInBounds_toArray, List.set_cons_zero, List.set_cons_succ]
          refine take_yes (i := 6) (some 45) (v := ?vc6) (by simp only [List.getElem?_toArray, List.getElem?_cons_succ, List.getElem?_cons_zero]; exact rfl) rfl (by kernel_rfl) (by kernel_rfl) (by kernel_rfl) (fun _ _ _ h => h) (by rfl) ?hyc6 (by assumption) ?restc6
          case hyc6 => (intro w hSw; (try dsimp only at hSw); go_simp; try with_reducible rfl)
          try simp only [Act.put, List.setIfInBounds_toArray, List.set_cons_zero, List.set_cons_succ]
          refine take_yes (i := 7) (some 46) (v := ?vc7) (by simp only [List.getElem?_toArray, List.getElem?_cons_succ, List.getElem?_cons_zero]; exact rfl) rfl (by kernel_rfl) (by kernel_rfl) (by kernel_rfl) (fun _ _ _ h => h) (by rfl) ?hyc7 (by assumption) ?restc7
          case hyc7 => (intro w hSw; (try dsimp only at hSw); go_simp; try with_reducible rfl)
          try simp only [Act.put, List.setIfInBounds_toArray, List.set_cons_zero, List.set_cons_succ]
          refine take_yes (i := 8) (some 47) (v := ?vc8) (by simp only [List.getElem?_toArray, List.getElem?_cons_succ, List.getElem?_cons_zero]; exact rfl) rfl (by kernel_rfl) (by kernel_rfl) (by kernel_rfl) (fun _ _ _ h => h) (by rfl) ?hyc8 (by assumption) ?restc8
          case hyc8 => (intro w hSw; (try dsimp only at hSw); go_simp; try with_reducible rfl)
          try simp only [Act.put, List.setIfInBounds_toArray, List.set_cons_zero, List.set_cons_succ]
          refine take_yes (i := 9) (some 48) (v := ?vc9) (by simp only [List.getElem?_toArray, List.getElem?_cons_succ, List.getElem?_cons_zero]; exact rfl) rfl (by kernel_rfl) (by kernel_rfl) (by kernel_rfl) (fun _ _ _ h => h) (by rfl) ?hyc9 (by assumption) ?restc9
          case hyc9 => (intro w hSw; (try dsimp only at hSw); go_simp; try with_reducible rfl)
          try simp only [Act.put, List.setIfInBounds_toArray, List.set_cons_zero, List.set_cons_succ]
          refine take_yes (i := 10) (some 49) (v := ?vc10) (by simp only [List.getElem?_toArray, List.getElem?_cons_succ, List.getElem?_cons_zero]; exact rfl) rfl (by kernel_rfl) (by kernel_rfl) (by kernel_rfl) (fun _ _ _ h => h) (by rfl) ?hyc10 (by assumption) ?restc10
          case hyc10 => (intro w hSw; (try dsimp only at hSw); go_simp; try with_reducible rfl)
          try simp only [Act.put, List.setIfInBounds_toArray, List.set_cons_zero, List.set_cons_succ]
          refine take_yes (i := 11) (some 50) (v := ?vc11) (by simp only [List.getElem?_toArray, List.getElem?_cons_succ, List.getElem?_cons_zero]; exact rfl) rfl (by kernel_rfl) (by kernel_rfl) (by kernel_rfl) (fun _ _ _ h => h) (by rfl) ?hyc11 (by assumption) ?restc11
          case hyc11 => (intro w hSw; (try dsimp only at hSw); go_simp; try with_reducible rfl)
          try simp only [Act.put, List.setIfInBounds_toArray, List.set_cons_zero, List.set_cons_succ]
          refine take_yes (i := 12) (some 51) (v := ?vc12) (by simp only [List.getElem?_toArray, List.getElem?_cons_succ, List.getElem?_cons_zero]; exact rfl) rfl (by kernel_rfl) (by kernel_rfl) (by kernel_rfl) (fun _ _ _ h => h) (by rfl) ?hyc12 (by assumption) ?restc12
          case hyc12 => (intro w hSw; (try dsimp only at hSw); go_simp; try with_reducible rfl)
          try simp only [Act.put, List.setIfInBounds_toArray, List.set_cons_zero, List.set_cons_succ]
          refine take_yes (i := 13) (some 38) (v := ?vc13) (by simp only [List.getElem?_toArray, List.getElem?_cons_succ, List.getElem?_cons_zero]; exact rfl) rfl (by kernel_rfl) (by kernel_rfl) (by kernel_rfl) (fun _ _ _ h => h) (by rfl) ?hyc13 (by assumption) ?restc13
          case hyc13 => (intro w hSw; (try dsimp only at hSw); go_simp; try with_reducible rfl)
          try simp only [Act.put, List.setIfInBounds_toArray, List.set_cons_zero, List.set_cons_succ]
          refine wpAnyH_done (by kernel_rfl) ?_ _
          refine NoPanic.normal ?_
          (try clear hHeld)
          by_cases ha : st.now + c.ahead < tm
          · have hab : decide (st.now + c.ahead < tm) = true := decide_eq_true ha
            go_wp2
            go_ret2
            exact ⟨ret_pair (by rw [HPN.out, if_neg (fun q => q rfl), if_neg (Decidable.not_not.2 htm), hFe, if_neg (fun q => q rfl), if_neg (by have := HCL.out; omega), if_pos ha]), HB3.out.drew⟩
          · have hab : decide (st.now + c.ahead < tm) = false := decide_eq_false ha
            have HA := Lib.hid ha
            clear x3 x7
            have HX4 : Hid (IX G (World.drew w3) p mb c ks st) := Lib.hid HX3.out.drew
            have HE4 := Lib.hid HE3.out.drew
            obtain ⟨-, -, -, -, -, -, -, -, x4, -, -, -, -, -, -, -, x12, -, -, -⟩ := HX4.out.cells
            obtain ⟨z0, z1, z2, z3, z4, z5, z6, z7⟩ := HE4.out.eight
            have hlk := HX4.out.mapc.lookup (t := tm) ⟨by omega, by omega⟩
            have hlk2 := HX4.out.drew.mapc.lookup (t := tm) ⟨by omega, by omega⟩
            clear y0 y1 y2 y3 y4 y5 y6 y7 z0 z1 z2 z3 z4 z5 z7
            go_wp2_with fail
            refine wp_region_noPanic ?_
            refine wp_region_held_drew (S := fun w' => w'.cell? ⟨w.heap.size, 6, none⟩ = some (.int .i64 tm) ∧ w'.cell? ⟨p, 12, none⟩ = some (.map (some mb)) ∧ w'.cell? ⟨p, 4, none⟩ = some (.int .i64 c.rate) ∧ (Instr.lookup 67 (.map (some mb)) (.int .i64 tm) false).run Try.prog w' = .ok (.int .i64 (st.cnt tm)) w') (by kernel_rfl) ?_ (fun hHeld => ?_)
            · first | exact ⟨by assumption, by assumption⟩ | go_keep
            refine take_yes (i := 0) (some 53) (v := ?vd0) (by simp only [List.getElem?_toArray, List.getElem?_cons_zero]; exact rfl) rfl (by kernel_rfl) (by kernel_rfl) (by kernel_rfl) (fun _ _ _ h => h) (by rfl) ?hyd0 (by assumption) ?restd0
            case hyd0 => (intro w hSw; (try dsimp only at hSw); go_simp; try with_reducible rfl)
            try simp only [Act.put, List.setIfInBounds_toArray, List.set_cons_zero, List.set_cons_succ]
            refine take_yes (i := 1) (some 54) (v := ?vd1) (by simp only [List.getElem?_toArray, List.getElem?_cons_succ, List.getElem?_cons_zero]; exact rfl) rfl (by kernel_rfl) (by kernel_rfl) (by kernel_rfl) (fun _ _ _ h => h) (by rfl) ?hyd1 (by assumption) ?restd1
            case hyd1 => (intro w hSw; (try dsimp only at hSw); go_simp; try with_reducible rfl)
            try simp only [Act.put, List.setIfInBounds_toArray, List.set_cons_zero, List.set_cons_succ]
            refine take_yes (i := 2) (some 55) (v := ?vd2) (by simp only [List.getElem?_toArray, List.getElem?_cons_succ, List.getElem?_cons_zero]; exact rfl) rfl (by kernel_rfl) (by kernel_rfl) (by kernel_rfl) (fun _ _ _ h => h) (by rfl) ?hyd2 (by assumption) ?restd2
            case hyd2 => (intro w hSw; (try dsimp only at hSw); go_simp; try with_reducible rfl)
            try simp only [Act.put, List.setIfInBounds_toArray, List.set_cons_zero, List.set_cons_succ]
            refine take_yes (i := 3) (some 56) (v := ?vd3) (by simp only [List.getElem?_toArray, List.getElem?_cons_succ, List.getElem?_cons_zero]; exact rfl) rfl (by kernel_rfl) (by kernel_rfl) (by kernel_rfl) (fun _ _ _ h => h) (by rfl) ?hyd3 (by assumption) ?restd3
            case hyd3 => (intro w hSw; (try dsimp only at hSw); go_simp; try with_reducible rfl)
            try simp only [Act.put, List.setIfInBounds_toArray, List.set_cons_zero, List.set_cons_succ]
            refine take_yes (i := 4) (some 57) (v := ?vd4) (by simp only [List.getElem?_toArray, List.getElem?_cons_succ, List.getElem?_cons_zero]; exact rfl) rfl (by kernel_rfl) (by kernel_rfl) (by kernel_rfl) (fun _ _ _ h => h) (by rfl) ?hyd4 (by assumption) ?restd4
            case hyd4 => (intro w hSw; (try dsimp only at hSw); go_simp; try with_reducible rfl)
            try simp only [Act.put, List.setIfInBounds_toArray, List.set_cons_zero, List.set_cons_succ]
            refine take_yes (i := 5) (some 58) (v := ?vd5) (by simp only [List.getElem?_toArray, List.getElem?_cons_succ, List.getElem?_cons_zero]; exact rfl) rfl (by kernel_rfl) (by kernel_rfl) (by kernel_rfl) (fun _ _ _ h => h) (by rfl) ?hyd5 (by assumption) ?restd5
            case hyd5 => (intro w hSw; (try dsimp only at hSw); go_simp; try with_reducible rfl)
            try simp only [Act.put, List.setIfInBounds_toArray, List.set_cons_zero, List.set_cons_succ]
            refine take_yes (i := 6) (some 59) (v := ?vd6) (by simp only [List.getElem?_toArray, List.getElem?_cons_succ, List.getElem?_cons_zero]; exact rfl) rfl (by kernel_rfl) (by kernel_rfl) (by kernel_rfl) (fun _ _ _ h => h) (by rfl) ?hyd6 (by assumption) ?restd6
            case hyd6 => (intro w hSw; (try dsimp only at hSw); go_simp; try with_reducible rfl)
            try simp only [Act.put, List.setIfInBounds_toArray, List.set_cons_zero, List.set_cons_succ]
            refine take_yes (i := 7) (some 60) (v := ?vd7) (by simp only [List.getElem?_toArray, List.getElem?_cons_succ, List.getElem?_cons_zero]; exact rfl) rfl (by kernel_rfl) (by kernel_rfl) (by kernel_rfl) (fun _ _ _ h => h) (by rfl) ?hyd7 (by assumption) ?restd7
            case hyd7 => (intro w hSw; (try dsimp only at hSw); go_simp; try with_reducible rfl)
            try simp only [Act.put, List.setIfInBounds_toArray, List.set_cons_zero, List.set_cons_succ]
            refine take_yes (i := 8) (some 61) (v := ?vd8) (by simp only [List.getElem?_toArray, List.getElem?_cons_succ, List.getElem?_cons_zero]; exact rfl) rfl (by kernel_rfl) (by kernel_rfl) (by kernel_rfl) (fun _ _ _ h => h) (by rfl) ?hyd8 (by assumption) ?restd8
            case hyd8 => (intro w hSw; (try dsimp only at hSw); go_simp; try with_reducible rfl)
            try simp only [Act.put, List.setIfInBounds_toArray, List.set_cons_zero, List.set_cons_succ]
            refine take_yes (i := 9) (some 62) (v := ?vd9) (by simp only [List.getElem?_toArray, List.getElem?_cons_succ, List.getElem?_cons_zero]; exact rfl) rfl (by kernel_rfl) (by kernel_rfl) (by kernel_rfl) (fun _ _ _ h => h) (by rfl) ?hyd9 (by assumption) ?restd9
            case hyd9 => (intro w hSw; (try dsimp only at hSw); go_simp; try with_reducible rfl)
            try simp only [Act.put, List.setIfInBounds_toArray, List.set_cons_zero, List.set_cons_succ]
            refine take_yes (i := 10) (some 63) (v := ?vd10) (by simp only [List.getElem?_toArray, List.getElem?_cons_succ, List.getElem?_cons_zero]; exact rfl) rfl (by kernel_rfl) (by kernel_rfl) (by kernel_rfl) (fun _ _ _ h => h) (by rfl) ?hyd10 (by assumption) ?restd10
            case hyd10 => (intro w hSw; (try dsimp only at hSw); go_simp; try with_reducible rfl)
            try simp only [Act.put, List.setIfInBounds_toArray, List.set_cons_zero, List.set_cons_succ]
            refine take_yes (i := 11) (some 64) (v := ?vd11) (by simp only [List.getElem?_toArray, List.getElem?_cons_succ, List.getElem?_cons_zero]; exact rfl) rfl (by kernel_rfl) (by kernel_rfl) (by kernel_rfl) (fun _ _ _ h => h) (by rfl) ?hyd11 (by assumption) ?restd11
            case hyd11 => (intro w hSw; (try dsimp only at hSw); go_simp; try with_reducible rfl)
            try simp only [Act.put, List.setIfInBounds_toArray, List.set_cons_zero, List.set_cons_succ]
            refine take_yes (i := 12) (some 65) (v := ?vd12) (by simp only [List.getElem?_toArray, List.getElem?_cons_succ, List.getElem?_cons_zero]; exact rfl) rfl (by kernel_rfl) (by kernel_rfl) (by kernel_rfl) (fun _ _ _ h => h) (by rfl) ?hyd12 (by assumption) ?restd12
            case hyd12 => (intro w hSw; (try dsimp only at hSw); go_simp; try with_reducible rfl)
            try simp only [Act.put, List.setIfInBounds_toArray, List.set_cons_zero, List.set_cons_succ]
            refine take_yes (i := 13) (some 52) (v := ?vd13) (by simp only [List.getElem?_toArray, List.getElem?_cons_succ, List.getElem?_cons_zero]; exact rfl) rfl (by kernel_rfl) (by kernel_rfl) (by kernel_rfl) (fun _ _ _ h => h) (by rfl) ?hyd13 (by assumption) ?restd13
            case hyd13 => (intro w hSw; (try dsimp only at hSw); go_simp; try with_reducible rfl)
            try simp only [Act.put, List.setIfInBounds_toArray, List.set_cons_zero, List.set_cons_succ]
            refine wpAnyH_done (by kernel_rfl) ?_ _
            refine NoPanic.normal ?_
            (try clear hHeld)
            by_cases hra : c.rate ≤ st.cnt tm
            · have hrb : decide (c.rate ≤ st.cnt tm) = true := decide_eq_true hra
              go_wp2
              go_ret2
              exact ⟨ret_pair (by rw [HPN.out, if_neg (fun q => q rfl), if_neg (Decidable.not_not.2 htm), hFe, if_neg (fun q => q rfl), if_neg (by have := HCL.out; omega), if_neg (by have := HA.out; omega), if_pos hra]), HB3.out.drew.drew⟩
            · have hrb : decide (c.rate ≤ st.cnt tm) = false := decide_eq_false hra
              obtain ⟨-, -, -, -, -, -, -, -, -, -, -, -, -, x9, -, -, -, -, -, -⟩ := HX4.out.drew.cells
              clear x4 x12 z6 hlk hlk2
              go_wp2
              go_ret2
              exact ⟨ret_pair (by rw [HPN.out, if_neg (fun q => q rfl), if_neg (Decidable.not_not.2 htm), hFe, if_neg (fun q => q rfl), if_neg (by have := HCL.out; omega), if_neg (by have := HA.out; omega), if_neg (by omega)]), HB3.out.drew.drew⟩
      · obtain ⟨F, hFe⟩ : ∃ F, fitsF ks src sch vs = F := ⟨_, rfl⟩
        rw [hFe] at hf
        rw [hFe]
        have hfb : (F != 0) = true := by simpa using hf
        go_wp2
        go_ret2
        exact ⟨ret_pair (by rw [HPN.out]; simp [htm, hFe, hf]), HB2.out⟩
    · have hib := inB_no htm
      rw [hib]
      go_wp2
      go_ret2
      exact ⟨ret_pair (by rw [HPN.out]; simp [htm]), HB1.out⟩
  · have hnb : (lf != 0) = true := by simpa using hlf
    go_wp2
    go_ret2
    exact ⟨ret_pair (by rw [HPN.out]; simp [hlf]), HB1.out⟩
end Go.Proofs.Ytghciaaedjomjaa
