/- IntakeOnce: the walk of the law. -/
import Derived.Test.YtghciaaedjomjaaLawFinal
namespace Go.Proofs.Ytghciaaedjomjaa
open Go.RowKit

theorem info_Ent : (Try.prog.info? 36).map (fun i => (i.zero, i.size, i.bytes)) = some (some (.agg #[.int .i64 0, .int .i64 0, .int .i64 0, .int .i64 0, .string ⟨#[]⟩, .int .i64 0, .int .i64 0, .slice none 0 0]), 8, 88) := by kernel_rfl
def Same (w : World) (x : Kp) (e : Ent) : Prop := e.r.kind = 0 ∧ e.r.id = x.id ∧ e.r.ep = x.epoch ∧ e.r.sq = x.seq ∧ SlT 3 encV w e.r.ra e.r.rn e.r.rc e.vs ∧ e.r.rn ≤ 12
structure MemD (w : World) (B p mb : Nat) (c : Cfg) (st : ISt) (all : List Kp) (dn : List Ent) (da : Option Addr) (dc : Nat) (i : Nat) (wr : World) : Prop where
  ix : IX (fun b => some b ≠ (Value.slice da dn.length dc).ownBlock) wr p mb c known1 st
  inv : IInv c st
  dinv : DInv st all
  nx : st.next ≤ i
  rf : st.refused ≤ i
  len : dn.length = all.length
  lei : dn.length ≤ i
  same : ∀ (k : Nat) (x : Kp) (e : Ent), all[k]? = some x → dn[k]? = some e → Same w x e
  own : wr.ownsRow B 36 8 (.slice da dn.length dc) dn.length (dn.flatMap encE)
  below : Below w.heap.size w wr
  bs : w.heap.size ≤ p ∧ w.heap.size ≤ mb ∧ p < B ∧ mb < B ∧ w.heap.size ≤ B ∧ B ≤ wr.heap.size
section
variable {w wr w' : World} {B p mb : Nat} {c : Cfg} {st st' : ISt} {all : List Kp} {dn : List Ent} {da : Option Addr} {dc i : Nat}
theorem MemD.belowW (h : MemD w B p mb c st all dn da dc i wr) (hb : Below wr.heap.size wr w') : MemD w B p mb c st all dn da dc i w' :=
  ⟨h.ix.below hb, h.inv, h.dinv, h.nx, h.rf, h.len, h.lei, h.same, own_below h.own hb, h.below.trans (hb.mono h.below.size), by have := h.bs; have := hb.size; omega⟩
/-- One entry is applied, and nothing is kept. -/
theorem MemD.app (h : MemD w B p mb c st all dn da dc i wr) (hx : IX (fun b => some b ≠ (Value.slice da dn.length dc).ownBlock) w' p mb c known1 st') (ht : Two p mb wr w') (hi : IInv c st') (hd : DInv st' all) (h1 : st'.next ≤ i + 1) (h2 : st'.refused ≤ i + 1) : MemD w B p mb c st' all dn da dc (i + 1) w' :=
  ⟨hx, hi, hd, h1, h2, h.len, Nat.le_succ_of_le h.lei, h.same, own_two h.own ht h.bs.2.2.1 h.bs.2.2.2.1, h.below.trans (ht.below h.below.size h.bs.1 h.bs.2.1), by have := h.bs; have := ht.size; omega⟩
theorem MemD.cells (h : MemD w B p mb c st all dn da dc i wr) {db df k : Nat} {x : Ent} (ha : da = some ⟨db, df, none⟩) (hx : dn[k]? = some x) :
    wr.cell? ⟨db, df + k * 8, none⟩ = some (.int .i64 x.r.kind) ∧ wr.cell? ⟨db, df + k * 8 + 1, none⟩ = some (.int .i64 x.r.id) ∧ wr.cell? ⟨db, df + k * 8 + 2, none⟩ = some (.int .i64 x.r.ep) ∧ wr.cell? ⟨db, df + k * 8 + 3, none⟩ = some (.int .i64 x.r.sq) ∧
    wr.cell? ⟨db, df + k * 8 + 4, none⟩ = some (.string x.r.src) ∧ wr.cell? ⟨db, df + k * 8 + 5, none⟩ = some (.int .i64 x.r.sch) ∧ wr.cell? ⟨db, df + k * 8 + 6, none⟩ = some (.int .i64 x.r.tm) ∧ wr.cell? ⟨db, df + k * 8 + 7, none⟩ = some (.slice x.r.ra x.r.rn x.r.rc) := by
  have hs : SlT 8 encE wr da dn.length dc dn := SlT.of_own encE_len h.own rfl
  obtain ⟨b, off, e, hb, hc⟩ := hs.2.2 (Nat.lt_of_le_of_lt (Nat.zero_le _) (List.getElem?_eq_some_iff.1 hx).1)
  rw [ha] at e
  injection e with e
  injection e with e1 e2
  subst e1 e2
  exact cellsE hc hb (Below.refl _ _) hx
theorem MemD.kp (h : MemD w B p mb c st all dn da dc i wr) {k : Nat} {e : Ent} (he : dn[k]? = some e) : ∃ x, all[k]? = some x ∧ Same w x e := by
  obtain ⟨x, hx⟩ : ∃ x, all[k]? = some x := ⟨_, List.getElem?_eq_getElem (by have := (List.getElem?_eq_some_iff.1 he).1; have := h.len; omega)⟩
  exact ⟨x, hx, h.same k x e hx he⟩
end
theorem ofK_take (all : List Kp) (id ep : Int) (k : Nat) (x : Kp) (h : all[k]? = some x) : (ofK (all.take (k + 1)) id ep).length = (ofK (all.take k) id ep).length + if x.id = id ∧ x.epoch = ep then 1 else 0 := by
  rw [List.take_add_one, h, ofK_append, List.length_append]
  congr 1
  show (ofK [x] id ep).length = _
  rw [ofK_one]
  split <;> rfl
theorem ofK_le (all : List Kp) (id ep : Int) : (ofK all id ep).length ≤ all.length := List.length_filter_le _ _
set_option maxHeartbeats 8000000 in
set_option maxRecDepth 100000 in
theorem ionce_any (c : Cfg) (A : Option Addr) (cc : Nat) (l : List Ent) (PA : Option Addr) (pn pc : Nat) (ps : List Int) (w : World) (hr : EntAt w A cc l) (hl : l.length ≤ maxLen) (hp : SlT 1 eI w PA pn pc ps) :
    Calls Try.prog 5 #[.agg #[.int .i64 c.parts, .int .i64 c.delay, .int .i64 c.late, .int .i64 c.ahead, .int .i64 c.rate, .int .i64 c.span], .slice A l.length cc, .slice PA pn pc] w fun e w' => e = .returned (.bool true) ∧ Below w.heap.size w w' := by
  have HR := Lib.hid hr
  have HL := Lib.hid hl
  have HPK := Lib.hid hp
  have HB0 : Hid (Below w.heap.size w (w.alloc (.cells (cfgCells c) 45))) := Lib.hid ((Below.refl _ w).alloc (Nat.le_refl _) _)
  have HE0 := Lib.hid (Blk.new w 45 (cfgCells c))
  simp only [cfgCells] at HB0 HE0
  clear hr hl hp
  cases hR : rightB c with
  | false =>
    have HRB := Lib.hid hR
    clear hR
    go_enter Try.func5, Try.ntmps5
    go_wp2_with fail
    refine (small11_any _).mono ?_
    rintro e w1 ⟨rfl, hb1⟩
    have HB1 : Hid (Below w.heap.size w w1) := Lib.hid (HB0.out.trans (hb1.mono HB0.out.size))
    have HE1 := Lib.hid (HE0.out.below hb1 HE0.out.lt)
    have hz1 : w.heap.size < w1.heap.size := HE1.out.lt
    obtain ⟨z0, z1, z2, z3, z4, z5, zf⟩ := HE1.out.six
    clear hb1 HB0 HE0 zf
    go_wp2_with fail
    refine wp_region_noPanic ?_
    refine wp_region_held_drew (S := fun w' => w'.cell? ⟨w.heap.size, 0, none⟩ = some (.int .i64 c.parts) ∧ w'.cell? ⟨w.heap.size, 1, none⟩ = some (.int .i64 c.delay) ∧ w'.cell? ⟨w.heap.size, 2, none⟩ = some (.int .i64 c.late) ∧ w'.cell? ⟨w.heap.size, 3, none⟩ = some (.int .i64 c.ahead) ∧ w'.cell? ⟨w.heap.size, 4, none⟩ = some (.int .i64 c.rate) ∧ w'.cell? ⟨w.heap.size, 5, none⟩ = some (.int .i64 c.span)) (by kernel_rfl) ?_ (fun hHeld => ?_)
    · first | exact ⟨by assumption, by assumption⟩ | go_keep
    refine take_yes (i := 0) (some 20) (v := ?va0) (by simp only [List.getElem?_toArray, List.getElem?_cons_zero]; exact rfl) rfl (by kernel_rfl) (by kernel_rfl) (by kernel_rfl) (fun _ _ _ h => h) (by rfl) ?hya0 (by assumption) ?resta0
    case hya0 => (intro w hSw; (try dsimp only at hSw); go_simp; try with_reducible rfl)
    try simp only [Act.put, List.setIfInBounds_toArray, List.set_cons_zero, List.set_cons_succ]
    refine wpAnyH_ready (rs := [1]) (by kernel_rfl) (by simp) ?_
    refine AllReadyH.cons rfl (fun K hK => ?_) AllReadyH.nil
    try go_simp
    go_wp2_with (first | (go_at_call 17; refine (known_any _).mono ?_; rintro e w2 ⟨ka, kc, rfl, hk2, hb2⟩; have HD2 : Hid (Below w1.heap.size w1 w2) := Lib.hid ((Below.refl _ _).drew.trans hb2); have HE2 := Lib.hid (HE1.out.below HD2.out HE1.out.lt); have HK2 := Lib.hid hk2; have HB2 := Lib.hid (HB1.out.trans (HD2.out.mono HB1.out.size)); obtain ⟨y0, y1, y2, y3, y4, y5, yf⟩ := HE2.out.six; clear hb2 hk2 yf HD2) | (go_at_call 16; refine (new_no HK2.out betw_known cols_known HRB.out).mono ?_; rintro e w3 ⟨rfl, hb3⟩; have HE3 := Lib.hid (HE2.out.below hb3 HE2.out.lt); have HB3 := Lib.hid (HB2.out.trans (hb3.mono HB2.out.size)); obtain ⟨x0, x1, x2, x3, x4, x5, xf⟩ := HE3.out.six; clear hb3 xf))
    refine hK.out _ _ ?_ (fun hHeld => ?_)
    · go_keep
    clear hK K
    try simp only [Act.put, List.setIfInBounds_toArray, List.set_cons_zero, List.set_cons_succ]
    refine wpAnyH_ready (rs := [2]) (by kernel_rfl) (by simp) ?_
    refine AllReadyH.cons rfl (fun K hK => ?_) AllReadyH.nil
    try go_simp
    go_wp2_with (first | (go_at_call 17; refine (known_any _).mono ?_; rintro e w2 ⟨ka, kc, rfl, hk2, hb2⟩; have HD2 : Hid (Below w1.heap.size w1 w2) := Lib.hid ((Below.refl _ _).drew.trans hb2); have HE2 := Lib.hid (HE1.out.below HD2.out HE1.out.lt); have HK2 := Lib.hid hk2; have HB2 := Lib.hid (HB1.out.trans (HD2.out.mono HB1.out.size)); obtain ⟨y0, y1, y2, y3, y4, y5, yf⟩ := HE2.out.six; clear hb2 hk2 yf HD2) | (go_at_call 16; refine (new_no HK2.out betw_known cols_known HRB.out).mono ?_; rintro e w3 ⟨rfl, hb3⟩; have HE3 := Lib.hid (HE2.out.below hb3 HE2.out.lt); have HB3 := Lib.hid (HB2.out.trans (hb3.mono HB2.out.size)); obtain ⟨x0, x1, x2, x3, x4, x5, xf⟩ := HE3.out.six; clear hb3 xf))
    refine hK.out _ _ ?_ (fun hHeld => ?_)
    · go_keep
    clear hK K
    try simp only [Act.put, List.setIfInBounds_toArray, List.set_cons_zero, List.set_cons_succ]
    refine take_yes (i := 3) (some 8) (v := ?va3) (by simp only [List.getElem?_toArray, List.getElem?_cons_succ, List.getElem?_cons_zero]; exact rfl) rfl (by kernel_rfl) (by kernel_rfl) (by kernel_rfl) (fun _ _ _ h => h) (by rfl) ?hya3 (by assumption) ?resta3
    case hya3 => (intro w hSw; (try dsimp only at hSw); go_simp; try with_reducible rfl)
    try simp only [Act.put, List.setIfInBounds_toArray, List.set_cons_zero, List.set_cons_succ]
    refine wpAnyH_done (by kernel_rfl) ?_ _
    refine NoPanic.normal ?_
    clear hHeld z0 z1 z2 z3 z4 z5 y0 y1 y2 y3 y4 y5 HE1 HE2
    go_wp2_with fail
    refine (few11_any A cc l 100 _ (HR.out.below HB3.out) HL.out).mono ?_
    rintro e w' ⟨b, rfl, hfew, rfl⟩
    clear hfew
    by_cases hpn : 100 < pn
    · have hpz : (100 : Int) < (pn : Int) := by omega
      have hpb : decide ((100 : Int) < (pn : Int)) = true := decide_eq_true hpz
      cases b
      all_goals
        go_wp2_with fail
        refine (rightI_any c _).mono ?_
        rintro e w5 ⟨rfl, hb5⟩
        rw [HRB.out]
        have HB5 := Lib.hid (HB3.out.trans (hb5.mono HB3.out.size))
        clear hb5
        go_wp2
        go_ret
        exact ⟨rfl, HB5.out⟩
    · have hpz : ¬ (100 : Int) < (pn : Int) := by omega
      have hpb : decide ((100 : Int) < (pn : Int)) = false := decide_eq_false hpz
      cases b
      all_goals
        go_wp2_with fail
        refine (rightI_any c _).mono ?_
        rintro e w5 ⟨rfl, hb5⟩
        rw [HRB.out]
        have HB5 := Lib.hid (HB3.out.trans (hb5.mono HB3.out.size))
        clear hb5
        go_wp2
        go_ret
        exact ⟨rfl, HB5.out⟩
  | true =>
    have HRB := Lib.hid hR
    have hc := rightB_yes hR
    have HC := Lib.hid hc
    clear hR hc
    go_enter Try.func5, Try.ntmps5
    go_wp2_with fail
    refine (small11_any _).mono ?_
    rintro e w1 ⟨rfl, hb1⟩
    have HB1 : Hid (Below w.heap.size w w1) := Lib.hid (HB0.out.trans (hb1.mono HB0.out.size))
    have HE1 := Lib.hid (HE0.out.below hb1 HE0.out.lt)
    have hz1 : w.heap.size < w1.heap.size := HE1.out.lt
    obtain ⟨z0, z1, z2, z3, z4, z5, zf⟩ := HE1.out.six
    clear hb1 HB0 HE0 zf
    go_wp2_with fail
    refine wp_region_noPanic ?_
    refine wp_region_held_drew (S := fun w' => w'.cell? ⟨w.heap.size, 0, none⟩ = some (.int .i64 c.parts) ∧ w'.cell? ⟨w.heap.size, 1, none⟩ = some (.int .i64 c.delay) ∧ w'.cell? ⟨w.heap.size, 2, none⟩ = some (.int .i64 c.late) ∧ w'.cell? ⟨w.heap.size, 3, none⟩ = some (.int .i64 c.ahead) ∧ w'.cell? ⟨w.heap.size, 4, none⟩ = some (.int .i64 c.rate) ∧ w'.cell? ⟨w.heap.size, 5, none⟩ = some (.int .i64 c.span)) (by kernel_rfl) ?_ (fun hHeld => ?_)
    · first | exact ⟨by assumption, by assumption⟩ | go_keep
    refine take_yes (i := 0) (some 20) (v := ?vb0) (by simp only [List.getElem?_toArray, List.getElem?_cons_zero]; exact rfl) rfl (by kernel_rfl) (by kernel_rfl) (by kernel_rfl) (fun _ _ _ h => h) (by rfl) ?hyb0 (by assumption) ?restb0
    case hyb0 => (intro w hSw; (try dsimp only at hSw); go_simp; try with_reducible rfl)
    try simp only [Act.put, List.setIfInBounds_toArray, List.set_cons_zero, List.set_cons_succ]
    refine wpAnyH_ready (rs := [1]) (by kernel_rfl) (by simp) ?_
    refine AllReadyH.cons rfl (fun K hK => ?_) AllReadyH.nil
    try go_simp
    go_wp2_with (first | (go_at_call 17; refine (known_any _).mono ?_; rintro e w2 ⟨ka, kc, rfl, hk2, hb2⟩; have HD2 : Hid (Below w1.heap.size w1 w2) := Lib.hid ((Below.refl _ _).drew.trans hb2); have HE2 := Lib.hid (HE1.out.below HD2.out HE1.out.lt); have HK2 := Lib.hid hk2; have HB2 := Lib.hid (HB1.out.trans (HD2.out.mono HB1.out.size)); obtain ⟨y0, y1, y2, y3, y4, y5, yf⟩ := HE2.out.six; clear hb2 hk2 yf HD2) | (go_at_call 16; refine (new_yes (G := fun b => some b ≠ (Value.slice none 0 0).ownBlock) HK2.out (fun b hb => by simp [Value.ownBlock]) betw_known cols_known HRB.out).mono ?_; rintro e w3 ⟨p, mb, rfl, hx3, hp3, hm3, hb3⟩; have HE3 := Lib.hid (HE2.out.below hb3 HE2.out.lt); have HB3 := Lib.hid (HB2.out.trans (hb3.mono HB2.out.size)); have HX3 := Lib.hid hx3; have hz2 : w.heap.size < w2.heap.size := HE2.out.lt; obtain ⟨x0, x1, x2, x3, x4, x5, xf⟩ := HE3.out.six; clear hb3 xf hx3))
    refine hK.out _ _ ?_ (fun hHeld => ?_)
    · go_keep
    clear hK K
    try simp only [Act.put, List.setIfInBounds_toArray, List.set_cons_zero, List.set_cons_succ]
    refine wpAnyH_ready (rs := [2]) (by kernel_rfl) (by simp) ?_
    refine AllReadyH.cons rfl (fun K hK => ?_) AllReadyH.nil
    try go_simp
    go_wp2_with (first | (go_at_call 17; refine (known_any _).mono ?_; rintro e w2 ⟨ka, kc, rfl, hk2, hb2⟩; have HD2 : Hid (Below w1.heap.size w1 w2) := Lib.hid ((Below.refl _ _).drew.trans hb2); have HE2 := Lib.hid (HE1.out.below HD2.out HE1.out.lt); have HK2 := Lib.hid hk2; have HB2 := Lib.hid (HB1.out.trans (HD2.out.mono HB1.out.size)); obtain ⟨y0, y1, y2, y3, y4, y5, yf⟩ := HE2.out.six; clear hb2 hk2 yf HD2) | (go_at_call 16; refine (new_yes (G := fun b => some b ≠ (Value.slice none 0 0).ownBlock) HK2.out (fun b hb => by simp [Value.ownBlock]) betw_known cols_known HRB.out).mono ?_; rintro e w3 ⟨p, mb, rfl, hx3, hp3, hm3, hb3⟩; have HE3 := Lib.hid (HE2.out.below hb3 HE2.out.lt); have HB3 := Lib.hid (HB2.out.trans (hb3.mono HB2.out.size)); have HX3 := Lib.hid hx3; have hz2 : w.heap.size < w2.heap.size := HE2.out.lt; obtain ⟨x0, x1, x2, x3, x4, x5, xf⟩ := HE3.out.six; clear hb3 xf hx3))
    refine hK.out _ _ ?_ (fun hHeld => ?_)
    · go_keep
    clear hK K
    try simp only [Act.put, List.setIfInBounds_toArray, List.set_cons_zero, List.set_cons_succ]
    refine take_yes (i := 3) (some 8) (v := ?vb3) (by simp only [List.getElem?_toArray, List.getElem?_cons_succ, List.getElem?_cons_zero]; exact rfl) rfl (by kernel_rfl) (by kernel_rfl) (by kernel_rfl) (fun _ _ _ h => h) (by rfl) ?hyb3 (by assumption) ?restb3
    case hyb3 => (intro w hSw; (try dsimp only at hSw); go_simp; try with_reducible rfl)
    try simp only [Act.put, List.setIfInBounds_toArray, List.set_cons_zero, List.set_cons_succ]
    refine wpAnyH_done (by kernel_rfl) ?_ _
    refine NoPanic.normal ?_
    clear hHeld z0 z1 z2 z3 z4 z5 y0 y1 y2 y3 y4 y5 x0 x1 x2 x3 x4 x5 HE1 HE2 HB1 HB2 HK2 HE3
    go_wp2_with fail
    refine (few11_any A cc l 100 _ (HR.out.below HB3.out) HL.out).mono ?_
    rintro e w' ⟨b, rfl, hfew, rfl⟩
    cases b with
    | false =>
      clear hfew
      go_wp2
      go_ret
      exact ⟨rfl, HB3.out⟩
    | true =>
      obtain ⟨hll, hrn⟩ := hfew rfl
      have HRN := Lib.hid hrn
      clear hfew hrn
      by_cases hpn : 100 < pn
      · have hpz : (100 : Int) < (pn : Int) := by omega
        have hpb : decide ((100 : Int) < (pn : Int)) = true := decide_eq_true hpz
        go_wp2
        go_ret
        exact ⟨rfl, HB3.out⟩
      have hpz : ¬ (100 : Int) < (pn : Int) := by omega
      have hpb : decide ((100 : Int) < (pn : Int)) = false := decide_eq_false hpz
      have HM0 : Hid (MemD w w'.heap.size p mb c ist0 [] [] none 0 0 w') := Lib.hid ⟨HX3.out, iinv0 HC.out, dinv0, Nat.le_refl _, Nat.le_refl _, rfl, Nat.le_refl _, (by intro k x e h; simp at h), World.ownsRow_nil _ _ _ _, HB3.out, by have := HX3.out.lt; have := HB3.out.size; omega⟩
      clear HX3 HB3 hp3 hm3 hz1 hz2
      revert HM0
      revert w'
      intro w0 HM0
      generalize hBB : w0.heap.size = B at HM0
      clear hBB
      go_wp2_with fail
      go_loopg [9, 10, 13, 14] l.length (fun gg s9 s10 _ _ wr => ∃ (i : Nat) (st : ISt) (all : List Kp) (dn : List Ent) (da : Option Addr) (dc : Nat), s10 = .int .i64 i ∧ i ≤ l.length ∧ l.length - i ≤ gg ∧ s9 = .slice da dn.length dc ∧ Hid (MemD w B p mb c st all dn da dc i wr))
      case atStart => exact ⟨0, ist0, [], [], none, 0, rfl, by omega, by omega, rfl, HM0⟩
      case round =>
        obtain ⟨i, st, all, dn, da, dc, rfl, hi, hg, rfl, HM⟩ := hrel
        clear HM0
        revert HM
        revert wr
        intro wo HM
        by_cases hlt : i < l.length
        · have hltz : (i : Int) < (l.length : Int) := by omega
          have hiz0 : (0 : Int) ≤ (i : Int) := by omega
          obtain ⟨ab, ao, rfl, hab, hcells⟩ := HR.out.1.2.2 (by omega)
          obtain ⟨x, hx⟩ : ∃ x, l[i]? = some x := ⟨_, List.getElem?_eq_getElem hlt⟩
          have HCE := Lib.hid hcells
          have HXL := Lib.hid hx
          have HRX := Lib.hid (HR.out.2 x (List.mem_of_getElem? hx))
          have hrnx : x.r.rn ≤ 12 := HRN.out x (List.mem_of_getElem? hx)
          obtain ⟨e0, e1, e2, e3, e4, e5, e6, e7⟩ := cellsE HCE.out hab HM.out.below HXL.out
          have habw : ab < wo.heap.size := Nat.lt_of_lt_of_le hab HM.out.below.size
          have hst1 : st.next ≤ 1000000 := by have := HM.out.nx; omega
          have hst2 : st.refused ≤ 1000000 := by have := HM.out.rf; omega
          clear hcells hx
          obtain ⟨⟨rk, rid, rep, rsq, rsrc, rsch, rtm, rra, rrn, rrc⟩, vs⟩ := x
          simp only at e0 e1 e2 e3 e4 e5 e6 e7 hrnx HRX
          obtain ⟨rn', re, st', hAP⟩ : ∃ n e st', applyF c known1 st ⟨rk, rid, rep, rsq, rsrc, rsch, rtm, rra, rrn, rrc⟩ vs = ((n, e), st') := ⟨_, _, _, rfl⟩
          have HAP := Lib.hid hAP
          clear hAP
          go_wp2_with fail
          refine (apply_any HM.out.ix (fun b hb e => by have := (HM.out.own.lt b e.symm).2; omega) HM.out.inv HC.out betw_known hst1 hst2 ⟨rk, rid, rep, rsq, rsrc, rsch, rtm, rra, rrn, rrc⟩ vs (HRX.out.below HM.out.below) (by show rrn ≤ 1000000; omega)).mono ?_
          rintro e wd ⟨rfl, hxd, htd⟩
          rw [HAP.out] at hxd
          rw [HAP.out]
          have hAN := apply_next (c := c) (ks := known1) (st := st) (r := ⟨rk, rid, rep, rsq, rsrc, rsch, rtm, rra, rrn, rrc⟩) (vs := vs)
          rw [HAP.out] at hAN
          have HBD : Hid (Below w.heap.size w wd) := Lib.hid (HM.out.below.trans (htd.below HM.out.below.size HM.out.bs.1 HM.out.bs.2.1))
          have HINV : Hid (IInv c st') := Lib.hid (by have := iinv_apply (ks := known1) (r := ⟨rk, rid, rep, rsq, rsrc, rsch, rtm, rra, rrn, rrc⟩) (vs := vs) HC.out HM.out.inv hst1; rwa [HAP.out] at this)
          have HNX : Hid (st'.next ≤ i + 1) := Lib.hid (Nat.le_trans hAN.1 (Nat.succ_le_succ HM.out.nx))
          have HRF : Hid (st'.refused ≤ i + 1) := Lib.hid (Nat.le_trans hAN.2 (Nat.succ_le_succ HM.out.rf))
          have HMX : Hid (DInv st' all → MemD w B p mb c st' all dn da dc (i + 1) wd) := Lib.hid (fun hd => HM.out.app hxd htd HINV.out hd HNX.out HRF.out)
          obtain ⟨hput, helse⟩ := once_step (ks := known1) HM.out.inv HM.out.dinv HAP.out
          simp only at hput helse
          have HPUT := Lib.hid hput
          have HELSE := Lib.hid helse
          have HXD := Lib.hid hxd
          have HOD : Hid (wd.ownsRow B 36 8 (.slice da dn.length dc) dn.length (dn.flatMap encE)) := Lib.hid (own_two HM.out.own htd HM.out.bs.2.2.1 HM.out.bs.2.2.2.1)
          have HBS : Hid (w.heap.size ≤ p ∧ w.heap.size ≤ mb ∧ p < B ∧ mb < B ∧ w.heap.size ≤ B ∧ B ≤ wd.heap.size) := Lib.hid (by have := HM.out.bs; have := htd.size; omega)
          have HSM := Lib.hid HM.out.same
          have HLEN := Lib.hid HM.out.len
          have HLEI := Lib.hid HM.out.lei
          clear hput helse hxd htd HM hAN e0 e1 e2 e3 e4 e5 e6 e7
          obtain ⟨e0, e1, e2, e3, e4, e5, e6, e7⟩ := cellsE HCE.out hab HBD.out HXL.out
          simp only at e0 e1 e2 e3 e4 e5 e6 e7
          have habd : ab < wd.heap.size := Nat.lt_of_lt_of_le hab HBD.out.size
          by_cases hk0 : rk = 0
          · by_cases hre : re = 0
            · obtain ⟨p1, p2, p3⟩ := HPUT.out hk0 hre
              subst hk0 hre p1
              have HP2 := Lib.hid p2
              have HP3 := Lib.hid p3
              have k0b : ((0 : Int) != 0) = false := rfl
              have hall : all.length ≤ 100 := by have := HLEN.out; have := HLEI.out; omega
              have hdl : dn.length ≤ 100 := by have := HLEI.out; omega
              clear p2 p3
              go_wp2_with fail
              go_loopg [13, 14] dn.length (fun gg s13 s14 wx => ∃ k : Nat, s14 = .int .i64 k ∧ k ≤ dn.length ∧ dn.length - k ≤ gg ∧ s13 = .int .i64 ((ofK (all.take k) rid rep).length : Nat) ∧ Hid (Below wd.heap.size wd wx))
              case atStart => exact ⟨0, rfl, by omega, by omega, rfl, Below.refl _ _⟩
              case round =>
                obtain ⟨k, rfl, hk, hgk, rfl, HBX⟩ := hrel
                revert HBX
                revert wr
                intro wx HBX
                by_cases hkt : k < dn.length
                · have hkz : (k : Int) < (dn.length : Int) := by omega
                  have hk0 : (0 : Int) ≤ (k : Int) := by omega
                  obtain ⟨y, hy⟩ : ∃ y, dn[k]? = some y := ⟨_, List.getElem?_eq_getElem hkt⟩
                  obtain ⟨kp, hkp⟩ : ∃ kp, all[k]? = some kp := ⟨_, List.getElem?_eq_getElem (by have := HLEN.out; omega)⟩
                  have hsame := HSM.out k kp y hkp hy
                  have hs : SlT 8 encE wx da dn.length dc dn := SlT.of_own encE_len (own_below HOD.out HBX.out) rfl
                  obtain ⟨db, df, rfl, hdb, hdc⟩ := hs.2.2 (by omega)
                  obtain ⟨-, f1, f2, -, -, -, -, -⟩ := cellsE hdc hdb (Below.refl _ _) hy
                  have HCT := Lib.hid (ofK_take all rid rep k kp hkp)
                  have hct := ofK_le (all.take k) rid rep
                  rw [List.length_take] at hct
                  have g1 : wx.cell? ⟨ab, ao + i * 8 + 1, none⟩ = some (.int .i64 rid) := (HBX.out.cell (p := ⟨_, _, none⟩) habd).trans e1
                  have g2 : wx.cell? ⟨ab, ao + i * 8 + 2, none⟩ = some (.int .i64 rep) := (HBX.out.cell (p := ⟨_, _, none⟩) habd).trans e2
                  rw [hsame.2.1] at f1
                  rw [hsame.2.2.1] at f2
                  have HBX2 := Lib.hid (HBX.out.drew)
                  clear hy hkp hsame hs hdc e1 e2
                  by_cases h1 : kp.id = rid
                  · have h1b : (kp.id == rid) = true := by simpa using h1
                    by_cases h2 : kp.epoch = rep
                    · have h2b : (kp.epoch == rep) = true := by simpa using h2
                      have HT : Hid ((ofK (all.take (k + 1)) rid rep).length = (ofK (all.take k) rid rep).length + 1) := Lib.hid (by rw [HCT.out, if_pos ⟨h1, h2⟩])
                      clear h1 h2
                      go_wp2_with fail
                      refine wp_region_noPanic ?_
                      refine wp_region_held_drew (S := fun w' => w'.cell? ⟨db, df + k * 8 + 1, none⟩ = some (.int .i64 kp.id) ∧ w'.cell? ⟨db, df + k * 8 + 2, none⟩ = some (.int .i64 kp.epoch) ∧ w'.cell? ⟨ab, ao + i * 8 + 1, none⟩ = some (.int .i64 rid) ∧ w'.cell? ⟨ab, ao + i * 8 + 2, none⟩ = some (.int .i64 rep)) (by kernel_rfl) ?_ (fun hHeld => ?_)
                      · first | exact ⟨by assumption, by assumption⟩ | go_keep
                      refine take_yes (i := 0) (some 76) (v := ?vc0) (by simp only [List.getElem?_toArray, List.getElem?_cons_zero]; exact rfl) rfl (by kernel_rfl) (by kernel_rfl) (by kernel_rfl) (fun _ _ _ h => h) (by rfl) ?hyc0 (by assumption) ?restc0
                      case hyc0 => (intro w hSw; (try dsimp only at hSw); go_simp; try with_reducible rfl)
                      try simp only [Act.put, List.setIfInBounds_toArray, List.set_cons_zero, List.set_cons_succ]
                      refine take_yes (i := 1) (some 77) (v := ?vc1) (by simp only [List.getElem?_toArray, List.getElem?_cons_succ, List.getElem?_cons_zero]; exact rfl) rfl (by kernel_rfl) (by kernel_rfl) (by kernel_rfl) (fun _ _ _ h => h) (by rfl) ?hyc1 (by assumption) ?restc1
                      case hyc1 => (intro w hSw; (try dsimp only at hSw); go_simp; try with_reducible rfl)
                      try simp only [Act.put, List.setIfInBounds_toArray, List.set_cons_zero, List.set_cons_succ]
                      refine take_yes (i := 2) (some 78) (v := ?vc2) (by simp only [List.getElem?_toArray, List.getElem?_cons_succ, List.getElem?_cons_zero]; exact rfl) rfl (by kernel_rfl) (by kernel_rfl) (by kernel_rfl) (fun _ _ _ h => h) (by rfl) ?hyc2 (by assumption) ?restc2
                      case hyc2 => (intro w hSw; (try dsimp only at hSw); go_simp; try with_reducible rfl)
                      try simp only [Act.put, List.setIfInBounds_toArray, List.set_cons_zero, List.set_cons_succ]
                      refine take_yes (i := 3) (some 79) (v := ?vc3) (by simp only [List.getElem?_toArray, List.getElem?_cons_succ, List.getElem?_cons_zero]; exact rfl) rfl (by kernel_rfl) (by kernel_rfl) (by kernel_rfl) (fun _ _ _ h => h) (by rfl) ?hyc3 (by assumption) ?restc3
                      case hyc3 => (intro w hSw; (try dsimp only at hSw); go_simp; try with_reducible rfl)
                      try simp only [Act.put, List.setIfInBounds_toArray, List.set_cons_zero, List.set_cons_succ]
                      refine take_yes (i := 4) (some 80) (v := ?vc4) (by simp only [List.getElem?_toArray, List.getElem?_cons_succ, List.getElem?_cons_zero]; exact rfl) rfl (by kernel_rfl) (by kernel_rfl) (by kernel_rfl) (fun _ _ _ h => h) (by rfl) ?hyc4 (by assumption) ?restc4
                      case hyc4 => (intro w hSw; (try dsimp only at hSw); go_simp; try with_reducible rfl)
                      try simp only [Act.put, List.setIfInBounds_toArray, List.set_cons_zero, List.set_cons_succ]
                      refine take_yes (i := 5) (some 81) (v := ?vc5) (by simp only [List.getElem?_toArray, List.getElem?_cons_succ, List.getElem?_cons_zero]; exact rfl) rfl (by kernel_rfl) (by kernel_rfl) (by kernel_rfl) (fun _ _ _ h => h) (by rfl) ?hyc5 (by assumption) ?restc5
                      case hyc5 => (intro w hSw; (try dsimp only at hSw); go_simp; try with_reducible rfl)
                      try simp only [Act.put, List.setIfInBounds_toArray, List.set_cons_zero, List.set_cons_succ]
                      refine take_yes (i := 6) (some 82) (v := ?vc6) (by simp only [List.getElem?_toArray, List.getElem?_cons_succ, List.getElem?_cons_zero]; exact rfl) rfl (by kernel_rfl) (by kernel_rfl) (by kernel_rfl) (fun _ _ _ h => h) (by rfl) ?hyc6 (by assumption) ?restc6
                      case hyc6 => (intro w hSw; (try dsimp only at hSw); go_simp; try with_reducible rfl)
                      try simp only [Act.put, List.setIfInBounds_toArray, List.set_cons_zero, List.set_cons_succ]
                      refine take_yes (i := 7) (some 83) (v := ?vc7) (by simp only [List.getElem?_toArray, List.getElem?_cons_succ, List.getElem?_cons_zero]; exact rfl) rfl (by kernel_rfl) (by kernel_rfl) (by kernel_rfl) (fun _ _ _ h => h) (by rfl) ?hyc7 (by assumption) ?restc7
                      case hyc7 => (intro w hSw; (try dsimp only at hSw); go_simp; try with_reducible rfl)
                      try simp only [Act.put, List.setIfInBounds_toArray, List.set_cons_zero, List.set_cons_succ]
                      refine take_yes (i := 8) (some 84) (v := ?vc8) (by simp only [List.getElem?_toArray, List.getElem?_cons_succ, List.getElem?_cons_zero]; exact rfl) rfl (by kernel_rfl) (by kernel_rfl) (by kernel_rfl) (fun _ _ _ h => h) (by rfl) ?hyc8 (by assumption) ?restc8
                      case hyc8 => (intro w hSw; (try dsimp only at hSw); go_simp; try with_reducible rfl)
                      try simp only [Act.put, List.setIfInBounds_toArray, List.set_cons_zero, List.set_cons_succ]
                      refine take_yes (i := 9) (some 85) (v := ?vc9) (by simp only [List.getElem?_toArray, List.getElem?_cons_succ, List.getElem?_cons_zero]; exact rfl) rfl (by kernel_rfl) (by kernel_rfl) (by kernel_rfl) (fun _ _ _ h => h) (by rfl) ?hyc9 (by assumption) ?restc9
                      case hyc9 => (intro w hSw; (try dsimp only at hSw); go_simp; try with_reducible rfl)
                      try simp only [Act.put, List.setIfInBounds_toArray, List.set_cons_zero, List.set_cons_succ]
                      refine take_yes (i := 10) (some 86) (v := ?vc10) (by simp only [List.getElem?_toArray, List.getElem?_cons_succ, List.getElem?_cons_zero]; exact rfl) rfl (by kernel_rfl) (by kernel_rfl) (by kernel_rfl) (fun _ _ _ h => h) (by rfl) ?hyc10 (by assumption) ?restc10
                      case hyc10 => (intro w hSw; (try dsimp only at hSw); go_simp; try with_reducible rfl)
                      try simp only [Act.put, List.setIfInBounds_toArray, List.set_cons_zero, List.set_cons_succ]
                      refine take_yes (i := 11) (some 87) (v := ?vc11) (by simp only [List.getElem?_toArray, List.getElem?_cons_succ, List.getElem?_cons_zero]; exact rfl) rfl (by kernel_rfl) (by kernel_rfl) (by kernel_rfl) (fun _ _ _ h => h) (by rfl) ?hyc11 (by assumption) ?restc11
                      case hyc11 => (intro w hSw; (try dsimp only at hSw); go_simp; try with_reducible rfl)
                      try simp only [Act.put, List.setIfInBounds_toArray, List.set_cons_zero, List.set_cons_succ]
                      refine take_yes (i := 12) (some 88) (v := ?vc12) (by simp only [List.getElem?_toArray, List.getElem?_cons_succ, List.getElem?_cons_zero]; exact rfl) rfl (by kernel_rfl) (by kernel_rfl) (by kernel_rfl) (fun _ _ _ h => h) (by rfl) ?hyc12 (by assumption) ?restc12
                      case hyc12 => (intro w hSw; (try dsimp only at hSw); go_simp; try with_reducible rfl)
                      try simp only [Act.put, List.setIfInBounds_toArray, List.set_cons_zero, List.set_cons_succ]
                      refine take_yes (i := 13) (some 89) (v := ?vc13) (by simp only [List.getElem?_toArray, List.getElem?_cons_succ, List.getElem?_cons_zero]; exact rfl) rfl (by kernel_rfl) (by kernel_rfl) (by kernel_rfl) (fun _ _ _ h => h) (by rfl) ?hyc13 (by assumption) ?restc13
                      case hyc13 => (intro w hSw; (try dsimp only at hSw); go_simp; try with_reducible rfl)
                      try simp only [Act.put, List.setIfInBounds_toArray, List.set_cons_zero, List.set_cons_succ]
                      refine take_yes (i := 14) (some 90) (v := ?vc14) (by simp only [List.getElem?_toArray, List.getElem?_cons_succ, List.getElem?_cons_zero]; exact rfl) rfl (by kernel_rfl) (by kernel_rfl) (by kernel_rfl) (fun _ _ _ h => h) (by rfl) ?hyc14 (by assumption) ?restc14
                      case hyc14 => (intro w hSw; (try dsimp only at hSw); go_simp; try with_reducible rfl)
                      try simp only [Act.put, List.setIfInBounds_toArray, List.set_cons_zero, List.set_cons_succ]
                      refine take_yes (i := 15) (some 91) (v := ?vc15) (by simp only [List.getElem?_toArray, List.getElem?_cons_succ, List.getElem?_cons_zero]; exact rfl) rfl (by kernel_rfl) (by kernel_rfl) (by kernel_rfl) (fun _ _ _ h => h) (by rfl) ?hyc15 (by assumption) ?restc15
                      case hyc15 => (intro w hSw; (try dsimp only at hSw); go_simp; try with_reducible rfl)
                      try simp only [Act.put, List.setIfInBounds_toArray, List.set_cons_zero, List.set_cons_succ]
                      refine take_yes (i := 16) (some 92) (v := ?vc16) (by simp only [List.getElem?_toArray, List.getElem?_cons_succ, List.getElem?_cons_zero]; exact rfl) rfl (by kernel_rfl) (by kernel_rfl) (by kernel_rfl) (fun _ _ _ h => h) (by rfl) ?hyc16 (by assumption) ?restc16
                      case hyc16 => (intro w hSw; (try dsimp only at hSw); go_simp; try with_reducible rfl)
                      try simp only [Act.put, List.setIfInBounds_toArray, List.set_cons_zero, List.set_cons_succ]
                      refine take_yes (i := 17) (some 93) (v := ?vc17) (by simp only [List.getElem?_toArray, List.getElem?_cons_succ, List.getElem?_cons_zero]; exact rfl) rfl (by kernel_rfl) (by kernel_rfl) (by kernel_rfl) (fun _ _ _ h => h) (by rfl) ?hyc17 (by assumption) ?restc17
                      case hyc17 => (intro w hSw; (try dsimp only at hSw); go_simp; try with_reducible rfl)
                      try simp only [Act.put, List.setIfInBounds_toArray, List.set_cons_zero, List.set_cons_succ]
                      refine take_yes (i := 18) (some 94) (v := ?vc18) (by simp only [List.getElem?_toArray, List.getElem?_cons_succ, List.getElem?_cons_zero]; exact rfl) rfl (by kernel_rfl) (by kernel_rfl) (by kernel_rfl) (fun _ _ _ h => h) (by rfl) ?hyc18 (by assumption) ?restc18
                      case hyc18 => (intro w hSw; (try dsimp only at hSw); go_simp; try with_reducible rfl)
                      try simp only [Act.put, List.setIfInBounds_toArray, List.set_cons_zero, List.set_cons_succ]
                      refine take_yes (i := 19) (some 95) (v := ?vc19) (by simp only [List.getElem?_toArray, List.getElem?_cons_succ, List.getElem?_cons_zero]; exact rfl) rfl (by kernel_rfl) (by kernel_rfl) (by kernel_rfl) (fun _ _ _ h => h) (by rfl) ?hyc19 (by assumption) ?restc19
                      case hyc19 => (intro w hSw; (try dsimp only at hSw); go_simp; try with_reducible rfl)
                      try simp only [Act.put, List.setIfInBounds_toArray, List.set_cons_zero, List.set_cons_succ]
                      refine take_yes (i := 20) (some 96) (v := ?vc20) (by simp only [List.getElem?_toArray, List.getElem?_cons_succ, List.getElem?_cons_zero]; exact rfl) rfl (by kernel_rfl) (by kernel_rfl) (by kernel_rfl) (fun _ _ _ h => h) (by rfl) ?hyc20 (by assumption) ?restc20
                      case hyc20 => (intro w hSw; (try dsimp only at hSw); go_simp; try with_reducible rfl)
                      try simp only [Act.put, List.setIfInBounds_toArray, List.set_cons_zero, List.set_cons_succ]
                      refine take_yes (i := 21) (some 97) (v := ?vc21) (by simp only [List.getElem?_toArray, List.getElem?_cons_succ, List.getElem?_cons_zero]; exact rfl) rfl (by kernel_rfl) (by kernel_rfl) (by kernel_rfl) (fun _ _ _ h => h) (by rfl) ?hyc21 (by assumption) ?restc21
                      case hyc21 => (intro w hSw; (try dsimp only at hSw); go_simp; try with_reducible rfl)
                      try simp only [Act.put, List.setIfInBounds_toArray, List.set_cons_zero, List.set_cons_succ]
                      refine take_yes (i := 22) (some 98) (v := ?vc22) (by simp only [List.getElem?_toArray, List.getElem?_cons_succ, List.getElem?_cons_zero]; exact rfl) rfl (by kernel_rfl) (by kernel_rfl) (by kernel_rfl) (fun _ _ _ h => h) (by rfl) ?hyc22 (by assumption) ?restc22
                      case hyc22 => (intro w hSw; (try dsimp only at hSw); go_simp; try with_reducible rfl)
                      try simp only [Act.put, List.setIfInBounds_toArray, List.set_cons_zero, List.set_cons_succ]
                      refine take_yes (i := 23) (some 99) (v := ?vc23) (by simp only [List.getElem?_toArray, List.getElem?_cons_succ, List.getElem?_cons_zero]; exact rfl) rfl (by kernel_rfl) (by kernel_rfl) (by kernel_rfl) (fun _ _ _ h => h) (by rfl) ?hyc23 (by assumption) ?restc23
                      case hyc23 => (intro w hSw; (try dsimp only at hSw); go_simp; try with_reducible rfl)
                      try simp only [Act.put, List.setIfInBounds_toArray, List.set_cons_zero, List.set_cons_succ]
                      refine wpAnyH_done (by kernel_rfl) ?_ _
                      refine NoPanic.normal ?_
                      clear hHeld
                      go_wp2
                      go_roundg (dn.length - (k + 1))
                      case measure => omega
                      case rel => exact ⟨k + 1, by go_num, by omega, by omega, by rw [HT.out]; go_num, HBX2⟩
                    · have h2b : (kp.epoch == rep) = false := by simpa using h2
                      have HT : Hid ((ofK (all.take (k + 1)) rid rep).length = (ofK (all.take k) rid rep).length) := Lib.hid (by rw [HCT.out, if_neg (fun q => h2 q.2)]; rfl)
                      clear h1 h2
                      go_wp2_with fail
                      refine wp_region_noPanic ?_
                      refine wp_region_held_drew (S := fun w' => w'.cell? ⟨db, df + k * 8 + 1, none⟩ = some (.int .i64 kp.id) ∧ w'.cell? ⟨db, df + k * 8 + 2, none⟩ = some (.int .i64 kp.epoch) ∧ w'.cell? ⟨ab, ao + i * 8 + 1, none⟩ = some (.int .i64 rid) ∧ w'.cell? ⟨ab, ao + i * 8 + 2, none⟩ = some (.int .i64 rep)) (by kernel_rfl) ?_ (fun hHeld => ?_)
                      · first | exact ⟨by assumption, by assumption⟩ | go_keep
                      refine take_yes (i := 0) (some 76) (v := ?vd0) (by simp only [List.getElem?_toArray, List.getElem?_cons_zero]; exact rfl) rfl (by kernel_rfl) (by kernel_rfl) (by kernel_rfl) (fun _ _ _ h => h) (by rfl) ?hyd0 (by assumption) ?restd0
                      case hyd0 => (intro w hSw; (try dsimp only at hSw); go_simp; try with_reducible rfl)
                      try simp only [Act.put, List.setIfInBounds_toArray, List.set_cons_zero, List.set_cons_succ]
                      refine take_yes (i := 1) (some 77) (v := ?vd1) (by simp only [List.getElem?_toArray, List.getElem?_cons_succ, List.getElem?_cons_zero]; exact rfl) rfl (by kernel_rfl) (by kernel_rfl) (by kernel_rfl) (fun _ _ _ h => h) (by rfl) ?hyd1 (by assumption) ?restd1
                      case hyd1 => (intro w hSw; (try dsimp only at hSw); go_simp; try with_reducible rfl)
                      try simp only [Act.put, List.setIfInBounds_toArray, List.set_cons_zero, List.set_cons_succ]
                      refine take_yes (i := 2) (some 78) (v := ?vd2) (by simp only [List.getElem?_toArray, List.getElem?_cons_succ, List.getElem?_cons_zero]; exact rfl) rfl (by kernel_rfl) (by kernel_rfl) (by kernel_rfl) (fun _ _ _ h => h) (by rfl) ?hyd2 (by assumption) ?restd2
                      case hyd2 => (intro w hSw; (try dsimp only at hSw); go_simp; try with_reducible rfl)
                      try simp only [Act.put, List.setIfInBounds_toArray, List.set_cons_zero, List.set_cons_succ]
                      refine take_yes (i := 3) (some 79) (v := ?vd3) (by simp only [List.getElem?_toArray, List.getElem?_cons_succ, List.getElem?_cons_zero]; exact rfl) rfl (by kernel_rfl) (by kernel_rfl) (by kernel_rfl) (fun _ _ _ h => h) (by rfl) ?hyd3 (by assumption) ?restd3
                      case hyd3 => (intro w hSw; (try dsimp only at hSw); go_simp; try with_reducible rfl)
                      try simp only [Act.put, List.setIfInBounds_toArray, List.set_cons_zero, List.set_cons_succ]
                      refine take_yes (i := 4) (some 80) (v := ?vd4) (by simp only [List.getElem?_toArray, List.getElem?_cons_succ, List.getElem?_cons_zero]; exact rfl) rfl (by kernel_rfl) (by kernel_rfl) (by kernel_rfl) (fun _ _ _ h => h) (by rfl) ?hyd4 (by assumption) ?restd4
                      case hyd4 => (intro w hSw; (try dsimp only at hSw); go_simp; try with_reducible rfl)
                      try simp only [Act.put, List.setIfInBounds_toArray, List.set_cons_zero, List.set_cons_succ]
                      refine take_yes (i := 5) (some 81) (v := ?vd5) (by simp only [List.getElem?_toArray, List.getElem?_cons_succ, List.getElem?_cons_zero]; exact rfl) rfl (by kernel_rfl) (by kernel_rfl) (by kernel_rfl) (fun _ _ _ h => h) (by rfl) ?hyd5 (by assumption) ?restd5
                      case hyd5 => (intro w hSw; (try dsimp only at hSw); go_simp; try with_reducible rfl)
                      try simp only [Act.put, List.setIfInBounds_toArray, List.set_cons_zero, List.set_cons_succ]
                      refine take_yes (i := 6) (some 82) (v := ?vd6) (by simp only [List.getElem?_toArray, List.getElem?_cons_succ, List.getElem?_cons_zero]; exact rfl) rfl (by kernel_rfl) (by kernel_rfl) (by kernel_rfl) (fun _ _ _ h => h) (by rfl) ?hyd6 (by assumption) ?restd6
                      case hyd6 => (intro w hSw; (try dsimp only at hSw); go_simp; try with_reducible rfl)
                      try simp only [Act.put, List.setIfInBounds_toArray, List.set_cons_zero, List.set_cons_succ]
                      refine take_yes (i := 7) (some 83) (v := ?vd7) (by simp only [List.getElem?_toArray, List.getElem?_cons_succ, List.getElem?_cons_zero]; exact rfl) rfl (by kernel_rfl) (by kernel_rfl) (by kernel_rfl) (fun _ _ _ h => h) (by rfl) ?hyd7 (by assumption) ?restd7
                      case hyd7 => (intro w hSw; (try dsimp only at hSw); go_simp; try with_reducible rfl)
                      try simp only [Act.put, List.setIfInBounds_toArray, List.set_cons_zero, List.set_cons_succ]
                      refine take_yes (i := 8) (some 84) (v := ?vd8) (by simp only [List.getElem?_toArray, List.getElem?_cons_succ, List.getElem?_cons_zero]; exact rfl) rfl (by kernel_rfl) (by kernel_rfl) (by kernel_rfl) (fun _ _ _ h => h) (by rfl) ?hyd8 (by assumption) ?restd8
                      case hyd8 => (intro w hSw; (try dsimp only at hSw); go_simp; try with_reducible rfl)
                      try simp only [Act.put, List.setIfInBounds_toArray, List.set_cons_zero, List.set_cons_succ]
                      refine take_yes (i := 9) (some 85) (v := ?vd9) (by simp only [List.getElem?_toArray, List.getElem?_cons_succ, List.getElem?_cons_zero]; exact rfl) rfl (by kernel_rfl) (by kernel_rfl) (by kernel_rfl) (fun _ _ _ h => h) (by rfl) ?hyd9 (by assumption) ?restd9
                      case hyd9 => (intro w hSw; (try dsimp only at hSw); go_simp; try with_reducible rfl)
                      try simp only [Act.put, List.setIfInBounds_toArray, List.set_cons_zero, List.set_cons_succ]
                      refine take_yes (i := 10) (some 86) (v := ?vd10) (by simp only [List.getElem?_toArray, List.getElem?_cons_succ, List.getElem?_cons_zero]; exact rfl) rfl (by kernel_rfl) (by kernel_rfl) (by kernel_rfl) (fun _ _ _ h => h) (by rfl) ?hyd10 (by assumption) ?restd10
                      case hyd10 => (intro w hSw; (try dsimp only at hSw); go_simp; try with_reducible rfl)
                      try simp only [Act.put, List.setIfInBounds_toArray, List.set_cons_zero, List.set_cons_succ]
                      refine take_yes (i := 11) (some 87) (v := ?vd11) (by simp only [List.getElem?_toArray, List.getElem?_cons_succ, List.getElem?_cons_zero]; exact rfl) rfl (by kernel_rfl) (by kernel_rfl) (by kernel_rfl) (fun _ _ _ h => h) (by rfl) ?hyd11 (by assumption) ?restd11
                      case hyd11 => (intro w hSw; (try dsimp only at hSw); go_simp; try with_reducible rfl)
                      try simp only [Act.put, List.setIfInBounds_toArray, List.set_cons_zero, List.set_cons_succ]
                      refine take_yes (i := 12) (some 88) (v := ?vd12) (by simp only [List.getElem?_toArray, List.getElem?_cons_succ, List.getElem?_cons_zero]; exact rfl) rfl (by kernel_rfl) (by kernel_rfl) (by kernel_rfl) (fun _ _ _ h => h) (by rfl) ?hyd12 (by assumption) ?restd12
                      case hyd12 => (intro w hSw; (try dsimp only at hSw); go_simp; try with_reducible rfl)
                      try simp only [Act.put, List.setIfInBounds_toArray, List.set_cons_zero, List.set_cons_succ]
                      refine take_yes (i := 13) (some 89) (v := ?vd13) (by simp only [List.getElem?_toArray, List.getElem?_cons_succ, List.getElem?_cons_zero]; exact rfl) rfl (by kernel_rfl) (by kernel_rfl) (by kernel_rfl) (fun _ _ _ h => h) (by rfl) ?hyd13 (by assumption) ?restd13
                      case hyd13 => (intro w hSw; (try dsimp only at hSw); go_simp; try with_reducible rfl)
                      try simp only [Act.put, List.setIfInBounds_toArray, List.set_cons_zero, List.set_cons_succ]
                      refine take_yes (i := 14) (some 90) (v := ?vd14) (by simp only [List.getElem?_toArray, List.getElem?_cons_succ, List.getElem?_cons_zero]; exact rfl) rfl (by kernel_rfl) (by kernel_rfl) (by kernel_rfl) (fun _ _ _ h => h) (by rfl) ?hyd14 (by assumption) ?restd14
                      case hyd14 => (intro w hSw; (try dsimp only at hSw); go_simp; try with_reducible rfl)
                      try simp only [Act.put, List.setIfInBounds_toArray, List.set_cons_zero, List.set_cons_succ]
                      refine take_yes (i := 15) (some 91) (v := ?vd15) (by simp only [List.getElem?_toArray, List.getElem?_cons_succ, List.getElem?_cons_zero]; exact rfl) rfl (by kernel_rfl) (by kernel_rfl) (by kernel_rfl) (fun _ _ _ h => h) (by rfl) ?hyd15 (by assumption) ?restd15
                      case hyd15 => (intro w hSw; (try dsimp only at hSw); go_simp; try with_reducible rfl)
                      try simp only [Act.put, List.setIfInBounds_toArray, List.set_cons_zero, List.set_cons_succ]
                      refine take_yes (i := 16) (some 92) (v := ?vd16) (by simp only [List.getElem?_toArray, List.getElem?_cons_succ, List.getElem?_cons_zero]; exact rfl) rfl (by kernel_rfl) (by kernel_rfl) (by kernel_rfl) (fun _ _ _ h => h) (by rfl) ?hyd16 (by assumption) ?restd16
                      case hyd16 => (intro w hSw; (try dsimp only at hSw); go_simp; try with_reducible rfl)
                      try simp only [Act.put, List.setIfInBounds_toArray, List.set_cons_zero, List.set_cons_succ]
                      refine take_yes (i := 17) (some 93) (v := ?vd17) (by simp only [List.getElem?_toArray, List.getElem?_cons_succ, List.getElem?_cons_zero]; exact rfl) rfl (by kernel_rfl) (by kernel_rfl) (by kernel_rfl) (fun _ _ _ h => h) (by rfl) ?hyd17 (by assumption) ?restd17
                      case hyd17 => (intro w hSw; (try dsimp only at hSw); go_simp; try with_reducible rfl)
                      try simp only [Act.put, List.setIfInBounds_toArray, List.set_cons_zero, List.set_cons_succ]
                      refine take_yes (i := 18) (some 94) (v := ?vd18) (by simp only [List.getElem?_toArray, List.getElem?_cons_succ, List.getElem?_cons_zero]; exact rfl) rfl (by kernel_rfl) (by kernel_rfl) (by kernel_rfl) (fun _ _ _ h => h) (by rfl) ?hyd18 (by assumption) ?restd18
                      case hyd18 => (intro w hSw; (try dsimp only at hSw); go_simp; try with_reducible rfl)
                      try simp only [Act.put, List.setIfInBounds_toArray, List.set_cons_zero, List.set_cons_succ]
                      refine take_yes (i := 19) (some 95) (v := ?vd19) (by simp only [List.getElem?_toArray, List.getElem?_cons_succ, List.getElem?_cons_zero]; exact rfl) rfl (by kernel_rfl) (by kernel_rfl) (by kernel_rfl) (fun _ _ _ h => h) (by rfl) ?hyd19 (by assumption) ?restd19
                      case hyd19 => (intro w hSw; (try dsimp only at hSw); go_simp; try with_reducible rfl)
                      try simp only [Act.put, List.setIfInBounds_toArray, List.set_cons_zero, List.set_cons_succ]
                      refine take_yes (i := 20) (some 96) (v := ?vd20) (by simp only [List.getElem?_toArray, List.getElem?_cons_succ, List.getElem?_cons_zero]; exact rfl) rfl (by kernel_rfl) (by kernel_rfl) (by kernel_rfl) (fun _ _ _ h => h) (by rfl) ?hyd20 (by assumption) ?restd20
                      case hyd20 => (intro w hSw; (try dsimp only at hSw); go_simp; try with_reducible rfl)
                      try simp only [Act.put, List.setIfInBounds_toArray, List.set_cons_zero, List.set_cons_succ]
                      refine take_yes (i := 21) (some 97) (v := ?vd21) (by simp only [List.getElem?_toArray, List.getElem?_cons_succ, List.getElem?_cons_zero]; exact rfl) rfl (by kernel_rfl) (by kernel_rfl) (by kernel_rfl) (fun _ _ _ h => h) (by rfl) ?hyd21 (by assumption) ?restd21
                      case hyd21 => (intro w hSw; (try dsimp only at hSw); go_simp; try with_reducible rfl)
                      try simp only [Act.put, List.setIfInBounds_toArray, List.set_cons_zero, List.set_cons_succ]
                      refine take_yes (i := 22) (some 98) (v := ?vd22) (by simp only [List.getElem?_toArray, List.getElem?_cons_succ, List.getElem?_cons_zero]; exact rfl) rfl (by kernel_rfl) (by kernel_rfl) (by kernel_rfl) (fun _ _ _ h => h) (by rfl) ?hyd22 (by assumption) ?restd22
                      case hyd22 => (intro w hSw; (try dsimp only at hSw); go_simp; try with_reducible rfl)
                      try simp only [Act.put, List.setIfInBounds_toArray, List.set_cons_zero, List.set_cons_succ]
                      refine take_yes (i := 23) (some 99) (v := ?vd23) (by simp only [List.getElem?_toArray, List.getElem?_cons_succ, List.getElem?_cons_zero]; exact rfl) rfl (by kernel_rfl) (by kernel_rfl) (by kernel_rfl) (fun _ _ _ h => h) (by rfl) ?hyd23 (by assumption) ?restd23
                      case hyd23 => (intro w hSw; (try dsimp only at hSw); go_simp; try with_reducible rfl)
                      try simp only [Act.put, List.setIfInBounds_toArray, List.set_cons_zero, List.set_cons_succ]
                      refine wpAnyH_done (by kernel_rfl) ?_ _
                      refine NoPanic.normal ?_
                      clear hHeld
                      go_wp2
                      go_roundg (dn.length - (k + 1))
                      case measure => omega
                      case rel => exact ⟨k + 1, by go_num, by omega, by omega, by rw [HT.out], HBX2⟩
                  · have h1b : (kp.id == rid) = false := by simpa using h1
                    have HT : Hid ((ofK (all.take (k + 1)) rid rep).length = (ofK (all.take k) rid rep).length) := Lib.hid (by rw [HCT.out, if_neg (fun q => h1 q.1)]; rfl)
                    clear h1
                    go_wp2_with fail
                    refine wp_region_noPanic ?_
                    refine wp_region_held_drew (S := fun w' => w'.cell? ⟨db, df + k * 8 + 1, none⟩ = some (.int .i64 kp.id) ∧ w'.cell? ⟨db, df + k * 8 + 2, none⟩ = some (.int .i64 kp.epoch) ∧ w'.cell? ⟨ab, ao + i * 8 + 1, none⟩ = some (.int .i64 rid) ∧ w'.cell? ⟨ab, ao + i * 8 + 2, none⟩ = some (.int .i64 rep)) (by kernel_rfl) ?_ (fun hHeld => ?_)
                    · first | exact ⟨by assumption, by assumption⟩ | go_keep
                    refine take_yes (i := 0) (some 76) (v := ?ve0) (by simp only [List.getElem?_toArray, List.getElem?_cons_zero]; exact rfl) rfl (by kernel_rfl) (by kernel_rfl) (by kernel_rfl) (fun _ _ _ h => h) (by rfl) ?hye0 (by assumption) ?reste0
                    case hye0 => (intro w hSw; (try dsimp only at hSw); go_simp; try with_reducible rfl)
                    try simp only [Act.put, List.setIfInBounds_toArray, List.set_cons_zero, List.set_cons_succ]
                    refine take_yes (i := 1) (some 77) (v := ?ve1) (by simp only [List.getElem?_toArray, List.getElem?_cons_succ, List.getElem?_cons_zero]; exact rfl) rfl (by kernel_rfl) (by kernel_rfl) (by kernel_rfl) (fun _ _ _ h => h) (by rfl) ?hye1 (by assumption) ?reste1
                    case hye1 => (intro w hSw; (try dsimp only at hSw); go_simp; try with_reducible rfl)
                    try simp only [Act.put, List.setIfInBounds_toArray, List.set_cons_zero, List.set_cons_succ]
                    refine take_yes (i := 2) (some 78) (v := ?ve2) (by simp only [List.getElem?_toArray, List.getElem?_cons_succ, List.getElem?_cons_zero]; exact rfl) rfl (by kernel_rfl) (by kernel_rfl) (by kernel_rfl) (fun _ _ _ h => h) (by rfl) ?hye2 (by assumption) ?reste2
                    case hye2 => (intro w hSw; (try dsimp only at hSw); go_simp; try with_reducible rfl)
                    try simp only [Act.put, List.setIfInBounds_toArray, List.set_cons_zero, List.set_cons_succ]
                    refine take_yes (i := 3) (some 79) (v := ?ve3) (by simp only [List.getElem?_toArray, List.getElem?_cons_succ, List.getElem?_cons_zero]; exact rfl) rfl (by kernel_rfl) (by kernel_rfl) (by kernel_rfl) (fun _ _ _ h => h) (by rfl) ?hye3 (by assumption) ?reste3
                    case hye3 => (intro w hSw; (try dsimp only at hSw); go_simp; try with_reducible rfl)
                    try simp only [Act.put, List.setIfInBounds_toArray, List.set_cons_zero, List.set_cons_succ]
                    refine take_yes (i := 4) (some 80) (v := ?ve4) (by simp only [List.getElem?_toArray, List.getElem?_cons_succ, List.getElem?_cons_zero]; exact rfl) rfl (by kernel_rfl) (by kernel_rfl) (by kernel_rfl) (fun _ _ _ h => h) (by rfl) ?hye4 (by assumption) ?reste4
                    case hye4 => (intro w hSw; (try dsimp only at hSw); go_simp; try with_reducible rfl)
                    try simp only [Act.put, List.setIfInBounds_toArray, List.set_cons_zero, List.set_cons_succ]
                    refine take_yes (i := 5) (some 81) (v := ?ve5) (by simp only [List.getElem?_toArray, List.getElem?_cons_succ, List.getElem?_cons_zero]; exact rfl) rfl (by kernel_rfl) (by kernel_rfl) (by kernel_rfl) (fun _ _ _ h => h) (by rfl) ?hye5 (by assumption) ?reste5
                    case hye5 => (intro w hSw; (try dsimp only at hSw); go_simp; try with_reducible rfl)
                    try simp only [Act.put, List.setIfInBounds_toArray, List.set_cons_zero, List.set_cons_succ]
                    refine take_yes (i := 6) (some 82) (v := ?ve6) (by simp only [List.getElem?_toArray, List.getElem?_cons_succ, List.getElem?_cons_zero]; exact rfl) rfl (by kernel_rfl) (by kernel_rfl) (by kernel_rfl) (fun _ _ _ h => h) (by rfl) ?hye6 (by assumption) ?reste6
                    case hye6 => (intro w hSw; (try dsimp only at hSw); go_simp; try with_reducible rfl)
                    try simp only [Act.put, List.setIfInBounds_toArray, List.set_cons_zero, List.set_cons_succ]
                    refine take_yes (i := 7) (some 83) (v := ?ve7) (by simp only [List.getElem?_toArray, List.getElem?_cons_succ, List.getElem?_cons_zero]; exact rfl) rfl (by kernel_rfl) (by kernel_rfl) (by kernel_rfl) (fun _ _ _ h => h) (by rfl) ?hye7 (by assumption) ?reste7
                    case hye7 => (intro w hSw; (try dsimp only at hSw); go_simp; try with_reducible rfl)
                    try simp only [Act.put, List.setIfInBounds_toArray, List.set_cons_zero, List.set_cons_succ]
                    refine take_yes (i := 8) (some 84) (v := ?ve8) (by simp only [List.getElem?_toArray, List.getElem?_cons_succ, List.getElem?_cons_zero]; exact rfl) rfl (by kernel_rfl) (by kernel_rfl) (by kernel_rfl) (fun _ _ _ h => h) (by rfl) ?hye8 (by assumption) ?reste8
                    case hye8 => (intro w hSw; (try dsimp only at hSw); go_simp; try with_reducible rfl)
                    try simp only [Act.put, List.setIfInBounds_toArray, List.set_cons_zero, List.set_cons_succ]
                    refine take_yes (i := 9) (some 85) (v := ?ve9) (by simp only [List.getElem?_toArray, List.getElem?_cons_succ, List.getElem?_cons_zero]; exact rfl) rfl (by kernel_rfl) (by kernel_rfl) (by kernel_rfl) (fun _ _ _ h => h) (by rfl) ?hye9 (by assumption) ?reste9
                    case hye9 => (intro w hSw; (try dsimp only at hSw); go_simp; try with_reducible rfl)
                    try simp only [Act.put, List.setIfInBounds_toArray, List.set_cons_zero, List.set_cons_succ]
                    refine take_yes (i := 10) (some 86) (v := ?ve10) (by simp only [List.getElem?_toArray, List.getElem?_cons_succ, List.getElem?_cons_zero]; exact rfl) rfl (by kernel_rfl) (by kernel_rfl) (by kernel_rfl) (fun _ _ _ h => h) (by rfl) ?hye10 (by assumption) ?reste10
                    case hye10 => (intro w hSw; (try dsimp only at hSw); go_simp; try with_reducible rfl)
                    try simp only [Act.put, List.setIfInBounds_toArray, List.set_cons_zero, List.set_cons_succ]
                    refine take_yes (i := 11) (some 87) (v := ?ve11) (by simp only [List.getElem?_toArray, List.getElem?_cons_succ, List.getElem?_cons_zero]; exact rfl) rfl (by kernel_rfl) (by kernel_rfl) (by kernel_rfl) (fun _ _ _ h => h) (by rfl) ?hye11 (by assumption) ?reste11
                    case hye11 => (intro w hSw; (try dsimp only at hSw); go_simp; try with_reducible rfl)
                    try simp only [Act.put, List.setIfInBounds_toArray, List.set_cons_zero, List.set_cons_succ]
                    refine take_un (i := 12) (some 88) (by simp only [List.getElem?_toArray, List.getElem?_cons_succ, List.getElem?_cons_zero]; exact rfl) rfl (by kernel_rfl) (by kernel_rfl) (by kernel_rfl) (fun _ _ _ h => h) (by rfl) (by assumption) ?_
                    try simp only [Act.put, List.setIfInBounds_toArray, List.set_cons_zero, List.set_cons_succ]
                    refine take_un (i := 13) (some 89) (by simp only [List.getElem?_toArray, List.getElem?_cons_succ, List.getElem?_cons_zero]; exact rfl) rfl (by kernel_rfl) (by kernel_rfl) (by kernel_rfl) (fun _ _ _ h => h) (by rfl) (by assumption) ?_
                    try simp only [Act.put, List.setIfInBounds_toArray, List.set_cons_zero, List.set_cons_succ]
                    refine take_un (i := 14) (some 90) (by simp only [List.getElem?_toArray, List.getElem?_cons_succ, List.getElem?_cons_zero]; exact rfl) rfl (by kernel_rfl) (by kernel_rfl) (by kernel_rfl) (fun _ _ _ h => h) (by rfl) (by assumption) ?_
                    try simp only [Act.put, List.setIfInBounds_toArray, List.set_cons_zero, List.set_cons_succ]
                    refine take_un (i := 15) (some 91) (by simp only [List.getElem?_toArray, List.getElem?_cons_succ, List.getElem?_cons_zero]; exact rfl) rfl (by kernel_rfl) (by kernel_rfl) (by kernel_rfl) (fun _ _ _ h => h) (by rfl) (by assumption) ?_
                    try simp only [Act.put, List.setIfInBounds_toArray, List.set_cons_zero, List.set_cons_succ]
                    refine take_un (i := 16) (some 92) (by simp only [List.getElem?_toArray, List.getElem?_cons_succ, List.getElem?_cons_zero]; exact rfl) rfl (by kernel_rfl) (by kernel_rfl) (by kernel_rfl) (fun _ _ _ h => h) (by rfl) (by assumption) ?_
                    try simp only [Act.put, List.setIfInBounds_toArray, List.set_cons_zero, List.set_cons_succ]
                    refine take_un (i := 17) (some 93) (by simp only [List.getElem?_toArray, List.getElem?_cons_succ, List.getElem?_cons_zero]; exact rfl) rfl (by kernel_rfl) (by kernel_rfl) (by kernel_rfl) (fun _ _ _ h => h) (by rfl) (by assumption) ?_
                    try simp only [Act.put, List.setIfInBounds_toArray, List.set_cons_zero, List.set_cons_succ]
                    refine take_un (i := 18) (some 94) (by simp only [List.getElem?_toArray, List.getElem?_cons_succ, List.getElem?_cons_zero]; exact rfl) rfl (by kernel_rfl) (by kernel_rfl) (by kernel_rfl) (fun _ _ _ h => h) (by rfl) (by assumption) ?_
                    try simp only [Act.put, List.setIfInBounds_toArray, List.set_cons_zero, List.set_cons_succ]
                    refine take_un (i := 19) (some 95) (by simp only [List.getElem?_toArray, List.getElem?_cons_succ, List.getElem?_cons_zero]; exact rfl) rfl (by kernel_rfl) (by kernel_rfl) (by kernel_rfl) (fun _ _ _ h => h) (by rfl) (by assumption) ?_
                    try simp only [Act.put, List.setIfInBounds_toArray, List.set_cons_zero, List.set_cons_succ]
                    refine take_un (i := 20) (some 96) (by simp only [List.getElem?_toArray, List.getElem?_cons_succ, List.getElem?_cons_zero]; exact rfl) rfl (by kernel_rfl) (by kernel_rfl) (by kernel_rfl) (fun _ _ _ h => h) (by rfl) (by assumption) ?_
                    try simp only [Act.put, List.setIfInBounds_toArray, List.set_cons_zero, List.set_cons_succ]
                    refine take_un (i := 21) (some 97) (by simp only [List.getElem?_toArray, List.getElem?_cons_succ, List.getElem?_cons_zero]; exact rfl) rfl (by kernel_rfl) (by kernel_rfl) (by kernel_rfl) (fun _ _ _ h => h) (by rfl) (by assumption) ?_
                    try simp only [Act.put, List.setIfInBounds_toArray, List.set_cons_zero, List.set_cons_succ]
                    refine take_un (i := 22) (some 98) (by simp only [List.getElem?_toArray, List.getElem?_cons_succ, List.getElem?_cons_zero]; exact rfl) rfl (by kernel_rfl) (by kernel_rfl) (by kernel_rfl) (fun _ _ _ h => h) (by rfl) (by assumption) ?_
                    try simp only [Act.put, List.setIfInBounds_toArray, List.set_cons_zero, List.set_cons_succ]
                    refine take_yes (i := 23) (some 99) (v := ?ve23) (by simp only [List.getElem?_toArray, List.getElem?_cons_succ, List.getElem?_cons_zero]; exact rfl) rfl (by kernel_rfl) (by kernel_rfl) (by kernel_rfl) (fun _ _ _ h => h) (by rfl) ?hye23 (by assumption) ?reste23
                    case hye23 => (intro w hSw; (try dsimp only at hSw); go_simp; try with_reducible rfl)
                    try simp only [Act.put, List.setIfInBounds_toArray, List.set_cons_zero, List.set_cons_succ]
                    refine wpAnyH_done (by kernel_rfl) ?_ _
                    refine NoPanic.normal ?_
                    clear hHeld
                    go_wp2
                    go_roundg (dn.length - (k + 1))
                    case measure => omega
                    case rel => exact ⟨k + 1, by go_num, by omega, by omega, by rw [HT.out], HBX2⟩
                · have hkz : ¬ (k : Int) < (dn.length : Int) := by omega
                  obtain rfl : k = dn.length := by omega
                  have HOF : Hid ((ofK (all.take dn.length) rid rep).length = (ofK all rid rep).length) := Lib.hid (by rw [HLEN.out, List.take_length])
                  have hsq : rsq = ((ofK all rid rep).length : Int) := HP2.out
                  rw [HOF.out]
                  have hofl := ofK_le all rid rep
                  have n1 : ((all.length : Int) != (dn.length : Int)) = false := by have := HLEN.out; simp; omega
                  have n2 : (rsq != ((ofK all rid rep).length : Int)) = false := by rw [← hsq]; simp
                  have HSQ := Lib.hid hsq
                  obtain ⟨e0, e1, e2, e3, e4, e5, e6, e7⟩ := cellsE HCE.out hab (HBD.out.trans (HBX.out.mono HBD.out.size)) HXL.out
                  simp only at e0 e1 e2 e3 e4 e5 e6 e7
                  have habx : ab < wx.heap.size := Nat.lt_of_lt_of_le habd HBX.out.size
                  have HOX := Lib.hid (own_below HOD.out HBX.out)
                  clear hsq
                  go_wp2_with (at_builtin; refine wpList_append_sl (k := 8) (enc := encE) _ rfl _ _ 46 rfl B 36 _ 88 Try.underlying46 info_Ent rfl (by decide) encE_len encE_one _ dn.length dn rfl (own_below HOX.out ((Below.refl _ wx).alloc (Nat.le_refl _) _)) _ 1 1 [⟨⟨0, rid, rep, rsq, rsrc, rsch, rtm, rra, rrn, rrc⟩, vs⟩] rfl (SlT.one encE_len wx ⟨⟨0, rid, rep, rsq, rsrc, rsch, rtm, rra, rrn, rrc⟩, vs⟩ _ (by first | rfl | simp [encE]) _) (by unfold maxLen; omega) (by omega) (by have := HBS.out; have := HBX.out.size; simp; omega) ?_)
                  intro v' w8 hown8 hgrow hat
                  obtain ⟨ta', tc', rfl⟩ := own_shape hown8
                  have HX8 : Hid (IX (fun b => some b ≠ (Value.slice ta' (dn ++ [(⟨⟨0, rid, rep, rsq, rsrc, rsch, rtm, rra, rrn, rrc⟩, vs⟩ : Ent)]).length tc').ownBlock) w8 p mb c known1 st') := Lib.hid (by
                    have h1 : IX (fun b => some b ≠ (Value.slice da dn.length dc).ownBlock) (wx.alloc (.cells #[.int .i64 0, .int .i64 rid, .int .i64 rep, .int .i64 rsq, .string rsrc, .int .i64 rsch, .int .i64 rtm, .slice rra rrn rrc] 36)) p mb c known1 st' := (HXD.out.below HBX.out).alloc _
                    have hpm := HBS.out
                    refine h1.row hgrow (fun b hb hp => ⟨hp, ?_⟩) (fun e => by have := (HOX.out.lt p e.symm).1; omega) (fun e => by have := (HOX.out.lt mb e.symm).1; omega)
                    intro e
                    rw [show (dn ++ [(⟨⟨0, rid, rep, rsq, rsrc, rsch, rtm, rra, rrn, rrc⟩, vs⟩ : Ent)]).length = dn.length + 1 by simp] at e
                    rcases hat with h | h
                    · exact hp (e.trans h)
                    · have e2 := e.trans h
                      injection e2 with e2
                      simp at hb
                      omega)
                  have HB8 : Hid (Below B wd w8) := Lib.hid (((HBX.out.mono HBS.out.2.2.2.2.2).alloc (by have := HBS.out; have := HBX.out.size; omega) _).grown hgrow (by have := HBS.out; have := HBX.out.size; simp; omega) (by intro k hk; exact (HOX.out.lt k hk).1))
                  have HM8 : Hid (MemD w B p mb c st' (all ++ [⟨rid, rep, rsq, (all.length : Int)⟩]) (dn ++ [⟨⟨0, rid, rep, rsq, rsrc, rsch, rtm, rra, rrn, rrc⟩, vs⟩]) ta' tc' (i + 1) w8) := Lib.hid ⟨HX8.out, HINV.out, HP3.out, HNX.out, HRF.out, by rw [List.length_append, List.length_append, HLEN.out]; rfl, by rw [List.length_append]; exact Nat.succ_le_succ HLEI.out, fun k x e hx he => by
                    have hle := HLEN.out
                    rcases Nat.lt_or_ge k dn.length with hk | hk
                    · rw [List.getElem?_append_left (by omega)] at hx
                      rw [List.getElem?_append_left hk] at he
                      exact HSM.out k x e hx he
                    · rw [List.getElem?_append_right (by omega)] at hx
                      rw [List.getElem?_append_right hk] at he
                      have h0 : k - dn.length = 0 := by have := (List.getElem?_eq_some_iff.1 he).1; simp at this; omega
                      rw [h0] at he
                      rw [show k - all.length = 0 by omega] at hx
                      simp only [List.getElem?_cons_zero, Option.some.injEq] at hx he
                      subst hx he
                      exact ⟨rfl, rfl, rfl, rfl, HRX.out, hrnx⟩, by simpa [List.flatMap_append] using hown8, HBD.out.trans (HB8.out.mono HBS.out.2.2.2.2.1), by have := HBS.out; have := HB8.out.size; have := hgrow.size; have := HBX.out.size; simp at *; omega⟩
                  clear hown8 hgrow hat
                  go_wp2
                  go_roundg (l.length - (i + 1))
                  case measure => omega
                  case rel => exact ⟨i + 1, st', _, _, ta', tc', by go_num, by omega, by omega, by first | rfl | simp, HM8⟩
            · have hreb : (re != 0) = true := by simpa using hre
              have k0b : (rk != 0) = false := by simpa using hk0
              have HM8 := Lib.hid (HMX.out (HELSE.out (fun q => hre q.2)))
              clear hre
              go_wp2
              go_roundg (l.length - (i + 1))
              case measure => omega
              case rel => exact ⟨i + 1, st', all, dn, da, dc, by go_num, by omega, by omega, rfl, HM8⟩
          · have k0b : (rk != 0) = true := by simpa using hk0
            have HM8 := Lib.hid (HMX.out (HELSE.out (fun q => hk0 q.1)))
            clear hk0
            go_wp2
            go_roundg (l.length - (i + 1))
            case measure => omega
            case rel => exact ⟨i + 1, st', all, dn, da, dc, by go_num, by omega, by omega, rfl, HM8⟩
        · have hltz : ¬ (i : Int) < (l.length : Int) := by omega
          have HNL : Hid (st.next = dn.length) := Lib.hid (HM.out.dinv.next.trans HM.out.len.symm)
          have hdl : dn.length ≤ 100 := by have := HM.out.lei; omega
          have hi100 : i ≤ 100 := by omega
          clear hi hg
          go_wp2_with fail
          refine (next_any HM.out.ix).mono ?_
          rintro e wn ⟨rfl, hbn⟩
          rw [HNL.out]
          have HM1 := Lib.hid (HM.out.belowW hbn)
          clear hbn HM
          have hnn : ((dn.length : Int) != (dn.length : Int)) = false := by simp
          go_wp2_with fail
          go_loopg [15, 16, 17, 18] pn (fun gg s15 _ _ _ wr => ∃ (q : Nat) (st' : ISt), s15 = .int .i64 q ∧ q ≤ pn ∧ pn - q ≤ gg ∧ Hid (MemD w B p mb c st' all dn da dc (i + q) wr))
          case atStart => exact ⟨0, st, rfl, by omega, by omega, HM1⟩
          case round =>
            obtain ⟨q, su, rfl, hq, hgq, HMq⟩ := hrel
            clear HM1
            revert HMq
            revert wr
            intro wz HMq
            have HNL2 : Hid (su.next = dn.length) := Lib.hid (HMq.out.dinv.next.trans HMq.out.len.symm)
            by_cases hqt : q < pn ∧ 0 < dn.length
            · obtain ⟨hq1, hd0⟩ := hqt
              have hqz : (q : Int) < (pn : Int) := by omega
              have hq0 : (0 : Int) ≤ (q : Int) := by omega
              have hd0z : (0 : Int) < (dn.length : Int) := by omega
              have hq1b : decide (q < pn) = true := decide_eq_true hq1
              have hd0b : decide (0 < dn.length) = true := decide_eq_true hd0
              have hd0n : (dn.length : Int) ≠ 0 := by omega
              obtain ⟨pb, po, rfl, hpb, hpc⟩ := HPK.out.2.2 (by omega)
              obtain ⟨v, hv⟩ : ∃ v, ps[q]? = some v := ⟨_, List.getElem?_eq_getElem (by have := HPK.out.1; omega)⟩
              have f0 := cellsI hpc hpb HMq.out.below hv
              have hpbw : pb < wz.heap.size := Nat.lt_of_lt_of_le hpb HMq.out.below.size
              clear hv hpc
              have hml : v.tmod (dn.length : Int) < (dn.length : Int) := Int.tmod_lt_of_pos _ hd0z
              have hmg : -(dn.length : Int) < v.tmod (dn.length : Int) := by
                have h1 := Int.tmod_lt_of_pos (-v) hd0z
                rw [Int.neg_tmod] at h1
                omega
              by_cases hneg : v.tmod (dn.length : Int) < 0
              · have hnegb : decide (v.tmod (dn.length : Int) < 0) = true := decide_eq_true hneg
                obtain ⟨kn, hkn⟩ := Int.eq_ofNat_of_zero_le (a := v.tmod (dn.length : Int) + (dn.length : Int)) (by omega)
                have hknl : kn < dn.length := by omega
                have hmod : IntKind.i64.wrap (v.tmod (dn.length : Int) + (dn.length : Int)) = (kn : Int) := by rw [IntKind.wrap_i64]; omega
                clear hkn hml hmg
                have hknz : (kn : Int) < (dn.length : Int) := by omega
                have hkn0 : (0 : Int) ≤ (kn : Int) := by omega
                obtain ⟨y, hy⟩ : ∃ y, dn[kn]? = some y := ⟨_, List.getElem?_eq_getElem hknl⟩
                obtain ⟨kp, hkp, hsame⟩ := HMq.out.kp hy
                have hs : SlT 8 encE wz da dn.length dc dn := SlT.of_own encE_len HMq.out.own rfl
                obtain ⟨db, df, rfl, hdb, -⟩ := hs.2.2 (by omega)
                obtain ⟨g0, g1, g2, g3, g4, g5, g6, g7⟩ := HMq.out.cells rfl hy
                obtain ⟨⟨rk, rid, rep, rsq, rsrc, rsch, rtm, rra, rrn, rrc⟩, vs⟩ := y
                obtain ⟨s0, s1, s2, s3, s4, s5⟩ := hsame
                simp only at g0 g1 g2 g3 g4 g5 g6 g7 s0 s1 s2 s3 s4 s5
                have hst1 : su.next ≤ 1000000 := by have := HMq.out.nx; omega
                have hst2 : su.refused ≤ 1000000 := by have := HMq.out.rf; omega
                obtain ⟨rn', re, st', hAP⟩ : ∃ n e st', applyF c known1 su ⟨rk, rid, rep, rsq, rsrc, rsch, rtm, rra, rrn, rrc⟩ vs = ((n, e), st') := ⟨_, _, _, rfl⟩
                have HAP := Lib.hid hAP
                obtain ⟨hres, hdv⟩ := once_again (c := c) (ks := known1) (r := ⟨rk, rid, rep, rsq, rsrc, rsch, rtm, rra, rrn, rrc⟩) (vs := vs) HMq.out.dinv hkp s0 s1 s2 s3 hAP
                have HRES := Lib.hid hres
                have HDV := Lib.hid hdv
                have HS4 := Lib.hid s4
                clear hAP hres hdv hs hkp hy s0 s1 s2 s3 s4
                go_wp2_with fail
                refine (apply_any HMq.out.ix (fun b hb e => by have := (HMq.out.own.lt b e.symm).2; omega) HMq.out.inv HC.out betw_known hst1 hst2 ⟨rk, rid, rep, rsq, rsrc, rsch, rtm, rra, rrn, rrc⟩ vs (HS4.out.below HMq.out.below) (by show rrn ≤ 1000000; omega)).mono ?_
                rintro e wd ⟨rfl, hxd, htd⟩
                rw [HAP.out] at hxd
                rw [HAP.out]
                have hAN := apply_next (c := c) (ks := known1) (st := su) (r := ⟨rk, rid, rep, rsq, rsrc, rsch, rtm, rra, rrn, rrc⟩) (vs := vs)
                rw [HAP.out] at hAN
                have HINV : Hid (IInv c st') := Lib.hid (by have := iinv_apply (ks := known1) (r := ⟨rk, rid, rep, rsq, rsrc, rsch, rtm, rra, rrn, rrc⟩) (vs := vs) HC.out HMq.out.inv hst1; rwa [HAP.out] at this)
                have HM2 : Hid (MemD w B p mb c st' all dn (some ⟨db, df, none⟩) dc (i + (q + 1)) wd) := Lib.hid (HMq.out.app hxd htd HINV.out HDV.out (Nat.le_trans hAN.1 (Nat.succ_le_succ HMq.out.nx)) (Nat.le_trans hAN.2 (Nat.succ_le_succ HMq.out.rf)))
                clear hxd htd hAN HMq g0 g1 g2 g3 g4 g5 g6 g7 hmod f0
                rcases HRES.out with h18 | ⟨h5, hn | hn⟩
                · subst h18
                  have r1 : ((18 : Int) != 18) = false := rfl
                  go_wp2
                  go_roundg (pn - (q + 1))
                  case measure => omega
                  case rel => exact ⟨q + 1, st', by go_num, by omega, by omega, HM2⟩
                · subst h5 hn
                  have r1 : ((5 : Int) != 18) = true := rfl
                  have r2 : ((5 : Int) != 5) = false := rfl
                  have r3 : ((kn : Int) != (kn : Int)) = false := by simp
                  go_wp2
                  go_roundg (pn - (q + 1))
                  case measure => omega
                  case rel => exact ⟨q + 1, st', by go_num, by omega, by omega, HM2⟩
                · subst h5 hn
                  have r1 : ((5 : Int) != 18) = true := rfl
                  have r2 : ((5 : Int) != 5) = false := rfl
                  have r3 : ((-1 : Int) != (kn : Int)) = true := by simp
                  have r4 : ((-1 : Int) != -1) = false := rfl
                  go_wp2
                  go_roundg (pn - (q + 1))
                  case measure => omega
                  case rel => exact ⟨q + 1, st', by go_num, by omega, by omega, HM2⟩
              · have hnegb : decide (v.tmod (dn.length : Int) < 0) = false := decide_eq_false hneg
                obtain ⟨kn, hmod⟩ := Int.eq_ofNat_of_zero_le (a := v.tmod (dn.length : Int)) (by omega)
                have hknl : kn < dn.length := by omega
                have hnegb2 : decide ((kn : Int) < 0) = false := decide_eq_false (by omega)
                clear hml hmg
                have hknz : (kn : Int) < (dn.length : Int) := by omega
                have hkn0 : (0 : Int) ≤ (kn : Int) := by omega
                obtain ⟨y, hy⟩ : ∃ y, dn[kn]? = some y := ⟨_, List.getElem?_eq_getElem hknl⟩
                obtain ⟨kp, hkp, hsame⟩ := HMq.out.kp hy
                have hs : SlT 8 encE wz da dn.length dc dn := SlT.of_own encE_len HMq.out.own rfl
                obtain ⟨db, df, rfl, hdb, -⟩ := hs.2.2 (by omega)
                obtain ⟨g0, g1, g2, g3, g4, g5, g6, g7⟩ := HMq.out.cells rfl hy
                obtain ⟨⟨rk, rid, rep, rsq, rsrc, rsch, rtm, rra, rrn, rrc⟩, vs⟩ := y
                obtain ⟨s0, s1, s2, s3, s4, s5⟩ := hsame
                simp only at g0 g1 g2 g3 g4 g5 g6 g7 s0 s1 s2 s3 s4 s5
                have hst1 : su.next ≤ 1000000 := by have := HMq.out.nx; omega
                have hst2 : su.refused ≤ 1000000 := by have := HMq.out.rf; omega
                obtain ⟨rn', re, st', hAP⟩ : ∃ n e st', applyF c known1 su ⟨rk, rid, rep, rsq, rsrc, rsch, rtm, rra, rrn, rrc⟩ vs = ((n, e), st') := ⟨_, _, _, rfl⟩
                have HAP := Lib.hid hAP
                obtain ⟨hres, hdv⟩ := once_again (c := c) (ks := known1) (r := ⟨rk, rid, rep, rsq, rsrc, rsch, rtm, rra, rrn, rrc⟩) (vs := vs) HMq.out.dinv hkp s0 s1 s2 s3 hAP
                have HRES := Lib.hid hres
                have HDV := Lib.hid hdv
                have HS4 := Lib.hid s4
                clear hAP hres hdv hs hkp hy s0 s1 s2 s3 s4
                go_wp2_with fail
                refine (apply_any HMq.out.ix (fun b hb e => by have := (HMq.out.own.lt b e.symm).2; omega) HMq.out.inv HC.out betw_known hst1 hst2 ⟨rk, rid, rep, rsq, rsrc, rsch, rtm, rra, rrn, rrc⟩ vs (HS4.out.below HMq.out.below) (by show rrn ≤ 1000000; omega)).mono ?_
                rintro e wd ⟨rfl, hxd, htd⟩
                rw [HAP.out] at hxd
                rw [HAP.out]
                have hAN := apply_next (c := c) (ks := known1) (st := su) (r := ⟨rk, rid, rep, rsq, rsrc, rsch, rtm, rra, rrn, rrc⟩) (vs := vs)
                rw [HAP.out] at hAN
                have HINV : Hid (IInv c st') := Lib.hid (by have := iinv_apply (ks := known1) (r := ⟨rk, rid, rep, rsq, rsrc, rsch, rtm, rra, rrn, rrc⟩) (vs := vs) HC.out HMq.out.inv hst1; rwa [HAP.out] at this)
                have HM2 : Hid (MemD w B p mb c st' all dn (some ⟨db, df, none⟩) dc (i + (q + 1)) wd) := Lib.hid (HMq.out.app hxd htd HINV.out HDV.out (Nat.le_trans hAN.1 (Nat.succ_le_succ HMq.out.nx)) (Nat.le_trans hAN.2 (Nat.succ_le_succ HMq.out.rf)))
                clear hxd htd hAN HMq g0 g1 g2 g3 g4 g5 g6 g7 hmod f0
                rcases HRES.out with h18 | ⟨h5, hn | hn⟩
                · subst h18
                  have r1 : ((18 : Int) != 18) = false := rfl
                  go_wp2
                  go_roundg (pn - (q + 1))
                  case measure => omega
                  case rel => exact ⟨q + 1, st', by go_num, by omega, by omega, HM2⟩
                · subst h5 hn
                  have r1 : ((5 : Int) != 18) = true := rfl
                  have r2 : ((5 : Int) != 5) = false := rfl
                  have r3 : ((kn : Int) != (kn : Int)) = false := by simp
                  go_wp2
                  go_roundg (pn - (q + 1))
                  case measure => omega
                  case rel => exact ⟨q + 1, st', by go_num, by omega, by omega, HM2⟩
                · subst h5 hn
                  have r1 : ((5 : Int) != 18) = true := rfl
                  have r2 : ((5 : Int) != 5) = false := rfl
                  have r3 : ((-1 : Int) != (kn : Int)) = true := by simp
                  have r4 : ((-1 : Int) != -1) = false := rfl
                  go_wp2
                  go_roundg (pn - (q + 1))
                  case measure => omega
                  case rel => exact ⟨q + 1, st', by go_num, by omega, by omega, HM2⟩
            · have HBF := Lib.hid HMq.out.below
              by_cases hq1 : q < pn
              · have hd0 : dn.length = 0 := by omega
                have hqz : (q : Int) < (pn : Int) := by omega
                have hq1b : decide (q < pn) = true := decide_eq_true hq1
                have hdz : ¬ (0 : Int) < (dn.length : Int) := by omega
                have hd0b : decide (0 < dn.length) = false := decide_eq_false (by omega)
                clear hqt hd0
                go_wp2_with fail
                refine (next_any HMq.out.ix).mono ?_
                rintro e wn ⟨rfl, hbn⟩
                rw [HNL2.out]
                have HBN := Lib.hid (HBF.out.trans (hbn.mono HBF.out.size))
                clear hbn
                go_wp2
                go_ret
                exact ⟨ret_bool (by simp), HBN.out⟩
              · have hqz : ¬ (q : Int) < (pn : Int) := by omega
                have hq1b : decide (q < pn) = false := decide_eq_false hq1
                clear hqt
                go_wp2_with fail
                refine (next_any HMq.out.ix).mono ?_
                rintro e wn ⟨rfl, hbn⟩
                rw [HNL2.out]
                have HBN := Lib.hid (HBF.out.trans (hbn.mono HBF.out.size))
                clear hbn
                go_wp2
                go_ret
                exact ⟨ret_bool (by simp), HBN.out⟩
end Go.Proofs.Ytghciaaedjomjaa
