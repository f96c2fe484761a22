/- IntakeFinal: the walk of the law. -/
import Derived.Test.YtghciaaedjomjaaItkK
namespace Go.Proofs.Ytghciaaedjomjaa
open Go.RowKit

theorem new_no {P : Nat → Prop} {c : Cfg} {A : Option Addr} {cc : Nat} {ks : List KnV} {w : World} (hk : KnAt P w A cc ks) (hn : ks.length ≤ 1000) (hcols : ∀ k ∈ ks, k.cols.length ≤ 1000) (hR : rightB c = false) :
    Calls Try.prog 16 #[.agg #[.int .i64 c.parts, .int .i64 c.delay, .int .i64 c.late, .int .i64 c.ahead, .int .i64 c.rate, .int .i64 c.span], .slice A ks.length cc] w fun e w' => e = .returned (.pointer none) ∧ Below w.heap.size w w' :=
  (new_any (G := fun _ => True) P c A cc ks w hk (fun _ _ => trivial) hn hcols).mono fun e w' h => by
    rcases h with ⟨_, h1, h2⟩ | ⟨h1, _⟩
    · exact ⟨h1, h2⟩
    · rw [hR] at h1; cases h1
def NewYes (G : Nat → Prop) (w : World) (c : Cfg) (ks : List KnV) (e : Ending) (w' : World) : Prop := ∃ p mb, e = .returned (.pointer (some ⟨p, 0, none⟩)) ∧ IX G w' p mb c ks ist0 ∧ w.heap.size ≤ p ∧ w.heap.size ≤ mb ∧ Below w.heap.size w w'
theorem new_yes {G P : Nat → Prop} {c : Cfg} {A : Option Addr} {cc : Nat} {ks : List KnV} {w : World} (hk : KnAt P w A cc ks) (hG : ∀ b, w.heap.size ≤ b → G b) (hn : ks.length ≤ 1000) (hcols : ∀ k ∈ ks, k.cols.length ≤ 1000) (hR : rightB c = true) :
    Calls Try.prog 16 #[.agg #[.int .i64 c.parts, .int .i64 c.delay, .int .i64 c.late, .int .i64 c.ahead, .int .i64 c.rate, .int .i64 c.span], .slice A ks.length cc] w (NewYes G w c ks) :=
  (new_any P c A cc ks w hk hG hn hcols).mono fun e w' h => by
    rcases h with ⟨h1, _⟩ | ⟨_, h⟩
    · rw [hR] at h1; cases h1
    · exact h
theorem own_two {w w' : World} {p mb base : Nat} {e : TypeId} {size : Nat} {v : Value} {n : Nat} {xs : List Value} (h : w.ownsRow base e size v n xs) (ht : Two p mb w w') (hp : p < base) (hm : mb < base) : w'.ownsRow base e size v n xs := by
  rcases h with ⟨h1, h2 | ⟨g, cap, cur, h3, h4, h5, h6⟩⟩
  · exact ⟨h1, .inl h2⟩
  · exact ⟨h1, .inr ⟨g, cap, cur, h3, h4, (ht.block g (Array.getElem?_eq_some_iff.1 h5).1 (by omega) (by omega)).trans h5, h6⟩⟩
theorem Blk.two' {w w' : World} {p mb g : Nat} {t : TypeId} {cs : Array Value} (h : Blk w g t cs) (ht : Two p mb w w') (hp : g ≠ p) (hm : g ≠ mb) : Blk w' g t cs := (ht.block g h.lt hp hm).trans h
theorem KnAt.mono' {P Q : Nat → Prop} {w w' : World} {A : Option Addr} {c : Nat} {ks : List KnV} (h : KnAt P w A c ks) (hs : w.heap.size ≤ w'.heap.size) (hc : ∀ b, b < w.heap.size → P b → w'.heap[b]? = w.heap[b]?) (hpq : ∀ b, b < w.heap.size → P b → Q b) : KnAt Q w' A c ks := (h.mono (Q := fun b => P b ∧ Q b) (fun b hb hp => ⟨hp, hpq b hb hp⟩)).keep hs (fun b hb hp => hc b hb hp.1) |>.mono (fun _ _ hp => hp.2)
theorem TabP.mono' {P Q : Nat → Prop} {w w' : World} {A : Option Addr} {c : Nat} {s : List Prd} (h : TabP P w A c s) (hs : w.heap.size ≤ w'.heap.size) (hc : ∀ b, b < w.heap.size → P b → w'.heap[b]? = w.heap[b]?) (hpq : ∀ b, b < w.heap.size → P b → Q b) : TabP Q w' A c s := (h.mono (Q := fun b => P b ∧ Q b) (fun b hb hp => ⟨hp, hpq b hb hp⟩)).keep hs (fun b hb hp => hc b hb hp.1) |>.mono (fun _ _ hp => hp.2)
/-- A row grows; the partition does not lie in it. -/
theorem IX.row {G G' : Nat → Prop} {w w' : World} {p mb : Nat} {c : Cfg} {ks : List KnV} {st : ISt} {row : Option Nat} (h : IX G w p mb c ks st) (hg : w.grownBy w' row) (hG : ∀ b, b < w.heap.size → G b → some b ≠ row ∧ G' b) (hp : some p ≠ row) (hm : some mb ≠ row) : IX G' w' p mb c ks st := by
  obtain ⟨ka, kc, pa, pc, h1, h2, h3, h4, h5⟩ := h
  exact ⟨ka, kc, pa, pc, h1.grown hg hp, h2.mono' hg.size (fun b hb hP => hg.block b hb (hG b hb hP.2.2).1) (fun b hb hP => ⟨hP.1, hP.2.1, (hG b hb hP.2.2).2⟩), h3.mono' hg.size (fun b hb hP => hg.block b hb (hG b hb hP.2.2).1) (fun b hb hP => ⟨hP.1, hP.2.1, (hG b hb hP.2.2).2⟩), h4.kept hg hm, h5⟩
def cfgCells (c : Cfg) : Array Value := #[.int .i64 c.parts, .int .i64 c.delay, .int .i64 c.late, .int .i64 c.ahead, .int .i64 c.rate, .int .i64 c.span]
structure MemF (w : World) (B g0 p mb : Nat) (c : Cfg) (st : ISt) (ts : List Int) (ta : Option Addr) (tc : Nat) (i : Nat) (wr : World) : Prop where
  ix : IX (fun b => some b ≠ (Value.slice ta ts.length tc).ownBlock) wr p mb c known1 st
  inv : IInv c st
  fin : FInv c st ts
  nx : st.next ≤ i
  rf : st.refused ≤ i
  len : ts.length ≤ i
  own : wr.ownsRow B 3 1 (.slice ta ts.length tc) ts.length (ts.flatMap eI)
  rng : ∀ t ∈ ts, inN t
  below : Below w.heap.size w wr
  cfg : Blk wr g0 45 (cfgCells c)
  bs : w.heap.size ≤ g0 ∧ w.heap.size ≤ p ∧ w.heap.size ≤ mb ∧ g0 < B ∧ p < B ∧ mb < B ∧ g0 ≠ p ∧ g0 ≠ mb ∧ w.heap.size ≤ B ∧ B ≤ wr.heap.size
section
variable {w wr w' : World} {B g0 p mb : Nat} {c : Cfg} {st : ISt} {ts : List Int} {ta : Option Addr} {tc i : Nat}
theorem MemF.belowW (h : MemF w B g0 p mb c st ts ta tc i wr) (hb : Below wr.heap.size wr w') : MemF w B g0 p mb c st ts ta tc i w' :=
  ⟨h.ix.below hb, h.inv, h.fin, h.nx, h.rf, h.len, own_below h.own hb, h.rng, h.below.trans (hb.mono h.below.size), h.cfg.below hb h.cfg.lt, by have := h.bs; have := hb.size; omega⟩
theorem MemF.cells (h : MemF w B g0 p mb c st ts ta tc i wr) : wr.cell? ⟨g0, 3, none⟩ = some (.int .i64 c.ahead) ∧ wr.cell? ⟨g0, 4, none⟩ = some (.int .i64 c.rate) := ⟨h.cfg.cell 3, h.cfg.cell 4⟩
theorem MemF.time (h : MemF w B g0 p mb c st ts ta tc i wr) {tb tf k : Nat} {t : Int} (ha : ta = some ⟨tb, tf, none⟩) (ht : ts[k]? = some t) : wr.cell? ⟨tb, tf + k, none⟩ = some (.int .i64 t) := by
  have hs : SlT 1 eI wr ta ts.length tc ts := SlT.of_own eI_len h.own rfl
  obtain ⟨b, off, e, hb, hx⟩ := hs.2.2 (Nat.lt_of_le_of_lt (Nat.zero_le _) (List.getElem?_eq_some_iff.1 ht).1)
  rw [ha] at e
  injection e with e
  injection e with e1 e2
  subst e1 e2
  have := hx k t ht 0 _ rfl
  simpa using this
end
theorem cntL_take (t : Int) (l : List Int) (k : Nat) (y : Int) (h : l[k]? = some y) : cntL t (l.take (k + 1)) = cntL t (l.take k) + if y = t then 1 else 0 := by
  rw [List.take_add_one, h]
  exact cntL_snoc t _ y
theorem cntL_le (t : Int) (l : List Int) : cntL t l ≤ l.length := List.length_filter_le _ _
set_option maxHeartbeats 8000000 in
set_option maxRecDepth 100000 in
theorem final_any (c : Cfg) (A : Option Addr) (cc : Nat) (l : List Ent) (w : World) (hr : EntAt w A cc l) (hl : l.length ≤ maxLen) :
    Calls Try.prog 6 #[.agg #[.int .i64 c.parts, .int .i64 c.delay, .int .i64 c.late, .int .i64 c.ahead, .int .i64 c.rate, .int .i64 c.span], .slice A l.length cc] w fun e w' => e = .returned (.bool true) ∧ Below w.heap.size w w' := by
  have HR := Lib.hid hr
  have HL := Lib.hid hl
  have HB0 : Hid (Below w.heap.size w (w.alloc (.cells (cfgCells c) 45))) := Lib.hid ((Below.refl _ w).alloc (Nat.le_refl _) _)
  have HE0 := Lib.hid (Blk.new w 45 (cfgCells c))
  simp only [cfgCells] at HB0 HE0
  clear hr hl
  cases hR : rightB c with
  | false =>
    have HRB := Lib.hid hR
    clear hR
    go_enter Try.func6, Try.ntmps6
    go_wp2_with fail
    refine (small11_any _).mono ?_
    rintro e w1 ⟨rfl, hb1⟩
    have HB1 : Hid (Below w.heap.size w w1) := Lib.hid (HB0.out.trans (hb1.mono HB0.out.size))
    have HE1 := Lib.hid (HE0.out.below hb1 HE0.out.lt)
    have hz1 : w.heap.size < w1.heap.size := HE1.out.lt
    obtain ⟨z0, z1, z2, z3, z4, z5, zf⟩ := HE1.out.six
    clear hb1 HB0 HE0 zf
    go_wp2_with fail
    refine wp_region_noPanic ?_
    refine wp_region_held_drew (S := fun w' => w'.cell? ⟨w.heap.size, 0, none⟩ = some (.int .i64 c.parts) ∧ w'.cell? ⟨w.heap.size, 1, none⟩ = some (.int .i64 c.delay) ∧ w'.cell? ⟨w.heap.size, 2, none⟩ = some (.int .i64 c.late) ∧ w'.cell? ⟨w.heap.size, 3, none⟩ = some (.int .i64 c.ahead) ∧ w'.cell? ⟨w.heap.size, 4, none⟩ = some (.int .i64 c.rate) ∧ w'.cell? ⟨w.heap.size, 5, none⟩ = some (.int .i64 c.span)) (by kernel_rfl) ?_ (fun hHeld => ?_)
    · first | exact ⟨by assumption, by assumption⟩ | go_keep
    refine take_yes (i := 0) (some 18) (v := ?va0) (by simp only [List.getElem?_toArray, List.getElem?_cons_zero]; exact rfl) rfl (by kernel_rfl) (by kernel_rfl) (by kernel_rfl) (fun _ _ _ h => h) (by rfl) ?hya0 (by assumption) ?resta0
    case hya0 => (intro w hSw; (try dsimp only at hSw); go_simp; try with_reducible rfl)
    try simp only [Act.put, List.setIfInBounds_toArray, List.set_cons_zero, List.set_cons_succ]
    refine wpAnyH_ready (rs := [1]) (by kernel_rfl) (by simp) ?_
    refine AllReadyH.cons rfl (fun K hK => ?_) AllReadyH.nil
    try go_simp
    go_wp2_with (first | (go_at_call 17; refine (known_any _).mono ?_; rintro e w2 ⟨ka, kc, rfl, hk2, hb2⟩; have HD2 : Hid (Below w1.heap.size w1 w2) := Lib.hid ((Below.refl _ _).drew.trans hb2); have HE2 := Lib.hid (HE1.out.below HD2.out HE1.out.lt); have HK2 := Lib.hid hk2; have HB2 := Lib.hid (HB1.out.trans (HD2.out.mono HB1.out.size)); obtain ⟨y0, y1, y2, y3, y4, y5, yf⟩ := HE2.out.six; clear hb2 hk2 yf HD2) | (go_at_call 16; refine (new_no HK2.out betw_known cols_known HRB.out).mono ?_; rintro e w3 ⟨rfl, hb3⟩; have HE3 := Lib.hid (HE2.out.below hb3 HE2.out.lt); have HB3 := Lib.hid (HB2.out.trans (hb3.mono HB2.out.size)); obtain ⟨x0, x1, x2, x3, x4, x5, xf⟩ := HE3.out.six; clear hb3 xf))
    refine hK.out _ _ ?_ (fun hHeld => ?_)
    · go_keep
    clear hK K
    try simp only [Act.put, List.setIfInBounds_toArray, List.set_cons_zero, List.set_cons_succ]
    refine wpAnyH_ready (rs := [2]) (by kernel_rfl) (by simp) ?_
    refine AllReadyH.cons rfl (fun K hK => ?_) AllReadyH.nil
    try go_simp
    go_wp2_with (first | (go_at_call 17; refine (known_any _).mono ?_; rintro e w2 ⟨ka, kc, rfl, hk2, hb2⟩; have HD2 : Hid (Below w1.heap.size w1 w2) := Lib.hid ((Below.refl _ _).drew.trans hb2); have HE2 := Lib.hid (HE1.out.below HD2.out HE1.out.lt); have HK2 := Lib.hid hk2; have HB2 := Lib.hid (HB1.out.trans (HD2.out.mono HB1.out.size)); obtain ⟨y0, y1, y2, y3, y4, y5, yf⟩ := HE2.out.six; clear hb2 hk2 yf HD2) | (go_at_call 16; refine (new_no HK2.out betw_known cols_known HRB.out).mono ?_; rintro e w3 ⟨rfl, hb3⟩; have HE3 := Lib.hid (HE2.out.below hb3 HE2.out.lt); have HB3 := Lib.hid (HB2.out.trans (hb3.mono HB2.out.size)); obtain ⟨x0, x1, x2, x3, x4, x5, xf⟩ := HE3.out.six; clear hb3 xf))
    refine hK.out _ _ ?_ (fun hHeld => ?_)
    · go_keep
    clear hK K
    try simp only [Act.put, List.setIfInBounds_toArray, List.set_cons_zero, List.set_cons_succ]
    refine take_yes (i := 3) (some 6) (v := ?va3) (by simp only [List.getElem?_toArray, List.getElem?_cons_succ, List.getElem?_cons_zero]; exact rfl) rfl (by kernel_rfl) (by kernel_rfl) (by kernel_rfl) (fun _ _ _ h => h) (by rfl) ?hya3 (by assumption) ?resta3
    case hya3 => (intro w hSw; (try dsimp only at hSw); go_simp; try with_reducible rfl)
    try simp only [Act.put, List.setIfInBounds_toArray, List.set_cons_zero, List.set_cons_succ]
    refine wpAnyH_done (by kernel_rfl) ?_ _
    refine NoPanic.normal ?_
    clear hHeld z0 z1 z2 z3 z4 z5 y0 y1 y2 y3 y4 y5 HE1 HE2
    go_wp2_with fail
    refine (few11_any A cc l 150 _ (HR.out.below HB3.out) HL.out).mono ?_
    rintro e w' ⟨b, rfl, hfew, rfl⟩
    clear hfew
    cases b
    all_goals
      go_wp2_with fail
      refine (rightI_any c _).mono ?_
      rintro e w5 ⟨rfl, hb5⟩
      rw [HRB.out]
      have HB5 := Lib.hid (HB3.out.trans (hb5.mono HB3.out.size))
      clear hb5
      go_wp2
      go_ret
      exact ⟨rfl, HB5.out⟩
  | true =>
    have HRB := Lib.hid hR
    have hc := rightB_yes hR
    have HC := Lib.hid hc
    have hls := hc.late
    have hds := hc.delay
    have hah := hc.ahead
    have hdl : 0 ≤ c.delay ∧ c.delay ≤ 10000 := by omega
    clear hR hc
    go_enter Try.func6, Try.ntmps6
    go_wp2_with fail
    refine (small11_any _).mono ?_
    rintro e w1 ⟨rfl, hb1⟩
    have HB1 : Hid (Below w.heap.size w w1) := Lib.hid (HB0.out.trans (hb1.mono HB0.out.size))
    have HE1 := Lib.hid (HE0.out.below hb1 HE0.out.lt)
    have hz1 : w.heap.size < w1.heap.size := HE1.out.lt
    obtain ⟨z0, z1, z2, z3, z4, z5, zf⟩ := HE1.out.six
    clear hb1 HB0 HE0 zf
    go_wp2_with fail
    refine wp_region_noPanic ?_
    refine wp_region_held_drew (S := fun w' => w'.cell? ⟨w.heap.size, 0, none⟩ = some (.int .i64 c.parts) ∧ w'.cell? ⟨w.heap.size, 1, none⟩ = some (.int .i64 c.delay) ∧ w'.cell? ⟨w.heap.size, 2, none⟩ = some (.int .i64 c.late) ∧ w'.cell? ⟨w.heap.size, 3, none⟩ = some (.int .i64 c.ahead) ∧ w'.cell? ⟨w.heap.size, 4, none⟩ = some (.int .i64 c.rate) ∧ w'.cell? ⟨w.heap.size, 5, none⟩ = some (.int .i64 c.span)) (by kernel_rfl) ?_ (fun hHeld => ?_)
    · first | exact ⟨by assumption, by assumption⟩ | go_keep
    refine take_yes (i := 0) (some 18) (v := ?vb0) (by simp only [List.getElem?_toArray, List.getElem?_cons_zero]; exact rfl) rfl (by kernel_rfl) (by kernel_rfl) (by kernel_rfl) (fun _ _ _ h => h) (by rfl) ?hyb0 (by assumption) ?restb0
    case hyb0 => (intro w hSw; (try dsimp only at hSw); go_simp; try with_reducible rfl)
    try simp only [Act.put, List.setIfInBounds_toArray, List.set_cons_zero, List.set_cons_succ]
    refine wpAnyH_ready (rs := [1]) (by kernel_rfl) (by simp) ?_
    refine AllReadyH.cons rfl (fun K hK => ?_) AllReadyH.nil
    try go_simp
    go_wp2_with (first | (go_at_call 17; refine (known_any _).mono ?_; rintro e w2 ⟨ka, kc, rfl, hk2, hb2⟩; have HD2 : Hid (Below w1.heap.size w1 w2) := Lib.hid ((Below.refl _ _).drew.trans hb2); have HE2 := Lib.hid (HE1.out.below HD2.out HE1.out.lt); have HK2 := Lib.hid hk2; have HB2 := Lib.hid (HB1.out.trans (HD2.out.mono HB1.out.size)); obtain ⟨y0, y1, y2, y3, y4, y5, yf⟩ := HE2.out.six; clear hb2 hk2 yf HD2) | (go_at_call 16; refine (new_yes (G := fun b => some b ≠ (Value.slice none 0 0).ownBlock) HK2.out (fun b hb => by simp [Value.ownBlock]) betw_known cols_known HRB.out).mono ?_; rintro e w3 ⟨p, mb, rfl, hx3, hp3, hm3, hb3⟩; have HE3 := Lib.hid (HE2.out.below hb3 HE2.out.lt); have HB3 := Lib.hid (HB2.out.trans (hb3.mono HB2.out.size)); have HX3 := Lib.hid hx3; have hz2 : w.heap.size < w2.heap.size := HE2.out.lt; obtain ⟨x0, x1, x2, x3, x4, x5, xf⟩ := HE3.out.six; clear hb3 xf hx3))
    refine hK.out _ _ ?_ (fun hHeld => ?_)
    · go_keep
    clear hK K
    try simp only [Act.put, List.setIfInBounds_toArray, List.set_cons_zero, List.set_cons_succ]
    refine wpAnyH_ready (rs := [2]) (by kernel_rfl) (by simp) ?_
    refine AllReadyH.cons rfl (fun K hK => ?_) AllReadyH.nil
    try go_simp
    go_wp2_with (first | (go_at_call 17; refine (known_any _).mono ?_; rintro e w2 ⟨ka, kc, rfl, hk2, hb2⟩; have HD2 : Hid (Below w1.heap.size w1 w2) := Lib.hid ((Below.refl _ _).drew.trans hb2); have HE2 := Lib.hid (HE1.out.below HD2.out HE1.out.lt); have HK2 := Lib.hid hk2; have HB2 := Lib.hid (HB1.out.trans (HD2.out.mono HB1.out.size)); obtain ⟨y0, y1, y2, y3, y4, y5, yf⟩ := HE2.out.six; clear hb2 hk2 yf HD2) | (go_at_call 16; refine (new_yes (G := fun b => some b ≠ (Value.slice none 0 0).ownBlock) HK2.out (fun b hb => by simp [Value.ownBlock]) betw_known cols_known HRB.out).mono ?_; rintro e w3 ⟨p, mb, rfl, hx3, hp3, hm3, hb3⟩; have HE3 := Lib.hid (HE2.out.below hb3 HE2.out.lt); have HB3 := Lib.hid (HB2.out.trans (hb3.mono HB2.out.size)); have HX3 := Lib.hid hx3; have hz2 : w.heap.size < w2.heap.size := HE2.out.lt; obtain ⟨x0, x1, x2, x3, x4, x5, xf⟩ := HE3.out.six; clear hb3 xf hx3))
    refine hK.out _ _ ?_ (fun hHeld => ?_)
    · go_keep
    clear hK K
    try simp only [Act.put, List.setIfInBounds_toArray, List.set_cons_zero, List.set_cons_succ]
    refine take_yes (i := 3) (some 6) (v := ?vb3) (by simp only [List.getElem?_toArray, List.getElem?_cons_succ, List.getElem?_cons_zero]; exact rfl) rfl (by kernel_rfl) (by kernel_rfl) (by kernel_rfl) (fun _ _ _ h => h) (by rfl) ?hyb3 (by assumption) ?restb3
    case hyb3 => (intro w hSw; (try dsimp only at hSw); go_simp; try with_reducible rfl)
    try simp only [Act.put, List.setIfInBounds_toArray, List.set_cons_zero, List.set_cons_succ]
    refine wpAnyH_done (by kernel_rfl) ?_ _
    refine NoPanic.normal ?_
    clear hHeld z0 z1 z2 z3 z4 z5 y0 y1 y2 y3 y4 y5 x0 x1 x2 x3 x4 x5 HE1 HE2 HB1 HB2 HK2
    go_wp2_with fail
    refine (few11_any A cc l 150 _ (HR.out.below HB3.out) HL.out).mono ?_
    rintro e w' ⟨b, rfl, hfew, rfl⟩
    cases b with
    | false =>
      clear hfew
      go_wp2
      go_ret
      exact ⟨rfl, HB3.out⟩
    | true =>
      obtain ⟨hll, hrn⟩ := hfew rfl
      have HRN := Lib.hid hrn
      clear hfew hrn
      have HM0 : Hid (MemF w w'.heap.size w.heap.size p mb c ist0 [] none 0 0 w') := Lib.hid ⟨HX3.out, iinv0 HC.out, finv0 HC.out, Nat.le_refl _, Nat.le_refl _, Nat.le_refl _, World.ownsRow_nil _ _ _ _, by simp, HB3.out, HE3.out, by have := HX3.out.lt; have := HB3.out.size; have := HE3.out.lt; omega⟩
      clear HX3 HB3 HE3 hp3 hm3 hz1 hz2
      revert HM0
      revert w'
      intro w0 HM0
      generalize hBB : w0.heap.size = B at HM0
      clear hBB
      go_wp2_with fail
      go_loopg [7, 8] l.length (fun gg s7 s8 wr => ∃ (i : Nat) (st : ISt) (ts : List Int) (ta : Option Addr) (tc : Nat), s8 = .int .i64 i ∧ i ≤ l.length ∧ l.length - i ≤ gg ∧ s7 = .slice ta ts.length tc ∧ Hid (MemF w B w.heap.size p mb c st ts ta tc i wr))
      case atStart => exact ⟨0, ist0, [], none, 0, rfl, by omega, by omega, rfl, HM0⟩
      case round =>
        obtain ⟨i, st, ts, ta, tc, rfl, hi, hg, rfl, HM⟩ := hrel
        clear HM0
        revert HM
        revert wr
        intro wo HM
        by_cases hlt : i < l.length
        · have hltz : (i : Int) < (l.length : Int) := by omega
          obtain ⟨ab, ao, rfl, hab, hcells⟩ := HR.out.1.2.2 (by omega)
          obtain ⟨x, hx⟩ : ∃ x, l[i]? = some x := ⟨_, List.getElem?_eq_getElem hlt⟩
          have HCE := Lib.hid hcells
          have HXL := Lib.hid hx
          have HRX := Lib.hid (HR.out.2 x (List.mem_of_getElem? hx))
          have hrnx : x.r.rn ≤ 1000000 := by have := HRN.out x (List.mem_of_getElem? hx); omega
          clear hcells hx
          go_wp2_with fail
          refine (closed_any HM.out.ix hls HM.out.inv.top).mono ?_
          rintro e wa ⟨rfl, hba⟩
          have HMa := Lib.hid (HM.out.belowW hba)
          clear hba HM
          go_wp2_with fail
          refine (mark_any HMa.out.ix hdl HMa.out.inv.top).mono ?_
          rintro e wb ⟨rfl, hbb⟩
          have HMb := Lib.hid (HMa.out.belowW hbb)
          clear hbb HMa
          go_wp2_with fail
          refine (top_any HMb.out.ix).mono ?_
          rintro e wc ⟨rfl, hbc⟩
          have HMc := Lib.hid (HMb.out.belowW hbc)
          clear hbc HMb
          obtain ⟨e0, e1, e2, e3, e4, e5, e6, e7⟩ := cellsE HCE.out hab HMc.out.below HXL.out
          have habw : ab < wc.heap.size := Nat.lt_of_lt_of_le hab HMc.out.below.size
          have hst1 : st.next ≤ 1000000 := by have := HMc.out.nx; omega
          have hst2 : st.refused ≤ 1000000 := by have := HMc.out.rf; omega
          obtain ⟨⟨rk, rid, rep, rsq, rsrc, rsch, rtm, rra, rrn, rrc⟩, vs⟩ := x
          simp only at e0 e1 e2 e3 e4 e5 e6 e7 hrnx HRX
          obtain ⟨rn', re, st', hAP⟩ : ∃ n e st', applyF c known1 st ⟨rk, rid, rep, rsq, rsrc, rsch, rtm, rra, rrn, rrc⟩ vs = ((n, e), st') := ⟨_, _, _, rfl⟩
          have HAP := Lib.hid hAP
          clear hAP
          go_wp2_with fail
          refine (apply_any HMc.out.ix (fun b hb e => by have := (HMc.out.own.lt b e.symm).2; omega) HMc.out.inv HC.out betw_known hst1 hst2 ⟨rk, rid, rep, rsq, rsrc, rsch, rtm, rra, rrn, rrc⟩ vs (HRX.out.below HMc.out.below) hrnx).mono ?_
          rintro e wd ⟨rfl, hxd, htd⟩
          rw [HAP.out] at hxd
          rw [HAP.out]
          have hAN := apply_next (c := c) (ks := known1) (st := st) (r := ⟨rk, rid, rep, rsq, rsrc, rsch, rtm, rra, rrn, rrc⟩) (vs := vs)
          rw [HAP.out] at hAN
          have HBD : Hid (Below w.heap.size w wd) := Lib.hid (HMc.out.below.trans (htd.below HMc.out.below.size HMc.out.bs.2.1 HMc.out.bs.2.2.1))
          have HMD : Hid (FInv c st' ts → wd.ownsRow B 3 1 (.slice ta ts.length tc) ts.length (ts.flatMap eI) → ts.length ≤ i + 1 → (∀ t ∈ ts, inN t) → MemF w B w.heap.size p mb c st' ts ta tc (i + 1) wd) := Lib.hid (fun h1 h2 h3 h4 => ⟨hxd, by have := iinv_apply (ks := known1) (r := ⟨rk, rid, rep, rsq, rsrc, rsch, rtm, rra, rrn, rrc⟩) (vs := vs) HC.out HMc.out.inv hst1; rwa [HAP.out] at this, h1, Nat.le_trans hAN.1 (Nat.succ_le_succ HMc.out.nx), Nat.le_trans hAN.2 (Nat.succ_le_succ HMc.out.rf), h3, h2, h4, HBD.out, HMc.out.cfg.two' htd HMc.out.bs.2.2.2.2.2.2.1 HMc.out.bs.2.2.2.2.2.2.2.1, by have := HMc.out.bs; have := htd.size; omega⟩)
          have HOD : Hid (wd.ownsRow B 3 1 (.slice ta ts.length tc) ts.length (ts.flatMap eI)) := Lib.hid (own_two HMc.out.own htd HMc.out.bs.2.2.2.2.1 HMc.out.bs.2.2.2.2.2.1)
          obtain ⟨⟨m1, m2, m3⟩, hput, helse⟩ := final_step (ks := known1) HC.out HMc.out.fin HAP.out
          simp only at hput helse
          have HPUT := Lib.hid hput
          have HELSE := Lib.hid helse
          have hcm := closed_mark HC.out st'
          obtain ⟨hcm1, hcm2⟩ := hcm
          have HCM2 := Lib.hid hcm2
          have HM1 := Lib.hid m1
          have HM2 := Lib.hid m2
          have HM3 := Lib.hid m3
          have HCM1 := Lib.hid hcm1
          have HLEN := Lib.hid HMc.out.len
          have HRNG := Lib.hid HMc.out.rng
          have hbs := HMc.out.bs
          have HBS := Lib.hid hbs
          have HXD0 := Lib.hid hxd
          have HINV : Hid (IInv c st') := Lib.hid (by have := iinv_apply (ks := known1) (r := ⟨rk, rid, rep, rsq, rsrc, rsch, rtm, rra, rrn, rrc⟩) (vs := vs) HC.out HMc.out.inv hst1; rwa [HAP.out] at this)
          have HCFG := Lib.hid (HMc.out.cfg.two' htd HMc.out.bs.2.2.2.2.2.2.1 HMc.out.bs.2.2.2.2.2.2.2.1)
          have HNX : Hid (st'.next ≤ i + 1) := Lib.hid (Nat.le_trans hAN.1 (Nat.succ_le_succ HMc.out.nx))
          have HRF : Hid (st'.refused ≤ i + 1) := Lib.hid (Nat.le_trans hAN.2 (Nat.succ_le_succ HMc.out.rf))
          have HSZ : Hid (B ≤ wd.heap.size) := Lib.hid (Nat.le_trans HMc.out.bs.2.2.2.2.2.2.2.2.2 htd.size)
          clear hput helse hcm2 m1 m2 m3 hcm1 hxd htd HMc e0 e1 e2 e3 e4 e5 e6 e7 hAN hbs HRX
          have HXD := HXD0
          obtain ⟨e0, -, -, -, -, -, e6, -⟩ := cellsE HCE.out hab HBD.out HXL.out
          simp only at e0 e6
          have habd : ab < wd.heap.size := Nat.lt_of_lt_of_le hab HBD.out.size
          have hiz0 : (0 : Int) ≤ (i : Int) := by omega
          by_cases hk0 : rk = 0
          · by_cases hre : re = 0
            · obtain ⟨p1, p2, p3, p4⟩ := HPUT.out hk0 hre
              subst hk0 hre
              have HP4 := Lib.hid p4
              have HP3 := Lib.hid p3
              have k0b : ((0 : Int) == 0) = true := rfl
              have q1 : decide (rtm ≤ closedF c st) = false := decide_eq_false (by omega)
              have q2 : decide (st'.now + c.ahead < rtm) = false := decide_eq_false (by omega)
              have hnow := HINV.out.now
              have hw1 : IntKind.i64.wrap (st'.now + c.ahead) = st'.now + c.ahead := by rw [IntKind.wrap_i64]; omega
              have g3 : wd.cell? ⟨w.heap.size, 3, none⟩ = some (.int .i64 c.ahead) := HCFG.out.cell 3
              have hgd : w.heap.size < wd.heap.size := HCFG.out.lt
              clear p1 p2 p3 p4 hnow
              go_wp2_with fail
              refine wp_region_noPanic ?_
              refine wp_region_held_drew (S := fun w' => w'.cell? ⟨ab, ao + i * 8 + 6, none⟩ = some (.int .i64 rtm) ∧ w'.cell? ⟨w.heap.size, 3, none⟩ = some (.int .i64 c.ahead)) (by kernel_rfl) ?_ (fun hHeld => ?_)
              · first | exact ⟨by assumption, by assumption⟩ | go_keep
              refine take_yes (i := 0) (some 69) (v := ?vc0) (by simp only [List.getElem?_toArray, List.getElem?_cons_zero]; exact rfl) rfl (by kernel_rfl) (by kernel_rfl) (by kernel_rfl) (fun _ _ _ h => h) (by rfl) ?hyc0 (by assumption) ?restc0
              case hyc0 => (intro w hSw; (try dsimp only at hSw); go_simp; try with_reducible rfl)
              try simp only [Act.put, List.setIfInBounds_toArray, List.set_cons_zero, List.set_cons_succ]
              refine take_yes (i := 1) (some 70) (v := ?vc1) (by simp only [List.getElem?_toArray, List.getElem?_cons_succ, List.getElem?_cons_zero]; exact rfl) rfl (by kernel_rfl) (by kernel_rfl) (by kernel_rfl) (fun _ _ _ h => h) (by rfl) ?hyc1 (by assumption) ?restc1
              case hyc1 => (intro w hSw; (try dsimp only at hSw); go_simp; try with_reducible rfl)
              try simp only [Act.put, List.setIfInBounds_toArray, List.set_cons_zero, List.set_cons_succ]
              refine take_yes (i := 2) (some 71) (v := ?vc2) (by simp only [List.getElem?_toArray, List.getElem?_cons_succ, List.getElem?_cons_zero]; exact rfl) rfl (by kernel_rfl) (by kernel_rfl) (by kernel_rfl) (fun _ _ _ h => h) (by rfl) ?hyc2 (by assumption) ?restc2
              case hyc2 => (intro w hSw; (try dsimp only at hSw); go_simp; try with_reducible rfl)
              try simp only [Act.put, List.setIfInBounds_toArray, List.set_cons_zero, List.set_cons_succ]
              refine take_yes (i := 3) (some 72) (v := ?vc3) (by simp only [List.getElem?_toArray, List.getElem?_cons_succ, List.getElem?_cons_zero]; exact rfl) rfl (by kernel_rfl) (by kernel_rfl) (by kernel_rfl) (fun _ _ _ h => h) (by rfl) ?hyc3 (by assumption) ?restc3
              case hyc3 => (intro w hSw; (try dsimp only at hSw); go_simp; try with_reducible rfl)
              try simp only [Act.put, List.setIfInBounds_toArray, List.set_cons_zero, List.set_cons_succ]
              refine take_yes (i := 4) (some 73) (v := ?vc4) (by simp only [List.getElem?_toArray, List.getElem?_cons_succ, List.getElem?_cons_zero]; exact rfl) rfl (by kernel_rfl) (by kernel_rfl) (by kernel_rfl) (fun _ _ _ h => h) (by rfl) ?hyc4 (by assumption) ?restc4
              case hyc4 => (intro w hSw; (try dsimp only at hSw); go_simp; try with_reducible rfl)
              try simp only [Act.put, List.setIfInBounds_toArray, List.set_cons_zero, List.set_cons_succ]
              refine take_yes (i := 5) (some 74) (v := ?vc5) (by simp only [List.getElem?_toArray, List.getElem?_cons_succ, List.getElem?_cons_zero]; exact rfl) rfl (by kernel_rfl) (by kernel_rfl) (by kernel_rfl) (fun _ _ _ h => h) (by rfl) ?hyc5 (by assumption) ?restc5
              case hyc5 => (intro w hSw; (try dsimp only at hSw); go_simp; try with_reducible rfl)
              try simp only [Act.put, List.setIfInBounds_toArray, List.set_cons_zero, List.set_cons_succ]
              refine take_yes (i := 6) (some 75) (v := ?vc6) (by simp only [List.getElem?_toArray, List.getElem?_cons_succ, List.getElem?_cons_zero]; exact rfl) rfl (by kernel_rfl) (by kernel_rfl) (by kernel_rfl) (fun _ _ _ h => h) (by rfl) ?hyc6 (by assumption) ?restc6
              case hyc6 => (intro w hSw; (try dsimp only at hSw); go_simp; try with_reducible rfl)
              try simp only [Act.put, List.setIfInBounds_toArray, List.set_cons_zero, List.set_cons_succ]
              refine take_yes (i := 7) (some 76) (v := ?vc7) (by simp only [List.getElem?_toArray, List.getElem?_cons_succ, List.getElem?_cons_zero]; exact rfl) rfl (by kernel_rfl) (by kernel_rfl) (by kernel_rfl) (fun _ _ _ h => h) (by rfl) ?hyc7 (by assumption) ?restc7
              case hyc7 => (intro w hSw; (try dsimp only at hSw); go_simp; try with_reducible rfl)
              try simp only [Act.put, List.setIfInBounds_toArray, List.set_cons_zero, List.set_cons_succ]
              refine take_yes (i := 8) (some 77) (v := ?vc8) (by simp only [List.getElem?_toArray, List.getElem?_cons_succ, List.getElem?_cons_zero]; exact rfl) rfl (by kernel_rfl) (by kernel_rfl) (by kernel_rfl) (fun _ _ _ h => h) (by rfl) ?hyc8 (by assumption) ?restc8
              case hyc8 => (intro w hSw; (try dsimp only at hSw); go_simp; try with_reducible rfl)
              try simp only [Act.put, List.setIfInBounds_toArray, List.set_cons_zero, List.set_cons_succ]
              refine take_yes (i := 9) (some 78) (v := ?vc9) (by simp only [List.getElem?_toArray, List.getElem?_cons_succ, List.getElem?_cons_zero]; exact rfl) rfl (by kernel_rfl) (by kernel_rfl) (by kernel_rfl) (fun _ _ _ h => h) (by rfl) ?hyc9 (by assumption) ?restc9
              case hyc9 => (intro w hSw; (try dsimp only at hSw); go_simp; try with_reducible rfl)
              try simp only [Act.put, List.setIfInBounds_toArray, List.set_cons_zero, List.set_cons_succ]
              refine take_yes (i := 10) (some 79) (v := ?vc10) (by simp only [List.getElem?_toArray, List.getElem?_cons_succ, List.getElem?_cons_zero]; exact rfl) rfl (by kernel_rfl) (by kernel_rfl) (by kernel_rfl) (fun _ _ _ h => h) (by rfl) ?hyc10 (by assumption) ?restc10
              case hyc10 => (intro w hSw; (try dsimp only at hSw); go_simp; try with_reducible rfl)
              try simp only [Act.put, List.setIfInBounds_toArray, List.set_cons_zero, List.set_cons_succ]
              refine take_yes (i := 11) (some 80) (v := ?vc11) (by simp only [List.getElem?_toArray, List.getElem?_cons_succ, List.getElem?_cons_zero]; exact rfl) rfl (by kernel_rfl) (by kernel_rfl) (by kernel_rfl) (fun _ _ _ h => h) (by rfl) ?hyc11 (by assumption) ?restc11
              case hyc11 => (intro w hSw; (try dsimp only at hSw); go_simp; try with_reducible rfl)
              try simp only [Act.put, List.setIfInBounds_toArray, List.set_cons_zero, List.set_cons_succ]
              refine take_yes (i := 12) (some 81) (v := ?vc12) (by simp only [List.getElem?_toArray, List.getElem?_cons_succ, List.getElem?_cons_zero]; exact rfl) rfl (by kernel_rfl) (by kernel_rfl) (by kernel_rfl) (fun _ _ _ h => h) (by rfl) ?hyc12 (by assumption) ?restc12
              case hyc12 => (intro w hSw; (try dsimp only at hSw); go_simp; try with_reducible rfl)
              try simp only [Act.put, List.setIfInBounds_toArray, List.set_cons_zero, List.set_cons_succ]
              refine take_yes (i := 13) (some 82) (v := ?vc13) (by simp only [List.getElem?_toArray, List.getElem?_cons_succ, List.getElem?_cons_zero]; exact rfl) rfl (by kernel_rfl) (by kernel_rfl) (by kernel_rfl) (fun _ _ _ h => h) (by rfl) ?hyc13 (by assumption) ?restc13
              case hyc13 => (intro w hSw; (try dsimp only at hSw); go_simp; try with_reducible rfl)
              try simp only [Act.put, List.setIfInBounds_toArray, List.set_cons_zero, List.set_cons_succ]
              refine take_yes (i := 15) (some 84) (v := ?vc15) (by simp only [List.getElem?_toArray, List.getElem?_cons_succ, List.getElem?_cons_zero]; exact rfl) rfl (by kernel_rfl) (by kernel_rfl) (by kernel_rfl) (fun _ _ _ h => h) (by rfl) ?hyc15 (by assumption) ?restc15
              case hyc15 => (intro w hSw; (try dsimp only at hSw); go_simp; try with_reducible rfl)
              try simp only [Act.put, List.setIfInBounds_toArray, List.set_cons_zero, List.set_cons_succ]
              refine take_yes (i := 16) (some 85) (v := ?vc16) (by simp only [List.getElem?_toArray, List.getElem?_cons_succ, List.getElem?_cons_zero]; exact rfl) rfl (by kernel_rfl) (by kernel_rfl) (by kernel_rfl) (fun _ _ _ h => h) (by rfl) ?hyc16 (by assumption) ?restc16
              case hyc16 => (intro w hSw; (try dsimp only at hSw); go_simp; try with_reducible rfl)
              try simp only [Act.put, List.setIfInBounds_toArray, List.set_cons_zero, List.set_cons_succ]
              refine wpAnyH_ready (rs := [14]) (by kernel_rfl) (by simp) ?_
              refine AllReadyH.cons rfl (fun K hK => ?_) AllReadyH.nil
              try go_simp
              go_wp2_with (go_at_call 25; refine (now_any (show IX (fun b => some b ≠ (Value.slice ta ts.length tc).ownBlock) (World.drew wd) p mb c known1 st' from HXD.out)).mono ?_; rintro e we ⟨rfl, hbe⟩; have HBE : Hid (Below wd.heap.size wd we) := Lib.hid ((Below.refl _ _).drew.trans hbe); have v6 : we.cell? ⟨ab, ao + i * 8 + 6, none⟩ = some (.int .i64 rtm) := (HBE.out.cell (p := ⟨_, _, none⟩) habd).trans e6; have v3 : we.cell? ⟨w.heap.size, 3, none⟩ = some (.int .i64 c.ahead) := (HBE.out.cell (p := ⟨_, _, none⟩) hgd).trans g3; clear hbe)
              refine hK.out _ _ ?_ (fun hHeld => ?_)
              · go_keep
              clear hK K
              try simp only [Act.put, List.setIfInBounds_toArray, List.set_cons_zero, List.set_cons_succ]
              refine take_yes (i := 17) (some 86) (v := ?vc17) (by simp only [List.getElem?_toArray, List.getElem?_cons_succ, List.getElem?_cons_zero]; exact rfl) rfl (by kernel_rfl) (by kernel_rfl) (by kernel_rfl) (fun _ _ _ h => h) (by rfl) ?hyc17 (by assumption) ?restc17
              case hyc17 => (intro w hSw; (try dsimp only at hSw); go_simp; try with_reducible rfl)
              try simp only [Act.put, List.setIfInBounds_toArray, List.set_cons_zero, List.set_cons_succ]
              refine take_yes (i := 18) (some 87) (v := ?vc18) (by simp only [List.getElem?_toArray, List.getElem?_cons_succ, List.getElem?_cons_zero]; exact rfl) rfl (by kernel_rfl) (by kernel_rfl) (by kernel_rfl) (fun _ _ _ h => h) (by rfl) ?hyc18 (by assumption) ?restc18
              case hyc18 => (intro w hSw; (try dsimp only at hSw); go_simp; try with_reducible rfl)
              try simp only [Act.put, List.setIfInBounds_toArray, List.set_cons_zero, List.set_cons_succ]
              refine take_yes (i := 19) (some 88) (v := ?vc19) (by simp only [List.getElem?_toArray, List.getElem?_cons_succ, List.getElem?_cons_zero]; exact rfl) rfl (by kernel_rfl) (by kernel_rfl) (by kernel_rfl) (fun _ _ _ h => h) (by rfl) ?hyc19 (by assumption) ?restc19
              case hyc19 => (intro w hSw; (try dsimp only at hSw); go_simp; try with_reducible rfl)
              try simp only [Act.put, List.setIfInBounds_toArray, List.set_cons_zero, List.set_cons_succ]
              refine wpAnyH_done (by kernel_rfl) ?_ _
              refine NoPanic.normal ?_
              (try clear hHeld)
              have habe : ab < we.heap.size := Nat.lt_of_lt_of_le habd HBE.out.size
              have HOE : Hid (we.ownsRow B 3 1 (.slice ta ts.length tc) ts.length (ts.flatMap eI)) := Lib.hid (own_below HOD.out HBE.out)
              have HLZ : Hid (ts.length + 1 ≤ 1000) := Lib.hid (by have := HLEN.out; omega)
              clear e0 e6 g3 v3 hw1 q1 q2
              go_wp2_with (at_builtin; refine wpList_append_sl (k := 1) (enc := eI) _ rfl _ _ 26 rfl B 3 _ 8 Try.underlying26 info_Int rfl (by decide) eI_len eI_one _ ts.length ts rfl (own_below HOE.out ((Below.refl _ we).alloc (Nat.le_refl _) _)) _ 1 1 [rtm] rfl (SlT.one1 _ _ _ _ (by first | rfl | simp)) (by have := HLZ.out; unfold maxLen; omega) (by have := HLZ.out; omega) (by have := HBS.out; have := HBE.out.size; have := HSZ.out; simp; omega) ?_)
              intro v' w8 hown8 hgrow hat
              obtain ⟨ta', tc', rfl⟩ := own_shape hown8
              have HB8 : Hid (Below B wd w8) := Lib.hid (((HBE.out.mono HSZ.out).alloc (by have := HSZ.out; have := HBE.out.size; omega) _).grown hgrow (by have := HSZ.out; have := HBE.out.size; simp; omega) (by intro k hk; exact (HOE.out.lt k hk).1))
              have HO8 : Hid (w8.ownsRow B 3 1 (.slice ta' (ts ++ [rtm]).length tc') (ts ++ [rtm]).length ((ts ++ [rtm]).flatMap eI)) := Lib.hid (by simpa [List.flatMap_append] using hown8)
              have HX8 : Hid (IX (fun b => some b ≠ (Value.slice ta' (ts ++ [rtm]).length tc').ownBlock) w8 p mb c known1 st') := Lib.hid (by
                have h1 : IX (fun b => some b ≠ (Value.slice ta ts.length tc).ownBlock) (we.alloc (.cells #[.int .i64 rtm] 3)) p mb c known1 st' := (HXD.out.below HBE.out).alloc _
                have hpm := HBS.out
                refine h1.row hgrow (fun b hb hp => ⟨hp, ?_⟩) (fun e => by have := (HOE.out.lt p e.symm).1; omega) (fun e => by have := (HOE.out.lt mb e.symm).1; omega)
                intro e
                rw [show (ts ++ [rtm]).length = ts.length + 1 by simp] at e
                rcases hat with h | h
                · exact hp (e.trans h)
                · have e2 := e.trans h
                  injection e2 with e2
                  simp at hb
                  omega)
              have HM8 : Hid (MemF w B w.heap.size p mb c st' (ts ++ [rtm]) ta' tc' (i + 1) w8) := Lib.hid ⟨HX8.out, HINV.out, HP4.out, HNX.out, HRF.out, by rw [List.length_append]; exact Nat.succ_le_succ HLEN.out, HO8.out, fun t ht => by
                rcases List.mem_append.1 ht with ht | ht
                · exact HRNG.out t ht
                · rw [List.mem_singleton.1 ht]; exact HP3.out, HBD.out.trans (HB8.out.mono HBS.out.2.2.2.2.2.2.2.2.1), HCFG.out.below HB8.out HBS.out.2.2.2.1, by have := HBS.out; have := HB8.out.size; have := HSZ.out; omega⟩
              clear hown8 hgrow hat HO8 HOE HB8 v6
              have b1 : decide (closedF c st' < closedF c st) = false := decide_eq_false (by have := HM1.out; omega)
              have b2 : decide (markF c st' < markF c st) = false := decide_eq_false (by have := HM2.out; omega)
              have b3 : decide (st'.top < st.top) = false := decide_eq_false (by have := HM3.out; omega)
              have b4 : decide (markF c st' < closedF c st') = false := decide_eq_false (by have := HCM1.out; omega)
              go_wp2_with fail
              refine (closed_any HM8.out.ix hls HM8.out.inv.top).mono ?_
              rintro e wq ⟨rfl, hbq⟩
              have HM8 := Lib.hid (HM8.out.belowW hbq)
              clear hbq
              go_wp2_with fail
              refine (mark_any HM8.out.ix hdl HM8.out.inv.top).mono ?_
              rintro e wq ⟨rfl, hbq⟩
              have HM8 := Lib.hid (HM8.out.belowW hbq)
              clear hbq
              go_wp2_with fail
              refine (top_any HM8.out.ix).mono ?_
              rintro e wq ⟨rfl, hbq⟩
              have HM8 := Lib.hid (HM8.out.belowW hbq)
              clear hbq
              go_wp2_with fail
              refine (closed_any HM8.out.ix hls HM8.out.inv.top).mono ?_
              rintro e wq ⟨rfl, hbq⟩
              have HM8 := Lib.hid (HM8.out.belowW hbq)
              clear hbq
              go_wp2_with fail
              refine (mark_any HM8.out.ix hdl HM8.out.inv.top).mono ?_
              rintro e wq ⟨rfl, hbq⟩
              have HM8 := Lib.hid (HM8.out.belowW hbq)
              clear hbq
              by_cases htop : 0 ≤ st'.top
              · have b5 : decide (0 ≤ st'.top) = true := decide_eq_true htop
                have b6 : decide (st'.top ≤ markF c st') = false := decide_eq_false (by have := HCM2.out htop; omega)
                go_wp2_with fail
                refine (top_any HM8.out.ix).mono ?_
                rintro e wq ⟨rfl, hbq⟩
                have HM8 := Lib.hid (HM8.out.belowW hbq)
                clear hbq
                go_wp2_with fail
                refine (mark_any HM8.out.ix hdl HM8.out.inv.top).mono ?_
                rintro e wq ⟨rfl, hbq⟩
                have HM8 := Lib.hid (HM8.out.belowW hbq)
                clear hbq
                go_wp2_with fail
                refine (top_any HM8.out.ix).mono ?_
                rintro e wq ⟨rfl, hbq⟩
                have HM8 := Lib.hid (HM8.out.belowW hbq)
                clear hbq
                go_wp2
                go_roundg (l.length - (i + 1))
                case measure => omega
                case rel => exact ⟨i + 1, st', ts ++ [rtm], ta', tc', by go_num, by omega, by omega, by first | rfl | simp, HM8⟩
              · have b5 : decide (0 ≤ st'.top) = false := decide_eq_false htop
                go_wp2_with fail
                refine (top_any HM8.out.ix).mono ?_
                rintro e wq ⟨rfl, hbq⟩
                have HM8 := Lib.hid (HM8.out.belowW hbq)
                clear hbq
                go_wp2
                go_roundg (l.length - (i + 1))
                case measure => omega
                case rel => exact ⟨i + 1, st', ts ++ [rtm], ta', tc', by go_num, by omega, by omega, by first | rfl | simp, HM8⟩
            · have hreb : (re == 0) = false := by simpa using hre
              have k0b : (rk == 0) = true := by simpa using hk0
              have HM8 : Hid (MemF w B w.heap.size p mb c st' ts ta tc (i + 1) wd) := Lib.hid (HMD.out (HELSE.out (fun q => hre q.2)) HOD.out (Nat.le_succ_of_le HLEN.out) HRNG.out)
              clear hre
              have b1 : decide (closedF c st' < closedF c st) = false := decide_eq_false (by have := HM1.out; omega)
              have b2 : decide (markF c st' < markF c st) = false := decide_eq_false (by have := HM2.out; omega)
              have b3 : decide (st'.top < st.top) = false := decide_eq_false (by have := HM3.out; omega)
              have b4 : decide (markF c st' < closedF c st') = false := decide_eq_false (by have := HCM1.out; omega)
              go_wp2_with fail
              refine (closed_any HM8.out.ix hls HM8.out.inv.top).mono ?_
              rintro e wq ⟨rfl, hbq⟩
              have HM8 := Lib.hid (HM8.out.belowW hbq)
              clear hbq
              go_wp2_with fail
              refine (mark_any HM8.out.ix hdl HM8.out.inv.top).mono ?_
              rintro e wq ⟨rfl, hbq⟩
              have HM8 := Lib.hid (HM8.out.belowW hbq)
              clear hbq
              go_wp2_with fail
              refine (top_any HM8.out.ix).mono ?_
              rintro e wq ⟨rfl, hbq⟩
              have HM8 := Lib.hid (HM8.out.belowW hbq)
              clear hbq
              go_wp2_with fail
              refine (closed_any HM8.out.ix hls HM8.out.inv.top).mono ?_
              rintro e wq ⟨rfl, hbq⟩
              have HM8 := Lib.hid (HM8.out.belowW hbq)
              clear hbq
              go_wp2_with fail
              refine (mark_any HM8.out.ix hdl HM8.out.inv.top).mono ?_
              rintro e wq ⟨rfl, hbq⟩
              have HM8 := Lib.hid (HM8.out.belowW hbq)
              clear hbq
              by_cases htop : 0 ≤ st'.top
              · have b5 : decide (0 ≤ st'.top) = true := decide_eq_true htop
                have b6 : decide (st'.top ≤ markF c st') = false := decide_eq_false (by have := HCM2.out htop; omega)
                go_wp2_with fail
                refine (top_any HM8.out.ix).mono ?_
                rintro e wq ⟨rfl, hbq⟩
                have HM8 := Lib.hid (HM8.out.belowW hbq)
                clear hbq
                go_wp2_with fail
                refine (mark_any HM8.out.ix hdl HM8.out.inv.top).mono ?_
                rintro e wq ⟨rfl, hbq⟩
                have HM8 := Lib.hid (HM8.out.belowW hbq)
                clear hbq
                go_wp2_with fail
                refine (top_any HM8.out.ix).mono ?_
                rintro e wq ⟨rfl, hbq⟩
                have HM8 := Lib.hid (HM8.out.belowW hbq)
                clear hbq
                go_wp2
                go_roundg (l.length - (i + 1))
                case measure => omega
                case rel => exact ⟨i + 1, st', ts, ta, tc, by go_num, by omega, by omega, by first | rfl | simp, HM8⟩
              · have b5 : decide (0 ≤ st'.top) = false := decide_eq_false htop
                go_wp2_with fail
                refine (top_any HM8.out.ix).mono ?_
                rintro e wq ⟨rfl, hbq⟩
                have HM8 := Lib.hid (HM8.out.belowW hbq)
                clear hbq
                go_wp2
                go_roundg (l.length - (i + 1))
                case measure => omega
                case rel => exact ⟨i + 1, st', ts, ta, tc, by go_num, by omega, by omega, by first | rfl | simp, HM8⟩
          · have k0b : (rk == 0) = false := by simpa using hk0
            have HM8 : Hid (MemF w B w.heap.size p mb c st' ts ta tc (i + 1) wd) := Lib.hid (HMD.out (HELSE.out (fun q => hk0 q.1)) HOD.out (Nat.le_succ_of_le HLEN.out) HRNG.out)
            clear hk0
            have b1 : decide (closedF c st' < closedF c st) = false := decide_eq_false (by have := HM1.out; omega)
            have b2 : decide (markF c st' < markF c st) = false := decide_eq_false (by have := HM2.out; omega)
            have b3 : decide (st'.top < st.top) = false := decide_eq_false (by have := HM3.out; omega)
            have b4 : decide (markF c st' < closedF c st') = false := decide_eq_false (by have := HCM1.out; omega)
            go_wp2_with fail
            refine (closed_any HM8.out.ix hls HM8.out.inv.top).mono ?_
            rintro e wq ⟨rfl, hbq⟩
            have HM8 := Lib.hid (HM8.out.belowW hbq)
            clear hbq
            go_wp2_with fail
            refine (mark_any HM8.out.ix hdl HM8.out.inv.top).mono ?_
            rintro e wq ⟨rfl, hbq⟩
            have HM8 := Lib.hid (HM8.out.belowW hbq)
            clear hbq
            go_wp2_with fail
            refine (top_any HM8.out.ix).mono ?_
            rintro e wq ⟨rfl, hbq⟩
            have HM8 := Lib.hid (HM8.out.belowW hbq)
            clear hbq
            go_wp2_with fail
            refine (closed_any HM8.out.ix hls HM8.out.inv.top).mono ?_
            rintro e wq ⟨rfl, hbq⟩
            have HM8 := Lib.hid (HM8.out.belowW hbq)
            clear hbq
            go_wp2_with fail
            refine (mark_any HM8.out.ix hdl HM8.out.inv.top).mono ?_
            rintro e wq ⟨rfl, hbq⟩
            have HM8 := Lib.hid (HM8.out.belowW hbq)
            clear hbq
            by_cases htop : 0 ≤ st'.top
            · have b5 : decide (0 ≤ st'.top) = true := decide_eq_true htop
              have b6 : decide (st'.top ≤ markF c st') = false := decide_eq_false (by have := HCM2.out htop; omega)
              go_wp2_with fail
              refine (top_any HM8.out.ix).mono ?_
              rintro e wq ⟨rfl, hbq⟩
              have HM8 := Lib.hid (HM8.out.belowW hbq)
              clear hbq
              go_wp2_with fail
              refine (mark_any HM8.out.ix hdl HM8.out.inv.top).mono ?_
              rintro e wq ⟨rfl, hbq⟩
              have HM8 := Lib.hid (HM8.out.belowW hbq)
              clear hbq
              go_wp2_with fail
              refine (top_any HM8.out.ix).mono ?_
              rintro e wq ⟨rfl, hbq⟩
              have HM8 := Lib.hid (HM8.out.belowW hbq)
              clear hbq
              go_wp2
              go_roundg (l.length - (i + 1))
              case measure => omega
              case rel => exact ⟨i + 1, st', ts, ta, tc, by go_num, by omega, by omega, by first | rfl | simp, HM8⟩
            · have b5 : decide (0 ≤ st'.top) = false := decide_eq_false htop
              go_wp2_with fail
              refine (top_any HM8.out.ix).mono ?_
              rintro e wq ⟨rfl, hbq⟩
              have HM8 := Lib.hid (HM8.out.belowW hbq)
              clear hbq
              go_wp2
              go_roundg (l.length - (i + 1))
              case measure => omega
              case rel => exact ⟨i + 1, st', ts, ta, tc, by go_num, by omega, by omega, by first | rfl | simp, HM8⟩
        · have hltz : ¬ (i : Int) < (l.length : Int) := by omega
          have hts : ts.length ≤ 1000 := by have := HM.out.len; omega
          have HTS := Lib.hid hts
          have HI := Lib.hid hi
          clear hi hg
          go_wp2_with fail
          go_loopg [14, 15, 16] ts.length (fun gg s14 _ _ wr => ∃ q : Nat, s14 = .int .i64 q ∧ q ≤ ts.length ∧ ts.length - q ≤ gg ∧ Hid (MemF w B w.heap.size p mb c st ts ta tc i wr))
          case atStart => exact ⟨0, rfl, by omega, by omega, HM⟩
          case round =>
            obtain ⟨q, rfl, hq, hgq, HMq⟩ := hrel
            clear HM
            revert HMq
            revert wr
            intro wz HMq
            by_cases hqt : q < ts.length
            · have hqz : (q : Int) < (ts.length : Int) := by omega
              have hq0 : (0 : Int) ≤ (q : Int) := by omega
              have hsl : SlT 1 eI wz ta ts.length tc ts := SlT.of_own eI_len HMq.out.own rfl
              obtain ⟨tb, tf, rfl, htb, -⟩ := hsl.2.2 (by omega)
              obtain ⟨t, htq⟩ : ∃ t, ts[q]? = some t := ⟨_, List.getElem?_eq_getElem hqt⟩
              have HTQ := Lib.hid htq
              have htm := List.mem_of_getElem? htq
              have hNr := HMq.out.fin.rate t
              have hNt := HMq.out.fin.top t htm
              have HNo := Lib.hid (HMq.out.fin.open_ t)
              have HNs := Lib.hid (HMq.out.fin.shut t)
              have hrng := HMq.out.rng t htm
              have hwf : wf64 t := by obtain ⟨a, b⟩ := hrng; exact ⟨by omega, by omega⟩
              have HWF := Lib.hid hwf
              have hcl := cntL_le t ts
              clear hsl htq htm hrng hwf
              go_wp2_with fail
              go_loopg [15, 16] ts.length (fun gg s15 s16 wx => ∃ k : Nat, s16 = .int .i64 k ∧ k ≤ ts.length ∧ ts.length - k ≤ gg ∧ s15 = .int .i64 (cntL t (ts.take k)) ∧ Hid (MemF w B w.heap.size p mb c st ts (some ⟨tb, tf, none⟩) tc i wx))
              case atStart => exact ⟨0, rfl, by omega, by omega, rfl, HMq⟩
              case round =>
                obtain ⟨k, rfl, hk, hgk, rfl, HMk⟩ := hrel
                clear HMq
                revert HMk
                revert wr
                intro wx HMk
                by_cases hkt : k < ts.length
                · have hkz : (k : Int) < (ts.length : Int) := by omega
                  have hk0 : (0 : Int) ≤ (k : Int) := by omega
                  obtain ⟨y, hy⟩ : ∃ y, ts[k]? = some y := ⟨_, List.getElem?_eq_getElem hkt⟩
                  have f1 := HMk.out.time rfl HTQ.out
                  have f2 := HMk.out.time rfl hy
                  have HCT := Lib.hid (cntL_take t ts k y hy)
                  have hct := cntL_le t (ts.take k)
                  rw [List.length_take] at hct
                  have HMd := Lib.hid (HMk.out.belowW (Below.refl _ _).drew)
                  clear hy
                  by_cases hyt : y = t
                  · subst hyt
                    have hb1 : (y == y) = true := by simp
                    go_wp2_with fail
                    refine wp_region_noPanic ?_
                    refine wp_region_held_drew (S := fun w' => w'.cell? ⟨tb, tf + k, none⟩ = some (.int .i64 y) ∧ w'.cell? ⟨tb, tf + q, none⟩ = some (.int .i64 y)) (by kernel_rfl) ?_ (fun hHeld => ?_)
                    · first | exact ⟨by assumption, by assumption⟩ | go_keep
                    refine take_yes (i := 0) (some 144) (v := ?vd0) (by simp only [List.getElem?_toArray, List.getElem?_cons_zero]; exact rfl) rfl (by kernel_rfl) (by kernel_rfl) (by kernel_rfl) (fun _ _ _ h => h) (by rfl) ?hyd0 (by assumption) ?restd0
                    case hyd0 => (intro w hSw; (try dsimp only at hSw); go_simp; try with_reducible rfl)
                    try simp only [Act.put, List.setIfInBounds_toArray, List.set_cons_zero, List.set_cons_succ]
                    refine take_yes (i := 1) (some 145) (v := ?vd1) (by simp only [List.getElem?_toArray, List.getElem?_cons_succ, List.getElem?_cons_zero]; exact rfl) rfl (by kernel_rfl) (by kernel_rfl) (by kernel_rfl) (fun _ _ _ h => h) (by rfl) ?hyd1 (by assumption) ?restd1
                    case hyd1 => (intro w hSw; (try dsimp only at hSw); go_simp; try with_reducible rfl)
                    try simp only [Act.put, List.setIfInBounds_toArray, List.set_cons_zero, List.set_cons_succ]
                    refine take_yes (i := 2) (some 146) (v := ?vd2) (by simp only [List.getElem?_toArray, List.getElem?_cons_succ, List.getElem?_cons_zero]; exact rfl) rfl (by kernel_rfl) (by kernel_rfl) (by kernel_rfl) (fun _ _ _ h => h) (by rfl) ?hyd2 (by assumption) ?restd2
                    case hyd2 => (intro w hSw; (try dsimp only at hSw); go_simp; try with_reducible rfl)
                    try simp only [Act.put, List.setIfInBounds_toArray, List.set_cons_zero, List.set_cons_succ]
                    refine take_yes (i := 3) (some 147) (v := ?vd3) (by simp only [List.getElem?_toArray, List.getElem?_cons_succ, List.getElem?_cons_zero]; exact rfl) rfl (by kernel_rfl) (by kernel_rfl) (by kernel_rfl) (fun _ _ _ h => h) (by rfl) ?hyd3 (by assumption) ?restd3
                    case hyd3 => (intro w hSw; (try dsimp only at hSw); go_simp; try with_reducible rfl)
                    try simp only [Act.put, List.setIfInBounds_toArray, List.set_cons_zero, List.set_cons_succ]
                    refine take_yes (i := 4) (some 148) (v := ?vd4) (by simp only [List.getElem?_toArray, List.getElem?_cons_succ, List.getElem?_cons_zero]; exact rfl) rfl (by kernel_rfl) (by kernel_rfl) (by kernel_rfl) (fun _ _ _ h => h) (by rfl) ?hyd4 (by assumption) ?restd4
                    case hyd4 => (intro w hSw; (try dsimp only at hSw); go_simp; try with_reducible rfl)
                    try simp only [Act.put, List.setIfInBounds_toArray, List.set_cons_zero, List.set_cons_succ]
                    refine take_yes (i := 5) (some 149) (v := ?vd5) (by simp only [List.getElem?_toArray, List.getElem?_cons_succ, List.getElem?_cons_zero]; exact rfl) rfl (by kernel_rfl) (by kernel_rfl) (by kernel_rfl) (fun _ _ _ h => h) (by rfl) ?hyd5 (by assumption) ?restd5
                    case hyd5 => (intro w hSw; (try dsimp only at hSw); go_simp; try with_reducible rfl)
                    try simp only [Act.put, List.setIfInBounds_toArray, List.set_cons_zero, List.set_cons_succ]
                    refine take_yes (i := 6) (some 150) (v := ?vd6) (by simp only [List.getElem?_toArray, List.getElem?_cons_succ, List.getElem?_cons_zero]; exact rfl) rfl (by kernel_rfl) (by kernel_rfl) (by kernel_rfl) (fun _ _ _ h => h) (by rfl) ?hyd6 (by assumption) ?restd6
                    case hyd6 => (intro w hSw; (try dsimp only at hSw); go_simp; try with_reducible rfl)
                    try simp only [Act.put, List.setIfInBounds_toArray, List.set_cons_zero, List.set_cons_succ]
                    refine take_yes (i := 7) (some 151) (v := ?vd7) (by simp only [List.getElem?_toArray, List.getElem?_cons_succ, List.getElem?_cons_zero]; exact rfl) rfl (by kernel_rfl) (by kernel_rfl) (by kernel_rfl) (fun _ _ _ h => h) (by rfl) ?hyd7 (by assumption) ?restd7
                    case hyd7 => (intro w hSw; (try dsimp only at hSw); go_simp; try with_reducible rfl)
                    try simp only [Act.put, List.setIfInBounds_toArray, List.set_cons_zero, List.set_cons_succ]
                    refine take_yes (i := 8) (some 152) (v := ?vd8) (by simp only [List.getElem?_toArray, List.getElem?_cons_succ, List.getElem?_cons_zero]; exact rfl) rfl (by kernel_rfl) (by kernel_rfl) (by kernel_rfl) (fun _ _ _ h => h) (by rfl) ?hyd8 (by assumption) ?restd8
                    case hyd8 => (intro w hSw; (try dsimp only at hSw); go_simp; try with_reducible rfl)
                    try simp only [Act.put, List.setIfInBounds_toArray, List.set_cons_zero, List.set_cons_succ]
                    refine wpAnyH_done (by kernel_rfl) ?_ _
                    refine NoPanic.normal ?_
                    (try clear hHeld)
                    go_wp2
                    go_roundg (ts.length - (k + 1))
                    case measure => omega
                    case rel => exact ⟨k + 1, by go_num, by omega, by omega, by rw [HCT.out]; first | (rw [if_pos rfl]; go_num) | (rw [if_pos trivial]; go_num), HMd⟩
                  · have hb1 : (y == t) = false := by simpa using hyt
                    have HYT := Lib.hid hyt
                    clear hyt
                    go_wp2_with fail
                    refine wp_region_noPanic ?_
                    refine wp_region_held_drew (S := fun w' => w'.cell? ⟨tb, tf + k, none⟩ = some (.int .i64 y) ∧ w'.cell? ⟨tb, tf + q, none⟩ = some (.int .i64 t)) (by kernel_rfl) ?_ (fun hHeld => ?_)
                    · first | exact ⟨by assumption, by assumption⟩ | go_keep
                    refine take_yes (i := 0) (some 144) (v := ?ve0) (by simp only [List.getElem?_toArray, List.getElem?_cons_zero]; exact rfl) rfl (by kernel_rfl) (by kernel_rfl) (by kernel_rfl) (fun _ _ _ h => h) (by rfl) ?hye0 (by assumption) ?reste0
                    case hye0 => (intro w hSw; (try dsimp only at hSw); go_simp; try with_reducible rfl)
                    try simp only [Act.put, List.setIfInBounds_toArray, List.set_cons_zero, List.set_cons_succ]
                    refine take_yes (i := 1) (some 145) (v := ?ve1) (by simp only [List.getElem?_toArray, List.getElem?_cons_succ, List.getElem?_cons_zero]; exact rfl) rfl (by kernel_rfl) (by kernel_rfl) (by kernel_rfl) (fun _ _ _ h => h) (by rfl) ?hye1 (by assumption) ?reste1
                    case hye1 => (intro w hSw; (try dsimp only at hSw); go_simp; try with_reducible rfl)
                    try simp only [Act.put, List.setIfInBounds_toArray, List.set_cons_zero, List.set_cons_succ]
                    refine take_yes (i := 2) (some 146) (v := ?ve2) (by simp only [List.getElem?_toArray, List.getElem?_cons_succ, List.getElem?_cons_zero]; exact rfl) rfl (by kernel_rfl) (by kernel_rfl) (by kernel_rfl) (fun _ _ _ h => h) (by rfl) ?hye2 (by assumption) ?reste2
                    case hye2 => (intro w hSw; (try dsimp only at hSw); go_simp; try with_reducible rfl)
                    try simp only [Act.put, List.setIfInBounds_toArray, List.set_cons_zero, List.set_cons_succ]
                    refine take_yes (i := 3) (some 147) (v := ?ve3) (by simp only [List.getElem?_toArray, List.getElem?_cons_succ, List.getElem?_cons_zero]; exact rfl) rfl (by kernel_rfl) (by kernel_rfl) (by kernel_rfl) (fun _ _ _ h => h) (by rfl) ?hye3 (by assumption) ?reste3
                    case hye3 => (intro w hSw; (try dsimp only at hSw); go_simp; try with_reducible rfl)
                    try simp only [Act.put, List.setIfInBounds_toArray, List.set_cons_zero, List.set_cons_succ]
                    refine take_yes (i := 4) (some 148) (v := ?ve4) (by simp only [List.getElem?_toArray, List.getElem?_cons_succ, List.getElem?_cons_zero]; exact rfl) rfl (by kernel_rfl) (by kernel_rfl) (by kernel_rfl) (fun _ _ _ h => h) (by rfl) ?hye4 (by assumption) ?reste4
                    case hye4 => (intro w hSw; (try dsimp only at hSw); go_simp; try with_reducible rfl)
                    try simp only [Act.put, List.setIfInBounds_toArray, List.set_cons_zero, List.set_cons_succ]
                    refine take_yes (i := 5) (some 149) (v := ?ve5) (by simp only [List.getElem?_toArray, List.getElem?_cons_succ, List.getElem?_cons_zero]; exact rfl) rfl (by kernel_rfl) (by kernel_rfl) (by kernel_rfl) (fun _ _ _ h => h) (by rfl) ?hye5 (by assumption) ?reste5
                    case hye5 => (intro w hSw; (try dsimp only at hSw); go_simp; try with_reducible rfl)
                    try simp only [Act.put, List.setIfInBounds_toArray, List.set_cons_zero, List.set_cons_succ]
                    refine take_yes (i := 6) (some 150) (v := ?ve6) (by simp only [List.getElem?_toArray, List.getElem?_cons_succ, List.getElem?_cons_zero]; exact rfl) rfl (by kernel_rfl) (by kernel_rfl) (by kernel_rfl) (fun _ _ _ h => h) (by rfl) ?hye6 (by assumption) ?reste6
                    case hye6 => (intro w hSw; (try dsimp only at hSw); go_simp; try with_reducible rfl)
                    try simp only [Act.put, List.setIfInBounds_toArray, List.set_cons_zero, List.set_cons_succ]
                    refine take_yes (i := 7) (some 151) (v := ?ve7) (by simp only [List.getElem?_toArray, List.getElem?_cons_succ, List.getElem?_cons_zero]; exact rfl) rfl (by kernel_rfl) (by kernel_rfl) (by kernel_rfl) (fun _ _ _ h => h) (by rfl) ?hye7 (by assumption) ?reste7
                    case hye7 => (intro w hSw; (try dsimp only at hSw); go_simp; try with_reducible rfl)
                    try simp only [Act.put, List.setIfInBounds_toArray, List.set_cons_zero, List.set_cons_succ]
                    refine take_yes (i := 8) (some 152) (v := ?ve8) (by simp only [List.getElem?_toArray, List.getElem?_cons_succ, List.getElem?_cons_zero]; exact rfl) rfl (by kernel_rfl) (by kernel_rfl) (by kernel_rfl) (fun _ _ _ h => h) (by rfl) ?hye8 (by assumption) ?reste8
                    case hye8 => (intro w hSw; (try dsimp only at hSw); go_simp; try with_reducible rfl)
                    try simp only [Act.put, List.setIfInBounds_toArray, List.set_cons_zero, List.set_cons_succ]
                    refine wpAnyH_done (by kernel_rfl) ?_ _
                    refine NoPanic.normal ?_
                    (try clear hHeld)
                    go_wp2
                    go_roundg (ts.length - (k + 1))
                    case measure => omega
                    case rel => exact ⟨k + 1, by go_num, by omega, by omega, by rw [HCT.out, if_neg HYT.out]; rfl, HMd⟩
                · have hkz : ¬ (k : Int) < (ts.length : Int) := by omega
                  obtain rfl : k = ts.length := by omega
                  rw [List.take_length]
                  have hwf := HWF.out
                  have HMd := Lib.hid (HMk.out.belowW (Below.refl _ _).drew)
                  obtain ⟨-, f4⟩ := HMk.out.cells
                  have f1 := HMk.out.time rfl HTQ.out
                  have d1 : decide (c.rate < (cntL t ts : Int)) = false := decide_eq_false (by omega)
                  have d2 : decide (st.top < t) = false := decide_eq_false (by omega)
                  by_cases hcs : closedF c st < t
                  · have d3 : decide (closedF c st < t) = true := decide_eq_true hcs
                    have d4 : (st.cnt t != (cntL t ts : Int)) = false := by rw [HNo.out hcs]; simp
                    have d5 : decide (t ≤ closedF c st) = false := decide_eq_false (by omega)
                    go_wp2_with fail
                    refine wp_region_noPanic ?_
                    refine wp_region_held_drew (S := fun w' => w'.cell? ⟨tb, tf + q, none⟩ = some (.int .i64 t) ∧ w'.cell? ⟨w.heap.size, 4, none⟩ = some (.int .i64 c.rate)) (by kernel_rfl) ?_ (fun hHeld => ?_)
                    · first | exact ⟨by assumption, by assumption⟩ | go_keep
                    refine take_yes (i := 0) (some 155) (v := ?vf0) (by simp only [List.getElem?_toArray, List.getElem?_cons_zero]; exact rfl) rfl (by kernel_rfl) (by kernel_rfl) (by kernel_rfl) (fun _ _ _ h => h) (by rfl) ?hyf0 (by assumption) ?restf0
                    case hyf0 => (intro w hSw; (try dsimp only at hSw); go_simp; try with_reducible rfl)
                    try simp only [Act.put, List.setIfInBounds_toArray, List.set_cons_zero, List.set_cons_succ]
                    refine take_yes (i := 1) (some 156) (v := ?vf1) (by simp only [List.getElem?_toArray, List.getElem?_cons_succ, List.getElem?_cons_zero]; exact rfl) rfl (by kernel_rfl) (by kernel_rfl) (by kernel_rfl) (fun _ _ _ h => h) (by rfl) ?hyf1 (by assumption) ?restf1
                    case hyf1 => (intro w hSw; (try dsimp only at hSw); go_simp; try with_reducible rfl)
                    try simp only [Act.put, List.setIfInBounds_toArray, List.set_cons_zero, List.set_cons_succ]
                    refine take_yes (i := 2) (some 157) (v := ?vf2) (by simp only [List.getElem?_toArray, List.getElem?_cons_succ, List.getElem?_cons_zero]; exact rfl) rfl (by kernel_rfl) (by kernel_rfl) (by kernel_rfl) (fun _ _ _ h => h) (by rfl) ?hyf2 (by assumption) ?restf2
                    case hyf2 => (intro w hSw; (try dsimp only at hSw); go_simp; try with_reducible rfl)
                    try simp only [Act.put, List.setIfInBounds_toArray, List.set_cons_zero, List.set_cons_succ]
                    refine take_yes (i := 3) (some 158) (v := ?vf3) (by simp only [List.getElem?_toArray, List.getElem?_cons_succ, List.getElem?_cons_zero]; exact rfl) rfl (by kernel_rfl) (by kernel_rfl) (by kernel_rfl) (fun _ _ _ h => h) (by rfl) ?hyf3 (by assumption) ?restf3
                    case hyf3 => (intro w hSw; (try dsimp only at hSw); go_simp; try with_reducible rfl)
                    try simp only [Act.put, List.setIfInBounds_toArray, List.set_cons_zero, List.set_cons_succ]
                    refine take_yes (i := 4) (some 159) (v := ?vf4) (by simp only [List.getElem?_toArray, List.getElem?_cons_succ, List.getElem?_cons_zero]; exact rfl) rfl (by kernel_rfl) (by kernel_rfl) (by kernel_rfl) (fun _ _ _ h => h) (by rfl) ?hyf4 (by assumption) ?restf4
                    case hyf4 => (intro w hSw; (try dsimp only at hSw); go_simp; try with_reducible rfl)
                    try simp only [Act.put, List.setIfInBounds_toArray, List.set_cons_zero, List.set_cons_succ]
                    refine take_yes (i := 5) (some 160) (v := ?vf5) (by simp only [List.getElem?_toArray, List.getElem?_cons_succ, List.getElem?_cons_zero]; exact rfl) rfl (by kernel_rfl) (by kernel_rfl) (by kernel_rfl) (fun _ _ _ h => h) (by rfl) ?hyf5 (by assumption) ?restf5
                    case hyf5 => (intro w hSw; (try dsimp only at hSw); go_simp; try with_reducible rfl)
                    try simp only [Act.put, List.setIfInBounds_toArray, List.set_cons_zero, List.set_cons_succ]
                    refine take_yes (i := 6) (some 161) (v := ?vf6) (by simp only [List.getElem?_toArray, List.getElem?_cons_succ, List.getElem?_cons_zero]; exact rfl) rfl (by kernel_rfl) (by kernel_rfl) (by kernel_rfl) (fun _ _ _ h => h) (by rfl) ?hyf6 (by assumption) ?restf6
                    case hyf6 => (intro w hSw; (try dsimp only at hSw); go_simp; try with_reducible rfl)
                    try simp only [Act.put, List.setIfInBounds_toArray, List.set_cons_zero, List.set_cons_succ]
                    refine take_yes (i := 7) (some 162) (v := ?vf7) (by simp only [List.getElem?_toArray, List.getElem?_cons_succ, List.getElem?_cons_zero]; exact rfl) rfl (by kernel_rfl) (by kernel_rfl) (by kernel_rfl) (fun _ _ _ h => h) (by rfl) ?hyf7 (by assumption) ?restf7
                    case hyf7 => (intro w hSw; (try dsimp only at hSw); go_simp; try with_reducible rfl)
                    try simp only [Act.put, List.setIfInBounds_toArray, List.set_cons_zero, List.set_cons_succ]
                    refine take_yes (i := 8) (some 163) (v := ?vf8) (by simp only [List.getElem?_toArray, List.getElem?_cons_succ, List.getElem?_cons_zero]; exact rfl) rfl (by kernel_rfl) (by kernel_rfl) (by kernel_rfl) (fun _ _ _ h => h) (by rfl) ?hyf8 (by assumption) ?restf8
                    case hyf8 => (intro w hSw; (try dsimp only at hSw); go_simp; try with_reducible rfl)
                    try simp only [Act.put, List.setIfInBounds_toArray, List.set_cons_zero, List.set_cons_succ]
                    refine take_yes (i := 9) (some 164) (v := ?vf9) (by simp only [List.getElem?_toArray, List.getElem?_cons_succ, List.getElem?_cons_zero]; exact rfl) rfl (by kernel_rfl) (by kernel_rfl) (by kernel_rfl) (fun _ _ _ h => h) (by rfl) ?hyf9 (by assumption) ?restf9
                    case hyf9 => (intro w hSw; (try dsimp only at hSw); go_simp; try with_reducible rfl)
                    try simp only [Act.put, List.setIfInBounds_toArray, List.set_cons_zero, List.set_cons_succ]
                    refine wpAnyH_ready (rs := [10]) (by kernel_rfl) (by simp) ?_
                    refine AllReadyH.cons rfl (fun K hK => ?_) AllReadyH.nil
                    try go_simp
                    go_wp2_with (((first | (go_at_call 24; refine (top_any HMd.out.ix).mono ?_) | (go_at_call 22; refine (closed_any HMd.out.ix hls HMd.out.inv.top).mono ?_) | (go_at_call 26; refine (count_any HMd.out.ix hwf).mono ?_)); rintro e wq ⟨rfl, hbq⟩; have HMd := Lib.hid (HMd.out.belowW hbq); obtain ⟨-, f4⟩ := HMd.out.cells; have f1 := HMd.out.time rfl HTQ.out; clear hbq))
                    refine hK.out _ _ ?_ (fun hHeld => ?_)
                    · go_keep
                    clear hK K
                    try simp only [Act.put, List.setIfInBounds_toArray, List.set_cons_zero, List.set_cons_succ]
                    refine take_yes (i := 11) (some 166) (v := ?vf11) (by simp only [List.getElem?_toArray, List.getElem?_cons_succ, List.getElem?_cons_zero]; exact rfl) rfl (by kernel_rfl) (by kernel_rfl) (by kernel_rfl) (fun _ _ _ h => h) (by rfl) ?hyf11 (by assumption) ?restf11
                    case hyf11 => (intro w hSw; (try dsimp only at hSw); go_simp; try with_reducible rfl)
                    try simp only [Act.put, List.setIfInBounds_toArray, List.set_cons_zero, List.set_cons_succ]
                    refine take_yes (i := 12) (some 167) (v := ?vf12) (by simp only [List.getElem?_toArray, List.getElem?_cons_succ, List.getElem?_cons_zero]; exact rfl) rfl (by kernel_rfl) (by kernel_rfl) (by kernel_rfl) (fun _ _ _ h => h) (by rfl) ?hyf12 (by assumption) ?restf12
                    case hyf12 => (intro w hSw; (try dsimp only at hSw); go_simp; try with_reducible rfl)
                    try simp only [Act.put, List.setIfInBounds_toArray, List.set_cons_zero, List.set_cons_succ]
                    refine take_yes (i := 13) (some 168) (v := ?vf13) (by simp only [List.getElem?_toArray, List.getElem?_cons_succ, List.getElem?_cons_zero]; exact rfl) rfl (by kernel_rfl) (by kernel_rfl) (by kernel_rfl) (fun _ _ _ h => h) (by rfl) ?hyf13 (by assumption) ?restf13
                    case hyf13 => (intro w hSw; (try dsimp only at hSw); go_simp; try with_reducible rfl)
                    try simp only [Act.put, List.setIfInBounds_toArray, List.set_cons_zero, List.set_cons_succ]
                    refine take_yes (i := 14) (some 169) (v := ?vf14) (by simp only [List.getElem?_toArray, List.getElem?_cons_succ, List.getElem?_cons_zero]; exact rfl) rfl (by kernel_rfl) (by kernel_rfl) (by kernel_rfl) (fun _ _ _ h => h) (by rfl) ?hyf14 (by assumption) ?restf14
                    case hyf14 => (intro w hSw; (try dsimp only at hSw); go_simp; try with_reducible rfl)
                    try simp only [Act.put, List.setIfInBounds_toArray, List.set_cons_zero, List.set_cons_succ]
                    refine take_yes (i := 15) (some 170) (v := ?vf15) (by simp only [List.getElem?_toArray, List.getElem?_cons_succ, List.getElem?_cons_zero]; exact rfl) rfl (by kernel_rfl) (by kernel_rfl) (by kernel_rfl) (fun _ _ _ h => h) (by rfl) ?hyf15 (by assumption) ?restf15
                    case hyf15 => (intro w hSw; (try dsimp only at hSw); go_simp; try with_reducible rfl)
                    try simp only [Act.put, List.setIfInBounds_toArray, List.set_cons_zero, List.set_cons_succ]
                    refine take_yes (i := 16) (some 171) (v := ?vf16) (by simp only [List.getElem?_toArray, List.getElem?_cons_succ, List.getElem?_cons_zero]; exact rfl) rfl (by kernel_rfl) (by kernel_rfl) (by kernel_rfl) (fun _ _ _ h => h) (by rfl) ?hyf16 (by assumption) ?restf16
                    case hyf16 => (intro w hSw; (try dsimp only at hSw); go_simp; try with_reducible rfl)
                    try simp only [Act.put, List.setIfInBounds_toArray, List.set_cons_zero, List.set_cons_succ]
                    refine take_yes (i := 17) (some 172) (v := ?vf17) (by simp only [List.getElem?_toArray, List.getElem?_cons_succ, List.getElem?_cons_zero]; exact rfl) rfl (by kernel_rfl) (by kernel_rfl) (by kernel_rfl) (fun _ _ _ h => h) (by rfl) ?hyf17 (by assumption) ?restf17
                    case hyf17 => (intro w hSw; (try dsimp only at hSw); go_simp; try with_reducible rfl)
                    try simp only [Act.put, List.setIfInBounds_toArray, List.set_cons_zero, List.set_cons_succ]
                    refine take_yes (i := 18) (some 173) (v := ?vf18) (by simp only [List.getElem?_toArray, List.getElem?_cons_succ, List.getElem?_cons_zero]; exact rfl) rfl (by kernel_rfl) (by kernel_rfl) (by kernel_rfl) (fun _ _ _ h => h) (by rfl) ?hyf18 (by assumption) ?restf18
                    case hyf18 => (intro w hSw; (try dsimp only at hSw); go_simp; try with_reducible rfl)
                    try simp only [Act.put, List.setIfInBounds_toArray, List.set_cons_zero, List.set_cons_succ]
                    refine wpAnyH_ready (rs := [19]) (by kernel_rfl) (by simp) ?_
                    refine AllReadyH.cons rfl (fun K hK => ?_) AllReadyH.nil
                    try go_simp
                    go_wp2_with (((first | (go_at_call 24; refine (top_any HMd.out.ix).mono ?_) | (go_at_call 22; refine (closed_any HMd.out.ix hls HMd.out.inv.top).mono ?_) | (go_at_call 26; refine (count_any HMd.out.ix hwf).mono ?_)); rintro e wq ⟨rfl, hbq⟩; have HMd := Lib.hid (HMd.out.belowW hbq); obtain ⟨-, f4⟩ := HMd.out.cells; have f1 := HMd.out.time rfl HTQ.out; clear hbq))
                    refine hK.out _ _ ?_ (fun hHeld => ?_)
                    · go_keep
                    clear hK K
                    try simp only [Act.put, List.setIfInBounds_toArray, List.set_cons_zero, List.set_cons_succ]
                    refine take_yes (i := 20) (some 175) (v := ?vf20) (by simp only [List.getElem?_toArray, List.getElem?_cons_succ, List.getElem?_cons_zero]; exact rfl) rfl (by kernel_rfl) (by kernel_rfl) (by kernel_rfl) (fun _ _ _ h => h) (by rfl) ?hyf20 (by assumption) ?restf20
                    case hyf20 => (intro w hSw; (try dsimp only at hSw); go_simp; try with_reducible rfl)
                    try simp only [Act.put, List.setIfInBounds_toArray, List.set_cons_zero, List.set_cons_succ]
                    refine take_yes (i := 21) (some 176) (v := ?vf21) (by simp only [List.getElem?_toArray, List.getElem?_cons_succ, List.getElem?_cons_zero]; exact rfl) rfl (by kernel_rfl) (by kernel_rfl) (by kernel_rfl) (fun _ _ _ h => h) (by rfl) ?hyf21 (by assumption) ?restf21
                    case hyf21 => (intro w hSw; (try dsimp only at hSw); go_simp; try with_reducible rfl)
                    try simp only [Act.put, List.setIfInBounds_toArray, List.set_cons_zero, List.set_cons_succ]
                    refine take_yes (i := 22) (some 177) (v := ?vf22) (by simp only [List.getElem?_toArray, List.getElem?_cons_succ, List.getElem?_cons_zero]; exact rfl) rfl (by kernel_rfl) (by kernel_rfl) (by kernel_rfl) (fun _ _ _ h => h) (by rfl) ?hyf22 (by assumption) ?restf22
                    case hyf22 => (intro w hSw; (try dsimp only at hSw); go_simp; try with_reducible rfl)
                    try simp only [Act.put, List.setIfInBounds_toArray, List.set_cons_zero, List.set_cons_succ]
                    refine take_yes (i := 23) (some 178) (v := ?vf23) (by simp only [List.getElem?_toArray, List.getElem?_cons_succ, List.getElem?_cons_zero]; exact rfl) rfl (by kernel_rfl) (by kernel_rfl) (by kernel_rfl) (fun _ _ _ h => h) (by rfl) ?hyf23 (by assumption) ?restf23
                    case hyf23 => (intro w hSw; (try dsimp only at hSw); go_simp; try with_reducible rfl)
                    try simp only [Act.put, List.setIfInBounds_toArray, List.set_cons_zero, List.set_cons_succ]
                    refine take_yes (i := 24) (some 179) (v := ?vf24) (by simp only [List.getElem?_toArray, List.getElem?_cons_succ, List.getElem?_cons_zero]; exact rfl) rfl (by kernel_rfl) (by kernel_rfl) (by kernel_rfl) (fun _ _ _ h => h) (by rfl) ?hyf24 (by assumption) ?restf24
                    case hyf24 => (intro w hSw; (try dsimp only at hSw); go_simp; try with_reducible rfl)
                    try simp only [Act.put, List.setIfInBounds_toArray, List.set_cons_zero, List.set_cons_succ]
                    refine take_yes (i := 25) (some 180) (v := ?vf25) (by simp only [List.getElem?_toArray, List.getElem?_cons_succ, List.getElem?_cons_zero]; exact rfl) rfl (by kernel_rfl) (by kernel_rfl) (by kernel_rfl) (fun _ _ _ h => h) (by rfl) ?hyf25 (by assumption) ?restf25
                    case hyf25 => (intro w hSw; (try dsimp only at hSw); go_simp; try with_reducible rfl)
                    try simp only [Act.put, List.setIfInBounds_toArray, List.set_cons_zero, List.set_cons_succ]
                    refine take_yes (i := 26) (some 181) (v := ?vf26) (by simp only [List.getElem?_toArray, List.getElem?_cons_succ, List.getElem?_cons_zero]; exact rfl) rfl (by kernel_rfl) (by kernel_rfl) (by kernel_rfl) (fun _ _ _ h => h) (by rfl) ?hyf26 (by assumption) ?restf26
                    case hyf26 => (intro w hSw; (try dsimp only at hSw); go_simp; try with_reducible rfl)
                    try simp only [Act.put, List.setIfInBounds_toArray, List.set_cons_zero, List.set_cons_succ]
                    refine take_yes (i := 28) (some 183) (v := ?vf28) (by simp only [List.getElem?_toArray, List.getElem?_cons_succ, List.getElem?_cons_zero]; exact rfl) rfl (by kernel_rfl) (by kernel_rfl) (by kernel_rfl) (fun _ _ _ h => h) (by rfl) ?hyf28 (by assumption) ?restf28
                    case hyf28 => (intro w hSw; (try dsimp only at hSw); go_simp; try with_reducible rfl)
                    try simp only [Act.put, List.setIfInBounds_toArray, List.set_cons_zero, List.set_cons_succ]
                    refine wpAnyH_ready (rs := [27]) (by kernel_rfl) (by simp) ?_
                    refine AllReadyH.cons rfl (fun K hK => ?_) AllReadyH.nil
                    try go_simp
                    go_wp2_with (((first | (go_at_call 24; refine (top_any HMd.out.ix).mono ?_) | (go_at_call 22; refine (closed_any HMd.out.ix hls HMd.out.inv.top).mono ?_) | (go_at_call 26; refine (count_any HMd.out.ix hwf).mono ?_)); rintro e wq ⟨rfl, hbq⟩; have HMd := Lib.hid (HMd.out.belowW hbq); obtain ⟨-, f4⟩ := HMd.out.cells; have f1 := HMd.out.time rfl HTQ.out; clear hbq))
                    refine hK.out _ _ ?_ (fun hHeld => ?_)
                    · go_keep
                    clear hK K
                    try simp only [Act.put, List.setIfInBounds_toArray, List.set_cons_zero, List.set_cons_succ]
                    refine take_yes (i := 29) (some 184) (v := ?vf29) (by simp only [List.getElem?_toArray, List.getElem?_cons_succ, List.getElem?_cons_zero]; exact rfl) rfl (by kernel_rfl) (by kernel_rfl) (by kernel_rfl) (fun _ _ _ h => h) (by rfl) ?hyf29 (by assumption) ?restf29
                    case hyf29 => (intro w hSw; (try dsimp only at hSw); go_simp; try with_reducible rfl)
                    try simp only [Act.put, List.setIfInBounds_toArray, List.set_cons_zero, List.set_cons_succ]
                    refine take_yes (i := 30) (some 185) (v := ?vf30) (by simp only [List.getElem?_toArray, List.getElem?_cons_succ, List.getElem?_cons_zero]; exact rfl) rfl (by kernel_rfl) (by kernel_rfl) (by kernel_rfl) (fun _ _ _ h => h) (by rfl) ?hyf30 (by assumption) ?restf30
                    case hyf30 => (intro w hSw; (try dsimp only at hSw); go_simp; try with_reducible rfl)
                    try simp only [Act.put, List.setIfInBounds_toArray, List.set_cons_zero, List.set_cons_succ]
                    refine take_yes (i := 31) (some 186) (v := ?vf31) (by simp only [List.getElem?_toArray, List.getElem?_cons_succ, List.getElem?_cons_zero]; exact rfl) rfl (by kernel_rfl) (by kernel_rfl) (by kernel_rfl) (fun _ _ _ h => h) (by rfl) ?hyf31 (by assumption) ?restf31
                    case hyf31 => (intro w hSw; (try dsimp only at hSw); go_simp; try with_reducible rfl)
                    try simp only [Act.put, List.setIfInBounds_toArray, List.set_cons_zero, List.set_cons_succ]
                    refine take_yes (i := 32) (some 187) (v := ?vf32) (by simp only [List.getElem?_toArray, List.getElem?_cons_succ, List.getElem?_cons_zero]; exact rfl) rfl (by kernel_rfl) (by kernel_rfl) (by kernel_rfl) (fun _ _ _ h => h) (by rfl) ?hyf32 (by assumption) ?restf32
                    case hyf32 => (intro w hSw; (try dsimp only at hSw); go_simp; try with_reducible rfl)
                    try simp only [Act.put, List.setIfInBounds_toArray, List.set_cons_zero, List.set_cons_succ]
                    refine take_yes (i := 33) (some 188) (v := ?vf33) (by simp only [List.getElem?_toArray, List.getElem?_cons_succ, List.getElem?_cons_zero]; exact rfl) rfl (by kernel_rfl) (by kernel_rfl) (by kernel_rfl) (fun _ _ _ h => h) (by rfl) ?hyf33 (by assumption) ?restf33
                    case hyf33 => (intro w hSw; (try dsimp only at hSw); go_simp; try with_reducible rfl)
                    try simp only [Act.put, List.setIfInBounds_toArray, List.set_cons_zero, List.set_cons_succ]
                    refine take_yes (i := 34) (some 189) (v := ?vf34) (by simp only [List.getElem?_toArray, List.getElem?_cons_succ, List.getElem?_cons_zero]; exact rfl) rfl (by kernel_rfl) (by kernel_rfl) (by kernel_rfl) (fun _ _ _ h => h) (by rfl) ?hyf34 (by assumption) ?restf34
                    case hyf34 => (intro w hSw; (try dsimp only at hSw); go_simp; try with_reducible rfl)
                    try simp only [Act.put, List.setIfInBounds_toArray, List.set_cons_zero, List.set_cons_succ]
                    refine take_yes (i := 35) (some 190) (v := ?vf35) (by simp only [List.getElem?_toArray, List.getElem?_cons_succ, List.getElem?_cons_zero]; exact rfl) rfl (by kernel_rfl) (by kernel_rfl) (by kernel_rfl) (fun _ _ _ h => h) (by rfl) ?hyf35 (by assumption) ?restf35
                    case hyf35 => (intro w hSw; (try dsimp only at hSw); go_simp; try with_reducible rfl)
                    try simp only [Act.put, List.setIfInBounds_toArray, List.set_cons_zero, List.set_cons_succ]
                    refine take_yes (i := 36) (some 191) (v := ?vf36) (by simp only [List.getElem?_toArray, List.getElem?_cons_succ, List.getElem?_cons_zero]; exact rfl) rfl (by kernel_rfl) (by kernel_rfl) (by kernel_rfl) (fun _ _ _ h => h) (by rfl) ?hyf36 (by assumption) ?restf36
                    case hyf36 => (intro w hSw; (try dsimp only at hSw); go_simp; try with_reducible rfl)
                    try simp only [Act.put, List.setIfInBounds_toArray, List.set_cons_zero, List.set_cons_succ]
                    refine take_yes (i := 37) (some 192) (v := ?vf37) (by simp only [List.getElem?_toArray, List.getElem?_cons_succ, List.getElem?_cons_zero]; exact rfl) rfl (by kernel_rfl) (by kernel_rfl) (by kernel_rfl) (fun _ _ _ h => h) (by rfl) ?hyf37 (by assumption) ?restf37
                    case hyf37 => (intro w hSw; (try dsimp only at hSw); go_simp; try with_reducible rfl)
                    try simp only [Act.put, List.setIfInBounds_toArray, List.set_cons_zero, List.set_cons_succ]
                    refine wpAnyH_ready (rs := [38]) (by kernel_rfl) (by simp) ?_
                    refine AllReadyH.cons rfl (fun K hK => ?_) AllReadyH.nil
                    try go_simp
                    go_wp2_with (((first | (go_at_call 24; refine (top_any HMd.out.ix).mono ?_) | (go_at_call 22; refine (closed_any HMd.out.ix hls HMd.out.inv.top).mono ?_) | (go_at_call 26; refine (count_any HMd.out.ix hwf).mono ?_)); rintro e wq ⟨rfl, hbq⟩; have HMd := Lib.hid (HMd.out.belowW hbq); obtain ⟨-, f4⟩ := HMd.out.cells; have f1 := HMd.out.time rfl HTQ.out; clear hbq))
                    refine hK.out _ _ ?_ (fun hHeld => ?_)
                    · go_keep
                    clear hK K
                    try simp only [Act.put, List.setIfInBounds_toArray, List.set_cons_zero, List.set_cons_succ]
                    refine take_yes (i := 39) (some 194) (v := ?vf39) (by simp only [List.getElem?_toArray, List.getElem?_cons_succ, List.getElem?_cons_zero]; exact rfl) rfl (by kernel_rfl) (by kernel_rfl) (by kernel_rfl) (fun _ _ _ h => h) (by rfl) ?hyf39 (by assumption) ?restf39
                    case hyf39 => (intro w hSw; (try dsimp only at hSw); go_simp; try with_reducible rfl)
                    try simp only [Act.put, List.setIfInBounds_toArray, List.set_cons_zero, List.set_cons_succ]
                    refine take_yes (i := 40) (some 195) (v := ?vf40) (by simp only [List.getElem?_toArray, List.getElem?_cons_succ, List.getElem?_cons_zero]; exact rfl) rfl (by kernel_rfl) (by kernel_rfl) (by kernel_rfl) (fun _ _ _ h => h) (by rfl) ?hyf40 (by assumption) ?restf40
                    case hyf40 => (intro w hSw; (try dsimp only at hSw); go_simp; try with_reducible rfl)
                    try simp only [Act.put, List.setIfInBounds_toArray, List.set_cons_zero, List.set_cons_succ]
                    refine take_un (i := 41) (some 196) (by simp only [List.getElem?_toArray, List.getElem?_cons_succ, List.getElem?_cons_zero]; exact rfl) rfl (by kernel_rfl) (by kernel_rfl) (by kernel_rfl) (fun _ _ _ h => h) (by rfl) (by assumption) ?_
                    try simp only [Act.put, List.setIfInBounds_toArray, List.set_cons_zero, List.set_cons_succ]
                    refine take_un (i := 42) (some 197) (by simp only [List.getElem?_toArray, List.getElem?_cons_succ, List.getElem?_cons_zero]; exact rfl) rfl (by kernel_rfl) (by kernel_rfl) (by kernel_rfl) (fun _ _ _ h => h) (by rfl) (by assumption) ?_
                    try simp only [Act.put, List.setIfInBounds_toArray, List.set_cons_zero, List.set_cons_succ]
                    refine take_un (i := 43) (some 198) (by simp only [List.getElem?_toArray, List.getElem?_cons_succ, List.getElem?_cons_zero]; exact rfl) rfl (by kernel_rfl) (by kernel_rfl) (by kernel_rfl) (fun _ _ _ h => h) (by rfl) (by assumption) ?_
                    try simp only [Act.put, List.setIfInBounds_toArray, List.set_cons_zero, List.set_cons_succ]
                    refine take_un (i := 44) (some 199) (by simp only [List.getElem?_toArray, List.getElem?_cons_succ, List.getElem?_cons_zero]; exact rfl) rfl (by kernel_rfl) (by kernel_rfl) (by kernel_rfl) (fun _ _ _ h => h) (by rfl) (by assumption) ?_
                    try simp only [Act.put, List.setIfInBounds_toArray, List.set_cons_zero, List.set_cons_succ]
                    refine take_un (i := 45) (some 200) (by simp only [List.getElem?_toArray, List.getElem?_cons_succ, List.getElem?_cons_zero]; exact rfl) rfl (by kernel_rfl) (by kernel_rfl) (by kernel_rfl) (fun _ _ _ h => h) (by rfl) (by assumption) ?_
                    try simp only [Act.put, List.setIfInBounds_toArray, List.set_cons_zero, List.set_cons_succ]
                    refine take_un (i := 46) (some 201) (by simp only [List.getElem?_toArray, List.getElem?_cons_succ, List.getElem?_cons_zero]; exact rfl) rfl (by kernel_rfl) (by kernel_rfl) (by kernel_rfl) (fun _ _ _ h => h) (by rfl) (by assumption) ?_
                    try simp only [Act.put, List.setIfInBounds_toArray, List.set_cons_zero, List.set_cons_succ]
                    refine take_un (i := 47) (some 202) (by simp only [List.getElem?_toArray, List.getElem?_cons_succ, List.getElem?_cons_zero]; exact rfl) rfl (by kernel_rfl) (by kernel_rfl) (by kernel_rfl) (fun _ _ _ h => h) (by rfl) (by assumption) ?_
                    try simp only [Act.put, List.setIfInBounds_toArray, List.set_cons_zero, List.set_cons_succ]
                    refine take_yes (i := 48) (some 203) (v := ?vf48) (by simp only [List.getElem?_toArray, List.getElem?_cons_succ, List.getElem?_cons_zero]; exact rfl) rfl (by kernel_rfl) (by kernel_rfl) (by kernel_rfl) (fun _ _ _ h => h) (by rfl) ?hyf48 (by assumption) ?restf48
                    case hyf48 => (intro w hSw; (try dsimp only at hSw); go_simp; try with_reducible rfl)
                    try simp only [Act.put, List.setIfInBounds_toArray, List.set_cons_zero, List.set_cons_succ]
                    refine take_yes (i := 49) (some 204) (v := ?vf49) (by simp only [List.getElem?_toArray, List.getElem?_cons_succ, List.getElem?_cons_zero]; exact rfl) rfl (by kernel_rfl) (by kernel_rfl) (by kernel_rfl) (fun _ _ _ h => h) (by rfl) ?hyf49 (by assumption) ?restf49
                    case hyf49 => (intro w hSw; (try dsimp only at hSw); go_simp; try with_reducible rfl)
                    try simp only [Act.put, List.setIfInBounds_toArray, List.set_cons_zero, List.set_cons_succ]
                    refine wpAnyH_done (by kernel_rfl) ?_ _
                    refine NoPanic.normal ?_
                    (try clear hHeld)
                    go_wp2
                    go_roundg (ts.length - (q + 1))
                    case measure => omega
                    case rel => exact ⟨q + 1, by go_num, by omega, by omega, HMd⟩
                  · have d3 : decide (closedF c st < t) = false := decide_eq_false hcs
                    have d4 : (st.cnt t != 0) = false := by rw [HNs.out (by omega)]; rfl
                    have d5 : decide (t ≤ closedF c st) = true := decide_eq_true (by omega)
                    go_wp2_with fail
                    refine wp_region_noPanic ?_
                    refine wp_region_held_drew (S := fun w' => w'.cell? ⟨tb, tf + q, none⟩ = some (.int .i64 t) ∧ w'.cell? ⟨w.heap.size, 4, none⟩ = some (.int .i64 c.rate)) (by kernel_rfl) ?_ (fun hHeld => ?_)
                    · first | exact ⟨by assumption, by assumption⟩ | go_keep
                    refine take_yes (i := 0) (some 155) (v := ?vg0) (by simp only [List.getElem?_toArray, List.getElem?_cons_zero]; exact rfl) rfl (by kernel_rfl) (by kernel_rfl) (by kernel_rfl) (fun _ _ _ h => h) (by rfl) ?hyg0 (by assumption) ?restg0
                    case hyg0 => (intro w hSw; (try dsimp only at hSw); go_simp; try with_reducible rfl)
                    try simp only [Act.put, List.setIfInBounds_toArray, List.set_cons_zero, List.set_cons_succ]
                    refine take_yes (i := 1) (some 156) (v := ?vg1) (by simp only [List.getElem?_toArray, List.getElem?_cons_succ, List.getElem?_cons_zero]; exact rfl) rfl (by kernel_rfl) (by kernel_rfl) (by kernel_rfl) (fun _ _ _ h => h) (by rfl) ?hyg1 (by assumption) ?restg1
                    case hyg1 => (intro w hSw; (try dsimp only at hSw); go_simp; try with_reducible rfl)
                    try simp only [Act.put, List.setIfInBounds_toArray, List.set_cons_zero, List.set_cons_succ]
                    refine take_yes (i := 2) (some 157) (v := ?vg2) (by simp only [List.getElem?_toArray, List.getElem?_cons_succ, List.getElem?_cons_zero]; exact rfl) rfl (by kernel_rfl) (by kernel_rfl) (by kernel_rfl) (fun _ _ _ h => h) (by rfl) ?hyg2 (by assumption) ?restg2
                    case hyg2 => (intro w hSw; (try dsimp only at hSw); go_simp; try with_reducible rfl)
                    try simp only [Act.put, List.setIfInBounds_toArray, List.set_cons_zero, List.set_cons_succ]
                    refine take_yes (i := 3) (some 158) (v := ?vg3) (by simp only [List.getElem?_toArray, List.getElem?_cons_succ, List.getElem?_cons_zero]; exact rfl) rfl (by kernel_rfl) (by kernel_rfl) (by kernel_rfl) (fun _ _ _ h => h) (by rfl) ?hyg3 (by assumption) ?restg3
                    case hyg3 => (intro w hSw; (try dsimp only at hSw); go_simp; try with_reducible rfl)
                    try simp only [Act.put, List.setIfInBounds_toArray, List.set_cons_zero, List.set_cons_succ]
                    refine take_yes (i := 4) (some 159) (v := ?vg4) (by simp only [List.getElem?_toArray, List.getElem?_cons_succ, List.getElem?_cons_zero]; exact rfl) rfl (by kernel_rfl) (by kernel_rfl) (by kernel_rfl) (fun _ _ _ h => h) (by rfl) ?hyg4 (by assumption) ?restg4
                    case hyg4 => (intro w hSw; (try dsimp only at hSw); go_simp; try with_reducible rfl)
                    try simp only [Act.put, List.setIfInBounds_toArray, List.set_cons_zero, List.set_cons_succ]
                    refine take_yes (i := 5) (some 160) (v := ?vg5) (by simp only [List.getElem?_toArray, List.getElem?_cons_succ, List.getElem?_cons_zero]; exact rfl) rfl (by kernel_rfl) (by kernel_rfl) (by kernel_rfl) (fun _ _ _ h => h) (by rfl) ?hyg5 (by assumption) ?restg5
                    case hyg5 => (intro w hSw; (try dsimp only at hSw); go_simp; try with_reducible rfl)
                    try simp only [Act.put, List.setIfInBounds_toArray, List.set_cons_zero, List.set_cons_succ]
                    refine take_yes (i := 6) (some 161) (v := ?vg6) (by simp only [List.getElem?_toArray, List.getElem?_cons_succ, List.getElem?_cons_zero]; exact rfl) rfl (by kernel_rfl) (by kernel_rfl) (by kernel_rfl) (fun _ _ _ h => h) (by rfl) ?hyg6 (by assumption) ?restg6
                    case hyg6 => (intro w hSw; (try dsimp only at hSw); go_simp; try with_reducible rfl)
                    try simp only [Act.put, List.setIfInBounds_toArray, List.set_cons_zero, List.set_cons_succ]
                    refine take_yes (i := 7) (some 162) (v := ?vg7) (by simp only [List.getElem?_toArray, List.getElem?_cons_succ, List.getElem?_cons_zero]; exact rfl) rfl (by kernel_rfl) (by kernel_rfl) (by kernel_rfl) (fun _ _ _ h => h) (by rfl) ?hyg7 (by assumption) ?restg7
                    case hyg7 => (intro w hSw; (try dsimp only at hSw); go_simp; try with_reducible rfl)
                    try simp only [Act.put, List.setIfInBounds_toArray, List.set_cons_zero, List.set_cons_succ]
                    refine take_yes (i := 8) (some 163) (v := ?vg8) (by simp only [List.getElem?_toArray, List.getElem?_cons_succ, List.getElem?_cons_zero]; exact rfl) rfl (by kernel_rfl) (by kernel_rfl) (by kernel_rfl) (fun _ _ _ h => h) (by rfl) ?hyg8 (by assumption) ?restg8
                    case hyg8 => (intro w hSw; (try dsimp only at hSw); go_simp; try with_reducible rfl)
                    try simp only [Act.put, List.setIfInBounds_toArray, List.set_cons_zero, List.set_cons_succ]
                    refine take_yes (i := 9) (some 164) (v := ?vg9) (by simp only [List.getElem?_toArray, List.getElem?_cons_succ, List.getElem?_cons_zero]; exact rfl) rfl (by kernel_rfl) (by kernel_rfl) (by kernel_rfl) (fun _ _ _ h => h) (by rfl) ?hyg9 (by assumption) ?restg9
                    case hyg9 => (intro w hSw; (try dsimp only at hSw); go_simp; try with_reducible rfl)
                    try simp only [Act.put, List.setIfInBounds_toArray, List.set_cons_zero, List.set_cons_succ]
                    refine wpAnyH_ready (rs := [10]) (by kernel_rfl) (by simp) ?_
                    refine AllReadyH.cons rfl (fun K hK => ?_) AllReadyH.nil
                    try go_simp
                    go_wp2_with (((first | (go_at_call 24; refine (top_any HMd.out.ix).mono ?_) | (go_at_call 22; refine (closed_any HMd.out.ix hls HMd.out.inv.top).mono ?_) | (go_at_call 26; refine (count_any HMd.out.ix hwf).mono ?_)); rintro e wq ⟨rfl, hbq⟩; have HMd := Lib.hid (HMd.out.belowW hbq); obtain ⟨-, f4⟩ := HMd.out.cells; have f1 := HMd.out.time rfl HTQ.out; clear hbq))
                    refine hK.out _ _ ?_ (fun hHeld => ?_)
                    · go_keep
                    clear hK K
                    try simp only [Act.put, List.setIfInBounds_toArray, List.set_cons_zero, List.set_cons_succ]
                    refine take_yes (i := 11) (some 166) (v := ?vg11) (by simp only [List.getElem?_toArray, List.getElem?_cons_succ, List.getElem?_cons_zero]; exact rfl) rfl (by kernel_rfl) (by kernel_rfl) (by kernel_rfl) (fun _ _ _ h => h) (by rfl) ?hyg11 (by assumption) ?restg11
                    case hyg11 => (intro w hSw; (try dsimp only at hSw); go_simp; try with_reducible rfl)
                    try simp only [Act.put, List.setIfInBounds_toArray, List.set_cons_zero, List.set_cons_succ]
                    refine take_yes (i := 12) (some 167) (v := ?vg12) (by simp only [List.getElem?_toArray, List.getElem?_cons_succ, List.getElem?_cons_zero]; exact rfl) rfl (by kernel_rfl) (by kernel_rfl) (by kernel_rfl) (fun _ _ _ h => h) (by rfl) ?hyg12 (by assumption) ?restg12
                    case hyg12 => (intro w hSw; (try dsimp only at hSw); go_simp; try with_reducible rfl)
                    try simp only [Act.put, List.setIfInBounds_toArray, List.set_cons_zero, List.set_cons_succ]
                    refine take_yes (i := 13) (some 168) (v := ?vg13) (by simp only [List.getElem?_toArray, List.getElem?_cons_succ, List.getElem?_cons_zero]; exact rfl) rfl (by kernel_rfl) (by kernel_rfl) (by kernel_rfl) (fun _ _ _ h => h) (by rfl) ?hyg13 (by assumption) ?restg13
                    case hyg13 => (intro w hSw; (try dsimp only at hSw); go_simp; try with_reducible rfl)
                    try simp only [Act.put, List.setIfInBounds_toArray, List.set_cons_zero, List.set_cons_succ]
                    refine take_yes (i := 14) (some 169) (v := ?vg14) (by simp only [List.getElem?_toArray, List.getElem?_cons_succ, List.getElem?_cons_zero]; exact rfl) rfl (by kernel_rfl) (by kernel_rfl) (by kernel_rfl) (fun _ _ _ h => h) (by rfl) ?hyg14 (by assumption) ?restg14
                    case hyg14 => (intro w hSw; (try dsimp only at hSw); go_simp; try with_reducible rfl)
                    try simp only [Act.put, List.setIfInBounds_toArray, List.set_cons_zero, List.set_cons_succ]
                    refine take_yes (i := 15) (some 170) (v := ?vg15) (by simp only [List.getElem?_toArray, List.getElem?_cons_succ, List.getElem?_cons_zero]; exact rfl) rfl (by kernel_rfl) (by kernel_rfl) (by kernel_rfl) (fun _ _ _ h => h) (by rfl) ?hyg15 (by assumption) ?restg15
                    case hyg15 => (intro w hSw; (try dsimp only at hSw); go_simp; try with_reducible rfl)
                    try simp only [Act.put, List.setIfInBounds_toArray, List.set_cons_zero, List.set_cons_succ]
                    refine take_yes (i := 16) (some 171) (v := ?vg16) (by simp only [List.getElem?_toArray, List.getElem?_cons_succ, List.getElem?_cons_zero]; exact rfl) rfl (by kernel_rfl) (by kernel_rfl) (by kernel_rfl) (fun _ _ _ h => h) (by rfl) ?hyg16 (by assumption) ?restg16
                    case hyg16 => (intro w hSw; (try dsimp only at hSw); go_simp; try with_reducible rfl)
                    try simp only [Act.put, List.setIfInBounds_toArray, List.set_cons_zero, List.set_cons_succ]
                    refine take_yes (i := 17) (some 172) (v := ?vg17) (by simp only [List.getElem?_toArray, List.getElem?_cons_succ, List.getElem?_cons_zero]; exact rfl) rfl (by kernel_rfl) (by kernel_rfl) (by kernel_rfl) (fun _ _ _ h => h) (by rfl) ?hyg17 (by assumption) ?restg17
                    case hyg17 => (intro w hSw; (try dsimp only at hSw); go_simp; try with_reducible rfl)
                    try simp only [Act.put, List.setIfInBounds_toArray, List.set_cons_zero, List.set_cons_succ]
                    refine take_yes (i := 18) (some 173) (v := ?vg18) (by simp only [List.getElem?_toArray, List.getElem?_cons_succ, List.getElem?_cons_zero]; exact rfl) rfl (by kernel_rfl) (by kernel_rfl) (by kernel_rfl) (fun _ _ _ h => h) (by rfl) ?hyg18 (by assumption) ?restg18
                    case hyg18 => (intro w hSw; (try dsimp only at hSw); go_simp; try with_reducible rfl)
                    try simp only [Act.put, List.setIfInBounds_toArray, List.set_cons_zero, List.set_cons_succ]
                    refine wpAnyH_ready (rs := [19]) (by kernel_rfl) (by simp) ?_
                    refine AllReadyH.cons rfl (fun K hK => ?_) AllReadyH.nil
                    try go_simp
                    go_wp2_with (((first | (go_at_call 24; refine (top_any HMd.out.ix).mono ?_) | (go_at_call 22; refine (closed_any HMd.out.ix hls HMd.out.inv.top).mono ?_) | (go_at_call 26; refine (count_any HMd.out.ix hwf).mono ?_)); rintro e wq ⟨rfl, hbq⟩; have HMd := Lib.hid (HMd.out.belowW hbq); obtain ⟨-, f4⟩ := HMd.out.cells; have f1 := HMd.out.time rfl HTQ.out; clear hbq))
                    refine hK.out _ _ ?_ (fun hHeld => ?_)
                    · go_keep
                    clear hK K
                    try simp only [Act.put, List.setIfInBounds_toArray, List.set_cons_zero, List.set_cons_succ]
                    refine take_yes (i := 20) (some 175) (v := ?vg20) (by simp only [List.getElem?_toArray, List.getElem?_cons_succ, List.getElem?_cons_zero]; exact rfl) rfl (by kernel_rfl) (by kernel_rfl) (by kernel_rfl) (fun _ _ _ h => h) (by rfl) ?hyg20 (by assumption) ?restg20
                    case hyg20 => (intro w hSw; (try dsimp only at hSw); go_simp; try with_reducible rfl)
                    try simp only [Act.put, List.setIfInBounds_toArray, List.set_cons_zero, List.set_cons_succ]
                    refine take_yes (i := 21) (some 176) (v := ?vg21) (by simp only [List.getElem?_toArray, List.getElem?_cons_succ, List.getElem?_cons_zero]; exact rfl) rfl (by kernel_rfl) (by kernel_rfl) (by kernel_rfl) (fun _ _ _ h => h) (by rfl) ?hyg21 (by assumption) ?restg21
                    case hyg21 => (intro w hSw; (try dsimp only at hSw); go_simp; try with_reducible rfl)
                    try simp only [Act.put, List.setIfInBounds_toArray, List.set_cons_zero, List.set_cons_succ]
                    refine take_un (i := 22) (some 177) (by simp only [List.getElem?_toArray, List.getElem?_cons_succ, List.getElem?_cons_zero]; exact rfl) rfl (by kernel_rfl) (by kernel_rfl) (by kernel_rfl) (fun _ _ _ h => h) (by rfl) (by assumption) ?_
                    try simp only [Act.put, List.setIfInBounds_toArray, List.set_cons_zero, List.set_cons_succ]
                    refine take_un (i := 23) (some 178) (by simp only [List.getElem?_toArray, List.getElem?_cons_succ, List.getElem?_cons_zero]; exact rfl) rfl (by kernel_rfl) (by kernel_rfl) (by kernel_rfl) (fun _ _ _ h => h) (by rfl) (by assumption) ?_
                    try simp only [Act.put, List.setIfInBounds_toArray, List.set_cons_zero, List.set_cons_succ]
                    refine take_un (i := 24) (some 179) (by simp only [List.getElem?_toArray, List.getElem?_cons_succ, List.getElem?_cons_zero]; exact rfl) rfl (by kernel_rfl) (by kernel_rfl) (by kernel_rfl) (fun _ _ _ h => h) (by rfl) (by assumption) ?_
                    try simp only [Act.put, List.setIfInBounds_toArray, List.set_cons_zero, List.set_cons_succ]
                    refine take_un (i := 25) (some 180) (by simp only [List.getElem?_toArray, List.getElem?_cons_succ, List.getElem?_cons_zero]; exact rfl) rfl (by kernel_rfl) (by kernel_rfl) (by kernel_rfl) (fun _ _ _ h => h) (by rfl) (by assumption) ?_
                    try simp only [Act.put, List.setIfInBounds_toArray, List.set_cons_zero, List.set_cons_succ]
                    refine take_un (i := 26) (some 181) (by simp only [List.getElem?_toArray, List.getElem?_cons_succ, List.getElem?_cons_zero]; exact rfl) rfl (by kernel_rfl) (by kernel_rfl) (by kernel_rfl) (fun _ _ _ h => h) (by rfl) (by assumption) ?_
                    try simp only [Act.put, List.setIfInBounds_toArray, List.set_cons_zero, List.set_cons_succ]
                    refine take_un (i := 27) (some 182) (by simp only [List.getElem?_toArray, List.getElem?_cons_succ, List.getElem?_cons_zero]; exact rfl) rfl (by kernel_rfl) (by kernel_rfl) (by kernel_rfl) (fun _ _ _ h => h) (by rfl) (by assumption) ?_
                    try simp only [Act.put, List.setIfInBounds_toArray, List.set_cons_zero, List.set_cons_succ]
                    refine take_un (i := 28) (some 183) (by simp only [List.getElem?_toArray, List.getElem?_cons_succ, List.getElem?_cons_zero]; exact rfl) rfl (by kernel_rfl) (by kernel_rfl) (by kernel_rfl) (fun _ _ _ h => h) (by rfl) (by assumption) ?_
                    try simp only [Act.put, List.setIfInBounds_toArray, List.set_cons_zero, List.set_cons_succ]
                    refine take_un (i := 29) (some 184) (by simp only [List.getElem?_toArray, List.getElem?_cons_succ, List.getElem?_cons_zero]; exact rfl) rfl (by kernel_rfl) (by kernel_rfl) (by kernel_rfl) (fun _ _ _ h => h) (by rfl) (by assumption) ?_
                    try simp only [Act.put, List.setIfInBounds_toArray, List.set_cons_zero, List.set_cons_succ]
                    refine take_yes (i := 30) (some 185) (v := ?vg30) (by simp only [List.getElem?_toArray, List.getElem?_cons_succ, List.getElem?_cons_zero]; exact rfl) rfl (by kernel_rfl) (by kernel_rfl) (by kernel_rfl) (fun _ _ _ h => h) (by rfl) ?hyg30 (by assumption) ?restg30
                    case hyg30 => (intro w hSw; (try dsimp only at hSw); go_simp; try with_reducible rfl)
                    try simp only [Act.put, List.setIfInBounds_toArray, List.set_cons_zero, List.set_cons_succ]
                    refine take_yes (i := 31) (some 186) (v := ?vg31) (by simp only [List.getElem?_toArray, List.getElem?_cons_succ, List.getElem?_cons_zero]; exact rfl) rfl (by kernel_rfl) (by kernel_rfl) (by kernel_rfl) (fun _ _ _ h => h) (by rfl) ?hyg31 (by assumption) ?restg31
                    case hyg31 => (intro w hSw; (try dsimp only at hSw); go_simp; try with_reducible rfl)
                    try simp only [Act.put, List.setIfInBounds_toArray, List.set_cons_zero, List.set_cons_succ]
                    refine take_yes (i := 32) (some 187) (v := ?vg32) (by simp only [List.getElem?_toArray, List.getElem?_cons_succ, List.getElem?_cons_zero]; exact rfl) rfl (by kernel_rfl) (by kernel_rfl) (by kernel_rfl) (fun _ _ _ h => h) (by rfl) ?hyg32 (by assumption) ?restg32
                    case hyg32 => (intro w hSw; (try dsimp only at hSw); go_simp; try with_reducible rfl)
                    try simp only [Act.put, List.setIfInBounds_toArray, List.set_cons_zero, List.set_cons_succ]
                    refine take_yes (i := 33) (some 188) (v := ?vg33) (by simp only [List.getElem?_toArray, List.getElem?_cons_succ, List.getElem?_cons_zero]; exact rfl) rfl (by kernel_rfl) (by kernel_rfl) (by kernel_rfl) (fun _ _ _ h => h) (by rfl) ?hyg33 (by assumption) ?restg33
                    case hyg33 => (intro w hSw; (try dsimp only at hSw); go_simp; try with_reducible rfl)
                    try simp only [Act.put, List.setIfInBounds_toArray, List.set_cons_zero, List.set_cons_succ]
                    refine take_yes (i := 34) (some 189) (v := ?vg34) (by simp only [List.getElem?_toArray, List.getElem?_cons_succ, List.getElem?_cons_zero]; exact rfl) rfl (by kernel_rfl) (by kernel_rfl) (by kernel_rfl) (fun _ _ _ h => h) (by rfl) ?hyg34 (by assumption) ?restg34
                    case hyg34 => (intro w hSw; (try dsimp only at hSw); go_simp; try with_reducible rfl)
                    try simp only [Act.put, List.setIfInBounds_toArray, List.set_cons_zero, List.set_cons_succ]
                    refine take_yes (i := 35) (some 190) (v := ?vg35) (by simp only [List.getElem?_toArray, List.getElem?_cons_succ, List.getElem?_cons_zero]; exact rfl) rfl (by kernel_rfl) (by kernel_rfl) (by kernel_rfl) (fun _ _ _ h => h) (by rfl) ?hyg35 (by assumption) ?restg35
                    case hyg35 => (intro w hSw; (try dsimp only at hSw); go_simp; try with_reducible rfl)
                    try simp only [Act.put, List.setIfInBounds_toArray, List.set_cons_zero, List.set_cons_succ]
                    refine take_yes (i := 36) (some 191) (v := ?vg36) (by simp only [List.getElem?_toArray, List.getElem?_cons_succ, List.getElem?_cons_zero]; exact rfl) rfl (by kernel_rfl) (by kernel_rfl) (by kernel_rfl) (fun _ _ _ h => h) (by rfl) ?hyg36 (by assumption) ?restg36
                    case hyg36 => (intro w hSw; (try dsimp only at hSw); go_simp; try with_reducible rfl)
                    try simp only [Act.put, List.setIfInBounds_toArray, List.set_cons_zero, List.set_cons_succ]
                    refine take_yes (i := 37) (some 192) (v := ?vg37) (by simp only [List.getElem?_toArray, List.getElem?_cons_succ, List.getElem?_cons_zero]; exact rfl) rfl (by kernel_rfl) (by kernel_rfl) (by kernel_rfl) (fun _ _ _ h => h) (by rfl) ?hyg37 (by assumption) ?restg37
                    case hyg37 => (intro w hSw; (try dsimp only at hSw); go_simp; try with_reducible rfl)
                    try simp only [Act.put, List.setIfInBounds_toArray, List.set_cons_zero, List.set_cons_succ]
                    refine wpAnyH_ready (rs := [38]) (by kernel_rfl) (by simp) ?_
                    refine AllReadyH.cons rfl (fun K hK => ?_) AllReadyH.nil
                    try go_simp
                    go_wp2_with (((first | (go_at_call 24; refine (top_any HMd.out.ix).mono ?_) | (go_at_call 22; refine (closed_any HMd.out.ix hls HMd.out.inv.top).mono ?_) | (go_at_call 26; refine (count_any HMd.out.ix hwf).mono ?_)); rintro e wq ⟨rfl, hbq⟩; have HMd := Lib.hid (HMd.out.belowW hbq); obtain ⟨-, f4⟩ := HMd.out.cells; have f1 := HMd.out.time rfl HTQ.out; clear hbq))
                    refine hK.out _ _ ?_ (fun hHeld => ?_)
                    · go_keep
                    clear hK K
                    try simp only [Act.put, List.setIfInBounds_toArray, List.set_cons_zero, List.set_cons_succ]
                    refine take_yes (i := 39) (some 194) (v := ?vg39) (by simp only [List.getElem?_toArray, List.getElem?_cons_succ, List.getElem?_cons_zero]; exact rfl) rfl (by kernel_rfl) (by kernel_rfl) (by kernel_rfl) (fun _ _ _ h => h) (by rfl) ?hyg39 (by assumption) ?restg39
                    case hyg39 => (intro w hSw; (try dsimp only at hSw); go_simp; try with_reducible rfl)
                    try simp only [Act.put, List.setIfInBounds_toArray, List.set_cons_zero, List.set_cons_succ]
                    refine take_yes (i := 40) (some 195) (v := ?vg40) (by simp only [List.getElem?_toArray, List.getElem?_cons_succ, List.getElem?_cons_zero]; exact rfl) rfl (by kernel_rfl) (by kernel_rfl) (by kernel_rfl) (fun _ _ _ h => h) (by rfl) ?hyg40 (by assumption) ?restg40
                    case hyg40 => (intro w hSw; (try dsimp only at hSw); go_simp; try with_reducible rfl)
                    try simp only [Act.put, List.setIfInBounds_toArray, List.set_cons_zero, List.set_cons_succ]
                    refine take_yes (i := 41) (some 196) (v := ?vg41) (by simp only [List.getElem?_toArray, List.getElem?_cons_succ, List.getElem?_cons_zero]; exact rfl) rfl (by kernel_rfl) (by kernel_rfl) (by kernel_rfl) (fun _ _ _ h => h) (by rfl) ?hyg41 (by assumption) ?restg41
                    case hyg41 => (intro w hSw; (try dsimp only at hSw); go_simp; try with_reducible rfl)
                    try simp only [Act.put, List.setIfInBounds_toArray, List.set_cons_zero, List.set_cons_succ]
                    refine take_yes (i := 42) (some 197) (v := ?vg42) (by simp only [List.getElem?_toArray, List.getElem?_cons_succ, List.getElem?_cons_zero]; exact rfl) rfl (by kernel_rfl) (by kernel_rfl) (by kernel_rfl) (fun _ _ _ h => h) (by rfl) ?hyg42 (by assumption) ?restg42
                    case hyg42 => (intro w hSw; (try dsimp only at hSw); go_simp; try with_reducible rfl)
                    try simp only [Act.put, List.setIfInBounds_toArray, List.set_cons_zero, List.set_cons_succ]
                    refine take_yes (i := 43) (some 198) (v := ?vg43) (by simp only [List.getElem?_toArray, List.getElem?_cons_succ, List.getElem?_cons_zero]; exact rfl) rfl (by kernel_rfl) (by kernel_rfl) (by kernel_rfl) (fun _ _ _ h => h) (by rfl) ?hyg43 (by assumption) ?restg43
                    case hyg43 => (intro w hSw; (try dsimp only at hSw); go_simp; try with_reducible rfl)
                    try simp only [Act.put, List.setIfInBounds_toArray, List.set_cons_zero, List.set_cons_succ]
                    refine take_yes (i := 44) (some 199) (v := ?vg44) (by simp only [List.getElem?_toArray, List.getElem?_cons_succ, List.getElem?_cons_zero]; exact rfl) rfl (by kernel_rfl) (by kernel_rfl) (by kernel_rfl) (fun _ _ _ h => h) (by rfl) ?hyg44 (by assumption) ?restg44
                    case hyg44 => (intro w hSw; (try dsimp only at hSw); go_simp; try with_reducible rfl)
                    try simp only [Act.put, List.setIfInBounds_toArray, List.set_cons_zero, List.set_cons_succ]
                    refine take_yes (i := 45) (some 200) (v := ?vg45) (by simp only [List.getElem?_toArray, List.getElem?_cons_succ, List.getElem?_cons_zero]; exact rfl) rfl (by kernel_rfl) (by kernel_rfl) (by kernel_rfl) (fun _ _ _ h => h) (by rfl) ?hyg45 (by assumption) ?restg45
                    case hyg45 => (intro w hSw; (try dsimp only at hSw); go_simp; try with_reducible rfl)
                    try simp only [Act.put, List.setIfInBounds_toArray, List.set_cons_zero, List.set_cons_succ]
                    refine wpAnyH_ready (rs := [46]) (by kernel_rfl) (by simp) ?_
                    refine AllReadyH.cons rfl (fun K hK => ?_) AllReadyH.nil
                    try go_simp
                    go_wp2_with (((first | (go_at_call 24; refine (top_any HMd.out.ix).mono ?_) | (go_at_call 22; refine (closed_any HMd.out.ix hls HMd.out.inv.top).mono ?_) | (go_at_call 26; refine (count_any HMd.out.ix hwf).mono ?_)); rintro e wq ⟨rfl, hbq⟩; have HMd := Lib.hid (HMd.out.belowW hbq); obtain ⟨-, f4⟩ := HMd.out.cells; have f1 := HMd.out.time rfl HTQ.out; clear hbq))
                    refine hK.out _ _ ?_ (fun hHeld => ?_)
                    · go_keep
                    clear hK K
                    try simp only [Act.put, List.setIfInBounds_toArray, List.set_cons_zero, List.set_cons_succ]
                    refine take_yes (i := 47) (some 202) (v := ?vg47) (by simp only [List.getElem?_toArray, List.getElem?_cons_succ, List.getElem?_cons_zero]; exact rfl) rfl (by kernel_rfl) (by kernel_rfl) (by kernel_rfl) (fun _ _ _ h => h) (by rfl) ?hyg47 (by assumption) ?restg47
                    case hyg47 => (intro w hSw; (try dsimp only at hSw); go_simp; try with_reducible rfl)
                    try simp only [Act.put, List.setIfInBounds_toArray, List.set_cons_zero, List.set_cons_succ]
                    refine take_yes (i := 48) (some 203) (v := ?vg48) (by simp only [List.getElem?_toArray, List.getElem?_cons_succ, List.getElem?_cons_zero]; exact rfl) rfl (by kernel_rfl) (by kernel_rfl) (by kernel_rfl) (fun _ _ _ h => h) (by rfl) ?hyg48 (by assumption) ?restg48
                    case hyg48 => (intro w hSw; (try dsimp only at hSw); go_simp; try with_reducible rfl)
                    try simp only [Act.put, List.setIfInBounds_toArray, List.set_cons_zero, List.set_cons_succ]
                    refine take_yes (i := 49) (some 204) (v := ?vg49) (by simp only [List.getElem?_toArray, List.getElem?_cons_succ, List.getElem?_cons_zero]; exact rfl) rfl (by kernel_rfl) (by kernel_rfl) (by kernel_rfl) (fun _ _ _ h => h) (by rfl) ?hyg49 (by assumption) ?restg49
                    case hyg49 => (intro w hSw; (try dsimp only at hSw); go_simp; try with_reducible rfl)
                    try simp only [Act.put, List.setIfInBounds_toArray, List.set_cons_zero, List.set_cons_succ]
                    refine wpAnyH_done (by kernel_rfl) ?_ _
                    refine NoPanic.normal ?_
                    (try clear hHeld)
                    go_wp2
                    go_roundg (ts.length - (q + 1))
                    case measure => omega
                    case rel => exact ⟨q + 1, by go_num, by omega, by omega, HMd⟩
            · have hqz : ¬ (q : Int) < (ts.length : Int) := by omega
              have HBF := Lib.hid HMq.out.below
              go_wp2
              go_ret
              exact ⟨rfl, HBF.out⟩
end Go.Proofs.Ytghciaaedjomjaa
