/- slices.SortStableFunc at deltas: the data in memory; swapRange, rotate. -/
import Derived.Test.YtmdjcljgbagehaaCmpA
namespace Go.Proofs.Ytmdjcljgbagehaa
open Go.RowKit

def encD (d : Dl) : List Value := [.int .i64 d.time, .slice d.ra d.rn d.rc, .int .i64 d.n]
theorem encD_len (d : Dl) : (encD d).length = 3 := rfl
theorem encD_one (d : Dl) : ∀ u ∈ encD d, u.oneCell' = true := by simp [encD, Value.oneCell']
/-- The rows of a delta lie outside block g. -/
def RowG (w : World) (g : Nat) (d : Dl) : Prop := SlP (fun b => b ≠ g) 3 encV w d.ra d.rn d.rc d.vs ∧ d.rn ≤ 1000000
theorem RowG.ok {w W : World} {g : Nat} {d : Dl} (h : RowG w g d) (hg : w.grownBy W (some g)) : RowOk W d := ⟨(h.1.grown hg fun _ hb => hb).1, h.2⟩
structure SD (w0 : World) (base g cap : Nat) (l : List Dl) (W : World) : Prop where
  own : W.ownsRow base 38 3 (.slice (some ⟨g, 0, none⟩) l.length cap) l.length (l.flatMap encD)
  gr : w0.grownBy W (some g)
section
variable {w0 W W' : World} {base g cap : Nat} {l : List Dl}
theorem SD.below (h : SD w0 base g cap l W) (hb : Below W.heap.size W W') : SD w0 base g cap l W' := ⟨own_below h.own hb, only_below h.gr hb⟩
theorem SD.drew (h : SD w0 base g cap l W) : SD w0 base g cap l W.drew := h.below (Below.refl _ _).drew
theorem SD.lt (h : SD w0 base g cap l W) : g < W.heap.size := (h.own.lt g rfl).2
theorem SD.cells (h : SD w0 base g cap l W) {i : Nat} {d : Dl} (hd : l[i]? = some d) : W.cell? ⟨g, i * 3, none⟩ = some (.int .i64 d.time) ∧ W.cell? ⟨g, i * 3 + 1, none⟩ = some (.slice d.ra d.rn d.rc) ∧ W.cell? ⟨g, i * 3 + 2, none⟩ = some (.int .i64 d.n) :=
  ⟨(own_cell encD_len (by decide) h.own (f := 0) (by decide) hd rfl).1, (own_cell encD_len (by decide) h.own (f := 1) (by decide) hd rfl).1, (own_cell encD_len (by decide) h.own (f := 2) (by decide) hd rfl).1⟩
theorem SD.free (h : SD w0 base g cap l W) (i : Nat) : W.frozen? ⟨g, i, none⟩ = false := h.own.frozenAt i
theorem SD.swap (h : SD w0 base g cap l W) {i j : Nat} {x y : Dl} (hx : l[i]? = some x) (hy : l[j]? = some y) : SD w0 base g cap (swp l i j) ((W.setCells g (i * 3) (encD y)).setCells g (j * 3) (encD x)) := by
  have hi := (List.getElem?_eq_some_iff.1 hx).1
  have hj := (List.getElem?_eq_some_iff.1 hy).1
  obtain ⟨a1, a2⟩ := own_elem encD_len (by decide) h.own hi y
  obtain ⟨b1, b2⟩ := own_elem encD_len (by decide) a1 hj x
  refine ⟨?_, h.gr.trans (a2.trans b2)⟩
  rw [swp_len, swp_eq hx hy]
  exact b1
end
theorem info_DelSz : (Try.prog.info? 38).map (·.size) = some 3 := by kernel_rfl
section
variable {w0 W : World} {base g cap : Nat} {l : List Dl}
theorem SD.there (h : SD w0 base g cap l W) {i : Nat} (hi : i < l.length) : W.there g (i * 3) 3 := own_there h.own _ _ (by omega)
theorem SD.there2 (h : SD w0 base g cap l W) {i j : Nat} {y : Dl} (hi : i < l.length) (hj : j < l.length) : (W.setCells g (i * 3) (encD y)).there g (j * 3) 3 := own_there (own_elem encD_len (by decide) h.own hi y).1 _ _ (by omega)
end
theorem step_store_D {ops : Array Oper} {o : Oper} {a : Act} {w : World} {K : Act → World → Prop} {Q : Exit → Act → World → Prop} {E : Prop} (hgd : o.guard = none) (ty : TypeId) (x y : Operand)
    (ho : o.op = .store ty x y) (hty : ty = 38) (g i : Nat) (d : Dl) (hx : a.eval x = .pointer (some ⟨g, i * 3, none⟩)) (hy : a.eval y = .agg (encD d).toArray) (ht : w.there g (i * 3) 3) (h : K (a.put o.dst undef) (w.setCells g (i * 3) (encD d))) :
    if Region.wanted o (yielded ops a.tmps) = true then Oper.wp Try.prog o a w K Q else E := by
  have hw : Region.wanted o (yielded ops a.tmps) = true := by simp [Region.wanted, hgd]
  rw [if_pos hw]
  subst hty
  exact wp_store_mid 38 x y ho g (i * 3) (encD d).toArray hx hy (by simpa [encD] using ht) (by rw [info_DelSz]; rfl) (all_oneCell_toArray (encD_one d)) (by simpa using h)
def SwapPost (w0 : World) (base g cap : Nat) (l : List Dl) (R : List Dl → Prop) (e : Ending) (W' : World) : Prop := ∃ l', e = .returned (.tuple #[]) ∧ SD w0 base g cap l' W' ∧ R l'
set_option maxHeartbeats 2000000 in
set_option maxRecDepth 100000 in
theorem swapRange_any (w0 : World) (base g cap : Nat) (l : List Dl) (a b n : Nat) (F : Value) (W : World) (h : SD w0 base g cap l W) (hl : l.length ≤ 1000000) (hab : a + n ≤ b) (hb : b + n ≤ l.length) :
    Calls Try.prog 41 #[.slice (some ⟨g, 0, none⟩) l.length cap, .int .i64 a, .int .i64 b, .int .i64 n, F] W (SwapPost w0 base g cap l fun l' => Xch l l' a b n ∧ SwapsOn a (b + n) l l') := by
  have HD := Lib.hid h
  clear h
  go_enter Try.func41, Try.ntmps41
  go_wp2
  go_loopg [10] n (fun gg s10 wr => ∃ (i : Nat) (l' : List Dl), s10 = .int .i64 i ∧ i ≤ n ∧ n - i ≤ gg ∧ Hid (SD w0 base g cap l' wr) ∧ Hid (Xch l l' a b i) ∧ Hid (SwapsOn a (b + n) l l'))
  case atStart => exact ⟨0, l, rfl, by omega, by omega, HD, Lib.hid (xch_zero l a b), Lib.hid (.refl l)⟩
  case round =>
    obtain ⟨i, l', rfl, hi, hg, HS, HX, HW⟩ := hrel
    clear HD
    revert HS
    revert wr
    intro wo HS
    by_cases hlt : i < n
    · have hltz : (i : Int) < (n : Int) := by omega
      have hlen : l'.length = l.length := HW.out.len
      have HLEN := Lib.hid hlen
      obtain ⟨pa, hpa⟩ : ∃ q, q = a + i := ⟨_, rfl⟩
      obtain ⟨pb, hpb⟩ : ∃ q, q = b + i := ⟨_, rfl⟩
      obtain ⟨x, hx⟩ : ∃ x, l'[pa]? = some x := ⟨_, List.getElem?_eq_getElem (by omega)⟩
      obtain ⟨y, hy⟩ : ∃ y, l'[pb]? = some y := ⟨_, List.getElem?_eq_getElem (by omega)⟩
      obtain ⟨x0, x1, x2⟩ := HS.out.cells hx
      obtain ⟨y0, y1, y2⟩ := HS.out.cells hy
      have HT1 := Lib.hid (HS.out.drew.there (i := pa) (by omega))
      have HT2 := Lib.hid (HS.out.drew.there2 (i := pa) (j := pb) (y := y) (by omega) (by omega))
      have HSW := Lib.hid (HS.out.drew.swap hx hy)
      have hwa : IntKind.i64.wrap ((a : Int) + (i : Int)) = (pa : Int) := by rw [IntKind.wrap_i64]; omega
      have hwb : IntKind.i64.wrap ((b : Int) + (i : Int)) = (pb : Int) := by rw [IntKind.wrap_i64]; omega
      have ha1 : (pa : Int) < (l.length : Int) := by omega
      have hb1 : (pb : Int) < (l.length : Int) := by omega
      have ha0 : (0 : Int) ≤ (pa : Int) := by omega
      have hb0 : (0 : Int) ≤ (pb : Int) := by omega
      have HPA := Lib.hid hpa
      have HPB := Lib.hid hpb
      clear hpa hpb
      clear hx hy hlen
      go_wp2_with fail
      refine wp_region_noPanic ?_
      refine wp_region_held_drew (S := fun _ => True) (by kernel_rfl) ?_ (fun hHeld => ?_)
      · first | exact ⟨by assumption, by assumption⟩ | go_keep
      refine take_yes (i := 0) (some 16) (v := ?va0) (by simp only [List.getElem?_toArray, List.getElem?_cons_zero]; exact rfl) rfl (by kernel_rfl) (by kernel_rfl) (by kernel_rfl) (fun _ _ _ h => h) (by rfl) ?hya0 (by assumption) ?resta0
      case hya0 => (intro w hSw; (try dsimp only at hSw); go_simp; try with_reducible rfl)
      try simp only [Act.put, List.setIfInBounds_toArray, List.set_cons_zero, List.set_cons_succ]
      refine take_yes (i := 1) (some 17) (v := ?va1) (by simp only [List.getElem?_toArray, List.getElem?_cons_succ, List.getElem?_cons_zero]; exact rfl) rfl (by kernel_rfl) (by kernel_rfl) (by kernel_rfl) (fun _ _ _ h => h) (by rfl) ?hya1 (by assumption) ?resta1
      case hya1 => (intro w hSw; (try dsimp only at hSw); go_simp; try with_reducible rfl)
      try simp only [Act.put, List.setIfInBounds_toArray, List.set_cons_zero, List.set_cons_succ]
      refine take_yes (i := 2) (some 18) (v := ?va2) (by simp only [List.getElem?_toArray, List.getElem?_cons_succ, List.getElem?_cons_zero]; exact rfl) rfl (by kernel_rfl) (by kernel_rfl) (by kernel_rfl) (fun _ _ _ h => h) (by rfl) ?hya2 (by assumption) ?resta2
      case hya2 => (intro w hSw; (try dsimp only at hSw); go_simp; try with_reducible rfl)
      try simp only [Act.put, List.setIfInBounds_toArray, List.set_cons_zero, List.set_cons_succ]
      refine take_yes (i := 3) (some 19) (v := ?va3) (by simp only [List.getElem?_toArray, List.getElem?_cons_succ, List.getElem?_cons_zero]; exact rfl) rfl (by kernel_rfl) (by kernel_rfl) (by kernel_rfl) (fun _ _ _ h => h) (by rfl) ?hya3 (by assumption) ?resta3
      case hya3 => (intro w hSw; (try dsimp only at hSw); go_simp; try with_reducible rfl)
      try simp only [Act.put, List.setIfInBounds_toArray, List.set_cons_zero, List.set_cons_succ]
      refine take_yes (i := 4) (some 20) (v := ?va4) (by simp only [List.getElem?_toArray, List.getElem?_cons_succ, List.getElem?_cons_zero]; exact rfl) rfl (by kernel_rfl) (by kernel_rfl) (by kernel_rfl) (fun _ _ _ h => h) (by rfl) ?hya4 (by assumption) ?resta4
      case hya4 => (intro w hSw; (try dsimp only at hSw); go_simp; try with_reducible rfl)
      try simp only [Act.put, List.setIfInBounds_toArray, List.set_cons_zero, List.set_cons_succ]
      refine take_yes (i := 5) (some 21) (v := ?va5) (by simp only [List.getElem?_toArray, List.getElem?_cons_succ, List.getElem?_cons_zero]; exact rfl) rfl (by kernel_rfl) (by kernel_rfl) (by kernel_rfl) (fun _ _ _ h => h) (by rfl) ?hya5 (by assumption) ?resta5
      case hya5 => (intro w hSw; (try dsimp only at hSw); go_simp; try with_reducible rfl)
      try simp only [Act.put, List.setIfInBounds_toArray, List.set_cons_zero, List.set_cons_succ]
      refine take_yes (i := 6) (some 22) (v := ?va6) (by simp only [List.getElem?_toArray, List.getElem?_cons_succ, List.getElem?_cons_zero]; exact rfl) rfl (by kernel_rfl) (by kernel_rfl) (by kernel_rfl) (fun _ _ _ h => h) (by rfl) ?hya6 (by assumption) ?resta6
      case hya6 => (intro w hSw; (try dsimp only at hSw); go_simp; try with_reducible rfl)
      try simp only [Act.put, List.setIfInBounds_toArray, List.set_cons_zero, List.set_cons_succ]
      refine take_yes (i := 7) (some 23) (v := ?va7) (by simp only [List.getElem?_toArray, List.getElem?_cons_succ, List.getElem?_cons_zero]; exact rfl) rfl (by kernel_rfl) (by kernel_rfl) (by kernel_rfl) (fun _ _ _ h => h) (by rfl) ?hya7 (by assumption) ?resta7
      case hya7 => (intro w hSw; (try dsimp only at hSw); go_simp; try with_reducible rfl)
      try simp only [Act.put, List.setIfInBounds_toArray, List.set_cons_zero, List.set_cons_succ]
      refine take_yes (i := 8) (some 24) (v := ?va8) (by simp only [List.getElem?_toArray, List.getElem?_cons_succ, List.getElem?_cons_zero]; exact rfl) rfl (by kernel_rfl) (by kernel_rfl) (by kernel_rfl) (fun _ _ _ h => h) (by rfl) ?hya8 (by assumption) ?resta8
      case hya8 => (intro w hSw; (try dsimp only at hSw); go_simp; try with_reducible rfl)
      try simp only [Act.put, List.setIfInBounds_toArray, List.set_cons_zero, List.set_cons_succ]
      refine take_yes (i := 9) (some 25) (v := ?va9) (by simp only [List.getElem?_toArray, List.getElem?_cons_succ, List.getElem?_cons_zero]; exact rfl) rfl (by kernel_rfl) (by kernel_rfl) (by kernel_rfl) (fun _ _ _ h => h) (by rfl) ?hya9 (by assumption) ?resta9
      case hya9 => (intro w hSw; (try dsimp only at hSw); go_simp; try with_reducible rfl)
      try simp only [Act.put, List.setIfInBounds_toArray, List.set_cons_zero, List.set_cons_succ]
      refine take_yes (i := 10) (some 26) (v := ?va10) (by simp only [List.getElem?_toArray, List.getElem?_cons_succ, List.getElem?_cons_zero]; exact rfl) rfl (by kernel_rfl) (by kernel_rfl) (by kernel_rfl) (fun _ _ _ h => h) (by rfl) ?hya10 (by assumption) ?resta10
      case hya10 => (intro w hSw; (try dsimp only at hSw); go_simp; try with_reducible rfl)
      try simp only [Act.put, List.setIfInBounds_toArray, List.set_cons_zero, List.set_cons_succ]
      refine take_yes (i := 11) (some 27) (v := ?va11) (by simp only [List.getElem?_toArray, List.getElem?_cons_succ, List.getElem?_cons_zero]; exact rfl) rfl (by kernel_rfl) (by kernel_rfl) (by kernel_rfl) (fun _ _ _ h => h) (by rfl) ?hya11 (by assumption) ?resta11
      case hya11 => (intro w hSw; (try dsimp only at hSw); go_simp; try with_reducible rfl)
      try simp only [Act.put, List.setIfInBounds_toArray, List.set_cons_zero, List.set_cons_succ]
      refine take_yes (i := 12) (some 28) (v := ?va12) (by simp only [List.getElem?_toArray, List.getElem?_cons_succ, List.getElem?_cons_zero]; exact rfl) rfl (by kernel_rfl) (by kernel_rfl) (by kernel_rfl) (fun _ _ _ h => h) (by rfl) ?hya12 (by assumption) ?resta12
      case hya12 => (intro w hSw; (try dsimp only at hSw); go_simp; try with_reducible rfl)
      try simp only [Act.put, List.setIfInBounds_toArray, List.set_cons_zero, List.set_cons_succ]
      refine take_yes (i := 14) (some 30) (v := ?va14) (by simp only [List.getElem?_toArray, List.getElem?_cons_succ, List.getElem?_cons_zero]; exact rfl) rfl (by kernel_rfl) (by kernel_rfl) (by kernel_rfl) (fun _ _ _ h => h) (by rfl) ?hya14 (by assumption) ?resta14
      case hya14 => (intro w hSw; (try dsimp only at hSw); go_simp; try with_reducible rfl)
      try simp only [Act.put, List.setIfInBounds_toArray, List.set_cons_zero, List.set_cons_succ]
      refine take_yes (i := 15) (some 31) (v := ?va15) (by simp only [List.getElem?_toArray, List.getElem?_cons_succ, List.getElem?_cons_zero]; exact rfl) rfl (by kernel_rfl) (by kernel_rfl) (by kernel_rfl) (fun _ _ _ h => h) (by rfl) ?hya15 (by assumption) ?resta15
      case hya15 => (intro w hSw; (try dsimp only at hSw); go_simp; try with_reducible rfl)
      try simp only [Act.put, List.setIfInBounds_toArray, List.set_cons_zero, List.set_cons_succ]
      refine take_yes (i := 16) (some 32) (v := ?va16) (by simp only [List.getElem?_toArray, List.getElem?_cons_succ, List.getElem?_cons_zero]; exact rfl) rfl (by kernel_rfl) (by kernel_rfl) (by kernel_rfl) (fun _ _ _ h => h) (by rfl) ?hya16 (by assumption) ?resta16
      case hya16 => (intro w hSw; (try dsimp only at hSw); go_simp; try with_reducible rfl)
      try simp only [Act.put, List.setIfInBounds_toArray, List.set_cons_zero, List.set_cons_succ]
      refine take_yes (i := 17) (some 33) (v := ?va17) (by simp only [List.getElem?_toArray, List.getElem?_cons_succ, List.getElem?_cons_zero]; exact rfl) rfl (by kernel_rfl) (by kernel_rfl) (by kernel_rfl) (fun _ _ _ h => h) (by rfl) ?hya17 (by assumption) ?resta17
      case hya17 => (intro w hSw; (try dsimp only at hSw); go_simp; try with_reducible rfl)
      try simp only [Act.put, List.setIfInBounds_toArray, List.set_cons_zero, List.set_cons_succ]
      refine take_yes (i := 18) (some 34) (v := ?va18) (by simp only [List.getElem?_toArray, List.getElem?_cons_succ, List.getElem?_cons_zero]; exact rfl) rfl (by kernel_rfl) (by kernel_rfl) (by kernel_rfl) (fun _ _ _ h => h) (by rfl) ?hya18 (by assumption) ?resta18
      case hya18 => (intro w hSw; (try dsimp only at hSw); go_simp; try with_reducible rfl)
      try simp only [Act.put, List.setIfInBounds_toArray, List.set_cons_zero, List.set_cons_succ]
      refine wpAnyH_ready (rs := [13, 19]) (by kernel_rfl) (by simp) ?_
      refine AllReadyH.cons rfl (fun K hK => ?_) (AllReadyH.cons rfl (fun K hK => ?_) AllReadyH.nil)
      · skip
        try go_simp
        refine hK.out _ _ ?_ (fun hHeld => ?_)
        · go_keep
        clear hK K
        try simp only [Act.put, List.setIfInBounds_toArray, List.set_cons_zero, List.set_cons_succ]
        refine wpAnyH_ready (rs := [19]) (by kernel_rfl) (by simp) ?_
        refine AllReadyH.cons rfl (fun K hK => ?_) AllReadyH.nil
        try go_simp
        refine hK.out _ _ ?_ (fun hHeld => ?_)
        · go_keep
        clear hK K
        try simp only [Act.put, List.setIfInBounds_toArray, List.set_cons_zero, List.set_cons_succ]
        refine take_yes (i := 20) (some 36) (v := ?vaa20) (by simp only [List.getElem?_toArray, List.getElem?_cons_succ, List.getElem?_cons_zero]; exact rfl) rfl (by kernel_rfl) (by kernel_rfl) (by kernel_rfl) (fun _ _ _ h => h) (by rfl) ?hyaa20 (by assumption) ?restaa20
        case hyaa20 => (intro w hSw; (try dsimp only at hSw); go_simp; try with_reducible rfl)
        try simp only [Act.put, List.setIfInBounds_toArray, List.set_cons_zero, List.set_cons_succ]
        refine wpAnyH_ready (rs := [21]) (by kernel_rfl) (by simp) ?_
        refine AllReadyH.cons rfl (fun K hK => ?_) AllReadyH.nil
        refine step_store_D rfl _ _ _ (by rfl) rfl g pa y (by rfl) (by rfl) HT1.out ?_
        refine hK.out _ _ ?_ (fun hHeld => ?_)
        · go_keep
        clear hK K
        try simp only [Act.put, List.setIfInBounds_toArray, List.set_cons_zero, List.set_cons_succ]
        refine take_yes (i := 22) (some 37) (v := ?vaa22) (by simp only [List.getElem?_toArray, List.getElem?_cons_succ, List.getElem?_cons_zero]; exact rfl) rfl (by kernel_rfl) (by kernel_rfl) (by kernel_rfl) (fun _ _ _ h => h) (by rfl) ?hyaa22 (by assumption) ?restaa22
        case hyaa22 => (intro w hSw; (try dsimp only at hSw); go_simp; try with_reducible rfl)
        try simp only [Act.put, List.setIfInBounds_toArray, List.set_cons_zero, List.set_cons_succ]
        refine wpAnyH_ready (rs := [23]) (by kernel_rfl) (by simp) ?_
        refine AllReadyH.cons rfl (fun K hK => ?_) AllReadyH.nil
        refine step_store_D rfl _ _ _ (by rfl) rfl g pb x (by rfl) (by rfl) HT2.out ?_
        refine hK.out _ _ ?_ (fun hHeld => ?_)
        · go_keep
        clear hK K
        try simp only [Act.put, List.setIfInBounds_toArray, List.set_cons_zero, List.set_cons_succ]
        refine wpAnyH_done (by kernel_rfl) ?_ _
        refine NoPanic.normal ?_
        clear hHeld HT1 HT2 x0 x1 x2 y0 y1 y2 hwa hwb
        generalize ((wo.drew.setCells g (pa * 3) (encD y)).setCells g (pb * 3) (encD x)) = w2 at HSW ⊢
        go_wp2
        go_roundg (n - (i + 1))
        case measure => omega
        case rel => exact ⟨i + 1, swp l' pa pb, by go_num, by omega, by omega, HSW, Lib.hid (by rw [HPA.out, HPB.out]; exact xch_step HX.out HLEN.out (by omega) (by omega)), Lib.hid (.step pa pb HW.out (by have := HPA.out; omega) (by have := HPA.out; omega) (by have := HPB.out; omega) (by have := HPB.out; omega))⟩
      · skip
        try go_simp
        refine hK.out _ _ ?_ (fun hHeld => ?_)
        · go_keep
        clear hK K
        try simp only [Act.put, List.setIfInBounds_toArray, List.set_cons_zero, List.set_cons_succ]
        refine wpAnyH_ready (rs := [13]) (by kernel_rfl) (by simp) ?_
        refine AllReadyH.cons rfl (fun K hK => ?_) AllReadyH.nil
        try go_simp
        refine hK.out _ _ ?_ (fun hHeld => ?_)
        · go_keep
        clear hK K
        try simp only [Act.put, List.setIfInBounds_toArray, List.set_cons_zero, List.set_cons_succ]
        refine take_yes (i := 20) (some 36) (v := ?vab20) (by simp only [List.getElem?_toArray, List.getElem?_cons_succ, List.getElem?_cons_zero]; exact rfl) rfl (by kernel_rfl) (by kernel_rfl) (by kernel_rfl) (fun _ _ _ h => h) (by rfl) ?hyab20 (by assumption) ?restab20
        case hyab20 => (intro w hSw; (try dsimp only at hSw); go_simp; try with_reducible rfl)
        try simp only [Act.put, List.setIfInBounds_toArray, List.set_cons_zero, List.set_cons_succ]
        refine wpAnyH_ready (rs := [21]) (by kernel_rfl) (by simp) ?_
        refine AllReadyH.cons rfl (fun K hK => ?_) AllReadyH.nil
        refine step_store_D rfl _ _ _ (by rfl) rfl g pa y (by rfl) (by rfl) HT1.out ?_
        refine hK.out _ _ ?_ (fun hHeld => ?_)
        · go_keep
        clear hK K
        try simp only [Act.put, List.setIfInBounds_toArray, List.set_cons_zero, List.set_cons_succ]
        refine take_yes (i := 22) (some 37) (v := ?vab22) (by simp only [List.getElem?_toArray, List.getElem?_cons_succ, List.getElem?_cons_zero]; exact rfl) rfl (by kernel_rfl) (by kernel_rfl) (by kernel_rfl) (fun _ _ _ h => h) (by rfl) ?hyab22 (by assumption) ?restab22
        case hyab22 => (intro w hSw; (try dsimp only at hSw); go_simp; try with_reducible rfl)
        try simp only [Act.put, List.setIfInBounds_toArray, List.set_cons_zero, List.set_cons_succ]
        refine wpAnyH_ready (rs := [23]) (by kernel_rfl) (by simp) ?_
        refine AllReadyH.cons rfl (fun K hK => ?_) AllReadyH.nil
        refine step_store_D rfl _ _ _ (by rfl) rfl g pb x (by rfl) (by rfl) HT2.out ?_
        refine hK.out _ _ ?_ (fun hHeld => ?_)
        · go_keep
        clear hK K
        try simp only [Act.put, List.setIfInBounds_toArray, List.set_cons_zero, List.set_cons_succ]
        refine wpAnyH_done (by kernel_rfl) ?_ _
        refine NoPanic.normal ?_
        clear hHeld HT1 HT2 x0 x1 x2 y0 y1 y2 hwa hwb
        generalize ((wo.drew.setCells g (pa * 3) (encD y)).setCells g (pb * 3) (encD x)) = w2 at HSW ⊢
        go_wp2
        go_roundg (n - (i + 1))
        case measure => omega
        case rel => exact ⟨i + 1, swp l' pa pb, by go_num, by omega, by omega, HSW, Lib.hid (by rw [HPA.out, HPB.out]; exact xch_step HX.out HLEN.out (by omega) (by omega)), Lib.hid (.step pa pb HW.out (by have := HPA.out; omega) (by have := HPA.out; omega) (by have := HPB.out; omega) (by have := HPB.out; omega))⟩
    · have hltz : ¬ (i : Int) < (n : Int) := by omega
      obtain rfl : i = n := by omega
      go_wp2
      go_end0
      exact ⟨l', rfl, HS.out, HX.out, HW.out⟩
theorem swapRange_at (w0 : World) (base g cap : Nat) (l : List Dl) (L a b n : Nat) (A B N : Int) (F : Value) (W : World) (h : SD w0 base g cap l W) (hL : l.length = L) (hA : A = (a : Int)) (hB : B = (b : Int)) (hN : N = (n : Int)) (hl : L ≤ 1000000) (hab : a + n ≤ b) (hb : b + n ≤ L) :
    Calls Try.prog 41 #[.slice (some ⟨g, 0, none⟩) L cap, .int .i64 A, .int .i64 B, .int .i64 N, F] W (SwapPost w0 base g cap l fun l' => Xch l l' a b n ∧ SwapsOn a (b + n) l l') := by
  subst hL hA hB hN
  exact swapRange_any w0 base g cap l a b n F W h hl hab hb
set_option maxHeartbeats 2000000 in
set_option maxRecDepth 100000 in
theorem rotate_at (w0 : World) (base g cap : Nat) (l : List Dl) (L a m b : Nat) (A M B : Int) (F : Value) (W : World) (h : SD w0 base g cap l W) (hL : l.length = L) (hA : A = (a : Int)) (hM : M = (m : Int)) (hB : B = (b : Int)) (hl : L ≤ 1000000) (ham : a < m) (hmb : m < b) (hb : b ≤ L) :
    Calls Try.prog 39 #[.slice (some ⟨g, 0, none⟩) L cap, .int .i64 A, .int .i64 M, .int .i64 B, F] W (SwapPost w0 base g cap l fun l' => Rot l l' a m b ∧ SwapsOn a b l l') := by
  obtain ⟨R, hR⟩ := rot_ex l a m b (by omega) (by omega) (by omega)
  have HR := Lib.hid hR
  have HD := Lib.hid h
  have HL := Lib.hid hL
  subst hA hM hB
  clear h hR hL
  go_enter Try.func39, Try.ntmps39
  go_wp2
  go_loopg [10, 11] (b - a) (fun gg s10 s11 wr => ∃ (i j : Nat) (cur : List Dl), s10 = .int .i64 i ∧ s11 = .int .i64 j ∧ 0 < i ∧ 0 < j ∧ i ≤ m - a ∧ j ≤ b - m ∧ i + j ≤ gg ∧ Hid (SD w0 base g cap cur wr) ∧ Hid (Rot cur R (m - i) m (m + j)) ∧ Hid (SwapsOn a b l cur))
  case atStart => exact ⟨m - a, b - m, l, by go_num, by go_num, by omega, by omega, by omega, by omega, by omega, HD, Lib.hid (by rw [show m - (m - a) = a by omega, show m + (b - m) = b by omega]; exact HR.out), Lib.hid (.refl l)⟩
  case round =>
    obtain ⟨i, j, cur, rfl, rfl, hi0, hj0, hi, hj, hg, HS, HQ, HW⟩ := hrel
    clear HD
    revert HS
    revert wr
    intro wo HS
    have HLEN : Hid (cur.length = L) := Lib.hid (HW.out.len.trans HL.out)
    by_cases hij : i = j
    · subst hij
      have hne : ((i : Int) != (i : Int)) = false := by simp
      go_wp2_with fail
      refine (swapRange_at w0 base g cap cur L (m - i) m i _ _ _ F _ HS.out HLEN.out (by omega) rfl rfl hl (by omega) (by omega)).mono ?_
      rintro e w2 ⟨l2, rfl, hs2, hx2, hw2⟩
      have HF : Hid (SwapPost w0 base g cap l (fun l' => Rot l l' a m b ∧ SwapsOn a b l l') (.returned (.tuple #[])) w2) := Lib.hid (by
        have heq : l2 = R := List.ext_getElem? (rot_same HQ.out (by omega) hx2)
        subst heq
        exact ⟨l2, rfl, hs2, HR.out, HW.out.trans (hw2.mono (by omega) (by omega))⟩)
      clear hs2 hx2 hw2
      go_wp2
      go_end0
      exact HF.out
    · have hne : ((i : Int) != (j : Int)) = true := by simp; omega
      have hne2 : (i != j) = true := by simp; omega
      by_cases hlt : j < i
      · have hltz : (j : Int) < (i : Int) := by omega
        have hltb : decide (j < i) = true := decide_eq_true hlt
        clear hij
        go_wp2_with fail
        refine (swapRange_at w0 base g cap cur L (m - i) m j _ _ _ F _ HS.out HLEN.out (by omega) rfl rfl hl (by omega) (by omega)).mono ?_
        rintro e w2 ⟨l2, rfl, hs2, hx2, hw2⟩
        have HS2 := Lib.hid hs2
        have HQ2 : Hid (Rot l2 R (m - (i - j)) m (m + j)) := Lib.hid (rot_big HQ.out (by omega) hlt hx2)
        have HW2 : Hid (SwapsOn a b l l2) := Lib.hid (HW.out.trans (hw2.mono (by omega) (by omega)))
        clear hs2 hx2 hw2
        go_wp2
        go_roundg (i - j + j)
        case measure => omega
        case rel => exact ⟨i - j, j, l2, by go_num, rfl, by omega, hj0, by omega, hj, by omega, HS2, HQ2, HW2⟩
      · have hltz : ¬ (j : Int) < (i : Int) := by omega
        have hltb : decide (j < i) = false := decide_eq_false hlt
        have hij2 : i < j := by omega
        clear hij
        go_wp2_with fail
        refine (swapRange_at w0 base g cap cur L (m - i) (m + j - i) i _ _ _ F _ HS.out HLEN.out (by omega) (by omega) rfl hl (by omega) (by omega)).mono ?_
        rintro e w2 ⟨l2, rfl, hs2, hx2, hw2⟩
        have HS2 := Lib.hid hs2
        have HQ2 : Hid (Rot l2 R (m - i) m (m + (j - i))) := Lib.hid (rot_small HQ.out (by omega) hij2 hx2)
        have HW2 : Hid (SwapsOn a b l l2) := Lib.hid (HW.out.trans (hw2.mono (by omega) (by omega)))
        clear hs2 hx2 hw2
        go_wp2
        go_roundg (i + (j - i))
        case measure => omega
        case rel => exact ⟨i, j - i, l2, rfl, by go_num, hi0, by omega, hi, by omega, by omega, HS2, HQ2, HW2⟩
end Go.Proofs.Ytmdjcljgbagehaa
