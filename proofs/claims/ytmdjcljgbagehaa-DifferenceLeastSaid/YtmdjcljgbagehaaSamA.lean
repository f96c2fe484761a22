/- delta: Same. -/
import Derived.Test.YtmdjcljgbagehaaConD
namespace Go.Proofs.Ytmdjcljgbagehaa
open Go.RowKit

def sameD (d e : Dl) : Bool := cmpD d e == 0 && d.n == e.n
theorem sameD_kn {d e : Dl} : sameD d e = true ↔ kn d = kn e := by
  unfold sameD kn
  rw [Bool.and_eq_true, beq_iff_eq, beq_iff_eq, Prod.mk.injEq]
  exact and_congr (tcmp_ky.zero _ _) Iff.rfl
def BoolPost (w : World) (b : Bool) (e : Ending) (w' : World) : Prop := e = .returned (.bool b) ∧ Below w.heap.size w w'
theorem same1_any (d e : Dl) (w : World) (hd : RowOk w d) (he : RowOk w e) :
    Calls Try.prog 18 #[.agg #[.int .i64 d.time, .slice d.ra d.rn d.rc, .int .i64 d.n], .agg #[.int .i64 e.time, .slice e.ra e.rn e.rc, .int .i64 e.n]] w (BoolPost w (sameD d e)) := by
  have HD := Lib.hid hd
  have HE := Lib.hid he
  clear hd he
  have HBA : Hid (Below w.heap.size w ((w.alloc (.cells #[.int .i64 d.time, .slice d.ra d.rn d.rc, .int .i64 d.n] 38)).alloc (.cells #[.int .i64 e.time, .slice e.ra e.rn e.rc, .int .i64 e.n] 38))) := Lib.hid (((Below.refl _ w).alloc (Nat.le_refl _) _).alloc (by simp) _)
  have HB1 : Hid (Blk ((w.alloc (.cells #[.int .i64 d.time, .slice d.ra d.rn d.rc, .int .i64 d.n] 38)).alloc (.cells #[.int .i64 e.time, .slice e.ra e.rn e.rc, .int .i64 e.n] 38)) w.heap.size 38 #[.int .i64 d.time, .slice d.ra d.rn d.rc, .int .i64 d.n]) := Lib.hid ((Blk.new w _ _).alloc _)
  have HB2 : Hid (Blk ((w.alloc (.cells #[.int .i64 d.time, .slice d.ra d.rn d.rc, .int .i64 d.n] 38)).alloc (.cells #[.int .i64 e.time, .slice e.ra e.rn e.rc, .int .i64 e.n] 38)) (w.heap.size + 1) 38 #[.int .i64 e.time, .slice e.ra e.rn e.rc, .int .i64 e.n]) := Lib.hid (Blk.new' _ _ _ _ (by simp))
  go_enter Try.func18, Try.ntmps18
  go_upto_region 1 with fail
  generalize ((w.alloc (.cells #[.int .i64 d.time, .slice d.ra d.rn d.rc, .int .i64 d.n] 38)).alloc (.cells #[.int .i64 e.time, .slice e.ra e.rn e.rc, .int .i64 e.n] 38)) = wa at HBA HB1 HB2 ⊢
  obtain ⟨x0, x1, x2, _⟩ := HB1.out.three
  obtain ⟨y0, y1, y2, _⟩ := HB2.out.three
  by_cases hc : cmpD d e = 0
  · have HC := Lib.hid hc
    clear hc
    go_wp2_with fail
    refine (cmpD_any d e _ (HD.out.below HBA.out) (HE.out.below HBA.out)).mono ?_
    rintro e' w' ⟨rfl, hb'⟩
    rw [HC.out]
    obtain ⟨x0, x1, x2, _⟩ := (HB1.out.below hb' HB1.out.lt).three
    obtain ⟨y0, y1, y2, _⟩ := (HB2.out.below hb' HB2.out.lt).three
    have HB := Lib.hid (HBA.out.trans (hb'.mono HBA.out.size))
    clear hb'
    have HF : Hid (sameD d e = (d.n == e.n)) := Lib.hid (by unfold sameD; rw [HC.out]; rfl)
    go_wp2
    go_ret
    exact ⟨by rw [HF.out]; rfl, HB.out⟩
  · have HC := Lib.hid hc
    obtain ⟨Z, hZ⟩ : ∃ Z, cmpD d e = Z := ⟨_, rfl⟩
    have HF : Hid (sameD d e = false) := Lib.hid (by unfold sameD; rw [beq_eq_false_iff_ne.2 hc]; rfl)
    rw [hZ] at hc
    have hcb : (Z == 0) = false := by simpa using hc
    have HZ := Lib.hid hZ
    clear hc hZ
    go_wp2_with fail
    refine (cmpD_any d e _ (HD.out.below HBA.out) (HE.out.below HBA.out)).mono ?_
    rintro e' w' ⟨rfl, hb'⟩
    rw [HZ.out]
    have HB := Lib.hid (HBA.out.trans (hb'.mono HBA.out.size))
    clear hb'
    go_wp2
    go_ret
    exact ⟨by rw [HF.out]; rfl, HB.out⟩

theorem tot_kn {a b : List Dl} (h : a.map kn = b.map kn) (k : Ky) : tot a k = tot b k := by
  have q : ∀ l : List Dl, tot l k = (((l.map kn).filter fun p => decide (p.1 = k)).map (·.2)).sum := fun l => by
    unfold tot
    rw [List.filter_map, List.map_map]
    rfl
  rw [q, q, h]
theorem at_all {a b : List Dl} (hl : a.length = b.length) (h : ∀ (j : Nat) (x y : Dl), a[j]? = some x → b[j]? = some y → sameD x y = true) : a.map kn = b.map kn := by
  apply List.ext_getElem?
  intro j
  rw [List.getElem?_map, List.getElem?_map]
  rcases Nat.lt_or_ge j a.length with hj | hj
  · have h1 := List.getElem?_eq_getElem hj
    have h2 := List.getElem?_eq_getElem (l := b) (by omega : j < b.length)
    rw [h1, h2]
    exact congrArg some (sameD_kn.1 (h j _ _ h1 h2))
  · rw [List.getElem?_eq_none hj, List.getElem?_eq_none (by omega)]
theorem eqf_no {a b : List Dl} {j : Nat} {x y : Dl} (hx : a[j]? = some x) (hy : b[j]? = some y) (h : sameD x y = false) : ¬ a.map kn = b.map kn := by
  intro e
  have : (a.map kn)[j]? = (b.map kn)[j]? := by rw [e]
  rw [List.getElem?_map, List.getElem?_map, hx, hy] at this
  rw [sameD_kn.2 (by injection this)] at h
  cases h
theorem eqf_step {a b : List Dl} {k : Nat} {x y : Dl} (h : ∀ (j : Nat) (x y : Dl), j < k → a[j]? = some x → b[j]? = some y → sameD x y = true) (hx : a[k]? = some x) (hy : b[k]? = some y) (hxy : sameD x y = true) : ∀ (j : Nat) (x y : Dl), j < k + 1 → a[j]? = some x → b[j]? = some y → sameD x y = true := by
  intro j x' y' hj h1 h2
  rcases Nat.lt_or_ge j k with h3 | h3
  · exact h j x' y' h3 h1 h2
  · obtain rfl : j = k := by omega
    rw [h1] at hx
    rw [h2] at hy
    cases hx
    cases hy
    exact hxy
theorem DlAt.getD {P : Nat → Prop} {w : World} {A : Option Addr} {c : Nat} {l : List Dl} (h : DlAt P w A c l) {j : Nat} {x : Dl} (hj : l[j]? = some x) {W : World} (hW : Below w.heap.size w W) : ∃ bb off, A = some ⟨bb, off, none⟩ ∧ W.cell? ⟨bb, off + j * 3, none⟩ = some (.int .i64 x.time) ∧ W.cell? ⟨bb, off + j * 3 + 1, none⟩ = some (.slice x.ra x.rn x.rc) ∧ W.cell? ⟨bb, off + j * 3 + 2, none⟩ = some (.int .i64 x.n) ∧ bb < W.heap.size := by
  obtain ⟨bb, off, e, hlt, hx⟩ := h.1.1.2.2 (by have := (List.getElem?_eq_some_iff.1 hj).1; omega)
  obtain ⟨y0, y1, y2⟩ := cellsD hx hlt hW hj
  exact ⟨bb, off, e, y0, y1, y2, Nat.lt_of_lt_of_le hlt hW.size⟩
def IffPost (w : World) (p : Prop) (e : Ending) (w' : World) : Prop := ∃ r : Bool, e = .returned (.bool r) ∧ (r = true ↔ p) ∧ Below w.heap.size w w'
set_option maxHeartbeats 4000000 in
set_option maxRecDepth 100000 in
theorem eqf_any (P Q : Nat → Prop) (A B : Option Addr) (ca cb : Nat) (a b : List Dl) (w : World) (ha : DlAt P w A ca a) (hb : DlAt Q w B cb b) (hal : a.length ≤ 1000000) :
    Calls Try.prog 20 #[.slice A a.length ca, .slice B b.length cb, .func (.func 18) #[] #[]] w (IffPost w (a.map kn = b.map kn)) := by
  have HA := Lib.hid ha
  have HB := Lib.hid hb
  have eg : ∀ args w, (callFunc 18 args).run Try.prog w = .ok (.enter 18 args) w := fun _ _ => by kernel_rfl
  clear ha hb
  by_cases hl : a.length = b.length
  · have HL := Lib.hid hl
    rw [← hl]
    generalize hn : a.length = n at hal ⊢
    have HLA := Lib.hid hn
    clear hl hn
    go_enter Try.func20, Try.ntmps20
    go_wp2
    go_loopg [7, 8, 9, 17] n (fun gg _ _ _ s17 wr => ∃ k : Nat, k ≤ n ∧ n - k ≤ gg ∧ s17 = .int .i64 k ∧ Hid (Below w.heap.size w wr) ∧ Hid (∀ (j : Nat) (x y : Dl), j < k → a[j]? = some x → b[j]? = some y → sameD x y = true))
    case atStart => exact ⟨0, Nat.zero_le _, by omega, rfl, Below.refl _ w, Lib.hid (fun j x y h => by omega)⟩
    case round =>
      obtain ⟨k, hk, hg, rfl, HW, HE⟩ := hrel
      by_cases hlt : k < n
      · have hltz : (k : Int) < (n : Int) := by omega
        obtain ⟨x, hx⟩ : ∃ x, a[k]? = some x := ⟨_, List.getElem?_eq_getElem (by rw [HLA.out]; exact hlt)⟩
        obtain ⟨y, hy⟩ : ∃ y, b[k]? = some y := ⟨_, List.getElem?_eq_getElem (by rw [← HL.out, HLA.out]; exact hlt)⟩
        obtain ⟨b1, o1, rfl, x0, x1, x2, hb1⟩ := HA.out.getD hx HW.out
        obtain ⟨b2, o2, rfl, y0, y1, y2, hb2⟩ := HB.out.getD hy HW.out
        have HX := Lib.hid hx
        have HY := Lib.hid hy
        clear hx hy
        have hb2' : b2 < wr.heap.size + 1 := by omega
        have HBA := Lib.hid ((HW.out.alloc HW.out.size (.cells #[.int .i64 x.time, .slice x.ra x.rn x.rc, .int .i64 x.n] 38)).alloc (Nat.le_trans HW.out.size (by simp)) (.cells #[.int .i64 y.time, .slice y.ra y.rn y.rc, .int .i64 y.n] 38))
        have HRX : Hid (RowOk w x) := Lib.hid (HA.out.row (List.mem_of_getElem? HX.out))
        have HRY : Hid (RowOk w y) := Lib.hid (HB.out.row (List.mem_of_getElem? HY.out))
        cases hs : sameD x y with
        | true =>
          have HS := Lib.hid hs
          clear hs
          go_wp2_with fail
          refine (same1_any x y _ (HRX.out.below HBA.out) (HRY.out.below HBA.out)).mono ?_
          rintro e w' ⟨rfl, hb'⟩
          rw [HS.out]
          have HW2 := Lib.hid (HBA.out.trans (hb'.mono HBA.out.size))
          clear hb'
          go_wp2
          go_roundg (n - (k + 1))
          case measure => omega
          case rel => exact ⟨k + 1, by omega, by omega, by go_num, HW2, Lib.hid (eqf_step HE.out HX.out HY.out HS.out)⟩
        | false =>
          have HS := Lib.hid hs
          clear hs
          go_wp2_with fail
          refine (same1_any x y _ (HRX.out.below HBA.out) (HRY.out.below HBA.out)).mono ?_
          rintro e w' ⟨rfl, hb'⟩
          rw [HS.out]
          have HW2 := Lib.hid (HBA.out.trans (hb'.mono HBA.out.size))
          clear hb'
          go_wp2
          go_ret
          exact ⟨false, rfl, ⟨fun h => (by cases h), fun h => absurd h (eqf_no HX.out HY.out HS.out)⟩, HW2.out⟩
      · have hltz : ¬ (k : Int) < (n : Int) := by omega
        obtain rfl : k = n := by omega
        go_wp2
        go_ret
        exact ⟨true, rfl, ⟨fun _ => at_all HL.out (fun j x y h1 h2 => HE.out j x y (by have := (List.getElem?_eq_some_iff.1 h1).1; have := HLA.out; omega) h1 h2), fun _ => rfl⟩, HW.out⟩
  · have HL := Lib.hid hl
    generalize hn : a.length = n at *
    generalize hm : b.length = m at *
    have HN := Lib.hid hn
    have HM := Lib.hid hm
    have hlz : (n : Int) ≠ (m : Int) := by omega
    have hlb : (n != m) = true := by simpa using hl
    have hlb2 : ((n : Int) != (m : Int)) = true := by simpa using hlz
    clear hn hm
    go_enter Try.func20, Try.ntmps20
    go_wp2
    go_ret
    exact ⟨false, rfl, ⟨fun h => (by cases h), fun h => absurd (by have := congrArg List.length h; rw [List.length_map, List.length_map, HN.out, HM.out] at this; exact this) HL.out⟩, Below.refl _ _⟩

set_option maxHeartbeats 4000000 in
theorem same_any (P Q : Nat → Prop) (A B : Option Addr) (ca cb : Nat) (a b : List Dl) (w : World) (ha : DlAt P w A ca a) (hb : DlAt Q w B cb b) (hal : a.length ≤ 1000) (hbl : b.length ≤ 1000) :
    Calls Try.prog 9 #[.slice A a.length ca, .slice B b.length cb] w (IffPost w (∀ k, w64 (tot a k) = w64 (tot b k))) := by
  have HA := Lib.hid ha
  have HB := Lib.hid hb
  clear ha hb
  go_enter Try.func9, Try.ntmps9
  go_wp2_with fail
  refine (consolidate_any P A ca a _ HA.out hal).mono ?_
  rintro e w1 ⟨A1, c1, o1, rfl, hco1, hl1, hd1, hb1⟩
  have HC1 := Lib.hid hco1
  have HD1 := Lib.hid hd1
  have HB1 := Lib.hid hb1
  clear hco1 hl1 hd1 hb1
  go_wp2_with fail
  refine (consolidate_any Q B cb b _ (HB.out.below HB1.out) hbl).mono ?_
  rintro e w2 ⟨A2, c2, o2, rfl, hco2, hl2, hd2, hb2⟩
  have HC2 := Lib.hid hco2
  have HD2 := Lib.hid hd2
  have HB2 := Lib.hid hb2
  clear hco2 hl2 hd2 hb2
  go_wp2_with fail
  refine (eqf_any _ _ A1 A2 c1 c2 o1 o2 _ (HD1.out.below HB2.out) HD2.out (by have := HC1.out.len; omega)).mono ?_
  rintro e w3 ⟨r, rfl, hr, hb3⟩
  have HR := Lib.hid hr
  have HB3 := Lib.hid (HB1.out.trans ((HB2.out.mono HB1.out.size).trans (hb3.mono (Nat.le_trans HB1.out.size HB2.out.size))))
  clear hr hb3
  go_wp2
  go_ret
  refine ⟨r, rfl, HR.out.trans ⟨fun h k => ?_, fun h => HC1.out.same HC2.out h⟩, HB3.out⟩
  rw [← w64_id_of HC1.out k, ← w64_id_of HC2.out k]
  exact congrArg w64 (tot_kn h k)
end Go.Proofs.Ytmdjcljgbagehaa
