/- timeline.Open, Needed: rows of ints of the call's own; Needed holds the version of every open replacement. -/
import Derived.Test.YtpdmjahdnfhcoaaTimeB
import Derived.Test.YtpdmjahdnfhcoaaRepG
import Derived.Test.YtpdmjahdnfhcoaaSortU
namespace Go.Proofs.Ytpdmjahdnfhcoaa
open Go.RowKit

theorem info_Int : (Try.prog.info? 3).map (fun i => (i.zero, i.size, i.bytes)) = some (some (.int .i64 0), 1, 8) := by kernel_rfl

theorem SlT.one1 (w : World) (e : TypeId) (a : Int) (b : Nat) (hb : b = w.heap.size) : SlT 1 eI (w.alloc (.cells #[.int .i64 a] e)) (some ⟨b, 0, none⟩) 1 1 [a] := by
  subst hb
  exact SlT.one eI_len w a _ rfl e
theorem behind_ex (A : Option Addr) (c : Nat) (l : List Seg) (t : Int) (w : World) (hr : SlT 2 encS w A l.length c l) (hn : l.length ≤ 1000000) :
    Calls Try.prog 23 #[.slice A l.length c, .int .i64 t] w fun e w' => ∃ k : Nat, e = .returned (.int .i64 k) ∧ k ≤ l.length ∧ Below w.heap.size w w' := by
  refine (behind_any A c l t w hr hn).mono ?_
  rintro e w1 ⟨rfl, hb1⟩
  exact ⟨_, rfl, behindF_le l t, hb1⟩

set_option maxHeartbeats 2000000 in
set_option maxRecDepth 100000 in
theorem versions_any (A : Option Addr) (n c : Nat) (l : List Seg) (w : World) (hr : SlT 2 encS w A n c l) (h0 : 0 < n) (hn : n ≤ 100000) :
    Calls Try.prog 36 #[.slice A n c] w fun e w' => ∃ v, e = .returned v ∧ ∃ ts : List Int, 0 < ts.length ∧ ts.length ≤ n ∧ w'.ownsRow w.heap.size 3 1 v ts.length (ts.flatMap eI) ∧ Below w.heap.size w w' := by
  have hl := hr.1
  obtain ⟨b, off, rfl, hb, hcells⟩ := hr.2.2 h0
  have HC := Lib.hid hcells
  have HL := Lib.hid hl
  clear hr hcells hl
  go_enter Try.func36, Try.ntmps36
  go_wp2_with fail
  go_loopg [3, 5, 8] n (fun gg s3 _ s8 wr => ∃ (k : Nat) (zs : List Int), s8 = .int .i64 k ∧ k ≤ n ∧ n - k ≤ gg ∧ zs.length = k ∧ Hid (wr.ownsRow w.heap.size 3 1 s3 k (zs.flatMap eI)) ∧ Hid (Below w.heap.size w wr))
  case atStart => exact ⟨0, [], rfl, by omega, by omega, rfl, World.ownsRow_nil _ _ _ _, Below.refl _ _⟩
  case round =>
    obtain ⟨k, zs, rfl, hk, hg, hz, HO, HB⟩ := hrel
    by_cases hlt : k < n
    · have hltz : (k : Int) < (n : Int) := by omega
      obtain ⟨x, hx⟩ : ∃ x, l[k]? = some x := ⟨_, List.getElem?_eq_getElem (by rw [HL.out]; exact hlt)⟩
      obtain ⟨c0, c1⟩ := cellsS HC.out hb HB.out hx
      clear hx
      go_wp2_with (at_builtin; refine wpList_append_sl (k := 1) (enc := eI) _ rfl _ _ 41 rfl w.heap.size 3 _ 8 Try.underlying41 info_Int rfl (by decide) eI_len eI_one u3 k zs rfl ((HO.out.alloc _).alloc _) _ 1 1 [x.ver] rfl (SlT.one1 _ _ _ _ (by simp)) (by unfold maxLen; omega) (by omega) (by have := HB.out.size; simp; omega) ?_)
      intro v' w2 hown hgrow hat
      have HO2 : Hid (w2.ownsRow w.heap.size 3 1 v' (k + 1) ((zs ++ [x.ver]).flatMap eI)) := Lib.hid (by simpa using hown)
      have HB2 : Hid (Below w.heap.size w w2) := Lib.hid (((HB.out.alloc HB.out.size _).alloc (by have := HB.out.size; simp; omega) _).grown hgrow (by have := HB.out.size; simp; omega) (HO.out.lt · · |>.1))
      clear hown hgrow hat c0 c1
      go_wp2
      go_roundg (n - (k + 1))
      case measure => omega
      case rel => exact ⟨k + 1, zs ++ [x.ver], by go_num, by omega, by omega, by simp [hz], HO2.out, HB2.out⟩
    · have hltz : ¬ (k : Int) < (n : Int) := by omega
      obtain rfl : k = n := by omega
      subst hz
      go_wp2_with fail
      refine (sortI_any _ w.heap.size zs _ HO.out h0 (by omega)).mono ?_
      rintro e w2 ⟨rfl, ts, ht1, ht2, hown2, hg2⟩
      have HB2 : Hid (Below w.heap.size w w2) := Lib.hid (HB.out.grown hg2 HB.out.size (HO.out.lt · · |>.1))
      have HO2 := Lib.hid hown2
      clear hown2 hg2
      go_wp2_with fail
      refine (compactI_any _ w.heap.size ts _ HO2.out (by omega) (by omega)).mono ?_
      rintro e w3 ⟨v', rfl, us, hu1, hu0, hu2, hown3, hg3⟩
      have HB3 : Hid (Below w.heap.size w w3) := Lib.hid (HB2.out.grown hg3 HB2.out.size (HO2.out.lt · · |>.1))
      have HO3 := Lib.hid hown3
      clear hown3 hg3
      go_wp2
      go_ret
      exact ⟨_, rfl, us, hu0, by omega, HO3.out, HB3.out⟩

theorem SlT.drop {α : Type} {k : Nat} {enc : α → List Value} {w : World} {b off n c : Nat} {l : List α} (h : SlT k enc w (some ⟨b, off, none⟩) n c l) {m : Nat} (hm : m ≤ n) : SlT k enc w (some ⟨b, off + m * k, none⟩) (n - m) (c - m) (l.drop m) := by
  refine ⟨by rw [List.length_drop, h.1], by have := h.2.1; omega, fun h0 => ?_⟩
  obtain ⟨b', off', e, hb, hx⟩ := h.2.2 (by omega)
  injection e with e
  injection e with e1 e2
  subst e1 e2
  refine ⟨b, off + m * k, rfl, hb, fun j x hj i v hv => ?_⟩
  rw [List.getElem?_drop] at hj
  have := hx (m + j) x hj i v hv
  rw [← this]
  congr 2
  rw [Nat.add_mul]
  omega

set_option maxHeartbeats 2000000 in
set_option maxRecDepth 100000 in
theorem topen_any (A : Option Addr) (c : Nat) (l : List Seg) (closed : Int) (w : World) (hr : SlT 2 encS w A l.length c l) (h0 : 0 < l.length) (hn : l.length ≤ 100000) :
    Calls Try.prog 25 #[.slice A l.length c, .int .i64 closed] w fun e w' => ∃ v, e = .returned v ∧ ∃ ts : List Int, 0 < ts.length ∧ ts.length ≤ l.length ∧ w'.ownsRow w.heap.size 3 1 v ts.length (ts.flatMap eI) ∧ Below w.heap.size w w' := by
  have HR := Lib.hid hr
  obtain ⟨b, off, rfl, hb, _⟩ := hr.2.2 h0
  have hc := hr.2.1
  clear hr
  go_enter Try.func25, Try.ntmps25
  go_wp2_with fail
  refine (behind_ex _ c l _ _ HR.out (by omega)).mono ?_
  rintro e w1 ⟨k, rfl, hle, hb1⟩
  have HB1 := Lib.hid hb1
  clear hb1
  by_cases hk : 1 ≤ k
  · obtain ⟨j, rfl⟩ : ∃ j, k = j + 1 := ⟨k - 1, by omega⟩
    have HT := Lib.hid ((HR.out.drop (m := j) (by omega)).below HB1.out)
    have hjc : (j : Int) ≤ (c : Int) := by omega
    have hjl : (j : Int) ≤ (l.length : Int) := by omega
    go_wp2_with fail
    rw [show (max ((j : Int) + 1) 1).toNat - 1 = j by omega]
    refine (versions_any _ (l.length - j) _ (l.drop j) _ HT.out (by omega) (by omega)).mono ?_
    rintro e w2 ⟨v, rfl, ts, h1, h2, hown, hb2⟩
    have HO := Lib.hid (own_mono (base' := w.heap.size) hown HB1.out.size)
    have HB2 := Lib.hid (below_andthen HB1.out HB1.out.size hb2)
    clear hown hb2
    go_wp2
    go_ret
    exact ⟨_, rfl, ts, h1, by omega, HO.out, HB2.out⟩
  · obtain rfl : k = 0 := by omega
    go_wp2_with fail
    first
      | rw [show (max (((0 : Nat) : Int)) 1).toNat - 1 = 0 by omega, Nat.zero_mul, Nat.add_zero, Nat.sub_zero, Nat.sub_zero]
      | rw [show (max (0 : Int) 1).toNat - 1 = 0 by omega, Nat.zero_mul, Nat.add_zero, Nat.sub_zero, Nat.sub_zero]
      | skip
    refine (versions_any _ l.length _ l _ (HR.out.below HB1.out) (by omega) (by omega)).mono ?_
    rintro e w2 ⟨v, rfl, ts, h1, h2, hown, hb2⟩
    have HO := Lib.hid (own_mono (base' := w.heap.size) hown HB1.out.size)
    have HB2 := Lib.hid (below_andthen HB1.out HB1.out.size hb2)
    clear hown hb2
    go_wp2
    go_ret
    exact ⟨_, rfl, ts, h1, by omega, HO.out, HB2.out⟩

set_option maxHeartbeats 2000000 in
set_option maxRecDepth 100000 in
theorem needed_any (A : Option Addr) (c : Nat) (l : List Rep) (A2 : Option Addr) (c2 : Nat) (t : List Seg) (closed : Int) (w : World) (hr : SlT 6 encR w A l.length c l) (ht : SlT 2 encS w A2 t.length c2 t) (hn : l.length ≤ 100000) (hm : t.length ≤ 100000) (h0 : 0 < t.length) :
    Calls Try.prog 14 #[.slice A l.length c, .slice A2 t.length c2, .int .i64 closed] w fun e w' => ∃ v, e = .returned v ∧ ∃ ts : List Int, (∀ x ∈ openL l, x.ver ∈ ts) ∧ ts.length ≤ t.length + l.length ∧ w'.ownsRow w.heap.size 3 1 v ts.length (ts.flatMap eI) ∧ Below w.heap.size w w' := by
  have HR := Lib.hid hr
  have HT := Lib.hid ht
  clear hr ht
  have hol : (openL l).length ≤ l.length := List.length_filter_le _ _
  go_enter Try.func14, Try.ntmps14
  go_wp2_with fail
  refine (topen_any A2 c2 t closed _ HT.out h0 hm).mono ?_
  rintro e w1 ⟨v1, rfl, ts, ht0, ht1, hown1, hb1⟩
  have HO1 := Lib.hid hown1
  have HB1 := Lib.hid hb1
  clear hown1 hb1
  go_wp2_with fail
  refine (Open_any A _ c l _ (HR.out.below HB1.out) (by omega)).mono ?_
  rintro e w2 ⟨v2, rfl, hown2, hb2⟩
  have hop : Hid (SlV 6 encR w2 v2 (openL l)) := Lib.hid (SlV.of_own encR_len hown2)
  have HO2 := Lib.hid (own_below HO1.out hb2)
  have HO1b := HO1
  have HOb := Lib.hid hown2
  have HB2 := Lib.hid (below_andthen HB1.out HB1.out.size hb2)
  clear hown2 hb2 HO1
  generalize hmm : openL l = m at hop hol HOb
  have HMM := Lib.hid hmm
  clear hmm
  obtain ⟨A3, c3, rfl, hmr⟩ := hop.out
  have HM := Lib.hid hmr
  clear hmr hop
  go_wp2_with fail
  have hne0 : ∀ g b off, v1.ownBlock = some g → A3 = some ⟨b, off, none⟩ → b ≠ g := by
    intro g b off hg hA
    have q1 := (HO1b.out.lt g hg).2
    have q2 := (HOb.out.lt b (by rw [hA]; rfl)).1
    omega
  go_loopg [7, 9, 16] m.length (fun gg s7 _ s16 wr => ∃ (k : Nat) (zs : List Int), s16 = .int .i64 k ∧ k ≤ m.length ∧ m.length - k ≤ gg ∧ zs.length = ts.length + k ∧ Hid (∀ x ∈ m.take k, x.ver ∈ zs) ∧ Hid (wr.ownsRow w.heap.size 3 1 s7 zs.length (zs.flatMap eI)) ∧ Hid (Below w.heap.size w wr) ∧ Hid (SlT 6 encR wr A3 m.length c3 m) ∧ Hid (∀ g b off, s7.ownBlock = some g → A3 = some ⟨b, off, none⟩ → b ≠ g))
  case atStart => exact ⟨0, ts, rfl, by omega, by omega, rfl, by intro x hx; simp at hx, HO2.out, HB2.out, HM.out, hne0⟩
  case round =>
    obtain ⟨k, zs, rfl, hk, hg, hz, HZ, HO, HB, HM, HNE⟩ := hrel
    by_cases hlt : k < m.length
    · have hltz : (k : Int) < (m.length : Int) := by omega
      obtain ⟨b, off, rfl, hb, hcells⟩ := HM.out.2.2 (by omega)
      obtain ⟨x, hx⟩ : ∃ x, m[k]? = some x := ⟨_, List.getElem?_eq_getElem hlt⟩
      obtain ⟨c0, c1, c2', c3', c4, c5⟩ := cellsR hcells hb (Below.refl _ _) hx
      have HX := Lib.hid hx
      clear hx hcells
      go_wp2_with (at_builtin; refine wpList_append_sl (k := 1) (enc := eI) _ rfl _ _ 41 rfl w.heap.size 3 _ 8 Try.underlying41 info_Int rfl (by decide) eI_len eI_one u7 zs.length zs rfl ((HO.out.alloc _).alloc _) _ 1 1 [x.ver] rfl (SlT.one1 _ _ _ _ (by simp)) (by unfold maxLen; omega) (by omega) (by have := HB.out.size; simp; omega) ?_)
      intro v' w3 hown hgrow hat
      have HO3 : Hid (w3.ownsRow w.heap.size 3 1 v' (zs ++ [x.ver]).length ((zs ++ [x.ver]).flatMap eI)) := Lib.hid (by simpa [hz] using hown)
      have HB3 : Hid (Below w.heap.size w w3) := Lib.hid (((HB.out.alloc HB.out.size _).alloc (by have := HB.out.size; simp; omega) _).grown hgrow (by have := HB.out.size; simp; omega) (HO.out.lt · · |>.1))
      have HM3 : Hid (SlT 6 encR w3 (some ⟨b, off, none⟩) m.length c3 m) := Lib.hid (by
        have h1 := (HM.out.alloc (.cells #[.int .i64 x.no, .int .i64 x.frm, .int .i64 x.ver, .int .i64 x.start, .int .i64 x.state, .int .i64 x.cut] 39)).alloc (.cells #[.int .i64 x.ver] 3)
        cases ho : u7.ownBlock with
        | none =>
          rw [ho] at hgrow
          exact h1.keep hgrow.size fun p hp => World.cell?_of_block (hgrow.block p.block hp (by simp))
        | some g =>
          rw [ho] at hgrow
          exact h1.grown hgrow fun b' off' e _ => HNE.out g b' off' ho e)
      have HNE3 : Hid (∀ g b' off', v'.ownBlock = some g → (some ⟨b, off, none⟩ : Option Addr) = some ⟨b', off', none⟩ → b' ≠ g) := Lib.hid (by
        intro g b' off' h1 h2
        rcases hat with hat | hat
        · exact HNE.out g b' off' (by rw [← hat]; exact h1) h2
        · rw [hat] at h1
          injection h1 with h1
          injection h2 with h2
          injection h2 with h2
          try simp at h1
          omega)
      have HZ3 : Hid (∀ y ∈ m.take (k + 1), y.ver ∈ zs ++ [x.ver]) := Lib.hid (by
        intro y hy
        rw [List.take_add_one, HX.out] at hy
        rcases List.mem_append.1 hy with hy | hy
        · exact List.mem_append_left _ (HZ.out y hy)
        · simp only [Option.toList_some, List.mem_singleton] at hy
          rw [hy]; simp)
      clear hown hgrow hat c0 c1 c2' c3' c4 c5 hne0
      go_wp2
      go_roundg (m.length - (k + 1))
      case measure => omega
      case rel => exact ⟨k + 1, zs ++ [x.ver], by go_num, by omega, by omega, by simp [hz]; omega, HZ3.out, HO3.out, HB3.out, HM3.out, HNE3.out⟩
    · have hltz : ¬ (k : Int) < (m.length : Int) := by omega
      obtain rfl : k = m.length := by omega
      go_wp2_with fail
      refine (sortI_any _ w.heap.size zs _ HO.out (by omega) (by omega)).mono ?_
      rintro e w3 ⟨rfl, us, hu1, hu2, hown2, hg2⟩
      have HB3 : Hid (Below w.heap.size w w3) := Lib.hid (HB.out.grown hg2 HB.out.size (HO.out.lt · · |>.1))
      have HO3 := Lib.hid hown2
      clear hown2 hg2
      go_wp2_with fail
      refine (compactI_any _ w.heap.size us _ HO3.out (by omega) (by omega)).mono ?_
      rintro e w4 ⟨v', rfl, xs, hx1, hx0, hx2, hown3, hg3⟩
      have HB4 : Hid (Below w.heap.size w w4) := Lib.hid (HB3.out.grown hg3 HB3.out.size (HO3.out.lt · · |>.1))
      have HO4 := Lib.hid hown3
      clear hown3 hg3
      go_wp2
      go_ret
      refine ⟨_, rfl, xs, fun x hx => hx2 _ (hu2 _ (HZ.out x (by rw [List.take_length, ← HMM.out]; exact hx))), by omega, HO4.out, HB4.out⟩
end Go.Proofs.Ytpdmjahdnfhcoaa
