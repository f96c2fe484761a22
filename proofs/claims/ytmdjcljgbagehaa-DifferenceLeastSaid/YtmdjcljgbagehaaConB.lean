/- delta: Consolidate. -/
import Derived.Test.YtmdjcljgbagehaaConA
import Derived.Test.YtmdjcljgbagehaaLineP
import Derived.Deep.CutRange
namespace Go.Proofs.Ytmdjcljgbagehaa
open Go.RowKit

def ConPost (w : World) (l : List Dl) (e : Ending) (w' : World) : Prop := ∃ A c out, e = .returned (.slice A out.length c) ∧ ConsOf l out ∧ out.length ≤ l.length ∧ DlAt (fun b => w.heap.size ≤ b) w' A c out ∧ Below w.heap.size w w'
theorem ConsOf.len {l out : List Dl} (h : ConsOf l out) : out.length ≤ l.length := by
  have h1 : (out.map Dl.key).length ≤ (l.map Dl.key).length := by
    refine len_le_of _ _ h.cons.nodup fun k hk => ?_
    obtain ⟨d, hd, rfl⟩ := List.mem_map.1 hk
    obtain ⟨e, he, q⟩ := h.key hd
    exact List.mem_map.2 ⟨e, he, q⟩
  simpa using h1
structure ConM (w w1 : World) (g cap B2 : Nat) (s out : List Dl) (i : Nat) (oa : Option Addr) (oc : Nat) (wr : World) : Prop where
  sd : SD w1 w.heap.size g cap s wr
  con : ConsTo s out i
  own : wr.ownsRow B2 38 3 (.slice oa out.length oc) out.length (out.flatMap encD)
  rows : ∀ o ∈ out, SlP (fun b => w.heap.size ≤ b ∧ some b ≠ (Value.slice oa out.length oc).ownBlock) 3 encV wr o.ra o.rn o.rc o.vs ∧ o.rn ≤ 1000000 ∧ w64 o.n = o.n
  below : Below w.heap.size w wr
  b2 : g < B2 ∧ w.heap.size ≤ g ∧ w1.heap.size ≤ B2 ∧ B2 ≤ wr.heap.size
  few : out.length ≤ i
theorem ConM.belowW {w w1 wr w' : World} {g cap B2 i oc : Nat} {s out : List Dl} {oa : Option Addr} (h : ConM w w1 g cap B2 s out i oa oc wr) (hb : Below wr.heap.size wr w') : ConM w w1 g cap B2 s out i oa oc w' :=
  ⟨h.sd.below hb, h.con, own_below h.own hb, fun o ho => ⟨(h.rows o ho).1.below hb, (h.rows o ho).2⟩, h.below.trans (hb.mono h.below.size), by have := h.b2; have := hb.size; omega, h.few⟩
theorem SlP.mono' {α : Type} {P Q : Nat → Prop} {k : Nat} {enc : α → List Value} {w w' : World} {A : Option Addr} {n c : Nat} {l : List α} (h : SlP P k enc w A n c l) (hs : w.heap.size ≤ w'.heap.size) (hc : ∀ b, b < w.heap.size → P b → w'.heap[b]? = w.heap[b]?) (hpq : ∀ b, b < w.heap.size → P b → Q b) : SlP Q k enc w' A n c l :=
  (h.mono (Q := fun b => P b ∧ Q b) (fun b hb hp => ⟨hp, hpq b hb hp⟩)).keep hs (fun b hb hp => hc b hb hp.1) |>.mono (fun _ _ hp => hp.2)
set_option maxHeartbeats 8000000 in
set_option maxRecDepth 100000 in
theorem consolidate_any (P : Nat → Prop) (A : Option Addr) (c : Nat) (l : List Dl) (w : World) (h : DlAt P w A c l) (hn : l.length ≤ 1000) :
    Calls Try.prog 16 #[.slice A l.length c] w (ConPost w l) := by
  have HD := Lib.hid (h.mono (Q := fun b => b < w.heap.size) (fun b hb _ => hb))
  clear h
  go_enter Try.func16, Try.ntmps16
  go_wp2_with fail
  refine (cloneD_any A l.length c l _ HD.out.1.1 (by omega)).mono ?_
  rintro e w1 ⟨A1, c1, rfl, hown1, hb1⟩
  have HB1 := Lib.hid hb1
  rcases Nat.eq_zero_or_pos l.length with h0 | h0
  · obtain rfl : l = [] := List.eq_nil_of_length_eq_zero h0
    clear hown1 hb1 h0
    go_wp2_with fail
    refine (sort0_any A1 c1 _).mono ?_
    rintro e w2 ⟨rfl, hb2⟩
    have HB2 := Lib.hid (HB1.out.trans (hb2.mono HB1.out.size))
    clear hb2
    go_wp2
    refine wp_loop_rounds 1 ?_
    rw [rounds_succ]
    go_wp2
    go_ret
    exact ⟨none, 0, [], rfl, ⟨ConsL.nil, fun k => rfl⟩, Nat.le_refl _, DlAt.nil _ _, HB2.out⟩
  · obtain ⟨g, rfl, hgw, hgw1, hnc⟩ : ∃ g, A1 = some ⟨g, 0, none⟩ ∧ w.heap.size ≤ g ∧ g < w1.heap.size ∧ l.length ≤ c1 := by
      rcases hown1.2 with ⟨_, hz⟩ | ⟨g, cap, cur, h3, h4, h5, h6, _⟩
      · omega
      · injection h3 with e1 e2 e3
        subst e1 e3
        exact ⟨g, rfl, h4, (Array.getElem?_eq_some_iff.1 h5).1, h6⟩
    have HSD1 : Hid (SD w1 w.heap.size g c1 l w1) := Lib.hid ⟨hown1, World.grownBy.refl w1 _⟩
    have HROW : Hid (∀ d ∈ l, RowG w1 g d) := Lib.hid (fun d hd => ⟨((HD.out.2 d hd).1.below HB1.out).mono (fun b _ hb => by omega), (HD.out.2 d hd).2.1⟩)
    have HNS : Hid (∀ d ∈ l, w64 d.n = d.n) := Lib.hid (fun d hd => (HD.out.2 d hd).2.2)
    clear hown1 hb1
    go_wp2_with fail
    refine (sortStable_any w1 w.heap.size g c1 l l.length _ HSD1.out HROW.out rfl (by omega)).mono ?_
    rintro e w2 ⟨s, rfl, hsd2, hso2, hsw2⟩
    have HSO : Hid (SortedOn cmpD s 0 s.length) := Lib.hid (by rw [hsw2.len]; exact hso2)
    have HSL : Hid (s.length = l.length) := Lib.hid hsw2.len
    have HPERM : Hid (s.Perm l) := Lib.hid hsw2.perm
    have HROWS : Hid (∀ d ∈ s, RowG w1 g d) := Lib.hid (hsw2.all HROW.out)
    have HNSS : Hid (∀ d ∈ s, w64 d.n = d.n) := Lib.hid (hsw2.all HNS.out)
    have HB2 : Hid (Below w.heap.size w w2) := Lib.hid (HB1.out.trans ⟨hsd2.gr.os, hsd2.gr.tape, hsd2.gr.output, hsd2.gr.size, fun b hb => hsd2.gr.block b (Nat.lt_of_lt_of_le hb HB1.out.size) (by intro e; injection e with e; omega)⟩)
    have HM0 : Hid (ConM w w1 g c1 w2.heap.size s [] 0 none 0 w2) := Lib.hid ⟨hsd2, consTo_zero s, World.ownsRow_nil _ _ _ _, by simp, HB2.out, by have := hsd2.gr.size; omega, Nat.le_refl _⟩
    clear hsd2 hso2 hsw2 HSD1 HROW HNS HB1 HB2
    generalize hn0 : l.length = n at *
    have HN0 := Lib.hid hn0
    clear hn0
    revert HM0
    generalize hB2 : w2.heap.size = B2
    intro HM0
    clear hB2
    go_wp2_with fail
    go_loopg [3, 4, 5, 6] n (fun gg s3 s4 _ _ wr => ∃ (i nn c3 oc : Nat) (out : List Dl) (oa A3 : Option Addr), s3 = .slice A3 nn c3 ∧ nn + i = n ∧ nn ≤ gg ∧ s4 = .slice oa out.length oc ∧ Hid (0 < nn → A3 = some ⟨g, i * 3, none⟩ ∧ c3 + i = c1) ∧ Hid (ConM w w1 g c1 B2 s out i oa oc wr))
    case atStart => exact ⟨0, n, c1, 0, [], none, some ⟨g, 0, none⟩, rfl, rfl, Nat.le_refl _, rfl, Lib.hid (fun _ => ⟨by rw [Nat.zero_mul], rfl⟩), HM0⟩
    case round =>
      obtain ⟨i, nn, c3, oc, out, oa, A3, rfl, hin, hg, rfl, HA3, HM⟩ := hrel
      clear HM0
      revert HM
      revert wr
      intro wo HM
      by_cases hlt : 0 < nn
      · obtain ⟨rfl, hc3⟩ := HA3.out hlt
        have hltz : (0 : Int) < (nn : Int) := by omega
        have hltb : decide (0 < nn) = true := decide_eq_true hlt
        have hsl : s.length = n := HSL.out
        obtain ⟨d, hd⟩ : ∃ d, s[i]? = some d := ⟨_, List.getElem?_eq_getElem (by omega)⟩
        obtain ⟨d0, d1, d2⟩ := HM.out.sd.cells hd
        have HDS := Lib.hid hd
        have HDR : Hid (RowG w1 g d) := Lib.hid (HROWS.out d (List.mem_of_getElem? hd))
        have hdn : w64 d.n = d.n := HNSS.out d (List.mem_of_getElem? hd)
        have HDN := Lib.hid hdn
        have HBD : Hid (Blk (wo.alloc (.cells #[.int .i64 d.time, .slice d.ra d.rn d.rc, .int .i64 d.n] 38)) wo.heap.size 38 #[.int .i64 d.time, .slice d.ra d.rn d.rc, .int .i64 d.n]) := Lib.hid (Blk.new wo _ _)
        have HBB : Hid (Below wo.heap.size wo (wo.alloc (.cells #[.int .i64 d.time, .slice d.ra d.rn d.rc, .int .i64 d.n] 38))) := Lib.hid ((Below.refl _ wo).alloc (Nat.le_refl _) _)
        clear hd hdn hsl
        go_wp2_with fail
        generalize (wo.alloc (.cells #[.int .i64 d.time, .slice d.ra d.rn d.rc, .int .i64 d.n] 38)) = wa at HBD HBB ⊢
        clear d0 d1 d2
        go_loopg [6] nn (fun gg s6 wx => ∃ (k : Nat) (N : Int), s6 = .int .i64 k ∧ 1 ≤ k ∧ k ≤ nn ∧ nn - k ≤ gg ∧ Hid (Below wo.heap.size wo wx) ∧ Hid (Blk wx wo.heap.size 38 #[.int .i64 d.time, .slice d.ra d.rn d.rc, .int .i64 N]) ∧ Hid (N = w64 (sumN s i k)) ∧ Hid (∀ q e, i ≤ q → q < i + k → s[q]? = some e → e.key = d.key))
        case atStart => exact ⟨1, d.n, rfl, by omega, hlt, by omega, HBB, HBD, Lib.hid (by rw [sumN_one HDS.out, HDN.out]), Lib.hid (fun q e h1 h2 h3 => by
          obtain rfl : q = i := by omega
          exact congrArg Dl.key (Option.some.inj (h3.symm.trans HDS.out)))⟩
        case round =>
          obtain ⟨k, N, rfl, hk1, hk2, hgk, HBX, HDB, HN, HK⟩ := hrel
          clear HBD HBB
          revert HBX HDB
          revert wr
          intro wx HBX HDB
          by_cases hkn : k < nn
          · have hknz : (k : Int) < (nn : Int) := by omega
            have hknb : decide (k < nn) = true := decide_eq_true hkn
            obtain ⟨e, he⟩ : ∃ e, s[i + k]? = some e := ⟨_, List.getElem?_eq_getElem (by have := HSL.out; omega)⟩
            have HMX := Lib.hid (HM.out.belowW HBX.out)
            obtain ⟨e0, e1, e2⟩ := HMX.out.sd.cells he
            rw [Nat.add_mul] at e0 e1 e2
            obtain ⟨z0, z1, z2, zf⟩ := HDB.out.three
            have hDx := HDB.out.lt
            have hgx := HMX.out.sd.lt
            have HES := Lib.hid he
            have k0 : (0 : Int) ≤ (k : Int) := by omega
            have HCMP : Hid (∀ W', w1.grownBy W' (some g) → Calls Try.prog 19 #[.agg #[.int .i64 d.time, .slice d.ra d.rn d.rc, .int .i64 N], .agg #[.int .i64 e.time, .slice e.ra e.rn e.rc, .int .i64 e.n]] W' (CmpPost W' (cmpD d e))) := Lib.hid (fun W' hg' => cmpD_any ⟨d.time, d.ra, d.rn, d.rc, N, d.vs⟩ e W' (HDR.out.ok hg') ((HROWS.out e (List.mem_of_getElem? he)).ok hg'))
            clear he zf
            by_cases hc : cmpD d e = 0
            · have hcb : (cmpD d e == 0) = true := by simpa using hc
              have HC := Lib.hid hc
              clear hc
              go_wp2_with fail
              refine wp_region_noPanic ?_
              refine wp_region_held_drew (S := fun w' => w'.cell? ⟨wo.heap.size, 0, none⟩ = some (.int .i64 d.time) ∧ w'.cell? ⟨wo.heap.size, 1, none⟩ = some (.slice d.ra d.rn d.rc) ∧ w'.cell? ⟨wo.heap.size, 2, none⟩ = some (.int .i64 N) ∧ w'.cell? ⟨g, i * 3 + k * 3, none⟩ = some (.int .i64 e.time) ∧ w'.cell? ⟨g, i * 3 + k * 3 + 1, none⟩ = some (.slice e.ra e.rn e.rc) ∧ w'.cell? ⟨g, i * 3 + k * 3 + 2, none⟩ = some (.int .i64 e.n)) (by kernel_rfl) ?_ (fun hHeld => ?_)
              · first | exact ⟨by assumption, by assumption⟩ | go_keep
              refine take_yes (i := 0) (some 17) (v := ?va0) (by simp only [List.getElem?_toArray, List.getElem?_cons_zero]; exact rfl) rfl (by kernel_rfl) (by kernel_rfl) (by kernel_rfl) (fun _ _ _ h => h) (by rfl) ?hya0 (by assumption) ?resta0
              case hya0 => (intro w hSw; (try dsimp only at hSw); go_simp; try with_reducible rfl)
              try simp only [Act.put, List.setIfInBounds_toArray, List.set_cons_zero, List.set_cons_succ]
              refine take_yes (i := 1) (some 18) (v := ?va1) (by simp only [List.getElem?_toArray, List.getElem?_cons_succ, List.getElem?_cons_zero]; exact rfl) rfl (by kernel_rfl) (by kernel_rfl) (by kernel_rfl) (fun _ _ _ h => h) (by rfl) ?hya1 (by assumption) ?resta1
              case hya1 => (intro w hSw; (try dsimp only at hSw); go_simp; try with_reducible rfl)
              try simp only [Act.put, List.setIfInBounds_toArray, List.set_cons_zero, List.set_cons_succ]
              refine take_yes (i := 2) (some 19) (v := ?va2) (by simp only [List.getElem?_toArray, List.getElem?_cons_succ, List.getElem?_cons_zero]; exact rfl) rfl (by kernel_rfl) (by kernel_rfl) (by kernel_rfl) (fun _ _ _ h => h) (by rfl) ?hya2 (by assumption) ?resta2
              case hya2 => (intro w hSw; (try dsimp only at hSw); go_simp; try with_reducible rfl)
              try simp only [Act.put, List.setIfInBounds_toArray, List.set_cons_zero, List.set_cons_succ]
              refine take_yes (i := 3) (some 20) (v := ?va3) (by simp only [List.getElem?_toArray, List.getElem?_cons_succ, List.getElem?_cons_zero]; exact rfl) rfl (by kernel_rfl) (by kernel_rfl) (by kernel_rfl) (fun _ _ _ h => h) (by rfl) ?hya3 (by assumption) ?resta3
              case hya3 => (intro w hSw; (try dsimp only at hSw); go_simp; try with_reducible rfl)
              try simp only [Act.put, List.setIfInBounds_toArray, List.set_cons_zero, List.set_cons_succ]
              refine take_yes (i := 4) (some 21) (v := ?va4) (by simp only [List.getElem?_toArray, List.getElem?_cons_succ, List.getElem?_cons_zero]; exact rfl) rfl (by kernel_rfl) (by kernel_rfl) (by kernel_rfl) (fun _ _ _ h => h) (by rfl) ?hya4 (by assumption) ?resta4
              case hya4 => (intro w hSw; (try dsimp only at hSw); go_simp; try with_reducible rfl)
              try simp only [Act.put, List.setIfInBounds_toArray, List.set_cons_zero, List.set_cons_succ]
              refine take_yes (i := 5) (some 22) (v := ?va5) (by simp only [List.getElem?_toArray, List.getElem?_cons_succ, List.getElem?_cons_zero]; exact rfl) rfl (by kernel_rfl) (by kernel_rfl) (by kernel_rfl) (fun _ _ _ h => h) (by rfl) ?hya5 (by assumption) ?resta5
              case hya5 => (intro w hSw; (try dsimp only at hSw); go_simp; try with_reducible rfl)
              try simp only [Act.put, List.setIfInBounds_toArray, List.set_cons_zero, List.set_cons_succ]
              refine take_yes (i := 6) (some 23) (v := ?va6) (by simp only [List.getElem?_toArray, List.getElem?_cons_succ, List.getElem?_cons_zero]; exact rfl) rfl (by kernel_rfl) (by kernel_rfl) (by kernel_rfl) (fun _ _ _ h => h) (by rfl) ?hya6 (by assumption) ?resta6
              case hya6 => (intro w hSw; (try dsimp only at hSw); go_simp; try with_reducible rfl)
              try simp only [Act.put, List.setIfInBounds_toArray, List.set_cons_zero, List.set_cons_succ]
              refine take_yes (i := 7) (some 24) (v := ?va7) (by simp only [List.getElem?_toArray, List.getElem?_cons_succ, List.getElem?_cons_zero]; exact rfl) rfl (by kernel_rfl) (by kernel_rfl) (by kernel_rfl) (fun _ _ _ h => h) (by rfl) ?hya7 (by assumption) ?resta7
              case hya7 => (intro w hSw; (try dsimp only at hSw); go_simp; try with_reducible rfl)
              try simp only [Act.put, List.setIfInBounds_toArray, List.set_cons_zero, List.set_cons_succ]
              refine take_yes (i := 8) (some 25) (v := ?va8) (by simp only [List.getElem?_toArray, List.getElem?_cons_succ, List.getElem?_cons_zero]; exact rfl) rfl (by kernel_rfl) (by kernel_rfl) (by kernel_rfl) (fun _ _ _ h => h) (by rfl) ?hya8 (by assumption) ?resta8
              case hya8 => (intro w hSw; (try dsimp only at hSw); go_simp; try with_reducible rfl)
              try simp only [Act.put, List.setIfInBounds_toArray, List.set_cons_zero, List.set_cons_succ]
              refine take_yes (i := 9) (some 26) (v := ?va9) (by simp only [List.getElem?_toArray, List.getElem?_cons_succ, List.getElem?_cons_zero]; exact rfl) rfl (by kernel_rfl) (by kernel_rfl) (by kernel_rfl) (fun _ _ _ h => h) (by rfl) ?hya9 (by assumption) ?resta9
              case hya9 => (intro w hSw; (try dsimp only at hSw); go_simp; try with_reducible rfl)
              try simp only [Act.put, List.setIfInBounds_toArray, List.set_cons_zero, List.set_cons_succ]
              refine wpAnyH_ready (rs := [10]) (by kernel_rfl) (by simp) ?_
              refine AllReadyH.cons rfl (fun K hK => ?_) AllReadyH.nil
              try go_simp
              go_wp2_with (refine (HCMP.out _ HMX.out.sd.drew.gr).mono ?_; rintro e' w3 ⟨rfl, hb3⟩; have HD3x := Lib.hid ((Below.refl wx.heap.size wx).drew.trans hb3); have HB3 := Lib.hid (HBX.out.trans (HD3x.out.mono HBX.out.size)); have HD3 := Lib.hid (HDB.out.below HD3x.out HDB.out.lt); obtain ⟨x0, x1, x2, -⟩ := HD3.out.three; obtain ⟨y0, y1, y2⟩ := (HM.out.belowW HB3.out).sd.cells HES.out; rw [Nat.add_mul] at y0 y1 y2; clear hb3)
              refine hK.out _ _ ?_ (fun hHeld => ?_)
              · go_keep
              clear hK K
              try simp only [Act.put, List.setIfInBounds_toArray, List.set_cons_zero, List.set_cons_succ]
              refine take_yes (i := 11) (some 28) (v := ?va11) (by simp only [List.getElem?_toArray, List.getElem?_cons_succ, List.getElem?_cons_zero]; exact rfl) rfl (by kernel_rfl) (by kernel_rfl) (by kernel_rfl) (fun _ _ _ h => h) (by rfl) ?hya11 (by assumption) ?resta11
              case hya11 => (intro w hSw; (try dsimp only at hSw); go_simp; try with_reducible rfl)
              try simp only [Act.put, List.setIfInBounds_toArray, List.set_cons_zero, List.set_cons_succ]
              refine take_yes (i := 12) (some 29) (v := ?va12) (by simp only [List.getElem?_toArray, List.getElem?_cons_succ, List.getElem?_cons_zero]; exact rfl) rfl (by kernel_rfl) (by kernel_rfl) (by kernel_rfl) (fun _ _ _ h => h) (by rfl) ?hya12 (by assumption) ?resta12
              case hya12 => (intro w hSw; (try dsimp only at hSw); go_simp; try with_reducible rfl)
              try simp only [Act.put, List.setIfInBounds_toArray, List.set_cons_zero, List.set_cons_succ]
              refine wpAnyH_done (by kernel_rfl) ?_ _
              refine NoPanic.normal ?_
              clear hHeld e0 e1 e2 z0 z1 z2 x0 x1 x2 y0 y1 y2 hcb HCMP hDx hgx
              have HM3 := Lib.hid (HM.out.belowW HB3.out)
              obtain ⟨e0, e1, e2⟩ := HM3.out.sd.cells HES.out
              rw [Nat.add_mul] at e0 e1 e2
              obtain ⟨z0, z1, z2, zf⟩ := HD3.out.three
              have zf2 := zf 2
              have hD3 := HD3.out.lt
              have hg3 := HM3.out.sd.lt
              have hgD : g ≠ wo.heap.size := by have := HM.out.sd.lt; omega
              have hgD2 : wo.heap.size ≠ g := by omega
              have HN2 : Hid (IntKind.i64.wrap (N + e.n) = w64 (sumN s i (k + 1))) := Lib.hid (by
                rw [sumN_succ HES.out, HN.out]
                exact w64_add _ _)
              have HD4 := Lib.hid (show Blk (w3.setCell ⟨wo.heap.size, 2, none⟩ (.int .i64 (IntKind.i64.wrap (N + e.n)))).drew wo.heap.size 38 #[.int .i64 d.time, .slice d.ra d.rn d.rc, .int .i64 (IntKind.i64.wrap (N + e.n))] from by simpa using (HD3.out.set_ 2 (.int .i64 (IntKind.i64.wrap (N + e.n)))).drew)
              have HB4 : Hid (Below wo.heap.size wo (w3.setCell ⟨wo.heap.size, 2, none⟩ (.int .i64 (IntKind.i64.wrap (N + e.n)))).drew) := Lib.hid (HB3.out.setCell (p := ⟨wo.heap.size, 2, none⟩) (Nat.le_refl _) _).drew
              have HK2 : Hid (∀ q e', i ≤ q → q < i + (k + 1) → s[q]? = some e' → e'.key = d.key) := Lib.hid (fun q e' h1 h2 h3 => by
                by_cases hq : q = i + k
                · subst hq
                  obtain rfl : e = e' := Option.some.inj (HES.out.symm.trans h3)
                  exact ((tcmp_ky.zero _ _).1 HC.out).symm
                · exact HK.out q e' h1 (by omega) h3)
              clear zf
              obtain ⟨M, hM⟩ : ∃ M, IntKind.i64.wrap (N + e.n) = M := ⟨_, rfl⟩
              rw [hM] at HN2 HD4 HB4
              go_wp2_with fail
              refine wp_region_noPanic ?_
              refine wp_region_held_drew (S := fun w' => w'.cell? ⟨g, i * 3 + k * 3 + 2, none⟩ = some (.int .i64 e.n)) (by kernel_rfl) ?_ (fun hHeld => ?_)
              · first | exact ⟨by assumption, by assumption⟩ | go_keep
              refine take_yes (i := 0) (some 30) (v := ?vb0) (by simp only [List.getElem?_toArray, List.getElem?_cons_zero]; exact rfl) rfl (by kernel_rfl) (by kernel_rfl) (by kernel_rfl) (fun _ _ _ h => h) (by rfl) ?hyb0 (by assumption) ?restb0
              case hyb0 => (intro w hSw; (try dsimp only at hSw); go_simp; try with_reducible rfl)
              try simp only [Act.put, List.setIfInBounds_toArray, List.set_cons_zero, List.set_cons_succ]
              refine take_yes (i := 2) (some 32) (v := ?vb2) (by simp only [List.getElem?_toArray, List.getElem?_cons_succ, List.getElem?_cons_zero]; exact rfl) rfl (by kernel_rfl) (by kernel_rfl) (by kernel_rfl) (fun _ _ _ h => h) (by rfl) ?hyb2 (by assumption) ?restb2
              case hyb2 => (intro w hSw; (try dsimp only at hSw); go_simp; try with_reducible rfl)
              try simp only [Act.put, List.setIfInBounds_toArray, List.set_cons_zero, List.set_cons_succ]
              refine take_yes (i := 3) (some 33) (v := ?vb3) (by simp only [List.getElem?_toArray, List.getElem?_cons_succ, List.getElem?_cons_zero]; exact rfl) rfl (by kernel_rfl) (by kernel_rfl) (by kernel_rfl) (fun _ _ _ h => h) (by rfl) ?hyb3 (by assumption) ?restb3
              case hyb3 => (intro w hSw; (try dsimp only at hSw); go_simp; try with_reducible rfl)
              try simp only [Act.put, List.setIfInBounds_toArray, List.set_cons_zero, List.set_cons_succ]
              refine take_yes (i := 4) (some 34) (v := ?vb4) (by simp only [List.getElem?_toArray, List.getElem?_cons_succ, List.getElem?_cons_zero]; exact rfl) rfl (by kernel_rfl) (by kernel_rfl) (by kernel_rfl) (fun _ _ _ h => h) (by rfl) ?hyb4 (by assumption) ?restb4
              case hyb4 => (intro w hSw; (try dsimp only at hSw); go_simp; try with_reducible rfl)
              try simp only [Act.put, List.setIfInBounds_toArray, List.set_cons_zero, List.set_cons_succ]
              refine take_yes (i := 5) (some 35) (v := ?vb5) (by simp only [List.getElem?_toArray, List.getElem?_cons_succ, List.getElem?_cons_zero]; exact rfl) rfl (by kernel_rfl) (by kernel_rfl) (by kernel_rfl) (fun _ _ _ h => h) (by rfl) ?hyb5 (by assumption) ?restb5
              case hyb5 => (intro w hSw; (try dsimp only at hSw); go_simp; try with_reducible rfl)
              try simp only [Act.put, List.setIfInBounds_toArray, List.set_cons_zero, List.set_cons_succ]
              refine take_yes (i := 6) (some 36) (v := ?vb6) (by simp only [List.getElem?_toArray, List.getElem?_cons_succ, List.getElem?_cons_zero]; exact rfl) rfl (by kernel_rfl) (by kernel_rfl) (by kernel_rfl) (fun _ _ _ h => h) (by rfl) ?hyb6 (by assumption) ?restb6
              case hyb6 => (intro w hSw; (try dsimp only at hSw); go_simp; try with_reducible rfl)
              try simp only [Act.put, List.setIfInBounds_toArray, List.set_cons_zero, List.set_cons_succ]
              refine wpAnyH_ready (rs := [1]) (by kernel_rfl) (by simp) ?_
              refine AllReadyH.cons rfl (fun K hK => ?_) AllReadyH.nil
              try go_simp
              refine hK.out _ _ ?_ (fun hHeld => ?_)
              · go_keep
              clear hK K
              try simp only [Act.put, List.setIfInBounds_toArray, List.set_cons_zero, List.set_cons_succ]
              refine take_yes (i := 7) (some 37) (v := ?vb7) (by simp only [List.getElem?_toArray, List.getElem?_cons_succ, List.getElem?_cons_zero]; exact rfl) rfl (by kernel_rfl) (by kernel_rfl) (by kernel_rfl) (fun _ _ _ h => h) (by rfl) ?hyb7 (by assumption) ?restb7
              case hyb7 => (intro w hSw; (try dsimp only at hSw); go_simp; try with_reducible rfl)
              try simp only [Act.put, List.setIfInBounds_toArray, List.set_cons_zero, List.set_cons_succ]
              refine take_yes (i := 8) (some 38) (v := ?vb8) (by simp only [List.getElem?_toArray, List.getElem?_cons_succ, List.getElem?_cons_zero]; exact rfl) rfl (by kernel_rfl) (by kernel_rfl) (by kernel_rfl) (fun _ _ _ h => h) (by rfl) ?hyb8 (by assumption) ?restb8
              case hyb8 => (intro w hSw; (try dsimp only at hSw); go_simp; try with_reducible rfl)
              try simp only [Act.put, List.setIfInBounds_toArray, List.set_cons_zero, List.set_cons_succ]
              refine wpAnyH_ready (rs := [9]) (by kernel_rfl) (by simp) ?_
              refine AllReadyH.cons rfl (fun K hK => ?_) AllReadyH.nil
              try go_simp
              refine hK.out _ _ ?_ (fun hHeld => ?_)
              · go_keep
              clear hK K
              try simp only [Act.put, List.setIfInBounds_toArray, List.set_cons_zero, List.set_cons_succ]
              refine wpAnyH_done (by kernel_rfl) ?_ _
              refine NoPanic.normal ?_
              clear hHeld e0 e1 e2 z0 z1 z2 zf2 hD3 hg3 hgD hgD2
              (try rw [hM])
              clear hM
              generalize (w3.setCell ⟨wo.heap.size, 2, none⟩ (.int .i64 M)).drew = w4 at HD4 HB4 ⊢
              go_wp2
              go_roundg (nn - (k + 1))
              case measure => omega
              case rel => exact ⟨k + 1, M, by go_num, by omega, by omega, by omega, HB4, HD4, HN2, HK2⟩
            · have hcb : (cmpD d e == 0) = false := by simpa using hc
              have HSTOP : Hid (∀ e', s[i + k]? = some e' → cmpD d e' ≠ 0) := Lib.hid (fun e' h3 => by
                obtain rfl : e = e' := Option.some.inj (HES.out.symm.trans h3)
                exact hc)
              clear hc
              go_wp2_with fail
              refine wp_region_noPanic ?_
              refine wp_region_held_drew (S := fun w' => w'.cell? ⟨wo.heap.size, 0, none⟩ = some (.int .i64 d.time) ∧ w'.cell? ⟨wo.heap.size, 1, none⟩ = some (.slice d.ra d.rn d.rc) ∧ w'.cell? ⟨wo.heap.size, 2, none⟩ = some (.int .i64 N) ∧ w'.cell? ⟨g, i * 3 + k * 3, none⟩ = some (.int .i64 e.time) ∧ w'.cell? ⟨g, i * 3 + k * 3 + 1, none⟩ = some (.slice e.ra e.rn e.rc) ∧ w'.cell? ⟨g, i * 3 + k * 3 + 2, none⟩ = some (.int .i64 e.n)) (by kernel_rfl) ?_ (fun hHeld => ?_)
              · first | exact ⟨by assumption, by assumption⟩ | go_keep
              refine take_yes (i := 0) (some 17) (v := ?vc0) (by simp only [List.getElem?_toArray, List.getElem?_cons_zero]; exact rfl) rfl (by kernel_rfl) (by kernel_rfl) (by kernel_rfl) (fun _ _ _ h => h) (by rfl) ?hyc0 (by assumption) ?restc0
              case hyc0 => (intro w hSw; (try dsimp only at hSw); go_simp; try with_reducible rfl)
              try simp only [Act.put, List.setIfInBounds_toArray, List.set_cons_zero, List.set_cons_succ]
              refine take_yes (i := 1) (some 18) (v := ?vc1) (by simp only [List.getElem?_toArray, List.getElem?_cons_succ, List.getElem?_cons_zero]; exact rfl) rfl (by kernel_rfl) (by kernel_rfl) (by kernel_rfl) (fun _ _ _ h => h) (by rfl) ?hyc1 (by assumption) ?restc1
              case hyc1 => (intro w hSw; (try dsimp only at hSw); go_simp; try with_reducible rfl)
              try simp only [Act.put, List.setIfInBounds_toArray, List.set_cons_zero, List.set_cons_succ]
              refine take_yes (i := 2) (some 19) (v := ?vc2) (by simp only [List.getElem?_toArray, List.getElem?_cons_succ, List.getElem?_cons_zero]; exact rfl) rfl (by kernel_rfl) (by kernel_rfl) (by kernel_rfl) (fun _ _ _ h => h) (by rfl) ?hyc2 (by assumption) ?restc2
              case hyc2 => (intro w hSw; (try dsimp only at hSw); go_simp; try with_reducible rfl)
              try simp only [Act.put, List.setIfInBounds_toArray, List.set_cons_zero, List.set_cons_succ]
              refine take_yes (i := 3) (some 20) (v := ?vc3) (by simp only [List.getElem?_toArray, List.getElem?_cons_succ, List.getElem?_cons_zero]; exact rfl) rfl (by kernel_rfl) (by kernel_rfl) (by kernel_rfl) (fun _ _ _ h => h) (by rfl) ?hyc3 (by assumption) ?restc3
              case hyc3 => (intro w hSw; (try dsimp only at hSw); go_simp; try with_reducible rfl)
              try simp only [Act.put, List.setIfInBounds_toArray, List.set_cons_zero, List.set_cons_succ]
              refine take_yes (i := 4) (some 21) (v := ?vc4) (by simp only [List.getElem?_toArray, List.getElem?_cons_succ, List.getElem?_cons_zero]; exact rfl) rfl (by kernel_rfl) (by kernel_rfl) (by kernel_rfl) (fun _ _ _ h => h) (by rfl) ?hyc4 (by assumption) ?restc4
              case hyc4 => (intro w hSw; (try dsimp only at hSw); go_simp; try with_reducible rfl)
              try simp only [Act.put, List.setIfInBounds_toArray, List.set_cons_zero, List.set_cons_succ]
              refine take_yes (i := 5) (some 22) (v := ?vc5) (by simp only [List.getElem?_toArray, List.getElem?_cons_succ, List.getElem?_cons_zero]; exact rfl) rfl (by kernel_rfl) (by kernel_rfl) (by kernel_rfl) (fun _ _ _ h => h) (by rfl) ?hyc5 (by assumption) ?restc5
              case hyc5 => (intro w hSw; (try dsimp only at hSw); go_simp; try with_reducible rfl)
              try simp only [Act.put, List.setIfInBounds_toArray, List.set_cons_zero, List.set_cons_succ]
              refine take_yes (i := 6) (some 23) (v := ?vc6) (by simp only [List.getElem?_toArray, List.getElem?_cons_succ, List.getElem?_cons_zero]; exact rfl) rfl (by kernel_rfl) (by kernel_rfl) (by kernel_rfl) (fun _ _ _ h => h) (by rfl) ?hyc6 (by assumption) ?restc6
              case hyc6 => (intro w hSw; (try dsimp only at hSw); go_simp; try with_reducible rfl)
              try simp only [Act.put, List.setIfInBounds_toArray, List.set_cons_zero, List.set_cons_succ]
              refine take_yes (i := 7) (some 24) (v := ?vc7) (by simp only [List.getElem?_toArray, List.getElem?_cons_succ, List.getElem?_cons_zero]; exact rfl) rfl (by kernel_rfl) (by kernel_rfl) (by kernel_rfl) (fun _ _ _ h => h) (by rfl) ?hyc7 (by assumption) ?restc7
              case hyc7 => (intro w hSw; (try dsimp only at hSw); go_simp; try with_reducible rfl)
              try simp only [Act.put, List.setIfInBounds_toArray, List.set_cons_zero, List.set_cons_succ]
              refine take_yes (i := 8) (some 25) (v := ?vc8) (by simp only [List.getElem?_toArray, List.getElem?_cons_succ, List.getElem?_cons_zero]; exact rfl) rfl (by kernel_rfl) (by kernel_rfl) (by kernel_rfl) (fun _ _ _ h => h) (by rfl) ?hyc8 (by assumption) ?restc8
              case hyc8 => (intro w hSw; (try dsimp only at hSw); go_simp; try with_reducible rfl)
              try simp only [Act.put, List.setIfInBounds_toArray, List.set_cons_zero, List.set_cons_succ]
              refine take_yes (i := 9) (some 26) (v := ?vc9) (by simp only [List.getElem?_toArray, List.getElem?_cons_succ, List.getElem?_cons_zero]; exact rfl) rfl (by kernel_rfl) (by kernel_rfl) (by kernel_rfl) (fun _ _ _ h => h) (by rfl) ?hyc9 (by assumption) ?restc9
              case hyc9 => (intro w hSw; (try dsimp only at hSw); go_simp; try with_reducible rfl)
              try simp only [Act.put, List.setIfInBounds_toArray, List.set_cons_zero, List.set_cons_succ]
              refine wpAnyH_ready (rs := [10]) (by kernel_rfl) (by simp) ?_
              refine AllReadyH.cons rfl (fun K hK => ?_) AllReadyH.nil
              try go_simp
              go_wp2_with (refine (HCMP.out _ HMX.out.sd.drew.gr).mono ?_; rintro e' w3 ⟨rfl, hb3⟩; have HD3x := Lib.hid ((Below.refl wx.heap.size wx).drew.trans hb3); have HB3 := Lib.hid (HBX.out.trans (HD3x.out.mono HBX.out.size)); have HD3 := Lib.hid (HDB.out.below HD3x.out HDB.out.lt); obtain ⟨x0, x1, x2, -⟩ := HD3.out.three; obtain ⟨y0, y1, y2⟩ := (HM.out.belowW HB3.out).sd.cells HES.out; rw [Nat.add_mul] at y0 y1 y2; clear hb3)
              refine hK.out _ _ ?_ (fun hHeld => ?_)
              · go_keep
              clear hK K
              try simp only [Act.put, List.setIfInBounds_toArray, List.set_cons_zero, List.set_cons_succ]
              refine take_yes (i := 11) (some 28) (v := ?vc11) (by simp only [List.getElem?_toArray, List.getElem?_cons_succ, List.getElem?_cons_zero]; exact rfl) rfl (by kernel_rfl) (by kernel_rfl) (by kernel_rfl) (fun _ _ _ h => h) (by rfl) ?hyc11 (by assumption) ?restc11
              case hyc11 => (intro w hSw; (try dsimp only at hSw); go_simp; try with_reducible rfl)
              try simp only [Act.put, List.setIfInBounds_toArray, List.set_cons_zero, List.set_cons_succ]
              refine take_yes (i := 12) (some 29) (v := ?vc12) (by simp only [List.getElem?_toArray, List.getElem?_cons_succ, List.getElem?_cons_zero]; exact rfl) rfl (by kernel_rfl) (by kernel_rfl) (by kernel_rfl) (fun _ _ _ h => h) (by rfl) ?hyc12 (by assumption) ?restc12
              case hyc12 => (intro w hSw; (try dsimp only at hSw); go_simp; try with_reducible rfl)
              try simp only [Act.put, List.setIfInBounds_toArray, List.set_cons_zero, List.set_cons_succ]
              refine wpAnyH_done (by kernel_rfl) ?_ _
              refine NoPanic.normal ?_
              clear hHeld e0 e1 e2 z0 z1 z2 x0 x1 x2 y0 y1 y2 hcb HCMP hDx hgx HMX
              have hc3n : nn ≤ c3 := by omega
              have HM3 := Lib.hid (HM.out.belowW HB3.out)
              obtain ⟨z0, z1, z2, zf⟩ := HD3.out.three
              have hD3 := HD3.out.lt
              have k0' : (0 : Int) ≤ (k : Int) := by omega
              have kz1 : (k : Int) ≤ (nn : Int) := by omega
              have kz2 : (nn : Int) ≤ (c3 : Int) := by omega
              have kz3 : (k : Int) ≤ (c3 : Int) := by omega
              have hsl : i + k ≤ s.length := by have := HSL.out; omega
              have HSL3 := Lib.hid hsl
              clear hsl
              by_cases hN0 : N = 0
              · have hNb : (N != 0) = false := by simpa using hN0
                have HMN : Hid (ConM w w1 g c1 B2 s out (i + k) oa oc w3) := Lib.hid (by
                  have hstep := consTo_step HSO.out HM3.out.con HDS.out (by omega) HSL3.out HK.out HSTOP.out ⟨d.time, none, 0, 0, N, d.vs⟩ rfl HN.out
                  rw [if_pos hN0] at hstep
                  exact ⟨HM3.out.sd, hstep, HM3.out.own, HM3.out.rows, HM3.out.below, HM3.out.b2, by have := HM3.out.few; omega⟩)
                clear hN0
                go_upto_region 12 with fail
                by_cases hkc : k = c3
                · subst hkc
                  go_wp2
                  go_roundg 0
                  case measure => omega
                  case rel => exact ⟨i + k, 0, 0, oc, out, oa, some ⟨g, i * 3, none⟩, by first | rfl | (simp; omega), by omega, by omega, by first | rfl | simp, Lib.hid (fun h => by omega), HMN⟩
                · have hkc2 : k < c3 := by omega
                  have hkcz : (k : Int) < (c3 : Int) := by omega
                  have hkne : ¬ (k : Int) = (c3 : Int) := by omega
                  go_wp2
                  go_roundg (nn - k)
                  case measure => omega
                  case rel => exact ⟨i + k, nn - k, c3 - k, oc, out, oa, some ⟨g, i * 3 + k * 3, none⟩, by first | rfl | simp, by omega, by omega, by first | rfl | simp, Lib.hid (fun _ => ⟨by rw [Nat.add_mul], by omega⟩), HMN⟩
              · have hNb : (N != 0) = true := by simpa using hN0
                have HN0 := Lib.hid hN0
                clear hN0
                go_wp2_with fail
                refine (cloneV_any d.ra d.rn d.rc d.vs _ (HDR.out.ok HM3.out.sd.gr).1 HDR.out.2).mono ?_
                rintro e5 w4 ⟨va, vc, rfl, hown4, hb4⟩
                have HO4 := Lib.hid hown4
                have HB4x := Lib.hid hb4
                have HD4 := Lib.hid (HD3.out.below hb4 HD3.out.lt)
                have HB4 := Lib.hid (HB3.out.trans (hb4.mono HB3.out.size))
                obtain ⟨v0, v1, v2, vf⟩ := HD4.out.three
                have vf1 := vf 1
                clear hown4 hb4 z0 z1 z2 zf vf
                have HD5 : Hid (Blk (w4.setCell ⟨wo.heap.size, 1, none⟩ (.slice va d.vs.length vc)) wo.heap.size 38 #[.int .i64 d.time, .slice va d.vs.length vc, .int .i64 N]) := Lib.hid (by simpa using HD4.out.set_ 1 (.slice va d.vs.length vc))
                have HB5 : Hid (Below wo.heap.size wo (w4.setCell ⟨wo.heap.size, 1, none⟩ (.slice va d.vs.length vc))) := Lib.hid (HB4.out.setCell (p := ⟨wo.heap.size, 1, none⟩) (Nat.le_refl _) _)
                have HO5 : Hid ((w4.setCell ⟨wo.heap.size, 1, none⟩ (.slice va d.vs.length vc)).ownsRow w3.heap.size 48 3 (.slice va d.vs.length vc) d.vs.length (d.vs.flatMap encV)) := Lib.hid (own_other_set HO4.out HD4.out (by decide) 1 _)
                have hw34 : w3.heap.size ≤ (w4.setCell ⟨wo.heap.size, 1, none⟩ (.slice va d.vs.length vc)).heap.size := by simpa [World.setCell] using HB4x.out.size
                have hwo3 : wo.heap.size < w3.heap.size := HD3.out.lt
                clear hD3
                have HO6 : Hid ((w4.setCell ⟨wo.heap.size, 1, none⟩ (.slice va d.vs.length vc)).ownsRow B2 38 3 (.slice oa out.length oc) out.length (out.flatMap encD)) := Lib.hid (own_below HM.out.own HB5.out)
                have hfew : out.length ≤ 1000 := by have := HM.out.few; have := HSL3.out; have := HSL.out; omega
                have hb2w : B2 ≤ (w4.setCell ⟨wo.heap.size, 1, none⟩ (.slice va d.vs.length vc)).heap.size := by have := HM.out.b2; have := HB5.out.size; omega
                have hb2n : B2 ≤ w4.heap.size := by simpa [World.setCell] using hb2w
                go_wp2_with (at_builtin; go_loud (refine wpList_append_sl (k := 3) (enc := encD) _ rfl _ _ 22 rfl B2 38 _ 40 Try.underlying22 info_Del rfl (by decide) encD_len encD_one _ out.length out rfl (own_below HO6.out ((Below.refl _ _).alloc (Nat.le_refl _) _)) _ 1 1 [⟨d.time, va, d.vs.length, vc, N, d.vs⟩] rfl (slT_block encD_len (Blk.new' _ w4.heap.size _ _ (by simp [World.setCell])) rfl rfl (Nat.le_refl _)) (by unfold maxLen; omega) (by omega) (by simp; omega) ?_))
                intro v' w8 hown8 hgrow hat
                obtain ⟨oa', oc', rfl⟩ := own_shape hown8
                have HMN : Hid (ConM w w1 g c1 B2 s (out ++ [⟨d.time, va, d.vs.length, vc, N, d.vs⟩]) (i + k) oa' oc' w8) := Lib.hid (by
                  have hA : Below (w4.setCell ⟨wo.heap.size, 1, none⟩ (.slice va d.vs.length vc)).heap.size (w4.setCell ⟨wo.heap.size, 1, none⟩ (.slice va d.vs.length vc)) ((w4.setCell ⟨wo.heap.size, 1, none⟩ (.slice va d.vs.length vc)).alloc (.cells #[.int .i64 d.time, .slice va d.vs.length vc, .int .i64 N] 38)) := (Below.refl _ _).alloc (Nat.le_refl _) _
                  have hM5 := HM.out.belowW HB5.out
                  have hM6 := hM5.belowW hA
                  have hrowb : ∀ b, some b = (Value.slice oa out.length oc).ownBlock → B2 ≤ b ∧ b < wo.heap.size := fun b e => HM.out.own.lt b e.symm
                  have hstep := consTo_step HSO.out HM.out.con HDS.out (by omega) HSL3.out HK.out HSTOP.out ⟨d.time, va, d.vs.length, vc, N, d.vs⟩ rfl HN.out
                  rw [if_neg HN0.out] at hstep
                  have hb2' := HM.out.b2
                  refine ⟨⟨hM6.sd.own.kept hgrow (.inr (fun e => by have := (hrowb g e).1; omega)), ?_⟩, hstep, by simpa [List.flatMap_append] using hown8, fun o ho => ?_, ?_, ?_, ?_⟩
                  · refine ⟨hgrow.os.trans hM6.sd.gr.os, hgrow.tape.trans hM6.sd.gr.tape, hgrow.output.trans hM6.sd.gr.output, Nat.le_trans hM6.sd.gr.size hgrow.size, fun b hb hne => ?_⟩
                    exact (hgrow.block b (Nat.lt_of_lt_of_le hb hM6.sd.gr.size) (fun e => by have := (hrowb b e).1; omega)).trans (hM6.sd.gr.block b hb hne)
                  · have hnew : ∀ b, b < ((w4.setCell ⟨wo.heap.size, 1, none⟩ (.slice va d.vs.length vc)).alloc (.cells #[.int .i64 d.time, .slice va d.vs.length vc, .int .i64 N] 38)).heap.size → some b ≠ (Value.slice oa out.length oc).ownBlock → some b ≠ (Value.slice oa' (out ++ [(⟨d.time, va, d.vs.length, vc, N, d.vs⟩ : Dl)]).length oc').ownBlock := fun b h1 h2 h3 => by
                      rw [show (out ++ [(⟨d.time, va, d.vs.length, vc, N, d.vs⟩ : Dl)]).length = out.length + 1 by simp] at h3
                      rcases hat with h | h
                      · exact h2 (h3.trans h)
                      · have e2 := h3.trans h
                        injection e2 with e2
                        simp at h1
                        omega
                    rcases List.mem_append.1 ho with ho | ho
                    · have h1 := hM6.rows o ho
                      exact ⟨h1.1.mono' hgrow.size (fun b hb hp => hgrow.block b hb hp.2) (fun b hb hp => ⟨hp.1, hnew b hb hp.2⟩), h1.2⟩
                    · rw [List.mem_singleton.1 ho]
                      have h1 : SlP (fun b => w3.heap.size ≤ b) 3 encV (w4.setCell ⟨wo.heap.size, 1, none⟩ (.slice va d.vs.length vc)) va d.vs.length vc d.vs := SlP.of_own encV_len HO5.out rfl (fun b h1 _ => h1)
                      have h2 := h1.below hA
                      have h3 : SlP (fun b => w.heap.size ≤ b ∧ some b ≠ (Value.slice oa' (out ++ [(⟨d.time, va, d.vs.length, vc, N, d.vs⟩ : Dl)]).length oc').ownBlock) 3 encV w8 va d.vs.length vc d.vs := h2.mono' hgrow.size (fun b hb hp => hgrow.block b hb (fun e => by have := (hrowb b e).2; omega)) (fun b hb hp => ⟨by have := HM.out.below.size; omega, hnew b hb (fun e => by have := (hrowb b e).2; omega)⟩)
                      refine ⟨h3, ?_, ?_⟩
                      · have h1 := HDR.out.1.1.1
                        have h2 := HDR.out.2
                        show d.vs.length ≤ 1000000
                        omega
                      · show w64 N = N
                        rw [HN.out, w64_w64]
                  · exact (hM6.below).grown hgrow hM6.below.size (fun b hb => by have := (HM.out.own.lt b hb).1; omega)
                  · have := hgrow.size; have := hM6.b2; omega
                  · rw [List.length_append]; have := HM.out.few; simp; omega)
                clear hown8 hgrow hat v0 v1 v2 vf1
                go_upto_region 12 with fail
                by_cases hkc : k = c3
                · subst hkc
                  go_wp2
                  go_roundg 0
                  case measure => omega
                  case rel => exact ⟨i + k, 0, 0, oc', out ++ [⟨d.time, va, d.vs.length, vc, N, d.vs⟩], oa', some ⟨g, i * 3, none⟩, by first | rfl | (simp; omega), by omega, by omega, by first | rfl | simp, Lib.hid (fun h => by omega), HMN⟩
                · have hkc2 : k < c3 := by omega
                  have hkcz : (k : Int) < (c3 : Int) := by omega
                  have hkne : ¬ (k : Int) = (c3 : Int) := by omega
                  go_wp2
                  go_roundg (nn - k)
                  case measure => omega
                  case rel => exact ⟨i + k, nn - k, c3 - k, oc', out ++ [⟨d.time, va, d.vs.length, vc, N, d.vs⟩], oa', some ⟨g, i * 3 + k * 3, none⟩, by first | rfl | simp, by omega, by omega, by first | rfl | simp, Lib.hid (fun _ => ⟨by rw [Nat.add_mul], by omega⟩), HMN⟩
          · have hknz : ¬ (k : Int) < (nn : Int) := by omega
            have hknb : decide (k < nn) = false := decide_eq_false hkn
            have HSTOP : Hid (∀ e', s[i + k]? = some e' → cmpD d e' ≠ 0) := Lib.hid (fun e' h3 => by
              have h4 := (List.getElem?_eq_some_iff.1 h3).1
              have := HSL.out
              omega)
            have HB3 := Lib.hid HBX.out.drew
            have HD3 := Lib.hid HDB.out.drew
            go_wp2_with fail
            refine wp_region_noPanic ?_
            refine wp_region_held_drew (S := fun _ => True) (by kernel_rfl) ?_ (fun hHeld => ?_)
            · first | exact ⟨by assumption, by assumption⟩ | go_keep
            refine take_yes (i := 0) (some 17) (v := ?vd0) (by simp only [List.getElem?_toArray, List.getElem?_cons_zero]; exact rfl) rfl (by kernel_rfl) (by kernel_rfl) (by kernel_rfl) (fun _ _ _ h => h) (by rfl) ?hyd0 (by assumption) ?restd0
            case hyd0 => (intro w hSw; (try dsimp only at hSw); go_simp; try with_reducible rfl)
            try simp only [Act.put, List.setIfInBounds_toArray, List.set_cons_zero, List.set_cons_succ]
            refine take_yes (i := 1) (some 18) (v := ?vd1) (by simp only [List.getElem?_toArray, List.getElem?_cons_succ, List.getElem?_cons_zero]; exact rfl) rfl (by kernel_rfl) (by kernel_rfl) (by kernel_rfl) (fun _ _ _ h => h) (by rfl) ?hyd1 (by assumption) ?restd1
            case hyd1 => (intro w hSw; (try dsimp only at hSw); go_simp; try with_reducible rfl)
            try simp only [Act.put, List.setIfInBounds_toArray, List.set_cons_zero, List.set_cons_succ]
            refine take_yes (i := 2) (some 19) (v := ?vd2) (by simp only [List.getElem?_toArray, List.getElem?_cons_succ, List.getElem?_cons_zero]; exact rfl) rfl (by kernel_rfl) (by kernel_rfl) (by kernel_rfl) (fun _ _ _ h => h) (by rfl) ?hyd2 (by assumption) ?restd2
            case hyd2 => (intro w hSw; (try dsimp only at hSw); go_simp; try with_reducible rfl)
            try simp only [Act.put, List.setIfInBounds_toArray, List.set_cons_zero, List.set_cons_succ]
            refine take_yes (i := 3) (some 20) (v := ?vd3) (by simp only [List.getElem?_toArray, List.getElem?_cons_succ, List.getElem?_cons_zero]; exact rfl) rfl (by kernel_rfl) (by kernel_rfl) (by kernel_rfl) (fun _ _ _ h => h) (by rfl) ?hyd3 (by assumption) ?restd3
            case hyd3 => (intro w hSw; (try dsimp only at hSw); go_simp; try with_reducible rfl)
            try simp only [Act.put, List.setIfInBounds_toArray, List.set_cons_zero, List.set_cons_succ]
            refine take_yes (i := 4) (some 21) (v := ?vd4) (by simp only [List.getElem?_toArray, List.getElem?_cons_succ, List.getElem?_cons_zero]; exact rfl) rfl (by kernel_rfl) (by kernel_rfl) (by kernel_rfl) (fun _ _ _ h => h) (by rfl) ?hyd4 (by assumption) ?restd4
            case hyd4 => (intro w hSw; (try dsimp only at hSw); go_simp; try with_reducible rfl)
            try simp only [Act.put, List.setIfInBounds_toArray, List.set_cons_zero, List.set_cons_succ]
            refine take_un (i := 5) (some 22) (by simp only [List.getElem?_toArray, List.getElem?_cons_succ, List.getElem?_cons_zero]; exact rfl) rfl (by kernel_rfl) (by kernel_rfl) (by kernel_rfl) (fun _ _ _ h => h) (by rfl) (by assumption) ?_
            try simp only [Act.put, List.setIfInBounds_toArray, List.set_cons_zero, List.set_cons_succ]
            refine take_un (i := 6) (some 23) (by simp only [List.getElem?_toArray, List.getElem?_cons_succ, List.getElem?_cons_zero]; exact rfl) rfl (by kernel_rfl) (by kernel_rfl) (by kernel_rfl) (fun _ _ _ h => h) (by rfl) (by assumption) ?_
            try simp only [Act.put, List.setIfInBounds_toArray, List.set_cons_zero, List.set_cons_succ]
            refine take_un (i := 7) (some 24) (by simp only [List.getElem?_toArray, List.getElem?_cons_succ, List.getElem?_cons_zero]; exact rfl) rfl (by kernel_rfl) (by kernel_rfl) (by kernel_rfl) (fun _ _ _ h => h) (by rfl) (by assumption) ?_
            try simp only [Act.put, List.setIfInBounds_toArray, List.set_cons_zero, List.set_cons_succ]
            refine take_un (i := 8) (some 25) (by simp only [List.getElem?_toArray, List.getElem?_cons_succ, List.getElem?_cons_zero]; exact rfl) rfl (by kernel_rfl) (by kernel_rfl) (by kernel_rfl) (fun _ _ _ h => h) (by rfl) (by assumption) ?_
            try simp only [Act.put, List.setIfInBounds_toArray, List.set_cons_zero, List.set_cons_succ]
            refine take_un (i := 9) (some 26) (by simp only [List.getElem?_toArray, List.getElem?_cons_succ, List.getElem?_cons_zero]; exact rfl) rfl (by kernel_rfl) (by kernel_rfl) (by kernel_rfl) (fun _ _ _ h => h) (by rfl) (by assumption) ?_
            try simp only [Act.put, List.setIfInBounds_toArray, List.set_cons_zero, List.set_cons_succ]
            refine take_un (i := 10) (some 27) (by simp only [List.getElem?_toArray, List.getElem?_cons_succ, List.getElem?_cons_zero]; exact rfl) rfl (by kernel_rfl) (by kernel_rfl) (by kernel_rfl) (fun _ _ _ h => h) (by rfl) (by assumption) ?_
            try simp only [Act.put, List.setIfInBounds_toArray, List.set_cons_zero, List.set_cons_succ]
            refine take_un (i := 11) (some 28) (by simp only [List.getElem?_toArray, List.getElem?_cons_succ, List.getElem?_cons_zero]; exact rfl) rfl (by kernel_rfl) (by kernel_rfl) (by kernel_rfl) (fun _ _ _ h => h) (by rfl) (by assumption) ?_
            try simp only [Act.put, List.setIfInBounds_toArray, List.set_cons_zero, List.set_cons_succ]
            refine take_yes (i := 12) (some 29) (v := ?vd12) (by simp only [List.getElem?_toArray, List.getElem?_cons_succ, List.getElem?_cons_zero]; exact rfl) rfl (by kernel_rfl) (by kernel_rfl) (by kernel_rfl) (fun _ _ _ h => h) (by rfl) ?hyd12 (by assumption) ?restd12
            case hyd12 => (intro w hSw; (try dsimp only at hSw); go_simp; try with_reducible rfl)
            try simp only [Act.put, List.setIfInBounds_toArray, List.set_cons_zero, List.set_cons_succ]
            refine wpAnyH_done (by kernel_rfl) ?_ _
            refine NoPanic.normal ?_
            clear hHeld
            generalize wx.drew = w3 at HB3 HD3 ⊢
            have hc3n : nn ≤ c3 := by omega
            have HM3 := Lib.hid (HM.out.belowW HB3.out)
            obtain ⟨z0, z1, z2, zf⟩ := HD3.out.three
            have hD3 := HD3.out.lt
            have k0' : (0 : Int) ≤ (k : Int) := by omega
            have kz1 : (k : Int) ≤ (nn : Int) := by omega
            have kz2 : (nn : Int) ≤ (c3 : Int) := by omega
            have kz3 : (k : Int) ≤ (c3 : Int) := by omega
            have hsl : i + k ≤ s.length := by have := HSL.out; omega
            have HSL3 := Lib.hid hsl
            clear hsl
            by_cases hN0 : N = 0
            · have hNb : (N != 0) = false := by simpa using hN0
              have HMN : Hid (ConM w w1 g c1 B2 s out (i + k) oa oc w3) := Lib.hid (by
                have hstep := consTo_step HSO.out HM3.out.con HDS.out (by omega) HSL3.out HK.out HSTOP.out ⟨d.time, none, 0, 0, N, d.vs⟩ rfl HN.out
                rw [if_pos hN0] at hstep
                exact ⟨HM3.out.sd, hstep, HM3.out.own, HM3.out.rows, HM3.out.below, HM3.out.b2, by have := HM3.out.few; omega⟩)
              clear hN0
              go_upto_region 12 with fail
              by_cases hkc : k = c3
              · subst hkc
                go_wp2
                go_roundg 0
                case measure => omega
                case rel => exact ⟨i + k, 0, 0, oc, out, oa, some ⟨g, i * 3, none⟩, by first | rfl | (simp; omega), by omega, by omega, by first | rfl | simp, Lib.hid (fun h => by omega), HMN⟩
              · have hkc2 : k < c3 := by omega
                have hkcz : (k : Int) < (c3 : Int) := by omega
                have hkne : ¬ (k : Int) = (c3 : Int) := by omega
                go_wp2
                go_roundg (nn - k)
                case measure => omega
                case rel => exact ⟨i + k, nn - k, c3 - k, oc, out, oa, some ⟨g, i * 3 + k * 3, none⟩, by first | rfl | simp, by omega, by omega, by first | rfl | simp, Lib.hid (fun _ => ⟨by rw [Nat.add_mul], by omega⟩), HMN⟩
            · have hNb : (N != 0) = true := by simpa using hN0
              have HN0 := Lib.hid hN0
              clear hN0
              go_wp2_with fail
              refine (cloneV_any d.ra d.rn d.rc d.vs _ (HDR.out.ok HM3.out.sd.gr).1 HDR.out.2).mono ?_
              rintro e5 w4 ⟨va, vc, rfl, hown4, hb4⟩
              have HO4 := Lib.hid hown4
              have HB4x := Lib.hid hb4
              have HD4 := Lib.hid (HD3.out.below hb4 HD3.out.lt)
              have HB4 := Lib.hid (HB3.out.trans (hb4.mono HB3.out.size))
              obtain ⟨v0, v1, v2, vf⟩ := HD4.out.three
              have vf1 := vf 1
              clear hown4 hb4 z0 z1 z2 zf vf
              have HD5 : Hid (Blk (w4.setCell ⟨wo.heap.size, 1, none⟩ (.slice va d.vs.length vc)) wo.heap.size 38 #[.int .i64 d.time, .slice va d.vs.length vc, .int .i64 N]) := Lib.hid (by simpa using HD4.out.set_ 1 (.slice va d.vs.length vc))
              have HB5 : Hid (Below wo.heap.size wo (w4.setCell ⟨wo.heap.size, 1, none⟩ (.slice va d.vs.length vc))) := Lib.hid (HB4.out.setCell (p := ⟨wo.heap.size, 1, none⟩) (Nat.le_refl _) _)
              have HO5 : Hid ((w4.setCell ⟨wo.heap.size, 1, none⟩ (.slice va d.vs.length vc)).ownsRow w3.heap.size 48 3 (.slice va d.vs.length vc) d.vs.length (d.vs.flatMap encV)) := Lib.hid (own_other_set HO4.out HD4.out (by decide) 1 _)
              have hw34 : w3.heap.size ≤ (w4.setCell ⟨wo.heap.size, 1, none⟩ (.slice va d.vs.length vc)).heap.size := by simpa [World.setCell] using HB4x.out.size
              have hwo3 : wo.heap.size < w3.heap.size := HD3.out.lt
              clear hD3
              have HO6 : Hid ((w4.setCell ⟨wo.heap.size, 1, none⟩ (.slice va d.vs.length vc)).ownsRow B2 38 3 (.slice oa out.length oc) out.length (out.flatMap encD)) := Lib.hid (own_below HM.out.own HB5.out)
              have hfew : out.length ≤ 1000 := by have := HM.out.few; have := HSL3.out; have := HSL.out; omega
              have hb2w : B2 ≤ (w4.setCell ⟨wo.heap.size, 1, none⟩ (.slice va d.vs.length vc)).heap.size := by have := HM.out.b2; have := HB5.out.size; omega
              have hb2n : B2 ≤ w4.heap.size := by simpa [World.setCell] using hb2w
              go_wp2_with (at_builtin; go_loud (refine wpList_append_sl (k := 3) (enc := encD) _ rfl _ _ 22 rfl B2 38 _ 40 Try.underlying22 info_Del rfl (by decide) encD_len encD_one _ out.length out rfl (own_below HO6.out ((Below.refl _ _).alloc (Nat.le_refl _) _)) _ 1 1 [⟨d.time, va, d.vs.length, vc, N, d.vs⟩] rfl (slT_block encD_len (Blk.new' _ w4.heap.size _ _ (by simp [World.setCell])) rfl rfl (Nat.le_refl _)) (by unfold maxLen; omega) (by omega) (by simp; omega) ?_))
              intro v' w8 hown8 hgrow hat
              obtain ⟨oa', oc', rfl⟩ := own_shape hown8
              have HMN : Hid (ConM w w1 g c1 B2 s (out ++ [⟨d.time, va, d.vs.length, vc, N, d.vs⟩]) (i + k) oa' oc' w8) := Lib.hid (by
                have hA : Below (w4.setCell ⟨wo.heap.size, 1, none⟩ (.slice va d.vs.length vc)).heap.size (w4.setCell ⟨wo.heap.size, 1, none⟩ (.slice va d.vs.length vc)) ((w4.setCell ⟨wo.heap.size, 1, none⟩ (.slice va d.vs.length vc)).alloc (.cells #[.int .i64 d.time, .slice va d.vs.length vc, .int .i64 N] 38)) := (Below.refl _ _).alloc (Nat.le_refl _) _
                have hM5 := HM.out.belowW HB5.out
                have hM6 := hM5.belowW hA
                have hrowb : ∀ b, some b = (Value.slice oa out.length oc).ownBlock → B2 ≤ b ∧ b < wo.heap.size := fun b e => HM.out.own.lt b e.symm
                have hstep := consTo_step HSO.out HM.out.con HDS.out (by omega) HSL3.out HK.out HSTOP.out ⟨d.time, va, d.vs.length, vc, N, d.vs⟩ rfl HN.out
                rw [if_neg HN0.out] at hstep
                have hb2' := HM.out.b2
                refine ⟨⟨hM6.sd.own.kept hgrow (.inr (fun e => by have := (hrowb g e).1; omega)), ?_⟩, hstep, by simpa [List.flatMap_append] using hown8, fun o ho => ?_, ?_, ?_, ?_⟩
                · refine ⟨hgrow.os.trans hM6.sd.gr.os, hgrow.tape.trans hM6.sd.gr.tape, hgrow.output.trans hM6.sd.gr.output, Nat.le_trans hM6.sd.gr.size hgrow.size, fun b hb hne => ?_⟩
                  exact (hgrow.block b (Nat.lt_of_lt_of_le hb hM6.sd.gr.size) (fun e => by have := (hrowb b e).1; omega)).trans (hM6.sd.gr.block b hb hne)
                · have hnew : ∀ b, b < ((w4.setCell ⟨wo.heap.size, 1, none⟩ (.slice va d.vs.length vc)).alloc (.cells #[.int .i64 d.time, .slice va d.vs.length vc, .int .i64 N] 38)).heap.size → some b ≠ (Value.slice oa out.length oc).ownBlock → some b ≠ (Value.slice oa' (out ++ [(⟨d.time, va, d.vs.length, vc, N, d.vs⟩ : Dl)]).length oc').ownBlock := fun b h1 h2 h3 => by
                    rw [show (out ++ [(⟨d.time, va, d.vs.length, vc, N, d.vs⟩ : Dl)]).length = out.length + 1 by simp] at h3
                    rcases hat with h | h
                    · exact h2 (h3.trans h)
                    · have e2 := h3.trans h
                      injection e2 with e2
                      simp at h1
                      omega
                  rcases List.mem_append.1 ho with ho | ho
                  · have h1 := hM6.rows o ho
                    exact ⟨h1.1.mono' hgrow.size (fun b hb hp => hgrow.block b hb hp.2) (fun b hb hp => ⟨hp.1, hnew b hb hp.2⟩), h1.2⟩
                  · rw [List.mem_singleton.1 ho]
                    have h1 : SlP (fun b => w3.heap.size ≤ b) 3 encV (w4.setCell ⟨wo.heap.size, 1, none⟩ (.slice va d.vs.length vc)) va d.vs.length vc d.vs := SlP.of_own encV_len HO5.out rfl (fun b h1 _ => h1)
                    have h2 := h1.below hA
                    have h3 : SlP (fun b => w.heap.size ≤ b ∧ some b ≠ (Value.slice oa' (out ++ [(⟨d.time, va, d.vs.length, vc, N, d.vs⟩ : Dl)]).length oc').ownBlock) 3 encV w8 va d.vs.length vc d.vs := h2.mono' hgrow.size (fun b hb hp => hgrow.block b hb (fun e => by have := (hrowb b e).2; omega)) (fun b hb hp => ⟨by have := HM.out.below.size; omega, hnew b hb (fun e => by have := (hrowb b e).2; omega)⟩)
                    refine ⟨h3, ?_, ?_⟩
                    · have h1 := HDR.out.1.1.1
                      have h2 := HDR.out.2
                      show d.vs.length ≤ 1000000
                      omega
                    · show w64 N = N
                      rw [HN.out, w64_w64]
                · exact (hM6.below).grown hgrow hM6.below.size (fun b hb => by have := (HM.out.own.lt b hb).1; omega)
                · have := hgrow.size; have := hM6.b2; omega
                · rw [List.length_append]; have := HM.out.few; simp; omega)
              clear hown8 hgrow hat v0 v1 v2 vf1
              go_upto_region 12 with fail
              by_cases hkc : k = c3
              · subst hkc
                go_wp2
                go_roundg 0
                case measure => omega
                case rel => exact ⟨i + k, 0, 0, oc', out ++ [⟨d.time, va, d.vs.length, vc, N, d.vs⟩], oa', some ⟨g, i * 3, none⟩, by first | rfl | (simp; omega), by omega, by omega, by first | rfl | simp, Lib.hid (fun h => by omega), HMN⟩
              · have hkc2 : k < c3 := by omega
                have hkcz : (k : Int) < (c3 : Int) := by omega
                have hkne : ¬ (k : Int) = (c3 : Int) := by omega
                go_wp2
                go_roundg (nn - k)
                case measure => omega
                case rel => exact ⟨i + k, nn - k, c3 - k, oc', out ++ [⟨d.time, va, d.vs.length, vc, N, d.vs⟩], oa', some ⟨g, i * 3 + k * 3, none⟩, by first | rfl | simp, by omega, by omega, by first | rfl | simp, Lib.hid (fun _ => ⟨by rw [Nat.add_mul], by omega⟩), HMN⟩
      · have hltz : ¬ (0 : Int) < (nn : Int) := by omega
        have hltb : decide (0 < nn) = false := decide_eq_false hlt
        have HF : Hid (ConPost w l (.returned (.slice oa out.length oc)) wo) := Lib.hid (by
          have hi : i = s.length := by have := HSL.out; omega
          have hc := HM.out.con
          rw [hi] at hc
          have hco : ConsOf l out := consTo_end hc HPERM.out
          exact ⟨oa, oc, out, rfl, hco, hco.len, ⟨SlP.of_own encD_len HM.out.own rfl (fun b h1 _ => by have := HM.out.b2; have := HM.out.below.size; omega), fun o ho => ⟨(HM.out.rows o ho).1.mono (fun b _ hb => hb.1), (HM.out.rows o ho).2⟩⟩, HM.out.below⟩)
        go_wp2
        go_ret
        exact HF.out
end Go.Proofs.Ytmdjcljgbagehaa
