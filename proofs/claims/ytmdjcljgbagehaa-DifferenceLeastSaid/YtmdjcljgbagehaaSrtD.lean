/- slices.SortStableFunc at deltas: the symmetric merge, whole. -/
import Derived.Test.YtmdjcljgbagehaaSrtC
namespace Go.Proofs.Ytmdjcljgbagehaa
open Go.RowKit

theorem rot_triv {α : Type} (l : List α) {s m e : Nat} (h : s = m ∨ e = m) (hs : s ≤ m) (he : m ≤ e) : Rot l l s m e := by
  intro k
  (repeat' split) <;> first | rfl | (congr 1; omega) | (exfalso; omega)
structure Halves (l1 : List Dl) (a s mid en b : Nat) : Prop where
  s1 : SortedOn cmpD l1 a s
  s2 : SortedOn cmpD l1 s mid
  s3 : SortedOn cmpD l1 mid en
  s4 : SortedOn cmpD l1 en b
  x : ∀ p q x y, a ≤ p → p < mid → mid ≤ q → q < b → l1[p]? = some x → l1[q]? = some y → ¬ cmpD y x < 0
def SymSaid (N : Nat) : Prop := ∀ (w0 : World) (base g cap : Nat) (l : List Dl) (L a m b : Nat) (A M B : Int) (W : World), SD w0 base g cap l W → (∀ d ∈ l, RowG w0 g d) → l.length = L → A = (a : Int) → M = (m : Int) → B = (b : Int) → L ≤ 1000000 → a < m → m < b → b ≤ L → b - a ≤ N → SortedOn cmpD l a m → SortedOn cmpD l m b →
  Calls Try.prog 37 #[.slice (some ⟨g, 0, none⟩) L cap, .int .i64 A, .int .i64 M, .int .i64 B, .func (.func 19) #[] #[]] W (SwapPost w0 base g cap l fun l' => SortedOn cmpD l' a b ∧ SwapsOn a b l l')

set_option maxHeartbeats 8000000 in
set_option maxRecDepth 100000 in
theorem symMerge_gen (N : Nat) (IH : SymSaid N) (w0 : World) (base g cap : Nat) (l : List Dl) (L a m b : Nat) (A M B : Int) (W : World) (h : SD w0 base g cap l W) (hrow : ∀ d ∈ l, RowG w0 g d) (hL : l.length = L) (hA : A = (a : Int)) (hM : M = (m : Int)) (hB : B = (b : Int)) (hl : L ≤ 1000000) (ham : a + 1 < m) (hmb : m + 1 < b) (hb : b ≤ L) (hN : b - a ≤ N + 1) (hs1 : SortedOn cmpD l a m) (hs2 : SortedOn cmpD l m b) :
    Calls Try.prog 37 #[.slice (some ⟨g, 0, none⟩) L cap, .int .i64 A, .int .i64 M, .int .i64 B, .func (.func 19) #[] #[]] W (SwapPost w0 base g cap l fun l' => SortedOn cmpD l' a b ∧ SwapsOn a b l l') := by
  have HS1 := Lib.hid hs1
  have HS2 := Lib.hid hs2
  have HIH := Lib.hid IH
  have HD := Lib.hid h
  have HL := Lib.hid hL
  have HROW := Lib.hid hrow
  have eg : ∀ args w, (callFunc 19 args).run Try.prog w = .ok (.enter 19 args) w := fun _ _ => by kernel_rfl
  subst hA hM hB
  have hbe : ((m : Int) - (a : Int) == 1) = false := by simp; omega
  have hbe2 : ((b : Int) - (m : Int) == 1) = false := by simp; omega
  obtain ⟨mid, hmid⟩ : ∃ k, k = (a + b) / 2 := ⟨_, rfl⟩
  obtain ⟨n, hn⟩ : ∃ k, k = mid + m := ⟨_, rfl⟩
  obtain ⟨n1, hn1⟩ : ∃ k, k = n - 1 := ⟨_, rfl⟩
  have hmz : ((a : Int) + (b : Int)) / 2 = (mid : Int) := by omega
  have hnz : (mid : Int) + (m : Int) = (n : Int) := by omega
  have hn1z : (n : Int) - 1 = (n1 : Int) := by omega
  have HMID := Lib.hid hmid
  have HN := Lib.hid hn
  have HN1 := Lib.hid hn1
  have hmid1 : a < mid := by omega
  have hmid2 : mid < b := by omega
  have hnle : n ≤ 2000000 := by omega
  have hlen := HL.out
  clear h hL hrow hs1 hs2 IH hmid hn hn1 hlen

  go_enter Try.func37, Try.ntmps37
  by_cases hgt : mid < m
  · skip
    obtain ⟨lo, hlod⟩ : ∃ k, k = n - b := ⟨_, rfl⟩
    have hloz : (n : Int) - (b : Int) = (lo : Int) := by have := HN.out; omega
    obtain ⟨hi, hhid⟩ : ∃ k, k = mid := ⟨_, rfl⟩
    have HCASE : Hid ((mid < m ∧ lo = n - b ∧ hi = mid) ∨ (m ≤ mid ∧ lo = a ∧ hi = m)) := Lib.hid (.inl ⟨hgt, hlod, hhid⟩)
    have hgtb : decide (mid < m) = true := decide_eq_true hgt
    have hgtz : (mid : Int) < (m : Int) := by omega
    have HLOD := Lib.hid hlod
    have HHID := Lib.hid hhid
    have hlohi : lo ≤ hi := by have := HN.out; omega
    have hd1 : a ≤ lo := by have := HN.out; omega
    have hd2 : hi ≤ m := by omega
    have hd3 : n ≤ lo + b := by have := HN.out; omega
    have hd4 : m + hi ≤ n := by have := HN.out; omega
    have hd5 : hi ≤ b := by omega
    clear hlod hhid
    go_wp2_with fail
    go_loopg [20, 21, 23] (hi - lo) (fun gg s20 s21 _ wr => ∃ s r : Nat, s20 = .int .i64 s ∧ s21 = .int .i64 r ∧ lo ≤ s ∧ s ≤ r ∧ r ≤ hi ∧ r - s ≤ gg ∧ Hid (SD w0 base g cap l wr) ∧ Hid (∀ c x y, lo ≤ c → c < s → l[n1 - c]? = some x → l[c]? = some y → ¬ cmpD x y < 0) ∧ Hid (∀ c x y, r ≤ c → c < hi → l[n1 - c]? = some x → l[c]? = some y → cmpD x y < 0))
    case atStart => exact ⟨lo, hi, rfl, by rw [HHID.out], by omega, by omega, by omega, by omega, HD, Lib.hid (fun c x y h1 h2 => by omega), Lib.hid (fun c x y h1 h2 => by omega)⟩
    case round =>
      obtain ⟨s, r, rfl, rfl, hlo, hsr, hhi, hg, HS, HLO, HHI⟩ := hrel
      clear HD
      revert HS
      revert wr
      intro wo HS
      by_cases hlt : s < r
      · have hltz : (s : Int) < (r : Int) := by omega
        obtain ⟨c, hc0⟩ : ∃ k, k = (s + r) / 2 := ⟨_, rfl⟩
        obtain ⟨pc, hpc⟩ : ∃ k, k = n1 - c := ⟨_, rfl⟩
        have hcz : ((s : Int) + (r : Int)) / 2 = (c : Int) := by omega
        have hn1v : n1 = n - 1 := HN1.out
        have hnv : n = mid + m := HN.out
        have hpz : IntKind.i64.wrap ((n1 : Int) - (c : Int)) = (pc : Int) := by rw [IntKind.wrap_i64]; omega
        have hcw : IntKind.i64.wrap ((c : Int) + 1) = (c : Int) + 1 := by rw [IntKind.wrap_i64]; omega
        have hc1 : s ≤ c := by omega
        have hc2 : c < r := by omega
        have hpl : pc < L := by omega
        have hcl : c < L := by omega
        obtain ⟨x, hx⟩ : ∃ x, l[pc]? = some x := ⟨_, List.getElem?_eq_getElem (by have := HL.out; omega)⟩
        obtain ⟨y, hy⟩ : ∃ x, l[c]? = some x := ⟨_, List.getElem?_eq_getElem (by have := HL.out; omega)⟩
        obtain ⟨u0, u1, u2⟩ := HS.out.cells hx
        obtain ⟨v0, v1, v2⟩ := HS.out.cells hy
        have k0 : (0 : Int) ≤ (c : Int) := by omega
        have k1 : (c : Int) < (L : Int) := by omega
        have p0 : (0 : Int) ≤ (pc : Int) := by omega
        have p1 : (pc : Int) < (L : Int) := by omega
        have HU := Lib.hid hx
        have HV := Lib.hid hy
        have HPC := Lib.hid hpc
        have HCMP : Hid (∀ W', w0.grownBy W' (some g) → Calls Try.prog 19 #[.agg #[.int .i64 x.time, .slice x.ra x.rn x.rc, .int .i64 x.n], .agg #[.int .i64 y.time, .slice y.ra y.rn y.rc, .int .i64 y.n]] W' (CmpPost W' (cmpD x y))) := Lib.hid (fun W' hg' => cmpD_any x y W' ((HROW.out x (List.mem_of_getElem? hx)).ok hg') ((HROW.out y (List.mem_of_getElem? hy)).ok hg'))
        clear hx hy hc0 hpc hn1v hnv
        go_wp2_with fail
        clear hcz
        by_cases hc : cmpD x y < 0
        · have hcb : decide (cmpD x y < 0) = true := decide_eq_true hc
          have HHI2 : Hid (∀ c' x' y', c ≤ c' → c' < hi → l[n1 - c']? = some x' → l[c']? = some y' → cmpD x' y' < 0) := Lib.hid (fun c' x' y' h1 h2 hx' hy' => by
            have hn1v := HN1.out
            rw [hn1v] at hx'
            exact search_hi ordr_D HS1.out HS2.out hd1 hd2 hd3 hd4 (by omega) h1 h2 (by rw [← hn1v, ← HPC.out]; exact HU.out) HV.out hx' hy' hc)
          clear hc
          refine wp_region_noPanic ?_
          refine wp_region_held_drew (S := fun w' => w'.cell? ⟨g, pc * 3, none⟩ = some (.int .i64 x.time) ∧ w'.cell? ⟨g, pc * 3 + 1, none⟩ = some (.slice x.ra x.rn x.rc) ∧ w'.cell? ⟨g, pc * 3 + 2, none⟩ = some (.int .i64 x.n) ∧ w'.cell? ⟨g, c * 3, none⟩ = some (.int .i64 y.time) ∧ w'.cell? ⟨g, c * 3 + 1, none⟩ = some (.slice y.ra y.rn y.rc) ∧ w'.cell? ⟨g, c * 3 + 2, none⟩ = some (.int .i64 y.n)) (by kernel_rfl) ?_ (fun hHeld => ?_)
          · first | exact ⟨by assumption, by assumption⟩ | go_keep
          refine take_yes (i := 0) (some 158) (v := ?va0) (by simp only [List.getElem?_toArray, List.getElem?_cons_zero]; exact rfl) rfl (by kernel_rfl) (by kernel_rfl) (by kernel_rfl) (fun _ _ _ h => h) (by rfl) ?hya0 (by assumption) ?resta0
          case hya0 => (intro w hSw; (try dsimp only at hSw); go_simp; try with_reducible rfl)
          try simp only [Act.put, List.setIfInBounds_toArray, List.set_cons_zero, List.set_cons_succ]
          refine take_yes (i := 1) (some 159) (v := ?va1) (by simp only [List.getElem?_toArray, List.getElem?_cons_succ, List.getElem?_cons_zero]; exact rfl) rfl (by kernel_rfl) (by kernel_rfl) (by kernel_rfl) (fun _ _ _ h => h) (by rfl) ?hya1 (by assumption) ?resta1
          case hya1 => (intro w hSw; (try dsimp only at hSw); go_simp; try with_reducible rfl)
          try simp only [Act.put, List.setIfInBounds_toArray, List.set_cons_zero, List.set_cons_succ]
          refine take_yes (i := 2) (some 160) (v := ?va2) (by simp only [List.getElem?_toArray, List.getElem?_cons_succ, List.getElem?_cons_zero]; exact rfl) rfl (by kernel_rfl) (by kernel_rfl) (by kernel_rfl) (fun _ _ _ h => h) (by rfl) ?hya2 (by assumption) ?resta2
          case hya2 => (intro w hSw; (try dsimp only at hSw); go_simp; try with_reducible rfl)
          try simp only [Act.put, List.setIfInBounds_toArray, List.set_cons_zero, List.set_cons_succ]
          refine take_yes (i := 3) (some 161) (v := ?va3) (by simp only [List.getElem?_toArray, List.getElem?_cons_succ, List.getElem?_cons_zero]; exact rfl) rfl (by kernel_rfl) (by kernel_rfl) (by kernel_rfl) (fun _ _ _ h => h) (by rfl) ?hya3 (by assumption) ?resta3
          case hya3 => (intro w hSw; (try dsimp only at hSw); go_simp; try with_reducible rfl)
          try simp only [Act.put, List.setIfInBounds_toArray, List.set_cons_zero, List.set_cons_succ]
          refine take_yes (i := 4) (some 162) (v := ?va4) (by simp only [List.getElem?_toArray, List.getElem?_cons_succ, List.getElem?_cons_zero]; exact rfl) rfl (by kernel_rfl) (by kernel_rfl) (by kernel_rfl) (fun _ _ _ h => h) (by rfl) ?hya4 (by assumption) ?resta4
          case hya4 => (intro w hSw; (try dsimp only at hSw); go_simp; try with_reducible rfl)
          try simp only [Act.put, List.setIfInBounds_toArray, List.set_cons_zero, List.set_cons_succ]
          refine take_yes (i := 5) (some 163) (v := ?va5) (by simp only [List.getElem?_toArray, List.getElem?_cons_succ, List.getElem?_cons_zero]; exact rfl) rfl (by kernel_rfl) (by kernel_rfl) (by kernel_rfl) (fun _ _ _ h => h) (by rfl) ?hya5 (by assumption) ?resta5
          case hya5 => (intro w hSw; (try dsimp only at hSw); go_simp; try with_reducible rfl)
          try simp only [Act.put, List.setIfInBounds_toArray, List.set_cons_zero, List.set_cons_succ]
          refine take_yes (i := 6) (some 164) (v := ?va6) (by simp only [List.getElem?_toArray, List.getElem?_cons_succ, List.getElem?_cons_zero]; exact rfl) rfl (by kernel_rfl) (by kernel_rfl) (by kernel_rfl) (fun _ _ _ h => h) (by rfl) ?hya6 (by assumption) ?resta6
          case hya6 => (intro w hSw; (try dsimp only at hSw); go_simp; try with_reducible rfl)
          try simp only [Act.put, List.setIfInBounds_toArray, List.set_cons_zero, List.set_cons_succ]
          refine take_yes (i := 7) (some 165) (v := ?va7) (by simp only [List.getElem?_toArray, List.getElem?_cons_succ, List.getElem?_cons_zero]; exact rfl) rfl (by kernel_rfl) (by kernel_rfl) (by kernel_rfl) (fun _ _ _ h => h) (by rfl) ?hya7 (by assumption) ?resta7
          case hya7 => (intro w hSw; (try dsimp only at hSw); go_simp; try with_reducible rfl)
          try simp only [Act.put, List.setIfInBounds_toArray, List.set_cons_zero, List.set_cons_succ]
          refine take_yes (i := 8) (some 166) (v := ?va8) (by simp only [List.getElem?_toArray, List.getElem?_cons_succ, List.getElem?_cons_zero]; exact rfl) rfl (by kernel_rfl) (by kernel_rfl) (by kernel_rfl) (fun _ _ _ h => h) (by rfl) ?hya8 (by assumption) ?resta8
          case hya8 => (intro w hSw; (try dsimp only at hSw); go_simp; try with_reducible rfl)
          try simp only [Act.put, List.setIfInBounds_toArray, List.set_cons_zero, List.set_cons_succ]
          refine take_yes (i := 9) (some 167) (v := ?va9) (by simp only [List.getElem?_toArray, List.getElem?_cons_succ, List.getElem?_cons_zero]; exact rfl) rfl (by kernel_rfl) (by kernel_rfl) (by kernel_rfl) (fun _ _ _ h => h) (by rfl) ?hya9 (by assumption) ?resta9
          case hya9 => (intro w hSw; (try dsimp only at hSw); go_simp; try with_reducible rfl)
          try simp only [Act.put, List.setIfInBounds_toArray, List.set_cons_zero, List.set_cons_succ]
          refine take_yes (i := 10) (some 168) (v := ?va10) (by simp only [List.getElem?_toArray, List.getElem?_cons_succ, List.getElem?_cons_zero]; exact rfl) rfl (by kernel_rfl) (by kernel_rfl) (by kernel_rfl) (fun _ _ _ h => h) (by rfl) ?hya10 (by assumption) ?resta10
          case hya10 => (intro w hSw; (try dsimp only at hSw); go_simp; try with_reducible rfl)
          try simp only [Act.put, List.setIfInBounds_toArray, List.set_cons_zero, List.set_cons_succ]
          refine wpAnyH_ready (rs := [11]) (by kernel_rfl) (by simp) ?_
          refine AllReadyH.cons rfl (fun K hK => ?_) AllReadyH.nil
          try go_simp
          go_wp2_with (refine (HCMP.out _ HS.out.drew.gr).mono ?_; rintro e w3 ⟨rfl, hb3⟩; have HS3 := Lib.hid (HS.out.drew.below hb3); obtain ⟨x0, x1, x2⟩ := HS3.out.cells HU.out; obtain ⟨y0, y1, y2⟩ := HS3.out.cells HV.out; clear hb3)
          refine hK.out _ _ ?_ (fun hHeld => ?_)
          · go_keep
          clear hK K
          try simp only [Act.put, List.setIfInBounds_toArray, List.set_cons_zero, List.set_cons_succ]
          refine take_yes (i := 12) (some 170) (v := ?va12) (by simp only [List.getElem?_toArray, List.getElem?_cons_succ, List.getElem?_cons_zero]; exact rfl) rfl (by kernel_rfl) (by kernel_rfl) (by kernel_rfl) (fun _ _ _ h => h) (by rfl) ?hya12 (by assumption) ?resta12
          case hya12 => (intro w hSw; (try dsimp only at hSw); go_simp; try with_reducible rfl)
          try simp only [Act.put, List.setIfInBounds_toArray, List.set_cons_zero, List.set_cons_succ]
          refine take_yes (i := 13) (some 171) (v := ?va13) (by simp only [List.getElem?_toArray, List.getElem?_cons_succ, List.getElem?_cons_zero]; exact rfl) rfl (by kernel_rfl) (by kernel_rfl) (by kernel_rfl) (fun _ _ _ h => h) (by rfl) ?hya13 (by assumption) ?resta13
          case hya13 => (intro w hSw; (try dsimp only at hSw); go_simp; try with_reducible rfl)
          try simp only [Act.put, List.setIfInBounds_toArray, List.set_cons_zero, List.set_cons_succ]
          refine wpAnyH_done (by kernel_rfl) ?_ _
          refine NoPanic.normal ?_
          clear hHeld u0 u1 u2 v0 v1 v2 x0 x1 x2 y0 y1 y2 hcb HCMP hpz
          go_wp2
          go_roundg (c - s)
          case measure => omega
          case rel => exact ⟨s, c, rfl, rfl, hlo, hc1, by omega, by omega, HS3, HLO, HHI2⟩
        · have hcb : decide (cmpD x y < 0) = false := decide_eq_false hc
          have HLO2 : Hid (∀ c' x' y', lo ≤ c' → c' < c + 1 → l[n1 - c']? = some x' → l[c']? = some y' → ¬ cmpD x' y' < 0) := Lib.hid (fun c' x' y' h1 h2 hx' hy' => by
            have hn1v := HN1.out
            rw [hn1v] at hx'
            exact search_lo ordr_D HS1.out HS2.out hd1 hd2 hd3 hd4 h1 (by omega) (by omega) (by rw [← hn1v, ← HPC.out]; exact HU.out) HV.out hx' hy' hc)
          clear hc
          refine wp_region_noPanic ?_
          refine wp_region_held_drew (S := fun w' => w'.cell? ⟨g, pc * 3, none⟩ = some (.int .i64 x.time) ∧ w'.cell? ⟨g, pc * 3 + 1, none⟩ = some (.slice x.ra x.rn x.rc) ∧ w'.cell? ⟨g, pc * 3 + 2, none⟩ = some (.int .i64 x.n) ∧ w'.cell? ⟨g, c * 3, none⟩ = some (.int .i64 y.time) ∧ w'.cell? ⟨g, c * 3 + 1, none⟩ = some (.slice y.ra y.rn y.rc) ∧ w'.cell? ⟨g, c * 3 + 2, none⟩ = some (.int .i64 y.n)) (by kernel_rfl) ?_ (fun hHeld => ?_)
          · first | exact ⟨by assumption, by assumption⟩ | go_keep
          refine take_yes (i := 0) (some 158) (v := ?vb0) (by simp only [List.getElem?_toArray, List.getElem?_cons_zero]; exact rfl) rfl (by kernel_rfl) (by kernel_rfl) (by kernel_rfl) (fun _ _ _ h => h) (by rfl) ?hyb0 (by assumption) ?restb0
          case hyb0 => (intro w hSw; (try dsimp only at hSw); go_simp; try with_reducible rfl)
          try simp only [Act.put, List.setIfInBounds_toArray, List.set_cons_zero, List.set_cons_succ]
          refine take_yes (i := 1) (some 159) (v := ?vb1) (by simp only [List.getElem?_toArray, List.getElem?_cons_succ, List.getElem?_cons_zero]; exact rfl) rfl (by kernel_rfl) (by kernel_rfl) (by kernel_rfl) (fun _ _ _ h => h) (by rfl) ?hyb1 (by assumption) ?restb1
          case hyb1 => (intro w hSw; (try dsimp only at hSw); go_simp; try with_reducible rfl)
          try simp only [Act.put, List.setIfInBounds_toArray, List.set_cons_zero, List.set_cons_succ]
          refine take_yes (i := 2) (some 160) (v := ?vb2) (by simp only [List.getElem?_toArray, List.getElem?_cons_succ, List.getElem?_cons_zero]; exact rfl) rfl (by kernel_rfl) (by kernel_rfl) (by kernel_rfl) (fun _ _ _ h => h) (by rfl) ?hyb2 (by assumption) ?restb2
          case hyb2 => (intro w hSw; (try dsimp only at hSw); go_simp; try with_reducible rfl)
          try simp only [Act.put, List.setIfInBounds_toArray, List.set_cons_zero, List.set_cons_succ]
          refine take_yes (i := 3) (some 161) (v := ?vb3) (by simp only [List.getElem?_toArray, List.getElem?_cons_succ, List.getElem?_cons_zero]; exact rfl) rfl (by kernel_rfl) (by kernel_rfl) (by kernel_rfl) (fun _ _ _ h => h) (by rfl) ?hyb3 (by assumption) ?restb3
          case hyb3 => (intro w hSw; (try dsimp only at hSw); go_simp; try with_reducible rfl)
          try simp only [Act.put, List.setIfInBounds_toArray, List.set_cons_zero, List.set_cons_succ]
          refine take_yes (i := 4) (some 162) (v := ?vb4) (by simp only [List.getElem?_toArray, List.getElem?_cons_succ, List.getElem?_cons_zero]; exact rfl) rfl (by kernel_rfl) (by kernel_rfl) (by kernel_rfl) (fun _ _ _ h => h) (by rfl) ?hyb4 (by assumption) ?restb4
          case hyb4 => (intro w hSw; (try dsimp only at hSw); go_simp; try with_reducible rfl)
          try simp only [Act.put, List.setIfInBounds_toArray, List.set_cons_zero, List.set_cons_succ]
          refine take_yes (i := 5) (some 163) (v := ?vb5) (by simp only [List.getElem?_toArray, List.getElem?_cons_succ, List.getElem?_cons_zero]; exact rfl) rfl (by kernel_rfl) (by kernel_rfl) (by kernel_rfl) (fun _ _ _ h => h) (by rfl) ?hyb5 (by assumption) ?restb5
          case hyb5 => (intro w hSw; (try dsimp only at hSw); go_simp; try with_reducible rfl)
          try simp only [Act.put, List.setIfInBounds_toArray, List.set_cons_zero, List.set_cons_succ]
          refine take_yes (i := 6) (some 164) (v := ?vb6) (by simp only [List.getElem?_toArray, List.getElem?_cons_succ, List.getElem?_cons_zero]; exact rfl) rfl (by kernel_rfl) (by kernel_rfl) (by kernel_rfl) (fun _ _ _ h => h) (by rfl) ?hyb6 (by assumption) ?restb6
          case hyb6 => (intro w hSw; (try dsimp only at hSw); go_simp; try with_reducible rfl)
          try simp only [Act.put, List.setIfInBounds_toArray, List.set_cons_zero, List.set_cons_succ]
          refine take_yes (i := 7) (some 165) (v := ?vb7) (by simp only [List.getElem?_toArray, List.getElem?_cons_succ, List.getElem?_cons_zero]; exact rfl) rfl (by kernel_rfl) (by kernel_rfl) (by kernel_rfl) (fun _ _ _ h => h) (by rfl) ?hyb7 (by assumption) ?restb7
          case hyb7 => (intro w hSw; (try dsimp only at hSw); go_simp; try with_reducible rfl)
          try simp only [Act.put, List.setIfInBounds_toArray, List.set_cons_zero, List.set_cons_succ]
          refine take_yes (i := 8) (some 166) (v := ?vb8) (by simp only [List.getElem?_toArray, List.getElem?_cons_succ, List.getElem?_cons_zero]; exact rfl) rfl (by kernel_rfl) (by kernel_rfl) (by kernel_rfl) (fun _ _ _ h => h) (by rfl) ?hyb8 (by assumption) ?restb8
          case hyb8 => (intro w hSw; (try dsimp only at hSw); go_simp; try with_reducible rfl)
          try simp only [Act.put, List.setIfInBounds_toArray, List.set_cons_zero, List.set_cons_succ]
          refine take_yes (i := 9) (some 167) (v := ?vb9) (by simp only [List.getElem?_toArray, List.getElem?_cons_succ, List.getElem?_cons_zero]; exact rfl) rfl (by kernel_rfl) (by kernel_rfl) (by kernel_rfl) (fun _ _ _ h => h) (by rfl) ?hyb9 (by assumption) ?restb9
          case hyb9 => (intro w hSw; (try dsimp only at hSw); go_simp; try with_reducible rfl)
          try simp only [Act.put, List.setIfInBounds_toArray, List.set_cons_zero, List.set_cons_succ]
          refine take_yes (i := 10) (some 168) (v := ?vb10) (by simp only [List.getElem?_toArray, List.getElem?_cons_succ, List.getElem?_cons_zero]; exact rfl) rfl (by kernel_rfl) (by kernel_rfl) (by kernel_rfl) (fun _ _ _ h => h) (by rfl) ?hyb10 (by assumption) ?restb10
          case hyb10 => (intro w hSw; (try dsimp only at hSw); go_simp; try with_reducible rfl)
          try simp only [Act.put, List.setIfInBounds_toArray, List.set_cons_zero, List.set_cons_succ]
          refine wpAnyH_ready (rs := [11]) (by kernel_rfl) (by simp) ?_
          refine AllReadyH.cons rfl (fun K hK => ?_) AllReadyH.nil
          try go_simp
          go_wp2_with (refine (HCMP.out _ HS.out.drew.gr).mono ?_; rintro e w3 ⟨rfl, hb3⟩; have HS3 := Lib.hid (HS.out.drew.below hb3); obtain ⟨x0, x1, x2⟩ := HS3.out.cells HU.out; obtain ⟨y0, y1, y2⟩ := HS3.out.cells HV.out; clear hb3)
          refine hK.out _ _ ?_ (fun hHeld => ?_)
          · go_keep
          clear hK K
          try simp only [Act.put, List.setIfInBounds_toArray, List.set_cons_zero, List.set_cons_succ]
          refine take_yes (i := 12) (some 170) (v := ?vb12) (by simp only [List.getElem?_toArray, List.getElem?_cons_succ, List.getElem?_cons_zero]; exact rfl) rfl (by kernel_rfl) (by kernel_rfl) (by kernel_rfl) (fun _ _ _ h => h) (by rfl) ?hyb12 (by assumption) ?restb12
          case hyb12 => (intro w hSw; (try dsimp only at hSw); go_simp; try with_reducible rfl)
          try simp only [Act.put, List.setIfInBounds_toArray, List.set_cons_zero, List.set_cons_succ]
          refine take_yes (i := 13) (some 171) (v := ?vb13) (by simp only [List.getElem?_toArray, List.getElem?_cons_succ, List.getElem?_cons_zero]; exact rfl) rfl (by kernel_rfl) (by kernel_rfl) (by kernel_rfl) (fun _ _ _ h => h) (by rfl) ?hyb13 (by assumption) ?restb13
          case hyb13 => (intro w hSw; (try dsimp only at hSw); go_simp; try with_reducible rfl)
          try simp only [Act.put, List.setIfInBounds_toArray, List.set_cons_zero, List.set_cons_succ]
          refine wpAnyH_done (by kernel_rfl) ?_ _
          refine NoPanic.normal ?_
          clear hHeld u0 u1 u2 v0 v1 v2 x0 x1 x2 y0 y1 y2 hcb HCMP hpz
          go_wp2
          go_roundg (r - (c + 1))
          case measure => omega
          case rel => exact ⟨c + 1, r, by go_num, rfl, by omega, by omega, hhi, by omega, HS3, HLO2, HHI⟩
      · have hltz : ¬ (s : Int) < (r : Int) := by omega
        obtain rfl : s = r := by omega
        clear hlt
        obtain ⟨en, hen⟩ : ∃ k, k = n - s := ⟨_, rfl⟩
        have hnv : n = mid + m := HN.out
        have henz : (n : Int) - (s : Int) = (en : Int) := by omega
        have HEN := Lib.hid hen
        have hsm : s ≤ m := by omega
        have hme : m ≤ en := by omega
        have heb : en ≤ b := by omega
        have has : a ≤ s := by omega
        have hmid3 : (a + b) / 2 = mid := HMID.out.symm
        have HLO : Hid (∀ c x y, lo ≤ c → c < s → l[n1 - c]? = some x → l[c]? = some y → ¬ cmpD x y < 0) := Lib.hid (fun c x y h1 h2 h3 h4 => by have := HLO.out c x y h1 h2 h3 h4; omega)
        clear hen hnv hg hmid3
        by_cases p0 : s < m
        · by_cases r0 : m < en
          · skip
            have b0 : decide (s < m) = true := decide_eq_true (by omega)
            have b0z : (s : Int) < (m : Int) := by omega
            have c0 : decide (m < en) = true := decide_eq_true (by omega)
            have c0z : (m : Int) < (en : Int) := by omega
            by_cases p1 : a < s
            · by_cases r1 : s < mid
              · skip
                have b1 : decide (a < s) = true := decide_eq_true (by omega)
                have b1z : (a : Int) < (s : Int) := by omega
                have c1 : decide (s < mid) = true := decide_eq_true (by omega)
                have c1z : (s : Int) < (mid : Int) := by omega
                by_cases p2 : mid < en
                · by_cases r2 : en < b
                  · skip
                    have b2 : decide (mid < en) = true := decide_eq_true (by omega)
                    have b2z : (mid : Int) < (en : Int) := by omega
                    have c2 : decide (en < b) = true := decide_eq_true (by omega)
                    have c2z : (en : Int) < (b : Int) := by omega
                    go_wp2_with fail
                    refine (rotate_at w0 base g cap l L s m en _ _ _ _ _ HS.out HL.out rfl rfl rfl hl (by omega) (by omega) (by omega)).mono ?_
                    rintro e w3 ⟨l1, rfl, hs3, hro, hw3⟩
                    have HSA := Lib.hid hs3
                    have HRO := Lib.hid hro
                    have HWA := Lib.hid (hw3.mono (show a ≤ s by omega) (show en ≤ b by omega))
                    clear hs3 hro hw3
                    have HLA : Hid (l1.length = L) := Lib.hid (HWA.out.len.trans HL.out)
                    have HHV : Hid (Halves l1 a s mid en b) := Lib.hid (by
                      have hh := sym_halves (mid := mid) (n := n) (s := s) (lo := lo) (hi := hi) ordr_D HS1.out HS2.out (by omega) (by omega) (by have := HL.out; omega) HMID.out HN.out HCASE.out hlo hhi (fun c x y h1 h2 h3 h4 => by have := HLO.out c x y h1 h2 (by rw [HN1.out]; exact h3) h4; omega) (fun c x y h1 h2 h3 h4 => HHI.out c x y h1 h2 (by rw [HN1.out]; exact h3) h4) (by rw [← HEN.out]; exact HRO.out)
                      rw [← HEN.out] at hh
                      exact ⟨hh.1, hh.2.1, hh.2.2.1, hh.2.2.2.1, hh.2.2.2.2⟩)
                    go_wp2_with fail
                    refine (HIH.out w0 base g cap l1 L a s mid _ _ _ _ HSA.out (HWA.out.all HROW.out) HLA.out rfl rfl rfl hl (by omega) (by omega) (by omega) (by omega) HHV.out.s1 HHV.out.s2).mono ?_
                    rintro e w4 ⟨l2, rfl, hs4, ho4, hw4⟩
                    have HSB := Lib.hid hs4
                    have HOB := Lib.hid ho4
                    have HWB := Lib.hid hw4
                    clear hs4 ho4 hw4
                    have HLB : Hid (l2.length = L) := Lib.hid (HWB.out.len.trans HLA.out)
                    go_wp2_with fail
                    refine (HIH.out w0 base g cap l2 L mid en b _ _ _ _ HSB.out (HWB.out.all (HWA.out.all HROW.out)) HLB.out rfl rfl rfl hl (by omega) (by omega) (by omega) (by omega) (HHV.out.s3.congr (fun k h1 h2 => HWB.out.out (by have := HLA.out; omega) (.inr h1))) (HHV.out.s4.congr (fun k h1 h2 => HWB.out.out (by have := HLA.out; omega) (.inr (by omega))))).mono ?_
                    rintro e w5 ⟨l3, rfl, hs5, ho5, hw5⟩
                    have HF : Hid (SwapPost w0 base g cap l (fun l' => SortedOn cmpD l' a b ∧ SwapsOn a b l l') (.returned (.tuple #[])) w5) := Lib.hid ⟨l3, rfl, hs5, join_sorted HWB.out hw5 (by have := HLA.out; omega) (by omega) HOB.out ho5 HHV.out.x, HWA.out.trans ((HWB.out.mono (Nat.le_refl _) (by omega)).trans (hw5.mono (by omega) (Nat.le_refl _)))⟩
                    clear hs5 ho5 hw5
                    go_wp2
                    go_end0
                    exact HF.out
                  · skip
                    have b2 : decide (mid < en) = true := decide_eq_true (by omega)
                    have b2z : (mid : Int) < (en : Int) := by omega
                    have c2 : decide (en < b) = false := decide_eq_false (by omega)
                    have c2z : ¬ (en : Int) < (b : Int) := by omega
                    go_wp2_with fail
                    refine (rotate_at w0 base g cap l L s m en _ _ _ _ _ HS.out HL.out rfl rfl rfl hl (by omega) (by omega) (by omega)).mono ?_
                    rintro e w3 ⟨l1, rfl, hs3, hro, hw3⟩
                    have HSA := Lib.hid hs3
                    have HRO := Lib.hid hro
                    have HWA := Lib.hid (hw3.mono (show a ≤ s by omega) (show en ≤ b by omega))
                    clear hs3 hro hw3
                    have HLA : Hid (l1.length = L) := Lib.hid (HWA.out.len.trans HL.out)
                    have HHV : Hid (Halves l1 a s mid en b) := Lib.hid (by
                      have hh := sym_halves (mid := mid) (n := n) (s := s) (lo := lo) (hi := hi) ordr_D HS1.out HS2.out (by omega) (by omega) (by have := HL.out; omega) HMID.out HN.out HCASE.out hlo hhi (fun c x y h1 h2 h3 h4 => by have := HLO.out c x y h1 h2 (by rw [HN1.out]; exact h3) h4; omega) (fun c x y h1 h2 h3 h4 => HHI.out c x y h1 h2 (by rw [HN1.out]; exact h3) h4) (by rw [← HEN.out]; exact HRO.out)
                      rw [← HEN.out] at hh
                      exact ⟨hh.1, hh.2.1, hh.2.2.1, hh.2.2.2.1, hh.2.2.2.2⟩)
                    go_wp2_with fail
                    refine (HIH.out w0 base g cap l1 L a s mid _ _ _ _ HSA.out (HWA.out.all HROW.out) HLA.out rfl rfl rfl hl (by omega) (by omega) (by omega) (by omega) HHV.out.s1 HHV.out.s2).mono ?_
                    rintro e w4 ⟨l2, rfl, hs4, ho4, hw4⟩
                    have HSB := Lib.hid hs4
                    have HOB := Lib.hid ho4
                    have HWB := Lib.hid hw4
                    clear hs4 ho4 hw4
                    have HLB : Hid (l2.length = L) := Lib.hid (HWB.out.len.trans HLA.out)
                    have HF : Hid (SwapPost w0 base g cap l (fun l' => SortedOn cmpD l' a b ∧ SwapsOn a b l l') (.returned (.tuple #[])) w4) := Lib.hid (by
                      have ho5 : SortedOn cmpD l2 mid b := by
                        by_cases q : en ≤ mid
                        · exact (HHV.out.s4.sub q (Nat.le_refl _)).congr (fun k h1 h2 => HWB.out.out (by have := HLA.out; omega) (.inr h1))
                        · exact (HHV.out.s3.sub (Nat.le_refl _) (by omega)).congr (fun k h1 h2 => HWB.out.out (by have := HLA.out; omega) (.inr h1))
                      exact ⟨l2, rfl, HSB.out, join_sorted HWB.out (.refl l2) (by have := HLA.out; omega) (by omega) HOB.out ho5 HHV.out.x, HWA.out.trans (HWB.out.mono (Nat.le_refl _) (by omega))⟩)
                    go_wp2
                    go_end0
                    exact HF.out
                · skip
                  have b2 : decide (mid < en) = false := decide_eq_false (by omega)
                  have b2z : ¬ (mid : Int) < (en : Int) := by omega
                  go_wp2_with fail
                  refine (rotate_at w0 base g cap l L s m en _ _ _ _ _ HS.out HL.out rfl rfl rfl hl (by omega) (by omega) (by omega)).mono ?_
                  rintro e w3 ⟨l1, rfl, hs3, hro, hw3⟩
                  have HSA := Lib.hid hs3
                  have HRO := Lib.hid hro
                  have HWA := Lib.hid (hw3.mono (show a ≤ s by omega) (show en ≤ b by omega))
                  clear hs3 hro hw3
                  have HLA : Hid (l1.length = L) := Lib.hid (HWA.out.len.trans HL.out)
                  have HHV : Hid (Halves l1 a s mid en b) := Lib.hid (by
                    have hh := sym_halves (mid := mid) (n := n) (s := s) (lo := lo) (hi := hi) ordr_D HS1.out HS2.out (by omega) (by omega) (by have := HL.out; omega) HMID.out HN.out HCASE.out hlo hhi (fun c x y h1 h2 h3 h4 => by have := HLO.out c x y h1 h2 (by rw [HN1.out]; exact h3) h4; omega) (fun c x y h1 h2 h3 h4 => HHI.out c x y h1 h2 (by rw [HN1.out]; exact h3) h4) (by rw [← HEN.out]; exact HRO.out)
                    rw [← HEN.out] at hh
                    exact ⟨hh.1, hh.2.1, hh.2.2.1, hh.2.2.2.1, hh.2.2.2.2⟩)
                  go_wp2_with fail
                  refine (HIH.out w0 base g cap l1 L a s mid _ _ _ _ HSA.out (HWA.out.all HROW.out) HLA.out rfl rfl rfl hl (by omega) (by omega) (by omega) (by omega) HHV.out.s1 HHV.out.s2).mono ?_
                  rintro e w4 ⟨l2, rfl, hs4, ho4, hw4⟩
                  have HSB := Lib.hid hs4
                  have HOB := Lib.hid ho4
                  have HWB := Lib.hid hw4
                  clear hs4 ho4 hw4
                  have HLB : Hid (l2.length = L) := Lib.hid (HWB.out.len.trans HLA.out)
                  have HF : Hid (SwapPost w0 base g cap l (fun l' => SortedOn cmpD l' a b ∧ SwapsOn a b l l') (.returned (.tuple #[])) w4) := Lib.hid (by
                    have ho5 : SortedOn cmpD l2 mid b := by
                      by_cases q : en ≤ mid
                      · exact (HHV.out.s4.sub q (Nat.le_refl _)).congr (fun k h1 h2 => HWB.out.out (by have := HLA.out; omega) (.inr h1))
                      · exact (HHV.out.s3.sub (Nat.le_refl _) (by omega)).congr (fun k h1 h2 => HWB.out.out (by have := HLA.out; omega) (.inr h1))
                    exact ⟨l2, rfl, HSB.out, join_sorted HWB.out (.refl l2) (by have := HLA.out; omega) (by omega) HOB.out ho5 HHV.out.x, HWA.out.trans (HWB.out.mono (Nat.le_refl _) (by omega))⟩)
                  go_wp2
                  go_end0
                  exact HF.out
              · skip
                have b1 : decide (a < s) = true := decide_eq_true (by omega)
                have b1z : (a : Int) < (s : Int) := by omega
                have c1 : decide (s < mid) = false := decide_eq_false (by omega)
                have c1z : ¬ (s : Int) < (mid : Int) := by omega
                by_cases p2 : mid < en
                · by_cases r2 : en < b
                  · skip
                    have b2 : decide (mid < en) = true := decide_eq_true (by omega)
                    have b2z : (mid : Int) < (en : Int) := by omega
                    have c2 : decide (en < b) = true := decide_eq_true (by omega)
                    have c2z : (en : Int) < (b : Int) := by omega
                    go_wp2_with fail
                    refine (rotate_at w0 base g cap l L s m en _ _ _ _ _ HS.out HL.out rfl rfl rfl hl (by omega) (by omega) (by omega)).mono ?_
                    rintro e w3 ⟨l1, rfl, hs3, hro, hw3⟩
                    have HSA := Lib.hid hs3
                    have HRO := Lib.hid hro
                    have HWA := Lib.hid (hw3.mono (show a ≤ s by omega) (show en ≤ b by omega))
                    clear hs3 hro hw3
                    have HLA : Hid (l1.length = L) := Lib.hid (HWA.out.len.trans HL.out)
                    have HHV : Hid (Halves l1 a s mid en b) := Lib.hid (by
                      have hh := sym_halves (mid := mid) (n := n) (s := s) (lo := lo) (hi := hi) ordr_D HS1.out HS2.out (by omega) (by omega) (by have := HL.out; omega) HMID.out HN.out HCASE.out hlo hhi (fun c x y h1 h2 h3 h4 => by have := HLO.out c x y h1 h2 (by rw [HN1.out]; exact h3) h4; omega) (fun c x y h1 h2 h3 h4 => HHI.out c x y h1 h2 (by rw [HN1.out]; exact h3) h4) (by rw [← HEN.out]; exact HRO.out)
                      rw [← HEN.out] at hh
                      exact ⟨hh.1, hh.2.1, hh.2.2.1, hh.2.2.2.1, hh.2.2.2.2⟩)
                    have HSB := HSA
                    have HWB : Hid (SwapsOn a mid l1 l1) := Lib.hid (.refl l1)
                    have HOB : Hid (SortedOn cmpD l1 a mid) := Lib.hid (by
                      by_cases q : s = a
                      · have := HHV.out.s2; rw [q] at this; exact this
                      · exact HHV.out.s1.sub (Nat.le_refl _) (by omega))
                    have HLB : Hid (l1.length = L) := Lib.hid (HWB.out.len.trans HLA.out)
                    go_wp2_with fail
                    refine (HIH.out w0 base g cap l1 L mid en b _ _ _ _ HSB.out (HWB.out.all (HWA.out.all HROW.out)) HLB.out rfl rfl rfl hl (by omega) (by omega) (by omega) (by omega) (HHV.out.s3.congr (fun k h1 h2 => HWB.out.out (by have := HLA.out; omega) (.inr h1))) (HHV.out.s4.congr (fun k h1 h2 => HWB.out.out (by have := HLA.out; omega) (.inr (by omega))))).mono ?_
                    rintro e w5 ⟨l3, rfl, hs5, ho5, hw5⟩
                    have HF : Hid (SwapPost w0 base g cap l (fun l' => SortedOn cmpD l' a b ∧ SwapsOn a b l l') (.returned (.tuple #[])) w5) := Lib.hid ⟨l3, rfl, hs5, join_sorted HWB.out hw5 (by have := HLA.out; omega) (by omega) HOB.out ho5 HHV.out.x, HWA.out.trans ((HWB.out.mono (Nat.le_refl _) (by omega)).trans (hw5.mono (by omega) (Nat.le_refl _)))⟩
                    clear hs5 ho5 hw5
                    go_wp2
                    go_end0
                    exact HF.out
                  · skip
                    have b2 : decide (mid < en) = true := decide_eq_true (by omega)
                    have b2z : (mid : Int) < (en : Int) := by omega
                    have c2 : decide (en < b) = false := decide_eq_false (by omega)
                    have c2z : ¬ (en : Int) < (b : Int) := by omega
                    go_wp2_with fail
                    refine (rotate_at w0 base g cap l L s m en _ _ _ _ _ HS.out HL.out rfl rfl rfl hl (by omega) (by omega) (by omega)).mono ?_
                    rintro e w3 ⟨l1, rfl, hs3, hro, hw3⟩
                    have HSA := Lib.hid hs3
                    have HRO := Lib.hid hro
                    have HWA := Lib.hid (hw3.mono (show a ≤ s by omega) (show en ≤ b by omega))
                    clear hs3 hro hw3
                    have HLA : Hid (l1.length = L) := Lib.hid (HWA.out.len.trans HL.out)
                    have HHV : Hid (Halves l1 a s mid en b) := Lib.hid (by
                      have hh := sym_halves (mid := mid) (n := n) (s := s) (lo := lo) (hi := hi) ordr_D HS1.out HS2.out (by omega) (by omega) (by have := HL.out; omega) HMID.out HN.out HCASE.out hlo hhi (fun c x y h1 h2 h3 h4 => by have := HLO.out c x y h1 h2 (by rw [HN1.out]; exact h3) h4; omega) (fun c x y h1 h2 h3 h4 => HHI.out c x y h1 h2 (by rw [HN1.out]; exact h3) h4) (by rw [← HEN.out]; exact HRO.out)
                      rw [← HEN.out] at hh
                      exact ⟨hh.1, hh.2.1, hh.2.2.1, hh.2.2.2.1, hh.2.2.2.2⟩)
                    have HSB := HSA
                    have HWB : Hid (SwapsOn a mid l1 l1) := Lib.hid (.refl l1)
                    have HOB : Hid (SortedOn cmpD l1 a mid) := Lib.hid (by
                      by_cases q : s = a
                      · have := HHV.out.s2; rw [q] at this; exact this
                      · exact HHV.out.s1.sub (Nat.le_refl _) (by omega))
                    have HLB : Hid (l1.length = L) := Lib.hid (HWB.out.len.trans HLA.out)
                    have HF : Hid (SwapPost w0 base g cap l (fun l' => SortedOn cmpD l' a b ∧ SwapsOn a b l l') (.returned (.tuple #[])) w3) := Lib.hid (by
                      have ho5 : SortedOn cmpD l1 mid b := by
                        by_cases q : en ≤ mid
                        · exact (HHV.out.s4.sub q (Nat.le_refl _)).congr (fun k h1 h2 => HWB.out.out (by have := HLA.out; omega) (.inr h1))
                        · exact (HHV.out.s3.sub (Nat.le_refl _) (by omega)).congr (fun k h1 h2 => HWB.out.out (by have := HLA.out; omega) (.inr h1))
                      exact ⟨l1, rfl, HSB.out, join_sorted HWB.out (.refl l1) (by have := HLA.out; omega) (by omega) HOB.out ho5 HHV.out.x, HWA.out.trans (HWB.out.mono (Nat.le_refl _) (by omega))⟩)
                    go_wp2
                    go_end0
                    exact HF.out
                · skip
                  have b2 : decide (mid < en) = false := decide_eq_false (by omega)
                  have b2z : ¬ (mid : Int) < (en : Int) := by omega
                  go_wp2_with fail
                  refine (rotate_at w0 base g cap l L s m en _ _ _ _ _ HS.out HL.out rfl rfl rfl hl (by omega) (by omega) (by omega)).mono ?_
                  rintro e w3 ⟨l1, rfl, hs3, hro, hw3⟩
                  have HSA := Lib.hid hs3
                  have HRO := Lib.hid hro
                  have HWA := Lib.hid (hw3.mono (show a ≤ s by omega) (show en ≤ b by omega))
                  clear hs3 hro hw3
                  have HLA : Hid (l1.length = L) := Lib.hid (HWA.out.len.trans HL.out)
                  have HHV : Hid (Halves l1 a s mid en b) := Lib.hid (by
                    have hh := sym_halves (mid := mid) (n := n) (s := s) (lo := lo) (hi := hi) ordr_D HS1.out HS2.out (by omega) (by omega) (by have := HL.out; omega) HMID.out HN.out HCASE.out hlo hhi (fun c x y h1 h2 h3 h4 => by have := HLO.out c x y h1 h2 (by rw [HN1.out]; exact h3) h4; omega) (fun c x y h1 h2 h3 h4 => HHI.out c x y h1 h2 (by rw [HN1.out]; exact h3) h4) (by rw [← HEN.out]; exact HRO.out)
                    rw [← HEN.out] at hh
                    exact ⟨hh.1, hh.2.1, hh.2.2.1, hh.2.2.2.1, hh.2.2.2.2⟩)
                  have HSB := HSA
                  have HWB : Hid (SwapsOn a mid l1 l1) := Lib.hid (.refl l1)
                  have HOB : Hid (SortedOn cmpD l1 a mid) := Lib.hid (by
                    by_cases q : s = a
                    · have := HHV.out.s2; rw [q] at this; exact this
                    · exact HHV.out.s1.sub (Nat.le_refl _) (by omega))
                  have HLB : Hid (l1.length = L) := Lib.hid (HWB.out.len.trans HLA.out)
                  have HF : Hid (SwapPost w0 base g cap l (fun l' => SortedOn cmpD l' a b ∧ SwapsOn a b l l') (.returned (.tuple #[])) w3) := Lib.hid (by
                    have ho5 : SortedOn cmpD l1 mid b := by
                      by_cases q : en ≤ mid
                      · exact (HHV.out.s4.sub q (Nat.le_refl _)).congr (fun k h1 h2 => HWB.out.out (by have := HLA.out; omega) (.inr h1))
                      · exact (HHV.out.s3.sub (Nat.le_refl _) (by omega)).congr (fun k h1 h2 => HWB.out.out (by have := HLA.out; omega) (.inr h1))
                    exact ⟨l1, rfl, HSB.out, join_sorted HWB.out (.refl l1) (by have := HLA.out; omega) (by omega) HOB.out ho5 HHV.out.x, HWA.out.trans (HWB.out.mono (Nat.le_refl _) (by omega))⟩)
                  go_wp2
                  go_end0
                  exact HF.out
            · skip
              have b1 : decide (a < s) = false := decide_eq_false (by omega)
              have b1z : ¬ (a : Int) < (s : Int) := by omega
              by_cases p2 : mid < en
              · by_cases r2 : en < b
                · skip
                  have b2 : decide (mid < en) = true := decide_eq_true (by omega)
                  have b2z : (mid : Int) < (en : Int) := by omega
                  have c2 : decide (en < b) = true := decide_eq_true (by omega)
                  have c2z : (en : Int) < (b : Int) := by omega
                  go_wp2_with fail
                  refine (rotate_at w0 base g cap l L s m en _ _ _ _ _ HS.out HL.out rfl rfl rfl hl (by omega) (by omega) (by omega)).mono ?_
                  rintro e w3 ⟨l1, rfl, hs3, hro, hw3⟩
                  have HSA := Lib.hid hs3
                  have HRO := Lib.hid hro
                  have HWA := Lib.hid (hw3.mono (show a ≤ s by omega) (show en ≤ b by omega))
                  clear hs3 hro hw3
                  have HLA : Hid (l1.length = L) := Lib.hid (HWA.out.len.trans HL.out)
                  have HHV : Hid (Halves l1 a s mid en b) := Lib.hid (by
                    have hh := sym_halves (mid := mid) (n := n) (s := s) (lo := lo) (hi := hi) ordr_D HS1.out HS2.out (by omega) (by omega) (by have := HL.out; omega) HMID.out HN.out HCASE.out hlo hhi (fun c x y h1 h2 h3 h4 => by have := HLO.out c x y h1 h2 (by rw [HN1.out]; exact h3) h4; omega) (fun c x y h1 h2 h3 h4 => HHI.out c x y h1 h2 (by rw [HN1.out]; exact h3) h4) (by rw [← HEN.out]; exact HRO.out)
                    rw [← HEN.out] at hh
                    exact ⟨hh.1, hh.2.1, hh.2.2.1, hh.2.2.2.1, hh.2.2.2.2⟩)
                  have HSB := HSA
                  have HWB : Hid (SwapsOn a mid l1 l1) := Lib.hid (.refl l1)
                  have HOB : Hid (SortedOn cmpD l1 a mid) := Lib.hid (by
                    by_cases q : s = a
                    · have := HHV.out.s2; rw [q] at this; exact this
                    · exact HHV.out.s1.sub (Nat.le_refl _) (by omega))
                  have HLB : Hid (l1.length = L) := Lib.hid (HWB.out.len.trans HLA.out)
                  go_wp2_with fail
                  refine (HIH.out w0 base g cap l1 L mid en b _ _ _ _ HSB.out (HWB.out.all (HWA.out.all HROW.out)) HLB.out rfl rfl rfl hl (by omega) (by omega) (by omega) (by omega) (HHV.out.s3.congr (fun k h1 h2 => HWB.out.out (by have := HLA.out; omega) (.inr h1))) (HHV.out.s4.congr (fun k h1 h2 => HWB.out.out (by have := HLA.out; omega) (.inr (by omega))))).mono ?_
                  rintro e w5 ⟨l3, rfl, hs5, ho5, hw5⟩
                  have HF : Hid (SwapPost w0 base g cap l (fun l' => SortedOn cmpD l' a b ∧ SwapsOn a b l l') (.returned (.tuple #[])) w5) := Lib.hid ⟨l3, rfl, hs5, join_sorted HWB.out hw5 (by have := HLA.out; omega) (by omega) HOB.out ho5 HHV.out.x, HWA.out.trans ((HWB.out.mono (Nat.le_refl _) (by omega)).trans (hw5.mono (by omega) (Nat.le_refl _)))⟩
                  clear hs5 ho5 hw5
                  go_wp2
                  go_end0
                  exact HF.out
                · skip
                  have b2 : decide (mid < en) = true := decide_eq_true (by omega)
                  have b2z : (mid : Int) < (en : Int) := by omega
                  have c2 : decide (en < b) = false := decide_eq_false (by omega)
                  have c2z : ¬ (en : Int) < (b : Int) := by omega
                  go_wp2_with fail
                  refine (rotate_at w0 base g cap l L s m en _ _ _ _ _ HS.out HL.out rfl rfl rfl hl (by omega) (by omega) (by omega)).mono ?_
                  rintro e w3 ⟨l1, rfl, hs3, hro, hw3⟩
                  have HSA := Lib.hid hs3
                  have HRO := Lib.hid hro
                  have HWA := Lib.hid (hw3.mono (show a ≤ s by omega) (show en ≤ b by omega))
                  clear hs3 hro hw3
                  have HLA : Hid (l1.length = L) := Lib.hid (HWA.out.len.trans HL.out)
                  have HHV : Hid (Halves l1 a s mid en b) := Lib.hid (by
                    have hh := sym_halves (mid := mid) (n := n) (s := s) (lo := lo) (hi := hi) ordr_D HS1.out HS2.out (by omega) (by omega) (by have := HL.out; omega) HMID.out HN.out HCASE.out hlo hhi (fun c x y h1 h2 h3 h4 => by have := HLO.out c x y h1 h2 (by rw [HN1.out]; exact h3) h4; omega) (fun c x y h1 h2 h3 h4 => HHI.out c x y h1 h2 (by rw [HN1.out]; exact h3) h4) (by rw [← HEN.out]; exact HRO.out)
                    rw [← HEN.out] at hh
                    exact ⟨hh.1, hh.2.1, hh.2.2.1, hh.2.2.2.1, hh.2.2.2.2⟩)
                  have HSB := HSA
                  have HWB : Hid (SwapsOn a mid l1 l1) := Lib.hid (.refl l1)
                  have HOB : Hid (SortedOn cmpD l1 a mid) := Lib.hid (by
                    by_cases q : s = a
                    · have := HHV.out.s2; rw [q] at this; exact this
                    · exact HHV.out.s1.sub (Nat.le_refl _) (by omega))
                  have HLB : Hid (l1.length = L) := Lib.hid (HWB.out.len.trans HLA.out)
                  have HF : Hid (SwapPost w0 base g cap l (fun l' => SortedOn cmpD l' a b ∧ SwapsOn a b l l') (.returned (.tuple #[])) w3) := Lib.hid (by
                    have ho5 : SortedOn cmpD l1 mid b := by
                      by_cases q : en ≤ mid
                      · exact (HHV.out.s4.sub q (Nat.le_refl _)).congr (fun k h1 h2 => HWB.out.out (by have := HLA.out; omega) (.inr h1))
                      · exact (HHV.out.s3.sub (Nat.le_refl _) (by omega)).congr (fun k h1 h2 => HWB.out.out (by have := HLA.out; omega) (.inr h1))
                    exact ⟨l1, rfl, HSB.out, join_sorted HWB.out (.refl l1) (by have := HLA.out; omega) (by omega) HOB.out ho5 HHV.out.x, HWA.out.trans (HWB.out.mono (Nat.le_refl _) (by omega))⟩)
                  go_wp2
                  go_end0
                  exact HF.out
              · skip
                have b2 : decide (mid < en) = false := decide_eq_false (by omega)
                have b2z : ¬ (mid : Int) < (en : Int) := by omega
                go_wp2_with fail
                refine (rotate_at w0 base g cap l L s m en _ _ _ _ _ HS.out HL.out rfl rfl rfl hl (by omega) (by omega) (by omega)).mono ?_
                rintro e w3 ⟨l1, rfl, hs3, hro, hw3⟩
                have HSA := Lib.hid hs3
                have HRO := Lib.hid hro
                have HWA := Lib.hid (hw3.mono (show a ≤ s by omega) (show en ≤ b by omega))
                clear hs3 hro hw3
                have HLA : Hid (l1.length = L) := Lib.hid (HWA.out.len.trans HL.out)
                have HHV : Hid (Halves l1 a s mid en b) := Lib.hid (by
                  have hh := sym_halves (mid := mid) (n := n) (s := s) (lo := lo) (hi := hi) ordr_D HS1.out HS2.out (by omega) (by omega) (by have := HL.out; omega) HMID.out HN.out HCASE.out hlo hhi (fun c x y h1 h2 h3 h4 => by have := HLO.out c x y h1 h2 (by rw [HN1.out]; exact h3) h4; omega) (fun c x y h1 h2 h3 h4 => HHI.out c x y h1 h2 (by rw [HN1.out]; exact h3) h4) (by rw [← HEN.out]; exact HRO.out)
                  rw [← HEN.out] at hh
                  exact ⟨hh.1, hh.2.1, hh.2.2.1, hh.2.2.2.1, hh.2.2.2.2⟩)
                have HSB := HSA
                have HWB : Hid (SwapsOn a mid l1 l1) := Lib.hid (.refl l1)
                have HOB : Hid (SortedOn cmpD l1 a mid) := Lib.hid (by
                  by_cases q : s = a
                  · have := HHV.out.s2; rw [q] at this; exact this
                  · exact HHV.out.s1.sub (Nat.le_refl _) (by omega))
                have HLB : Hid (l1.length = L) := Lib.hid (HWB.out.len.trans HLA.out)
                have HF : Hid (SwapPost w0 base g cap l (fun l' => SortedOn cmpD l' a b ∧ SwapsOn a b l l') (.returned (.tuple #[])) w3) := Lib.hid (by
                  have ho5 : SortedOn cmpD l1 mid b := by
                    by_cases q : en ≤ mid
                    · exact (HHV.out.s4.sub q (Nat.le_refl _)).congr (fun k h1 h2 => HWB.out.out (by have := HLA.out; omega) (.inr h1))
                    · exact (HHV.out.s3.sub (Nat.le_refl _) (by omega)).congr (fun k h1 h2 => HWB.out.out (by have := HLA.out; omega) (.inr h1))
                  exact ⟨l1, rfl, HSB.out, join_sorted HWB.out (.refl l1) (by have := HLA.out; omega) (by omega) HOB.out ho5 HHV.out.x, HWA.out.trans (HWB.out.mono (Nat.le_refl _) (by omega))⟩)
                go_wp2
                go_end0
                exact HF.out
          · skip
            have b0 : decide (s < m) = true := decide_eq_true (by omega)
            have b0z : (s : Int) < (m : Int) := by omega
            have c0 : decide (m < en) = false := decide_eq_false (by omega)
            have c0z : ¬ (m : Int) < (en : Int) := by omega
            by_cases p1 : a < s
            · by_cases r1 : s < mid
              · skip
                have b1 : decide (a < s) = true := decide_eq_true (by omega)
                have b1z : (a : Int) < (s : Int) := by omega
                have c1 : decide (s < mid) = true := decide_eq_true (by omega)
                have c1z : (s : Int) < (mid : Int) := by omega
                by_cases p2 : mid < en
                · by_cases r2 : en < b
                  · skip
                    have b2 : decide (mid < en) = true := decide_eq_true (by omega)
                    have b2z : (mid : Int) < (en : Int) := by omega
                    have c2 : decide (en < b) = true := decide_eq_true (by omega)
                    have c2z : (en : Int) < (b : Int) := by omega
                    have HSA := HS
                    have HRO := Lib.hid (rot_triv l (s := s) (m := m) (e := en) (by omega) (by omega) (by omega))
                    have HWA : Hid (SwapsOn a b l l) := Lib.hid (.refl l)
                    have HLA : Hid (l.length = L) := Lib.hid (HWA.out.len.trans HL.out)
                    have HHV : Hid (Halves l a s mid en b) := Lib.hid (by
                      have hh := sym_halves (mid := mid) (n := n) (s := s) (lo := lo) (hi := hi) ordr_D HS1.out HS2.out (by omega) (by omega) (by have := HL.out; omega) HMID.out HN.out HCASE.out hlo hhi (fun c x y h1 h2 h3 h4 => by have := HLO.out c x y h1 h2 (by rw [HN1.out]; exact h3) h4; omega) (fun c x y h1 h2 h3 h4 => HHI.out c x y h1 h2 (by rw [HN1.out]; exact h3) h4) (by rw [← HEN.out]; exact HRO.out)
                      rw [← HEN.out] at hh
                      exact ⟨hh.1, hh.2.1, hh.2.2.1, hh.2.2.2.1, hh.2.2.2.2⟩)
                    go_wp2_with fail
                    refine (HIH.out w0 base g cap l L a s mid _ _ _ _ HSA.out (HWA.out.all HROW.out) HLA.out rfl rfl rfl hl (by omega) (by omega) (by omega) (by omega) HHV.out.s1 HHV.out.s2).mono ?_
                    rintro e w4 ⟨l2, rfl, hs4, ho4, hw4⟩
                    have HSB := Lib.hid hs4
                    have HOB := Lib.hid ho4
                    have HWB := Lib.hid hw4
                    clear hs4 ho4 hw4
                    have HLB : Hid (l2.length = L) := Lib.hid (HWB.out.len.trans HLA.out)
                    go_wp2_with fail
                    refine (HIH.out w0 base g cap l2 L mid en b _ _ _ _ HSB.out (HWB.out.all (HWA.out.all HROW.out)) HLB.out rfl rfl rfl hl (by omega) (by omega) (by omega) (by omega) (HHV.out.s3.congr (fun k h1 h2 => HWB.out.out (by have := HLA.out; omega) (.inr h1))) (HHV.out.s4.congr (fun k h1 h2 => HWB.out.out (by have := HLA.out; omega) (.inr (by omega))))).mono ?_
                    rintro e w5 ⟨l3, rfl, hs5, ho5, hw5⟩
                    have HF : Hid (SwapPost w0 base g cap l (fun l' => SortedOn cmpD l' a b ∧ SwapsOn a b l l') (.returned (.tuple #[])) w5) := Lib.hid ⟨l3, rfl, hs5, join_sorted HWB.out hw5 (by have := HLA.out; omega) (by omega) HOB.out ho5 HHV.out.x, HWA.out.trans ((HWB.out.mono (Nat.le_refl _) (by omega)).trans (hw5.mono (by omega) (Nat.le_refl _)))⟩
                    clear hs5 ho5 hw5
                    go_wp2
                    go_end0
                    exact HF.out
                  · skip
                    have b2 : decide (mid < en) = true := decide_eq_true (by omega)
                    have b2z : (mid : Int) < (en : Int) := by omega
                    have c2 : decide (en < b) = false := decide_eq_false (by omega)
                    have c2z : ¬ (en : Int) < (b : Int) := by omega
                    have HSA := HS
                    have HRO := Lib.hid (rot_triv l (s := s) (m := m) (e := en) (by omega) (by omega) (by omega))
                    have HWA : Hid (SwapsOn a b l l) := Lib.hid (.refl l)
                    have HLA : Hid (l.length = L) := Lib.hid (HWA.out.len.trans HL.out)
                    have HHV : Hid (Halves l a s mid en b) := Lib.hid (by
                      have hh := sym_halves (mid := mid) (n := n) (s := s) (lo := lo) (hi := hi) ordr_D HS1.out HS2.out (by omega) (by omega) (by have := HL.out; omega) HMID.out HN.out HCASE.out hlo hhi (fun c x y h1 h2 h3 h4 => by have := HLO.out c x y h1 h2 (by rw [HN1.out]; exact h3) h4; omega) (fun c x y h1 h2 h3 h4 => HHI.out c x y h1 h2 (by rw [HN1.out]; exact h3) h4) (by rw [← HEN.out]; exact HRO.out)
                      rw [← HEN.out] at hh
                      exact ⟨hh.1, hh.2.1, hh.2.2.1, hh.2.2.2.1, hh.2.2.2.2⟩)
                    go_wp2_with fail
                    refine (HIH.out w0 base g cap l L a s mid _ _ _ _ HSA.out (HWA.out.all HROW.out) HLA.out rfl rfl rfl hl (by omega) (by omega) (by omega) (by omega) HHV.out.s1 HHV.out.s2).mono ?_
                    rintro e w4 ⟨l2, rfl, hs4, ho4, hw4⟩
                    have HSB := Lib.hid hs4
                    have HOB := Lib.hid ho4
                    have HWB := Lib.hid hw4
                    clear hs4 ho4 hw4
                    have HLB : Hid (l2.length = L) := Lib.hid (HWB.out.len.trans HLA.out)
                    have HF : Hid (SwapPost w0 base g cap l (fun l' => SortedOn cmpD l' a b ∧ SwapsOn a b l l') (.returned (.tuple #[])) w4) := Lib.hid (by
                      have ho5 : SortedOn cmpD l2 mid b := by
                        by_cases q : en ≤ mid
                        · exact (HHV.out.s4.sub q (Nat.le_refl _)).congr (fun k h1 h2 => HWB.out.out (by have := HLA.out; omega) (.inr h1))
                        · exact (HHV.out.s3.sub (Nat.le_refl _) (by omega)).congr (fun k h1 h2 => HWB.out.out (by have := HLA.out; omega) (.inr h1))
                      exact ⟨l2, rfl, HSB.out, join_sorted HWB.out (.refl l2) (by have := HLA.out; omega) (by omega) HOB.out ho5 HHV.out.x, HWA.out.trans (HWB.out.mono (Nat.le_refl _) (by omega))⟩)
                    go_wp2
                    go_end0
                    exact HF.out
                · skip
                  have b2 : decide (mid < en) = false := decide_eq_false (by omega)
                  have b2z : ¬ (mid : Int) < (en : Int) := by omega
                  have HSA := HS
                  have HRO := Lib.hid (rot_triv l (s := s) (m := m) (e := en) (by omega) (by omega) (by omega))
                  have HWA : Hid (SwapsOn a b l l) := Lib.hid (.refl l)
                  have HLA : Hid (l.length = L) := Lib.hid (HWA.out.len.trans HL.out)
                  have HHV : Hid (Halves l a s mid en b) := Lib.hid (by
                    have hh := sym_halves (mid := mid) (n := n) (s := s) (lo := lo) (hi := hi) ordr_D HS1.out HS2.out (by omega) (by omega) (by have := HL.out; omega) HMID.out HN.out HCASE.out hlo hhi (fun c x y h1 h2 h3 h4 => by have := HLO.out c x y h1 h2 (by rw [HN1.out]; exact h3) h4; omega) (fun c x y h1 h2 h3 h4 => HHI.out c x y h1 h2 (by rw [HN1.out]; exact h3) h4) (by rw [← HEN.out]; exact HRO.out)
                    rw [← HEN.out] at hh
                    exact ⟨hh.1, hh.2.1, hh.2.2.1, hh.2.2.2.1, hh.2.2.2.2⟩)
                  go_wp2_with fail
                  refine (HIH.out w0 base g cap l L a s mid _ _ _ _ HSA.out (HWA.out.all HROW.out) HLA.out rfl rfl rfl hl (by omega) (by omega) (by omega) (by omega) HHV.out.s1 HHV.out.s2).mono ?_
                  rintro e w4 ⟨l2, rfl, hs4, ho4, hw4⟩
                  have HSB := Lib.hid hs4
                  have HOB := Lib.hid ho4
                  have HWB := Lib.hid hw4
                  clear hs4 ho4 hw4
                  have HLB : Hid (l2.length = L) := Lib.hid (HWB.out.len.trans HLA.out)
                  have HF : Hid (SwapPost w0 base g cap l (fun l' => SortedOn cmpD l' a b ∧ SwapsOn a b l l') (.returned (.tuple #[])) w4) := Lib.hid (by
                    have ho5 : SortedOn cmpD l2 mid b := by
                      by_cases q : en ≤ mid
                      · exact (HHV.out.s4.sub q (Nat.le_refl _)).congr (fun k h1 h2 => HWB.out.out (by have := HLA.out; omega) (.inr h1))
                      · exact (HHV.out.s3.sub (Nat.le_refl _) (by omega)).congr (fun k h1 h2 => HWB.out.out (by have := HLA.out; omega) (.inr h1))
                    exact ⟨l2, rfl, HSB.out, join_sorted HWB.out (.refl l2) (by have := HLA.out; omega) (by omega) HOB.out ho5 HHV.out.x, HWA.out.trans (HWB.out.mono (Nat.le_refl _) (by omega))⟩)
                  go_wp2
                  go_end0
                  exact HF.out
              · skip
                have b1 : decide (a < s) = true := decide_eq_true (by omega)
                have b1z : (a : Int) < (s : Int) := by omega
                have c1 : decide (s < mid) = false := decide_eq_false (by omega)
                have c1z : ¬ (s : Int) < (mid : Int) := by omega
                by_cases p2 : mid < en
                · by_cases r2 : en < b
                  · skip
                    have b2 : decide (mid < en) = true := decide_eq_true (by omega)
                    have b2z : (mid : Int) < (en : Int) := by omega
                    have c2 : decide (en < b) = true := decide_eq_true (by omega)
                    have c2z : (en : Int) < (b : Int) := by omega
                    have HSA := HS
                    have HRO := Lib.hid (rot_triv l (s := s) (m := m) (e := en) (by omega) (by omega) (by omega))
                    have HWA : Hid (SwapsOn a b l l) := Lib.hid (.refl l)
                    have HLA : Hid (l.length = L) := Lib.hid (HWA.out.len.trans HL.out)
                    have HHV : Hid (Halves l a s mid en b) := Lib.hid (by
                      have hh := sym_halves (mid := mid) (n := n) (s := s) (lo := lo) (hi := hi) ordr_D HS1.out HS2.out (by omega) (by omega) (by have := HL.out; omega) HMID.out HN.out HCASE.out hlo hhi (fun c x y h1 h2 h3 h4 => by have := HLO.out c x y h1 h2 (by rw [HN1.out]; exact h3) h4; omega) (fun c x y h1 h2 h3 h4 => HHI.out c x y h1 h2 (by rw [HN1.out]; exact h3) h4) (by rw [← HEN.out]; exact HRO.out)
                      rw [← HEN.out] at hh
                      exact ⟨hh.1, hh.2.1, hh.2.2.1, hh.2.2.2.1, hh.2.2.2.2⟩)
                    have HSB := HSA
                    have HWB : Hid (SwapsOn a mid l l) := Lib.hid (.refl l)
                    have HOB : Hid (SortedOn cmpD l a mid) := Lib.hid (by
                      by_cases q : s = a
                      · have := HHV.out.s2; rw [q] at this; exact this
                      · exact HHV.out.s1.sub (Nat.le_refl _) (by omega))
                    have HLB : Hid (l.length = L) := Lib.hid (HWB.out.len.trans HLA.out)
                    go_wp2_with fail
                    refine (HIH.out w0 base g cap l L mid en b _ _ _ _ HSB.out (HWB.out.all (HWA.out.all HROW.out)) HLB.out rfl rfl rfl hl (by omega) (by omega) (by omega) (by omega) (HHV.out.s3.congr (fun k h1 h2 => HWB.out.out (by have := HLA.out; omega) (.inr h1))) (HHV.out.s4.congr (fun k h1 h2 => HWB.out.out (by have := HLA.out; omega) (.inr (by omega))))).mono ?_
                    rintro e w5 ⟨l3, rfl, hs5, ho5, hw5⟩
                    have HF : Hid (SwapPost w0 base g cap l (fun l' => SortedOn cmpD l' a b ∧ SwapsOn a b l l') (.returned (.tuple #[])) w5) := Lib.hid ⟨l3, rfl, hs5, join_sorted HWB.out hw5 (by have := HLA.out; omega) (by omega) HOB.out ho5 HHV.out.x, HWA.out.trans ((HWB.out.mono (Nat.le_refl _) (by omega)).trans (hw5.mono (by omega) (Nat.le_refl _)))⟩
                    clear hs5 ho5 hw5
                    go_wp2
                    go_end0
                    exact HF.out
                  · skip
                    have b2 : decide (mid < en) = true := decide_eq_true (by omega)
                    have b2z : (mid : Int) < (en : Int) := by omega
                    have c2 : decide (en < b) = false := decide_eq_false (by omega)
                    have c2z : ¬ (en : Int) < (b : Int) := by omega
                    have HSA := HS
                    have HRO := Lib.hid (rot_triv l (s := s) (m := m) (e := en) (by omega) (by omega) (by omega))
                    have HWA : Hid (SwapsOn a b l l) := Lib.hid (.refl l)
                    have HLA : Hid (l.length = L) := Lib.hid (HWA.out.len.trans HL.out)
                    have HHV : Hid (Halves l a s mid en b) := Lib.hid (by
                      have hh := sym_halves (mid := mid) (n := n) (s := s) (lo := lo) (hi := hi) ordr_D HS1.out HS2.out (by omega) (by omega) (by have := HL.out; omega) HMID.out HN.out HCASE.out hlo hhi (fun c x y h1 h2 h3 h4 => by have := HLO.out c x y h1 h2 (by rw [HN1.out]; exact h3) h4; omega) (fun c x y h1 h2 h3 h4 => HHI.out c x y h1 h2 (by rw [HN1.out]; exact h3) h4) (by rw [← HEN.out]; exact HRO.out)
                      rw [← HEN.out] at hh
                      exact ⟨hh.1, hh.2.1, hh.2.2.1, hh.2.2.2.1, hh.2.2.2.2⟩)
                    have HSB := HSA
                    have HWB : Hid (SwapsOn a mid l l) := Lib.hid (.refl l)
                    have HOB : Hid (SortedOn cmpD l a mid) := Lib.hid (by
                      by_cases q : s = a
                      · have := HHV.out.s2; rw [q] at this; exact this
                      · exact HHV.out.s1.sub (Nat.le_refl _) (by omega))
                    have HLB : Hid (l.length = L) := Lib.hid (HWB.out.len.trans HLA.out)
                    have HF : Hid (SwapPost w0 base g cap l (fun l' => SortedOn cmpD l' a b ∧ SwapsOn a b l l') (.returned (.tuple #[])) wo) := Lib.hid (by
                      have ho5 : SortedOn cmpD l mid b := by
                        by_cases q : en ≤ mid
                        · exact (HHV.out.s4.sub q (Nat.le_refl _)).congr (fun k h1 h2 => HWB.out.out (by have := HLA.out; omega) (.inr h1))
                        · exact (HHV.out.s3.sub (Nat.le_refl _) (by omega)).congr (fun k h1 h2 => HWB.out.out (by have := HLA.out; omega) (.inr h1))
                      exact ⟨l, rfl, HSB.out, join_sorted HWB.out (.refl l) (by have := HLA.out; omega) (by omega) HOB.out ho5 HHV.out.x, HWA.out.trans (HWB.out.mono (Nat.le_refl _) (by omega))⟩)
                    go_wp2
                    go_end0
                    exact HF.out
                · skip
                  have b2 : decide (mid < en) = false := decide_eq_false (by omega)
                  have b2z : ¬ (mid : Int) < (en : Int) := by omega
                  have HSA := HS
                  have HRO := Lib.hid (rot_triv l (s := s) (m := m) (e := en) (by omega) (by omega) (by omega))
                  have HWA : Hid (SwapsOn a b l l) := Lib.hid (.refl l)
                  have HLA : Hid (l.length = L) := Lib.hid (HWA.out.len.trans HL.out)
                  have HHV : Hid (Halves l a s mid en b) := Lib.hid (by
                    have hh := sym_halves (mid := mid) (n := n) (s := s) (lo := lo) (hi := hi) ordr_D HS1.out HS2.out (by omega) (by omega) (by have := HL.out; omega) HMID.out HN.out HCASE.out hlo hhi (fun c x y h1 h2 h3 h4 => by have := HLO.out c x y h1 h2 (by rw [HN1.out]; exact h3) h4; omega) (fun c x y h1 h2 h3 h4 => HHI.out c x y h1 h2 (by rw [HN1.out]; exact h3) h4) (by rw [← HEN.out]; exact HRO.out)
                    rw [← HEN.out] at hh
                    exact ⟨hh.1, hh.2.1, hh.2.2.1, hh.2.2.2.1, hh.2.2.2.2⟩)
                  have HSB := HSA
                  have HWB : Hid (SwapsOn a mid l l) := Lib.hid (.refl l)
                  have HOB : Hid (SortedOn cmpD l a mid) := Lib.hid (by
                    by_cases q : s = a
                    · have := HHV.out.s2; rw [q] at this; exact this
                    · exact HHV.out.s1.sub (Nat.le_refl _) (by omega))
                  have HLB : Hid (l.length = L) := Lib.hid (HWB.out.len.trans HLA.out)
                  have HF : Hid (SwapPost w0 base g cap l (fun l' => SortedOn cmpD l' a b ∧ SwapsOn a b l l') (.returned (.tuple #[])) wo) := Lib.hid (by
                    have ho5 : SortedOn cmpD l mid b := by
                      by_cases q : en ≤ mid
                      · exact (HHV.out.s4.sub q (Nat.le_refl _)).congr (fun k h1 h2 => HWB.out.out (by have := HLA.out; omega) (.inr h1))
                      · exact (HHV.out.s3.sub (Nat.le_refl _) (by omega)).congr (fun k h1 h2 => HWB.out.out (by have := HLA.out; omega) (.inr h1))
                    exact ⟨l, rfl, HSB.out, join_sorted HWB.out (.refl l) (by have := HLA.out; omega) (by omega) HOB.out ho5 HHV.out.x, HWA.out.trans (HWB.out.mono (Nat.le_refl _) (by omega))⟩)
                  go_wp2
                  go_end0
                  exact HF.out
            · skip
              have b1 : decide (a < s) = false := decide_eq_false (by omega)
              have b1z : ¬ (a : Int) < (s : Int) := by omega
              by_cases p2 : mid < en
              · by_cases r2 : en < b
                · skip
                  have b2 : decide (mid < en) = true := decide_eq_true (by omega)
                  have b2z : (mid : Int) < (en : Int) := by omega
                  have c2 : decide (en < b) = true := decide_eq_true (by omega)
                  have c2z : (en : Int) < (b : Int) := by omega
                  have HSA := HS
                  have HRO := Lib.hid (rot_triv l (s := s) (m := m) (e := en) (by omega) (by omega) (by omega))
                  have HWA : Hid (SwapsOn a b l l) := Lib.hid (.refl l)
                  have HLA : Hid (l.length = L) := Lib.hid (HWA.out.len.trans HL.out)
                  have HHV : Hid (Halves l a s mid en b) := Lib.hid (by
                    have hh := sym_halves (mid := mid) (n := n) (s := s) (lo := lo) (hi := hi) ordr_D HS1.out HS2.out (by omega) (by omega) (by have := HL.out; omega) HMID.out HN.out HCASE.out hlo hhi (fun c x y h1 h2 h3 h4 => by have := HLO.out c x y h1 h2 (by rw [HN1.out]; exact h3) h4; omega) (fun c x y h1 h2 h3 h4 => HHI.out c x y h1 h2 (by rw [HN1.out]; exact h3) h4) (by rw [← HEN.out]; exact HRO.out)
                    rw [← HEN.out] at hh
                    exact ⟨hh.1, hh.2.1, hh.2.2.1, hh.2.2.2.1, hh.2.2.2.2⟩)
                  have HSB := HSA
                  have HWB : Hid (SwapsOn a mid l l) := Lib.hid (.refl l)
                  have HOB : Hid (SortedOn cmpD l a mid) := Lib.hid (by
                    by_cases q : s = a
                    · have := HHV.out.s2; rw [q] at this; exact this
                    · exact HHV.out.s1.sub (Nat.le_refl _) (by omega))
                  have HLB : Hid (l.length = L) := Lib.hid (HWB.out.len.trans HLA.out)
                  go_wp2_with fail
                  refine (HIH.out w0 base g cap l L mid en b _ _ _ _ HSB.out (HWB.out.all (HWA.out.all HROW.out)) HLB.out rfl rfl rfl hl (by omega) (by omega) (by omega) (by omega) (HHV.out.s3.congr (fun k h1 h2 => HWB.out.out (by have := HLA.out; omega) (.inr h1))) (HHV.out.s4.congr (fun k h1 h2 => HWB.out.out (by have := HLA.out; omega) (.inr (by omega))))).mono ?_
                  rintro e w5 ⟨l3, rfl, hs5, ho5, hw5⟩
                  have HF : Hid (SwapPost w0 base g cap l (fun l' => SortedOn cmpD l' a b ∧ SwapsOn a b l l') (.returned (.tuple #[])) w5) := Lib.hid ⟨l3, rfl, hs5, join_sorted HWB.out hw5 (by have := HLA.out; omega) (by omega) HOB.out ho5 HHV.out.x, HWA.out.trans ((HWB.out.mono (Nat.le_refl _) (by omega)).trans (hw5.mono (by omega) (Nat.le_refl _)))⟩
                  clear hs5 ho5 hw5
                  go_wp2
                  go_end0
                  exact HF.out
                · skip
                  have b2 : decide (mid < en) = true := decide_eq_true (by omega)
                  have b2z : (mid : Int) < (en : Int) := by omega
                  have c2 : decide (en < b) = false := decide_eq_false (by omega)
                  have c2z : ¬ (en : Int) < (b : Int) := by omega
                  have HSA := HS
                  have HRO := Lib.hid (rot_triv l (s := s) (m := m) (e := en) (by omega) (by omega) (by omega))
                  have HWA : Hid (SwapsOn a b l l) := Lib.hid (.refl l)
                  have HLA : Hid (l.length = L) := Lib.hid (HWA.out.len.trans HL.out)
                  have HHV : Hid (Halves l a s mid en b) := Lib.hid (by
                    have hh := sym_halves (mid := mid) (n := n) (s := s) (lo := lo) (hi := hi) ordr_D HS1.out HS2.out (by omega) (by omega) (by have := HL.out; omega) HMID.out HN.out HCASE.out hlo hhi (fun c x y h1 h2 h3 h4 => by have := HLO.out c x y h1 h2 (by rw [HN1.out]; exact h3) h4; omega) (fun c x y h1 h2 h3 h4 => HHI.out c x y h1 h2 (by rw [HN1.out]; exact h3) h4) (by rw [← HEN.out]; exact HRO.out)
                    rw [← HEN.out] at hh
                    exact ⟨hh.1, hh.2.1, hh.2.2.1, hh.2.2.2.1, hh.2.2.2.2⟩)
                  have HSB := HSA
                  have HWB : Hid (SwapsOn a mid l l) := Lib.hid (.refl l)
                  have HOB : Hid (SortedOn cmpD l a mid) := Lib.hid (by
                    by_cases q : s = a
                    · have := HHV.out.s2; rw [q] at this; exact this
                    · exact HHV.out.s1.sub (Nat.le_refl _) (by omega))
                  have HLB : Hid (l.length = L) := Lib.hid (HWB.out.len.trans HLA.out)
                  have HF : Hid (SwapPost w0 base g cap l (fun l' => SortedOn cmpD l' a b ∧ SwapsOn a b l l') (.returned (.tuple #[])) wo) := Lib.hid (by
                    have ho5 : SortedOn cmpD l mid b := by
                      by_cases q : en ≤ mid
                      · exact (HHV.out.s4.sub q (Nat.le_refl _)).congr (fun k h1 h2 => HWB.out.out (by have := HLA.out; omega) (.inr h1))
                      · exact (HHV.out.s3.sub (Nat.le_refl _) (by omega)).congr (fun k h1 h2 => HWB.out.out (by have := HLA.out; omega) (.inr h1))
                    exact ⟨l, rfl, HSB.out, join_sorted HWB.out (.refl l) (by have := HLA.out; omega) (by omega) HOB.out ho5 HHV.out.x, HWA.out.trans (HWB.out.mono (Nat.le_refl _) (by omega))⟩)
                  go_wp2
                  go_end0
                  exact HF.out
              · skip
                have b2 : decide (mid < en) = false := decide_eq_false (by omega)
                have b2z : ¬ (mid : Int) < (en : Int) := by omega
                have HSA := HS
                have HRO := Lib.hid (rot_triv l (s := s) (m := m) (e := en) (by omega) (by omega) (by omega))
                have HWA : Hid (SwapsOn a b l l) := Lib.hid (.refl l)
                have HLA : Hid (l.length = L) := Lib.hid (HWA.out.len.trans HL.out)
                have HHV : Hid (Halves l a s mid en b) := Lib.hid (by
                  have hh := sym_halves (mid := mid) (n := n) (s := s) (lo := lo) (hi := hi) ordr_D HS1.out HS2.out (by omega) (by omega) (by have := HL.out; omega) HMID.out HN.out HCASE.out hlo hhi (fun c x y h1 h2 h3 h4 => by have := HLO.out c x y h1 h2 (by rw [HN1.out]; exact h3) h4; omega) (fun c x y h1 h2 h3 h4 => HHI.out c x y h1 h2 (by rw [HN1.out]; exact h3) h4) (by rw [← HEN.out]; exact HRO.out)
                  rw [← HEN.out] at hh
                  exact ⟨hh.1, hh.2.1, hh.2.2.1, hh.2.2.2.1, hh.2.2.2.2⟩)
                have HSB := HSA
                have HWB : Hid (SwapsOn a mid l l) := Lib.hid (.refl l)
                have HOB : Hid (SortedOn cmpD l a mid) := Lib.hid (by
                  by_cases q : s = a
                  · have := HHV.out.s2; rw [q] at this; exact this
                  · exact HHV.out.s1.sub (Nat.le_refl _) (by omega))
                have HLB : Hid (l.length = L) := Lib.hid (HWB.out.len.trans HLA.out)
                have HF : Hid (SwapPost w0 base g cap l (fun l' => SortedOn cmpD l' a b ∧ SwapsOn a b l l') (.returned (.tuple #[])) wo) := Lib.hid (by
                  have ho5 : SortedOn cmpD l mid b := by
                    by_cases q : en ≤ mid
                    · exact (HHV.out.s4.sub q (Nat.le_refl _)).congr (fun k h1 h2 => HWB.out.out (by have := HLA.out; omega) (.inr h1))
                    · exact (HHV.out.s3.sub (Nat.le_refl _) (by omega)).congr (fun k h1 h2 => HWB.out.out (by have := HLA.out; omega) (.inr h1))
                  exact ⟨l, rfl, HSB.out, join_sorted HWB.out (.refl l) (by have := HLA.out; omega) (by omega) HOB.out ho5 HHV.out.x, HWA.out.trans (HWB.out.mono (Nat.le_refl _) (by omega))⟩)
                go_wp2
                go_end0
                exact HF.out
        · skip
          have b0 : decide (s < m) = false := decide_eq_false (by omega)
          have b0z : ¬ (s : Int) < (m : Int) := by omega
          by_cases p1 : a < s
          · by_cases r1 : s < mid
            · skip
              have b1 : decide (a < s) = true := decide_eq_true (by omega)
              have b1z : (a : Int) < (s : Int) := by omega
              have c1 : decide (s < mid) = true := decide_eq_true (by omega)
              have c1z : (s : Int) < (mid : Int) := by omega
              by_cases p2 : mid < en
              · by_cases r2 : en < b
                · skip
                  have b2 : decide (mid < en) = true := decide_eq_true (by omega)
                  have b2z : (mid : Int) < (en : Int) := by omega
                  have c2 : decide (en < b) = true := decide_eq_true (by omega)
                  have c2z : (en : Int) < (b : Int) := by omega
                  have HSA := HS
                  have HRO := Lib.hid (rot_triv l (s := s) (m := m) (e := en) (by omega) (by omega) (by omega))
                  have HWA : Hid (SwapsOn a b l l) := Lib.hid (.refl l)
                  have HLA : Hid (l.length = L) := Lib.hid (HWA.out.len.trans HL.out)
                  have HHV : Hid (Halves l a s mid en b) := Lib.hid (by
                    have hh := sym_halves (mid := mid) (n := n) (s := s) (lo := lo) (hi := hi) ordr_D HS1.out HS2.out (by omega) (by omega) (by have := HL.out; omega) HMID.out HN.out HCASE.out hlo hhi (fun c x y h1 h2 h3 h4 => by have := HLO.out c x y h1 h2 (by rw [HN1.out]; exact h3) h4; omega) (fun c x y h1 h2 h3 h4 => HHI.out c x y h1 h2 (by rw [HN1.out]; exact h3) h4) (by rw [← HEN.out]; exact HRO.out)
                    rw [← HEN.out] at hh
                    exact ⟨hh.1, hh.2.1, hh.2.2.1, hh.2.2.2.1, hh.2.2.2.2⟩)
                  go_wp2_with fail
                  refine (HIH.out w0 base g cap l L a s mid _ _ _ _ HSA.out (HWA.out.all HROW.out) HLA.out rfl rfl rfl hl (by omega) (by omega) (by omega) (by omega) HHV.out.s1 HHV.out.s2).mono ?_
                  rintro e w4 ⟨l2, rfl, hs4, ho4, hw4⟩
                  have HSB := Lib.hid hs4
                  have HOB := Lib.hid ho4
                  have HWB := Lib.hid hw4
                  clear hs4 ho4 hw4
                  have HLB : Hid (l2.length = L) := Lib.hid (HWB.out.len.trans HLA.out)
                  go_wp2_with fail
                  refine (HIH.out w0 base g cap l2 L mid en b _ _ _ _ HSB.out (HWB.out.all (HWA.out.all HROW.out)) HLB.out rfl rfl rfl hl (by omega) (by omega) (by omega) (by omega) (HHV.out.s3.congr (fun k h1 h2 => HWB.out.out (by have := HLA.out; omega) (.inr h1))) (HHV.out.s4.congr (fun k h1 h2 => HWB.out.out (by have := HLA.out; omega) (.inr (by omega))))).mono ?_
                  rintro e w5 ⟨l3, rfl, hs5, ho5, hw5⟩
                  have HF : Hid (SwapPost w0 base g cap l (fun l' => SortedOn cmpD l' a b ∧ SwapsOn a b l l') (.returned (.tuple #[])) w5) := Lib.hid ⟨l3, rfl, hs5, join_sorted HWB.out hw5 (by have := HLA.out; omega) (by omega) HOB.out ho5 HHV.out.x, HWA.out.trans ((HWB.out.mono (Nat.le_refl _) (by omega)).trans (hw5.mono (by omega) (Nat.le_refl _)))⟩
                  clear hs5 ho5 hw5
                  go_wp2
                  go_end0
                  exact HF.out
                · skip
                  have b2 : decide (mid < en) = true := decide_eq_true (by omega)
                  have b2z : (mid : Int) < (en : Int) := by omega
                  have c2 : decide (en < b) = false := decide_eq_false (by omega)
                  have c2z : ¬ (en : Int) < (b : Int) := by omega
                  have HSA := HS
                  have HRO := Lib.hid (rot_triv l (s := s) (m := m) (e := en) (by omega) (by omega) (by omega))
                  have HWA : Hid (SwapsOn a b l l) := Lib.hid (.refl l)
                  have HLA : Hid (l.length = L) := Lib.hid (HWA.out.len.trans HL.out)
                  have HHV : Hid (Halves l a s mid en b) := Lib.hid (by
                    have hh := sym_halves (mid := mid) (n := n) (s := s) (lo := lo) (hi := hi) ordr_D HS1.out HS2.out (by omega) (by omega) (by have := HL.out; omega) HMID.out HN.out HCASE.out hlo hhi (fun c x y h1 h2 h3 h4 => by have := HLO.out c x y h1 h2 (by rw [HN1.out]; exact h3) h4; omega) (fun c x y h1 h2 h3 h4 => HHI.out c x y h1 h2 (by rw [HN1.out]; exact h3) h4) (by rw [← HEN.out]; exact HRO.out)
                    rw [← HEN.out] at hh
                    exact ⟨hh.1, hh.2.1, hh.2.2.1, hh.2.2.2.1, hh.2.2.2.2⟩)
                  go_wp2_with fail
                  refine (HIH.out w0 base g cap l L a s mid _ _ _ _ HSA.out (HWA.out.all HROW.out) HLA.out rfl rfl rfl hl (by omega) (by omega) (by omega) (by omega) HHV.out.s1 HHV.out.s2).mono ?_
                  rintro e w4 ⟨l2, rfl, hs4, ho4, hw4⟩
                  have HSB := Lib.hid hs4
                  have HOB := Lib.hid ho4
                  have HWB := Lib.hid hw4
                  clear hs4 ho4 hw4
                  have HLB : Hid (l2.length = L) := Lib.hid (HWB.out.len.trans HLA.out)
                  have HF : Hid (SwapPost w0 base g cap l (fun l' => SortedOn cmpD l' a b ∧ SwapsOn a b l l') (.returned (.tuple #[])) w4) := Lib.hid (by
                    have ho5 : SortedOn cmpD l2 mid b := by
                      by_cases q : en ≤ mid
                      · exact (HHV.out.s4.sub q (Nat.le_refl _)).congr (fun k h1 h2 => HWB.out.out (by have := HLA.out; omega) (.inr h1))
                      · exact (HHV.out.s3.sub (Nat.le_refl _) (by omega)).congr (fun k h1 h2 => HWB.out.out (by have := HLA.out; omega) (.inr h1))
                    exact ⟨l2, rfl, HSB.out, join_sorted HWB.out (.refl l2) (by have := HLA.out; omega) (by omega) HOB.out ho5 HHV.out.x, HWA.out.trans (HWB.out.mono (Nat.le_refl _) (by omega))⟩)
                  go_wp2
                  go_end0
                  exact HF.out
              · skip
                have b2 : decide (mid < en) = false := decide_eq_false (by omega)
                have b2z : ¬ (mid : Int) < (en : Int) := by omega
                have HSA := HS
                have HRO := Lib.hid (rot_triv l (s := s) (m := m) (e := en) (by omega) (by omega) (by omega))
                have HWA : Hid (SwapsOn a b l l) := Lib.hid (.refl l)
                have HLA : Hid (l.length = L) := Lib.hid (HWA.out.len.trans HL.out)
                have HHV : Hid (Halves l a s mid en b) := Lib.hid (by
                  have hh := sym_halves (mid := mid) (n := n) (s := s) (lo := lo) (hi := hi) ordr_D HS1.out HS2.out (by omega) (by omega) (by have := HL.out; omega) HMID.out HN.out HCASE.out hlo hhi (fun c x y h1 h2 h3 h4 => by have := HLO.out c x y h1 h2 (by rw [HN1.out]; exact h3) h4; omega) (fun c x y h1 h2 h3 h4 => HHI.out c x y h1 h2 (by rw [HN1.out]; exact h3) h4) (by rw [← HEN.out]; exact HRO.out)
                  rw [← HEN.out] at hh
                  exact ⟨hh.1, hh.2.1, hh.2.2.1, hh.2.2.2.1, hh.2.2.2.2⟩)
                go_wp2_with fail
                refine (HIH.out w0 base g cap l L a s mid _ _ _ _ HSA.out (HWA.out.all HROW.out) HLA.out rfl rfl rfl hl (by omega) (by omega) (by omega) (by omega) HHV.out.s1 HHV.out.s2).mono ?_
                rintro e w4 ⟨l2, rfl, hs4, ho4, hw4⟩
                have HSB := Lib.hid hs4
                have HOB := Lib.hid ho4
                have HWB := Lib.hid hw4
                clear hs4 ho4 hw4
                have HLB : Hid (l2.length = L) := Lib.hid (HWB.out.len.trans HLA.out)
                have HF : Hid (SwapPost w0 base g cap l (fun l' => SortedOn cmpD l' a b ∧ SwapsOn a b l l') (.returned (.tuple #[])) w4) := Lib.hid (by
                  have ho5 : SortedOn cmpD l2 mid b := by
                    by_cases q : en ≤ mid
                    · exact (HHV.out.s4.sub q (Nat.le_refl _)).congr (fun k h1 h2 => HWB.out.out (by have := HLA.out; omega) (.inr h1))
                    · exact (HHV.out.s3.sub (Nat.le_refl _) (by omega)).congr (fun k h1 h2 => HWB.out.out (by have := HLA.out; omega) (.inr h1))
                  exact ⟨l2, rfl, HSB.out, join_sorted HWB.out (.refl l2) (by have := HLA.out; omega) (by omega) HOB.out ho5 HHV.out.x, HWA.out.trans (HWB.out.mono (Nat.le_refl _) (by omega))⟩)
                go_wp2
                go_end0
                exact HF.out
            · skip
              have b1 : decide (a < s) = true := decide_eq_true (by omega)
              have b1z : (a : Int) < (s : Int) := by omega
              have c1 : decide (s < mid) = false := decide_eq_false (by omega)
              have c1z : ¬ (s : Int) < (mid : Int) := by omega
              by_cases p2 : mid < en
              · by_cases r2 : en < b
                · skip
                  have b2 : decide (mid < en) = true := decide_eq_true (by omega)
                  have b2z : (mid : Int) < (en : Int) := by omega
                  have c2 : decide (en < b) = true := decide_eq_true (by omega)
                  have c2z : (en : Int) < (b : Int) := by omega
                  have HSA := HS
                  have HRO := Lib.hid (rot_triv l (s := s) (m := m) (e := en) (by omega) (by omega) (by omega))
                  have HWA : Hid (SwapsOn a b l l) := Lib.hid (.refl l)
                  have HLA : Hid (l.length = L) := Lib.hid (HWA.out.len.trans HL.out)
                  have HHV : Hid (Halves l a s mid en b) := Lib.hid (by
                    have hh := sym_halves (mid := mid) (n := n) (s := s) (lo := lo) (hi := hi) ordr_D HS1.out HS2.out (by omega) (by omega) (by have := HL.out; omega) HMID.out HN.out HCASE.out hlo hhi (fun c x y h1 h2 h3 h4 => by have := HLO.out c x y h1 h2 (by rw [HN1.out]; exact h3) h4; omega) (fun c x y h1 h2 h3 h4 => HHI.out c x y h1 h2 (by rw [HN1.out]; exact h3) h4) (by rw [← HEN.out]; exact HRO.out)
                    rw [← HEN.out] at hh
                    exact ⟨hh.1, hh.2.1, hh.2.2.1, hh.2.2.2.1, hh.2.2.2.2⟩)
                  have HSB := HSA
                  have HWB : Hid (SwapsOn a mid l l) := Lib.hid (.refl l)
                  have HOB : Hid (SortedOn cmpD l a mid) := Lib.hid (by
                    by_cases q : s = a
                    · have := HHV.out.s2; rw [q] at this; exact this
                    · exact HHV.out.s1.sub (Nat.le_refl _) (by omega))
                  have HLB : Hid (l.length = L) := Lib.hid (HWB.out.len.trans HLA.out)
                  go_wp2_with fail
                  refine (HIH.out w0 base g cap l L mid en b _ _ _ _ HSB.out (HWB.out.all (HWA.out.all HROW.out)) HLB.out rfl rfl rfl hl (by omega) (by omega) (by omega) (by omega) (HHV.out.s3.congr (fun k h1 h2 => HWB.out.out (by have := HLA.out; omega) (.inr h1))) (HHV.out.s4.congr (fun k h1 h2 => HWB.out.out (by have := HLA.out; omega) (.inr (by omega))))).mono ?_
                  rintro e w5 ⟨l3, rfl, hs5, ho5, hw5⟩
                  have HF : Hid (SwapPost w0 base g cap l (fun l' => SortedOn cmpD l' a b ∧ SwapsOn a b l l') (.returned (.tuple #[])) w5) := Lib.hid ⟨l3, rfl, hs5, join_sorted HWB.out hw5 (by have := HLA.out; omega) (by omega) HOB.out ho5 HHV.out.x, HWA.out.trans ((HWB.out.mono (Nat.le_refl _) (by omega)).trans (hw5.mono (by omega) (Nat.le_refl _)))⟩
                  clear hs5 ho5 hw5
                  go_wp2
                  go_end0
                  exact HF.out
                · skip
                  have b2 : decide (mid < en) = true := decide_eq_true (by omega)
                  have b2z : (mid : Int) < (en : Int) := by omega
                  have c2 : decide (en < b) = false := decide_eq_false (by omega)
                  have c2z : ¬ (en : Int) < (b : Int) := by omega
                  have HSA := HS
                  have HRO := Lib.hid (rot_triv l (s := s) (m := m) (e := en) (by omega) (by omega) (by omega))
                  have HWA : Hid (SwapsOn a b l l) := Lib.hid (.refl l)
                  have HLA : Hid (l.length = L) := Lib.hid (HWA.out.len.trans HL.out)
                  have HHV : Hid (Halves l a s mid en b) := Lib.hid (by
                    have hh := sym_halves (mid := mid) (n := n) (s := s) (lo := lo) (hi := hi) ordr_D HS1.out HS2.out (by omega) (by omega) (by have := HL.out; omega) HMID.out HN.out HCASE.out hlo hhi (fun c x y h1 h2 h3 h4 => by have := HLO.out c x y h1 h2 (by rw [HN1.out]; exact h3) h4; omega) (fun c x y h1 h2 h3 h4 => HHI.out c x y h1 h2 (by rw [HN1.out]; exact h3) h4) (by rw [← HEN.out]; exact HRO.out)
                    rw [← HEN.out] at hh
                    exact ⟨hh.1, hh.2.1, hh.2.2.1, hh.2.2.2.1, hh.2.2.2.2⟩)
                  have HSB := HSA
                  have HWB : Hid (SwapsOn a mid l l) := Lib.hid (.refl l)
                  have HOB : Hid (SortedOn cmpD l a mid) := Lib.hid (by
                    by_cases q : s = a
                    · have := HHV.out.s2; rw [q] at this; exact this
                    · exact HHV.out.s1.sub (Nat.le_refl _) (by omega))
                  have HLB : Hid (l.length = L) := Lib.hid (HWB.out.len.trans HLA.out)
                  have HF : Hid (SwapPost w0 base g cap l (fun l' => SortedOn cmpD l' a b ∧ SwapsOn a b l l') (.returned (.tuple #[])) wo) := Lib.hid (by
                    have ho5 : SortedOn cmpD l mid b := by
                      by_cases q : en ≤ mid
                      · exact (HHV.out.s4.sub q (Nat.le_refl _)).congr (fun k h1 h2 => HWB.out.out (by have := HLA.out; omega) (.inr h1))
                      · exact (HHV.out.s3.sub (Nat.le_refl _) (by omega)).congr (fun k h1 h2 => HWB.out.out (by have := HLA.out; omega) (.inr h1))
                    exact ⟨l, rfl, HSB.out, join_sorted HWB.out (.refl l) (by have := HLA.out; omega) (by omega) HOB.out ho5 HHV.out.x, HWA.out.trans (HWB.out.mono (Nat.le_refl _) (by omega))⟩)
                  go_wp2
                  go_end0
                  exact HF.out
              · skip
                have b2 : decide (mid < en) = false := decide_eq_false (by omega)
                have b2z : ¬ (mid : Int) < (en : Int) := by omega
                have HSA := HS
                have HRO := Lib.hid (rot_triv l (s := s) (m := m) (e := en) (by omega) (by omega) (by omega))
                have HWA : Hid (SwapsOn a b l l) := Lib.hid (.refl l)
                have HLA : Hid (l.length = L) := Lib.hid (HWA.out.len.trans HL.out)
                have HHV : Hid (Halves l a s mid en b) := Lib.hid (by
                  have hh := sym_halves (mid := mid) (n := n) (s := s) (lo := lo) (hi := hi) ordr_D HS1.out HS2.out (by omega) (by omega) (by have := HL.out; omega) HMID.out HN.out HCASE.out hlo hhi (fun c x y h1 h2 h3 h4 => by have := HLO.out c x y h1 h2 (by rw [HN1.out]; exact h3) h4; omega) (fun c x y h1 h2 h3 h4 => HHI.out c x y h1 h2 (by rw [HN1.out]; exact h3) h4) (by rw [← HEN.out]; exact HRO.out)
                  rw [← HEN.out] at hh
                  exact ⟨hh.1, hh.2.1, hh.2.2.1, hh.2.2.2.1, hh.2.2.2.2⟩)
                have HSB := HSA
                have HWB : Hid (SwapsOn a mid l l) := Lib.hid (.refl l)
                have HOB : Hid (SortedOn cmpD l a mid) := Lib.hid (by
                  by_cases q : s = a
                  · have := HHV.out.s2; rw [q] at this; exact this
                  · exact HHV.out.s1.sub (Nat.le_refl _) (by omega))
                have HLB : Hid (l.length = L) := Lib.hid (HWB.out.len.trans HLA.out)
                have HF : Hid (SwapPost w0 base g cap l (fun l' => SortedOn cmpD l' a b ∧ SwapsOn a b l l') (.returned (.tuple #[])) wo) := Lib.hid (by
                  have ho5 : SortedOn cmpD l mid b := by
                    by_cases q : en ≤ mid
                    · exact (HHV.out.s4.sub q (Nat.le_refl _)).congr (fun k h1 h2 => HWB.out.out (by have := HLA.out; omega) (.inr h1))
                    · exact (HHV.out.s3.sub (Nat.le_refl _) (by omega)).congr (fun k h1 h2 => HWB.out.out (by have := HLA.out; omega) (.inr h1))
                  exact ⟨l, rfl, HSB.out, join_sorted HWB.out (.refl l) (by have := HLA.out; omega) (by omega) HOB.out ho5 HHV.out.x, HWA.out.trans (HWB.out.mono (Nat.le_refl _) (by omega))⟩)
                go_wp2
                go_end0
                exact HF.out
          · skip
            have b1 : decide (a < s) = false := decide_eq_false (by omega)
            have b1z : ¬ (a : Int) < (s : Int) := by omega
            by_cases p2 : mid < en
            · by_cases r2 : en < b
              · skip
                have b2 : decide (mid < en) = true := decide_eq_true (by omega)
                have b2z : (mid : Int) < (en : Int) := by omega
                have c2 : decide (en < b) = true := decide_eq_true (by omega)
                have c2z : (en : Int) < (b : Int) := by omega
                have HSA := HS
                have HRO := Lib.hid (rot_triv l (s := s) (m := m) (e := en) (by omega) (by omega) (by omega))
                have HWA : Hid (SwapsOn a b l l) := Lib.hid (.refl l)
                have HLA : Hid (l.length = L) := Lib.hid (HWA.out.len.trans HL.out)
                have HHV : Hid (Halves l a s mid en b) := Lib.hid (by
                  have hh := sym_halves (mid := mid) (n := n) (s := s) (lo := lo) (hi := hi) ordr_D HS1.out HS2.out (by omega) (by omega) (by have := HL.out; omega) HMID.out HN.out HCASE.out hlo hhi (fun c x y h1 h2 h3 h4 => by have := HLO.out c x y h1 h2 (by rw [HN1.out]; exact h3) h4; omega) (fun c x y h1 h2 h3 h4 => HHI.out c x y h1 h2 (by rw [HN1.out]; exact h3) h4) (by rw [← HEN.out]; exact HRO.out)
                  rw [← HEN.out] at hh
                  exact ⟨hh.1, hh.2.1, hh.2.2.1, hh.2.2.2.1, hh.2.2.2.2⟩)
                have HSB := HSA
                have HWB : Hid (SwapsOn a mid l l) := Lib.hid (.refl l)
                have HOB : Hid (SortedOn cmpD l a mid) := Lib.hid (by
                  by_cases q : s = a
                  · have := HHV.out.s2; rw [q] at this; exact this
                  · exact HHV.out.s1.sub (Nat.le_refl _) (by omega))
                have HLB : Hid (l.length = L) := Lib.hid (HWB.out.len.trans HLA.out)
                go_wp2_with fail
                refine (HIH.out w0 base g cap l L mid en b _ _ _ _ HSB.out (HWB.out.all (HWA.out.all HROW.out)) HLB.out rfl rfl rfl hl (by omega) (by omega) (by omega) (by omega) (HHV.out.s3.congr (fun k h1 h2 => HWB.out.out (by have := HLA.out; omega) (.inr h1))) (HHV.out.s4.congr (fun k h1 h2 => HWB.out.out (by have := HLA.out; omega) (.inr (by omega))))).mono ?_
                rintro e w5 ⟨l3, rfl, hs5, ho5, hw5⟩
                have HF : Hid (SwapPost w0 base g cap l (fun l' => SortedOn cmpD l' a b ∧ SwapsOn a b l l') (.returned (.tuple #[])) w5) := Lib.hid ⟨l3, rfl, hs5, join_sorted HWB.out hw5 (by have := HLA.out; omega) (by omega) HOB.out ho5 HHV.out.x, HWA.out.trans ((HWB.out.mono (Nat.le_refl _) (by omega)).trans (hw5.mono (by omega) (Nat.le_refl _)))⟩
                clear hs5 ho5 hw5
                go_wp2
                go_end0
                exact HF.out
              · skip
                have b2 : decide (mid < en) = true := decide_eq_true (by omega)
                have b2z : (mid : Int) < (en : Int) := by omega
                have c2 : decide (en < b) = false := decide_eq_false (by omega)
                have c2z : ¬ (en : Int) < (b : Int) := by omega
                have HSA := HS
                have HRO := Lib.hid (rot_triv l (s := s) (m := m) (e := en) (by omega) (by omega) (by omega))
                have HWA : Hid (SwapsOn a b l l) := Lib.hid (.refl l)
                have HLA : Hid (l.length = L) := Lib.hid (HWA.out.len.trans HL.out)
                have HHV : Hid (Halves l a s mid en b) := Lib.hid (by
                  have hh := sym_halves (mid := mid) (n := n) (s := s) (lo := lo) (hi := hi) ordr_D HS1.out HS2.out (by omega) (by omega) (by have := HL.out; omega) HMID.out HN.out HCASE.out hlo hhi (fun c x y h1 h2 h3 h4 => by have := HLO.out c x y h1 h2 (by rw [HN1.out]; exact h3) h4; omega) (fun c x y h1 h2 h3 h4 => HHI.out c x y h1 h2 (by rw [HN1.out]; exact h3) h4) (by rw [← HEN.out]; exact HRO.out)
                  rw [← HEN.out] at hh
                  exact ⟨hh.1, hh.2.1, hh.2.2.1, hh.2.2.2.1, hh.2.2.2.2⟩)
                have HSB := HSA
                have HWB : Hid (SwapsOn a mid l l) := Lib.hid (.refl l)
                have HOB : Hid (SortedOn cmpD l a mid) := Lib.hid (by
                  by_cases q : s = a
                  · have := HHV.out.s2; rw [q] at this; exact this
                  · exact HHV.out.s1.sub (Nat.le_refl _) (by omega))
                have HLB : Hid (l.length = L) := Lib.hid (HWB.out.len.trans HLA.out)
                have HF : Hid (SwapPost w0 base g cap l (fun l' => SortedOn cmpD l' a b ∧ SwapsOn a b l l') (.returned (.tuple #[])) wo) := Lib.hid (by
                  have ho5 : SortedOn cmpD l mid b := by
                    by_cases q : en ≤ mid
                    · exact (HHV.out.s4.sub q (Nat.le_refl _)).congr (fun k h1 h2 => HWB.out.out (by have := HLA.out; omega) (.inr h1))
                    · exact (HHV.out.s3.sub (Nat.le_refl _) (by omega)).congr (fun k h1 h2 => HWB.out.out (by have := HLA.out; omega) (.inr h1))
                  exact ⟨l, rfl, HSB.out, join_sorted HWB.out (.refl l) (by have := HLA.out; omega) (by omega) HOB.out ho5 HHV.out.x, HWA.out.trans (HWB.out.mono (Nat.le_refl _) (by omega))⟩)
                go_wp2
                go_end0
                exact HF.out
            · skip
              have b2 : decide (mid < en) = false := decide_eq_false (by omega)
              have b2z : ¬ (mid : Int) < (en : Int) := by omega
              have HSA := HS
              have HRO := Lib.hid (rot_triv l (s := s) (m := m) (e := en) (by omega) (by omega) (by omega))
              have HWA : Hid (SwapsOn a b l l) := Lib.hid (.refl l)
              have HLA : Hid (l.length = L) := Lib.hid (HWA.out.len.trans HL.out)
              have HHV : Hid (Halves l a s mid en b) := Lib.hid (by
                have hh := sym_halves (mid := mid) (n := n) (s := s) (lo := lo) (hi := hi) ordr_D HS1.out HS2.out (by omega) (by omega) (by have := HL.out; omega) HMID.out HN.out HCASE.out hlo hhi (fun c x y h1 h2 h3 h4 => by have := HLO.out c x y h1 h2 (by rw [HN1.out]; exact h3) h4; omega) (fun c x y h1 h2 h3 h4 => HHI.out c x y h1 h2 (by rw [HN1.out]; exact h3) h4) (by rw [← HEN.out]; exact HRO.out)
                rw [← HEN.out] at hh
                exact ⟨hh.1, hh.2.1, hh.2.2.1, hh.2.2.2.1, hh.2.2.2.2⟩)
              have HSB := HSA
              have HWB : Hid (SwapsOn a mid l l) := Lib.hid (.refl l)
              have HOB : Hid (SortedOn cmpD l a mid) := Lib.hid (by
                by_cases q : s = a
                · have := HHV.out.s2; rw [q] at this; exact this
                · exact HHV.out.s1.sub (Nat.le_refl _) (by omega))
              have HLB : Hid (l.length = L) := Lib.hid (HWB.out.len.trans HLA.out)
              have HF : Hid (SwapPost w0 base g cap l (fun l' => SortedOn cmpD l' a b ∧ SwapsOn a b l l') (.returned (.tuple #[])) wo) := Lib.hid (by
                have ho5 : SortedOn cmpD l mid b := by
                  by_cases q : en ≤ mid
                  · exact (HHV.out.s4.sub q (Nat.le_refl _)).congr (fun k h1 h2 => HWB.out.out (by have := HLA.out; omega) (.inr h1))
                  · exact (HHV.out.s3.sub (Nat.le_refl _) (by omega)).congr (fun k h1 h2 => HWB.out.out (by have := HLA.out; omega) (.inr h1))
                exact ⟨l, rfl, HSB.out, join_sorted HWB.out (.refl l) (by have := HLA.out; omega) (by omega) HOB.out ho5 HHV.out.x, HWA.out.trans (HWB.out.mono (Nat.le_refl _) (by omega))⟩)
              go_wp2
              go_end0
              exact HF.out
  · skip
    obtain ⟨lo, hlod⟩ : ∃ k, k = a := ⟨_, rfl⟩
    obtain ⟨hi, hhid⟩ : ∃ k, k = m := ⟨_, rfl⟩
    have HCASE : Hid ((mid < m ∧ lo = n - b ∧ hi = mid) ∨ (m ≤ mid ∧ lo = a ∧ hi = m)) := Lib.hid (.inr ⟨by omega, hlod, hhid⟩)
    have hgtb : decide (mid < m) = false := decide_eq_false hgt
    have hgtz : ¬ (mid : Int) < (m : Int) := by omega
    have HLOD := Lib.hid hlod
    have HHID := Lib.hid hhid
    have hlohi : lo ≤ hi := by have := HN.out; omega
    have hd1 : a ≤ lo := by have := HN.out; omega
    have hd2 : hi ≤ m := by omega
    have hd3 : n ≤ lo + b := by have := HN.out; omega
    have hd4 : m + hi ≤ n := by have := HN.out; omega
    have hd5 : hi ≤ b := by omega
    clear hlod hhid
    go_wp2_with fail
    go_loopg [20, 21, 23] (hi - lo) (fun gg s20 s21 _ wr => ∃ s r : Nat, s20 = .int .i64 s ∧ s21 = .int .i64 r ∧ lo ≤ s ∧ s ≤ r ∧ r ≤ hi ∧ r - s ≤ gg ∧ Hid (SD w0 base g cap l wr) ∧ Hid (∀ c x y, lo ≤ c → c < s → l[n1 - c]? = some x → l[c]? = some y → ¬ cmpD x y < 0) ∧ Hid (∀ c x y, r ≤ c → c < hi → l[n1 - c]? = some x → l[c]? = some y → cmpD x y < 0))
    case atStart => exact ⟨lo, hi, by rw [HLOD.out], by rw [HHID.out], by omega, by omega, by omega, by omega, HD, Lib.hid (fun c x y h1 h2 => by omega), Lib.hid (fun c x y h1 h2 => by omega)⟩
    case round =>
      obtain ⟨s, r, rfl, rfl, hlo, hsr, hhi, hg, HS, HLO, HHI⟩ := hrel
      clear HD
      revert HS
      revert wr
      intro wo HS
      by_cases hlt : s < r
      · have hltz : (s : Int) < (r : Int) := by omega
        obtain ⟨c, hc0⟩ : ∃ k, k = (s + r) / 2 := ⟨_, rfl⟩
        obtain ⟨pc, hpc⟩ : ∃ k, k = n1 - c := ⟨_, rfl⟩
        have hcz : ((s : Int) + (r : Int)) / 2 = (c : Int) := by omega
        have hn1v : n1 = n - 1 := HN1.out
        have hnv : n = mid + m := HN.out
        have hpz : IntKind.i64.wrap ((n1 : Int) - (c : Int)) = (pc : Int) := by rw [IntKind.wrap_i64]; omega
        have hcw : IntKind.i64.wrap ((c : Int) + 1) = (c : Int) + 1 := by rw [IntKind.wrap_i64]; omega
        have hc1 : s ≤ c := by omega
        have hc2 : c < r := by omega
        have hpl : pc < L := by omega
        have hcl : c < L := by omega
        obtain ⟨x, hx⟩ : ∃ x, l[pc]? = some x := ⟨_, List.getElem?_eq_getElem (by have := HL.out; omega)⟩
        obtain ⟨y, hy⟩ : ∃ x, l[c]? = some x := ⟨_, List.getElem?_eq_getElem (by have := HL.out; omega)⟩
        obtain ⟨u0, u1, u2⟩ := HS.out.cells hx
        obtain ⟨v0, v1, v2⟩ := HS.out.cells hy
        have k0 : (0 : Int) ≤ (c : Int) := by omega
        have k1 : (c : Int) < (L : Int) := by omega
        have p0 : (0 : Int) ≤ (pc : Int) := by omega
        have p1 : (pc : Int) < (L : Int) := by omega
        have HU := Lib.hid hx
        have HV := Lib.hid hy
        have HPC := Lib.hid hpc
        have HCMP : Hid (∀ W', w0.grownBy W' (some g) → Calls Try.prog 19 #[.agg #[.int .i64 x.time, .slice x.ra x.rn x.rc, .int .i64 x.n], .agg #[.int .i64 y.time, .slice y.ra y.rn y.rc, .int .i64 y.n]] W' (CmpPost W' (cmpD x y))) := Lib.hid (fun W' hg' => cmpD_any x y W' ((HROW.out x (List.mem_of_getElem? hx)).ok hg') ((HROW.out y (List.mem_of_getElem? hy)).ok hg'))
        clear hx hy hc0 hpc hn1v hnv
        go_wp2_with fail
        clear hcz
        by_cases hc : cmpD x y < 0
        · have hcb : decide (cmpD x y < 0) = true := decide_eq_true hc
          have HHI2 : Hid (∀ c' x' y', c ≤ c' → c' < hi → l[n1 - c']? = some x' → l[c']? = some y' → cmpD x' y' < 0) := Lib.hid (fun c' x' y' h1 h2 hx' hy' => by
            have hn1v := HN1.out
            rw [hn1v] at hx'
            exact search_hi ordr_D HS1.out HS2.out hd1 hd2 hd3 hd4 (by omega) h1 h2 (by rw [← hn1v, ← HPC.out]; exact HU.out) HV.out hx' hy' hc)
          clear hc
          refine wp_region_noPanic ?_
          refine wp_region_held_drew (S := fun w' => w'.cell? ⟨g, pc * 3, none⟩ = some (.int .i64 x.time) ∧ w'.cell? ⟨g, pc * 3 + 1, none⟩ = some (.slice x.ra x.rn x.rc) ∧ w'.cell? ⟨g, pc * 3 + 2, none⟩ = some (.int .i64 x.n) ∧ w'.cell? ⟨g, c * 3, none⟩ = some (.int .i64 y.time) ∧ w'.cell? ⟨g, c * 3 + 1, none⟩ = some (.slice y.ra y.rn y.rc) ∧ w'.cell? ⟨g, c * 3 + 2, none⟩ = some (.int .i64 y.n)) (by kernel_rfl) ?_ (fun hHeld => ?_)
          · first | exact ⟨by assumption, by assumption⟩ | go_keep
          refine take_yes (i := 0) (some 158) (v := ?vc0) (by simp only [List.getElem?_toArray, List.getElem?_cons_zero]; exact rfl) rfl (by kernel_rfl) (by kernel_rfl) (by kernel_rfl) (fun _ _ _ h => h) (by rfl) ?hyc0 (by assumption) ?restc0
          case hyc0 => (intro w hSw; (try dsimp only at hSw); go_simp; try with_reducible rfl)
          try simp only [Act.put, List.setIfInBounds_toArray, List.set_cons_zero, List.set_cons_succ]
          refine take_yes (i := 1) (some 159) (v := ?vc1) (by simp only [List.getElem?_toArray, List.getElem?_cons_succ, List.getElem?_cons_zero]; exact rfl) rfl (by kernel_rfl) (by kernel_rfl) (by kernel_rfl) (fun _ _ _ h => h) (by rfl) ?hyc1 (by assumption) ?restc1
          case hyc1 => (intro w hSw; (try dsimp only at hSw); go_simp; try with_reducible rfl)
          try simp only [Act.put, List.setIfInBounds_toArray, List.set_cons_zero, List.set_cons_succ]
          refine take_yes (i := 2) (some 160) (v := ?vc2) (by simp only [List.getElem?_toArray, List.getElem?_cons_succ, List.getElem?_cons_zero]; exact rfl) rfl (by kernel_rfl) (by kernel_rfl) (by kernel_rfl) (fun _ _ _ h => h) (by rfl) ?hyc2 (by assumption) ?restc2
          case hyc2 => (intro w hSw; (try dsimp only at hSw); go_simp; try with_reducible rfl)
          try simp only [Act.put, List.setIfInBounds_toArray, List.set_cons_zero, List.set_cons_succ]
          refine take_yes (i := 3) (some 161) (v := ?vc3) (by simp only [List.getElem?_toArray, List.getElem?_cons_succ, List.getElem?_cons_zero]; exact rfl) rfl (by kernel_rfl) (by kernel_rfl) (by kernel_rfl) (fun _ _ _ h => h) (by rfl) ?hyc3 (by assumption) ?restc3
          case hyc3 => (intro w hSw; (try dsimp only at hSw); go_simp; try with_reducible rfl)
          try simp only [Act.put, List.setIfInBounds_toArray, List.set_cons_zero, List.set_cons_succ]
          refine take_yes (i := 4) (some 162) (v := ?vc4) (by simp only [List.getElem?_toArray, List.getElem?_cons_succ, List.getElem?_cons_zero]; exact rfl) rfl (by kernel_rfl) (by kernel_rfl) (by kernel_rfl) (fun _ _ _ h => h) (by rfl) ?hyc4 (by assumption) ?restc4
          case hyc4 => (intro w hSw; (try dsimp only at hSw); go_simp; try with_reducible rfl)
          try simp only [Act.put, List.setIfInBounds_toArray, List.set_cons_zero, List.set_cons_succ]
          refine take_yes (i := 5) (some 163) (v := ?vc5) (by simp only [List.getElem?_toArray, List.getElem?_cons_succ, List.getElem?_cons_zero]; exact rfl) rfl (by kernel_rfl) (by kernel_rfl) (by kernel_rfl) (fun _ _ _ h => h) (by rfl) ?hyc5 (by assumption) ?restc5
          case hyc5 => (intro w hSw; (try dsimp only at hSw); go_simp; try with_reducible rfl)
          try simp only [Act.put, List.setIfInBounds_toArray, List.set_cons_zero, List.set_cons_succ]
          refine take_yes (i := 6) (some 164) (v := ?vc6) (by simp only [List.getElem?_toArray, List.getElem?_cons_succ, List.getElem?_cons_zero]; exact rfl) rfl (by kernel_rfl) (by kernel_rfl) (by kernel_rfl) (fun _ _ _ h => h) (by rfl) ?hyc6 (by assumption) ?restc6
          case hyc6 => (intro w hSw; (try dsimp only at hSw); go_simp; try with_reducible rfl)
          try simp only [Act.put, List.setIfInBounds_toArray, List.set_cons_zero, List.set_cons_succ]
          refine take_yes (i := 7) (some 165) (v := ?vc7) (by simp only [List.getElem?_toArray, List.getElem?_cons_succ, List.getElem?_cons_zero]; exact rfl) rfl (by kernel_rfl) (by kernel_rfl) (by kernel_rfl) (fun _ _ _ h => h) (by rfl) ?hyc7 (by assumption) ?restc7
          case hyc7 => (intro w hSw; (try dsimp only at hSw); go_simp; try with_reducible rfl)
          try simp only [Act.put, List.setIfInBounds_toArray, List.set_cons_zero, List.set_cons_succ]
          refine take_yes (i := 8) (some 166) (v := ?vc8) (by simp only [List.getElem?_toArray, List.getElem?_cons_succ, List.getElem?_cons_zero]; exact rfl) rfl (by kernel_rfl) (by kernel_rfl) (by kernel_rfl) (fun _ _ _ h => h) (by rfl) ?hyc8 (by assumption) ?restc8
          case hyc8 => (intro w hSw; (try dsimp only at hSw); go_simp; try with_reducible rfl)
          try simp only [Act.put, List.setIfInBounds_toArray, List.set_cons_zero, List.set_cons_succ]
          refine take_yes (i := 9) (some 167) (v := ?vc9) (by simp only [List.getElem?_toArray, List.getElem?_cons_succ, List.getElem?_cons_zero]; exact rfl) rfl (by kernel_rfl) (by kernel_rfl) (by kernel_rfl) (fun _ _ _ h => h) (by rfl) ?hyc9 (by assumption) ?restc9
          case hyc9 => (intro w hSw; (try dsimp only at hSw); go_simp; try with_reducible rfl)
          try simp only [Act.put, List.setIfInBounds_toArray, List.set_cons_zero, List.set_cons_succ]
          refine take_yes (i := 10) (some 168) (v := ?vc10) (by simp only [List.getElem?_toArray, List.getElem?_cons_succ, List.getElem?_cons_zero]; exact rfl) rfl (by kernel_rfl) (by kernel_rfl) (by kernel_rfl) (fun _ _ _ h => h) (by rfl) ?hyc10 (by assumption) ?restc10
          case hyc10 => (intro w hSw; (try dsimp only at hSw); go_simp; try with_reducible rfl)
          try simp only [Act.put, List.setIfInBounds_toArray, List.set_cons_zero, List.set_cons_succ]
          refine wpAnyH_ready (rs := [11]) (by kernel_rfl) (by simp) ?_
          refine AllReadyH.cons rfl (fun K hK => ?_) AllReadyH.nil
          try go_simp
          go_wp2_with (refine (HCMP.out _ HS.out.drew.gr).mono ?_; rintro e w3 ⟨rfl, hb3⟩; have HS3 := Lib.hid (HS.out.drew.below hb3); obtain ⟨x0, x1, x2⟩ := HS3.out.cells HU.out; obtain ⟨y0, y1, y2⟩ := HS3.out.cells HV.out; clear hb3)
          refine hK.out _ _ ?_ (fun hHeld => ?_)
          · go_keep
          clear hK K
          try simp only [Act.put, List.setIfInBounds_toArray, List.set_cons_zero, List.set_cons_succ]
          refine take_yes (i := 12) (some 170) (v := ?vc12) (by simp only [List.getElem?_toArray, List.getElem?_cons_succ, List.getElem?_cons_zero]; exact rfl) rfl (by kernel_rfl) (by kernel_rfl) (by kernel_rfl) (fun _ _ _ h => h) (by rfl) ?hyc12 (by assumption) ?restc12
          case hyc12 => (intro w hSw; (try dsimp only at hSw); go_simp; try with_reducible rfl)
          try simp only [Act.put, List.setIfInBounds_toArray, List.set_cons_zero, List.set_cons_succ]
          refine take_yes (i := 13) (some 171) (v := ?vc13) (by simp only [List.getElem?_toArray, List.getElem?_cons_succ, List.getElem?_cons_zero]; exact rfl) rfl (by kernel_rfl) (by kernel_rfl) (by kernel_rfl) (fun _ _ _ h => h) (by rfl) ?hyc13 (by assumption) ?restc13
          case hyc13 => (intro w hSw; (try dsimp only at hSw); go_simp; try with_reducible rfl)
          try simp only [Act.put, List.setIfInBounds_toArray, List.set_cons_zero, List.set_cons_succ]
          refine wpAnyH_done (by kernel_rfl) ?_ _
          refine NoPanic.normal ?_
          clear hHeld u0 u1 u2 v0 v1 v2 x0 x1 x2 y0 y1 y2 hcb HCMP hpz
          go_wp2
          go_roundg (c - s)
          case measure => omega
          case rel => exact ⟨s, c, rfl, rfl, hlo, hc1, by omega, by omega, HS3, HLO, HHI2⟩
        · have hcb : decide (cmpD x y < 0) = false := decide_eq_false hc
          have HLO2 : Hid (∀ c' x' y', lo ≤ c' → c' < c + 1 → l[n1 - c']? = some x' → l[c']? = some y' → ¬ cmpD x' y' < 0) := Lib.hid (fun c' x' y' h1 h2 hx' hy' => by
            have hn1v := HN1.out
            rw [hn1v] at hx'
            exact search_lo ordr_D HS1.out HS2.out hd1 hd2 hd3 hd4 h1 (by omega) (by omega) (by rw [← hn1v, ← HPC.out]; exact HU.out) HV.out hx' hy' hc)
          clear hc
          refine wp_region_noPanic ?_
          refine wp_region_held_drew (S := fun w' => w'.cell? ⟨g, pc * 3, none⟩ = some (.int .i64 x.time) ∧ w'.cell? ⟨g, pc * 3 + 1, none⟩ = some (.slice x.ra x.rn x.rc) ∧ w'.cell? ⟨g, pc * 3 + 2, none⟩ = some (.int .i64 x.n) ∧ w'.cell? ⟨g, c * 3, none⟩ = some (.int .i64 y.time) ∧ w'.cell? ⟨g, c * 3 + 1, none⟩ = some (.slice y.ra y.rn y.rc) ∧ w'.cell? ⟨g, c * 3 + 2, none⟩ = some (.int .i64 y.n)) (by kernel_rfl) ?_ (fun hHeld => ?_)
          · first | exact ⟨by assumption, by assumption⟩ | go_keep
          refine take_yes (i := 0) (some 158) (v := ?vd0) (by simp only [List.getElem?_toArray, List.getElem?_cons_zero]; exact rfl) rfl (by kernel_rfl) (by kernel_rfl) (by kernel_rfl) (fun _ _ _ h => h) (by rfl) ?hyd0 (by assumption) ?restd0
          case hyd0 => (intro w hSw; (try dsimp only at hSw); go_simp; try with_reducible rfl)
          try simp only [Act.put, List.setIfInBounds_toArray, List.set_cons_zero, List.set_cons_succ]
          refine take_yes (i := 1) (some 159) (v := ?vd1) (by simp only [List.getElem?_toArray, List.getElem?_cons_succ, List.getElem?_cons_zero]; exact rfl) rfl (by kernel_rfl) (by kernel_rfl) (by kernel_rfl) (fun _ _ _ h => h) (by rfl) ?hyd1 (by assumption) ?restd1
          case hyd1 => (intro w hSw; (try dsimp only at hSw); go_simp; try with_reducible rfl)
          try simp only [Act.put, List.setIfInBounds_toArray, List.set_cons_zero, List.set_cons_succ]
          refine take_yes (i := 2) (some 160) (v := ?vd2) (by simp only [List.getElem?_toArray, List.getElem?_cons_succ, List.getElem?_cons_zero]; exact rfl) rfl (by kernel_rfl) (by kernel_rfl) (by kernel_rfl) (fun _ _ _ h => h) (by rfl) ?hyd2 (by assumption) ?restd2
          case hyd2 => (intro w hSw; (try dsimp only at hSw); go_simp; try with_reducible rfl)
          try simp only [Act.put, List.setIfInBounds_toArray, List.set_cons_zero, List.set_cons_succ]
          refine take_yes (i := 3) (some 161) (v := ?vd3) (by simp only [List.getElem?_toArray, List.getElem?_cons_succ, List.getElem?_cons_zero]; exact rfl) rfl (by kernel_rfl) (by kernel_rfl) (by kernel_rfl) (fun _ _ _ h => h) (by rfl) ?hyd3 (by assumption) ?restd3
          case hyd3 => (intro w hSw; (try dsimp only at hSw); go_simp; try with_reducible rfl)
          try simp only [Act.put, List.setIfInBounds_toArray, List.set_cons_zero, List.set_cons_succ]
          refine take_yes (i := 4) (some 162) (v := ?vd4) (by simp only [List.getElem?_toArray, List.getElem?_cons_succ, List.getElem?_cons_zero]; exact rfl) rfl (by kernel_rfl) (by kernel_rfl) (by kernel_rfl) (fun _ _ _ h => h) (by rfl) ?hyd4 (by assumption) ?restd4
          case hyd4 => (intro w hSw; (try dsimp only at hSw); go_simp; try with_reducible rfl)
          try simp only [Act.put, List.setIfInBounds_toArray, List.set_cons_zero, List.set_cons_succ]
          refine take_yes (i := 5) (some 163) (v := ?vd5) (by simp only [List.getElem?_toArray, List.getElem?_cons_succ, List.getElem?_cons_zero]; exact rfl) rfl (by kernel_rfl) (by kernel_rfl) (by kernel_rfl) (fun _ _ _ h => h) (by rfl) ?hyd5 (by assumption) ?restd5
          case hyd5 => (intro w hSw; (try dsimp only at hSw); go_simp; try with_reducible rfl)
          try simp only [Act.put, List.setIfInBounds_toArray, List.set_cons_zero, List.set_cons_succ]
          refine take_yes (i := 6) (some 164) (v := ?vd6) (by simp only [List.getElem?_toArray, List.getElem?_cons_succ, List.getElem?_cons_zero]; exact rfl) rfl (by kernel_rfl) (by kernel_rfl) (by kernel_rfl) (fun _ _ _ h => h) (by rfl) ?hyd6 (by assumption) ?restd6
          case hyd6 => (intro w hSw; (try dsimp only at hSw); go_simp; try with_reducible rfl)
          try simp only [Act.put, List.setIfInBounds_toArray, List.set_cons_zero, List.set_cons_succ]
          refine take_yes (i := 7) (some 165) (v := ?vd7) (by simp only [List.getElem?_toArray, List.getElem?_cons_succ, List.getElem?_cons_zero]; exact rfl) rfl (by kernel_rfl) (by kernel_rfl) (by kernel_rfl) (fun _ _ _ h => h) (by rfl) ?hyd7 (by assumption) ?restd7
          case hyd7 => (intro w hSw; (try dsimp only at hSw); go_simp; try with_reducible rfl)
          try simp only [Act.put, List.setIfInBounds_toArray, List.set_cons_zero, List.set_cons_succ]
          refine take_yes (i := 8) (some 166) (v := ?vd8) (by simp only [List.getElem?_toArray, List.getElem?_cons_succ, List.getElem?_cons_zero]; exact rfl) rfl (by kernel_rfl) (by kernel_rfl) (by kernel_rfl) (fun _ _ _ h => h) (by rfl) ?hyd8 (by assumption) ?restd8
          case hyd8 => (intro w hSw; (try dsimp only at hSw); go_simp; try with_reducible rfl)
          try simp only [Act.put, List.setIfInBounds_toArray, List.set_cons_zero, List.set_cons_succ]
          refine take_yes (i := 9) (some 167) (v := ?vd9) (by simp only [List.getElem?_toArray, List.getElem?_cons_succ, List.getElem?_cons_zero]; exact rfl) rfl (by kernel_rfl) (by kernel_rfl) (by kernel_rfl) (fun _ _ _ h => h) (by rfl) ?hyd9 (by assumption) ?restd9
          case hyd9 => (intro w hSw; (try dsimp only at hSw); go_simp; try with_reducible rfl)
          try simp only [Act.put, List.setIfInBounds_toArray, List.set_cons_zero, List.set_cons_succ]
          refine take_yes (i := 10) (some 168) (v := ?vd10) (by simp only [List.getElem?_toArray, List.getElem?_cons_succ, List.getElem?_cons_zero]; exact rfl) rfl (by kernel_rfl) (by kernel_rfl) (by kernel_rfl) (fun _ _ _ h => h) (by rfl) ?hyd10 (by assumption) ?restd10
          case hyd10 => (intro w hSw; (try dsimp only at hSw); go_simp; try with_reducible rfl)
          try simp only [Act.put, List.setIfInBounds_toArray, List.set_cons_zero, List.set_cons_succ]
          refine wpAnyH_ready (rs := [11]) (by kernel_rfl) (by simp) ?_
          refine AllReadyH.cons rfl (fun K hK => ?_) AllReadyH.nil
          try go_simp
          go_wp2_with (refine (HCMP.out _ HS.out.drew.gr).mono ?_; rintro e w3 ⟨rfl, hb3⟩; have HS3 := Lib.hid (HS.out.drew.below hb3); obtain ⟨x0, x1, x2⟩ := HS3.out.cells HU.out; obtain ⟨y0, y1, y2⟩ := HS3.out.cells HV.out; clear hb3)
          refine hK.out _ _ ?_ (fun hHeld => ?_)
          · go_keep
          clear hK K
          try simp only [Act.put, List.setIfInBounds_toArray, List.set_cons_zero, List.set_cons_succ]
          refine take_yes (i := 12) (some 170) (v := ?vd12) (by simp only [List.getElem?_toArray, List.getElem?_cons_succ, List.getElem?_cons_zero]; exact rfl) rfl (by kernel_rfl) (by kernel_rfl) (by kernel_rfl) (fun _ _ _ h => h) (by rfl) ?hyd12 (by assumption) ?restd12
          case hyd12 => (intro w hSw; (try dsimp only at hSw); go_simp; try with_reducible rfl)
          try simp only [Act.put, List.setIfInBounds_toArray, List.set_cons_zero, List.set_cons_succ]
          refine take_yes (i := 13) (some 171) (v := ?vd13) (by simp only [List.getElem?_toArray, List.getElem?_cons_succ, List.getElem?_cons_zero]; exact rfl) rfl (by kernel_rfl) (by kernel_rfl) (by kernel_rfl) (fun _ _ _ h => h) (by rfl) ?hyd13 (by assumption) ?restd13
          case hyd13 => (intro w hSw; (try dsimp only at hSw); go_simp; try with_reducible rfl)
          try simp only [Act.put, List.setIfInBounds_toArray, List.set_cons_zero, List.set_cons_succ]
          refine wpAnyH_done (by kernel_rfl) ?_ _
          refine NoPanic.normal ?_
          clear hHeld u0 u1 u2 v0 v1 v2 x0 x1 x2 y0 y1 y2 hcb HCMP hpz
          go_wp2
          go_roundg (r - (c + 1))
          case measure => omega
          case rel => exact ⟨c + 1, r, by go_num, rfl, by omega, by omega, hhi, by omega, HS3, HLO2, HHI⟩
      · have hltz : ¬ (s : Int) < (r : Int) := by omega
        obtain rfl : s = r := by omega
        clear hlt
        obtain ⟨en, hen⟩ : ∃ k, k = n - s := ⟨_, rfl⟩
        have hnv : n = mid + m := HN.out
        have henz : (n : Int) - (s : Int) = (en : Int) := by omega
        have HEN := Lib.hid hen
        have hsm : s ≤ m := by omega
        have hme : m ≤ en := by omega
        have heb : en ≤ b := by omega
        have has : a ≤ s := by omega
        have hmid3 : (a + b) / 2 = mid := HMID.out.symm
        have HLO : Hid (∀ c x y, lo ≤ c → c < s → l[n1 - c]? = some x → l[c]? = some y → ¬ cmpD x y < 0) := Lib.hid (fun c x y h1 h2 h3 h4 => by have := HLO.out c x y h1 h2 h3 h4; omega)
        clear hen hnv hg hmid3
        by_cases p0 : s < m
        · by_cases r0 : m < en
          · skip
            have b0 : decide (s < m) = true := decide_eq_true (by omega)
            have b0z : (s : Int) < (m : Int) := by omega
            have c0 : decide (m < en) = true := decide_eq_true (by omega)
            have c0z : (m : Int) < (en : Int) := by omega
            by_cases p1 : a < s
            · by_cases r1 : s < mid
              · skip
                have b1 : decide (a < s) = true := decide_eq_true (by omega)
                have b1z : (a : Int) < (s : Int) := by omega
                have c1 : decide (s < mid) = true := decide_eq_true (by omega)
                have c1z : (s : Int) < (mid : Int) := by omega
                by_cases p2 : mid < en
                · by_cases r2 : en < b
                  · skip
                    have b2 : decide (mid < en) = true := decide_eq_true (by omega)
                    have b2z : (mid : Int) < (en : Int) := by omega
                    have c2 : decide (en < b) = true := decide_eq_true (by omega)
                    have c2z : (en : Int) < (b : Int) := by omega
                    go_wp2_with fail
                    refine (rotate_at w0 base g cap l L s m en _ _ _ _ _ HS.out HL.out rfl rfl rfl hl (by omega) (by omega) (by omega)).mono ?_
                    rintro e w3 ⟨l1, rfl, hs3, hro, hw3⟩
                    have HSA := Lib.hid hs3
                    have HRO := Lib.hid hro
                    have HWA := Lib.hid (hw3.mono (show a ≤ s by omega) (show en ≤ b by omega))
                    clear hs3 hro hw3
                    have HLA : Hid (l1.length = L) := Lib.hid (HWA.out.len.trans HL.out)
                    have HHV : Hid (Halves l1 a s mid en b) := Lib.hid (by
                      have hh := sym_halves (mid := mid) (n := n) (s := s) (lo := lo) (hi := hi) ordr_D HS1.out HS2.out (by omega) (by omega) (by have := HL.out; omega) HMID.out HN.out HCASE.out hlo hhi (fun c x y h1 h2 h3 h4 => by have := HLO.out c x y h1 h2 (by rw [HN1.out]; exact h3) h4; omega) (fun c x y h1 h2 h3 h4 => HHI.out c x y h1 h2 (by rw [HN1.out]; exact h3) h4) (by rw [← HEN.out]; exact HRO.out)
                      rw [← HEN.out] at hh
                      exact ⟨hh.1, hh.2.1, hh.2.2.1, hh.2.2.2.1, hh.2.2.2.2⟩)
                    go_wp2_with fail
                    refine (HIH.out w0 base g cap l1 L a s mid _ _ _ _ HSA.out (HWA.out.all HROW.out) HLA.out rfl rfl rfl hl (by omega) (by omega) (by omega) (by omega) HHV.out.s1 HHV.out.s2).mono ?_
                    rintro e w4 ⟨l2, rfl, hs4, ho4, hw4⟩
                    have HSB := Lib.hid hs4
                    have HOB := Lib.hid ho4
                    have HWB := Lib.hid hw4
                    clear hs4 ho4 hw4
                    have HLB : Hid (l2.length = L) := Lib.hid (HWB.out.len.trans HLA.out)
                    go_wp2_with fail
                    refine (HIH.out w0 base g cap l2 L mid en b _ _ _ _ HSB.out (HWB.out.all (HWA.out.all HROW.out)) HLB.out rfl rfl rfl hl (by omega) (by omega) (by omega) (by omega) (HHV.out.s3.congr (fun k h1 h2 => HWB.out.out (by have := HLA.out; omega) (.inr h1))) (HHV.out.s4.congr (fun k h1 h2 => HWB.out.out (by have := HLA.out; omega) (.inr (by omega))))).mono ?_
                    rintro e w5 ⟨l3, rfl, hs5, ho5, hw5⟩
                    have HF : Hid (SwapPost w0 base g cap l (fun l' => SortedOn cmpD l' a b ∧ SwapsOn a b l l') (.returned (.tuple #[])) w5) := Lib.hid ⟨l3, rfl, hs5, join_sorted HWB.out hw5 (by have := HLA.out; omega) (by omega) HOB.out ho5 HHV.out.x, HWA.out.trans ((HWB.out.mono (Nat.le_refl _) (by omega)).trans (hw5.mono (by omega) (Nat.le_refl _)))⟩
                    clear hs5 ho5 hw5
                    go_wp2
                    go_end0
                    exact HF.out
                  · skip
                    have b2 : decide (mid < en) = true := decide_eq_true (by omega)
                    have b2z : (mid : Int) < (en : Int) := by omega
                    have c2 : decide (en < b) = false := decide_eq_false (by omega)
                    have c2z : ¬ (en : Int) < (b : Int) := by omega
                    go_wp2_with fail
                    refine (rotate_at w0 base g cap l L s m en _ _ _ _ _ HS.out HL.out rfl rfl rfl hl (by omega) (by omega) (by omega)).mono ?_
                    rintro e w3 ⟨l1, rfl, hs3, hro, hw3⟩
                    have HSA := Lib.hid hs3
                    have HRO := Lib.hid hro
                    have HWA := Lib.hid (hw3.mono (show a ≤ s by omega) (show en ≤ b by omega))
                    clear hs3 hro hw3
                    have HLA : Hid (l1.length = L) := Lib.hid (HWA.out.len.trans HL.out)
                    have HHV : Hid (Halves l1 a s mid en b) := Lib.hid (by
                      have hh := sym_halves (mid := mid) (n := n) (s := s) (lo := lo) (hi := hi) ordr_D HS1.out HS2.out (by omega) (by omega) (by have := HL.out; omega) HMID.out HN.out HCASE.out hlo hhi (fun c x y h1 h2 h3 h4 => by have := HLO.out c x y h1 h2 (by rw [HN1.out]; exact h3) h4; omega) (fun c x y h1 h2 h3 h4 => HHI.out c x y h1 h2 (by rw [HN1.out]; exact h3) h4) (by rw [← HEN.out]; exact HRO.out)
                      rw [← HEN.out] at hh
                      exact ⟨hh.1, hh.2.1, hh.2.2.1, hh.2.2.2.1, hh.2.2.2.2⟩)
                    go_wp2_with fail
                    refine (HIH.out w0 base g cap l1 L a s mid _ _ _ _ HSA.out (HWA.out.all HROW.out) HLA.out rfl rfl rfl hl (by omega) (by omega) (by omega) (by omega) HHV.out.s1 HHV.out.s2).mono ?_
                    rintro e w4 ⟨l2, rfl, hs4, ho4, hw4⟩
                    have HSB := Lib.hid hs4
                    have HOB := Lib.hid ho4
                    have HWB := Lib.hid hw4
                    clear hs4 ho4 hw4
                    have HLB : Hid (l2.length = L) := Lib.hid (HWB.out.len.trans HLA.out)
                    have HF : Hid (SwapPost w0 base g cap l (fun l' => SortedOn cmpD l' a b ∧ SwapsOn a b l l') (.returned (.tuple #[])) w4) := Lib.hid (by
                      have ho5 : SortedOn cmpD l2 mid b := by
                        by_cases q : en ≤ mid
                        · exact (HHV.out.s4.sub q (Nat.le_refl _)).congr (fun k h1 h2 => HWB.out.out (by have := HLA.out; omega) (.inr h1))
                        · exact (HHV.out.s3.sub (Nat.le_refl _) (by omega)).congr (fun k h1 h2 => HWB.out.out (by have := HLA.out; omega) (.inr h1))
                      exact ⟨l2, rfl, HSB.out, join_sorted HWB.out (.refl l2) (by have := HLA.out; omega) (by omega) HOB.out ho5 HHV.out.x, HWA.out.trans (HWB.out.mono (Nat.le_refl _) (by omega))⟩)
                    go_wp2
                    go_end0
                    exact HF.out
                · skip
                  have b2 : decide (mid < en) = false := decide_eq_false (by omega)
                  have b2z : ¬ (mid : Int) < (en : Int) := by omega
                  go_wp2_with fail
                  refine (rotate_at w0 base g cap l L s m en _ _ _ _ _ HS.out HL.out rfl rfl rfl hl (by omega) (by omega) (by omega)).mono ?_
                  rintro e w3 ⟨l1, rfl, hs3, hro, hw3⟩
                  have HSA := Lib.hid hs3
                  have HRO := Lib.hid hro
                  have HWA := Lib.hid (hw3.mono (show a ≤ s by omega) (show en ≤ b by omega))
                  clear hs3 hro hw3
                  have HLA : Hid (l1.length = L) := Lib.hid (HWA.out.len.trans HL.out)
                  have HHV : Hid (Halves l1 a s mid en b) := Lib.hid (by
                    have hh := sym_halves (mid := mid) (n := n) (s := s) (lo := lo) (hi := hi) ordr_D HS1.out HS2.out (by omega) (by omega) (by have := HL.out; omega) HMID.out HN.out HCASE.out hlo hhi (fun c x y h1 h2 h3 h4 => by have := HLO.out c x y h1 h2 (by rw [HN1.out]; exact h3) h4; omega) (fun c x y h1 h2 h3 h4 => HHI.out c x y h1 h2 (by rw [HN1.out]; exact h3) h4) (by rw [← HEN.out]; exact HRO.out)
                    rw [← HEN.out] at hh
                    exact ⟨hh.1, hh.2.1, hh.2.2.1, hh.2.2.2.1, hh.2.2.2.2⟩)
                  go_wp2_with fail
                  refine (HIH.out w0 base g cap l1 L a s mid _ _ _ _ HSA.out (HWA.out.all HROW.out) HLA.out rfl rfl rfl hl (by omega) (by omega) (by omega) (by omega) HHV.out.s1 HHV.out.s2).mono ?_
                  rintro e w4 ⟨l2, rfl, hs4, ho4, hw4⟩
                  have HSB := Lib.hid hs4
                  have HOB := Lib.hid ho4
                  have HWB := Lib.hid hw4
                  clear hs4 ho4 hw4
                  have HLB : Hid (l2.length = L) := Lib.hid (HWB.out.len.trans HLA.out)
                  have HF : Hid (SwapPost w0 base g cap l (fun l' => SortedOn cmpD l' a b ∧ SwapsOn a b l l') (.returned (.tuple #[])) w4) := Lib.hid (by
                    have ho5 : SortedOn cmpD l2 mid b := by
                      by_cases q : en ≤ mid
                      · exact (HHV.out.s4.sub q (Nat.le_refl _)).congr (fun k h1 h2 => HWB.out.out (by have := HLA.out; omega) (.inr h1))
                      · exact (HHV.out.s3.sub (Nat.le_refl _) (by omega)).congr (fun k h1 h2 => HWB.out.out (by have := HLA.out; omega) (.inr h1))
                    exact ⟨l2, rfl, HSB.out, join_sorted HWB.out (.refl l2) (by have := HLA.out; omega) (by omega) HOB.out ho5 HHV.out.x, HWA.out.trans (HWB.out.mono (Nat.le_refl _) (by omega))⟩)
                  go_wp2
                  go_end0
                  exact HF.out
              · skip
                have b1 : decide (a < s) = true := decide_eq_true (by omega)
                have b1z : (a : Int) < (s : Int) := by omega
                have c1 : decide (s < mid) = false := decide_eq_false (by omega)
                have c1z : ¬ (s : Int) < (mid : Int) := by omega
                by_cases p2 : mid < en
                · by_cases r2 : en < b
                  · skip
                    have b2 : decide (mid < en) = true := decide_eq_true (by omega)
                    have b2z : (mid : Int) < (en : Int) := by omega
                    have c2 : decide (en < b) = true := decide_eq_true (by omega)
                    have c2z : (en : Int) < (b : Int) := by omega
                    go_wp2_with fail
                    refine (rotate_at w0 base g cap l L s m en _ _ _ _ _ HS.out HL.out rfl rfl rfl hl (by omega) (by omega) (by omega)).mono ?_
                    rintro e w3 ⟨l1, rfl, hs3, hro, hw3⟩
                    have HSA := Lib.hid hs3
                    have HRO := Lib.hid hro
                    have HWA := Lib.hid (hw3.mono (show a ≤ s by omega) (show en ≤ b by omega))
                    clear hs3 hro hw3
                    have HLA : Hid (l1.length = L) := Lib.hid (HWA.out.len.trans HL.out)
                    have HHV : Hid (Halves l1 a s mid en b) := Lib.hid (by
                      have hh := sym_halves (mid := mid) (n := n) (s := s) (lo := lo) (hi := hi) ordr_D HS1.out HS2.out (by omega) (by omega) (by have := HL.out; omega) HMID.out HN.out HCASE.out hlo hhi (fun c x y h1 h2 h3 h4 => by have := HLO.out c x y h1 h2 (by rw [HN1.out]; exact h3) h4; omega) (fun c x y h1 h2 h3 h4 => HHI.out c x y h1 h2 (by rw [HN1.out]; exact h3) h4) (by rw [← HEN.out]; exact HRO.out)
                      rw [← HEN.out] at hh
                      exact ⟨hh.1, hh.2.1, hh.2.2.1, hh.2.2.2.1, hh.2.2.2.2⟩)
                    have HSB := HSA
                    have HWB : Hid (SwapsOn a mid l1 l1) := Lib.hid (.refl l1)
                    have HOB : Hid (SortedOn cmpD l1 a mid) := Lib.hid (by
                      by_cases q : s = a
                      · have := HHV.out.s2; rw [q] at this; exact this
                      · exact HHV.out.s1.sub (Nat.le_refl _) (by omega))
                    have HLB : Hid (l1.length = L) := Lib.hid (HWB.out.len.trans HLA.out)
                    go_wp2_with fail
                    refine (HIH.out w0 base g cap l1 L mid en b _ _ _ _ HSB.out (HWB.out.all (HWA.out.all HROW.out)) HLB.out rfl rfl rfl hl (by omega) (by omega) (by omega) (by omega) (HHV.out.s3.congr (fun k h1 h2 => HWB.out.out (by have := HLA.out; omega) (.inr h1))) (HHV.out.s4.congr (fun k h1 h2 => HWB.out.out (by have := HLA.out; omega) (.inr (by omega))))).mono ?_
                    rintro e w5 ⟨l3, rfl, hs5, ho5, hw5⟩
                    have HF : Hid (SwapPost w0 base g cap l (fun l' => SortedOn cmpD l' a b ∧ SwapsOn a b l l') (.returned (.tuple #[])) w5) := Lib.hid ⟨l3, rfl, hs5, join_sorted HWB.out hw5 (by have := HLA.out; omega) (by omega) HOB.out ho5 HHV.out.x, HWA.out.trans ((HWB.out.mono (Nat.le_refl _) (by omega)).trans (hw5.mono (by omega) (Nat.le_refl _)))⟩
                    clear hs5 ho5 hw5
                    go_wp2
                    go_end0
                    exact HF.out
                  · skip
                    have b2 : decide (mid < en) = true := decide_eq_true (by omega)
                    have b2z : (mid : Int) < (en : Int) := by omega
                    have c2 : decide (en < b) = false := decide_eq_false (by omega)
                    have c2z : ¬ (en : Int) < (b : Int) := by omega
                    go_wp2_with fail
                    refine (rotate_at w0 base g cap l L s m en _ _ _ _ _ HS.out HL.out rfl rfl rfl hl (by omega) (by omega) (by omega)).mono ?_
                    rintro e w3 ⟨l1, rfl, hs3, hro, hw3⟩
                    have HSA := Lib.hid hs3
                    have HRO := Lib.hid hro
                    have HWA := Lib.hid (hw3.mono (show a ≤ s by omega) (show en ≤ b by omega))
                    clear hs3 hro hw3
                    have HLA : Hid (l1.length = L) := Lib.hid (HWA.out.len.trans HL.out)
                    have HHV : Hid (Halves l1 a s mid en b) := Lib.hid (by
                      have hh := sym_halves (mid := mid) (n := n) (s := s) (lo := lo) (hi := hi) ordr_D HS1.out HS2.out (by omega) (by omega) (by have := HL.out; omega) HMID.out HN.out HCASE.out hlo hhi (fun c x y h1 h2 h3 h4 => by have := HLO.out c x y h1 h2 (by rw [HN1.out]; exact h3) h4; omega) (fun c x y h1 h2 h3 h4 => HHI.out c x y h1 h2 (by rw [HN1.out]; exact h3) h4) (by rw [← HEN.out]; exact HRO.out)
                      rw [← HEN.out] at hh
                      exact ⟨hh.1, hh.2.1, hh.2.2.1, hh.2.2.2.1, hh.2.2.2.2⟩)
                    have HSB := HSA
                    have HWB : Hid (SwapsOn a mid l1 l1) := Lib.hid (.refl l1)
                    have HOB : Hid (SortedOn cmpD l1 a mid) := Lib.hid (by
                      by_cases q : s = a
                      · have := HHV.out.s2; rw [q] at this; exact this
                      · exact HHV.out.s1.sub (Nat.le_refl _) (by omega))
                    have HLB : Hid (l1.length = L) := Lib.hid (HWB.out.len.trans HLA.out)
                    have HF : Hid (SwapPost w0 base g cap l (fun l' => SortedOn cmpD l' a b ∧ SwapsOn a b l l') (.returned (.tuple #[])) w3) := Lib.hid (by
                      have ho5 : SortedOn cmpD l1 mid b := by
                        by_cases q : en ≤ mid
                        · exact (HHV.out.s4.sub q (Nat.le_refl _)).congr (fun k h1 h2 => HWB.out.out (by have := HLA.out; omega) (.inr h1))
                        · exact (HHV.out.s3.sub (Nat.le_refl _) (by omega)).congr (fun k h1 h2 => HWB.out.out (by have := HLA.out; omega) (.inr h1))
                      exact ⟨l1, rfl, HSB.out, join_sorted HWB.out (.refl l1) (by have := HLA.out; omega) (by omega) HOB.out ho5 HHV.out.x, HWA.out.trans (HWB.out.mono (Nat.le_refl _) (by omega))⟩)
                    go_wp2
                    go_end0
                    exact HF.out
                · skip
                  have b2 : decide (mid < en) = false := decide_eq_false (by omega)
                  have b2z : ¬ (mid : Int) < (en : Int) := by omega
                  go_wp2_with fail
                  refine (rotate_at w0 base g cap l L s m en _ _ _ _ _ HS.out HL.out rfl rfl rfl hl (by omega) (by omega) (by omega)).mono ?_
                  rintro e w3 ⟨l1, rfl, hs3, hro, hw3⟩
                  have HSA := Lib.hid hs3
                  have HRO := Lib.hid hro
                  have HWA := Lib.hid (hw3.mono (show a ≤ s by omega) (show en ≤ b by omega))
                  clear hs3 hro hw3
                  have HLA : Hid (l1.length = L) := Lib.hid (HWA.out.len.trans HL.out)
                  have HHV : Hid (Halves l1 a s mid en b) := Lib.hid (by
                    have hh := sym_halves (mid := mid) (n := n) (s := s) (lo := lo) (hi := hi) ordr_D HS1.out HS2.out (by omega) (by omega) (by have := HL.out; omega) HMID.out HN.out HCASE.out hlo hhi (fun c x y h1 h2 h3 h4 => by have := HLO.out c x y h1 h2 (by rw [HN1.out]; exact h3) h4; omega) (fun c x y h1 h2 h3 h4 => HHI.out c x y h1 h2 (by rw [HN1.out]; exact h3) h4) (by rw [← HEN.out]; exact HRO.out)
                    rw [← HEN.out] at hh
                    exact ⟨hh.1, hh.2.1, hh.2.2.1, hh.2.2.2.1, hh.2.2.2.2⟩)
                  have HSB := HSA
                  have HWB : Hid (SwapsOn a mid l1 l1) := Lib.hid (.refl l1)
                  have HOB : Hid (SortedOn cmpD l1 a mid) := Lib.hid (by
                    by_cases q : s = a
                    · have := HHV.out.s2; rw [q] at this; exact this
                    · exact HHV.out.s1.sub (Nat.le_refl _) (by omega))
                  have HLB : Hid (l1.length = L) := Lib.hid (HWB.out.len.trans HLA.out)
                  have HF : Hid (SwapPost w0 base g cap l (fun l' => SortedOn cmpD l' a b ∧ SwapsOn a b l l') (.returned (.tuple #[])) w3) := Lib.hid (by
                    have ho5 : SortedOn cmpD l1 mid b := by
                      by_cases q : en ≤ mid
                      · exact (HHV.out.s4.sub q (Nat.le_refl _)).congr (fun k h1 h2 => HWB.out.out (by have := HLA.out; omega) (.inr h1))
                      · exact (HHV.out.s3.sub (Nat.le_refl _) (by omega)).congr (fun k h1 h2 => HWB.out.out (by have := HLA.out; omega) (.inr h1))
                    exact ⟨l1, rfl, HSB.out, join_sorted HWB.out (.refl l1) (by have := HLA.out; omega) (by omega) HOB.out ho5 HHV.out.x, HWA.out.trans (HWB.out.mono (Nat.le_refl _) (by omega))⟩)
                  go_wp2
                  go_end0
                  exact HF.out
            · skip
              have b1 : decide (a < s) = false := decide_eq_false (by omega)
              have b1z : ¬ (a : Int) < (s : Int) := by omega
              by_cases p2 : mid < en
              · by_cases r2 : en < b
                · skip
                  have b2 : decide (mid < en) = true := decide_eq_true (by omega)
                  have b2z : (mid : Int) < (en : Int) := by omega
                  have c2 : decide (en < b) = true := decide_eq_true (by omega)
                  have c2z : (en : Int) < (b : Int) := by omega
                  go_wp2_with fail
                  refine (rotate_at w0 base g cap l L s m en _ _ _ _ _ HS.out HL.out rfl rfl rfl hl (by omega) (by omega) (by omega)).mono ?_
                  rintro e w3 ⟨l1, rfl, hs3, hro, hw3⟩
                  have HSA := Lib.hid hs3
                  have HRO := Lib.hid hro
                  have HWA := Lib.hid (hw3.mono (show a ≤ s by omega) (show en ≤ b by omega))
                  clear hs3 hro hw3
                  have HLA : Hid (l1.length = L) := Lib.hid (HWA.out.len.trans HL.out)
                  have HHV : Hid (Halves l1 a s mid en b) := Lib.hid (by
                    have hh := sym_halves (mid := mid) (n := n) (s := s) (lo := lo) (hi := hi) ordr_D HS1.out HS2.out (by omega) (by omega) (by have := HL.out; omega) HMID.out HN.out HCASE.out hlo hhi (fun c x y h1 h2 h3 h4 => by have := HLO.out c x y h1 h2 (by rw [HN1.out]; exact h3) h4; omega) (fun c x y h1 h2 h3 h4 => HHI.out c x y h1 h2 (by rw [HN1.out]; exact h3) h4) (by rw [← HEN.out]; exact HRO.out)
                    rw [← HEN.out] at hh
                    exact ⟨hh.1, hh.2.1, hh.2.2.1, hh.2.2.2.1, hh.2.2.2.2⟩)
                  have HSB := HSA
                  have HWB : Hid (SwapsOn a mid l1 l1) := Lib.hid (.refl l1)
                  have HOB : Hid (SortedOn cmpD l1 a mid) := Lib.hid (by
                    by_cases q : s = a
                    · have := HHV.out.s2; rw [q] at this; exact this
                    · exact HHV.out.s1.sub (Nat.le_refl _) (by omega))
                  have HLB : Hid (l1.length = L) := Lib.hid (HWB.out.len.trans HLA.out)
                  go_wp2_with fail
                  refine (HIH.out w0 base g cap l1 L mid en b _ _ _ _ HSB.out (HWB.out.all (HWA.out.all HROW.out)) HLB.out rfl rfl rfl hl (by omega) (by omega) (by omega) (by omega) (HHV.out.s3.congr (fun k h1 h2 => HWB.out.out (by have := HLA.out; omega) (.inr h1))) (HHV.out.s4.congr (fun k h1 h2 => HWB.out.out (by have := HLA.out; omega) (.inr (by omega))))).mono ?_
                  rintro e w5 ⟨l3, rfl, hs5, ho5, hw5⟩
                  have HF : Hid (SwapPost w0 base g cap l (fun l' => SortedOn cmpD l' a b ∧ SwapsOn a b l l') (.returned (.tuple #[])) w5) := Lib.hid ⟨l3, rfl, hs5, join_sorted HWB.out hw5 (by have := HLA.out; omega) (by omega) HOB.out ho5 HHV.out.x, HWA.out.trans ((HWB.out.mono (Nat.le_refl _) (by omega)).trans (hw5.mono (by omega) (Nat.le_refl _)))⟩
                  clear hs5 ho5 hw5
                  go_wp2
                  go_end0
                  exact HF.out
                · skip
                  have b2 : decide (mid < en) = true := decide_eq_true (by omega)
                  have b2z : (mid : Int) < (en : Int) := by omega
                  have c2 : decide (en < b) = false := decide_eq_false (by omega)
                  have c2z : ¬ (en : Int) < (b : Int) := by omega
                  go_wp2_with fail
                  refine (rotate_at w0 base g cap l L s m en _ _ _ _ _ HS.out HL.out rfl rfl rfl hl (by omega) (by omega) (by omega)).mono ?_
                  rintro e w3 ⟨l1, rfl, hs3, hro, hw3⟩
                  have HSA := Lib.hid hs3
                  have HRO := Lib.hid hro
                  have HWA := Lib.hid (hw3.mono (show a ≤ s by omega) (show en ≤ b by omega))
                  clear hs3 hro hw3
                  have HLA : Hid (l1.length = L) := Lib.hid (HWA.out.len.trans HL.out)
                  have HHV : Hid (Halves l1 a s mid en b) := Lib.hid (by
                    have hh := sym_halves (mid := mid) (n := n) (s := s) (lo := lo) (hi := hi) ordr_D HS1.out HS2.out (by omega) (by omega) (by have := HL.out; omega) HMID.out HN.out HCASE.out hlo hhi (fun c x y h1 h2 h3 h4 => by have := HLO.out c x y h1 h2 (by rw [HN1.out]; exact h3) h4; omega) (fun c x y h1 h2 h3 h4 => HHI.out c x y h1 h2 (by rw [HN1.out]; exact h3) h4) (by rw [← HEN.out]; exact HRO.out)
                    rw [← HEN.out] at hh
                    exact ⟨hh.1, hh.2.1, hh.2.2.1, hh.2.2.2.1, hh.2.2.2.2⟩)
                  have HSB := HSA
                  have HWB : Hid (SwapsOn a mid l1 l1) := Lib.hid (.refl l1)
                  have HOB : Hid (SortedOn cmpD l1 a mid) := Lib.hid (by
                    by_cases q : s = a
                    · have := HHV.out.s2; rw [q] at this; exact this
                    · exact HHV.out.s1.sub (Nat.le_refl _) (by omega))
                  have HLB : Hid (l1.length = L) := Lib.hid (HWB.out.len.trans HLA.out)
                  have HF : Hid (SwapPost w0 base g cap l (fun l' => SortedOn cmpD l' a b ∧ SwapsOn a b l l') (.returned (.tuple #[])) w3) := Lib.hid (by
                    have ho5 : SortedOn cmpD l1 mid b := by
                      by_cases q : en ≤ mid
                      · exact (HHV.out.s4.sub q (Nat.le_refl _)).congr (fun k h1 h2 => HWB.out.out (by have := HLA.out; omega) (.inr h1))
                      · exact (HHV.out.s3.sub (Nat.le_refl _) (by omega)).congr (fun k h1 h2 => HWB.out.out (by have := HLA.out; omega) (.inr h1))
                    exact ⟨l1, rfl, HSB.out, join_sorted HWB.out (.refl l1) (by have := HLA.out; omega) (by omega) HOB.out ho5 HHV.out.x, HWA.out.trans (HWB.out.mono (Nat.le_refl _) (by omega))⟩)
                  go_wp2
                  go_end0
                  exact HF.out
              · skip
                have b2 : decide (mid < en) = false := decide_eq_false (by omega)
                have b2z : ¬ (mid : Int) < (en : Int) := by omega
                go_wp2_with fail
                refine (rotate_at w0 base g cap l L s m en _ _ _ _ _ HS.out HL.out rfl rfl rfl hl (by omega) (by omega) (by omega)).mono ?_
                rintro e w3 ⟨l1, rfl, hs3, hro, hw3⟩
                have HSA := Lib.hid hs3
                have HRO := Lib.hid hro
                have HWA := Lib.hid (hw3.mono (show a ≤ s by omega) (show en ≤ b by omega))
                clear hs3 hro hw3
                have HLA : Hid (l1.length = L) := Lib.hid (HWA.out.len.trans HL.out)
                have HHV : Hid (Halves l1 a s mid en b) := Lib.hid (by
                  have hh := sym_halves (mid := mid) (n := n) (s := s) (lo := lo) (hi := hi) ordr_D HS1.out HS2.out (by omega) (by omega) (by have := HL.out; omega) HMID.out HN.out HCASE.out hlo hhi (fun c x y h1 h2 h3 h4 => by have := HLO.out c x y h1 h2 (by rw [HN1.out]; exact h3) h4; omega) (fun c x y h1 h2 h3 h4 => HHI.out c x y h1 h2 (by rw [HN1.out]; exact h3) h4) (by rw [← HEN.out]; exact HRO.out)
                  rw [← HEN.out] at hh
                  exact ⟨hh.1, hh.2.1, hh.2.2.1, hh.2.2.2.1, hh.2.2.2.2⟩)
                have HSB := HSA
                have HWB : Hid (SwapsOn a mid l1 l1) := Lib.hid (.refl l1)
                have HOB : Hid (SortedOn cmpD l1 a mid) := Lib.hid (by
                  by_cases q : s = a
                  · have := HHV.out.s2; rw [q] at this; exact this
                  · exact HHV.out.s1.sub (Nat.le_refl _) (by omega))
                have HLB : Hid (l1.length = L) := Lib.hid (HWB.out.len.trans HLA.out)
                have HF : Hid (SwapPost w0 base g cap l (fun l' => SortedOn cmpD l' a b ∧ SwapsOn a b l l') (.returned (.tuple #[])) w3) := Lib.hid (by
                  have ho5 : SortedOn cmpD l1 mid b := by
                    by_cases q : en ≤ mid
                    · exact (HHV.out.s4.sub q (Nat.le_refl _)).congr (fun k h1 h2 => HWB.out.out (by have := HLA.out; omega) (.inr h1))
                    · exact (HHV.out.s3.sub (Nat.le_refl _) (by omega)).congr (fun k h1 h2 => HWB.out.out (by have := HLA.out; omega) (.inr h1))
                  exact ⟨l1, rfl, HSB.out, join_sorted HWB.out (.refl l1) (by have := HLA.out; omega) (by omega) HOB.out ho5 HHV.out.x, HWA.out.trans (HWB.out.mono (Nat.le_refl _) (by omega))⟩)
                go_wp2
                go_end0
                exact HF.out
          · skip
            have b0 : decide (s < m) = true := decide_eq_true (by omega)
            have b0z : (s : Int) < (m : Int) := by omega
            have c0 : decide (m < en) = false := decide_eq_false (by omega)
            have c0z : ¬ (m : Int) < (en : Int) := by omega
            by_cases p1 : a < s
            · by_cases r1 : s < mid
              · skip
                have b1 : decide (a < s) = true := decide_eq_true (by omega)
                have b1z : (a : Int) < (s : Int) := by omega
                have c1 : decide (s < mid) = true := decide_eq_true (by omega)
                have c1z : (s : Int) < (mid : Int) := by omega
                by_cases p2 : mid < en
                · by_cases r2 : en < b
                  · skip
                    have b2 : decide (mid < en) = true := decide_eq_true (by omega)
                    have b2z : (mid : Int) < (en : Int) := by omega
                    have c2 : decide (en < b) = true := decide_eq_true (by omega)
                    have c2z : (en : Int) < (b : Int) := by omega
                    have HSA := HS
                    have HRO := Lib.hid (rot_triv l (s := s) (m := m) (e := en) (by omega) (by omega) (by omega))
                    have HWA : Hid (SwapsOn a b l l) := Lib.hid (.refl l)
                    have HLA : Hid (l.length = L) := Lib.hid (HWA.out.len.trans HL.out)
                    have HHV : Hid (Halves l a s mid en b) := Lib.hid (by
                      have hh := sym_halves (mid := mid) (n := n) (s := s) (lo := lo) (hi := hi) ordr_D HS1.out HS2.out (by omega) (by omega) (by have := HL.out; omega) HMID.out HN.out HCASE.out hlo hhi (fun c x y h1 h2 h3 h4 => by have := HLO.out c x y h1 h2 (by rw [HN1.out]; exact h3) h4; omega) (fun c x y h1 h2 h3 h4 => HHI.out c x y h1 h2 (by rw [HN1.out]; exact h3) h4) (by rw [← HEN.out]; exact HRO.out)
                      rw [← HEN.out] at hh
                      exact ⟨hh.1, hh.2.1, hh.2.2.1, hh.2.2.2.1, hh.2.2.2.2⟩)
                    go_wp2_with fail
                    refine (HIH.out w0 base g cap l L a s mid _ _ _ _ HSA.out (HWA.out.all HROW.out) HLA.out rfl rfl rfl hl (by omega) (by omega) (by omega) (by omega) HHV.out.s1 HHV.out.s2).mono ?_
                    rintro e w4 ⟨l2, rfl, hs4, ho4, hw4⟩
                    have HSB := Lib.hid hs4
                    have HOB := Lib.hid ho4
                    have HWB := Lib.hid hw4
                    clear hs4 ho4 hw4
                    have HLB : Hid (l2.length = L) := Lib.hid (HWB.out.len.trans HLA.out)
                    go_wp2_with fail
                    refine (HIH.out w0 base g cap l2 L mid en b _ _ _ _ HSB.out (HWB.out.all (HWA.out.all HROW.out)) HLB.out rfl rfl rfl hl (by omega) (by omega) (by omega) (by omega) (HHV.out.s3.congr (fun k h1 h2 => HWB.out.out (by have := HLA.out; omega) (.inr h1))) (HHV.out.s4.congr (fun k h1 h2 => HWB.out.out (by have := HLA.out; omega) (.inr (by omega))))).mono ?_
                    rintro e w5 ⟨l3, rfl, hs5, ho5, hw5⟩
                    have HF : Hid (SwapPost w0 base g cap l (fun l' => SortedOn cmpD l' a b ∧ SwapsOn a b l l') (.returned (.tuple #[])) w5) := Lib.hid ⟨l3, rfl, hs5, join_sorted HWB.out hw5 (by have := HLA.out; omega) (by omega) HOB.out ho5 HHV.out.x, HWA.out.trans ((HWB.out.mono (Nat.le_refl _) (by omega)).trans (hw5.mono (by omega) (Nat.le_refl _)))⟩
                    clear hs5 ho5 hw5
                    go_wp2
                    go_end0
                    exact HF.out
                  · skip
                    have b2 : decide (mid < en) = true := decide_eq_true (by omega)
                    have b2z : (mid : Int) < (en : Int) := by omega
                    have c2 : decide (en < b) = false := decide_eq_false (by omega)
                    have c2z : ¬ (en : Int) < (b : Int) := by omega
                    have HSA := HS
                    have HRO := Lib.hid (rot_triv l (s := s) (m := m) (e := en) (by omega) (by omega) (by omega))
                    have HWA : Hid (SwapsOn a b l l) := Lib.hid (.refl l)
                    have HLA : Hid (l.length = L) := Lib.hid (HWA.out.len.trans HL.out)
                    have HHV : Hid (Halves l a s mid en b) := Lib.hid (by
                      have hh := sym_halves (mid := mid) (n := n) (s := s) (lo := lo) (hi := hi) ordr_D HS1.out HS2.out (by omega) (by omega) (by have := HL.out; omega) HMID.out HN.out HCASE.out hlo hhi (fun c x y h1 h2 h3 h4 => by have := HLO.out c x y h1 h2 (by rw [HN1.out]; exact h3) h4; omega) (fun c x y h1 h2 h3 h4 => HHI.out c x y h1 h2 (by rw [HN1.out]; exact h3) h4) (by rw [← HEN.out]; exact HRO.out)
                      rw [← HEN.out] at hh
                      exact ⟨hh.1, hh.2.1, hh.2.2.1, hh.2.2.2.1, hh.2.2.2.2⟩)
                    go_wp2_with fail
                    refine (HIH.out w0 base g cap l L a s mid _ _ _ _ HSA.out (HWA.out.all HROW.out) HLA.out rfl rfl rfl hl (by omega) (by omega) (by omega) (by omega) HHV.out.s1 HHV.out.s2).mono ?_
                    rintro e w4 ⟨l2, rfl, hs4, ho4, hw4⟩
                    have HSB := Lib.hid hs4
                    have HOB := Lib.hid ho4
                    have HWB := Lib.hid hw4
                    clear hs4 ho4 hw4
                    have HLB : Hid (l2.length = L) := Lib.hid (HWB.out.len.trans HLA.out)
                    have HF : Hid (SwapPost w0 base g cap l (fun l' => SortedOn cmpD l' a b ∧ SwapsOn a b l l') (.returned (.tuple #[])) w4) := Lib.hid (by
                      have ho5 : SortedOn cmpD l2 mid b := by
                        by_cases q : en ≤ mid
                        · exact (HHV.out.s4.sub q (Nat.le_refl _)).congr (fun k h1 h2 => HWB.out.out (by have := HLA.out; omega) (.inr h1))
                        · exact (HHV.out.s3.sub (Nat.le_refl _) (by omega)).congr (fun k h1 h2 => HWB.out.out (by have := HLA.out; omega) (.inr h1))
                      exact ⟨l2, rfl, HSB.out, join_sorted HWB.out (.refl l2) (by have := HLA.out; omega) (by omega) HOB.out ho5 HHV.out.x, HWA.out.trans (HWB.out.mono (Nat.le_refl _) (by omega))⟩)
                    go_wp2
                    go_end0
                    exact HF.out
                · skip
                  have b2 : decide (mid < en) = false := decide_eq_false (by omega)
                  have b2z : ¬ (mid : Int) < (en : Int) := by omega
                  have HSA := HS
                  have HRO := Lib.hid (rot_triv l (s := s) (m := m) (e := en) (by omega) (by omega) (by omega))
                  have HWA : Hid (SwapsOn a b l l) := Lib.hid (.refl l)
                  have HLA : Hid (l.length = L) := Lib.hid (HWA.out.len.trans HL.out)
                  have HHV : Hid (Halves l a s mid en b) := Lib.hid (by
                    have hh := sym_halves (mid := mid) (n := n) (s := s) (lo := lo) (hi := hi) ordr_D HS1.out HS2.out (by omega) (by omega) (by have := HL.out; omega) HMID.out HN.out HCASE.out hlo hhi (fun c x y h1 h2 h3 h4 => by have := HLO.out c x y h1 h2 (by rw [HN1.out]; exact h3) h4; omega) (fun c x y h1 h2 h3 h4 => HHI.out c x y h1 h2 (by rw [HN1.out]; exact h3) h4) (by rw [← HEN.out]; exact HRO.out)
                    rw [← HEN.out] at hh
                    exact ⟨hh.1, hh.2.1, hh.2.2.1, hh.2.2.2.1, hh.2.2.2.2⟩)
                  go_wp2_with fail
                  refine (HIH.out w0 base g cap l L a s mid _ _ _ _ HSA.out (HWA.out.all HROW.out) HLA.out rfl rfl rfl hl (by omega) (by omega) (by omega) (by omega) HHV.out.s1 HHV.out.s2).mono ?_
                  rintro e w4 ⟨l2, rfl, hs4, ho4, hw4⟩
                  have HSB := Lib.hid hs4
                  have HOB := Lib.hid ho4
                  have HWB := Lib.hid hw4
                  clear hs4 ho4 hw4
                  have HLB : Hid (l2.length = L) := Lib.hid (HWB.out.len.trans HLA.out)
                  have HF : Hid (SwapPost w0 base g cap l (fun l' => SortedOn cmpD l' a b ∧ SwapsOn a b l l') (.returned (.tuple #[])) w4) := Lib.hid (by
                    have ho5 : SortedOn cmpD l2 mid b := by
                      by_cases q : en ≤ mid
                      · exact (HHV.out.s4.sub q (Nat.le_refl _)).congr (fun k h1 h2 => HWB.out.out (by have := HLA.out; omega) (.inr h1))
                      · exact (HHV.out.s3.sub (Nat.le_refl _) (by omega)).congr (fun k h1 h2 => HWB.out.out (by have := HLA.out; omega) (.inr h1))
                    exact ⟨l2, rfl, HSB.out, join_sorted HWB.out (.refl l2) (by have := HLA.out; omega) (by omega) HOB.out ho5 HHV.out.x, HWA.out.trans (HWB.out.mono (Nat.le_refl _) (by omega))⟩)
                  go_wp2
                  go_end0
                  exact HF.out
              · skip
                have b1 : decide (a < s) = true := decide_eq_true (by omega)
                have b1z : (a : Int) < (s : Int) := by omega
                have c1 : decide (s < mid) = false := decide_eq_false (by omega)
                have c1z : ¬ (s : Int) < (mid : Int) := by omega
                by_cases p2 : mid < en
                · by_cases r2 : en < b
                  · skip
                    have b2 : decide (mid < en) = true := decide_eq_true (by omega)
                    have b2z : (mid : Int) < (en : Int) := by omega
                    have c2 : decide (en < b) = true := decide_eq_true (by omega)
                    have c2z : (en : Int) < (b : Int) := by omega
                    have HSA := HS
                    have HRO := Lib.hid (rot_triv l (s := s) (m := m) (e := en) (by omega) (by omega) (by omega))
                    have HWA : Hid (SwapsOn a b l l) := Lib.hid (.refl l)
                    have HLA : Hid (l.length = L) := Lib.hid (HWA.out.len.trans HL.out)
                    have HHV : Hid (Halves l a s mid en b) := Lib.hid (by
                      have hh := sym_halves (mid := mid) (n := n) (s := s) (lo := lo) (hi := hi) ordr_D HS1.out HS2.out (by omega) (by omega) (by have := HL.out; omega) HMID.out HN.out HCASE.out hlo hhi (fun c x y h1 h2 h3 h4 => by have := HLO.out c x y h1 h2 (by rw [HN1.out]; exact h3) h4; omega) (fun c x y h1 h2 h3 h4 => HHI.out c x y h1 h2 (by rw [HN1.out]; exact h3) h4) (by rw [← HEN.out]; exact HRO.out)
                      rw [← HEN.out] at hh
                      exact ⟨hh.1, hh.2.1, hh.2.2.1, hh.2.2.2.1, hh.2.2.2.2⟩)
                    have HSB := HSA
                    have HWB : Hid (SwapsOn a mid l l) := Lib.hid (.refl l)
                    have HOB : Hid (SortedOn cmpD l a mid) := Lib.hid (by
                      by_cases q : s = a
                      · have := HHV.out.s2; rw [q] at this; exact this
                      · exact HHV.out.s1.sub (Nat.le_refl _) (by omega))
                    have HLB : Hid (l.length = L) := Lib.hid (HWB.out.len.trans HLA.out)
                    go_wp2_with fail
                    refine (HIH.out w0 base g cap l L mid en b _ _ _ _ HSB.out (HWB.out.all (HWA.out.all HROW.out)) HLB.out rfl rfl rfl hl (by omega) (by omega) (by omega) (by omega) (HHV.out.s3.congr (fun k h1 h2 => HWB.out.out (by have := HLA.out; omega) (.inr h1))) (HHV.out.s4.congr (fun k h1 h2 => HWB.out.out (by have := HLA.out; omega) (.inr (by omega))))).mono ?_
                    rintro e w5 ⟨l3, rfl, hs5, ho5, hw5⟩
                    have HF : Hid (SwapPost w0 base g cap l (fun l' => SortedOn cmpD l' a b ∧ SwapsOn a b l l') (.returned (.tuple #[])) w5) := Lib.hid ⟨l3, rfl, hs5, join_sorted HWB.out hw5 (by have := HLA.out; omega) (by omega) HOB.out ho5 HHV.out.x, HWA.out.trans ((HWB.out.mono (Nat.le_refl _) (by omega)).trans (hw5.mono (by omega) (Nat.le_refl _)))⟩
                    clear hs5 ho5 hw5
                    go_wp2
                    go_end0
                    exact HF.out
                  · skip
                    have b2 : decide (mid < en) = true := decide_eq_true (by omega)
                    have b2z : (mid : Int) < (en : Int) := by omega
                    have c2 : decide (en < b) = false := decide_eq_false (by omega)
                    have c2z : ¬ (en : Int) < (b : Int) := by omega
                    have HSA := HS
                    have HRO := Lib.hid (rot_triv l (s := s) (m := m) (e := en) (by omega) (by omega) (by omega))
                    have HWA : Hid (SwapsOn a b l l) := Lib.hid (.refl l)
                    have HLA : Hid (l.length = L) := Lib.hid (HWA.out.len.trans HL.out)
                    have HHV : Hid (Halves l a s mid en b) := Lib.hid (by
                      have hh := sym_halves (mid := mid) (n := n) (s := s) (lo := lo) (hi := hi) ordr_D HS1.out HS2.out (by omega) (by omega) (by have := HL.out; omega) HMID.out HN.out HCASE.out hlo hhi (fun c x y h1 h2 h3 h4 => by have := HLO.out c x y h1 h2 (by rw [HN1.out]; exact h3) h4; omega) (fun c x y h1 h2 h3 h4 => HHI.out c x y h1 h2 (by rw [HN1.out]; exact h3) h4) (by rw [← HEN.out]; exact HRO.out)
                      rw [← HEN.out] at hh
                      exact ⟨hh.1, hh.2.1, hh.2.2.1, hh.2.2.2.1, hh.2.2.2.2⟩)
                    have HSB := HSA
                    have HWB : Hid (SwapsOn a mid l l) := Lib.hid (.refl l)
                    have HOB : Hid (SortedOn cmpD l a mid) := Lib.hid (by
                      by_cases q : s = a
                      · have := HHV.out.s2; rw [q] at this; exact this
                      · exact HHV.out.s1.sub (Nat.le_refl _) (by omega))
                    have HLB : Hid (l.length = L) := Lib.hid (HWB.out.len.trans HLA.out)
                    have HF : Hid (SwapPost w0 base g cap l (fun l' => SortedOn cmpD l' a b ∧ SwapsOn a b l l') (.returned (.tuple #[])) wo) := Lib.hid (by
                      have ho5 : SortedOn cmpD l mid b := by
                        by_cases q : en ≤ mid
                        · exact (HHV.out.s4.sub q (Nat.le_refl _)).congr (fun k h1 h2 => HWB.out.out (by have := HLA.out; omega) (.inr h1))
                        · exact (HHV.out.s3.sub (Nat.le_refl _) (by omega)).congr (fun k h1 h2 => HWB.out.out (by have := HLA.out; omega) (.inr h1))
                      exact ⟨l, rfl, HSB.out, join_sorted HWB.out (.refl l) (by have := HLA.out; omega) (by omega) HOB.out ho5 HHV.out.x, HWA.out.trans (HWB.out.mono (Nat.le_refl _) (by omega))⟩)
                    go_wp2
                    go_end0
                    exact HF.out
                · skip
                  have b2 : decide (mid < en) = false := decide_eq_false (by omega)
                  have b2z : ¬ (mid : Int) < (en : Int) := by omega
                  have HSA := HS
                  have HRO := Lib.hid (rot_triv l (s := s) (m := m) (e := en) (by omega) (by omega) (by omega))
                  have HWA : Hid (SwapsOn a b l l) := Lib.hid (.refl l)
                  have HLA : Hid (l.length = L) := Lib.hid (HWA.out.len.trans HL.out)
                  have HHV : Hid (Halves l a s mid en b) := Lib.hid (by
                    have hh := sym_halves (mid := mid) (n := n) (s := s) (lo := lo) (hi := hi) ordr_D HS1.out HS2.out (by omega) (by omega) (by have := HL.out; omega) HMID.out HN.out HCASE.out hlo hhi (fun c x y h1 h2 h3 h4 => by have := HLO.out c x y h1 h2 (by rw [HN1.out]; exact h3) h4; omega) (fun c x y h1 h2 h3 h4 => HHI.out c x y h1 h2 (by rw [HN1.out]; exact h3) h4) (by rw [← HEN.out]; exact HRO.out)
                    rw [← HEN.out] at hh
                    exact ⟨hh.1, hh.2.1, hh.2.2.1, hh.2.2.2.1, hh.2.2.2.2⟩)
                  have HSB := HSA
                  have HWB : Hid (SwapsOn a mid l l) := Lib.hid (.refl l)
                  have HOB : Hid (SortedOn cmpD l a mid) := Lib.hid (by
                    by_cases q : s = a
                    · have := HHV.out.s2; rw [q] at this; exact this
                    · exact HHV.out.s1.sub (Nat.le_refl _) (by omega))
                  have HLB : Hid (l.length = L) := Lib.hid (HWB.out.len.trans HLA.out)
                  have HF : Hid (SwapPost w0 base g cap l (fun l' => SortedOn cmpD l' a b ∧ SwapsOn a b l l') (.returned (.tuple #[])) wo) := Lib.hid (by
                    have ho5 : SortedOn cmpD l mid b := by
                      by_cases q : en ≤ mid
                      · exact (HHV.out.s4.sub q (Nat.le_refl _)).congr (fun k h1 h2 => HWB.out.out (by have := HLA.out; omega) (.inr h1))
                      · exact (HHV.out.s3.sub (Nat.le_refl _) (by omega)).congr (fun k h1 h2 => HWB.out.out (by have := HLA.out; omega) (.inr h1))
                    exact ⟨l, rfl, HSB.out, join_sorted HWB.out (.refl l) (by have := HLA.out; omega) (by omega) HOB.out ho5 HHV.out.x, HWA.out.trans (HWB.out.mono (Nat.le_refl _) (by omega))⟩)
                  go_wp2
                  go_end0
                  exact HF.out
            · skip
              have b1 : decide (a < s) = false := decide_eq_false (by omega)
              have b1z : ¬ (a : Int) < (s : Int) := by omega
              by_cases p2 : mid < en
              · by_cases r2 : en < b
                · skip
                  have b2 : decide (mid < en) = true := decide_eq_true (by omega)
                  have b2z : (mid : Int) < (en : Int) := by omega
                  have c2 : decide (en < b) = true := decide_eq_true (by omega)
                  have c2z : (en : Int) < (b : Int) := by omega
                  have HSA := HS
                  have HRO := Lib.hid (rot_triv l (s := s) (m := m) (e := en) (by omega) (by omega) (by omega))
                  have HWA : Hid (SwapsOn a b l l) := Lib.hid (.refl l)
                  have HLA : Hid (l.length = L) := Lib.hid (HWA.out.len.trans HL.out)
                  have HHV : Hid (Halves l a s mid en b) := Lib.hid (by
                    have hh := sym_halves (mid := mid) (n := n) (s := s) (lo := lo) (hi := hi) ordr_D HS1.out HS2.out (by omega) (by omega) (by have := HL.out; omega) HMID.out HN.out HCASE.out hlo hhi (fun c x y h1 h2 h3 h4 => by have := HLO.out c x y h1 h2 (by rw [HN1.out]; exact h3) h4; omega) (fun c x y h1 h2 h3 h4 => HHI.out c x y h1 h2 (by rw [HN1.out]; exact h3) h4) (by rw [← HEN.out]; exact HRO.out)
                    rw [← HEN.out] at hh
                    exact ⟨hh.1, hh.2.1, hh.2.2.1, hh.2.2.2.1, hh.2.2.2.2⟩)
                  have HSB := HSA
                  have HWB : Hid (SwapsOn a mid l l) := Lib.hid (.refl l)
                  have HOB : Hid (SortedOn cmpD l a mid) := Lib.hid (by
                    by_cases q : s = a
                    · have := HHV.out.s2; rw [q] at this; exact this
                    · exact HHV.out.s1.sub (Nat.le_refl _) (by omega))
                  have HLB : Hid (l.length = L) := Lib.hid (HWB.out.len.trans HLA.out)
                  go_wp2_with fail
                  refine (HIH.out w0 base g cap l L mid en b _ _ _ _ HSB.out (HWB.out.all (HWA.out.all HROW.out)) HLB.out rfl rfl rfl hl (by omega) (by omega) (by omega) (by omega) (HHV.out.s3.congr (fun k h1 h2 => HWB.out.out (by have := HLA.out; omega) (.inr h1))) (HHV.out.s4.congr (fun k h1 h2 => HWB.out.out (by have := HLA.out; omega) (.inr (by omega))))).mono ?_
                  rintro e w5 ⟨l3, rfl, hs5, ho5, hw5⟩
                  have HF : Hid (SwapPost w0 base g cap l (fun l' => SortedOn cmpD l' a b ∧ SwapsOn a b l l') (.returned (.tuple #[])) w5) := Lib.hid ⟨l3, rfl, hs5, join_sorted HWB.out hw5 (by have := HLA.out; omega) (by omega) HOB.out ho5 HHV.out.x, HWA.out.trans ((HWB.out.mono (Nat.le_refl _) (by omega)).trans (hw5.mono (by omega) (Nat.le_refl _)))⟩
                  clear hs5 ho5 hw5
                  go_wp2
                  go_end0
                  exact HF.out
                · skip
                  have b2 : decide (mid < en) = true := decide_eq_true (by omega)
                  have b2z : (mid : Int) < (en : Int) := by omega
                  have c2 : decide (en < b) = false := decide_eq_false (by omega)
                  have c2z : ¬ (en : Int) < (b : Int) := by omega
                  have HSA := HS
                  have HRO := Lib.hid (rot_triv l (s := s) (m := m) (e := en) (by omega) (by omega) (by omega))
                  have HWA : Hid (SwapsOn a b l l) := Lib.hid (.refl l)
                  have HLA : Hid (l.length = L) := Lib.hid (HWA.out.len.trans HL.out)
                  have HHV : Hid (Halves l a s mid en b) := Lib.hid (by
                    have hh := sym_halves (mid := mid) (n := n) (s := s) (lo := lo) (hi := hi) ordr_D HS1.out HS2.out (by omega) (by omega) (by have := HL.out; omega) HMID.out HN.out HCASE.out hlo hhi (fun c x y h1 h2 h3 h4 => by have := HLO.out c x y h1 h2 (by rw [HN1.out]; exact h3) h4; omega) (fun c x y h1 h2 h3 h4 => HHI.out c x y h1 h2 (by rw [HN1.out]; exact h3) h4) (by rw [← HEN.out]; exact HRO.out)
                    rw [← HEN.out] at hh
                    exact ⟨hh.1, hh.2.1, hh.2.2.1, hh.2.2.2.1, hh.2.2.2.2⟩)
                  have HSB := HSA
                  have HWB : Hid (SwapsOn a mid l l) := Lib.hid (.refl l)
                  have HOB : Hid (SortedOn cmpD l a mid) := Lib.hid (by
                    by_cases q : s = a
                    · have := HHV.out.s2; rw [q] at this; exact this
                    · exact HHV.out.s1.sub (Nat.le_refl _) (by omega))
                  have HLB : Hid (l.length = L) := Lib.hid (HWB.out.len.trans HLA.out)
                  have HF : Hid (SwapPost w0 base g cap l (fun l' => SortedOn cmpD l' a b ∧ SwapsOn a b l l') (.returned (.tuple #[])) wo) := Lib.hid (by
                    have ho5 : SortedOn cmpD l mid b := by
                      by_cases q : en ≤ mid
                      · exact (HHV.out.s4.sub q (Nat.le_refl _)).congr (fun k h1 h2 => HWB.out.out (by have := HLA.out; omega) (.inr h1))
                      · exact (HHV.out.s3.sub (Nat.le_refl _) (by omega)).congr (fun k h1 h2 => HWB.out.out (by have := HLA.out; omega) (.inr h1))
                    exact ⟨l, rfl, HSB.out, join_sorted HWB.out (.refl l) (by have := HLA.out; omega) (by omega) HOB.out ho5 HHV.out.x, HWA.out.trans (HWB.out.mono (Nat.le_refl _) (by omega))⟩)
                  go_wp2
                  go_end0
                  exact HF.out
              · skip
                have b2 : decide (mid < en) = false := decide_eq_false (by omega)
                have b2z : ¬ (mid : Int) < (en : Int) := by omega
                have HSA := HS
                have HRO := Lib.hid (rot_triv l (s := s) (m := m) (e := en) (by omega) (by omega) (by omega))
                have HWA : Hid (SwapsOn a b l l) := Lib.hid (.refl l)
                have HLA : Hid (l.length = L) := Lib.hid (HWA.out.len.trans HL.out)
                have HHV : Hid (Halves l a s mid en b) := Lib.hid (by
                  have hh := sym_halves (mid := mid) (n := n) (s := s) (lo := lo) (hi := hi) ordr_D HS1.out HS2.out (by omega) (by omega) (by have := HL.out; omega) HMID.out HN.out HCASE.out hlo hhi (fun c x y h1 h2 h3 h4 => by have := HLO.out c x y h1 h2 (by rw [HN1.out]; exact h3) h4; omega) (fun c x y h1 h2 h3 h4 => HHI.out c x y h1 h2 (by rw [HN1.out]; exact h3) h4) (by rw [← HEN.out]; exact HRO.out)
                  rw [← HEN.out] at hh
                  exact ⟨hh.1, hh.2.1, hh.2.2.1, hh.2.2.2.1, hh.2.2.2.2⟩)
                have HSB := HSA
                have HWB : Hid (SwapsOn a mid l l) := Lib.hid (.refl l)
                have HOB : Hid (SortedOn cmpD l a mid) := Lib.hid (by
                  by_cases q : s = a
                  · have := HHV.out.s2; rw [q] at this; exact this
                  · exact HHV.out.s1.sub (Nat.le_refl _) (by omega))
                have HLB : Hid (l.length = L) := Lib.hid (HWB.out.len.trans HLA.out)
                have HF : Hid (SwapPost w0 base g cap l (fun l' => SortedOn cmpD l' a b ∧ SwapsOn a b l l') (.returned (.tuple #[])) wo) := Lib.hid (by
                  have ho5 : SortedOn cmpD l mid b := by
                    by_cases q : en ≤ mid
                    · exact (HHV.out.s4.sub q (Nat.le_refl _)).congr (fun k h1 h2 => HWB.out.out (by have := HLA.out; omega) (.inr h1))
                    · exact (HHV.out.s3.sub (Nat.le_refl _) (by omega)).congr (fun k h1 h2 => HWB.out.out (by have := HLA.out; omega) (.inr h1))
                  exact ⟨l, rfl, HSB.out, join_sorted HWB.out (.refl l) (by have := HLA.out; omega) (by omega) HOB.out ho5 HHV.out.x, HWA.out.trans (HWB.out.mono (Nat.le_refl _) (by omega))⟩)
                go_wp2
                go_end0
                exact HF.out
        · skip
          have b0 : decide (s < m) = false := decide_eq_false (by omega)
          have b0z : ¬ (s : Int) < (m : Int) := by omega
          by_cases p1 : a < s
          · by_cases r1 : s < mid
            · skip
              have b1 : decide (a < s) = true := decide_eq_true (by omega)
              have b1z : (a : Int) < (s : Int) := by omega
              have c1 : decide (s < mid) = true := decide_eq_true (by omega)
              have c1z : (s : Int) < (mid : Int) := by omega
              by_cases p2 : mid < en
              · by_cases r2 : en < b
                · skip
                  have b2 : decide (mid < en) = true := decide_eq_true (by omega)
                  have b2z : (mid : Int) < (en : Int) := by omega
                  have c2 : decide (en < b) = true := decide_eq_true (by omega)
                  have c2z : (en : Int) < (b : Int) := by omega
                  have HSA := HS
                  have HRO := Lib.hid (rot_triv l (s := s) (m := m) (e := en) (by omega) (by omega) (by omega))
                  have HWA : Hid (SwapsOn a b l l) := Lib.hid (.refl l)
                  have HLA : Hid (l.length = L) := Lib.hid (HWA.out.len.trans HL.out)
                  have HHV : Hid (Halves l a s mid en b) := Lib.hid (by
                    have hh := sym_halves (mid := mid) (n := n) (s := s) (lo := lo) (hi := hi) ordr_D HS1.out HS2.out (by omega) (by omega) (by have := HL.out; omega) HMID.out HN.out HCASE.out hlo hhi (fun c x y h1 h2 h3 h4 => by have := HLO.out c x y h1 h2 (by rw [HN1.out]; exact h3) h4; omega) (fun c x y h1 h2 h3 h4 => HHI.out c x y h1 h2 (by rw [HN1.out]; exact h3) h4) (by rw [← HEN.out]; exact HRO.out)
                    rw [← HEN.out] at hh
                    exact ⟨hh.1, hh.2.1, hh.2.2.1, hh.2.2.2.1, hh.2.2.2.2⟩)
                  go_wp2_with fail
                  refine (HIH.out w0 base g cap l L a s mid _ _ _ _ HSA.out (HWA.out.all HROW.out) HLA.out rfl rfl rfl hl (by omega) (by omega) (by omega) (by omega) HHV.out.s1 HHV.out.s2).mono ?_
                  rintro e w4 ⟨l2, rfl, hs4, ho4, hw4⟩
                  have HSB := Lib.hid hs4
                  have HOB := Lib.hid ho4
                  have HWB := Lib.hid hw4
                  clear hs4 ho4 hw4
                  have HLB : Hid (l2.length = L) := Lib.hid (HWB.out.len.trans HLA.out)
                  go_wp2_with fail
                  refine (HIH.out w0 base g cap l2 L mid en b _ _ _ _ HSB.out (HWB.out.all (HWA.out.all HROW.out)) HLB.out rfl rfl rfl hl (by omega) (by omega) (by omega) (by omega) (HHV.out.s3.congr (fun k h1 h2 => HWB.out.out (by have := HLA.out; omega) (.inr h1))) (HHV.out.s4.congr (fun k h1 h2 => HWB.out.out (by have := HLA.out; omega) (.inr (by omega))))).mono ?_
                  rintro e w5 ⟨l3, rfl, hs5, ho5, hw5⟩
                  have HF : Hid (SwapPost w0 base g cap l (fun l' => SortedOn cmpD l' a b ∧ SwapsOn a b l l') (.returned (.tuple #[])) w5) := Lib.hid ⟨l3, rfl, hs5, join_sorted HWB.out hw5 (by have := HLA.out; omega) (by omega) HOB.out ho5 HHV.out.x, HWA.out.trans ((HWB.out.mono (Nat.le_refl _) (by omega)).trans (hw5.mono (by omega) (Nat.le_refl _)))⟩
                  clear hs5 ho5 hw5
                  go_wp2
                  go_end0
                  exact HF.out
                · skip
                  have b2 : decide (mid < en) = true := decide_eq_true (by omega)
                  have b2z : (mid : Int) < (en : Int) := by omega
                  have c2 : decide (en < b) = false := decide_eq_false (by omega)
                  have c2z : ¬ (en : Int) < (b : Int) := by omega
                  have HSA := HS
                  have HRO := Lib.hid (rot_triv l (s := s) (m := m) (e := en) (by omega) (by omega) (by omega))
                  have HWA : Hid (SwapsOn a b l l) := Lib.hid (.refl l)
                  have HLA : Hid (l.length = L) := Lib.hid (HWA.out.len.trans HL.out)
                  have HHV : Hid (Halves l a s mid en b) := Lib.hid (by
                    have hh := sym_halves (mid := mid) (n := n) (s := s) (lo := lo) (hi := hi) ordr_D HS1.out HS2.out (by omega) (by omega) (by have := HL.out; omega) HMID.out HN.out HCASE.out hlo hhi (fun c x y h1 h2 h3 h4 => by have := HLO.out c x y h1 h2 (by rw [HN1.out]; exact h3) h4; omega) (fun c x y h1 h2 h3 h4 => HHI.out c x y h1 h2 (by rw [HN1.out]; exact h3) h4) (by rw [← HEN.out]; exact HRO.out)
                    rw [← HEN.out] at hh
                    exact ⟨hh.1, hh.2.1, hh.2.2.1, hh.2.2.2.1, hh.2.2.2.2⟩)
                  go_wp2_with fail
                  refine (HIH.out w0 base g cap l L a s mid _ _ _ _ HSA.out (HWA.out.all HROW.out) HLA.out rfl rfl rfl hl (by omega) (by omega) (by omega) (by omega) HHV.out.s1 HHV.out.s2).mono ?_
                  rintro e w4 ⟨l2, rfl, hs4, ho4, hw4⟩
                  have HSB := Lib.hid hs4
                  have HOB := Lib.hid ho4
                  have HWB := Lib.hid hw4
                  clear hs4 ho4 hw4
                  have HLB : Hid (l2.length = L) := Lib.hid (HWB.out.len.trans HLA.out)
                  have HF : Hid (SwapPost w0 base g cap l (fun l' => SortedOn cmpD l' a b ∧ SwapsOn a b l l') (.returned (.tuple #[])) w4) := Lib.hid (by
                    have ho5 : SortedOn cmpD l2 mid b := by
                      by_cases q : en ≤ mid
                      · exact (HHV.out.s4.sub q (Nat.le_refl _)).congr (fun k h1 h2 => HWB.out.out (by have := HLA.out; omega) (.inr h1))
                      · exact (HHV.out.s3.sub (Nat.le_refl _) (by omega)).congr (fun k h1 h2 => HWB.out.out (by have := HLA.out; omega) (.inr h1))
                    exact ⟨l2, rfl, HSB.out, join_sorted HWB.out (.refl l2) (by have := HLA.out; omega) (by omega) HOB.out ho5 HHV.out.x, HWA.out.trans (HWB.out.mono (Nat.le_refl _) (by omega))⟩)
                  go_wp2
                  go_end0
                  exact HF.out
              · skip
                have b2 : decide (mid < en) = false := decide_eq_false (by omega)
                have b2z : ¬ (mid : Int) < (en : Int) := by omega
                have HSA := HS
                have HRO := Lib.hid (rot_triv l (s := s) (m := m) (e := en) (by omega) (by omega) (by omega))
                have HWA : Hid (SwapsOn a b l l) := Lib.hid (.refl l)
                have HLA : Hid (l.length = L) := Lib.hid (HWA.out.len.trans HL.out)
                have HHV : Hid (Halves l a s mid en b) := Lib.hid (by
                  have hh := sym_halves (mid := mid) (n := n) (s := s) (lo := lo) (hi := hi) ordr_D HS1.out HS2.out (by omega) (by omega) (by have := HL.out; omega) HMID.out HN.out HCASE.out hlo hhi (fun c x y h1 h2 h3 h4 => by have := HLO.out c x y h1 h2 (by rw [HN1.out]; exact h3) h4; omega) (fun c x y h1 h2 h3 h4 => HHI.out c x y h1 h2 (by rw [HN1.out]; exact h3) h4) (by rw [← HEN.out]; exact HRO.out)
                  rw [← HEN.out] at hh
                  exact ⟨hh.1, hh.2.1, hh.2.2.1, hh.2.2.2.1, hh.2.2.2.2⟩)
                go_wp2_with fail
                refine (HIH.out w0 base g cap l L a s mid _ _ _ _ HSA.out (HWA.out.all HROW.out) HLA.out rfl rfl rfl hl (by omega) (by omega) (by omega) (by omega) HHV.out.s1 HHV.out.s2).mono ?_
                rintro e w4 ⟨l2, rfl, hs4, ho4, hw4⟩
                have HSB := Lib.hid hs4
                have HOB := Lib.hid ho4
                have HWB := Lib.hid hw4
                clear hs4 ho4 hw4
                have HLB : Hid (l2.length = L) := Lib.hid (HWB.out.len.trans HLA.out)
                have HF : Hid (SwapPost w0 base g cap l (fun l' => SortedOn cmpD l' a b ∧ SwapsOn a b l l') (.returned (.tuple #[])) w4) := Lib.hid (by
                  have ho5 : SortedOn cmpD l2 mid b := by
                    by_cases q : en ≤ mid
                    · exact (HHV.out.s4.sub q (Nat.le_refl _)).congr (fun k h1 h2 => HWB.out.out (by have := HLA.out; omega) (.inr h1))
                    · exact (HHV.out.s3.sub (Nat.le_refl _) (by omega)).congr (fun k h1 h2 => HWB.out.out (by have := HLA.out; omega) (.inr h1))
                  exact ⟨l2, rfl, HSB.out, join_sorted HWB.out (.refl l2) (by have := HLA.out; omega) (by omega) HOB.out ho5 HHV.out.x, HWA.out.trans (HWB.out.mono (Nat.le_refl _) (by omega))⟩)
                go_wp2
                go_end0
                exact HF.out
            · skip
              have b1 : decide (a < s) = true := decide_eq_true (by omega)
              have b1z : (a : Int) < (s : Int) := by omega
              have c1 : decide (s < mid) = false := decide_eq_false (by omega)
              have c1z : ¬ (s : Int) < (mid : Int) := by omega
              by_cases p2 : mid < en
              · by_cases r2 : en < b
                · skip
                  have b2 : decide (mid < en) = true := decide_eq_true (by omega)
                  have b2z : (mid : Int) < (en : Int) := by omega
                  have c2 : decide (en < b) = true := decide_eq_true (by omega)
                  have c2z : (en : Int) < (b : Int) := by omega
                  have HSA := HS
                  have HRO := Lib.hid (rot_triv l (s := s) (m := m) (e := en) (by omega) (by omega) (by omega))
                  have HWA : Hid (SwapsOn a b l l) := Lib.hid (.refl l)
                  have HLA : Hid (l.length = L) := Lib.hid (HWA.out.len.trans HL.out)
                  have HHV : Hid (Halves l a s mid en b) := Lib.hid (by
                    have hh := sym_halves (mid := mid) (n := n) (s := s) (lo := lo) (hi := hi) ordr_D HS1.out HS2.out (by omega) (by omega) (by have := HL.out; omega) HMID.out HN.out HCASE.out hlo hhi (fun c x y h1 h2 h3 h4 => by have := HLO.out c x y h1 h2 (by rw [HN1.out]; exact h3) h4; omega) (fun c x y h1 h2 h3 h4 => HHI.out c x y h1 h2 (by rw [HN1.out]; exact h3) h4) (by rw [← HEN.out]; exact HRO.out)
                    rw [← HEN.out] at hh
                    exact ⟨hh.1, hh.2.1, hh.2.2.1, hh.2.2.2.1, hh.2.2.2.2⟩)
                  have HSB := HSA
                  have HWB : Hid (SwapsOn a mid l l) := Lib.hid (.refl l)
                  have HOB : Hid (SortedOn cmpD l a mid) := Lib.hid (by
                    by_cases q : s = a
                    · have := HHV.out.s2; rw [q] at this; exact this
                    · exact HHV.out.s1.sub (Nat.le_refl _) (by omega))
                  have HLB : Hid (l.length = L) := Lib.hid (HWB.out.len.trans HLA.out)
                  go_wp2_with fail
                  refine (HIH.out w0 base g cap l L mid en b _ _ _ _ HSB.out (HWB.out.all (HWA.out.all HROW.out)) HLB.out rfl rfl rfl hl (by omega) (by omega) (by omega) (by omega) (HHV.out.s3.congr (fun k h1 h2 => HWB.out.out (by have := HLA.out; omega) (.inr h1))) (HHV.out.s4.congr (fun k h1 h2 => HWB.out.out (by have := HLA.out; omega) (.inr (by omega))))).mono ?_
                  rintro e w5 ⟨l3, rfl, hs5, ho5, hw5⟩
                  have HF : Hid (SwapPost w0 base g cap l (fun l' => SortedOn cmpD l' a b ∧ SwapsOn a b l l') (.returned (.tuple #[])) w5) := Lib.hid ⟨l3, rfl, hs5, join_sorted HWB.out hw5 (by have := HLA.out; omega) (by omega) HOB.out ho5 HHV.out.x, HWA.out.trans ((HWB.out.mono (Nat.le_refl _) (by omega)).trans (hw5.mono (by omega) (Nat.le_refl _)))⟩
                  clear hs5 ho5 hw5
                  go_wp2
                  go_end0
                  exact HF.out
                · skip
                  have b2 : decide (mid < en) = true := decide_eq_true (by omega)
                  have b2z : (mid : Int) < (en : Int) := by omega
                  have c2 : decide (en < b) = false := decide_eq_false (by omega)
                  have c2z : ¬ (en : Int) < (b : Int) := by omega
                  have HSA := HS
                  have HRO := Lib.hid (rot_triv l (s := s) (m := m) (e := en) (by omega) (by omega) (by omega))
                  have HWA : Hid (SwapsOn a b l l) := Lib.hid (.refl l)
                  have HLA : Hid (l.length = L) := Lib.hid (HWA.out.len.trans HL.out)
                  have HHV : Hid (Halves l a s mid en b) := Lib.hid (by
                    have hh := sym_halves (mid := mid) (n := n) (s := s) (lo := lo) (hi := hi) ordr_D HS1.out HS2.out (by omega) (by omega) (by have := HL.out; omega) HMID.out HN.out HCASE.out hlo hhi (fun c x y h1 h2 h3 h4 => by have := HLO.out c x y h1 h2 (by rw [HN1.out]; exact h3) h4; omega) (fun c x y h1 h2 h3 h4 => HHI.out c x y h1 h2 (by rw [HN1.out]; exact h3) h4) (by rw [← HEN.out]; exact HRO.out)
                    rw [← HEN.out] at hh
                    exact ⟨hh.1, hh.2.1, hh.2.2.1, hh.2.2.2.1, hh.2.2.2.2⟩)
                  have HSB := HSA
                  have HWB : Hid (SwapsOn a mid l l) := Lib.hid (.refl l)
                  have HOB : Hid (SortedOn cmpD l a mid) := Lib.hid (by
                    by_cases q : s = a
                    · have := HHV.out.s2; rw [q] at this; exact this
                    · exact HHV.out.s1.sub (Nat.le_refl _) (by omega))
                  have HLB : Hid (l.length = L) := Lib.hid (HWB.out.len.trans HLA.out)
                  have HF : Hid (SwapPost w0 base g cap l (fun l' => SortedOn cmpD l' a b ∧ SwapsOn a b l l') (.returned (.tuple #[])) wo) := Lib.hid (by
                    have ho5 : SortedOn cmpD l mid b := by
                      by_cases q : en ≤ mid
                      · exact (HHV.out.s4.sub q (Nat.le_refl _)).congr (fun k h1 h2 => HWB.out.out (by have := HLA.out; omega) (.inr h1))
                      · exact (HHV.out.s3.sub (Nat.le_refl _) (by omega)).congr (fun k h1 h2 => HWB.out.out (by have := HLA.out; omega) (.inr h1))
                    exact ⟨l, rfl, HSB.out, join_sorted HWB.out (.refl l) (by have := HLA.out; omega) (by omega) HOB.out ho5 HHV.out.x, HWA.out.trans (HWB.out.mono (Nat.le_refl _) (by omega))⟩)
                  go_wp2
                  go_end0
                  exact HF.out
              · skip
                have b2 : decide (mid < en) = false := decide_eq_false (by omega)
                have b2z : ¬ (mid : Int) < (en : Int) := by omega
                have HSA := HS
                have HRO := Lib.hid (rot_triv l (s := s) (m := m) (e := en) (by omega) (by omega) (by omega))
                have HWA : Hid (SwapsOn a b l l) := Lib.hid (.refl l)
                have HLA : Hid (l.length = L) := Lib.hid (HWA.out.len.trans HL.out)
                have HHV : Hid (Halves l a s mid en b) := Lib.hid (by
                  have hh := sym_halves (mid := mid) (n := n) (s := s) (lo := lo) (hi := hi) ordr_D HS1.out HS2.out (by omega) (by omega) (by have := HL.out; omega) HMID.out HN.out HCASE.out hlo hhi (fun c x y h1 h2 h3 h4 => by have := HLO.out c x y h1 h2 (by rw [HN1.out]; exact h3) h4; omega) (fun c x y h1 h2 h3 h4 => HHI.out c x y h1 h2 (by rw [HN1.out]; exact h3) h4) (by rw [← HEN.out]; exact HRO.out)
                  rw [← HEN.out] at hh
                  exact ⟨hh.1, hh.2.1, hh.2.2.1, hh.2.2.2.1, hh.2.2.2.2⟩)
                have HSB := HSA
                have HWB : Hid (SwapsOn a mid l l) := Lib.hid (.refl l)
                have HOB : Hid (SortedOn cmpD l a mid) := Lib.hid (by
                  by_cases q : s = a
                  · have := HHV.out.s2; rw [q] at this; exact this
                  · exact HHV.out.s1.sub (Nat.le_refl _) (by omega))
                have HLB : Hid (l.length = L) := Lib.hid (HWB.out.len.trans HLA.out)
                have HF : Hid (SwapPost w0 base g cap l (fun l' => SortedOn cmpD l' a b ∧ SwapsOn a b l l') (.returned (.tuple #[])) wo) := Lib.hid (by
                  have ho5 : SortedOn cmpD l mid b := by
                    by_cases q : en ≤ mid
                    · exact (HHV.out.s4.sub q (Nat.le_refl _)).congr (fun k h1 h2 => HWB.out.out (by have := HLA.out; omega) (.inr h1))
                    · exact (HHV.out.s3.sub (Nat.le_refl _) (by omega)).congr (fun k h1 h2 => HWB.out.out (by have := HLA.out; omega) (.inr h1))
                  exact ⟨l, rfl, HSB.out, join_sorted HWB.out (.refl l) (by have := HLA.out; omega) (by omega) HOB.out ho5 HHV.out.x, HWA.out.trans (HWB.out.mono (Nat.le_refl _) (by omega))⟩)
                go_wp2
                go_end0
                exact HF.out
          · skip
            have b1 : decide (a < s) = false := decide_eq_false (by omega)
            have b1z : ¬ (a : Int) < (s : Int) := by omega
            by_cases p2 : mid < en
            · by_cases r2 : en < b
              · skip
                have b2 : decide (mid < en) = true := decide_eq_true (by omega)
                have b2z : (mid : Int) < (en : Int) := by omega
                have c2 : decide (en < b) = true := decide_eq_true (by omega)
                have c2z : (en : Int) < (b : Int) := by omega
                have HSA := HS
                have HRO := Lib.hid (rot_triv l (s := s) (m := m) (e := en) (by omega) (by omega) (by omega))
                have HWA : Hid (SwapsOn a b l l) := Lib.hid (.refl l)
                have HLA : Hid (l.length = L) := Lib.hid (HWA.out.len.trans HL.out)
                have HHV : Hid (Halves l a s mid en b) := Lib.hid (by
                  have hh := sym_halves (mid := mid) (n := n) (s := s) (lo := lo) (hi := hi) ordr_D HS1.out HS2.out (by omega) (by omega) (by have := HL.out; omega) HMID.out HN.out HCASE.out hlo hhi (fun c x y h1 h2 h3 h4 => by have := HLO.out c x y h1 h2 (by rw [HN1.out]; exact h3) h4; omega) (fun c x y h1 h2 h3 h4 => HHI.out c x y h1 h2 (by rw [HN1.out]; exact h3) h4) (by rw [← HEN.out]; exact HRO.out)
                  rw [← HEN.out] at hh
                  exact ⟨hh.1, hh.2.1, hh.2.2.1, hh.2.2.2.1, hh.2.2.2.2⟩)
                have HSB := HSA
                have HWB : Hid (SwapsOn a mid l l) := Lib.hid (.refl l)
                have HOB : Hid (SortedOn cmpD l a mid) := Lib.hid (by
                  by_cases q : s = a
                  · have := HHV.out.s2; rw [q] at this; exact this
                  · exact HHV.out.s1.sub (Nat.le_refl _) (by omega))
                have HLB : Hid (l.length = L) := Lib.hid (HWB.out.len.trans HLA.out)
                go_wp2_with fail
                refine (HIH.out w0 base g cap l L mid en b _ _ _ _ HSB.out (HWB.out.all (HWA.out.all HROW.out)) HLB.out rfl rfl rfl hl (by omega) (by omega) (by omega) (by omega) (HHV.out.s3.congr (fun k h1 h2 => HWB.out.out (by have := HLA.out; omega) (.inr h1))) (HHV.out.s4.congr (fun k h1 h2 => HWB.out.out (by have := HLA.out; omega) (.inr (by omega))))).mono ?_
                rintro e w5 ⟨l3, rfl, hs5, ho5, hw5⟩
                have HF : Hid (SwapPost w0 base g cap l (fun l' => SortedOn cmpD l' a b ∧ SwapsOn a b l l') (.returned (.tuple #[])) w5) := Lib.hid ⟨l3, rfl, hs5, join_sorted HWB.out hw5 (by have := HLA.out; omega) (by omega) HOB.out ho5 HHV.out.x, HWA.out.trans ((HWB.out.mono (Nat.le_refl _) (by omega)).trans (hw5.mono (by omega) (Nat.le_refl _)))⟩
                clear hs5 ho5 hw5
                go_wp2
                go_end0
                exact HF.out
              · skip
                have b2 : decide (mid < en) = true := decide_eq_true (by omega)
                have b2z : (mid : Int) < (en : Int) := by omega
                have c2 : decide (en < b) = false := decide_eq_false (by omega)
                have c2z : ¬ (en : Int) < (b : Int) := by omega
                have HSA := HS
                have HRO := Lib.hid (rot_triv l (s := s) (m := m) (e := en) (by omega) (by omega) (by omega))
                have HWA : Hid (SwapsOn a b l l) := Lib.hid (.refl l)
                have HLA : Hid (l.length = L) := Lib.hid (HWA.out.len.trans HL.out)
                have HHV : Hid (Halves l a s mid en b) := Lib.hid (by
                  have hh := sym_halves (mid := mid) (n := n) (s := s) (lo := lo) (hi := hi) ordr_D HS1.out HS2.out (by omega) (by omega) (by have := HL.out; omega) HMID.out HN.out HCASE.out hlo hhi (fun c x y h1 h2 h3 h4 => by have := HLO.out c x y h1 h2 (by rw [HN1.out]; exact h3) h4; omega) (fun c x y h1 h2 h3 h4 => HHI.out c x y h1 h2 (by rw [HN1.out]; exact h3) h4) (by rw [← HEN.out]; exact HRO.out)
                  rw [← HEN.out] at hh
                  exact ⟨hh.1, hh.2.1, hh.2.2.1, hh.2.2.2.1, hh.2.2.2.2⟩)
                have HSB := HSA
                have HWB : Hid (SwapsOn a mid l l) := Lib.hid (.refl l)
                have HOB : Hid (SortedOn cmpD l a mid) := Lib.hid (by
                  by_cases q : s = a
                  · have := HHV.out.s2; rw [q] at this; exact this
                  · exact HHV.out.s1.sub (Nat.le_refl _) (by omega))
                have HLB : Hid (l.length = L) := Lib.hid (HWB.out.len.trans HLA.out)
                have HF : Hid (SwapPost w0 base g cap l (fun l' => SortedOn cmpD l' a b ∧ SwapsOn a b l l') (.returned (.tuple #[])) wo) := Lib.hid (by
                  have ho5 : SortedOn cmpD l mid b := by
                    by_cases q : en ≤ mid
                    · exact (HHV.out.s4.sub q (Nat.le_refl _)).congr (fun k h1 h2 => HWB.out.out (by have := HLA.out; omega) (.inr h1))
                    · exact (HHV.out.s3.sub (Nat.le_refl _) (by omega)).congr (fun k h1 h2 => HWB.out.out (by have := HLA.out; omega) (.inr h1))
                  exact ⟨l, rfl, HSB.out, join_sorted HWB.out (.refl l) (by have := HLA.out; omega) (by omega) HOB.out ho5 HHV.out.x, HWA.out.trans (HWB.out.mono (Nat.le_refl _) (by omega))⟩)
                go_wp2
                go_end0
                exact HF.out
            · skip
              have b2 : decide (mid < en) = false := decide_eq_false (by omega)
              have b2z : ¬ (mid : Int) < (en : Int) := by omega
              have HSA := HS
              have HRO := Lib.hid (rot_triv l (s := s) (m := m) (e := en) (by omega) (by omega) (by omega))
              have HWA : Hid (SwapsOn a b l l) := Lib.hid (.refl l)
              have HLA : Hid (l.length = L) := Lib.hid (HWA.out.len.trans HL.out)
              have HHV : Hid (Halves l a s mid en b) := Lib.hid (by
                have hh := sym_halves (mid := mid) (n := n) (s := s) (lo := lo) (hi := hi) ordr_D HS1.out HS2.out (by omega) (by omega) (by have := HL.out; omega) HMID.out HN.out HCASE.out hlo hhi (fun c x y h1 h2 h3 h4 => by have := HLO.out c x y h1 h2 (by rw [HN1.out]; exact h3) h4; omega) (fun c x y h1 h2 h3 h4 => HHI.out c x y h1 h2 (by rw [HN1.out]; exact h3) h4) (by rw [← HEN.out]; exact HRO.out)
                rw [← HEN.out] at hh
                exact ⟨hh.1, hh.2.1, hh.2.2.1, hh.2.2.2.1, hh.2.2.2.2⟩)
              have HSB := HSA
              have HWB : Hid (SwapsOn a mid l l) := Lib.hid (.refl l)
              have HOB : Hid (SortedOn cmpD l a mid) := Lib.hid (by
                by_cases q : s = a
                · have := HHV.out.s2; rw [q] at this; exact this
                · exact HHV.out.s1.sub (Nat.le_refl _) (by omega))
              have HLB : Hid (l.length = L) := Lib.hid (HWB.out.len.trans HLA.out)
              have HF : Hid (SwapPost w0 base g cap l (fun l' => SortedOn cmpD l' a b ∧ SwapsOn a b l l') (.returned (.tuple #[])) wo) := Lib.hid (by
                have ho5 : SortedOn cmpD l mid b := by
                  by_cases q : en ≤ mid
                  · exact (HHV.out.s4.sub q (Nat.le_refl _)).congr (fun k h1 h2 => HWB.out.out (by have := HLA.out; omega) (.inr h1))
                  · exact (HHV.out.s3.sub (Nat.le_refl _) (by omega)).congr (fun k h1 h2 => HWB.out.out (by have := HLA.out; omega) (.inr h1))
                exact ⟨l, rfl, HSB.out, join_sorted HWB.out (.refl l) (by have := HLA.out; omega) (by omega) HOB.out ho5 HHV.out.x, HWA.out.trans (HWB.out.mono (Nat.le_refl _) (by omega))⟩)
              go_wp2
              go_end0
              exact HF.out

theorem symMerge_all : ∀ N, SymSaid N := by
  intro N
  induction N with
  | zero =>
    intro w0 base g cap l L a m b A M B W h hrow hL hA hM hB hl ham hmb hb hN hs1 hs2
    omega
  | succ N ih =>
    intro w0 base g cap l L a m b A M B W h hrow hL hA hM hB hl ham hmb hb hN hs1 hs2
    by_cases h1 : a + 1 = m
    · exact symMerge_one w0 base g cap l L a m b A M B W h hrow hL hA hM hB hl h1 hmb hb hs2
    · by_cases h2 : m + 1 = b
      · exact symMerge_last w0 base g cap l L a m b A M B W h hrow hL hA hM hB hl (by omega) h2 hb hs1
      · exact symMerge_gen N ih w0 base g cap l L a m b A M B W h hrow hL hA hM hB hl (by omega) (by omega) hb hN hs1 hs2
end Go.Proofs.Ytmdjcljgbagehaa
