/- Comparing values, rows, deltas: the walks. -/
import Derived.Test.YtmdjcljgbagehaaCmpP
import Derived.Test.YtmdjcljgbagehaaInt0
import Derived.Shelf.Small.Strs
namespace Go.Proofs.Ytmdjcljgbagehaa
open Go.RowKit

def laysCmp_ren : Go.Shelf.Ren := ⟨fun | 106 => 38 | 213 => 40 | 265 => 42 | n => n, fun | 3 => 3 | 9 => 9 | n => n, fun n => n⟩
theorem laysCmp : Go.Proofs.Lays.n106 Try.prog laysCmp_ren where
  mixed := by kernel_rfl
  f106 := Try.func38.trans (congrArg some (by kernel_rfl))
  f213 := Try.func40.trans (congrArg some (by kernel_rfl))
  f265 := Try.func42.trans (congrArg some (by kernel_rfl))
  t3 := Try.underlying3
  a3 := Try.isAgg3
  z3 := Try.sizeOf3
  v3 := Try.zeroValue3
  t9 := Try.underlying9
  a9 := Try.isAgg9
  z9 := Try.sizeOf9
  v9 := Try.zeroValue9
def encV (v : VVal) : List Value := [.int .i64 v.kind, .int .i64 v.n, .string v.s]
theorem encV_len (v : VVal) : (encV v).length = 3 := rfl
theorem encV_one (v : VVal) : ∀ u ∈ encV v, u.oneCell' = true := by simp [encV, Value.oneCell']
theorem cellsV {w W : World} {b off : Nat} {l : List VVal} (hx : ∀ j x, l[j]? = some x → ∀ i v, (encV x)[i]? = some v → w.cell? ⟨b, off + j * 3 + i, none⟩ = some v) (hb : b < w.heap.size) (hW : Below w.heap.size w W) {j : Nat} {x : VVal} (hj : l[j]? = some x) :
    W.cell? ⟨b, off + j * 3, none⟩ = some (.int .i64 x.kind) ∧ W.cell? ⟨b, off + j * 3 + 1, none⟩ = some (.int .i64 x.n) ∧ W.cell? ⟨b, off + j * 3 + 2, none⟩ = some (.string x.s) :=
  ⟨(hW.cell (p := ⟨_, _, none⟩) hb).trans (hx j x hj 0 _ rfl), (hW.cell (p := ⟨_, _, none⟩) hb).trans (hx j x hj 1 _ rfl), (hW.cell (p := ⟨_, _, none⟩) hb).trans (hx j x hj 2 _ rfl)⟩
theorem isNaN_any (x : Int) (w : World) : Calls Try.prog 35 #[.int .i64 x] w fun e w' => e = .returned (.bool false) ∧ w' = w := by
  have h : (x != x) = false := by simp
  go_enter Try.func35, Try.ntmps35
  go_wp2
  go_ret
  exact ⟨rfl, rfl⟩
theorem cmpI_any (x y : Int) (w : World) : Calls Try.prog 29 #[.int .i64 x, .int .i64 y] w fun e w' => e = .returned (.int .i64 (Go.Lib.compareInt x y)) ∧ w' = w := by
  by_cases h1 : x < y
  · go_enter Try.func29, Try.ntmps29
    go_wp2_with (go_at_call 35; refine (isNaN_any _ _).mono ?_; rintro e w' ⟨rfl, rfl⟩)
    go_ret
    exact ⟨ret_int (by unfold Go.Lib.compareInt; rw [if_pos h1]), rfl⟩
  · by_cases h2 : y < x
    · go_enter Try.func29, Try.ntmps29
      go_wp2_with (go_at_call 35; refine (isNaN_any _ _).mono ?_; rintro e w' ⟨rfl, rfl⟩)
      go_ret
      exact ⟨ret_int (by unfold Go.Lib.compareInt; rw [if_neg (by omega : ¬ x < y), if_pos (by omega : x > y)]), rfl⟩
    · go_enter Try.func29, Try.ntmps29
      go_wp2_with (go_at_call 35; refine (isNaN_any _ _).mono ?_; rintro e w' ⟨rfl, rfl⟩)
      go_ret
      exact ⟨ret_int (by unfold Go.Lib.compareInt; rw [if_neg (by omega : ¬ x < y), if_neg (by omega : ¬ x > y)]), rfl⟩
/-- The first that is not zero. -/
def orL : List Int → Int
  | [] => 0
  | a :: l => cor a (orL l)
theorem orL3 (a b c : Int) : orL [a, b, c] = cor a (cor b c) := by
  simp only [orL]
  congr 2
  unfold cor
  split
  · rfl
  · rename_i h; exact (Decidable.not_not.1 h).symm
theorem orL2 (a b : Int) : orL [a, b] = cor a b := by
  simp only [orL]
  congr 1
  unfold cor
  split
  · rfl
  · rename_i h; exact (Decidable.not_not.1 h).symm
set_option maxHeartbeats 1000000 in
theorem or_any (A : Option Addr) (n c : Nat) (l : List Int) (w : World) (hr : SlT 1 eI w A n c l) (hn : n ≤ 1000000) :
    Calls Try.prog 28 #[.slice A n c] w fun e w' => e = .returned (.int .i64 (orL l)) ∧ w' = w := by
  have HL := Lib.hid hr.1
  have HR := Lib.hid hr
  clear hr
  go_enter Try.func28, Try.ntmps28
  go_wp2
  go_loopg [5, 8] n (fun gg _ s8 wr => ∃ kk : Nat, kk ≤ n ∧ n - kk ≤ gg ∧ s8 = .int .i64 kk ∧ Hid (orL l = orL (l.drop kk)) ∧ wr = w)
  case atStart => exact ⟨0, Nat.zero_le _, by omega, rfl, Lib.hid (by rw [List.drop_zero]), rfl⟩
  case round =>
    obtain ⟨kk, hkk, hg, rfl, HO, rfl⟩ := hrel
    by_cases hlt : kk < n
    · have hltz : (kk : Int) < (n : Int) := by omega
      obtain ⟨b, off, rfl, hb, hx⟩ := HR.out.2.2 (by omega)
      obtain ⟨x, hj⟩ : ∃ x, l[kk]? = some x := ⟨_, List.getElem?_eq_getElem (by rw [HL.out]; exact hlt)⟩
      have hc := hx kk x hj 0 _ rfl
      rw [Nat.mul_one, Nat.add_zero] at hc
      have HD : Hid (orL l = cor x (orL (l.drop (kk + 1)))) := Lib.hid (by
        rw [HO.out, List.drop_eq_getElem_cons (by rw [HL.out]; exact hlt), (List.getElem?_eq_some_iff.1 hj).2]; rfl)
      clear hx hj
      by_cases h0 : x = 0
      · have h0b : (x != 0) = false := by simpa using h0
        have H0 := Lib.hid h0
        clear h0
        go_wp2
        go_roundg (n - (kk + 1))
        case measure => omega
        case rel => exact ⟨kk + 1, by omega, by omega, by go_num, Lib.hid (by rw [HD.out, H0.out]; rfl), rfl⟩
      · have h0b : (x != 0) = true := by simpa using h0
        have H0 := Lib.hid h0
        clear h0
        go_wp2
        go_ret
        exact ⟨ret_int (by rw [HD.out]; unfold cor; rw [if_pos H0.out]), rfl⟩
    · have hltz : ¬ (kk : Int) < (n : Int) := by omega
      obtain rfl : kk = n := by omega
      go_wp2
      go_ret
      exact ⟨ret_int (by rw [HO.out, List.drop_of_length_le (by rw [HL.out]; exact Nat.le_refl _)]; rfl), rfl⟩
def CmpPost (w : World) (n : Int) (e : Ending) (w' : World) : Prop := e = .returned (.int .i64 n) ∧ Below w.heap.size w w'
set_option maxHeartbeats 2000000 in
set_option maxRecDepth 100000 in
theorem cmpV_any (u v : VVal) (w : World) :
    Calls Try.prog 34 #[.agg #[.int .i64 u.kind, .int .i64 u.n, .string u.s], .agg #[.int .i64 v.kind, .int .i64 v.n, .string v.s]] w (CmpPost w (cmpV3 (vkey u) (vkey v))) := by
  obtain ⟨uk, un, us⟩ := u
  obtain ⟨vk, vn, vs⟩ := v
  have HS := Lib.hid (fun w => Any.strings_Compare laysCmp us vs w)
  go_enter Try.func34, Try.ntmps34
  go_wp2_with fail
  have HU : Hid (Blk ((w.alloc (.cells #[.int .i64 uk, .int .i64 un, .string us] 48)).alloc (.cells #[.int .i64 vk, .int .i64 vn, .string vs] 48)) w.heap.size 48 #[.int .i64 uk, .int .i64 un, .string us]) := Lib.hid ((Blk.new w _ _).alloc _)
  have HV : Hid (Blk ((w.alloc (.cells #[.int .i64 uk, .int .i64 un, .string us] 48)).alloc (.cells #[.int .i64 vk, .int .i64 vn, .string vs] 48)) (w.heap.size + 1) 48 #[.int .i64 vk, .int .i64 vn, .string vs]) := Lib.hid (Blk.new' _ _ _ _ (by simp))
  have HB : Hid (Below w.heap.size w ((w.alloc (.cells #[.int .i64 uk, .int .i64 un, .string us] 48)).alloc (.cells #[.int .i64 vk, .int .i64 vn, .string vs] 48))) := Lib.hid (((Below.refl _ w).alloc (Nat.le_refl _) _).alloc (by simp) _)
  generalize (w.alloc (.cells #[.int .i64 uk, .int .i64 un, .string us] 48)).alloc (.cells #[.int .i64 vk, .int .i64 vn, .string vs] 48) = w1 at HU HV HB ⊢
  obtain ⟨u0, u1, u2, -⟩ := HU.out.three
  obtain ⟨v0, v1, v2, -⟩ := HV.out.three
  have hu := HU.out.lt
  have hv := HV.out.lt
  refine wp_region_noPanic ?_
  refine wp_region_held_drew (S := fun w' => w'.cell? ⟨w.heap.size, 0, none⟩ = some (.int .i64 uk) ∧ w'.cell? ⟨w.heap.size, 1, none⟩ = some (.int .i64 un) ∧ w'.cell? ⟨w.heap.size, 2, none⟩ = some (.string us) ∧ w'.cell? ⟨w.heap.size + 1, 0, none⟩ = some (.int .i64 vk) ∧ w'.cell? ⟨w.heap.size + 1, 1, none⟩ = some (.int .i64 vn) ∧ w'.cell? ⟨w.heap.size + 1, 2, none⟩ = some (.string vs)) (by kernel_rfl) ?_ (fun hHeld => ?_)
  · first | exact ⟨by assumption, by assumption⟩ | go_keep
  refine take_yes (i := 0) (some 5) (v := ?va0) (by simp only [List.getElem?_toArray, List.getElem?_cons_zero]; exact rfl) rfl (by kernel_rfl) (by kernel_rfl) (by kernel_rfl) (fun _ _ _ h => h) (by rfl) ?hya0 (by assumption) ?resta0
  case hya0 => (intro w hSw; (try dsimp only at hSw); go_simp; try with_reducible rfl)
  try simp only [Act.put, List.setIfInBounds_toArray, List.set_cons_zero, List.set_cons_succ]
  refine take_yes (i := 1) (some 6) (v := ?va1) (by simp only [List.getElem?_toArray, List.getElem?_cons_succ, List.getElem?_cons_zero]; exact rfl) rfl (by kernel_rfl) (by kernel_rfl) (by kernel_rfl) (fun _ _ _ h => h) (by rfl) ?hya1 (by assumption) ?resta1
  case hya1 => (intro w hSw; (try dsimp only at hSw); go_simp; try with_reducible rfl)
  try simp only [Act.put, List.setIfInBounds_toArray, List.set_cons_zero, List.set_cons_succ]
  refine take_yes (i := 2) (some 7) (v := ?va2) (by simp only [List.getElem?_toArray, List.getElem?_cons_succ, List.getElem?_cons_zero]; exact rfl) rfl (by kernel_rfl) (by kernel_rfl) (by kernel_rfl) (fun _ _ _ h => h) (by rfl) ?hya2 (by assumption) ?resta2
  case hya2 => (intro w hSw; (try dsimp only at hSw); go_simp; try with_reducible rfl)
  try simp only [Act.put, List.setIfInBounds_toArray, List.set_cons_zero, List.set_cons_succ]
  refine take_yes (i := 3) (some 8) (v := ?va3) (by simp only [List.getElem?_toArray, List.getElem?_cons_succ, List.getElem?_cons_zero]; exact rfl) rfl (by kernel_rfl) (by kernel_rfl) (by kernel_rfl) (fun _ _ _ h => h) (by rfl) ?hya3 (by assumption) ?resta3
  case hya3 => (intro w hSw; (try dsimp only at hSw); go_simp; try with_reducible rfl)
  try simp only [Act.put, List.setIfInBounds_toArray, List.set_cons_zero, List.set_cons_succ]
  refine take_yes (i := 5) (some 10) (v := ?va5) (by simp only [List.getElem?_toArray, List.getElem?_cons_succ, List.getElem?_cons_zero]; exact rfl) rfl (by kernel_rfl) (by kernel_rfl) (by kernel_rfl) (fun _ _ _ h => h) (by rfl) ?hya5 (by assumption) ?resta5
  case hya5 => (intro w hSw; (try dsimp only at hSw); go_simp; try with_reducible rfl)
  try simp only [Act.put, List.setIfInBounds_toArray, List.set_cons_zero, List.set_cons_succ]
  refine take_yes (i := 6) (some 11) (v := ?va6) (by simp only [List.getElem?_toArray, List.getElem?_cons_succ, List.getElem?_cons_zero]; exact rfl) rfl (by kernel_rfl) (by kernel_rfl) (by kernel_rfl) (fun _ _ _ h => h) (by rfl) ?hya6 (by assumption) ?resta6
  case hya6 => (intro w hSw; (try dsimp only at hSw); go_simp; try with_reducible rfl)
  try simp only [Act.put, List.setIfInBounds_toArray, List.set_cons_zero, List.set_cons_succ]
  refine take_yes (i := 7) (some 12) (v := ?va7) (by simp only [List.getElem?_toArray, List.getElem?_cons_succ, List.getElem?_cons_zero]; exact rfl) rfl (by kernel_rfl) (by kernel_rfl) (by kernel_rfl) (fun _ _ _ h => h) (by rfl) ?hya7 (by assumption) ?resta7
  case hya7 => (intro w hSw; (try dsimp only at hSw); go_simp; try with_reducible rfl)
  try simp only [Act.put, List.setIfInBounds_toArray, List.set_cons_zero, List.set_cons_succ]
  refine take_yes (i := 8) (some 13) (v := ?va8) (by simp only [List.getElem?_toArray, List.getElem?_cons_succ, List.getElem?_cons_zero]; exact rfl) rfl (by kernel_rfl) (by kernel_rfl) (by kernel_rfl) (fun _ _ _ h => h) (by rfl) ?hya8 (by assumption) ?resta8
  case hya8 => (intro w hSw; (try dsimp only at hSw); go_simp; try with_reducible rfl)
  try simp only [Act.put, List.setIfInBounds_toArray, List.set_cons_zero, List.set_cons_succ]
  refine take_yes (i := 10) (some 15) (v := ?va10) (by simp only [List.getElem?_toArray, List.getElem?_cons_succ, List.getElem?_cons_zero]; exact rfl) rfl (by kernel_rfl) (by kernel_rfl) (by kernel_rfl) (fun _ _ _ h => h) (by rfl) ?hya10 (by assumption) ?resta10
  case hya10 => (intro w hSw; (try dsimp only at hSw); go_simp; try with_reducible rfl)
  try simp only [Act.put, List.setIfInBounds_toArray, List.set_cons_zero, List.set_cons_succ]
  refine take_yes (i := 11) (some 16) (v := ?va11) (by simp only [List.getElem?_toArray, List.getElem?_cons_succ, List.getElem?_cons_zero]; exact rfl) rfl (by kernel_rfl) (by kernel_rfl) (by kernel_rfl) (fun _ _ _ h => h) (by rfl) ?hya11 (by assumption) ?resta11
  case hya11 => (intro w hSw; (try dsimp only at hSw); go_simp; try with_reducible rfl)
  try simp only [Act.put, List.setIfInBounds_toArray, List.set_cons_zero, List.set_cons_succ]
  refine take_yes (i := 12) (some 17) (v := ?va12) (by simp only [List.getElem?_toArray, List.getElem?_cons_succ, List.getElem?_cons_zero]; exact rfl) rfl (by kernel_rfl) (by kernel_rfl) (by kernel_rfl) (fun _ _ _ h => h) (by rfl) ?hya12 (by assumption) ?resta12
  case hya12 => (intro w hSw; (try dsimp only at hSw); go_simp; try with_reducible rfl)
  try simp only [Act.put, List.setIfInBounds_toArray, List.set_cons_zero, List.set_cons_succ]
  refine take_yes (i := 13) (some 18) (v := ?va13) (by simp only [List.getElem?_toArray, List.getElem?_cons_succ, List.getElem?_cons_zero]; exact rfl) rfl (by kernel_rfl) (by kernel_rfl) (by kernel_rfl) (fun _ _ _ h => h) (by rfl) ?hya13 (by assumption) ?resta13
  case hya13 => (intro w hSw; (try dsimp only at hSw); go_simp; try with_reducible rfl)
  try simp only [Act.put, List.setIfInBounds_toArray, List.set_cons_zero, List.set_cons_succ]
  refine wpAnyH_ready (rs := [4]) (by kernel_rfl) (by simp) ?_
  refine AllReadyH.cons rfl (fun K hK => ?_) AllReadyH.nil
  try go_simp
  go_wp2_with (first | (go_at_call 29; refine (cmpI_any _ _ _).mono ?_; rintro e w' ⟨rfl, rfl⟩) | (go_at_call 38; refine (HS.out _).mono ?_; rintro e w' ⟨rfl, rfl⟩) | (go_at_call 28; refine (or_any _ 3 3 [Go.Lib.compareInt uk vk, Go.Lib.compareInt un vn, Go.Lib.compareBytes us.data.toList vs.data.toList] _ (slT_block eI_len (Blk.new' w1 w1.heap.size 3 _ rfl).drew rfl rfl (Nat.le_refl _)) (by decide)).mono ?_; rintro e w' ⟨rfl, rfl⟩))
  refine hK.out _ _ ?_ (fun hHeld => ?_)
  · go_keep
  clear hK K
  try simp only [Act.put, List.setIfInBounds_toArray, List.set_cons_zero, List.set_cons_succ]
  refine wpAnyH_ready (rs := [9]) (by kernel_rfl) (by simp) ?_
  refine AllReadyH.cons rfl (fun K hK => ?_) AllReadyH.nil
  try go_simp
  go_wp2_with (first | (go_at_call 29; refine (cmpI_any _ _ _).mono ?_; rintro e w' ⟨rfl, rfl⟩) | (go_at_call 38; refine (HS.out _).mono ?_; rintro e w' ⟨rfl, rfl⟩) | (go_at_call 28; refine (or_any _ 3 3 [Go.Lib.compareInt uk vk, Go.Lib.compareInt un vn, Go.Lib.compareBytes us.data.toList vs.data.toList] _ (slT_block eI_len (Blk.new' w1 w1.heap.size 3 _ rfl).drew rfl rfl (Nat.le_refl _)) (by decide)).mono ?_; rintro e w' ⟨rfl, rfl⟩))
  refine hK.out _ _ ?_ (fun hHeld => ?_)
  · go_keep
  clear hK K
  try simp only [Act.put, List.setIfInBounds_toArray, List.set_cons_zero, List.set_cons_succ]
  refine wpAnyH_ready (rs := [14]) (by kernel_rfl) (by simp) ?_
  refine AllReadyH.cons rfl (fun K hK => ?_) AllReadyH.nil
  try go_simp
  go_wp2_with (first | (go_at_call 29; refine (cmpI_any _ _ _).mono ?_; rintro e w' ⟨rfl, rfl⟩) | (go_at_call 38; refine (HS.out _).mono ?_; rintro e w' ⟨rfl, rfl⟩) | (go_at_call 28; refine (or_any _ 3 3 [Go.Lib.compareInt uk vk, Go.Lib.compareInt un vn, Go.Lib.compareBytes us.data.toList vs.data.toList] _ (slT_block eI_len (Blk.new' w1 w1.heap.size 3 _ rfl).drew rfl rfl (Nat.le_refl _)) (by decide)).mono ?_; rintro e w' ⟨rfl, rfl⟩))
  refine hK.out _ _ ?_ (fun hHeld => ?_)
  · go_keep
  clear hK K
  try simp only [Act.put, List.setIfInBounds_toArray, List.set_cons_zero, List.set_cons_succ]
  refine wpAnyH_ready (rs := [15]) (by kernel_rfl) (by simp) ?_
  refine AllReadyH.cons rfl (fun K hK => ?_) AllReadyH.nil
  try go_simp
  refine hK.out _ _ ?_ (fun hHeld => ?_)
  · go_keep
  clear hK K
  try simp only [Act.put, List.setIfInBounds_toArray, List.set_cons_zero, List.set_cons_succ]
  refine wpAnyH_ready (rs := [16]) (by kernel_rfl) (by simp) ?_
  refine AllReadyH.cons rfl (fun K hK => ?_) AllReadyH.nil
  try go_simp
  go_wp2_with (first | (go_at_call 29; refine (cmpI_any _ _ _).mono ?_; rintro e w' ⟨rfl, rfl⟩) | (go_at_call 38; refine (HS.out _).mono ?_; rintro e w' ⟨rfl, rfl⟩) | (go_at_call 28; refine (or_any _ 3 3 [Go.Lib.compareInt uk vk, Go.Lib.compareInt un vn, Go.Lib.compareBytes us.data.toList vs.data.toList] _ (slT_block eI_len (Blk.new' w1 w1.heap.size 3 _ rfl).drew rfl rfl (Nat.le_refl _)) (by decide)).mono ?_; rintro e w' ⟨rfl, rfl⟩))
  refine hK.out _ _ ?_ (fun hHeld => ?_)
  · go_keep
  clear hK K
  try simp only [Act.put, List.setIfInBounds_toArray, List.set_cons_zero, List.set_cons_succ]
  refine take_yes (i := 17) (some 4) (v := ?va17) (by simp only [List.getElem?_toArray, List.getElem?_cons_succ, List.getElem?_cons_zero]; exact rfl) rfl (by kernel_rfl) (by kernel_rfl) (by kernel_rfl) (fun _ _ _ h => h) (by rfl) ?hya17 (by assumption) ?resta17
  case hya17 => (intro w hSw; (try dsimp only at hSw); go_simp; try with_reducible rfl)
  try simp only [Act.put, List.setIfInBounds_toArray, List.set_cons_zero, List.set_cons_succ]
  refine wpAnyH_done (by kernel_rfl) ?_ _
  refine NoPanic.normal ?_
  go_wp2
  go_ret
  exact ⟨ret_int (by rw [orL3]; rfl), HB.out.trans (((Below.refl _ w1).alloc (Nat.le_refl _) _).drew.mono HB.out.size)⟩
theorem cmpRow_step {vs us : List VVal} {k : Nat} {x y : VVal} (hx : vs[k]? = some x) (hy : us[k]? = some y) : cmpL cmpV3 ((rkey vs).drop k) ((rkey us).drop k) = cor (cmpV3 (vkey x) (vkey y)) (cmpL cmpV3 ((rkey vs).drop (k + 1)) ((rkey us).drop (k + 1))) := by
  have h1 : k < (rkey vs).length := by unfold rkey; rw [List.length_map]; exact (List.getElem?_eq_some_iff.1 hx).1
  have h2 : k < (rkey us).length := by unfold rkey; rw [List.length_map]; exact (List.getElem?_eq_some_iff.1 hy).1
  rw [List.drop_eq_getElem_cons h1, List.drop_eq_getElem_cons h2]
  have e1 : (rkey vs)[k] = vkey x := (List.getElem?_eq_some_iff.1 (by unfold rkey; rw [List.getElem?_map, hx]; rfl : (rkey vs)[k]? = some (vkey x))).2
  have e2 : (rkey us)[k] = vkey y := (List.getElem?_eq_some_iff.1 (by unfold rkey; rw [List.getElem?_map, hy]; rfl : (rkey us)[k]? = some (vkey y))).2
  rw [e1, e2]
  rfl
set_option maxHeartbeats 2000000 in
theorem cmpF_any (A : Option Addr) (n c : Nat) (vs : List VVal) (B : Option Addr) (m d : Nat) (us : List VVal) (w : World) (hr : SlT 3 encV w A n c vs) (hs : SlT 3 encV w B m d us) (hn : n ≤ 1000000) :
    Calls Try.prog 33 #[.slice A n c, .slice B m d, .func (.func 34) #[] #[]] w (CmpPost w (cmpRow vs us)) := by
  have HL := Lib.hid hr.1
  have HM := Lib.hid hs.1
  have HR := Lib.hid hr
  have HS := Lib.hid hs
  have eg : ∀ args w, (callFunc 34 args).run Try.prog w = .ok (.enter 34 args) w := fun _ _ => by kernel_rfl
  clear hr hs
  go_enter Try.func33, Try.ntmps33
  go_wp2
  go_loopg [7, 8, 9, 10, 13] n (fun gg _ _ _ _ s13 wr => ∃ kk : Nat, kk ≤ n ∧ n - kk ≤ gg ∧ s13 = .int .i64 kk ∧ kk ≤ m ∧ Hid (Below w.heap.size w wr) ∧ Hid (cmpRow vs us = cmpL cmpV3 ((rkey vs).drop kk) ((rkey us).drop kk)))
  case atStart => exact ⟨0, Nat.zero_le _, by omega, rfl, Nat.zero_le _, Below.refl _ w, Lib.hid rfl⟩
  case round =>
    obtain ⟨kk, hkk, hg, rfl, hkm, BW, HC⟩ := hrel
    by_cases hlt : kk < n
    · have hltz : (kk : Int) < (n : Int) := by omega
      obtain ⟨b1, o1, rfl, hb1, hx1⟩ := HR.out.2.2 (by omega)
      obtain ⟨x, hx⟩ : ∃ x, vs[kk]? = some x := ⟨_, List.getElem?_eq_getElem (by rw [HL.out]; exact hlt)⟩
      obtain ⟨c0, c1, c2⟩ := cellsV hx1 hb1 BW.out hx
      have hb1w : b1 < wr.heap.size := Nat.lt_of_lt_of_le hb1 BW.out.size
      have HX := Lib.hid hx
      clear hx hx1
      by_cases hkm2 : kk < m
      · have hmz : ¬ (m : Int) ≤ (kk : Int) := by omega
        have hmb : decide (m ≤ kk) = false := decide_eq_false (by omega)
        have hmz2 : (kk : Int) < (m : Int) := by omega
        obtain ⟨b2, o2, rfl, hb2, hx2⟩ := HS.out.2.2 (by omega)
        obtain ⟨y, hy⟩ : ∃ y, us[kk]? = some y := ⟨_, List.getElem?_eq_getElem (by rw [HM.out]; exact hkm2)⟩
        obtain ⟨d0, d1, d2⟩ := cellsV hx2 hb2 BW.out hy
        have hb2w : b2 < wr.heap.size := Nat.lt_of_lt_of_le hb2 BW.out.size
        have hb2w' : b2 < wr.heap.size + 1 := by omega
        have HST := Lib.hid (HC.out.trans (cmpRow_step HX.out hy))
        have HBA := Lib.hid ((BW.out.alloc BW.out.size (.cells #[.int .i64 x.kind, .int .i64 x.n, .string x.s] 48)).alloc (Nat.le_trans BW.out.size (by simp)) (.cells #[.int .i64 y.kind, .int .i64 y.n, .string y.s] 48))
        clear hy hx2
        by_cases h0 : cmpV3 (vkey x) (vkey y) = 0
        · have H0 := Lib.hid h0
          clear h0
          go_wp2_with fail
          refine (cmpV_any x y _).mono ?_
          rintro e w' ⟨rfl, hb'⟩
          rw [H0.out]
          go_wp2
          go_roundg (n - (kk + 1))
          case measure => omega
          case rel => exact ⟨kk + 1, by omega, by omega, by go_num, by omega, HBA.out.trans (hb'.mono HBA.out.size), Lib.hid (by rw [HST.out, H0.out]; rfl)⟩
        · have H0 := Lib.hid h0
          have HF : Hid (cmpRow vs us = cmpV3 (vkey x) (vkey y)) := Lib.hid (by rw [HST.out]; unfold cor; rw [if_pos h0])
          obtain ⟨Z, hZ⟩ : ∃ Z, cmpV3 (vkey x) (vkey y) = Z := ⟨_, rfl⟩
          rw [hZ] at h0 HF
          have h0b : (Z != 0) = true := by simpa using h0
          have HZ := Lib.hid hZ
          clear h0 hZ
          go_wp2_with fail
          refine (cmpV_any x y _).mono ?_
          rintro e w' ⟨rfl, hb'⟩
          rw [HZ.out]
          go_wp2
          go_ret
          exact ⟨ret_int HF.out.symm, HBA.out.trans (hb'.mono HBA.out.size)⟩
      · have hmz : (m : Int) ≤ (kk : Int) := by omega
        have hmb : decide (m ≤ kk) = true := decide_eq_true (by omega)
        have HBA := Lib.hid (BW.out.alloc BW.out.size (.cells #[.int .i64 x.kind, .int .i64 x.n, .string x.s] 48))
        go_wp2
        go_ret
        refine ⟨ret_int ?_, HBA.out⟩
        rw [HC.out, List.drop_eq_getElem_cons (by unfold rkey; rw [List.length_map, HL.out]; exact hlt), List.drop_of_length_le (l := rkey us) (by unfold rkey; rw [List.length_map, HM.out]; omega)]
        rfl
    · have hltz : ¬ (kk : Int) < (n : Int) := by omega
      obtain rfl : kk = n := by omega
      have hd1 : (rkey vs).drop kk = [] := List.drop_of_length_le (by unfold rkey; rw [List.length_map, HL.out]; exact Nat.le_refl _)
      have HD1 := Lib.hid hd1
      clear hd1
      by_cases hnm : kk < m
      · have h1 : (kk : Int) < (m : Int) := by omega
        have h2 : decide (kk < m) = true := decide_eq_true hnm
        go_wp2
        go_ret
        refine ⟨ret_int ?_, BW.out⟩
        rw [HC.out, HD1.out, List.drop_eq_getElem_cons (by unfold rkey; rw [List.length_map, HM.out]; exact hnm)]
        rfl
      · have h1 : ¬ (kk : Int) < (m : Int) := by omega
        have h2 : decide (kk < m) = false := decide_eq_false hnm
        go_wp2
        go_ret
        refine ⟨ret_int ?_, BW.out⟩
        rw [HC.out, HD1.out, List.drop_of_length_le (l := rkey us) (by unfold rkey; rw [List.length_map, HM.out]; omega)]
        rfl
theorem cmpRows_any (A : Option Addr) (n c : Nat) (vs : List VVal) (B : Option Addr) (m d : Nat) (us : List VVal) (w : World) (hr : SlT 3 encV w A n c vs) (hs : SlT 3 encV w B m d us) (hn : n ≤ 1000000) :
    Calls Try.prog 27 #[.slice A n c, .slice B m d] w (CmpPost w (cmpRow vs us)) := by
  have HR := Lib.hid hr
  have HS := Lib.hid hs
  clear hr hs
  go_enter Try.func27, Try.ntmps27
  go_wp2_with fail
  refine (cmpF_any A n c vs B m d us _ HR.out HS.out hn).mono ?_
  rintro e w' ⟨rfl, hb'⟩
  go_wp2
  go_ret
  exact ⟨rfl, hb'⟩
/-- The rows of a delta lie in w. -/
def RowOk (w : World) (d : Dl) : Prop := SlT 3 encV w d.ra d.rn d.rc d.vs ∧ d.rn ≤ 1000000
theorem RowOk.below {w w' : World} {d : Dl} (h : RowOk w d) (hb : Below w.heap.size w w') : RowOk w' d := ⟨h.1.below hb, h.2⟩
set_option maxHeartbeats 2000000 in
set_option maxRecDepth 100000 in
theorem cmpD_any (u v : Dl) (w : World) (hu : RowOk w u) (hv : RowOk w v) :
    Calls Try.prog 19 #[.agg #[.int .i64 u.time, .slice u.ra u.rn u.rc, .int .i64 u.n], .agg #[.int .i64 v.time, .slice v.ra v.rn v.rc, .int .i64 v.n]] w (CmpPost w (cmpD u v)) := by
  obtain ⟨ut, ua, un, uc, uN, us⟩ := u
  obtain ⟨vt, va, vn, vc, vN, vs⟩ := v
  have HRU := Lib.hid hu
  have HRV := Lib.hid hv
  have hun : un ≤ 1000000 := hu.2
  clear hu hv
  go_enter Try.func19, Try.ntmps19
  go_wp2_with fail
  have HU : Hid (Blk ((w.alloc (.cells #[.int .i64 ut, .slice ua un uc, .int .i64 uN] 38)).alloc (.cells #[.int .i64 vt, .slice va vn vc, .int .i64 vN] 38)) w.heap.size 38 #[.int .i64 ut, .slice ua un uc, .int .i64 uN]) := Lib.hid ((Blk.new w _ _).alloc _)
  have HV : Hid (Blk ((w.alloc (.cells #[.int .i64 ut, .slice ua un uc, .int .i64 uN] 38)).alloc (.cells #[.int .i64 vt, .slice va vn vc, .int .i64 vN] 38)) (w.heap.size + 1) 38 #[.int .i64 vt, .slice va vn vc, .int .i64 vN]) := Lib.hid (Blk.new' _ _ _ _ (by simp))
  have HB : Hid (Below w.heap.size w ((w.alloc (.cells #[.int .i64 ut, .slice ua un uc, .int .i64 uN] 38)).alloc (.cells #[.int .i64 vt, .slice va vn vc, .int .i64 vN] 38))) := Lib.hid (((Below.refl _ w).alloc (Nat.le_refl _) _).alloc (by simp) _)
  generalize (w.alloc (.cells #[.int .i64 ut, .slice ua un uc, .int .i64 uN] 38)).alloc (.cells #[.int .i64 vt, .slice va vn vc, .int .i64 vN] 38) = w1 at HU HV HB ⊢
  obtain ⟨u0, u1, u2, -⟩ := HU.out.three
  obtain ⟨v0, v1, v2, -⟩ := HV.out.three
  have hu := HU.out.lt
  have hv := HV.out.lt
  refine wp_region_noPanic ?_
  refine wp_region_held_drew (S := fun w' => w'.cell? ⟨w.heap.size, 0, none⟩ = some (.int .i64 ut) ∧ w'.cell? ⟨w.heap.size, 1, none⟩ = some (.slice ua un uc) ∧ w'.cell? ⟨w.heap.size + 1, 0, none⟩ = some (.int .i64 vt) ∧ w'.cell? ⟨w.heap.size + 1, 1, none⟩ = some (.slice va vn vc)) (by kernel_rfl) ?_ (fun hHeld => ?_)
  · first | exact ⟨by assumption, by assumption⟩ | go_keep
  refine take_yes (i := 0) (some 5) (v := ?va0) (by simp only [List.getElem?_toArray, List.getElem?_cons_zero]; exact rfl) rfl (by kernel_rfl) (by kernel_rfl) (by kernel_rfl) (fun _ _ _ h => h) (by rfl) ?hya0 (by assumption) ?resta0
  case hya0 => (intro w hSw; (try dsimp only at hSw); go_simp; try with_reducible rfl)
  try simp only [Act.put, List.setIfInBounds_toArray, List.set_cons_zero, List.set_cons_succ]
  refine take_yes (i := 1) (some 6) (v := ?va1) (by simp only [List.getElem?_toArray, List.getElem?_cons_succ, List.getElem?_cons_zero]; exact rfl) rfl (by kernel_rfl) (by kernel_rfl) (by kernel_rfl) (fun _ _ _ h => h) (by rfl) ?hya1 (by assumption) ?resta1
  case hya1 => (intro w hSw; (try dsimp only at hSw); go_simp; try with_reducible rfl)
  try simp only [Act.put, List.setIfInBounds_toArray, List.set_cons_zero, List.set_cons_succ]
  refine take_yes (i := 2) (some 7) (v := ?va2) (by simp only [List.getElem?_toArray, List.getElem?_cons_succ, List.getElem?_cons_zero]; exact rfl) rfl (by kernel_rfl) (by kernel_rfl) (by kernel_rfl) (fun _ _ _ h => h) (by rfl) ?hya2 (by assumption) ?resta2
  case hya2 => (intro w hSw; (try dsimp only at hSw); go_simp; try with_reducible rfl)
  try simp only [Act.put, List.setIfInBounds_toArray, List.set_cons_zero, List.set_cons_succ]
  refine take_yes (i := 3) (some 8) (v := ?va3) (by simp only [List.getElem?_toArray, List.getElem?_cons_succ, List.getElem?_cons_zero]; exact rfl) rfl (by kernel_rfl) (by kernel_rfl) (by kernel_rfl) (fun _ _ _ h => h) (by rfl) ?hya3 (by assumption) ?resta3
  case hya3 => (intro w hSw; (try dsimp only at hSw); go_simp; try with_reducible rfl)
  try simp only [Act.put, List.setIfInBounds_toArray, List.set_cons_zero, List.set_cons_succ]
  refine take_yes (i := 5) (some 10) (v := ?va5) (by simp only [List.getElem?_toArray, List.getElem?_cons_succ, List.getElem?_cons_zero]; exact rfl) rfl (by kernel_rfl) (by kernel_rfl) (by kernel_rfl) (fun _ _ _ h => h) (by rfl) ?hya5 (by assumption) ?resta5
  case hya5 => (intro w hSw; (try dsimp only at hSw); go_simp; try with_reducible rfl)
  try simp only [Act.put, List.setIfInBounds_toArray, List.set_cons_zero, List.set_cons_succ]
  refine take_yes (i := 6) (some 11) (v := ?va6) (by simp only [List.getElem?_toArray, List.getElem?_cons_succ, List.getElem?_cons_zero]; exact rfl) rfl (by kernel_rfl) (by kernel_rfl) (by kernel_rfl) (fun _ _ _ h => h) (by rfl) ?hya6 (by assumption) ?resta6
  case hya6 => (intro w hSw; (try dsimp only at hSw); go_simp; try with_reducible rfl)
  try simp only [Act.put, List.setIfInBounds_toArray, List.set_cons_zero, List.set_cons_succ]
  refine take_yes (i := 7) (some 12) (v := ?va7) (by simp only [List.getElem?_toArray, List.getElem?_cons_succ, List.getElem?_cons_zero]; exact rfl) rfl (by kernel_rfl) (by kernel_rfl) (by kernel_rfl) (fun _ _ _ h => h) (by rfl) ?hya7 (by assumption) ?resta7
  case hya7 => (intro w hSw; (try dsimp only at hSw); go_simp; try with_reducible rfl)
  try simp only [Act.put, List.setIfInBounds_toArray, List.set_cons_zero, List.set_cons_succ]
  refine take_yes (i := 8) (some 13) (v := ?va8) (by simp only [List.getElem?_toArray, List.getElem?_cons_succ, List.getElem?_cons_zero]; exact rfl) rfl (by kernel_rfl) (by kernel_rfl) (by kernel_rfl) (fun _ _ _ h => h) (by rfl) ?hya8 (by assumption) ?resta8
  case hya8 => (intro w hSw; (try dsimp only at hSw); go_simp; try with_reducible rfl)
  try simp only [Act.put, List.setIfInBounds_toArray, List.set_cons_zero, List.set_cons_succ]
  refine wpAnyH_ready (rs := [4]) (by kernel_rfl) (by simp) ?_
  refine AllReadyH.cons rfl (fun K hK => ?_) AllReadyH.nil
  try go_simp
  go_wp2_with (first | (go_at_call 29; refine (cmpI_any _ _ _).mono ?_; rintro e w' ⟨rfl, rfl⟩) | (go_at_call 27; refine (cmpRows_any ua un uc us va vn vc vs _ (HRU.out.1.below HB.out.drew) (HRV.out.1.below HB.out.drew) hun).mono ?_; rintro e w2 ⟨rfl, hb2⟩; have HD : Hid (Below w1.heap.size w1 w2) := Lib.hid ((Below.refl _ w1).drew.trans hb2); obtain ⟨y0, y1, y2, -⟩ := (HU.out.below HD.out HU.out.lt).three; obtain ⟨x0, x1, x2, -⟩ := (HV.out.below HD.out HV.out.lt).three; have hu2 := (HU.out.below HD.out HU.out.lt).lt; have hv2 := (HV.out.below HD.out HV.out.lt).lt; clear hb2) | (go_at_call 28; refine (or_any _ 2 2 [Go.Lib.compareInt ut vt, cmpRow us vs] _ (slT_block eI_len (Blk.new' w2 w2.heap.size 3 _ rfl) rfl rfl (Nat.le_refl _)) (by decide)).mono ?_; rintro e w' ⟨rfl, rfl⟩))
  refine hK.out _ _ ?_ (fun hHeld => ?_)
  · go_keep
  clear hK K
  try simp only [Act.put, List.setIfInBounds_toArray, List.set_cons_zero, List.set_cons_succ]
  refine wpAnyH_ready (rs := [9]) (by kernel_rfl) (by simp) ?_
  refine AllReadyH.cons rfl (fun K hK => ?_) AllReadyH.nil
  try go_simp
  go_wp2_with (first | (go_at_call 29; refine (cmpI_any _ _ _).mono ?_; rintro e w' ⟨rfl, rfl⟩) | (go_at_call 27; refine (cmpRows_any ua un uc us va vn vc vs _ (HRU.out.1.below HB.out.drew) (HRV.out.1.below HB.out.drew) hun).mono ?_; rintro e w2 ⟨rfl, hb2⟩; have HD : Hid (Below w1.heap.size w1 w2) := Lib.hid ((Below.refl _ w1).drew.trans hb2); obtain ⟨y0, y1, y2, -⟩ := (HU.out.below HD.out HU.out.lt).three; obtain ⟨x0, x1, x2, -⟩ := (HV.out.below HD.out HV.out.lt).three; have hu2 := (HU.out.below HD.out HU.out.lt).lt; have hv2 := (HV.out.below HD.out HV.out.lt).lt; clear hb2) | (go_at_call 28; refine (or_any _ 2 2 [Go.Lib.compareInt ut vt, cmpRow us vs] _ (slT_block eI_len (Blk.new' w2 w2.heap.size 3 _ rfl) rfl rfl (Nat.le_refl _)) (by decide)).mono ?_; rintro e w' ⟨rfl, rfl⟩))
  refine hK.out _ _ ?_ (fun hHeld => ?_)
  · go_keep
  clear hK K
  try simp only [Act.put, List.setIfInBounds_toArray, List.set_cons_zero, List.set_cons_succ]
  refine wpAnyH_ready (rs := [10]) (by kernel_rfl) (by simp) ?_
  refine AllReadyH.cons rfl (fun K hK => ?_) AllReadyH.nil
  try go_simp
  refine hK.out _ _ ?_ (fun hHeld => ?_)
  · go_keep
  clear hK K
  try simp only [Act.put, List.setIfInBounds_toArray, List.set_cons_zero, List.set_cons_succ]
  refine wpAnyH_ready (rs := [11]) (by kernel_rfl) (by simp) ?_
  refine AllReadyH.cons rfl (fun K hK => ?_) AllReadyH.nil
  try go_simp
  go_wp2_with (first | (go_at_call 29; refine (cmpI_any _ _ _).mono ?_; rintro e w' ⟨rfl, rfl⟩) | (go_at_call 27; refine (cmpRows_any ua un uc us va vn vc vs _ (HRU.out.1.below HB.out.drew) (HRV.out.1.below HB.out.drew) hun).mono ?_; rintro e w2 ⟨rfl, hb2⟩; have HD : Hid (Below w1.heap.size w1 w2) := Lib.hid ((Below.refl _ w1).drew.trans hb2); obtain ⟨y0, y1, y2, -⟩ := (HU.out.below HD.out HU.out.lt).three; obtain ⟨x0, x1, x2, -⟩ := (HV.out.below HD.out HV.out.lt).three; have hu2 := (HU.out.below HD.out HU.out.lt).lt; have hv2 := (HV.out.below HD.out HV.out.lt).lt; clear hb2) | (go_at_call 28; refine (or_any _ 2 2 [Go.Lib.compareInt ut vt, cmpRow us vs] _ (slT_block eI_len (Blk.new' w2 w2.heap.size 3 _ rfl) rfl rfl (Nat.le_refl _)) (by decide)).mono ?_; rintro e w' ⟨rfl, rfl⟩))
  refine hK.out _ _ ?_ (fun hHeld => ?_)
  · go_keep
  clear hK K
  try simp only [Act.put, List.setIfInBounds_toArray, List.set_cons_zero, List.set_cons_succ]
  refine take_yes (i := 12) (some 4) (v := ?va12) (by simp only [List.getElem?_toArray, List.getElem?_cons_succ, List.getElem?_cons_zero]; exact rfl) rfl (by kernel_rfl) (by kernel_rfl) (by kernel_rfl) (fun _ _ _ h => h) (by rfl) ?hya12 (by assumption) ?resta12
  case hya12 => (intro w hSw; (try dsimp only at hSw); go_simp; try with_reducible rfl)
  try simp only [Act.put, List.setIfInBounds_toArray, List.set_cons_zero, List.set_cons_succ]
  refine wpAnyH_done (by kernel_rfl) ?_ _
  refine NoPanic.normal ?_
  go_wp2
  go_ret
  exact ⟨ret_int (by rw [orL2]; rfl), HB.out.trans ((HD.out.alloc HD.out.size _).mono HB.out.size)⟩
end Go.Proofs.Ytmdjcljgbagehaa
