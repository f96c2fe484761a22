/- producer: Right answers true for a right table. -/
import Derived.Test.YtghciaaedjomjaaProdK
import Derived.Test.YtghciaaedjomjaaTake
namespace Go.Proofs.Ytghciaaedjomjaa
open Go.RowKit

set_option maxHeartbeats 4000000 in
set_option maxRecDepth 100000 in
theorem pright_yes (P : Nat → Prop) (A : Option Addr) (c : Nat) (s : List Prd) (w : World) (hs : RightP s) (hr : TabP P w A c s) :
    Calls Try.prog 12 #[.slice A s.length c] w fun e w' => e = .returned (.bool true) ∧ Below w.heap.size w w' := by
  have hfew := hs.few
  obtain ⟨raw, hr1, hr2⟩ := hr
  have HR1 := Lib.hid hr1
  have HR2 := Lib.hid hr2
  have HS := Lib.hid hs
  have hl := hr2.1
  clear hr1 hr2 hs
  go_enter Try.func12, Try.ntmps12
  go_wp2_with fail
  go_loopg [3, 4, 7] s.length (fun gg _ _ s7 wr => ∃ k : Nat, s7 = .int .i64 k ∧ k ≤ s.length ∧ s.length - k ≤ gg ∧ Hid (Below w.heap.size w wr))
  case atStart => exact ⟨0, rfl, by omega, by omega, Below.refl _ _⟩
  case round =>
    obtain ⟨k, rfl, hk, hg, HB⟩ := hrel
    by_cases hlt : k < s.length
    · have hltz : (k : Int) < (s.length : Int) := by omega
      obtain ⟨b, off, rfl, hb, hcells⟩ := HR1.out.1.2.2 (by omega)
      obtain ⟨x, hx⟩ : ∃ x, raw[k]? = some x := ⟨_, List.getElem?_eq_getElem (by omega)⟩
      obtain ⟨p, hp⟩ : ∃ p, s[k]? = some p := ⟨_, List.getElem?_eq_getElem hlt⟩
      obtain ⟨c0, c1, c2, c3⟩ := cellsP hcells hb HB.out hx
      have HOK := Lib.hid ((HR2.out.2 k x p hx hp).below HB.out)
      have HFI := Lib.hid (HS.out.fine p (List.mem_of_getElem? hp))
      have hbw : b < wr.heap.size := Nat.lt_of_lt_of_le hb HB.out.size
      rcases Nat.eq_zero_or_pos k with h0 | h0
      · subst h0
        simp only [Nat.zero_mul, Nat.add_zero] at c0 c1 c2 c3
        have hz0b : decide ((0 : Int) < 0) = false := rfl
        clear hx hp hcells
        go_wp2_with fail
        have HKB := Lib.hid (Blk.new wr 59 #[.int .i64 x.id, .int .i64 x.epoch, .int .i64 x.next, .slice x.la x.ln x.lc])
        obtain ⟨m0, m1, m2, m3, mf⟩ := HKB.out.four
        refine wp_region_noPanic ?_
        refine wp_region_held_drew (S := fun w' => w'.cell? ⟨wr.heap.size, 0, none⟩ = some (.int .i64 x.id) ∧ w'.cell? ⟨wr.heap.size, 1, none⟩ = some (.int .i64 x.epoch) ∧ w'.cell? ⟨wr.heap.size, 2, none⟩ = some (.int .i64 x.next) ∧ w'.cell? ⟨wr.heap.size, 3, none⟩ = some (.slice x.la x.ln x.lc)) (by kernel_rfl) ?_ (fun hHeld => ?_)
        · go_keep
        refine take_yes (i := 0) (some 12) (v := ?v0) (by simp only [List.getElem?_toArray, List.getElem?_cons_succ, List.getElem?_cons_zero]; exact rfl) rfl (by kernel_rfl) (by kernel_rfl) (by kernel_rfl) (fun _ _ _ h => h) (by rfl) ?hy0 (by assumption) ?rest0
        case hy0 => (intro w hSw; (try dsimp only at hSw); go_simp; try with_reducible rfl)
        try simp only [Act.put, List.setIfInBounds_toArray, List.set_cons_zero, List.set_cons_succ]
        refine wpAnyH_ready (rs := [1]) (by kernel_rfl) (by simp) ?_
        refine AllReadyH.cons rfl (fun K hK => ?_) AllReadyH.nil
        go_simp
        go_wp2_with (go_at_call 32; refine (fine_yes P x p _ HFI.out (show RawOk P (World.drew (wr.alloc (.cells #[.int .i64 x.id, .int .i64 x.epoch, .int .i64 x.next, .slice x.la x.ln x.lc] 59))) x p from HOK.out.below (((Below.refl _ wr).alloc (Nat.le_refl _) _).drew))).mono ?_; rintro e w7 ⟨rfl, hb7⟩; obtain ⟨p0, p1, p2, p3, pf⟩ := (HKB.out.drew.below hb7 HKB.out.lt).four; have HB7 : Hid (Below w.heap.size w w7) := Lib.hid ((HB.out.alloc HB.out.size (.cells #[.int .i64 x.id, .int .i64 x.epoch, .int .i64 x.next, .slice x.la x.ln x.lc] 59)).drew.trans (hb7.mono (by have := HB.out.size; simp; omega))); clear hb7)
        refine hK.out _ _ ?_ (fun hHeld => ?_)
        · go_keep
        clear hK K
        try simp only [Act.put, List.setIfInBounds_toArray, List.set_cons_zero, List.set_cons_succ]
        refine take_yes (i := 2) (some 14) (v := ?v2) (by simp only [List.getElem?_toArray, List.getElem?_cons_succ, List.getElem?_cons_zero]; exact rfl) rfl (by kernel_rfl) (by kernel_rfl) (by kernel_rfl) (fun _ _ _ h => h) (by rfl) ?hy2 (by assumption) ?rest2
        case hy2 => (intro w hSw; (try dsimp only at hSw); go_simp; try with_reducible rfl)
        try simp only [Act.put, List.setIfInBounds_toArray, List.set_cons_zero, List.set_cons_succ]
        refine take_yes (i := 3) (some 15) (v := ?v3) (by simp only [List.getElem?_toArray, List.getElem?_cons_succ, List.getElem?_cons_zero]; exact rfl) rfl (by kernel_rfl) (by kernel_rfl) (by kernel_rfl) (fun _ _ _ h => h) (by rfl) ?hy3 (by assumption) ?rest3
        case hy3 => (intro w hSw; (try dsimp only at hSw); go_simp; try with_reducible rfl)
        try simp only [Act.put, List.setIfInBounds_toArray, List.set_cons_zero, List.set_cons_succ]
        refine take_yes (i := 4) (some 16) (v := ?v4) (by simp only [List.getElem?_toArray, List.getElem?_cons_succ, List.getElem?_cons_zero]; exact rfl) rfl (by kernel_rfl) (by kernel_rfl) (by kernel_rfl) (fun _ _ _ h => h) (by rfl) ?hy4 (by assumption) ?rest4
        case hy4 => (intro w hSw; (try dsimp only at hSw); go_simp; try with_reducible rfl)
        try simp only [Act.put, List.setIfInBounds_toArray, List.set_cons_zero, List.set_cons_succ]
        refine take_yes (i := 5) (some 17) (v := ?v5) (by simp only [List.getElem?_toArray, List.getElem?_cons_succ, List.getElem?_cons_zero]; exact rfl) rfl (by kernel_rfl) (by kernel_rfl) (by kernel_rfl) (fun _ _ _ h => h) (by rfl) ?hy5 (by assumption) ?rest5
        case hy5 => (intro w hSw; (try dsimp only at hSw); go_simp; try with_reducible rfl)
        try simp only [Act.put, List.setIfInBounds_toArray, List.set_cons_zero, List.set_cons_succ]
        refine take_yes (i := 6) (some 18) (v := ?v6) (by simp only [List.getElem?_toArray, List.getElem?_cons_succ, List.getElem?_cons_zero]; exact rfl) rfl (by kernel_rfl) (by kernel_rfl) (by kernel_rfl) (fun _ _ _ h => h) (by rfl) ?hy6 (by assumption) ?rest6
        case hy6 => (intro w hSw; (try dsimp only at hSw); go_simp; try with_reducible rfl)
        try simp only [Act.put, List.setIfInBounds_toArray, List.set_cons_zero, List.set_cons_succ]
        refine take_un (i := 7) (some 19) (by simp only [List.getElem?_toArray, List.getElem?_cons_succ, List.getElem?_cons_zero]; exact rfl) rfl (by kernel_rfl) (by kernel_rfl) (by kernel_rfl) (fun _ _ _ h => h) (by rfl) (by assumption) ?_
        try simp only [Act.put, List.setIfInBounds_toArray, List.set_cons_zero, List.set_cons_succ]
        refine take_un (i := 8) (some 20) (by simp only [List.getElem?_toArray, List.getElem?_cons_succ, List.getElem?_cons_zero]; exact rfl) rfl (by kernel_rfl) (by kernel_rfl) (by kernel_rfl) (fun _ _ _ h => h) (by rfl) (by assumption) ?_
        try simp only [Act.put, List.setIfInBounds_toArray, List.set_cons_zero, List.set_cons_succ]
        refine take_un (i := 9) (some 21) (by simp only [List.getElem?_toArray, List.getElem?_cons_succ, List.getElem?_cons_zero]; exact rfl) rfl (by kernel_rfl) (by kernel_rfl) (by kernel_rfl) (fun _ _ _ h => h) (by rfl) (by assumption) ?_
        try simp only [Act.put, List.setIfInBounds_toArray, List.set_cons_zero, List.set_cons_succ]
        refine take_un (i := 10) (some 22) (by simp only [List.getElem?_toArray, List.getElem?_cons_succ, List.getElem?_cons_zero]; exact rfl) rfl (by kernel_rfl) (by kernel_rfl) (by kernel_rfl) (fun _ _ _ h => h) (by rfl) (by assumption) ?_
        try simp only [Act.put, List.setIfInBounds_toArray, List.set_cons_zero, List.set_cons_succ]
        refine take_un (i := 11) (some 23) (by simp only [List.getElem?_toArray, List.getElem?_cons_succ, List.getElem?_cons_zero]; exact rfl) rfl (by kernel_rfl) (by kernel_rfl) (by kernel_rfl) (fun _ _ _ h => h) (by rfl) (by assumption) ?_
        try simp only [Act.put, List.setIfInBounds_toArray, List.set_cons_zero, List.set_cons_succ]
        refine take_un (i := 12) (some 24) (by simp only [List.getElem?_toArray, List.getElem?_cons_succ, List.getElem?_cons_zero]; exact rfl) rfl (by kernel_rfl) (by kernel_rfl) (by kernel_rfl) (fun _ _ _ h => h) (by rfl) (by assumption) ?_
        try simp only [Act.put, List.setIfInBounds_toArray, List.set_cons_zero, List.set_cons_succ]
        refine take_un (i := 13) (some 25) (by simp only [List.getElem?_toArray, List.getElem?_cons_succ, List.getElem?_cons_zero]; exact rfl) rfl (by kernel_rfl) (by kernel_rfl) (by kernel_rfl) (fun _ _ _ h => h) (by rfl) (by assumption) ?_
        try simp only [Act.put, List.setIfInBounds_toArray, List.set_cons_zero, List.set_cons_succ]
        refine take_un (i := 14) (some 26) (by simp only [List.getElem?_toArray, List.getElem?_cons_succ, List.getElem?_cons_zero]; exact rfl) rfl (by kernel_rfl) (by kernel_rfl) (by kernel_rfl) (fun _ _ _ h => h) (by rfl) (by assumption) ?_
        try simp only [Act.put, List.setIfInBounds_toArray, List.set_cons_zero, List.set_cons_succ]
        refine take_un (i := 15) (some 27) (by simp only [List.getElem?_toArray, List.getElem?_cons_succ, List.getElem?_cons_zero]; exact rfl) rfl (by kernel_rfl) (by kernel_rfl) (by kernel_rfl) (fun _ _ _ h => h) (by rfl) (by assumption) ?_
        try simp only [Act.put, List.setIfInBounds_toArray, List.set_cons_zero, List.set_cons_succ]
        refine take_yes (i := 16) (some 28) (v := ?v16) (by simp only [List.getElem?_toArray, List.getElem?_cons_succ, List.getElem?_cons_zero]; exact rfl) rfl (by kernel_rfl) (by kernel_rfl) (by kernel_rfl) (fun _ _ _ h => h) (by rfl) ?hy16 (by assumption) ?rest16
        case hy16 => (intro w hSw; (try dsimp only at hSw); go_simp; try with_reducible rfl)
        try simp only [Act.put, List.setIfInBounds_toArray, List.set_cons_zero, List.set_cons_succ]
        refine take_yes (i := 17) (some 29) (v := ?v17) (by simp only [List.getElem?_toArray, List.getElem?_cons_succ, List.getElem?_cons_zero]; exact rfl) rfl (by kernel_rfl) (by kernel_rfl) (by kernel_rfl) (fun _ _ _ h => h) (by rfl) ?hy17 (by assumption) ?rest17
        case hy17 => (intro w hSw; (try dsimp only at hSw); go_simp; try with_reducible rfl)
        try simp only [Act.put, List.setIfInBounds_toArray, List.set_cons_zero, List.set_cons_succ]
        refine wpAnyH_done (by kernel_rfl) ?_ _
        refine NoPanic.normal ?_
        go_wp2
        go_roundg (s.length - (0 + 1))
        case measure => omega
        case rel => exact ⟨1, by go_num, by omega, by omega, HB7.out⟩
      · obtain ⟨m, rfl⟩ : ∃ m, k = m + 1 := ⟨k - 1, by omega⟩
        obtain ⟨y, hy⟩ : ∃ y, raw[m]? = some y := ⟨_, List.getElem?_eq_getElem (by omega)⟩
        obtain ⟨d0, _, _, _⟩ := cellsP hcells hb HB.out hy
        have hyx : y.id < x.id := by
          have hpw := raws_asc HR2.out HS.out.asc
          obtain ⟨q1, q2⟩ := List.getElem?_eq_some_iff.1 hy
          obtain ⟨q3, q4⟩ := List.getElem?_eq_some_iff.1 hx
          have := List.pairwise_iff_getElem.1 hpw m (m + 1) q1 q3 (by omega)
          rw [q2, q4] at this
          exact this
        have hxb : decide (x.id ≤ y.id) = false := decide_eq_false (by omega)
        have hxn : ¬ x.id ≤ y.id := by omega
        have hmb : (m : Int) ≤ 100 := by omega
        have hm00 : (0 : Int) ≤ (m : Int) := by omega
        have hmn : m < s.length := by omega
        have hw2 : IntKind.i64.wrap (m : Int) = (m : Int) := by rw [IntKind.wrap_i64]; omega
        have hmz : (m : Int) < (s.length : Int) := by omega
        have hm0 : (0 : Int) < (m : Int) + 1 := by omega
        have hm0b : decide ((0 : Int) < (m : Int) + 1) = true := decide_eq_true hm0
        clear hx hp hcells hy
        go_wp2_with fail
        have HKB := Lib.hid (Blk.new wr 59 #[.int .i64 x.id, .int .i64 x.epoch, .int .i64 x.next, .slice x.la x.ln x.lc])
        obtain ⟨m0, m1, m2, m3, mf⟩ := HKB.out.four
        have HD0 : Hid ((wr.alloc (.cells #[.int .i64 x.id, .int .i64 x.epoch, .int .i64 x.next, .slice x.la x.ln x.lc] 59)).cell? ⟨b, off + m * 4, none⟩ = some (.int .i64 y.id)) := Lib.hid (by rw [World.cell?_alloc_lt _ _ _ hbw]; exact d0)
        have hd0 := HD0.out
        go_region_held3 (fun w' => w'.cell? ⟨wr.heap.size, 0, none⟩ = some (.int .i64 x.id) ∧ w'.cell? ⟨wr.heap.size, 1, none⟩ = some (.int .i64 x.epoch) ∧ w'.cell? ⟨wr.heap.size, 2, none⟩ = some (.int .i64 x.next) ∧ w'.cell? ⟨wr.heap.size, 3, none⟩ = some (.slice x.la x.ln x.lc) ∧ w'.cell? ⟨b, off + m * 4, none⟩ = some (.int .i64 y.id)) (go_keep) ((go_at_call 32; refine (fine_yes P x p _ HFI.out (show RawOk P (World.drew (wr.alloc (.cells #[.int .i64 x.id, .int .i64 x.epoch, .int .i64 x.next, .slice x.la x.ln x.lc] 59))) x p from HOK.out.below (((Below.refl _ wr).alloc (Nat.le_refl _) _).drew))).mono ?_; rintro e w7 ⟨rfl, hb7⟩; obtain ⟨p0, p1, p2, p3, pf⟩ := (HKB.out.drew.below hb7 HKB.out.lt).four; have e0 := (hb7.cell (p := ⟨b, off + m * 4, none⟩) (show b < _ by simp; omega)).trans HD0.out; have HB7 : Hid (Below w.heap.size w w7) := Lib.hid ((HB.out.alloc HB.out.size (.cells #[.int .i64 x.id, .int .i64 x.epoch, .int .i64 x.next, .slice x.la x.ln x.lc] 59)).drew.trans (hb7.mono (by have := HB.out.size; simp; omega))); clear hb7))
        go_wp2
        go_roundg (s.length - (m + 1 + 1))
        case measure => omega
        case rel => exact ⟨m + 1 + 1, by go_num, by omega, by omega, HB7.out⟩
    · have hltz : ¬ (k : Int) < (s.length : Int) := by omega
      have h50 : decide ((s.length : Int) ≤ 50) = true := decide_eq_true (by omega)
      have h50z : (s.length : Int) ≤ 50 := by omega
      go_wp2
      go_ret
      exact ⟨rfl, HB.out⟩
end Go.Proofs.Ytghciaaedjomjaa
