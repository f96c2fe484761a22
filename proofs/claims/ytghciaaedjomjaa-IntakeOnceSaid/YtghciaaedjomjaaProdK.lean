/- producer: Right answers true for a right table. -/
import Derived.Test.YtghciaaedjomjaaProdJ
namespace Go.Proofs.Ytghciaaedjomjaa
open Go.RowKit

set_option maxHeartbeats 2000000 in
set_option maxRecDepth 100000 in
theorem fine_yes (P : Nat → Prop) (r : PRaw) (p : Prd) (w : World) (hp : FineP p) (hr : RawOk P w r p) :
    Calls Try.prog 32 #[.agg #[.int .i64 r.id, .int .i64 r.epoch, .int .i64 r.next, .slice r.la r.ln r.lc]] w fun e w' => e = .returned (.bool true) ∧ Below w.heap.size w w' := by
  obtain ⟨h1, h2, h3, h4, h5⟩ := hr
  have i1 : inB r.id = true := inB_yes (by rw [h1]; exact hp.id)
  have i2 : inB r.epoch = true := inB_yes (by rw [h2]; exact hp.epoch)
  have i3 : inB r.next = true := inB_yes (by rw [h3]; exact hp.next)
  have hn0 : 0 ≤ r.next := by rw [h3]; exact hp.next.1
  have hmin : ((r.ln : Int) != min r.next 20) = false := by
    have := hp.len
    rw [h3, h4]
    simp [this]
  have hln : r.ln ≤ 20 := by have := hp.len; omega
  have HS := Lib.hid h5.1
  have HF := Lib.hid hp
  have HLN := Lib.hid h4
  clear h1 h2 h3 h4 h5 hp
  obtain ⟨rid, rep, rnx, rla, rln, rlc⟩ := r
  simp only at *
  go_enter Try.func32, Try.ntmps32
  go_wp2_with fail
  refine (in_any _ _).mono ?_
  rintro e w' ⟨rfl, rfl⟩
  rw [i1]
  go_wp2_with fail
  refine (in_any _ _).mono ?_
  rintro e w' ⟨rfl, rfl⟩
  rw [i2]
  go_wp2_with fail
  refine (in_any _ _).mono ?_
  rintro e w' ⟨rfl, rfl⟩
  rw [i3]
  go_wp2_with fail
  go_loopg [3, 4, 33] rln (fun gg _ _ s33 wr => ∃ k : Nat, s33 = .int .i64 k ∧ k ≤ rln ∧ rln - k ≤ gg ∧ wr = w.alloc (.cells #[.int .i64 rid, .int .i64 rep, .int .i64 rnx, .slice rla rln rlc] 59))
  case atStart => exact ⟨0, rfl, by omega, by omega, rfl⟩
  case round =>
    obtain ⟨k, rfl, hk, hg, rfl⟩ := hrel
    by_cases hlt : k < rln
    · have hltz : (k : Int) < (rln : Int) := by omega
      obtain ⟨lb, lo, rfl, hlb, hlc⟩ := HS.out.2.2 (by omega)
      have hlen := HS.out.1
      obtain ⟨y, hy⟩ : ∃ y, p.last[k]? = some y := ⟨_, List.getElem?_eq_getElem (by omega)⟩
      have c0 := cellsI hlc hlb ((Below.refl _ w).alloc (Nat.le_refl _) (.cells #[.int .i64 rid, .int .i64 rep, .int .i64 rnx, .slice (some ⟨lb, lo, none⟩) rln rlc] 59)) hy
      have iy : inB y = true := inB_yes (HF.out.all y (List.mem_of_getElem? hy))
      rcases Nat.eq_zero_or_pos k with h0 | h0
      · subst h0
        simp only [Nat.add_zero] at c0
        clear hy hlc hlen
        go_wp2_with fail
        refine (in_any _ _).mono ?_
        rintro e w' ⟨rfl, rfl⟩
        rw [iy]
        go_wp2
        go_roundg (rln - (0 + 1))
        case measure => omega
        case rel => exact ⟨1, by go_num, by omega, by omega, rfl⟩
      · obtain ⟨m, rfl⟩ : ∃ m, k = m + 1 := ⟨k - 1, by omega⟩
        obtain ⟨z, hz⟩ : ∃ z, p.last[m]? = some z := ⟨_, List.getElem?_eq_getElem (by omega)⟩
        have c1 := cellsI hlc hlb ((Below.refl _ w).alloc (Nat.le_refl _) (.cells #[.int .i64 rid, .int .i64 rep, .int .i64 rnx, .slice (some ⟨lb, lo, none⟩) rln rlc] 59)) hz
        have hzy : z < y := by
          obtain ⟨q1, q2⟩ := List.getElem?_eq_some_iff.1 hz
          obtain ⟨q3, q4⟩ := List.getElem?_eq_some_iff.1 hy
          have := List.pairwise_iff_getElem.1 HF.out.asc m (m + 1) q1 q3 (by omega)
          rw [q2, q4] at this
          exact this
        have hzb : decide (y ≤ z) = false := decide_eq_false (by omega)
        have hzn : ¬ y ≤ z := by omega
        have hmb : (m : Int) ≤ 20 := by omega
        have hm0 : (0 : Int) < (m : Int) + 1 := by omega
        have hmz : (m : Int) < (rln : Int) := by omega
        clear hy hz hlc hlen
        go_wp2_with fail
        refine (in_any _ _).mono ?_
        rintro e w' ⟨rfl, rfl⟩
        rw [iy]
        go_wp2
        go_roundg (rln - (m + 1 + 1))
        case measure => omega
        case rel => exact ⟨m + 1 + 1, by go_num, by omega, by omega, rfl⟩
    · have hltz : ¬ (k : Int) < (rln : Int) := by omega
      go_wp2
      go_ret
      exact ⟨rfl, (Below.refl _ w).alloc (Nat.le_refl _) _⟩
end Go.Proofs.Ytghciaaedjomjaa
