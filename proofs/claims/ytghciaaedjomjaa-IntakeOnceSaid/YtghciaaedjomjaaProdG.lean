/- producer: Look. -/
import Derived.Test.YtghciaaedjomjaaProdF
namespace Go.Proofs.Ytghciaaedjomjaa
open Go.RowKit

theorem cellsI {w W : World} {b off : Nat} {l : List Int} (hx : ∀ j x, l[j]? = some x → ∀ i v, (eI x)[i]? = some v → w.cell? ⟨b, off + j * 1 + i, none⟩ = some v) (hb : b < w.heap.size) (hW : Below w.heap.size w W) {j : Nat} {x : Int} (hj : l[j]? = some x) :
    W.cell? ⟨b, off + j, none⟩ = some (.int .i64 x) := by
  have := (hW.cell (p := ⟨b, off + j * 1 + 0, none⟩) hb).trans (hx j x hj 0 _ rfl)
  simpa using this
def lookBad (id ep sq : Int) : Prop := ¬ (0 ≤ id ∧ id < 1099511627776 ∧ 0 ≤ ep ∧ ep < 1099511627776 ∧ 0 ≤ sq ∧ sq < 1099511627776)
theorem num_cases (n : Int) : (0 ≤ n ∧ n < 1099511627776 ∧ inB n = true ∧ (n == 1099511627776) = false) ∨ (¬ (0 ≤ n ∧ n < 1099511627776) ∧ inB n = false) ∨ (¬ (0 ≤ n ∧ n < 1099511627776) ∧ inB n = true ∧ (n == 1099511627776) = true) := by
  by_cases h : 0 ≤ n ∧ n ≤ 1099511627776
  · by_cases h2 : n = 1099511627776
    · exact .inr (.inr ⟨by omega, inB_yes h, by simp [h2]⟩)
    · exact .inl ⟨h.1, by omega, inB_yes h, by simpa using h2⟩
  · exact .inr (.inl ⟨by omega, inB_no h⟩)
/-- What Look goes through, in the order of its tests. -/
theorem look_split {s : List Prd} {id ep sq : Int} (hg : 0 ≤ id ∧ id < 1099511627776 ∧ 0 ≤ ep ∧ ep < 1099511627776 ∧ 0 ≤ sq ∧ sq < 1099511627776) {p : Prd} (hp : getP s id = p) :
    (ep < p.epoch ∧ lookF s id ep sq = (0, 18)) ∨ (p.epoch < ep ∧ lookF s id ep sq = (0, 25)) ∨
    (¬ ep < p.epoch ∧ ¬ p.epoch < ep ∧ ((p.next < sq ∧ lookF s id ep sq = (0, 19)) ∨
      (¬ p.next < sq ∧ (((findP s id).isSome = false ∧ 50 ≤ s.length ∧ lookF s id ep sq = (0, 6)) ∨
        (((findP s id).isSome = true ∨ ((findP s id).isSome = false ∧ s.length < 50)) ∧ ((sq = p.next ∧ lookF s id ep sq = (0, 0)) ∨
          (sq ≠ p.next ∧ ((∃ j : Nat, (p.last.length : Int) - (p.next - sq) = j ∧ lookF s id ep sq = (p.last[j]!, 5)) ∨ ((p.last.length : Int) - (p.next - sq) < 0 ∧ lookF s id ep sq = (-1, 5))))))))) ) := by
  unfold lookF
  rw [if_neg (by simpa using hg), hp]
  by_cases h1 : ep < p.epoch
  · exact .inl ⟨h1, by rw [if_pos h1]⟩
  · rw [if_neg h1]
    by_cases h2 : p.epoch < ep
    · exact .inr (.inl ⟨h2, by rw [if_pos h2]⟩)
    · rw [if_neg h2]
      refine .inr (.inr ⟨h1, h2, ?_⟩)
      by_cases h3 : p.next < sq
      · exact .inl ⟨h3, by rw [if_pos h3]⟩
      · rw [if_neg h3]
        refine .inr ⟨h3, ?_⟩
        by_cases h4 : findP s id = none ∧ 50 ≤ s.length
        · exact .inl ⟨by rw [h4.1]; rfl, h4.2, by rw [if_pos h4]⟩
        · rw [if_neg h4]
          refine .inr ⟨?_, ?_⟩
          · cases hf : findP s id with
            | none => exact .inr ⟨rfl, by rcases Nat.lt_or_ge s.length 50 with h | h; exact h; exact absurd ⟨hf, h⟩ h4⟩
            | some x => exact .inl rfl
          · by_cases h5 : sq = p.next
            · exact .inl ⟨h5, by rw [if_pos h5]⟩
            · rw [if_neg h5]
              refine .inr ⟨h5, ?_⟩
              by_cases h6 : 0 ≤ (p.last.length : Int) - (p.next - sq)
              · obtain ⟨j, hj⟩ : ∃ j : Nat, (p.last.length : Int) - (p.next - sq) = j := ⟨((p.last.length : Int) - (p.next - sq)).toNat, by omega⟩
                exact .inl ⟨j, hj, by rw [if_pos h6, hj, Int.toNat_natCast]⟩
              · exact .inr ⟨by omega, by rw [if_neg h6]⟩
/-- What Look leaves. -/
def LookPost (w : World) (r : Int × Int) (e : Ending) (w' : World) : Prop := e = .returned (.tuple #[.int .i64 r.1, .int .i64 r.2]) ∧ Below w.heap.size w w'

set_option maxHeartbeats 2000000 in
set_option maxRecDepth 100000 in
theorem look_bad (P : Nat → Prop) (A : Option Addr) (c : Nat) (s : List Prd) (kind id ep sq : Int) (src : ByteArray) (sch tm : Int) (ra : Option Addr) (rn rc : Nat) (w : World) (hb : lookBad id ep sq) :
    Calls Try.prog 9 #[.slice A s.length c, .agg #[.int .i64 kind, .int .i64 id, .int .i64 ep, .int .i64 sq, .string src, .int .i64 sch, .int .i64 tm, .slice ra rn rc]] w (LookPost w (0, 1)) := by
  have hcase : (¬ (0 ≤ id ∧ id < 1099511627776)) ∨ ((0 ≤ id ∧ id < 1099511627776) ∧ ¬ (0 ≤ ep ∧ ep < 1099511627776)) ∨ ((0 ≤ id ∧ id < 1099511627776) ∧ (0 ≤ ep ∧ ep < 1099511627776) ∧ ¬ (0 ≤ sq ∧ sq < 1099511627776)) := by
    unfold lookBad at hb
    omega
  clear hb
  rcases hcase with h1 | ⟨h1, h2⟩ | ⟨h1, h2, h3⟩
  · skip
    rcases num_cases id with ⟨a, b, _⟩ | ⟨_, i1⟩ | ⟨_, i1, i2⟩
    · exact absurd ⟨a, b⟩ h1
    · skip
      clear h1
      go_enter Try.func9, Try.ntmps9
      go_wp2_with fail
      refine wp_loop_rounds 1 ?_
      rw [rounds_succ]
      go_wp2_with fail
      refine (in_any _ _).mono ?_
      rintro e w' ⟨rfl, rfl⟩
      rw [i1]
      go_wp2
      go_ret2
      exact ⟨rfl, ((Below.refl _ w).alloc (Nat.le_refl _) _).alloc (by simp) _⟩
    · skip
      clear h1
      go_enter Try.func9, Try.ntmps9
      go_wp2_with fail
      refine wp_loop_rounds 1 ?_
      rw [rounds_succ]
      go_wp2_with fail
      refine (in_any _ _).mono ?_
      rintro e w' ⟨rfl, rfl⟩
      rw [i1]
      go_wp2
      go_ret2
      exact ⟨rfl, ((Below.refl _ w).alloc (Nat.le_refl _) _).alloc (by simp) _⟩
  · skip
    have ⟨g0a, g0b⟩ : inB id = true ∧ (id == 1099511627776) = false := by
      rcases num_cases id with ⟨a, b, q, q2⟩ | ⟨a, _⟩ | ⟨a, _⟩
      · exact ⟨q, q2⟩
      · exact absurd h1 a
      · exact absurd h1 a
    rcases num_cases ep with ⟨a, b, _⟩ | ⟨_, i1⟩ | ⟨_, i1, i2⟩
    · exact absurd ⟨a, b⟩ h2
    · skip
      clear h1 h2
      go_enter Try.func9, Try.ntmps9
      go_wp2_with fail
      refine wp_loop_rounds 2 ?_
      rw [rounds_succ]
      go_wp2_with fail
      refine (in_any _ _).mono ?_
      rintro e w' ⟨rfl, rfl⟩
      rw [g0a]
      go_wp2_with fail
      rw [rounds_succ]
      go_wp2_with fail
      refine (in_any _ _).mono ?_
      rintro e w' ⟨rfl, rfl⟩
      rw [i1]
      go_wp2
      go_ret2
      exact ⟨rfl, ((Below.refl _ w).alloc (Nat.le_refl _) _).alloc (by simp) _⟩
    · skip
      clear h1 h2
      go_enter Try.func9, Try.ntmps9
      go_wp2_with fail
      refine wp_loop_rounds 2 ?_
      rw [rounds_succ]
      go_wp2_with fail
      refine (in_any _ _).mono ?_
      rintro e w' ⟨rfl, rfl⟩
      rw [g0a]
      go_wp2_with fail
      rw [rounds_succ]
      go_wp2_with fail
      refine (in_any _ _).mono ?_
      rintro e w' ⟨rfl, rfl⟩
      rw [i1]
      go_wp2
      go_ret2
      exact ⟨rfl, ((Below.refl _ w).alloc (Nat.le_refl _) _).alloc (by simp) _⟩
  · skip
    have ⟨g0a, g0b⟩ : inB id = true ∧ (id == 1099511627776) = false := by
      rcases num_cases id with ⟨a, b, q, q2⟩ | ⟨a, _⟩ | ⟨a, _⟩
      · exact ⟨q, q2⟩
      · exact absurd h1 a
      · exact absurd h1 a
    have ⟨g1a, g1b⟩ : inB ep = true ∧ (ep == 1099511627776) = false := by
      rcases num_cases ep with ⟨a, b, q, q2⟩ | ⟨a, _⟩ | ⟨a, _⟩
      · exact ⟨q, q2⟩
      · exact absurd h2 a
      · exact absurd h2 a
    rcases num_cases sq with ⟨a, b, _⟩ | ⟨_, i1⟩ | ⟨_, i1, i2⟩
    · exact absurd ⟨a, b⟩ h3
    · skip
      clear h1 h2 h3
      go_enter Try.func9, Try.ntmps9
      go_wp2_with fail
      refine wp_loop_rounds 3 ?_
      rw [rounds_succ]
      go_wp2_with fail
      refine (in_any _ _).mono ?_
      rintro e w' ⟨rfl, rfl⟩
      rw [g0a]
      go_wp2_with fail
      rw [rounds_succ]
      go_wp2_with fail
      refine (in_any _ _).mono ?_
      rintro e w' ⟨rfl, rfl⟩
      rw [g1a]
      go_wp2_with fail
      rw [rounds_succ]
      go_wp2_with fail
      refine (in_any _ _).mono ?_
      rintro e w' ⟨rfl, rfl⟩
      rw [i1]
      go_wp2
      go_ret2
      exact ⟨rfl, ((Below.refl _ w).alloc (Nat.le_refl _) _).alloc (by simp) _⟩
    · skip
      clear h1 h2 h3
      go_enter Try.func9, Try.ntmps9
      go_wp2_with fail
      refine wp_loop_rounds 3 ?_
      rw [rounds_succ]
      go_wp2_with fail
      refine (in_any _ _).mono ?_
      rintro e w' ⟨rfl, rfl⟩
      rw [g0a]
      go_wp2_with fail
      rw [rounds_succ]
      go_wp2_with fail
      refine (in_any _ _).mono ?_
      rintro e w' ⟨rfl, rfl⟩
      rw [g1a]
      go_wp2_with fail
      rw [rounds_succ]
      go_wp2_with fail
      refine (in_any _ _).mono ?_
      rintro e w' ⟨rfl, rfl⟩
      rw [i1]
      go_wp2
      go_ret2
      exact ⟨rfl, ((Below.refl _ w).alloc (Nat.le_refl _) _).alloc (by simp) _⟩

set_option maxHeartbeats 4000000 in
set_option maxRecDepth 100000 in
theorem look_any (P : Nat → Prop) (A : Option Addr) (c : Nat) (s : List Prd) (kind id ep sq : Int) (src : ByteArray) (sch tm : Int) (ra : Option Addr) (rn rc : Nat) (w : World) (hs : RightP s) (hr : TabP P w A c s) :
    Calls Try.prog 9 #[.slice A s.length c, .agg #[.int .i64 kind, .int .i64 id, .int .i64 ep, .int .i64 sq, .string src, .int .i64 sch, .int .i64 tm, .slice ra rn rc]] w (LookPost w (lookF s id ep sq)) := by
  by_cases hbad : lookBad id ep sq
  · have e : lookF s id ep sq = (0, 1) := by unfold lookF; exact if_pos hbad
    rw [e]
    exact look_bad P A c s kind id ep sq src sch tm ra rn rc w hbad
  · have hg : 0 ≤ id ∧ id < 1099511627776 ∧ 0 ≤ ep ∧ ep < 1099511627776 ∧ 0 ≤ sq ∧ sq < 1099511627776 := by unfold lookBad at hbad; omega
    clear hbad
    have hfew := hs.few
    have hfine := getP_fine hs (id := id) ⟨hg.1, by omega⟩
    have hsp := look_split (s := s) hg (p := getP s id) rfl
    have ⟨g0a, g0b⟩ : inB id = true ∧ (id == 1099511627776) = false := by
      rcases num_cases id with ⟨a, b, q, q2⟩ | ⟨a, _⟩ | ⟨a, _⟩
      · exact ⟨q, q2⟩
      · exact absurd ⟨hg.1, hg.2.1⟩ a
      · exact absurd ⟨hg.1, hg.2.1⟩ a
    have ⟨g1a, g1b⟩ : inB ep = true ∧ (ep == 1099511627776) = false := by
      rcases num_cases ep with ⟨a, b, q, q2⟩ | ⟨a, _⟩ | ⟨a, _⟩
      · exact ⟨q, q2⟩
      · exact absurd ⟨hg.2.2.1, hg.2.2.2.1⟩ a
      · exact absurd ⟨hg.2.2.1, hg.2.2.2.1⟩ a
    have ⟨g2a, g2b⟩ : inB sq = true ∧ (sq == 1099511627776) = false := by
      rcases num_cases sq with ⟨a, b, q, q2⟩ | ⟨a, _⟩ | ⟨a, _⟩
      · exact ⟨q, q2⟩
      · exact absurd ⟨hg.2.2.2.2.1, hg.2.2.2.2.2⟩ a
      · exact absurd ⟨hg.2.2.2.2.1, hg.2.2.2.2.2⟩ a
    obtain ⟨z0, z1, z2, z3, z4, z5⟩ := hg
    have HR := Lib.hid hr
    have HSP := Lib.hid hsp
    have HFINE := Lib.hid hfine
    clear hr hsp hfine hs
    go_enter Try.func9, Try.ntmps9
    go_wp2_with fail
    refine wp_loop_rounds 4 ?_
    rw [rounds_succ]
    go_wp2_with fail
    refine (in_any _ _).mono ?_
    rintro e w' ⟨rfl, rfl⟩
    rw [g0a]
    go_wp2_with fail
    rw [rounds_succ]
    go_wp2_with fail
    refine (in_any _ _).mono ?_
    rintro e w' ⟨rfl, rfl⟩
    rw [g1a]
    go_wp2_with fail
    rw [rounds_succ]
    go_wp2_with fail
    refine (in_any _ _).mono ?_
    rintro e w' ⟨rfl, rfl⟩
    rw [g2a]
    go_wp2_with fail
    rw [rounds_succ]
    go_wp2_with fail
    refine (find_any P A c s id _ ((HR.out.alloc _).alloc _) (by omega)).mono ?_
    rintro e w1 ⟨r, rfl, hok, hb1⟩
    have HOK := Lib.hid hok
    have HB1 := Lib.hid hb1
    obtain ⟨hc1, hf1⟩ := bcell hb1
    have hz : w.heap.size + 1 < w1.heap.size := by have := hb1.size; simp at this; omega
    have hz0 : w.heap.size < w1.heap.size := by omega
    have HBW := Lib.hid ((((Below.refl w.heap.size w).alloc (Nat.le_refl _) _).alloc (by simp) _).trans (hb1.mono (by simp; omega)))
    have k1 : w1.cell? ⟨w.heap.size, 1, none⟩ = some (.int .i64 id) := by rw [hc1 _ _ (by simp; omega)]; simp
    have k2 : w1.cell? ⟨w.heap.size, 2, none⟩ = some (.int .i64 ep) := by rw [hc1 _ _ (by simp; omega)]; simp
    have k3 : w1.cell? ⟨w.heap.size, 3, none⟩ = some (.int .i64 sq) := by rw [hc1 _ _ (by simp; omega)]; simp
    have hsp := HSP.out
    have e1 : r.epoch = (getP s id).epoch := hok.2.1
    have e2 : r.next = (getP s id).next := hok.2.2.1
    have e3 : r.ln = (getP s id).last.length := hok.2.2.2.1
    have hn := HFINE.out.next
    have hl := HFINE.out.len
    unfold inN at hn
    have HSL : Hid (SlT 1 eI w1 r.la r.ln r.lc (getP s id).last) := Lib.hid hok.2.2.2.2.1
    rw [← e1, ← e2, ← e3] at hsp
    rw [← e2] at hn hl
    rw [← e3] at hl
    generalize (getP s id).last = lst at hsp HSL
    generalize (findP s id).isSome = T at hsp ⊢
    generalize hRR : lookF s id ep sq = R at hsp
    have HRE := Lib.hid hRR
    clear hRR
    clear hok hb1 hc1 hf1 HSP e1 e2 e3 g0a g0b g1a g1b g2a g2b HFINE HOK HR
    have hln : r.ln ≤ 20 := by omega
    obtain ⟨hn0, hn1⟩ := hn
    clear hl
    rcases hsp with ⟨h1, rfl⟩ | ⟨h2, rfl⟩ | ⟨h1, h2, hsp⟩
    · go_wp2
      go_ret2
      exact ⟨by rw [HRE.out]; rfl, HBW.out.alloc (Nat.le_of_lt hz0) _⟩
    · have h1 : ¬ ep < r.epoch := by omega
      go_wp2
      go_ret2
      exact ⟨by rw [HRE.out]; rfl, HBW.out.alloc (Nat.le_of_lt hz0) _⟩
    · rcases hsp with ⟨h3, rfl⟩ | ⟨h3, hsp⟩
      · go_wp2
        go_ret2
        exact ⟨by rw [HRE.out]; rfl, HBW.out.alloc (Nat.le_of_lt hz0) _⟩
      · rcases hsp with ⟨rfl, h4, rfl⟩ | ⟨h4, hsp⟩
        · have h4b : decide ((50 : Int) ≤ (s.length : Int)) = true := decide_eq_true (by omega)
          have h4z : (50 : Int) ≤ (s.length : Int) := by omega
          go_wp2
          go_ret2
          exact ⟨by rw [HRE.out]; rfl, HBW.out.alloc (Nat.le_of_lt hz0) _⟩
        · have hT : T = true ∨ (T = false ∧ decide ((50 : Int) ≤ (s.length : Int)) = false ∧ ¬ (50 : Int) ≤ (s.length : Int)) := by
            rcases h4 with h4 | ⟨h4, h5⟩
            · exact .inl h4
            · exact .inr ⟨h4, decide_eq_false (by omega), by omega⟩
          clear h4
          rcases hsp with ⟨rfl, rfl⟩ | ⟨h5, hsp⟩
          · rcases hT with rfl | ⟨rfl, h4b, h4z⟩
            · go_wp2
              go_ret2
              exact ⟨by rw [HRE.out]; rfl, HBW.out.alloc (Nat.le_of_lt hz0) _⟩
            · go_wp2
              go_ret2
              exact ⟨by rw [HRE.out]; rfl, HBW.out.alloc (Nat.le_of_lt hz0) _⟩
          · have h5b : (sq == r.next) = false := by simpa using h5
            rcases hsp with ⟨j, hj, rfl⟩ | ⟨hj, rfl⟩
            · have hjl : j < r.ln := by omega
              obtain ⟨lb, lo, hla, hlb, hlc⟩ := HSL.out.2.2 (by omega)
              have hlen := HSL.out.1
              obtain ⟨x, hx⟩ : ∃ x, lst[j]? = some x := ⟨_, List.getElem?_eq_getElem (by omega)⟩
              have c0 := cellsI hlc hlb (Below.refl _ w1) hx
              have hxv : lst[j]! = x := by rw [getElem!_pos lst j (by omega)]; exact (List.getElem?_eq_some_iff.1 hx).2
              have HRE2 : Hid (lookF s id ep sq = (x, 5)) := Lib.hid (by rw [HRE.out, hxv])
              obtain ⟨rid, rep, rnx, rla, rln, rlc⟩ := r
              simp only at hla
              subst hla
              simp only at *
              have hjz : (j : Int) < (rln : Int) := by omega
              clear hlc hx hxv HSL
              rcases hT with rfl | ⟨rfl, h4b, h4z⟩
              · go_wp2
                go_ret2
                exact ⟨by rw [HRE2.out]; rfl, HBW.out.alloc (Nat.le_of_lt hz0) _⟩
              · go_wp2
                go_ret2
                exact ⟨by rw [HRE2.out]; rfl, HBW.out.alloc (Nat.le_of_lt hz0) _⟩
            · rcases hT with rfl | ⟨rfl, h4b, h4z⟩
              · go_wp2
                go_ret2
                exact ⟨by rw [HRE.out]; rfl, HBW.out.alloc (Nat.le_of_lt hz0) _⟩
              · go_wp2
                go_ret2
                exact ⟨by rw [HRE.out]; rfl, HBW.out.alloc (Nat.le_of_lt hz0) _⟩
end Go.Proofs.Ytghciaaedjomjaa
