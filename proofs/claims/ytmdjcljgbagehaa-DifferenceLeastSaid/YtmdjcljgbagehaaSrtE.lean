/- slices.SortStableFunc at deltas: the driver. -/
import Derived.Test.YtmdjcljgbagehaaSrtD
namespace Go.Proofs.Ytmdjcljgbagehaa
open Go.RowKit

/-- From a on to n: sorted runs of bs elements. -/
inductive Runs (l : List Dl) (bs n : Nat) : Nat → Prop
  | stop {a : Nat} : n ≤ a → Runs l bs n a
  | step {a : Nat} : SortedOn cmpD l a (min (a + bs) n) → Runs l bs n (a + bs) → Runs l bs n a
/-- Up to a: sorted runs of bs elements. -/
inductive PRuns (l : List Dl) (bs : Nat) : Nat → Prop
  | zero : PRuns l bs 0
  | step {a : Nat} : PRuns l bs a → SortedOn cmpD l a (a + bs) → PRuns l bs (a + bs)
theorem Runs.congr {l l' : List Dl} {bs n a : Nat} (h : Runs l bs n a) (he : ∀ k, a ≤ k → l'[k]? = l[k]?) : Runs l' bs n a := by
  induction h with
  | stop h => exact .stop h
  | step hs _ ih => exact .step (hs.congr fun k h1 _ => he k h1) (ih fun k hk => he k (by omega))
theorem PRuns.congr {l l' : List Dl} {bs a : Nat} (h : PRuns l bs a) (he : ∀ k, k < a → l'[k]? = l[k]?) : PRuns l' bs a := by
  induction h with
  | zero => exact .zero
  | step _ hs ih => exact .step (ih fun k hk => he k (by omega)) (hs.congr fun k _ h2 => he k h2)
theorem PRuns.join {l : List Dl} {bs n a : Nat} (h : PRuns l bs a) (hr : Runs l bs n a) (ha : a ≤ n) : Runs l bs n 0 := by
  induction h with
  | zero => exact hr
  | step _ hs ih => exact ih (.step (hs.sub (Nat.le_refl _) (by omega)) hr) (by omega)
theorem Runs.last {l : List Dl} {bs n a : Nat} (h : SortedOn cmpD l a n) (hb : n ≤ a + bs) : Runs l bs n a := .step (h.sub (Nat.le_refl _) (by omega)) (.stop hb)
theorem Runs.head {l : List Dl} {bs n a : Nat} (h : Runs l bs n a) (ha : a < n) : SortedOn cmpD l a (min (a + bs) n) ∧ Runs l bs n (a + bs) := by
  cases h with
  | stop h => omega
  | step h1 h2 => exact ⟨h1, h2⟩
set_option maxHeartbeats 4000000 in
set_option maxRecDepth 100000 in
theorem stable_at (w0 : World) (base g cap : Nat) (l : List Dl) (n : Nat) (W : World) (h : SD w0 base g cap l W) (hrow : ∀ d ∈ l, RowG w0 g d) (hL : l.length = n) (hl : n ≤ 1000000) :
    Calls Try.prog 32 #[.slice (some ⟨g, 0, none⟩) n cap, .int .i64 n, .func (.func 19) #[] #[]] W (SwapPost w0 base g cap l fun l' => SortedOn cmpD l' 0 n ∧ SwapsOn 0 n l l') := by
  have HD := Lib.hid h
  have HL := Lib.hid hL
  have HROW := Lib.hid hrow
  clear h hL hrow
  go_enter Try.func32, Try.ntmps32
  go_wp2_with fail
  go_loopg [7, 8] n (fun gg s7 s8 wr => ∃ (a : Nat) (cur : List Dl), s7 = .int .i64 a ∧ s8 = .int .i64 (a + 20 : Nat) ∧ a ≤ n ∧ n - a ≤ gg ∧ Hid (SD w0 base g cap cur wr) ∧ Hid (PRuns cur 20 a) ∧ Hid (SwapsOn 0 n l cur))
  case atStart => exact ⟨0, l, rfl, rfl, by omega, by omega, HD, Lib.hid .zero, Lib.hid (.refl l)⟩
  case round =>
    obtain ⟨a, cur, rfl, rfl, ha, hg, HS, HP, HW⟩ := hrel
    clear HD
    revert HS
    revert wr
    intro wo HS
    have HLEN : Hid (cur.length = n) := Lib.hid (HW.out.len.trans HL.out)
    by_cases hlt : a + 20 ≤ n
    · have hltz : (a : Int) + 20 ≤ (n : Int) := by omega
      have hltb : decide (a + 20 ≤ n) = true := decide_eq_true hlt
      go_wp2_with fail
      refine (insSort_at w0 base g cap cur n a (a + 20) _ _ _ HS.out (HW.out.all HROW.out) HLEN.out rfl (by omega) hl (by omega) hlt).mono ?_
      rintro e w2 ⟨l2, rfl, hs2, ho2, hw2⟩
      have HS2 := Lib.hid hs2
      have HP2 : Hid (PRuns l2 20 (a + 20)) := Lib.hid (.step (HP.out.congr fun k hk => hw2.out (by have := HLEN.out; omega) (.inl hk)) ho2)
      have HW2 : Hid (SwapsOn 0 n l l2) := Lib.hid (HW.out.trans (hw2.mono (Nat.zero_le _) hlt))
      clear hs2 ho2 hw2
      go_wp2
      go_roundg (n - (a + 20))
      case measure => omega
      case rel => exact ⟨a + 20, l2, by go_num, by go_num, hlt, by omega, HS2, HP2, HW2⟩
    · have hltz : ¬ (a : Int) + 20 ≤ (n : Int) := by omega
      have hltb : decide (a + 20 ≤ n) = false := decide_eq_false hlt
      go_wp2_with fail
      refine (insSort_at w0 base g cap cur n a n _ _ _ HS.out (HW.out.all HROW.out) HLEN.out rfl rfl hl ha (Nat.le_refl _)).mono ?_
      rintro e w2 ⟨l2, rfl, hs2, ho2, hw2⟩
      have HS2 := Lib.hid hs2
      have HR2 : Hid (Runs l2 20 n 0) := Lib.hid ((HP.out.congr fun k hk => hw2.out (by have := HLEN.out; omega) (.inl hk)).join (Runs.last ho2 (by omega)) ha)
      have HW2 : Hid (SwapsOn 0 n l l2) := Lib.hid (HW.out.trans (hw2.mono (Nat.zero_le _) (Nat.le_refl _)))
      clear hs2 ho2 hw2 hltz hltb hlt
      go_wp2_with fail
      go_loopg [6, 7, 8, 9] n (fun gg s6 _ _ _ wr => ∃ (bs : Nat) (cur : List Dl), s6 = .int .i64 bs ∧ 20 ≤ bs ∧ bs ≤ 2000040 ∧ n - bs ≤ gg ∧ Hid (SD w0 base g cap cur wr) ∧ Hid (Runs cur bs n 0) ∧ Hid (SwapsOn 0 n l cur))
      case atStart => exact ⟨20, l2, rfl, by omega, by omega, by omega, HS2, HR2, HW2⟩
      case round =>
        obtain ⟨bs, c3, rfl, hbs, hbs2, hg3, HS3, HR3, HW3⟩ := hrel
        clear HS2 HR2 HW2 HS HP HW HLEN hg ha
        revert HS3
        revert wr
        intro wx HS3
        by_cases hbn : bs < n
        · have hbz : (bs : Int) < (n : Int) := by omega
          have hbb : decide (bs < n) = true := decide_eq_true hbn
          go_wp2_with fail
          go_loopg [7, 8] n (fun gg s7 s8 wr => ∃ (a : Nat) (cur : List Dl), s7 = .int .i64 a ∧ s8 = .int .i64 (a + 2 * bs : Nat) ∧ a ≤ n ∧ n - a ≤ gg ∧ Hid (SD w0 base g cap cur wr) ∧ Hid (PRuns cur (2 * bs) a) ∧ Hid (Runs cur bs n a) ∧ Hid (SwapsOn 0 n l cur))
          case atStart => exact ⟨0, c3, rfl, by go_num, by omega, by omega, HS3, Lib.hid .zero, HR3, HW3⟩
          case round =>
            obtain ⟨a, c4, rfl, rfl, ha4, hg4, HS4, HP4, HR4, HW4⟩ := hrel
            clear HS3 HR3 HW3
            revert HS4
            revert wr
            intro wy HS4
            have HLEN : Hid (c4.length = n) := Lib.hid (HW4.out.len.trans HL.out)
            by_cases hlt : a + 2 * bs ≤ n
            · have hltz : (a : Int) + 2 * (bs : Int) ≤ (n : Int) := by omega
              have hltb : decide (a + 2 * bs ≤ n) = true := decide_eq_true hlt
              have HH : Hid (SortedOn cmpD c4 a (a + bs) ∧ SortedOn cmpD c4 (a + bs) (a + 2 * bs) ∧ Runs c4 bs n (a + 2 * bs)) := Lib.hid (by
                obtain ⟨h1, h2⟩ := HR4.out.head (by omega)
                obtain ⟨h3, h4⟩ := h2.head (by omega)
                exact ⟨h1.sub (Nat.le_refl _) (by omega), h3.sub (Nat.le_refl _) (by omega), by rw [show a + 2 * bs = a + bs + bs by omega]; exact h4⟩)
              go_wp2_with fail
              refine (symMerge_all n w0 base g cap c4 n a (a + bs) (a + 2 * bs) _ _ _ _ HS4.out (HW4.out.all HROW.out) HLEN.out rfl (by omega) (by omega) hl (by omega) (by omega) hlt (by omega) HH.out.1 HH.out.2.1).mono ?_
              rintro e w5 ⟨l5, rfl, hs5, ho5, hw5⟩
              have HS5 := Lib.hid hs5
              have HP5 : Hid (PRuns l5 (2 * bs) (a + 2 * bs)) := Lib.hid (.step (HP4.out.congr fun k hk => hw5.out (by have := HLEN.out; omega) (.inl hk)) ho5)
              have HR5 : Hid (Runs l5 bs n (a + 2 * bs)) := Lib.hid (HH.out.2.2.congr fun k hk => hw5.out (by have := HLEN.out; omega) (.inr hk))
              have HW5 : Hid (SwapsOn 0 n l l5) := Lib.hid (HW4.out.trans (hw5.mono (Nat.zero_le _) hlt))
              clear hs5 ho5 hw5
              go_wp2
              go_roundg (n - (a + 2 * bs))
              case measure => omega
              case rel => exact ⟨a + 2 * bs, l5, by go_num, by go_num, hlt, by omega, HS5, HP5, HR5, HW5⟩
            · have hltz : ¬ (a : Int) + 2 * (bs : Int) ≤ (n : Int) := by omega
              have hltb : decide (a + 2 * bs ≤ n) = false := decide_eq_false hlt
              by_cases hm : a + bs < n
              · have hmz : (a : Int) + (bs : Int) < (n : Int) := by omega
                have hmb : decide (a + bs < n) = true := decide_eq_true hm
                have HH : Hid (SortedOn cmpD c4 a (a + bs) ∧ SortedOn cmpD c4 (a + bs) n) := Lib.hid (by
                  obtain ⟨h1, h2⟩ := HR4.out.head (by omega)
                  obtain ⟨h3, h4⟩ := h2.head (by omega)
                  exact ⟨h1.sub (Nat.le_refl _) (by omega), h3.sub (Nat.le_refl _) (by omega)⟩)
                go_wp2_with fail
                refine (symMerge_all n w0 base g cap c4 n a (a + bs) n _ _ _ _ HS4.out (HW4.out.all HROW.out) HLEN.out rfl (by omega) rfl hl (by omega) hm (Nat.le_refl _) (by omega) HH.out.1 HH.out.2).mono ?_
                rintro e w5 ⟨l5, rfl, hs5, ho5, hw5⟩
                have HS5 := Lib.hid hs5
                have HR5 : Hid (Runs l5 (2 * bs) n 0) := Lib.hid ((HP4.out.congr fun k hk => hw5.out (by have := HLEN.out; omega) (.inl hk)).join (Runs.last ho5 (by omega)) ha4)
                have HW5 : Hid (SwapsOn 0 n l l5) := Lib.hid (HW4.out.trans (hw5.mono (Nat.zero_le _) (Nat.le_refl _)))
                clear hs5 ho5 hw5
                go_wp2
                go_roundg (n - 2 * bs)
                case measure => omega
                case rel => exact ⟨2 * bs, l5, by go_num, by omega, by omega, by omega, HS5, HR5, HW5⟩
              · have hmz : ¬ (a : Int) + (bs : Int) < (n : Int) := by omega
                have hmb : decide (a + bs < n) = false := decide_eq_false hm
                have HR5 : Hid (Runs c4 (2 * bs) n 0) := Lib.hid (by
                  refine HP4.out.join ?_ ha4
                  rcases Nat.lt_or_ge a n with h1 | h1
                  · obtain ⟨h2, h3⟩ := HR4.out.head h1
                    exact Runs.last (h2.sub (Nat.le_refl _) (by omega)) (by omega)
                  · exact .stop h1)
                go_wp2
                go_roundg (n - 2 * bs)
                case measure => omega
                case rel => exact ⟨2 * bs, c4, by go_num, by omega, by omega, by omega, HS4, HR5, HW4⟩
        · have hbz : ¬ (bs : Int) < (n : Int) := by omega
          have hbb : decide (bs < n) = false := decide_eq_false hbn
          have HF : Hid (SwapPost w0 base g cap l (fun l' => SortedOn cmpD l' 0 n ∧ SwapsOn 0 n l l') (.returned (.tuple #[])) wx) := Lib.hid (by
            refine ⟨c3, rfl, HS3.out, ?_, HW3.out⟩
            rcases Nat.eq_zero_or_pos n with h0 | h0
            · exact SortedOn.short _ (by omega)
            · exact (HR3.out.head h0).1.sub (Nat.le_refl _) (by omega))
          go_wp2
          go_end0
          exact HF.out
theorem sortStable_any (w0 : World) (base g cap : Nat) (l : List Dl) (n : Nat) (W : World) (h : SD w0 base g cap l W) (hrow : ∀ d ∈ l, RowG w0 g d) (hL : l.length = n) (hl : n ≤ 1000000) :
    Calls Try.prog 25 #[.slice (some ⟨g, 0, none⟩) n cap, .func (.func 19) #[] #[]] W (SwapPost w0 base g cap l fun l' => SortedOn cmpD l' 0 n ∧ SwapsOn 0 n l l') := by
  have HD := Lib.hid h
  have HL := Lib.hid hL
  have HROW := Lib.hid hrow
  clear h hL hrow
  go_enter Try.func25, Try.ntmps25
  go_wp2_with fail
  refine (stable_at w0 base g cap l n _ HD.out HROW.out HL.out hl).mono ?_
  rintro e w2 ⟨l2, rfl, hs2, ho2, hw2⟩
  have HF : Hid (SwapPost w0 base g cap l (fun l' => SortedOn cmpD l' 0 n ∧ SwapsOn 0 n l l') (.returned (.tuple #[])) w2) := Lib.hid ⟨l2, rfl, hs2, ho2, hw2⟩
  clear hs2 ho2 hw2
  go_wp2
  go_end0
  exact HF.out
end Go.Proofs.Ytmdjcljgbagehaa
