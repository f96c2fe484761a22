/- ref: Right. -/
import Derived.Test.YtmdjcljgbagehaaLinC
namespace Go.Proofs.Ytmdjcljgbagehaa
open Go.RowKit

def AnyB (w : World) (e : Ending) (w' : World) : Prop := ∃ r : Bool, e = .returned (.bool r) ∧ Below w.heap.size w w'
set_option maxHeartbeats 2000000 in
theorem vright_any (v : VVal) (w : World) : Calls Try.prog 31 #[.agg #[.int .i64 v.kind, .int .i64 v.n, .string v.s]] w (AnyB w) := by
  obtain ⟨kd, n, s⟩ := v
  have HBA : Hid (Below w.heap.size w (w.alloc (.cells #[.int .i64 kd, .int .i64 n, .string s] 48))) := Lib.hid ((Below.refl _ w).alloc (Nat.le_refl _) _)
  have HBD : Hid (Blk (w.alloc (.cells #[.int .i64 kd, .int .i64 n, .string s] 48)) w.heap.size 48 #[.int .i64 kd, .int .i64 n, .string s]) := Lib.hid (Blk.new w _ _)
  go_enter Try.func31, Try.ntmps31
  go_upto_region 1 with fail
  generalize (w.alloc (.cells #[.int .i64 kd, .int .i64 n, .string s] 48)) = wa at HBA HBD ⊢
  obtain ⟨z0, z1, z2, _⟩ := HBD.out.three
  by_cases h0 : kd = 0
  · subst h0
    go_wp2
    go_ret
    exact ⟨_, rfl, HBA.out⟩
  have e0 : (kd == 0) = false := by simpa using h0
  clear h0
  by_cases h1 : kd = 1
  · subst h1
    by_cases hn : n = 0
    · subst hn
      go_wp2
      go_ret
      exact ⟨_, rfl, HBA.out⟩
    · have en : (n == 0) = false := by simpa using hn
      clear hn
      go_wp2
      go_ret
      exact ⟨_, rfl, HBA.out⟩
  have e1 : (kd == 1) = false := by simpa using h1
  clear h1
  by_cases h2 : kd = 2
  · subst h2
    by_cases hn : n = 0
    · subst hn
      go_wp2
      go_ret
      exact ⟨_, rfl, HBA.out⟩
    · have en : (n == 0) = false := by simpa using hn
      clear hn
      by_cases hm : n = 1
      · subst hm
        go_wp2
        go_ret
        exact ⟨_, rfl, HBA.out⟩
      · have em : (n == 1) = false := by simpa using hm
        clear hm
        go_wp2
        go_ret
        exact ⟨_, rfl, HBA.out⟩
  · have e2 : (kd == 2) = false := by simpa using h2
    clear h2
    go_wp2
    go_ret
    exact ⟨_, rfl, HBA.out⟩
theorem vall_any (A : Option Addr) (n c : Nat) (l : List VVal) (w : World) (hr : SlT 3 encV w A n c l) (hn : n ≤ 1000000) : Calls Try.prog 23 #[.slice A n c] w (AnyB w) := by
  have HL := Lib.hid hr.1
  have HR := Lib.hid hr
  clear hr
  go_enter Try.func23, Try.ntmps23
  go_wp2_with fail
  go_loopg [3] n (fun gg s3 wr => ∃ k : Nat, k ≤ n ∧ n - k ≤ gg ∧ s3 = .int .i64 k ∧ Hid (Below w.heap.size w wr))
  case atStart => exact ⟨0, Nat.zero_le _, by omega, rfl, Below.refl _ w⟩
  case round =>
    obtain ⟨k, hk, hg, rfl, HW⟩ := hrel
    by_cases hlt : k < n
    · have hltz : (k : Int) < (n : Int) := by omega
      obtain ⟨b1, o1, rfl, hb1, hx1⟩ := HR.out.2.2 (by omega)
      obtain ⟨x, hx⟩ : ∃ x, l[k]? = some x := ⟨_, List.getElem?_eq_getElem (by rw [HL.out]; exact hlt)⟩
      obtain ⟨c0, c1, c2⟩ := cellsV hx1 hb1 HW.out hx
      clear hx hx1
      go_wp2_with fail
      refine (vright_any x _).mono ?_
      rintro e w2 ⟨r, rfl, hb2⟩
      have HB2 := Lib.hid (HW.out.trans (hb2.mono HW.out.size))
      clear hb2 c0 c1 c2
      cases r with
      | true =>
        go_wp2
        go_roundg (n - (k + 1))
        case measure => omega
        case rel => exact ⟨k + 1, by omega, by omega, by go_num, HB2⟩
      | false =>
        go_wp2
        go_ret
        exact ⟨_, rfl, HB2.out⟩
    · have hltz : ¬ (k : Int) < (n : Int) := by omega
      go_wp2
      go_ret
      exact ⟨_, rfl, HW.out⟩
def RowRPost (n : Nat) (w : World) (e : Ending) (w' : World) : Prop := ∃ r : Bool, e = .returned (.bool r) ∧ (r = true → n ≤ 12) ∧ Below w.heap.size w w'
theorem rowRight_any (A : Option Addr) (n c : Nat) (l : List VVal) (w : World) (hr : SlT 3 encV w A n c l) : Calls Try.prog 15 #[.slice A n c] w (RowRPost n w) := by
  have HR := Lib.hid hr
  clear hr
  go_enter Try.func15, Try.ntmps15
  by_cases h : n ≤ 12
  · have hz : (n : Int) ≤ 12 := by omega
    have hb : decide (n ≤ 12) = true := decide_eq_true h
    go_wp2_with fail
    refine (vall_any A n c l _ HR.out (by omega)).mono ?_
    rintro e w2 ⟨r, rfl, hb2⟩
    have HB2 := Lib.hid hb2
    clear hb2
    go_wp2
    go_ret
    exact ⟨_, rfl, fun _ => h, HB2.out⟩
  · have hz : ¬ (n : Int) ≤ 12 := by omega
    have hb : decide (n ≤ 12) = false := decide_eq_false h
    go_wp2
    go_ret
    exact ⟨_, rfl, fun q => (by cases q), Below.refl _ _⟩
/-- A list of deltas as the caller hands it in. -/
def DlIn (w : World) (A : Option Addr) (c : Nat) (l : List Dl) : Prop := SlT 3 encD w A l.length c l ∧ ∀ d ∈ l, SlT 3 encV w d.ra d.rn d.rc d.vs ∧ w64 d.n = d.n
theorem DlIn.below {w w' : World} {A : Option Addr} {c : Nat} {l : List Dl} (h : DlIn w A c l) (hb : Below w.heap.size w w') : DlIn w' A c l := ⟨h.1.below hb, fun d hd => ⟨(h.2 d hd).1.below hb, (h.2 d hd).2⟩⟩
theorem DlIn.at {w : World} {A : Option Addr} {c : Nat} {l : List Dl} (h : DlIn w A c l) (hr : ∀ d ∈ l, d.rn ≤ 12) : DlAt (fun _ => True) w A c l :=
  ⟨⟨h.1, fun _ _ _ _ => trivial⟩, fun d hd => ⟨⟨(h.2 d hd).1, fun _ _ _ _ => trivial⟩, by have := hr d hd; omega, (h.2 d hd).2⟩⟩
theorem DlIn.getD {w : World} {A : Option Addr} {c : Nat} {l : List Dl} (h : DlIn w A c l) {j : Nat} {x : Dl} (hj : l[j]? = some x) {W : World} (hW : Below w.heap.size w W) : ∃ bb off, A = some ⟨bb, off, none⟩ ∧ W.cell? ⟨bb, off + j * 3, none⟩ = some (.int .i64 x.time) ∧ W.cell? ⟨bb, off + j * 3 + 1, none⟩ = some (.slice x.ra x.rn x.rc) ∧ W.cell? ⟨bb, off + j * 3 + 2, none⟩ = some (.int .i64 x.n) ∧ bb < W.heap.size := by
  obtain ⟨bb, off, e, hlt, hx⟩ := h.1.2.2 (by have := (List.getElem?_eq_some_iff.1 hj).1; omega)
  obtain ⟨y0, y1, y2⟩ := cellsD hx hlt hW hj
  exact ⟨bb, off, e, y0, y1, y2, Nat.lt_of_lt_of_le hlt hW.size⟩
def RightPost (M : Nat) (l : List Dl) (w : World) (e : Ending) (w' : World) : Prop := ∃ r : Bool, e = .returned (.bool r) ∧ (r = true → l.length ≤ M ∧ ∀ d ∈ l, d.rn ≤ 12) ∧ Below w.heap.size w w'
theorem right_any (A : Option Addr) (c : Nat) (l : List Dl) (w : World) (h : DlIn w A c l) (M : Nat) (hM : M ≤ 1000000) :
    Calls Try.prog 6 #[.slice A l.length c, .int .i64 M] w (RightPost M l w) := by
  have HD := Lib.hid h
  clear h
  go_enter Try.func6, Try.ntmps6
  go_wp2_with fail
  go_loopg [5] l.length (fun gg s5 wr => ∃ k : Nat, k ≤ l.length ∧ l.length - k ≤ gg ∧ s5 = .int .i64 k ∧ Hid (∀ (j : Nat) (x : Dl), j < k → l[j]? = some x → x.rn ≤ 12) ∧ Hid (Below w.heap.size w wr))
  case atStart => exact ⟨0, Nat.zero_le _, by omega, rfl, Lib.hid (fun j x h => by omega), Below.refl _ w⟩
  case round =>
    obtain ⟨k, hk, hg, rfl, HI, HW⟩ := hrel
    by_cases hlt : k < l.length
    · have hltz : (k : Int) < (l.length : Int) := by omega
      have hltb : decide (k < l.length) = true := decide_eq_true hlt
      by_cases hm : k ≤ M
      · have hmz : (k : Int) ≤ (M : Int) := by omega
        have hmb : decide (k ≤ M) = true := decide_eq_true hm
        obtain ⟨x, hx⟩ : ∃ x, l[k]? = some x := ⟨_, List.getElem?_eq_getElem hlt⟩
        obtain ⟨b1, o1, rfl, x0, x1, x2, hb1⟩ := HD.out.getD hx HW.out
        have HRW : Hid (SlT 3 encV wr x.ra x.rn x.rc x.vs) := Lib.hid ((HD.out.2 x (List.mem_of_getElem? hx)).1.below HW.out)
        have HX := Lib.hid hx
        clear hx
        go_wp2_with fail
        refine (rowRight_any x.ra x.rn x.rc x.vs _ HRW.out).mono ?_
        rintro e w2 ⟨r, rfl, hr, hb2⟩
        have HB2 := Lib.hid (HW.out.trans (hb2.mono HW.out.size))
        have HR := Lib.hid hr
        clear hb2 x0 x1 x2 hr
        cases r with
        | true =>
          have HI2 : Hid (∀ (j : Nat) (x : Dl), j < k + 1 → l[j]? = some x → x.rn ≤ 12) := Lib.hid (fun j y hj hy => by
            rcases Nat.lt_or_ge j k with h1 | h1
            · exact HI.out j y h1 hy
            · obtain rfl : j = k := by omega
              rw [HX.out] at hy
              cases hy
              exact HR.out (by first | trivial | rfl))
          go_wp2
          go_roundg (l.length - (k + 1))
          case measure => omega
          case rel => exact ⟨k + 1, by omega, by omega, by go_num, HI2, HB2⟩
        | false =>
          go_wp2
          go_ret
          exact ⟨_, rfl, fun h => (by cases h), HB2.out⟩
      · have hmz : ¬ (k : Int) ≤ (M : Int) := by omega
        have hmb : decide (k ≤ M) = false := decide_eq_false hm
        have HNO : Hid (¬ l.length ≤ M) := Lib.hid (by omega)
        go_wp2
        go_ret
        exact ⟨_, rfl, fun h => absurd (of_decide_eq_true h) HNO.out, HW.out⟩
    · have hltz : ¬ (k : Int) < (l.length : Int) := by omega
      have hltb : decide (k < l.length) = false := decide_eq_false hlt
      have HALL : Hid (∀ d ∈ l, d.rn ≤ 12) := Lib.hid (fun d hd => by
        obtain ⟨j, hj, e⟩ := List.getElem_of_mem hd
        exact HI.out j d (by omega) (by rw [← e]; exact List.getElem?_eq_getElem hj))
      go_wp2
      go_ret
      exact ⟨_, rfl, fun h => ⟨of_decide_eq_true h, HALL.out⟩, HW.out⟩
end Go.Proofs.Ytmdjcljgbagehaa
