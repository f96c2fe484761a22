/- slices.IndexFunc and slices.DeleteFunc at replacements, whatever predicate; Open; first. -/
import Derived.Test.YtpdmjahdnfhcoaaRepA
import Derived.Lib.SliceRun
namespace Go.Proofs.Ytpdmjahdnfhcoaa
open Go.RowKit

/-- What is asked of a predicate on replacements. -/
def PredR (g : Nat) (p : Rep → Bool) : Prop :=
  ∀ (W : World) (a b c d e f : Int), Calls Try.prog g #[.agg #[.int .i64 a, .int .i64 b, .int .i64 c, .int .i64 d, .int .i64 e, .int .i64 f]] W fun x w' => x = .returned (.bool (p ⟨a, b, c, d, e, f⟩)) ∧ Below W.heap.size W w'
def Enters (g : Nat) : Prop := ∀ args w, (callFunc g args).run Try.prog w = .ok (.enter g args) w

def idxI {α : Type} (p : α → Bool) (l : List α) : Int := match l.findIdx? p with | some i => (i : Int) | none => -1
theorem idxI_hit {α : Type} (p : α → Bool) (l : List α) (k : Nat) (x : α) (hx : l[k]? = some x) (h : p x = true) (hb : ∀ (j : Nat) (y : α), j < k → l[j]? = some y → p y = false) : idxI p l = k := by
  have : l.findIdx? p = some k := by
    rw [List.findIdx?_eq_some_iff_getElem]
    obtain ⟨hk, rfl⟩ := List.getElem?_eq_some_iff.1 hx
    exact ⟨hk, h, fun j hj => by simp [hb j l[j] hj (List.getElem?_eq_getElem _)]⟩
  simp [idxI, this]
theorem idxI_miss {α : Type} (p : α → Bool) (l : List α) (hb : ∀ (j : Nat) (y : α), l[j]? = some y → p y = false) : idxI p l = -1 := by
  have : l.findIdx? p = none := by
    rw [List.findIdx?_eq_none_iff]
    intro x hx
    obtain ⟨j, hj, rfl⟩ := List.mem_iff_getElem.1 hx
    exact hb j _ (List.getElem?_eq_getElem hj)
  simp [idxI, this]
theorem idxI_cases {α : Type} (p : α → Bool) (l : List α) : (idxI p l = -1 ∧ ∀ x ∈ l, p x = false) ∨ ∃ (i : Nat) (x : α), idxI p l = i ∧ l[i]? = some x ∧ p x = true ∧ ∀ y ∈ l.take i, p y = false := by
  unfold idxI
  cases h : l.findIdx? p with
  | none => exact .inl ⟨rfl, List.findIdx?_eq_none_iff.1 h⟩
  | some i =>
    obtain ⟨hi, hp, hb⟩ := List.findIdx?_eq_some_iff_getElem.1 h
    refine .inr ⟨i, l[i], rfl, List.getElem?_eq_getElem hi, hp, fun y hy => ?_⟩
    obtain ⟨j, hj, rfl⟩ := List.mem_iff_getElem.1 hy
    simp only [List.length_take] at hj
    rw [List.getElem_take]
    simpa using hb j (by omega)
theorem cellsR {w W : World} {b off : Nat} {l : List Rep} (hx : ∀ j x, l[j]? = some x → ∀ i v, (encR x)[i]? = some v → w.cell? ⟨b, off + j * 6 + i, none⟩ = some v) (hb : b < w.heap.size) (hW : Below w.heap.size w W) {j : Nat} {x : Rep} (hj : l[j]? = some x) :
    W.cell? ⟨b, off + j * 6, none⟩ = some (.int .i64 x.no) ∧ W.cell? ⟨b, off + j * 6 + 1, none⟩ = some (.int .i64 x.frm) ∧ W.cell? ⟨b, off + j * 6 + 2, none⟩ = some (.int .i64 x.ver) ∧
    W.cell? ⟨b, off + j * 6 + 3, none⟩ = some (.int .i64 x.start) ∧ W.cell? ⟨b, off + j * 6 + 4, none⟩ = some (.int .i64 x.state) ∧ W.cell? ⟨b, off + j * 6 + 5, none⟩ = some (.int .i64 x.cut) :=
  ⟨(hW.cell (p := ⟨_, _, none⟩) hb).trans (hx j x hj 0 _ rfl), (hW.cell (p := ⟨_, _, none⟩) hb).trans (hx j x hj 1 _ rfl), (hW.cell (p := ⟨_, _, none⟩) hb).trans (hx j x hj 2 _ rfl),
    (hW.cell (p := ⟨_, _, none⟩) hb).trans (hx j x hj 3 _ rfl), (hW.cell (p := ⟨_, _, none⟩) hb).trans (hx j x hj 4 _ rfl), (hW.cell (p := ⟨_, _, none⟩) hb).trans (hx j x hj 5 _ rfl)⟩

set_option maxHeartbeats 1000000 in
theorem indexR_any (g : Nat) (p : Rep → Bool) (eg : Enters g) (hp : PredR g p) (A : Option Addr) (n c : Nat) (l : List Rep) (w : World) (hr : SlT 6 encR w A n c l) (hn : n ≤ 1000000) :
    Calls Try.prog 31 #[.slice A n c, .func (.func g) #[] #[]] w fun e w' => e = .returned (.int .i64 (idxI p l)) ∧ Below w.heap.size w w' := by
  have hl := hr.1
  rcases Nat.eq_zero_or_pos n with h0 | h0
  · subst h0
    obtain rfl : l = [] := List.eq_nil_of_length_eq_zero hl
    clear hr hl hp eg
    go_enter Try.func31, Try.ntmps31
    go_wp2
    refine wp_loop_rounds 1 ?_
    rw [rounds_succ]
    go_wp2
    go_ret
    exact ⟨rfl, Below.refl _ _⟩
  · obtain ⟨b, off, rfl, hb, hx⟩ := hr.2.2 h0
    have HX := Lib.hid hx
    have HL := Lib.hid hl
    have HP := Lib.hid hp
    clear hr hl hx hp
    have eg' : ∀ args w, (callFunc g args).run Try.prog w = .ok (.enter g args) w := eg
    clear eg
    go_enter Try.func31, Try.ntmps31
    go_wp2
    go_loopg [5, 8] n (fun gg _ s8 wr => ∃ kk : Nat, kk ≤ n ∧ n - kk ≤ gg ∧ s8 = .int .i64 kk ∧ Hid (Below w.heap.size w wr) ∧ Hid (∀ j y, j < kk → l[j]? = some y → p y = false))
    case atStart => exact ⟨0, Nat.zero_le _, by omega, rfl, Below.refl _ w, fun j y hj => absurd hj (Nat.not_lt_zero _)⟩
    case round =>
      obtain ⟨kk, hkk, hg, rfl, BW, A⟩ := hrel
      by_cases hlt : kk < n
      · have hltz : (kk : Int) < (n : Int) := by omega
        obtain ⟨x, hj⟩ : ∃ x, l[kk]? = some x := ⟨_, List.getElem?_eq_getElem (by rw [HL.out]; exact hlt)⟩
        obtain ⟨c0, c1, c2, c3, c4, c5⟩ := cellsR HX.out hb BW.out hj
        have HJ := Lib.hid hj
        clear hj
        have HC : Hid (∀ W : World, Calls Try.prog g #[.agg #[.int .i64 x.no, .int .i64 x.frm, .int .i64 x.ver, .int .i64 x.start, .int .i64 x.state, .int .i64 x.cut]] W fun e w' => e = .returned (.bool (p x)) ∧ Below W.heap.size W w') := fun W => HP.out W x.no x.frm x.ver x.start x.state x.cut
        cases hq : p x with
        | true =>
          rw [hq] at HC
          have HQ := Lib.hid hq
          clear hq
          go_wp2_with fail
          refine (HC.out _).mono ?_
          rintro e w' ⟨rfl, hb'⟩
          go_wp2
          go_ret
          refine ⟨?_, BW.out.trans (hb'.mono BW.out.size)⟩
          rw [idxI_hit p l kk x HJ.out HQ.out A.out]
          rfl
        | false =>
          rw [hq] at HC
          have HQ := Lib.hid hq
          clear hq
          go_wp2_with fail
          refine (HC.out _).mono ?_
          rintro e w' ⟨rfl, hb'⟩
          go_wp2
          go_roundg (n - (kk + 1))
          case measure => omega
          case rel =>
            refine ⟨kk + 1, by omega, by omega, by go_num, BW.out.trans (hb'.mono BW.out.size), (show Hid _ from fun j y hj hy => ?_)⟩
            by_cases e : j = kk
            · subst e
              have := HJ.out.symm.trans hy
              injection this with this
              rw [← this]
              exact HQ.out
            · exact A.out j y (by omega) hy
      · have hltz : ¬ (kk : Int) < (n : Int) := by omega
        have : kk = n := by omega
        subst this
        go_wp2
        go_ret
        refine ⟨?_, BW.out⟩
        rw [idxI_miss p l (fun j y hy => A.out j y (by have := (List.getElem?_eq_some_iff.1 hy).1; have := HL.out; omega) hy)]
        rfl
end Go.Proofs.Ytpdmjahdnfhcoaa
