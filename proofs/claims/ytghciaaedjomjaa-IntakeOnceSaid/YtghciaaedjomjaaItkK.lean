/- law 11: entries in memory; few. -/
import Derived.Test.YtghciaaedjomjaaItkJ
namespace Go.Proofs.Ytghciaaedjomjaa
open Go.RowKit

structure Ent where
  r : ERaw
  vs : List VVal
def encE (x : Ent) : List Value := [.int .i64 x.r.kind, .int .i64 x.r.id, .int .i64 x.r.ep, .int .i64 x.r.sq, .string x.r.src, .int .i64 x.r.sch, .int .i64 x.r.tm, .slice x.r.ra x.r.rn x.r.rc]
theorem encE_len (x : Ent) : (encE x).length = 8 := rfl
theorem encE_one (x : Ent) : ∀ u ∈ encE x, u.oneCell' = true := by simp [encE, Value.oneCell']
def EntAt (w : World) (A : Option Addr) (c : Nat) (l : List Ent) : Prop := SlT 8 encE w A l.length c l ∧ ∀ x ∈ l, SlT 3 encV w x.r.ra x.r.rn x.r.rc x.vs
theorem EntAt.below {w w' : World} {A : Option Addr} {c : Nat} {l : List Ent} (h : EntAt w A c l) (hb : Below w.heap.size w w') : EntAt w' A c l := ⟨h.1.below hb, fun x hx => (h.2 x hx).below hb⟩
theorem EntAt.two {p mb : Nat} {w w' W : World} {A : Option Addr} {c : Nat} {l : List Ent} (h : EntAt W A c l) (hw : Below W.heap.size W w) (ht : Two p mb w w') (hp : W.heap.size ≤ p) (hm : W.heap.size ≤ mb) : EntAt w' A c l := h.below (hw.trans (ht.below hw.size hp hm))
theorem cellsE {w W : World} {b off : Nat} {l : List Ent} (hx : ∀ j x, l[j]? = some x → ∀ i v, (encE x)[i]? = some v → w.cell? ⟨b, off + j * 8 + i, none⟩ = some v) (hb : b < w.heap.size) (hW : Below w.heap.size w W) {j : Nat} {x : Ent} (hj : l[j]? = some x) :
    W.cell? ⟨b, off + j * 8, none⟩ = some (.int .i64 x.r.kind) ∧ W.cell? ⟨b, off + j * 8 + 1, none⟩ = some (.int .i64 x.r.id) ∧ W.cell? ⟨b, off + j * 8 + 2, none⟩ = some (.int .i64 x.r.ep) ∧ W.cell? ⟨b, off + j * 8 + 3, none⟩ = some (.int .i64 x.r.sq) ∧
    W.cell? ⟨b, off + j * 8 + 4, none⟩ = some (.string x.r.src) ∧ W.cell? ⟨b, off + j * 8 + 5, none⟩ = some (.int .i64 x.r.sch) ∧ W.cell? ⟨b, off + j * 8 + 6, none⟩ = some (.int .i64 x.r.tm) ∧ W.cell? ⟨b, off + j * 8 + 7, none⟩ = some (.slice x.r.ra x.r.rn x.r.rc) :=
  ⟨(hW.cell (p := ⟨_, _, none⟩) hb).trans (hx j x hj 0 _ rfl), (hW.cell (p := ⟨_, _, none⟩) hb).trans (hx j x hj 1 _ rfl), (hW.cell (p := ⟨_, _, none⟩) hb).trans (hx j x hj 2 _ rfl), (hW.cell (p := ⟨_, _, none⟩) hb).trans (hx j x hj 3 _ rfl),
   (hW.cell (p := ⟨_, _, none⟩) hb).trans (hx j x hj 4 _ rfl), (hW.cell (p := ⟨_, _, none⟩) hb).trans (hx j x hj 5 _ rfl), (hW.cell (p := ⟨_, _, none⟩) hb).trans (hx j x hj 6 _ rfl), (hW.cell (p := ⟨_, _, none⟩) hb).trans (hx j x hj 7 _ rfl)⟩
def FewPost (w : World) (l : List Ent) (n : Nat) (e : Ending) (w' : World) : Prop := ∃ b : Bool, e = .returned (.bool b) ∧ (b = true → l.length ≤ n ∧ ∀ x ∈ l, x.r.rn ≤ 12) ∧ w' = w
set_option maxHeartbeats 2000000 in
set_option maxRecDepth 100000 in
theorem few11_any (A : Option Addr) (c : Nat) (l : List Ent) (n : Nat) (w : World) (hr : EntAt w A c l) (hl : l.length ≤ maxLen) :
    Calls Try.prog 18 #[.slice A l.length c, .int .i64 n] w (FewPost w l n) := by
  unfold maxLen at hl
  have HR := Lib.hid hr
  clear hr
  go_enter Try.func18, Try.ntmps18
  go_wp2_with fail
  go_loopg [5, 6] l.length (fun gg s5 _ wr => ∃ k : Nat, s5 = .int .i64 k ∧ k ≤ l.length ∧ l.length - k ≤ gg ∧ Hid (∀ x ∈ l.take k, x.r.rn ≤ 12) ∧ wr = w)
  case atStart => exact ⟨0, rfl, by omega, by omega, Lib.hid (by intro x hx; simp at hx), rfl⟩
  case round =>
    obtain ⟨k, rfl, hk, hg, HF, rfl⟩ := hrel
    by_cases hlt : k < l.length
    · have hltz : (k : Int) < (l.length : Int) := by omega
      obtain ⟨b, off, rfl, hb, hcells⟩ := HR.out.1.2.2 (by omega)
      obtain ⟨x, hx⟩ : ∃ x, l[k]? = some x := ⟨_, List.getElem?_eq_getElem hlt⟩
      obtain ⟨-, -, -, -, z4, -, -, z7⟩ := cellsE hcells hb (Below.refl _ wr) hx
      have HRV := Lib.hid (HR.out.2 x (List.mem_of_getElem? hx))
      have HX := Lib.hid hx
      clear hx hcells
      by_cases h12 : 12 < x.r.rn
      · have h1 : (12 : Int) < (x.r.rn : Int) := by omega
        have h1b : decide ((12 : Int) < (x.r.rn : Int)) = true := decide_eq_true h1
        go_wp2
        go_ret
        exact ⟨false, rfl, (fun h => by cases h), rfl⟩
      · have h1 : ¬ (12 : Int) < (x.r.rn : Int) := by omega
        have h1b : decide ((12 : Int) < (x.r.rn : Int)) = false := decide_eq_false h1
        by_cases h30 : 30 < x.r.src.size
        · have h2 : (30 : Int) < (x.r.src.size : Int) := by omega
          have h2b : decide ((30 : Int) < (x.r.src.size : Int)) = true := decide_eq_true h2
          go_wp2
          go_ret
          exact ⟨false, rfl, (fun h => by cases h), rfl⟩
        · have h2 : ¬ (30 : Int) < (x.r.src.size : Int) := by omega
          have h2b : decide ((30 : Int) < (x.r.src.size : Int)) = false := decide_eq_false h2
          have HN : Hid (∀ y ∈ l.take (k + 1), y.r.rn ≤ 12) := Lib.hid (by
            intro y hy
            rw [List.take_add_one, HX.out] at hy
            rcases List.mem_append.1 hy with hy | hy
            · exact HF.out y hy
            · rw [List.mem_singleton.1 hy]; omega)
          have h12' : x.r.rn ≤ 12 := by omega
          obtain ⟨⟨kind, id, ep, sq, src, sch, tm, ra, rn, rc⟩, vs⟩ := x
          simp only at *
          go_wp2_with fail
          go_loopg [6] rn (fun gg s6 wx => ∃ q : Nat, s6 = .int .i64 q ∧ q ≤ rn ∧ rn - q ≤ gg ∧ wx = wr)
          case atStart => exact ⟨0, rfl, by omega, by omega, rfl⟩
          case round =>
            obtain ⟨q, rfl, hq, hgq, rfl⟩ := hrel
            by_cases hql : q < rn
            · have hqlz : (q : Int) < (rn : Int) := by omega
              obtain ⟨vb, vo, rfl, hvb, hvc⟩ := HRV.out.2.2 (by omega)
              obtain ⟨v, hv⟩ : ∃ v, vs[q]? = some v := ⟨_, List.getElem?_eq_getElem (by have := HRV.out.1; omega)⟩
              obtain ⟨-, -, v2⟩ := cellsV hvc hvb (Below.refl _ _) hv
              clear hv hvc
              by_cases h210 : 210 < v.s.size
              · have h3 : (210 : Int) < (v.s.size : Int) := by omega
                have h3b : decide ((210 : Int) < (v.s.size : Int)) = true := decide_eq_true h3
                go_wp2
                go_ret
                exact ⟨false, rfl, (fun h => by cases h), rfl⟩
              · have h3 : ¬ (210 : Int) < (v.s.size : Int) := by omega
                have h3b : decide ((210 : Int) < (v.s.size : Int)) = false := decide_eq_false h3
                go_wp2
                go_roundg (rn - (q + 1))
                case measure => omega
                case rel => exact ⟨q + 1, by go_num, by omega, by omega, rfl⟩
            · have hqlz : ¬ (q : Int) < (rn : Int) := by omega
              go_wp2
              go_roundg (l.length - (k + 1))
              case measure => omega
              case rel => exact ⟨k + 1, by go_num, by omega, by omega, HN, rfl⟩
    · have hltz : ¬ (k : Int) < (l.length : Int) := by omega
      obtain rfl : k = l.length := by omega
      by_cases hn : l.length ≤ n
      · have hnz : (l.length : Int) ≤ (n : Int) := by omega
        have hnb : decide (l.length ≤ n) = true := decide_eq_true hn
        go_wp2
        go_ret
        exact ⟨_, rfl, (fun _ => ⟨hn, fun x hx => HF.out x (by rw [List.take_length]; exact hx)⟩), rfl⟩
      · have hnz : ¬ (l.length : Int) ≤ (n : Int) := by omega
        have hnb : decide (l.length ≤ n) = false := decide_eq_false hn
        go_wp2
        go_ret
        exact ⟨_, rfl, (fun h => by cases h), rfl⟩
end Go.Proofs.Ytghciaaedjomjaa
