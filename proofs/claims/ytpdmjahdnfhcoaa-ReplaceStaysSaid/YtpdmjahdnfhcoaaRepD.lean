/- first. -/
import Derived.Test.YtpdmjahdnfhcoaaRepC
namespace Go.Proofs.Ytpdmjahdnfhcoaa
open Go.RowKit

def firstR (l : List Rep) : Option Rep := l.find? fun r => openB r.state
def repZ : Rep := ⟨0, 0, 0, 0, 0, 0⟩
def aggR (r : Rep) : Value := .agg #[.int .i64 r.no, .int .i64 r.frm, .int .i64 r.ver, .int .i64 r.start, .int .i64 r.state, .int .i64 r.cut]
theorem find_of_idx {α : Type} (p : α → Bool) (l : List α) (i : Nat) (x : α) (hx : l[i]? = some x) (hp : p x = true) (hb : ∀ y ∈ l.take i, p y = false) : l.find? p = some x := by
  obtain ⟨hi, he⟩ := List.getElem?_eq_some_iff.1 hx
  have h1 : l = l.take i ++ x :: l.drop (i + 1) := by rw [← he, ← List.drop_eq_getElem_cons hi, List.take_append_drop]
  have h2 : (l.take i ++ x :: l.drop (i + 1)).find? p = some x := by
    rw [List.find?_append, List.find?_eq_none.2 (fun y hy => by simp [hb y hy])]
    simp [hp]
  rwa [← h1] at h2

theorem first_any (A : Option Addr) (n c : Nat) (l : List Rep) (w : World) (hr : SlT 6 encR w A n c l) (hn : n ≤ 1000000) :
    Calls Try.prog 19 #[.slice A n c] w fun e w' => e = .returned (.tuple #[aggR ((firstR l).getD repZ), .bool (firstR l).isSome]) ∧ Below w.heap.size w w' := by
  have hl := hr.1
  have HL := Lib.hid hl
  have HR := Lib.hid hr
  clear hl hr
  go_enter Try.func19, Try.ntmps19
  go_wp2_with fail
  refine (indexR_any _ _ enters_open pred_open A n c l _ (HR.out.alloc _) hn).mono ?_
  rintro e w1 ⟨rfl, hb1⟩
  obtain ⟨hc1, hf1⟩ := bcell hb1
  have hz : w.heap.size < w1.heap.size := by have := hb1.size; simp at this; omega
  have HBW := Lib.hid (((Below.refl w.heap.size w).alloc (Nat.le_refl _) _).trans (hb1.mono (by simp)))
  clear hb1
  rcases idxI_cases (fun r : Rep => openB r.state) l with ⟨hi, hall⟩ | ⟨i, x, hi, hx, hp, hbef⟩
  · rw [hi]
    have HF : Hid (firstR l = none) := by
      show l.find? _ = none
      rw [List.find?_eq_none]; intro y hy; simp [hall y hy]
    clear hi hall
    go_wp2
    refine bodyPost_ret (v := .tuple #[aggR repZ, .bool false]) (by simp [results, Try.results19, go_sem, hc1, hz, aggR, repZ]) rfl ⟨?_, ?_⟩
    · rw [HF.out]; rfl
    · iterate 6 (refine Below.setCell ?_ (by exact Nat.le_refl _) _)
      exact HBW.out
  · rw [hi]
    have HF : Hid (firstR l = some x) := find_of_idx _ l i x hx hp hbef
    have hin : i < n := by have := (List.getElem?_eq_some_iff.1 hx).1; have := HL.out; omega
    obtain ⟨b, off, rfl, hb, hcells⟩ := HR.out.2.2 (by omega)
    obtain ⟨c0, c1, c2, c3, c4, c5⟩ := cellsR hcells hb (Below.refl _ _) hx
    have hib : (i : Int) < (n : Int) := by omega
    have hne : ¬ ((i : Int) < 0) := by omega
    clear hi hx hp hbef hcells
    go_wp2
    refine bodyPost_ret (v := .tuple #[aggR x, .bool true]) (by simp [results, Try.results19, go_sem, hc1, hz, aggR]) rfl ⟨?_, ?_⟩
    · rw [HF.out]; rfl
    · iterate 6 (refine Below.setCell ?_ (by exact Nat.le_refl _) _)
      exact HBW.out
end Go.Proofs.Ytpdmjahdnfhcoaa
