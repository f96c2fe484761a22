/- timeline: sort.Search by a predicate on indices that leaves memory alone; behind. -/
import Derived.Test.YtpdmjahdnfhcoaaRepA
namespace Go.Proofs.Ytpdmjahdnfhcoaa
open Go.RowKit

/-- Binary search, as sort.Search goes. -/
def bs (p : Nat → Bool) (i j : Nat) : Nat :=
  if i < j then (if p ((i + j) / 2) then bs p i ((i + j) / 2) else bs p ((i + j) / 2 + 1) j) else i
termination_by j - i
decreasing_by all_goals omega
theorem bs_le (p : Nat → Bool) : ∀ (d i j : Nat), j - i = d → i ≤ j → i ≤ bs p i j ∧ bs p i j ≤ j := by
  intro d
  induction d using Nat.strongRecOn with
  | _ d ih =>
    intro i j hd hij
    unfold bs
    split
    · split
      · have := ih ((i + j) / 2 - i) (by omega) i ((i + j) / 2) rfl (by omega)
        omega
      · have := ih (j - ((i + j) / 2 + 1)) (by omega) ((i + j) / 2 + 1) j rfl (by omega)
        omega
    · omega
/-- Below the result p is false, from it on true: if p is monotone. -/
theorem bs_spec (p : Nat → Bool) (n : Nat) (hm : ∀ a b, a ≤ b → b < n → p a = true → p b = true) : ∀ (d i j : Nat), j - i = d → i ≤ j → j ≤ n → (∀ a, a < i → p a = false) → (∀ a, j ≤ a → a < n → p a = true) →
    (∀ a, a < bs p i j → p a = false) ∧ (∀ a, bs p i j ≤ a → a < n → p a = true) := by
  intro d
  induction d using Nat.strongRecOn with
  | _ d ih =>
    intro i j hd hij hjn hlo hhi
    unfold bs
    split
    · rename_i hlt
      split
      · rename_i hp
        exact ih ((i + j) / 2 - i) (by omega) i ((i + j) / 2) rfl (by omega) (by omega) hlo fun a ha han => by
          by_cases h : j ≤ a
          · exact hhi a h han
          · exact hm _ _ ha han hp
      · rename_i hp
        refine ih (j - ((i + j) / 2 + 1)) (by omega) ((i + j) / 2 + 1) j rfl (by omega) hjn (fun a ha => ?_) hhi
        by_cases h : p a = true
        · exact absurd (hm a ((i + j) / 2) (by omega) (by omega) h) hp
        · simpa using h
    · rename_i hlt
      obtain rfl : i = j := by omega
      exact ⟨hlo, hhi⟩

set_option maxHeartbeats 1000000 in
theorem search_any (g : Nat) (eg : ∀ args w, (callFunc g args).run Try.prog w = .ok (.enter g args) w) (a1 a2 : Addr) (p : Nat → Bool) (n : Nat) (hn : n ≤ 1000000) (w : World)
    (hp : ∀ (W : World) (m : Nat), m < n → Below w.heap.size w W → Calls Try.prog g #[.int .i64 m, .pointer (some a1), .pointer (some a2)] W fun e w' => e = .returned (.bool (p m)) ∧ Below W.heap.size W w') :
    Calls Try.prog 34 #[.int .i64 n, .func (.func g) #[] #[.pointer (some a1), .pointer (some a2)]] w fun e w' => e = .returned (.int .i64 (bs p 0 n)) ∧ Below w.heap.size w w' := by
  have HP := Lib.hid hp
  clear hp
  go_enter Try.func34, Try.ntmps34
  go_wp2
  go_loopg [5, 6] n (fun gg s5 s6 wr => ∃ i j : Nat, s5 = .int .i64 i ∧ s6 = .int .i64 j ∧ i ≤ j ∧ j ≤ n ∧ j - i ≤ gg ∧ Hid (bs p i j = bs p 0 n) ∧ Hid (Below w.heap.size w wr))
  case atStart => exact ⟨0, n, rfl, rfl, by omega, by omega, by omega, rfl, Below.refl _ _⟩
  case round =>
    obtain ⟨i, j, rfl, rfl, hij, hjn, hg, HB, HW⟩ := hrel
    have hib : (i : Int) ≤ 1000000 := by omega
    have hjb : (j : Int) ≤ 1000000 := by omega
    by_cases hlt : i < j
    · have hltz : (i : Int) < (j : Int) := by omega
      go_wp2_with fail
      have e : ((i : Int) + (j : Int)) / 2 = (((i + j) / 2 : Nat) : Int) := by omega
      rw [e]
      have hmi : i ≤ (i + j) / 2 := by omega
      have hmj : (i + j) / 2 < j := by omega
      have HE : Hid (bs p i j = if p ((i + j) / 2) then bs p i ((i + j) / 2) else bs p ((i + j) / 2 + 1) j) := by
        show _ = _
        rw [bs, if_pos hlt]
      generalize (i + j) / 2 = m at hmi hmj HE
      clear e
      have hmb : (m : Int) ≤ 1000000 := by omega
      refine (HP.out _ m (by omega) HW.out).mono ?_
      rintro e w1 ⟨rfl, hb1⟩
      have HB1 := Lib.hid (below_andthen HW.out HW.out.size hb1)
      clear hb1
      cases hq : p m with
      | true =>
        have HQ := Lib.hid hq
        clear hq
        go_wp2
        go_roundg (m - i)
        case measure => omega
        case rel => exact ⟨i, m, rfl, rfl, by omega, by omega, by omega, Lib.hid (by rw [← HB.out, HE.out, HQ.out]; simp), HB1.out⟩
      | false =>
        have HQ := Lib.hid hq
        clear hq
        go_wp2
        go_roundg (j - (m + 1))
        case measure => omega
        case rel => exact ⟨m + 1, j, by go_num, rfl, by omega, by omega, by omega, Lib.hid (by rw [← HB.out, HE.out, HQ.out]; simp), HB1.out⟩
    · have hltz : ¬ (i : Int) < (j : Int) := by omega
      obtain rfl : i = j := by omega
      go_wp2
      go_ret
      refine ⟨ret_int ?_, HW.out⟩
      rw [← HB.out, bs, if_neg (by omega)]

/-- The closure of behind: both captured variables lie in boxes. -/
theorem behind1_any (i : Nat) (A : Option Addr) (n c : Nat) (l : List Seg) (t : Int) (a1 a2 : Nat) (w : World) (h1 : w.cell? ⟨a1, 0, none⟩ = some (.slice A n c)) (h2 : w.cell? ⟨a2, 0, none⟩ = some (.int .i64 t)) (hr : SlT 2 encS w A n c l) (hi : i < n) (hn : n ≤ 1000000) :
    Calls Try.prog 35 #[.int .i64 i, .pointer (some ⟨a1, 0, none⟩), .pointer (some ⟨a2, 0, none⟩)] w fun e w' => e = .returned (.bool (decide (t < (l[i]!).frm))) ∧ Below w.heap.size w w' := by
  have hl := hr.1
  obtain ⟨b, off, rfl, hb, hcells⟩ := hr.2.2 (by omega)
  have hx : l[i]? = some l[i]! := by rw [getElem!_pos l i (by omega)]; exact List.getElem?_eq_getElem (by omega)
  have c0 : w.cell? ⟨b, off + i * 2, none⟩ = some (.int .i64 (l[i]!).frm) := hcells i _ hx 0 _ rfl
  generalize (l[i]!).frm = f at c0 ⊢
  have hib : (i : Int) < (n : Int) := by omega
  have hi0 : (0 : Int) ≤ (i : Int) := by omega
  clear hr hcells hx
  go_enter Try.func35, Try.ntmps35
  go_wp2
  go_quiet (fail)
  go_wp2
  go_ret
  exact ⟨rfl, below_drewN (Below.refl _ _) _⟩

/-- The first segment that begins after a time. -/
def behindF (l : List Seg) (t : Int) : Nat := bs (fun i => decide (t < (l[i]!).frm)) 0 l.length
theorem behindF_le (l : List Seg) (t : Int) : behindF l t ≤ l.length := (bs_le _ _ 0 l.length rfl (Nat.zero_le _)).2
theorem behind_any (A : Option Addr) (c : Nat) (l : List Seg) (t : Int) (w : World) (hr : SlT 2 encS w A l.length c l) (hn : l.length ≤ 1000000) :
    Calls Try.prog 23 #[.slice A l.length c, .int .i64 t] w fun e w' => e = .returned (.int .i64 (behindF l t)) ∧ Below w.heap.size w w' := by
  have HR := Lib.hid hr
  have hmf : ∀ (fn : Fn) (first cap : Array Value) (w : World), (Instr.makeFunc fn first cap).run Try.prog w = .ok (.func fn first cap) w := fun _ _ _ _ => rfl
  clear hr
  go_enter Try.func23, Try.ntmps23
  go_wp2_with fail
  refine (search_any 35 (fun _ _ => by kernel_rfl) _ _ (fun i => decide (t < (l[i]!).frm)) l.length hn _ ?_).mono ?_
  · intro W m hm hW
    refine behind1_any m A l.length c l t _ _ W ?_ ?_ ?_ hm hn
    · rw [hW.cell (by simp <;> omega)]; simp
    · rw [hW.cell (by simp <;> omega)]; simp
    · exact (((HR.out.alloc _).alloc _).below hW)
  rintro e w1 ⟨he, hb1⟩
  obtain rfl : e = .returned (.int .i64 (behindF l t)) := he
  have HB1 := Lib.hid ((((Below.refl w.heap.size w).alloc (Nat.le_refl _) _).alloc (by simp) _).trans (hb1.mono (by simp; omega)))
  clear hb1
  go_wp2
  go_ret
  exact ⟨rfl, HB1.out⟩
end Go.Proofs.Ytpdmjahdnfhcoaa
