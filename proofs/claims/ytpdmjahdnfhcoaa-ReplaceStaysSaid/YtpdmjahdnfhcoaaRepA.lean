/- The smallest functions of package replace: within, open, Open's predicate; slices.Clone at replacements and segments. -/
import Derived.Test.YtpdmjahdnfhcoaaProg
import Derived.Test.YtpdmjahdnfhcoaaLib
import Derived.Lib.SliceRun
namespace Go.Proofs.Ytpdmjahdnfhcoaa
open Go.RowKit

structure Rep where
  no : Int
  frm : Int
  ver : Int
  start : Int
  state : Int
  cut : Int
  deriving DecidableEq
structure Seg where
  frm : Int
  ver : Int
  deriving DecidableEq
instance : Inhabited Rep := ⟨⟨0, 0, 0, 0, 0, 0⟩⟩
instance : Inhabited Seg := ⟨⟨0, 0⟩⟩
def encR (r : Rep) : List Value := [.int .i64 r.no, .int .i64 r.frm, .int .i64 r.ver, .int .i64 r.start, .int .i64 r.state, .int .i64 r.cut]
def encS (s : Seg) : List Value := [.int .i64 s.frm, .int .i64 s.ver]
theorem encR_len (r : Rep) : (encR r).length = 6 := rfl
theorem encS_len (s : Seg) : (encS s).length = 2 := rfl
theorem encR_one (r : Rep) : ∀ u ∈ encR r, u.oneCell' = true := by simp [encR, Value.oneCell']
theorem encS_one (s : Seg) : ∀ u ∈ encS s, u.oneCell' = true := by simp [encS, Value.oneCell']

theorem SlT.one6 (w : World) (e : TypeId) (a b c d f g : Int) : SlT 6 encR (w.alloc (.cells #[.int .i64 a, .int .i64 b, .int .i64 c, .int .i64 d, .int .i64 f, .int .i64 g] e)) (some ⟨w.heap.size, 0, none⟩) 1 1 [⟨a, b, c, d, f, g⟩] :=
  SlT.one encR_len w ⟨a, b, c, d, f, g⟩ _ rfl e
theorem SlT.one2 (w : World) (e : TypeId) (a b : Int) : SlT 2 encS (w.alloc (.cells #[.int .i64 a, .int .i64 b] e)) (some ⟨w.heap.size, 0, none⟩) 1 1 [⟨a, b⟩] :=
  SlT.one encS_len w ⟨a, b⟩ _ rfl e

def withinB (a b c : Int) : Bool := decide (b ≤ a ∧ a ≤ c)
theorem within_any (a b c : Int) (w : World) :
    Calls Try.prog 18 #[.int .i64 a, .int .i64 b, .int .i64 c] w fun e w' => e = .returned (.bool (withinB a b c)) ∧ w = w' := by
  by_cases h1 : b ≤ a
  · by_cases h2 : a ≤ c
    · go_enter Try.func18, Try.ntmps18
      go_wp2
      go_ret
      exact ⟨by simp [withinB, h1, h2], rfl⟩
    · go_enter Try.func18, Try.ntmps18
      go_wp2
      go_ret
      exact ⟨by simp [withinB, h2], rfl⟩
  · go_enter Try.func18, Try.ntmps18
    go_wp2
    go_ret
    exact ⟨ret_bool (by unfold withinB; rw [decide_eq_false (by omega)]), rfl⟩

def openB (s : Int) : Bool := decide (s = 0 ∨ s = 1 ∨ s = 2)
theorem open_any (a b c d e f : Int) (w : World) :
    Calls Try.prog 21 #[.agg #[.int .i64 a, .int .i64 b, .int .i64 c, .int .i64 d, .int .i64 e, .int .i64 f]] w fun x w' => x = .returned (.bool (openB e)) ∧ Below w.heap.size w w' := by
  by_cases h0 : e = 0
  · subst h0
    go_enter Try.func21, Try.ntmps21
    go_wp2
    go_ret
    exact ⟨rfl, (Below.refl _ _).alloc (Nat.le_refl _) _⟩
  · by_cases h1 : e = 1
    · subst h1
      go_enter Try.func21, Try.ntmps21
      go_wp2
      go_ret
      exact ⟨rfl, (Below.refl _ _).alloc (Nat.le_refl _) _⟩
    · have e0 : (e == 0) = false := by simpa using h0
      have e1 : (e == 1) = false := by simpa using h1
      go_enter Try.func21, Try.ntmps21
      go_wp2
      go_ret
      exact ⟨by by_cases h2 : e = 2 <;> simp [openB, h0, h1, h2], (Below.refl _ _).alloc (Nat.le_refl _) _⟩
theorem notopen_any (a b c d e f : Int) (w : World) :
    Calls Try.prog 33 #[.agg #[.int .i64 a, .int .i64 b, .int .i64 c, .int .i64 d, .int .i64 e, .int .i64 f]] w fun x w' => x = .returned (.bool (!openB e)) ∧ Below w.heap.size w w' := by
  go_enter Try.func33, Try.ntmps33
  go_wp2_with (go_at_call 21; refine (open_any _ _ _ _ _ _ _).mono ?_; rintro e w' ⟨rfl, hb⟩)
  go_ret
  exact ⟨rfl, ((Below.refl _ _).alloc (Nat.le_refl _) _).trans (hb.mono (by simp))⟩

theorem info_Rep : (Try.prog.info? 39).map (fun i => (i.zero, i.size, i.bytes)) = some (some (.agg #[.int .i64 0, .int .i64 0, .int .i64 0, .int .i64 0, .int .i64 0, .int .i64 0]), 6, 48) := by kernel_rfl
theorem info_Seg : (Try.prog.info? 26).map (fun i => (i.zero, i.size, i.bytes)) = some (some (.agg #[.int .i64 0, .int .i64 0]), 2, 16) := by kernel_rfl

/-- slices.Clone: a row of the call's own. -/
theorem cloneR_any (A : Option Addr) (n c : Nat) (l : List Rep) (w : World) (hr : SlT 6 encR w A n c l) (hn : n ≤ 1000000) :
    Calls Try.prog 20 #[.slice A n c] w fun e w' => ∃ v, e = .returned v ∧ w'.ownsRow w.heap.size 39 6 v l.length (l.flatMap encR) ∧ Below w.heap.size w w' := by
  have hl := hr.1
  have q := fun (w : World) (a : Option Addr) (n c n' c' : Nat) => Lib.run_eql_slice_nil (P := Try.prog) w _ _ a n c n' c' Try.underlying28
  rcases A with _ | ad
  · have h0 : n = 0 := by
      rcases Nat.eq_zero_or_pos n with h | h
      · exact h
      · obtain ⟨_, _, h, _⟩ := hr.2.2 h
        cases h
    subst h0
    obtain rfl : l = [] := List.eq_nil_of_length_eq_zero hl
    clear hr hl
    go_enter Try.func20, Try.ntmps20
    go_wp2
    go_ret
    exact ⟨_, rfl, World.ownsRow_nil _ _ _ _, Below.refl _ _⟩
  · have HR := Lib.hid hr
    have HL := Lib.hid hl
    clear hr hl
    go_enter Try.func20, Try.ntmps20
    go_wp2_with (at_builtin; refine wpList_append_sl (k := 6) (enc := encR) _ rfl _ _ 28 rfl w.heap.size 39 _ 48 Try.underlying28 info_Rep rfl (by decide) encR_len encR_one _ 0 [] rfl (World.ownsRow_made w #[] 0 (Nat.le_refl _) (Nat.zero_le _) rfl) (some ad) n c l rfl (HR.out.alloc _) (by unfold maxLen; omega) (by omega) (by simp) ?_)
    intro v' w1 hown hgrow hat
    go_wp2
    go_ret
    refine ⟨v', rfl, ?_, ?_⟩
    · rw [HL.out]; simpa using hown
    · exact ((Below.refl _ w).alloc (Nat.le_refl _) _).grown hgrow (by simp) (by intro k hk; simp [Value.ownBlock] at hk; omega)
/-- slices.Clone: a row of the call's own. -/
theorem cloneS_any (A : Option Addr) (n c : Nat) (l : List Seg) (w : World) (hr : SlT 2 encS w A n c l) (hn : n ≤ 1000000) :
    Calls Try.prog 29 #[.slice A n c] w fun e w' => ∃ v, e = .returned v ∧ w'.ownsRow w.heap.size 26 2 v l.length (l.flatMap encS) ∧ Below w.heap.size w w' := by
  have hl := hr.1
  have q := fun (w : World) (a : Option Addr) (n c n' c' : Nat) => Lib.run_eql_slice_nil (P := Try.prog) w _ _ a n c n' c' Try.underlying27
  rcases A with _ | ad
  · have h0 : n = 0 := by
      rcases Nat.eq_zero_or_pos n with h | h
      · exact h
      · obtain ⟨_, _, h, _⟩ := hr.2.2 h
        cases h
    subst h0
    obtain rfl : l = [] := List.eq_nil_of_length_eq_zero hl
    clear hr hl
    go_enter Try.func29, Try.ntmps29
    go_wp2
    go_ret
    exact ⟨_, rfl, World.ownsRow_nil _ _ _ _, Below.refl _ _⟩
  · have HR := Lib.hid hr
    have HL := Lib.hid hl
    clear hr hl
    go_enter Try.func29, Try.ntmps29
    go_wp2_with (at_builtin; refine wpList_append_sl (k := 2) (enc := encS) _ rfl _ _ 27 rfl w.heap.size 26 _ 16 Try.underlying27 info_Seg rfl (by decide) encS_len encS_one _ 0 [] rfl (World.ownsRow_made w #[] 0 (Nat.le_refl _) (Nat.zero_le _) rfl) (some ad) n c l rfl (HR.out.alloc _) (by unfold maxLen; omega) (by omega) (by simp) ?_)
    intro v' w1 hown hgrow hat
    go_wp2
    go_ret
    refine ⟨v', rfl, ?_, ?_⟩
    · rw [HL.out]; simpa using hown
    · exact ((Below.refl _ w).alloc (Nat.le_refl _) _).grown hgrow (by simp) (by intro k hk; simp [Value.ownBlock] at hk; omega)
end Go.Proofs.Ytpdmjahdnfhcoaa
