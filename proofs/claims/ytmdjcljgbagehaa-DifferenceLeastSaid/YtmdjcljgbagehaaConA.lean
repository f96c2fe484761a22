/- delta: lists of deltas in memory; clones. -/
import Derived.Test.YtmdjcljgbagehaaSrtE
import Derived.Lib.SliceRun
namespace Go.Proofs.Ytmdjcljgbagehaa
open Go.RowKit

theorem info_Del : (Try.prog.info? 38).map (fun i => (i.zero, i.size, i.bytes)) = some (some (.agg #[.int .i64 0, .slice none 0 0, .int .i64 0]), 3, 40) := by kernel_rfl
theorem info_Val : (Try.prog.info? 48).map (fun i => (i.zero, i.size, i.bytes)) = some (some (.agg #[.int .i64 0, .int .i64 0, .string ⟨#[]⟩]), 3, 32) := by kernel_rfl
/-- A list of deltas in memory; its blocks meet P. -/
def DlAt (P : Nat → Prop) (w : World) (A : Option Addr) (c : Nat) (l : List Dl) : Prop := SlP P 3 encD w A l.length c l ∧ ∀ d ∈ l, SlP P 3 encV w d.ra d.rn d.rc d.vs ∧ d.rn ≤ 1000000 ∧ w64 d.n = d.n
section
variable {P Q : Nat → Prop} {w w' : World} {A : Option Addr} {c : Nat} {l : List Dl}
theorem DlAt.keep (h : DlAt P w A c l) (hs : w.heap.size ≤ w'.heap.size) (hc : ∀ b, b < w.heap.size → P b → w'.heap[b]? = w.heap[b]?) : DlAt P w' A c l := ⟨h.1.keep hs hc, fun d hd => ⟨(h.2 d hd).1.keep hs hc, (h.2 d hd).2⟩⟩
theorem DlAt.below (h : DlAt P w A c l) (hb : Below w.heap.size w w') : DlAt P w' A c l := h.keep hb.size fun b hlt _ => hb.block b hlt
theorem DlAt.mono (h : DlAt P w A c l) (hpq : ∀ b, b < w.heap.size → P b → Q b) : DlAt Q w A c l := ⟨h.1.mono hpq, fun d hd => ⟨(h.2 d hd).1.mono hpq, (h.2 d hd).2⟩⟩
theorem DlAt.nil (A : Option Addr) (c : Nat) : DlAt P w A c [] := ⟨SlP.nil A c, by simp⟩
theorem DlAt.row (h : DlAt P w A c l) {d : Dl} (hd : d ∈ l) : RowOk w d := ⟨(h.2 d hd).1.1, (h.2 d hd).2.1⟩
end
def CloneDPost (w : World) (l : List Dl) (e : Ending) (w' : World) : Prop := ∃ A c, e = .returned (.slice A l.length c) ∧ w'.ownsRow w.heap.size 38 3 (.slice A l.length c) l.length (l.flatMap encD) ∧ Below w.heap.size w w'
theorem cloneD_any (A : Option Addr) (n c : Nat) (l : List Dl) (w : World) (hr : SlT 3 encD w A n c l) (hn : n ≤ 1000000) :
    Calls Try.prog 24 #[.slice A n c] w (CloneDPost w l) := by
  have hl := hr.1
  have q := fun (w : World) (a : Option Addr) (n c n' c' : Nat) => Lib.run_eql_slice_nil (P := Try.prog) w _ _ a n c n' c' Try.underlying22
  rcases A with _ | ad
  · have h0 : n = 0 := by
      rcases Nat.eq_zero_or_pos n with h | h
      · exact h
      · obtain ⟨_, _, h, _⟩ := hr.2.2 h
        cases h
    subst h0
    obtain rfl : l = [] := List.eq_nil_of_length_eq_zero hl
    clear hr hl
    go_enter Try.func24, Try.ntmps24
    go_wp2
    go_ret
    exact ⟨_, _, rfl, World.ownsRow_nil _ _ _ _, Below.refl _ _⟩
  · have HR := Lib.hid hr
    have HL := Lib.hid hl
    clear hr hl
    go_enter Try.func24, Try.ntmps24
    go_wp2_with (at_builtin; refine wpList_append_sl (k := 3) (enc := encD) _ rfl _ _ 22 rfl w.heap.size 38 _ 40 Try.underlying22 info_Del rfl (by decide) encD_len encD_one _ 0 [] rfl (World.ownsRow_made w #[] 0 (Nat.le_refl _) (Nat.zero_le _) rfl) (some ad) n c l rfl (HR.out.alloc _) (by unfold maxLen; omega) (by omega) (by simp) ?_)
    intro v' w1 hown hgrow hat
    go_wp2
    go_ret
    have hown2 : w1.ownsRow w.heap.size 38 3 v' l.length (l.flatMap encD) := by rw [HL.out]; simpa using hown
    obtain ⟨A', c', rfl⟩ := own_shape hown2
    exact ⟨A', c', rfl, hown2, ((Below.refl _ w).alloc (Nat.le_refl _) _).grown hgrow (by simp) (by intro k hk; simp [Value.ownBlock] at hk; omega)⟩
def CloneVPost (w : World) (l : List VVal) (e : Ending) (w' : World) : Prop := ∃ A c, e = .returned (.slice A l.length c) ∧ w'.ownsRow w.heap.size 48 3 (.slice A l.length c) l.length (l.flatMap encV) ∧ Below w.heap.size w w'
theorem cloneV_any (A : Option Addr) (n c : Nat) (l : List VVal) (w : World) (hr : SlT 3 encV w A n c l) (hn : n ≤ 1000000) :
    Calls Try.prog 26 #[.slice A n c] w (CloneVPost w l) := by
  have hl := hr.1
  have q := fun (w : World) (a : Option Addr) (n c n' c' : Nat) => Lib.run_eql_slice_nil (P := Try.prog) w _ _ a n c n' c' Try.underlying30
  rcases A with _ | ad
  · have h0 : n = 0 := by
      rcases Nat.eq_zero_or_pos n with h | h
      · exact h
      · obtain ⟨_, _, h, _⟩ := hr.2.2 h
        cases h
    subst h0
    obtain rfl : l = [] := List.eq_nil_of_length_eq_zero hl
    clear hr hl
    go_enter Try.func26, Try.ntmps26
    go_wp2
    go_ret
    exact ⟨_, _, rfl, World.ownsRow_nil _ _ _ _, Below.refl _ _⟩
  · have HR := Lib.hid hr
    have HL := Lib.hid hl
    clear hr hl
    go_enter Try.func26, Try.ntmps26
    go_wp2_with (at_builtin; refine wpList_append_sl (k := 3) (enc := encV) _ rfl _ _ 30 rfl w.heap.size 48 _ 32 Try.underlying30 info_Val rfl (by decide) encV_len encV_one _ 0 [] rfl (World.ownsRow_made w #[] 0 (Nat.le_refl _) (Nat.zero_le _) rfl) (some ad) n c l rfl (HR.out.alloc _) (by unfold maxLen; omega) (by omega) (by simp) ?_)
    intro v' w1 hown hgrow hat
    go_wp2
    go_ret
    have hown2 : w1.ownsRow w.heap.size 48 3 v' l.length (l.flatMap encV) := by rw [HL.out]; simpa using hown
    obtain ⟨A', c', rfl⟩ := own_shape hown2
    exact ⟨A', c', rfl, hown2, ((Below.refl _ w).alloc (Nat.le_refl _) _).grown hgrow (by simp) (by intro k hk; simp [Value.ownBlock] at hk; omega)⟩
/-- Sorting nothing. -/
theorem sort0_any (A : Option Addr) (c : Nat) (w : World) : Calls Try.prog 25 #[.slice A 0 c, .func (.func 19) #[] #[]] w fun e w' => e = .returned (.tuple #[]) ∧ Below w.heap.size w w' := by
  have hi : ∀ w, Calls Try.prog 36 #[.slice A 0 c, .int .i64 0, .int .i64 0, .func (.func 19) #[] #[]] w fun e w' => e = .returned (.tuple #[]) ∧ Below w.heap.size w w' := fun w => by
    go_enter Try.func36, Try.ntmps36
    go_wp2
    refine wp_loop_rounds 1 ?_
    rw [rounds_succ]
    go_wp2
    go_end0
    exact ⟨rfl, Below.refl _ _⟩
  have HI := Lib.hid hi
  have hs : ∀ w, Calls Try.prog 32 #[.slice A 0 c, .int .i64 0, .func (.func 19) #[] #[]] w fun e w' => e = .returned (.tuple #[]) ∧ Below w.heap.size w w' := fun w => by
    clear hi
    go_enter Try.func32, Try.ntmps32
    go_wp2
    refine wp_loop_rounds 1 ?_
    rw [rounds_succ]
    go_wp2_with fail
    refine (HI.out _).mono ?_
    rintro e w1 ⟨rfl, hb1⟩
    go_wp2
    refine wp_loop_rounds 1 ?_
    rw [rounds_succ]
    go_wp2
    go_end0
    exact ⟨rfl, hb1⟩
  have HS := Lib.hid hs
  clear hi hs
  go_enter Try.func25, Try.ntmps25
  go_wp2_with fail
  refine (HS.out _).mono ?_
  rintro e w1 ⟨rfl, hb1⟩
  go_wp2
  go_end0
  exact ⟨rfl, hb1⟩
end Go.Proofs.Ytmdjcljgbagehaa
