/- Rows of ints; slices whose blocks are known to meet a condition. -/
import Derived.Test.YtghciaaedjomjaaProg
import Derived.Test.YtghciaaedjomjaaOwn
import Derived.Lib.SliceRun
namespace Go.Proofs.Ytghciaaedjomjaa
open Go.RowKit

def eI (n : Int) : List Value := [.int .i64 n]
theorem eI_len (n : Int) : (eI n).length = 1 := rfl
theorem eI_one (n : Int) : ∀ u ∈ eI n, u.oneCell' = true := by simp [eI, Value.oneCell']
theorem eI_map (l : List Int) : l.flatMap eI = l.map (Value.int .i64) := by
  induction l with
  | nil => rfl
  | cons x l ih => simp [eI, List.flatMap_cons, ih]
theorem info_Int : (Try.prog.info? 3).map (fun i => (i.zero, i.size, i.bytes)) = some (some (.int .i64 0), 1, 8) := by kernel_rfl
theorem SlT.one1 (w : World) (e : TypeId) (a : Int) (b : Nat) (hb : b = w.heap.size) : SlT 1 eI (w.alloc (.cells #[.int .i64 a] e)) (some ⟨b, 0, none⟩) 1 1 [a] := by
  subst hb
  exact SlT.one eI_len w a _ rfl e
theorem SlT.drop {α : Type} {k : Nat} {enc : α → List Value} {w : World} {b off n c : Nat} {l : List α} (h : SlT k enc w (some ⟨b, off, none⟩) n c l) {m : Nat} (hm : m ≤ n) : SlT k enc w (some ⟨b, off + m * k, none⟩) (n - m) (c - m) (l.drop m) := by
  refine ⟨by rw [List.length_drop, h.1], by have := h.2.1; omega, fun h0 => ?_⟩
  obtain ⟨b', off', e, hb, hx⟩ := h.2.2 (by omega)
  injection e with e
  injection e with e1 e2
  subst e1 e2
  refine ⟨b, off + m * k, rfl, hb, fun j x hj i v hv => ?_⟩
  rw [List.getElem?_drop] at hj
  have := hx (m + j) x hj i v hv
  rw [← this]
  congr 2
  rw [Nat.add_mul]
  omega

/-- The slice reads as the list, and its cells lie in a block that meets P. -/
def SlP {α : Type} (P : Nat → Prop) (k : Nat) (enc : α → List Value) (w : World) (A : Option Addr) (n c : Nat) (l : List α) : Prop :=
  SlT k enc w A n c l ∧ (0 < n → ∀ b off, A = some ⟨b, off, none⟩ → P b)
section
variable {α : Type} {P Q : Nat → Prop} {k : Nat} {enc : α → List Value} {w w' : World} {A : Option Addr} {n c : Nat} {l : List α}
theorem SlP.keep (h : SlP P k enc w A n c l) (hs : w.heap.size ≤ w'.heap.size) (hc : ∀ b, b < w.heap.size → P b → w'.heap[b]? = w.heap[b]?) : SlP P k enc w' A n c l := by
  refine ⟨⟨h.1.1, h.1.2.1, fun hn => ?_⟩, h.2⟩
  obtain ⟨b, off, e, hb, hx⟩ := h.1.2.2 hn
  exact ⟨b, off, e, by omega, fun j x hj i v hv => (World.cell?_of_block (a := ⟨b, off + j * k + i, none⟩) (hc b hb (h.2 hn b off e))).trans (hx j x hj i v hv)⟩
theorem SlP.below (h : SlP P k enc w A n c l) (hb : Below w.heap.size w w') : SlP P k enc w' A n c l := h.keep hb.size fun b hlt _ => hb.block b hlt
theorem SlP.grown {g : Nat} (h : SlP P k enc w A n c l) (hg : w.grownBy w' (some g)) (hne : ∀ b, P b → b ≠ g) : SlP P k enc w' A n c l := h.keep hg.size fun b hlt hp => hg.block b hlt (by intro e; injection e with e; exact hne b hp e)
theorem SlP.mono (h : SlP P k enc w A n c l) (hpq : ∀ b, b < w.heap.size → P b → Q b) : SlP Q k enc w A n c l := ⟨h.1, fun hn b off e => by
  obtain ⟨b', off', e', hb, _⟩ := h.1.2.2 hn
  rw [e] at e'
  injection e' with e'
  injection e' with e1 e2
  exact hpq b (by omega) (h.2 hn b off e)⟩
theorem SlP.nil (A : Option Addr) (c : Nat) : SlP P k enc w A 0 c ([] : List α) := ⟨SlT.nil A c, fun h => absurd h (by omega)⟩
theorem SlP.drop {b off : Nat} (h : SlP P k enc w (some ⟨b, off, none⟩) n c l) {m : Nat} (hm : m ≤ n) : SlP P k enc w (some ⟨b, off + m * k, none⟩) (n - m) (c - m) (l.drop m) :=
  ⟨h.1.drop hm, fun h0 b' off' e => by
    injection e with e
    injection e with e1 e2
    exact e1 ▸ h.2 (by omega) b off rfl⟩
theorem SlP.of_own {base e : Nat} (hk : ∀ x, (enc x).length = k) (h : w.ownsRow base e k (.slice A n c) n (l.flatMap enc)) (hl : l.length = n) (hP : ∀ b, base ≤ b → b < w.heap.size → P b) : SlP P k enc w A n c l :=
  ⟨SlT.of_own hk h hl, fun _ b off ea => by
    have := h.lt b (by rw [ea]; rfl)
    exact hP b this.1 this.2⟩
end
/-- slices.Clone at ints: a row of the call's own. -/
theorem cloneI_any (A : Option Addr) (n c : Nat) (l : List Int) (w : World) (hr : SlT 1 eI w A n c l) (hn : n ≤ 1000000) :
    Calls Try.prog 31 #[.slice A n c] w fun e w' => ∃ v, e = .returned v ∧ w'.ownsRow w.heap.size 3 1 v l.length (l.flatMap eI) ∧ Below w.heap.size w w' := by
  have hl := hr.1
  have q := fun (w : World) (a : Option Addr) (n c n' c' : Nat) => Lib.run_eql_slice_nil (P := Try.prog) w _ _ a n c n' c' Try.underlying26
  rcases A with _ | ad
  · have h0 : n = 0 := by
      rcases Nat.eq_zero_or_pos n with h | h
      · exact h
      · obtain ⟨_, _, h, _⟩ := hr.2.2 h
        cases h
    subst h0
    obtain rfl : l = [] := List.eq_nil_of_length_eq_zero hl
    clear hr hl
    go_enter Try.func31, Try.ntmps31
    go_wp2
    go_ret
    exact ⟨_, rfl, World.ownsRow_nil _ _ _ _, Below.refl _ _⟩
  · have HR := Lib.hid hr
    have HL := Lib.hid hl
    clear hr hl
    go_enter Try.func31, Try.ntmps31
    go_wp2_with (at_builtin; refine wpList_append_sl (k := 1) (enc := eI) _ rfl _ _ 26 rfl w.heap.size 3 _ 8 Try.underlying26 info_Int rfl (by decide) eI_len eI_one _ 0 [] rfl (World.ownsRow_made w #[] 0 (Nat.le_refl _) (Nat.zero_le _) rfl) (some ad) n c l rfl (HR.out.alloc _) (by unfold maxLen; omega) (by omega) (by simp) ?_)
    intro v' w1 hown hgrow hat
    go_wp2
    go_ret
    refine ⟨v', rfl, ?_, ?_⟩
    · rw [HL.out]; simpa using hown
    · exact ((Below.refl _ w).alloc (Nat.le_refl _) _).grown hgrow (by simp) (by intro k hk; simp [Value.ownBlock] at hk; omega)
end Go.Proofs.Ytghciaaedjomjaa
