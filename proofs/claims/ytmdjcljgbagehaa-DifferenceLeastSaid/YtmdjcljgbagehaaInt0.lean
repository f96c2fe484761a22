/- Rows of ints; slices whose blocks are known to meet a condition; blocks that lie; an append carried out in a region that draws. -/
import Derived.Test.YtmdjcljgbagehaaProg
import Derived.Test.YtmdjcljgbagehaaOwn
import Derived.Lib.SliceRun
import Derived.Test.YtmdjcljgbagehaaTake
namespace Go.Proofs.Ytmdjcljgbagehaa
open Go.RowKit

def eI (n : Int) : List Value := [.int .i64 n]
theorem eI_len (n : Int) : (eI n).length = 1 := rfl
theorem eI_one (n : Int) : ∀ u ∈ eI n, u.oneCell' = true := by simp [eI, Value.oneCell']
theorem eI_map (l : List Int) : l.flatMap eI = l.map (Value.int .i64) := by
  induction l with
  | nil => rfl
  | cons x l ih => simp [eI, List.flatMap_cons, ih]
theorem info_Int : (Try.prog.info? 3).map (fun i => (i.zero, i.size, i.bytes)) = some (some (.int .i64 0), 1, 8) := by kernel_rfl
theorem SlT.one1 (w : World) (e : TypeId) (a : Int) (b : Nat) (hb : b = w.heap.size) : SlT 1 eI (w.alloc (.cells #[.int .i64 a] e)) (some ⟨b, 0, none⟩) 1 1 [a] := by
  subst hb
  exact SlT.one eI_len w a _ rfl e
theorem SlT.drop {α : Type} {k : Nat} {enc : α → List Value} {w : World} {b off n c : Nat} {l : List α} (h : SlT k enc w (some ⟨b, off, none⟩) n c l) {m : Nat} (hm : m ≤ n) : SlT k enc w (some ⟨b, off + m * k, none⟩) (n - m) (c - m) (l.drop m) := by
  refine ⟨by rw [List.length_drop, h.1], by have := h.2.1; omega, fun h0 => ?_⟩
  obtain ⟨b', off', e, hb, hx⟩ := h.2.2 (by omega)
  injection e with e
  injection e with e1 e2
  subst e1 e2
  refine ⟨b, off + m * k, rfl, hb, fun j x hj i v hv => ?_⟩
  rw [List.getElem?_drop] at hj
  have := hx (m + j) x hj i v hv
  rw [← this]
  congr 2
  rw [Nat.add_mul]
  omega

/-- The slice reads as the list, and its cells lie in a block that meets P. -/
def SlP {α : Type} (P : Nat → Prop) (k : Nat) (enc : α → List Value) (w : World) (A : Option Addr) (n c : Nat) (l : List α) : Prop :=
  SlT k enc w A n c l ∧ (0 < n → ∀ b off, A = some ⟨b, off, none⟩ → P b)
section
variable {α : Type} {P Q : Nat → Prop} {k : Nat} {enc : α → List Value} {w w' : World} {A : Option Addr} {n c : Nat} {l : List α}
theorem SlP.keep (h : SlP P k enc w A n c l) (hs : w.heap.size ≤ w'.heap.size) (hc : ∀ b, b < w.heap.size → P b → w'.heap[b]? = w.heap[b]?) : SlP P k enc w' A n c l := by
  refine ⟨⟨h.1.1, h.1.2.1, fun hn => ?_⟩, h.2⟩
  obtain ⟨b, off, e, hb, hx⟩ := h.1.2.2 hn
  exact ⟨b, off, e, by omega, fun j x hj i v hv => (World.cell?_of_block (a := ⟨b, off + j * k + i, none⟩) (hc b hb (h.2 hn b off e))).trans (hx j x hj i v hv)⟩
theorem SlP.below (h : SlP P k enc w A n c l) (hb : Below w.heap.size w w') : SlP P k enc w' A n c l := h.keep hb.size fun b hlt _ => hb.block b hlt
theorem SlP.grown {g : Nat} (h : SlP P k enc w A n c l) (hg : w.grownBy w' (some g)) (hne : ∀ b, P b → b ≠ g) : SlP P k enc w' A n c l := h.keep hg.size fun b hlt hp => hg.block b hlt (by intro e; injection e with e; exact hne b hp e)
theorem SlP.mono (h : SlP P k enc w A n c l) (hpq : ∀ b, b < w.heap.size → P b → Q b) : SlP Q k enc w A n c l := ⟨h.1, fun hn b off e => by
  obtain ⟨b', off', e', hb, _⟩ := h.1.2.2 hn
  rw [e] at e'
  injection e' with e'
  injection e' with e1 e2
  exact hpq b (by omega) (h.2 hn b off e)⟩
theorem SlP.nil (A : Option Addr) (c : Nat) : SlP P k enc w A 0 c ([] : List α) := ⟨SlT.nil A c, fun h => absurd h (by omega)⟩
theorem SlP.drop {b off : Nat} (h : SlP P k enc w (some ⟨b, off, none⟩) n c l) {m : Nat} (hm : m ≤ n) : SlP P k enc w (some ⟨b, off + m * k, none⟩) (n - m) (c - m) (l.drop m) :=
  ⟨h.1.drop hm, fun h0 b' off' e => by
    injection e with e
    injection e with e1 e2
    exact e1 ▸ h.2 (by omega) b off rfl⟩
theorem SlP.of_own {base e : Nat} (hk : ∀ x, (enc x).length = k) (h : w.ownsRow base e k (.slice A n c) n (l.flatMap enc)) (hl : l.length = n) (hP : ∀ b, base ≤ b → b < w.heap.size → P b) : SlP P k enc w A n c l :=
  ⟨SlT.of_own hk h hl, fun _ b off ea => by
    have := h.lt b (by rw [ea]; rfl)
    exact hP b this.1 this.2⟩
end
theorem slT_block {α : Type} {k : Nat} {enc : α → List Value} (hk : ∀ x, (enc x).length = k) {w : World} {g : Nat} {t : TypeId} {cs : Array Value} {l : List α} {n c : Nat} (hb : Blk w g t cs) (hcs : cs = (l.flatMap enc).toArray) (hl : l.length = n) (hc : n ≤ c) : SlT k enc w (some ⟨g, 0, none⟩) n c l := by
  subst hcs
  refine ⟨hl, hc, fun _ => ⟨g, 0, rfl, hb.lt, fun j x hj i v hv => ?_⟩⟩
  have hi : i < k := by rw [← hk x]; exact (List.getElem?_eq_some_iff.1 hv).1
  rw [Nat.zero_add, hb.cell, List.getElem?_toArray, flat_at hk l j i hi, hj]
  exact hv
theorem Blk.new' (w : World) (g : Nat) (t : TypeId) (cs : Array Value) (hg : g = w.heap.size) : Blk (w.alloc (.cells cs t)) g t cs := by subst hg; exact Blk.new w t cs
theorem Blk.three {w : World} {g : Nat} {t : TypeId} {a b c : Value} (h : Blk w g t #[a, b, c]) : w.cell? ⟨g, 0, none⟩ = some a ∧ w.cell? ⟨g, 1, none⟩ = some b ∧ w.cell? ⟨g, 2, none⟩ = some c ∧ ∀ i, w.frozen? ⟨g, i, none⟩ = false :=
  ⟨h.cell 0, h.cell 1, h.cell 2, h.frozen⟩
theorem step_append_run {P : Program} {ops : Array Oper} {o : Oper} {a : Act} {w : World} {K : Act → World → Prop} {Q : Exit → Act → World → Prop} {E : Prop} (hgd : o.guard = none) (s x : Operand) (t : TypeId)
    (ho : o.op = .call { callee := .builtin .append, args := #[s, x], argTypes := #[t, t] }) {v' : Value} {w' : World} (hrun : (Builtin.append_ #[t, t] o.type #[a.eval s, a.eval x]).run P w = .ok v' w') (h : K (a.put o.dst v') w') :
    if Region.wanted o (yielded ops a.tmps) = true then Oper.wp P o a w K Q else E := by
  have hw : Region.wanted o (yielded ops a.tmps) = true := by simp [Region.wanted, hgd]
  rw [if_pos hw]
  unfold Oper.wp execOp
  simp only [ho, resolve, invoke, builtin, Sem.run_bind, Sem.run_pure, Result.andThen_ok, List.map_toArray, List.map_cons, List.map_nil, hrun]
  exact h
theorem own_kept {w w' : World} {base : Nat} {e : TypeId} {size : Nat} {v : Value} {n : Nat} {xs : List Value} (h : w.ownsRow base e size v n xs) (ht : ∀ i, i < w.heap.size → base ≤ i → w'.heap[i]? = w.heap[i]?) : w'.ownsRow base e size v n xs := by
  rcases h with ⟨h1, h2 | ⟨g, cap, cur, h3, h4, h5, h6⟩⟩
  · exact ⟨h1, .inl h2⟩
  · exact ⟨h1, .inr ⟨g, cap, cur, h3, h4, (ht g (Array.getElem?_eq_some_iff.1 h5).1 h4).trans h5, h6⟩⟩
end Go.Proofs.Ytmdjcljgbagehaa
